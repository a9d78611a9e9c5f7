/- What the row of GapsBack rests on, part 4 of 5: functions, contracts, plain laws. -/
import Derived.Test.YtnpghcikhpglkaaCGapsBack2
namespace Go.Proofs.Ytnpghcikhpglkaa.Q
open Go.RowKit Go.Proofs.YtnpghcikhpglkaaW.PrintWords Go.Proofs.YtnpghcikhpglkaaW.PrintLast Go.Proofs.YtnpghcikhpglkaaW.PrintMore
attribute [local go_sem] max2_int min2_int max_two min_two max_three min_three max_four min_four   -- for this text's walks alone
set_option linter.unusedVariables false
set_option linter.unusedSimpArgs false

/-! ### herbariumlaw3_wakes: function 76 -/
def herbariumlaw3_wakes.f (k : Nat)  : Option (Bool) := (gaps_Put.f (⟨#[]⟩ : ByteArray) 0 0 ([] : List Int)).bind fun bt1007 => ((gaps_Take.f k bt1007.1 bt1007.2.1 0 0).bind fun bt1011 => ((gaps_Size.f 2 (([2, 3] : List Int))).bind fun bt1019 => ((herbariumlaw3_num.f bt1007.2.2).bind fun t1021 => (if t1021 = 0 then ((herbariumlaw3_num.f bt1011.2.2).bind fun t1022 => (if t1022 = 0 then ((herbariumlaw3_num.f bt1019.2).bind fun t1023 => (if t1023 = 0 then (if bt1007.2.1 = 1 then (if (bt1011.1.length : Int) = 0 then (if bt1011.2.1 = 1 then (some (bt1019.1 == 5)) else (some false)) else (some false)) else (some false)) else (some false))) else (some false))) else (some false)))))
theorem herbariumlaw3_wakes.mono : ∀ k, LeO (herbariumlaw3_wakes.f k ) (herbariumlaw3_wakes.f (k + 1) ) := by
 intro  k
 unfold herbariumlaw3_wakes.f
 repeat' first
   | (with_reducible exact gaps_Take.mono _ _ _ _ _)
   | (with_reducible exact LeO.refl _)
   | (with_reducible exact LeO.none _)
   | (with_reducible refine LeO.ite ?_ ?_)
   | (with_reducible refine LeO.bind ?_ (fun _ => ?_))
   | exact gaps_Take.mono _ _ _ _ _
   | exact LeO.none _
   | refine LeO.ite ?_ ?_
   | refine LeO.bind ?_ (fun _ => ?_)
set_option maxHeartbeats 8000000 in
set_option maxRecDepth 100000 in
theorem herbariumlaw3_wakes.calls (k : Nat)  (r : Bool) (w : World) (h : herbariumlaw3_wakes.f k  = some r) :
  Calls Try.prog 76 #[] w fun e w' => e = .returned (.bool r) ∧ Below w.heap.size w w' := by
 have hu27 := Try.underlying27
 have HB := Aside0.mk (Below.refl w.heap.size w)
 have H : ((gaps_Put.f (⟨#[]⟩ : ByteArray) 0 0 ([] : List Int)).bind fun bt1007 => ((gaps_Take.f k bt1007.1 bt1007.2.1 0 0).bind fun bt1011 => ((gaps_Size.f 2 (([2, 3] : List Int))).bind fun bt1019 => ((herbariumlaw3_num.f bt1007.2.2).bind fun t1021 => (if t1021 = 0 then ((herbariumlaw3_num.f bt1011.2.2).bind fun t1022 => (if t1022 = 0 then ((herbariumlaw3_num.f bt1019.2).bind fun t1023 => (if t1023 = 0 then (if bt1007.2.1 = 1 then (if (bt1011.1.length : Int) = 0 then (if bt1011.2.1 = 1 then (some (bt1019.1 == 5)) else (some false)) else (some false)) else (some false)) else (some false))) else (some false))) else (some false)))))) = some r := h
 clear h
 replace H := Option.bind_eq_some_iff.mp H
 obtain ⟨⟨t1007, t1008, t1009⟩, A10, H⟩ := H
 replace H : ((gaps_Take.f k t1007 t1008 0 0).bind fun bt1011 => ((gaps_Size.f 2 (([2, 3] : List Int))).bind fun bt1019 => ((herbariumlaw3_num.f t1009).bind fun t1021 => (if t1021 = 0 then ((herbariumlaw3_num.f bt1011.2.2).bind fun t1022 => (if t1022 = 0 then ((herbariumlaw3_num.f bt1019.2).bind fun t1023 => (if t1023 = 0 then (if t1008 = 1 then (if (bt1011.1.length : Int) = 0 then (if bt1011.2.1 = 1 then (some (bt1019.1 == 5)) else (some false)) else (some false)) else (some false)) else (some false))) else (some false))) else (some false))))) = some r := H
 have A1 := Aside0.mk A10
 clear A10
 replace H := Option.bind_eq_some_iff.mp H
 obtain ⟨⟨t1011, t1014, t1015⟩, A20, H⟩ := H
 replace H : ((gaps_Size.f 2 (([2, 3] : List Int))).bind fun bt1019 => ((herbariumlaw3_num.f t1009).bind fun t1021 => (if t1021 = 0 then ((herbariumlaw3_num.f t1015).bind fun t1022 => (if t1022 = 0 then ((herbariumlaw3_num.f bt1019.2).bind fun t1023 => (if t1023 = 0 then (if t1008 = 1 then (if (t1011.length : Int) = 0 then (if t1014 = 1 then (some (bt1019.1 == 5)) else (some false)) else (some false)) else (some false)) else (some false))) else (some false))) else (some false)))) = some r := H
 have A2 := Aside0.mk A20
 clear A20
 obtain ⟨y1016, hy1016⟩ : ∃ y_ : List Int, y_ = (([2, 3] : List Int)) := ⟨_, rfl⟩
 replace H : ((gaps_Size.f 2 y1016).bind fun bt1019 => ((herbariumlaw3_num.f t1009).bind fun t1021 => (if t1021 = 0 then ((herbariumlaw3_num.f t1015).bind fun t1022 => (if t1022 = 0 then ((herbariumlaw3_num.f bt1019.2).bind fun t1023 => (if t1023 = 0 then (if t1008 = 1 then (if (t1011.length : Int) = 0 then (if t1014 = 1 then (some (bt1019.1 == 5)) else (some false)) else (some false)) else (some false)) else (some false))) else (some false))) else (some false)))) = some r := by first | (rw [hy1016]; with_reducible exact H) | (have H2_ := (Option.bind_some _ _).symm.trans H; rw [hy1016]; with_reducible exact H2_) | (have H2_ := (Option.bind_some _ _).symm.trans H; with_reducible exact H2_) | with_reducible exact H | (rw [hy1016]; exact H) | exact H
 have Ny1016 := Aside0.mk hy1016
 clear hy1016
 replace H := Option.bind_eq_some_iff.mp H
 obtain ⟨⟨t1019, t1020⟩, A30, H⟩ := H
 replace H : ((herbariumlaw3_num.f t1009).bind fun t1021 => (if t1021 = 0 then ((herbariumlaw3_num.f t1015).bind fun t1022 => (if t1022 = 0 then ((herbariumlaw3_num.f t1020).bind fun t1023 => (if t1023 = 0 then (if t1008 = 1 then (if (t1011.length : Int) = 0 then (if t1014 = 1 then (some (t1019 == 5)) else (some false)) else (some false)) else (some false)) else (some false))) else (some false))) else (some false))) = some r := H
 have A3 := Aside0.mk A30
 clear A30
 replace H := Option.bind_eq_some_iff.mp H
 obtain ⟨t1021, A40, H⟩ := H
 replace H : (if t1021 = 0 then ((herbariumlaw3_num.f t1015).bind fun t1022 => (if t1022 = 0 then ((herbariumlaw3_num.f t1020).bind fun t1023 => (if t1023 = 0 then (if t1008 = 1 then (if (t1011.length : Int) = 0 then (if t1014 = 1 then (some (t1019 == 5)) else (some false)) else (some false)) else (some false)) else (some false))) else (some false))) else (some false)) = some r := H
 have A4 := Aside0.mk A40
 clear A40
 by_cases c5 : t1021 = 0
 ·
  rw [if_pos c5] at H
  have c5b0 : (t1021 == 0) = true := beq_iff_eq.mpr c5
  have c5b1 : (t1021 != 0) = false := bne_eq_false_iff_eq.mpr c5
  clear c5
  replace H := Option.bind_eq_some_iff.mp H
  obtain ⟨t1022, A60, H⟩ := H
  replace H : (if t1022 = 0 then ((herbariumlaw3_num.f t1020).bind fun t1023 => (if t1023 = 0 then (if t1008 = 1 then (if (t1011.length : Int) = 0 then (if t1014 = 1 then (some (t1019 == 5)) else (some false)) else (some false)) else (some false)) else (some false))) else (some false)) = some r := H
  have A6 := Aside0.mk A60
  clear A60
  by_cases c7 : t1022 = 0
  ·
   rw [if_pos c7] at H
   have c7b0 : (t1022 == 0) = true := beq_iff_eq.mpr c7
   have c7b1 : (t1022 != 0) = false := bne_eq_false_iff_eq.mpr c7
   clear c7
   replace H := Option.bind_eq_some_iff.mp H
   obtain ⟨t1023, A80, H⟩ := H
   replace H : (if t1023 = 0 then (if t1008 = 1 then (if (t1011.length : Int) = 0 then (if t1014 = 1 then (some (t1019 == 5)) else (some false)) else (some false)) else (some false)) else (some false)) = some r := H
   have A8 := Aside0.mk A80
   clear A80
   by_cases c9 : t1023 = 0
   ·
    rw [if_pos c9] at H
    have c9b0 : (t1023 == 0) = true := beq_iff_eq.mpr c9
    have c9b1 : (t1023 != 0) = false := bne_eq_false_iff_eq.mpr c9
    clear c9
    by_cases c10 : t1008 = 1
    ·
     rw [if_pos c10] at H
     have c10b0 : (t1008 == 1) = true := beq_iff_eq.mpr c10
     have c10b1 : (t1008 != 1) = false := bne_eq_false_iff_eq.mpr c10
     clear c10
     by_cases c11 : (t1011.length : Int) = 0
     ·
      rw [if_pos c11] at H
      have c11b0 : ((t1011.length : Int) == 0) = true := beq_iff_eq.mpr c11
      have c11b1 : ((t1011.length : Int) != 0) = false := bne_eq_false_iff_eq.mpr c11
      clear c11
      by_cases c12 : t1014 = 1
      ·
       rw [if_pos c12] at H
       have c12b0 : (t1014 == 1) = true := beq_iff_eq.mpr c12
       have c12b1 : (t1014 != 1) = false := bne_eq_false_iff_eq.mpr c12
       clear c12
       obtain rfl := Option.some.inj H
       go_enter Try.func76, Try.ntmps76
       go_wp2_with (first | ((with_reducible refine gate_callee (f := 71) rfl ?_); refine goesL_ (some 10) rfl rfl Try.func71 (by kernel_rfl) rfl #[.agg #[.string (⟨#[]⟩ : ByteArray), .int .i64 0], .int .i64 0, .slice none 0 0] rfl (by (try simp only [List.map_toArray, List.map_cons, List.map_nil]); first | done | rfl | (simp only [List.length_drop, List.length_take]; rfl)) ?_; (refine (gaps_Put.calls (⟨#[]⟩ : ByteArray) 0 0 _ _ ([] : List Int) t1007 t1008 t1009 _ ?side1 ?side2 A1.out).mono ?_); (case side1 => exact Kd.C_nil _ _); (case side2 => exact Nat.le_refl _); rintro e w13 ⟨rfl, hb⟩; refine ⟨_, rfl, ?_⟩; have n0_ := Aside0.mk (below_step (by repeat (first | (with_reducible first | exact HB.out | apply below_alloc | apply pw_below_drewN | apply below_drew1) | exact HB.out)) hb); clear HB; have HB := n0_; clear n0_; (try clear hb); (try clear hb2); (try clear hk); (try clear hi)) | ((with_reducible refine gate_dst (N := 1) rfl ?_); (try (refine gate_guard (by rfl) ?_; dsimp only)); refine box_event ?hg (N := 1) ?hd (cs := #[.string (⟨#[]⟩ : ByteArray), .int .i64 0]) (t := 27) ?hr ?_; (case hd => rfl); (case hg => rfl); (case hr => first | (go_simp; done) | (go_simp; rfl)); intro gb1010 hg w14 hbox hb; have n0_ := Aside0.mk (below_step (by repeat (first | (with_reducible first | exact HB.out | apply below_alloc | apply pw_below_drewN | apply below_drew1) | exact HB.out)) hb); have n1_ := Aside0.mk (hbox); have n2_ := Aside0.mk ((by rw [hg]; exact (below_size (by repeat (first | (with_reducible first | exact HB.out | apply below_alloc | apply pw_below_drewN | apply below_drew1) | exact HB.out))) : w.heap.size ≤ gb1010)); have n3_ := Aside0.mk ((by rw [hg]; exact (below_size (by repeat (first | (with_reducible first | exact HB.out | apply below_alloc | apply pw_below_drewN | apply below_drew1) | exact HB.out))) : w.heap.size ≤ gb1010)); clear HB; have HB := n0_; have BK1010 := n1_; have GW1010 := n2_; have GE1010 := n3_; clear n0_ n1_ n2_ n3_; clear hb hbox hg; have hcz15_0 : w14.cell? ⟨gb1010, 0, none⟩ = some (.string (⟨#[]⟩ : ByteArray)) := (blk_cell BK1010.out 0).trans rfl; have hcz15_1 : w14.cell? ⟨gb1010, 1, none⟩ = some (.int .i64 0) := (blk_cell BK1010.out 1).trans rfl; have hfz15_0 := blk_frozen BK1010.out 0; have hfz15_1 := blk_frozen BK1010.out 1) | ((with_reducible refine gate_callee (f := 73) rfl ?_); refine goesL_ (some 15) rfl rfl Try.func73 (by kernel_rfl) rfl #[.agg #[.string t1007, .int .i64 t1008], .int .i64 0, .int .i64 0] rfl (by (try simp only [List.map_toArray, List.map_cons, List.map_nil]); first | done | rfl | (simp only [List.length_drop, List.length_take]; rfl)) ?_; (with_reducible refine (gaps_Take.calls k t1007 t1008 0 0 t1011 t1014 t1015 _ A2.out).mono ?_); rintro e w16 ⟨v1012, rfl, ho0, hb⟩; refine ⟨_, rfl, ?_⟩; have n0_ := Aside0.mk (Kd.R_lower ho0 (below_size (by repeat (first | (with_reducible first | exact HB.out | apply below_alloc | apply pw_below_drewN | apply below_drew1 | refine below_set ?_ GE1010.out) | exact HB.out)))); have n1_ := Aside0.mk (blk_below (g := gb1010) (o := .cells #[.string t1007, .int .i64 t1008] 27 (0, 0)) (by (with_reducible repeat (first | refine blk_drewN ?_ _ | refine blk_drew ?_ | refine blk_alloc ?_ _)); refine blk_put (cs := #[.string t1007, .int .i64 0]) ?_ 1 _ rfl; (with_reducible repeat (first | refine blk_drewN ?_ _ | refine blk_drew ?_ | refine blk_alloc ?_ _)); refine blk_put (cs := #[.string (⟨#[]⟩ : ByteArray), .int .i64 0]) ?_ 0 _ rfl; (with_reducible repeat (first | refine blk_drewN ?_ _ | refine blk_drew ?_ | refine blk_alloc ?_ _)); exact BK1010.out) hb); have n2_ := Aside0.mk (below_step (by repeat (first | (with_reducible first | exact HB.out | apply below_alloc | apply pw_below_drewN | apply below_drew1 | refine below_set ?_ GE1010.out) | exact HB.out)) hb); clear BK1010; clear HB; have HO1013 := n0_; have BK1010 := n1_; have HB := n2_; clear n0_ n1_ n2_; (try clear hb); (try clear hb2); (try clear hk); (try clear hi); (try clear ho0)) | ((with_reducible refine gate_dst (N := 20) rfl ?_); (try (refine gate_guard (by rfl) ?_; dsimp only)); refine Kd.R_lit (Kd.int .i64) _ 3 ?hg (N := 20) ?hd (xs := ([2, 3] : List Int)) (inner := [.int .i64 2, .int .i64 3]) (ok := fun _ => True) (okp := fun _ => True) ?hr ?hp (fun _ hk => hk) trivial (Below.refl _ _) (Nat.le_refl _) (by simp) ?_; (case hd => rfl); (case hg => rfl); (case hr => first | (go_simp; done) | (go_simp; rfl)); (case hp => exact (Reps.one (show Kd.M (Kd.int .i64) _ _ _ 2 [.int .i64 2] from rfl) (Reps.one (show Kd.M (Kd.int .i64) _ _ _ 3 [.int .i64 3] from rfl) (Reps.none _ _)))); intro v1017 w17 ho18 hb hg_ hnew_; clear hg_ hnew_; (first | rw [← Ny1016.out] at ho18 | (simp only [Int.reduceToNat] at ho18; rw [← Ny1016.out] at ho18)); have n0_ := Aside0.mk (Kd.R_elder' (by (with_reducible repeat (first | apply Kd.R_alloc | apply Kd.R_drewN | apply Kd.R_drew)); exact HO1013.out) (Kd.R_base ho18) hb); have n1_ := Aside0.mk (Kd.R_lower (Kd.R_new' ho18 (Kd.R_lt (by (with_reducible repeat (first | apply Kd.R_alloc | apply Kd.R_drewN | apply Kd.R_drew)); exact HO1013.out))) (below_size (by repeat (first | (with_reducible first | exact HB.out | apply below_alloc | apply pw_below_drewN | apply below_drew1 | refine below_set ?_ GE1010.out) | exact HB.out)))); have n2_ := Aside0.mk (blk_below (g := gb1010) (o := .cells #[.string t1007, .int .i64 t1008] 27 (0, 0)) (by (with_reducible repeat (first | refine blk_drewN ?_ _ | refine blk_drew ?_ | refine blk_alloc ?_ _)); exact BK1010.out) hb); have n3_ := Aside0.mk (below_step (by repeat (first | (with_reducible first | exact HB.out | apply below_alloc | apply pw_below_drewN | apply below_drew1 | refine below_set ?_ GE1010.out) | exact HB.out)) hb); clear HO1013; clear BK1010; clear HB; have HO1013 := n0_; have HO1018 := n1_; have BK1010 := n2_; have HB := n3_; clear n0_ n1_ n2_ n3_; clear hb ho18; obtain ⟨Ao19, co19, eo19⟩ := Kd.R_slice HO1018.out; subst eo19) | ((with_reducible refine gate_callee (f := 74) rfl ?_); refine goesL_ (some 21) rfl rfl Try.func74 (by kernel_rfl) rfl #[.int .i64 2, .slice Ao19 y1016.length co19] rfl (by (try simp only [List.map_toArray, List.map_cons, List.map_nil]); first | done | rfl | (simp only [List.length_drop, List.length_take]; rfl)) ?_; (with_reducible refine (gaps_Size.calls 2 _ _ y1016 t1019 t1020 _ ?side1 ?side2 A3.out).mono ?_); (case side1 => repeat (first | exact (Kd.R_reads' HO1018.out).2.2 | (with_reducible refine Kd.C_alloc ?_ _) | (with_reducible refine Kd.C_drewN ?_ _) | (with_reducible refine Kd.C_drew ?_))); (case side2 => exact (Kd.R_reads' HO1018.out).2.1); rintro e w20 ⟨rfl, hb⟩; refine ⟨_, rfl, ?_⟩; have n0_ := Aside0.mk (Kd.R_below (by (with_reducible repeat (first | apply Kd.R_alloc | apply Kd.R_drewN | apply Kd.R_drew)); exact HO1013.out) hb); have n1_ := Aside0.mk (Kd.R_below (by (with_reducible repeat (first | apply Kd.R_alloc | apply Kd.R_drewN | apply Kd.R_drew)); exact HO1018.out) hb); have n2_ := Aside0.mk (blk_below (g := gb1010) (o := .cells #[.string t1007, .int .i64 t1008] 27 (0, 0)) (by (with_reducible repeat (first | refine blk_drewN ?_ _ | refine blk_drew ?_ | refine blk_alloc ?_ _)); exact BK1010.out) hb); have n3_ := Aside0.mk (below_step (by repeat (first | (with_reducible first | exact HB.out | apply below_alloc | apply pw_below_drewN | apply below_drew1 | refine below_set ?_ GE1010.out) | exact HB.out)) hb); clear HO1013; clear HO1018; clear BK1010; clear HB; have HO1013 := n0_; have HO1018 := n1_; have BK1010 := n2_; have HB := n3_; clear n0_ n1_ n2_ n3_; (try clear hb); (try clear hb2); (try clear hk); (try clear hi)) | ((with_reducible refine gate_callee (f := 72) rfl ?_); refine goesL_ (some 25) rfl rfl Try.func72 (by kernel_rfl) rfl #[.int .i64 t1009] rfl (by (try simp only [List.map_toArray, List.map_cons, List.map_nil]); first | done | rfl | (simp only [List.length_drop, List.length_take]; rfl)) ?_; (with_reducible refine (herbariumlaw3_num.calls t1009 t1021 _ A4.out).mono ?_); rintro e w' ⟨rfl, ⟨nd, rfl⟩⟩; refine ⟨_, rfl, ?_⟩) | (go_at_call 72; (with_reducible refine (herbariumlaw3_num.calls t1015 t1022 _ A6.out).mono ?_); rintro e w' ⟨rfl, ⟨nd, rfl⟩⟩) | (go_at_call 72; (with_reducible refine (herbariumlaw3_num.calls t1020 t1023 _ A8.out).mono ?_); rintro e w' ⟨rfl, ⟨nd, rfl⟩⟩; have hcz21_0 : w20.cell? ⟨gb1010, 0, none⟩ = some (.string t1007) := (blk_cell BK1010.out 0).trans rfl; have hcz21_1 : w20.cell? ⟨gb1010, 1, none⟩ = some (.int .i64 t1008) := (blk_cell BK1010.out 1).trans rfl; have hfz21_0 := blk_frozen BK1010.out 0; have hfz21_1 := blk_frozen BK1010.out 1; obtain ⟨Ao22, co22, eo22⟩ := Kd.R_slice HO1013.out; subst eo22))
       go_ret
       exact ⟨by first | rfl | (simp [errW_none, errW_some] <;> rfl) | (simp [*, errW_none, errW_some] <;> rfl), by repeat (first | (with_reducible first | exact HB.out | apply below_alloc | apply pw_below_drewN | apply below_drew1 | refine below_set ?_ GE1010.out) | exact HB.out)⟩
      ·
       rw [if_neg c12] at H
       have c12b0 : (t1014 == 1) = false := beq_eq_false_iff_ne.mpr c12
       have c12b1 : (t1014 != 1) = true := bne_iff_ne.mpr c12
       obtain rfl := Option.some.inj H
       go_enter Try.func76, Try.ntmps76
       go_wp2_with (first | ((with_reducible refine gate_callee (f := 71) rfl ?_); refine goesL_ (some 10) rfl rfl Try.func71 (by kernel_rfl) rfl #[.agg #[.string (⟨#[]⟩ : ByteArray), .int .i64 0], .int .i64 0, .slice none 0 0] rfl (by (try simp only [List.map_toArray, List.map_cons, List.map_nil]); first | done | rfl | (simp only [List.length_drop, List.length_take]; rfl)) ?_; (refine (gaps_Put.calls (⟨#[]⟩ : ByteArray) 0 0 _ _ ([] : List Int) t1007 t1008 t1009 _ ?side1 ?side2 A1.out).mono ?_); (case side1 => exact Kd.C_nil _ _); (case side2 => exact Nat.le_refl _); rintro e w23 ⟨rfl, hb⟩; refine ⟨_, rfl, ?_⟩; have n0_ := Aside0.mk (below_step (by repeat (first | (with_reducible first | exact HB.out | apply below_alloc | apply pw_below_drewN | apply below_drew1) | exact HB.out)) hb); clear HB; have HB := n0_; clear n0_; (try clear hb); (try clear hb2); (try clear hk); (try clear hi)) | ((with_reducible refine gate_dst (N := 1) rfl ?_); (try (refine gate_guard (by rfl) ?_; dsimp only)); refine box_event ?hg (N := 1) ?hd (cs := #[.string (⟨#[]⟩ : ByteArray), .int .i64 0]) (t := 27) ?hr ?_; (case hd => rfl); (case hg => rfl); (case hr => first | (go_simp; done) | (go_simp; rfl)); intro gb1010 hg w24 hbox hb; have n0_ := Aside0.mk (below_step (by repeat (first | (with_reducible first | exact HB.out | apply below_alloc | apply pw_below_drewN | apply below_drew1) | exact HB.out)) hb); have n1_ := Aside0.mk (hbox); have n2_ := Aside0.mk ((by rw [hg]; exact (below_size (by repeat (first | (with_reducible first | exact HB.out | apply below_alloc | apply pw_below_drewN | apply below_drew1) | exact HB.out))) : w.heap.size ≤ gb1010)); have n3_ := Aside0.mk ((by rw [hg]; exact (below_size (by repeat (first | (with_reducible first | exact HB.out | apply below_alloc | apply pw_below_drewN | apply below_drew1) | exact HB.out))) : w.heap.size ≤ gb1010)); clear HB; have HB := n0_; have BK1010 := n1_; have GW1010 := n2_; have GE1010 := n3_; clear n0_ n1_ n2_ n3_; clear hb hbox hg; have hcz25_0 : w24.cell? ⟨gb1010, 0, none⟩ = some (.string (⟨#[]⟩ : ByteArray)) := (blk_cell BK1010.out 0).trans rfl; have hcz25_1 : w24.cell? ⟨gb1010, 1, none⟩ = some (.int .i64 0) := (blk_cell BK1010.out 1).trans rfl; have hfz25_0 := blk_frozen BK1010.out 0; have hfz25_1 := blk_frozen BK1010.out 1) | ((with_reducible refine gate_callee (f := 73) rfl ?_); refine goesL_ (some 15) rfl rfl Try.func73 (by kernel_rfl) rfl #[.agg #[.string t1007, .int .i64 t1008], .int .i64 0, .int .i64 0] rfl (by (try simp only [List.map_toArray, List.map_cons, List.map_nil]); first | done | rfl | (simp only [List.length_drop, List.length_take]; rfl)) ?_; (with_reducible refine (gaps_Take.calls k t1007 t1008 0 0 t1011 t1014 t1015 _ A2.out).mono ?_); rintro e w26 ⟨v1012, rfl, ho0, hb⟩; refine ⟨_, rfl, ?_⟩; have n0_ := Aside0.mk (Kd.R_lower ho0 (below_size (by repeat (first | (with_reducible first | exact HB.out | apply below_alloc | apply pw_below_drewN | apply below_drew1 | refine below_set ?_ GE1010.out) | exact HB.out)))); have n1_ := Aside0.mk (blk_below (g := gb1010) (o := .cells #[.string t1007, .int .i64 t1008] 27 (0, 0)) (by (with_reducible repeat (first | refine blk_drewN ?_ _ | refine blk_drew ?_ | refine blk_alloc ?_ _)); refine blk_put (cs := #[.string t1007, .int .i64 0]) ?_ 1 _ rfl; (with_reducible repeat (first | refine blk_drewN ?_ _ | refine blk_drew ?_ | refine blk_alloc ?_ _)); refine blk_put (cs := #[.string (⟨#[]⟩ : ByteArray), .int .i64 0]) ?_ 0 _ rfl; (with_reducible repeat (first | refine blk_drewN ?_ _ | refine blk_drew ?_ | refine blk_alloc ?_ _)); exact BK1010.out) hb); have n2_ := Aside0.mk (below_step (by repeat (first | (with_reducible first | exact HB.out | apply below_alloc | apply pw_below_drewN | apply below_drew1 | refine below_set ?_ GE1010.out) | exact HB.out)) hb); clear BK1010; clear HB; have HO1013 := n0_; have BK1010 := n1_; have HB := n2_; clear n0_ n1_ n2_; (try clear hb); (try clear hb2); (try clear hk); (try clear hi); (try clear ho0)) | ((with_reducible refine gate_dst (N := 20) rfl ?_); (try (refine gate_guard (by rfl) ?_; dsimp only)); refine Kd.R_lit (Kd.int .i64) _ 3 ?hg (N := 20) ?hd (xs := ([2, 3] : List Int)) (inner := [.int .i64 2, .int .i64 3]) (ok := fun _ => True) (okp := fun _ => True) ?hr ?hp (fun _ hk => hk) trivial (Below.refl _ _) (Nat.le_refl _) (by simp) ?_; (case hd => rfl); (case hg => rfl); (case hr => first | (go_simp; done) | (go_simp; rfl)); (case hp => exact (Reps.one (show Kd.M (Kd.int .i64) _ _ _ 2 [.int .i64 2] from rfl) (Reps.one (show Kd.M (Kd.int .i64) _ _ _ 3 [.int .i64 3] from rfl) (Reps.none _ _)))); intro v1017 w27 ho28 hb hg_ hnew_; clear hg_ hnew_; (first | rw [← Ny1016.out] at ho28 | (simp only [Int.reduceToNat] at ho28; rw [← Ny1016.out] at ho28)); have n0_ := Aside0.mk (Kd.R_elder' (by (with_reducible repeat (first | apply Kd.R_alloc | apply Kd.R_drewN | apply Kd.R_drew)); exact HO1013.out) (Kd.R_base ho28) hb); have n1_ := Aside0.mk (Kd.R_lower (Kd.R_new' ho28 (Kd.R_lt (by (with_reducible repeat (first | apply Kd.R_alloc | apply Kd.R_drewN | apply Kd.R_drew)); exact HO1013.out))) (below_size (by repeat (first | (with_reducible first | exact HB.out | apply below_alloc | apply pw_below_drewN | apply below_drew1 | refine below_set ?_ GE1010.out) | exact HB.out)))); have n2_ := Aside0.mk (blk_below (g := gb1010) (o := .cells #[.string t1007, .int .i64 t1008] 27 (0, 0)) (by (with_reducible repeat (first | refine blk_drewN ?_ _ | refine blk_drew ?_ | refine blk_alloc ?_ _)); exact BK1010.out) hb); have n3_ := Aside0.mk (below_step (by repeat (first | (with_reducible first | exact HB.out | apply below_alloc | apply pw_below_drewN | apply below_drew1 | refine below_set ?_ GE1010.out) | exact HB.out)) hb); clear HO1013; clear BK1010; clear HB; have HO1013 := n0_; have HO1018 := n1_; have BK1010 := n2_; have HB := n3_; clear n0_ n1_ n2_ n3_; clear hb ho28; obtain ⟨Ao29, co29, eo29⟩ := Kd.R_slice HO1018.out; subst eo29) | ((with_reducible refine gate_callee (f := 74) rfl ?_); refine goesL_ (some 21) rfl rfl Try.func74 (by kernel_rfl) rfl #[.int .i64 2, .slice Ao29 y1016.length co29] rfl (by (try simp only [List.map_toArray, List.map_cons, List.map_nil]); first | done | rfl | (simp only [List.length_drop, List.length_take]; rfl)) ?_; (with_reducible refine (gaps_Size.calls 2 _ _ y1016 t1019 t1020 _ ?side1 ?side2 A3.out).mono ?_); (case side1 => repeat (first | exact (Kd.R_reads' HO1018.out).2.2 | (with_reducible refine Kd.C_alloc ?_ _) | (with_reducible refine Kd.C_drewN ?_ _) | (with_reducible refine Kd.C_drew ?_))); (case side2 => exact (Kd.R_reads' HO1018.out).2.1); rintro e w30 ⟨rfl, hb⟩; refine ⟨_, rfl, ?_⟩; have n0_ := Aside0.mk (Kd.R_below (by (with_reducible repeat (first | apply Kd.R_alloc | apply Kd.R_drewN | apply Kd.R_drew)); exact HO1013.out) hb); have n1_ := Aside0.mk (Kd.R_below (by (with_reducible repeat (first | apply Kd.R_alloc | apply Kd.R_drewN | apply Kd.R_drew)); exact HO1018.out) hb); have n2_ := Aside0.mk (blk_below (g := gb1010) (o := .cells #[.string t1007, .int .i64 t1008] 27 (0, 0)) (by (with_reducible repeat (first | refine blk_drewN ?_ _ | refine blk_drew ?_ | refine blk_alloc ?_ _)); exact BK1010.out) hb); have n3_ := Aside0.mk (below_step (by repeat (first | (with_reducible first | exact HB.out | apply below_alloc | apply pw_below_drewN | apply below_drew1 | refine below_set ?_ GE1010.out) | exact HB.out)) hb); clear HO1013; clear HO1018; clear BK1010; clear HB; have HO1013 := n0_; have HO1018 := n1_; have BK1010 := n2_; have HB := n3_; clear n0_ n1_ n2_ n3_; (try clear hb); (try clear hb2); (try clear hk); (try clear hi)) | ((with_reducible refine gate_callee (f := 72) rfl ?_); refine goesL_ (some 25) rfl rfl Try.func72 (by kernel_rfl) rfl #[.int .i64 t1009] rfl (by (try simp only [List.map_toArray, List.map_cons, List.map_nil]); first | done | rfl | (simp only [List.length_drop, List.length_take]; rfl)) ?_; (with_reducible refine (herbariumlaw3_num.calls t1009 t1021 _ A4.out).mono ?_); rintro e w' ⟨rfl, ⟨nd, rfl⟩⟩; refine ⟨_, rfl, ?_⟩) | (go_at_call 72; (with_reducible refine (herbariumlaw3_num.calls t1015 t1022 _ A6.out).mono ?_); rintro e w' ⟨rfl, ⟨nd, rfl⟩⟩) | (go_at_call 72; (with_reducible refine (herbariumlaw3_num.calls t1020 t1023 _ A8.out).mono ?_); rintro e w' ⟨rfl, ⟨nd, rfl⟩⟩; have hcz31_0 : w30.cell? ⟨gb1010, 0, none⟩ = some (.string t1007) := (blk_cell BK1010.out 0).trans rfl; have hcz31_1 : w30.cell? ⟨gb1010, 1, none⟩ = some (.int .i64 t1008) := (blk_cell BK1010.out 1).trans rfl; have hfz31_0 := blk_frozen BK1010.out 0; have hfz31_1 := blk_frozen BK1010.out 1; obtain ⟨Ao32, co32, eo32⟩ := Kd.R_slice HO1013.out; subst eo32))
       go_ret
       exact ⟨by first | rfl | (simp [errW_none, errW_some] <;> rfl) | (simp [*, errW_none, errW_some] <;> rfl), by repeat (first | (with_reducible first | exact HB.out | apply below_alloc | apply pw_below_drewN | apply below_drew1 | refine below_set ?_ GE1010.out) | exact HB.out)⟩
     ·
      rw [if_neg c11] at H
      have c11b0 : ((t1011.length : Int) == 0) = false := beq_eq_false_iff_ne.mpr c11
      have c11b1 : ((t1011.length : Int) != 0) = true := bne_iff_ne.mpr c11
      have c11b2 : ¬ (t1011 = []) := fun h_ => c11 (by rw [h_]; rfl)
      obtain rfl := Option.some.inj H
      go_enter Try.func76, Try.ntmps76
      go_wp2_with (first | ((with_reducible refine gate_callee (f := 71) rfl ?_); refine goesL_ (some 10) rfl rfl Try.func71 (by kernel_rfl) rfl #[.agg #[.string (⟨#[]⟩ : ByteArray), .int .i64 0], .int .i64 0, .slice none 0 0] rfl (by (try simp only [List.map_toArray, List.map_cons, List.map_nil]); first | done | rfl | (simp only [List.length_drop, List.length_take]; rfl)) ?_; (refine (gaps_Put.calls (⟨#[]⟩ : ByteArray) 0 0 _ _ ([] : List Int) t1007 t1008 t1009 _ ?side1 ?side2 A1.out).mono ?_); (case side1 => exact Kd.C_nil _ _); (case side2 => exact Nat.le_refl _); rintro e w33 ⟨rfl, hb⟩; refine ⟨_, rfl, ?_⟩; have n0_ := Aside0.mk (below_step (by repeat (first | (with_reducible first | exact HB.out | apply below_alloc | apply pw_below_drewN | apply below_drew1) | exact HB.out)) hb); clear HB; have HB := n0_; clear n0_; (try clear hb); (try clear hb2); (try clear hk); (try clear hi)) | ((with_reducible refine gate_dst (N := 1) rfl ?_); (try (refine gate_guard (by rfl) ?_; dsimp only)); refine box_event ?hg (N := 1) ?hd (cs := #[.string (⟨#[]⟩ : ByteArray), .int .i64 0]) (t := 27) ?hr ?_; (case hd => rfl); (case hg => rfl); (case hr => first | (go_simp; done) | (go_simp; rfl)); intro gb1010 hg w34 hbox hb; have n0_ := Aside0.mk (below_step (by repeat (first | (with_reducible first | exact HB.out | apply below_alloc | apply pw_below_drewN | apply below_drew1) | exact HB.out)) hb); have n1_ := Aside0.mk (hbox); have n2_ := Aside0.mk ((by rw [hg]; exact (below_size (by repeat (first | (with_reducible first | exact HB.out | apply below_alloc | apply pw_below_drewN | apply below_drew1) | exact HB.out))) : w.heap.size ≤ gb1010)); have n3_ := Aside0.mk ((by rw [hg]; exact (below_size (by repeat (first | (with_reducible first | exact HB.out | apply below_alloc | apply pw_below_drewN | apply below_drew1) | exact HB.out))) : w.heap.size ≤ gb1010)); clear HB; have HB := n0_; have BK1010 := n1_; have GW1010 := n2_; have GE1010 := n3_; clear n0_ n1_ n2_ n3_; clear hb hbox hg; have hcz35_0 : w34.cell? ⟨gb1010, 0, none⟩ = some (.string (⟨#[]⟩ : ByteArray)) := (blk_cell BK1010.out 0).trans rfl; have hcz35_1 : w34.cell? ⟨gb1010, 1, none⟩ = some (.int .i64 0) := (blk_cell BK1010.out 1).trans rfl; have hfz35_0 := blk_frozen BK1010.out 0; have hfz35_1 := blk_frozen BK1010.out 1) | ((with_reducible refine gate_callee (f := 73) rfl ?_); refine goesL_ (some 15) rfl rfl Try.func73 (by kernel_rfl) rfl #[.agg #[.string t1007, .int .i64 t1008], .int .i64 0, .int .i64 0] rfl (by (try simp only [List.map_toArray, List.map_cons, List.map_nil]); first | done | rfl | (simp only [List.length_drop, List.length_take]; rfl)) ?_; (with_reducible refine (gaps_Take.calls k t1007 t1008 0 0 t1011 t1014 t1015 _ A2.out).mono ?_); rintro e w36 ⟨v1012, rfl, ho0, hb⟩; refine ⟨_, rfl, ?_⟩; have n0_ := Aside0.mk (Kd.R_lower ho0 (below_size (by repeat (first | (with_reducible first | exact HB.out | apply below_alloc | apply pw_below_drewN | apply below_drew1 | refine below_set ?_ GE1010.out) | exact HB.out)))); have n1_ := Aside0.mk (blk_below (g := gb1010) (o := .cells #[.string t1007, .int .i64 t1008] 27 (0, 0)) (by (with_reducible repeat (first | refine blk_drewN ?_ _ | refine blk_drew ?_ | refine blk_alloc ?_ _)); refine blk_put (cs := #[.string t1007, .int .i64 0]) ?_ 1 _ rfl; (with_reducible repeat (first | refine blk_drewN ?_ _ | refine blk_drew ?_ | refine blk_alloc ?_ _)); refine blk_put (cs := #[.string (⟨#[]⟩ : ByteArray), .int .i64 0]) ?_ 0 _ rfl; (with_reducible repeat (first | refine blk_drewN ?_ _ | refine blk_drew ?_ | refine blk_alloc ?_ _)); exact BK1010.out) hb); have n2_ := Aside0.mk (below_step (by repeat (first | (with_reducible first | exact HB.out | apply below_alloc | apply pw_below_drewN | apply below_drew1 | refine below_set ?_ GE1010.out) | exact HB.out)) hb); clear BK1010; clear HB; have HO1013 := n0_; have BK1010 := n1_; have HB := n2_; clear n0_ n1_ n2_; (try clear hb); (try clear hb2); (try clear hk); (try clear hi); (try clear ho0)) | ((with_reducible refine gate_dst (N := 20) rfl ?_); (try (refine gate_guard (by rfl) ?_; dsimp only)); refine Kd.R_lit (Kd.int .i64) _ 3 ?hg (N := 20) ?hd (xs := ([2, 3] : List Int)) (inner := [.int .i64 2, .int .i64 3]) (ok := fun _ => True) (okp := fun _ => True) ?hr ?hp (fun _ hk => hk) trivial (Below.refl _ _) (Nat.le_refl _) (by simp) ?_; (case hd => rfl); (case hg => rfl); (case hr => first | (go_simp; done) | (go_simp; rfl)); (case hp => exact (Reps.one (show Kd.M (Kd.int .i64) _ _ _ 2 [.int .i64 2] from rfl) (Reps.one (show Kd.M (Kd.int .i64) _ _ _ 3 [.int .i64 3] from rfl) (Reps.none _ _)))); intro v1017 w37 ho38 hb hg_ hnew_; clear hg_ hnew_; (first | rw [← Ny1016.out] at ho38 | (simp only [Int.reduceToNat] at ho38; rw [← Ny1016.out] at ho38)); have n0_ := Aside0.mk (Kd.R_elder' (by (with_reducible repeat (first | apply Kd.R_alloc | apply Kd.R_drewN | apply Kd.R_drew)); exact HO1013.out) (Kd.R_base ho38) hb); have n1_ := Aside0.mk (Kd.R_lower (Kd.R_new' ho38 (Kd.R_lt (by (with_reducible repeat (first | apply Kd.R_alloc | apply Kd.R_drewN | apply Kd.R_drew)); exact HO1013.out))) (below_size (by repeat (first | (with_reducible first | exact HB.out | apply below_alloc | apply pw_below_drewN | apply below_drew1 | refine below_set ?_ GE1010.out) | exact HB.out)))); have n2_ := Aside0.mk (blk_below (g := gb1010) (o := .cells #[.string t1007, .int .i64 t1008] 27 (0, 0)) (by (with_reducible repeat (first | refine blk_drewN ?_ _ | refine blk_drew ?_ | refine blk_alloc ?_ _)); exact BK1010.out) hb); have n3_ := Aside0.mk (below_step (by repeat (first | (with_reducible first | exact HB.out | apply below_alloc | apply pw_below_drewN | apply below_drew1 | refine below_set ?_ GE1010.out) | exact HB.out)) hb); clear HO1013; clear BK1010; clear HB; have HO1013 := n0_; have HO1018 := n1_; have BK1010 := n2_; have HB := n3_; clear n0_ n1_ n2_ n3_; clear hb ho38; obtain ⟨Ao39, co39, eo39⟩ := Kd.R_slice HO1018.out; subst eo39) | ((with_reducible refine gate_callee (f := 74) rfl ?_); refine goesL_ (some 21) rfl rfl Try.func74 (by kernel_rfl) rfl #[.int .i64 2, .slice Ao39 y1016.length co39] rfl (by (try simp only [List.map_toArray, List.map_cons, List.map_nil]); first | done | rfl | (simp only [List.length_drop, List.length_take]; rfl)) ?_; (with_reducible refine (gaps_Size.calls 2 _ _ y1016 t1019 t1020 _ ?side1 ?side2 A3.out).mono ?_); (case side1 => repeat (first | exact (Kd.R_reads' HO1018.out).2.2 | (with_reducible refine Kd.C_alloc ?_ _) | (with_reducible refine Kd.C_drewN ?_ _) | (with_reducible refine Kd.C_drew ?_))); (case side2 => exact (Kd.R_reads' HO1018.out).2.1); rintro e w40 ⟨rfl, hb⟩; refine ⟨_, rfl, ?_⟩; have n0_ := Aside0.mk (Kd.R_below (by (with_reducible repeat (first | apply Kd.R_alloc | apply Kd.R_drewN | apply Kd.R_drew)); exact HO1013.out) hb); have n1_ := Aside0.mk (Kd.R_below (by (with_reducible repeat (first | apply Kd.R_alloc | apply Kd.R_drewN | apply Kd.R_drew)); exact HO1018.out) hb); have n2_ := Aside0.mk (blk_below (g := gb1010) (o := .cells #[.string t1007, .int .i64 t1008] 27 (0, 0)) (by (with_reducible repeat (first | refine blk_drewN ?_ _ | refine blk_drew ?_ | refine blk_alloc ?_ _)); exact BK1010.out) hb); have n3_ := Aside0.mk (below_step (by repeat (first | (with_reducible first | exact HB.out | apply below_alloc | apply pw_below_drewN | apply below_drew1 | refine below_set ?_ GE1010.out) | exact HB.out)) hb); clear HO1013; clear HO1018; clear BK1010; clear HB; have HO1013 := n0_; have HO1018 := n1_; have BK1010 := n2_; have HB := n3_; clear n0_ n1_ n2_ n3_; (try clear hb); (try clear hb2); (try clear hk); (try clear hi)) | ((with_reducible refine gate_callee (f := 72) rfl ?_); refine goesL_ (some 25) rfl rfl Try.func72 (by kernel_rfl) rfl #[.int .i64 t1009] rfl (by (try simp only [List.map_toArray, List.map_cons, List.map_nil]); first | done | rfl | (simp only [List.length_drop, List.length_take]; rfl)) ?_; (with_reducible refine (herbariumlaw3_num.calls t1009 t1021 _ A4.out).mono ?_); rintro e w' ⟨rfl, ⟨nd, rfl⟩⟩; refine ⟨_, rfl, ?_⟩) | (go_at_call 72; (with_reducible refine (herbariumlaw3_num.calls t1015 t1022 _ A6.out).mono ?_); rintro e w' ⟨rfl, ⟨nd, rfl⟩⟩) | (go_at_call 72; (with_reducible refine (herbariumlaw3_num.calls t1020 t1023 _ A8.out).mono ?_); rintro e w' ⟨rfl, ⟨nd, rfl⟩⟩; have hcz41_0 : w40.cell? ⟨gb1010, 0, none⟩ = some (.string t1007) := (blk_cell BK1010.out 0).trans rfl; have hcz41_1 : w40.cell? ⟨gb1010, 1, none⟩ = some (.int .i64 t1008) := (blk_cell BK1010.out 1).trans rfl; have hfz41_0 := blk_frozen BK1010.out 0; have hfz41_1 := blk_frozen BK1010.out 1; obtain ⟨Ao42, co42, eo42⟩ := Kd.R_slice HO1013.out; subst eo42))
      go_ret
      exact ⟨by first | rfl | (simp [errW_none, errW_some] <;> rfl) | (simp [*, errW_none, errW_some] <;> rfl), by repeat (first | (with_reducible first | exact HB.out | apply below_alloc | apply pw_below_drewN | apply below_drew1 | refine below_set ?_ GE1010.out) | exact HB.out)⟩
    ·
     rw [if_neg c10] at H
     have c10b0 : (t1008 == 1) = false := beq_eq_false_iff_ne.mpr c10
     have c10b1 : (t1008 != 1) = true := bne_iff_ne.mpr c10
     obtain rfl := Option.some.inj H
     go_enter Try.func76, Try.ntmps76
     go_wp2_with (first | ((with_reducible refine gate_callee (f := 71) rfl ?_); refine goesL_ (some 10) rfl rfl Try.func71 (by kernel_rfl) rfl #[.agg #[.string (⟨#[]⟩ : ByteArray), .int .i64 0], .int .i64 0, .slice none 0 0] rfl (by (try simp only [List.map_toArray, List.map_cons, List.map_nil]); first | done | rfl | (simp only [List.length_drop, List.length_take]; rfl)) ?_; (refine (gaps_Put.calls (⟨#[]⟩ : ByteArray) 0 0 _ _ ([] : List Int) t1007 t1008 t1009 _ ?side1 ?side2 A1.out).mono ?_); (case side1 => exact Kd.C_nil _ _); (case side2 => exact Nat.le_refl _); rintro e w43 ⟨rfl, hb⟩; refine ⟨_, rfl, ?_⟩; have n0_ := Aside0.mk (below_step (by repeat (first | (with_reducible first | exact HB.out | apply below_alloc | apply pw_below_drewN | apply below_drew1) | exact HB.out)) hb); clear HB; have HB := n0_; clear n0_; (try clear hb); (try clear hb2); (try clear hk); (try clear hi)) | ((with_reducible refine gate_dst (N := 1) rfl ?_); (try (refine gate_guard (by rfl) ?_; dsimp only)); refine box_event ?hg (N := 1) ?hd (cs := #[.string (⟨#[]⟩ : ByteArray), .int .i64 0]) (t := 27) ?hr ?_; (case hd => rfl); (case hg => rfl); (case hr => first | (go_simp; done) | (go_simp; rfl)); intro gb1010 hg w44 hbox hb; have n0_ := Aside0.mk (below_step (by repeat (first | (with_reducible first | exact HB.out | apply below_alloc | apply pw_below_drewN | apply below_drew1) | exact HB.out)) hb); have n1_ := Aside0.mk (hbox); have n2_ := Aside0.mk ((by rw [hg]; exact (below_size (by repeat (first | (with_reducible first | exact HB.out | apply below_alloc | apply pw_below_drewN | apply below_drew1) | exact HB.out))) : w.heap.size ≤ gb1010)); have n3_ := Aside0.mk ((by rw [hg]; exact (below_size (by repeat (first | (with_reducible first | exact HB.out | apply below_alloc | apply pw_below_drewN | apply below_drew1) | exact HB.out))) : w.heap.size ≤ gb1010)); clear HB; have HB := n0_; have BK1010 := n1_; have GW1010 := n2_; have GE1010 := n3_; clear n0_ n1_ n2_ n3_; clear hb hbox hg; have hcz45_0 : w44.cell? ⟨gb1010, 0, none⟩ = some (.string (⟨#[]⟩ : ByteArray)) := (blk_cell BK1010.out 0).trans rfl; have hcz45_1 : w44.cell? ⟨gb1010, 1, none⟩ = some (.int .i64 0) := (blk_cell BK1010.out 1).trans rfl; have hfz45_0 := blk_frozen BK1010.out 0; have hfz45_1 := blk_frozen BK1010.out 1) | ((with_reducible refine gate_callee (f := 73) rfl ?_); refine goesL_ (some 15) rfl rfl Try.func73 (by kernel_rfl) rfl #[.agg #[.string t1007, .int .i64 t1008], .int .i64 0, .int .i64 0] rfl (by (try simp only [List.map_toArray, List.map_cons, List.map_nil]); first | done | rfl | (simp only [List.length_drop, List.length_take]; rfl)) ?_; (with_reducible refine (gaps_Take.calls k t1007 t1008 0 0 t1011 t1014 t1015 _ A2.out).mono ?_); rintro e w46 ⟨v1012, rfl, ho0, hb⟩; refine ⟨_, rfl, ?_⟩; have n0_ := Aside0.mk (Kd.R_lower ho0 (below_size (by repeat (first | (with_reducible first | exact HB.out | apply below_alloc | apply pw_below_drewN | apply below_drew1 | refine below_set ?_ GE1010.out) | exact HB.out)))); have n1_ := Aside0.mk (blk_below (g := gb1010) (o := .cells #[.string t1007, .int .i64 t1008] 27 (0, 0)) (by (with_reducible repeat (first | refine blk_drewN ?_ _ | refine blk_drew ?_ | refine blk_alloc ?_ _)); refine blk_put (cs := #[.string t1007, .int .i64 0]) ?_ 1 _ rfl; (with_reducible repeat (first | refine blk_drewN ?_ _ | refine blk_drew ?_ | refine blk_alloc ?_ _)); refine blk_put (cs := #[.string (⟨#[]⟩ : ByteArray), .int .i64 0]) ?_ 0 _ rfl; (with_reducible repeat (first | refine blk_drewN ?_ _ | refine blk_drew ?_ | refine blk_alloc ?_ _)); exact BK1010.out) hb); have n2_ := Aside0.mk (below_step (by repeat (first | (with_reducible first | exact HB.out | apply below_alloc | apply pw_below_drewN | apply below_drew1 | refine below_set ?_ GE1010.out) | exact HB.out)) hb); clear BK1010; clear HB; have HO1013 := n0_; have BK1010 := n1_; have HB := n2_; clear n0_ n1_ n2_; (try clear hb); (try clear hb2); (try clear hk); (try clear hi); (try clear ho0)) | ((with_reducible refine gate_dst (N := 20) rfl ?_); (try (refine gate_guard (by rfl) ?_; dsimp only)); refine Kd.R_lit (Kd.int .i64) _ 3 ?hg (N := 20) ?hd (xs := ([2, 3] : List Int)) (inner := [.int .i64 2, .int .i64 3]) (ok := fun _ => True) (okp := fun _ => True) ?hr ?hp (fun _ hk => hk) trivial (Below.refl _ _) (Nat.le_refl _) (by simp) ?_; (case hd => rfl); (case hg => rfl); (case hr => first | (go_simp; done) | (go_simp; rfl)); (case hp => exact (Reps.one (show Kd.M (Kd.int .i64) _ _ _ 2 [.int .i64 2] from rfl) (Reps.one (show Kd.M (Kd.int .i64) _ _ _ 3 [.int .i64 3] from rfl) (Reps.none _ _)))); intro v1017 w47 ho48 hb hg_ hnew_; clear hg_ hnew_; (first | rw [← Ny1016.out] at ho48 | (simp only [Int.reduceToNat] at ho48; rw [← Ny1016.out] at ho48)); have n0_ := Aside0.mk (Kd.R_elder' (by (with_reducible repeat (first | apply Kd.R_alloc | apply Kd.R_drewN | apply Kd.R_drew)); exact HO1013.out) (Kd.R_base ho48) hb); have n1_ := Aside0.mk (Kd.R_lower (Kd.R_new' ho48 (Kd.R_lt (by (with_reducible repeat (first | apply Kd.R_alloc | apply Kd.R_drewN | apply Kd.R_drew)); exact HO1013.out))) (below_size (by repeat (first | (with_reducible first | exact HB.out | apply below_alloc | apply pw_below_drewN | apply below_drew1 | refine below_set ?_ GE1010.out) | exact HB.out)))); have n2_ := Aside0.mk (blk_below (g := gb1010) (o := .cells #[.string t1007, .int .i64 t1008] 27 (0, 0)) (by (with_reducible repeat (first | refine blk_drewN ?_ _ | refine blk_drew ?_ | refine blk_alloc ?_ _)); exact BK1010.out) hb); have n3_ := Aside0.mk (below_step (by repeat (first | (with_reducible first | exact HB.out | apply below_alloc | apply pw_below_drewN | apply below_drew1 | refine below_set ?_ GE1010.out) | exact HB.out)) hb); clear HO1013; clear BK1010; clear HB; have HO1013 := n0_; have HO1018 := n1_; have BK1010 := n2_; have HB := n3_; clear n0_ n1_ n2_ n3_; clear hb ho48; obtain ⟨Ao49, co49, eo49⟩ := Kd.R_slice HO1018.out; subst eo49) | ((with_reducible refine gate_callee (f := 74) rfl ?_); refine goesL_ (some 21) rfl rfl Try.func74 (by kernel_rfl) rfl #[.int .i64 2, .slice Ao49 y1016.length co49] rfl (by (try simp only [List.map_toArray, List.map_cons, List.map_nil]); first | done | rfl | (simp only [List.length_drop, List.length_take]; rfl)) ?_; (with_reducible refine (gaps_Size.calls 2 _ _ y1016 t1019 t1020 _ ?side1 ?side2 A3.out).mono ?_); (case side1 => repeat (first | exact (Kd.R_reads' HO1018.out).2.2 | (with_reducible refine Kd.C_alloc ?_ _) | (with_reducible refine Kd.C_drewN ?_ _) | (with_reducible refine Kd.C_drew ?_))); (case side2 => exact (Kd.R_reads' HO1018.out).2.1); rintro e w50 ⟨rfl, hb⟩; refine ⟨_, rfl, ?_⟩; have n0_ := Aside0.mk (Kd.R_below (by (with_reducible repeat (first | apply Kd.R_alloc | apply Kd.R_drewN | apply Kd.R_drew)); exact HO1013.out) hb); have n1_ := Aside0.mk (Kd.R_below (by (with_reducible repeat (first | apply Kd.R_alloc | apply Kd.R_drewN | apply Kd.R_drew)); exact HO1018.out) hb); have n2_ := Aside0.mk (blk_below (g := gb1010) (o := .cells #[.string t1007, .int .i64 t1008] 27 (0, 0)) (by (with_reducible repeat (first | refine blk_drewN ?_ _ | refine blk_drew ?_ | refine blk_alloc ?_ _)); exact BK1010.out) hb); have n3_ := Aside0.mk (below_step (by repeat (first | (with_reducible first | exact HB.out | apply below_alloc | apply pw_below_drewN | apply below_drew1 | refine below_set ?_ GE1010.out) | exact HB.out)) hb); clear HO1013; clear HO1018; clear BK1010; clear HB; have HO1013 := n0_; have HO1018 := n1_; have BK1010 := n2_; have HB := n3_; clear n0_ n1_ n2_ n3_; (try clear hb); (try clear hb2); (try clear hk); (try clear hi)) | ((with_reducible refine gate_callee (f := 72) rfl ?_); refine goesL_ (some 25) rfl rfl Try.func72 (by kernel_rfl) rfl #[.int .i64 t1009] rfl (by (try simp only [List.map_toArray, List.map_cons, List.map_nil]); first | done | rfl | (simp only [List.length_drop, List.length_take]; rfl)) ?_; (with_reducible refine (herbariumlaw3_num.calls t1009 t1021 _ A4.out).mono ?_); rintro e w' ⟨rfl, ⟨nd, rfl⟩⟩; refine ⟨_, rfl, ?_⟩) | (go_at_call 72; (with_reducible refine (herbariumlaw3_num.calls t1015 t1022 _ A6.out).mono ?_); rintro e w' ⟨rfl, ⟨nd, rfl⟩⟩) | (go_at_call 72; (with_reducible refine (herbariumlaw3_num.calls t1020 t1023 _ A8.out).mono ?_); rintro e w' ⟨rfl, ⟨nd, rfl⟩⟩; have hcz51_0 : w50.cell? ⟨gb1010, 0, none⟩ = some (.string t1007) := (blk_cell BK1010.out 0).trans rfl; have hcz51_1 : w50.cell? ⟨gb1010, 1, none⟩ = some (.int .i64 t1008) := (blk_cell BK1010.out 1).trans rfl; have hfz51_0 := blk_frozen BK1010.out 0; have hfz51_1 := blk_frozen BK1010.out 1))
     go_ret
     exact ⟨by first | rfl | (simp [errW_none, errW_some] <;> rfl) | (simp [*, errW_none, errW_some] <;> rfl), by repeat (first | (with_reducible first | exact HB.out | apply below_alloc | apply pw_below_drewN | apply below_drew1 | refine below_set ?_ GE1010.out) | exact HB.out)⟩
   ·
    rw [if_neg c9] at H
    have c9b0 : (t1023 == 0) = false := beq_eq_false_iff_ne.mpr c9
    have c9b1 : (t1023 != 0) = true := bne_iff_ne.mpr c9
    obtain rfl := Option.some.inj H
    go_enter Try.func76, Try.ntmps76
    go_wp2_with (first | ((with_reducible refine gate_callee (f := 71) rfl ?_); refine goesL_ (some 10) rfl rfl Try.func71 (by kernel_rfl) rfl #[.agg #[.string (⟨#[]⟩ : ByteArray), .int .i64 0], .int .i64 0, .slice none 0 0] rfl (by (try simp only [List.map_toArray, List.map_cons, List.map_nil]); first | done | rfl | (simp only [List.length_drop, List.length_take]; rfl)) ?_; (refine (gaps_Put.calls (⟨#[]⟩ : ByteArray) 0 0 _ _ ([] : List Int) t1007 t1008 t1009 _ ?side1 ?side2 A1.out).mono ?_); (case side1 => exact Kd.C_nil _ _); (case side2 => exact Nat.le_refl _); rintro e w52 ⟨rfl, hb⟩; refine ⟨_, rfl, ?_⟩; have n0_ := Aside0.mk (below_step (by repeat (first | (with_reducible first | exact HB.out | apply below_alloc | apply pw_below_drewN | apply below_drew1) | exact HB.out)) hb); clear HB; have HB := n0_; clear n0_; (try clear hb); (try clear hb2); (try clear hk); (try clear hi)) | ((with_reducible refine gate_dst (N := 1) rfl ?_); (try (refine gate_guard (by rfl) ?_; dsimp only)); refine box_event ?hg (N := 1) ?hd (cs := #[.string (⟨#[]⟩ : ByteArray), .int .i64 0]) (t := 27) ?hr ?_; (case hd => rfl); (case hg => rfl); (case hr => first | (go_simp; done) | (go_simp; rfl)); intro gb1010 hg w53 hbox hb; have n0_ := Aside0.mk (below_step (by repeat (first | (with_reducible first | exact HB.out | apply below_alloc | apply pw_below_drewN | apply below_drew1) | exact HB.out)) hb); have n1_ := Aside0.mk (hbox); have n2_ := Aside0.mk ((by rw [hg]; exact (below_size (by repeat (first | (with_reducible first | exact HB.out | apply below_alloc | apply pw_below_drewN | apply below_drew1) | exact HB.out))) : w.heap.size ≤ gb1010)); have n3_ := Aside0.mk ((by rw [hg]; exact (below_size (by repeat (first | (with_reducible first | exact HB.out | apply below_alloc | apply pw_below_drewN | apply below_drew1) | exact HB.out))) : w.heap.size ≤ gb1010)); clear HB; have HB := n0_; have BK1010 := n1_; have GW1010 := n2_; have GE1010 := n3_; clear n0_ n1_ n2_ n3_; clear hb hbox hg; have hcz54_0 : w53.cell? ⟨gb1010, 0, none⟩ = some (.string (⟨#[]⟩ : ByteArray)) := (blk_cell BK1010.out 0).trans rfl; have hcz54_1 : w53.cell? ⟨gb1010, 1, none⟩ = some (.int .i64 0) := (blk_cell BK1010.out 1).trans rfl; have hfz54_0 := blk_frozen BK1010.out 0; have hfz54_1 := blk_frozen BK1010.out 1) | ((with_reducible refine gate_callee (f := 73) rfl ?_); refine goesL_ (some 15) rfl rfl Try.func73 (by kernel_rfl) rfl #[.agg #[.string t1007, .int .i64 t1008], .int .i64 0, .int .i64 0] rfl (by (try simp only [List.map_toArray, List.map_cons, List.map_nil]); first | done | rfl | (simp only [List.length_drop, List.length_take]; rfl)) ?_; (with_reducible refine (gaps_Take.calls k t1007 t1008 0 0 t1011 t1014 t1015 _ A2.out).mono ?_); rintro e w55 ⟨v1012, rfl, ho0, hb⟩; refine ⟨_, rfl, ?_⟩; have n0_ := Aside0.mk (Kd.R_lower ho0 (below_size (by repeat (first | (with_reducible first | exact HB.out | apply below_alloc | apply pw_below_drewN | apply below_drew1 | refine below_set ?_ GE1010.out) | exact HB.out)))); have n1_ := Aside0.mk (blk_below (g := gb1010) (o := .cells #[.string t1007, .int .i64 t1008] 27 (0, 0)) (by (with_reducible repeat (first | refine blk_drewN ?_ _ | refine blk_drew ?_ | refine blk_alloc ?_ _)); refine blk_put (cs := #[.string t1007, .int .i64 0]) ?_ 1 _ rfl; (with_reducible repeat (first | refine blk_drewN ?_ _ | refine blk_drew ?_ | refine blk_alloc ?_ _)); refine blk_put (cs := #[.string (⟨#[]⟩ : ByteArray), .int .i64 0]) ?_ 0 _ rfl; (with_reducible repeat (first | refine blk_drewN ?_ _ | refine blk_drew ?_ | refine blk_alloc ?_ _)); exact BK1010.out) hb); have n2_ := Aside0.mk (below_step (by repeat (first | (with_reducible first | exact HB.out | apply below_alloc | apply pw_below_drewN | apply below_drew1 | refine below_set ?_ GE1010.out) | exact HB.out)) hb); clear BK1010; clear HB; have HO1013 := n0_; have BK1010 := n1_; have HB := n2_; clear n0_ n1_ n2_; (try clear hb); (try clear hb2); (try clear hk); (try clear hi); (try clear ho0)) | ((with_reducible refine gate_dst (N := 20) rfl ?_); (try (refine gate_guard (by rfl) ?_; dsimp only)); refine Kd.R_lit (Kd.int .i64) _ 3 ?hg (N := 20) ?hd (xs := ([2, 3] : List Int)) (inner := [.int .i64 2, .int .i64 3]) (ok := fun _ => True) (okp := fun _ => True) ?hr ?hp (fun _ hk => hk) trivial (Below.refl _ _) (Nat.le_refl _) (by simp) ?_; (case hd => rfl); (case hg => rfl); (case hr => first | (go_simp; done) | (go_simp; rfl)); (case hp => exact (Reps.one (show Kd.M (Kd.int .i64) _ _ _ 2 [.int .i64 2] from rfl) (Reps.one (show Kd.M (Kd.int .i64) _ _ _ 3 [.int .i64 3] from rfl) (Reps.none _ _)))); intro v1017 w56 ho57 hb hg_ hnew_; clear hg_ hnew_; (first | rw [← Ny1016.out] at ho57 | (simp only [Int.reduceToNat] at ho57; rw [← Ny1016.out] at ho57)); have n0_ := Aside0.mk (Kd.R_elder' (by (with_reducible repeat (first | apply Kd.R_alloc | apply Kd.R_drewN | apply Kd.R_drew)); exact HO1013.out) (Kd.R_base ho57) hb); have n1_ := Aside0.mk (Kd.R_lower (Kd.R_new' ho57 (Kd.R_lt (by (with_reducible repeat (first | apply Kd.R_alloc | apply Kd.R_drewN | apply Kd.R_drew)); exact HO1013.out))) (below_size (by repeat (first | (with_reducible first | exact HB.out | apply below_alloc | apply pw_below_drewN | apply below_drew1 | refine below_set ?_ GE1010.out) | exact HB.out)))); have n2_ := Aside0.mk (blk_below (g := gb1010) (o := .cells #[.string t1007, .int .i64 t1008] 27 (0, 0)) (by (with_reducible repeat (first | refine blk_drewN ?_ _ | refine blk_drew ?_ | refine blk_alloc ?_ _)); exact BK1010.out) hb); have n3_ := Aside0.mk (below_step (by repeat (first | (with_reducible first | exact HB.out | apply below_alloc | apply pw_below_drewN | apply below_drew1 | refine below_set ?_ GE1010.out) | exact HB.out)) hb); clear HO1013; clear BK1010; clear HB; have HO1013 := n0_; have HO1018 := n1_; have BK1010 := n2_; have HB := n3_; clear n0_ n1_ n2_ n3_; clear hb ho57; obtain ⟨Ao58, co58, eo58⟩ := Kd.R_slice HO1018.out; subst eo58) | ((with_reducible refine gate_callee (f := 74) rfl ?_); refine goesL_ (some 21) rfl rfl Try.func74 (by kernel_rfl) rfl #[.int .i64 2, .slice Ao58 y1016.length co58] rfl (by (try simp only [List.map_toArray, List.map_cons, List.map_nil]); first | done | rfl | (simp only [List.length_drop, List.length_take]; rfl)) ?_; (with_reducible refine (gaps_Size.calls 2 _ _ y1016 t1019 t1020 _ ?side1 ?side2 A3.out).mono ?_); (case side1 => repeat (first | exact (Kd.R_reads' HO1018.out).2.2 | (with_reducible refine Kd.C_alloc ?_ _) | (with_reducible refine Kd.C_drewN ?_ _) | (with_reducible refine Kd.C_drew ?_))); (case side2 => exact (Kd.R_reads' HO1018.out).2.1); rintro e w59 ⟨rfl, hb⟩; refine ⟨_, rfl, ?_⟩; have n0_ := Aside0.mk (Kd.R_below (by (with_reducible repeat (first | apply Kd.R_alloc | apply Kd.R_drewN | apply Kd.R_drew)); exact HO1013.out) hb); have n1_ := Aside0.mk (Kd.R_below (by (with_reducible repeat (first | apply Kd.R_alloc | apply Kd.R_drewN | apply Kd.R_drew)); exact HO1018.out) hb); have n2_ := Aside0.mk (blk_below (g := gb1010) (o := .cells #[.string t1007, .int .i64 t1008] 27 (0, 0)) (by (with_reducible repeat (first | refine blk_drewN ?_ _ | refine blk_drew ?_ | refine blk_alloc ?_ _)); exact BK1010.out) hb); have n3_ := Aside0.mk (below_step (by repeat (first | (with_reducible first | exact HB.out | apply below_alloc | apply pw_below_drewN | apply below_drew1 | refine below_set ?_ GE1010.out) | exact HB.out)) hb); clear HO1013; clear HO1018; clear BK1010; clear HB; have HO1013 := n0_; have HO1018 := n1_; have BK1010 := n2_; have HB := n3_; clear n0_ n1_ n2_ n3_; (try clear hb); (try clear hb2); (try clear hk); (try clear hi)) | ((with_reducible refine gate_callee (f := 72) rfl ?_); refine goesL_ (some 25) rfl rfl Try.func72 (by kernel_rfl) rfl #[.int .i64 t1009] rfl (by (try simp only [List.map_toArray, List.map_cons, List.map_nil]); first | done | rfl | (simp only [List.length_drop, List.length_take]; rfl)) ?_; (with_reducible refine (herbariumlaw3_num.calls t1009 t1021 _ A4.out).mono ?_); rintro e w' ⟨rfl, ⟨nd, rfl⟩⟩; refine ⟨_, rfl, ?_⟩) | (go_at_call 72; (with_reducible refine (herbariumlaw3_num.calls t1015 t1022 _ A6.out).mono ?_); rintro e w' ⟨rfl, ⟨nd, rfl⟩⟩) | (go_at_call 72; (with_reducible refine (herbariumlaw3_num.calls t1020 t1023 _ A8.out).mono ?_); rintro e w' ⟨rfl, ⟨nd, rfl⟩⟩))
    go_ret
    exact ⟨by first | rfl | (simp [errW_none, errW_some] <;> rfl) | (simp [*, errW_none, errW_some] <;> rfl), by repeat (first | (with_reducible first | exact HB.out | apply below_alloc | apply pw_below_drewN | apply below_drew1 | refine below_set ?_ GE1010.out) | exact HB.out)⟩
  ·
   rw [if_neg c7] at H
   have c7b0 : (t1022 == 0) = false := beq_eq_false_iff_ne.mpr c7
   have c7b1 : (t1022 != 0) = true := bne_iff_ne.mpr c7
   obtain rfl := Option.some.inj H
   go_enter Try.func76, Try.ntmps76
   go_wp2_with (first | ((with_reducible refine gate_callee (f := 71) rfl ?_); refine goesL_ (some 10) rfl rfl Try.func71 (by kernel_rfl) rfl #[.agg #[.string (⟨#[]⟩ : ByteArray), .int .i64 0], .int .i64 0, .slice none 0 0] rfl (by (try simp only [List.map_toArray, List.map_cons, List.map_nil]); first | done | rfl | (simp only [List.length_drop, List.length_take]; rfl)) ?_; (refine (gaps_Put.calls (⟨#[]⟩ : ByteArray) 0 0 _ _ ([] : List Int) t1007 t1008 t1009 _ ?side1 ?side2 A1.out).mono ?_); (case side1 => exact Kd.C_nil _ _); (case side2 => exact Nat.le_refl _); rintro e w60 ⟨rfl, hb⟩; refine ⟨_, rfl, ?_⟩; have n0_ := Aside0.mk (below_step (by repeat (first | (with_reducible first | exact HB.out | apply below_alloc | apply pw_below_drewN | apply below_drew1) | exact HB.out)) hb); clear HB; have HB := n0_; clear n0_; (try clear hb); (try clear hb2); (try clear hk); (try clear hi)) | ((with_reducible refine gate_dst (N := 1) rfl ?_); (try (refine gate_guard (by rfl) ?_; dsimp only)); refine box_event ?hg (N := 1) ?hd (cs := #[.string (⟨#[]⟩ : ByteArray), .int .i64 0]) (t := 27) ?hr ?_; (case hd => rfl); (case hg => rfl); (case hr => first | (go_simp; done) | (go_simp; rfl)); intro gb1010 hg w61 hbox hb; have n0_ := Aside0.mk (below_step (by repeat (first | (with_reducible first | exact HB.out | apply below_alloc | apply pw_below_drewN | apply below_drew1) | exact HB.out)) hb); have n1_ := Aside0.mk (hbox); have n2_ := Aside0.mk ((by rw [hg]; exact (below_size (by repeat (first | (with_reducible first | exact HB.out | apply below_alloc | apply pw_below_drewN | apply below_drew1) | exact HB.out))) : w.heap.size ≤ gb1010)); have n3_ := Aside0.mk ((by rw [hg]; exact (below_size (by repeat (first | (with_reducible first | exact HB.out | apply below_alloc | apply pw_below_drewN | apply below_drew1) | exact HB.out))) : w.heap.size ≤ gb1010)); clear HB; have HB := n0_; have BK1010 := n1_; have GW1010 := n2_; have GE1010 := n3_; clear n0_ n1_ n2_ n3_; clear hb hbox hg; have hcz62_0 : w61.cell? ⟨gb1010, 0, none⟩ = some (.string (⟨#[]⟩ : ByteArray)) := (blk_cell BK1010.out 0).trans rfl; have hcz62_1 : w61.cell? ⟨gb1010, 1, none⟩ = some (.int .i64 0) := (blk_cell BK1010.out 1).trans rfl; have hfz62_0 := blk_frozen BK1010.out 0; have hfz62_1 := blk_frozen BK1010.out 1) | ((with_reducible refine gate_callee (f := 73) rfl ?_); refine goesL_ (some 15) rfl rfl Try.func73 (by kernel_rfl) rfl #[.agg #[.string t1007, .int .i64 t1008], .int .i64 0, .int .i64 0] rfl (by (try simp only [List.map_toArray, List.map_cons, List.map_nil]); first | done | rfl | (simp only [List.length_drop, List.length_take]; rfl)) ?_; (with_reducible refine (gaps_Take.calls k t1007 t1008 0 0 t1011 t1014 t1015 _ A2.out).mono ?_); rintro e w63 ⟨v1012, rfl, ho0, hb⟩; refine ⟨_, rfl, ?_⟩; have n0_ := Aside0.mk (Kd.R_lower ho0 (below_size (by repeat (first | (with_reducible first | exact HB.out | apply below_alloc | apply pw_below_drewN | apply below_drew1 | refine below_set ?_ GE1010.out) | exact HB.out)))); have n1_ := Aside0.mk (blk_below (g := gb1010) (o := .cells #[.string t1007, .int .i64 t1008] 27 (0, 0)) (by (with_reducible repeat (first | refine blk_drewN ?_ _ | refine blk_drew ?_ | refine blk_alloc ?_ _)); refine blk_put (cs := #[.string t1007, .int .i64 0]) ?_ 1 _ rfl; (with_reducible repeat (first | refine blk_drewN ?_ _ | refine blk_drew ?_ | refine blk_alloc ?_ _)); refine blk_put (cs := #[.string (⟨#[]⟩ : ByteArray), .int .i64 0]) ?_ 0 _ rfl; (with_reducible repeat (first | refine blk_drewN ?_ _ | refine blk_drew ?_ | refine blk_alloc ?_ _)); exact BK1010.out) hb); have n2_ := Aside0.mk (below_step (by repeat (first | (with_reducible first | exact HB.out | apply below_alloc | apply pw_below_drewN | apply below_drew1 | refine below_set ?_ GE1010.out) | exact HB.out)) hb); clear BK1010; clear HB; have HO1013 := n0_; have BK1010 := n1_; have HB := n2_; clear n0_ n1_ n2_; (try clear hb); (try clear hb2); (try clear hk); (try clear hi); (try clear ho0)) | ((with_reducible refine gate_dst (N := 20) rfl ?_); (try (refine gate_guard (by rfl) ?_; dsimp only)); refine Kd.R_lit (Kd.int .i64) _ 3 ?hg (N := 20) ?hd (xs := ([2, 3] : List Int)) (inner := [.int .i64 2, .int .i64 3]) (ok := fun _ => True) (okp := fun _ => True) ?hr ?hp (fun _ hk => hk) trivial (Below.refl _ _) (Nat.le_refl _) (by simp) ?_; (case hd => rfl); (case hg => rfl); (case hr => first | (go_simp; done) | (go_simp; rfl)); (case hp => exact (Reps.one (show Kd.M (Kd.int .i64) _ _ _ 2 [.int .i64 2] from rfl) (Reps.one (show Kd.M (Kd.int .i64) _ _ _ 3 [.int .i64 3] from rfl) (Reps.none _ _)))); intro v1017 w64 ho65 hb hg_ hnew_; clear hg_ hnew_; (first | rw [← Ny1016.out] at ho65 | (simp only [Int.reduceToNat] at ho65; rw [← Ny1016.out] at ho65)); have n0_ := Aside0.mk (Kd.R_elder' (by (with_reducible repeat (first | apply Kd.R_alloc | apply Kd.R_drewN | apply Kd.R_drew)); exact HO1013.out) (Kd.R_base ho65) hb); have n1_ := Aside0.mk (Kd.R_lower (Kd.R_new' ho65 (Kd.R_lt (by (with_reducible repeat (first | apply Kd.R_alloc | apply Kd.R_drewN | apply Kd.R_drew)); exact HO1013.out))) (below_size (by repeat (first | (with_reducible first | exact HB.out | apply below_alloc | apply pw_below_drewN | apply below_drew1 | refine below_set ?_ GE1010.out) | exact HB.out)))); have n2_ := Aside0.mk (blk_below (g := gb1010) (o := .cells #[.string t1007, .int .i64 t1008] 27 (0, 0)) (by (with_reducible repeat (first | refine blk_drewN ?_ _ | refine blk_drew ?_ | refine blk_alloc ?_ _)); exact BK1010.out) hb); have n3_ := Aside0.mk (below_step (by repeat (first | (with_reducible first | exact HB.out | apply below_alloc | apply pw_below_drewN | apply below_drew1 | refine below_set ?_ GE1010.out) | exact HB.out)) hb); clear HO1013; clear BK1010; clear HB; have HO1013 := n0_; have HO1018 := n1_; have BK1010 := n2_; have HB := n3_; clear n0_ n1_ n2_ n3_; clear hb ho65; obtain ⟨Ao66, co66, eo66⟩ := Kd.R_slice HO1018.out; subst eo66) | ((with_reducible refine gate_callee (f := 74) rfl ?_); refine goesL_ (some 21) rfl rfl Try.func74 (by kernel_rfl) rfl #[.int .i64 2, .slice Ao66 y1016.length co66] rfl (by (try simp only [List.map_toArray, List.map_cons, List.map_nil]); first | done | rfl | (simp only [List.length_drop, List.length_take]; rfl)) ?_; (with_reducible refine (gaps_Size.calls 2 _ _ y1016 t1019 t1020 _ ?side1 ?side2 A3.out).mono ?_); (case side1 => repeat (first | exact (Kd.R_reads' HO1018.out).2.2 | (with_reducible refine Kd.C_alloc ?_ _) | (with_reducible refine Kd.C_drewN ?_ _) | (with_reducible refine Kd.C_drew ?_))); (case side2 => exact (Kd.R_reads' HO1018.out).2.1); rintro e w67 ⟨rfl, hb⟩; refine ⟨_, rfl, ?_⟩; have n0_ := Aside0.mk (Kd.R_below (by (with_reducible repeat (first | apply Kd.R_alloc | apply Kd.R_drewN | apply Kd.R_drew)); exact HO1013.out) hb); have n1_ := Aside0.mk (Kd.R_below (by (with_reducible repeat (first | apply Kd.R_alloc | apply Kd.R_drewN | apply Kd.R_drew)); exact HO1018.out) hb); have n2_ := Aside0.mk (blk_below (g := gb1010) (o := .cells #[.string t1007, .int .i64 t1008] 27 (0, 0)) (by (with_reducible repeat (first | refine blk_drewN ?_ _ | refine blk_drew ?_ | refine blk_alloc ?_ _)); exact BK1010.out) hb); have n3_ := Aside0.mk (below_step (by repeat (first | (with_reducible first | exact HB.out | apply below_alloc | apply pw_below_drewN | apply below_drew1 | refine below_set ?_ GE1010.out) | exact HB.out)) hb); clear HO1013; clear HO1018; clear BK1010; clear HB; have HO1013 := n0_; have HO1018 := n1_; have BK1010 := n2_; have HB := n3_; clear n0_ n1_ n2_ n3_; (try clear hb); (try clear hb2); (try clear hk); (try clear hi)) | ((with_reducible refine gate_callee (f := 72) rfl ?_); refine goesL_ (some 25) rfl rfl Try.func72 (by kernel_rfl) rfl #[.int .i64 t1009] rfl (by (try simp only [List.map_toArray, List.map_cons, List.map_nil]); first | done | rfl | (simp only [List.length_drop, List.length_take]; rfl)) ?_; (with_reducible refine (herbariumlaw3_num.calls t1009 t1021 _ A4.out).mono ?_); rintro e w' ⟨rfl, ⟨nd, rfl⟩⟩; refine ⟨_, rfl, ?_⟩) | (go_at_call 72; (with_reducible refine (herbariumlaw3_num.calls t1015 t1022 _ A6.out).mono ?_); rintro e w' ⟨rfl, ⟨nd, rfl⟩⟩))
   go_ret
   exact ⟨by first | rfl | (simp [errW_none, errW_some] <;> rfl) | (simp [*, errW_none, errW_some] <;> rfl), by repeat (first | (with_reducible first | exact HB.out | apply below_alloc | apply pw_below_drewN | apply below_drew1 | refine below_set ?_ GE1010.out) | exact HB.out)⟩
 ·
  rw [if_neg c5] at H
  have c5b0 : (t1021 == 0) = false := beq_eq_false_iff_ne.mpr c5
  have c5b1 : (t1021 != 0) = true := bne_iff_ne.mpr c5
  obtain rfl := Option.some.inj H
  go_enter Try.func76, Try.ntmps76
  go_wp2_with (first | ((with_reducible refine gate_callee (f := 71) rfl ?_); refine goesL_ (some 10) rfl rfl Try.func71 (by kernel_rfl) rfl #[.agg #[.string (⟨#[]⟩ : ByteArray), .int .i64 0], .int .i64 0, .slice none 0 0] rfl (by (try simp only [List.map_toArray, List.map_cons, List.map_nil]); first | done | rfl | (simp only [List.length_drop, List.length_take]; rfl)) ?_; (refine (gaps_Put.calls (⟨#[]⟩ : ByteArray) 0 0 _ _ ([] : List Int) t1007 t1008 t1009 _ ?side1 ?side2 A1.out).mono ?_); (case side1 => exact Kd.C_nil _ _); (case side2 => exact Nat.le_refl _); rintro e w68 ⟨rfl, hb⟩; refine ⟨_, rfl, ?_⟩; have n0_ := Aside0.mk (below_step (by repeat (first | (with_reducible first | exact HB.out | apply below_alloc | apply pw_below_drewN | apply below_drew1) | exact HB.out)) hb); clear HB; have HB := n0_; clear n0_; (try clear hb); (try clear hb2); (try clear hk); (try clear hi)) | ((with_reducible refine gate_dst (N := 1) rfl ?_); (try (refine gate_guard (by rfl) ?_; dsimp only)); refine box_event ?hg (N := 1) ?hd (cs := #[.string (⟨#[]⟩ : ByteArray), .int .i64 0]) (t := 27) ?hr ?_; (case hd => rfl); (case hg => rfl); (case hr => first | (go_simp; done) | (go_simp; rfl)); intro gb1010 hg w69 hbox hb; have n0_ := Aside0.mk (below_step (by repeat (first | (with_reducible first | exact HB.out | apply below_alloc | apply pw_below_drewN | apply below_drew1) | exact HB.out)) hb); have n1_ := Aside0.mk (hbox); have n2_ := Aside0.mk ((by rw [hg]; exact (below_size (by repeat (first | (with_reducible first | exact HB.out | apply below_alloc | apply pw_below_drewN | apply below_drew1) | exact HB.out))) : w.heap.size ≤ gb1010)); have n3_ := Aside0.mk ((by rw [hg]; exact (below_size (by repeat (first | (with_reducible first | exact HB.out | apply below_alloc | apply pw_below_drewN | apply below_drew1) | exact HB.out))) : w.heap.size ≤ gb1010)); clear HB; have HB := n0_; have BK1010 := n1_; have GW1010 := n2_; have GE1010 := n3_; clear n0_ n1_ n2_ n3_; clear hb hbox hg; have hcz70_0 : w69.cell? ⟨gb1010, 0, none⟩ = some (.string (⟨#[]⟩ : ByteArray)) := (blk_cell BK1010.out 0).trans rfl; have hcz70_1 : w69.cell? ⟨gb1010, 1, none⟩ = some (.int .i64 0) := (blk_cell BK1010.out 1).trans rfl; have hfz70_0 := blk_frozen BK1010.out 0; have hfz70_1 := blk_frozen BK1010.out 1) | ((with_reducible refine gate_callee (f := 73) rfl ?_); refine goesL_ (some 15) rfl rfl Try.func73 (by kernel_rfl) rfl #[.agg #[.string t1007, .int .i64 t1008], .int .i64 0, .int .i64 0] rfl (by (try simp only [List.map_toArray, List.map_cons, List.map_nil]); first | done | rfl | (simp only [List.length_drop, List.length_take]; rfl)) ?_; (with_reducible refine (gaps_Take.calls k t1007 t1008 0 0 t1011 t1014 t1015 _ A2.out).mono ?_); rintro e w71 ⟨v1012, rfl, ho0, hb⟩; refine ⟨_, rfl, ?_⟩; have n0_ := Aside0.mk (Kd.R_lower ho0 (below_size (by repeat (first | (with_reducible first | exact HB.out | apply below_alloc | apply pw_below_drewN | apply below_drew1 | refine below_set ?_ GE1010.out) | exact HB.out)))); have n1_ := Aside0.mk (blk_below (g := gb1010) (o := .cells #[.string t1007, .int .i64 t1008] 27 (0, 0)) (by (with_reducible repeat (first | refine blk_drewN ?_ _ | refine blk_drew ?_ | refine blk_alloc ?_ _)); refine blk_put (cs := #[.string t1007, .int .i64 0]) ?_ 1 _ rfl; (with_reducible repeat (first | refine blk_drewN ?_ _ | refine blk_drew ?_ | refine blk_alloc ?_ _)); refine blk_put (cs := #[.string (⟨#[]⟩ : ByteArray), .int .i64 0]) ?_ 0 _ rfl; (with_reducible repeat (first | refine blk_drewN ?_ _ | refine blk_drew ?_ | refine blk_alloc ?_ _)); exact BK1010.out) hb); have n2_ := Aside0.mk (below_step (by repeat (first | (with_reducible first | exact HB.out | apply below_alloc | apply pw_below_drewN | apply below_drew1 | refine below_set ?_ GE1010.out) | exact HB.out)) hb); clear BK1010; clear HB; have HO1013 := n0_; have BK1010 := n1_; have HB := n2_; clear n0_ n1_ n2_; (try clear hb); (try clear hb2); (try clear hk); (try clear hi); (try clear ho0)) | ((with_reducible refine gate_dst (N := 20) rfl ?_); (try (refine gate_guard (by rfl) ?_; dsimp only)); refine Kd.R_lit (Kd.int .i64) _ 3 ?hg (N := 20) ?hd (xs := ([2, 3] : List Int)) (inner := [.int .i64 2, .int .i64 3]) (ok := fun _ => True) (okp := fun _ => True) ?hr ?hp (fun _ hk => hk) trivial (Below.refl _ _) (Nat.le_refl _) (by simp) ?_; (case hd => rfl); (case hg => rfl); (case hr => first | (go_simp; done) | (go_simp; rfl)); (case hp => exact (Reps.one (show Kd.M (Kd.int .i64) _ _ _ 2 [.int .i64 2] from rfl) (Reps.one (show Kd.M (Kd.int .i64) _ _ _ 3 [.int .i64 3] from rfl) (Reps.none _ _)))); intro v1017 w72 ho73 hb hg_ hnew_; clear hg_ hnew_; (first | rw [← Ny1016.out] at ho73 | (simp only [Int.reduceToNat] at ho73; rw [← Ny1016.out] at ho73)); have n0_ := Aside0.mk (Kd.R_elder' (by (with_reducible repeat (first | apply Kd.R_alloc | apply Kd.R_drewN | apply Kd.R_drew)); exact HO1013.out) (Kd.R_base ho73) hb); have n1_ := Aside0.mk (Kd.R_lower (Kd.R_new' ho73 (Kd.R_lt (by (with_reducible repeat (first | apply Kd.R_alloc | apply Kd.R_drewN | apply Kd.R_drew)); exact HO1013.out))) (below_size (by repeat (first | (with_reducible first | exact HB.out | apply below_alloc | apply pw_below_drewN | apply below_drew1 | refine below_set ?_ GE1010.out) | exact HB.out)))); have n2_ := Aside0.mk (blk_below (g := gb1010) (o := .cells #[.string t1007, .int .i64 t1008] 27 (0, 0)) (by (with_reducible repeat (first | refine blk_drewN ?_ _ | refine blk_drew ?_ | refine blk_alloc ?_ _)); exact BK1010.out) hb); have n3_ := Aside0.mk (below_step (by repeat (first | (with_reducible first | exact HB.out | apply below_alloc | apply pw_below_drewN | apply below_drew1 | refine below_set ?_ GE1010.out) | exact HB.out)) hb); clear HO1013; clear BK1010; clear HB; have HO1013 := n0_; have HO1018 := n1_; have BK1010 := n2_; have HB := n3_; clear n0_ n1_ n2_ n3_; clear hb ho73; obtain ⟨Ao74, co74, eo74⟩ := Kd.R_slice HO1018.out; subst eo74) | ((with_reducible refine gate_callee (f := 74) rfl ?_); refine goesL_ (some 21) rfl rfl Try.func74 (by kernel_rfl) rfl #[.int .i64 2, .slice Ao74 y1016.length co74] rfl (by (try simp only [List.map_toArray, List.map_cons, List.map_nil]); first | done | rfl | (simp only [List.length_drop, List.length_take]; rfl)) ?_; (with_reducible refine (gaps_Size.calls 2 _ _ y1016 t1019 t1020 _ ?side1 ?side2 A3.out).mono ?_); (case side1 => repeat (first | exact (Kd.R_reads' HO1018.out).2.2 | (with_reducible refine Kd.C_alloc ?_ _) | (with_reducible refine Kd.C_drewN ?_ _) | (with_reducible refine Kd.C_drew ?_))); (case side2 => exact (Kd.R_reads' HO1018.out).2.1); rintro e w75 ⟨rfl, hb⟩; refine ⟨_, rfl, ?_⟩; have n0_ := Aside0.mk (Kd.R_below (by (with_reducible repeat (first | apply Kd.R_alloc | apply Kd.R_drewN | apply Kd.R_drew)); exact HO1013.out) hb); have n1_ := Aside0.mk (Kd.R_below (by (with_reducible repeat (first | apply Kd.R_alloc | apply Kd.R_drewN | apply Kd.R_drew)); exact HO1018.out) hb); have n2_ := Aside0.mk (blk_below (g := gb1010) (o := .cells #[.string t1007, .int .i64 t1008] 27 (0, 0)) (by (with_reducible repeat (first | refine blk_drewN ?_ _ | refine blk_drew ?_ | refine blk_alloc ?_ _)); exact BK1010.out) hb); have n3_ := Aside0.mk (below_step (by repeat (first | (with_reducible first | exact HB.out | apply below_alloc | apply pw_below_drewN | apply below_drew1 | refine below_set ?_ GE1010.out) | exact HB.out)) hb); clear HO1013; clear HO1018; clear BK1010; clear HB; have HO1013 := n0_; have HO1018 := n1_; have BK1010 := n2_; have HB := n3_; clear n0_ n1_ n2_ n3_; (try clear hb); (try clear hb2); (try clear hk); (try clear hi)) | ((with_reducible refine gate_callee (f := 72) rfl ?_); refine goesL_ (some 25) rfl rfl Try.func72 (by kernel_rfl) rfl #[.int .i64 t1009] rfl (by (try simp only [List.map_toArray, List.map_cons, List.map_nil]); first | done | rfl | (simp only [List.length_drop, List.length_take]; rfl)) ?_; (with_reducible refine (herbariumlaw3_num.calls t1009 t1021 _ A4.out).mono ?_); rintro e w' ⟨rfl, ⟨nd, rfl⟩⟩; refine ⟨_, rfl, ?_⟩))
  go_ret
  exact ⟨by first | rfl | (simp [errW_none, errW_some] <;> rfl) | (simp [*, errW_none, errW_some] <;> rfl), by repeat (first | (with_reducible first | exact HB.out | apply below_alloc | apply pw_below_drewN | apply below_drew1 | refine below_set ?_ GE1010.out) | exact HB.out)⟩
end Go.Proofs.Ytnpghcikhpglkaa.Q
namespace Go.Proofs.Ytnpghcikhpglkaa.Q
open Go.RowKit Go.Proofs.YtnpghcikhpglkaaW.PrintWords Go.Proofs.YtnpghcikhpglkaaW.PrintLast Go.Proofs.YtnpghcikhpglkaaW.PrintMore
attribute [local go_sem] max2_int min2_int max_two min_two max_three min_three max_four min_four   -- for this text's walks alone
set_option linter.unusedVariables false
set_option linter.unusedSimpArgs false

/-! ### herbariumlaw3_GapsBack: function 21 -/
mutual
def herbariumlaw3_GapsBack.l0 : Nat → List (List Int) → Int → Option (Bool)
 | 0, _, _ => none
 | k + 1, x3, x4 => if x4 < (x3.length : Int) then (herbariumlaw3_GapsBack.l1 k x3 x4 0) else ((herbariumlaw3_wakes.f k).bind fun t1029 => (some t1029))
def herbariumlaw3_GapsBack.l1 : Nat → List (List Int) → Int → Int → Option (Bool)
 | 0, _, _, _ => none
 | k + 1, x3, x4, x5 => if x5 < 16 then (if 0 ≤ x4 then (if x4 < (x3.length : Int) then ((gaps_Put.f (⟨#[64]⟩ : ByteArray) 3 x5 (rd_L7 x3 x4)).bind fun bt1031 => ((herbariumlaw3_num.f bt1031.2.2).bind fun t1035 => (if t1035 = 0 then ((gaps_Put.f bt1031.1 bt1031.2.1 0 (([1, 5] : List Int))).bind fun bt1039 => ((gaps_Take.f k bt1039.1 bt1039.2.1 3 x5).bind fun bt1043 => ((gaps_Take.f k bt1039.1 bt1039.2.1 bt1043.2.1 0).bind fun bt1048 => ((gaps_Size.f x5 (rd_L7 x3 x4)).bind fun bt1054 => ((herbariumlaw3_num.f bt1039.2.2).bind fun t1056 => ((herbariumlaw3_num.f bt1043.2.2).bind fun t1057 => ((herbariumlaw3_num.f bt1048.2.2).bind fun t1058 => ((herbariumlaw3_num.f bt1054.2).bind fun t1059 => (if (wrap64 ((wrap64 ((wrap64 (t1056 + t1057)) + t1058)) + t1059)) = 0 then ((herbariumref0_EqNumbers.f k bt1043.1 (rd_L7 x3 x4)).bind fun t1061 => (if t1061 = true then (if bt1043.2.1 = bt1031.2.1 then ((herbariumref0_EqNumbers.f k bt1048.1 (([1, 5] : List Int))).bind fun t1065 => (if t1065 = true then (if bt1048.2.1 = bt1039.2.1 then (herbariumlaw3_GapsBack.j2 k x3 x4 x5 bt1054.1 (bt1054.1 != (wrap64 (bt1031.2.1 - 3)))) else (herbariumlaw3_GapsBack.j2 k x3 x4 x5 bt1054.1 true)) else (herbariumlaw3_GapsBack.j2 k x3 x4 x5 bt1054.1 true))) else (herbariumlaw3_GapsBack.j2 k x3 x4 x5 bt1054.1 true)) else (herbariumlaw3_GapsBack.j2 k x3 x4 x5 bt1054.1 true))) else (herbariumlaw3_GapsBack.j2 k x3 x4 x5 bt1054.1 true)))))))))) else (herbariumlaw3_GapsBack.l1 k x3 x4 (wrap64 (x5 + 3)))))) else (none)) else (none)) else (herbariumlaw3_GapsBack.l0 k x3 (wrap64 (x4 + 1)))
def herbariumlaw3_GapsBack.j2 : Nat → List (List Int) → Int → Int → Int → Bool → Option (Bool)
 | 0, _, _, _, _, _ => none
 | k + 1, x3, x4, x5, x16, x121 => if x121 = true then (some false) else (if 0 ≤ x4 then (if x4 < (x3.length : Int) then (if ((rd_L7 x3 x4).length : Int) > 1 then (if 0 ≤ (wrap64 (((rd_L7 x3 x4).length : Int) - 1)) then (if (wrap64 (((rd_L7 x3 x4).length : Int) - 1)) ≤ ((rd_L7 x3 x4).length : Int) then ((gaps_Size.f x5 ((rd_L7 x3 x4).take ((wrap64 (((rd_L7 x3 x4).length : Int) - 1)) : Int).toNat)).bind fun bt1074 => ((herbariumlaw3_num.f bt1074.2).bind fun t1076 => (if t1076 = 0 then (if bt1074.1 > x16 then (some false) else (herbariumlaw3_GapsBack.l1 k x3 x4 (wrap64 (x5 + 3)))) else (some false)))) else (none)) else (none)) else (herbariumlaw3_GapsBack.l1 k x3 x4 (wrap64 (x5 + 3)))) else (none)) else (none))
end
def herbariumlaw3_GapsBack.f (k : Nat) (l0_0 : List (List Int)) (l0_1 : List (S27)) (l0_2 : List Int) : Option (Bool) := (herbariumlaw3_Heavy.f k l0_0 l0_1 l0_2).bind fun t1025 => (if t1025 = true then (some true) else ((herbariumlaw3_Lists.f l0_0 l0_1 l0_2).bind fun t1026 => (herbariumlaw3_GapsBack.l0 k t1026 0)))
theorem herbariumlaw3_GapsBack.mono_l : ∀ k, (∀ y0 y1, LeO (herbariumlaw3_GapsBack.l0 k y0 y1) (herbariumlaw3_GapsBack.l0 (k + 1) y0 y1)) ∧ (∀ y0 y1 y2, LeO (herbariumlaw3_GapsBack.l1 k y0 y1 y2) (herbariumlaw3_GapsBack.l1 (k + 1) y0 y1 y2)) ∧ (∀ y0 y1 y2 y3 y4, LeO (herbariumlaw3_GapsBack.j2 k y0 y1 y2 y3 y4) (herbariumlaw3_GapsBack.j2 (k + 1) y0 y1 y2 y3 y4))
 | 0 => ⟨fun _ _ r h => by simp [herbariumlaw3_GapsBack.l0] at h, fun _ _ _ r h => by simp [herbariumlaw3_GapsBack.l1] at h, fun _ _ _ _ _ r h => by simp [herbariumlaw3_GapsBack.j2] at h⟩
 | k + 1 => by
  obtain ⟨ih0, ih1, ih2⟩ := herbariumlaw3_GapsBack.mono_l k
  refine ⟨?_, ?_, ?_⟩
  ·
   intro y0 y1
   unfold herbariumlaw3_GapsBack.l0
   repeat' first
   | (with_reducible exact ih0 _ _)
   | (with_reducible exact ih1 _ _ _)
   | (with_reducible exact ih2 _ _ _ _ _)
   | (with_reducible exact gaps_Take.mono _ _ _ _ _)
   | (with_reducible exact herbariumlaw3_Heavy.mono _ _ _ _)
   | (with_reducible exact herbariumlaw3_wakes.mono _)
   | (with_reducible exact herbariumref0_EqNumbers.mono _ _ _)
   | (with_reducible exact LeO.refl _)
   | (with_reducible exact LeO.none _)
   | (with_reducible refine LeO.ite ?_ ?_)
   | (with_reducible refine LeO.bind ?_ (fun _ => ?_))
   | exact ih0 _ _
   | exact ih1 _ _ _
   | exact ih2 _ _ _ _ _
   | exact gaps_Take.mono _ _ _ _ _
   | exact herbariumlaw3_Heavy.mono _ _ _ _
   | exact herbariumlaw3_wakes.mono _
   | exact herbariumref0_EqNumbers.mono _ _ _
   | exact LeO.none _
   | refine LeO.ite ?_ ?_
   | refine LeO.bind ?_ (fun _ => ?_)
  ·
   intro y0 y1 y2
   unfold herbariumlaw3_GapsBack.l1
   repeat' first
   | (with_reducible exact ih0 _ _)
   | (with_reducible exact ih1 _ _ _)
   | (with_reducible exact ih2 _ _ _ _ _)
   | (with_reducible exact gaps_Take.mono _ _ _ _ _)
   | (with_reducible exact herbariumlaw3_Heavy.mono _ _ _ _)
   | (with_reducible exact herbariumlaw3_wakes.mono _)
   | (with_reducible exact herbariumref0_EqNumbers.mono _ _ _)
   | (with_reducible exact LeO.refl _)
   | (with_reducible exact LeO.none _)
   | (with_reducible refine LeO.ite ?_ ?_)
   | (with_reducible refine LeO.bind ?_ (fun _ => ?_))
   | exact ih0 _ _
   | exact ih1 _ _ _
   | exact ih2 _ _ _ _ _
   | exact gaps_Take.mono _ _ _ _ _
   | exact herbariumlaw3_Heavy.mono _ _ _ _
   | exact herbariumlaw3_wakes.mono _
   | exact herbariumref0_EqNumbers.mono _ _ _
   | exact LeO.none _
   | refine LeO.ite ?_ ?_
   | refine LeO.bind ?_ (fun _ => ?_)
  ·
   intro y0 y1 y2 y3 y4
   unfold herbariumlaw3_GapsBack.j2
   repeat' first
   | (with_reducible exact ih0 _ _)
   | (with_reducible exact ih1 _ _ _)
   | (with_reducible exact ih2 _ _ _ _ _)
   | (with_reducible exact gaps_Take.mono _ _ _ _ _)
   | (with_reducible exact herbariumlaw3_Heavy.mono _ _ _ _)
   | (with_reducible exact herbariumlaw3_wakes.mono _)
   | (with_reducible exact herbariumref0_EqNumbers.mono _ _ _)
   | (with_reducible exact LeO.refl _)
   | (with_reducible exact LeO.none _)
   | (with_reducible refine LeO.ite ?_ ?_)
   | (with_reducible refine LeO.bind ?_ (fun _ => ?_))
   | exact ih0 _ _
   | exact ih1 _ _ _
   | exact ih2 _ _ _ _ _
   | exact gaps_Take.mono _ _ _ _ _
   | exact herbariumlaw3_Heavy.mono _ _ _ _
   | exact herbariumlaw3_wakes.mono _
   | exact herbariumref0_EqNumbers.mono _ _ _
   | exact LeO.none _
   | refine LeO.ite ?_ ?_
   | refine LeO.bind ?_ (fun _ => ?_)
theorem herbariumlaw3_GapsBack.mono : ∀ a0 a1 a2 k, LeO (herbariumlaw3_GapsBack.f k a0 a1 a2) (herbariumlaw3_GapsBack.f (k + 1) a0 a1 a2) := by
 intro a0 a1 a2 k
 obtain ⟨ih0, ih1, ih2⟩ := herbariumlaw3_GapsBack.mono_l k
 unfold herbariumlaw3_GapsBack.f
 repeat' first
   | (with_reducible exact ih0 _ _)
   | (with_reducible exact ih1 _ _ _)
   | (with_reducible exact ih2 _ _ _ _ _)
   | (with_reducible exact gaps_Take.mono _ _ _ _ _)
   | (with_reducible exact herbariumlaw3_Heavy.mono _ _ _ _)
   | (with_reducible exact herbariumlaw3_wakes.mono _)
   | (with_reducible exact herbariumref0_EqNumbers.mono _ _ _)
   | (with_reducible exact LeO.refl _)
   | (with_reducible exact LeO.none _)
   | (with_reducible refine LeO.ite ?_ ?_)
   | (with_reducible refine LeO.bind ?_ (fun _ => ?_))
   | exact ih0 _ _
   | exact ih1 _ _ _
   | exact ih2 _ _ _ _ _
   | exact gaps_Take.mono _ _ _ _ _
   | exact herbariumlaw3_Heavy.mono _ _ _ _
   | exact herbariumlaw3_wakes.mono _
   | exact herbariumref0_EqNumbers.mono _ _ _
   | exact LeO.none _
   | refine LeO.ite ?_ ?_
   | refine LeO.bind ?_ (fun _ => ?_)
def herbariumlaw3_GapsBack.T19 : Bool × List (List Nat × List Nat) := (true, [([], []), ([], []), ([], []), ([1, 2], [1, 2]), ([3], [3]), ([], []), ([], []), ([5, 6], [5, 6]), ([7], [7]), ([8], [8]), ([9], [9]), ([4, 10], [4, 10]), ([0, 11], [0, 11]), ([12], [12]), ([13], [13]), ([13], [13]), ([14, 12, 0, 1, 2, 3, 4, 5, 6, 7, 8, 9, 10, 11, 12, 13, 14], [14]), ([15, 16, 0, 1, 2, 3, 4, 5, 6, 7, 8, 9, 10, 11, 12, 13, 14, 15, 16], [15])])
def herbariumlaw3_GapsBack.B19 : List Nat := [0, 0, 0, 6, 14, 0, 0, 96, 224, 480, 992, 2046, 4095, 8191, 16383, 16383, 32767, 131071]
theorem herbariumlaw3_GapsBack.tab19 : rtab .any (opsOf Try.f21 19) = herbariumlaw3_GapsBack.T19 := by kernel_rfl
theorem herbariumlaw3_GapsBack.bits19 : waitsOk herbariumlaw3_GapsBack.T19.2 herbariumlaw3_GapsBack.B19 = true := by kernel_rfl
theorem herbariumlaw3_GapsBack.j2_no (k : Nat) (y0 : List (List Int)) (y1 y2 y3 : Int) : ¬ (herbariumlaw3_GapsBack.j2 k y0 y1 y2 y3 true  = some true) := by
 cases k with
 | zero => simp [herbariumlaw3_GapsBack.j2]
 | succ k => rw [herbariumlaw3_GapsBack.j2, if_pos rfl]; simp
set_option maxHeartbeats 8000000 in
set_option maxRecDepth 100000 in
theorem herbariumlaw3_GapsBack.calls (k : Nat) (A0_0 : Option Addr) (c0_0 : Nat) (l0_0 : List (List Int)) (A0_1 : Option Addr) (c0_1 : Nat) (l0_1 : List (S27)) (A0_2 : Option Addr) (c0_2 : Nat) (l0_2 : List Int) (w : World) (hr0_0 : Kd.C (Kd.slice 3 (Kd.int .i64)) w A0_0 l0_0.length l0_0) (hc0_0 : l0_0.length ≤ c0_0) (hr0_1 : Kd.C k27 w A0_1 l0_1.length l0_1) (hc0_1 : l0_1.length ≤ c0_1) (hr0_2 : Kd.C (Kd.int .i64) w A0_2 l0_2.length l0_2) (hc0_2 : l0_2.length ≤ c0_2) (h : herbariumlaw3_GapsBack.f k l0_0 l0_1 l0_2 = some true) :
  Calls Try.prog 21 #[.agg #[.slice A0_0 l0_0.length c0_0, .slice A0_1 l0_1.length c0_1, .slice A0_2 l0_2.length c0_2]] w fun e w' => e = .returned (.bool true) ∧ Below w.heap.size w w' := by
 have hu78 := Try.underlying78
 have hu27 := Try.underlying27
 have HR0_0 := Aside0.mk hr0_0
 have HC0_0 := Aside0.mk hc0_0
 clear hr0_0 hc0_0
 have HR0_1 := Aside0.mk hr0_1
 have HC0_1 := Aside0.mk hc0_1
 clear hr0_1 hc0_1
 have HR0_2 := Aside0.mk hr0_2
 have HC0_2 := Aside0.mk hc0_2
 clear hr0_2 hc0_2
 have HB := Aside0.mk (Below.refl w.heap.size w)
 have H : ((herbariumlaw3_Heavy.f k l0_0 l0_1 l0_2).bind fun t1025 => (if t1025 = true then (some true) else ((herbariumlaw3_Lists.f l0_0 l0_1 l0_2).bind fun t1026 => (herbariumlaw3_GapsBack.l0 k t1026 0)))) = some true := h
 clear h
 replace H := Option.bind_eq_some_iff.mp H
 obtain ⟨t1025, A20, H⟩ := H
 replace H : (if t1025 = true then (some true) else ((herbariumlaw3_Lists.f l0_0 l0_1 l0_2).bind fun t1026 => (herbariumlaw3_GapsBack.l0 k t1026 0))) = some true := H
 have A2 := Aside0.mk A20
 clear A20
 by_cases c3 : t1025 = true
 ·
  subst c3
  have H1 : (some true) = some true := rfl
  clear H
  have H := H1
  clear H1
  clear H
  go_enter Try.func21, Try.ntmps21
  go_wp2_with (first | ((with_reducible refine gate_dst (N := 1) rfl ?_); (try (refine gate_guard (by rfl) ?_; dsimp only)); refine box_event ?hg (N := 1) ?hd (cs := #[.slice A0_0 l0_0.length c0_0, .slice A0_1 l0_1.length c0_1, .slice A0_2 l0_2.length c0_2]) (t := 78) ?hr ?_; (case hd => rfl); (case hg => rfl); (case hr => first | (go_simp; done) | (go_simp; rfl)); intro gb1024 hg w4 hbox hb; have n0_ := Aside0.mk (below_step (by repeat (first | (with_reducible first | exact HB.out | apply below_alloc | apply pw_below_drewN | apply below_drew1) | exact HB.out)) hb); have n1_ := Aside0.mk (hbox); have n2_ := Aside0.mk ((by rw [hg]; exact (below_size (by repeat (first | (with_reducible first | exact HB.out | apply below_alloc | apply pw_below_drewN | apply below_drew1) | exact HB.out))) : w.heap.size ≤ gb1024)); have n3_ := Aside0.mk ((by rw [hg]; exact (below_size (by repeat (first | (with_reducible first | exact HB.out | apply below_alloc | apply pw_below_drewN | apply below_drew1) | exact HB.out))) : w.heap.size ≤ gb1024)); clear HB; have HB := n0_; have BK1024 := n1_; have GW1024 := n2_; have GE1024 := n3_; clear n0_ n1_ n2_ n3_; clear hb hbox hg; have hcz5_0 : w4.cell? ⟨gb1024, 0, none⟩ = some (.slice A0_0 l0_0.length c0_0) := (blk_cell BK1024.out 0).trans rfl; have hcz5_1 : w4.cell? ⟨gb1024, 1, none⟩ = some (.slice A0_1 l0_1.length c0_1) := (blk_cell BK1024.out 1).trans rfl; have hcz5_2 : w4.cell? ⟨gb1024, 2, none⟩ = some (.slice A0_2 l0_2.length c0_2) := (blk_cell BK1024.out 2).trans rfl; have hfz5_0 := blk_frozen BK1024.out 0; have hfz5_1 := blk_frozen BK1024.out 1; have hfz5_2 := blk_frozen BK1024.out 2) | ((with_reducible refine gate_callee (f := 69) rfl ?_); refine goesL_ (some 21) rfl rfl Try.func69 (by kernel_rfl) rfl #[.agg #[.slice A0_0 l0_0.length c0_0, .slice A0_1 l0_1.length c0_1, .slice A0_2 l0_2.length c0_2]] rfl (by (try simp only [List.map_toArray, List.map_cons, List.map_nil]); first | done | rfl | (simp only [List.length_drop, List.length_take]; rfl)) ?_; (with_reducible refine (herbariumlaw3_Heavy.calls k _ _ l0_0 _ _ l0_1 _ _ l0_2 true _ ?side1 ?side2 ?side3 ?side4 ?side5 ?side6 A2.out).mono ?_); (case side1 => repeat (first | exact (Kd.C_below HR0_0.out HB.out) | (with_reducible refine Kd.C_alloc ?_ _) | (with_reducible refine Kd.C_drewN ?_ _) | (with_reducible refine Kd.C_drew ?_))); (case side2 => exact HC0_0.out); (case side3 => repeat (first | exact (Kd.C_below HR0_1.out HB.out) | (with_reducible refine Kd.C_alloc ?_ _) | (with_reducible refine Kd.C_drewN ?_ _) | (with_reducible refine Kd.C_drew ?_))); (case side4 => exact HC0_1.out); (case side5 => repeat (first | exact (Kd.C_below HR0_2.out HB.out) | (with_reducible refine Kd.C_alloc ?_ _) | (with_reducible refine Kd.C_drewN ?_ _) | (with_reducible refine Kd.C_drew ?_))); (case side6 => exact HC0_2.out); rintro e w6 ⟨rfl, hb⟩; refine ⟨_, rfl, ?_⟩; have n0_ := Aside0.mk (blk_below (g := gb1024) (o := .cells #[.slice A0_0 l0_0.length c0_0, .slice A0_1 l0_1.length c0_1, .slice A0_2 l0_2.length c0_2] 78 (0, 0)) (by (with_reducible repeat (first | refine blk_drewN ?_ _ | refine blk_drew ?_ | refine blk_alloc ?_ _)); exact BK1024.out) hb); have n1_ := Aside0.mk (below_step (by repeat (first | (with_reducible first | exact HB.out | apply below_alloc | apply pw_below_drewN | apply below_drew1 | refine below_set ?_ GE1024.out) | exact HB.out)) hb); clear BK1024; clear HB; have BK1024 := n0_; have HB := n1_; clear n0_ n1_; (try clear hb); (try clear hb2); (try clear hk); (try clear hi)))
  go_ret
  exact ⟨by first | rfl | (simp [errW_none, errW_some] <;> rfl) | (simp [*, errW_none, errW_some] <;> rfl), by repeat (first | (with_reducible first | exact HB.out | apply below_alloc | apply pw_below_drewN | apply below_drew1 | refine below_set ?_ GE1024.out) | exact HB.out)⟩
 ·
  replace c3 := Bool.eq_false_iff.mpr c3
  subst c3
  have H1 : ((herbariumlaw3_Lists.f l0_0 l0_1 l0_2).bind fun t1026 => (herbariumlaw3_GapsBack.l0 k t1026 0)) = some true := by rw [if_neg (show ¬ (false = true) by decide)] at H; exact H
  clear H
  have H := H1
  clear H1
  replace H := Option.bind_eq_some_iff.mp H
  obtain ⟨t1026, A70, H⟩ := H
  replace H : (herbariumlaw3_GapsBack.l0 k t1026 0) = some true := H
  have A7 := Aside0.mk A70
  clear A70
  have H' := Aside0.mk H
  clear H
  go_enter Try.func21, Try.ntmps21
  go_wp2_with (first | ((with_reducible refine gate_dst (N := 1) rfl ?_); (try (refine gate_guard (by rfl) ?_; dsimp only)); refine box_event ?hg (N := 1) ?hd (cs := #[.slice A0_0 l0_0.length c0_0, .slice A0_1 l0_1.length c0_1, .slice A0_2 l0_2.length c0_2]) (t := 78) ?hr ?_; (case hd => rfl); (case hg => rfl); (case hr => first | (go_simp; done) | (go_simp; rfl)); intro gb1024 hg w8 hbox hb; have n0_ := Aside0.mk (below_step (by repeat (first | (with_reducible first | exact HB.out | apply below_alloc | apply pw_below_drewN | apply below_drew1) | exact HB.out)) hb); have n1_ := Aside0.mk (hbox); have n2_ := Aside0.mk ((by rw [hg]; exact (below_size (by repeat (first | (with_reducible first | exact HB.out | apply below_alloc | apply pw_below_drewN | apply below_drew1) | exact HB.out))) : w.heap.size ≤ gb1024)); have n3_ := Aside0.mk ((by rw [hg]; exact (below_size (by repeat (first | (with_reducible first | exact HB.out | apply below_alloc | apply pw_below_drewN | apply below_drew1) | exact HB.out))) : w.heap.size ≤ gb1024)); clear HB; have HB := n0_; have BK1024 := n1_; have GW1024 := n2_; have GE1024 := n3_; clear n0_ n1_ n2_ n3_; clear hb hbox hg; have hcz9_0 : w8.cell? ⟨gb1024, 0, none⟩ = some (.slice A0_0 l0_0.length c0_0) := (blk_cell BK1024.out 0).trans rfl; have hcz9_1 : w8.cell? ⟨gb1024, 1, none⟩ = some (.slice A0_1 l0_1.length c0_1) := (blk_cell BK1024.out 1).trans rfl; have hcz9_2 : w8.cell? ⟨gb1024, 2, none⟩ = some (.slice A0_2 l0_2.length c0_2) := (blk_cell BK1024.out 2).trans rfl; have hfz9_0 := blk_frozen BK1024.out 0; have hfz9_1 := blk_frozen BK1024.out 1; have hfz9_2 := blk_frozen BK1024.out 2) | ((with_reducible refine gate_callee (f := 69) rfl ?_); refine goesL_ (some 21) rfl rfl Try.func69 (by kernel_rfl) rfl #[.agg #[.slice A0_0 l0_0.length c0_0, .slice A0_1 l0_1.length c0_1, .slice A0_2 l0_2.length c0_2]] rfl (by (try simp only [List.map_toArray, List.map_cons, List.map_nil]); first | done | rfl | (simp only [List.length_drop, List.length_take]; rfl)) ?_; (with_reducible refine (herbariumlaw3_Heavy.calls k _ _ l0_0 _ _ l0_1 _ _ l0_2 false _ ?side1 ?side2 ?side3 ?side4 ?side5 ?side6 A2.out).mono ?_); (case side1 => repeat (first | exact (Kd.C_below HR0_0.out HB.out) | (with_reducible refine Kd.C_alloc ?_ _) | (with_reducible refine Kd.C_drewN ?_ _) | (with_reducible refine Kd.C_drew ?_))); (case side2 => exact HC0_0.out); (case side3 => repeat (first | exact (Kd.C_below HR0_1.out HB.out) | (with_reducible refine Kd.C_alloc ?_ _) | (with_reducible refine Kd.C_drewN ?_ _) | (with_reducible refine Kd.C_drew ?_))); (case side4 => exact HC0_1.out); (case side5 => repeat (first | exact (Kd.C_below HR0_2.out HB.out) | (with_reducible refine Kd.C_alloc ?_ _) | (with_reducible refine Kd.C_drewN ?_ _) | (with_reducible refine Kd.C_drew ?_))); (case side6 => exact HC0_2.out); rintro e w10 ⟨rfl, hb⟩; refine ⟨_, rfl, ?_⟩; have n0_ := Aside0.mk (blk_below (g := gb1024) (o := .cells #[.slice A0_0 l0_0.length c0_0, .slice A0_1 l0_1.length c0_1, .slice A0_2 l0_2.length c0_2] 78 (0, 0)) (by (with_reducible repeat (first | refine blk_drewN ?_ _ | refine blk_drew ?_ | refine blk_alloc ?_ _)); exact BK1024.out) hb); have n1_ := Aside0.mk (below_step (by repeat (first | (with_reducible first | exact HB.out | apply below_alloc | apply pw_below_drewN | apply below_drew1 | refine below_set ?_ GE1024.out) | exact HB.out)) hb); clear BK1024; clear HB; have BK1024 := n0_; have HB := n1_; clear n0_ n1_; (try clear hb); (try clear hb2); (try clear hk); (try clear hi); have hcz11_0 : w10.cell? ⟨gb1024, 0, none⟩ = some (.slice A0_0 l0_0.length c0_0) := (blk_cell BK1024.out 0).trans rfl; have hcz11_1 : w10.cell? ⟨gb1024, 1, none⟩ = some (.slice A0_1 l0_1.length c0_1) := (blk_cell BK1024.out 1).trans rfl; have hcz11_2 : w10.cell? ⟨gb1024, 2, none⟩ = some (.slice A0_2 l0_2.length c0_2) := (blk_cell BK1024.out 2).trans rfl; have hfz11_0 := blk_frozen BK1024.out 0; have hfz11_1 := blk_frozen BK1024.out 1; have hfz11_2 := blk_frozen BK1024.out 2) | ((with_reducible refine gate_callee (f := 70) rfl ?_); refine goesL_ (some 23) rfl rfl Try.func70 (by kernel_rfl) rfl #[.agg #[.slice A0_0 l0_0.length c0_0, .slice A0_1 l0_1.length c0_1, .slice A0_2 l0_2.length c0_2]] rfl (by (try simp only [List.map_toArray, List.map_cons, List.map_nil]); first | done | rfl | (simp only [List.length_drop, List.length_take]; rfl)) ?_; (with_reducible refine (herbariumlaw3_Lists.calls (fun k_ => k_ < w.heap.size) _ _ l0_0 _ _ l0_1 _ _ l0_2 t1026 _ ?side1 ?side2 ?side3 ?side4 ?side5 A7.out).mono ?_); (case side1 => exact Kd.V_mk HC0_0.out (Kd.F_below (Kd.C_F (Kd.heap_slice 3 (Kd.heap_int .i64)) HR0_0.out) (by repeat (first | (with_reducible first | exact HB.out | apply below_alloc | apply pw_below_drewN | apply below_drew1 | refine below_set ?_ GE1024.out) | exact HB.out)))); (case side2 => repeat (first | exact (Kd.C_below HR0_1.out HB.out) | (with_reducible refine Kd.C_alloc ?_ _) | (with_reducible refine Kd.C_drewN ?_ _) | (with_reducible refine Kd.C_drew ?_))); (case side3 => exact HC0_1.out); (case side4 => repeat (first | exact (Kd.C_below HR0_2.out HB.out) | (with_reducible refine Kd.C_alloc ?_ _) | (with_reducible refine Kd.C_drewN ?_ _) | (with_reducible refine Kd.C_drew ?_))); (case side5 => exact HC0_2.out); rintro e w12 ⟨v1027, rfl, ho0, hb⟩; refine ⟨_, rfl, ?_⟩; have n0_ := Aside0.mk (Kd.N_lower (Kd.N_mono (ok' := fun k_ => k_ ≠ gb1024) ho0 (fun k_ hk_ => Or.elim hk_ (fun hs_ => fun e_ => Nat.not_le.2 hs_ (by rw [e_]; exact GW1024.out)) (fun hn_ => (Kd.freshB (g := gb1024) (o := .cells #[.slice A0_0 l0_0.length c0_0, .slice A0_1 l0_1.length c0_1, .slice A0_2 l0_2.length c0_2] 78 (0, 0)) (by (with_reducible repeat (first | refine blk_drewN ?_ _ | refine blk_drew ?_ | refine blk_alloc ?_ _)); exact BK1024.out) k_ hn_)))) (below_size (by repeat (first | (with_reducible first | exact HB.out | apply below_alloc | apply pw_below_drewN | apply below_drew1 | refine below_set ?_ GE1024.out) | exact HB.out)))); have n1_ := Aside0.mk (blk_below (g := gb1024) (o := .cells #[.slice A0_0 l0_0.length c0_0, .slice A0_1 l0_1.length c0_1, .slice A0_2 l0_2.length c0_2] 78 (0, 0)) (by (with_reducible repeat (first | refine blk_drewN ?_ _ | refine blk_drew ?_ | refine blk_alloc ?_ _)); exact BK1024.out) hb); have n2_ := Aside0.mk (below_step (by repeat (first | (with_reducible first | exact HB.out | apply below_alloc | apply pw_below_drewN | apply below_drew1 | refine below_set ?_ GE1024.out) | exact HB.out)) hb); clear BK1024; clear HB; have HO1028 := n0_; have BK1024 := n1_; have HB := n2_; clear n0_ n1_ n2_; (try clear hb); (try clear hb2); (try clear hk); (try clear hi); (try clear ho0)))
  go_loopg [4] k (fun kq v4 w' => ∃ (x4_1 : Int), v4 = .int .i64 x4_1 ∧ Aside0 (herbariumlaw3_GapsBack.l0 kq t1026 x4_1 = some true) ∧ Aside0 (kq ≤ k) ∧ Aside0 (Kd.N (Kd.slice 3 (Kd.int .i64)) 23 w' w.heap.size (fun k_ => k_ ≠ gb1024) v1027 t1026) ∧ Aside0 (w'.heap[gb1024]? = some (.cells #[(.slice A0_0 l0_0.length c0_0), (.slice A0_1 l0_1.length c0_1), (.slice A0_2 l0_2.length c0_2)] 78 (0, 0))) ∧ Aside0 (Below w.heap.size w w'))
  case atStart => exact ⟨(0), (by first | rfl | (simp; done) | (simp [*]; done)), H', ⟨Nat.le_refl _⟩, ⟨by (with_reducible repeat (first | apply Kd.N_alloc | apply Kd.N_drewN | apply Kd.N_drew)); exact HO1028.out⟩, ⟨by (with_reducible repeat (first | refine blk_drewN ?_ _ | refine blk_drew ?_ | refine blk_alloc ?_ _)); exact BK1024.out⟩, ⟨by repeat (first | (with_reducible first | exact HB.out | apply below_alloc | apply pw_below_drewN | apply below_drew1 | refine below_set ?_ GE1024.out) | exact HB.out)⟩⟩
  case round =>
   clear H'
   (try clear c2); (try clear p2); (try clear c3); (try clear c6); (try clear c7); (try clear hcz11_0); (try clear hcz11_1); (try clear hcz11_2); (try clear hcz5_0); (try clear hcz5_1); (try clear hcz5_2); (try clear hcz9_0); (try clear hcz9_1); (try clear hcz9_2); (try clear hfz11_0); (try clear hfz11_1); (try clear hfz11_2); (try clear hfz5_0); (try clear hfz5_1); (try clear hfz5_2); (try clear hfz9_0); (try clear hfz9_1); (try clear hfz9_2); (try clear HA); (try clear HK1); (try clear HO_3); (try clear BK1024); (try clear HB)
   obtain ⟨x4_1, rfl, HA, HK1, HO_3, BK1024, HB⟩ := hrel
   cases gk with
   | zero => exact absurd HA.out (by simp [herbariumlaw3_GapsBack.l0])
   | succ k1 =>
    have H := HA.out
    clear HA
    simp only [herbariumlaw3_GapsBack.l0] at H
    by_cases c13 : x4_1 < (t1026.length : Int)
    ·
     rw [if_pos c13] at H
     have c13b0 : decide (x4_1 < (t1026.length : Int)) = true := decide_eq_true c13
     clear c13
     have H' := Aside0.mk H
     clear H
     obtain ⟨Ao14, co14, eo14⟩ := Kd.N_slice HO_3.out
     subst eo14
     go_wp2
     go_loopg [5] k1 (fun kq v5 w' => ∃ (x5_2 : Int), v5 = .int .i64 x5_2 ∧ Aside0 (herbariumlaw3_GapsBack.l1 kq t1026 x4_1 x5_2 = some true) ∧ Aside0 (kq ≤ k1) ∧ Aside0 (Kd.N (Kd.slice 3 (Kd.int .i64)) 23 w' w.heap.size (fun k_ => k_ ≠ gb1024) (.slice Ao14 t1026.length co14) t1026) ∧ Aside0 (w'.heap[gb1024]? = some (.cells #[(.slice A0_0 l0_0.length c0_0), (.slice A0_1 l0_1.length c0_1), (.slice A0_2 l0_2.length c0_2)] 78 (0, 0))) ∧ Aside0 (Below w.heap.size w w'))
     case atStart => exact ⟨(0), (by first | rfl | (simp; done) | (simp [*]; done)), H', ⟨Nat.le_refl _⟩, ⟨by (with_reducible repeat (first | apply Kd.N_alloc | apply Kd.N_drewN | apply Kd.N_drew)); exact HO_3.out⟩, ⟨by (with_reducible repeat (first | refine blk_drewN ?_ _ | refine blk_drew ?_ | refine blk_alloc ?_ _)); exact BK1024.out⟩, ⟨by repeat (first | (with_reducible first | exact HB.out | apply below_alloc | apply pw_below_drewN | apply below_drew1 | refine below_set ?_ GE1024.out) | exact HB.out)⟩⟩
     case round =>
      clear H'
      (try clear c1); (try clear c2); (try clear p2); (try clear c3); (try clear c6); (try clear c7); (try clear c13); (try clear c13b0); (try clear hcz11_0); (try clear hcz11_1); (try clear hcz11_2); (try clear hcz5_0); (try clear hcz5_1); (try clear hcz5_2); (try clear hcz9_0); (try clear hcz9_1); (try clear hcz9_2); (try clear hfz11_0); (try clear hfz11_1); (try clear hfz11_2); (try clear hfz5_0); (try clear hfz5_1); (try clear hfz5_2); (try clear hfz9_0); (try clear hfz9_1); (try clear hfz9_2); (try clear p2); (try clear HA); (try clear HK2); (try clear HO_3); (try clear BK1024); (try clear HB)
      obtain ⟨x5_2, rfl, HA, HK2, HO_3, BK1024, HB⟩ := hrel
      cases gk with
      | zero => exact absurd HA.out (by simp [herbariumlaw3_GapsBack.l1])
      | succ k2 =>
       have H := HA.out
       clear HA
       simp only [herbariumlaw3_GapsBack.l1] at H
       by_cases c15 : x5_2 < 16
       ·
        rw [if_pos c15] at H
        have c15b0 : decide (x5_2 < 16) = true := decide_eq_true c15
        clear c15
        by_cases c16 : 0 ≤ x4_1
        ·
         rw [if_pos c16] at H
         have c16b0 : decide (0 ≤ x4_1) = true := decide_eq_true c16
         clear c16
         by_cases c17 : x4_1 < (t1026.length : Int)
         ·
          rw [if_pos c17] at H
          have c17b0 : decide (x4_1 < (t1026.length : Int)) = true := decide_eq_true c17
          clear c17
          replace H := Option.bind_eq_some_iff.mp H
          obtain ⟨⟨t1031, t1032, t1033⟩, A180, H⟩ := H
          replace H : ((herbariumlaw3_num.f t1033).bind fun t1035 => (if t1035 = 0 then ((gaps_Put.f t1031 t1032 0 (([1, 5] : List Int))).bind fun bt1039 => ((gaps_Take.f k2 bt1039.1 bt1039.2.1 3 x5_2).bind fun bt1043 => ((gaps_Take.f k2 bt1039.1 bt1039.2.1 bt1043.2.1 0).bind fun bt1048 => ((gaps_Size.f x5_2 (rd_L7 t1026 x4_1)).bind fun bt1054 => ((herbariumlaw3_num.f bt1039.2.2).bind fun t1056 => ((herbariumlaw3_num.f bt1043.2.2).bind fun t1057 => ((herbariumlaw3_num.f bt1048.2.2).bind fun t1058 => ((herbariumlaw3_num.f bt1054.2).bind fun t1059 => (if (wrap64 ((wrap64 ((wrap64 (t1056 + t1057)) + t1058)) + t1059)) = 0 then ((herbariumref0_EqNumbers.f k2 bt1043.1 (rd_L7 t1026 x4_1)).bind fun t1061 => (if t1061 = true then (if bt1043.2.1 = t1032 then ((herbariumref0_EqNumbers.f k2 bt1048.1 (([1, 5] : List Int))).bind fun t1065 => (if t1065 = true then (if bt1048.2.1 = bt1039.2.1 then (herbariumlaw3_GapsBack.j2 k2 t1026 x4_1 x5_2 bt1054.1 (bt1054.1 != (wrap64 (t1032 - 3)))) else (herbariumlaw3_GapsBack.j2 k2 t1026 x4_1 x5_2 bt1054.1 true)) else (herbariumlaw3_GapsBack.j2 k2 t1026 x4_1 x5_2 bt1054.1 true))) else (herbariumlaw3_GapsBack.j2 k2 t1026 x4_1 x5_2 bt1054.1 true)) else (herbariumlaw3_GapsBack.j2 k2 t1026 x4_1 x5_2 bt1054.1 true))) else (herbariumlaw3_GapsBack.j2 k2 t1026 x4_1 x5_2 bt1054.1 true)))))))))) else (herbariumlaw3_GapsBack.l1 k2 t1026 x4_1 (wrap64 (x5_2 + 3))))) = some true := H
          have A18 := Aside0.mk A180
          clear A180
          replace H := Option.bind_eq_some_iff.mp H
          obtain ⟨t1035, A190, H⟩ := H
          replace H : (if t1035 = 0 then ((gaps_Put.f t1031 t1032 0 (([1, 5] : List Int))).bind fun bt1039 => ((gaps_Take.f k2 bt1039.1 bt1039.2.1 3 x5_2).bind fun bt1043 => ((gaps_Take.f k2 bt1039.1 bt1039.2.1 bt1043.2.1 0).bind fun bt1048 => ((gaps_Size.f x5_2 (rd_L7 t1026 x4_1)).bind fun bt1054 => ((herbariumlaw3_num.f bt1039.2.2).bind fun t1056 => ((herbariumlaw3_num.f bt1043.2.2).bind fun t1057 => ((herbariumlaw3_num.f bt1048.2.2).bind fun t1058 => ((herbariumlaw3_num.f bt1054.2).bind fun t1059 => (if (wrap64 ((wrap64 ((wrap64 (t1056 + t1057)) + t1058)) + t1059)) = 0 then ((herbariumref0_EqNumbers.f k2 bt1043.1 (rd_L7 t1026 x4_1)).bind fun t1061 => (if t1061 = true then (if bt1043.2.1 = t1032 then ((herbariumref0_EqNumbers.f k2 bt1048.1 (([1, 5] : List Int))).bind fun t1065 => (if t1065 = true then (if bt1048.2.1 = bt1039.2.1 then (herbariumlaw3_GapsBack.j2 k2 t1026 x4_1 x5_2 bt1054.1 (bt1054.1 != (wrap64 (t1032 - 3)))) else (herbariumlaw3_GapsBack.j2 k2 t1026 x4_1 x5_2 bt1054.1 true)) else (herbariumlaw3_GapsBack.j2 k2 t1026 x4_1 x5_2 bt1054.1 true))) else (herbariumlaw3_GapsBack.j2 k2 t1026 x4_1 x5_2 bt1054.1 true)) else (herbariumlaw3_GapsBack.j2 k2 t1026 x4_1 x5_2 bt1054.1 true))) else (herbariumlaw3_GapsBack.j2 k2 t1026 x4_1 x5_2 bt1054.1 true)))))))))) else (herbariumlaw3_GapsBack.l1 k2 t1026 x4_1 (wrap64 (x5_2 + 3)))) = some true := H
          have A19 := Aside0.mk A190
          clear A190
          by_cases c20 : t1035 = 0
          ·
           rw [if_pos c20] at H
           have c20b0 : (t1035 == 0) = true := beq_iff_eq.mpr c20
           have c20b1 : (t1035 != 0) = false := bne_eq_false_iff_eq.mpr c20
           clear c20
           obtain ⟨y1036, hy1036⟩ : ∃ y_ : List Int, y_ = (([1, 5] : List Int)) := ⟨_, rfl⟩
           replace H : ((gaps_Put.f t1031 t1032 0 y1036).bind fun bt1039 => ((gaps_Take.f k2 bt1039.1 bt1039.2.1 3 x5_2).bind fun bt1043 => ((gaps_Take.f k2 bt1039.1 bt1039.2.1 bt1043.2.1 0).bind fun bt1048 => ((gaps_Size.f x5_2 (rd_L7 t1026 x4_1)).bind fun bt1054 => ((herbariumlaw3_num.f bt1039.2.2).bind fun t1056 => ((herbariumlaw3_num.f bt1043.2.2).bind fun t1057 => ((herbariumlaw3_num.f bt1048.2.2).bind fun t1058 => ((herbariumlaw3_num.f bt1054.2).bind fun t1059 => (if (wrap64 ((wrap64 ((wrap64 (t1056 + t1057)) + t1058)) + t1059)) = 0 then ((herbariumref0_EqNumbers.f k2 bt1043.1 (rd_L7 t1026 x4_1)).bind fun t1061 => (if t1061 = true then (if bt1043.2.1 = t1032 then ((herbariumref0_EqNumbers.f k2 bt1048.1 (([1, 5] : List Int))).bind fun t1065 => (if t1065 = true then (if bt1048.2.1 = bt1039.2.1 then (herbariumlaw3_GapsBack.j2 k2 t1026 x4_1 x5_2 bt1054.1 (bt1054.1 != (wrap64 (t1032 - 3)))) else (herbariumlaw3_GapsBack.j2 k2 t1026 x4_1 x5_2 bt1054.1 true)) else (herbariumlaw3_GapsBack.j2 k2 t1026 x4_1 x5_2 bt1054.1 true))) else (herbariumlaw3_GapsBack.j2 k2 t1026 x4_1 x5_2 bt1054.1 true)) else (herbariumlaw3_GapsBack.j2 k2 t1026 x4_1 x5_2 bt1054.1 true))) else (herbariumlaw3_GapsBack.j2 k2 t1026 x4_1 x5_2 bt1054.1 true)))))))))) = some true := by first | (rw [hy1036]; with_reducible exact H) | (have H2_ := (Option.bind_some _ _).symm.trans H; rw [hy1036]; with_reducible exact H2_) | (have H2_ := (Option.bind_some _ _).symm.trans H; with_reducible exact H2_) | with_reducible exact H | (rw [hy1036]; exact H) | exact H
           have Ny1036 := Aside0.mk hy1036
           clear hy1036
           replace H := Option.bind_eq_some_iff.mp H
           obtain ⟨⟨t1039, t1040, t1041⟩, A210, H⟩ := H
           replace H : ((gaps_Take.f k2 t1039 t1040 3 x5_2).bind fun bt1043 => ((gaps_Take.f k2 t1039 t1040 bt1043.2.1 0).bind fun bt1048 => ((gaps_Size.f x5_2 (rd_L7 t1026 x4_1)).bind fun bt1054 => ((herbariumlaw3_num.f t1041).bind fun t1056 => ((herbariumlaw3_num.f bt1043.2.2).bind fun t1057 => ((herbariumlaw3_num.f bt1048.2.2).bind fun t1058 => ((herbariumlaw3_num.f bt1054.2).bind fun t1059 => (if (wrap64 ((wrap64 ((wrap64 (t1056 + t1057)) + t1058)) + t1059)) = 0 then ((herbariumref0_EqNumbers.f k2 bt1043.1 (rd_L7 t1026 x4_1)).bind fun t1061 => (if t1061 = true then (if bt1043.2.1 = t1032 then ((herbariumref0_EqNumbers.f k2 bt1048.1 (([1, 5] : List Int))).bind fun t1065 => (if t1065 = true then (if bt1048.2.1 = t1040 then (herbariumlaw3_GapsBack.j2 k2 t1026 x4_1 x5_2 bt1054.1 (bt1054.1 != (wrap64 (t1032 - 3)))) else (herbariumlaw3_GapsBack.j2 k2 t1026 x4_1 x5_2 bt1054.1 true)) else (herbariumlaw3_GapsBack.j2 k2 t1026 x4_1 x5_2 bt1054.1 true))) else (herbariumlaw3_GapsBack.j2 k2 t1026 x4_1 x5_2 bt1054.1 true)) else (herbariumlaw3_GapsBack.j2 k2 t1026 x4_1 x5_2 bt1054.1 true))) else (herbariumlaw3_GapsBack.j2 k2 t1026 x4_1 x5_2 bt1054.1 true))))))))) = some true := H
           have A21 := Aside0.mk A210
           clear A210
           replace H := Option.bind_eq_some_iff.mp H
           obtain ⟨⟨t1043, t1046, t1047⟩, A220, H⟩ := H
           replace H : ((gaps_Take.f k2 t1039 t1040 t1046 0).bind fun bt1048 => ((gaps_Size.f x5_2 (rd_L7 t1026 x4_1)).bind fun bt1054 => ((herbariumlaw3_num.f t1041).bind fun t1056 => ((herbariumlaw3_num.f t1047).bind fun t1057 => ((herbariumlaw3_num.f bt1048.2.2).bind fun t1058 => ((herbariumlaw3_num.f bt1054.2).bind fun t1059 => (if (wrap64 ((wrap64 ((wrap64 (t1056 + t1057)) + t1058)) + t1059)) = 0 then ((herbariumref0_EqNumbers.f k2 t1043 (rd_L7 t1026 x4_1)).bind fun t1061 => (if t1061 = true then (if t1046 = t1032 then ((herbariumref0_EqNumbers.f k2 bt1048.1 (([1, 5] : List Int))).bind fun t1065 => (if t1065 = true then (if bt1048.2.1 = t1040 then (herbariumlaw3_GapsBack.j2 k2 t1026 x4_1 x5_2 bt1054.1 (bt1054.1 != (wrap64 (t1032 - 3)))) else (herbariumlaw3_GapsBack.j2 k2 t1026 x4_1 x5_2 bt1054.1 true)) else (herbariumlaw3_GapsBack.j2 k2 t1026 x4_1 x5_2 bt1054.1 true))) else (herbariumlaw3_GapsBack.j2 k2 t1026 x4_1 x5_2 bt1054.1 true)) else (herbariumlaw3_GapsBack.j2 k2 t1026 x4_1 x5_2 bt1054.1 true))) else (herbariumlaw3_GapsBack.j2 k2 t1026 x4_1 x5_2 bt1054.1 true)))))))) = some true := H
           have A22 := Aside0.mk A220
           clear A220
           replace H := Option.bind_eq_some_iff.mp H
           obtain ⟨⟨t1048, t1051, t1052⟩, A230, H⟩ := H
           replace H : ((gaps_Size.f x5_2 (rd_L7 t1026 x4_1)).bind fun bt1054 => ((herbariumlaw3_num.f t1041).bind fun t1056 => ((herbariumlaw3_num.f t1047).bind fun t1057 => ((herbariumlaw3_num.f t1052).bind fun t1058 => ((herbariumlaw3_num.f bt1054.2).bind fun t1059 => (if (wrap64 ((wrap64 ((wrap64 (t1056 + t1057)) + t1058)) + t1059)) = 0 then ((herbariumref0_EqNumbers.f k2 t1043 (rd_L7 t1026 x4_1)).bind fun t1061 => (if t1061 = true then (if t1046 = t1032 then ((herbariumref0_EqNumbers.f k2 t1048 (([1, 5] : List Int))).bind fun t1065 => (if t1065 = true then (if t1051 = t1040 then (herbariumlaw3_GapsBack.j2 k2 t1026 x4_1 x5_2 bt1054.1 (bt1054.1 != (wrap64 (t1032 - 3)))) else (herbariumlaw3_GapsBack.j2 k2 t1026 x4_1 x5_2 bt1054.1 true)) else (herbariumlaw3_GapsBack.j2 k2 t1026 x4_1 x5_2 bt1054.1 true))) else (herbariumlaw3_GapsBack.j2 k2 t1026 x4_1 x5_2 bt1054.1 true)) else (herbariumlaw3_GapsBack.j2 k2 t1026 x4_1 x5_2 bt1054.1 true))) else (herbariumlaw3_GapsBack.j2 k2 t1026 x4_1 x5_2 bt1054.1 true))))))) = some true := H
           have A23 := Aside0.mk A230
           clear A230
           replace H := Option.bind_eq_some_iff.mp H
           obtain ⟨⟨t1054, t1055⟩, A240, H⟩ := H
           replace H : ((herbariumlaw3_num.f t1041).bind fun t1056 => ((herbariumlaw3_num.f t1047).bind fun t1057 => ((herbariumlaw3_num.f t1052).bind fun t1058 => ((herbariumlaw3_num.f t1055).bind fun t1059 => (if (wrap64 ((wrap64 ((wrap64 (t1056 + t1057)) + t1058)) + t1059)) = 0 then ((herbariumref0_EqNumbers.f k2 t1043 (rd_L7 t1026 x4_1)).bind fun t1061 => (if t1061 = true then (if t1046 = t1032 then ((herbariumref0_EqNumbers.f k2 t1048 (([1, 5] : List Int))).bind fun t1065 => (if t1065 = true then (if t1051 = t1040 then (herbariumlaw3_GapsBack.j2 k2 t1026 x4_1 x5_2 t1054 (t1054 != (wrap64 (t1032 - 3)))) else (herbariumlaw3_GapsBack.j2 k2 t1026 x4_1 x5_2 t1054 true)) else (herbariumlaw3_GapsBack.j2 k2 t1026 x4_1 x5_2 t1054 true))) else (herbariumlaw3_GapsBack.j2 k2 t1026 x4_1 x5_2 t1054 true)) else (herbariumlaw3_GapsBack.j2 k2 t1026 x4_1 x5_2 t1054 true))) else (herbariumlaw3_GapsBack.j2 k2 t1026 x4_1 x5_2 t1054 true)))))) = some true := H
           have A24 := Aside0.mk A240
           clear A240
           have HC25 := Aside0.mk H
           clear H
           have p1030 : 0 ≤ (x4_1 : Int) := of_decide_eq_true (by first | (with_reducible assumption) | assumption)
           have q1030 : x4_1 < (t1026.length : Int) := of_decide_eq_true (by first | (with_reducible assumption) | assumption)
           obtain ⟨ad1030, A1030_0, c1030_0, e1030, hx1030_0, hl1030_0, hi1030_0⟩ := at_L7 (Kd.N_reads' HO_3.out).2.2 x4_1 p1030 q1030
           cases e1030
           obtain ⟨ce1030, hce1030, hMe1030, hcc1030⟩ := Kd.N_get HO_3.out [] x4_1 p1030 (by first | exact q1030 | exact of_decide_eq_true (by first | (with_reducible assumption) | assumption) | (have e_ := (Kd.N_reads' HO_3.out).1; omega))
           obtain ⟨ua1030_0, uc1030_0, rfl, ul1030_0, ge1030_0⟩ := Kd.FK_slice_open hMe1030
           have hv1030_0 := hcc1030 0 _ rfl
           rw [Nat.add_zero, show ((Kd.slice 3 (Kd.int .i64))).sz = 1 from rfl, Nat.mul_one] at hv1030_0
           replace hv1030_0 := Option.some.inj (hv1030_0.symm.trans hx1030_0)
           injection hv1030_0 with hva_ hvn_ hvc_
           rw [hva_] at ge1030_0
           rw [hvc_] at ul1030_0
           have HL1030_0 := Aside0.mk (show Kd.V (Kd.int .i64) 3 _ w.heap.size _ _ (rd_L7 t1026 x4_1) from Kd.V_mk ul1030_0 ge1030_0)
           clear hva_ hvn_ hvc_ ge1030_0 ul1030_0
           clear hcc1030 hce1030
           have HR1030_0 := Aside0.mk hi1030_0
           have HC1030_0 := Aside0.mk hl1030_0
           clear hi1030_0 hl1030_0
           replace p1030 := eq_true p1030
           replace q1030 := eq_true q1030
           go_upto_region 16 with (first | ((with_reducible refine gate_callee (f := 71) rfl ?_); refine goesL_ (some 41) rfl rfl Try.func71 (by kernel_rfl) rfl #[.agg #[.string (⟨#[64]⟩ : ByteArray), .int .i64 3], .int .i64 x5_2, .slice A1030_0 (rd_L7 t1026 x4_1).length c1030_0] rfl (by (try simp only [List.map_toArray, List.map_cons, List.map_nil]); first | done | rfl | (simp only [List.length_drop, List.length_take]; rfl)) ?_; (with_reducible refine (gaps_Put.calls (⟨#[64]⟩ : ByteArray) 3 x5_2 _ _ (rd_L7 t1026 x4_1) t1031 t1032 t1033 _ ?side1 ?side2 A18.out).mono ?_); (case side1 => repeat (first | exact (by repeat (first | (with_reducible exact HR1030_0.out) | (with_reducible refine Kd.C_alloc ?_ _) | (with_reducible refine Kd.C_drewN ?_ _) | (with_reducible refine Kd.C_drew ?_) | exact HR1030_0.out)) | (with_reducible refine Kd.C_alloc ?_ _) | (with_reducible refine Kd.C_drewN ?_ _) | (with_reducible refine Kd.C_drew ?_))); (case side2 => exact HC1030_0.out); rintro e w26 ⟨rfl, hb⟩; refine ⟨_, rfl, ?_⟩; have n0_ := Aside0.mk (Kd.N_below (by (with_reducible repeat (first | apply Kd.N_alloc | apply Kd.N_drewN | apply Kd.N_drew)); exact HO_3.out) hb); have n1_ := Aside0.mk (Kd.V_below (by (with_reducible repeat (first | apply Kd.V_alloc | apply Kd.V_drewN | apply Kd.V_drew)); exact HL1030_0.out) hb); have n2_ := Aside0.mk (blk_below (g := gb1024) (o := .cells #[.slice A0_0 l0_0.length c0_0, .slice A0_1 l0_1.length c0_1, .slice A0_2 l0_2.length c0_2] 78 (0, 0)) (by (with_reducible repeat (first | refine blk_drewN ?_ _ | refine blk_drew ?_ | refine blk_alloc ?_ _)); exact BK1024.out) hb); (first | (with_reducible have n3_ := Aside0.mk (Kd.C_below HR1030_0.out hb)) | (with_reducible have n3_ := Aside0.mk (Kd.C_below (Kd.C_drewN HR1030_0.out _) hb)) | (with_reducible have n3_ := Aside0.mk (Kd.C_below (Kd.C_drew HR1030_0.out) hb)) | (with_reducible have n3_ := Aside0.mk (Kd.C_below (Kd.C_alloc HR1030_0.out _) hb))); have n4_ := Aside0.mk (below_step (by repeat (first | (with_reducible first | exact HB.out | apply below_alloc | apply pw_below_drewN | apply below_drew1 | refine below_set ?_ GE1024.out) | exact HB.out)) hb); clear HO_3; clear HL1030_0; clear BK1024; clear HR1030_0; clear HB; have HO_3 := n0_; have HL1030_0 := n1_; have BK1024 := n2_; have HR1030_0 := n3_; have HB := n4_; clear n0_ n1_ n2_ n3_ n4_; (try clear hb); (try clear hb2); (try clear hk); (try clear hi)) | ((with_reducible refine gate_dst (N := 6) rfl ?_); (try (refine gate_guard (by rfl) ?_; dsimp only)); refine box_event ?hg (N := 6) ?hd (cs := #[.string (⟨#[]⟩ : ByteArray), .int .i64 0]) (t := 27) ?hr ?_; (case hd => rfl); (case hg => rfl); (case hr => first | (go_simp; done) | (go_simp; rfl)); intro gb1034 hg w27 hbox hb; have n0_ := Aside0.mk (Kd.N_below (Kd.N_elderB (by (with_reducible repeat (first | apply Kd.N_alloc | apply Kd.N_drewN | apply Kd.N_drew)); exact HO_3.out) gb1034 (Nat.le_of_eq hg.symm)) hb); have n1_ := Aside0.mk (Kd.V_below (Kd.V_elderB (by (with_reducible repeat (first | apply Kd.V_alloc | apply Kd.V_drewN | apply Kd.V_drew)); exact HL1030_0.out) gb1034 (Nat.le_of_eq hg.symm)) hb); have n2_ := Aside0.mk (blk_below (g := gb1024) (o := .cells #[.slice A0_0 l0_0.length c0_0, .slice A0_1 l0_1.length c0_1, .slice A0_2 l0_2.length c0_2] 78 (0, 0)) (by (with_reducible repeat (first | refine blk_drewN ?_ _ | refine blk_drew ?_ | refine blk_alloc ?_ _)); exact BK1024.out) hb); (first | (with_reducible have n3_ := Aside0.mk (Kd.C_below HR1030_0.out hb)) | (with_reducible have n3_ := Aside0.mk (Kd.C_below (Kd.C_drewN HR1030_0.out _) hb)) | (with_reducible have n3_ := Aside0.mk (Kd.C_below (Kd.C_drew HR1030_0.out) hb)) | (with_reducible have n3_ := Aside0.mk (Kd.C_below (Kd.C_alloc HR1030_0.out _) hb))); have n4_ := Aside0.mk (below_step (by repeat (first | (with_reducible first | exact HB.out | apply below_alloc | apply pw_below_drewN | apply below_drew1 | refine below_set ?_ GE1024.out) | exact HB.out)) hb); have n5_ := Aside0.mk (hbox); have n6_ := Aside0.mk ((by rw [hg]; exact (below_size (by repeat (first | (with_reducible first | exact HB.out | apply below_alloc | apply pw_below_drewN | apply below_drew1 | refine below_set ?_ GE1024.out) | exact HB.out))) : w.heap.size ≤ gb1034)); have n7_ := Aside0.mk ((by rw [hg]; exact (below_size (by repeat (first | (with_reducible first | exact HB.out | apply below_alloc | apply pw_below_drewN | apply below_drew1 | refine below_set ?_ GE1024.out) | exact HB.out))) : w.heap.size ≤ gb1034)); have n8_ := Aside0.mk ((by rw [hg]; exact Nat.ne_of_lt (blk_lt (g := gb1024) (o := .cells #[.slice A0_0 l0_0.length c0_0, .slice A0_1 l0_1.length c0_1, .slice A0_2 l0_2.length c0_2] 78 (0, 0)) (by (with_reducible repeat (first | refine blk_drewN ?_ _ | refine blk_drew ?_ | refine blk_alloc ?_ _)); exact BK1024.out)) : gb1024 ≠ gb1034)); have n9_ := Aside0.mk ((by rw [hg]; exact Nat.ne_of_gt (blk_lt (g := gb1024) (o := .cells #[.slice A0_0 l0_0.length c0_0, .slice A0_1 l0_1.length c0_1, .slice A0_2 l0_2.length c0_2] 78 (0, 0)) (by (with_reducible repeat (first | refine blk_drewN ?_ _ | refine blk_drew ?_ | refine blk_alloc ?_ _)); exact BK1024.out)) : gb1034 ≠ gb1024)); clear HO_3; clear HL1030_0; clear BK1024; clear HR1030_0; clear HB; have HO_3 := n0_; have HL1030_0 := n1_; have BK1024 := n2_; have HR1030_0 := n3_; have HB := n4_; have BK1034 := n5_; have GW1034 := n6_; have GE1034 := n7_; have NB1024_1034 := n8_; have NB1034_1024 := n9_; clear n0_ n1_ n2_ n3_ n4_ n5_ n6_ n7_ n8_ n9_; clear hb hbox hg; have hnb28 := NB1034_1024.out; have hnc28 := NB1024_1034.out; have hcz29_0 : w27.cell? ⟨gb1034, 0, none⟩ = some (.string (⟨#[]⟩ : ByteArray)) := (blk_cell BK1034.out 0).trans rfl; have hcz29_1 : w27.cell? ⟨gb1034, 1, none⟩ = some (.int .i64 0) := (blk_cell BK1034.out 1).trans rfl; have hfz29_0 := blk_frozen BK1034.out 0; have hfz29_1 := blk_frozen BK1034.out 1) | ((with_reducible refine gate_callee (f := 72) rfl ?_); refine goesL_ (some 45) rfl rfl Try.func72 (by kernel_rfl) rfl #[.int .i64 t1033] rfl (by (try simp only [List.map_toArray, List.map_cons, List.map_nil]); first | done | rfl | (simp only [List.length_drop, List.length_take]; rfl)) ?_; (with_reducible refine (herbariumlaw3_num.calls t1033 t1035 _ A19.out).mono ?_); rintro e w' ⟨rfl, ⟨nd, rfl⟩⟩; refine ⟨_, rfl, ?_⟩) | ((with_reducible refine gate_dst (N := 49) rfl ?_); (try (refine gate_guard (by rfl) ?_; dsimp only)); refine Kd.R_lit (Kd.int .i64) _ 3 ?hg (N := 49) ?hd (xs := ([1, 5] : List Int)) (inner := [.int .i64 1, .int .i64 5]) (ok := fun _ => True) (okp := fun _ => True) ?hr ?hp (fun _ hk => hk) trivial (Below.refl _ _) (Nat.le_refl _) (by simp) ?_; (case hd => rfl); (case hg => rfl); (case hr => first | (go_simp; done) | (go_simp; rfl)); (case hp => exact (Reps.one (show Kd.M (Kd.int .i64) _ _ _ 1 [.int .i64 1] from rfl) (Reps.one (show Kd.M (Kd.int .i64) _ _ _ 5 [.int .i64 5] from rfl) (Reps.none _ _)))); intro v1037 w30 ho31 hb hg_ hnew_; clear hg_ hnew_; (first | rw [← Ny1036.out] at ho31 | (simp only [Int.reduceToNat] at ho31; rw [← Ny1036.out] at ho31)); have n0_ := Aside0.mk (Kd.N_elder' (by (with_reducible repeat (first | apply Kd.N_alloc | apply Kd.N_drewN | apply Kd.N_drew)); exact (Kd.N_mono (Kd.N_far (p := ⟨gb1034, 1, none⟩) (Kd.N_far (p := ⟨gb1034, 0, none⟩) (Kd.N_mono HO_3.out (fun k_ hk => (⟨hk, hk.2⟩ : _ ∧ k_ ≠ gb1034))) (fun _ hk => hk.2) (.string t1031)) (fun _ hk => hk.2) (.int .i64 t1032)) (fun _ h_ => h_.1))) (Kd.R_base ho31) hb); have n1_ := Aside0.mk (Kd.V_elder' (by (with_reducible repeat (first | apply Kd.V_alloc | apply Kd.V_drewN | apply Kd.V_drew)); exact (Kd.V_mono (Kd.V_far (p := ⟨gb1034, 1, none⟩) (Kd.V_far (p := ⟨gb1034, 0, none⟩) (Kd.V_mono HL1030_0.out (fun k_ hk => (⟨hk, hk.2⟩ : _ ∧ k_ ≠ gb1034))) (fun _ hk => hk.2) (.string t1031)) (fun _ hk => hk.2) (.int .i64 t1032)) (fun _ h_ => h_.1))) (Kd.R_base ho31) hb); have n2_ := Aside0.mk (Kd.R_lower ho31 (below_size (by repeat (first | (with_reducible first | exact HB.out | apply below_alloc | apply pw_below_drewN | apply below_drew1 | refine below_set ?_ GE1024.out | refine below_set ?_ GE1034.out) | exact HB.out)))); have n3_ := Aside0.mk (blk_below (g := gb1024) (o := .cells #[.slice A0_0 l0_0.length c0_0, .slice A0_1 l0_1.length c0_1, .slice A0_2 l0_2.length c0_2] 78 (0, 0)) (by (with_reducible repeat (first | refine blk_drewN ?_ _ | refine blk_drew ?_ | refine blk_alloc ?_ _)); refine blk_far ?_ NB1024_1034.out _; (with_reducible repeat (first | refine blk_drewN ?_ _ | refine blk_drew ?_ | refine blk_alloc ?_ _)); refine blk_far ?_ NB1024_1034.out _; (with_reducible repeat (first | refine blk_drewN ?_ _ | refine blk_drew ?_ | refine blk_alloc ?_ _)); exact BK1024.out) hb); have n4_ := Aside0.mk (Kd.C_below ((Kd.V_reads' (by (with_reducible repeat (first | apply Kd.V_alloc | apply Kd.V_drewN | apply Kd.V_drew)); exact (Kd.V_mono (Kd.V_far (p := ⟨gb1034, 1, none⟩) (Kd.V_far (p := ⟨gb1034, 0, none⟩) (Kd.V_mono HL1030_0.out (fun k_ hk => (⟨hk, hk.2⟩ : _ ∧ k_ ≠ gb1034))) (fun _ hk => hk.2) (.string t1031)) (fun _ hk => hk.2) (.int .i64 t1032)) (fun _ h_ => h_.1)))).2.2) hb); have n5_ := Aside0.mk (blk_below (g := gb1034) (o := .cells #[.string t1031, .int .i64 t1032] 27 (0, 0)) (by (with_reducible repeat (first | refine blk_drewN ?_ _ | refine blk_drew ?_ | refine blk_alloc ?_ _)); refine blk_put (cs := #[.string t1031, .int .i64 0]) ?_ 1 _ rfl; (with_reducible repeat (first | refine blk_drewN ?_ _ | refine blk_drew ?_ | refine blk_alloc ?_ _)); refine blk_put (cs := #[.string (⟨#[]⟩ : ByteArray), .int .i64 0]) ?_ 0 _ rfl; (with_reducible repeat (first | refine blk_drewN ?_ _ | refine blk_drew ?_ | refine blk_alloc ?_ _)); exact BK1034.out) hb); have n6_ := Aside0.mk (below_step (by repeat (first | (with_reducible first | exact HB.out | apply below_alloc | apply pw_below_drewN | apply below_drew1 | refine below_set ?_ GE1024.out | refine below_set ?_ GE1034.out) | exact HB.out)) hb); clear HO_3; clear HL1030_0; clear BK1024; clear HR1030_0; clear BK1034; clear HB; have HO_3 := n0_; have HL1030_0 := n1_; have HO1038 := n2_; have BK1024 := n3_; have HR1030_0 := n4_; have BK1034 := n5_; have HB := n6_; clear n0_ n1_ n2_ n3_ n4_ n5_ n6_; clear hb ho31; obtain ⟨Ao32, co32, eo32⟩ := Kd.R_slice HO1038.out; subst eo32) | ((with_reducible refine gate_callee (f := 71) rfl ?_); refine goesL_ (some 50) rfl rfl Try.func71 (by kernel_rfl) rfl #[.agg #[.string t1031, .int .i64 t1032], .int .i64 0, .slice Ao32 y1036.length co32] rfl (by (try simp only [List.map_toArray, List.map_cons, List.map_nil]); first | done | rfl | (simp only [List.length_drop, List.length_take]; rfl)) ?_; (with_reducible refine (gaps_Put.calls t1031 t1032 0 _ _ y1036 t1039 t1040 t1041 _ ?side1 ?side2 A21.out).mono ?_); (case side1 => repeat (first | exact (Kd.R_reads' HO1038.out).2.2 | (with_reducible refine Kd.C_alloc ?_ _) | (with_reducible refine Kd.C_drewN ?_ _) | (with_reducible refine Kd.C_drew ?_))); (case side2 => exact (Kd.R_reads' HO1038.out).2.1); rintro e w33 ⟨rfl, hb⟩; refine ⟨_, rfl, ?_⟩; have n0_ := Aside0.mk (Kd.N_below (by (with_reducible repeat (first | apply Kd.N_alloc | apply Kd.N_drewN | apply Kd.N_drew)); exact HO_3.out) hb); have n1_ := Aside0.mk (Kd.V_below (by (with_reducible repeat (first | apply Kd.V_alloc | apply Kd.V_drewN | apply Kd.V_drew)); exact HL1030_0.out) hb); have n2_ := Aside0.mk (Kd.R_below (by (with_reducible repeat (first | apply Kd.R_alloc | apply Kd.R_drewN | apply Kd.R_drew)); exact HO1038.out) hb); have n3_ := Aside0.mk (blk_below (g := gb1024) (o := .cells #[.slice A0_0 l0_0.length c0_0, .slice A0_1 l0_1.length c0_1, .slice A0_2 l0_2.length c0_2] 78 (0, 0)) (by (with_reducible repeat (first | refine blk_drewN ?_ _ | refine blk_drew ?_ | refine blk_alloc ?_ _)); exact BK1024.out) hb); (first | (with_reducible have n4_ := Aside0.mk (Kd.C_below HR1030_0.out hb)) | (with_reducible have n4_ := Aside0.mk (Kd.C_below (Kd.C_drewN HR1030_0.out _) hb)) | (with_reducible have n4_ := Aside0.mk (Kd.C_below (Kd.C_drew HR1030_0.out) hb)) | (with_reducible have n4_ := Aside0.mk (Kd.C_below (Kd.C_alloc HR1030_0.out _) hb))); have n5_ := Aside0.mk (blk_below (g := gb1034) (o := .cells #[.string t1031, .int .i64 t1032] 27 (0, 0)) (by (with_reducible repeat (first | refine blk_drewN ?_ _ | refine blk_drew ?_ | refine blk_alloc ?_ _)); exact BK1034.out) hb); have n6_ := Aside0.mk (below_step (by repeat (first | (with_reducible first | exact HB.out | apply below_alloc | apply pw_below_drewN | apply below_drew1 | refine below_set ?_ GE1024.out | refine below_set ?_ GE1034.out) | exact HB.out)) hb); clear HO_3; clear HL1030_0; clear HO1038; clear BK1024; clear HR1030_0; clear BK1034; clear HB; have HO_3 := n0_; have HL1030_0 := n1_; have HO1038 := n2_; have BK1024 := n3_; have HR1030_0 := n4_; have BK1034 := n5_; have HB := n6_; clear n0_ n1_ n2_ n3_ n4_ n5_ n6_; (try clear hb); (try clear hb2); (try clear hk); (try clear hi)) | ((with_reducible refine gate_dst (N := 8) rfl ?_); (try (refine gate_guard (by rfl) ?_; dsimp only)); refine box_event ?hg (N := 8) ?hd (cs := #[.string (⟨#[]⟩ : ByteArray), .int .i64 0]) (t := 27) ?hr ?_; (case hd => rfl); (case hg => rfl); (case hr => first | (go_simp; done) | (go_simp; rfl)); intro gb1042 hg w34 hbox hb; have n0_ := Aside0.mk (Kd.N_below (Kd.N_elderB (by (with_reducible repeat (first | apply Kd.N_alloc | apply Kd.N_drewN | apply Kd.N_drew)); exact HO_3.out) gb1042 (Nat.le_of_eq hg.symm)) hb); have n1_ := Aside0.mk (Kd.V_below (Kd.V_elderB (by (with_reducible repeat (first | apply Kd.V_alloc | apply Kd.V_drewN | apply Kd.V_drew)); exact HL1030_0.out) gb1042 (Nat.le_of_eq hg.symm)) hb); have n2_ := Aside0.mk (Kd.R_below (by (with_reducible repeat (first | apply Kd.R_alloc | apply Kd.R_drewN | apply Kd.R_drew)); exact HO1038.out) hb); have n3_ := Aside0.mk (blk_below (g := gb1024) (o := .cells #[.slice A0_0 l0_0.length c0_0, .slice A0_1 l0_1.length c0_1, .slice A0_2 l0_2.length c0_2] 78 (0, 0)) (by (with_reducible repeat (first | refine blk_drewN ?_ _ | refine blk_drew ?_ | refine blk_alloc ?_ _)); exact BK1024.out) hb); (first | (with_reducible have n4_ := Aside0.mk (Kd.C_below HR1030_0.out hb)) | (with_reducible have n4_ := Aside0.mk (Kd.C_below (Kd.C_drewN HR1030_0.out _) hb)) | (with_reducible have n4_ := Aside0.mk (Kd.C_below (Kd.C_drew HR1030_0.out) hb)) | (with_reducible have n4_ := Aside0.mk (Kd.C_below (Kd.C_alloc HR1030_0.out _) hb))); have n5_ := Aside0.mk (blk_below (g := gb1034) (o := .cells #[.string t1031, .int .i64 t1032] 27 (0, 0)) (by (with_reducible repeat (first | refine blk_drewN ?_ _ | refine blk_drew ?_ | refine blk_alloc ?_ _)); exact BK1034.out) hb); have n6_ := Aside0.mk (below_step (by repeat (first | (with_reducible first | exact HB.out | apply below_alloc | apply pw_below_drewN | apply below_drew1 | refine below_set ?_ GE1024.out | refine below_set ?_ GE1034.out) | exact HB.out)) hb); have n7_ := Aside0.mk (hbox); have n8_ := Aside0.mk ((by rw [hg]; exact (below_size (by repeat (first | (with_reducible first | exact HB.out | apply below_alloc | apply pw_below_drewN | apply below_drew1 | refine below_set ?_ GE1024.out | refine below_set ?_ GE1034.out) | exact HB.out))) : w.heap.size ≤ gb1042)); have n9_ := Aside0.mk ((by rw [hg]; exact (below_size (by repeat (first | (with_reducible first | exact HB.out | apply below_alloc | apply pw_below_drewN | apply below_drew1 | refine below_set ?_ GE1024.out | refine below_set ?_ GE1034.out) | exact HB.out))) : w.heap.size ≤ gb1042)); have n10_ := Aside0.mk ((by rw [hg]; exact Nat.ne_of_lt (blk_lt (g := gb1024) (o := .cells #[.slice A0_0 l0_0.length c0_0, .slice A0_1 l0_1.length c0_1, .slice A0_2 l0_2.length c0_2] 78 (0, 0)) (by (with_reducible repeat (first | refine blk_drewN ?_ _ | refine blk_drew ?_ | refine blk_alloc ?_ _)); exact BK1024.out)) : gb1024 ≠ gb1042)); have n11_ := Aside0.mk ((by rw [hg]; exact Nat.ne_of_gt (blk_lt (g := gb1024) (o := .cells #[.slice A0_0 l0_0.length c0_0, .slice A0_1 l0_1.length c0_1, .slice A0_2 l0_2.length c0_2] 78 (0, 0)) (by (with_reducible repeat (first | refine blk_drewN ?_ _ | refine blk_drew ?_ | refine blk_alloc ?_ _)); exact BK1024.out)) : gb1042 ≠ gb1024)); have n12_ := Aside0.mk ((by rw [hg]; exact Nat.ne_of_lt (blk_lt (g := gb1034) (o := .cells #[.string t1031, .int .i64 t1032] 27 (0, 0)) (by (with_reducible repeat (first | refine blk_drewN ?_ _ | refine blk_drew ?_ | refine blk_alloc ?_ _)); exact BK1034.out)) : gb1034 ≠ gb1042)); have n13_ := Aside0.mk ((by rw [hg]; exact Nat.ne_of_gt (blk_lt (g := gb1034) (o := .cells #[.string t1031, .int .i64 t1032] 27 (0, 0)) (by (with_reducible repeat (first | refine blk_drewN ?_ _ | refine blk_drew ?_ | refine blk_alloc ?_ _)); exact BK1034.out)) : gb1042 ≠ gb1034)); clear HO_3; clear HL1030_0; clear HO1038; clear BK1024; clear HR1030_0; clear BK1034; clear HB; have HO_3 := n0_; have HL1030_0 := n1_; have HO1038 := n2_; have BK1024 := n3_; have HR1030_0 := n4_; have BK1034 := n5_; have HB := n6_; have BK1042 := n7_; have GW1042 := n8_; have GE1042 := n9_; have NB1024_1042 := n10_; have NB1042_1024 := n11_; have NB1034_1042 := n12_; have NB1042_1034 := n13_; clear n0_ n1_ n2_ n3_ n4_ n5_ n6_ n7_ n8_ n9_ n10_ n11_ n12_ n13_; clear hb hbox hg; have hnb35 := NB1042_1024.out; have hnc35 := NB1024_1042.out; have hnb36 := NB1042_1034.out; have hnc36 := NB1034_1042.out; have hcz37_0 : w34.cell? ⟨gb1042, 0, none⟩ = some (.string (⟨#[]⟩ : ByteArray)) := (blk_cell BK1042.out 0).trans rfl; have hcz37_1 : w34.cell? ⟨gb1042, 1, none⟩ = some (.int .i64 0) := (blk_cell BK1042.out 1).trans rfl; have hfz37_0 := blk_frozen BK1042.out 0; have hfz37_1 := blk_frozen BK1042.out 1) | ((with_reducible refine gate_callee (f := 73) rfl ?_); refine goesL_ (some 56) rfl rfl Try.func73 (by kernel_rfl) rfl #[.agg #[.string t1039, .int .i64 t1040], .int .i64 3, .int .i64 x5_2] rfl (by (try simp only [List.map_toArray, List.map_cons, List.map_nil]); first | done | rfl | (simp only [List.length_drop, List.length_take]; rfl)) ?_; (with_reducible refine (gaps_Take.calls k2 t1039 t1040 3 x5_2 t1043 t1046 t1047 _ A22.out).mono ?_); rintro e w38 ⟨v1044, rfl, ho0, hb⟩; refine ⟨_, rfl, ?_⟩; have n0_ := Aside0.mk (Kd.N_elder' (by (with_reducible repeat (first | apply Kd.N_alloc | apply Kd.N_drewN | apply Kd.N_drew)); exact (Kd.N_mono (Kd.N_far (p := ⟨gb1042, 1, none⟩) (Kd.N_far (p := ⟨gb1042, 0, none⟩) (Kd.N_mono HO_3.out (fun k_ hk => (⟨hk, hk.2⟩ : _ ∧ k_ ≠ gb1042))) (fun _ hk => hk.2) (.string t1039)) (fun _ hk => hk.2) (.int .i64 t1040)) (fun _ h_ => h_.1))) (Kd.R_base ho0) hb); have n1_ := Aside0.mk (Kd.V_elder' (by (with_reducible repeat (first | apply Kd.V_alloc | apply Kd.V_drewN | apply Kd.V_drew)); exact (Kd.V_mono (Kd.V_far (p := ⟨gb1042, 1, none⟩) (Kd.V_far (p := ⟨gb1042, 0, none⟩) (Kd.V_mono HL1030_0.out (fun k_ hk => (⟨hk, hk.2⟩ : _ ∧ k_ ≠ gb1042))) (fun _ hk => hk.2) (.string t1039)) (fun _ hk => hk.2) (.int .i64 t1040)) (fun _ h_ => h_.1))) (Kd.R_base ho0) hb); have n2_ := Aside0.mk (Kd.R_elder' (by (with_reducible repeat (first | apply Kd.R_alloc | apply Kd.R_drewN | apply Kd.R_drew)); exact (Kd.R_mono (Kd.R_far (p := ⟨gb1042, 1, none⟩) (Kd.R_far (p := ⟨gb1042, 0, none⟩) (Kd.R_types HO1038.out BK1042.out (by decide)) (fun _ hk => hk.2) (.string t1039)) (fun _ hk => hk.2) (.int .i64 t1040)) (fun _ h_ => h_.1))) (Kd.R_base ho0) hb); have n3_ := Aside0.mk (Kd.R_lower (Kd.R_new' ho0 (Kd.R_lt (by (with_reducible repeat (first | apply Kd.R_alloc | apply Kd.R_drewN | apply Kd.R_drew)); exact (Kd.R_mono (Kd.R_far (p := ⟨gb1042, 1, none⟩) (Kd.R_far (p := ⟨gb1042, 0, none⟩) (Kd.R_types HO1038.out BK1042.out (by decide)) (fun _ hk => hk.2) (.string t1039)) (fun _ hk => hk.2) (.int .i64 t1040)) (fun _ h_ => h_.1))))) (below_size (by repeat (first | (with_reducible first | exact HB.out | apply below_alloc | apply pw_below_drewN | apply below_drew1 | refine below_set ?_ GE1024.out | refine below_set ?_ GE1034.out | refine below_set ?_ GE1042.out) | exact HB.out)))); have n4_ := Aside0.mk (blk_below (g := gb1024) (o := .cells #[.slice A0_0 l0_0.length c0_0, .slice A0_1 l0_1.length c0_1, .slice A0_2 l0_2.length c0_2] 78 (0, 0)) (by (with_reducible repeat (first | refine blk_drewN ?_ _ | refine blk_drew ?_ | refine blk_alloc ?_ _)); refine blk_far ?_ NB1024_1042.out _; (with_reducible repeat (first | refine blk_drewN ?_ _ | refine blk_drew ?_ | refine blk_alloc ?_ _)); refine blk_far ?_ NB1024_1042.out _; (with_reducible repeat (first | refine blk_drewN ?_ _ | refine blk_drew ?_ | refine blk_alloc ?_ _)); exact BK1024.out) hb); have n5_ := Aside0.mk (Kd.C_below ((Kd.V_reads' (by (with_reducible repeat (first | apply Kd.V_alloc | apply Kd.V_drewN | apply Kd.V_drew)); exact (Kd.V_mono (Kd.V_far (p := ⟨gb1042, 1, none⟩) (Kd.V_far (p := ⟨gb1042, 0, none⟩) (Kd.V_mono HL1030_0.out (fun k_ hk => (⟨hk, hk.2⟩ : _ ∧ k_ ≠ gb1042))) (fun _ hk => hk.2) (.string t1039)) (fun _ hk => hk.2) (.int .i64 t1040)) (fun _ h_ => h_.1)))).2.2) hb); have n6_ := Aside0.mk (blk_below (g := gb1034) (o := .cells #[.string t1031, .int .i64 t1032] 27 (0, 0)) (by (with_reducible repeat (first | refine blk_drewN ?_ _ | refine blk_drew ?_ | refine blk_alloc ?_ _)); refine blk_far ?_ NB1034_1042.out _; (with_reducible repeat (first | refine blk_drewN ?_ _ | refine blk_drew ?_ | refine blk_alloc ?_ _)); refine blk_far ?_ NB1034_1042.out _; (with_reducible repeat (first | refine blk_drewN ?_ _ | refine blk_drew ?_ | refine blk_alloc ?_ _)); exact BK1034.out) hb); have n7_ := Aside0.mk (blk_below (g := gb1042) (o := .cells #[.string t1039, .int .i64 t1040] 27 (0, 0)) (by (with_reducible repeat (first | refine blk_drewN ?_ _ | refine blk_drew ?_ | refine blk_alloc ?_ _)); refine blk_put (cs := #[.string t1039, .int .i64 0]) ?_ 1 _ rfl; (with_reducible repeat (first | refine blk_drewN ?_ _ | refine blk_drew ?_ | refine blk_alloc ?_ _)); refine blk_put (cs := #[.string (⟨#[]⟩ : ByteArray), .int .i64 0]) ?_ 0 _ rfl; (with_reducible repeat (first | refine blk_drewN ?_ _ | refine blk_drew ?_ | refine blk_alloc ?_ _)); exact BK1042.out) hb); have n8_ := Aside0.mk (below_step (by repeat (first | (with_reducible first | exact HB.out | apply below_alloc | apply pw_below_drewN | apply below_drew1 | refine below_set ?_ GE1024.out | refine below_set ?_ GE1034.out | refine below_set ?_ GE1042.out) | exact HB.out)) hb); clear HO_3; clear HL1030_0; clear HO1038; clear BK1024; clear HR1030_0; clear BK1034; clear BK1042; clear HB; have HO_3 := n0_; have HL1030_0 := n1_; have HO1038 := n2_; have HO1045 := n3_; have BK1024 := n4_; have HR1030_0 := n5_; have BK1034 := n6_; have BK1042 := n7_; have HB := n8_; clear n0_ n1_ n2_ n3_ n4_ n5_ n6_ n7_ n8_; (try clear hb); (try clear hb2); (try clear hk); (try clear hi); (try clear ho0); have hcz39_0 : w38.cell? ⟨gb1042, 0, none⟩ = some (.string t1039) := (blk_cell BK1042.out 0).trans rfl; have hcz39_1 : w38.cell? ⟨gb1042, 1, none⟩ = some (.int .i64 t1040) := (blk_cell BK1042.out 1).trans rfl; have hfz39_0 := blk_frozen BK1042.out 0; have hfz39_1 := blk_frozen BK1042.out 1) | ((with_reducible refine gate_callee (f := 73) rfl ?_); refine goesL_ (some 63) rfl rfl Try.func73 (by kernel_rfl) rfl #[.agg #[.string t1039, .int .i64 t1040], .int .i64 t1046, .int .i64 0] rfl (by (try simp only [List.map_toArray, List.map_cons, List.map_nil]); first | done | rfl | (simp only [List.length_drop, List.length_take]; rfl)) ?_; (with_reducible refine (gaps_Take.calls k2 t1039 t1040 t1046 0 t1048 t1051 t1052 _ A23.out).mono ?_); rintro e w40 ⟨v1049, rfl, ho0, hb⟩; refine ⟨_, rfl, ?_⟩; have n0_ := Aside0.mk (Kd.N_elder' (by (with_reducible repeat (first | apply Kd.N_alloc | apply Kd.N_drewN | apply Kd.N_drew)); exact HO_3.out) (Kd.R_base ho0) hb); have n1_ := Aside0.mk (Kd.V_elder' (by (with_reducible repeat (first | apply Kd.V_alloc | apply Kd.V_drewN | apply Kd.V_drew)); exact HL1030_0.out) (Kd.R_base ho0) hb); have n2_ := Aside0.mk (Kd.R_elder' (by (with_reducible repeat (first | apply Kd.R_alloc | apply Kd.R_drewN | apply Kd.R_drew)); exact HO1038.out) (Kd.R_base ho0) hb); have n3_ := Aside0.mk (Kd.R_elder' (by (with_reducible repeat (first | apply Kd.R_alloc | apply Kd.R_drewN | apply Kd.R_drew)); exact HO1045.out) (Kd.R_base ho0) hb); have n4_ := Aside0.mk (Kd.R_lower (Kd.R_new' (Kd.R_new' ho0 (Kd.R_lt (by (with_reducible repeat (first | apply Kd.R_alloc | apply Kd.R_drewN | apply Kd.R_drew)); exact HO1038.out))) (Kd.R_lt (by (with_reducible repeat (first | apply Kd.R_alloc | apply Kd.R_drewN | apply Kd.R_drew)); exact HO1045.out))) (below_size (by repeat (first | (with_reducible first | exact HB.out | apply below_alloc | apply pw_below_drewN | apply below_drew1 | refine below_set ?_ GE1024.out | refine below_set ?_ GE1034.out | refine below_set ?_ GE1042.out) | exact HB.out)))); have n5_ := Aside0.mk (blk_below (g := gb1024) (o := .cells #[.slice A0_0 l0_0.length c0_0, .slice A0_1 l0_1.length c0_1, .slice A0_2 l0_2.length c0_2] 78 (0, 0)) (by (with_reducible repeat (first | refine blk_drewN ?_ _ | refine blk_drew ?_ | refine blk_alloc ?_ _)); exact BK1024.out) hb); (first | (with_reducible have n6_ := Aside0.mk (Kd.C_below HR1030_0.out hb)) | (with_reducible have n6_ := Aside0.mk (Kd.C_below (Kd.C_drewN HR1030_0.out _) hb)) | (with_reducible have n6_ := Aside0.mk (Kd.C_below (Kd.C_drew HR1030_0.out) hb)) | (with_reducible have n6_ := Aside0.mk (Kd.C_below (Kd.C_alloc HR1030_0.out _) hb))); have n7_ := Aside0.mk (blk_below (g := gb1034) (o := .cells #[.string t1031, .int .i64 t1032] 27 (0, 0)) (by (with_reducible repeat (first | refine blk_drewN ?_ _ | refine blk_drew ?_ | refine blk_alloc ?_ _)); exact BK1034.out) hb); have n8_ := Aside0.mk (blk_below (g := gb1042) (o := .cells #[.string t1039, .int .i64 t1040] 27 (0, 0)) (by (with_reducible repeat (first | refine blk_drewN ?_ _ | refine blk_drew ?_ | refine blk_alloc ?_ _)); exact BK1042.out) hb); have n9_ := Aside0.mk (below_step (by repeat (first | (with_reducible first | exact HB.out | apply below_alloc | apply pw_below_drewN | apply below_drew1 | refine below_set ?_ GE1024.out | refine below_set ?_ GE1034.out | refine below_set ?_ GE1042.out) | exact HB.out)) hb); clear HO_3; clear HL1030_0; clear HO1038; clear HO1045; clear BK1024; clear HR1030_0; clear BK1034; clear BK1042; clear HB; have HO_3 := n0_; have HL1030_0 := n1_; have HO1038 := n2_; have HO1045 := n3_; have HO1050 := n4_; have BK1024 := n5_; have HR1030_0 := n6_; have BK1034 := n7_; have BK1042 := n8_; have HB := n9_; clear n0_ n1_ n2_ n3_ n4_ n5_ n6_ n7_ n8_ n9_; (try clear hb); (try clear hb2); (try clear hk); (try clear hi); (try clear ho0); have p1053 : 0 ≤ (x4_1 : Int) := of_decide_eq_true (by first | (with_reducible assumption) | assumption); have q1053 : x4_1 < (t1026.length : Int) := of_decide_eq_true (by first | (with_reducible assumption) | assumption); obtain ⟨ad1053, A1053_0, c1053_0, e1053, hx1053_0, hl1053_0, hi1053_0⟩ := at_L7 (Kd.N_reads' HO_3.out).2.2 x4_1 p1053 q1053; obtain rfl : ad1030 = ad1053 := (by injection e1053); obtain ⟨ce1053, hce1053, hMe1053, hcc1053⟩ := Kd.N_get HO_3.out [] x4_1 p1053 (by first | exact q1053 | exact of_decide_eq_true (by first | (with_reducible assumption) | assumption) | (have e_ := (Kd.N_reads' HO_3.out).1; omega)); obtain ⟨ua1053_0, uc1053_0, rfl, ul1053_0, ge1053_0⟩ := Kd.FK_slice_open hMe1053; have hv1053_0 := hcc1053 0 _ rfl; rw [Nat.add_zero, show ((Kd.slice 3 (Kd.int .i64))).sz = 1 from rfl, Nat.mul_one] at hv1053_0; replace hv1053_0 := Option.some.inj (hv1053_0.symm.trans hx1053_0); injection hv1053_0 with hva_ hvn_ hvc_; rw [hva_] at ge1053_0; rw [hvc_] at ul1053_0; have HL1053_0 := Aside0.mk (show Kd.V (Kd.int .i64) 3 _ w.heap.size _ _ (rd_L7 t1026 x4_1) from Kd.V_mk ul1053_0 ge1053_0); clear hva_ hvn_ hvc_ ge1053_0 ul1053_0; clear hcc1053 hce1053; have HR1053_0 := Aside0.mk hi1053_0; have HC1053_0 := Aside0.mk hl1053_0; clear hi1053_0 hl1053_0; replace p1053 := eq_true p1053; replace q1053 := eq_true q1053) | ((with_reducible refine gate_callee (f := 74) rfl ?_); refine goesL_ (some 73) rfl rfl Try.func74 (by kernel_rfl) rfl #[.int .i64 x5_2, .slice A1053_0 (rd_L7 t1026 x4_1).length c1053_0] rfl (by (try simp only [List.map_toArray, List.map_cons, List.map_nil]); first | done | rfl | (simp only [List.length_drop, List.length_take]; rfl)) ?_; (with_reducible refine (gaps_Size.calls x5_2 _ _ (rd_L7 t1026 x4_1) t1054 t1055 _ ?side1 ?side2 A24.out).mono ?_); (case side1 => repeat (first | exact (by repeat (first | (with_reducible exact HR1053_0.out) | (with_reducible refine Kd.C_alloc ?_ _) | (with_reducible refine Kd.C_drewN ?_ _) | (with_reducible refine Kd.C_drew ?_) | exact HR1053_0.out)) | (with_reducible refine Kd.C_alloc ?_ _) | (with_reducible refine Kd.C_drewN ?_ _) | (with_reducible refine Kd.C_drew ?_))); (case side2 => exact HC1053_0.out); rintro e w41 ⟨rfl, hb⟩; refine ⟨_, rfl, ?_⟩; have n0_ := Aside0.mk (Kd.N_below (by (with_reducible repeat (first | apply Kd.N_alloc | apply Kd.N_drewN | apply Kd.N_drew)); exact HO_3.out) hb); have n1_ := Aside0.mk (Kd.V_below (by (with_reducible repeat (first | apply Kd.V_alloc | apply Kd.V_drewN | apply Kd.V_drew)); exact HL1030_0.out) hb); have n2_ := Aside0.mk (Kd.R_below (by (with_reducible repeat (first | apply Kd.R_alloc | apply Kd.R_drewN | apply Kd.R_drew)); exact HO1038.out) hb); have n3_ := Aside0.mk (Kd.R_below (by (with_reducible repeat (first | apply Kd.R_alloc | apply Kd.R_drewN | apply Kd.R_drew)); exact HO1045.out) hb); have n4_ := Aside0.mk (Kd.R_below (by (with_reducible repeat (first | apply Kd.R_alloc | apply Kd.R_drewN | apply Kd.R_drew)); exact HO1050.out) hb); have n5_ := Aside0.mk (Kd.V_below (by (with_reducible repeat (first | apply Kd.V_alloc | apply Kd.V_drewN | apply Kd.V_drew)); exact HL1053_0.out) hb); have n6_ := Aside0.mk (blk_below (g := gb1024) (o := .cells #[.slice A0_0 l0_0.length c0_0, .slice A0_1 l0_1.length c0_1, .slice A0_2 l0_2.length c0_2] 78 (0, 0)) (by (with_reducible repeat (first | refine blk_drewN ?_ _ | refine blk_drew ?_ | refine blk_alloc ?_ _)); exact BK1024.out) hb); (first | (with_reducible have n7_ := Aside0.mk (Kd.C_below HR1030_0.out hb)) | (with_reducible have n7_ := Aside0.mk (Kd.C_below (Kd.C_drewN HR1030_0.out _) hb)) | (with_reducible have n7_ := Aside0.mk (Kd.C_below (Kd.C_drew HR1030_0.out) hb)) | (with_reducible have n7_ := Aside0.mk (Kd.C_below (Kd.C_alloc HR1030_0.out _) hb))); have n8_ := Aside0.mk (blk_below (g := gb1034) (o := .cells #[.string t1031, .int .i64 t1032] 27 (0, 0)) (by (with_reducible repeat (first | refine blk_drewN ?_ _ | refine blk_drew ?_ | refine blk_alloc ?_ _)); exact BK1034.out) hb); have n9_ := Aside0.mk (blk_below (g := gb1042) (o := .cells #[.string t1039, .int .i64 t1040] 27 (0, 0)) (by (with_reducible repeat (first | refine blk_drewN ?_ _ | refine blk_drew ?_ | refine blk_alloc ?_ _)); exact BK1042.out) hb); (first | (with_reducible have n10_ := Aside0.mk (Kd.C_below HR1053_0.out hb)) | (with_reducible have n10_ := Aside0.mk (Kd.C_below (Kd.C_drewN HR1053_0.out _) hb)) | (with_reducible have n10_ := Aside0.mk (Kd.C_below (Kd.C_drew HR1053_0.out) hb)) | (with_reducible have n10_ := Aside0.mk (Kd.C_below (Kd.C_alloc HR1053_0.out _) hb))); have n11_ := Aside0.mk (below_step (by repeat (first | (with_reducible first | exact HB.out | apply below_alloc | apply pw_below_drewN | apply below_drew1 | refine below_set ?_ GE1024.out | refine below_set ?_ GE1034.out | refine below_set ?_ GE1042.out) | exact HB.out)) hb); clear HO_3; clear HL1030_0; clear HO1038; clear HO1045; clear HO1050; clear HL1053_0; clear BK1024; clear HR1030_0; clear BK1034; clear BK1042; clear HR1053_0; clear HB; have HO_3 := n0_; have HL1030_0 := n1_; have HO1038 := n2_; have HO1045 := n3_; have HO1050 := n4_; have HL1053_0 := n5_; have BK1024 := n6_; have HR1030_0 := n7_; have BK1034 := n8_; have BK1042 := n9_; have HR1053_0 := n10_; have HB := n11_; clear n0_ n1_ n2_ n3_ n4_ n5_ n6_ n7_ n8_ n9_ n10_ n11_; (try clear hb); (try clear hb2); (try clear hk); (try clear hi)))
           (try simp only [Act.put, List.setIfInBounds_toArray, List.set_cons_zero, List.set_cons_succ])
           go_cut [121] (fun v121 wc => ∃ (kq : Nat) (x121_24 : Bool), v121 = .bool x121_24 ∧ Aside0 (herbariumlaw3_GapsBack.j2 kq t1026 x4_1 x5_2 t1054 x121_24 = some true) ∧ Aside0 (kq ≤ k2) ∧ Aside0 (Kd.N (Kd.slice 3 (Kd.int .i64)) 23 wc w.heap.size (fun k_ => k_ ≠ gb1024 ∧ k_ ≠ gb1034 ∧ k_ ≠ gb1042) (.slice (some ad1030) t1026.length co14) t1026) ∧ Aside0 (wc.heap[gb1024]? = some (.cells #[(.slice A0_0 l0_0.length c0_0), (.slice A0_1 l0_1.length c0_1), (.slice A0_2 l0_2.length c0_2)] 78 (0, 0))) ∧ Aside0 (wc.heap[gb1034]? = some (.cells #[.string t1031, .int .i64 t1032] 27 (0, 0))) ∧ Aside0 (wc.heap[gb1042]? = some (.cells #[.string t1039, .int .i64 t1040] 27 (0, 0))) ∧ Aside0 (Kd.C (Kd.int .i64) wc A1030_0 (rd_L7 t1026 x4_1).length (rd_L7 t1026 x4_1)) ∧ Aside0 (Kd.C (Kd.int .i64) wc A1053_0 (rd_L7 t1026 x4_1).length (rd_L7 t1026 x4_1)) ∧ Aside0 (Below w.heap.size w wc))
           case first =>
            have H := HC25.out
            clear HC25
            replace H := Option.bind_eq_some_iff.mp H
            obtain ⟨t1056, A420, H⟩ := H
            replace H : ((herbariumlaw3_num.f t1047).bind fun t1057 => ((herbariumlaw3_num.f t1052).bind fun t1058 => ((herbariumlaw3_num.f t1055).bind fun t1059 => (if (wrap64 ((wrap64 ((wrap64 (t1056 + t1057)) + t1058)) + t1059)) = 0 then ((herbariumref0_EqNumbers.f k2 t1043 (rd_L7 t1026 x4_1)).bind fun t1061 => (if t1061 = true then (if t1046 = t1032 then ((herbariumref0_EqNumbers.f k2 t1048 (([1, 5] : List Int))).bind fun t1065 => (if t1065 = true then (if t1051 = t1040 then (herbariumlaw3_GapsBack.j2 k2 t1026 x4_1 x5_2 t1054 (t1054 != (wrap64 (t1032 - 3)))) else (herbariumlaw3_GapsBack.j2 k2 t1026 x4_1 x5_2 t1054 true)) else (herbariumlaw3_GapsBack.j2 k2 t1026 x4_1 x5_2 t1054 true))) else (herbariumlaw3_GapsBack.j2 k2 t1026 x4_1 x5_2 t1054 true)) else (herbariumlaw3_GapsBack.j2 k2 t1026 x4_1 x5_2 t1054 true))) else (herbariumlaw3_GapsBack.j2 k2 t1026 x4_1 x5_2 t1054 true))))) = some true := H
            have A42 := Aside0.mk A420
            clear A420
            replace H := Option.bind_eq_some_iff.mp H
            obtain ⟨t1057, A430, H⟩ := H
            replace H : ((herbariumlaw3_num.f t1052).bind fun t1058 => ((herbariumlaw3_num.f t1055).bind fun t1059 => (if (wrap64 ((wrap64 ((wrap64 (t1056 + t1057)) + t1058)) + t1059)) = 0 then ((herbariumref0_EqNumbers.f k2 t1043 (rd_L7 t1026 x4_1)).bind fun t1061 => (if t1061 = true then (if t1046 = t1032 then ((herbariumref0_EqNumbers.f k2 t1048 (([1, 5] : List Int))).bind fun t1065 => (if t1065 = true then (if t1051 = t1040 then (herbariumlaw3_GapsBack.j2 k2 t1026 x4_1 x5_2 t1054 (t1054 != (wrap64 (t1032 - 3)))) else (herbariumlaw3_GapsBack.j2 k2 t1026 x4_1 x5_2 t1054 true)) else (herbariumlaw3_GapsBack.j2 k2 t1026 x4_1 x5_2 t1054 true))) else (herbariumlaw3_GapsBack.j2 k2 t1026 x4_1 x5_2 t1054 true)) else (herbariumlaw3_GapsBack.j2 k2 t1026 x4_1 x5_2 t1054 true))) else (herbariumlaw3_GapsBack.j2 k2 t1026 x4_1 x5_2 t1054 true)))) = some true := H
            have A43 := Aside0.mk A430
            clear A430
            replace H := Option.bind_eq_some_iff.mp H
            obtain ⟨t1058, A440, H⟩ := H
            replace H : ((herbariumlaw3_num.f t1055).bind fun t1059 => (if (wrap64 ((wrap64 ((wrap64 (t1056 + t1057)) + t1058)) + t1059)) = 0 then ((herbariumref0_EqNumbers.f k2 t1043 (rd_L7 t1026 x4_1)).bind fun t1061 => (if t1061 = true then (if t1046 = t1032 then ((herbariumref0_EqNumbers.f k2 t1048 (([1, 5] : List Int))).bind fun t1065 => (if t1065 = true then (if t1051 = t1040 then (herbariumlaw3_GapsBack.j2 k2 t1026 x4_1 x5_2 t1054 (t1054 != (wrap64 (t1032 - 3)))) else (herbariumlaw3_GapsBack.j2 k2 t1026 x4_1 x5_2 t1054 true)) else (herbariumlaw3_GapsBack.j2 k2 t1026 x4_1 x5_2 t1054 true))) else (herbariumlaw3_GapsBack.j2 k2 t1026 x4_1 x5_2 t1054 true)) else (herbariumlaw3_GapsBack.j2 k2 t1026 x4_1 x5_2 t1054 true))) else (herbariumlaw3_GapsBack.j2 k2 t1026 x4_1 x5_2 t1054 true))) = some true := H
            have A44 := Aside0.mk A440
            clear A440
            replace H := Option.bind_eq_some_iff.mp H
            obtain ⟨t1059, A450, H⟩ := H
            replace H : (if (wrap64 ((wrap64 ((wrap64 (t1056 + t1057)) + t1058)) + t1059)) = 0 then ((herbariumref0_EqNumbers.f k2 t1043 (rd_L7 t1026 x4_1)).bind fun t1061 => (if t1061 = true then (if t1046 = t1032 then ((herbariumref0_EqNumbers.f k2 t1048 (([1, 5] : List Int))).bind fun t1065 => (if t1065 = true then (if t1051 = t1040 then (herbariumlaw3_GapsBack.j2 k2 t1026 x4_1 x5_2 t1054 (t1054 != (wrap64 (t1032 - 3)))) else (herbariumlaw3_GapsBack.j2 k2 t1026 x4_1 x5_2 t1054 true)) else (herbariumlaw3_GapsBack.j2 k2 t1026 x4_1 x5_2 t1054 true))) else (herbariumlaw3_GapsBack.j2 k2 t1026 x4_1 x5_2 t1054 true)) else (herbariumlaw3_GapsBack.j2 k2 t1026 x4_1 x5_2 t1054 true))) else (herbariumlaw3_GapsBack.j2 k2 t1026 x4_1 x5_2 t1054 true)) = some true := H
            have A45 := Aside0.mk A450
            clear A450
            by_cases c46 : (wrap64 ((wrap64 ((wrap64 (t1056 + t1057)) + t1058)) + t1059)) = 0
            ·
             rw [if_pos c46] at H
             have c46b0 : ((wrap64 ((wrap64 ((wrap64 (t1056 + t1057)) + t1058)) + t1059)) == 0) = true := beq_iff_eq.mpr c46
             have c46b1 : ((wrap64 ((wrap64 ((wrap64 (t1056 + t1057)) + t1058)) + t1059)) != 0) = false := bne_eq_false_iff_eq.mpr c46
             clear c46
             (first | rw [c46b0] | (simp only [i64_w, i32_w]; rw [c46b0]) | skip)
             replace H := Option.bind_eq_some_iff.mp H
             obtain ⟨t1061, A470, H⟩ := H
             replace H : (if t1061 = true then (if t1046 = t1032 then ((herbariumref0_EqNumbers.f k2 t1048 (([1, 5] : List Int))).bind fun t1065 => (if t1065 = true then (if t1051 = t1040 then (herbariumlaw3_GapsBack.j2 k2 t1026 x4_1 x5_2 t1054 (t1054 != (wrap64 (t1032 - 3)))) else (herbariumlaw3_GapsBack.j2 k2 t1026 x4_1 x5_2 t1054 true)) else (herbariumlaw3_GapsBack.j2 k2 t1026 x4_1 x5_2 t1054 true))) else (herbariumlaw3_GapsBack.j2 k2 t1026 x4_1 x5_2 t1054 true)) else (herbariumlaw3_GapsBack.j2 k2 t1026 x4_1 x5_2 t1054 true)) = some true := H
             have A47 := Aside0.mk A470
             clear A470
             by_cases c48 : t1061 = true
             ·
              subst c48
              have H1 : (if t1046 = t1032 then ((herbariumref0_EqNumbers.f k2 t1048 (([1, 5] : List Int))).bind fun t1065 => (if t1065 = true then (if t1051 = t1040 then (herbariumlaw3_GapsBack.j2 k2 t1026 x4_1 x5_2 t1054 (t1054 != (wrap64 (t1032 - 3)))) else (herbariumlaw3_GapsBack.j2 k2 t1026 x4_1 x5_2 t1054 true)) else (herbariumlaw3_GapsBack.j2 k2 t1026 x4_1 x5_2 t1054 true))) else (herbariumlaw3_GapsBack.j2 k2 t1026 x4_1 x5_2 t1054 true)) = some true := by rw [if_pos rfl] at H; exact H
              clear H
              have H := H1
              clear H1
              by_cases c49 : t1046 = t1032
              ·
               rw [if_pos c49] at H
               have c49b0 : (t1046 == t1032) = true := beq_iff_eq.mpr c49
               have c49b1 : (t1046 != t1032) = false := bne_eq_false_iff_eq.mpr c49
               clear c49
               obtain ⟨y1062, hy1062⟩ : ∃ y_ : List Int, y_ = (([1, 5] : List Int)) := ⟨_, rfl⟩
               replace H : ((herbariumref0_EqNumbers.f k2 t1048 y1062).bind fun t1065 => (if t1065 = true then (if t1051 = t1040 then (herbariumlaw3_GapsBack.j2 k2 t1026 x4_1 x5_2 t1054 (t1054 != (wrap64 (t1032 - 3)))) else (herbariumlaw3_GapsBack.j2 k2 t1026 x4_1 x5_2 t1054 true)) else (herbariumlaw3_GapsBack.j2 k2 t1026 x4_1 x5_2 t1054 true))) = some true := by first | (rw [hy1062]; with_reducible exact H) | (have H2_ := (Option.bind_some _ _).symm.trans H; rw [hy1062]; with_reducible exact H2_) | (have H2_ := (Option.bind_some _ _).symm.trans H; with_reducible exact H2_) | with_reducible exact H | (rw [hy1062]; exact H) | exact H
               have Ny1062 := Aside0.mk hy1062
               clear hy1062
               replace H := Option.bind_eq_some_iff.mp H
               obtain ⟨t1065, A500, H⟩ := H
               replace H : (if t1065 = true then (if t1051 = t1040 then (herbariumlaw3_GapsBack.j2 k2 t1026 x4_1 x5_2 t1054 (t1054 != (wrap64 (t1032 - 3)))) else (herbariumlaw3_GapsBack.j2 k2 t1026 x4_1 x5_2 t1054 true)) else (herbariumlaw3_GapsBack.j2 k2 t1026 x4_1 x5_2 t1054 true)) = some true := H
               have A50 := Aside0.mk A500
               clear A500
               by_cases c51 : t1065 = true
               ·
                subst c51
                have H1 : (if t1051 = t1040 then (herbariumlaw3_GapsBack.j2 k2 t1026 x4_1 x5_2 t1054 (t1054 != (wrap64 (t1032 - 3)))) else (herbariumlaw3_GapsBack.j2 k2 t1026 x4_1 x5_2 t1054 true)) = some true := by rw [if_pos rfl] at H; exact H
                clear H
                have H := H1
                clear H1
                by_cases c52 : t1051 = t1040
                ·
                 rw [if_pos c52] at H
                 have c52b0 : (t1051 == t1040) = true := beq_iff_eq.mpr c52
                 have c52b1 : (t1051 != t1040) = false := bne_eq_false_iff_eq.mpr c52
                 clear c52
                 have H' := Aside0.mk H
                 clear H
                 go_wp2_with (first | ((with_reducible refine gate_callee (f := 72) rfl ?_); refine goesL_ (some 77) rfl rfl Try.func72 (by kernel_rfl) rfl #[.int .i64 t1041] rfl (by (try simp only [List.map_toArray, List.map_cons, List.map_nil]); first | done | rfl | (simp only [List.length_drop, List.length_take]; rfl)) ?_; (with_reducible refine (herbariumlaw3_num.calls t1041 t1056 _ A42.out).mono ?_); rintro e w' ⟨rfl, ⟨nd, rfl⟩⟩; refine ⟨_, rfl, ?_⟩) | ((with_reducible refine gate_callee (f := 72) rfl ?_); refine goesL_ (some 79) rfl rfl Try.func72 (by kernel_rfl) rfl #[.int .i64 t1047] rfl (by (try simp only [List.map_toArray, List.map_cons, List.map_nil]); first | done | rfl | (simp only [List.length_drop, List.length_take]; rfl)) ?_; (with_reducible refine (herbariumlaw3_num.calls t1047 t1057 _ A43.out).mono ?_); rintro e w' ⟨rfl, ⟨nd, rfl⟩⟩; refine ⟨_, rfl, ?_⟩) | ((with_reducible refine gate_callee (f := 72) rfl ?_); refine goesL_ (some 82) rfl rfl Try.func72 (by kernel_rfl) rfl #[.int .i64 t1052] rfl (by (try simp only [List.map_toArray, List.map_cons, List.map_nil]); first | done | rfl | (simp only [List.length_drop, List.length_take]; rfl)) ?_; (with_reducible refine (herbariumlaw3_num.calls t1052 t1058 _ A44.out).mono ?_); rintro e w' ⟨rfl, ⟨nd, rfl⟩⟩; refine ⟨_, rfl, ?_⟩) | ((with_reducible refine gate_callee (f := 72) rfl ?_); refine goesL_ (some 85) rfl rfl Try.func72 (by kernel_rfl) rfl #[.int .i64 t1055] rfl (by (try simp only [List.map_toArray, List.map_cons, List.map_nil]); first | done | rfl | (simp only [List.length_drop, List.length_take]; rfl)) ?_; (with_reducible refine (herbariumlaw3_num.calls t1055 t1059 _ A45.out).mono ?_); rintro e w' ⟨rfl, ⟨nd, rfl⟩⟩; refine ⟨_, rfl, ?_⟩; have p1060 : 0 ≤ (x4_1 : Int) := of_decide_eq_true (by first | (with_reducible assumption) | assumption); have q1060 : x4_1 < (t1026.length : Int) := of_decide_eq_true (by first | (with_reducible assumption) | assumption); obtain ⟨ad1060, A1060_0, c1060_0, e1060, hx1060_0, hl1060_0, hi1060_0⟩ := at_L7 (Kd.N_reads' HO_3.out).2.2 x4_1 p1060 q1060; obtain rfl : ad1030 = ad1060 := (by injection e1060); obtain ⟨ce1060, hce1060, hMe1060, hcc1060⟩ := Kd.N_get HO_3.out [] x4_1 p1060 (by first | exact q1060 | exact of_decide_eq_true (by first | (with_reducible assumption) | assumption) | (have e_ := (Kd.N_reads' HO_3.out).1; omega)); obtain ⟨ua1060_0, uc1060_0, rfl, ul1060_0, ge1060_0⟩ := Kd.FK_slice_open hMe1060; have hv1060_0 := hcc1060 0 _ rfl; rw [Nat.add_zero, show ((Kd.slice 3 (Kd.int .i64))).sz = 1 from rfl, Nat.mul_one] at hv1060_0; replace hv1060_0 := Option.some.inj (hv1060_0.symm.trans hx1060_0); injection hv1060_0 with hva_ hvn_ hvc_; rw [hva_] at ge1060_0; rw [hvc_] at ul1060_0; have HL1060_0 := Aside0.mk (show Kd.V (Kd.int .i64) 3 _ w.heap.size _ _ (rd_L7 t1026 x4_1) from Kd.V_mk ul1060_0 ge1060_0); clear hva_ hvn_ hvc_ ge1060_0 ul1060_0; clear hcc1060 hce1060; have HR1060_0 := Aside0.mk hi1060_0; have HC1060_0 := Aside0.mk hl1060_0; clear hi1060_0 hl1060_0; replace p1060 := eq_true p1060; replace q1060 := eq_true q1060; obtain ⟨Ao53, co53, eo53⟩ := Kd.R_slice HO1045.out; subst eo53) | (go_at_call 75; (with_reducible refine (herbariumref0_EqNumbers.calls k2 _ _ t1043 _ _ (rd_L7 t1026 x4_1) true _ ?side1 ?side2 ?side3 ?side4 A47.out).mono ?_); (case side1 => repeat (first | exact (Kd.R_reads' HO1045.out).2.2 | (with_reducible refine Kd.C_alloc ?_ _) | (with_reducible refine Kd.C_drewN ?_ _) | (with_reducible refine Kd.C_drew ?_))); (case side2 => exact (Kd.R_reads' HO1045.out).2.1); (case side3 => repeat (first | exact (by repeat (first | (with_reducible exact HR1060_0.out) | (with_reducible refine Kd.C_alloc ?_ _) | (with_reducible refine Kd.C_drewN ?_ _) | (with_reducible refine Kd.C_drew ?_) | exact HR1060_0.out)) | (with_reducible refine Kd.C_alloc ?_ _) | (with_reducible refine Kd.C_drewN ?_ _) | (with_reducible refine Kd.C_drew ?_))); (case side4 => exact HC1060_0.out); rintro e w' ⟨rfl, ⟨nd, rfl⟩⟩; have hnb54 := NB1034_1024.out; have hnc54 := NB1024_1034.out; have hnb55 := NB1034_1042.out; have hnc55 := NB1042_1034.out; have hcz56_0 : w41.cell? ⟨gb1034, 0, none⟩ = some (.string t1031) := (blk_cell BK1034.out 0).trans rfl; have hcz56_1 : w41.cell? ⟨gb1034, 1, none⟩ = some (.int .i64 t1032) := (blk_cell BK1034.out 1).trans rfl; have hfz56_0 := blk_frozen BK1034.out 0; have hfz56_1 := blk_frozen BK1034.out 1) | ((with_reducible refine gate_dst (N := 105) rfl ?_); (try (refine gate_guard (by rfl) ?_; dsimp only)); refine Kd.R_lit (Kd.int .i64) _ 3 ?hg (N := 105) ?hd (xs := ([1, 5] : List Int)) (inner := [.int .i64 1, .int .i64 5]) (ok := fun _ => True) (okp := fun _ => True) ?hr ?hp (fun _ hk => hk) trivial (Below.refl _ _) (Nat.le_refl _) (by simp) ?_; (case hd => rfl); (case hg => rfl); (case hr => first | (go_simp; done) | (go_simp; rfl)); (case hp => exact (Reps.one (show Kd.M (Kd.int .i64) _ _ _ 1 [.int .i64 1] from rfl) (Reps.one (show Kd.M (Kd.int .i64) _ _ _ 5 [.int .i64 5] from rfl) (Reps.none _ _)))); intro v1063 w57 ho58 hb hg_ hnew_; clear hg_ hnew_; (first | rw [← Ny1062.out] at ho58 | (simp only [Int.reduceToNat] at ho58; rw [← Ny1062.out] at ho58)); have n0_ := Aside0.mk (Kd.N_elder' (by (with_reducible repeat (first | apply Kd.N_alloc | apply Kd.N_drewN | apply Kd.N_drew)); exact HO_3.out) (Kd.R_base ho58) hb); have n1_ := Aside0.mk (Kd.V_elder' (by (with_reducible repeat (first | apply Kd.V_alloc | apply Kd.V_drewN | apply Kd.V_drew)); exact HL1030_0.out) (Kd.R_base ho58) hb); have n2_ := Aside0.mk (Kd.R_elder' (by (with_reducible repeat (first | apply Kd.R_alloc | apply Kd.R_drewN | apply Kd.R_drew)); exact HO1038.out) (Kd.R_base ho58) hb); have n3_ := Aside0.mk (Kd.R_elder' (by (with_reducible repeat (first | apply Kd.R_alloc | apply Kd.R_drewN | apply Kd.R_drew)); exact HO1045.out) (Kd.R_base ho58) hb); have n4_ := Aside0.mk (Kd.R_elder' (by (with_reducible repeat (first | apply Kd.R_alloc | apply Kd.R_drewN | apply Kd.R_drew)); exact HO1050.out) (Kd.R_base ho58) hb); have n5_ := Aside0.mk (Kd.V_elder' (by (with_reducible repeat (first | apply Kd.V_alloc | apply Kd.V_drewN | apply Kd.V_drew)); exact HL1053_0.out) (Kd.R_base ho58) hb); have n6_ := Aside0.mk (Kd.V_elder' (by (with_reducible repeat (first | apply Kd.V_alloc | apply Kd.V_drewN | apply Kd.V_drew)); exact HL1060_0.out) (Kd.R_base ho58) hb); have n7_ := Aside0.mk (Kd.R_lower (Kd.R_new' (Kd.R_new' (Kd.R_new' ho58 (Kd.R_lt (by (with_reducible repeat (first | apply Kd.R_alloc | apply Kd.R_drewN | apply Kd.R_drew)); exact HO1038.out))) (Kd.R_lt (by (with_reducible repeat (first | apply Kd.R_alloc | apply Kd.R_drewN | apply Kd.R_drew)); exact HO1045.out))) (Kd.R_lt (by (with_reducible repeat (first | apply Kd.R_alloc | apply Kd.R_drewN | apply Kd.R_drew)); exact HO1050.out))) (below_size (by repeat (first | (with_reducible first | exact HB.out | apply below_alloc | apply pw_below_drewN | apply below_drew1 | refine below_set ?_ GE1024.out | refine below_set ?_ GE1034.out | refine below_set ?_ GE1042.out) | exact HB.out)))); have n8_ := Aside0.mk (blk_below (g := gb1024) (o := .cells #[.slice A0_0 l0_0.length c0_0, .slice A0_1 l0_1.length c0_1, .slice A0_2 l0_2.length c0_2] 78 (0, 0)) (by (with_reducible repeat (first | refine blk_drewN ?_ _ | refine blk_drew ?_ | refine blk_alloc ?_ _)); exact BK1024.out) hb); (first | (with_reducible have n9_ := Aside0.mk (Kd.C_below HR1030_0.out hb)) | (with_reducible have n9_ := Aside0.mk (Kd.C_below (Kd.C_drewN HR1030_0.out _) hb)) | (with_reducible have n9_ := Aside0.mk (Kd.C_below (Kd.C_drew HR1030_0.out) hb)) | (with_reducible have n9_ := Aside0.mk (Kd.C_below (Kd.C_alloc HR1030_0.out _) hb))); have n10_ := Aside0.mk (blk_below (g := gb1034) (o := .cells #[.string t1031, .int .i64 t1032] 27 (0, 0)) (by (with_reducible repeat (first | refine blk_drewN ?_ _ | refine blk_drew ?_ | refine blk_alloc ?_ _)); exact BK1034.out) hb); have n11_ := Aside0.mk (blk_below (g := gb1042) (o := .cells #[.string t1039, .int .i64 t1040] 27 (0, 0)) (by (with_reducible repeat (first | refine blk_drewN ?_ _ | refine blk_drew ?_ | refine blk_alloc ?_ _)); exact BK1042.out) hb); (first | (with_reducible have n12_ := Aside0.mk (Kd.C_below HR1053_0.out hb)) | (with_reducible have n12_ := Aside0.mk (Kd.C_below (Kd.C_drewN HR1053_0.out _) hb)) | (with_reducible have n12_ := Aside0.mk (Kd.C_below (Kd.C_drew HR1053_0.out) hb)) | (with_reducible have n12_ := Aside0.mk (Kd.C_below (Kd.C_alloc HR1053_0.out _) hb))); (first | (with_reducible have n13_ := Aside0.mk (Kd.C_below HR1060_0.out hb)) | (with_reducible have n13_ := Aside0.mk (Kd.C_below (Kd.C_drewN HR1060_0.out _) hb)) | (with_reducible have n13_ := Aside0.mk (Kd.C_below (Kd.C_drew HR1060_0.out) hb)) | (with_reducible have n13_ := Aside0.mk (Kd.C_below (Kd.C_alloc HR1060_0.out _) hb))); have n14_ := Aside0.mk (below_step (by repeat (first | (with_reducible first | exact HB.out | apply below_alloc | apply pw_below_drewN | apply below_drew1 | refine below_set ?_ GE1024.out | refine below_set ?_ GE1034.out | refine below_set ?_ GE1042.out) | exact HB.out)) hb); clear HO_3; clear HL1030_0; clear HO1038; clear HO1045; clear HO1050; clear HL1053_0; clear HL1060_0; clear BK1024; clear HR1030_0; clear BK1034; clear BK1042; clear HR1053_0; clear HR1060_0; clear HB; have HO_3 := n0_; have HL1030_0 := n1_; have HO1038 := n2_; have HO1045 := n3_; have HO1050 := n4_; have HL1053_0 := n5_; have HL1060_0 := n6_; have HO1064 := n7_; have BK1024 := n8_; have HR1030_0 := n9_; have BK1034 := n10_; have BK1042 := n11_; have HR1053_0 := n12_; have HR1060_0 := n13_; have HB := n14_; clear n0_ n1_ n2_ n3_ n4_ n5_ n6_ n7_ n8_ n9_ n10_ n11_ n12_ n13_ n14_; clear hb ho58; obtain ⟨Ao59, co59, eo59⟩ := Kd.R_slice HO1050.out; subst eo59; obtain ⟨Ao60, co60, eo60⟩ := Kd.R_slice HO1064.out; subst eo60) | (go_at_call 75; (with_reducible refine (herbariumref0_EqNumbers.calls k2 _ _ t1048 _ _ y1062 true _ ?side1 ?side2 ?side3 ?side4 A50.out).mono ?_); (case side1 => repeat (first | exact (Kd.R_reads' HO1050.out).2.2 | (with_reducible refine Kd.C_alloc ?_ _) | (with_reducible refine Kd.C_drewN ?_ _) | (with_reducible refine Kd.C_drew ?_))); (case side2 => exact (Kd.R_reads' HO1050.out).2.1); (case side3 => repeat (first | exact (Kd.R_reads' HO1064.out).2.2 | (with_reducible refine Kd.C_alloc ?_ _) | (with_reducible refine Kd.C_drewN ?_ _) | (with_reducible refine Kd.C_drew ?_))); (case side4 => exact (Kd.R_reads' HO1064.out).2.1); rintro e w' ⟨rfl, ⟨nd, rfl⟩⟩; have hnb61 := NB1042_1024.out; have hnc61 := NB1024_1042.out; have hcz62_0 : w57.cell? ⟨gb1042, 0, none⟩ = some (.string t1039) := (blk_cell BK1042.out 0).trans rfl; have hcz62_1 : w57.cell? ⟨gb1042, 1, none⟩ = some (.int .i64 t1040) := (blk_cell BK1042.out 1).trans rfl; have hfz62_0 := blk_frozen BK1042.out 0; have hfz62_1 := blk_frozen BK1042.out 1; have hcz63_0 : w57.cell? ⟨gb1034, 0, none⟩ = some (.string t1031) := (blk_cell BK1034.out 0).trans rfl; have hcz63_1 : w57.cell? ⟨gb1034, 1, none⟩ = some (.int .i64 t1032) := (blk_cell BK1034.out 1).trans rfl; have hfz63_0 := blk_frozen BK1034.out 0; have hfz63_1 := blk_frozen BK1034.out 1))
                 go_meet
                 case rel => exact ⟨_, ((t1054 != (wrap64 (t1032 - 3)))), (by first | rfl | (simp; done) | (simp [*]; done)), H', ⟨by have := HK1.out; have := HK2.out; first | omega | exact Nat.le_refl _⟩, ⟨by (with_reducible repeat (first | apply Kd.N_alloc | apply Kd.N_drewN | apply Kd.N_drew)); exact Kd.N_mono HO_3.out (fun _ hk => ⟨hk.1.1.1.1.1.1, ⟨hk.1.1.1.1.1.2, hk.1.1.1.2⟩⟩)⟩, ⟨by (with_reducible repeat (first | refine blk_drewN ?_ _ | refine blk_drew ?_ | refine blk_alloc ?_ _)); exact BK1024.out⟩, ⟨by (with_reducible repeat (first | refine blk_drewN ?_ _ | refine blk_drew ?_ | refine blk_alloc ?_ _)); exact BK1034.out⟩, ⟨by (with_reducible repeat (first | refine blk_drewN ?_ _ | refine blk_drew ?_ | refine blk_alloc ?_ _)); exact BK1042.out⟩, ⟨by repeat (first | (with_reducible exact HR1030_0.out) | (with_reducible refine Kd.C_alloc ?_ _) | (with_reducible refine Kd.C_drewN ?_ _) | (with_reducible refine Kd.C_drew ?_) | exact HR1030_0.out)⟩, ⟨by repeat (first | (with_reducible exact HR1053_0.out) | (with_reducible refine Kd.C_alloc ?_ _) | (with_reducible refine Kd.C_drewN ?_ _) | (with_reducible refine Kd.C_drew ?_) | exact HR1053_0.out)⟩, ⟨by repeat (first | (with_reducible first | exact HB.out | apply below_alloc | apply pw_below_drewN | apply below_drew1 | refine below_set ?_ GE1024.out | refine below_set ?_ GE1034.out | refine below_set ?_ GE1042.out) | exact HB.out)⟩⟩
                ·
                 rw [if_neg c52] at H
                 have c52b0 : (t1051 == t1040) = false := beq_eq_false_iff_ne.mpr c52
                 have c52b1 : (t1051 != t1040) = true := bne_iff_ne.mpr c52
                 exact absurd H (herbariumlaw3_GapsBack.j2_no _ _ _ _ _)
               ·
                replace c51 := Bool.eq_false_iff.mpr c51
                subst c51
                have H1 : (herbariumlaw3_GapsBack.j2 k2 t1026 x4_1 x5_2 t1054 true) = some true := by rw [if_neg (show ¬ (false = true) by decide)] at H; exact H
                clear H
                have H := H1
                clear H1
                exact absurd H (herbariumlaw3_GapsBack.j2_no _ _ _ _ _)
              ·
               rw [if_neg c49] at H
               have c49b0 : (t1046 == t1032) = false := beq_eq_false_iff_ne.mpr c49
               have c49b1 : (t1046 != t1032) = true := bne_iff_ne.mpr c49
               exact absurd H (herbariumlaw3_GapsBack.j2_no _ _ _ _ _)
             ·
              replace c48 := Bool.eq_false_iff.mpr c48
              subst c48
              have H1 : (herbariumlaw3_GapsBack.j2 k2 t1026 x4_1 x5_2 t1054 true) = some true := by rw [if_neg (show ¬ (false = true) by decide)] at H; exact H
              clear H
              have H := H1
              clear H1
              exact absurd H (herbariumlaw3_GapsBack.j2_no _ _ _ _ _)
            ·
             rw [if_neg c46] at H
             have c46b0 : ((wrap64 ((wrap64 ((wrap64 (t1056 + t1057)) + t1058)) + t1059)) == 0) = false := beq_eq_false_iff_ne.mpr c46
             have c46b1 : ((wrap64 ((wrap64 ((wrap64 (t1056 + t1057)) + t1058)) + t1059)) != 0) = true := bne_iff_ne.mpr c46
             (first | rw [c46b0] | (simp only [i64_w, i32_w]; rw [c46b0]) | skip)
             exact absurd H (herbariumlaw3_GapsBack.j2_no _ _ _ _ _)
           case rest =>
            clear HC25
            (try clear c1); (try clear p1); (try clear q1); (try clear hx1); (try clear c2); (try clear p2); (try clear c3); (try clear c4); (try clear c5); (try clear c6); (try clear p6); (try clear c7); (try clear c8); (try clear c10); (try clear p10); (try clear q10); (try clear hx10); (try clear c13); (try clear c13b0); (try clear c15); (try clear c15b0); (try clear c16); (try clear c16b0); (try clear c17); (try clear c17b0); (try clear c20); (try clear c20b0); (try clear c20b1); (try clear c21); (try clear c28); (try clear c35); (try clear c36); (try clear c46); (try clear c46b0); (try clear c46b1)
            (try clear c48); (try clear c49); (try clear c49b0); (try clear c49b1); (try clear c51); (try clear c52); (try clear c52b0); (try clear c52b1); (try clear c54); (try clear c55); (try clear c61); (try clear p64); (try clear c65); (try clear c66); (try clear c69); (try clear c70); (try clear c71); (try clear c72); (try clear c73); (try clear c74); (try clear c75); (try clear c76); (try clear c83); (try clear c84); (try clear hcz11_0); (try clear hcz11_1); (try clear hcz11_2); (try clear hcz29_0); (try clear hcz29_1); (try clear hcz37_0); (try clear hcz37_1); (try clear hcz39_0); (try clear hcz39_1)
            (try clear hcz56_0); (try clear hcz56_1); (try clear hcz5_0); (try clear hcz5_1); (try clear hcz5_2); (try clear hcz62_0); (try clear hcz62_1); (try clear hcz63_0); (try clear hcz63_1); (try clear hcz67_0); (try clear hcz67_1); (try clear hcz73_0); (try clear hcz73_1); (try clear hcz77_0); (try clear hcz77_1); (try clear hcz85_0); (try clear hcz85_1); (try clear hcz9_0); (try clear hcz9_1); (try clear hcz9_2); (try clear hfz11_0); (try clear hfz11_1); (try clear hfz11_2); (try clear hfz29_0); (try clear hfz29_1); (try clear hfz37_0); (try clear hfz37_1); (try clear hfz39_0); (try clear hfz39_1)
            (try clear hfz56_0); (try clear hfz56_1); (try clear hfz5_0); (try clear hfz5_1); (try clear hfz5_2); (try clear hfz62_0); (try clear hfz62_1); (try clear hfz63_0); (try clear hfz63_1); (try clear hfz67_0); (try clear hfz67_1); (try clear hfz73_0); (try clear hfz73_1); (try clear hfz77_0); (try clear hfz77_1); (try clear hfz85_0); (try clear hfz85_1); (try clear hfz9_0); (try clear hfz9_1); (try clear hfz9_2); (try clear hx1030_0); (try clear hx1053_0); (try clear hx1060_0); (try clear p1030); (try clear p1053); (try clear p1060); (try clear p2); (try clear q1030); (try clear q1053)
            (try clear q1060); (try clear HA); (try clear HJ24); (try clear HO_3); (try clear BK1024); (try clear BK1034); (try clear BK1042); (try clear HR1030_0); (try clear HR1053_0); (try clear HB)
            obtain ⟨kq, x121_24, rfl, HA, HJ24, HO_3, BK1024, BK1034, BK1042, HR1030_0, HR1053_0, HB⟩ := hcut
            cases kq with
            | zero => exact absurd HA.out (by simp [herbariumlaw3_GapsBack.j2])
            | succ kj24 =>
             have H := HA.out
             clear HA
             simp only [herbariumlaw3_GapsBack.j2] at H
             by_cases c87 : x121_24 = true
             ·
              subst c87
              have H1 : (some false) = some true := by rw [if_pos rfl] at H; exact H
              clear H
              have H := H1
              clear H1
              exact absurd (Option.some.inj H) (by decide)
             ·
              replace c87 := Bool.eq_false_iff.mpr c87
              subst c87
              have H1 : (if 0 ≤ x4_1 then (if x4_1 < (t1026.length : Int) then (if ((rd_L7 t1026 x4_1).length : Int) > 1 then (if 0 ≤ (wrap64 (((rd_L7 t1026 x4_1).length : Int) - 1)) then (if (wrap64 (((rd_L7 t1026 x4_1).length : Int) - 1)) ≤ ((rd_L7 t1026 x4_1).length : Int) then ((gaps_Size.f x5_2 ((rd_L7 t1026 x4_1).take ((wrap64 (((rd_L7 t1026 x4_1).length : Int) - 1)) : Int).toNat)).bind fun bt1074 => ((herbariumlaw3_num.f bt1074.2).bind fun t1076 => (if t1076 = 0 then (if bt1074.1 > t1054 then (some false) else (herbariumlaw3_GapsBack.l1 kj24 t1026 x4_1 (wrap64 (x5_2 + 3)))) else (some false)))) else (none)) else (none)) else (herbariumlaw3_GapsBack.l1 kj24 t1026 x4_1 (wrap64 (x5_2 + 3)))) else (none)) else (none)) = some true := by rw [if_neg (show ¬ (false = true) by decide)] at H; exact H
              clear H
              have H := H1
              clear H1
              by_cases c88 : 0 ≤ x4_1
              ·
               rw [if_pos c88] at H
               have c88b0 : decide (0 ≤ x4_1) = true := decide_eq_true c88
               clear c88
               by_cases c89 : x4_1 < (t1026.length : Int)
               ·
                rw [if_pos c89] at H
                have c89b0 : decide (x4_1 < (t1026.length : Int)) = true := decide_eq_true c89
                clear c89
                by_cases c90 : ((rd_L7 t1026 x4_1).length : Int) > 1
                ·
                 rw [if_pos c90] at H
                 have c90b0 : decide (1 < ((rd_L7 t1026 x4_1).length : Int)) = true := decide_eq_true c90
                 have c90b1 : decide (1 < (rd_L7 t1026 x4_1).length) = true := decide_eq_true (by omega)
                 clear c90
                 obtain ⟨ji91, hji91⟩ : ∃ j_ : Int, (wrap64 (((rd_L7 t1026 x4_1).length : Int) - 1)) = j_ := ⟨_, rfl⟩
                 replace H : (if 0 ≤ (ji91) then (if (ji91) ≤ ((rd_L7 t1026 x4_1).length : Int) then ((gaps_Size.f x5_2 ((rd_L7 t1026 x4_1).take ((ji91) : Int).toNat)).bind fun bt1074 => ((herbariumlaw3_num.f bt1074.2).bind fun t1076 => (if t1076 = 0 then (if bt1074.1 > t1054 then (some false) else (herbariumlaw3_GapsBack.l1 kj24 t1026 x4_1 (wrap64 (x5_2 + 3)))) else (some false)))) else (none)) else (none)) = some true := by first | (rw [hji91] at H; exact H) | (simp only [hji91] at H ⊢; exact H)
                 have hji91w : (IntKind.i64.wrap (((rd_L7 t1026 x4_1).length : Int) - 1)) = ji91 := (i64_w _).trans hji91
                 by_cases c92 : 0 ≤ (ji91)
                 ·
                  rw [if_pos c92] at H
                  have c92b0 := eq_true c92
                  have c92b1 : decide (0 ≤ (ji91)) = true := decide_eq_true c92
                  clear c92
                  by_cases c93 : (ji91) ≤ ((rd_L7 t1026 x4_1).length : Int)
                  ·
                   rw [if_pos c93] at H
                   have c93b0 := eq_true c93
                   have c93b1 : decide ((ji91) ≤ ((rd_L7 t1026 x4_1).length : Int)) = true := decide_eq_true c93
                   clear c93
                   obtain ⟨y1069, hy1069⟩ : ∃ y_ : List Int, y_ = ((rd_L7 t1026 x4_1).take ((ji91) : Int).toNat) := ⟨_, rfl⟩
                   replace H : ((gaps_Size.f x5_2 y1069).bind fun bt1074 => ((herbariumlaw3_num.f bt1074.2).bind fun t1076 => (if t1076 = 0 then (if bt1074.1 > t1054 then (some false) else (herbariumlaw3_GapsBack.l1 kj24 t1026 x4_1 (wrap64 (x5_2 + 3)))) else (some false)))) = some true := by first | (rw [hy1069]; with_reducible exact H) | (have H2_ := (Option.bind_some _ _).symm.trans H; rw [hy1069]; with_reducible exact H2_) | (have H2_ := (Option.bind_some _ _).symm.trans H; with_reducible exact H2_) | with_reducible exact H | (rw [hy1069]; exact H) | exact H
                   have Ny1069 := Aside0.mk hy1069
                   clear hy1069
                   replace H := Option.bind_eq_some_iff.mp H
                   obtain ⟨⟨t1074, t1075⟩, A940, H⟩ := H
                   replace H : ((herbariumlaw3_num.f t1075).bind fun t1076 => (if t1076 = 0 then (if t1074 > t1054 then (some false) else (herbariumlaw3_GapsBack.l1 kj24 t1026 x4_1 (wrap64 (x5_2 + 3)))) else (some false))) = some true := H
                   have A94 := Aside0.mk A940
                   clear A940
                   replace H := Option.bind_eq_some_iff.mp H
                   obtain ⟨t1076, A950, H⟩ := H
                   replace H : (if t1076 = 0 then (if t1074 > t1054 then (some false) else (herbariumlaw3_GapsBack.l1 kj24 t1026 x4_1 (wrap64 (x5_2 + 3)))) else (some false)) = some true := H
                   have A95 := Aside0.mk A950
                   clear A950
                   by_cases c96 : t1076 = 0
                   ·
                    rw [if_pos c96] at H
                    have c96b0 : (t1076 == 0) = true := beq_iff_eq.mpr c96
                    have c96b1 : (t1076 != 0) = false := bne_eq_false_iff_eq.mpr c96
                    clear c96
                    by_cases c97 : t1074 > t1054
                    ·
                     rw [if_pos c97] at H
                     have c97b0 : decide (t1054 < t1074) = true := decide_eq_true c97
                     clear c97
                     exact absurd (Option.some.inj H) (by decide)
                    ·
                     rw [if_neg c97] at H
                     have c97b0 : decide (t1054 < t1074) = false := decide_eq_false c97
                     clear c97
                     have H' := Aside0.mk H
                     clear H
                     have p1066 : 0 ≤ (x4_1 : Int) := of_decide_eq_true (by first | (with_reducible assumption) | assumption)
                     have q1066 : x4_1 < (t1026.length : Int) := of_decide_eq_true (by first | (with_reducible assumption) | assumption)
                     obtain ⟨ad1066, A1066_0, c1066_0, e1066, hx1066_0, hl1066_0, hi1066_0⟩ := at_L7 (Kd.N_reads' HO_3.out).2.2 x4_1 p1066 q1066
                     obtain rfl : ad1030 = ad1066 := (by injection e1066)
                     obtain ⟨ce1066, hce1066, hMe1066, hcc1066⟩ := Kd.N_get HO_3.out [] x4_1 p1066 (by first | exact q1066 | exact of_decide_eq_true (by first | (with_reducible assumption) | assumption) | (have e_ := (Kd.N_reads' HO_3.out).1; omega))
                     obtain ⟨ua1066_0, uc1066_0, rfl, ul1066_0, ge1066_0⟩ := Kd.FK_slice_open hMe1066
                     have hv1066_0 := hcc1066 0 _ rfl
                     rw [Nat.add_zero, show ((Kd.slice 3 (Kd.int .i64))).sz = 1 from rfl, Nat.mul_one] at hv1066_0
                     replace hv1066_0 := Option.some.inj (hv1066_0.symm.trans hx1066_0)
                     injection hv1066_0 with hva_ hvn_ hvc_
                     rw [hva_] at ge1066_0
                     rw [hvc_] at ul1066_0
                     have HL1066_0 := Aside0.mk (show Kd.V (Kd.int .i64) 3 _ w.heap.size _ _ (rd_L7 t1026 x4_1) from Kd.V_mk ul1066_0 ge1066_0)
                     clear hva_ hvn_ hvc_ ge1066_0 ul1066_0
                     clear hcc1066 hce1066
                     have HR1066_0 := Aside0.mk hi1066_0
                     have HC1066_0 := Aside0.mk hl1066_0
                     clear hi1066_0 hl1066_0
                     replace p1066 := eq_true p1066
                     replace q1066 := eq_true q1066
                     try go_wp2
                     have n0_ := Aside0.mk (Kd.N_drew HO_3.out)
                     have n1_ := Aside0.mk (Kd.V_drew HL1066_0.out)
                     have n2_ := Aside0.mk (blk_drew BK1024.out)
                     have n3_ := Aside0.mk (blk_drew BK1034.out)
                     have n4_ := Aside0.mk (blk_drew BK1042.out)
                     have n5_ := Aside0.mk (Kd.C_drew HR1030_0.out)
                     have n6_ := Aside0.mk (Kd.C_drew HR1053_0.out)
                     have n7_ := Aside0.mk (Kd.C_drew HR1066_0.out)
                     have n8_ := Aside0.mk (below_drew1 HB.out)
                     clear HO_3
                     clear HL1066_0
                     clear BK1024
                     clear BK1034
                     clear BK1042
                     clear HR1030_0
                     clear HR1053_0
                     clear HR1066_0
                     clear HB
                     have HO_3 := n0_
                     have HL1066_0 := n1_
                     have BK1024 := n2_
                     have BK1034 := n3_
                     have BK1042 := n4_
                     have HR1030_0 := n5_
                     have HR1053_0 := n6_
                     have HR1066_0 := n7_
                     have HB := n8_
                     clear n0_ n1_ n2_ n3_ n4_ n5_ n6_ n7_ n8_
                     have p1067 : 0 ≤ (x4_1 : Int) := of_decide_eq_true (by first | (with_reducible assumption) | assumption)
                     have q1067 : x4_1 < (t1026.length : Int) := of_decide_eq_true (by first | (with_reducible assumption) | assumption)
                     obtain ⟨ad1067, A1067_0, c1067_0, e1067, hx1067_0, hl1067_0, hi1067_0⟩ := at_L7 (Kd.N_reads' HO_3.out).2.2 x4_1 p1067 q1067
                     obtain rfl : ad1030 = ad1067 := (by injection e1067)
                     obtain ⟨ce1067, hce1067, hMe1067, hcc1067⟩ := Kd.N_get HO_3.out [] x4_1 p1067 (by first | exact q1067 | exact of_decide_eq_true (by first | (with_reducible assumption) | assumption) | (have e_ := (Kd.N_reads' HO_3.out).1; omega))
                     obtain ⟨ua1067_0, uc1067_0, rfl, ul1067_0, ge1067_0⟩ := Kd.FK_slice_open hMe1067
                     have hv1067_0 := hcc1067 0 _ rfl
                     rw [Nat.add_zero, show ((Kd.slice 3 (Kd.int .i64))).sz = 1 from rfl, Nat.mul_one] at hv1067_0
                     replace hv1067_0 := Option.some.inj (hv1067_0.symm.trans hx1067_0)
                     injection hv1067_0 with hva_ hvn_ hvc_
                     rw [hva_] at ge1067_0
                     rw [hvc_] at ul1067_0
                     have HL1067_0 := Aside0.mk (show Kd.V (Kd.int .i64) 3 _ w.heap.size _ _ (rd_L7 t1026 x4_1) from Kd.V_mk ul1067_0 ge1067_0)
                     clear hva_ hvn_ hvc_ ge1067_0 ul1067_0
                     clear hcc1067 hce1067
                     have HR1067_0 := Aside0.mk hi1067_0
                     have HC1067_0 := Aside0.mk hl1067_0
                     clear hi1067_0 hl1067_0
                     replace p1067 := eq_true p1067
                     replace q1067 := eq_true q1067
                     have p1068 : 0 ≤ (x4_1 : Int) := of_decide_eq_true (by first | (with_reducible assumption) | assumption)
                     have q1068 : x4_1 < (t1026.length : Int) := of_decide_eq_true (by first | (with_reducible assumption) | assumption)
                     obtain ⟨ad1068, A1068_0, c1068_0, e1068, hx1068_0, hl1068_0, hi1068_0⟩ := at_L7 (Kd.N_reads' HO_3.out).2.2 x4_1 p1068 q1068
                     obtain rfl : ad1030 = ad1068 := (by injection e1068)
                     obtain ⟨ce1068, hce1068, hMe1068, hcc1068⟩ := Kd.N_get HO_3.out [] x4_1 p1068 (by first | exact q1068 | exact of_decide_eq_true (by first | (with_reducible assumption) | assumption) | (have e_ := (Kd.N_reads' HO_3.out).1; omega))
                     obtain ⟨ua1068_0, uc1068_0, rfl, ul1068_0, ge1068_0⟩ := Kd.FK_slice_open hMe1068
                     have hv1068_0 := hcc1068 0 _ rfl
                     rw [Nat.add_zero, show ((Kd.slice 3 (Kd.int .i64))).sz = 1 from rfl, Nat.mul_one] at hv1068_0
                     replace hv1068_0 := Option.some.inj (hv1068_0.symm.trans hx1068_0)
                     injection hv1068_0 with hva_ hvn_ hvc_
                     rw [hva_] at ge1068_0
                     rw [hvc_] at ul1068_0
                     have HL1068_0 := Aside0.mk (show Kd.V (Kd.int .i64) 3 _ w.heap.size _ _ (rd_L7 t1026 x4_1) from Kd.V_mk ul1068_0 ge1068_0)
                     clear hva_ hvn_ hvc_ ge1068_0 ul1068_0
                     clear hcc1068 hce1068
                     have HR1068_0 := Aside0.mk hi1068_0
                     have HC1068_0 := Aside0.mk hl1068_0
                     clear hi1068_0 hl1068_0
                     replace p1068 := eq_true p1068
                     replace q1068 := eq_true q1068
                     have ea_ := Option.some.inj (hx1067_0.symm.trans hx1068_0)
                     injection ea_ with ea_ en_ ec_
                     subst ea_
                     subst ec_
                     clear en_
                     have q102 : ((ji91) : Int) ≤ (((rd_L7 t1026 x4_1).length : Int) : Int) := of_decide_eq_true (by first | (with_reducible assumption) | assumption)
                     obtain ⟨i0102, hi0102, _, hsz102, _⟩ := info_parts info3
                     have hroom102 : (rd_L7 t1026 x4_1).length ≤ c1067_0 := HC1067_0.out
                     have hC102 : Kd.F (Kd.int .i64) _ _ A1067_0 (rd_L7 t1026 x4_1).length (rd_L7 t1026 x4_1) := (Kd.V_at (base := w.heap.size) HL1067_0.out).2.2
                     have hcut102 := cut_to (P := Try.prog) 23 3 .i64 Try.underlying23 hi0102 A1067_0 (rd_L7 t1026 x4_1).length c1067_0 (ji91) (of_decide_eq_true (by first | (with_reducible assumption) | assumption)) q102 hroom102
                     have hr102 := Kd.F_take (m := ((ji91) : Int).toNat) hC102 (by omega)
                     have hy102 : y1069.length = ((ji91) : Int).toNat := (by rw [Ny1069.out, List.length_take]; omega)
                     rw [← Ny1069.out] at hr102
                     rw [← hy102] at hcut102
                     have HO1073 := Aside0.mk (show Kd.V (Kd.int .i64) 3 _ w.heap.size _ (.slice A1067_0 y1069.length c1067_0) y1069 from Kd.V_mk (by omega) hr102)
                     have HC1073 := Aside0.mk (show y1069.length ≤ c1067_0 from by omega)
                     clear hr102 hC102 hroom102 hi0102 hsz102
                     have KY102 := Aside0.mk hy102
                     clear hy102
                     replace q102 := eq_true q102
                     refine start_ (n := 18) (S := fun w' => w'.cell? (ad1030.add (x4_1).toNat) = some (.slice A1067_0 (rd_L7 t1026 x4_1).length c1067_0) ∧ w'.cell? (ad1030.add (x4_1).toNat) = some (.slice A1067_0 (rd_L7 t1026 x4_1).length c1067_0)) (ds := []) #[false, false, false, false, false, false, false, false, false, false, false, false, false, false, false, false, false, false] (by kernel_rfl) rfl rfl ⟨hx1067_0, hx1068_0⟩ (fun hHeld => ?_); refine with_tabW herbariumlaw3_GapsBack.tab19 herbariumlaw3_GapsBack.bits19 (fun HT_ HW_ => ?_)
                     generalize wc.drew = w101 at HO_3 HL1066_0 BK1024 BK1034 BK1042 HR1030_0 HR1053_0 HR1066_0 HB HL1067_0 HL1068_0 HO1073 HR1067_0 HR1068_0 hx1067_0 hx1068_0 hHeld ⊢
                     refine pure_ (i := 0) (N := some 129) (v := ?_) (a' := ?_) #[true, false, false, false, false, false, false, false, false, false, false, false, false, false, false, false, false, false] rfl rfl (any_of HT_.out (by kernel_rfl)) (fun _ _ _ h => h) (Or.inl ⟨by rfl, ?_⟩) ?_ ?_
                     rotate_left
                     ·
                      intro w'
                      go_simp
                      with_reducible rfl
                     rotate_left
                     ·
                      simp only [Act.put, List.setIfInBounds_toArray, List.set_cons_zero, List.set_cons_succ, i64_w, i32_w]
                      rfl
                     refine pure_ (i := 1) (N := some 130) (v := ?_) (a' := ?_) #[true, true, false, false, false, false, false, false, false, false, false, false, false, false, false, false, false, false] rfl rfl (any_of HT_.out (by kernel_rfl)) (fun _ _ _ h => h) (Or.inl ⟨by rfl, ?_⟩) ?_ ?_
                     rotate_left
                     ·
                      intro w'
                      go_simp
                      with_reducible rfl
                     rotate_left
                     ·
                      simp only [Act.put, List.setIfInBounds_toArray, List.set_cons_zero, List.set_cons_succ, i64_w, i32_w]
                      rfl
                     refine pure_ (i := 2) (N := some 131) (v := ?_) (a' := ?_) #[true, true, true, false, false, false, false, false, false, false, false, false, false, false, false, false, false, false] rfl rfl (any_of HT_.out (by kernel_rfl)) (fun _ _ _ h => h) (Or.inl ⟨by rfl, ?_⟩) ?_ ?_
                     rotate_left
                     ·
                      intro w'
                      go_simp
                      with_reducible rfl
                     rotate_left
                     ·
                      simp only [Act.put, List.setIfInBounds_toArray, List.set_cons_zero, List.set_cons_succ, i64_w, i32_w]
                      rfl
                     refine pure_ (i := 3) (N := some 132) (v := ?_) (a' := ?_) #[true, true, true, true, false, false, false, false, false, false, false, false, false, false, false, false, false, false] rfl rfl (any_of HT_.out (by kernel_rfl)) (fun _ _ _ h => h) (Or.inl ⟨by rfl, ?_⟩) ?_ ?_
                     rotate_left
                     ·
                      intro w'
                      go_simp
                      with_reducible rfl
                     rotate_left
                     ·
                      simp only [Act.put, List.setIfInBounds_toArray, List.set_cons_zero, List.set_cons_succ, i64_w, i32_w]
                      rfl
                     refine pure_ (i := 5) (N := some 134) (v := ?_) (a' := ?_) #[true, true, true, true, false, true, false, false, false, false, false, false, false, false, false, false, false, false] rfl rfl (any_of HT_.out (by kernel_rfl)) (fun _ _ _ h => h) (Or.inl ⟨by rfl, ?_⟩) ?_ ?_
                     rotate_left
                     ·
                      intro w'
                      go_simp
                      with_reducible rfl
                     rotate_left
                     ·
                      simp only [Act.put, List.setIfInBounds_toArray, List.set_cons_zero, List.set_cons_succ, i64_w, i32_w]
                      rfl
                     refine pure_ (i := 6) (N := some 135) (v := ?_) (a' := ?_) #[true, true, true, true, false, true, true, false, false, false, false, false, false, false, false, false, false, false] rfl rfl (any_of HT_.out (by kernel_rfl)) (fun _ _ _ h => h) (Or.inl ⟨by rfl, ?_⟩) ?_ ?_
                     rotate_left
                     ·
                      intro w'
                      go_simp
                      with_reducible rfl
                     rotate_left
                     ·
                      simp only [Act.put, List.setIfInBounds_toArray, List.set_cons_zero, List.set_cons_succ, i64_w, i32_w]
                      rfl
                     refine pure_ (i := 7) (N := some 136) (v := ?_) (a' := ?_) #[true, true, true, true, false, true, true, true, false, false, false, false, false, false, false, false, false, false] rfl rfl (any_of HT_.out (by kernel_rfl)) (fun _ _ _ h => h) (Or.inl ⟨by rfl, ?_⟩) ?_ ?_
                     rotate_left
                     ·
                      intro w'
                      go_simp
                      with_reducible rfl
                     rotate_left
                     ·
                      simp only [Act.put, List.setIfInBounds_toArray, List.set_cons_zero, List.set_cons_succ, i64_w, i32_w]
                      rfl
                     refine take_ (i := 4) (N := some 133) (v := ?_) (a' := ?_) #[true, true, true, true, true, true, true, true, false, false, false, false, false, false, false, false, false, false] rfl rfl (take_ofW HT_.out HW_.out (by kernel_rfl)) (fun _ _ _ h => h) (Or.inl ⟨by rfl, ?_⟩) hHeld ?_ ?_
                     rotate_left
                     ·
                      rintro w' ⟨s0, s1⟩
                      go_simp
                      with_reducible rfl
                     rotate_left
                     ·
                      simp only [Act.put, List.setIfInBounds_toArray, List.set_cons_zero, List.set_cons_succ, i64_w, i32_w]
                      rfl
                     refine take_ (i := 8) (N := some 137) (v := ?_) (a' := ?_) #[true, true, true, true, true, true, true, true, true, false, false, false, false, false, false, false, false, false] rfl rfl (take_ofW HT_.out HW_.out (by kernel_rfl)) (fun _ _ _ h => h) (Or.inl ⟨by rfl, ?_⟩) hHeld ?_ ?_
                     rotate_left
                     ·
                      rintro w' ⟨s0, s1⟩
                      go_simp
                      with_reducible rfl
                     rotate_left
                     ·
                      simp only [Act.put, List.setIfInBounds_toArray, List.set_cons_zero, List.set_cons_succ, i64_w, i32_w]
                      rfl
                     refine pure_ (i := 9) (N := some 138) (v := ?_) (a' := ?_) #[true, true, true, true, true, true, true, true, true, true, false, false, false, false, false, false, false, false] rfl rfl (any_of HT_.out (by kernel_rfl)) (fun _ _ _ h => h) (Or.inl ⟨by rfl, ?_⟩) ?_ ?_
                     rotate_left
                     ·
                      intro w'
                      go_simp
                      with_reducible rfl
                     rotate_left
                     ·
                      simp only [Act.put, List.setIfInBounds_toArray, List.set_cons_zero, List.set_cons_succ, i64_w, i32_w]
                      rfl
                     refine pure_ (i := 10) (N := some 139) (v := ?_) (a' := ?_) #[true, true, true, true, true, true, true, true, true, true, true, false, false, false, false, false, false, false] rfl rfl (any_of HT_.out (by kernel_rfl)) (fun _ _ _ h => h) (Or.inl ⟨by rfl, ?_⟩) ?_ ?_
                     rotate_left
                     ·
                      intro w'
                      go_simp
                      with_reducible rfl
                     rotate_left
                     ·
                      simp only [Act.put, List.setIfInBounds_toArray, List.set_cons_zero, List.set_cons_succ, i64_w, i32_w]
                      rfl
                     refine pure_ (i := 11) (N := some 140) (v := ?_) (a' := ?_) #[true, true, true, true, true, true, true, true, true, true, true, true, false, false, false, false, false, false] rfl rfl (any_of HT_.out (by kernel_rfl)) (fun _ _ _ h => h) (Or.inl ⟨by rfl, ?_⟩) ?_ ?_
                     rotate_left
                     ·
                      intro w'
                      go_simp
                      with_reducible rfl
                     rotate_left
                     ·
                      simp only [Act.put, List.setIfInBounds_toArray, List.set_cons_zero, List.set_cons_succ, i64_w, i32_w]
                      rfl
                     refine one_ (i := 12) (N := some 141) #[true, true, true, true, true, true, true, true, true, true, true, true, true, false, false, false, false, false] rfl rfl (one_of HT_.out (by kernel_rfl)) (by decide) (fun K hK => ?_)
                     refine goes_ Try.func74 (by kernel_rfl) rfl #[.int .i64 x5_2, .slice A1067_0 y1069.length c1067_0] (by rfl) rfl rfl (by (try simp only [List.map_toArray, List.map_cons, List.map_nil]); first | done | rfl | (simp only [List.length_drop, List.length_take]; rfl)) ?_
                     with_reducible refine (gaps_Size.calls x5_2 _ _ y1069 t1074 t1075 _ ?side1 ?side2 A94.out).mono ?_
                     (case side1 => repeat (first | exact (Kd.V_reads' HO1073.out).2.2 | (with_reducible refine Kd.C_alloc ?_ _) | (with_reducible refine Kd.C_drewN ?_ _) | (with_reducible refine Kd.C_drew ?_)))
                     (case side2 => exact (Kd.V_reads' HO1073.out).2.1)
                     rintro e w103 ⟨rfl, hb⟩
                     have HS0_ := (hb.cell (World.block_lt_of_cell? _ _ (hHeld.1))).trans (hHeld.1)
                     have HS1_ := (hb.cell (World.block_lt_of_cell? _ _ (hHeld.2))).trans (hHeld.2)
                     refine ⟨_, rfl, ?_⟩
                     have n0_ := Aside0.mk (Kd.N_below (by (with_reducible repeat (first | apply Kd.N_alloc | apply Kd.N_drewN | apply Kd.N_drew)); exact HO_3.out) hb)
                     have n1_ := Aside0.mk (Kd.V_below (by (with_reducible repeat (first | apply Kd.V_alloc | apply Kd.V_drewN | apply Kd.V_drew)); exact HL1066_0.out) hb)
                     have n2_ := Aside0.mk (Kd.V_below (by (with_reducible repeat (first | apply Kd.V_alloc | apply Kd.V_drewN | apply Kd.V_drew)); exact HL1067_0.out) hb)
                     have n3_ := Aside0.mk (Kd.V_below (by (with_reducible repeat (first | apply Kd.V_alloc | apply Kd.V_drewN | apply Kd.V_drew)); exact HL1068_0.out) hb)
                     have n4_ := Aside0.mk (Kd.V_below (by (with_reducible repeat (first | apply Kd.V_alloc | apply Kd.V_drewN | apply Kd.V_drew)); exact HO1073.out) hb)
                     have n5_ := Aside0.mk (blk_below (g := gb1024) (o := .cells #[.slice A0_0 l0_0.length c0_0, .slice A0_1 l0_1.length c0_1, .slice A0_2 l0_2.length c0_2] 78 (0, 0)) (by (with_reducible repeat (first | refine blk_drewN ?_ _ | refine blk_drew ?_ | refine blk_alloc ?_ _)); exact BK1024.out) hb)
                     have n6_ := Aside0.mk (blk_below (g := gb1034) (o := .cells #[.string t1031, .int .i64 t1032] 27 (0, 0)) (by (with_reducible repeat (first | refine blk_drewN ?_ _ | refine blk_drew ?_ | refine blk_alloc ?_ _)); exact BK1034.out) hb)
                     have n7_ := Aside0.mk (blk_below (g := gb1042) (o := .cells #[.string t1039, .int .i64 t1040] 27 (0, 0)) (by (with_reducible repeat (first | refine blk_drewN ?_ _ | refine blk_drew ?_ | refine blk_alloc ?_ _)); exact BK1042.out) hb)
                     (first | (with_reducible have n8_ := Aside0.mk (Kd.C_below HR1030_0.out hb)) | (with_reducible have n8_ := Aside0.mk (Kd.C_below (Kd.C_drewN HR1030_0.out _) hb)) | (with_reducible have n8_ := Aside0.mk (Kd.C_below (Kd.C_drew HR1030_0.out) hb)) | (with_reducible have n8_ := Aside0.mk (Kd.C_below (Kd.C_alloc HR1030_0.out _) hb)))
                     (first | (with_reducible have n9_ := Aside0.mk (Kd.C_below HR1053_0.out hb)) | (with_reducible have n9_ := Aside0.mk (Kd.C_below (Kd.C_drewN HR1053_0.out _) hb)) | (with_reducible have n9_ := Aside0.mk (Kd.C_below (Kd.C_drew HR1053_0.out) hb)) | (with_reducible have n9_ := Aside0.mk (Kd.C_below (Kd.C_alloc HR1053_0.out _) hb)))
                     (first | (with_reducible have n10_ := Aside0.mk (Kd.C_below HR1066_0.out hb)) | (with_reducible have n10_ := Aside0.mk (Kd.C_below (Kd.C_drewN HR1066_0.out _) hb)) | (with_reducible have n10_ := Aside0.mk (Kd.C_below (Kd.C_drew HR1066_0.out) hb)) | (with_reducible have n10_ := Aside0.mk (Kd.C_below (Kd.C_alloc HR1066_0.out _) hb)))
                     (first | (with_reducible have n11_ := Aside0.mk (Kd.C_below HR1067_0.out hb)) | (with_reducible have n11_ := Aside0.mk (Kd.C_below (Kd.C_drewN HR1067_0.out _) hb)) | (with_reducible have n11_ := Aside0.mk (Kd.C_below (Kd.C_drew HR1067_0.out) hb)) | (with_reducible have n11_ := Aside0.mk (Kd.C_below (Kd.C_alloc HR1067_0.out _) hb)))
                     (first | (with_reducible have n12_ := Aside0.mk (Kd.C_below HR1068_0.out hb)) | (with_reducible have n12_ := Aside0.mk (Kd.C_below (Kd.C_drewN HR1068_0.out _) hb)) | (with_reducible have n12_ := Aside0.mk (Kd.C_below (Kd.C_drew HR1068_0.out) hb)) | (with_reducible have n12_ := Aside0.mk (Kd.C_below (Kd.C_alloc HR1068_0.out _) hb)))
                     have n13_ := Aside0.mk (below_step (by repeat (first | (with_reducible first | exact HB.out | apply below_alloc | apply pw_below_drewN | apply below_drew1 | refine below_set ?_ GE1024.out | refine below_set ?_ GE1034.out | refine below_set ?_ GE1042.out) | exact HB.out)) hb)
                     clear HO_3
                     clear HL1066_0
                     clear HL1067_0
                     clear HL1068_0
                     clear HO1073
                     clear BK1024
                     clear BK1034
                     clear BK1042
                     clear HR1030_0
                     clear HR1053_0
                     clear HR1066_0
                     clear HR1067_0
                     clear HR1068_0
                     clear HB
                     have HO_3 := n0_
                     have HL1066_0 := n1_
                     have HL1067_0 := n2_
                     have HL1068_0 := n3_
                     have HO1073 := n4_
                     have BK1024 := n5_
                     have BK1034 := n6_
                     have BK1042 := n7_
                     have HR1030_0 := n8_
                     have HR1053_0 := n9_
                     have HR1066_0 := n10_
                     have HR1067_0 := n11_
                     have HR1068_0 := n12_
                     have HB := n13_
                     clear n0_ n1_ n2_ n3_ n4_ n5_ n6_ n7_ n8_ n9_ n10_ n11_ n12_ n13_
                     (try clear hb)
                     (try clear hb2)
                     (try clear hk)
                     (try clear hi)
                     refine hK.out _ _ ⟨HS0_, HS1_⟩ (fun hHeld => ?_)
                     clear hK K
                     refine norm_ (a' := ?_) ?_ ?_
                     rotate_left
                     ·
                      show Act.put _ (some 141) _ = _
                      simp only [Act.put, List.setIfInBounds_toArray, List.set_cons_zero, List.set_cons_succ, i64_w, i32_w]
                      rfl
                     refine pure_ (i := 13) (N := some 128) (v := ?_) (a' := ?_) #[true, true, true, true, true, true, true, true, true, true, true, true, true, true, false, false, false, false] rfl rfl (any_of HT_.out (by kernel_rfl)) (fun _ _ _ h => h) (Or.inl ⟨by rfl, ?_⟩) ?_ ?_
                     rotate_left
                     ·
                      intro w'
                      go_simp
                      with_reducible rfl
                     rotate_left
                     ·
                      simp only [Act.put, List.setIfInBounds_toArray, List.set_cons_zero, List.set_cons_succ, i64_w, i32_w]
                      rfl
                     refine pure_ (i := 14) (N := some 142) (v := ?_) (a' := ?_) #[true, true, true, true, true, true, true, true, true, true, true, true, true, true, true, false, false, false] rfl rfl (any_of HT_.out (by kernel_rfl)) (fun _ _ _ h => h) (Or.inl ⟨by rfl, ?_⟩) ?_ ?_
                     rotate_left
                     ·
                      intro w'
                      go_simp
                      with_reducible rfl
                     rotate_left
                     ·
                      simp only [Act.put, List.setIfInBounds_toArray, List.set_cons_zero, List.set_cons_succ, i64_w, i32_w]
                      rfl
                     refine pure_ (i := 15) (N := some 143) (v := ?_) (a' := ?_) #[true, true, true, true, true, true, true, true, true, true, true, true, true, true, true, true, false, false] rfl rfl (any_of HT_.out (by kernel_rfl)) (fun _ _ _ h => h) (Or.inl ⟨by rfl, ?_⟩) ?_ ?_
                     rotate_left
                     ·
                      intro w'
                      go_simp
                      with_reducible rfl
                     rotate_left
                     ·
                      simp only [Act.put, List.setIfInBounds_toArray, List.set_cons_zero, List.set_cons_succ, i64_w, i32_w]
                      rfl
                     refine pure_ (i := 16) (N := some 18) (v := ?_) (a' := ?_) #[true, true, true, true, true, true, true, true, true, true, true, true, true, true, true, true, true, false] rfl rfl (any_of HT_.out (by kernel_rfl)) (fun _ _ _ h => h) (Or.inl ⟨by rfl, ?_⟩) ?_ ?_
                     rotate_left
                     ·
                      intro w'
                      go_simp
                      with_reducible rfl
                     rotate_left
                     ·
                      simp only [Act.put, List.setIfInBounds_toArray, List.set_cons_zero, List.set_cons_succ, i64_w, i32_w]
                      rfl
                     refine pure_ (i := 17) (N := some 19) (v := ?_) (a' := ?_) #[true, true, true, true, true, true, true, true, true, true, true, true, true, true, true, true, true, true] rfl rfl (any_of HT_.out (by kernel_rfl)) (fun _ _ _ h => h) (Or.inl ⟨by rfl, ?_⟩) ?_ ?_
                     rotate_left
                     ·
                      intro w'
                      go_simp
                      with_reducible rfl
                     rotate_left
                     ·
                      simp only [Act.put, List.setIfInBounds_toArray, List.set_cons_zero, List.set_cons_succ, i64_w, i32_w]
                      rfl
                     refine done_ (done_of HT_.out (by kernel_rfl)) ?_
                     try go_wp2_with (first | ((with_reducible refine gate_callee (f := 72) rfl ?_); refine goesL_ (some 145) rfl rfl Try.func72 (by kernel_rfl) rfl #[.int .i64 t1075] rfl (by (try simp only [List.map_toArray, List.map_cons, List.map_nil]); first | done | rfl | (simp only [List.length_drop, List.length_take]; rfl)) ?_; (with_reducible refine (herbariumlaw3_num.calls t1075 t1076 _ A95.out).mono ?_); rintro e w' ⟨rfl, ⟨nd, rfl⟩⟩; refine ⟨_, rfl, ?_⟩))
                     go_roundg kj24
                     case measure => have := HK1.out; have := HK2.out; have := HJ24.out; omega
                     case rel => exact ⟨(wrap64 (x5_2 + 3)), (by first | rfl | (simp; done) | (simp [*]; done)), H', ⟨by have := HK1.out; have := HK2.out; have := HJ24.out; omega⟩, ⟨by (with_reducible repeat (first | apply Kd.N_alloc | apply Kd.N_drewN | apply Kd.N_drew)); exact Kd.N_mono HO_3.out (fun _ hk => hk.1)⟩, ⟨by (with_reducible repeat (first | refine blk_drewN ?_ _ | refine blk_drew ?_ | refine blk_alloc ?_ _)); exact BK1024.out⟩, ⟨by repeat (first | (with_reducible first | exact HB.out | apply below_alloc | apply pw_below_drewN | apply below_drew1 | refine below_set ?_ GE1024.out | refine below_set ?_ GE1034.out | refine below_set ?_ GE1042.out) | exact HB.out)⟩⟩
                   ·
                    rw [if_neg c96] at H
                    have c96b0 : (t1076 == 0) = false := beq_eq_false_iff_ne.mpr c96
                    have c96b1 : (t1076 != 0) = true := bne_iff_ne.mpr c96
                    exact absurd (Option.some.inj H) (by decide)
                  ·
                   rw [if_neg c93] at H
                   exact absurd H (by simp)
                 ·
                  rw [if_neg c92] at H
                  exact absurd H (by simp)
                ·
                 rw [if_neg c90] at H
                 have c90b0 : decide (1 < ((rd_L7 t1026 x4_1).length : Int)) = false := decide_eq_false c90
                 have c90b1 : decide (1 < (rd_L7 t1026 x4_1).length) = false := decide_eq_false (by omega)
                 clear c90
                 have H' := Aside0.mk H
                 clear H
                 have p1066 : 0 ≤ (x4_1 : Int) := of_decide_eq_true (by first | (with_reducible assumption) | assumption)
                 have q1066 : x4_1 < (t1026.length : Int) := of_decide_eq_true (by first | (with_reducible assumption) | assumption)
                 obtain ⟨ad1066, A1066_0, c1066_0, e1066, hx1066_0, hl1066_0, hi1066_0⟩ := at_L7 (Kd.N_reads' HO_3.out).2.2 x4_1 p1066 q1066
                 obtain rfl : ad1030 = ad1066 := (by injection e1066)
                 obtain ⟨ce1066, hce1066, hMe1066, hcc1066⟩ := Kd.N_get HO_3.out [] x4_1 p1066 (by first | exact q1066 | exact of_decide_eq_true (by first | (with_reducible assumption) | assumption) | (have e_ := (Kd.N_reads' HO_3.out).1; omega))
                 obtain ⟨ua1066_0, uc1066_0, rfl, ul1066_0, ge1066_0⟩ := Kd.FK_slice_open hMe1066
                 have hv1066_0 := hcc1066 0 _ rfl
                 rw [Nat.add_zero, show ((Kd.slice 3 (Kd.int .i64))).sz = 1 from rfl, Nat.mul_one] at hv1066_0
                 replace hv1066_0 := Option.some.inj (hv1066_0.symm.trans hx1066_0)
                 injection hv1066_0 with hva_ hvn_ hvc_
                 rw [hva_] at ge1066_0
                 rw [hvc_] at ul1066_0
                 have HL1066_0 := Aside0.mk (show Kd.V (Kd.int .i64) 3 _ w.heap.size _ _ (rd_L7 t1026 x4_1) from Kd.V_mk ul1066_0 ge1066_0)
                 clear hva_ hvn_ hvc_ ge1066_0 ul1066_0
                 clear hcc1066 hce1066
                 have HR1066_0 := Aside0.mk hi1066_0
                 have HC1066_0 := Aside0.mk hl1066_0
                 clear hi1066_0 hl1066_0
                 replace p1066 := eq_true p1066
                 replace q1066 := eq_true q1066
                 go_wp2
                 go_roundg kj24
                 case measure => have := HK1.out; have := HK2.out; have := HJ24.out; omega
                 case rel => exact ⟨(wrap64 (x5_2 + 3)), (by first | rfl | (simp; done) | (simp [*]; done)), H', ⟨by have := HK1.out; have := HK2.out; have := HJ24.out; omega⟩, ⟨by (with_reducible repeat (first | apply Kd.N_alloc | apply Kd.N_drewN | apply Kd.N_drew)); exact Kd.N_mono HO_3.out (fun _ hk => hk.1)⟩, ⟨by (with_reducible repeat (first | refine blk_drewN ?_ _ | refine blk_drew ?_ | refine blk_alloc ?_ _)); exact BK1024.out⟩, ⟨by repeat (first | (with_reducible first | exact HB.out | apply below_alloc | apply pw_below_drewN | apply below_drew1 | refine below_set ?_ GE1024.out | refine below_set ?_ GE1034.out | refine below_set ?_ GE1042.out) | exact HB.out)⟩⟩
               ·
                rw [if_neg c89] at H
                exact absurd H (by simp)
              ·
               rw [if_neg c88] at H
               exact absurd H (by simp)
          ·
           rw [if_neg c20] at H
           have c20b0 : (t1035 == 0) = false := beq_eq_false_iff_ne.mpr c20
           have c20b1 : (t1035 != 0) = true := bne_iff_ne.mpr c20
           have H' := Aside0.mk H
           clear H
           have p1030 : 0 ≤ (x4_1 : Int) := of_decide_eq_true (by first | (with_reducible assumption) | assumption)
           have q1030 : x4_1 < (t1026.length : Int) := of_decide_eq_true (by first | (with_reducible assumption) | assumption)
           obtain ⟨ad1030, A1030_0, c1030_0, e1030, hx1030_0, hl1030_0, hi1030_0⟩ := at_L7 (Kd.N_reads' HO_3.out).2.2 x4_1 p1030 q1030
           cases e1030
           obtain ⟨ce1030, hce1030, hMe1030, hcc1030⟩ := Kd.N_get HO_3.out [] x4_1 p1030 (by first | exact q1030 | exact of_decide_eq_true (by first | (with_reducible assumption) | assumption) | (have e_ := (Kd.N_reads' HO_3.out).1; omega))
           obtain ⟨ua1030_0, uc1030_0, rfl, ul1030_0, ge1030_0⟩ := Kd.FK_slice_open hMe1030
           have hv1030_0 := hcc1030 0 _ rfl
           rw [Nat.add_zero, show ((Kd.slice 3 (Kd.int .i64))).sz = 1 from rfl, Nat.mul_one] at hv1030_0
           replace hv1030_0 := Option.some.inj (hv1030_0.symm.trans hx1030_0)
           injection hv1030_0 with hva_ hvn_ hvc_
           rw [hva_] at ge1030_0
           rw [hvc_] at ul1030_0
           have HL1030_0 := Aside0.mk (show Kd.V (Kd.int .i64) 3 _ w.heap.size _ _ (rd_L7 t1026 x4_1) from Kd.V_mk ul1030_0 ge1030_0)
           clear hva_ hvn_ hvc_ ge1030_0 ul1030_0
           clear hcc1030 hce1030
           have HR1030_0 := Aside0.mk hi1030_0
           have HC1030_0 := Aside0.mk hl1030_0
           clear hi1030_0 hl1030_0
           replace p1030 := eq_true p1030
           replace q1030 := eq_true q1030
           go_wp2_with (first | ((with_reducible refine gate_callee (f := 71) rfl ?_); refine goesL_ (some 41) rfl rfl Try.func71 (by kernel_rfl) rfl #[.agg #[.string (⟨#[64]⟩ : ByteArray), .int .i64 3], .int .i64 x5_2, .slice A1030_0 (rd_L7 t1026 x4_1).length c1030_0] rfl (by (try simp only [List.map_toArray, List.map_cons, List.map_nil]); first | done | rfl | (simp only [List.length_drop, List.length_take]; rfl)) ?_; (with_reducible refine (gaps_Put.calls (⟨#[64]⟩ : ByteArray) 3 x5_2 _ _ (rd_L7 t1026 x4_1) t1031 t1032 t1033 _ ?side1 ?side2 A18.out).mono ?_); (case side1 => repeat (first | exact (by repeat (first | (with_reducible exact HR1030_0.out) | (with_reducible refine Kd.C_alloc ?_ _) | (with_reducible refine Kd.C_drewN ?_ _) | (with_reducible refine Kd.C_drew ?_) | exact HR1030_0.out)) | (with_reducible refine Kd.C_alloc ?_ _) | (with_reducible refine Kd.C_drewN ?_ _) | (with_reducible refine Kd.C_drew ?_))); (case side2 => exact HC1030_0.out); rintro e w107 ⟨rfl, hb⟩; refine ⟨_, rfl, ?_⟩; have n0_ := Aside0.mk (Kd.N_below (by (with_reducible repeat (first | apply Kd.N_alloc | apply Kd.N_drewN | apply Kd.N_drew)); exact HO_3.out) hb); have n1_ := Aside0.mk (Kd.V_below (by (with_reducible repeat (first | apply Kd.V_alloc | apply Kd.V_drewN | apply Kd.V_drew)); exact HL1030_0.out) hb); have n2_ := Aside0.mk (blk_below (g := gb1024) (o := .cells #[.slice A0_0 l0_0.length c0_0, .slice A0_1 l0_1.length c0_1, .slice A0_2 l0_2.length c0_2] 78 (0, 0)) (by (with_reducible repeat (first | refine blk_drewN ?_ _ | refine blk_drew ?_ | refine blk_alloc ?_ _)); exact BK1024.out) hb); (first | (with_reducible have n3_ := Aside0.mk (Kd.C_below HR1030_0.out hb)) | (with_reducible have n3_ := Aside0.mk (Kd.C_below (Kd.C_drewN HR1030_0.out _) hb)) | (with_reducible have n3_ := Aside0.mk (Kd.C_below (Kd.C_drew HR1030_0.out) hb)) | (with_reducible have n3_ := Aside0.mk (Kd.C_below (Kd.C_alloc HR1030_0.out _) hb))); have n4_ := Aside0.mk (below_step (by repeat (first | (with_reducible first | exact HB.out | apply below_alloc | apply pw_below_drewN | apply below_drew1 | refine below_set ?_ GE1024.out) | exact HB.out)) hb); clear HO_3; clear HL1030_0; clear BK1024; clear HR1030_0; clear HB; have HO_3 := n0_; have HL1030_0 := n1_; have BK1024 := n2_; have HR1030_0 := n3_; have HB := n4_; clear n0_ n1_ n2_ n3_ n4_; (try clear hb); (try clear hb2); (try clear hk); (try clear hi)) | ((with_reducible refine gate_dst (N := 6) rfl ?_); (try (refine gate_guard (by rfl) ?_; dsimp only)); refine box_event ?hg (N := 6) ?hd (cs := #[.string (⟨#[]⟩ : ByteArray), .int .i64 0]) (t := 27) ?hr ?_; (case hd => rfl); (case hg => rfl); (case hr => first | (go_simp; done) | (go_simp; rfl)); intro gb1034 hg w108 hbox hb; have n0_ := Aside0.mk (Kd.N_below (Kd.N_elderB (by (with_reducible repeat (first | apply Kd.N_alloc | apply Kd.N_drewN | apply Kd.N_drew)); exact HO_3.out) gb1034 (Nat.le_of_eq hg.symm)) hb); have n1_ := Aside0.mk (Kd.V_below (Kd.V_elderB (by (with_reducible repeat (first | apply Kd.V_alloc | apply Kd.V_drewN | apply Kd.V_drew)); exact HL1030_0.out) gb1034 (Nat.le_of_eq hg.symm)) hb); have n2_ := Aside0.mk (blk_below (g := gb1024) (o := .cells #[.slice A0_0 l0_0.length c0_0, .slice A0_1 l0_1.length c0_1, .slice A0_2 l0_2.length c0_2] 78 (0, 0)) (by (with_reducible repeat (first | refine blk_drewN ?_ _ | refine blk_drew ?_ | refine blk_alloc ?_ _)); exact BK1024.out) hb); (first | (with_reducible have n3_ := Aside0.mk (Kd.C_below HR1030_0.out hb)) | (with_reducible have n3_ := Aside0.mk (Kd.C_below (Kd.C_drewN HR1030_0.out _) hb)) | (with_reducible have n3_ := Aside0.mk (Kd.C_below (Kd.C_drew HR1030_0.out) hb)) | (with_reducible have n3_ := Aside0.mk (Kd.C_below (Kd.C_alloc HR1030_0.out _) hb))); have n4_ := Aside0.mk (below_step (by repeat (first | (with_reducible first | exact HB.out | apply below_alloc | apply pw_below_drewN | apply below_drew1 | refine below_set ?_ GE1024.out) | exact HB.out)) hb); have n5_ := Aside0.mk (hbox); have n6_ := Aside0.mk ((by rw [hg]; exact (below_size (by repeat (first | (with_reducible first | exact HB.out | apply below_alloc | apply pw_below_drewN | apply below_drew1 | refine below_set ?_ GE1024.out) | exact HB.out))) : w.heap.size ≤ gb1034)); have n7_ := Aside0.mk ((by rw [hg]; exact (below_size (by repeat (first | (with_reducible first | exact HB.out | apply below_alloc | apply pw_below_drewN | apply below_drew1 | refine below_set ?_ GE1024.out) | exact HB.out))) : w.heap.size ≤ gb1034)); have n8_ := Aside0.mk ((by rw [hg]; exact Nat.ne_of_lt (blk_lt (g := gb1024) (o := .cells #[.slice A0_0 l0_0.length c0_0, .slice A0_1 l0_1.length c0_1, .slice A0_2 l0_2.length c0_2] 78 (0, 0)) (by (with_reducible repeat (first | refine blk_drewN ?_ _ | refine blk_drew ?_ | refine blk_alloc ?_ _)); exact BK1024.out)) : gb1024 ≠ gb1034)); have n9_ := Aside0.mk ((by rw [hg]; exact Nat.ne_of_gt (blk_lt (g := gb1024) (o := .cells #[.slice A0_0 l0_0.length c0_0, .slice A0_1 l0_1.length c0_1, .slice A0_2 l0_2.length c0_2] 78 (0, 0)) (by (with_reducible repeat (first | refine blk_drewN ?_ _ | refine blk_drew ?_ | refine blk_alloc ?_ _)); exact BK1024.out)) : gb1034 ≠ gb1024)); clear HO_3; clear HL1030_0; clear BK1024; clear HR1030_0; clear HB; have HO_3 := n0_; have HL1030_0 := n1_; have BK1024 := n2_; have HR1030_0 := n3_; have HB := n4_; have BK1034 := n5_; have GW1034 := n6_; have GE1034 := n7_; have NB1024_1034 := n8_; have NB1034_1024 := n9_; clear n0_ n1_ n2_ n3_ n4_ n5_ n6_ n7_ n8_ n9_; clear hb hbox hg; have hnb109 := NB1034_1024.out; have hnc109 := NB1024_1034.out; have hcz110_0 : w108.cell? ⟨gb1034, 0, none⟩ = some (.string (⟨#[]⟩ : ByteArray)) := (blk_cell BK1034.out 0).trans rfl; have hcz110_1 : w108.cell? ⟨gb1034, 1, none⟩ = some (.int .i64 0) := (blk_cell BK1034.out 1).trans rfl; have hfz110_0 := blk_frozen BK1034.out 0; have hfz110_1 := blk_frozen BK1034.out 1) | ((with_reducible refine gate_callee (f := 72) rfl ?_); refine goesL_ (some 45) rfl rfl Try.func72 (by kernel_rfl) rfl #[.int .i64 t1033] rfl (by (try simp only [List.map_toArray, List.map_cons, List.map_nil]); first | done | rfl | (simp only [List.length_drop, List.length_take]; rfl)) ?_; (with_reducible refine (herbariumlaw3_num.calls t1033 t1035 _ A19.out).mono ?_); rintro e w' ⟨rfl, ⟨nd, rfl⟩⟩; refine ⟨_, rfl, ?_⟩))
           go_roundg k2
           case measure => have := HK1.out; have := HK2.out; omega
           case rel => exact ⟨(wrap64 (x5_2 + 3)), (by first | rfl | (simp; done) | (simp [*]; done)), H', ⟨by have := HK1.out; have := HK2.out; omega⟩, ⟨by (with_reducible repeat (first | apply Kd.N_alloc | apply Kd.N_drewN | apply Kd.N_drew)); exact Kd.N_mono (Kd.N_far (p := ⟨gb1034, 1, none⟩) (Kd.N_far (p := ⟨gb1034, 0, none⟩) (Kd.N_mono HO_3.out (fun k_ hk => (⟨hk, hk.2⟩ : _ ∧ k_ ≠ gb1034))) (fun _ hk => hk.2) (.string t1031)) (fun _ hk => hk.2) (.int .i64 t1032)) (fun _ hk => hk.1.1)⟩, ⟨by (with_reducible repeat (first | refine blk_drewN ?_ _ | refine blk_drew ?_ | refine blk_alloc ?_ _)); refine blk_far ?_ NB1024_1034.out _; (with_reducible repeat (first | refine blk_drewN ?_ _ | refine blk_drew ?_ | refine blk_alloc ?_ _)); refine blk_far ?_ NB1024_1034.out _; (with_reducible repeat (first | refine blk_drewN ?_ _ | refine blk_drew ?_ | refine blk_alloc ?_ _)); exact BK1024.out⟩, ⟨by repeat (first | (with_reducible first | exact HB.out | apply below_alloc | apply pw_below_drewN | apply below_drew1 | refine below_set ?_ GE1024.out | refine below_set ?_ GE1034.out) | exact HB.out)⟩⟩
         ·
          rw [if_neg c17] at H
          exact absurd H (by simp)
        ·
         rw [if_neg c16] at H
         exact absurd H (by simp)
       ·
        rw [if_neg c15] at H
        have c15b0 : decide (x5_2 < 16) = false := decide_eq_false c15
        clear c15
        have H' := Aside0.mk H
        clear H
        go_wp2
        go_roundg k2
        case measure => have := HK1.out; have := HK2.out; omega
        case rel => exact ⟨(wrap64 (x4_1 + 1)), (by first | rfl | (simp; done) | (simp [*]; done)), H', ⟨by have := HK1.out; have := HK2.out; omega⟩, ⟨by (with_reducible repeat (first | apply Kd.N_alloc | apply Kd.N_drewN | apply Kd.N_drew)); exact HO_3.out⟩, ⟨by (with_reducible repeat (first | refine blk_drewN ?_ _ | refine blk_drew ?_ | refine blk_alloc ?_ _)); exact BK1024.out⟩, ⟨by repeat (first | (with_reducible first | exact HB.out | apply below_alloc | apply pw_below_drewN | apply below_drew1 | refine below_set ?_ GE1024.out) | exact HB.out)⟩⟩
    ·
     rw [if_neg c13] at H
     have c13b0 : decide (x4_1 < (t1026.length : Int)) = false := decide_eq_false c13
     clear c13
     replace H := Option.bind_eq_some_iff.mp H
     obtain ⟨t1029, A1110, H⟩ := H
     replace H : (some t1029) = some true := H
     have A111 := Aside0.mk A1110
     clear A1110
     obtain rfl := Option.some.inj H
     obtain ⟨Ao112, co112, eo112⟩ := Kd.N_slice HO_3.out
     subst eo112
     go_wp2_with (first | ((with_reducible refine gate_callee (f := 76) rfl ?_); refine goesL_ (some 152) rfl rfl Try.func76 (by kernel_rfl) rfl #[] rfl (by (try simp only [List.map_toArray, List.map_cons, List.map_nil]); first | done | rfl | (simp only [List.length_drop, List.length_take]; rfl)) ?_; (with_reducible refine (herbariumlaw3_wakes.calls k1  true _ A111.out).mono ?_); rintro e w113 ⟨rfl, hb⟩; refine ⟨_, rfl, ?_⟩; have n0_ := Aside0.mk (Kd.N_below (by (with_reducible repeat (first | apply Kd.N_alloc | apply Kd.N_drewN | apply Kd.N_drew)); exact HO_3.out) hb); have n1_ := Aside0.mk (blk_below (g := gb1024) (o := .cells #[.slice A0_0 l0_0.length c0_0, .slice A0_1 l0_1.length c0_1, .slice A0_2 l0_2.length c0_2] 78 (0, 0)) (by (with_reducible repeat (first | refine blk_drewN ?_ _ | refine blk_drew ?_ | refine blk_alloc ?_ _)); exact BK1024.out) hb); have n2_ := Aside0.mk (below_step (by repeat (first | (with_reducible first | exact HB.out | apply below_alloc | apply pw_below_drewN | apply below_drew1 | refine below_set ?_ GE1024.out) | exact HB.out)) hb); clear HO_3; clear BK1024; clear HB; have HO_3 := n0_; have BK1024 := n1_; have HB := n2_; clear n0_ n1_ n2_; (try clear hb); (try clear hb2); (try clear hk); (try clear hi)))
     go_ret
     exact ⟨by first | rfl | (simp [errW_none, errW_some] <;> rfl) | (simp [*, errW_none, errW_some] <;> rfl), by repeat (first | (with_reducible first | exact HB.out | apply below_alloc | apply pw_below_drewN | apply below_drew1 | refine below_set ?_ GE1024.out) | exact HB.out)⟩
end Go.Proofs.Ytnpghcikhpglkaa.Q
namespace Go.Proofs.Ytnpghcikhpglkaa.Pb
open Go.RowKit Go.Proofs.YtnpghcikhpglkaaW.PrintWords Go.Proofs.YtnpghcikhpglkaaW.PrintLast Go.Proofs.YtnpghcikhpglkaaW.PrintMore Go.Proofs.Ytnpghcikhpglkaa.Hand Go.Proofs.Ytnpghcikhpglkaa.Pu Go.Proofs.Ytnpghcikhpglkaa.Q
set_option linter.unusedVariables false
set_option linter.unusedSimpArgs false
/-! ### a list's text -/
theorem packS_size (l : List Int) : (packS l).size = (l.length + 7) / 8 := by rw [packS, strOfNums_size, packL_length]
theorem bt_strOfNums (xs : List Int) (i : Nat) (hi : i < xs.length) (h : 0 ≤ xs.getD i 0 ∧ xs.getD i 0 < 256) : bt (strOfNums xs) (i : Int) = xs.getD i 0 := by
  have hs : i < (strOfNums xs).size := by rw [strOfNums_size]; exact hi
  rw [← bt_at (strOfNums xs) (i : Int) hs]
  have h2 : i < (strOfNums xs).data.toList.length := hs
  have h3 : (strOfNums xs).data.toList[i]'h2 = UInt8.ofNat (xs[i]'hi).toNat := by simp [strOfNums_data]
  have h4 : (strOfNums xs)[(i : Int).toNat]'hs = UInt8.ofNat (xs[i]'hi).toNat := h3
  rw [h4]
  rw [List.getD_eq_getElem?_getD, List.getElem?_eq_getElem hi] at h ⊢
  simp only [Option.getD_some] at h ⊢
  rw [UInt8.toNat_ofNat']
  omega
theorem bt_packS (l : List Int) (hl : IsBits l) (j : Nat) (hj : j < (l.length + 7) / 8) : bt (packS l) (j : Int) = byteAt l j := by
  have h1 : (packL l).getD j 0 = byteAt l j := by rw [List.getD_eq_getElem?_getD, packL_get l j hj]; rfl
  have := bt_strOfNums (packL l) j (by rw [packL_length]; exact hj) (by rw [h1]; exact byteAt_range hl j)
  rw [packS, this, h1]
theorem b01 {x : Int} (h : x = 0 ∨ x = 1) : 0 ≤ x ∧ x ≤ 1 := by omega
theorem byte8 (x0 x1 x2 x3 x4 x5 x6 x7 : Int) (h0 : 0 ≤ x0 ∧ x0 ≤ 1) (h1 : 0 ≤ x1 ∧ x1 ≤ 1) (h2 : 0 ≤ x2 ∧ x2 ≤ 1) (h3 : 0 ≤ x3 ∧ x3 ≤ 1) (h4 : 0 ≤ x4 ∧ x4 ≤ 1) (h5 : 0 ≤ x5 ∧ x5 ≤ 1) (h6 : 0 ≤ x6 ∧ x6 ≤ 1) (h7 : 0 ≤ x7 ∧ x7 ≤ 1) :
    let b := x0 * 128 + x1 * 64 + x2 * 32 + x3 * 16 + x4 * 8 + x5 * 4 + x6 * 2 + x7
    b / 128 % 2 = x0 ∧ b / 64 % 2 = x1 ∧ b / 32 % 2 = x2 ∧ b / 16 % 2 = x3 ∧ b / 8 % 2 = x4 ∧ b / 4 % 2 = x5 ∧ b / 2 % 2 = x6 ∧ b / 1 % 2 = x7 := by
  refine ⟨?_, ?_, ?_, ?_, ?_, ?_, ?_, ?_⟩ <;> omega
theorem bit_byteAt (l : List Int) (hl : IsBits l) (j i : Nat) (hi : i < 8) : byteAt l j / 2 ^ (7 - i) % 2 = l.getD (8 * j + i) 0 := by
  have h := byte8 _ _ _ _ _ _ _ _ (b01 (hl.getD (8 * j))) (b01 (hl.getD (8 * j + 1))) (b01 (hl.getD (8 * j + 2))) (b01 (hl.getD (8 * j + 3))) (b01 (hl.getD (8 * j + 4))) (b01 (hl.getD (8 * j + 5))) (b01 (hl.getD (8 * j + 6))) (b01 (hl.getD (8 * j + 7)))
  have hi' : i = 0 ∨ i = 1 ∨ i = 2 ∨ i = 3 ∨ i = 4 ∨ i = 5 ∨ i = 6 ∨ i = 7 := by omega
  rcases hi' with rfl | rfl | rfl | rfl | rfl | rfl | rfl | rfl
  · exact h.1
  · exact h.2.1
  · exact h.2.2.1
  · exact h.2.2.2.1
  · exact h.2.2.2.2.1
  · exact h.2.2.2.2.2.1
  · exact h.2.2.2.2.2.2.1
  · exact h.2.2.2.2.2.2.2
theorem bitOf_packS (l : List Int) (hl : IsBits l) (i : Nat) (hi : i < l.length) : bitOf (packS l) (i : Int) = l.getD i 0 := by
  have h := bitOf_at (packS l) (i / 8) (i % 8) (by omega)
  rw [show 8 * (i / 8) + i % 8 = i by omega] at h
  rw [h, bt_packS l hl (i / 8) (by omega), bit_byteAt l hl (i / 8) (i % 8) (by omega), show 8 * (i / 8) + i % 8 = i by omega]
theorem ofS_packS (l : List Int) (hl : IsBits l) : ofS (packS l) (l.length : Int) = l := by
  refine List.ext_getElem? fun i => ?_
  rcases Nat.lt_or_ge i l.length with hi | hi
  · have h := ofS_getD (packS l) (l.length : Int) i (by simpa using hi)
    rw [bitOf_packS l hl i hi] at h
    have hi2 : i < (ofS (packS l) (l.length : Int)).length := by rw [ofS_length]; simpa using hi
    rw [List.getD_eq_getElem?_getD, List.getD_eq_getElem?_getD, List.getElem?_eq_getElem hi2, List.getElem?_eq_getElem hi] at h
    rw [List.getElem?_eq_getElem hi2, List.getElem?_eq_getElem hi]
    simpa using h
  · rw [List.getElem?_eq_none (by rw [ofS_length]; simpa using hi), List.getElem?_eq_none hi]
theorem may_packS (l : List Int) (hl : IsBits l) (h : l.length ≤ 6000) : MayP (packS l) (l.length : Int) := by
  refine ⟨by omega, by omega, by rw [packS_size]; omega, ?_⟩
  rcases Nat.eq_zero_or_pos (l.length % 8) with h8 | h8
  · exact .inl (by omega)
  · refine .inr ?_
    have hj : ((packS l).size : Int) - 1 = ((l.length / 8 : Nat) : Int) := by rw [packS_size]; omega
    rw [hj, bt_packS l hl _ (by omega)]
    have := (byteAt_snoc_new l 0).2
    rw [show (8 - (l.length : Int) % 8).toNat = 7 - l.length % 8 + 1 by omega]
    exact this
/-! ### numbers out of bits -/
def numL (l : List Int) : Int := l.foldl (fun v b => 2 * v + b) 0
theorem numL_snoc (l : List Int) (b : Int) : numL (l ++ [b]) = 2 * numL l + b := by simp [numL]
theorem numL_from (l : List Int) : ∀ v : Int, l.foldl (fun v b => 2 * v + b) v = v * 2 ^ l.length + numL l := by
  induction l with
  | nil => intro v; simp [numL]
  | cons a r ih =>
    intro v
    have h0 := ih (2 * v + a)
    have h1 : numL (a :: r) = a * 2 ^ r.length + numL r := by
      have := ih a
      simp only [numL, List.foldl_cons] at this ⊢
      simpa using this
    simp only [List.foldl_cons, List.length_cons]
    rw [h0, h1, Int.pow_succ]
    rw [Int.add_mul]
    have e : 2 * v * 2 ^ r.length = v * (2 ^ r.length * 2) := by rw [Int.mul_comm 2 v, Int.mul_assoc, Int.mul_comm 2]
    rw [e]
    omega
theorem numL_cons (a : Int) (r : List Int) : numL (a :: r) = a * 2 ^ r.length + numL r := by
  have := numL_from r a
  simp only [numL, List.foldl_cons] at this ⊢
  simpa using this
theorem numL_range {l : List Int} (h : IsBits l) : 0 ≤ numL l ∧ numL l < 2 ^ l.length := by
  induction l with
  | nil => simp [numL]
  | cons a r ih =>
    have hr := ih (fun x hx => h x (List.mem_cons_of_mem _ hx))
    have ha := h a (List.mem_cons_self)
    have hp : (0 : Int) < 2 ^ r.length := Int.pow_pos (by decide)
    rw [numL_cons, List.length_cons, Int.pow_succ]
    rcases ha with rfl | rfl <;> omega
theorem numL_putL (w : Nat) (v : Int) (h0 : 0 ≤ v) : numL (putL w v) = v % 2 ^ w := by
  induction w with
  | zero => simp [putL, numL]
  | succ k ih =>
    rw [putL, numL_cons, putL_length, ih]
    have hp : (0 : Int) < 2 ^ k := Int.pow_pos (by decide)
    rw [Int.pow_succ]
    generalize (2 : Int) ^ k = p at hp ⊢
    have e1 := Int.mul_ediv_add_emod v p
    have e2 := Int.mul_ediv_add_emod (v / p) 2
    have r0 := Int.emod_nonneg v (show p ≠ 0 by omega)
    have r1 := Int.emod_lt_of_pos v hp
    have hb : v / p % 2 = 0 ∨ v / p % 2 = 1 := by omega
    have hv : v = (p * 2) * (v / p / 2) + (v / p % 2 * p + v % p) := by
      rw [Int.mul_assoc]
      have : p * (2 * (v / p / 2)) + v / p % 2 * p = p * (v / p) := by rw [Int.mul_comm (v / p % 2) p, ← Int.mul_add, e2]
      omega
    have hm : v % (p * 2) = (v / p % 2 * p + v % p) % (p * 2) := by
      conv => lhs; rw [hv]
      rw [Int.mul_add_emod_self_left]
    rw [hm, Int.emod_eq_of_lt (a := v / p % 2 * p + v % p) (b := p * 2)]
    · rcases hb with h | h <;> rw [h] <;> omega
    · rcases hb with h | h <;> rw [h] <;> omega
theorem numL_putL_lt (w : Nat) (v : Int) (h0 : 0 ≤ v) (h1 : v < 2 ^ w) : numL (putL w v) = v := by rw [numL_putL w v h0, Int.emod_eq_of_lt h0 h1]
/-! ### bits.Look, bits.Get -/
theorem or_step (v b : Int) (h0 : 0 ≤ v) (h1 : v < 2 ^ 61) (hb : b = 0 ∨ b = 1) : Go.bits .or .i64 (wrap64 (v * 2)) b = 2 * v + b := by
  rw [wrap_in _ (by omega) (by omega), bits_join .i64 63 (by decide) wraps_i64 1 (v * 2) b (by omega) (by simp) (by omega) (by omega) (by simp; omega) (by omega)]
  omega
theorem look_loop (l : List Int) (hl : IsBits l) (hlen : l.length ≤ 1000000) (n : Int) (a w : Nat) (haw : a + w ≤ l.length) (hw : w ≤ 61) (d : Nat) : ∀ (k i : Nat), i + d = w → d < k →
    bits_Look.l0 k (a : Int) (numL ((l.drop a).take i)) (w : Int) (i : Int) (packS l) n = some (numL ((l.drop a).take w), true) := by
  induction d with
  | zero =>
    intro k i hi hk
    obtain ⟨k, rfl⟩ : ∃ m, k = m + 1 := ⟨k - 1, by omega⟩
    obtain rfl : i = w := by omega
    simp only [bits_Look.l0]
    rw [if_neg (by omega)]
  | succ d ih =>
    intro k i hi hk
    obtain ⟨k, rfl⟩ : ∃ m, k = m + 1 := ⟨k - 1, by omega⟩
    simp only [bits_Look.l0]
    rw [if_pos (by omega)]
    have hw1 : wrap64 ((a : Int) + (i : Int)) = ((a + i : Nat) : Int) := by rw [wrap_in _ (by omega) (by omega)]; omega
    have hsz := packS_size l
    rw [hw1, bit_some _ _ _ (by omega) (by omega) (by omega), bitOf_packS l hl (a + i) (by omega), Option.bind_some]
    have hib : IsBits ((l.drop a).take i) := fun x hx => hl x (List.mem_of_mem_drop (List.mem_of_mem_take hx))
    have hr := numL_range hib
    have hlt : (l.drop a).length = l.length - a := List.length_drop ..
    have hlen2 : ((l.drop a).take i).length = i := by rw [List.length_take, hlt]; omega
    rw [hlen2] at hr
    have hp : (2 : Int) ^ i ≤ 2 ^ 60 := by have := Nat.pow_le_pow_right (n := 2) (by decide) (show i ≤ 60 by omega); exact_mod_cast this
    have h60 : (2 : Int) ^ 60 < 2 ^ 61 := by decide
    have hb := hl.getD (a + i)
    rw [or_step _ _ hr.1 (by omega) hb]
    have hsn : (l.drop a).take (i + 1) = (l.drop a).take i ++ [l.getD (a + i) 0] := by
      rw [List.take_succ_eq_append_getElem (by rw [hlt]; omega), List.getElem_drop, List.getD_eq_getElem?_getD, List.getElem?_eq_getElem (by omega)]
      rfl
    rw [← numL_snoc, ← hsn, wrap_in _ (by omega) (by omega)]
    have := ih k (i + 1) (by omega) (by omega)
    rw [show ((i + 1 : Nat) : Int) = (i : Int) + 1 by omega] at this
    exact this
theorem look_yes (l : List Int) (hl : IsBits l) (hlen : l.length ≤ 1000000) (a w : Nat) (haw : a + w ≤ l.length) (hw : w ≤ 61) (k : Nat) (hk : w + 1 < k) :
    bits_Look.f k (packS l) (l.length : Int) (a : Int) (w : Int) = some (numL ((l.drop a).take w), true) := by
  obtain ⟨k, rfl⟩ : ∃ m, k = m + 1 := ⟨k - 1, by omega⟩
  unfold bits_Look.f
  rw [if_neg (by omega)]
  have hd : decide ((w : Int) > wrap64 ((l.length : Int) - (a : Int))) = false := by
    rw [wrap_in _ (by omega) (by omega)]
    simp
    omega
  rw [hd]
  simp only [bits_Look.j0]
  rw [if_neg (by decide)]
  exact look_loop l hl hlen _ a w haw hw w k 0 (by omega) (by omega)
theorem look_no (s : ByteArray) (n a w : Int) (hn : 0 ≤ n ∧ n ≤ 1000000) (ha : 0 ≤ a) (hw0 : 0 ≤ w) (h : n < a + w) (k : Nat) (hk : 0 < k) : bits_Look.f k s n a w = some (0, false) := by
  obtain ⟨k, rfl⟩ : ∃ m, k = m + 1 := ⟨k - 1, by omega⟩
  unfold bits_Look.f
  by_cases h1 : a > n
  · rw [if_pos h1]
    simp only [bits_Look.j0]
    rw [if_pos trivial]
  · rw [if_neg h1]
    have hd : decide (w > wrap64 (n - a)) = true := by
      rw [wrap_in _ (by omega) (by omega)]
      simp
      omega
    rw [hd]
    simp only [bits_Look.j0]
    rw [if_pos trivial]
/-! ### bits.Put -/
/-! ### slices of lists -/
end Go.Proofs.Ytnpghcikhpglkaa.Pb
namespace Go.Proofs.Ytnpghcikhpglkaa.Pb
open Go.RowKit Go.Proofs.YtnpghcikhpglkaaW.PrintWords Go.Proofs.YtnpghcikhpglkaaW.PrintLast Go.Proofs.YtnpghcikhpglkaaW.PrintMore Go.Proofs.Ytnpghcikhpglkaa.Hand Go.Proofs.Ytnpghcikhpglkaa.Pu Go.Proofs.Ytnpghcikhpglkaa.Q
set_option linter.unusedVariables false
set_option linter.unusedSimpArgs false
/-- How many bits 0 stand ahead of the first 1; -1: there is no 1. -/
def zerosL : List Int → Int
  | [] => -1
  | b :: r => if b = 1 then 0 else if zerosL r < 0 then -1 else zerosL r + 1
theorem zerosL_range (l : List Int) : -1 ≤ zerosL l ∧ zerosL l < (l.length : Int) := by
  induction l with
  | nil => simp [zerosL]
  | cons b r ih =>
    simp only [zerosL, List.length_cons]
    split
    · omega
    · split <;> omega
theorem zerosL_rep (n : Nat) (r : List Int) : zerosL (List.replicate n 0 ++ 1 :: r) = n := by
  induction n with
  | zero => simp [zerosL]
  | succ n ih =>
    simp only [List.replicate_succ, List.cons_append, zerosL, ih]
    rw [if_neg (by decide), if_neg (by omega)]
    omega
/-- What stands there. -/
theorem zerosL_split (l : List Int) (h : 0 ≤ zerosL l) (hb : IsBits l) : ∃ r, l = List.replicate (zerosL l).toNat 0 ++ 1 :: r := by
  induction l with
  | nil => simp [zerosL] at h
  | cons b r ih =>
    have hbb := hb b List.mem_cons_self
    simp only [zerosL] at h ⊢
    by_cases h1 : b = 1
    · rw [if_pos h1]
      exact ⟨r, by simp [h1]⟩
    · rw [if_neg h1] at h ⊢
      by_cases h2 : zerosL r < 0
      · rw [if_pos h2] at h; omega
      · rw [if_neg h2]
        obtain ⟨q, hq⟩ := ih (by omega) (fun x hx => hb x (List.mem_cons_of_mem _ hx))
        refine ⟨q, ?_⟩
        have hb0 : b = 0 := by omega
        have : (zerosL r + 1).toNat = (zerosL r).toNat + 1 := by omega
        rw [this, List.replicate_succ, List.cons_append, hb0, ← hq]
theorem ahead_loop (l : List Int) (hl : IsBits l) (hlen : l.length ≤ 1000000) (x : Int) (hx : 0 ≤ x) (d : Nat) : ∀ (k i : Nat), i + d = l.length → d < k → x ≤ i →
    bits_Ahead.l0 k x (i : Int) (packS l) (l.length : Int) = some (if zerosL (l.drop i) < 0 then -1 else (i : Int) + zerosL (l.drop i) - x) := by
  induction d with
  | zero =>
    intro k i hi hk hxi
    obtain ⟨k, rfl⟩ : ∃ m, k = m + 1 := ⟨k - 1, by omega⟩
    simp only [bits_Ahead.l0]
    rw [if_neg (by omega), List.drop_eq_nil_of_le (by omega)]
    rfl
  | succ d ih =>
    intro k i hi hk hxi
    obtain ⟨k, rfl⟩ : ∃ m, k = m + 1 := ⟨k - 1, by omega⟩
    have hsz := packS_size l
    have hb := bit_some (packS l) (l.length : Int) (i : Int) (by omega) (by omega) (by omega)
    rw [bitOf_packS l hl i (by omega)] at hb
    have hd : l.drop i = l.getD i 0 :: l.drop (i + 1) := by
      rw [List.drop_eq_getElem_cons (by omega), List.getD_eq_getElem?_getD, List.getElem?_eq_getElem (by omega)]
      rfl
    have hz := zerosL_range (l.drop (i + 1))
    simp only [bits_Ahead.l0]
    rw [if_pos (by omega), hb, Option.bind_some, hd]
    by_cases h1 : l.getD i 0 = 1
    · have hc : zerosL (l.getD i 0 :: l.drop (i + 1)) = 0 := by simp only [zerosL]; rw [if_pos h1]
      rw [if_pos h1, hc, wrap_in _ (by omega) (by omega), if_neg (by omega)]
      simp
    · rw [if_neg h1, wrap_in _ (by omega) (by omega)]
      have := ih k (i + 1) (by omega) (by omega) (by omega)
      rw [show ((i + 1 : Nat) : Int) = (i : Int) + 1 by omega] at this
      rw [this]
      by_cases h2 : zerosL (l.drop (i + 1)) < 0
      · have hc : zerosL (l.getD i 0 :: l.drop (i + 1)) = -1 := by simp only [zerosL]; rw [if_neg h1, if_pos h2]
        rw [if_pos h2, hc, if_pos (by omega)]
      · have hc : zerosL (l.getD i 0 :: l.drop (i + 1)) = zerosL (l.drop (i + 1)) + 1 := by simp only [zerosL]; rw [if_neg h1, if_neg h2]
        rw [if_neg h2, hc, if_neg (by omega)]
        congr 1
        omega
theorem ahead_eq (l : List Int) (hl : IsBits l) (hlen : l.length ≤ 1000000) (a : Nat) (ha : a ≤ l.length) (k : Nat) (hk : l.length < k) : bits_Ahead.f k (packS l) (l.length : Int) (a : Int) = some (zerosL (l.drop a)) := by
  have h := ahead_loop l hl hlen (a : Int) (by omega) (l.length - a) k a (by omega) (by omega) (Int.le_refl _)
  have hz := zerosL_range (l.drop a)
  unfold bits_Ahead.f
  rw [h]
  congr 1
  split <;> omega
end Go.Proofs.Ytnpghcikhpglkaa.Pb
namespace Go.Proofs.Ytnpghcikhpglkaa.Q
open Go.RowKit Go.Proofs.YtnpghcikhpglkaaW.PrintWords Go.Proofs.YtnpghcikhpglkaaW.PrintLast Go.Proofs.YtnpghcikhpglkaaW.PrintMore Go.Proofs.Ytnpghcikhpglkaa.Hand Go.Proofs.Ytnpghcikhpglkaa.Pu
set_option linter.unusedVariables false
set_option linter.unusedSimpArgs false
def ztGood (kk h : Nat) (q : Int × Int × Int × Int) : Bool :=
  q.1 == ((2 ^ (h * kk) : Nat) : Int) && (q.2.1 == ((2 ^ (h * kk + kk) : Nat) : Int) - ((2 ^ (h * kk) : Nat) : Int) && (Nat.ble 1 q.2.2.1.toNat && (Nat.ble q.2.2.1.toNat 40 && (q.2.2.1 == (q.2.2.1.toNat : Int) && (q.2.2.2 == ((2 ^ q.2.2.1.toNat : Nat) : Int) - q.2.1 && (q.2.2.2 == (q.2.2.2.toNat : Int) && Nat.ble q.2.2.2.toNat 2147483648))))))
def ztOk (kk : Nat) (h : Nat) : Bool := (code_zeta.f (kk : Int) (h : Int)).any (ztGood kk h)
theorem zt2 : ∀ h : Fin 16, ztOk 2 h.val = true := by decide +kernel
theorem zt3 : ∀ h : Fin 11, ztOk 3 h.val = true := by decide +kernel
theorem zt_facts {kk h : Nat} (ho : ztOk kk h = true) : ∃ low many size short : Int, code_zeta.f (kk : Int) (h : Int) = some (low, many, size, short) ∧ low = ((2 ^ (h * kk) : Nat) : Int) ∧ many = ((2 ^ (h * kk + kk) : Nat) : Int) - ((2 ^ (h * kk) : Nat) : Int) ∧ 1 ≤ size ∧ size ≤ 40 ∧ 0 ≤ short ∧ short = ((2 ^ size.toNat : Nat) : Int) - many ∧ short ≤ 2147483648 := by
  unfold ztOk at ho
  generalize code_zeta.f (kk : Int) (h : Int) = o at ho
  cases o with
  | none => cases ho
  | some q =>
    obtain ⟨low, many, size, short⟩ := q
    refine ⟨low, many, size, short, rfl, ?_⟩
    have hg : ztGood kk h (low, many, size, short) = true := ho
    clear ho
    unfold ztGood at hg
    simp only [Bool.and_eq_true, beq_iff_eq, Nat.ble_eq] at hg
    obtain ⟨h1, h2, h3, h4, h5, h6, h7, h8⟩ := hg
    exact ⟨h1, h2, by omega, by omega, by omega, h6, by omega⟩
def zetaL (kk n : Int) : List Int := match code_zeta.f kk (Int.tdiv (lg n) kk) with
  | some (low, _, size, short) => unaryL (Int.tdiv (lg n) kk + 1) ++ (if n - low < short then putL (size - 1).toNat (n - low) else putL size.toNat (n - low + short))
  | none => []
/-- A number's code. -/
def layL (kind n : Int) : List Int := if kind = 1 then unaryL n else if kind = 2 then gammaL n else if kind = 3 then deltaL n else if kind = 4 then zetaL 2 n else zetaL 3 n
theorem low_le {n : Int} {h kk : Nat} (h0 : 1 ≤ n) (h1 : n ≤ 1073741824) (hh : (h : Int) = lg n / (kk : Int)) (hk : 1 ≤ kk) : ((2 ^ (h * kk) : Nat) : Int) ≤ n := by
  obtain ⟨_, g0, g1, g2, g3⟩ := lg_facts n h0 h1
  obtain ⟨g, hg⟩ := Int.eq_ofNat_of_zero_le g0
  rw [hg] at hh g2
  rw [Int.toNat_natCast] at g2
  have hh' : h = g / kk := by exact_mod_cast hh
  have hle : h * kk ≤ g := by rw [hh']; exact Nat.div_mul_le_self g kk
  have := Nat.pow_le_pow_right (n := 2) (by decide) hle
  have h2 : ((2 ^ (h * kk) : Nat) : Int) ≤ ((2 ^ g : Nat) : Int) := by exact_mod_cast this
  have h3 : (((2 : Nat) ^ g : Nat) : Int) = (2 : Int) ^ g := Int.natCast_pow 2 g
  rw [h3] at h2
  exact Int.le_trans h2 g2
theorem lay_p (kind n : Int) (hk : code_Is.f kind = some true) (hn : code_number.f kind n = some true) : LayP kind n (layL kind n) := by
  have hk1 : 1 ≤ kind ∧ kind ≤ 5 := by
    unfold code_Is.f at hk
    split at hk
    · simp only [Option.some.injEq, decide_eq_true_eq] at hk; omega
    · simp at hk
  have hn1 : 1 ≤ n ∧ n ≤ 1073741824 ∧ (kind = 1 → n ≤ 1000) := by
    unfold code_number.f at hn
    split at hn
    · split at hn
      · simp only [Option.some.injEq, decide_eq_true_eq] at hn; omega
      · simp at hn
    · split at hn
      · simp only [Option.some.injEq, decide_eq_true_eq] at hn; omega
      · simp at hn
  obtain ⟨hn0, hn2, hn3⟩ := hn1
  obtain ⟨hlog, g0, g1, g2, g3⟩ := lg_facts n hn0 hn2
  intro W base p l hrow hl hbase
  have hkk : kind = 1 ∨ kind = 2 ∨ kind = 3 ∨ kind = 4 ∨ kind = 5 := by omega
  rcases hkk with rfl | rfl | rfl | rfl | rfl
  · exact lay_unary W base p l n hrow hn0 (hn3 rfl) (by omega) hbase
  · exact lay_gamma W base p l n hrow hn0 hn2 (by omega) hbase
  · exact lay_delta W base p l n hrow hn0 hn2 (by omega) hbase
  · obtain ⟨h, hh⟩ := Int.eq_ofNat_of_zero_le (show 0 ≤ lg n / 2 by omega)
    have ht : Int.tdiv (lg n) 2 = (h : Int) := by rw [Int.tdiv_eq_ediv_of_nonneg g0]; exact hh
    obtain ⟨low, many, size, short, e, e1, e2, e3, e4, e5, e6, e7⟩ := zt_facts (zt2 ⟨h, by omega⟩)
    simp only at e e1
    have hlow : low ≤ n := by rw [e1]; exact low_le hn0 hn2 hh.symm (by omega)
    have hp : 0 < 2 ^ (h * 2) := Nat.pow_pos (by decide)
    have e' : code_zeta.f 2 (Int.tdiv (lg n) 2) = some (low, many, size, short) := by rw [ht]; exact e
    exact lay_zeta2 W base p l n (lg n) low many size short (layL 4 n) hrow hn0 hn2 (by omega) hbase hlog g0 g1 e' (by omega) hlow e3 (by omega) e5 (by omega) (by unfold layL zetaL; rw [if_neg (by decide), if_neg (by decide), if_neg (by decide), if_pos rfl, e'])
  · obtain ⟨h, hh⟩ := Int.eq_ofNat_of_zero_le (show 0 ≤ lg n / 3 by omega)
    have ht : Int.tdiv (lg n) 3 = (h : Int) := by rw [Int.tdiv_eq_ediv_of_nonneg g0]; exact hh
    obtain ⟨low, many, size, short, e, e1, e2, e3, e4, e5, e6, e7⟩ := zt_facts (zt3 ⟨h, by omega⟩)
    simp only at e e1
    have hlow : low ≤ n := by rw [e1]; exact low_le hn0 hn2 hh.symm (by omega)
    have hp : 0 < 2 ^ (h * 3) := Nat.pow_pos (by decide)
    have e' : code_zeta.f 3 (Int.tdiv (lg n) 3) = some (low, many, size, short) := by rw [ht]; exact e
    exact lay_zeta3 W base p l n (lg n) low many size short (layL 5 n) hrow hn0 hn2 (by omega) hbase hlog g0 g1 e' (by omega) hlow e3 (by omega) e5 (by omega) (by unfold layL zetaL; rw [if_neg (by decide), if_neg (by decide), if_neg (by decide), if_neg (by decide), e'])
/-- code.Put. -/
def code_Put.f (s : ByteArray) (n kind v : Int) : Option (ByteArray × Int × Int) :=
  if MayP s n then (code_Is.f kind).bind fun i => if i = true then (code_number.f kind v).bind fun m => if m = true then
    (if ((ofS s n ++ layL kind v).length : Int) ≤ 6000 then some (packS (ofS s n ++ layL kind v), ((ofS s n ++ layL kind v).length : Int), 0) else some (⟨#[]⟩, 0, 2)) else some (⟨#[]⟩, 0, 1) else some (⟨#[]⟩, 0, 1)
  else some (⟨#[]⟩, 0, 1)
theorem code_Put.calls (s : ByteArray) (n kind v : Int) (r1 : ByteArray) (r2 r3 : Int) (w : World) (h : code_Put.f s n kind v = some (r1, r2, r3)) :
    Calls Try.prog 58 #[.agg #[.string s, .int .i64 n], .int .i64 kind, .int .i64 v] w fun e w' => e = .returned (.tuple #[.agg #[.string r1, .int .i64 r2], .int .i64 r3]) ∧ Below w.heap.size w w' := by
  unfold code_Put.f at h
  split at h
  · rename_i hm
    obtain ⟨i, hi, h⟩ := Option.bind_eq_some_iff.1 h
    cases i with
    | false =>
      rw [if_neg (by simp)] at h
      simp only [Option.some.injEq, Prod.mk.injEq] at h
      obtain ⟨rfl, rfl, rfl⟩ := h
      exact cput_no2 s n kind v w hm hi
    | true =>
      rw [if_pos rfl] at h
      obtain ⟨m, hv, h⟩ := Option.bind_eq_some_iff.1 h
      cases m with
      | false =>
        rw [if_neg (by simp)] at h
        simp only [Option.some.injEq, Prod.mk.injEq] at h
        obtain ⟨rfl, rfl, rfl⟩ := h
        exact cput_no3 s n kind v w hm hi hv
      | true =>
        rw [if_pos rfl] at h
        split at h
        · rename_i hle
          simp only [Option.some.injEq, Prod.mk.injEq] at h
          obtain ⟨rfl, rfl, rfl⟩ := h
          exact cput_yes s n kind v (layL kind v) _ w rfl hm hi hv (lay_p kind v hi hv) hle
        · rename_i hle
          simp only [Option.some.injEq, Prod.mk.injEq] at h
          obtain ⟨rfl, rfl, rfl⟩ := h
          exact cput_no s n kind v (layL kind v) _ w rfl hm hi hv (lay_p kind v hi hv) (by omega)
  · rename_i hm
    simp only [Option.some.injEq, Prod.mk.injEq] at h
    obtain ⟨rfl, rfl, rfl⟩ := h
    exact cput_no1 s n kind v w hm
/-- code.Size. -/
def code_Size.f (kind v : Int) : Option (Int × Int) :=
  (code_Is.f kind).bind fun i => if i = true then (code_number.f kind v).bind fun m => if m = true then some (((layL kind v).length : Int), 0) else some (0, 1) else some (0, 1)
theorem code_Size.calls (kind v r1 r2 : Int) (w : World) (h : code_Size.f kind v = some (r1, r2)) :
    Calls Try.prog 64 #[.int .i64 kind, .int .i64 v] w fun e w' => e = .returned (.tuple #[.int .i64 r1, .int .i64 r2]) ∧ Below w.heap.size w w' := by
  unfold code_Size.f at h
  obtain ⟨i, hi, h⟩ := Option.bind_eq_some_iff.1 h
  cases i with
  | false =>
    rw [if_neg (by simp)] at h
    simp only [Option.some.injEq, Prod.mk.injEq] at h
    obtain ⟨rfl, rfl⟩ := h
    exact csize_no1 kind v w hi
  | true =>
    rw [if_pos rfl] at h
    obtain ⟨m, hv, h⟩ := Option.bind_eq_some_iff.1 h
    cases m with
    | false =>
      rw [if_neg (by simp)] at h
      simp only [Option.some.injEq, Prod.mk.injEq] at h
      obtain ⟨rfl, rfl⟩ := h
      exact csize_no2 kind v w hi hv
    | true =>
      rw [if_pos rfl] at h
      simp only [Option.some.injEq, Prod.mk.injEq] at h
      obtain ⟨rfl, rfl⟩ := h
      exact csize_yes kind v (layL kind v) _ w (by rw [List.nil_append]) hi hv (lay_p kind v hi hv)
end Go.Proofs.Ytnpghcikhpglkaa.Q
namespace Go.Proofs.Ytnpghcikhpglkaa.Pb
open Go.RowKit Go.Proofs.YtnpghcikhpglkaaW.PrintWords Go.Proofs.YtnpghcikhpglkaaW.PrintLast Go.Proofs.YtnpghcikhpglkaaW.PrintMore Go.Proofs.Ytnpghcikhpglkaa.Hand Go.Proofs.Ytnpghcikhpglkaa.Pu Go.Proofs.Ytnpghcikhpglkaa.Q
set_option linter.unusedVariables false
set_option linter.unusedSimpArgs false
theorem rd_zeros_eq (l : List Int) (hl : IsBits l) (hlen : l.length ≤ 6000) (a : Nat) (ha : a ≤ l.length) (most : Int) (k : Nat) (hk : 7000 ≤ k) : rd_zeros k (packS l) (l.length : Int) (a : Int) false most =
    some (if 0 ≤ zerosL (l.drop a) ∧ zerosL (l.drop a) ≤ most then (zerosL (l.drop a), (a : Int) + zerosL (l.drop a), false) else (0, (a : Int), true)) := by
  have hr := zerosL_range (l.drop a)
  rw [List.length_drop] at hr
  unfold rd_zeros
  rw [ahead_eq l hl (by omega) a ha k (by omega), Option.bind_some, if_neg (by decide)]
  generalize zerosL (l.drop a) = z at *
  by_cases h1 : z < 0
  · rw [if_pos h1, if_neg (fun h => by omega)]
  · rw [if_neg h1]
    by_cases h2 : most < z
    · rw [if_pos h2, if_neg (fun h => by omega)]
    · rw [if_neg h2, if_pos ⟨by omega, by omega⟩, wrap_in _ (by omega) (by omega)]
theorem look_some (l : List Int) (hl : IsBits l) (hlen : l.length ≤ 6000) (a w : Nat) (hw : w ≤ 61) (k : Nat) (hk : 7000 ≤ k) : bits_Look.f k (packS l) (l.length : Int) (a : Int) (w : Int) = if a + w ≤ l.length then some (numL ((l.drop a).take w), true) else some (0, false) := by
  by_cases h : a + w ≤ l.length
  · rw [if_pos h]
    exact look_yes l hl (by omega) a w h hw k (by omega)
  · rw [if_neg h]
    exact look_no (packS l) (l.length : Int) (a : Int) (w : Int) (by omega) (by omega) (by omega) (by omega) k (by omega)
theorem rd_look_bad (l : List Int) (hl : IsBits l) (hlen : l.length ≤ 6000) (a w : Nat) (hw : w ≤ 61) (k : Nat) (hk : 7000 ≤ k) : rd_look k (packS l) (l.length : Int) (a : Int) true (w : Int) = some (0, (a : Int), true) := by
  unfold rd_look
  rw [look_some l hl hlen a w hw k hk]
  split <;> (rw [Option.bind_some, if_pos rfl])
theorem rd_look_eq (l : List Int) (hl : IsBits l) (hlen : l.length ≤ 6000) (a w : Nat) (hw : w ≤ 61) (k : Nat) (hk : 7000 ≤ k) : rd_look k (packS l) (l.length : Int) (a : Int) false (w : Int) =
    some (if a + w ≤ l.length then (numL ((l.drop a).take w), ((a + w : Nat) : Int), false) else (0, (a : Int), true)) := by
  unfold rd_look
  rw [look_some l hl hlen a w hw k hk]
  by_cases h : a + w ≤ l.length
  · rw [if_pos h, if_pos h, Option.bind_some, if_neg (by decide), if_pos rfl, wrap_in _ (by omega) (by omega)]
    rfl
  · rw [if_neg h, if_neg h, Option.bind_some, if_neg (by decide), if_neg (by simp)]
/-- The rest's first code, as a number and how many bits it takes. -/
def unaryR (most : Int) (r : List Int) : Option (Int × Nat) := if 0 ≤ zerosL r ∧ zerosL r ≤ most - 1 then some (zerosL r + 1, (zerosL r).toNat + 1) else none
def gammaR (r : List Int) : Option (Int × Nat) :=
  if 0 ≤ zerosL r ∧ zerosL r ≤ 30 ∧ 2 * (zerosL r).toNat + 1 ≤ r.length then some (numL ((r.drop (zerosL r).toNat).take ((zerosL r).toNat + 1)), 2 * (zerosL r).toNat + 1) else none
/-- What the reader has: good, it stands behind the code; bad. -/
def Got (o : Option (Int × Int × Bool)) (a : Nat) (q : Option (Int × Nat)) : Prop := match q with
  | some (v, c) => o = some (v, ((a + c : Nat) : Int), false)
  | none => ∃ (v : Int) (a' : Nat), o = some (v, (a' : Int), true)
theorem unary_got (l : List Int) (hl : IsBits l) (hlen : l.length ≤ 6000) (a : Nat) (ha : a ≤ l.length) (most : Int) (hm0 : 1 ≤ most) (hm1 : most ≤ 10000) (k : Nat) (hk : 7000 ≤ k) : Got (rd_unary k (packS l) (l.length : Int) (a : Int) false most) a (unaryR most (l.drop a)) := by
  have hr := zerosL_range (l.drop a)
  rw [List.length_drop] at hr
  unfold rd_unary
  rw [if_pos ⟨hm0, hm1⟩, rd_zeros_eq l hl hlen a ha _ k hk, Option.bind_some]
  unfold unaryR
  generalize zerosL (l.drop a) = z at *
  by_cases h : 0 ≤ z ∧ z ≤ most - 1
  · rw [if_pos h, if_pos h]
    simp only [Got]
    obtain ⟨z, rfl⟩ := Int.eq_ofNat_of_zero_le h.1
    have e := rd_look_eq l hl hlen (a + z) 1 (by omega) k hk
    rw [if_pos (by omega)] at e
    have e' : rd_look k (packS l) (l.length : Int) ((a : Int) + (z : Int)) false 1 = _ := e
    rw [if_pos ⟨by omega, by omega⟩, e', Option.bind_some, Int.toNat_natCast]
    rfl
  · rw [if_neg h, if_neg h]
    simp only [Got]
    have e := rd_look_bad l hl hlen a 1 (by omega) k hk
    have e' : rd_look k (packS l) (l.length : Int) (a : Int) true 1 = _ := e
    rw [if_pos ⟨by omega, by omega⟩, e', Option.bind_some]
    exact ⟨_, a, rfl⟩
theorem gamma_got (l : List Int) (hl : IsBits l) (hlen : l.length ≤ 6000) (a : Nat) (ha : a ≤ l.length) (k : Nat) (hk : 7000 ≤ k) : Got (rd_gamma k (packS l) (l.length : Int) (a : Int) false) a (gammaR (l.drop a)) := by
  have hr := zerosL_range (l.drop a)
  unfold rd_gamma
  rw [rd_zeros_eq l hl hlen a ha _ k hk, Option.bind_some]
  unfold gammaR
  have hd : ∀ z : Nat, (l.drop a).drop z = l.drop (a + z) := fun z => by rw [List.drop_drop]
  rw [hd, List.length_drop]
  rw [List.length_drop] at hr
  generalize zerosL (l.drop a) = z at *
  by_cases h : 0 ≤ z ∧ z ≤ 30
  · rw [if_pos h]
    obtain ⟨z, rfl⟩ := Int.eq_ofNat_of_zero_le h.1
    have e := rd_look_eq l hl hlen (a + z) (z + 1) (by omega) k hk
    have e' : rd_look k (packS l) (l.length : Int) ((a : Int) + (z : Int)) false ((z : Int) + 1) = _ := e
    simp only [Int.toNat_natCast]
    rw [if_pos ⟨by omega, by omega⟩, e']
    by_cases h2 : 2 * z + 1 ≤ l.length - a
    · rw [if_pos (show a + z + (z + 1) ≤ l.length by omega), if_pos ⟨h.1, h.2, h2⟩]
      simp only [Got]
      rw [show a + z + (z + 1) = a + (2 * z + 1) by omega]
    · rw [if_neg (show ¬ (a + z + (z + 1) ≤ l.length) by omega), if_neg (fun h => h2 h.2.2)]
      exact ⟨_, a + z, rfl⟩
  · have hn : ¬ (0 ≤ z ∧ z ≤ 30 ∧ 2 * z.toNat + 1 ≤ l.length - a) := fun h2 => h ⟨h2.1, h2.2.1⟩
    rw [if_neg h, if_neg hn]
    have e := rd_look_bad l hl hlen a 1 (by omega) k hk
    have e' : rd_look k (packS l) (l.length : Int) (a : Int) true (0 + 1) = _ := e
    rw [if_pos ⟨by omega, by omega⟩, e']
    exact ⟨_, a, rfl⟩
theorem IsBits.drop' {l : List Int} (h : IsBits l) (n : Nat) : IsBits (l.drop n) := fun x hx => h x (List.mem_of_mem_drop hx)
theorem IsBits.take' {l : List Int} (h : IsBits l) (n : Nat) : IsBits (l.take n) := fun x hx => h x (List.mem_of_mem_take hx)
theorem gamma_facts (r : List Int) (hr : IsBits r) (g : Int) (c : Nat) (h : gammaR r = some (g, c)) : 1 ≤ g ∧ g < 2147483648 ∧ c ≤ r.length := by
  unfold gammaR at h
  split at h
  · rename_i hc
    simp only [Option.some.injEq, Prod.mk.injEq] at h
    obtain ⟨rfl, rfl⟩ := h
    obtain ⟨q, hq⟩ := zerosL_split r hc.1 hr
    generalize hz : (zerosL r).toNat = z at *
    have hz30 : z ≤ 30 := by omega
    have e1 : r.drop z = 1 :: q := by
      rw [hq, List.drop_append_of_le_length (by simp), List.drop_of_length_le (by simp), List.nil_append]
    have hqb : IsBits q := fun x hx => hr x (by rw [hq]; simp [hx])
    rw [e1, List.take_succ_cons, numL_cons]
    have hb := numL_range (IsBits.take' hqb z)
    have hl : (q.take z).length ≤ z := by rw [List.length_take]; omega
    generalize (q.take z).length = m at *
    have hm := Nat.pow_le_pow_right (n := 2) (by decide) (show m ≤ 30 by omega)
    have hm1 : ((2 ^ m : Nat) : Int) ≤ ((2 ^ 30 : Nat) : Int) := by exact_mod_cast hm
    have hm0 : 0 < 2 ^ m := Nat.pow_pos (by decide)
    have hcast : ((2 ^ m : Nat) : Int) = (2 : Int) ^ m := Int.natCast_pow 2 m
    rw [← hcast] at hb ⊢
    refine ⟨by omega, by omega, by omega⟩
  · cases h
def deltaR (r : List Int) : Option (Int × Nat) := (gammaR r).bind fun q =>
  if q.1 - 1 ≤ 30 ∧ q.2 + (q.1 - 1).toNat ≤ r.length then some (2 ^ (q.1 - 1).toNat + numL ((r.drop q.2).take (q.1 - 1).toNat), q.2 + (q.1 - 1).toNat) else none
theorem or_high (m : Nat) (hm : m ≤ 30) (v : Int) (h0 : 0 ≤ v) (h1 : v < 2 ^ m) : Go.bits .or .i64 (IntKind.i64.wrap (2 ^ m)) v = 2 ^ m + v := by
  have hp := pow_le30 (m : Int) (by omega) (by omega)
  rw [Int.toNat_natCast] at hp
  have hw : IntKind.i64.wrap (2 ^ m) = 2 ^ m := wraps_i64 _ (by omega) (by omega)
  rw [hw, bits_join .i64 63 (by decide) wraps_i64 m (2 ^ m) v (by omega) (Int.emod_self) (by omega) h0 h1 (by omega)]
theorem delta_got (l : List Int) (hl : IsBits l) (hlen : l.length ≤ 6000) (a : Nat) (ha : a ≤ l.length) (k : Nat) (hk : 7000 ≤ k) : Got (rd_delta k (packS l) (l.length : Int) (a : Int) false) a (deltaR (l.drop a)) := by
  have hg := gamma_got l hl hlen a ha k hk
  unfold rd_delta deltaR
  cases hgr : gammaR (l.drop a) with
  | none =>
    rw [hgr] at hg
    obtain ⟨v, a', e⟩ := hg
    rw [e, Option.bind_some, if_pos rfl, Option.bind_none]
    exact ⟨_, a', rfl⟩
  | some q =>
    obtain ⟨g, c⟩ := q
    rw [hgr] at hg
    simp only [Got] at hg
    obtain ⟨g1, g2, g3⟩ := gamma_facts _ (IsBits.drop' hl a) g c hgr
    rw [List.length_drop] at g3
    rw [hg, Option.bind_some, if_neg (by simp), Option.bind_some]
    simp only
    by_cases h30 : 30 < g - 1
    · rw [if_pos h30, if_pos (by omega), if_neg (fun h => by omega)]
      exact ⟨_, a + c, rfl⟩
    · rw [if_neg h30, if_pos (by omega)]
      obtain ⟨m, hm⟩ := Int.eq_ofNat_of_zero_le (show 0 ≤ g - 1 by omega)
      have hgn : g.toNat - 1 = m := by omega
      rw [hm, hgn, Int.toNat_natCast, List.drop_drop, List.length_drop]
      have e := rd_look_eq l hl hlen (a + c) m (by omega) k hk
      rw [e, Option.bind_some]
      by_cases h2 : a + c + m ≤ l.length
      · rw [if_pos h2, if_pos ⟨by omega, by omega⟩]
        have hb := numL_range (IsBits.take' (IsBits.drop' hl (a + c)) m)
        rw [List.length_take, List.length_drop, Nat.min_eq_left (by omega)] at hb
        simp only [Got]
        rw [or_high m (by omega) _ hb.1 hb.2, show a + c + m = a + (c + m) by omega]
      · rw [if_neg h2, if_neg (fun h => by omega)]
        exact ⟨_, a + c, rfl⟩
def zetaR (kk most : Int) (r : List Int) : Option (Int × Nat) := (unaryR most r).bind fun u => (code_zeta.f kk (u.1 - 1)).bind fun q =>
  if u.2 + (q.2.2.1 - 1).toNat ≤ r.length then
    (if numL ((r.drop u.2).take (q.2.2.1 - 1).toNat) < q.2.2.2 then some (q.1 + numL ((r.drop u.2).take (q.2.2.1 - 1).toNat), u.2 + (q.2.2.1 - 1).toNat)
    else if u.2 + (q.2.2.1 - 1).toNat + 1 ≤ r.length then some (q.1 + (numL ((r.drop u.2).take (q.2.2.1 - 1).toNat) * 2 + numL ((r.drop (u.2 + (q.2.2.1 - 1).toNat)).take 1) - q.2.2.2), u.2 + (q.2.2.1 - 1).toNat + 1) else none)
  else none
theorem zeta_got (kk : Nat) (most : Int) (hm0 : 1 ≤ most) (hm1 : most ≤ 16) (hz : ∀ h : Nat, (h : Int) ≤ most - 1 → ∃ low many size short : Int, code_zeta.f (kk : Int) (h : Int) = some (low, many, size, short) ∧ 0 ≤ low ∧ low ≤ 4294967296 ∧ 1 ≤ size ∧ size ≤ 33 ∧ 0 ≤ short ∧ short ≤ 4294967296)
    (l : List Int) (hl : IsBits l) (hlen : l.length ≤ 6000) (a : Nat) (ha : a ≤ l.length) (k : Nat) (hk : 7000 ≤ k) : Got (rd_zeta (kk : Int) most k (packS l) (l.length : Int) (a : Int) false) a (zetaR (kk : Int) most (l.drop a)) := by
  have hu := unary_got l hl hlen a ha most hm0 (by omega) k hk
  have hr := zerosL_range (l.drop a)
  rw [List.length_drop] at hr
  unfold rd_zeta zetaR
  cases hur : unaryR most (l.drop a) with
  | none =>
    rw [hur] at hu
    obtain ⟨v, a', e⟩ := hu
    rw [e, Option.bind_some, if_pos rfl, Option.bind_none]
    exact ⟨_, a', rfl⟩
  | some q =>
    obtain ⟨u, c⟩ := q
    rw [hur] at hu
    simp only [Got] at hu
    have hc : 1 ≤ u ∧ u ≤ most ∧ a + c ≤ l.length := by
      unfold unaryR at hur
      split at hur
      · simp only [Option.some.injEq, Prod.mk.injEq] at hur
        omega
      · cases hur
    obtain ⟨h, hh⟩ := Int.eq_ofNat_of_zero_le (show 0 ≤ u - 1 by omega)
    obtain ⟨low, many, size, short, e, z1, z2, z3, z4, z5, z6⟩ := hz h (by omega)
    rw [hu, Option.bind_some, if_neg (by simp), Option.bind_some]
    simp only
    rw [if_pos ⟨by omega, by omega⟩, hh, e, Option.bind_some, Option.bind_some]
    simp only
    rw [if_pos ⟨z1, z2, z3, by omega, z5, z6⟩]
    obtain ⟨m, hm⟩ := Int.eq_ofNat_of_zero_le (show 0 ≤ size - 1 by omega)
    rw [hm, Int.toNat_natCast, List.drop_drop, List.drop_drop, List.length_drop, rd_look_eq l hl hlen (a + c) m (by omega) k hk, Option.bind_some]
    by_cases h2 : a + c + m ≤ l.length
    · rw [if_pos h2, if_pos (show c + m ≤ l.length - a by omega)]
      have hb := numL_range (IsBits.take' (IsBits.drop' hl (a + c)) m)
      rw [List.length_take, List.length_drop, Nat.min_eq_left (by omega)] at hb
      have hpw := Nat.pow_le_pow_right (n := 2) (by decide) (show m ≤ 32 by omega)
      have hpc : ((2 ^ m : Nat) : Int) = (2 : Int) ^ m := Int.natCast_pow 2 m
      rw [← hpc] at hb
      generalize numL ((l.drop (a + c)).take m) = z at *
      simp only
      rw [if_pos ⟨by omega, by omega⟩]
      by_cases h3 : z < short
      · rw [if_pos h3, if_pos h3]
        simp only [Got]
        rw [show a + c + m = a + (c + m) by omega]
      · rw [if_neg h3, if_neg h3]
        have e1 := rd_look_eq l hl hlen (a + c + m) 1 (by omega) k hk
        have e1' : rd_look k (packS l) (l.length : Int) ((a + c + m : Nat) : Int) false 1 = _ := e1
        rw [e1', Option.bind_some]
        by_cases h4 : a + c + m + 1 ≤ l.length
        · rw [if_pos h4, if_pos (show c + m + 1 ≤ l.length - a by omega)]
          have hb1 := numL_range (IsBits.take' (IsBits.drop' hl (a + c + m)) 1)
          rw [List.length_take, List.length_drop, Nat.min_eq_left (by omega)] at hb1
          rw [show a + (c + m) = a + c + m by omega]
          generalize numL ((l.drop (a + c + m)).take 1) = y at *
          simp only [Got]
          rw [if_pos ⟨by omega, by omega⟩, show a + c + m + 1 = a + (c + m + 1) by omega]
        · rw [if_neg h4, if_neg (show ¬ (c + m + 1 ≤ l.length - a) by omega), if_pos ⟨by omega, by omega⟩]
          exact ⟨_, a + c + m, rfl⟩
    · rw [if_neg h2, if_neg (show ¬ (c + m ≤ l.length - a) by omega)]
      have e1 := rd_look_bad l hl hlen (a + c) 1 (by omega) k hk
      have e1' : rd_look k (packS l) (l.length : Int) ((a + c : Nat) : Int) true 1 = _ := e1
      simp only
      rw [if_pos ⟨by omega, by omega⟩, e1', Option.bind_some]
      split
      · exact ⟨_, a + c, rfl⟩
      · rw [if_pos ⟨by omega, by omega⟩]
        exact ⟨_, a + c, rfl⟩
end Go.Proofs.Ytnpghcikhpglkaa.Pb
namespace Go.Proofs.Ytnpghcikhpglkaa.Pb
open Go.RowKit Go.Proofs.YtnpghcikhpglkaaW.PrintWords Go.Proofs.YtnpghcikhpglkaaW.PrintLast Go.Proofs.YtnpghcikhpglkaaW.PrintMore Go.Proofs.Ytnpghcikhpglkaa.Hand Go.Proofs.Ytnpghcikhpglkaa.Pu Go.Proofs.Ytnpghcikhpglkaa.Q
set_option linter.unusedVariables false
set_option linter.unusedSimpArgs false
/-- The rest's first code of a kind. -/
def ReadL (kind : Int) (r : List Int) : Option (Int × Nat) :=
  if kind = 1 then unaryR 1000 r else if kind = 2 then gammaR r else if kind = 3 then deltaR r else if kind = 4 then zetaR 2 16 r else zetaR 3 11 r
theorem zt2' (h : Nat) (hh : (h : Int) ≤ 16 - 1) : ∃ low many size short : Int, code_zeta.f ((2 : Nat) : Int) (h : Int) = some (low, many, size, short) ∧ 0 ≤ low ∧ low ≤ 4294967296 ∧ 1 ≤ size ∧ size ≤ 33 ∧ 0 ≤ short ∧ short ≤ 4294967296 := by
  obtain ⟨low, many, size, short, e, e1, e2, e3, e4, e5, e6, e7⟩ := zt_facts (zt2 ⟨h, by omega⟩)
  have hb : ∀ h : Fin 16, (Option.any (fun q : Int × Int × Int × Int => Nat.ble q.2.2.1.toNat 33) (code_zeta.f ((2 : Nat) : Int) (h.val : Int))) = true := by decide +kernel
  have hb2 := hb ⟨h, by omega⟩
  simp only at e e1 hb2
  rw [e] at hb2
  have hb3 : size.toNat ≤ 33 := Nat.le_of_ble_eq_true hb2
  have hp := Nat.pow_le_pow_right (n := 2) (by decide) (show h * 2 ≤ 32 by omega)
  have hp0 : 0 < 2 ^ (h * 2) := Nat.pow_pos (by decide)
  exact ⟨low, many, size, short, e, by omega, by omega, e3, by omega, e5, by omega⟩
theorem zt3' (h : Nat) (hh : (h : Int) ≤ 11 - 1) : ∃ low many size short : Int, code_zeta.f ((3 : Nat) : Int) (h : Int) = some (low, many, size, short) ∧ 0 ≤ low ∧ low ≤ 4294967296 ∧ 1 ≤ size ∧ size ≤ 33 ∧ 0 ≤ short ∧ short ≤ 4294967296 := by
  obtain ⟨low, many, size, short, e, e1, e2, e3, e4, e5, e6, e7⟩ := zt_facts (zt3 ⟨h, by omega⟩)
  have hb : ∀ h : Fin 11, (Option.any (fun q : Int × Int × Int × Int => Nat.ble q.2.2.1.toNat 33) (code_zeta.f ((3 : Nat) : Int) (h.val : Int))) = true := by decide +kernel
  have hb2 := hb ⟨h, by omega⟩
  simp only at e e1 hb2
  rw [e] at hb2
  have hb3 : size.toNat ≤ 33 := Nat.le_of_ble_eq_true hb2
  have hp := Nat.pow_le_pow_right (n := 2) (by decide) (show h * 3 ≤ 32 by omega)
  have hp0 : 0 < 2 ^ (h * 3) := Nat.pow_pos (by decide)
  exact ⟨low, many, size, short, e, by omega, by omega, e3, by omega, e5, by omega⟩
theorem read_got (l : List Int) (hl : IsBits l) (hlen : l.length ≤ 6000) (a : Nat) (ha : a ≤ l.length) (kind : Int) (hk1 : 1 ≤ kind) (hk5 : kind ≤ 5) (k : Nat) (hk : 7000 ≤ k) : Got (readK k (packS l) (l.length : Int) (a : Int) kind) a (ReadL kind (l.drop a)) := by
  have hkk : kind = 1 ∨ kind = 2 ∨ kind = 3 ∨ kind = 4 ∨ kind = 5 := by omega
  unfold readK ReadL
  rcases hkk with rfl | rfl | rfl | rfl | rfl
  · rw [if_pos rfl, if_pos rfl]; exact unary_got l hl hlen a ha 1000 (by omega) (by omega) k hk
  · rw [if_neg (by decide), if_pos rfl, if_neg (by decide), if_pos rfl]; exact gamma_got l hl hlen a ha k hk
  · rw [if_neg (by decide), if_neg (by decide), if_pos rfl, if_neg (by decide), if_neg (by decide), if_pos rfl]; exact delta_got l hl hlen a ha k hk
  · rw [if_neg (by decide), if_neg (by decide), if_neg (by decide), if_pos rfl, if_neg (by decide), if_neg (by decide), if_neg (by decide), if_pos rfl]
    exact zeta_got 2 16 (by omega) (by omega) zt2' l hl hlen a ha k hk
  · rw [if_neg (by decide), if_neg (by decide), if_neg (by decide), if_neg (by decide), if_pos rfl, if_neg (by decide), if_neg (by decide), if_neg (by decide), if_neg (by decide)]
    exact zeta_got 3 11 (by omega) (by omega) zt3' l hl hlen a ha k hk
/-- code.Read's answer. -/
def readR (kind : Int) (l : List Int) (a : Nat) : Int × Int × Bool := match ReadL kind (l.drop a) with
  | some (v, c) => if 1073741824 < v then (0, 0, false) else (v, ((a + c : Nat) : Int), true)
  | none => (0, 0, false)
theorem read_eq (l : List Int) (hl : IsBits l) (hlen : l.length ≤ 6000) (a : Nat) (ha : a ≤ l.length) (kind : Int) (hk1 : 1 ≤ kind) (hk5 : kind ≤ 5) : code_Read.f (packS l) (l.length : Int) (a : Int) kind = some (readR kind l a) := by
  have hg := read_got l hl hlen a ha kind hk1 hk5 rounds (by unfold rounds; omega)
  unfold code_Read.f readR
  cases hr : ReadL kind (l.drop a) with
  | none =>
    rw [hr] at hg
    obtain ⟨v, a', e⟩ := hg
    rw [e, Option.bind_some, if_pos rfl]
  | some q =>
    obtain ⟨v, c⟩ := q
    rw [hr] at hg
    simp only [Got] at hg
    rw [hg, Option.bind_some, if_neg (by simp)]
    simp only
    split <;> rfl
end Go.Proofs.Ytnpghcikhpglkaa.Pb
namespace Go.Proofs.Ytnpghcikhpglkaa.Pb
open Go.RowKit Go.Proofs.YtnpghcikhpglkaaW.PrintWords Go.Proofs.YtnpghcikhpglkaaW.PrintLast Go.Proofs.YtnpghcikhpglkaaW.PrintMore Go.Proofs.Ytnpghcikhpglkaa.Hand Go.Proofs.Ytnpghcikhpglkaa.Pu Go.Proofs.Ytnpghcikhpglkaa.Q
set_option linter.unusedVariables false
set_option linter.unusedSimpArgs false
theorem unaryL_eq (n : Int) : unaryL n = List.replicate (n - 1).toNat 0 ++ [1] := by
  unfold unaryL; rw [putL_zero]; rfl
theorem unary_read (most n : Int) (h1 : 1 ≤ n) (h2 : n ≤ most) (r : List Int) : unaryR most (unaryL n ++ r) = some (n, (unaryL n).length) := by
  obtain ⟨m, hm⟩ := Int.eq_ofNat_of_zero_le (show 0 ≤ n - 1 by omega)
  rw [unaryL_length n h1, unaryL_eq, hm, Int.toNat_natCast, List.append_assoc, List.singleton_append]
  unfold unaryR
  rw [zerosL_rep, if_pos ⟨by omega, by omega⟩, Int.toNat_natCast, show m + 1 = n.toNat by omega, show (m : Int) + 1 = n by omega]
theorem gamma_read (n : Int) (h1 : 1 ≤ n) (h2 : n ≤ 1073741824) (r : List Int) : gammaR (gammaL n ++ r) = some (n, (gammaL n).length) := by
  obtain ⟨_, g0, g1, g2, g3⟩ := lg_facts n h1 h2
  have hlen := gammaL_length n
  obtain ⟨g, hg⟩ := Int.eq_ofNat_of_zero_le g0
  have e : gammaL n = List.replicate g 0 ++ putL (g + 1) n := by
    unfold gammaL
    rw [hg, putL_zero, Int.toNat_natCast, show ((g : Int) + 1).toNat = g + 1 by omega]
  rw [hg, Int.toNat_natCast] at g2 g3
  rw [hg, Int.toNat_natCast, show ((g : Int) + 1).toNat = g + 1 by omega] at hlen
  have hp : (0 : Int) < 2 ^ g := Int.pow_pos (by decide)
  have hs : (2 : Int) ^ (g + 1) = 2 ^ g * 2 := Int.pow_succ 2 g
  have hd : n / 2 ^ g = 1 := by
    rw [Int.ediv_eq_iff_of_pos hp]
    omega
  have e1 : putL (g + 1) n = 1 :: putL g n := by rw [putL, hd]; rfl
  have e2 : gammaL n ++ r = List.replicate g 0 ++ 1 :: (putL g n ++ r) := by rw [e, e1]; simp
  have hz : zerosL (gammaL n ++ r) = (g : Int) := by rw [e2, zerosL_rep]
  have hdr : ((gammaL n ++ r).drop g).take (g + 1) = putL (g + 1) n := by
    rw [e, List.append_assoc, List.drop_append_of_le_length (by simp), List.drop_of_length_le (by simp), List.nil_append, List.take_append_of_le_length (by rw [putL_length]; omega), List.take_of_length_le (by rw [putL_length]; omega)]
  unfold gammaR
  rw [hz, Int.toNat_natCast, if_pos ⟨by omega, by omega, by rw [List.length_append, hlen]; omega⟩, hdr, numL_putL_lt (g + 1) n (by omega) g3, hlen, show 2 * g + 1 = g + (g + 1) by omega]
theorem delta_read (n : Int) (h1 : 1 ≤ n) (h2 : n ≤ 1073741824) (r : List Int) : deltaR (deltaL n ++ r) = some (n, (deltaL n).length) := by
  obtain ⟨_, g0, g1, g2, g3⟩ := lg_facts n h1 h2
  obtain ⟨g, hg⟩ := Int.eq_ofNat_of_zero_le g0
  have e : deltaL n = gammaL ((g : Int) + 1) ++ putL g n := by unfold deltaL; rw [hg, Int.toNat_natCast]
  rw [hg, Int.toNat_natCast] at g2 g3
  have hp : (0 : Int) < 2 ^ g := Int.pow_pos (by decide)
  have hs : (2 : Int) ^ (g + 1) = 2 ^ g * 2 := Int.pow_succ 2 g
  have hm : n % 2 ^ g = n - 2 ^ g := by
    rw [← Int.emod_eq_of_lt (a := n - 2 ^ g) (b := 2 ^ g) (by omega) (by omega), Int.sub_emod_right]
  unfold deltaR
  rw [e, List.append_assoc, gamma_read ((g : Int) + 1) (by omega) (by omega), Option.bind_some]
  simp only
  have hd : ((gammaL ((g : Int) + 1) ++ (putL g n ++ r)).drop (gammaL ((g : Int) + 1)).length).take g = putL g n := by
    rw [List.drop_left, List.take_append_of_le_length (by rw [putL_length]; omega), List.take_of_length_le (by rw [putL_length]; omega)]
  rw [show (g : Int) + 1 - 1 = (g : Int) by omega, Int.toNat_natCast, hd, if_pos ⟨by omega, by simp only [List.length_append, putL_length]; omega⟩, numL_putL g n (by omega), hm, List.length_append, putL_length, show (2 : Int) ^ g + (n - 2 ^ g) = n by omega]
end Go.Proofs.Ytnpghcikhpglkaa.Pb
namespace Go.Proofs.Ytnpghcikhpglkaa.Pb
open Go.RowKit Go.Proofs.YtnpghcikhpglkaaW.PrintWords Go.Proofs.YtnpghcikhpglkaaW.PrintLast Go.Proofs.YtnpghcikhpglkaaW.PrintMore Go.Proofs.Ytnpghcikhpglkaa.Hand Go.Proofs.Ytnpghcikhpglkaa.Pu Go.Proofs.Ytnpghcikhpglkaa.Q
set_option linter.unusedVariables false
set_option linter.unusedSimpArgs false
theorem putL_last (m : Nat) : ∀ v : Int, putL (m + 1) v = putL m (v / 2) ++ [v % 2] := by
  induction m with
  | zero => intro v; simp [putL]
  | succ m ih =>
    intro v
    have e : v / 2 ^ (m + 1) = v / 2 / 2 ^ m := by
      rw [Int.pow_succ, Int.mul_comm, ← Int.ediv_ediv_of_nonneg (by decide)]
    rw [putL, ih v, putL, e]
    rfl
def manyOk (kk h : Nat) : Bool := Option.any (fun q : Int × Int × Int × Int => Nat.blt (2 ^ (q.2.2.1.toNat - 1)) q.2.1.toNat) (code_zeta.f (kk : Int) (h : Int))
theorem many2 : ∀ h : Fin 16, manyOk 2 h.val = true := by decide +kernel
theorem many3 : ∀ h : Fin 11, manyOk 3 h.val = true := by decide +kernel
theorem zeta_read (kk h : Nat) (most n : Int) (hk : 1 ≤ kk) (h1 : 1 ≤ n) (h2 : n ≤ 1073741824) (hh : Int.tdiv (lg n) (kk : Int) = (h : Int)) (hmost : (h : Int) + 1 ≤ most) (ho : ztOk kk h = true) (hm : manyOk kk h = true) (hhi : n < ((2 ^ (h * kk + kk) : Nat) : Int)) (hlo : ((2 ^ (h * kk) : Nat) : Int) ≤ n) (r : List Int) :
    zetaR (kk : Int) most (zetaL (kk : Int) n ++ r) = some (n, (zetaL (kk : Int) n).length) := by
  obtain ⟨low, many, size, short, e, e1, e2, e3, e4, e5, e6, e7⟩ := zt_facts ho
  unfold manyOk at hm
  rw [e] at hm
  have hm2 : 2 ^ (size.toNat - 1) < many.toNat := by simpa using hm
  obtain ⟨m, hsz⟩ := Int.eq_ofNat_of_zero_le (show 0 ≤ size - 1 by omega)
  have hsz2 : size.toNat = m + 1 := by omega
  rw [hsz2] at e6 hm2
  have hpow : 2 ^ (m + 1) = 2 ^ m * 2 := Nat.pow_succ 2 m
  simp only [Nat.add_sub_cancel] at hm2
  have hc : ((2 ^ m : Nat) : Int) = (2 : Int) ^ m := Int.natCast_pow 2 m
  have hz : zetaL (kk : Int) n = unaryL ((h : Int) + 1) ++ (if n - low < short then putL (size - 1).toNat (n - low) else putL size.toNat (n - low + short)) := by
    unfold zetaL; rw [hh, e]
  rw [hz, hsz, hsz2, Int.toNat_natCast]
  by_cases hx : n - low < short
  · rw [if_pos hx, List.append_assoc]
    unfold zetaR
    rw [unary_read most ((h : Int) + 1) (by omega) hmost, Option.bind_some]
    simp only
    rw [show (h : Int) + 1 - 1 = (h : Int) by omega, e, Option.bind_some]
    simp only
    rw [hsz, Int.toNat_natCast, List.drop_left, List.take_append_of_le_length (by rw [putL_length]; omega), List.take_of_length_le (by rw [putL_length]; omega), if_pos (by simp only [List.length_append, putL_length]; omega), numL_putL_lt m (n - low) (by omega) (by rw [← hc]; omega), if_pos hx, List.length_append, putL_length, show low + (n - low) = n by omega]
  · rw [if_neg hx, List.append_assoc]
    unfold zetaR
    rw [unary_read most ((h : Int) + 1) (by omega) hmost, Option.bind_some]
    simp only
    rw [show (h : Int) + 1 - 1 = (h : Int) by omega, e, Option.bind_some]
    simp only
    rw [putL_last]
    have hv : (n - low + short) / 2 < ((2 ^ m : Nat) : Int) := by omega
    rw [hsz, Int.toNat_natCast, List.drop_left, List.append_assoc, List.take_append_of_le_length (by rw [putL_length]; omega), List.take_of_length_le (by rw [putL_length]; omega), if_pos (by simp only [List.length_append, putL_length]; omega), numL_putL_lt m _ (by omega) (by rw [← hc]; exact hv), if_neg (by omega), if_pos (by simp only [List.length_append, putL_length, List.length_singleton]; omega)]
    have hd : ((unaryL ((h : Int) + 1) ++ (putL m ((n - low + short) / 2) ++ ([(n - low + short) % 2] ++ r))).drop ((unaryL ((h : Int) + 1)).length + m)).take 1 = [(n - low + short) % 2] := by
      rw [← List.drop_drop, List.drop_left]
      have := List.drop_left (l₁ := putL m ((n - low + short) / 2)) (l₂ := [(n - low + short) % 2] ++ r)
      rw [putL_length] at this
      rw [this]; rfl
    rw [hd, List.length_append, List.length_append, putL_length]
    have hn : numL [(n - low + short) % 2] = (n - low + short) % 2 := by simp [numL]
    rw [hn, show low + ((n - low + short) / 2 * 2 + (n - low + short) % 2 - short) = n by omega]
    rfl
theorem lg_high {n : Int} {h kk : Nat} (h0 : 1 ≤ n) (h1 : n ≤ 1073741824) (hh : (h : Int) = lg n / (kk : Int)) (hk : 1 ≤ kk) : n < ((2 ^ (h * kk + kk) : Nat) : Int) := by
  obtain ⟨_, g0, g1, g2, g3⟩ := lg_facts n h0 h1
  obtain ⟨g, hg⟩ := Int.eq_ofNat_of_zero_le g0
  rw [hg] at hh g3
  rw [Int.toNat_natCast] at g3
  have hh' : h = g / kk := by exact_mod_cast hh
  have hle : g + 1 ≤ h * kk + kk := by
    have := Nat.lt_div_mul_add (a := g) (b := kk) (by omega)
    rw [hh']; omega
  have := Nat.pow_le_pow_right (n := 2) (by decide) hle
  have h2 : ((2 ^ (g + 1) : Nat) : Int) ≤ ((2 ^ (h * kk + kk) : Nat) : Int) := by exact_mod_cast this
  have h3 : ((2 ^ (g + 1) : Nat) : Int) = (2 : Int) ^ (g + 1) := Int.natCast_pow 2 (g + 1)
  rw [h3] at h2
  exact Int.lt_of_lt_of_le g3 h2
theorem read_lay (kind n : Int) (hk1 : 1 ≤ kind) (hk5 : kind ≤ 5) (h1 : 1 ≤ n) (h2 : n ≤ 1073741824) (h3 : kind = 1 → n ≤ 1000) (r : List Int) : ReadL kind (layL kind n ++ r) = some (n, (layL kind n).length) := by
  obtain ⟨_, g0, g1, _, _⟩ := lg_facts n h1 h2
  have hkk : kind = 1 ∨ kind = 2 ∨ kind = 3 ∨ kind = 4 ∨ kind = 5 := by omega
  unfold ReadL layL
  rcases hkk with rfl | rfl | rfl | rfl | rfl
  · rw [if_pos rfl, if_pos rfl]; exact unary_read 1000 n h1 (h3 rfl) r
  · rw [if_neg (by decide), if_pos rfl, if_neg (by decide), if_pos rfl]; exact gamma_read n h1 h2 r
  · rw [if_neg (by decide), if_neg (by decide), if_pos rfl, if_neg (by decide), if_neg (by decide), if_pos rfl]; exact delta_read n h1 h2 r
  · rw [if_neg (by decide), if_neg (by decide), if_neg (by decide), if_pos rfl, if_neg (by decide), if_neg (by decide), if_neg (by decide), if_pos rfl]
    obtain ⟨h, hh⟩ := Int.eq_ofNat_of_zero_le (show 0 ≤ lg n / 2 by omega)
    exact zeta_read 2 h 16 n (by omega) h1 h2 (by rw [Int.tdiv_eq_ediv_of_nonneg g0]; exact hh) (by omega) (zt2 ⟨h, by omega⟩) (many2 ⟨h, by omega⟩) (lg_high h1 h2 hh.symm (by omega)) (low_le h1 h2 hh.symm (by omega)) r
  · rw [if_neg (by decide), if_neg (by decide), if_neg (by decide), if_neg (by decide), if_neg (by decide), if_neg (by decide), if_neg (by decide), if_neg (by decide)]
    obtain ⟨h, hh⟩ := Int.eq_ofNat_of_zero_le (show 0 ≤ lg n / 3 by omega)
    exact zeta_read 3 h 11 n (by omega) h1 h2 (by rw [Int.tdiv_eq_ediv_of_nonneg g0]; exact hh) (by omega) (zt3 ⟨h, by omega⟩) (many3 ⟨h, by omega⟩) (lg_high h1 h2 hh.symm (by omega)) (low_le h1 h2 hh.symm (by omega)) r
end Go.Proofs.Ytnpghcikhpglkaa.Pb
namespace Go.Proofs.Ytnpghcikhpglkaa.Pb
open Go.RowKit Go.Proofs.YtnpghcikhpglkaaW.PrintWords Go.Proofs.YtnpghcikhpglkaaW.PrintLast Go.Proofs.YtnpghcikhpglkaaW.PrintMore Go.Proofs.Ytnpghcikhpglkaa.Hand Go.Proofs.Ytnpghcikhpglkaa.Pu Go.Proofs.Ytnpghcikhpglkaa.Q
set_option linter.unusedVariables false
set_option linter.unusedSimpArgs false
theorem gammaL_bits (n : Int) : IsBits (gammaL n) := by unfold gammaL; exact IsBits.append (putL_bits _ _) (putL_bits _ _)
theorem lg_mono (a b : Int) (h1 : 1 ≤ a) (h : a ≤ b) (h2 : b ≤ 1073741824) : lg a ≤ lg b := by
  obtain ⟨_, a0, _, a2, a3⟩ := lg_facts a h1 (by omega)
  obtain ⟨_, b0, _, b2, b3⟩ := lg_facts b (by omega) h2
  refine Int.not_lt.1 fun hc => ?_
  have hle : (lg b).toNat + 1 ≤ (lg a).toNat := by omega
  have hp := Nat.pow_le_pow_right (n := 2) (by decide) hle
  have hp' : ((2 ^ ((lg b).toNat + 1) : Nat) : Int) ≤ ((2 ^ (lg a).toNat : Nat) : Int) := by exact_mod_cast hp
  rw [Int.natCast_pow, Int.natCast_pow] at hp'
  have e2 : ((2 : Nat) : Int) = 2 := rfl
  rw [e2] at hp'
  omega
theorem gammaL_mono (a b : Int) (h1 : 1 ≤ a) (h : a ≤ b) (h2 : b ≤ 1073741824) : (gammaL a).length ≤ (gammaL b).length := by
  have := lg_mono a b h1 h h2
  rw [gammaL_length, gammaL_length]; omega
theorem read_good (kind : Int) (l : List Int) (a c : Nat) (n : Int) (hr : ReadL kind (l.drop a) = some (n, c)) (hn : n ≤ 1073741824) : readR kind l a = (n, ((a + c : Nat) : Int), true) := by
  unfold readR
  rw [hr]
  simp only
  rw [if_neg (by omega)]
end Go.Proofs.Ytnpghcikhpglkaa.Pb
namespace Go.Proofs.Ytnpghcikhpglkaa.Pb
open Go.RowKit Go.Proofs.YtnpghcikhpglkaaW.PrintWords Go.Proofs.YtnpghcikhpglkaaW.PrintLast Go.Proofs.YtnpghcikhpglkaaW.PrintMore Go.Proofs.Ytnpghcikhpglkaa.Hand Go.Proofs.Ytnpghcikhpglkaa.Pu Go.Proofs.Ytnpghcikhpglkaa.Q
set_option linter.unusedVariables false
set_option linter.unusedSimpArgs false
theorem gpieces_bits (v : Int) (l : List Int) : ∀ c, IsBits (gpieces v l c)
  | 0 => IsBits.nil
  | c + 1 => IsBits.append (gpieces_bits v l c) (gammaL_bits _)
theorem gapsL_bits (v : Int) (l : List Int) : IsBits (gapsL v l) := IsBits.append (gammaL_bits _) (gpieces_bits v l _)
theorem gapsL_len {v : Int} {l : List Int} (h : GMay l) (hv0 : 0 ≤ v) (hv : v < 16) : (gapsL v l).length ≤ 1100 := by
  have h1 := gpieces_len h hv0 hv l.length (Nat.le_refl _)
  have h2 := gmay_len h
  have h3 := gammaL_le (n := (l.length : Int) + 1) (by omega) (by omega)
  unfold gapsL
  rw [List.length_append]; omega
theorem gpieces_split (v : Int) (l : List Int) (i : Nat) : ∀ n, i < n → ∃ t, gpieces v l n = gpieces v l i ++ (gammaL (gnum v l i) ++ t)
  | 0, h => by omega
  | n + 1, h => by
    by_cases he : i = n
    · subst he; exact ⟨[], by simp [gpieces]⟩
    · obtain ⟨t, ht⟩ := gpieces_split v l i n (by omega)
      exact ⟨t ++ gammaL (gnum v l n), by rw [gpieces, ht]; simp⟩
/-- Where an element's bits begin, behind so many bits. -/
def gpos (a : Nat) (v : Int) (l : List Int) (i : Nat) : Nat := a + (gammaL ((l.length : Int) + 1)).length + (gpieces v l i).length
def glast (v : Int) (l : List Int) (i : Nat) : Int := if i = 0 then v else l.getD (i - 1) 0
theorem gpos_succ (a : Nat) (v : Int) (l : List Int) (i : Nat) : gpos a v l (i + 1) = gpos a v l i + (gammaL (gnum v l i)).length := by
  unfold gpos; simp only [gpieces, List.length_append]; omega
theorem unfoldG_eq (x : Int) (h0 : -1000 ≤ x) (h1 : x ≤ 1000) : code_Unfold.f (foldG x) = some x := by
  unfold code_Unfold.f foldG
  by_cases h : x < 0
  · rw [if_pos h, Int.tmod_eq_emod_of_nonneg (by omega), if_pos (by omega), wrap_in (-2 * x - 1 + 1) (by omega) (by omega), wrap_in (-(-2 * x - 1 + 1)) (by omega) (by omega), show -(-2 * x - 1 + 1) = 2 * x by omega, Int.mul_tdiv_cancel_left _ (by decide), wrap_in _ (by omega) (by omega)]
  · rw [if_neg h, Int.tmod_eq_emod_of_nonneg (by omega), if_neg (by omega), Int.mul_tdiv_cancel_left _ (by decide), wrap_in _ (by omega) (by omega)]
/-- An element's bits stand there. -/
def GAt (b : List Int) (a : Nat) (v : Int) (l : List Int) (i : Nat) : Prop := gpos a v l i ≤ b.length ∧ ReadL 2 (b.drop (gpos a v l i)) = some (gnum v l i, (gammaL (gnum v l i)).length)
theorem cread_good (b : List Int) (hb : IsBits b) (hlen : b.length ≤ 6000) (p c : Nat) (n : Int) (hp : p ≤ b.length) (hr : ReadL 2 (b.drop p) = some (n, c)) (hn : n ≤ 1073741824) : code_Read.f (packS b) (b.length : Int) (p : Int) 2 = some (n, ((p + c : Nat) : Int), true) := by
  rw [read_eq b hb hlen p hp 2 (by omega) (by omega), read_good 2 b p c n hr hn]
theorem gread_step (b : List Int) (hb : IsBits b) (hlen : b.length ≤ 6000) (a : Nat) (v : Int) (l : List Int) (hl : GMay l) (hv0 : 0 ≤ v) (hv : v < 16) (i : Nat) (hi : i < l.length) (hat : GAt b a v l i) (k : Nat) :
    gaps_Read.l0 (k + 1) (l.take i) (gpos a v l i : Int) (glast v l i) (l.length : Int) (i : Int) (packS b) (b.length : Int) =
    gaps_Read.l0 k (l.take (i + 1)) (gpos a v l (i + 1) : Int) (glast v l (i + 1)) (l.length : Int) ((i + 1 : Nat) : Int) (packS b) (b.length : Int) := by
  have hg := gnum_range hl hv0 hv i hi
  have h16 := gmay_len hl
  have hx := hl.1 i hi
  have hc := cread_good b hb hlen _ _ _ hat.1 hat.2 (by omega)
  have hsn : l.take i ++ [l.getD i 0] = l.take (i + 1) := by
    rw [List.take_succ_eq_append_getElem hi, List.getD_eq_getElem?_getD, List.getElem?_eq_getElem hi]; rfl
  have htl : (l.take i).length < 17592186044416 := by rw [List.length_take]; omega
  have hnext : glast v l (i + 1) = l.getD i 0 := by unfold glast; rw [if_neg (by omega), Nat.add_sub_cancel]
  rw [gaps_Read.l0, if_pos (by omega), hc, Option.bind_some]
  simp only
  rw [if_pos trivial, wrap_in ((i : Int) + 1) (by omega) (by omega), gpos_succ, hnext]
  by_cases h0 : i = 0
  · subst h0
    have hgn : gnum v l 0 = foldG (l.getD 0 0 - v) + 1 := by unfold gnum; rw [if_pos rfl]
    have hgl : glast v l 0 = v := by unfold glast; rw [if_pos rfl]
    have hfr := foldG_range (l.getD 0 0 - v) (by omega) (by omega)
    rw [if_pos (by omega), hgn, hgl, wrap_in (foldG (l.getD 0 0 - v) + 1 - 1) (by omega) (by omega), Int.add_sub_cancel, unfoldG_eq _ (by omega) (by omega), Option.bind_some, show v + (l.getD 0 0 - v) = l.getD 0 0 by omega, wrap_in (l.getD 0 0) (by omega) (by omega), gis_eq, decide_eq_true hx, Option.bind_some, if_pos rfl, if_pos htl, hsn]
    rfl
  · have hgn : gnum v l i = l.getD i 0 - l.getD (i - 1) 0 := by unfold gnum; rw [if_neg h0]
    have hgl : glast v l i = l.getD (i - 1) 0 := by unfold glast; rw [if_neg h0]
    rw [if_neg (by omega), hgn, hgl, show l.getD (i - 1) 0 + (l.getD i 0 - l.getD (i - 1) 0) = l.getD i 0 by omega, wrap_in (l.getD i 0) (by omega) (by omega), gis_eq, decide_eq_true hx, Option.bind_some, if_pos rfl, if_pos htl, hsn]
    rfl
theorem gread_run (b : List Int) (hb : IsBits b) (hlen : b.length ≤ 6000) (a : Nat) (v : Int) (l : List Int) (hl : GMay l) (hv0 : 0 ≤ v) (hv : v < 16) (j : Nat) (hj : j ≤ l.length) (hat : ∀ i, i < j → GAt b a v l i) : ∀ (d i : Nat), i + d = j → ∀ k,
    gaps_Read.l0 (k + d) (l.take i) (gpos a v l i : Int) (glast v l i) (l.length : Int) (i : Int) (packS b) (b.length : Int) =
    gaps_Read.l0 k (l.take j) (gpos a v l j : Int) (glast v l j) (l.length : Int) (j : Int) (packS b) (b.length : Int)
  | 0, i, hi, k => by obtain rfl : i = j := by omega
                      rfl
  | d + 1, i, hi, k => by
    rw [show k + (d + 1) = k + d + 1 by omega, gread_step b hb hlen a v l hl hv0 hv i (by omega) (hat i (by omega)) (k + d)]
    exact gread_run b hb hlen a v l hl hv0 hv j hj hat d (i + 1) (by omega) k
theorem gread_head (b : List Int) (hb : IsBits b) (hlen : b.length ≤ 6000) (a : Nat) (ha : a ≤ b.length) (v : Int) (l : List Int) (hl : GMay l) (hh : ReadL 2 (b.drop a) = some ((l.length : Int) + 1, (gammaL ((l.length : Int) + 1)).length)) (k : Nat) :
    gaps_Read.f (k + 1) (packS b) (b.length : Int) (a : Int) v = gaps_Read.l0 k [] (gpos a v l 0 : Int) v (l.length : Int) 0 (packS b) (b.length : Int) := by
  have h16 := gmay_len hl
  unfold gaps_Read.f
  rw [cread_good b hb hlen a _ _ ha hh (by omega), Option.bind_some]
  simp only
  rw [if_pos trivial, decide_eq_false (by omega), gaps_Read.j0, if_neg (by decide), Int.add_sub_cancel, wrap_in (l.length : Int) (by omega) (by omega)]
  rfl
theorem gread_all (b : List Int) (hb : IsBits b) (hlen : b.length ≤ 6000) (a : Nat) (ha : a ≤ b.length) (v : Int) (l : List Int) (hl : GMay l) (hv0 : 0 ≤ v) (hv : v < 16) (hh : ReadL 2 (b.drop a) = some ((l.length : Int) + 1, (gammaL ((l.length : Int) + 1)).length))
    (hat : ∀ i, i < l.length → GAt b a v l i) (k : Nat) (hk : 30 ≤ k) : gaps_Read.f k (packS b) (b.length : Int) (a : Int) v = some (l, (gpos a v l l.length : Int), true) := by
  have h16 := gmay_len hl
  obtain ⟨m, rfl⟩ : ∃ m, k = m + 1 + l.length + 1 := ⟨k - 2 - l.length, by omega⟩
  rw [gread_head b hb hlen a ha v l hl hh]
  have h := gread_run b hb hlen a v l hl hv0 hv l.length (Nat.le_refl _) hat l.length 0 (by omega) (m + 1)
  have hg : glast v l 0 = v := by unfold glast; rw [if_pos rfl]
  rw [List.take_zero, hg] at h
  refine h.trans ?_
  rw [gaps_Read.l0, if_neg (by omega), List.take_of_length_le (Nat.le_refl _)]
theorem gtake_read (b : List Int) (hb : IsBits b) (hlen : b.length ≤ 6000) (a : Nat) (ha : a ≤ b.length) (v : Int) (hv0 : 0 ≤ v) (hv : v < 16) (k : Nat) :
    gaps_Take.f (k + 1) (packS b) (b.length : Int) (a : Int) v = (gaps_Read.f k (packS b) (b.length : Int) (a : Int) v).bind fun r => if r.2.2 = true then some (r.1, r.2.1, 0) else some ([], 0, 9) := by
  unfold gaps_Take.f
  rw [may_eq, decide_eq_true (may_packS b hb hlen), Option.bind_some, if_pos rfl, gis_eq, decide_eq_true ⟨hv0, hv⟩, Option.bind_some, if_pos rfl, if_neg (by omega), decide_eq_false (by omega), gaps_Take.j0, if_neg (by decide)]
theorem read_gamma (n : Int) (h1 : 1 ≤ n) (h2 : n ≤ 1073741824) (r : List Int) : ReadL 2 (gammaL n ++ r) = some (n, (gammaL n).length) := by
  have h := read_lay 2 n (by omega) (by omega) h1 h2 (by omega) r
  have e : layL 2 n = gammaL n := by unfold layL; rw [if_neg (by decide), if_pos rfl]
  rw [e] at h; exact h
theorem at_whole (p r : List Int) (v : Int) (l : List Int) (hl : GMay l) (hv0 : 0 ≤ v) (hv : v < 16) (i : Nat) (hi : i < l.length) : GAt (p ++ gapsL v l ++ r) p.length v l i := by
  have hg := gnum_range hl hv0 hv i hi
  obtain ⟨t, ht⟩ := gpieces_split v l i l.length hi
  have e : p ++ gapsL v l ++ r = (p ++ gammaL ((l.length : Int) + 1) ++ gpieces v l i) ++ (gammaL (gnum v l i) ++ (t ++ r)) := by unfold gapsL; rw [ht]; simp
  have el : (p ++ gammaL ((l.length : Int) + 1) ++ gpieces v l i).length = gpos p.length v l i := by unfold gpos; simp only [List.length_append]
  refine ⟨?_, ?_⟩
  · rw [e, List.length_append, el]; omega
  · rw [e, ← el, List.drop_left]; exact read_gamma _ hg.1 (by omega) _
/-- A list that was put is taken. -/
theorem gtake_whole (p r : List Int) (hp : IsBits p) (hr : IsBits r) (v : Int) (l : List Int) (hl : GMay l) (hv0 : 0 ≤ v) (hv : v < 16) (hlen : (p ++ gapsL v l ++ r).length ≤ 6000) (k : Nat) (hk : 40 ≤ k) :
    gaps_Take.f k (packS (p ++ gapsL v l ++ r)) ((p ++ gapsL v l ++ r).length : Int) (p.length : Int) v = some (l, ((p ++ gapsL v l).length : Int), 0) := by
  obtain ⟨k, rfl⟩ : ∃ m, k = m + 1 := ⟨k - 1, by omega⟩
  have hb : IsBits (p ++ gapsL v l ++ r) := IsBits.append (IsBits.append hp (gapsL_bits v l)) hr
  have h16 := gmay_len hl
  have ha : p.length ≤ (p ++ gapsL v l ++ r).length := by simp only [List.length_append]; omega
  have hh : ReadL 2 ((p ++ gapsL v l ++ r).drop p.length) = some ((l.length : Int) + 1, (gammaL ((l.length : Int) + 1)).length) := by
    rw [List.append_assoc, List.drop_left]
    unfold gapsL
    rw [List.append_assoc]
    exact read_gamma _ (by omega) (by omega) _
  rw [gtake_read _ hb hlen _ ha v hv0 hv, gread_all _ hb hlen _ ha v l hl hv0 hv hh (fun i hi => at_whole p r v l hl hv0 hv i hi) k (by omega), Option.bind_some]
  simp only
  rw [if_pos trivial]
  unfold gpos gapsL
  simp only [List.length_append]
  rw [Nat.add_assoc]
/-! ### gaps.Put, gaps.Size in lists -/
theorem gput_eq (b : List Int) (hb : IsBits b) (hlen : b.length ≤ 6000) (v : Int) (l : List Int) (hll : (l.length : Int) < 9223372036854775807) : gaps_Put.f (packS b) (b.length : Int) v l =
    some (if (0 ≤ v ∧ v < 16) ∧ GMay l then (if b.length + (gapsL v l).length ≤ 6000 then (packS (b ++ gapsL v l), ((b ++ gapsL v l).length : Int), 0) else (⟨#[]⟩, 0, 2)) else (⟨#[]⟩, 0, 1)) := by
  unfold gaps_Put.f
  rw [if_pos hll, ofS_packS b hb]
  by_cases h : (0 ≤ v ∧ v < 16) ∧ GMay l
  · rw [if_pos ⟨may_packS b hb hlen, h⟩, if_pos h]
    by_cases h2 : b.length + (gapsL v l).length ≤ 6000
    · rw [if_pos h2, if_pos (show ((b ++ gapsL v l).length : Int) ≤ 6000 by rw [List.length_append]; omega)]
    · rw [if_neg h2, if_neg (show ¬ (((b ++ gapsL v l).length : Int) ≤ 6000) by rw [List.length_append]; omega)]
  · rw [if_neg (fun h2 => h h2.2), if_neg h]
theorem gsize_eq (v : Int) (l : List Int) (hll : (l.length : Int) < 9223372036854775807) : gaps_Size.f v l = some (if (0 ≤ v ∧ v < 16) ∧ GMay l then (((gapsL v l).length : Int), 0) else (0, 1)) := by
  unfold gaps_Size.f
  rw [if_pos hll]
  split <;> rfl
/-- Equal numbers are equal. -/
theorem eqn_loop (l : List Int) (hl : l.length ≤ 1000000) : ∀ (d i k : Nat), i + d = l.length → d < k → herbariumref0_EqNumbers.l0 k l l (i : Int) = some true
  | 0, i, k, hi, hk => by
    obtain ⟨k, rfl⟩ : ∃ m, k = m + 1 := ⟨k - 1, by omega⟩
    rw [herbariumref0_EqNumbers.l0, if_neg (by omega)]
  | d + 1, i, k, hi, hk => by
    obtain ⟨k, rfl⟩ : ∃ m, k = m + 1 := ⟨k - 1, by omega⟩
    rw [herbariumref0_EqNumbers.l0, if_pos (by omega), if_pos (by omega), if_pos (by omega), if_pos rfl, wrap_in _ (by omega) (by omega)]
    exact eqn_loop l hl d (i + 1) k (by omega) (by omega)
theorem eqn_refl (l : List Int) (hl : l.length ≤ 1000000) (k : Nat) (hk : l.length < k) : herbariumref0_EqNumbers.f k l l = some true := by
  unfold herbariumref0_EqNumbers.f
  rw [if_pos rfl]
  exact eqn_loop l hl l.length 0 k (by omega) hk
end Go.Proofs.Ytnpghcikhpglkaa.Pb
