/- What the row of GapsExact rests on, part 4 of 7: functions, contracts, plain laws. -/
import Derived.Test.YtnpghcikhpglkaaCGapsExact2
import Derived.Lib.Hide
import Derived.BigRegion
import Derived.Laws.BitsLemmas
import Derived.Outline
import Derived.Shelf.Small.Bits
import Derived.Shelf.Strconv.Itoa0
import Derived.StillTailTactics
import Derived.Deep.RegionHeld3
namespace Go.Proofs.Ytnpghcikhpglkaa.Q
open Go.RowKit Go.Proofs.YtnpghcikhpglkaaW.PrintWords Go.Proofs.YtnpghcikhpglkaaW.PrintLast Go.Proofs.YtnpghcikhpglkaaW.PrintMore
attribute [local go_sem] max2_int min2_int max_two min_two max_three min_three max_four min_four   -- for this text's walks alone
set_option linter.unusedVariables false
set_option linter.unusedSimpArgs false

/-! ### herbariumlaw3_Texts: function 83 -/
mutual
def herbariumlaw3_Texts.j0 : Nat → List (List Int) → List (S27) → List (List Int) → List (S27) → List Int → Option ((List (S27)))
  | 0, _, _, _, _, _ => none
  | k + 1, x1, x5, x497000, x497001, x497002 => herbariumlaw3_Texts.l0 k x1 x5 0 x497000 x497001 x497002
def herbariumlaw3_Texts.l0 : Nat → List (List Int) → List (S27) → Int → List (List Int) → List (S27) → List Int → Option ((List (S27)))
  | 0, _, _, _, _, _, _ => none
  | k + 1, x1, x5, x6, x497000, x497001, x497002 => if x6 < (x1.length : Int) then (herbariumlaw3_Texts.j2 k x1 x5 x6 (decide (x6 < 10)) x497000 x497001 x497002) else (herbariumlaw3_Texts.j2 k x1 x5 x6 false x497000 x497001 x497002)
def herbariumlaw3_Texts.j2 : Nat → List (List Int) → List (S27) → Int → Bool → List (List Int) → List (S27) → List Int → Option ((List (S27)))
  | 0, _, _, _, _, _, _, _ => none
  | k + 1, x1, x5, x6, x27, x497000, x497001, x497002 => if x27 = true then (if 0 ≤ x6 then (if x6 < (x1.length : Int) then ((herbariumref1_List_Pack.f k (rd_L8 x1 x6)).bind fun bt507 => (if x5.length < 5864062014805 then ((some (x5 ++ [(⟨bt507.1, bt507.2⟩ : S27)] : List (S27))).bind fun y509 => (if ((rd_L8 x1 x6).length : Int) = 0 then (herbariumlaw3_Texts.l0 k x1 y509 (wrap64 (x6 + 1)) x497000 x497001 x497002) else ((some (([] : List Int) : List Int)).bind fun y512 => (if y512.length + (rd_L8 x1 x6).length < 140737488355328 then ((some (y512 ++ (rd_L8 x1 x6) : List Int)).bind fun y515 => ((herbariumlaw0_Within.f (wrap64 ((wrap64 (x6 * 7)) + (wrap64 ((x497002.length : Int) * 3)))) (y515.length : Int)).bind fun t518 => (if 0 ≤ t518 then (if t518 < (y515.length : Int) then ((herbariumref1_List_Pack.f k (y515.set (t518 : Int).toNat ((1 - (rd y515 t518)) % 256))).bind fun bt521 => (if t518 ≤ ((rd_L8 x1 x6).length : Int) then ((herbariumref1_List_Pack.f k ((rd_L8 x1 x6).take (t518 : Int).toNat)).bind fun bt524 => ((some (([] : List Int) : List Int)).bind fun y526 => (if y526.length + (rd_L8 x1 x6).length < 140737488355328 then ((some (y526 ++ (rd_L8 x1 x6) : List Int)).bind fun y529 => ((some (([1, 0, 1] : List Int) : List Int)).bind fun y532 => (if y529.length + y532.length < 140737488355328 then ((herbariumref1_List_Pack.f k (y529 ++ y532)).bind fun bt538 => ((some (([(⟨bt521.1, bt521.2⟩ : S27), (⟨bt524.1, bt524.2⟩ : S27), (⟨bt538.1, bt538.2⟩ : S27)] : List (S27)) : List (S27))).bind fun y540 => (if y509.length + y540.length < 5864062014805 then (herbariumlaw3_Texts.l0 k x1 (y509 ++ y540) (wrap64 (x6 + 1)) x497000 x497001 x497002) else (none)))) else (none)))) else (none)))) else (none))) else (none)) else (none)))) else (none))))) else (none))) else (none)) else (none)) else (some x5)
end
def herbariumlaw3_Texts.f (k : Nat) (l0_0 : List (List Int)) (l0_1 : List (S27)) (l0_2 : List Int) (l1 : List (List Int)) : Option ((List (S27))) := (some (([(⟨(⟨#[]⟩ : ByteArray), 0⟩ : S27)] : List (S27)) : List (S27))).bind fun y497 => (if y497.length + l0_1.length < 5864062014805 then ((some (y497 ++ l0_1 : List (S27))).bind fun y500 => (if (y500.length : Int) > 6 then (if 6 ≤ (y500.length : Int) then (herbariumlaw3_Texts.j0 k l1 (y500.take (6 : Int).toNat) l0_0 l0_1 l0_2) else (none)) else (herbariumlaw3_Texts.j0 k l1 y500 l0_0 l0_1 l0_2))) else (none))
def herbariumlaw3_Texts.T13 : Bool × List (List Nat × List Nat) := (true, [([], []), ([], []), ([1], [1]), ([], []), ([], []), ([3, 4], [3, 4]), ([5, 2], [5]), ([], []), ([], []), ([7, 8, 6], [7, 8]), ([], []), ([9, 10, 9], [9, 10]), ([11, 11], [11]), ([2, 6, 12], [2, 6, 12]), ([0, 13, 12], [0, 13]), ([14, 14, 0, 1, 2, 3, 4, 5, 6, 7, 8, 9, 10, 11, 12, 13, 14], [0, 14])])
def herbariumlaw3_Texts.B13 : List Nat := [0, 0, 2, 0, 0, 24, 62, 0, 0, 510, 0, 2046, 4094, 8190, 16383, 32767]
theorem herbariumlaw3_Texts.tab13 : rtab .any (opsOf Try.f83 13) = herbariumlaw3_Texts.T13 := by kernel_rfl
theorem herbariumlaw3_Texts.bits13 : waitsOk herbariumlaw3_Texts.T13.2 herbariumlaw3_Texts.B13 = true := by kernel_rfl
set_option maxHeartbeats 8000000 in
set_option maxRecDepth 100000 in
theorem herbariumlaw3_Texts.calls (k : Nat) (A0_0 : Option Addr) (c0_0 : Nat) (l0_0 : List (List Int)) (A0_1 : Option Addr) (c0_1 : Nat) (l0_1 : List (S27)) (A0_2 : Option Addr) (c0_2 : Nat) (l0_2 : List Int) (A1 : Option Addr) (c1 : Nat) (l1 : List (List Int)) (r : List (S27)) (w : World) (hr0_0 : Kd.C (Kd.slice 3 (Kd.int .i64)) w A0_0 l0_0.length l0_0) (hc0_0 : l0_0.length ≤ c0_0) (hr0_1 : Kd.C k27 w A0_1 l0_1.length l0_1) (hc0_1 : l0_1.length ≤ c0_1) (hr0_2 : Kd.C (Kd.int .i64) w A0_2 l0_2.length l0_2) (hc0_2 : l0_2.length ≤ c0_2) (hr1 : Kd.C (Kd.slice 5 (Kd.int .u8)) w A1 l1.length l1) (hc1 : l1.length ≤ c1) (h : herbariumlaw3_Texts.f k l0_0 l0_1 l0_2 l1 = some r) :
    Calls Try.prog 83 #[.agg #[.slice A0_0 l0_0.length c0_0, .slice A0_1 l0_1.length c0_1, .slice A0_2 l0_2.length c0_2], .slice A1 l1.length c1] w fun e w' => ∃ v0_ : Value, e = .returned (v0_) ∧ Kd.R k27 27 w' w.heap.size (fun _ => True) v0_ r ∧ Below w.heap.size w w' := by
 have hu78 := Try.underlying78
 have hu27 := Try.underlying27
 have HR0_0 := ak hr0_0
 have HC0_0 := ak hc0_0
 clear hr0_0 hc0_0
 have HR0_1 := ak hr0_1
 have HC0_1 := ak hc0_1
 clear hr0_1 hc0_1
 have HR0_2 := ak hr0_2
 have HC0_2 := ak hc0_2
 clear hr0_2 hc0_2
 have HR1 := ak hr1
 have HC1 := ak hc1
 clear hr1 hc1
 have HB := ak (Below.refl w.heap.size w)
 have H : ((some (([(⟨(⟨#[]⟩ : ByteArray), 0⟩ : S27)] : List (S27)) : List (S27))).bind fun y497 => (if y497.length + l0_1.length < 5864062014805 then ((some (y497 ++ l0_1 : List (S27))).bind fun y500 => (if (y500.length : Int) > 6 then (if 6 ≤ (y500.length : Int) then (herbariumlaw3_Texts.j0 k l1 (y500.take (6 : Int).toNat) l0_0 l0_1 l0_2) else (none)) else (herbariumlaw3_Texts.j0 k l1 y500 l0_0 l0_1 l0_2))) else (none))) = some r := h
 clear h
 obtain ⟨y497, hy497⟩ : ∃ y_ : List (S27), y_ = (([(⟨(⟨#[]⟩ : ByteArray), 0⟩ : S27)] : List (S27))) := ⟨_, rfl⟩
 replace H : (if y497.length + l0_1.length < 5864062014805 then ((some (y497 ++ l0_1 : List (S27))).bind fun y500 => (if (y500.length : Int) > 6 then (if 6 ≤ (y500.length : Int) then (herbariumlaw3_Texts.j0 k l1 (y500.take (6 : Int).toNat) l0_0 l0_1 l0_2) else (none)) else (herbariumlaw3_Texts.j0 k l1 y500 l0_0 l0_1 l0_2))) else (none)) = some r := by first | (rw [hy497]; with_reducible exact H) | (have H2_ := (Option.bind_some _ _).symm.trans H; rw [hy497]; with_reducible exact H2_) | (have H2_ := (Option.bind_some _ _).symm.trans H; with_reducible exact H2_) | with_reducible exact H | (rw [hy497]; exact H) | exact H
 have Ny497 := ak hy497
 clear hy497
 by_cases c3 : y497.length + l0_1.length < 5864062014805
 rotate_left
 ·
  rw [if_neg c3] at H
  exact absurd H (by simp)
 rw [if_pos c3] at H
 have LMc3 := ak c3
 clear c3
 obtain ⟨y500, hy500⟩ : ∃ y_ : List (S27), y_ = (y497 ++ l0_1) := ⟨_, rfl⟩
 replace H : (if (y500.length : Int) > 6 then (if 6 ≤ (y500.length : Int) then (herbariumlaw3_Texts.j0 k l1 (y500.take (6 : Int).toNat) l0_0 l0_1 l0_2) else (none)) else (herbariumlaw3_Texts.j0 k l1 y500 l0_0 l0_1 l0_2)) = some r := by first | (rw [hy500]; with_reducible exact H) | (have H2_ := (Option.bind_some _ _).symm.trans H; rw [hy500]; with_reducible exact H2_) | (have H2_ := (Option.bind_some _ _).symm.trans H; with_reducible exact H2_) | with_reducible exact H | (rw [hy500]; exact H) | exact H
 have Ny500 := ak hy500
 clear hy500
 have HC4 := ak H
 clear H
 go_enter Try.func83, Try.ntmps83
 go_upto_if 17 with (first | ((with_reducible refine gate_dst (N := 2) rfl ?_); refine box_event ?hg (N := 2) ?hd (cs := #[.slice A0_0 l0_0.length c0_0, .slice A0_1 l0_1.length c0_1, .slice A0_2 l0_2.length c0_2]) (t := 78) ?hr ?_; (case hd => rfl); (case hg => rfl); (case hr => first | (go_simp; done) | (go_simp; rfl)); intro gb496 hg w5 hbox hb; have n0_ := ak (below_step (ul HB.out) hb); have n1_ := ak (hbox); have n2_ := ak ((by rw [hg]; exact (below_size (ul HB.out)) : w.heap.size ≤ gb496)); have n3_ := ak ((by rw [hg]; exact (below_size (ul HB.out)) : w.heap.size ≤ gb496)); clear HB; have HB := n0_; have BK496 := n1_; have GW496 := n2_; have GE496 := n3_; clear n0_ n1_ n2_ n3_; clear hb hbox hg) | ((with_reducible refine gate_dst (N := 11) rfl ?_); refine Kd.R_lit k27 _ 27 ?hg (N := 11) ?hd (xs := ([(⟨(⟨#[]⟩ : ByteArray), 0⟩ : S27)] : List (S27))) (inner := [.string (⟨#[]⟩ : ByteArray), .int .i64 0]) (ok := fun _ => True) (okp := fun _ => True) ?hr ?hp (fun _ hk => hk) trivial (Below.refl _ _) (Nat.le_refl _) (by simp) ?_; (case hd => rfl); (case hg => rfl); (case hr => first | (go_simp; done) | (go_simp; rfl)); (case hp => exact (Reps.c2 (show Kd.M k27 _ _ _ (⟨(⟨#[]⟩ : ByteArray), 0⟩ : S27) [.string (⟨#[]⟩ : ByteArray), .int .i64 0] from (k27_mkM _ _ _ (⟨(⟨#[]⟩ : ByteArray), 0⟩ : S27) )) (Reps.none _ _))); intro v498 w6 ho7 hb hg_ hnew_; clear hg_ hnew_; (first | rw [← Ny497.out] at ho7 | (simp only [Int.reduceToNat] at ho7; rw [← Ny497.out] at ho7)); have n0_ := ak (Kd.R_lower ho7 (below_size (by repeat with_reducible first | exact HB.out | apply b1 | apply b2 | apply b3 | refine b4 ?_ GE496.out))); have n1_ := ak (blk_below (g := gb496) (o := .cells #[.slice A0_0 l0_0.length c0_0, .slice A0_1 l0_1.length c0_1, .slice A0_2 l0_2.length c0_2] 78 (0, 0)) (ub BK496.out) hb); have n2_ := ak (below_step (by repeat with_reducible first | exact HB.out | apply b1 | apply b2 | apply b3 | refine b4 ?_ GE496.out) hb); clear BK496; clear HB; have HO499 := n0_; have BK496 := n1_; have HB := n2_; clear n0_ n1_ n2_; clear hb ho7; have hcz8_0 : w6.cell? ⟨gb496, 0, none⟩ = some (.slice A0_0 l0_0.length c0_0) := (blk_cell BK496.out 0).trans rfl; have hcz8_1 : w6.cell? ⟨gb496, 1, none⟩ = some (.slice A0_1 l0_1.length c0_1) := (blk_cell BK496.out 1).trans rfl; have hcz8_2 : w6.cell? ⟨gb496, 2, none⟩ = some (.slice A0_2 l0_2.length c0_2) := (blk_cell BK496.out 2).trans rfl; have hfz8_0 := blk_frozen BK496.out 0; have hfz8_1 := blk_frozen BK496.out 1; have hfz8_2 := blk_frozen BK496.out 2) | ((with_reducible refine gate_builtin (b := .append) (xs := #[.tmp 11, .tmp 13]) rfl ?_); at_builtin; refine Kd.R_append_rows k27 (w0 := w) w.heap.size rfl (.tmp 11) (.tmp 13) 22 27 (.agg #[(.string ⟨#[]⟩), (.int .i64 0)]) 24 rfl Try.underlying22 info27 rfl (by decide) (by omega) v498 y497 l0_1 _ _ _ (fun _ => True) (fun _ => False) rfl rfl ?aO ?aR (fun _ _ h => h) (fun _ h => h.elim) ?aF ?aB ?aS ?aL ?_; (case aR => exact uc (Kd.C_below HR0_1.out HB.out)); (case aB => exact (by repeat with_reducible first | exact HB.out | apply b1 | apply b2 | apply b3 | refine b4 ?_ GE496.out)); (case aF => exact (fun _ _ => trivial)); (case aO => exact (ur <| HO499.out)); (case aS => exact (below_size (by repeat with_reducible first | exact HB.out | apply b1 | apply b2 | apply b3 | refine b4 ?_ GE496.out))); (case aL => have := LMc3.out; omega); intro v501 w9 ho hb hg hat; rw [← Ny500.out] at ho; have n0_ := ak (blk_grown (g := gb496) (o := .cells #[.slice A0_0 l0_0.length c0_0, .slice A0_1 l0_1.length c0_1, .slice A0_2 l0_2.length c0_2] 78 (0, 0)) (ub BK496.out) hg (Kd.R_ne HO499.out BK496.out (by decide))); have n1_ := ak (hb); have n2_ := ak (ho); clear BK496; clear HB; clear HO499; have BK496 := n0_; have HB := n1_; have HO502 := n2_; clear n0_ n1_ n2_; clear ho hb hg hat; obtain ⟨Ao10, co10, eo10⟩ := Kd.R_slice HO502.out; subst eo10))
 (try simp only [Act.put, s1, s2, s3])
 go_cut [5] (fun v5 wc => ∃ (kq : Nat) (x5_3 : List (S27)), Aside0 (herbariumlaw3_Texts.j0 kq l1 x5_3 l0_0 l0_1 l0_2 = some r) ∧ Aside0 (kq ≤ k) ∧ Aside0 (Kd.R k27 27 wc w.heap.size (fun _ => True) v5 x5_3) ∧ Aside0 (wc.heap[gb496]? = some (.cells #[(.slice A0_0 l0_0.length c0_0), (.slice A0_1 l0_1.length c0_1), (.slice A0_2 l0_2.length c0_2)] 78 (0, 0))) ∧ Aside0 (Below w.heap.size w wc))
 case first =>
  have H := HC4.out
  clear HC4
  by_cases c11 : (y500.length : Int) > 6
  rotate_left
  ·
   rw [if_neg c11] at H
   have c11b0 : decide (6 < (y500.length : Int)) = false := decide_eq_false c11
   have c11b1 : decide (6 < y500.length) = false := decide_eq_false (by omega)
   clear c11
   (first | rw [c11b0] | (simp only [i64_w, i32_w]; rw [c11b0]) | skip)
   have H' := ak H
   clear H
   go_wp2
   go_meet
   case rel => exact ⟨_, (y500), H', ⟨by first | omega | exact Nat.le_refl _⟩, ⟨ur <| HO502.out⟩, ⟨ub BK496.out⟩, ⟨by repeat with_reducible first | exact HB.out | apply b1 | apply b2 | apply b3 | refine b4 ?_ GE496.out⟩⟩
  rw [if_pos c11] at H
  have c11b0 : decide (6 < (y500.length : Int)) = true := decide_eq_true c11
  have c11b1 : decide (6 < y500.length) = true := decide_eq_true (by omega)
  clear c11
  (first | rw [c11b0] | (simp only [i64_w, i32_w]; rw [c11b0]) | skip)
  by_cases c12 : 6 ≤ (y500.length : Int)
  rotate_left
  ·
   rw [if_neg c12] at H
   exact absurd H (by simp)
  rw [if_pos c12] at H
  have c12b0 := eq_true c12
  have c12b1 : decide (6 ≤ (y500.length : Int)) = true := decide_eq_true c12
  clear c12
  obtain ⟨y503, hy503⟩ : ∃ y_ : List (S27), y_ = (y500.take (6 : Int).toNat) := ⟨_, rfl⟩
  replace H : (herbariumlaw3_Texts.j0 k l1 y503 l0_0 l0_1 l0_2) = some r := by first | (rw [hy503]; with_reducible exact H) | (have H2_ := (Option.bind_some _ _).symm.trans H; rw [hy503]; with_reducible exact H2_) | (have H2_ := (Option.bind_some _ _).symm.trans H; with_reducible exact H2_) | with_reducible exact H | (rw [hy503]; exact H) | exact H
  have Ny503 := ak hy503
  clear hy503
  have H' := ak H
  clear H
  have q13 : (6 : Int) ≤ ((y500.length : Int) : Int) := of_decide_eq_true (by first | (with_reducible assumption) | assumption)
  obtain ⟨i013, hi013, _, hsz13, _⟩ := info_parts info27
  have hcut13 := cut_to (P := Try.prog) 22 27 .i64 Try.underlying22 hi013 Ao10 y500.length co10 6 (by omega) q13 (Kd.R_reads' HO502.out).2.1
  have hr13 := Kd.R_take (m := (6 : Int).toNat) HO502.out (by omega)
  have hy13 : y503.length = (6 : Int).toNat := (by rw [Ny503.out, List.length_take]; omega)
  rw [← Ny503.out] at hr13
  rw [← hy13] at hr13 hcut13
  clear hy13 hi013 hsz13 HO502
  have HO505 := ak hr13
  clear hr13
  replace q13 := eq_true q13
  go_wp2
  go_meet
  case rel => exact ⟨_, (y503), H', ⟨by first | omega | exact Nat.le_refl _⟩, ⟨ur <| HO505.out⟩, ⟨ub BK496.out⟩, ⟨by repeat with_reducible first | exact HB.out | apply b1 | apply b2 | apply b3 | refine b4 ?_ GE496.out⟩⟩
 clear HC4
 (try clear c2); (try clear c3); (try clear hcz8_0); (try clear hcz8_1); (try clear hcz8_2); (try clear hfz8_0); (try clear hfz8_1); (try clear hfz8_2)
 obtain ⟨kq, x5_3, HA, HJ3, HO_5, BK496, HB⟩ := hcut
 cases kq with
 | zero => exact absurd HA.out (by simp [herbariumlaw3_Texts.j0])
 | succ kj3 => ?_
 have H := HA.out
 clear HA
 simp only [herbariumlaw3_Texts.j0] at H
 have H' := ak H
 clear H
 go_wp2
 go_loopg [5, 6] kj3 (fun kq v5 v6 w' => ∃ (x5_2 : List (S27)) (x6_2 : Int), v6 = .int .i64 x6_2 ∧ Aside0 (herbariumlaw3_Texts.l0 kq l1 x5_2 x6_2 l0_0 l0_1 l0_2 = some r) ∧ Aside0 (kq ≤ kj3) ∧ Aside0 (Kd.R k27 27 w' w.heap.size (fun _ => True) v5 x5_2) ∧ Aside0 (w'.heap[gb496]? = some (.cells #[(.slice A0_0 l0_0.length c0_0), (.slice A0_1 l0_1.length c0_1), (.slice A0_2 l0_2.length c0_2)] 78 (0, 0))) ∧ Aside0 (Below w.heap.size w w'))
 case atStart => exact ⟨(x5_3), (0), (by first | rfl | (simp; done) | (simp [*]; done)), H', ⟨Nat.le_refl _⟩, ⟨ur <| HO_5.out⟩, ⟨ub BK496.out⟩, ⟨by repeat with_reducible first | exact HB.out | apply b1 | apply b2 | apply b3 | refine b4 ?_ GE496.out⟩⟩
 clear H'
 (try clear c2); (try clear c3); (try clear hcz8_0); (try clear hcz8_1); (try clear hcz8_2); (try clear hfz8_0); (try clear hfz8_1); (try clear hfz8_2)
 obtain ⟨x5_2, x6_2, rfl, HA, HK2, HO_5, BK496, HB⟩ := hrel
 cases gk with
 | zero => exact absurd HA.out (by simp [herbariumlaw3_Texts.l0])
 | succ k2 => ?_
 have H := HA.out
 clear HA
 simp only [herbariumlaw3_Texts.l0] at H
 have HC14 := ak H
 clear H
 go_upto_region 5 with (fail)
 go_cut [27] (fun v27 wc => ∃ (kq : Nat) (x27_13 : Bool), v27 = .bool x27_13 ∧ Aside0 (herbariumlaw3_Texts.j2 kq l1 x5_2 x6_2 x27_13 l0_0 l0_1 l0_2 = some r) ∧ Aside0 (kq ≤ k2) ∧ Aside0 (Kd.R k27 27 wc w.heap.size (fun _ => True) u5 x5_2) ∧ Aside0 (wc.heap[gb496]? = some (.cells #[(.slice A0_0 l0_0.length c0_0), (.slice A0_1 l0_1.length c0_1), (.slice A0_2 l0_2.length c0_2)] 78 (0, 0))) ∧ Aside0 (Below w.heap.size w wc))
 case first =>
  have H := HC14.out
  clear HC14
  by_cases c15 : x6_2 < (l1.length : Int)
  rotate_left
  ·
   rw [if_neg c15] at H
   have c15b0 : decide (x6_2 < (l1.length : Int)) = false := decide_eq_false c15
   clear c15
   (first | rw [c15b0] | (simp only [i64_w, i32_w]; rw [c15b0]) | skip)
   have H' := ak H
   clear H
   go_wp2
   go_meet
   case rel => exact ⟨_, (false), (by first | rfl | (simp; done) | (simp [*]; done)), H', ⟨by have := HJ3.out; have := HK2.out; first | omega | exact Nat.le_refl _⟩, ⟨ur <| HO_5.out⟩, ⟨ub BK496.out⟩, ⟨by repeat with_reducible first | exact HB.out | apply b1 | apply b2 | apply b3 | refine b4 ?_ GE496.out⟩⟩
  rw [if_pos c15] at H
  have c15b0 : decide (x6_2 < (l1.length : Int)) = true := decide_eq_true c15
  clear c15
  (first | rw [c15b0] | (simp only [i64_w, i32_w]; rw [c15b0]) | skip)
  have H' := ak H
  clear H
  go_wp2
  go_meet
  case rel => exact ⟨_, (decide (x6_2 < 10)), (by first | rfl | (simp; done) | (simp [*]; done)), H', ⟨by have := HJ3.out; have := HK2.out; first | omega | exact Nat.le_refl _⟩, ⟨ur <| HO_5.out⟩, ⟨ub BK496.out⟩, ⟨by repeat with_reducible first | exact HB.out | apply b1 | apply b2 | apply b3 | refine b4 ?_ GE496.out⟩⟩
 clear HC14
 (try clear c2); (try clear c3); (try clear hcz8_0); (try clear hcz8_1); (try clear hcz8_2); (try clear hfz8_0); (try clear hfz8_1); (try clear hfz8_2)
 obtain ⟨kq, x27_13, rfl, HA, HJ13, HO_5, BK496, HB⟩ := hcut
 cases kq with
 | zero => exact absurd HA.out (by simp [herbariumlaw3_Texts.j2])
 | succ kj13 => ?_
 have H := HA.out
 clear HA
 simp only [herbariumlaw3_Texts.j2] at H
 by_cases c16 : x27_13 = true
 rotate_left
 ·
  replace c16 := Bool.eq_false_iff.mpr c16
  subst c16
  rw [if_neg (show ¬ (false = true) by decide)] at H
  obtain rfl := Option.some.inj H
  go_wp2
  go_ret
  exact ⟨_, by first | rfl | (simp [errW_none, errW_some] <;> rfl) | (simp [*, errW_none, errW_some] <;> rfl), ur <| HO_5.out, by repeat with_reducible first | exact HB.out | apply b1 | apply b2 | apply b3 | refine b4 ?_ GE496.out⟩
 subst c16
 rw [if_pos rfl] at H
 by_cases c17 : 0 ≤ x6_2
 rotate_left
 ·
  rw [if_neg c17] at H
  exact absurd H (by simp)
 rw [if_pos c17] at H
 have c17b0 : decide (0 ≤ x6_2) = true := decide_eq_true c17
 clear c17
 by_cases c18 : x6_2 < (l1.length : Int)
 rotate_left
 ·
  rw [if_neg c18] at H
  exact absurd H (by simp)
 rw [if_pos c18] at H
 have c18b0 : decide (x6_2 < (l1.length : Int)) = true := decide_eq_true c18
 clear c18
 replace H := Option.bind_eq_some_iff.mp H
 obtain ⟨⟨t507, t508⟩, A190, H⟩ := H
 try dsimp only at H
 have A19 := ak A190
 clear A190
 by_cases c20 : x5_2.length < 5864062014805
 rotate_left
 ·
  rw [if_neg c20] at H
  exact absurd H (by simp)
 rw [if_pos c20] at H
 have LMc20 := ak c20
 clear c20
 obtain ⟨y509, hy509⟩ : ∃ y_ : List (S27), y_ = (x5_2 ++ [(⟨t507, t508⟩ : S27)]) := ⟨_, rfl⟩
 replace H : (if ((rd_L8 l1 x6_2).length : Int) = 0 then (herbariumlaw3_Texts.l0 kj13 l1 y509 (wrap64 (x6_2 + 1)) l0_0 l0_1 l0_2) else ((some (([] : List Int) : List Int)).bind fun y512 => (if y512.length + (rd_L8 l1 x6_2).length < 140737488355328 then ((some (y512 ++ (rd_L8 l1 x6_2) : List Int)).bind fun y515 => ((herbariumlaw0_Within.f (wrap64 ((wrap64 (x6_2 * 7)) + (wrap64 ((l0_2.length : Int) * 3)))) (y515.length : Int)).bind fun t518 => (if 0 ≤ t518 then (if t518 < (y515.length : Int) then ((herbariumref1_List_Pack.f kj13 (y515.set (t518 : Int).toNat ((1 - (rd y515 t518)) % 256))).bind fun bt521 => (if t518 ≤ ((rd_L8 l1 x6_2).length : Int) then ((herbariumref1_List_Pack.f kj13 ((rd_L8 l1 x6_2).take (t518 : Int).toNat)).bind fun bt524 => ((some (([] : List Int) : List Int)).bind fun y526 => (if y526.length + (rd_L8 l1 x6_2).length < 140737488355328 then ((some (y526 ++ (rd_L8 l1 x6_2) : List Int)).bind fun y529 => ((some (([1, 0, 1] : List Int) : List Int)).bind fun y532 => (if y529.length + y532.length < 140737488355328 then ((herbariumref1_List_Pack.f kj13 (y529 ++ y532)).bind fun bt538 => ((some (([(⟨bt521.1, bt521.2⟩ : S27), (⟨bt524.1, bt524.2⟩ : S27), (⟨bt538.1, bt538.2⟩ : S27)] : List (S27)) : List (S27))).bind fun y540 => (if y509.length + y540.length < 5864062014805 then (herbariumlaw3_Texts.l0 kj13 l1 (y509 ++ y540) (wrap64 (x6_2 + 1)) l0_0 l0_1 l0_2) else (none)))) else (none)))) else (none)))) else (none))) else (none)) else (none)))) else (none)))) = some r := by first | (rw [hy509]; with_reducible exact H) | (have H2_ := (Option.bind_some _ _).symm.trans H; rw [hy509]; with_reducible exact H2_) | (have H2_ := (Option.bind_some _ _).symm.trans H; with_reducible exact H2_) | with_reducible exact H | (rw [hy509]; exact H) | exact H
 have Ny509 := ak hy509
 clear hy509
 by_cases c21 : ((rd_L8 l1 x6_2).length : Int) = 0
 ·
  rw [if_pos c21] at H
  have c21b0 : (((rd_L8 l1 x6_2).length : Int) == 0) = true := beq_iff_eq.mpr c21
  have c21b1 : (((rd_L8 l1 x6_2).length : Int) != 0) = false := bne_eq_false_iff_eq.mpr c21
  clear c21
  have H' := ak H
  clear H
  have p506 : 0 ≤ (x6_2 : Int) := of_decide_eq_true (by first | (with_reducible assumption) | assumption)
  have q506 : x6_2 < (l1.length : Int) := of_decide_eq_true (by first | (with_reducible assumption) | assumption)
  obtain ⟨ad506, A506_0, c506_0, e506, hx506_0, hl506_0, hi506_0⟩ := at_L8 HR1.out x6_2 p506 q506
  cases e506
  replace hx506_0 := (HB.out.cell (World.block_lt_of_cell? w _ hx506_0)).trans hx506_0
  have HR506_0 := ak hi506_0
  have HC506_0 := ak hl506_0
  clear hi506_0 hl506_0
  replace p506 := eq_true p506
  replace q506 := eq_true q506
  go_wp2_with (first | ((with_reducible refine gate_callee (f := 56) rfl ?_); refine goesL_ (some 36) rfl rfl Try.func56 (by kernel_rfl) rfl #[.slice A506_0 (rd_L8 l1 x6_2).length c506_0] rfl (by (try simp only [List.map_toArray, List.map_cons, List.map_nil]); first | done | rfl | (simp only [List.length_drop, List.length_take]; rfl)) ?_; (with_reducible refine (herbariumref1_List_Pack.calls kj13 _ _ (rd_L8 l1 x6_2) t507 t508 _ ?side1 ?side2 A19.out).mono ?_); (case side1 => exact uc (Kd.C_below HR506_0.out HB.out)); (case side2 => exact HC506_0.out); rintro e w22 ⟨rfl, hb⟩; refine ⟨_, rfl, ?_⟩; have n0_ := ak (Kd.R_below (ur <| HO_5.out) hb); have n1_ := ak (blk_below (g := gb496) (o := .cells #[.slice A0_0 l0_0.length c0_0, .slice A0_1 l0_1.length c0_1, .slice A0_2 l0_2.length c0_2] 78 (0, 0)) (ub BK496.out) hb); have n2_ := ak (below_step (by repeat with_reducible first | exact HB.out | apply b1 | apply b2 | apply b3 | refine b4 ?_ GE496.out) hb); clear HO_5; clear BK496; clear HB; have HO_5 := n0_; have BK496 := n1_; have HB := n2_; clear n0_ n1_ n2_; (try clear hb); (try clear hb2); (try clear hk); (try clear hi)) | ((with_reducible refine gate_builtin (b := .append) (xs := #[.tmp 34, .tmp 37]) rfl ?_); at_builtin; refine Kd.R_append k27 (w0 := w) w.heap.size rfl (.tmp 34) (.tmp 37) 22 27 (.agg #[(.string ⟨#[]⟩), (.int .i64 0)]) 24 rfl Try.underlying22 info27 rfl (by decide) (by omega) u5 x5_2 (⟨t507, t508⟩ : S27) [.string t507, .int .i64 t508] (fun _ => True) (fun _ => False) rfl rfl ?aP (fun _ hk => hk.elim) ?aF ?aO ?aB ?aS ?aL ?_; (case aP => exact k27_mkM _ _ _ (⟨t507, t508⟩ : S27)); (case aB => exact (by repeat with_reducible first | exact HB.out | apply b1 | apply b2 | apply b3 | refine b4 ?_ GE496.out)); (case aF => exact (fun _ _ => trivial)); (case aO => exact (ur <| HO_5.out)); (case aS => exact (below_size (by repeat with_reducible first | exact HB.out | apply b1 | apply b2 | apply b3 | refine b4 ?_ GE496.out))); (case aL => have := LMc20.out; omega); intro v510 w23 ho hb hg hat; rw [← Ny509.out] at ho; have n0_ := ak (blk_grown (g := gb496) (o := .cells #[.slice A0_0 l0_0.length c0_0, .slice A0_1 l0_1.length c0_1, .slice A0_2 l0_2.length c0_2] 78 (0, 0)) (ub BK496.out) hg (Kd.R_ne HO_5.out BK496.out (by decide))); have n1_ := ak (hb); have n2_ := ak (ho); clear BK496; clear HB; clear HO_5; have BK496 := n0_; have HB := n1_; have HO511 := n2_; clear n0_ n1_ n2_; clear ho hb hg hat))
  go_roundg kj13
  case measure => have := HJ3.out; have := HK2.out; have := HJ13.out; omega
  case rel => exact ⟨(y509), (wrap64 (x6_2 + 1)), (by first | rfl | (simp; done) | (simp [*]; done)), H', ⟨by have := HJ3.out; have := HK2.out; have := HJ13.out; omega⟩, ⟨ur <| HO511.out⟩, ⟨ub BK496.out⟩, ⟨by repeat with_reducible first | exact HB.out | apply b1 | apply b2 | apply b3 | refine b4 ?_ GE496.out⟩⟩
 rw [if_neg c21] at H
 have c21b0 : (((rd_L8 l1 x6_2).length : Int) == 0) = false := beq_eq_false_iff_ne.mpr c21
 have c21b1 : (((rd_L8 l1 x6_2).length : Int) != 0) = true := bne_iff_ne.mpr c21
 have c21b2 : ¬ ((rd_L8 l1 x6_2) = []) := fun h_ => c21 (by rw [h_]; rfl)
 obtain ⟨y512, hy512⟩ : ∃ y_ : List Int, y_ = (([] : List Int)) := ⟨_, rfl⟩
 replace H : (if y512.length + (rd_L8 l1 x6_2).length < 140737488355328 then ((some (y512 ++ (rd_L8 l1 x6_2) : List Int)).bind fun y515 => ((herbariumlaw0_Within.f (wrap64 ((wrap64 (x6_2 * 7)) + (wrap64 ((l0_2.length : Int) * 3)))) (y515.length : Int)).bind fun t518 => (if 0 ≤ t518 then (if t518 < (y515.length : Int) then ((herbariumref1_List_Pack.f kj13 (y515.set (t518 : Int).toNat ((1 - (rd y515 t518)) % 256))).bind fun bt521 => (if t518 ≤ ((rd_L8 l1 x6_2).length : Int) then ((herbariumref1_List_Pack.f kj13 ((rd_L8 l1 x6_2).take (t518 : Int).toNat)).bind fun bt524 => ((some (([] : List Int) : List Int)).bind fun y526 => (if y526.length + (rd_L8 l1 x6_2).length < 140737488355328 then ((some (y526 ++ (rd_L8 l1 x6_2) : List Int)).bind fun y529 => ((some (([1, 0, 1] : List Int) : List Int)).bind fun y532 => (if y529.length + y532.length < 140737488355328 then ((herbariumref1_List_Pack.f kj13 (y529 ++ y532)).bind fun bt538 => ((some (([(⟨bt521.1, bt521.2⟩ : S27), (⟨bt524.1, bt524.2⟩ : S27), (⟨bt538.1, bt538.2⟩ : S27)] : List (S27)) : List (S27))).bind fun y540 => (if y509.length + y540.length < 5864062014805 then (herbariumlaw3_Texts.l0 kj13 l1 (y509 ++ y540) (wrap64 (x6_2 + 1)) l0_0 l0_1 l0_2) else (none)))) else (none)))) else (none)))) else (none))) else (none)) else (none)))) else (none)) = some r := by first | (rw [hy512]; with_reducible exact H) | (have H2_ := (Option.bind_some _ _).symm.trans H; rw [hy512]; with_reducible exact H2_) | (have H2_ := (Option.bind_some _ _).symm.trans H; with_reducible exact H2_) | with_reducible exact H | (rw [hy512]; exact H) | exact H
 have Ny512 := ak hy512
 clear hy512
 by_cases c24 : y512.length + (rd_L8 l1 x6_2).length < 140737488355328
 rotate_left
 ·
  rw [if_neg c24] at H
  exact absurd H (by simp)
 rw [if_pos c24] at H
 have LMc24 := ak c24
 clear c24
 obtain ⟨y515, hy515⟩ : ∃ y_ : List Int, y_ = (y512 ++ (rd_L8 l1 x6_2)) := ⟨_, rfl⟩
 replace H : ((herbariumlaw0_Within.f (wrap64 ((wrap64 (x6_2 * 7)) + (wrap64 ((l0_2.length : Int) * 3)))) (y515.length : Int)).bind fun t518 => (if 0 ≤ t518 then (if t518 < (y515.length : Int) then ((herbariumref1_List_Pack.f kj13 (y515.set (t518 : Int).toNat ((1 - (rd y515 t518)) % 256))).bind fun bt521 => (if t518 ≤ ((rd_L8 l1 x6_2).length : Int) then ((herbariumref1_List_Pack.f kj13 ((rd_L8 l1 x6_2).take (t518 : Int).toNat)).bind fun bt524 => ((some (([] : List Int) : List Int)).bind fun y526 => (if y526.length + (rd_L8 l1 x6_2).length < 140737488355328 then ((some (y526 ++ (rd_L8 l1 x6_2) : List Int)).bind fun y529 => ((some (([1, 0, 1] : List Int) : List Int)).bind fun y532 => (if y529.length + y532.length < 140737488355328 then ((herbariumref1_List_Pack.f kj13 (y529 ++ y532)).bind fun bt538 => ((some (([(⟨bt521.1, bt521.2⟩ : S27), (⟨bt524.1, bt524.2⟩ : S27), (⟨bt538.1, bt538.2⟩ : S27)] : List (S27)) : List (S27))).bind fun y540 => (if y509.length + y540.length < 5864062014805 then (herbariumlaw3_Texts.l0 kj13 l1 (y509 ++ y540) (wrap64 (x6_2 + 1)) l0_0 l0_1 l0_2) else (none)))) else (none)))) else (none)))) else (none))) else (none)) else (none))) = some r := by first | (rw [hy515]; with_reducible exact H) | (have H2_ := (Option.bind_some _ _).symm.trans H; rw [hy515]; with_reducible exact H2_) | (have H2_ := (Option.bind_some _ _).symm.trans H; with_reducible exact H2_) | with_reducible exact H | (rw [hy515]; exact H) | exact H
 have Ny515 := ak hy515
 clear hy515
 replace H := Option.bind_eq_some_iff.mp H
 obtain ⟨t518, A250, H⟩ := H
 try dsimp only at H
 have A25 := ak A250
 clear A250
 by_cases c26 : 0 ≤ t518
 rotate_left
 ·
  rw [if_neg c26] at H
  exact absurd H (by simp)
 rw [if_pos c26] at H
 have c26b0 : decide (0 ≤ t518) = true := decide_eq_true c26
 clear c26
 by_cases c27 : t518 < (y515.length : Int)
 rotate_left
 ·
  rw [if_neg c27] at H
  exact absurd H (by simp)
 rw [if_pos c27] at H
 have c27b0 : decide (t518 < (y515.length : Int)) = true := decide_eq_true c27
 clear c27
 obtain ⟨y520, hy520⟩ : ∃ y_ : List Int, y_ = (y515.set (t518 : Int).toNat ((1 - (rd y515 t518)) % 256)) := ⟨_, rfl⟩
 replace H : ((herbariumref1_List_Pack.f kj13 y520).bind fun bt521 => (if t518 ≤ ((rd_L8 l1 x6_2).length : Int) then ((herbariumref1_List_Pack.f kj13 ((rd_L8 l1 x6_2).take (t518 : Int).toNat)).bind fun bt524 => ((some (([] : List Int) : List Int)).bind fun y526 => (if y526.length + (rd_L8 l1 x6_2).length < 140737488355328 then ((some (y526 ++ (rd_L8 l1 x6_2) : List Int)).bind fun y529 => ((some (([1, 0, 1] : List Int) : List Int)).bind fun y532 => (if y529.length + y532.length < 140737488355328 then ((herbariumref1_List_Pack.f kj13 (y529 ++ y532)).bind fun bt538 => ((some (([(⟨bt521.1, bt521.2⟩ : S27), (⟨bt524.1, bt524.2⟩ : S27), (⟨bt538.1, bt538.2⟩ : S27)] : List (S27)) : List (S27))).bind fun y540 => (if y509.length + y540.length < 5864062014805 then (herbariumlaw3_Texts.l0 kj13 l1 (y509 ++ y540) (wrap64 (x6_2 + 1)) l0_0 l0_1 l0_2) else (none)))) else (none)))) else (none)))) else (none))) = some r := by first | (rw [hy520]; with_reducible exact H) | (have H2_ := (Option.bind_some _ _).symm.trans H; rw [hy520]; with_reducible exact H2_) | (have H2_ := (Option.bind_some _ _).symm.trans H; with_reducible exact H2_) | with_reducible exact H | (rw [hy520]; exact H) | exact H
 have Ny520 := ak hy520
 clear hy520
 replace H := Option.bind_eq_some_iff.mp H
 obtain ⟨⟨t521, t522⟩, A290, H⟩ := H
 try dsimp only at H
 have A29 := ak A290
 clear A290
 have c30b0 := eq_true (of_decide_eq_true (by first | (with_reducible assumption) | assumption) : 0 ≤ t518)
 by_cases c31 : t518 ≤ ((rd_L8 l1 x6_2).length : Int)
 rotate_left
 ·
  rw [if_neg c31] at H
  exact absurd H (by simp)
 rw [if_pos c31] at H
 have c31b0 := eq_true c31
 have c31b1 : decide (t518 ≤ ((rd_L8 l1 x6_2).length : Int)) = true := decide_eq_true c31
 clear c31
 replace H := Option.bind_eq_some_iff.mp H
 obtain ⟨⟨t524, t525⟩, A320, H⟩ := H
 try dsimp only at H
 have A32 := ak A320
 clear A320
 obtain ⟨y526, hy526⟩ : ∃ y_ : List Int, y_ = (([] : List Int)) := ⟨_, rfl⟩
 replace H : (if y526.length + (rd_L8 l1 x6_2).length < 140737488355328 then ((some (y526 ++ (rd_L8 l1 x6_2) : List Int)).bind fun y529 => ((some (([1, 0, 1] : List Int) : List Int)).bind fun y532 => (if y529.length + y532.length < 140737488355328 then ((herbariumref1_List_Pack.f kj13 (y529 ++ y532)).bind fun bt538 => ((some (([(⟨t521, t522⟩ : S27), (⟨t524, t525⟩ : S27), (⟨bt538.1, bt538.2⟩ : S27)] : List (S27)) : List (S27))).bind fun y540 => (if y509.length + y540.length < 5864062014805 then (herbariumlaw3_Texts.l0 kj13 l1 (y509 ++ y540) (wrap64 (x6_2 + 1)) l0_0 l0_1 l0_2) else (none)))) else (none)))) else (none)) = some r := by first | (rw [hy526]; with_reducible exact H) | (have H2_ := (Option.bind_some _ _).symm.trans H; rw [hy526]; with_reducible exact H2_) | (have H2_ := (Option.bind_some _ _).symm.trans H; with_reducible exact H2_) | with_reducible exact H | (rw [hy526]; exact H) | exact H
 have Ny526 := ak hy526
 clear hy526
 by_cases c33 : y526.length + (rd_L8 l1 x6_2).length < 140737488355328
 rotate_left
 ·
  rw [if_neg c33] at H
  exact absurd H (by simp)
 rw [if_pos c33] at H
 have LMc33 := ak c33
 clear c33
 obtain ⟨y529, hy529⟩ : ∃ y_ : List Int, y_ = (y526 ++ (rd_L8 l1 x6_2)) := ⟨_, rfl⟩
 replace H : ((some (([1, 0, 1] : List Int) : List Int)).bind fun y532 => (if y529.length + y532.length < 140737488355328 then ((herbariumref1_List_Pack.f kj13 (y529 ++ y532)).bind fun bt538 => ((some (([(⟨t521, t522⟩ : S27), (⟨t524, t525⟩ : S27), (⟨bt538.1, bt538.2⟩ : S27)] : List (S27)) : List (S27))).bind fun y540 => (if y509.length + y540.length < 5864062014805 then (herbariumlaw3_Texts.l0 kj13 l1 (y509 ++ y540) (wrap64 (x6_2 + 1)) l0_0 l0_1 l0_2) else (none)))) else (none))) = some r := by first | (rw [hy529]; with_reducible exact H) | (have H2_ := (Option.bind_some _ _).symm.trans H; rw [hy529]; with_reducible exact H2_) | (have H2_ := (Option.bind_some _ _).symm.trans H; with_reducible exact H2_) | with_reducible exact H | (rw [hy529]; exact H) | exact H
 have Ny529 := ak hy529
 clear hy529
 obtain ⟨y532, hy532⟩ : ∃ y_ : List Int, y_ = (([1, 0, 1] : List Int)) := ⟨_, rfl⟩
 replace H : (if y529.length + y532.length < 140737488355328 then ((herbariumref1_List_Pack.f kj13 (y529 ++ y532)).bind fun bt538 => ((some (([(⟨t521, t522⟩ : S27), (⟨t524, t525⟩ : S27), (⟨bt538.1, bt538.2⟩ : S27)] : List (S27)) : List (S27))).bind fun y540 => (if y509.length + y540.length < 5864062014805 then (herbariumlaw3_Texts.l0 kj13 l1 (y509 ++ y540) (wrap64 (x6_2 + 1)) l0_0 l0_1 l0_2) else (none)))) else (none)) = some r := by first | (rw [hy532]; with_reducible exact H) | (have H2_ := (Option.bind_some _ _).symm.trans H; rw [hy532]; with_reducible exact H2_) | (have H2_ := (Option.bind_some _ _).symm.trans H; with_reducible exact H2_) | with_reducible exact H | (rw [hy532]; exact H) | exact H
 have Ny532 := ak hy532
 clear hy532
 by_cases c34 : y529.length + y532.length < 140737488355328
 rotate_left
 ·
  rw [if_neg c34] at H
  exact absurd H (by simp)
 rw [if_pos c34] at H
 have LMc34 := ak c34
 clear c34
 obtain ⟨y535, hy535⟩ : ∃ y_ : List Int, y_ = (y529 ++ y532) := ⟨_, rfl⟩
 replace H : ((herbariumref1_List_Pack.f kj13 y535).bind fun bt538 => ((some (([(⟨t521, t522⟩ : S27), (⟨t524, t525⟩ : S27), (⟨bt538.1, bt538.2⟩ : S27)] : List (S27)) : List (S27))).bind fun y540 => (if y509.length + y540.length < 5864062014805 then (herbariumlaw3_Texts.l0 kj13 l1 (y509 ++ y540) (wrap64 (x6_2 + 1)) l0_0 l0_1 l0_2) else (none)))) = some r := by first | (rw [hy535]; with_reducible exact H) | (have H2_ := (Option.bind_some _ _).symm.trans H; rw [hy535]; with_reducible exact H2_) | (have H2_ := (Option.bind_some _ _).symm.trans H; with_reducible exact H2_) | with_reducible exact H | (rw [hy535]; exact H) | exact H
 have Ny535 := ak hy535
 clear hy535
 replace H := Option.bind_eq_some_iff.mp H
 obtain ⟨⟨t538, t539⟩, A350, H⟩ := H
 try dsimp only at H
 have A35 := ak A350
 clear A350
 obtain ⟨y540, hy540⟩ : ∃ y_ : List (S27), y_ = (([(⟨t521, t522⟩ : S27), (⟨t524, t525⟩ : S27), (⟨t538, t539⟩ : S27)] : List (S27))) := ⟨_, rfl⟩
 replace H : (if y509.length + y540.length < 5864062014805 then (herbariumlaw3_Texts.l0 kj13 l1 (y509 ++ y540) (wrap64 (x6_2 + 1)) l0_0 l0_1 l0_2) else (none)) = some r := by first | (rw [hy540]; with_reducible exact H) | (have H2_ := (Option.bind_some _ _).symm.trans H; rw [hy540]; with_reducible exact H2_) | (have H2_ := (Option.bind_some _ _).symm.trans H; with_reducible exact H2_) | with_reducible exact H | (rw [hy540]; exact H) | exact H
 have Ny540 := ak hy540
 clear hy540
 by_cases c36 : y509.length + y540.length < 5864062014805
 rotate_left
 ·
  rw [if_neg c36] at H
  exact absurd H (by simp)
 rw [if_pos c36] at H
 have LMc36 := ak c36
 clear c36
 obtain ⟨y543, hy543⟩ : ∃ y_ : List (S27), y_ = (y509 ++ y540) := ⟨_, rfl⟩
 replace H : (herbariumlaw3_Texts.l0 kj13 l1 y543 (wrap64 (x6_2 + 1)) l0_0 l0_1 l0_2) = some r := by first | (rw [hy543]; with_reducible exact H) | (have H2_ := (Option.bind_some _ _).symm.trans H; rw [hy543]; with_reducible exact H2_) | (have H2_ := (Option.bind_some _ _).symm.trans H; with_reducible exact H2_) | with_reducible exact H | (rw [hy543]; exact H) | exact H
 have Ny543 := ak hy543
 clear hy543
 have H' := ak H
 clear H
 have p506 : 0 ≤ (x6_2 : Int) := of_decide_eq_true (by first | (with_reducible assumption) | assumption)
 have q506 : x6_2 < (l1.length : Int) := of_decide_eq_true (by first | (with_reducible assumption) | assumption)
 obtain ⟨ad506, A506_0, c506_0, e506, hx506_0, hl506_0, hi506_0⟩ := at_L8 HR1.out x6_2 p506 q506
 cases e506
 replace hx506_0 := (HB.out.cell (World.block_lt_of_cell? w _ hx506_0)).trans hx506_0
 have HR506_0 := ak hi506_0
 have HC506_0 := ak hl506_0
 clear hi506_0 hl506_0
 replace p506 := eq_true p506
 replace q506 := eq_true q506
 try go_wp2_with (first | ((with_reducible refine gate_callee (f := 56) rfl ?_); refine goesL_ (some 36) rfl rfl Try.func56 (by kernel_rfl) rfl #[.slice A506_0 (rd_L8 l1 x6_2).length c506_0] rfl (by (try simp only [List.map_toArray, List.map_cons, List.map_nil]); first | done | rfl | (simp only [List.length_drop, List.length_take]; rfl)) ?_; (with_reducible refine (herbariumref1_List_Pack.calls kj13 _ _ (rd_L8 l1 x6_2) t507 t508 _ ?side1 ?side2 A19.out).mono ?_); (case side1 => exact uc (Kd.C_below HR506_0.out HB.out)); (case side2 => exact HC506_0.out); rintro e w37 ⟨rfl, hb⟩; refine ⟨_, rfl, ?_⟩; have n0_ := ak (Kd.R_below (ur <| HO_5.out) hb); have n1_ := ak (blk_below (g := gb496) (o := .cells #[.slice A0_0 l0_0.length c0_0, .slice A0_1 l0_1.length c0_1, .slice A0_2 l0_2.length c0_2] 78 (0, 0)) (ub BK496.out) hb); have n2_ := ak (below_step (by repeat with_reducible first | exact HB.out | apply b1 | apply b2 | apply b3 | refine b4 ?_ GE496.out) hb); clear HO_5; clear BK496; clear HB; have HO_5 := n0_; have BK496 := n1_; have HB := n2_; clear n0_ n1_ n2_; (try clear hb); (try clear hb2); (try clear hk); (try clear hi)) | ((with_reducible refine gate_builtin (b := .append) (xs := #[.tmp 34, .tmp 37]) rfl ?_); at_builtin; refine Kd.R_append k27 (w0 := w) w.heap.size rfl (.tmp 34) (.tmp 37) 22 27 (.agg #[(.string ⟨#[]⟩), (.int .i64 0)]) 24 rfl Try.underlying22 info27 rfl (by decide) (by omega) u5 x5_2 (⟨t507, t508⟩ : S27) [.string t507, .int .i64 t508] (fun _ => True) (fun _ => False) rfl rfl ?aP (fun _ hk => hk.elim) ?aF ?aO ?aB ?aS ?aL ?_; (case aP => exact k27_mkM _ _ _ (⟨t507, t508⟩ : S27)); (case aB => exact (by repeat with_reducible first | exact HB.out | apply b1 | apply b2 | apply b3 | refine b4 ?_ GE496.out)); (case aF => exact (fun _ _ => trivial)); (case aO => exact (ur <| HO_5.out)); (case aS => exact (below_size (by repeat with_reducible first | exact HB.out | apply b1 | apply b2 | apply b3 | refine b4 ?_ GE496.out))); (case aL => have := LMc20.out; omega); intro v510 w38 ho hb hg hat; rw [← Ny509.out] at ho; have n0_ := ak (blk_grown (g := gb496) (o := .cells #[.slice A0_0 l0_0.length c0_0, .slice A0_1 l0_1.length c0_1, .slice A0_2 l0_2.length c0_2] 78 (0, 0)) (ub BK496.out) hg (Kd.R_ne HO_5.out BK496.out (by decide))); have n1_ := ak (hb); have n2_ := ak (ho); clear BK496; clear HB; clear HO_5; have BK496 := n0_; have HB := n1_; have HO511 := n2_; clear n0_ n1_ n2_; clear ho hb hg hat) | ((with_reducible refine gate_dst (N := 42) rfl ?_); refine Kd.R_lit (Kd.int .u8) _ 5 ?hg (N := 42) ?hd (xs := ([] : List Int)) (inner := []) (ok := fun _ => True) (okp := fun _ => True) ?hr ?hp (fun _ hk => hk) trivial (Below.refl _ _) (Nat.le_refl _) (by simp) ?_; (case hd => rfl); (case hg => rfl); (case hr => first | (go_simp; done) | (go_simp; rfl)); (case hp => exact (Reps.none _ _)); intro v513 w39 ho40 hb hg_ hnew_; clear hg_ hnew_; (first | rw [← Ny512.out] at ho40 | (simp only [Int.reduceToNat] at ho40; rw [← Ny512.out] at ho40)); have n0_ := ak (Kd.R_below (ur <| HO511.out) hb); have n1_ := ak (Kd.R_lower ho40 (below_size (by repeat with_reducible first | exact HB.out | apply b1 | apply b2 | apply b3 | refine b4 ?_ GE496.out))); have n2_ := ak (blk_below (g := gb496) (o := .cells #[.slice A0_0 l0_0.length c0_0, .slice A0_1 l0_1.length c0_1, .slice A0_2 l0_2.length c0_2] 78 (0, 0)) (ub BK496.out) hb); have n3_ := ak (below_step (by repeat with_reducible first | exact HB.out | apply b1 | apply b2 | apply b3 | refine b4 ?_ GE496.out) hb); clear HO511; clear BK496; clear HB; have HO511 := n0_; have HO514 := n1_; have BK496 := n2_; have HB := n3_; clear n0_ n1_ n2_ n3_; clear hb ho40) | ((with_reducible refine gate_builtin (b := .append) (xs := #[.tmp 42, .tmp 43]) rfl ?_); at_builtin; refine Kd.R_append_rows (Kd.int .u8) (w0 := w) w.heap.size rfl (.tmp 42) (.tmp 43) 64 5 (.int .u8 0) 1 rfl Try.underlying64 info5 rfl (by decide) (by omega) v513 y512 (rd_L8 l1 x6_2) _ _ _ (fun _ => True) (fun _ => False) rfl rfl ?aO ?aR (fun _ _ h => h) (fun _ h => h.elim) ?aF ?aB ?aS ?aL ?_; (case aR => exact uc (Kd.C_below HR506_0.out HB.out)); (case aB => exact (by repeat with_reducible first | exact HB.out | apply b1 | apply b2 | apply b3 | refine b4 ?_ GE496.out)); (case aF => exact (fun _ _ => trivial)); (case aO => exact (ur <| HO514.out)); (case aS => exact (below_size (by repeat with_reducible first | exact HB.out | apply b1 | apply b2 | apply b3 | refine b4 ?_ GE496.out))); (case aL => have := LMc24.out; omega); intro v516 w41 ho hb hg hat; rw [← Ny515.out] at ho; have n0_ := ak (blk_grown (g := gb496) (o := .cells #[.slice A0_0 l0_0.length c0_0, .slice A0_1 l0_1.length c0_1, .slice A0_2 l0_2.length c0_2] 78 (0, 0)) (ub BK496.out) hg (Kd.R_ne HO514.out BK496.out (by decide))); have n1_ := ak (Kd.R_over' (ur <| HO511.out) (Kd.R_typed (ur <| HO514.out)) (by decide) hg); have n2_ := ak (hb); have n3_ := ak (ho); clear BK496; clear HO511; clear HB; clear HO514; have BK496 := n0_; have HO511 := n1_; have HB := n2_; have HO517 := n3_; clear n0_ n1_ n2_ n3_; clear ho hb hg hat; have hcz42_0 : w41.cell? ⟨gb496, 0, none⟩ = some (.slice A0_0 l0_0.length c0_0) := (blk_cell BK496.out 0).trans rfl; have hcz42_1 : w41.cell? ⟨gb496, 1, none⟩ = some (.slice A0_1 l0_1.length c0_1) := (blk_cell BK496.out 1).trans rfl; have hcz42_2 : w41.cell? ⟨gb496, 2, none⟩ = some (.slice A0_2 l0_2.length c0_2) := (blk_cell BK496.out 2).trans rfl; have hfz42_0 := blk_frozen BK496.out 0; have hfz42_1 := blk_frozen BK496.out 1; have hfz42_2 := blk_frozen BK496.out 2; obtain ⟨Ao43, co43, eo43⟩ := Kd.R_slice HO517.out; subst eo43) | ((with_reducible refine gate_callee (f := 41) rfl ?_); refine goesL_ (some 54) rfl rfl Try.func41 (by kernel_rfl) rfl #[.int .i64 (wrap64 ((wrap64 (x6_2 * 7)) + (wrap64 ((l0_2.length : Int) * 3)))), .int .i64 (y515.length : Int)] rfl (by (try simp only [List.map_toArray, List.map_cons, List.map_nil]); first | done | rfl | (simp only [List.length_drop, List.length_take]; rfl)) ?_; (with_reducible refine (herbariumlaw0_Within.calls (wrap64 ((wrap64 (x6_2 * 7)) + (wrap64 ((l0_2.length : Int) * 3)))) (y515.length : Int) t518 _ A25.out).mono ?_); rintro e w' ⟨rfl, ⟨nd, rfl⟩⟩; refine ⟨_, rfl, ?_⟩; (try (rw [drewN_self w41]; generalize hq_ : World.drewN w41 _ = w41; have n0_ : Aside0 (Kd.R k27 27 w41 w.heap.size (fun _ => True) v510 y509) := ⟨by rw [← hq_]; exact (ur <| HO511.out)⟩; have n1_ : Aside0 (Kd.R (Kd.int .u8) 5 w41 w.heap.size (fun _ => True) (.slice Ao43 y515.length co43) y515) := ⟨by rw [← hq_]; exact (ur <| HO517.out)⟩; have n2_ : Aside0 (w41.heap[gb496]? = some (.cells #[.slice A0_0 l0_0.length c0_0, .slice A0_1 l0_1.length c0_1, .slice A0_2 l0_2.length c0_2] 78 (0, 0))) := ⟨by rw [← hq_]; exact (ub BK496.out)⟩; have n3_ : Aside0 (Below w.heap.size w w41) := ⟨by rw [← hq_]; exact (by repeat with_reducible first | exact HB.out | apply b1 | apply b2 | apply b3 | refine b4 ?_ GE496.out)⟩; clear HO511 HO517 BK496 HB hq_; have HO511 := n0_; have HO517 := n1_; have BK496 := n2_; have HB := n3_; clear n0_ n1_ n2_ n3_)); have p519 : 0 ≤ (t518 : Int) := of_decide_eq_true (by first | (with_reducible assumption) | assumption); have q519 : t518 < (y515.length : Int) := of_decide_eq_true (by first | (with_reducible assumption) | assumption); obtain ⟨ad519, e519, hx519_0⟩ := Kd.at_int (Kd.R_reads' HO517.out).2.2 t518 p519 q519; cases e519; replace p519 := eq_true p519; replace q519 := eq_true q519; have p28 : 0 ≤ (t518 : Int) := of_decide_eq_true (by first | (with_reducible assumption) | assumption); have q28 : (t518 : Int) < ((y515.length : Int) : Int) := of_decide_eq_true (by first | (with_reducible assumption) | assumption); obtain ⟨go28, co28, eo28, gb28, gl28, cl28, HG28⟩ := Kd.R_form HO517.out (by omega); (first | cases eo28 | (injection eo28 with ea_ en_ ec_; (first | subst ea_ | (injection ea_ with ea_; subst ea_)); subst ec_; clear en_)); have GB28 := ak gb28; have GG28 := ak HG28; clear gb28 gl28 HG28; (first | simp only [add_plain] at hx519_0 | skip); obtain ⟨hx28_0, hf28_0⟩ := Kd.R_celln 0 HO517.out (t518 : Int) p28 q28; replace p28 := eq_true p28; replace q28 := eq_true q28; obtain ⟨hy44_, hz44_⟩ := Kd.R_celln 0 HO517.out (t518 : Int) (of_decide_eq_true (by first | (with_reducible assumption) | assumption)) (of_decide_eq_true (by first | (with_reducible assumption) | assumption)); have HP44 := Kd.R_putg HO517.out (t518 : Int) ((1 - (rd y515 t518)) % 256)) | ((with_reducible refine gate_store (t := 5) (p := 62) rfl ?_); refine store_event (t := 5) (p := 62) (v := ?vo_w45) (w1 := (w41.setCell ⟨go28, (t518 : Int).toNat, none⟩ (.int .u8 ((1 - (rd y515 t518)) % 256)))) ?hg ?ho ?hn ?hr ?_; (case ho => rfl); (case hg => rfl); (case hn => rfl); (case hr => first | (go_simp; done) | (go_simp; rfl)); intro w45 hw; have hg : w41.grownBy w45 (some go28) := (by rw [hw]; exact HP44.2); have hp_ : Kd.R (Kd.int .u8) 5 w45 w.heap.size (fun _ => True) (.slice (some ⟨go28, 0, none⟩) y515.length co43) y520 := (by rw [hw, Ny520.out]; exact HP44.1); clear HP44; have n0_ := ak (blk_grown (g := gb496) (o := .cells #[.slice A0_0 l0_0.length c0_0, .slice A0_1 l0_1.length c0_1, .slice A0_2 l0_2.length c0_2] 78 (0, 0)) (ub BK496.out) hg (Kd.R_ne HO517.out BK496.out (by decide))); have n1_ := ak (Kd.R_over' (v := (.slice (some ⟨go28, 0, none⟩) y515.length co43)) (ur <| HO511.out) (Kd.R_typed HO517.out) (by decide) hg); have n2_ := ak (hp_); have n3_ := ak ((by rw [hw]; exact below_set (HB.out) GB28.out : Below w.heap.size w w45)); clear BK496; clear HO511; clear HO517; clear HB; have BK496 := n0_; have HO511 := n1_; have HO517 := n2_; have HB := n3_; clear n0_ n1_ n2_ n3_; clear hg hw hp_; obtain ⟨Ao46, co46, eo46⟩ := Kd.R_slice HO511.out; subst eo46))
 have n0_ := ak (Kd.R_drew HO511.out)
 have n1_ := ak (Kd.R_drew HO517.out)
 have n2_ := ak (blk_drew BK496.out)
 have n3_ := ak (below_drew1 HB.out)
 clear HO511 HO517 BK496 HB
 have HO511 := n0_; have HO517 := n1_; have BK496 := n2_; have HB := n3_
 clear n0_ n1_ n2_ n3_
 obtain ⟨i048, hi048, _, hsz48, _⟩ := info_parts info5
 obtain ⟨hcut48, hA48, hC48⟩ := print_take_of (P := Try.prog) (Value.int .u8) 0 64 5 .i64 Try.underlying64 hi048 hsz48 A506_0 c506_0 (rd_L8 l1 x6_2) t518 (of_decide_eq_true (by first | (with_reducible assumption) | assumption)) (of_decide_eq_true (by first | (with_reducible assumption) | assumption)) HC506_0.out
 have HR523 := ak (Kd.C_of_reads (h1 := fun _ => rfl) (hA48 _ (Kd.reads_of_C HR506_0.out)))
 have HC523 := ak hC48
 clear hA48 hC48 hi048 hsz48
 refine start_ (n := 16) (S := fun w' => True) (ds := []) #[false, false, false, false, false, false, false, false, false, false, false, false, false, false, false, false] (by kernel_rfl) rfl rfl trivial (fun hHeld => ?_); refine with_tabW herbariumlaw3_Texts.tab13 herbariumlaw3_Texts.bits13 (fun HT_ HW_ => ?_)
 generalize w45.drew = w47 at HO511 HO517 BK496 HB HR523 hHeld ⊢
 refine pure_ (i := 0) (N := some 63) (v := ?_) (a' := ?_) #[true, false, false, false, false, false, false, false, false, false, false, false, false, false, false, false] rfl rfl (any_of HT_.out (by kernel_rfl)) (fun _ _ _ h => h) (Or.inl ⟨by rfl, ?_⟩) ?_ ?_
 rotate_left
 ·
  intro w'
  go_simp
  with_reducible rfl
 rotate_left
 ·
  simp only [Act.put, s1, s2, s3, i64_w, i32_w]
  rfl
 refine pure_ (i := 1) (N := some 64) (v := ?_) (a' := ?_) #[true, true, false, false, false, false, false, false, false, false, false, false, false, false, false, false] rfl rfl (any_of HT_.out (by kernel_rfl)) (fun _ _ _ h => h) (Or.inl ⟨by rfl, ?_⟩) ?_ ?_
 rotate_left
 ·
  intro w'
  go_simp
  with_reducible rfl
 rotate_left
 ·
  simp only [Act.put, s1, s2, s3, i64_w, i32_w]
  rfl
 refine pure_ (i := 3) (N := some 66) (v := ?_) (a' := ?_) #[true, true, false, true, false, false, false, false, false, false, false, false, false, false, false, false] rfl rfl (any_of HT_.out (by kernel_rfl)) (fun _ _ _ h => h) (Or.inl ⟨by rfl, ?_⟩) ?_ ?_
 rotate_left
 ·
  intro w'
  go_simp
  with_reducible rfl
 rotate_left
 ·
  simp only [Act.put, s1, s2, s3, i64_w, i32_w]
  rfl
 refine pure_ (i := 4) (N := some 67) (v := ?_) (a' := ?_) #[true, true, false, true, true, false, false, false, false, false, false, false, false, false, false, false] rfl rfl (any_of HT_.out (by kernel_rfl)) (fun _ _ _ h => h) (Or.inl ⟨by rfl, ?_⟩) ?_ ?_
 rotate_left
 ·
  intro w'
  go_simp
  with_reducible rfl
 rotate_left
 ·
  simp only [Act.put, s1, s2, s3, i64_w, i32_w]
  rfl
 refine pure_ (i := 5) (N := some 68) (v := ?_) (a' := ?_) #[true, true, false, true, true, true, false, false, false, false, false, false, false, false, false, false] rfl rfl (any_of HT_.out (by kernel_rfl)) (fun _ _ _ h => h) (Or.inl ⟨by rfl, ?_⟩) ?_ ?_
 rotate_left
 ·
  intro w'
  go_simp
  with_reducible rfl
 rotate_left
 ·
  simp only [Act.put, s1, s2, s3, i64_w, i32_w]
  rfl
 refine pure_ (i := 8) (N := some 71) (v := ?_) (a' := ?_) #[true, true, false, true, true, true, false, false, true, false, false, false, false, false, false, false] rfl rfl (any_of HT_.out (by kernel_rfl)) (fun _ _ _ h => h) (Or.inl ⟨by rfl, ?_⟩) ?_ ?_
 rotate_left
 ·
  intro w'
  go_simp
  with_reducible rfl
 rotate_left
 ·
  simp only [Act.put, s1, s2, s3, i64_w, i32_w]
  rfl
 refine join_ (σ := Value × Value × Value) 5 #[true, true, true, true, true, true, true, true, true, true, true, false, false, false, false, false] (fun s_ => [(65, .agg #[.string t521, .int .i64 t522]), (69, .agg #[.string t524, .int .i64 t525]), (70, s_.1), (72, s_.2.1), (73, s_.2.2)]) (fun s_ w' => (Kd.R k27 27 w' w.heap.size (fun _ => True) (.slice Ao46 y509.length co46) y509) ∧ (Kd.R (Kd.int .u8) 5 w' w.heap.size (fun k_ => some k_ ≠ (s_.2.1 : Value).ownBlock ∧ some k_ ≠ (s_.2.2 : Value).ownBlock) (.slice (some ⟨go28, 0, none⟩) y515.length co43) y520) ∧ (Kd.R (Kd.int .u8) 5 w' w.heap.size (fun k_ => some k_ ≠ (.slice (some ⟨go28, 0, none⟩) y515.length co43 : Value).ownBlock ∧ some k_ ≠ (s_.2.2 : Value).ownBlock) s_.2.1 y529) ∧ (Kd.R (Kd.int .u8) 5 w' w.heap.size (fun k_ => some k_ ≠ (.slice (some ⟨go28, 0, none⟩) y515.length co43 : Value).ownBlock ∧ some k_ ≠ (s_.2.1 : Value).ownBlock) s_.2.2 y532) ∧ (w'.heap[gb496]? = some (.cells #[.slice A0_0 l0_0.length c0_0, .slice A0_1 l0_1.length c0_1, .slice A0_2 l0_2.length c0_2] 78 (0, 0))) ∧ (Below w.heap.size w w')) ?_ ?_
 rotate_left
 ·
  intro hJ2_6_7_9_10
  refine join_ (σ := Value × Value) 6 #[true, true, true, true, true, true, true, true, true, true, false, false, false, false, false, false] (fun s_ => [(65, .agg #[.string t521, .int .i64 t522]), (69, .agg #[.string t524, .int .i64 t525]), (70, s_.1), (72, s_.2)]) (fun s_ w' => (Kd.R k27 27 w' w.heap.size (fun _ => True) (.slice Ao46 y509.length co46) y509) ∧ (Kd.R (Kd.int .u8) 5 w' w.heap.size (fun k_ => some k_ ≠ (s_.2 : Value).ownBlock) (.slice (some ⟨go28, 0, none⟩) y515.length co43) y520) ∧ (Kd.R (Kd.int .u8) 5 w' w.heap.size (fun k_ => some k_ ≠ (.slice (some ⟨go28, 0, none⟩) y515.length co43 : Value).ownBlock) s_.2 y529) ∧ (w'.heap[gb496]? = some (.cells #[.slice A0_0 l0_0.length c0_0, .slice A0_1 l0_1.length c0_1, .slice A0_2 l0_2.length c0_2] 78 (0, 0))) ∧ (Below w.heap.size w w')) ?_ ?_
  rotate_left
  ·
   intro hJ2_6_7_9
   refine join_ (σ := Value × Value) 6 #[true, true, true, true, true, true, true, true, true, false, true, false, false, false, false, false] (fun s_ => [(65, .agg #[.string t521, .int .i64 t522]), (69, .agg #[.string t524, .int .i64 t525]), (70, s_.1), (73, s_.2)]) (fun s_ w' => (Kd.R k27 27 w' w.heap.size (fun _ => True) (.slice Ao46 y509.length co46) y509) ∧ (Kd.R (Kd.int .u8) 5 w' w.heap.size (fun k_ => some k_ ≠ (s_.1 : Value).ownBlock ∧ some k_ ≠ (s_.2 : Value).ownBlock) (.slice (some ⟨go28, 0, none⟩) y515.length co43) y520) ∧ (Kd.R (Kd.int .u8) 5 w' w.heap.size (fun k_ => some k_ ≠ (.slice (some ⟨go28, 0, none⟩) y515.length co43 : Value).ownBlock ∧ some k_ ≠ (s_.2 : Value).ownBlock) s_.1 y526) ∧ (Kd.R (Kd.int .u8) 5 w' w.heap.size (fun k_ => some k_ ≠ (.slice (some ⟨go28, 0, none⟩) y515.length co43 : Value).ownBlock ∧ some k_ ≠ (s_.1 : Value).ownBlock) s_.2 y532) ∧ (w'.heap[gb496]? = some (.cells #[.slice A0_0 l0_0.length c0_0, .slice A0_1 l0_1.length c0_1, .slice A0_2 l0_2.length c0_2] 78 (0, 0))) ∧ (Below w.heap.size w w')) ?_ ?_
   rotate_left
   ·
    intro hJ2_6_7_10
    refine join_ (σ := Value) 7 #[true, true, true, true, true, true, true, true, true, false, false, false, false, false, false, false] (fun s_ => [(65, .agg #[.string t521, .int .i64 t522]), (69, .agg #[.string t524, .int .i64 t525]), (70, s_)]) (fun s_ w' => (Kd.R k27 27 w' w.heap.size (fun _ => True) (.slice Ao46 y509.length co46) y509) ∧ (Kd.R (Kd.int .u8) 5 w' w.heap.size (fun k_ => some k_ ≠ (s_ : Value).ownBlock) (.slice (some ⟨go28, 0, none⟩) y515.length co43) y520) ∧ (Kd.R (Kd.int .u8) 5 w' w.heap.size (fun k_ => some k_ ≠ (.slice (some ⟨go28, 0, none⟩) y515.length co43 : Value).ownBlock) s_ y526) ∧ (w'.heap[gb496]? = some (.cells #[.slice A0_0 l0_0.length c0_0, .slice A0_1 l0_1.length c0_1, .slice A0_2 l0_2.length c0_2] 78 (0, 0))) ∧ (Below w.heap.size w w')) ?_ ?_
    rotate_left
    ·
     intro hJ2_6_7
     refine join_ (σ := Value) 7 #[true, true, true, true, true, true, true, false, true, false, true, false, false, false, false, false] (fun s_ => [(65, .agg #[.string t521, .int .i64 t522]), (69, .agg #[.string t524, .int .i64 t525]), (73, s_)]) (fun s_ w' => (Kd.R k27 27 w' w.heap.size (fun _ => True) (.slice Ao46 y509.length co46) y509) ∧ (Kd.R (Kd.int .u8) 5 w' w.heap.size (fun k_ => some k_ ≠ (s_ : Value).ownBlock) (.slice (some ⟨go28, 0, none⟩) y515.length co43) y520) ∧ (Kd.R (Kd.int .u8) 5 w' w.heap.size (fun k_ => some k_ ≠ (.slice (some ⟨go28, 0, none⟩) y515.length co43 : Value).ownBlock) s_ y532) ∧ (w'.heap[gb496]? = some (.cells #[.slice A0_0 l0_0.length c0_0, .slice A0_1 l0_1.length c0_1, .slice A0_2 l0_2.length c0_2] 78 (0, 0))) ∧ (Below w.heap.size w w')) ?_ ?_
     rotate_left
     ·
      intro hJ2_6_10
      refine join_ (σ := Value × Value) 7 #[true, true, true, true, true, true, false, true, true, false, true, false, false, false, false, false] (fun s_ => [(65, .agg #[.string t521, .int .i64 t522]), (70, s_.1), (73, s_.2)]) (fun s_ w' => (Kd.R k27 27 w' w.heap.size (fun _ => True) (.slice Ao46 y509.length co46) y509) ∧ (Kd.R (Kd.int .u8) 5 w' w.heap.size (fun k_ => some k_ ≠ (s_.1 : Value).ownBlock ∧ some k_ ≠ (s_.2 : Value).ownBlock) (.slice (some ⟨go28, 0, none⟩) y515.length co43) y520) ∧ (Kd.R (Kd.int .u8) 5 w' w.heap.size (fun k_ => some k_ ≠ (.slice (some ⟨go28, 0, none⟩) y515.length co43 : Value).ownBlock ∧ some k_ ≠ (s_.2 : Value).ownBlock) s_.1 y526) ∧ (Kd.R (Kd.int .u8) 5 w' w.heap.size (fun k_ => some k_ ≠ (.slice (some ⟨go28, 0, none⟩) y515.length co43 : Value).ownBlock ∧ some k_ ≠ (s_.1 : Value).ownBlock) s_.2 y532) ∧ (w'.heap[gb496]? = some (.cells #[.slice A0_0 l0_0.length c0_0, .slice A0_1 l0_1.length c0_1, .slice A0_2 l0_2.length c0_2] 78 (0, 0))) ∧ (Below w.heap.size w w')) ?_ ?_
      rotate_left
      ·
       intro hJ2_7_10
       refine join_ (σ := Unit) 8 #[true, true, true, true, true, true, true, false, true, false, false, false, false, false, false, false] (fun s_ => [(65, .agg #[.string t521, .int .i64 t522]), (69, .agg #[.string t524, .int .i64 t525])]) (fun s_ w' => (Kd.R k27 27 w' w.heap.size (fun _ => True) (.slice Ao46 y509.length co46) y509) ∧ (Kd.R (Kd.int .u8) 5 w' w.heap.size (fun _ => True) (.slice (some ⟨go28, 0, none⟩) y515.length co43) y520) ∧ (w'.heap[gb496]? = some (.cells #[.slice A0_0 l0_0.length c0_0, .slice A0_1 l0_1.length c0_1, .slice A0_2 l0_2.length c0_2] 78 (0, 0))) ∧ (Below w.heap.size w w')) ?_ ?_
       rotate_left
       ·
        intro hJ2_6
        refine join_ (σ := Value) 8 #[true, true, true, true, true, true, false, true, true, false, false, false, false, false, false, false] (fun s_ => [(65, .agg #[.string t521, .int .i64 t522]), (70, s_)]) (fun s_ w' => (Kd.R k27 27 w' w.heap.size (fun _ => True) (.slice Ao46 y509.length co46) y509) ∧ (Kd.R (Kd.int .u8) 5 w' w.heap.size (fun k_ => some k_ ≠ (s_ : Value).ownBlock) (.slice (some ⟨go28, 0, none⟩) y515.length co43) y520) ∧ (Kd.R (Kd.int .u8) 5 w' w.heap.size (fun k_ => some k_ ≠ (.slice (some ⟨go28, 0, none⟩) y515.length co43 : Value).ownBlock) s_ y526) ∧ (w'.heap[gb496]? = some (.cells #[.slice A0_0 l0_0.length c0_0, .slice A0_1 l0_1.length c0_1, .slice A0_2 l0_2.length c0_2] 78 (0, 0))) ∧ (Below w.heap.size w w')) ?_ ?_
        rotate_left
        ·
         intro hJ2_7
         refine join_ (σ := Value) 8 #[true, true, true, true, true, true, false, false, true, false, true, false, false, false, false, false] (fun s_ => [(65, .agg #[.string t521, .int .i64 t522]), (73, s_)]) (fun s_ w' => (Kd.R k27 27 w' w.heap.size (fun _ => True) (.slice Ao46 y509.length co46) y509) ∧ (Kd.R (Kd.int .u8) 5 w' w.heap.size (fun k_ => some k_ ≠ (s_ : Value).ownBlock) (.slice (some ⟨go28, 0, none⟩) y515.length co43) y520) ∧ (Kd.R (Kd.int .u8) 5 w' w.heap.size (fun k_ => some k_ ≠ (.slice (some ⟨go28, 0, none⟩) y515.length co43 : Value).ownBlock) s_ y532) ∧ (w'.heap[gb496]? = some (.cells #[.slice A0_0 l0_0.length c0_0, .slice A0_1 l0_1.length c0_1, .slice A0_2 l0_2.length c0_2] 78 (0, 0))) ∧ (Below w.heap.size w w')) ?_ ?_
         rotate_left
         ·
          intro hJ2_10
          refine join_ (σ := Value × Value) 8 #[true, true, false, true, true, true, false, true, true, false, true, false, false, false, false, false] (fun s_ => [(70, s_.1), (73, s_.2)]) (fun s_ w' => (Kd.R k27 27 w' w.heap.size (fun _ => True) (.slice Ao46 y509.length co46) y509) ∧ (Kd.R (Kd.int .u8) 5 w' w.heap.size (fun k_ => some k_ ≠ (s_.1 : Value).ownBlock ∧ some k_ ≠ (s_.2 : Value).ownBlock) (.slice (some ⟨go28, 0, none⟩) y515.length co43) y520) ∧ (Kd.R (Kd.int .u8) 5 w' w.heap.size (fun k_ => some k_ ≠ (.slice (some ⟨go28, 0, none⟩) y515.length co43 : Value).ownBlock ∧ some k_ ≠ (s_.2 : Value).ownBlock) s_.1 y526) ∧ (Kd.R (Kd.int .u8) 5 w' w.heap.size (fun k_ => some k_ ≠ (.slice (some ⟨go28, 0, none⟩) y515.length co43 : Value).ownBlock ∧ some k_ ≠ (s_.1 : Value).ownBlock) s_.2 y532) ∧ (w'.heap[gb496]? = some (.cells #[.slice A0_0 l0_0.length c0_0, .slice A0_1 l0_1.length c0_1, .slice A0_2 l0_2.length c0_2] 78 (0, 0))) ∧ (Below w.heap.size w w')) ?_ ?_
          rotate_left
          ·
           intro hJ7_10
           refine join_ (σ := Unit) 9 #[true, true, true, true, true, true, false, false, true, false, false, false, false, false, false, false] (fun s_ => [(65, .agg #[.string t521, .int .i64 t522])]) (fun s_ w' => (Kd.R k27 27 w' w.heap.size (fun _ => True) (.slice Ao46 y509.length co46) y509) ∧ (Kd.R (Kd.int .u8) 5 w' w.heap.size (fun _ => True) (.slice (some ⟨go28, 0, none⟩) y515.length co43) y520) ∧ (w'.heap[gb496]? = some (.cells #[.slice A0_0 l0_0.length c0_0, .slice A0_1 l0_1.length c0_1, .slice A0_2 l0_2.length c0_2] 78 (0, 0))) ∧ (Below w.heap.size w w')) ?_ ?_
           rotate_left
           ·
            intro hJ2
            refine join_ (σ := Value) 9 #[true, true, false, true, true, true, false, true, true, false, false, false, false, false, false, false] (fun s_ => [(70, s_)]) (fun s_ w' => (Kd.R k27 27 w' w.heap.size (fun _ => True) (.slice Ao46 y509.length co46) y509) ∧ (Kd.R (Kd.int .u8) 5 w' w.heap.size (fun k_ => some k_ ≠ (s_ : Value).ownBlock) (.slice (some ⟨go28, 0, none⟩) y515.length co43) y520) ∧ (Kd.R (Kd.int .u8) 5 w' w.heap.size (fun k_ => some k_ ≠ (.slice (some ⟨go28, 0, none⟩) y515.length co43 : Value).ownBlock) s_ y526) ∧ (w'.heap[gb496]? = some (.cells #[.slice A0_0 l0_0.length c0_0, .slice A0_1 l0_1.length c0_1, .slice A0_2 l0_2.length c0_2] 78 (0, 0))) ∧ (Below w.heap.size w w')) ?_ ?_
            rotate_left
            ·
             intro hJ7
             refine join_ (σ := Value) 9 #[true, true, false, true, true, true, false, false, true, false, true, false, false, false, false, false] (fun s_ => [(73, s_)]) (fun s_ w' => (Kd.R k27 27 w' w.heap.size (fun _ => True) (.slice Ao46 y509.length co46) y509) ∧ (Kd.R (Kd.int .u8) 5 w' w.heap.size (fun k_ => some k_ ≠ (s_ : Value).ownBlock) (.slice (some ⟨go28, 0, none⟩) y515.length co43) y520) ∧ (Kd.R (Kd.int .u8) 5 w' w.heap.size (fun k_ => some k_ ≠ (.slice (some ⟨go28, 0, none⟩) y515.length co43 : Value).ownBlock) s_ y532) ∧ (w'.heap[gb496]? = some (.cells #[.slice A0_0 l0_0.length c0_0, .slice A0_1 l0_1.length c0_1, .slice A0_2 l0_2.length c0_2] 78 (0, 0))) ∧ (Below w.heap.size w w')) ?_ ?_
             rotate_left
             ·
              intro hJ10
              refine three_ (i := 2) (j := 7) (k := 10) (Ni := some 65) (Nj := some 70) (Nk := some 73) #[true, true, true, true, true, true, false, false, true, false, false, false, false, false, false, false] #[true, true, false, true, true, true, false, true, true, false, false, false, false, false, false, false] #[true, true, false, true, true, true, false, false, true, false, true, false, false, false, false, false] rfl rfl rfl rfl rfl rfl (three_of HT_.out (by kernel_rfl)) (by decide) (by decide) (by decide) (fun K hK => ?_) (fun K hK => ?_) (fun K hK => ?_)
              ·
               skip
               refine goes_ Try.func56 (by kernel_rfl) rfl #[.slice (some ⟨go28, 0, none⟩) y520.length co43] (by rfl) rfl rfl (by (try simp only [List.map_toArray, List.map_cons, List.map_nil]); first | done | (rw [show y520.length = y515.length from (Kd.R_reads' HO517.out).1.symm] <;> rfl) | rfl | (simp only [List.length_drop, List.length_take]; rfl)) ?_
               with_reducible refine (herbariumref1_List_Pack.calls kj13 _ _ y520 t521 t522 _ ?side1 ?side2 A29.out).mono ?_
               (case side1 => exact uc (Kd.R_reads' HO517.out).2.2)
               (case side2 => rw [show y520.length = y515.length from (Kd.R_reads' HO517.out).1.symm]; exact (Kd.R_reads' HO517.out).2.1)
               rintro e w49 ⟨rfl, hb⟩
               refine ⟨_, rfl, ?_⟩
               have n0_ := ak (Kd.R_below (ur <| HO511.out) hb)
               have n1_ := ak (Kd.R_below (ur <| HO517.out) hb)
               have n2_ := ak (blk_below (g := gb496) (o := .cells #[.slice A0_0 l0_0.length c0_0, .slice A0_1 l0_1.length c0_1, .slice A0_2 l0_2.length c0_2] 78 (0, 0)) (ub BK496.out) hb)
               have n3_ := ak (below_step (by repeat with_reducible first | exact HB.out | apply b1 | apply b2 | apply b3 | refine b4 ?_ GE496.out) hb)
               clear HO511 HO517 BK496 HB
               have HO511 := n0_; have HO517 := n1_; have BK496 := n2_; have HB := n3_
               clear n0_ n1_ n2_ n3_
               (try clear hb); (try clear hb2); (try clear hk); (try clear hi)
               refine hK.out _ _ trivial (fun hHeld => ?_)
               clear hK K
               refine norm_ (a' := ?_) ?_ ?_
               rotate_left
               ·
                show Act.put _ (some 65) _ = _
                simp only [Act.put, s1, s2, s3, i64_w, i32_w]
                rfl
               exact norm_ (by first | (simp only [putAll, Act.put, s1, s2, s3]; done) | (simp only [putAll, Act.put, s1, s2, s3]; rfl)) (hJ2 () _ ⟨(ur <| HO511.out), (ur <| HO517.out), (ub BK496.out), (by repeat with_reducible first | exact HB.out | apply b1 | apply b2 | apply b3 | refine b4 ?_ GE496.out)⟩)
              ·
               skip
               refine Kd.R_lit_step (Kd.int .u8) _ 5 ?hg (N := 70) ?hd (xs := ([] : List Int)) (inner := []) (ok := fun _ => True) (okp := fun _ => True) ?hr ?hp (fun _ hk => hk) trivial (Below.refl _ _) (Nat.le_refl _) (by simp) ?_; (case hd => rfl); (case hg => rfl); (case hr => first | (go_simp; done) | (go_simp; rfl)); (case hp => exact (Reps.none _ _))
               intro v527 w49 ho50 hb hg_ hnew_
               clear hg_ hnew_
               (first | rw [← Ny526.out] at ho50 | (simp only [Int.reduceToNat] at ho50; rw [← Ny526.out] at ho50))
               have n0_ := ak (Kd.R_below (ur <| HO511.out) hb)
               have n1_ := ak (Kd.R_elder' (ur <| HO517.out) (Kd.R_base ho50) hb)
               have n2_ := ak (Kd.R_lower (Kd.R_new' ho50 (Kd.R_lt (ur <| HO517.out))) (below_size (by repeat with_reducible first | exact HB.out | apply b1 | apply b2 | apply b3 | refine b4 ?_ GE496.out)))
               have n3_ := ak (blk_below (g := gb496) (o := .cells #[.slice A0_0 l0_0.length c0_0, .slice A0_1 l0_1.length c0_1, .slice A0_2 l0_2.length c0_2] 78 (0, 0)) (ub BK496.out) hb)
               have n4_ := ak (below_step (by repeat with_reducible first | exact HB.out | apply b1 | apply b2 | apply b3 | refine b4 ?_ GE496.out) hb)
               clear HO511 HO517 BK496 HB
               have HO511 := n0_; have HO517 := n1_; have HO528 := n2_; have BK496 := n3_; have HB := n4_
               clear n0_ n1_ n2_ n3_ n4_ hb ho50
               refine hK.out _ _ trivial (fun hHeld => ?_)
               clear hK K
               refine norm_ (a' := ?_) ?_ ?_
               rotate_left
               ·
                show Act.put _ (some 70) _ = _
                simp only [Act.put, s1, s2, s3, i64_w, i32_w]
                rfl
               exact norm_ (by first | (simp only [putAll, Act.put, s1, s2, s3]; done) | (simp only [putAll, Act.put, s1, s2, s3]; rfl)) (hJ7 (v527) _ ⟨(ur <| HO511.out), (ur <| Kd.R_mono HO517.out (fun _ hk => hk.2)), (ur <| Kd.R_mono HO528.out (fun _ hk => hk.2)), (ub BK496.out), (by repeat with_reducible first | exact HB.out | apply b1 | apply b2 | apply b3 | refine b4 ?_ GE496.out)⟩)
              ·
               skip
               refine Kd.R_lit_step (Kd.int .u8) _ 5 ?hg (N := 73) ?hd (xs := ([1, 0, 1] : List Int)) (inner := [.int .u8 1, .int .u8 0, .int .u8 1]) (ok := fun _ => True) (okp := fun _ => True) ?hr ?hp (fun _ hk => hk) trivial (Below.refl _ _) (Nat.le_refl _) (by simp) ?_; (case hd => rfl); (case hg => rfl); (case hr => first | (go_simp; done) | (go_simp; rfl)); (case hp => exact (Reps.one (show Kd.M (Kd.int .u8) _ _ _ 1 [.int .u8 1] from rfl) (Reps.one (show Kd.M (Kd.int .u8) _ _ _ 0 [.int .u8 0] from rfl) (Reps.one (show Kd.M (Kd.int .u8) _ _ _ 1 [.int .u8 1] from rfl) (Reps.none _ _)))))
               intro v533 w49 ho50 hb hg_ hnew_
               clear hg_ hnew_
               (first | rw [← Ny532.out] at ho50 | (simp only [Int.reduceToNat] at ho50; rw [← Ny532.out] at ho50))
               have n0_ := ak (Kd.R_below (ur <| HO511.out) hb)
               have n1_ := ak (Kd.R_elder' (ur <| HO517.out) (Kd.R_base ho50) hb)
               have n2_ := ak (Kd.R_lower (Kd.R_new' ho50 (Kd.R_lt (ur <| HO517.out))) (below_size (by repeat with_reducible first | exact HB.out | apply b1 | apply b2 | apply b3 | refine b4 ?_ GE496.out)))
               have n3_ := ak (blk_below (g := gb496) (o := .cells #[.slice A0_0 l0_0.length c0_0, .slice A0_1 l0_1.length c0_1, .slice A0_2 l0_2.length c0_2] 78 (0, 0)) (ub BK496.out) hb)
               have n4_ := ak (below_step (by repeat with_reducible first | exact HB.out | apply b1 | apply b2 | apply b3 | refine b4 ?_ GE496.out) hb)
               clear HO511 HO517 BK496 HB
               have HO511 := n0_; have HO517 := n1_; have HO534 := n2_; have BK496 := n3_; have HB := n4_
               clear n0_ n1_ n2_ n3_ n4_ hb ho50
               refine hK.out _ _ trivial (fun hHeld => ?_)
               clear hK K
               refine norm_ (a' := ?_) ?_ ?_
               rotate_left
               ·
                show Act.put _ (some 73) _ = _
                simp only [Act.put, s1, s2, s3, i64_w, i32_w]
                rfl
               exact norm_ (by first | (simp only [putAll, Act.put, s1, s2, s3]; done) | (simp only [putAll, Act.put, s1, s2, s3]; rfl)) (hJ10 (v533) _ ⟨(ur <| HO511.out), (ur <| Kd.R_mono HO517.out (fun _ hk => hk.2)), (ur <| Kd.R_mono HO534.out (fun _ hk => hk.2)), (ub BK496.out), (by repeat with_reducible first | exact HB.out | apply b1 | apply b2 | apply b3 | refine b4 ?_ GE496.out)⟩)
             ·
              skip
              rintro v533 w51 ⟨h0_, h1_, h2_, h3_, h4_⟩
              have n0_ : Aside0 (Kd.R k27 27 w51 w.heap.size (fun _ => True) (.slice Ao46 y509.length co46) y509) := ⟨h0_⟩
              have n1_ : Aside0 (Kd.R (Kd.int .u8) 5 w51 w.heap.size (fun k_ => some k_ ≠ (v533 : Value).ownBlock) (.slice (some ⟨go28, 0, none⟩) y515.length co43) y520) := ⟨h1_⟩
              have n2_ : Aside0 (Kd.R (Kd.int .u8) 5 w51 w.heap.size (fun k_ => some k_ ≠ (.slice (some ⟨go28, 0, none⟩) y515.length co43 : Value).ownBlock) v533 y532) := ⟨h2_⟩
              have n3_ : Aside0 (w51.heap[gb496]? = some (.cells #[.slice A0_0 l0_0.length c0_0, .slice A0_1 l0_1.length c0_1, .slice A0_2 l0_2.length c0_2] 78 (0, 0))) := ⟨h3_⟩
              have n4_ : Aside0 (Below w.heap.size w w51) := ⟨h4_⟩
              clear HO511 HO517 BK496 HB h0_ h1_ h2_ h3_ h4_
              have HO511 := n0_; have HO517 := n1_; have HO534 := n2_; have BK496 := n3_; have HB := n4_
              clear n0_ n1_ n2_ n3_ n4_
              have hHeld := trivial
              refine norm_ (a' := ?_) ?_ ?_
              rotate_left
              ·
               simp only [putAll, Act.put, s1, s2, s3]
               rfl
              refine two_ (i := 2) (j := 7) (Ni := some 65) (Nj := some 70) #[true, true, true, true, true, true, false, false, true, false, true, false, false, false, false, false] #[true, true, false, true, true, true, false, true, true, false, true, false, false, false, false, false] rfl rfl rfl rfl (two_of HT_.out (by kernel_rfl)) (by decide) (by decide) (fun K hK => ?_) (fun K hK => ?_)
              ·
               skip
               refine goes_ Try.func56 (by kernel_rfl) rfl #[.slice (some ⟨go28, 0, none⟩) y520.length co43] (by rfl) rfl rfl (by (try simp only [List.map_toArray, List.map_cons, List.map_nil]); first | done | (rw [show y520.length = y515.length from (Kd.R_reads' HO517.out).1.symm] <;> rfl) | rfl | (simp only [List.length_drop, List.length_take]; rfl)) ?_
               with_reducible refine (herbariumref1_List_Pack.calls kj13 _ _ y520 t521 t522 _ ?side1 ?side2 A29.out).mono ?_
               (case side1 => exact uc (Kd.R_reads' HO517.out).2.2)
               (case side2 => rw [show y520.length = y515.length from (Kd.R_reads' HO517.out).1.symm]; exact (Kd.R_reads' HO517.out).2.1)
               rintro e w52 ⟨rfl, hb⟩
               refine ⟨_, rfl, ?_⟩
               have n0_ := ak (Kd.R_below (ur <| HO511.out) hb)
               have n1_ := ak (Kd.R_below (ur <| HO517.out) hb)
               have n2_ := ak (Kd.R_below (ur <| HO534.out) hb)
               have n3_ := ak (blk_below (g := gb496) (o := .cells #[.slice A0_0 l0_0.length c0_0, .slice A0_1 l0_1.length c0_1, .slice A0_2 l0_2.length c0_2] 78 (0, 0)) (ub BK496.out) hb)
               have n4_ := ak (below_step (by repeat with_reducible first | exact HB.out | apply b1 | apply b2 | apply b3 | refine b4 ?_ GE496.out) hb)
               clear HO511 HO517 HO534 BK496 HB
               have HO511 := n0_; have HO517 := n1_; have HO534 := n2_; have BK496 := n3_; have HB := n4_
               clear n0_ n1_ n2_ n3_ n4_
               (try clear hb); (try clear hb2); (try clear hk); (try clear hi)
               refine hK.out _ _ trivial (fun hHeld => ?_)
               clear hK K
               refine norm_ (a' := ?_) ?_ ?_
               rotate_left
               ·
                show Act.put _ (some 65) _ = _
                simp only [Act.put, s1, s2, s3, i64_w, i32_w]
                rfl
               exact norm_ (by first | (simp only [putAll, Act.put, s1, s2, s3]; done) | (simp only [putAll, Act.put, s1, s2, s3]; rfl)) (hJ2_10 (v533) _ ⟨(ur <| HO511.out), (ur <| HO517.out), (ur <| HO534.out), (ub BK496.out), (by repeat with_reducible first | exact HB.out | apply b1 | apply b2 | apply b3 | refine b4 ?_ GE496.out)⟩)
              ·
               skip
               refine Kd.R_lit_step (Kd.int .u8) _ 5 ?hg (N := 70) ?hd (xs := ([] : List Int)) (inner := []) (ok := fun _ => True) (okp := fun _ => True) ?hr ?hp (fun _ hk => hk) trivial (Below.refl _ _) (Nat.le_refl _) (by simp) ?_; (case hd => rfl); (case hg => rfl); (case hr => first | (go_simp; done) | (go_simp; rfl)); (case hp => exact (Reps.none _ _))
               intro v527 w52 ho53 hb hg_ hnew_
               clear hg_ hnew_
               (first | rw [← Ny526.out] at ho53 | (simp only [Int.reduceToNat] at ho53; rw [← Ny526.out] at ho53))
               have n0_ := ak (Kd.R_below (ur <| HO511.out) hb)
               have n1_ := ak (Kd.R_elder' (ur <| HO517.out) (Kd.R_base ho53) hb)
               have n2_ := ak (Kd.R_elder' (ur <| HO534.out) (Kd.R_base ho53) hb)
               have n3_ := ak (Kd.R_lower (Kd.R_new' (Kd.R_new' ho53 (Kd.R_lt (ur <| HO517.out))) (Kd.R_lt (ur <| HO534.out))) (below_size (by repeat with_reducible first | exact HB.out | apply b1 | apply b2 | apply b3 | refine b4 ?_ GE496.out)))
               have n4_ := ak (blk_below (g := gb496) (o := .cells #[.slice A0_0 l0_0.length c0_0, .slice A0_1 l0_1.length c0_1, .slice A0_2 l0_2.length c0_2] 78 (0, 0)) (ub BK496.out) hb)
               have n5_ := ak (below_step (by repeat with_reducible first | exact HB.out | apply b1 | apply b2 | apply b3 | refine b4 ?_ GE496.out) hb)
               clear HO511 HO517 HO534 BK496 HB
               have HO511 := n0_; have HO517 := n1_; have HO534 := n2_; have HO528 := n3_; have BK496 := n4_; have HB := n5_
               clear n0_ n1_ n2_ n3_ n4_ n5_ hb ho53
               refine hK.out _ _ trivial (fun hHeld => ?_)
               clear hK K
               refine norm_ (a' := ?_) ?_ ?_
               rotate_left
               ·
                show Act.put _ (some 70) _ = _
                simp only [Act.put, s1, s2, s3, i64_w, i32_w]
                rfl
               exact norm_ (by first | (simp only [putAll, Act.put, s1, s2, s3]; done) | (simp only [putAll, Act.put, s1, s2, s3]; rfl)) (hJ7_10 (v527, v533) _ ⟨(ur <| HO511.out), (ur <| Kd.R_mono HO517.out (fun _ hk => ⟨hk.2, hk.1⟩)), (ur <| Kd.R_mono HO528.out (fun _ hk => ⟨hk.1.2, hk.2⟩)), (ur <| HO534.out), (ub BK496.out), (by repeat with_reducible first | exact HB.out | apply b1 | apply b2 | apply b3 | refine b4 ?_ GE496.out)⟩)
            ·
             skip
             rintro v527 w51 ⟨h0_, h1_, h2_, h3_, h4_⟩
             have n0_ : Aside0 (Kd.R k27 27 w51 w.heap.size (fun _ => True) (.slice Ao46 y509.length co46) y509) := ⟨h0_⟩
             have n1_ : Aside0 (Kd.R (Kd.int .u8) 5 w51 w.heap.size (fun k_ => some k_ ≠ (v527 : Value).ownBlock) (.slice (some ⟨go28, 0, none⟩) y515.length co43) y520) := ⟨h1_⟩
             have n2_ : Aside0 (Kd.R (Kd.int .u8) 5 w51 w.heap.size (fun k_ => some k_ ≠ (.slice (some ⟨go28, 0, none⟩) y515.length co43 : Value).ownBlock) v527 y526) := ⟨h2_⟩
             have n3_ : Aside0 (w51.heap[gb496]? = some (.cells #[.slice A0_0 l0_0.length c0_0, .slice A0_1 l0_1.length c0_1, .slice A0_2 l0_2.length c0_2] 78 (0, 0))) := ⟨h3_⟩
             have n4_ : Aside0 (Below w.heap.size w w51) := ⟨h4_⟩
             clear HO511 HO517 BK496 HB h0_ h1_ h2_ h3_ h4_
             have HO511 := n0_; have HO517 := n1_; have HO528 := n2_; have BK496 := n3_; have HB := n4_
             clear n0_ n1_ n2_ n3_ n4_
             have hHeld := trivial
             refine norm_ (a' := ?_) ?_ ?_
             rotate_left
             ·
              simp only [putAll, Act.put, s1, s2, s3]
              rfl
             refine two_ (i := 2) (j := 10) (Ni := some 65) (Nj := some 73) #[true, true, true, true, true, true, false, true, true, false, false, false, false, false, false, false] #[true, true, false, true, true, true, false, true, true, false, true, false, false, false, false, false] rfl rfl rfl rfl (two_of HT_.out (by kernel_rfl)) (by decide) (by decide) (fun K hK => ?_) (fun K hK => ?_)
             ·
              skip
              refine goes_ Try.func56 (by kernel_rfl) rfl #[.slice (some ⟨go28, 0, none⟩) y520.length co43] (by rfl) rfl rfl (by (try simp only [List.map_toArray, List.map_cons, List.map_nil]); first | done | (rw [show y520.length = y515.length from (Kd.R_reads' HO517.out).1.symm] <;> rfl) | rfl | (simp only [List.length_drop, List.length_take]; rfl)) ?_
              with_reducible refine (herbariumref1_List_Pack.calls kj13 _ _ y520 t521 t522 _ ?side1 ?side2 A29.out).mono ?_
              (case side1 => exact uc (Kd.R_reads' HO517.out).2.2)
              (case side2 => rw [show y520.length = y515.length from (Kd.R_reads' HO517.out).1.symm]; exact (Kd.R_reads' HO517.out).2.1)
              rintro e w52 ⟨rfl, hb⟩
              refine ⟨_, rfl, ?_⟩
              have n0_ := ak (Kd.R_below (ur <| HO511.out) hb)
              have n1_ := ak (Kd.R_below (ur <| HO517.out) hb)
              have n2_ := ak (Kd.R_below (ur <| HO528.out) hb)
              have n3_ := ak (blk_below (g := gb496) (o := .cells #[.slice A0_0 l0_0.length c0_0, .slice A0_1 l0_1.length c0_1, .slice A0_2 l0_2.length c0_2] 78 (0, 0)) (ub BK496.out) hb)
              have n4_ := ak (below_step (by repeat with_reducible first | exact HB.out | apply b1 | apply b2 | apply b3 | refine b4 ?_ GE496.out) hb)
              clear HO511 HO517 HO528 BK496 HB
              have HO511 := n0_; have HO517 := n1_; have HO528 := n2_; have BK496 := n3_; have HB := n4_
              clear n0_ n1_ n2_ n3_ n4_
              (try clear hb); (try clear hb2); (try clear hk); (try clear hi)
              refine hK.out _ _ trivial (fun hHeld => ?_)
              clear hK K
              refine norm_ (a' := ?_) ?_ ?_
              rotate_left
              ·
               show Act.put _ (some 65) _ = _
               simp only [Act.put, s1, s2, s3, i64_w, i32_w]
               rfl
              exact norm_ (by first | (simp only [putAll, Act.put, s1, s2, s3]; done) | (simp only [putAll, Act.put, s1, s2, s3]; rfl)) (hJ2_7 (v527) _ ⟨(ur <| HO511.out), (ur <| HO517.out), (ur <| HO528.out), (ub BK496.out), (by repeat with_reducible first | exact HB.out | apply b1 | apply b2 | apply b3 | refine b4 ?_ GE496.out)⟩)
             ·
              skip
              refine Kd.R_lit_step (Kd.int .u8) _ 5 ?hg (N := 73) ?hd (xs := ([1, 0, 1] : List Int)) (inner := [.int .u8 1, .int .u8 0, .int .u8 1]) (ok := fun _ => True) (okp := fun _ => True) ?hr ?hp (fun _ hk => hk) trivial (Below.refl _ _) (Nat.le_refl _) (by simp) ?_; (case hd => rfl); (case hg => rfl); (case hr => first | (go_simp; done) | (go_simp; rfl)); (case hp => exact (Reps.one (show Kd.M (Kd.int .u8) _ _ _ 1 [.int .u8 1] from rfl) (Reps.one (show Kd.M (Kd.int .u8) _ _ _ 0 [.int .u8 0] from rfl) (Reps.one (show Kd.M (Kd.int .u8) _ _ _ 1 [.int .u8 1] from rfl) (Reps.none _ _)))))
              intro v533 w52 ho53 hb hg_ hnew_
              clear hg_ hnew_
              (first | rw [← Ny532.out] at ho53 | (simp only [Int.reduceToNat] at ho53; rw [← Ny532.out] at ho53))
              have n0_ := ak (Kd.R_below (ur <| HO511.out) hb)
              have n1_ := ak (Kd.R_elder' (ur <| HO517.out) (Kd.R_base ho53) hb)
              have n2_ := ak (Kd.R_elder' (ur <| HO528.out) (Kd.R_base ho53) hb)
              have n3_ := ak (Kd.R_lower (Kd.R_new' (Kd.R_new' ho53 (Kd.R_lt (ur <| HO517.out))) (Kd.R_lt (ur <| HO528.out))) (below_size (by repeat with_reducible first | exact HB.out | apply b1 | apply b2 | apply b3 | refine b4 ?_ GE496.out)))
              have n4_ := ak (blk_below (g := gb496) (o := .cells #[.slice A0_0 l0_0.length c0_0, .slice A0_1 l0_1.length c0_1, .slice A0_2 l0_2.length c0_2] 78 (0, 0)) (ub BK496.out) hb)
              have n5_ := ak (below_step (by repeat with_reducible first | exact HB.out | apply b1 | apply b2 | apply b3 | refine b4 ?_ GE496.out) hb)
              clear HO511 HO517 HO528 BK496 HB
              have HO511 := n0_; have HO517 := n1_; have HO528 := n2_; have HO534 := n3_; have BK496 := n4_; have HB := n5_
              clear n0_ n1_ n2_ n3_ n4_ n5_ hb ho53
              refine hK.out _ _ trivial (fun hHeld => ?_)
              clear hK K
              refine norm_ (a' := ?_) ?_ ?_
              rotate_left
              ·
               show Act.put _ (some 73) _ = _
               simp only [Act.put, s1, s2, s3, i64_w, i32_w]
               rfl
              exact norm_ (by first | (simp only [putAll, Act.put, s1, s2, s3]; done) | (simp only [putAll, Act.put, s1, s2, s3]; rfl)) (hJ7_10 (v527, v533) _ ⟨(ur <| HO511.out), (ur <| HO517.out), (ur <| HO528.out), (ur <| Kd.R_mono HO534.out (fun _ hk => ⟨hk.1.2, hk.2⟩)), (ub BK496.out), (by repeat with_reducible first | exact HB.out | apply b1 | apply b2 | apply b3 | refine b4 ?_ GE496.out)⟩)
           ·
            skip
            rintro _ w50 ⟨h0_, h1_, h2_, h3_⟩
            have n0_ : Aside0 (Kd.R k27 27 w50 w.heap.size (fun _ => True) (.slice Ao46 y509.length co46) y509) := ⟨h0_⟩
            have n1_ : Aside0 (Kd.R (Kd.int .u8) 5 w50 w.heap.size (fun _ => True) (.slice (some ⟨go28, 0, none⟩) y515.length co43) y520) := ⟨h1_⟩
            have n2_ : Aside0 (w50.heap[gb496]? = some (.cells #[.slice A0_0 l0_0.length c0_0, .slice A0_1 l0_1.length c0_1, .slice A0_2 l0_2.length c0_2] 78 (0, 0))) := ⟨h2_⟩
            have n3_ : Aside0 (Below w.heap.size w w50) := ⟨h3_⟩
            clear HO511 HO517 BK496 HB h0_ h1_ h2_ h3_
            have HO511 := n0_; have HO517 := n1_; have BK496 := n2_; have HB := n3_
            clear n0_ n1_ n2_ n3_
            have hHeld := trivial
            refine norm_ (a' := ?_) ?_ ?_
            rotate_left
            ·
             simp only [putAll, Act.put, s1, s2, s3]
             rfl
            refine three_ (i := 6) (j := 7) (k := 10) (Ni := some 69) (Nj := some 70) (Nk := some 73) #[true, true, true, true, true, true, true, false, true, false, false, false, false, false, false, false] #[true, true, true, true, true, true, false, true, true, false, false, false, false, false, false, false] #[true, true, true, true, true, true, false, false, true, false, true, false, false, false, false, false] rfl rfl rfl rfl rfl rfl (three_of HT_.out (by kernel_rfl)) (by decide) (by decide) (by decide) (fun K hK => ?_) (fun K hK => ?_) (fun K hK => ?_)
            ·
             skip
             refine goes_ Try.func56 (by kernel_rfl) rfl #[.slice A506_0 ((rd_L8 l1 x6_2).take (t518 : Int).toNat).length c506_0] (by rfl) rfl rfl (by (try simp only [List.map_toArray, List.map_cons, List.map_nil]); first | done | (rw [show ((rd_L8 l1 x6_2).take (t518 : Int).toNat).length = t518.toNat from (by rw [List.length_take]; have h_ : (t518 : Int) ≤ ((rd_L8 l1 x6_2).length : Int) := of_decide_eq_true (by first | (with_reducible assumption) | assumption); omega)] <;> rfl) | rfl | (simp only [List.length_drop, List.length_take]; rfl)) ?_
             with_reducible refine (herbariumref1_List_Pack.calls kj13 _ _ ((rd_L8 l1 x6_2).take (t518 : Int).toNat) t524 t525 _ ?side1 ?side2 A32.out).mono ?_
             (case side1 => exact uc (Kd.C_below HR523.out HB.out))
             (case side2 => exact HC523.out)
             rintro e w51 ⟨rfl, hb⟩
             refine ⟨_, rfl, ?_⟩
             have n0_ := ak (Kd.R_below (ur <| HO511.out) hb)
             have n1_ := ak (Kd.R_below (ur <| HO517.out) hb)
             have n2_ := ak (blk_below (g := gb496) (o := .cells #[.slice A0_0 l0_0.length c0_0, .slice A0_1 l0_1.length c0_1, .slice A0_2 l0_2.length c0_2] 78 (0, 0)) (ub BK496.out) hb)
             have n3_ := ak (below_step (by repeat with_reducible first | exact HB.out | apply b1 | apply b2 | apply b3 | refine b4 ?_ GE496.out) hb)
             clear HO511 HO517 BK496 HB
             have HO511 := n0_; have HO517 := n1_; have BK496 := n2_; have HB := n3_
             clear n0_ n1_ n2_ n3_
             (try clear hb); (try clear hb2); (try clear hk); (try clear hi)
             refine hK.out _ _ trivial (fun hHeld => ?_)
             clear hK K
             refine norm_ (a' := ?_) ?_ ?_
             rotate_left
             ·
              show Act.put _ (some 69) _ = _
              simp only [Act.put, s1, s2, s3, i64_w, i32_w]
              rfl
             exact norm_ (by first | (simp only [putAll, Act.put, s1, s2, s3]; done) | (simp only [putAll, Act.put, s1, s2, s3]; rfl)) (hJ2_6 () _ ⟨(ur <| HO511.out), (ur <| HO517.out), (ub BK496.out), (by repeat with_reducible first | exact HB.out | apply b1 | apply b2 | apply b3 | refine b4 ?_ GE496.out)⟩)
            ·
             skip
             refine Kd.R_lit_step (Kd.int .u8) _ 5 ?hg (N := 70) ?hd (xs := ([] : List Int)) (inner := []) (ok := fun _ => True) (okp := fun _ => True) ?hr ?hp (fun _ hk => hk) trivial (Below.refl _ _) (Nat.le_refl _) (by simp) ?_; (case hd => rfl); (case hg => rfl); (case hr => first | (go_simp; done) | (go_simp; rfl)); (case hp => exact (Reps.none _ _))
             intro v527 w51 ho52 hb hg_ hnew_
             clear hg_ hnew_
             (first | rw [← Ny526.out] at ho52 | (simp only [Int.reduceToNat] at ho52; rw [← Ny526.out] at ho52))
             have n0_ := ak (Kd.R_below (ur <| HO511.out) hb)
             have n1_ := ak (Kd.R_elder' (ur <| HO517.out) (Kd.R_base ho52) hb)
             have n2_ := ak (Kd.R_lower (Kd.R_new' ho52 (Kd.R_lt (ur <| HO517.out))) (below_size (by repeat with_reducible first | exact HB.out | apply b1 | apply b2 | apply b3 | refine b4 ?_ GE496.out)))
             have n3_ := ak (blk_below (g := gb496) (o := .cells #[.slice A0_0 l0_0.length c0_0, .slice A0_1 l0_1.length c0_1, .slice A0_2 l0_2.length c0_2] 78 (0, 0)) (ub BK496.out) hb)
             have n4_ := ak (below_step (by repeat with_reducible first | exact HB.out | apply b1 | apply b2 | apply b3 | refine b4 ?_ GE496.out) hb)
             clear HO511 HO517 BK496 HB
             have HO511 := n0_; have HO517 := n1_; have HO528 := n2_; have BK496 := n3_; have HB := n4_
             clear n0_ n1_ n2_ n3_ n4_ hb ho52
             refine hK.out _ _ trivial (fun hHeld => ?_)
             clear hK K
             refine norm_ (a' := ?_) ?_ ?_
             rotate_left
             ·
              show Act.put _ (some 70) _ = _
              simp only [Act.put, s1, s2, s3, i64_w, i32_w]
              rfl
             exact norm_ (by first | (simp only [putAll, Act.put, s1, s2, s3]; done) | (simp only [putAll, Act.put, s1, s2, s3]; rfl)) (hJ2_7 (v527) _ ⟨(ur <| HO511.out), (ur <| Kd.R_mono HO517.out (fun _ hk => hk.2)), (ur <| Kd.R_mono HO528.out (fun _ hk => hk.2)), (ub BK496.out), (by repeat with_reducible first | exact HB.out | apply b1 | apply b2 | apply b3 | refine b4 ?_ GE496.out)⟩)
            ·
             skip
             refine Kd.R_lit_step (Kd.int .u8) _ 5 ?hg (N := 73) ?hd (xs := ([1, 0, 1] : List Int)) (inner := [.int .u8 1, .int .u8 0, .int .u8 1]) (ok := fun _ => True) (okp := fun _ => True) ?hr ?hp (fun _ hk => hk) trivial (Below.refl _ _) (Nat.le_refl _) (by simp) ?_; (case hd => rfl); (case hg => rfl); (case hr => first | (go_simp; done) | (go_simp; rfl)); (case hp => exact (Reps.one (show Kd.M (Kd.int .u8) _ _ _ 1 [.int .u8 1] from rfl) (Reps.one (show Kd.M (Kd.int .u8) _ _ _ 0 [.int .u8 0] from rfl) (Reps.one (show Kd.M (Kd.int .u8) _ _ _ 1 [.int .u8 1] from rfl) (Reps.none _ _)))))
             intro v533 w51 ho52 hb hg_ hnew_
             clear hg_ hnew_
             (first | rw [← Ny532.out] at ho52 | (simp only [Int.reduceToNat] at ho52; rw [← Ny532.out] at ho52))
             have n0_ := ak (Kd.R_below (ur <| HO511.out) hb)
             have n1_ := ak (Kd.R_elder' (ur <| HO517.out) (Kd.R_base ho52) hb)
             have n2_ := ak (Kd.R_lower (Kd.R_new' ho52 (Kd.R_lt (ur <| HO517.out))) (below_size (by repeat with_reducible first | exact HB.out | apply b1 | apply b2 | apply b3 | refine b4 ?_ GE496.out)))
             have n3_ := ak (blk_below (g := gb496) (o := .cells #[.slice A0_0 l0_0.length c0_0, .slice A0_1 l0_1.length c0_1, .slice A0_2 l0_2.length c0_2] 78 (0, 0)) (ub BK496.out) hb)
             have n4_ := ak (below_step (by repeat with_reducible first | exact HB.out | apply b1 | apply b2 | apply b3 | refine b4 ?_ GE496.out) hb)
             clear HO511 HO517 BK496 HB
             have HO511 := n0_; have HO517 := n1_; have HO534 := n2_; have BK496 := n3_; have HB := n4_
             clear n0_ n1_ n2_ n3_ n4_ hb ho52
             refine hK.out _ _ trivial (fun hHeld => ?_)
             clear hK K
             refine norm_ (a' := ?_) ?_ ?_
             rotate_left
             ·
              show Act.put _ (some 73) _ = _
              simp only [Act.put, s1, s2, s3, i64_w, i32_w]
              rfl
             exact norm_ (by first | (simp only [putAll, Act.put, s1, s2, s3]; done) | (simp only [putAll, Act.put, s1, s2, s3]; rfl)) (hJ2_10 (v533) _ ⟨(ur <| HO511.out), (ur <| Kd.R_mono HO517.out (fun _ hk => hk.2)), (ur <| Kd.R_mono HO534.out (fun _ hk => hk.2)), (ub BK496.out), (by repeat with_reducible first | exact HB.out | apply b1 | apply b2 | apply b3 | refine b4 ?_ GE496.out)⟩)
          ·
           skip
           rintro ⟨v527, v533⟩ w53 ⟨h0_, h1_, h2_, h3_, h4_, h5_⟩
           have n0_ : Aside0 (Kd.R k27 27 w53 w.heap.size (fun _ => True) (.slice Ao46 y509.length co46) y509) := ⟨h0_⟩
           have n1_ : Aside0 (Kd.R (Kd.int .u8) 5 w53 w.heap.size (fun k_ => some k_ ≠ (v527 : Value).ownBlock ∧ some k_ ≠ (v533 : Value).ownBlock) (.slice (some ⟨go28, 0, none⟩) y515.length co43) y520) := ⟨h1_⟩
           have n2_ : Aside0 (Kd.R (Kd.int .u8) 5 w53 w.heap.size (fun k_ => some k_ ≠ (.slice (some ⟨go28, 0, none⟩) y515.length co43 : Value).ownBlock ∧ some k_ ≠ (v533 : Value).ownBlock) v527 y526) := ⟨h2_⟩
           have n3_ : Aside0 (Kd.R (Kd.int .u8) 5 w53 w.heap.size (fun k_ => some k_ ≠ (.slice (some ⟨go28, 0, none⟩) y515.length co43 : Value).ownBlock ∧ some k_ ≠ (v527 : Value).ownBlock) v533 y532) := ⟨h3_⟩
           have n4_ : Aside0 (w53.heap[gb496]? = some (.cells #[.slice A0_0 l0_0.length c0_0, .slice A0_1 l0_1.length c0_1, .slice A0_2 l0_2.length c0_2] 78 (0, 0))) := ⟨h4_⟩
           have n5_ : Aside0 (Below w.heap.size w w53) := ⟨h5_⟩
           clear HO511 HO517 BK496 HB h0_ h1_ h2_ h3_ h4_ h5_
           have HO511 := n0_; have HO517 := n1_; have HO528 := n2_; have HO534 := n3_; have BK496 := n4_; have HB := n5_
           clear n0_ n1_ n2_ n3_ n4_ n5_
           have hHeld := trivial
           refine norm_ (a' := ?_) ?_ ?_
           rotate_left
           ·
            simp only [putAll, Act.put, s1, s2, s3]
            rfl
           refine one_ (i := 2) (N := some 65) #[true, true, true, true, true, true, false, true, true, false, true, false, false, false, false, false] rfl rfl (one_of HT_.out (by kernel_rfl)) (by decide) (fun K hK => ?_)
           refine goes_ Try.func56 (by kernel_rfl) rfl #[.slice (some ⟨go28, 0, none⟩) y520.length co43] (by rfl) rfl rfl (by (try simp only [List.map_toArray, List.map_cons, List.map_nil]); first | done | (rw [show y520.length = y515.length from (Kd.R_reads' HO517.out).1.symm] <;> rfl) | rfl | (simp only [List.length_drop, List.length_take]; rfl)) ?_
           with_reducible refine (herbariumref1_List_Pack.calls kj13 _ _ y520 t521 t522 _ ?side1 ?side2 A29.out).mono ?_
           (case side1 => exact uc (Kd.R_reads' HO517.out).2.2)
           (case side2 => rw [show y520.length = y515.length from (Kd.R_reads' HO517.out).1.symm]; exact (Kd.R_reads' HO517.out).2.1)
           rintro e w54 ⟨rfl, hb⟩
           refine ⟨_, rfl, ?_⟩
           have n0_ := ak (Kd.R_below (ur <| HO511.out) hb)
           have n1_ := ak (Kd.R_below (ur <| HO517.out) hb)
           have n2_ := ak (Kd.R_below (ur <| HO528.out) hb)
           have n3_ := ak (Kd.R_below (ur <| HO534.out) hb)
           have n4_ := ak (blk_below (g := gb496) (o := .cells #[.slice A0_0 l0_0.length c0_0, .slice A0_1 l0_1.length c0_1, .slice A0_2 l0_2.length c0_2] 78 (0, 0)) (ub BK496.out) hb)
           have n5_ := ak (below_step (by repeat with_reducible first | exact HB.out | apply b1 | apply b2 | apply b3 | refine b4 ?_ GE496.out) hb)
           clear HO511 HO517 HO528 HO534 BK496 HB
           have HO511 := n0_; have HO517 := n1_; have HO528 := n2_; have HO534 := n3_; have BK496 := n4_; have HB := n5_
           clear n0_ n1_ n2_ n3_ n4_ n5_
           (try clear hb); (try clear hb2); (try clear hk); (try clear hi)
           refine hK.out _ _ trivial (fun hHeld => ?_)
           clear hK K
           refine norm_ (a' := ?_) ?_ ?_
           rotate_left
           ·
            show Act.put _ (some 65) _ = _
            simp only [Act.put, s1, s2, s3, i64_w, i32_w]
            rfl
           exact norm_ (by first | (simp only [putAll, Act.put, s1, s2, s3]; done) | (simp only [putAll, Act.put, s1, s2, s3]; rfl)) (hJ2_7_10 (v527, v533) _ ⟨(ur <| HO511.out), (ur <| HO517.out), (ur <| HO528.out), (ur <| HO534.out), (ub BK496.out), (by repeat with_reducible first | exact HB.out | apply b1 | apply b2 | apply b3 | refine b4 ?_ GE496.out)⟩)
         ·
          skip
          rintro v533 w52 ⟨h0_, h1_, h2_, h3_, h4_⟩
          have n0_ : Aside0 (Kd.R k27 27 w52 w.heap.size (fun _ => True) (.slice Ao46 y509.length co46) y509) := ⟨h0_⟩
          have n1_ : Aside0 (Kd.R (Kd.int .u8) 5 w52 w.heap.size (fun k_ => some k_ ≠ (v533 : Value).ownBlock) (.slice (some ⟨go28, 0, none⟩) y515.length co43) y520) := ⟨h1_⟩
          have n2_ : Aside0 (Kd.R (Kd.int .u8) 5 w52 w.heap.size (fun k_ => some k_ ≠ (.slice (some ⟨go28, 0, none⟩) y515.length co43 : Value).ownBlock) v533 y532) := ⟨h2_⟩
          have n3_ : Aside0 (w52.heap[gb496]? = some (.cells #[.slice A0_0 l0_0.length c0_0, .slice A0_1 l0_1.length c0_1, .slice A0_2 l0_2.length c0_2] 78 (0, 0))) := ⟨h3_⟩
          have n4_ : Aside0 (Below w.heap.size w w52) := ⟨h4_⟩
          clear HO511 HO517 BK496 HB h0_ h1_ h2_ h3_ h4_
          have HO511 := n0_; have HO517 := n1_; have HO534 := n2_; have BK496 := n3_; have HB := n4_
          clear n0_ n1_ n2_ n3_ n4_
          have hHeld := trivial
          refine norm_ (a' := ?_) ?_ ?_
          rotate_left
          ·
           simp only [putAll, Act.put, s1, s2, s3]
           rfl
          refine two_ (i := 6) (j := 7) (Ni := some 69) (Nj := some 70) #[true, true, true, true, true, true, true, false, true, false, true, false, false, false, false, false] #[true, true, true, true, true, true, false, true, true, false, true, false, false, false, false, false] rfl rfl rfl rfl (two_of HT_.out (by kernel_rfl)) (by decide) (by decide) (fun K hK => ?_) (fun K hK => ?_)
          ·
           skip
           refine goes_ Try.func56 (by kernel_rfl) rfl #[.slice A506_0 ((rd_L8 l1 x6_2).take (t518 : Int).toNat).length c506_0] (by rfl) rfl rfl (by (try simp only [List.map_toArray, List.map_cons, List.map_nil]); first | done | (rw [show ((rd_L8 l1 x6_2).take (t518 : Int).toNat).length = t518.toNat from (by rw [List.length_take]; have h_ : (t518 : Int) ≤ ((rd_L8 l1 x6_2).length : Int) := of_decide_eq_true (by first | (with_reducible assumption) | assumption); omega)] <;> rfl) | rfl | (simp only [List.length_drop, List.length_take]; rfl)) ?_
           with_reducible refine (herbariumref1_List_Pack.calls kj13 _ _ ((rd_L8 l1 x6_2).take (t518 : Int).toNat) t524 t525 _ ?side1 ?side2 A32.out).mono ?_
           (case side1 => exact uc (Kd.C_below HR523.out HB.out))
           (case side2 => exact HC523.out)
           rintro e w53 ⟨rfl, hb⟩
           refine ⟨_, rfl, ?_⟩
           have n0_ := ak (Kd.R_below (ur <| HO511.out) hb)
           have n1_ := ak (Kd.R_below (ur <| HO517.out) hb)
           have n2_ := ak (Kd.R_below (ur <| HO534.out) hb)
           have n3_ := ak (blk_below (g := gb496) (o := .cells #[.slice A0_0 l0_0.length c0_0, .slice A0_1 l0_1.length c0_1, .slice A0_2 l0_2.length c0_2] 78 (0, 0)) (ub BK496.out) hb)
           have n4_ := ak (below_step (by repeat with_reducible first | exact HB.out | apply b1 | apply b2 | apply b3 | refine b4 ?_ GE496.out) hb)
           clear HO511 HO517 HO534 BK496 HB
           have HO511 := n0_; have HO517 := n1_; have HO534 := n2_; have BK496 := n3_; have HB := n4_
           clear n0_ n1_ n2_ n3_ n4_
           (try clear hb); (try clear hb2); (try clear hk); (try clear hi)
           refine hK.out _ _ trivial (fun hHeld => ?_)
           clear hK K
           refine norm_ (a' := ?_) ?_ ?_
           rotate_left
           ·
            show Act.put _ (some 69) _ = _
            simp only [Act.put, s1, s2, s3, i64_w, i32_w]
            rfl
           exact norm_ (by first | (simp only [putAll, Act.put, s1, s2, s3]; done) | (simp only [putAll, Act.put, s1, s2, s3]; rfl)) (hJ2_6_10 (v533) _ ⟨(ur <| HO511.out), (ur <| HO517.out), (ur <| HO534.out), (ub BK496.out), (by repeat with_reducible first | exact HB.out | apply b1 | apply b2 | apply b3 | refine b4 ?_ GE496.out)⟩)
          ·
           skip
           refine Kd.R_lit_step (Kd.int .u8) _ 5 ?hg (N := 70) ?hd (xs := ([] : List Int)) (inner := []) (ok := fun _ => True) (okp := fun _ => True) ?hr ?hp (fun _ hk => hk) trivial (Below.refl _ _) (Nat.le_refl _) (by simp) ?_; (case hd => rfl); (case hg => rfl); (case hr => first | (go_simp; done) | (go_simp; rfl)); (case hp => exact (Reps.none _ _))
           intro v527 w53 ho54 hb hg_ hnew_
           clear hg_ hnew_
           (first | rw [← Ny526.out] at ho54 | (simp only [Int.reduceToNat] at ho54; rw [← Ny526.out] at ho54))
           have n0_ := ak (Kd.R_below (ur <| HO511.out) hb)
           have n1_ := ak (Kd.R_elder' (ur <| HO517.out) (Kd.R_base ho54) hb)
           have n2_ := ak (Kd.R_elder' (ur <| HO534.out) (Kd.R_base ho54) hb)
           have n3_ := ak (Kd.R_lower (Kd.R_new' (Kd.R_new' ho54 (Kd.R_lt (ur <| HO517.out))) (Kd.R_lt (ur <| HO534.out))) (below_size (by repeat with_reducible first | exact HB.out | apply b1 | apply b2 | apply b3 | refine b4 ?_ GE496.out)))
           have n4_ := ak (blk_below (g := gb496) (o := .cells #[.slice A0_0 l0_0.length c0_0, .slice A0_1 l0_1.length c0_1, .slice A0_2 l0_2.length c0_2] 78 (0, 0)) (ub BK496.out) hb)
           have n5_ := ak (below_step (by repeat with_reducible first | exact HB.out | apply b1 | apply b2 | apply b3 | refine b4 ?_ GE496.out) hb)
           clear HO511 HO517 HO534 BK496 HB
           have HO511 := n0_; have HO517 := n1_; have HO534 := n2_; have HO528 := n3_; have BK496 := n4_; have HB := n5_
           clear n0_ n1_ n2_ n3_ n4_ n5_ hb ho54
           refine hK.out _ _ trivial (fun hHeld => ?_)
           clear hK K
           refine norm_ (a' := ?_) ?_ ?_
           rotate_left
           ·
            show Act.put _ (some 70) _ = _
            simp only [Act.put, s1, s2, s3, i64_w, i32_w]
            rfl
           exact norm_ (by first | (simp only [putAll, Act.put, s1, s2, s3]; done) | (simp only [putAll, Act.put, s1, s2, s3]; rfl)) (hJ2_7_10 (v527, v533) _ ⟨(ur <| HO511.out), (ur <| Kd.R_mono HO517.out (fun _ hk => ⟨hk.2, hk.1⟩)), (ur <| Kd.R_mono HO528.out (fun _ hk => ⟨hk.1.2, hk.2⟩)), (ur <| HO534.out), (ub BK496.out), (by repeat with_reducible first | exact HB.out | apply b1 | apply b2 | apply b3 | refine b4 ?_ GE496.out)⟩)
        ·
         skip
         rintro v527 w52 ⟨h0_, h1_, h2_, h3_, h4_⟩
         have n0_ : Aside0 (Kd.R k27 27 w52 w.heap.size (fun _ => True) (.slice Ao46 y509.length co46) y509) := ⟨h0_⟩
         have n1_ : Aside0 (Kd.R (Kd.int .u8) 5 w52 w.heap.size (fun k_ => some k_ ≠ (v527 : Value).ownBlock) (.slice (some ⟨go28, 0, none⟩) y515.length co43) y520) := ⟨h1_⟩
         have n2_ : Aside0 (Kd.R (Kd.int .u8) 5 w52 w.heap.size (fun k_ => some k_ ≠ (.slice (some ⟨go28, 0, none⟩) y515.length co43 : Value).ownBlock) v527 y526) := ⟨h2_⟩
         have n3_ : Aside0 (w52.heap[gb496]? = some (.cells #[.slice A0_0 l0_0.length c0_0, .slice A0_1 l0_1.length c0_1, .slice A0_2 l0_2.length c0_2] 78 (0, 0))) := ⟨h3_⟩
         have n4_ : Aside0 (Below w.heap.size w w52) := ⟨h4_⟩
         clear HO511 HO517 BK496 HB h0_ h1_ h2_ h3_ h4_
         have HO511 := n0_; have HO517 := n1_; have HO528 := n2_; have BK496 := n3_; have HB := n4_
         clear n0_ n1_ n2_ n3_ n4_
         have hHeld := trivial
         refine norm_ (a' := ?_) ?_ ?_
         rotate_left
         ·
          simp only [putAll, Act.put, s1, s2, s3]
          rfl
         refine two_ (i := 6) (j := 10) (Ni := some 69) (Nj := some 73) #[true, true, true, true, true, true, true, true, true, false, false, false, false, false, false, false] #[true, true, true, true, true, true, false, true, true, false, true, false, false, false, false, false] rfl rfl rfl rfl (two_of HT_.out (by kernel_rfl)) (by decide) (by decide) (fun K hK => ?_) (fun K hK => ?_)
         ·
          skip
          refine goes_ Try.func56 (by kernel_rfl) rfl #[.slice A506_0 ((rd_L8 l1 x6_2).take (t518 : Int).toNat).length c506_0] (by rfl) rfl rfl (by (try simp only [List.map_toArray, List.map_cons, List.map_nil]); first | done | (rw [show ((rd_L8 l1 x6_2).take (t518 : Int).toNat).length = t518.toNat from (by rw [List.length_take]; have h_ : (t518 : Int) ≤ ((rd_L8 l1 x6_2).length : Int) := of_decide_eq_true (by first | (with_reducible assumption) | assumption); omega)] <;> rfl) | rfl | (simp only [List.length_drop, List.length_take]; rfl)) ?_
          with_reducible refine (herbariumref1_List_Pack.calls kj13 _ _ ((rd_L8 l1 x6_2).take (t518 : Int).toNat) t524 t525 _ ?side1 ?side2 A32.out).mono ?_
          (case side1 => exact uc (Kd.C_below HR523.out HB.out))
          (case side2 => exact HC523.out)
          rintro e w53 ⟨rfl, hb⟩
          refine ⟨_, rfl, ?_⟩
          have n0_ := ak (Kd.R_below (ur <| HO511.out) hb)
          have n1_ := ak (Kd.R_below (ur <| HO517.out) hb)
          have n2_ := ak (Kd.R_below (ur <| HO528.out) hb)
          have n3_ := ak (blk_below (g := gb496) (o := .cells #[.slice A0_0 l0_0.length c0_0, .slice A0_1 l0_1.length c0_1, .slice A0_2 l0_2.length c0_2] 78 (0, 0)) (ub BK496.out) hb)
          have n4_ := ak (below_step (by repeat with_reducible first | exact HB.out | apply b1 | apply b2 | apply b3 | refine b4 ?_ GE496.out) hb)
          clear HO511 HO517 HO528 BK496 HB
          have HO511 := n0_; have HO517 := n1_; have HO528 := n2_; have BK496 := n3_; have HB := n4_
          clear n0_ n1_ n2_ n3_ n4_
          (try clear hb); (try clear hb2); (try clear hk); (try clear hi)
          refine hK.out _ _ trivial (fun hHeld => ?_)
          clear hK K
          refine norm_ (a' := ?_) ?_ ?_
          rotate_left
          ·
           show Act.put _ (some 69) _ = _
           simp only [Act.put, s1, s2, s3, i64_w, i32_w]
           rfl
          exact norm_ (by first | (simp only [putAll, Act.put, s1, s2, s3]; done) | (simp only [putAll, Act.put, s1, s2, s3]; rfl)) (hJ2_6_7 (v527) _ ⟨(ur <| HO511.out), (ur <| HO517.out), (ur <| HO528.out), (ub BK496.out), (by repeat with_reducible first | exact HB.out | apply b1 | apply b2 | apply b3 | refine b4 ?_ GE496.out)⟩)
         ·
          skip
          refine Kd.R_lit_step (Kd.int .u8) _ 5 ?hg (N := 73) ?hd (xs := ([1, 0, 1] : List Int)) (inner := [.int .u8 1, .int .u8 0, .int .u8 1]) (ok := fun _ => True) (okp := fun _ => True) ?hr ?hp (fun _ hk => hk) trivial (Below.refl _ _) (Nat.le_refl _) (by simp) ?_; (case hd => rfl); (case hg => rfl); (case hr => first | (go_simp; done) | (go_simp; rfl)); (case hp => exact (Reps.one (show Kd.M (Kd.int .u8) _ _ _ 1 [.int .u8 1] from rfl) (Reps.one (show Kd.M (Kd.int .u8) _ _ _ 0 [.int .u8 0] from rfl) (Reps.one (show Kd.M (Kd.int .u8) _ _ _ 1 [.int .u8 1] from rfl) (Reps.none _ _)))))
          intro v533 w53 ho54 hb hg_ hnew_
          clear hg_ hnew_
          (first | rw [← Ny532.out] at ho54 | (simp only [Int.reduceToNat] at ho54; rw [← Ny532.out] at ho54))
          have n0_ := ak (Kd.R_below (ur <| HO511.out) hb)
          have n1_ := ak (Kd.R_elder' (ur <| HO517.out) (Kd.R_base ho54) hb)
          have n2_ := ak (Kd.R_elder' (ur <| HO528.out) (Kd.R_base ho54) hb)
          have n3_ := ak (Kd.R_lower (Kd.R_new' (Kd.R_new' ho54 (Kd.R_lt (ur <| HO517.out))) (Kd.R_lt (ur <| HO528.out))) (below_size (by repeat with_reducible first | exact HB.out | apply b1 | apply b2 | apply b3 | refine b4 ?_ GE496.out)))
          have n4_ := ak (blk_below (g := gb496) (o := .cells #[.slice A0_0 l0_0.length c0_0, .slice A0_1 l0_1.length c0_1, .slice A0_2 l0_2.length c0_2] 78 (0, 0)) (ub BK496.out) hb)
          have n5_ := ak (below_step (by repeat with_reducible first | exact HB.out | apply b1 | apply b2 | apply b3 | refine b4 ?_ GE496.out) hb)
          clear HO511 HO517 HO528 BK496 HB
          have HO511 := n0_; have HO517 := n1_; have HO528 := n2_; have HO534 := n3_; have BK496 := n4_; have HB := n5_
          clear n0_ n1_ n2_ n3_ n4_ n5_ hb ho54
          refine hK.out _ _ trivial (fun hHeld => ?_)
          clear hK K
          refine norm_ (a' := ?_) ?_ ?_
          rotate_left
          ·
           show Act.put _ (some 73) _ = _
           simp only [Act.put, s1, s2, s3, i64_w, i32_w]
           rfl
          exact norm_ (by first | (simp only [putAll, Act.put, s1, s2, s3]; done) | (simp only [putAll, Act.put, s1, s2, s3]; rfl)) (hJ2_7_10 (v527, v533) _ ⟨(ur <| HO511.out), (ur <| HO517.out), (ur <| HO528.out), (ur <| Kd.R_mono HO534.out (fun _ hk => ⟨hk.1.2, hk.2⟩)), (ub BK496.out), (by repeat with_reducible first | exact HB.out | apply b1 | apply b2 | apply b3 | refine b4 ?_ GE496.out)⟩)
       ·
        skip
        rintro _ w51 ⟨h0_, h1_, h2_, h3_⟩
        have n0_ : Aside0 (Kd.R k27 27 w51 w.heap.size (fun _ => True) (.slice Ao46 y509.length co46) y509) := ⟨h0_⟩
        have n1_ : Aside0 (Kd.R (Kd.int .u8) 5 w51 w.heap.size (fun _ => True) (.slice (some ⟨go28, 0, none⟩) y515.length co43) y520) := ⟨h1_⟩
        have n2_ : Aside0 (w51.heap[gb496]? = some (.cells #[.slice A0_0 l0_0.length c0_0, .slice A0_1 l0_1.length c0_1, .slice A0_2 l0_2.length c0_2] 78 (0, 0))) := ⟨h2_⟩
        have n3_ : Aside0 (Below w.heap.size w w51) := ⟨h3_⟩
        clear HO511 HO517 BK496 HB h0_ h1_ h2_ h3_
        have HO511 := n0_; have HO517 := n1_; have BK496 := n2_; have HB := n3_
        clear n0_ n1_ n2_ n3_
        have hHeld := trivial
        refine norm_ (a' := ?_) ?_ ?_
        rotate_left
        ·
         simp only [putAll, Act.put, s1, s2, s3]
         rfl
        refine two_ (i := 7) (j := 10) (Ni := some 70) (Nj := some 73) #[true, true, true, true, true, true, true, true, true, false, false, false, false, false, false, false] #[true, true, true, true, true, true, true, false, true, false, true, false, false, false, false, false] rfl rfl rfl rfl (two_of HT_.out (by kernel_rfl)) (by decide) (by decide) (fun K hK => ?_) (fun K hK => ?_)
        ·
         skip
         refine Kd.R_lit_step (Kd.int .u8) _ 5 ?hg (N := 70) ?hd (xs := ([] : List Int)) (inner := []) (ok := fun _ => True) (okp := fun _ => True) ?hr ?hp (fun _ hk => hk) trivial (Below.refl _ _) (Nat.le_refl _) (by simp) ?_; (case hd => rfl); (case hg => rfl); (case hr => first | (go_simp; done) | (go_simp; rfl)); (case hp => exact (Reps.none _ _))
         intro v527 w52 ho53 hb hg_ hnew_
         clear hg_ hnew_
         (first | rw [← Ny526.out] at ho53 | (simp only [Int.reduceToNat] at ho53; rw [← Ny526.out] at ho53))
         have n0_ := ak (Kd.R_below (ur <| HO511.out) hb)
         have n1_ := ak (Kd.R_elder' (ur <| HO517.out) (Kd.R_base ho53) hb)
         have n2_ := ak (Kd.R_lower (Kd.R_new' ho53 (Kd.R_lt (ur <| HO517.out))) (below_size (by repeat with_reducible first | exact HB.out | apply b1 | apply b2 | apply b3 | refine b4 ?_ GE496.out)))
         have n3_ := ak (blk_below (g := gb496) (o := .cells #[.slice A0_0 l0_0.length c0_0, .slice A0_1 l0_1.length c0_1, .slice A0_2 l0_2.length c0_2] 78 (0, 0)) (ub BK496.out) hb)
         have n4_ := ak (below_step (by repeat with_reducible first | exact HB.out | apply b1 | apply b2 | apply b3 | refine b4 ?_ GE496.out) hb)
         clear HO511 HO517 BK496 HB
         have HO511 := n0_; have HO517 := n1_; have HO528 := n2_; have BK496 := n3_; have HB := n4_
         clear n0_ n1_ n2_ n3_ n4_ hb ho53
         refine hK.out _ _ trivial (fun hHeld => ?_)
         clear hK K
         refine norm_ (a' := ?_) ?_ ?_
         rotate_left
         ·
          show Act.put _ (some 70) _ = _
          simp only [Act.put, s1, s2, s3, i64_w, i32_w]
          rfl
         exact norm_ (by first | (simp only [putAll, Act.put, s1, s2, s3]; done) | (simp only [putAll, Act.put, s1, s2, s3]; rfl)) (hJ2_6_7 (v527) _ ⟨(ur <| HO511.out), (ur <| Kd.R_mono HO517.out (fun _ hk => hk.2)), (ur <| Kd.R_mono HO528.out (fun _ hk => hk.2)), (ub BK496.out), (by repeat with_reducible first | exact HB.out | apply b1 | apply b2 | apply b3 | refine b4 ?_ GE496.out)⟩)
        ·
         skip
         refine Kd.R_lit_step (Kd.int .u8) _ 5 ?hg (N := 73) ?hd (xs := ([1, 0, 1] : List Int)) (inner := [.int .u8 1, .int .u8 0, .int .u8 1]) (ok := fun _ => True) (okp := fun _ => True) ?hr ?hp (fun _ hk => hk) trivial (Below.refl _ _) (Nat.le_refl _) (by simp) ?_; (case hd => rfl); (case hg => rfl); (case hr => first | (go_simp; done) | (go_simp; rfl)); (case hp => exact (Reps.one (show Kd.M (Kd.int .u8) _ _ _ 1 [.int .u8 1] from rfl) (Reps.one (show Kd.M (Kd.int .u8) _ _ _ 0 [.int .u8 0] from rfl) (Reps.one (show Kd.M (Kd.int .u8) _ _ _ 1 [.int .u8 1] from rfl) (Reps.none _ _)))))
         intro v533 w52 ho53 hb hg_ hnew_
         clear hg_ hnew_
         (first | rw [← Ny532.out] at ho53 | (simp only [Int.reduceToNat] at ho53; rw [← Ny532.out] at ho53))
         have n0_ := ak (Kd.R_below (ur <| HO511.out) hb)
         have n1_ := ak (Kd.R_elder' (ur <| HO517.out) (Kd.R_base ho53) hb)
         have n2_ := ak (Kd.R_lower (Kd.R_new' ho53 (Kd.R_lt (ur <| HO517.out))) (below_size (by repeat with_reducible first | exact HB.out | apply b1 | apply b2 | apply b3 | refine b4 ?_ GE496.out)))
         have n3_ := ak (blk_below (g := gb496) (o := .cells #[.slice A0_0 l0_0.length c0_0, .slice A0_1 l0_1.length c0_1, .slice A0_2 l0_2.length c0_2] 78 (0, 0)) (ub BK496.out) hb)
         have n4_ := ak (below_step (by repeat with_reducible first | exact HB.out | apply b1 | apply b2 | apply b3 | refine b4 ?_ GE496.out) hb)
         clear HO511 HO517 BK496 HB
         have HO511 := n0_; have HO517 := n1_; have HO534 := n2_; have BK496 := n3_; have HB := n4_
         clear n0_ n1_ n2_ n3_ n4_ hb ho53
         refine hK.out _ _ trivial (fun hHeld => ?_)
         clear hK K
         refine norm_ (a' := ?_) ?_ ?_
         rotate_left
         ·
          show Act.put _ (some 73) _ = _
          simp only [Act.put, s1, s2, s3, i64_w, i32_w]
          rfl
         exact norm_ (by first | (simp only [putAll, Act.put, s1, s2, s3]; done) | (simp only [putAll, Act.put, s1, s2, s3]; rfl)) (hJ2_6_10 (v533) _ ⟨(ur <| HO511.out), (ur <| Kd.R_mono HO517.out (fun _ hk => hk.2)), (ur <| Kd.R_mono HO534.out (fun _ hk => hk.2)), (ub BK496.out), (by repeat with_reducible first | exact HB.out | apply b1 | apply b2 | apply b3 | refine b4 ?_ GE496.out)⟩)
      ·
       skip
       rintro ⟨v527, v533⟩ w54 ⟨h0_, h1_, h2_, h3_, h4_, h5_⟩
       have n0_ : Aside0 (Kd.R k27 27 w54 w.heap.size (fun _ => True) (.slice Ao46 y509.length co46) y509) := ⟨h0_⟩
       have n1_ : Aside0 (Kd.R (Kd.int .u8) 5 w54 w.heap.size (fun k_ => some k_ ≠ (v527 : Value).ownBlock ∧ some k_ ≠ (v533 : Value).ownBlock) (.slice (some ⟨go28, 0, none⟩) y515.length co43) y520) := ⟨h1_⟩
       have n2_ : Aside0 (Kd.R (Kd.int .u8) 5 w54 w.heap.size (fun k_ => some k_ ≠ (.slice (some ⟨go28, 0, none⟩) y515.length co43 : Value).ownBlock ∧ some k_ ≠ (v533 : Value).ownBlock) v527 y526) := ⟨h2_⟩
       have n3_ : Aside0 (Kd.R (Kd.int .u8) 5 w54 w.heap.size (fun k_ => some k_ ≠ (.slice (some ⟨go28, 0, none⟩) y515.length co43 : Value).ownBlock ∧ some k_ ≠ (v527 : Value).ownBlock) v533 y532) := ⟨h3_⟩
       have n4_ : Aside0 (w54.heap[gb496]? = some (.cells #[.slice A0_0 l0_0.length c0_0, .slice A0_1 l0_1.length c0_1, .slice A0_2 l0_2.length c0_2] 78 (0, 0))) := ⟨h4_⟩
       have n5_ : Aside0 (Below w.heap.size w w54) := ⟨h5_⟩
       clear HO511 HO517 BK496 HB h0_ h1_ h2_ h3_ h4_ h5_
       have HO511 := n0_; have HO517 := n1_; have HO528 := n2_; have HO534 := n3_; have BK496 := n4_; have HB := n5_
       clear n0_ n1_ n2_ n3_ n4_ n5_
       have hHeld := trivial
       refine norm_ (a' := ?_) ?_ ?_
       rotate_left
       ·
        simp only [putAll, Act.put, s1, s2, s3]
        rfl
       refine one_ (i := 6) (N := some 69) #[true, true, true, true, true, true, true, true, true, false, true, false, false, false, false, false] rfl rfl (one_of HT_.out (by kernel_rfl)) (by decide) (fun K hK => ?_)
       refine goes_ Try.func56 (by kernel_rfl) rfl #[.slice A506_0 ((rd_L8 l1 x6_2).take (t518 : Int).toNat).length c506_0] (by rfl) rfl rfl (by (try simp only [List.map_toArray, List.map_cons, List.map_nil]); first | done | (rw [show ((rd_L8 l1 x6_2).take (t518 : Int).toNat).length = t518.toNat from (by rw [List.length_take]; have h_ : (t518 : Int) ≤ ((rd_L8 l1 x6_2).length : Int) := of_decide_eq_true (by first | (with_reducible assumption) | assumption); omega)] <;> rfl) | rfl | (simp only [List.length_drop, List.length_take]; rfl)) ?_
       with_reducible refine (herbariumref1_List_Pack.calls kj13 _ _ ((rd_L8 l1 x6_2).take (t518 : Int).toNat) t524 t525 _ ?side1 ?side2 A32.out).mono ?_
       (case side1 => exact uc (Kd.C_below HR523.out HB.out))
       (case side2 => exact HC523.out)
       rintro e w55 ⟨rfl, hb⟩
       refine ⟨_, rfl, ?_⟩
       have n0_ := ak (Kd.R_below (ur <| HO511.out) hb)
       have n1_ := ak (Kd.R_below (ur <| HO517.out) hb)
       have n2_ := ak (Kd.R_below (ur <| HO528.out) hb)
       have n3_ := ak (Kd.R_below (ur <| HO534.out) hb)
       have n4_ := ak (blk_below (g := gb496) (o := .cells #[.slice A0_0 l0_0.length c0_0, .slice A0_1 l0_1.length c0_1, .slice A0_2 l0_2.length c0_2] 78 (0, 0)) (ub BK496.out) hb)
       have n5_ := ak (below_step (by repeat with_reducible first | exact HB.out | apply b1 | apply b2 | apply b3 | refine b4 ?_ GE496.out) hb)
       clear HO511 HO517 HO528 HO534 BK496 HB
       have HO511 := n0_; have HO517 := n1_; have HO528 := n2_; have HO534 := n3_; have BK496 := n4_; have HB := n5_
       clear n0_ n1_ n2_ n3_ n4_ n5_
       (try clear hb); (try clear hb2); (try clear hk); (try clear hi)
       refine hK.out _ _ trivial (fun hHeld => ?_)
       clear hK K
       refine norm_ (a' := ?_) ?_ ?_
       rotate_left
       ·
        show Act.put _ (some 69) _ = _
        simp only [Act.put, s1, s2, s3, i64_w, i32_w]
        rfl
       exact norm_ (by first | (simp only [putAll, Act.put, s1, s2, s3]; done) | (simp only [putAll, Act.put, s1, s2, s3]; rfl)) (hJ2_6_7_10 (v527, v533) _ ⟨(ur <| HO511.out), (ur <| HO517.out), (ur <| HO528.out), (ur <| HO534.out), (ub BK496.out), (by repeat with_reducible first | exact HB.out | apply b1 | apply b2 | apply b3 | refine b4 ?_ GE496.out)⟩)
     ·
      skip
      rintro v533 w53 ⟨h0_, h1_, h2_, h3_, h4_⟩
      have n0_ : Aside0 (Kd.R k27 27 w53 w.heap.size (fun _ => True) (.slice Ao46 y509.length co46) y509) := ⟨h0_⟩
      have n1_ : Aside0 (Kd.R (Kd.int .u8) 5 w53 w.heap.size (fun k_ => some k_ ≠ (v533 : Value).ownBlock) (.slice (some ⟨go28, 0, none⟩) y515.length co43) y520) := ⟨h1_⟩
      have n2_ : Aside0 (Kd.R (Kd.int .u8) 5 w53 w.heap.size (fun k_ => some k_ ≠ (.slice (some ⟨go28, 0, none⟩) y515.length co43 : Value).ownBlock) v533 y532) := ⟨h2_⟩
      have n3_ : Aside0 (w53.heap[gb496]? = some (.cells #[.slice A0_0 l0_0.length c0_0, .slice A0_1 l0_1.length c0_1, .slice A0_2 l0_2.length c0_2] 78 (0, 0))) := ⟨h3_⟩
      have n4_ : Aside0 (Below w.heap.size w w53) := ⟨h4_⟩
      clear HO511 HO517 BK496 HB h0_ h1_ h2_ h3_ h4_
      have HO511 := n0_; have HO517 := n1_; have HO534 := n2_; have BK496 := n3_; have HB := n4_
      clear n0_ n1_ n2_ n3_ n4_
      have hHeld := trivial
      refine norm_ (a' := ?_) ?_ ?_
      rotate_left
      ·
       simp only [putAll, Act.put, s1, s2, s3]
       rfl
      refine one_ (i := 7) (N := some 70) #[true, true, true, true, true, true, true, true, true, false, true, false, false, false, false, false] rfl rfl (one_of HT_.out (by kernel_rfl)) (by decide) (fun K hK => ?_)
      refine Kd.R_lit_step (Kd.int .u8) _ 5 ?hg (N := 70) ?hd (xs := ([] : List Int)) (inner := []) (ok := fun _ => True) (okp := fun _ => True) ?hr ?hp (fun _ hk => hk) trivial (Below.refl _ _) (Nat.le_refl _) (by simp) ?_; (case hd => rfl); (case hg => rfl); (case hr => first | (go_simp; done) | (go_simp; rfl)); (case hp => exact (Reps.none _ _))
      intro v527 w54 ho55 hb hg_ hnew_
      clear hg_ hnew_
      (first | rw [← Ny526.out] at ho55 | (simp only [Int.reduceToNat] at ho55; rw [← Ny526.out] at ho55))
      have n0_ := ak (Kd.R_below (ur <| HO511.out) hb)
      have n1_ := ak (Kd.R_elder' (ur <| HO517.out) (Kd.R_base ho55) hb)
      have n2_ := ak (Kd.R_elder' (ur <| HO534.out) (Kd.R_base ho55) hb)
      have n3_ := ak (Kd.R_lower (Kd.R_new' (Kd.R_new' ho55 (Kd.R_lt (ur <| HO517.out))) (Kd.R_lt (ur <| HO534.out))) (below_size (by repeat with_reducible first | exact HB.out | apply b1 | apply b2 | apply b3 | refine b4 ?_ GE496.out)))
      have n4_ := ak (blk_below (g := gb496) (o := .cells #[.slice A0_0 l0_0.length c0_0, .slice A0_1 l0_1.length c0_1, .slice A0_2 l0_2.length c0_2] 78 (0, 0)) (ub BK496.out) hb)
      have n5_ := ak (below_step (by repeat with_reducible first | exact HB.out | apply b1 | apply b2 | apply b3 | refine b4 ?_ GE496.out) hb)
      clear HO511 HO517 HO534 BK496 HB
      have HO511 := n0_; have HO517 := n1_; have HO534 := n2_; have HO528 := n3_; have BK496 := n4_; have HB := n5_
      clear n0_ n1_ n2_ n3_ n4_ n5_ hb ho55
      refine hK.out _ _ trivial (fun hHeld => ?_)
      clear hK K
      refine norm_ (a' := ?_) ?_ ?_
      rotate_left
      ·
       show Act.put _ (some 70) _ = _
       simp only [Act.put, s1, s2, s3, i64_w, i32_w]
       rfl
      exact norm_ (by first | (simp only [putAll, Act.put, s1, s2, s3]; done) | (simp only [putAll, Act.put, s1, s2, s3]; rfl)) (hJ2_6_7_10 (v527, v533) _ ⟨(ur <| HO511.out), (ur <| Kd.R_mono HO517.out (fun _ hk => ⟨hk.2, hk.1⟩)), (ur <| Kd.R_mono HO528.out (fun _ hk => ⟨hk.1.2, hk.2⟩)), (ur <| HO534.out), (ub BK496.out), (by repeat with_reducible first | exact HB.out | apply b1 | apply b2 | apply b3 | refine b4 ?_ GE496.out)⟩)
    ·
     skip
     rintro v527 w53 ⟨h0_, h1_, h2_, h3_, h4_⟩
     have n0_ : Aside0 (Kd.R k27 27 w53 w.heap.size (fun _ => True) (.slice Ao46 y509.length co46) y509) := ⟨h0_⟩
     have n1_ : Aside0 (Kd.R (Kd.int .u8) 5 w53 w.heap.size (fun k_ => some k_ ≠ (v527 : Value).ownBlock) (.slice (some ⟨go28, 0, none⟩) y515.length co43) y520) := ⟨h1_⟩
     have n2_ : Aside0 (Kd.R (Kd.int .u8) 5 w53 w.heap.size (fun k_ => some k_ ≠ (.slice (some ⟨go28, 0, none⟩) y515.length co43 : Value).ownBlock) v527 y526) := ⟨h2_⟩
     have n3_ : Aside0 (w53.heap[gb496]? = some (.cells #[.slice A0_0 l0_0.length c0_0, .slice A0_1 l0_1.length c0_1, .slice A0_2 l0_2.length c0_2] 78 (0, 0))) := ⟨h3_⟩
     have n4_ : Aside0 (Below w.heap.size w w53) := ⟨h4_⟩
     clear HO511 HO517 BK496 HB h0_ h1_ h2_ h3_ h4_
     have HO511 := n0_; have HO517 := n1_; have HO528 := n2_; have BK496 := n3_; have HB := n4_
     clear n0_ n1_ n2_ n3_ n4_
     have hHeld := trivial
     refine norm_ (a' := ?_) ?_ ?_
     rotate_left
     ·
      simp only [putAll, Act.put, s1, s2, s3]
      rfl
     refine two_ (i := 9) (j := 10) (Ni := some 72) (Nj := some 73) #[true, true, true, true, true, true, true, true, true, true, false, false, false, false, false, false] #[true, true, true, true, true, true, true, true, true, false, true, false, false, false, false, false] rfl rfl rfl rfl (two_of HT_.out (by kernel_rfl)) (by decide) (by decide) (fun K hK => ?_) (fun K hK => ?_)
     ·
      skip
      refine Kd.R_append_rows_step (Kd.int .u8) (w0 := w) w.heap.size (by rfl) (.tmp 70) (.tmp 71) 64 5 (.int .u8 0) 1 rfl Try.underlying64 info5 rfl (by decide) (by omega) v527 y526 (rd_L8 l1 x6_2) _ _ _ (fun k_ => some k_ ≠ (.slice (some ⟨go28, 0, none⟩) y515.length co43 : Value).ownBlock) (fun _ => False) rfl rfl ?aO ?aR (fun _ _ h => h) (fun _ h => h.elim) ?aF ?aB ?aS ?aL ?_
      (case aR => exact uc (Kd.C_below HR506_0.out HB.out))
      (case aB => exact (by repeat with_reducible first | exact HB.out | apply b1 | apply b2 | apply b3 | refine b4 ?_ GE496.out))
      (case aF => exact (fun k_ hk => Kd.fresh' (Kd.R_lt (ur <| HO517.out)) k_ hk))
      (case aO => exact (ur <| HO528.out))
      (case aS => exact (below_size (by repeat with_reducible first | exact HB.out | apply b1 | apply b2 | apply b3 | refine b4 ?_ GE496.out)))
      (case aL => have := LMc33.out; omega)
      intro v530 w54 ho hb hg hat
      rw [← Ny529.out] at ho
      have n0_ := ak (blk_grown (g := gb496) (o := .cells #[.slice A0_0 l0_0.length c0_0, .slice A0_1 l0_1.length c0_1, .slice A0_2 l0_2.length c0_2] 78 (0, 0)) (ub BK496.out) hg (Kd.R_ne HO528.out BK496.out (by decide)))
      have n1_ := ak (Kd.R_over' (ur <| HO511.out) (Kd.R_typed (ur <| HO528.out)) (by decide) hg)
      have n2_ := ak (Kd.R_after (ok := (fun _ => True)) (ur <| Kd.R_mono HO517.out (fun _ hk => ⟨trivial, hk⟩)) hg hat)
      have n3_ := ak (hb)
      have n4_ := ak (ho)
      clear BK496 HO511 HO517 HB HO528
      have BK496 := n0_; have HO511 := n1_; have HO517 := n2_; have HB := n3_; have HO531 := n4_
      clear n0_ n1_ n2_ n3_ n4_ ho hb hg hat
      refine hK.out _ _ trivial (fun hHeld => ?_)
      clear hK K
      refine norm_ (a' := ?_) ?_ ?_
      rotate_left
      ·
       show Act.put _ (some 72) _ = _
       simp only [Act.put, s1, s2, s3, i64_w, i32_w]
       rfl
      exact norm_ (by first | (simp only [putAll, Act.put, s1, s2, s3]; done) | (simp only [putAll, Act.put, s1, s2, s3]; rfl)) (hJ2_6_7_9 (v527, v530) _ ⟨(ur <| HO511.out), (ur <| Kd.R_mono HO517.out (fun _ hk => hk.2)), (ur <| HO531.out), (ub BK496.out), (by repeat with_reducible first | exact HB.out | apply b1 | apply b2 | apply b3 | refine b4 ?_ GE496.out)⟩)
     ·
      skip
      refine Kd.R_lit_step (Kd.int .u8) _ 5 ?hg (N := 73) ?hd (xs := ([1, 0, 1] : List Int)) (inner := [.int .u8 1, .int .u8 0, .int .u8 1]) (ok := fun _ => True) (okp := fun _ => True) ?hr ?hp (fun _ hk => hk) trivial (Below.refl _ _) (Nat.le_refl _) (by simp) ?_; (case hd => rfl); (case hg => rfl); (case hr => first | (go_simp; done) | (go_simp; rfl)); (case hp => exact (Reps.one (show Kd.M (Kd.int .u8) _ _ _ 1 [.int .u8 1] from rfl) (Reps.one (show Kd.M (Kd.int .u8) _ _ _ 0 [.int .u8 0] from rfl) (Reps.one (show Kd.M (Kd.int .u8) _ _ _ 1 [.int .u8 1] from rfl) (Reps.none _ _)))))
      intro v533 w54 ho55 hb hg_ hnew_
      clear hg_ hnew_
      (first | rw [← Ny532.out] at ho55 | (simp only [Int.reduceToNat] at ho55; rw [← Ny532.out] at ho55))
      have n0_ := ak (Kd.R_below (ur <| HO511.out) hb)
      have n1_ := ak (Kd.R_elder' (ur <| HO517.out) (Kd.R_base ho55) hb)
      have n2_ := ak (Kd.R_elder' (ur <| HO528.out) (Kd.R_base ho55) hb)
      have n3_ := ak (Kd.R_lower (Kd.R_new' (Kd.R_new' ho55 (Kd.R_lt (ur <| HO517.out))) (Kd.R_lt (ur <| HO528.out))) (below_size (by repeat with_reducible first | exact HB.out | apply b1 | apply b2 | apply b3 | refine b4 ?_ GE496.out)))
      have n4_ := ak (blk_below (g := gb496) (o := .cells #[.slice A0_0 l0_0.length c0_0, .slice A0_1 l0_1.length c0_1, .slice A0_2 l0_2.length c0_2] 78 (0, 0)) (ub BK496.out) hb)
      have n5_ := ak (below_step (by repeat with_reducible first | exact HB.out | apply b1 | apply b2 | apply b3 | refine b4 ?_ GE496.out) hb)
      clear HO511 HO517 HO528 BK496 HB
      have HO511 := n0_; have HO517 := n1_; have HO528 := n2_; have HO534 := n3_; have BK496 := n4_; have HB := n5_
      clear n0_ n1_ n2_ n3_ n4_ n5_ hb ho55
      refine hK.out _ _ trivial (fun hHeld => ?_)
      clear hK K
      refine norm_ (a' := ?_) ?_ ?_
      rotate_left
      ·
       show Act.put _ (some 73) _ = _
       simp only [Act.put, s1, s2, s3, i64_w, i32_w]
       rfl
      exact norm_ (by first | (simp only [putAll, Act.put, s1, s2, s3]; done) | (simp only [putAll, Act.put, s1, s2, s3]; rfl)) (hJ2_6_7_10 (v527, v533) _ ⟨(ur <| HO511.out), (ur <| HO517.out), (ur <| HO528.out), (ur <| Kd.R_mono HO534.out (fun _ hk => ⟨hk.1.2, hk.2⟩)), (ub BK496.out), (by repeat with_reducible first | exact HB.out | apply b1 | apply b2 | apply b3 | refine b4 ?_ GE496.out)⟩)
   ·
    skip
    rintro ⟨v527, v533⟩ w55 ⟨h0_, h1_, h2_, h3_, h4_, h5_⟩
    have n0_ : Aside0 (Kd.R k27 27 w55 w.heap.size (fun _ => True) (.slice Ao46 y509.length co46) y509) := ⟨h0_⟩
    have n1_ : Aside0 (Kd.R (Kd.int .u8) 5 w55 w.heap.size (fun k_ => some k_ ≠ (v527 : Value).ownBlock ∧ some k_ ≠ (v533 : Value).ownBlock) (.slice (some ⟨go28, 0, none⟩) y515.length co43) y520) := ⟨h1_⟩
    have n2_ : Aside0 (Kd.R (Kd.int .u8) 5 w55 w.heap.size (fun k_ => some k_ ≠ (.slice (some ⟨go28, 0, none⟩) y515.length co43 : Value).ownBlock ∧ some k_ ≠ (v533 : Value).ownBlock) v527 y526) := ⟨h2_⟩
    have n3_ : Aside0 (Kd.R (Kd.int .u8) 5 w55 w.heap.size (fun k_ => some k_ ≠ (.slice (some ⟨go28, 0, none⟩) y515.length co43 : Value).ownBlock ∧ some k_ ≠ (v527 : Value).ownBlock) v533 y532) := ⟨h3_⟩
    have n4_ : Aside0 (w55.heap[gb496]? = some (.cells #[.slice A0_0 l0_0.length c0_0, .slice A0_1 l0_1.length c0_1, .slice A0_2 l0_2.length c0_2] 78 (0, 0))) := ⟨h4_⟩
    have n5_ : Aside0 (Below w.heap.size w w55) := ⟨h5_⟩
    clear HO511 HO517 BK496 HB h0_ h1_ h2_ h3_ h4_ h5_
    have HO511 := n0_; have HO517 := n1_; have HO528 := n2_; have HO534 := n3_; have BK496 := n4_; have HB := n5_
    clear n0_ n1_ n2_ n3_ n4_ n5_
    have hHeld := trivial
    refine norm_ (a' := ?_) ?_ ?_
    rotate_left
    ·
     simp only [putAll, Act.put, s1, s2, s3]
     rfl
    refine one_ (i := 9) (N := some 72) #[true, true, true, true, true, true, true, true, true, true, true, false, false, false, false, false] rfl rfl (one_of HT_.out (by kernel_rfl)) (by decide) (fun K hK => ?_)
    refine Kd.R_append_rows_step (Kd.int .u8) (w0 := w) w.heap.size (by rfl) (.tmp 70) (.tmp 71) 64 5 (.int .u8 0) 1 rfl Try.underlying64 info5 rfl (by decide) (by omega) v527 y526 (rd_L8 l1 x6_2) _ _ _ (fun k_ => some k_ ≠ (.slice (some ⟨go28, 0, none⟩) y515.length co43 : Value).ownBlock ∧ some k_ ≠ (v533 : Value).ownBlock) (fun _ => False) rfl rfl ?aO ?aR (fun _ _ h => h) (fun _ h => h.elim) ?aF ?aB ?aS ?aL ?_
    (case aR => exact uc (Kd.C_below HR506_0.out HB.out))
    (case aB => exact (by repeat with_reducible first | exact HB.out | apply b1 | apply b2 | apply b3 | refine b4 ?_ GE496.out))
    (case aF => exact (fun k_ hk => ⟨Kd.fresh' (Kd.R_lt (ur <| HO517.out)) k_ hk, Kd.fresh' (Kd.R_lt (ur <| HO534.out)) k_ hk⟩))
    (case aO => exact (ur <| HO528.out))
    (case aS => exact (below_size (by repeat with_reducible first | exact HB.out | apply b1 | apply b2 | apply b3 | refine b4 ?_ GE496.out)))
    (case aL => have := LMc33.out; omega)
    intro v530 w56 ho hb hg hat
    rw [← Ny529.out] at ho
    have n0_ := ak (blk_grown (g := gb496) (o := .cells #[.slice A0_0 l0_0.length c0_0, .slice A0_1 l0_1.length c0_1, .slice A0_2 l0_2.length c0_2] 78 (0, 0)) (ub BK496.out) hg (Kd.R_ne HO528.out BK496.out (by decide)))
    have n1_ := ak (Kd.R_over' (ur <| HO511.out) (Kd.R_typed (ur <| HO528.out)) (by decide) hg)
    have n2_ := ak (Kd.R_after (ok := (fun k_ => some k_ ≠ (v533 : Value).ownBlock)) (ur <| Kd.R_mono HO517.out (fun _ hk => ⟨hk.2, hk.1⟩)) hg hat)
    have n3_ := ak (Kd.R_after (ok := (fun k_ => some k_ ≠ (.slice (some ⟨go28, 0, none⟩) y515.length co43 : Value).ownBlock)) (ur <| HO534.out) hg hat)
    have n4_ := ak (hb)
    have n5_ := ak (ho)
    clear BK496 HO511 HO517 HO534 HB HO528
    have BK496 := n0_; have HO511 := n1_; have HO517 := n2_; have HO534 := n3_; have HB := n4_; have HO531 := n5_
    clear n0_ n1_ n2_ n3_ n4_ n5_ ho hb hg hat
    refine hK.out _ _ trivial (fun hHeld => ?_)
    clear hK K
    refine norm_ (a' := ?_) ?_ ?_
    rotate_left
    ·
     show Act.put _ (some 72) _ = _
     simp only [Act.put, s1, s2, s3, i64_w, i32_w]
     rfl
    exact norm_ (by first | (simp only [putAll, Act.put, s1, s2, s3]; done) | (simp only [putAll, Act.put, s1, s2, s3]; rfl)) (hJ2_6_7_9_10 (v527, v530, v533) _ ⟨(ur <| HO511.out), (ur <| Kd.R_mono HO517.out (fun _ hk => ⟨hk.2, hk.1⟩)), (ur <| HO531.out), (ur <| HO534.out), (ub BK496.out), (by repeat with_reducible first | exact HB.out | apply b1 | apply b2 | apply b3 | refine b4 ?_ GE496.out)⟩)
  ·
   skip
   rintro ⟨v527, v530⟩ w54 ⟨h0_, h1_, h2_, h3_, h4_⟩
   have n0_ : Aside0 (Kd.R k27 27 w54 w.heap.size (fun _ => True) (.slice Ao46 y509.length co46) y509) := ⟨h0_⟩
   have n1_ : Aside0 (Kd.R (Kd.int .u8) 5 w54 w.heap.size (fun k_ => some k_ ≠ (v530 : Value).ownBlock) (.slice (some ⟨go28, 0, none⟩) y515.length co43) y520) := ⟨h1_⟩
   have n2_ : Aside0 (Kd.R (Kd.int .u8) 5 w54 w.heap.size (fun k_ => some k_ ≠ (.slice (some ⟨go28, 0, none⟩) y515.length co43 : Value).ownBlock) v530 y529) := ⟨h2_⟩
   have n3_ : Aside0 (w54.heap[gb496]? = some (.cells #[.slice A0_0 l0_0.length c0_0, .slice A0_1 l0_1.length c0_1, .slice A0_2 l0_2.length c0_2] 78 (0, 0))) := ⟨h3_⟩
   have n4_ : Aside0 (Below w.heap.size w w54) := ⟨h4_⟩
   clear HO511 HO517 BK496 HB h0_ h1_ h2_ h3_ h4_
   have HO511 := n0_; have HO517 := n1_; have HO531 := n2_; have BK496 := n3_; have HB := n4_
   clear n0_ n1_ n2_ n3_ n4_
   have hHeld := trivial
   refine norm_ (a' := ?_) ?_ ?_
   rotate_left
   ·
    simp only [putAll, Act.put, s1, s2, s3]
    rfl
   refine one_ (i := 10) (N := some 73) #[true, true, true, true, true, true, true, true, true, true, true, false, false, false, false, false] rfl rfl (one_of HT_.out (by kernel_rfl)) (by decide) (fun K hK => ?_)
   refine Kd.R_lit_step (Kd.int .u8) _ 5 ?hg (N := 73) ?hd (xs := ([1, 0, 1] : List Int)) (inner := [.int .u8 1, .int .u8 0, .int .u8 1]) (ok := fun _ => True) (okp := fun _ => True) ?hr ?hp (fun _ hk => hk) trivial (Below.refl _ _) (Nat.le_refl _) (by simp) ?_; (case hd => rfl); (case hg => rfl); (case hr => first | (go_simp; done) | (go_simp; rfl)); (case hp => exact (Reps.one (show Kd.M (Kd.int .u8) _ _ _ 1 [.int .u8 1] from rfl) (Reps.one (show Kd.M (Kd.int .u8) _ _ _ 0 [.int .u8 0] from rfl) (Reps.one (show Kd.M (Kd.int .u8) _ _ _ 1 [.int .u8 1] from rfl) (Reps.none _ _)))))
   intro v533 w55 ho56 hb hg_ hnew_
   clear hg_ hnew_
   (first | rw [← Ny532.out] at ho56 | (simp only [Int.reduceToNat] at ho56; rw [← Ny532.out] at ho56))
   have n0_ := ak (Kd.R_below (ur <| HO511.out) hb)
   have n1_ := ak (Kd.R_elder' (ur <| HO517.out) (Kd.R_base ho56) hb)
   have n2_ := ak (Kd.R_elder' (ur <| HO531.out) (Kd.R_base ho56) hb)
   have n3_ := ak (Kd.R_lower (Kd.R_new' (Kd.R_new' ho56 (Kd.R_lt (ur <| HO517.out))) (Kd.R_lt (ur <| HO531.out))) (below_size (by repeat with_reducible first | exact HB.out | apply b1 | apply b2 | apply b3 | refine b4 ?_ GE496.out)))
   have n4_ := ak (blk_below (g := gb496) (o := .cells #[.slice A0_0 l0_0.length c0_0, .slice A0_1 l0_1.length c0_1, .slice A0_2 l0_2.length c0_2] 78 (0, 0)) (ub BK496.out) hb)
   have n5_ := ak (below_step (by repeat with_reducible first | exact HB.out | apply b1 | apply b2 | apply b3 | refine b4 ?_ GE496.out) hb)
   clear HO511 HO517 HO531 BK496 HB
   have HO511 := n0_; have HO517 := n1_; have HO531 := n2_; have HO534 := n3_; have BK496 := n4_; have HB := n5_
   clear n0_ n1_ n2_ n3_ n4_ n5_ hb ho56
   refine hK.out _ _ trivial (fun hHeld => ?_)
   clear hK K
   refine norm_ (a' := ?_) ?_ ?_
   rotate_left
   ·
    show Act.put _ (some 73) _ = _
    simp only [Act.put, s1, s2, s3, i64_w, i32_w]
    rfl
   exact norm_ (by first | (simp only [putAll, Act.put, s1, s2, s3]; done) | (simp only [putAll, Act.put, s1, s2, s3]; rfl)) (hJ2_6_7_9_10 (v527, v530, v533) _ ⟨(ur <| HO511.out), (ur <| HO517.out), (ur <| HO531.out), (ur <| Kd.R_mono HO534.out (fun _ hk => ⟨hk.1.2, hk.2⟩)), (ub BK496.out), (by repeat with_reducible first | exact HB.out | apply b1 | apply b2 | apply b3 | refine b4 ?_ GE496.out)⟩)
 rintro ⟨v527, v530, v533⟩ w56 ⟨h0_, h1_, h2_, h3_, h4_, h5_⟩
 have n0_ : Aside0 (Kd.R k27 27 w56 w.heap.size (fun _ => True) (.slice Ao46 y509.length co46) y509) := ⟨h0_⟩
 have n1_ : Aside0 (Kd.R (Kd.int .u8) 5 w56 w.heap.size (fun k_ => some k_ ≠ (v530 : Value).ownBlock ∧ some k_ ≠ (v533 : Value).ownBlock) (.slice (some ⟨go28, 0, none⟩) y515.length co43) y520) := ⟨h1_⟩
 have n2_ : Aside0 (Kd.R (Kd.int .u8) 5 w56 w.heap.size (fun k_ => some k_ ≠ (.slice (some ⟨go28, 0, none⟩) y515.length co43 : Value).ownBlock ∧ some k_ ≠ (v533 : Value).ownBlock) v530 y529) := ⟨h2_⟩
 have n3_ : Aside0 (Kd.R (Kd.int .u8) 5 w56 w.heap.size (fun k_ => some k_ ≠ (.slice (some ⟨go28, 0, none⟩) y515.length co43 : Value).ownBlock ∧ some k_ ≠ (v530 : Value).ownBlock) v533 y532) := ⟨h3_⟩
 have n4_ : Aside0 (w56.heap[gb496]? = some (.cells #[.slice A0_0 l0_0.length c0_0, .slice A0_1 l0_1.length c0_1, .slice A0_2 l0_2.length c0_2] 78 (0, 0))) := ⟨h4_⟩
 have n5_ : Aside0 (Below w.heap.size w w56) := ⟨h5_⟩
 clear HO511 HO517 BK496 HB h0_ h1_ h2_ h3_ h4_ h5_
 have HO511 := n0_; have HO517 := n1_; have HO531 := n2_; have HO534 := n3_; have BK496 := n4_; have HB := n5_
 clear n0_ n1_ n2_ n3_ n4_ n5_
 have hHeld := trivial
 obtain ⟨Ao58, co58, eo58⟩ := Kd.R_slice HO534.out
 (first | subst eo58 | (injection eo58 with f1_ f2_ f3_; have f4_ := f1_.symm; have f5_ := f3_.symm; clear f1_ f2_ f3_; subst f4_; subst f5_))
 refine norm_ (a' := ?_) ?_ ?_
 rotate_left
 ·
  simp only [putAll, Act.put, s1, s2, s3]
  rfl
 refine one_ (i := 11) (N := some 74) #[true, true, true, true, true, true, true, true, true, true, true, true, false, false, false, false] rfl rfl (one_of HT_.out (by kernel_rfl)) (by decide) (fun K hK => ?_)
 refine Kd.R_append_rows_step (Kd.int .u8) (w0 := w) w.heap.size (by rfl) (.tmp 72) (.tmp 73) 64 5 (.int .u8 0) 1 rfl Try.underlying64 info5 rfl (by decide) (by omega) v530 y529 y532 _ _ _ (fun k_ => some k_ ≠ (.slice (some ⟨go28, 0, none⟩) y515.length co43 : Value).ownBlock ∧ some k_ ≠ (.slice Ao58 y532.length co58 : Value).ownBlock) (fun _ => False) rfl rfl ?aO ?aR (fun _ _ h => h) (fun _ h => h.elim) ?aF ?aB ?aS ?aL ?_
 (case aR => exact uc (Kd.R_reads' HO534.out).2.2)
 (case aB => exact (by repeat with_reducible first | exact HB.out | apply b1 | apply b2 | apply b3 | refine b4 ?_ GE496.out))
 (case aF => exact (fun k_ hk => ⟨Kd.fresh' (Kd.R_lt (ur <| HO517.out)) k_ hk, Kd.fresh' (Kd.R_lt (ur <| HO534.out)) k_ hk⟩))
 (case aO => exact (ur <| HO531.out))
 (case aS => exact (below_size (by repeat with_reducible first | exact HB.out | apply b1 | apply b2 | apply b3 | refine b4 ?_ GE496.out)))
 (case aL => have := LMc34.out; omega)
 intro v536 w57 ho hb hg hat
 rw [← Ny535.out] at ho
 have n0_ := ak (blk_grown (g := gb496) (o := .cells #[.slice A0_0 l0_0.length c0_0, .slice A0_1 l0_1.length c0_1, .slice A0_2 l0_2.length c0_2] 78 (0, 0)) (ub BK496.out) hg (Kd.R_ne HO531.out BK496.out (by decide)))
 have n1_ := ak (Kd.R_over' (ur <| HO511.out) (Kd.R_typed (ur <| HO531.out)) (by decide) hg)
 have n2_ := ak (Kd.R_after (ok := (fun k_ => some k_ ≠ (.slice Ao58 y532.length co58 : Value).ownBlock)) (ur <| Kd.R_mono HO517.out (fun _ hk => ⟨hk.2, hk.1⟩)) hg hat)
 have n3_ := ak (Kd.R_after (ok := (fun k_ => some k_ ≠ (.slice (some ⟨go28, 0, none⟩) y515.length co43 : Value).ownBlock)) (ur <| HO534.out) hg hat)
 have n4_ := ak (hb)
 have n5_ := ak (ho)
 clear BK496 HO511 HO517 HO534 HB HO531
 have BK496 := n0_; have HO511 := n1_; have HO517 := n2_; have HO534 := n3_; have HB := n4_; have HO537 := n5_
 clear n0_ n1_ n2_ n3_ n4_ n5_ ho hb hg hat
 obtain ⟨Ao59, co59, eo59⟩ := Kd.R_slice HO537.out
 (first | subst eo59 | (injection eo59 with f1_ f2_ f3_; have f4_ := f1_.symm; have f5_ := f3_.symm; clear f1_ f2_ f3_; subst f4_; subst f5_))
 refine hK.out _ _ trivial (fun hHeld => ?_)
 clear hK K
 refine norm_ (a' := ?_) ?_ ?_
 rotate_left
 ·
  show Act.put _ (some 74) _ = _
  simp only [Act.put, s1, s2, s3, i64_w, i32_w]
  rfl
 refine one_ (i := 12) (N := some 75) #[true, true, true, true, true, true, true, true, true, true, true, true, true, false, false, false] rfl rfl (one_of HT_.out (by kernel_rfl)) (by decide) (fun K hK => ?_)
 refine goes_ Try.func56 (by kernel_rfl) rfl #[.slice Ao59 y535.length co59] (by rfl) rfl rfl (by (try simp only [List.map_toArray, List.map_cons, List.map_nil]); first | done | rfl | (simp only [List.length_drop, List.length_take]; rfl)) ?_
 with_reducible refine (herbariumref1_List_Pack.calls kj13 _ _ y535 t538 t539 _ ?side1 ?side2 A35.out).mono ?_
 (case side1 => exact uc (Kd.R_reads' HO537.out).2.2)
 (case side2 => exact (Kd.R_reads' HO537.out).2.1)
 rintro e w60 ⟨rfl, hb⟩
 refine ⟨_, rfl, ?_⟩
 have n0_ := ak (Kd.R_below (ur <| HO511.out) hb)
 have n1_ := ak (Kd.R_below (ur <| HO517.out) hb)
 have n2_ := ak (Kd.R_below (ur <| HO534.out) hb)
 have n3_ := ak (Kd.R_below (ur <| HO537.out) hb)
 have n4_ := ak (blk_below (g := gb496) (o := .cells #[.slice A0_0 l0_0.length c0_0, .slice A0_1 l0_1.length c0_1, .slice A0_2 l0_2.length c0_2] 78 (0, 0)) (ub BK496.out) hb)
 have n5_ := ak (below_step (by repeat with_reducible first | exact HB.out | apply b1 | apply b2 | apply b3 | refine b4 ?_ GE496.out) hb)
 clear HO511 HO517 HO534 HO537 BK496 HB
 have HO511 := n0_; have HO517 := n1_; have HO534 := n2_; have HO537 := n3_; have BK496 := n4_; have HB := n5_
 clear n0_ n1_ n2_ n3_ n4_ n5_
 (try clear hb); (try clear hb2); (try clear hk); (try clear hi)
 refine hK.out _ _ trivial (fun hHeld => ?_)
 clear hK K
 refine norm_ (a' := ?_) ?_ ?_
 rotate_left
 ·
  show Act.put _ (some 75) _ = _
  simp only [Act.put, s1, s2, s3, i64_w, i32_w]
  rfl
 refine one_ (i := 13) (N := some 76) #[true, true, true, true, true, true, true, true, true, true, true, true, true, true, false, false] rfl rfl (one_of HT_.out (by kernel_rfl)) (by decide) (fun K hK => ?_)
 refine Kd.R_lit_step k27 _ 27 ?hg (N := 76) ?hd (xs := ([(⟨t521, t522⟩ : S27), (⟨t524, t525⟩ : S27), (⟨t538, t539⟩ : S27)] : List (S27))) (inner := [.string t521, .int .i64 t522, .string t524, .int .i64 t525, .string t538, .int .i64 t539]) (ok := fun _ => True) (okp := fun _ => True) ?hr ?hp (fun _ hk => hk) trivial (Below.refl _ _) (Nat.le_refl _) (by simp) ?_; (case hd => rfl); (case hg => rfl); (case hr => first | (go_simp; done) | (go_simp; rfl)); (case hp => exact (Reps.c2 (show Kd.M k27 _ _ _ (⟨t521, t522⟩ : S27) [.string t521, .int .i64 t522] from (k27_mkM _ _ _ (⟨t521, t522⟩ : S27) )) (Reps.c2 (show Kd.M k27 _ _ _ (⟨t524, t525⟩ : S27) [.string t524, .int .i64 t525] from (k27_mkM _ _ _ (⟨t524, t525⟩ : S27) )) (Reps.c2 (show Kd.M k27 _ _ _ (⟨t538, t539⟩ : S27) [.string t538, .int .i64 t539] from (k27_mkM _ _ _ (⟨t538, t539⟩ : S27) )) (Reps.none _ _)))))
 intro v541 w61 ho62 hb hg_ hnew_
 clear hg_ hnew_
 (first | rw [← Ny540.out] at ho62 | (simp only [Int.reduceToNat] at ho62; rw [← Ny540.out] at ho62))
 have n0_ := ak (Kd.R_elder' (ur <| HO511.out) (Kd.R_base ho62) hb)
 have n1_ := ak (Kd.R_below (ur <| HO517.out) hb)
 have n2_ := ak (Kd.R_below (ur <| HO534.out) hb)
 have n3_ := ak (Kd.R_below (ur <| HO537.out) hb)
 have n4_ := ak (Kd.R_lower (Kd.R_new' ho62 (Kd.R_lt (ur <| HO511.out))) (below_size (by repeat with_reducible first | exact HB.out | apply b1 | apply b2 | apply b3 | refine b4 ?_ GE496.out)))
 have n5_ := ak (blk_below (g := gb496) (o := .cells #[.slice A0_0 l0_0.length c0_0, .slice A0_1 l0_1.length c0_1, .slice A0_2 l0_2.length c0_2] 78 (0, 0)) (ub BK496.out) hb)
 have n6_ := ak (below_step (by repeat with_reducible first | exact HB.out | apply b1 | apply b2 | apply b3 | refine b4 ?_ GE496.out) hb)
 clear HO511 HO517 HO534 HO537 BK496 HB
 have HO511 := n0_; have HO517 := n1_; have HO534 := n2_; have HO537 := n3_; have HO542 := n4_; have BK496 := n5_; have HB := n6_
 clear n0_ n1_ n2_ n3_ n4_ n5_ n6_ hb ho62
 obtain ⟨Ao64, co64, eo64⟩ := Kd.R_slice HO542.out
 (first | subst eo64 | (injection eo64 with f1_ f2_ f3_; have f4_ := f1_.symm; have f5_ := f3_.symm; clear f1_ f2_ f3_; subst f4_; subst f5_))
 refine hK.out _ _ trivial (fun hHeld => ?_)
 clear hK K
 refine norm_ (a' := ?_) ?_ ?_
 rotate_left
 ·
  show Act.put _ (some 76) _ = _
  simp only [Act.put, s1, s2, s3, i64_w, i32_w]
  rfl
 refine one_ (i := 14) (N := some 77) #[true, true, true, true, true, true, true, true, true, true, true, true, true, true, true, false] rfl rfl (one_of HT_.out (by kernel_rfl)) (by decide) (fun K hK => ?_)
 refine Kd.R_append_rows_step k27 (w0 := w) w.heap.size (by rfl) (.tmp 63) (.tmp 76) 22 27 (.agg #[(.string ⟨#[]⟩), (.int .i64 0)]) 24 rfl Try.underlying22 info27 rfl (by decide) (by omega) (.slice Ao46 y509.length co46) y509 y540 _ _ _ (fun k_ => some k_ ≠ (.slice Ao64 y540.length co64 : Value).ownBlock) (fun _ => False) rfl rfl ?aO ?aR (fun _ _ h => h) (fun _ h => h.elim) ?aF ?aB ?aS ?aL ?_
 (case aR => exact uc (Kd.R_reads' HO542.out).2.2)
 (case aB => exact (by repeat with_reducible first | exact HB.out | apply b1 | apply b2 | apply b3 | refine b4 ?_ GE496.out))
 (case aF => exact (fun k_ hk => Kd.fresh' (Kd.R_lt (ur <| HO542.out)) k_ hk))
 (case aO => exact (ur <| Kd.R_mono HO511.out (fun _ hk => hk.2)))
 (case aS => exact (below_size (by repeat with_reducible first | exact HB.out | apply b1 | apply b2 | apply b3 | refine b4 ?_ GE496.out)))
 (case aL => have := LMc36.out; omega)
 intro v544 w63 ho hb hg hat
 rw [← Ny543.out] at ho
 have n0_ := ak (blk_grown (g := gb496) (o := .cells #[.slice A0_0 l0_0.length c0_0, .slice A0_1 l0_1.length c0_1, .slice A0_2 l0_2.length c0_2] 78 (0, 0)) (ub BK496.out) hg (Kd.R_ne HO511.out BK496.out (by decide)))
 have n1_ := ak (Kd.R_over' (ur <| HO517.out) (Kd.R_typed (ur <| HO511.out)) (by decide) hg)
 have n2_ := ak (Kd.R_over' (ur <| HO534.out) (Kd.R_typed (ur <| HO511.out)) (by decide) hg)
 have n3_ := ak (Kd.R_over' (ur <| HO537.out) (Kd.R_typed (ur <| HO511.out)) (by decide) hg)
 have n4_ := ak (Kd.R_after (ok := (fun _ => True)) (ur <| HO542.out) hg hat)
 have n5_ := ak (hb)
 have n6_ := ak (ho)
 clear BK496 HO517 HO534 HO537 HO542 HB HO511
 have BK496 := n0_; have HO517 := n1_; have HO534 := n2_; have HO537 := n3_; have HO542 := n4_; have HB := n5_; have HO545 := n6_
 clear n0_ n1_ n2_ n3_ n4_ n5_ n6_ ho hb hg hat
 refine hK.out _ _ trivial (fun hHeld => ?_)
 clear hK K
 refine norm_ (a' := ?_) ?_ ?_
 rotate_left
 ·
  show Act.put _ (some 77) _ = _
  simp only [Act.put, s1, s2, s3, i64_w, i32_w]
  rfl
 refine pure_ (i := 15) (N := some 5) (v := ?_) (a' := ?_) #[true, true, true, true, true, true, true, true, true, true, true, true, true, true, true, true] rfl rfl (any_of HT_.out (by kernel_rfl)) (fun _ _ _ h => h) (Or.inl ⟨by rfl, ?_⟩) ?_ ?_
 rotate_left
 ·
  intro w'
  go_simp
  with_reducible rfl
 rotate_left
 ·
  simp only [Act.put, s1, s2, s3, i64_w, i32_w]
  rfl
 refine done_ (done_of HT_.out (by kernel_rfl)) ?_
 try go_wp2
 go_roundg kj13
 case measure => have := HJ3.out; have := HK2.out; have := HJ13.out; omega
 case rel => exact ⟨(y543), (wrap64 (x6_2 + 1)), (by first | rfl | (simp; done) | (simp [*]; done)), H', ⟨by have := HJ3.out; have := HK2.out; have := HJ13.out; omega⟩, ⟨ur <| Kd.R_mono HO545.out (fun _ hk => trivial)⟩, ⟨ub BK496.out⟩, ⟨by repeat with_reducible first | exact HB.out | apply b1 | apply b2 | apply b3 | refine b4 ?_ GE496.out⟩⟩
end Go.Proofs.Ytnpghcikhpglkaa.Q
namespace Go.Proofs.Ytnpghcikhpglkaa.Q
open Go.RowKit Go.Proofs.YtnpghcikhpglkaaW.PrintWords Go.Proofs.YtnpghcikhpglkaaW.PrintLast Go.Proofs.YtnpghcikhpglkaaW.PrintMore
attribute [local go_sem] max2_int min2_int max_two min_two max_three min_three max_four min_four   -- for this text's walks alone
set_option linter.unusedVariables false
set_option linter.unusedSimpArgs false

/-! ### herbariumref1_List_Read: function 108 -/
mutual
def herbariumref1_List_Read.j0 : Nat → List Int → Int → Int → Int → Bool → Option (Int × Int)
  | 0, _, _, _, _, _ => none
  | k + 1, x0, x1, x2, x8, x110 => if x110 = true then (some ((-1), 0)) else ((herbariumref1_List_Get.f k x0 (wrap64 (x1 + x8)) (wrap64 (x8 + 1))).bind fun t432 => ((herbariumref1_Code.f x2 t432).bind fun t433 => (if t433 = true then (some (t432, wrap64 ((wrap64 (x1 + (wrap64 (2 * x8)))) + 1))) else (some ((-1), 0)))))
def herbariumref1_List_Read.j1 : Nat → List Int → Int → Int → Int → Bool → Option (Int × Int)
  | 0, _, _, _, _, _ => none
  | k + 1, x0, x2, x11, x12, x145 => if x145 = true then (some ((-1), 0)) else (if 0 ≤ (wrap64 (x11 - 1)) then ((herbariumref1_List_Get.f k x0 x12 (wrap64 (x11 - 1))).bind fun t436 => ((herbariumref1_Code.f x2 (wrap64 ((shl .i64 1 (wrap64 (x11 - 1))) + t436))).bind fun t437 => (if t437 = true then (some (wrap64 ((shl .i64 1 (wrap64 (x11 - 1))) + t436), wrap64 ((wrap64 (x12 + x11)) - 1))) else (some ((-1), 0))))) else (none))
def herbariumref1_List_Read.j2 : Nat → List Int → Int → Int → Int → Int → Option (Int × Int)
  | 0, _, _, _, _, _ => none
  | k + 1, x0, x2, x8, x10, x13 => if x8 > 15 then (some ((-1), 0)) else (if 0 ≤ (wrap64 ((wrap64 (x8 + 1)) * x13)) then (if 0 ≤ (wrap64 (x8 * x13)) then ((herbariumref1_log.f k (wrap64 ((wrap64 ((shl .i64 1 (wrap64 ((wrap64 (x8 + 1)) * x13))) - (shl .i64 1 (wrap64 (x8 * x13))))) - 1))).bind fun t438 => (if (wrap64 ((wrap64 (x10 + (wrap64 (t438 + 1)))) - 1)) > (x0.length : Int) then (some ((-1), 0)) else ((herbariumref1_List_Get.f k x0 x10 (wrap64 ((wrap64 (t438 + 1)) - 1))).bind fun t439 => (if 0 ≤ (wrap64 (t438 + 1)) then (if t439 ≥ (wrap64 ((shl .i64 1 (wrap64 (t438 + 1))) - (wrap64 ((shl .i64 1 (wrap64 ((wrap64 (x8 + 1)) * x13))) - (shl .i64 1 (wrap64 (x8 * x13))))))) then (if (wrap64 ((wrap64 ((wrap64 (x10 + (wrap64 (t438 + 1)))) - 1)) + 1)) > (x0.length : Int) then (some ((-1), 0)) else (if 0 ≤ (wrap64 ((wrap64 (x10 + (wrap64 (t438 + 1)))) - 1)) then (if (wrap64 ((wrap64 (x10 + (wrap64 (t438 + 1)))) - 1)) < (x0.length : Int) then ((herbariumref1_Code.f x2 (wrap64 ((shl .i64 1 (wrap64 (x8 * x13))) + (wrap64 ((wrap64 ((wrap64 (2 * t439)) + (wrap64 (rd x0 (wrap64 ((wrap64 (x10 + (wrap64 (t438 + 1)))) - 1)))))) - (wrap64 ((shl .i64 1 (wrap64 (t438 + 1))) - (wrap64 ((shl .i64 1 (wrap64 ((wrap64 (x8 + 1)) * x13))) - (shl .i64 1 (wrap64 (x8 * x13)))))))))))).bind fun t441 => (if t441 = true then (some (wrap64 ((shl .i64 1 (wrap64 (x8 * x13))) + (wrap64 ((wrap64 ((wrap64 (2 * t439)) + (wrap64 (rd x0 (wrap64 ((wrap64 (x10 + (wrap64 (t438 + 1)))) - 1)))))) - (wrap64 ((shl .i64 1 (wrap64 (t438 + 1))) - (wrap64 ((shl .i64 1 (wrap64 ((wrap64 (x8 + 1)) * x13))) - (shl .i64 1 (wrap64 (x8 * x13)))))))))), wrap64 ((wrap64 ((wrap64 (x10 + (wrap64 (t438 + 1)))) - 1)) + 1))) else (some ((-1), 0)))) else (none)) else (none))) else ((herbariumref1_Code.f x2 (wrap64 ((shl .i64 1 (wrap64 (x8 * x13))) + t439))).bind fun t442 => (if t442 = true then (some (wrap64 ((shl .i64 1 (wrap64 (x8 * x13))) + t439), wrap64 ((wrap64 (x10 + (wrap64 (t438 + 1)))) - 1))) else (some ((-1), 0))))) else (none))))) else (none)) else (none))
def herbariumref1_List_Read.f : Nat → List Int → Int → Int → Option (Int × Int)
  | 0, _, _, _ => none
  | k + 1, l0, a1, a2 => (herbariumref1_List_Zeros.f k l0 a1).bind fun t430 => (if t430 < 0 then (some ((-1), 0)) else (if a2 = 1 then ((herbariumref1_Code.f a2 (wrap64 (t430 + 1))).bind fun t431 => (if t431 = true then (some (wrap64 (t430 + 1), wrap64 ((wrap64 (a1 + t430)) + 1))) else (some ((-1), 0)))) else (if a2 = 2 then (if t430 > 30 then (herbariumref1_List_Read.j0 k l0 a1 a2 t430 true) else (herbariumref1_List_Read.j0 k l0 a1 a2 t430 (decide ((wrap64 ((wrap64 (a1 + (wrap64 (2 * t430)))) + 1)) > (l0.length : Int))))) else (if a2 = 3 then ((herbariumref1_List_Read.f k l0 a1 2).bind fun bt434 => (if bt434.1 < 1 then (herbariumref1_List_Read.j1 k l0 a2 bt434.1 bt434.2 true) else (if bt434.1 > 31 then (herbariumref1_List_Read.j1 k l0 a2 bt434.1 bt434.2 true) else (herbariumref1_List_Read.j1 k l0 a2 bt434.1 bt434.2 (decide ((wrap64 ((wrap64 (bt434.2 + bt434.1)) - 1)) > (l0.length : Int))))))) else (if a2 = 5 then (herbariumref1_List_Read.j2 k l0 a2 t430 (wrap64 ((wrap64 (a1 + t430)) + 1)) 3) else (herbariumref1_List_Read.j2 k l0 a2 t430 (wrap64 ((wrap64 (a1 + t430)) + 1)) 2))))))
end
set_option maxHeartbeats 8000000 in
set_option maxRecDepth 100000 in
theorem herbariumref1_List_Read.calls (k : Nat) : ∀ (A0 : Option Addr) (c0 : Nat) (l0 : List Int) (a1 : Int) (a2 : Int) (r1 : Int) (r2 : Int) (w : World) (hr0 : Kd.C (Kd.int .u8) w A0 l0.length l0) (hc0 : l0.length ≤ c0) (h2 : a2 = 2) (h : herbariumref1_List_Read.f k l0 a1 a2 = some (r1, r2)),
    Calls Try.prog 108 #[.slice A0 l0.length c0, .int .i64 a1, .int .i64 a2] w fun e w' => e = .returned (.tuple #[.int .i64 r1, .int .i64 r2]) ∧ Drawn0 w w' := by
 induction k using Nat.strongRecOn with
 | _ k ih =>
 intro A0 c0 l0 a1 a2 r1 r2 w hr0 hc0 h2 h
 have H2 := ak h2
 clear h2
 cases k with
 | zero => exact absurd h (by simp [herbariumref1_List_Read.f])
 | succ k =>
 simp only [herbariumref1_List_Read.f] at h
 have HR0 := ak hr0
 have HC0 := ak hc0
 clear hr0 hc0
 have H : ((herbariumref1_List_Zeros.f k l0 a1).bind fun t430 => (if t430 < 0 then (some ((-1), 0)) else (if a2 = 1 then ((herbariumref1_Code.f a2 (wrap64 (t430 + 1))).bind fun t431 => (if t431 = true then (some (wrap64 (t430 + 1), wrap64 ((wrap64 (a1 + t430)) + 1))) else (some ((-1), 0)))) else (if a2 = 2 then (if t430 > 30 then (herbariumref1_List_Read.j0 k l0 a1 a2 t430 true) else (herbariumref1_List_Read.j0 k l0 a1 a2 t430 (decide ((wrap64 ((wrap64 (a1 + (wrap64 (2 * t430)))) + 1)) > (l0.length : Int))))) else (if a2 = 3 then ((herbariumref1_List_Read.f k l0 a1 2).bind fun bt434 => (if bt434.1 < 1 then (herbariumref1_List_Read.j1 k l0 a2 bt434.1 bt434.2 true) else (if bt434.1 > 31 then (herbariumref1_List_Read.j1 k l0 a2 bt434.1 bt434.2 true) else (herbariumref1_List_Read.j1 k l0 a2 bt434.1 bt434.2 (decide ((wrap64 ((wrap64 (bt434.2 + bt434.1)) - 1)) > (l0.length : Int))))))) else (if a2 = 5 then (herbariumref1_List_Read.j2 k l0 a2 t430 (wrap64 ((wrap64 (a1 + t430)) + 1)) 3) else (herbariumref1_List_Read.j2 k l0 a2 t430 (wrap64 ((wrap64 (a1 + t430)) + 1)) 2))))))) = some (r1, r2) := h
 clear h
 replace H := Option.bind_eq_some_iff.mp H
 obtain ⟨t430, A40, H⟩ := H
 try dsimp only at H
 have A4 := ak A40
 clear A40
 by_cases c5 : t430 < 0
 ·
  rw [if_pos c5] at H
  have c5b0 : decide (t430 < 0) = true := decide_eq_true c5
  clear c5
  simp only [Option.some.injEq, Prod.mk.injEq] at H
  obtain ⟨rfl, rfl⟩ := H
  go_enter Try.func108, Try.ntmps108
  go_wp2_with (first | (go_at_call 54; (with_reducible refine (herbariumref1_List_Zeros.calls k _ _ l0 a1 t430 _ ?side1 ?side2 A4.out).mono ?_); (case side1 => exact uc HR0.out); (case side2 => exact HC0.out); rintro e w' ⟨rfl, ⟨nd, rfl⟩⟩; (try first | exact ⟨rfl, _, World.drewN_drewN _ _ _⟩ | exact ⟨rfl, _, Eq.trans (World.drewN_drewN _ _ _) (congrArg (World.drewN _) (Nat.add_assoc _ _ _))⟩)))
  repeat (go_quiet (first | (go_at_call 54; (with_reducible refine (herbariumref1_List_Zeros.calls k _ _ l0 a1 t430 _ ?side1 ?side2 A4.out).mono ?_); (case side1 => exact uc HR0.out); (case side2 => exact HC0.out); rintro e w' ⟨rfl, ⟨nd, rfl⟩⟩; (try first | exact ⟨rfl, _, World.drewN_drewN _ _ _⟩ | exact ⟨rfl, _, Eq.trans (World.drewN_drewN _ _ _) (congrArg (World.drewN _) (Nat.add_assoc _ _ _))⟩))); try go_wp2_with (first | (go_at_call 54; (with_reducible refine (herbariumref1_List_Zeros.calls k _ _ l0 a1 t430 _ ?side1 ?side2 A4.out).mono ?_); (case side1 => exact uc HR0.out); (case side2 => exact HC0.out); rintro e w' ⟨rfl, ⟨nd, rfl⟩⟩; (try first | exact ⟨rfl, _, World.drewN_drewN _ _ _⟩ | exact ⟨rfl, _, Eq.trans (World.drewN_drewN _ _ _) (congrArg (World.drewN _) (Nat.add_assoc _ _ _))⟩))))
  go_ret2
  exact ⟨by first | rfl | (simp; done) | (simp [*]; done), by repeat (first | exact Drawn0.refl _ | apply Drawn0.step)⟩
 rw [if_neg c5] at H
 have c5b0 : decide (t430 < 0) = false := decide_eq_false c5
 clear c5
 by_cases c6 : a2 = 1
 ·
  exact absurd (H2.out.symm.trans c6) (by decide)
 rw [if_neg c6] at H
 have c6b0 : (a2 == 1) = false := beq_eq_false_iff_ne.mpr c6
 have c6b1 : (a2 != 1) = true := bne_iff_ne.mpr c6
 by_cases c9 : a2 = 2
 ·
  rw [if_pos c9] at H
  have c9b0 : (a2 == 2) = true := beq_iff_eq.mpr c9
  have c9b1 : (a2 != 2) = false := bne_eq_false_iff_eq.mpr c9
  clear c9
  have HC10 := ak H
  clear H
  go_enter Try.func108, Try.ntmps108
  go_upto_region 26 with (first | (go_at_call 54; (with_reducible refine (herbariumref1_List_Zeros.calls k _ _ l0 a1 t430 _ ?side1 ?side2 A4.out).mono ?_); (case side1 => exact uc HR0.out); (case side2 => exact HC0.out); rintro e w' ⟨rfl, ⟨nd, rfl⟩⟩; (try first | exact ⟨rfl, _, World.drewN_drewN _ _ _⟩ | exact ⟨rfl, _, Eq.trans (World.drewN_drewN _ _ _) (congrArg (World.drewN _) (Nat.add_assoc _ _ _))⟩)))
  repeat (go_quiet (first | (go_at_call 54; (with_reducible refine (herbariumref1_List_Zeros.calls k _ _ l0 a1 t430 _ ?side1 ?side2 A4.out).mono ?_); (case side1 => exact uc HR0.out); (case side2 => exact HC0.out); rintro e w' ⟨rfl, ⟨nd, rfl⟩⟩; (try first | exact ⟨rfl, _, World.drewN_drewN _ _ _⟩ | exact ⟨rfl, _, Eq.trans (World.drewN_drewN _ _ _) (congrArg (World.drewN _) (Nat.add_assoc _ _ _))⟩))); go_upto_region 26 with (first | (go_at_call 54; (with_reducible refine (herbariumref1_List_Zeros.calls k _ _ l0 a1 t430 _ ?side1 ?side2 A4.out).mono ?_); (case side1 => exact uc HR0.out); (case side2 => exact HC0.out); rintro e w' ⟨rfl, ⟨nd, rfl⟩⟩; (try first | exact ⟨rfl, _, World.drewN_drewN _ _ _⟩ | exact ⟨rfl, _, Eq.trans (World.drewN_drewN _ _ _) (congrArg (World.drewN _) (Nat.add_assoc _ _ _))⟩))))
  (try simp only [Act.put, s1, s2, s3])
  go_cut [110] (fun v110 wc => ∃ (kq : Nat) (x110_9 : Bool), v110 = .bool x110_9 ∧ Aside0 (herbariumref1_List_Read.j0 kq l0 a1 a2 t430 x110_9 = some (r1, r2)) ∧ Aside0 (kq ≤ k) ∧ Drawn0 w wc)
  case first =>
   have H := HC10.out
   clear HC10
   by_cases c11 : t430 > 30
   ·
    rw [if_pos c11] at H
    have c11b0 : decide (30 < t430) = true := decide_eq_true c11
    clear c11
    (first | rw [c11b0] | (simp only [i64_w, i32_w]; rw [c11b0]) | skip)
    have H' := ak H
    clear H
    go_wp2
    repeat (go_quiet (fail); try go_wp2)
    go_meet
    case rel => exact ⟨_, (true), (by first | rfl | (simp; done) | (simp [*]; done)), H', ⟨by first | omega | exact Nat.le_refl _⟩, by repeat (first | exact Drawn0.refl _ | apply Drawn0.step)⟩
   rw [if_neg c11] at H
   have c11b0 : decide (30 < t430) = false := decide_eq_false c11
   clear c11
   (first | rw [c11b0] | (simp only [i64_w, i32_w]; rw [c11b0]) | skip)
   have H' := ak H
   clear H
   go_wp2
   repeat (go_quiet (fail); try go_wp2)
   go_meet
   case rel => exact ⟨_, (decide ((wrap64 ((wrap64 (a1 + (wrap64 (2 * t430)))) + 1)) > (l0.length : Int))), (by first | rfl | (simp; done) | (simp [*]; done)), H', ⟨by first | omega | exact Nat.le_refl _⟩, by repeat (first | exact Drawn0.refl _ | apply Drawn0.step)⟩
  clear HC10
  (try clear c5); (try clear c5b0); (try clear c6); (try clear c6b0); (try clear c6b1); (try clear c9); (try clear c9b0); (try clear c9b1)
  obtain ⟨kq, x110_9, rfl, HA, HJ9, ⟨mc9, rfl⟩⟩ := hcut
  cases kq with
  | zero => exact absurd HA.out (by simp [herbariumref1_List_Read.j0])
  | succ kj9 => ?_
  have H := HA.out
  clear HA
  simp only [herbariumref1_List_Read.j0] at H
  by_cases c12 : x110_9 = true
  ·
   subst c12
   rw [if_pos rfl] at H
   simp only [Option.some.injEq, Prod.mk.injEq] at H
   obtain ⟨rfl, rfl⟩ := H
   go_wp2
   repeat (go_quiet (fail); try go_wp2)
   go_ret2
   exact ⟨by first | rfl | (simp; done) | (simp [*]; done), by repeat (first | exact Drawn0.refl _ | apply Drawn0.step)⟩
  replace c12 := Bool.eq_false_iff.mpr c12
  subst c12
  rw [if_neg (show ¬ (false = true) by decide)] at H
  replace H := Option.bind_eq_some_iff.mp H
  obtain ⟨t432, A130, H⟩ := H
  try dsimp only at H
  have A13 := ak A130
  clear A130
  replace H := Option.bind_eq_some_iff.mp H
  obtain ⟨t433, A140, H⟩ := H
  try dsimp only at H
  have A14 := ak A140
  clear A140
  by_cases c15 : t433 = true
  ·
   subst c15
   rw [if_pos rfl] at H
   simp only [Option.some.injEq, Prod.mk.injEq] at H
   obtain ⟨rfl, rfl⟩ := H
   go_wp2_with (first | (go_at_call 57; (with_reducible refine (herbariumref1_List_Get.calls kj9 _ _ l0 (wrap64 (a1 + t430)) (wrap64 (t430 + 1)) t432 _ ?side1 ?side2 A13.out).mono ?_); (case side1 => exact uc HR0.out); (case side2 => exact HC0.out); rintro e w' ⟨rfl, ⟨nd, rfl⟩⟩; (try first | exact ⟨rfl, _, World.drewN_drewN _ _ _⟩ | exact ⟨rfl, _, Eq.trans (World.drewN_drewN _ _ _) (congrArg (World.drewN _) (Nat.add_assoc _ _ _))⟩)) | (go_at_call 106; (with_reducible refine (herbariumref1_Code.calls a2 t432 true _ A14.out).mono ?_); rintro e w' ⟨rfl, ⟨nd, rfl⟩⟩; (try first | exact ⟨rfl, _, World.drewN_drewN _ _ _⟩ | exact ⟨rfl, _, Eq.trans (World.drewN_drewN _ _ _) (congrArg (World.drewN _) (Nat.add_assoc _ _ _))⟩)))
   repeat (go_quiet (first | (go_at_call 57; (with_reducible refine (herbariumref1_List_Get.calls kj9 _ _ l0 (wrap64 (a1 + t430)) (wrap64 (t430 + 1)) t432 _ ?side1 ?side2 A13.out).mono ?_); (case side1 => exact uc HR0.out); (case side2 => exact HC0.out); rintro e w' ⟨rfl, ⟨nd, rfl⟩⟩; (try first | exact ⟨rfl, _, World.drewN_drewN _ _ _⟩ | exact ⟨rfl, _, Eq.trans (World.drewN_drewN _ _ _) (congrArg (World.drewN _) (Nat.add_assoc _ _ _))⟩)) | (go_at_call 106; (with_reducible refine (herbariumref1_Code.calls a2 t432 true _ A14.out).mono ?_); rintro e w' ⟨rfl, ⟨nd, rfl⟩⟩; (try first | exact ⟨rfl, _, World.drewN_drewN _ _ _⟩ | exact ⟨rfl, _, Eq.trans (World.drewN_drewN _ _ _) (congrArg (World.drewN _) (Nat.add_assoc _ _ _))⟩))); try go_wp2_with (first | (go_at_call 57; (with_reducible refine (herbariumref1_List_Get.calls kj9 _ _ l0 (wrap64 (a1 + t430)) (wrap64 (t430 + 1)) t432 _ ?side1 ?side2 A13.out).mono ?_); (case side1 => exact uc HR0.out); (case side2 => exact HC0.out); rintro e w' ⟨rfl, ⟨nd, rfl⟩⟩; (try first | exact ⟨rfl, _, World.drewN_drewN _ _ _⟩ | exact ⟨rfl, _, Eq.trans (World.drewN_drewN _ _ _) (congrArg (World.drewN _) (Nat.add_assoc _ _ _))⟩)) | (go_at_call 106; (with_reducible refine (herbariumref1_Code.calls a2 t432 true _ A14.out).mono ?_); rintro e w' ⟨rfl, ⟨nd, rfl⟩⟩; (try first | exact ⟨rfl, _, World.drewN_drewN _ _ _⟩ | exact ⟨rfl, _, Eq.trans (World.drewN_drewN _ _ _) (congrArg (World.drewN _) (Nat.add_assoc _ _ _))⟩))))
   go_ret2
   exact ⟨by first | rfl | (simp; done) | (simp [*]; done), by repeat (first | exact Drawn0.refl _ | apply Drawn0.step)⟩
  replace c15 := Bool.eq_false_iff.mpr c15
  subst c15
  rw [if_neg (show ¬ (false = true) by decide)] at H
  simp only [Option.some.injEq, Prod.mk.injEq] at H
  obtain ⟨rfl, rfl⟩ := H
  go_wp2_with (first | (go_at_call 57; (with_reducible refine (herbariumref1_List_Get.calls kj9 _ _ l0 (wrap64 (a1 + t430)) (wrap64 (t430 + 1)) t432 _ ?side1 ?side2 A13.out).mono ?_); (case side1 => exact uc HR0.out); (case side2 => exact HC0.out); rintro e w' ⟨rfl, ⟨nd, rfl⟩⟩; (try first | exact ⟨rfl, _, World.drewN_drewN _ _ _⟩ | exact ⟨rfl, _, Eq.trans (World.drewN_drewN _ _ _) (congrArg (World.drewN _) (Nat.add_assoc _ _ _))⟩)) | (go_at_call 106; (with_reducible refine (herbariumref1_Code.calls a2 t432 false _ A14.out).mono ?_); rintro e w' ⟨rfl, ⟨nd, rfl⟩⟩; (try first | exact ⟨rfl, _, World.drewN_drewN _ _ _⟩ | exact ⟨rfl, _, Eq.trans (World.drewN_drewN _ _ _) (congrArg (World.drewN _) (Nat.add_assoc _ _ _))⟩)))
  repeat (go_quiet (first | (go_at_call 57; (with_reducible refine (herbariumref1_List_Get.calls kj9 _ _ l0 (wrap64 (a1 + t430)) (wrap64 (t430 + 1)) t432 _ ?side1 ?side2 A13.out).mono ?_); (case side1 => exact uc HR0.out); (case side2 => exact HC0.out); rintro e w' ⟨rfl, ⟨nd, rfl⟩⟩; (try first | exact ⟨rfl, _, World.drewN_drewN _ _ _⟩ | exact ⟨rfl, _, Eq.trans (World.drewN_drewN _ _ _) (congrArg (World.drewN _) (Nat.add_assoc _ _ _))⟩)) | (go_at_call 106; (with_reducible refine (herbariumref1_Code.calls a2 t432 false _ A14.out).mono ?_); rintro e w' ⟨rfl, ⟨nd, rfl⟩⟩; (try first | exact ⟨rfl, _, World.drewN_drewN _ _ _⟩ | exact ⟨rfl, _, Eq.trans (World.drewN_drewN _ _ _) (congrArg (World.drewN _) (Nat.add_assoc _ _ _))⟩))); try go_wp2_with (first | (go_at_call 57; (with_reducible refine (herbariumref1_List_Get.calls kj9 _ _ l0 (wrap64 (a1 + t430)) (wrap64 (t430 + 1)) t432 _ ?side1 ?side2 A13.out).mono ?_); (case side1 => exact uc HR0.out); (case side2 => exact HC0.out); rintro e w' ⟨rfl, ⟨nd, rfl⟩⟩; (try first | exact ⟨rfl, _, World.drewN_drewN _ _ _⟩ | exact ⟨rfl, _, Eq.trans (World.drewN_drewN _ _ _) (congrArg (World.drewN _) (Nat.add_assoc _ _ _))⟩)) | (go_at_call 106; (with_reducible refine (herbariumref1_Code.calls a2 t432 false _ A14.out).mono ?_); rintro e w' ⟨rfl, ⟨nd, rfl⟩⟩; (try first | exact ⟨rfl, _, World.drewN_drewN _ _ _⟩ | exact ⟨rfl, _, Eq.trans (World.drewN_drewN _ _ _) (congrArg (World.drewN _) (Nat.add_assoc _ _ _))⟩))))
  go_ret2
  exact ⟨by first | rfl | (simp; done) | (simp [*]; done), by repeat (first | exact Drawn0.refl _ | apply Drawn0.step)⟩
 exact absurd H2.out c9
end Go.Proofs.Ytnpghcikhpglkaa.Q
namespace Go.Proofs.Ytnpghcikhpglkaa.Q
open Go.RowKit Go.Proofs.YtnpghcikhpglkaaW.PrintWords Go.Proofs.YtnpghcikhpglkaaW.PrintLast Go.Proofs.YtnpghcikhpglkaaW.PrintMore
attribute [local go_sem] max2_int min2_int max_two min_two max_three min_three max_four min_four   -- for this text's walks alone
set_option linter.unusedVariables false
set_option linter.unusedSimpArgs false

/-! ### code_Fold: function 110 -/
def code_Fold.f (a0 : Int) : Option (Int) := if a0 < 0 then (some (wrap64 ((wrap64 ((-2) * a0)) - 1))) else (some (wrap64 (2 * a0)))
set_option maxHeartbeats 8000000 in
set_option maxRecDepth 100000 in
theorem code_Fold.calls (a0 : Int) (r : Int) (w : World) (h : code_Fold.f a0 = some r) :
    Calls Try.prog 110 #[.int .i64 a0] w fun e w' => e = .returned (.int .i64 r) ∧ Drawn0 w w' := by
 have H : (if a0 < 0 then (some (wrap64 ((wrap64 ((-2) * a0)) - 1))) else (some (wrap64 (2 * a0)))) = some r := h
 clear h
 by_cases c2 : a0 < 0
 ·
  rw [if_pos c2] at H
  have c2b0 : decide (a0 < 0) = true := decide_eq_true c2
  clear c2
  obtain rfl := Option.some.inj H
  go_enter Try.func110, Try.ntmps110
  go_wp2
  go_ret
  exact ⟨by first | rfl | (simp; done) | (simp [*]; done), by repeat (first | exact Drawn0.refl _ | apply Drawn0.step)⟩
 rw [if_neg c2] at H
 have c2b0 : decide (a0 < 0) = false := decide_eq_false c2
 clear c2
 obtain rfl := Option.some.inj H
 go_enter Try.func110, Try.ntmps110
 go_wp2
 go_ret
 exact ⟨by first | rfl | (simp; done) | (simp [*]; done), by repeat (first | exact Drawn0.refl _ | apply Drawn0.step)⟩
end Go.Proofs.Ytnpghcikhpglkaa.Q
namespace Go.Proofs.Ytnpghcikhpglkaa.Q
open Go.RowKit Go.Proofs.YtnpghcikhpglkaaW.PrintWords Go.Proofs.YtnpghcikhpglkaaW.PrintLast Go.Proofs.YtnpghcikhpglkaaW.PrintMore
attribute [local go_sem] max2_int min2_int max_two min_two max_three min_three max_four min_four   -- for this text's walks alone
set_option linter.unusedVariables false
set_option linter.unusedSimpArgs false

/-! ### code_Unfold: function 111 -/
def code_Unfold.f (a0 : Int) : Option (Int) := if (Int.tmod a0 2) = 1 then (some (wrap64 (Int.tdiv (wrap64 (-(wrap64 (a0 + 1)))) 2))) else (some (wrap64 (Int.tdiv a0 2)))
set_option maxHeartbeats 8000000 in
set_option maxRecDepth 100000 in
theorem code_Unfold.calls (a0 : Int) (r : Int) (w : World) (h : code_Unfold.f a0 = some r) :
    Calls Try.prog 111 #[.int .i64 a0] w fun e w' => e = .returned (.int .i64 r) ∧ Drawn0 w w' := by
 have H : (if (Int.tmod a0 2) = 1 then (some (wrap64 (Int.tdiv (wrap64 (-(wrap64 (a0 + 1)))) 2))) else (some (wrap64 (Int.tdiv a0 2)))) = some r := h
 clear h
 by_cases c2 : (Int.tmod a0 2) = 1
 rotate_left
 ·
  rw [if_neg c2] at H
  have c2b0 : ((Int.tmod a0 2) == 1) = false := beq_eq_false_iff_ne.mpr c2
  have c2b1 : ((Int.tmod a0 2) != 1) = true := bne_iff_ne.mpr c2
  obtain rfl := Option.some.inj H
  go_enter Try.func111, Try.ntmps111
  go_wp2
  go_ret
  exact ⟨by first | rfl | (simp; done) | (simp [*]; done), by repeat (first | exact Drawn0.refl _ | apply Drawn0.step)⟩
 rw [if_pos c2] at H
 have c2b0 : ((Int.tmod a0 2) == 1) = true := beq_iff_eq.mpr c2
 have c2b1 : ((Int.tmod a0 2) != 1) = false := bne_eq_false_iff_eq.mpr c2
 clear c2
 obtain rfl := Option.some.inj H
 go_enter Try.func111, Try.ntmps111
 go_wp2
 go_ret
 exact ⟨by first | rfl | (simp; done) | (simp [*]; done), by repeat (first | exact Drawn0.refl _ | apply Drawn0.step)⟩
end Go.Proofs.Ytnpghcikhpglkaa.Q
namespace Go.Proofs.Ytnpghcikhpglkaa.Q
open Go.RowKit Go.Proofs.YtnpghcikhpglkaaW.PrintWords Go.Proofs.YtnpghcikhpglkaaW.PrintLast Go.Proofs.YtnpghcikhpglkaaW.PrintMore
attribute [local go_sem] max2_int min2_int max_two min_two max_three min_three max_four min_four   -- for this text's walks alone
set_option linter.unusedVariables false
set_option linter.unusedSimpArgs false

/-! ### herbariumref3_TakeGaps: function 84 -/
mutual
def herbariumref3_TakeGaps.j0 : Nat → List Int → Int → Int → Int → Bool → Option (List Int × Int × Bool)
  | 0, _, _, _, _, _ => none
  | k + 1, x0, x1, x2, x9, x27 => if x27 = true then (some (([] : List Int), 0, false)) else (herbariumref3_TakeGaps.l0 k x0 x1 x2 x9 ([] : List Int) 0 0)
def herbariumref3_TakeGaps.l0 : Nat → List Int → Int → Int → Int → List Int → Int → Int → Option (List Int × Int × Bool)
  | 0, _, _, _, _, _, _, _ => none
  | k + 1, x0, x1, x2, x9, x10, x11, x12 => if x12 < (wrap64 (x9 - 1)) then ((herbariumref1_List_Read.f k x0 x1 2).bind fun bt549 => (if bt549.1 < 1 then (some (([] : List Int), 0, false)) else (if x12 = 0 then ((herbariumref1_Zag.f (wrap64 (bt549.1 - 1))).bind fun t551 => (if x10.length < 17592186044416 then (herbariumref3_TakeGaps.l0 k x0 bt549.2 x2 x9 (x10 ++ [wrap64 (x2 + t551)]) (wrap64 (x2 + t551)) (wrap64 (x12 + 1))) else (none))) else (if x10.length < 17592186044416 then (herbariumref3_TakeGaps.l0 k x0 bt549.2 x2 x9 (x10 ++ [wrap64 (x11 + bt549.1)]) (wrap64 (x11 + bt549.1)) (wrap64 (x12 + 1))) else (none))))) else ((herbariumref3_May.f k x10).bind fun t548 => (if t548 = true then (some (x10, x1, true)) else (some (([] : List Int), 0, false))))
end
def herbariumref3_TakeGaps.f (k : Nat) (l0 : List Int) (a1 : Int) (a2 : Int) : Option (List Int × Int × Bool) := (herbariumref1_List_Read.f k l0 a1 2).bind fun bt546 => (if bt546.1 < 1 then (herbariumref3_TakeGaps.j0 k l0 bt546.2 a2 bt546.1 true) else (herbariumref3_TakeGaps.j0 k l0 bt546.2 a2 bt546.1 (decide ((wrap64 (bt546.1 - 1)) > 16))))
set_option maxHeartbeats 8000000 in
set_option maxRecDepth 100000 in
theorem herbariumref3_TakeGaps.calls (k : Nat) (A0 : Option Addr) (c0 : Nat) (l0 : List Int) (a1 : Int) (a2 : Int) (r1 : List Int) (r2 : Int) (r3 : Bool) (w : World) (hr0 : Kd.C (Kd.int .u8) w A0 l0.length l0) (hc0 : l0.length ≤ c0) (h : herbariumref3_TakeGaps.f k l0 a1 a2 = some (r1, r2, r3)) :
    Calls Try.prog 84 #[.slice A0 l0.length c0, .int .i64 a1, .int .i64 a2] w fun e w' => ∃ v0_ : Value, e = .returned (.tuple #[v0_, .int .i64 r2, .bool r3]) ∧ Kd.R (Kd.int .i64) 3 w' w.heap.size (fun _ => True) v0_ r1 ∧ Below w.heap.size w w' := by
 have HR0 := ak hr0
 have HC0 := ak hc0
 clear hr0 hc0
 have HB := ak (Below.refl w.heap.size w)
 have H : ((herbariumref1_List_Read.f k l0 a1 2).bind fun bt546 => (if bt546.1 < 1 then (herbariumref3_TakeGaps.j0 k l0 bt546.2 a2 bt546.1 true) else (herbariumref3_TakeGaps.j0 k l0 bt546.2 a2 bt546.1 (decide ((wrap64 (bt546.1 - 1)) > 16))))) = some (r1, r2, r3) := h
 clear h
 replace H := Option.bind_eq_some_iff.mp H
 obtain ⟨⟨t546, t547⟩, A40, H⟩ := H
 try dsimp only at H
 have A4 := ak A40
 clear A40
 have HC5 := ak H
 clear H
 go_enter Try.func84, Try.ntmps84
 go_upto_region 2 with (first | ((with_reducible refine gate_callee (f := 108) rfl ?_); refine goesL_ (some 18) rfl rfl Try.func108 (by kernel_rfl) rfl #[.slice A0 l0.length c0, .int .i64 a1, .int .i64 2] rfl (by (try simp only [List.map_toArray, List.map_cons, List.map_nil]); first | done | rfl | (simp only [List.length_drop, List.length_take]; rfl)) ?_; (with_reducible refine (herbariumref1_List_Read.calls k _ _ l0 a1 2 t546 t547 _ ?side1 ?side2 rfl A4.out).mono ?_); (case side1 => exact uc HR0.out); (case side2 => exact HC0.out); rintro e w' ⟨rfl, ⟨nd, rfl⟩⟩; refine ⟨_, rfl, ?_⟩))
 (try simp only [Act.put, s1, s2, s3])
 go_cut [27] (fun v27 wc => ∃ (kq : Nat) (x27_4 : Bool), v27 = .bool x27_4 ∧ Aside0 (herbariumref3_TakeGaps.j0 kq l0 t547 a2 t546 x27_4 = some (r1, r2, r3)) ∧ Aside0 (kq ≤ k) ∧ Aside0 (Below w.heap.size w wc))
 case first =>
  have H := HC5.out
  clear HC5
  by_cases c6 : t546 < 1
  ·
   rw [if_pos c6] at H
   have c6b0 : decide (t546 < 1) = true := decide_eq_true c6
   clear c6
   (first | rw [c6b0] | (simp only [i64_w, i32_w]; rw [c6b0]) | skip)
   have H' := ak H
   clear H
   go_wp2
   go_meet
   case rel => exact ⟨_, (true), (by first | rfl | (simp; done) | (simp [*]; done)), H', ⟨by first | omega | exact Nat.le_refl _⟩, ⟨ul HB.out⟩⟩
  rw [if_neg c6] at H
  have c6b0 : decide (t546 < 1) = false := decide_eq_false c6
  clear c6
  (first | rw [c6b0] | (simp only [i64_w, i32_w]; rw [c6b0]) | skip)
  have H' := ak H
  clear H
  go_wp2
  go_meet
  case rel => exact ⟨_, (decide ((wrap64 (t546 - 1)) > 16)), (by first | rfl | (simp; done) | (simp [*]; done)), H', ⟨by first | omega | exact Nat.le_refl _⟩, ⟨ul HB.out⟩⟩
 clear HC5
 obtain ⟨kq, x27_4, rfl, HA, HJ4, HB⟩ := hcut
 cases kq with
 | zero => exact absurd HA.out (by simp [herbariumref3_TakeGaps.j0])
 | succ kj4 => ?_
 have H := HA.out
 clear HA
 simp only [herbariumref3_TakeGaps.j0] at H
 by_cases c7 : x27_4 = true
 ·
  subst c7
  rw [if_pos rfl] at H
  simp only [Option.some.injEq, Prod.mk.injEq] at H
  obtain ⟨rfl, rfl, rfl⟩ := H
  go_wp2
  go_ret3
  exact ⟨_, by first | rfl | (simp [errW_none, errW_some] <;> rfl) | (simp [*, errW_none, errW_some] <;> rfl), by first | exact Kd.R_nil _ _ _ _ _ | exact Kd.N_nil _ _ _ _ _ | exact Kd.V_nil _ _ _ _ _ | exact Kd.Q_nil _ _ _ _ _ | exact Kd.S_nil _ _ _ _ _, ul HB.out⟩
 replace c7 := Bool.eq_false_iff.mpr c7
 subst c7
 rw [if_neg (show ¬ (false = true) by decide)] at H
 have H' := ak H
 clear H
 go_wp2
 go_loopg [1, 10, 11, 12] kj4 (fun kq v1 v10 v11 v12 w' => ∃ (x1_2 : Int) (x10_2 : List Int) (x11_2 : Int) (x12_2 : Int), v1 = .int .i64 x1_2 ∧ v11 = .int .i64 x11_2 ∧ v12 = .int .i64 x12_2 ∧ Aside0 (herbariumref3_TakeGaps.l0 kq l0 x1_2 a2 t546 x10_2 x11_2 x12_2 = some (r1, r2, r3)) ∧ Aside0 (kq ≤ kj4) ∧ Aside0 (Kd.R (Kd.int .i64) 3 w' w.heap.size (fun _ => True) v10 x10_2) ∧ Aside0 (Below w.heap.size w w'))
 case atStart => exact ⟨(t547), (([] : List Int)), (0), (0), (by first | rfl | (simp; done) | (simp [*]; done)), (by first | rfl | (simp; done) | (simp [*]; done)), (by first | rfl | (simp; done) | (simp [*]; done)), H', ⟨Nat.le_refl _⟩, ⟨by first | exact Kd.R_nil _ _ _ _ _ | exact Kd.N_nil _ _ _ _ _ | exact Kd.V_nil _ _ _ _ _ | exact Kd.Q_nil _ _ _ _ _ | exact Kd.S_nil _ _ _ _ _⟩, ⟨ul HB.out⟩⟩
 clear H'
 (try clear c7)
 obtain ⟨x1_2, x10_2, x11_2, x12_2, rfl, rfl, rfl, HA, HK2, HO_10, HB⟩ := hrel
 cases gk with
 | zero => exact absurd HA.out (by simp [herbariumref3_TakeGaps.l0])
 | succ k2 => ?_
 have H := HA.out
 clear HA
 simp only [herbariumref3_TakeGaps.l0] at H
 by_cases c8 : x12_2 < (wrap64 (t546 - 1))
 rotate_left
 ·
  rw [if_neg c8] at H
  have c8b0 : decide (x12_2 < (wrap64 (t546 - 1))) = false := decide_eq_false c8
  clear c8
  replace H := Option.bind_eq_some_iff.mp H
  obtain ⟨t548, A170, H⟩ := H
  try dsimp only at H
  have A17 := ak A170
  clear A170
  by_cases c18 : t548 = true
  ·
   subst c18
   rw [if_pos rfl] at H
   simp only [Option.some.injEq, Prod.mk.injEq] at H
   obtain ⟨rfl, rfl, rfl⟩ := H
   obtain ⟨Ao19, co19, eo19⟩ := Kd.R_slice HO_10.out
   subst eo19
   go_wp2_with (first | ((with_reducible refine gate_callee (f := 78) rfl ?_); refine goesL_ (some 58) rfl rfl Try.func78 (by kernel_rfl) rfl #[.slice Ao19 x10_2.length co19] rfl (by (try simp only [List.map_toArray, List.map_cons, List.map_nil]); first | done | rfl | (simp only [List.length_drop, List.length_take]; rfl)) ?_; (with_reducible refine (herbariumref3_May.calls k2 _ _ x10_2 true _ ?side1 ?side2 A17.out).mono ?_); (case side1 => exact uc (Kd.R_reads' HO_10.out).2.2); (case side2 => exact (Kd.R_reads' HO_10.out).2.1); rintro e w' ⟨rfl, ⟨nd, rfl⟩⟩; refine ⟨_, rfl, ?_⟩))
   go_ret3
   exact ⟨_, by first | rfl | (simp [errW_none, errW_some] <;> rfl) | (simp [*, errW_none, errW_some] <;> rfl), ur <| HO_10.out, ul HB.out⟩
  replace c18 := Bool.eq_false_iff.mpr c18
  subst c18
  rw [if_neg (show ¬ (false = true) by decide)] at H
  simp only [Option.some.injEq, Prod.mk.injEq] at H
  obtain ⟨rfl, rfl, rfl⟩ := H
  obtain ⟨Ao20, co20, eo20⟩ := Kd.R_slice HO_10.out
  subst eo20
  go_wp2_with (first | ((with_reducible refine gate_callee (f := 78) rfl ?_); refine goesL_ (some 58) rfl rfl Try.func78 (by kernel_rfl) rfl #[.slice Ao20 x10_2.length co20] rfl (by (try simp only [List.map_toArray, List.map_cons, List.map_nil]); first | done | rfl | (simp only [List.length_drop, List.length_take]; rfl)) ?_; (with_reducible refine (herbariumref3_May.calls k2 _ _ x10_2 false _ ?side1 ?side2 A17.out).mono ?_); (case side1 => exact uc (Kd.R_reads' HO_10.out).2.2); (case side2 => exact (Kd.R_reads' HO_10.out).2.1); rintro e w' ⟨rfl, ⟨nd, rfl⟩⟩; refine ⟨_, rfl, ?_⟩))
  go_ret3
  exact ⟨_, by first | rfl | (simp [errW_none, errW_some] <;> rfl) | (simp [*, errW_none, errW_some] <;> rfl), by first | exact Kd.R_nil _ _ _ _ _ | exact Kd.N_nil _ _ _ _ _ | exact Kd.V_nil _ _ _ _ _ | exact Kd.Q_nil _ _ _ _ _ | exact Kd.S_nil _ _ _ _ _, ul HB.out⟩
 rw [if_pos c8] at H
 have c8b0 : decide (x12_2 < (wrap64 (t546 - 1))) = true := decide_eq_true c8
 clear c8
 replace H := Option.bind_eq_some_iff.mp H
 obtain ⟨⟨t549, t550⟩, A90, H⟩ := H
 try dsimp only at H
 have A9 := ak A90
 clear A90
 by_cases c10 : t549 < 1
 ·
  rw [if_pos c10] at H
  have c10b0 : decide (t549 < 1) = true := decide_eq_true c10
  clear c10
  simp only [Option.some.injEq, Prod.mk.injEq] at H
  obtain ⟨rfl, rfl, rfl⟩ := H
  go_wp2_with (first | ((with_reducible refine gate_callee (f := 108) rfl ?_); refine goesL_ (some 37) rfl rfl Try.func108 (by kernel_rfl) rfl #[.slice A0 l0.length c0, .int .i64 x1_2, .int .i64 2] rfl (by (try simp only [List.map_toArray, List.map_cons, List.map_nil]); first | done | rfl | (simp only [List.length_drop, List.length_take]; rfl)) ?_; (with_reducible refine (herbariumref1_List_Read.calls k2 _ _ l0 x1_2 2 t549 t550 _ ?side1 ?side2 rfl A9.out).mono ?_); (case side1 => exact uc (Kd.C_below HR0.out HB.out)); (case side2 => exact HC0.out); rintro e w' ⟨rfl, ⟨nd, rfl⟩⟩; refine ⟨_, rfl, ?_⟩))
  go_ret3
  exact ⟨_, by first | rfl | (simp [errW_none, errW_some] <;> rfl) | (simp [*, errW_none, errW_some] <;> rfl), by first | exact Kd.R_nil _ _ _ _ _ | exact Kd.N_nil _ _ _ _ _ | exact Kd.V_nil _ _ _ _ _ | exact Kd.Q_nil _ _ _ _ _ | exact Kd.S_nil _ _ _ _ _, ul HB.out⟩
 rw [if_neg c10] at H
 have c10b0 : decide (t549 < 1) = false := decide_eq_false c10
 clear c10
 by_cases c11 : x12_2 = 0
 rotate_left
 ·
  rw [if_neg c11] at H
  have c11b0 : (x12_2 == 0) = false := beq_eq_false_iff_ne.mpr c11
  have c11b1 : (x12_2 != 0) = true := bne_iff_ne.mpr c11
  by_cases c15 : x10_2.length < 17592186044416
  rotate_left
  ·
   rw [if_neg c15] at H
   exact absurd H (by simp)
  rw [if_pos c15] at H
  have LMc15 := ak c15
  clear c15
  obtain ⟨y555, hy555⟩ : ∃ y_ : List Int, y_ = (x10_2 ++ [wrap64 (x11_2 + t549)]) := ⟨_, rfl⟩
  replace H : (herbariumref3_TakeGaps.l0 k2 l0 t550 a2 t546 y555 (wrap64 (x11_2 + t549)) (wrap64 (x12_2 + 1))) = some (r1, r2, r3) := by first | (rw [hy555]; with_reducible exact H) | (have H2_ := (Option.bind_some _ _).symm.trans H; rw [hy555]; with_reducible exact H2_) | (have H2_ := (Option.bind_some _ _).symm.trans H; with_reducible exact H2_) | with_reducible exact H | (rw [hy555]; exact H) | exact H
  have Ny555 := ak hy555
  clear hy555
  have H' := ak H
  clear H
  go_wp2_with (first | ((with_reducible refine gate_callee (f := 108) rfl ?_); refine goesL_ (some 37) rfl rfl Try.func108 (by kernel_rfl) rfl #[.slice A0 l0.length c0, .int .i64 x1_2, .int .i64 2] rfl (by (try simp only [List.map_toArray, List.map_cons, List.map_nil]); first | done | rfl | (simp only [List.length_drop, List.length_take]; rfl)) ?_; (with_reducible refine (herbariumref1_List_Read.calls k2 _ _ l0 x1_2 2 t549 t550 _ ?side1 ?side2 rfl A9.out).mono ?_); (case side1 => exact uc (Kd.C_below HR0.out HB.out)); (case side2 => exact HC0.out); rintro e w' ⟨rfl, ⟨nd, rfl⟩⟩; refine ⟨_, rfl, ?_⟩) | ((with_reducible refine gate_builtin (b := .append) (xs := #[.tmp 53, .tmp 55]) rfl ?_); at_builtin; refine Kd.R_append (Kd.int .i64) (w0 := w) w.heap.size rfl (.tmp 53) (.tmp 55) 23 3 (.int .i64 0) 8 rfl Try.underlying23 info3 rfl (by decide) (by omega) u10 x10_2 (wrap64 (x11_2 + t549)) [.int .i64 (wrap64 (x11_2 + t549))] (fun _ => True) (fun _ => False) rfl rfl ?aP (fun _ hk => hk.elim) ?aF ?aO ?aB ?aS ?aL ?_; (case aP => exact rfl); (case aB => exact (ul HB.out)); (case aF => exact (fun _ _ => trivial)); (case aO => exact (ur <| HO_10.out)); (case aS => exact (below_size (ul HB.out))); (case aL => have := LMc15.out; omega); intro v556 w16 ho hb hg hat; rw [← Ny555.out] at ho; have n0_ := ak (hb); have n1_ := ak (ho); clear HB; clear HO_10; have HB := n0_; have HO557 := n1_; clear n0_ n1_; clear ho hb hg hat))
  go_roundg k2
  case measure => have := HJ4.out; have := HK2.out; omega
  case rel => exact ⟨(t550), (y555), (wrap64 (x11_2 + t549)), (wrap64 (x12_2 + 1)), (by first | rfl | (simp; done) | (simp [*]; done)), (by first | rfl | (simp; done) | (simp [*]; done)), (by first | rfl | (simp; done) | (simp [*]; done)), H', ⟨by have := HJ4.out; have := HK2.out; omega⟩, ⟨ur <| HO557.out⟩, ⟨ul HB.out⟩⟩
 rw [if_pos c11] at H
 have c11b0 : (x12_2 == 0) = true := beq_iff_eq.mpr c11
 have c11b1 : (x12_2 != 0) = false := bne_eq_false_iff_eq.mpr c11
 clear c11
 replace H := Option.bind_eq_some_iff.mp H
 obtain ⟨t551, A120, H⟩ := H
 try dsimp only at H
 have A12 := ak A120
 clear A120
 by_cases c13 : x10_2.length < 17592186044416
 rotate_left
 ·
  rw [if_neg c13] at H
  exact absurd H (by simp)
 rw [if_pos c13] at H
 have LMc13 := ak c13
 clear c13
 obtain ⟨y552, hy552⟩ : ∃ y_ : List Int, y_ = (x10_2 ++ [wrap64 (a2 + t551)]) := ⟨_, rfl⟩
 replace H : (herbariumref3_TakeGaps.l0 k2 l0 t550 a2 t546 y552 (wrap64 (a2 + t551)) (wrap64 (x12_2 + 1))) = some (r1, r2, r3) := by first | (rw [hy552]; with_reducible exact H) | (have H2_ := (Option.bind_some _ _).symm.trans H; rw [hy552]; with_reducible exact H2_) | (have H2_ := (Option.bind_some _ _).symm.trans H; with_reducible exact H2_) | with_reducible exact H | (rw [hy552]; exact H) | exact H
 have Ny552 := ak hy552
 clear hy552
 have H' := ak H
 clear H
 go_wp2_with (first | ((with_reducible refine gate_callee (f := 108) rfl ?_); refine goesL_ (some 37) rfl rfl Try.func108 (by kernel_rfl) rfl #[.slice A0 l0.length c0, .int .i64 x1_2, .int .i64 2] rfl (by (try simp only [List.map_toArray, List.map_cons, List.map_nil]); first | done | rfl | (simp only [List.length_drop, List.length_take]; rfl)) ?_; (with_reducible refine (herbariumref1_List_Read.calls k2 _ _ l0 x1_2 2 t549 t550 _ ?side1 ?side2 rfl A9.out).mono ?_); (case side1 => exact uc (Kd.C_below HR0.out HB.out)); (case side2 => exact HC0.out); rintro e w' ⟨rfl, ⟨nd, rfl⟩⟩; refine ⟨_, rfl, ?_⟩) | ((with_reducible refine gate_callee (f := 68) rfl ?_); refine goesL_ (some 48) rfl rfl Try.func68 (by kernel_rfl) rfl #[.int .i64 (wrap64 (t549 - 1))] rfl (by (try simp only [List.map_toArray, List.map_cons, List.map_nil]); first | done | rfl | (simp only [List.length_drop, List.length_take]; rfl)) ?_; (with_reducible refine (herbariumref1_Zag.calls (wrap64 (t549 - 1)) t551 _ A12.out).mono ?_); rintro e w' ⟨rfl, ⟨nd, rfl⟩⟩; refine ⟨_, rfl, ?_⟩) | ((with_reducible refine gate_builtin (b := .append) (xs := #[.tmp 53, .tmp 55]) rfl ?_); at_builtin; refine Kd.R_append (Kd.int .i64) (w0 := w) w.heap.size rfl (.tmp 53) (.tmp 55) 23 3 (.int .i64 0) 8 rfl Try.underlying23 info3 rfl (by decide) (by omega) u10 x10_2 (wrap64 (a2 + t551)) [.int .i64 (wrap64 (a2 + t551))] (fun _ => True) (fun _ => False) rfl rfl ?aP (fun _ hk => hk.elim) ?aF ?aO ?aB ?aS ?aL ?_; (case aP => exact rfl); (case aB => exact (ul HB.out)); (case aF => exact (fun _ _ => trivial)); (case aO => exact (ur <| HO_10.out)); (case aS => exact (below_size (ul HB.out))); (case aL => have := LMc13.out; omega); intro v553 w14 ho hb hg hat; rw [← Ny552.out] at ho; have n0_ := ak (hb); have n1_ := ak (ho); clear HB; clear HO_10; have HB := n0_; have HO554 := n1_; clear n0_ n1_; clear ho hb hg hat))
 go_roundg k2
 case measure => have := HJ4.out; have := HK2.out; omega
 case rel => exact ⟨(t550), (y552), (wrap64 (a2 + t551)), (wrap64 (x12_2 + 1)), (by first | rfl | (simp; done) | (simp [*]; done)), (by first | rfl | (simp; done) | (simp [*]; done)), (by first | rfl | (simp; done) | (simp [*]; done)), H', ⟨by have := HJ4.out; have := HK2.out; omega⟩, ⟨ur <| HO554.out⟩, ⟨ul HB.out⟩⟩
end Go.Proofs.Ytnpghcikhpglkaa.Q
namespace Go.Proofs.Ytnpghcikhpglkaa.Q
open Go.RowKit Go.Proofs.YtnpghcikhpglkaaW.PrintWords Go.Proofs.YtnpghcikhpglkaaW.PrintLast Go.Proofs.YtnpghcikhpglkaaW.PrintMore
attribute [local go_sem] max2_int min2_int max_two min_two max_three min_three max_four min_four   -- for this text's walks alone
set_option linter.unusedVariables false
set_option linter.unusedSimpArgs false

/-! ### herbariumlaw0_Numbers: function 85 -/
def herbariumlaw0_Numbers.l0 : Nat → List Int → Int → Option (List Int)
  | 0, _, _ => none
  | k + 1, x0, x2 => if x2 < (x0.length : Int) then (if 0 ≤ x2 then (herbariumlaw0_Numbers.l0 k (x0.set (x2 : Int).toNat (-99)) (wrap64 (x2 + 1))) else (none)) else (some x0)
def herbariumlaw0_Numbers.f (k : Nat) (l0 : List Int) : Option (List Int) := herbariumlaw0_Numbers.l0 k l0 0
set_option maxHeartbeats 8000000 in
set_option maxRecDepth 100000 in
theorem herbariumlaw0_Numbers.calls (k : Nat) (P0_ : Nat → Prop) (u9000_ : Value) (l0 : List Int) (r : List Int) (w0 w : World) (hB : Below w0.heap.size w0 w) (ho0 : Kd.R (Kd.int .i64) 3 w w0.heap.size P0_ u9000_ l0) (h : herbariumlaw0_Numbers.f k l0 = some r) :
    Calls Try.prog 85 #[u9000_] w fun e w' => e = .returned (.tuple #[]) ∧ Kd.R (Kd.int .i64) 3 w' w0.heap.size (fun k_ => (P0_ k_ ∨ w.heap.size ≤ k_)) u9000_ r ∧ Below w0.heap.size w0 w' ∧ Kept w w' (fun k_ => P0_ k_) := by
 have HO0 := ak (show Kd.R (Kd.int .i64) 3 w w0.heap.size (fun k_ => (P0_ k_ ∨ w.heap.size ≤ k_)) u9000_ l0 from Kd.R_mono ho0 (fun k_ hk => (.inl hk)))
 have HK := ak (Kept.refl w (fun k_ => P0_ k_))
 have HW0 := ak hB.size
 have HB := ak hB
 clear hB
 have H : (herbariumlaw0_Numbers.l0 k l0 0) = some r := h
 clear h
 have H' := ak H
 clear H
 go_enter Try.func85, Try.ntmps85
 go_wp2
 go_loopg [2] k (fun kq v2 w' => ∃ (x0_1 : List Int) (x2_1 : Int), v2 = .int .i64 x2_1 ∧ Aside0 (herbariumlaw0_Numbers.l0 kq x0_1 x2_1 = some r) ∧ Aside0 (kq ≤ k) ∧ Aside0 (Kd.R (Kd.int .i64) 3 w' w0.heap.size (fun k_ => (P0_ k_ ∨ w.heap.size ≤ k_)) u9000_ x0_1) ∧ Aside0 (Kept w w' (fun k_ => P0_ k_)) ∧ Aside0 (Below w0.heap.size w0 w'))
 case atStart => exact ⟨(l0), (0), (by first | rfl | (simp; done) | (simp [*]; done)), H', ⟨Nat.le_refl _⟩, ⟨ur <| HO0.out⟩, ⟨by repeat (first | (with_reducible first | exact HK.out | apply Kept.alloc | apply Kept.drewN | apply Kept.drew) | exact HK.out)⟩, ⟨ul HB.out⟩⟩
 clear H'
 obtain ⟨x0_1, x2_1, rfl, HA, HK1, HO_0, HK, HB⟩ := hrel
 cases gk with
 | zero => exact absurd HA.out (by simp [herbariumlaw0_Numbers.l0])
 | succ k1 => ?_
 have H := HA.out
 clear HA
 simp only [herbariumlaw0_Numbers.l0] at H
 by_cases c2 : x2_1 < (x0_1.length : Int)
 rotate_left
 ·
  rw [if_neg c2] at H
  have c2b0 : decide (x2_1 < (x0_1.length : Int)) = false := decide_eq_false c2
  clear c2
  obtain rfl := Option.some.inj H
  obtain ⟨Ao8, co8, eo8⟩ := Kd.R_slice HO_0.out
  subst eo8
  go_wp2
  first | go_end0 | ((try simp only [Exit.inBlock, Exit.then]); refine bodyPost_ret (results_none rfl _ _ _) rfl ?_)
  exact ⟨by first | rfl | (simp [errW_none, errW_some] <;> rfl) | (simp [*, errW_none, errW_some] <;> rfl), ur <| HO_0.out, ul HB.out, by repeat (first | (with_reducible first | exact HK.out | apply Kept.alloc | apply Kept.drewN | apply Kept.drew) | exact HK.out)⟩
 rw [if_pos c2] at H
 have c2b0 : decide (x2_1 < (x0_1.length : Int)) = true := decide_eq_true c2
 clear c2
 by_cases c3 : 0 ≤ x2_1
 rotate_left
 ·
  rw [if_neg c3] at H
  exact absurd H (by simp)
 rw [if_pos c3] at H
 have c3b0 : decide (0 ≤ x2_1) = true := decide_eq_true c3
 clear c3
 obtain ⟨y558, hy558⟩ : ∃ y_ : List Int, y_ = (x0_1.set (x2_1 : Int).toNat (-99)) := ⟨_, rfl⟩
 replace H : (herbariumlaw0_Numbers.l0 k1 y558 (wrap64 (x2_1 + 1))) = some r := by first | (rw [hy558]; with_reducible exact H) | (have H2_ := (Option.bind_some _ _).symm.trans H; rw [hy558]; with_reducible exact H2_) | (have H2_ := (Option.bind_some _ _).symm.trans H; with_reducible exact H2_) | with_reducible exact H | (rw [hy558]; exact H) | exact H
 have Ny558 := ak hy558
 clear hy558
 have H' := ak H
 clear H
 obtain ⟨Ao5, co5, eo5⟩ := Kd.R_slice HO_0.out
 subst eo5
 have p4 : 0 ≤ (x2_1 : Int) := of_decide_eq_true (by first | (with_reducible assumption) | assumption)
 have q4 : (x2_1 : Int) < ((x0_1.length : Int) : Int) := of_decide_eq_true (by first | (with_reducible assumption) | assumption)
 obtain ⟨go4, co4, eo4, gb4, gl4, cl4, HG4⟩ := Kd.R_form HO_0.out (by omega)
 (first | cases eo4 | (injection eo4 with ea_ en_ ec_; (first | subst ea_ | (injection ea_ with ea_; subst ea_)); subst ec_; clear en_))
 have GB4 := ak gb4
 have GG4 := ak HG4
 clear gb4 gl4 HG4
 have HMgo4 := ak (show (P0_ go4 ∨ w.heap.size ≤ go4) from (HO_0.out.1 _ rfl))
 obtain ⟨hx4_0, hf4_0⟩ := Kd.R_celln 0 HO_0.out (x2_1 : Int) p4 q4
 replace p4 := eq_true p4
 replace q4 := eq_true q4
 have HP6 := Kd.R_putg HO_0.out (x2_1 : Int) (-99)
 go_wp2_with (first | ((with_reducible refine gate_store (t := 3) (p := 11) rfl ?_); refine store_event (t := 3) (p := 11) (v := ?vo_w7) (w1 := (wr.setCell ⟨go4, (x2_1 : Int).toNat, none⟩ (.int .i64 (-99)))) ?hg ?ho ?hn ?hr ?_; (case ho => rfl); (case hg => rfl); (case hn => rfl); (case hr => first | (go_simp; done) | (go_simp; rfl)); intro w7 hw; have hg : wr.grownBy w7 (some go4) := (by rw [hw]; exact HP6.2); have hp_ : Kd.R (Kd.int .i64) 3 w7 w0.heap.size (fun k_ => (P0_ k_ ∨ w.heap.size ≤ k_)) (.slice (some ⟨go4, 0, none⟩) x0_1.length co5) y558 := (by rw [hw, Ny558.out]; exact HP6.1); clear HP6; have n0_ := ak (hp_); have n1_ := ak ((by rw [hw]; exact below_set (HB.out) GB4.out : Below w0.heap.size w0 w7)); have n2_ := ak (Kept.of_grown (S := (fun k_ => P0_ k_)) hg (by repeat (first | (with_reducible first | exact HK.out | apply Kept.alloc | apply Kept.drewN | apply Kept.drew) | exact HK.out)) (fun k_ e_ => (HO_0.out.1 k_ e_))); clear HO_0; clear HB; clear HK; have HO_0 := n0_; have HB := n1_; have HK := n2_; clear n0_ n1_ n2_; clear hg hw hp_))
 go_roundg k1
 case measure => have := HK1.out; omega
 case rel => exact ⟨(y558), (wrap64 (x2_1 + 1)), (by first | rfl | (simp; done) | (simp [*]; done)), H', ⟨by have := HK1.out; omega⟩, ⟨ur <| HO_0.out⟩, ⟨by repeat (first | (with_reducible first | exact HK.out | apply Kept.alloc | apply Kept.drewN | apply Kept.drew) | exact HK.out)⟩, ⟨ul HB.out⟩⟩
end Go.Proofs.Ytnpghcikhpglkaa.Q
namespace Go.Proofs.Ytnpghcikhpglkaa.Hand
open Go.RowKit Go.Proofs.YtnpghcikhpglkaaW.PrintWords Go.Proofs.YtnpghcikhpglkaaW.PrintLast Go.Proofs.YtnpghcikhpglkaaW.PrintMore Go.Proofs.Ytnpghcikhpglkaa.Q
set_option linter.unusedVariables false
set_option linter.unusedSimpArgs false
/-- The value v owns the bytes bs (its block's mark covers none of its cells). -/
def OwnB (w : World) (base : Nat) (v : Value) (bs : List Int) : Prop :=
  (v = .slice none 0 0 ∧ bs = []) ∨
  ∃ g cap cur fr, v = .slice (some ⟨g, 0, none⟩) bs.length cap ∧ base ≤ g ∧ w.heap[g]? = some (.cells cur 5 fr) ∧ bs.length ≤ cap ∧ cap ≤ maxLen ∧ cur.size = cap ∧ (fr.2 = 0 ∨ cap ≤ fr.1) ∧ cur.toList.take bs.length = nums .u8 bs
theorem OwnB.nil (w : World) (base : Nat) : OwnB w base (.slice none 0 0) [] := .inl ⟨rfl, rfl⟩
theorem OwnB.of_own {w : World} {base : Nat} {v : Value} {bs : List Int} (h : w.ownsRow base 5 1 v bs.length (nums .u8 bs)) : OwnB w base v bs := by
  rcases h.2 with ⟨rfl, h0⟩ | ⟨g, cap, cur, rfl, hb, hg, hn, hm, hs, ht⟩
  · exact .inl ⟨rfl, List.eq_nil_of_length_eq_zero h0⟩
  · exact .inr ⟨g, cap, cur, _, rfl, hb, hg, hn, hm, by simpa using hs, .inl rfl, by simpa using ht⟩
theorem OwnB.base_le {w : World} {base : Nat} {v : Value} {bs : List Int} (h : OwnB w base v bs) (k : Nat) (hk : v.ownBlock = some k) : base ≤ k ∧ k < w.heap.size := by
  rcases h with ⟨rfl, _⟩ | ⟨g, cap, cur, fr, rfl, hb, hg, _⟩
  · simp [Value.ownBlock] at hk
  · have : g = k := by simpa [Value.ownBlock] using hk
    subst this
    exact ⟨hb, (Array.getElem?_eq_some_iff.1 hg).1⟩
theorem OwnB.form {w : World} {base : Nat} {v : Value} {bs : List Int} (h : OwnB w base v bs) (hp : 0 < bs.length) : ∃ g cap, v = .slice (some ⟨g, 0, none⟩) bs.length cap := by
  rcases h with ⟨_, rfl⟩ | ⟨g, cap, cur, fr, rfl, _⟩
  · simp at hp
  · exact ⟨g, cap, rfl⟩
theorem OwnB.shape {w : World} {base : Nat} {v : Value} {bs : List Int} (h : OwnB w base v bs) : ∃ A c, v = .slice A bs.length c ∧ bs.length ≤ c := by
  rcases h with ⟨rfl, rfl⟩ | ⟨g, cap, cur, fr, rfl, _, _, hn, _⟩
  · exact ⟨none, 0, rfl, Nat.le_refl _⟩
  · exact ⟨_, cap, rfl, hn⟩
/-- What is written is another block. -/
theorem OwnB.kept {w w1 : World} {base : Nat} {v : Value} {bs : List Int} (h : OwnB w base v bs) {row : Option Nat} (hg : w.grownBy w1 row) (hne : v.ownBlock = none ∨ v.ownBlock ≠ row) : OwnB w1 base v bs := by
  rcases h with hn | ⟨g, cap, cur, fr, rfl, hb, hgg, r⟩
  · exact .inl hn
  · refine .inr ⟨g, cap, cur, fr, rfl, hb, ?_, r⟩
    rw [hg.block g (Array.getElem?_eq_some_iff.1 hgg).1 (by simpa [Value.ownBlock] using hne)]
    exact hgg
theorem OwnB.below {w w1 : World} {base : Nat} {v : Value} {bs : List Int} (h : OwnB w base v bs) (hb : Below w.heap.size w w1) : OwnB w1 base v bs :=
  h.kept (grown_of_below hb none) (by cases v.ownBlock <;> simp)
theorem OwnB.alloc {w : World} {base : Nat} {v : Value} {bs : List Int} (h : OwnB w base v bs) (o : Obj) : OwnB (w.alloc o) base v bs :=
  h.kept (World.grownBy_alloc w o none) (by cases v.ownBlock <;> simp)
theorem OwnB.ne {w : World} {base : Nat} {v : Value} {bs : List Int} (h : OwnB w base v bs) {g t : Nat} {cs : Array Value} {fr : Nat × Nat} (hg : w.heap[g]? = some (.cells cs t fr)) (ht : t ≠ 5) : some g ≠ v.ownBlock := by
  intro hk
  rcases h with ⟨rfl, _⟩ | ⟨g', cap, cur, fr', rfl, hb, hgg, r⟩
  · simp [Value.ownBlock] at hk
  · have : g = g' := by simpa [Value.ownBlock] using hk
    subst this
    rw [hg] at hgg
    injection hgg with hgg
    injection hgg with _ h2
    exact ht h2
theorem OwnB.setFar {w : World} {base : Nat} {v : Value} {bs : List Int} (h : OwnB w base v bs) {p : Addr} (hne : some p.block ≠ v.ownBlock) (u : Value) : OwnB (w.setCell p u) base v bs := by
  rcases h with hn | ⟨g, cap, cur, fr, rfl, hb, hgg, r⟩
  · exact .inl hn
  · refine .inr ⟨g, cap, cur, fr, rfl, hb, ?_, r⟩
    rw [Below.heap_setCell w p u g (fun e => hne (by simp [Value.ownBlock, e]))]
    exact hgg
/-- A cell of it. -/
theorem OwnB.at_ {w : World} {base g n cap : Nat} {bs : List Int} (h : OwnB w base (.slice (some ⟨g, 0, none⟩) n cap) bs) (i : Int) (h0 : 0 ≤ i) (h1 : i < (bs.length : Int)) :
    w.cell? ⟨g, i.toNat, none⟩ = some (.int .u8 (rd bs i)) ∧ w.frozen? ⟨g, i.toNat, none⟩ = false := by
  rcases h with ⟨h', _⟩ | ⟨g', cap', cur, fr, h', hb, hg, hn, hm, hs, hf, ht⟩
  · cases h'
  · simp only [Value.slice.injEq, Option.some.injEq, Addr.mk.injEq, and_true, true_and] at h'
    obtain ⟨rfl, rfl, rfl⟩ := h'
    have hi : i.toNat < bs.length := by omega
    constructor
    · rw [cell_of_row w g i.toNat cur 5 fr hg]
      have h3 : (cur.toList.take bs.length)[i.toNat]? = (nums .u8 bs)[i.toNat]? := by rw [ht]
      rw [List.getElem?_take, if_pos hi] at h3
      rw [← Array.getElem?_toList, h3]
      simp [nums, rd, List.getElem?_eq_getElem hi, List.getD_eq_getElem?_getD]
    · simp only [World.frozen?, hg]
      simp only [Bool.and_eq_false_iff, decide_eq_false_iff_not]
      rcases hf with hf | hf <;> omega
theorem OwnB.store {w : World} {base g n cap : Nat} {bs : List Int} (h : OwnB w base (.slice (some ⟨g, 0, none⟩) n cap) bs) (i x : Int) :
    OwnB (w.setCell ⟨g, i.toNat, none⟩ (.int .u8 x)) base (.slice (some ⟨g, 0, none⟩) n cap) (bs.set i.toNat x) := by
  rcases h with ⟨h', _⟩ | ⟨g', cap', cur, fr, h', hb, hg, hn, hm, hs, hf, ht⟩
  · cases h'
  · simp only [Value.slice.injEq, Option.some.injEq, Addr.mk.injEq, and_true, true_and] at h'
    obtain ⟨rfl, rfl, rfl⟩ := h'
    refine .inr ⟨g, cap, cur.setIfInBounds i.toNat (.int .u8 x), fr, by simp, hb, ?_, by simpa using hn, hm, by simpa using hs, hf, ?_⟩
    · simp only [World.setCell, Array.getElem?_modify, hg]
      simp
    · rw [List.length_set, Array.toList_setIfInBounds, List.take_set, ht]
      simp [nums, List.map_set]
/-- The string of it. -/
theorem OwnB.str {w : World} {base : Nat} {v : Value} {bs : List Int} (h : OwnB w base v bs) : (convert 63 9 v).run Try.prog w = .ok (.string (strOfNums bs)) w := by
  rcases h with ⟨rfl, rfl⟩ | ⟨g, cap, cur, fr, rfl, hb, hg, r⟩
  · exact run_convert_bytes_nil w 63 5 Try.underlying63 Try.underlying5 0 0 9 Try.underlying9
  · have hh : OwnB w base (.slice (some ⟨g, 0, none⟩) bs.length cap) bs := .inr ⟨g, cap, cur, fr, rfl, hb, hg, r⟩
    refine run_convert_bytes_arg w 63 5 Try.underlying63 Try.underlying5 g 0 bs.length cap bs rfl (fun i hi => ?_) 9 Try.underlying9
    have := (hh.at_ (i : Int) (by omega) (by omega)).1
    simpa [rd] using this
/-- '[]byte(s)'. -/
def bytesI (s : ByteArray) : List Int := s.data.toList.map fun b => (b.toNat : Int)
theorem bytesI_length (s : ByteArray) : (bytesI s).length = s.size := by simp [bytesI]
theorem own_bytes (w : World) (s : ByteArray) (base : Nat) (hb : base ≤ w.heap.size) (hs : s.size ≤ 1073741824) :
    OwnB (Lib.bytesWorld w 5 s) base (.slice (some ⟨w.heap.size, 0, none⟩) s.size (grownCap w s.size 0 5)) (bytesI s) := by
  have hge := grownCap_ge w s.size 0 5
  have hle : grownCap w s.size 0 5 ≤ maxLen := grownCap_le_maxLen w s.size 0 5 (by unfold maxLen; omega)
  have hcs : (Lib.bytesCells w 5 s).size = grownCap w s.size 0 5 := by
    have hss : s.data.size = s.size := rfl
    simp only [Lib.bytesCells, Array.size_append, Array.size_map, Array.size_replicate, hss]
    omega
  refine .inr ⟨w.heap.size, _, Lib.bytesCells w 5 s, _, by rw [bytesI_length], hb, Lib.bytesWorld_at_new w 5 s, by rw [bytesI_length]; exact hge, hle, hcs, .inr (by rw [hcs]; exact Nat.le_refl _), ?_⟩
  simp [Lib.bytesCells, bytesI, nums, List.map_map, Function.comp_def]
theorem below_bytes {B : Nat} {w0 w : World} (h : Below B w0 w) (hB : B ≤ w.heap.size) (s : ByteArray) : Below B w0 (Lib.bytesWorld w 5 s) := by
  refine h.trans ⟨?_, ?_, ?_, ?_, fun k hk => Lib.bytesWorld_at_old w 5 s k (by omega)⟩
  · simp [Lib.bytesWorld, World.freeze, World.alloc, World.drew, -World.alloc_eq, -World.drew_eq]
  · simp [Lib.bytesWorld, World.freeze, World.alloc, World.drew, -World.alloc_eq, -World.drew_eq]
  · simp [Lib.bytesWorld, World.freeze, World.alloc, World.drew, -World.alloc_eq, -World.drew_eq]
  · rw [Lib.bytesWorld_size]; omega
/-- append of one byte. -/
theorem run_append_b (w : World) (ty : TypeId) (base : Nat) (v : Value) (bs : List Int) (h : OwnB w base v bs) (a : Addr) (x : Int) (c : Nat) (hx : w.cell? a = some (.int .u8 x)) (h63 : bs.length + 1 ≤ 1099511627776) (hbase : base ≤ w.heap.size) :
    ∃ v' w', (Builtin.append_ #[63, 63] ty #[v, .slice (some a) 1 c]).run Try.prog w = .ok v' w' ∧ OwnB w' base v' (bs ++ [x]) ∧ w.grownBy w' v.ownBlock := by
  obtain ⟨i, hi, hzz⟩ := Option.map_eq_some_iff.1 info5
  simp only [Prod.mk.injEq] at hzz
  obtain ⟨hz, hsz, hby⟩ := hzz
  have hnews : ∀ j u, [Value.int .u8 x][j]? = some u → w.cell? (a.add j) = some u := by
    intro j u hu
    match j, hu with
    | 0, hu =>
      obtain rfl : Value.int .u8 x = u := by simpa using hu
      have : a.add 0 = a := by unfold Addr.add; split <;> simp_all
      rw [this]; exact hx
  rcases h with ⟨rfl, rfl⟩ | ⟨g, cap, cur, fr, rfl, hbb, hg, hn, hm, hs, hf, ht⟩
  · obtain ⟨v', w', h1, h2, h3, _⟩ := run_append_own (P := Try.prog) w base 63 ty 5 i (.int .u8 0) 1 1 Try.underlying63 hi hz hsz hby rfl (by decide) (.slice none 0 0) 0 [] (World.ownsRow_nil w base 5 1) a 1 c [.int .u8 x] rfl hnews (by simp [Value.oneCell']) (by unfold maxLen; omega) (by omega) hbase
    exact ⟨v', w', h1, OwnB.of_own (by simpa [nums] using h2), h3⟩
  · by_cases hroom : bs.length + 1 ≤ cap
    · have hcell : w.cell? ⟨g, bs.length, none⟩ = some (cur[bs.length]'(by omega)) := by
        rw [cell_of_row w g bs.length cur 5 fr hg]
        exact Array.getElem?_eq_getElem (by omega)
      have hfro : w.frozen? ⟨g, bs.length, none⟩ = false := by
        simp only [World.frozen?, hg, Bool.and_eq_false_iff, decide_eq_false_iff_not]
        rcases hf with hf | hf <;> omega
      have hst : (store ⟨g, bs.length, none⟩ (.int .u8 x)).run Try.prog w = .ok () (w.setCell ⟨g, bs.length, none⟩ (.int .u8 x)) := by
        rw [run_store Try.prog w _ _ _ (by simp [Value.oneCell']), hcell]
        simp [hfro]
      have hfc := run_firstCells_some (P := Try.prog) w i.size 1 a 1 c [.int .u8 x] (by simp [hsz]) hnews
      rw [hsz] at hfc
      refine ⟨.slice (some ⟨g, 0, none⟩) (bs.length + 1) cap, w.setCell ⟨g, bs.length, none⟩ (.int .u8 x), ?_, ?_, ?_⟩
      · have hsc : (storeCells ⟨g, bs.length, none⟩ [.int .u8 x] 0).run Try.prog w = .ok () (w.setCell ⟨g, bs.length, none⟩ (.int .u8 x)) := by
          have hadd : (⟨g, bs.length, none⟩ : Addr).add 0 = ⟨g, bs.length, none⟩ := by unfold Addr.add; split <;> simp_all
          simp only [storeCells, hadd, Sem.run_bind, hst, Result.andThen_ok]
          rfl
        simp [Builtin.append_, run_underlying Try.underlying63, sizeOf, typeInfo, hi, Builtin.lenOf, hroom, hfc, Addr.add_lit, hsz, hsc]
      · refine .inr ⟨g, cap, cur.setIfInBounds bs.length (.int .u8 x), fr, by simp, hbb, ?_, by simpa using hroom, hm, by simpa using hs, hf, ?_⟩
        · simp only [World.setCell, Array.getElem?_modify, hg]
          simp
        · rw [Array.toList_setIfInBounds, List.length_append, List.length_singleton, List.take_succ_eq_append_getElem (by simp; omega)]
          simp only [List.getElem_set_self]
          rw [List.take_set_of_le (Nat.le_refl _), ht]
          simp [nums]
      · refine ⟨rfl, rfl, rfl, by simp [World.setCell], fun k _ hk => Below.heap_setCell w _ _ k (fun e => hk (by simp [Value.ownBlock, e]))⟩
    · have hh : OwnB w base (.slice (some ⟨g, 0, none⟩) bs.length cap) bs := .inr ⟨g, cap, cur, fr, rfl, hbb, hg, hn, hm, hs, hf, ht⟩
      have holds : ∀ j u, (nums .u8 bs)[j]? = some u → w.cell? ((⟨g, 0, none⟩ : Addr).add j) = some u := by
        intro j u hu
        have hj : j < bs.length := by have := (List.getElem?_eq_some_iff.1 hu).1; simpa [nums] using this
        have := (hh.at_ (j : Int) (by omega) (by omega)).1
        rw [add_plain]
        have h2 : (nums .u8 bs)[j]? = some (.int .u8 (rd bs j)) := by simp [nums, rd, List.getElem?_eq_getElem hj, List.getD_eq_getElem?_getD]
        rw [h2] at hu
        rw [← hu]
        simpa using this
      have hr := run_append_grow (P := Try.prog) w 63 ty 5 i (.int .u8 0) Try.underlying63 hi hz ⟨g, 0, none⟩ bs.length cap (nums .u8 bs) (by simp [nums, hsz]) holds a 1 c [.int .u8 x] (by simp [hsz]) hnews (by omega) (by omega) (growslice_fits (by omega) (by rw [hby]; omega))
      refine ⟨_, _, hr, ?_, ⟨rfl, rfl, rfl, by simp, fun k hk _ => Below.heap_alloc w.drew _ k hk⟩⟩
      have hge := grownCap_ge w (bs.length + 1) cap 5
      have hcm : grownCap w (bs.length + 1) cap 5 ≤ maxLen := grownCap_le_maxLen w (bs.length + 1) cap 5 (by unfold maxLen; omega)
      refine .inr ⟨w.heap.size, _, _, (0, 0), by simp, hbase, heap_alloc_new w.drew _, by simpa using hge, hcm, ?_, .inl rfl, ?_⟩
      · simp only [Array.size_append, List.size_toArray, size_zeroCells, nums, List.length_map, List.length_singleton]
        simp [Value.cells]
        omega
      · simp only [Array.toList_append, List.length_append, List.length_singleton]
        have h1 : (nums .u8 bs ++ [Value.int .u8 x]) = nums .u8 (bs ++ [x]) := by simp [nums]
        rw [show (nums IntKind.u8 bs).toArray.toList ++ [Value.int .u8 x].toArray.toList = nums .u8 (bs ++ [x]) from h1]
        exact List.take_left' (by simp [nums])
theorem wpList_append_b {ops : Array Oper} {rest : List Oper} {o : Oper} {act : Act} {Q : Exit → Act → World → Prop} (w : World) (hgd : o.guard = none) (s x : Operand)
    (ho : o.op = .call { callee := .builtin .append, args := #[s, x], argTypes := #[63, 63] })
    (base : Nat) (v : Value) (bs : List Int) (hs : act.eval s = v) (hown : OwnB w base v bs) (ad : Addr) (c : Nat) (y : Int) (hx : act.eval x = .slice (some ad) 1 c) (hc : w.cell? ad = some (.int .u8 y))
    (h63 : bs.length + 1 ≤ 1099511627776) (hbase : base ≤ w.heap.size)
    (h : ∀ v' w', OwnB w' base v' (bs ++ [y]) → w.grownBy w' v.ownBlock → wpList Try.prog ops Q rest (act.put o.dst v') w') : wpList Try.prog ops Q (o :: rest) act w := by
  refine wpList_plain hgd fun K hK => ?_
  obtain ⟨v', w', hr, h2, h3⟩ := run_append_b w o.type base v bs hown ad y c hc h63 hbase
  unfold Oper.wp execOp
  simp only [ho, resolve, invoke, builtin, Sem.run_bind, Sem.run_pure, Result.andThen_ok, List.map_toArray, List.map_cons, List.map_nil, hs, hx, hr]
  exact hK _ _ (h v' w' h2 h3)
end Go.Proofs.Ytnpghcikhpglkaa.Hand
namespace Go.Proofs.Ytnpghcikhpglkaa.Hand
open Go.RowKit Go.Proofs.YtnpghcikhpglkaaW.PrintWords Go.Proofs.YtnpghcikhpglkaaW.PrintLast Go.Proofs.YtnpghcikhpglkaaW.PrintMore Go.Proofs.Ytnpghcikhpglkaa.Q
set_option linter.unusedVariables false
set_option linter.unusedSimpArgs false
/-- A row behind the pointer p: its bytes, its count. -/
def RowIs (W : World) (base p : Nat) (bs : List Int) (n : Int) : Prop :=
  ∃ sv, W.heap[p]? = some (.cells #[sv, .int .i64 n] 116 (0, 0)) ∧ OwnB W base sv bs ∧ base ≤ p
/-- One bit of a number, at its place in a byte, as the walk has it. -/
def bitAt (v : Int) (k : Nat) (m : Int) : Int := bits BinOp.and IntKind.i64 (v / 2 ^ min k 64) 1 % 256 * 2 ^ m.toNat % 256
def rowByte (x v : Int) (k : Nat) (m : Int) : Int := bits BinOp.or IntKind.u8 x (bitAt v k m)
/-- A bit put behind. -/
def rowBit (s : List Int × Int) (v : Int) (k : Nat) : List Int × Int :=
  let bs := if s.2 % 8 = 0 then s.1 ++ [0] else s.1
  (bs.set (s.2 / 8).toNat (rowByte (rd bs (s.2 / 8)) v k (7 - s.2 % 8)), s.2 + 1)
/-- So many bits put behind, the highest first. -/
def rowPut : Nat → List Int × Int → Int → List Int × Int
  | 0, s, _ => s
  | k + 1, s, v => rowPut k (rowBit s v k) v
theorem rowBit_snd (s : List Int × Int) (v : Int) (k : Nat) : (rowBit s v k).2 = s.2 + 1 := rfl
theorem rowBit_len (s : List Int × Int) (v : Int) (k : Nat) (h0 : 0 ≤ s.2) (hl : (s.1.length : Int) = (s.2 + 7) / 8) : ((rowBit s v k).1.length : Int) = ((rowBit s v k).2 + 7) / 8 := by
  unfold rowBit
  by_cases h : s.2 % 8 = 0
  · simp [h]
    omega
  · simp [h]
    omega
theorem below_drew0 {B : Nat} {w W : World} (h : Below B w W) : Below B w W.drew := ⟨h.os, h.tape, h.output, h.size, h.block⟩
/-- What a round leaves. -/
theorem row_leaves {w0 w : World} {base p g cap : Nat} {bs : List Int} {n x : Int} (hb : Below base w0 w) (hblk : w.heap[p]? = some (.cells #[.slice (some ⟨g, 0, none⟩) bs.length cap, .int .i64 n] 116 (0, 0)))
    (hown : OwnB w base (.slice (some ⟨g, 0, none⟩) bs.length cap) bs) (hp : base ≤ p) (i : Int) :
    RowIs ((w.setCell ⟨g, i.toNat, none⟩ (.int .u8 x)).setCell ⟨p, 1, none⟩ (.int .i64 (n + 1))).drew base p (bs.set i.toNat x) (n + 1) ∧
    Below base w0 ((w.setCell ⟨g, i.toNat, none⟩ (.int .u8 x)).setCell ⟨p, 1, none⟩ (.int .i64 (n + 1))).drew := by
  have hne : some p ≠ (Value.slice (some ⟨g, 0, none⟩) bs.length cap).ownBlock := hown.ne hblk (by decide)
  have hgp : p ≠ g := fun h => hne (by simp [Value.ownBlock, h])
  have hg : base ≤ g := (hown.base_le g (by simp [Value.ownBlock])).1
  have h1 := hown.store i x
  have h3 := h1.setFar (p := ⟨p, 1, none⟩) hne (.int .i64 (n + 1))
  have h4 := blk_set (blk_far hblk (p := ⟨g, i.toNat, none⟩) hgp (.int .u8 x)) 1 (.int .i64 (n + 1))
  refine ⟨⟨.slice (some ⟨g, 0, none⟩) bs.length cap, ?_, ?_, hp⟩, ?_⟩
  · exact h4
  · exact h3
  · exact below_drew0 ((hb.setCell (p := ⟨g, i.toNat, none⟩) hg _).setCell (p := ⟨p, 1, none⟩) hp _)
set_option maxHeartbeats 2000000 in
set_option maxRecDepth 100000 in
theorem row_put (W : World) (base p : Nat) (bs : List Int) (n v : Int) (w : Nat) (hrow : RowIs W base p bs n) (hn : 0 ≤ n) (hlen : (bs.length : Int) = (n + 7) / 8) (hbd : n + w ≤ 1073741824) (hbase : base ≤ W.heap.size) :
    Calls Try.prog 89 #[.pointer (some ⟨p, 0, none⟩), .int .i64 v, .int .i64 w] W fun e w' => e = .returned (.tuple #[]) ∧ RowIs w' base p (rowPut w (bs, n) v).1 (rowPut w (bs, n) v).2 ∧ Below base W w' := by
  have hw : w ≤ 1073741824 := by omega
  have hw0 : (w : Int) ≤ 1073741824 := by omega
  go_enter Try.func89, Try.ntmps89
  go_wp2
  go_loopw [6] (fun i wr => ∃ (k : Nat) (s : List Int × Int), k ≤ w ∧ i = .int .i64 ((k : Int) - 1) ∧ rowPut k s v = rowPut w (bs, n) v ∧ RowIs wr base p s.1 s.2 ∧ 0 ≤ s.2 ∧ s.2 + k ≤ 1073741824 ∧ (s.1.length : Int) = (s.2 + 7) / 8 ∧ Below base W wr)
    (fun i wr => (intOf i + 1).toNat)
  case atStart => exact ⟨w, (bs, n), by omega, by go_num, rfl, hrow, hn, hbd, hlen, Below.refl _ _⟩
  case round =>
    obtain ⟨k, ⟨bs1, n1⟩, hk, rfl, hput, ⟨sv, hblk, hown, hp⟩, hn1, hk1, hlen1, hbel⟩ := hrel
    simp only at hblk hown hn1 hk1 hlen1
    replace hput := Lib.hid hput
    clear hrow
    by_cases h0 : 1 ≤ (k : Int)
    · obtain ⟨k, rfl⟩ : ∃ m, k = m + 1 := ⟨k - 1, by omega⟩
      have hx1 : 0 ≤ n1 / 8 := by omega
      have hx3 : 0 ≤ n1 % 8 := by omega
      have hx4 : n1 % 8 < 8 := by omega
      by_cases hm : n1 % 8 = 0
      · have hmb : (n1 % 8 == 0) = true := by simp [hm]
        have c0 : wr.cell? ⟨p, 0, none⟩ = some sv := blk_cell hblk 0
        have c1 : wr.cell? ⟨p, 1, none⟩ = some (.int .i64 n1) := blk_cell hblk 1
        have f0 := blk_frozen hblk 0
        have f1 := blk_frozen hblk 1
        have hbs : base ≤ wr.heap.size := Nat.le_trans hbase hbel.size
        have HE := Lib.hid (show rowBit (bs1, n1) v k = ((bs1 ++ [0]).set (n1 / 8).toNat (rowByte (rd (bs1 ++ [0]) (n1 / 8)) v k (7 - n1 % 8)), n1 + 1) by simp [rowBit, hm])
        have HOWN := Lib.hid (hown.alloc (.cells #[.int .u8 0] 5))
        have HBLK := Lib.hid (show (wr.alloc (.cells #[.int .u8 0] 5)).heap[p]? = _ from (Below.heap_alloc wr _ p (blk_lt hblk)).trans hblk)
        have HNE := Lib.hid (hown.ne hblk (by decide))
        have HBEL := Lib.hid (hbel.alloc hbs (.cells #[.int .u8 0] 5))
        have HLEN := Lib.hid hlen1
        clear hown hblk hbel hlen1 hm
        go_wp2_with (at_builtin; refine wpList_append_b _ rfl _ _ rfl base sv bs1 rfl HOWN.out ⟨wr.heap.size, 0, none⟩ 1 0 rfl (cell_of_row _ _ 0 _ 5 (0, 0) (heap_alloc_new wr _)) ?c2 ?c1 ?next)
        case c1 => simp; omega
        case c2 => have := HLEN.out; omega
        case next =>
        intro v1 w1 hown1 hgrow
        have hbel1 : Below base W w1 := HBEL.out.grown hgrow (by simp; omega) (fun k hk => (HOWN.out.base_le k hk).1)
        clear c0 c1 f0 f1
        obtain ⟨bs2, HB2⟩ : ∃ b, b = bs1 ++ [0] := ⟨_, rfl⟩
        replace hown1 : OwnB w1 base v1 bs2 := by rw [HB2]; exact hown1
        rw [← HB2] at HE
        have HL1 : (bs2.length : Int) = (n1 + 7) / 8 + 1 := by have := HLEN.out; rw [HB2]; simp; omega
        replace HB2 := Lib.hid HB2
        have hpos : 0 < bs2.length := by omega
        obtain ⟨g, cap, rfl⟩ := hown1.form hpos
        have hblk1 := blk_grown HBLK.out hgrow HNE.out
        have hx2 : n1 / 8 < (bs2.length : Int) := by omega
        have hgp : g ≠ p := fun h => hown1.ne hblk1 (by decide) (by simp [Value.ownBlock, h])
        have hgp2 : p ≠ g := fun h => hgp h.symm
        have hnep : some p ≠ (Value.slice (some ⟨g, 0, none⟩) bs2.length cap).ownBlock := hown1.ne hblk1 (by decide)
        have hown2 := hown1.setFar (p := ⟨p, 0, none⟩) hnep (.slice (some ⟨g, 0, none⟩) bs2.length cap)
        have hblk2 : (w1.setCell ⟨p, 0, none⟩ (.slice (some ⟨g, 0, none⟩) bs2.length cap)).heap[p]? = some (.cells #[.slice (some ⟨g, 0, none⟩) bs2.length cap, .int .i64 n1] 116 (0, 0)) := blk_set hblk1 0 _
        have hbel2 := hbel1.setCell (p := ⟨p, 0, none⟩) hp (.slice (some ⟨g, 0, none⟩) bs2.length cap)
        have HL := Lib.hid (row_leaves (x := rowByte (rd bs2 (n1 / 8)) v k (7 - n1 % 8)) hbel2 hblk2 hown2 hp (n1 / 8))
        obtain ⟨cg, fg⟩ := hown2.at_ (n1 / 8) hx1 hx2
        have c0 : w1.cell? ⟨p, 0, none⟩ = some sv := blk_cell hblk1 0
        have f0 := blk_frozen hblk1 0
        have c1 : w1.cell? ⟨p, 1, none⟩ = some (.int .i64 n1) := blk_cell hblk1 1
        have f1 := blk_frozen hblk1 1
        obtain ⟨cg', fg'⟩ := hown1.at_ (n1 / 8) hx1 hx2
        have c0' : _ = some (Value.slice (some ⟨g, 0, none⟩) bs2.length cap) := blk_cell hblk2 0
        have c1' : _ = some (Value.int .i64 n1) := blk_cell hblk2 1
        have f0' := blk_frozen hblk2 0
        have f1' := blk_frozen hblk2 1
        replace hblk1 := Lib.hid hblk1
        replace hblk2 := Lib.hid hblk2
        replace hown1 := Lib.hid hown1
        replace hown2 := Lib.hid hown2
        clear hbel1 hbel2
        replace HL1 := Lib.hid HL1
        go_wp2
        go_region
        all_goals go_wp2
        all_goals go_roundw
        case rel => exact ⟨k, rowBit (bs1, n1) v k, by omega, by first | rfl | go_num, hput.out, by rw [HE.out]; exact HL.out.1, by simp [rowBit]; omega, by simp [rowBit]; omega, rowBit_len (bs1, n1) v k hn1 HLEN.out, HL.out.2⟩
        case measure => simp [intOf]
      · have hpos : 0 < bs1.length := by omega
        obtain ⟨g, cap, rfl⟩ := hown.form hpos
        have hx2 : n1 / 8 < (bs1.length : Int) := by omega
        obtain ⟨cg, fg⟩ := hown.at_ (n1 / 8) hx1 hx2
        have c0 : wr.cell? ⟨p, 0, none⟩ = some (.slice (some ⟨g, 0, none⟩) bs1.length cap) := blk_cell hblk 0
        have c1 : wr.cell? ⟨p, 1, none⟩ = some (.int .i64 n1) := blk_cell hblk 1
        have f0 := blk_frozen hblk 0
        have f1 := blk_frozen hblk 1
        have hgp : g ≠ p := fun h => hown.ne hblk (by decide) (by simp [Value.ownBlock, h])
        have HE := Lib.hid (show rowBit (bs1, n1) v k = (bs1.set (n1 / 8).toNat (rowByte (rd bs1 (n1 / 8)) v k (7 - n1 % 8)), n1 + 1) by simp [rowBit, hm])
        have HL := Lib.hid (row_leaves (x := rowByte (rd bs1 (n1 / 8)) v k (7 - n1 % 8)) hbel hblk hown hp (n1 / 8))
        replace hblk := Lib.hid hblk
        replace hown := Lib.hid hown
        replace hlen1 := Lib.hid hlen1
        clear hbel
        go_wp2
        go_region
        all_goals go_wp2
        all_goals go_roundw
        case rel => exact ⟨k, rowBit (bs1, n1) v k, by omega, by first | rfl | go_num, hput.out, by rw [HE.out]; exact HL.out.1, by simp [rowBit]; omega, by simp [rowBit]; omega, rowBit_len (bs1, n1) v k hn1 hlen1.out, HL.out.2⟩
        case measure => simp [intOf]
    · go_wp2
      have hk0 : k = 0 := by omega
      subst hk0
      go_end0
      have h1 : (bs1, n1) = rowPut w (bs, n) v := hput.out
      exact ⟨rfl, by rw [← h1]; exact ⟨sv, hblk, hown, hp⟩, hbel⟩
end Go.Proofs.Ytnpghcikhpglkaa.Hand
namespace Go.Proofs.Ytnpghcikhpglkaa.Hand
open Go.RowKit Go.Proofs.YtnpghcikhpglkaaW.PrintWords Go.Proofs.YtnpghcikhpglkaaW.PrintLast Go.Proofs.YtnpghcikhpglkaaW.PrintMore Go.Proofs.Ytnpghcikhpglkaa.Q
set_option linter.unusedVariables false
set_option linter.unusedSimpArgs false
theorem OwnB.drew {w : World} {base : Nat} {v : Value} {bs : List Int} (h : OwnB w base v bs) : OwnB w.drew base v bs := h
theorem RowIs.below {W w' : World} {base p : Nat} {bs : List Int} {n : Int} (h : RowIs W base p bs n) (hb : Below W.heap.size W w') : RowIs w' base p bs n := by
  obtain ⟨sv, h1, h2, h3⟩ := h
  exact ⟨sv, (hb.block p (blk_lt h1)).trans h1, h2.below hb, h3⟩
set_option maxHeartbeats 1000000 in
set_option maxRecDepth 100000 in
theorem from_ (W : World) (s : ByteArray) (n : Int) (hs : s.size ≤ 1073741824) :
    Calls Try.prog 88 #[.agg #[.string s, .int .i64 n]] W fun e w' => ∃ p, e = .returned (.pointer (some ⟨p, 0, none⟩)) ∧ RowIs w' W.heap.size p (bytesI s) n ∧ Below W.heap.size W w' := by
  have hu := Try.underlying27
  have hu2 := Try.underlying116
  have hcv := fun w => Lib.run_convert_string_bytes (P := Try.prog) w 9 63 5 s Try.underlying9 Try.underlying63 Try.underlying5
  have hc1 : (Lib.bytesWorld (W.alloc (.cells #[.string s, .int .i64 n] 27)) 5 s).cell? ⟨W.heap.size, 1, none⟩ = some (.int .i64 n) := by
    rw [Lib.bytesWorld_old _ _ _ _ (by simp)]
    exact cell_of_row _ _ 1 _ 27 (0, 0) (heap_alloc_new W _)
  have hsz := Lib.bytesWorld_size (W.alloc (.cells #[.string s, .int .i64 n] 27)) 5 s
  have HO := Lib.hid (own_bytes (W.alloc (.cells #[.string s, .int .i64 n] 27)) s W.heap.size (by simp) hs)
  have HB := Lib.hid (below_bytes ((Below.refl W.heap.size W).alloc (Nat.le_refl _) (.cells #[.string s, .int .i64 n] 27)) (by simp) s)
  go_enter Try.func88, Try.ntmps88
  go_wp2
  go_ret
  refine ⟨W.heap.size + 2, rfl, ⟨_, ?_, HO.out.alloc _, by omega⟩, ?_⟩
  · have h := heap_alloc_new (Lib.bytesWorld (W.alloc (.cells #[.string s, .int .i64 n] 27)) 5 s) (.cells #[.slice (some ⟨W.heap.size + 1, 0, none⟩) s.size (grownCap (W.alloc (.cells #[.string s, .int .i64 n] 27)) s.size 0 5), .int .i64 n] 116)
    rw [Lib.bytesWorld_size] at h
    simpa using h
  · exact HB.out.alloc (by rw [Lib.bytesWorld_size]; simp; omega) _
set_option maxHeartbeats 1000000 in
set_option maxRecDepth 100000 in
theorem row_bits_yes (W : World) (base p : Nat) (bs : List Int) (n : Int) (hrow : RowIs W base p bs n) (hn : n ≤ 6000) :
    Calls Try.prog 90 #[.pointer (some ⟨p, 0, none⟩)] W fun e w' => e = .returned (.tuple #[.agg #[.string (strOfNums bs), .int .i64 n], .int .i64 0]) ∧ Below W.heap.size W w' := by
  obtain ⟨sv, hblk, hown, hp⟩ := hrow
  have hu := Try.underlying27
  have hu2 := Try.underlying116
  have c0 : W.cell? ⟨p, 0, none⟩ = some sv := blk_cell hblk 0
  have c1 : W.cell? ⟨p, 1, none⟩ = some (.int .i64 n) := blk_cell hblk 1
  have hpl : p < W.heap.size := blk_lt hblk
  have hst := (hown.alloc (.cells #[.string { data := #[] }, .int .i64 0] 27)).drew.str
  replace hblk := Lib.hid hblk
  replace hown := Lib.hid hown
  go_enter Try.func90, Try.ntmps90
  go_wp2
  go_region
  go_wp2
  refine bodyPost_ret (results_list (rs := [.cell 2 27, .tmp 3]) rfl (by simp) (.cell W.heap.size 27 #[.string (strOfNums bs), .int .i64 n] (0, 0) _ rfl ?_ Try.underlying27 rfl (by kernel_rfl) (.tmp .nil))) rfl ⟨rfl, ?_⟩
  · exact heap_alloc_new W _
  · exact below_drew0 ((Below.refl _ W).alloc (Nat.le_refl _) _)
set_option maxHeartbeats 1000000 in
set_option maxRecDepth 100000 in
theorem row_bits_no (W : World) (base p : Nat) (bs : List Int) (n : Int) (hrow : RowIs W base p bs n) (hn : 6000 < n) :
    Calls Try.prog 90 #[.pointer (some ⟨p, 0, none⟩)] W fun e w' => e = .returned (.tuple #[.agg #[.string ⟨#[]⟩, .int .i64 0], .int .i64 2]) ∧ Below W.heap.size W w' := by
  obtain ⟨sv, hblk, hown, hp⟩ := hrow
  have hu := Try.underlying27
  have hu2 := Try.underlying116
  have c1 : W.cell? ⟨p, 1, none⟩ = some (.int .i64 n) := blk_cell hblk 1
  have hpl : p < W.heap.size := blk_lt hblk
  clear hblk hown
  go_enter Try.func90, Try.ntmps90
  go_wp2
  refine bodyPost_ret (results_list (rs := [.cell 2 27, .tmp 3]) rfl (by simp) (.cell W.heap.size 27 #[.string ⟨#[]⟩, .int .i64 0] (0, 0) _ rfl ?_ Try.underlying27 rfl (by kernel_rfl) (.tmp .nil))) rfl ⟨rfl, ?_⟩
  · first | exact heap_alloc_new W _ | exact blk_put (cs := #[.string ⟨#[]⟩, .int .i64 0]) (blk_put (cs := #[.string ⟨#[]⟩, .int .i64 0]) (heap_alloc_new W _) 0 _ rfl) 1 _ rfl
  · first | exact (Below.refl _ W).alloc (Nat.le_refl _) _ | exact (((Below.refl _ W).alloc (Nat.le_refl _) _).setCell (p := ⟨W.heap.size, 0, none⟩) (Nat.le_refl _) _).setCell (p := ⟨W.heap.size, 1, none⟩) (Nat.le_refl _) _
theorem row_size (W : World) (base p : Nat) (bs : List Int) (n : Int) (hrow : RowIs W base p bs n) :
    Calls Try.prog 109 #[.pointer (some ⟨p, 0, none⟩)] W fun e w' => e = .returned (.int .i64 n) ∧ W = w' := by
  obtain ⟨sv, hblk, hown, hp⟩ := hrow
  have hu2 := Try.underlying116
  have c1 : W.cell? ⟨p, 1, none⟩ = some (.int .i64 n) := blk_cell hblk 1
  clear hblk hown
  go_enter Try.func109, Try.ntmps109
  go_wp2
  go_ret
  exact ⟨rfl, rfl⟩
end Go.Proofs.Ytnpghcikhpglkaa.Hand
namespace Go.Proofs.Ytnpghcikhpglkaa.Pu
open Go.RowKit Go.Proofs.YtnpghcikhpglkaaW.PrintWords Go.Proofs.YtnpghcikhpglkaaW.PrintLast Go.Proofs.YtnpghcikhpglkaaW.PrintMore Go.Proofs.Ytnpghcikhpglkaa.Q Go.Proofs.Ytnpghcikhpglkaa.Hand
set_option linter.unusedVariables false
/-! ### the machine's bit operations -/
theorem wraps_i64 (n : Int) (h₀ : 0 ≤ n) (h₁ : n < 2 ^ 63) : IntKind.i64.wrap n = n := by rw [IntKind.wrap_i64]; omega
theorem and_one (x : Int) (h0 : 0 ≤ x) (h1 : x < 2 ^ 63) : bits .and .i64 x 1 = x % 2 :=
  bits_mask .i64 63 (by decide) wraps_i64 1 (by decide) x h0 h1
theorem pow8 (m : Int) (h0 : 0 ≤ m) (h7 : m ≤ 7) : (2 : Int) ^ m.toNat = 1 ∨ (2 : Int) ^ m.toNat = 2 ∨ (2 : Int) ^ m.toNat = 4 ∨ (2 : Int) ^ m.toNat = 8 ∨ (2 : Int) ^ m.toNat = 16 ∨ (2 : Int) ^ m.toNat = 32 ∨ (2 : Int) ^ m.toNat = 64 ∨ (2 : Int) ^ m.toNat = 128 := by
  have : m = 0 ∨ m = 1 ∨ m = 2 ∨ m = 3 ∨ m = 4 ∨ m = 5 ∨ m = 6 ∨ m = 7 := by omega
  rcases this with rfl | rfl | rfl | rfl | rfl | rfl | rfl | rfl <;> simp
theorem div_pow_nonneg (v : Int) (k : Nat) (h : 0 ≤ v) : 0 ≤ v / 2 ^ k := Int.ediv_nonneg h (Int.le_of_lt (Int.pow_pos (by decide)))
theorem div_pow_le (v : Int) (k : Nat) (h : 0 ≤ v) : v / 2 ^ k ≤ v := Int.ediv_le_self _ h
theorem div_min (v : Int) (k : Nat) (hv : 0 ≤ v) (hv2 : v < 2 ^ 62) : v / 2 ^ min k 64 = v / 2 ^ k := by
  rcases Nat.le_total k 64 with hk | hk
  · rw [Nat.min_eq_left hk]
  · rw [Nat.min_eq_right hk]
    have h1 : v < 2 ^ 64 := by omega
    have h2 : (2 : Int) ^ 64 ≤ 2 ^ k := by have := Nat.pow_le_pow_right (n := 2) (by decide) hk; exact_mod_cast this
    rw [Int.ediv_eq_zero_of_lt hv h1, Int.ediv_eq_zero_of_lt hv (Int.lt_of_lt_of_le h1 h2)]
theorem bitAt_eq (v : Int) (k : Nat) (m : Int) (hv : 0 ≤ v) (hv2 : v < 2 ^ 62) (hm0 : 0 ≤ m) (hm7 : m ≤ 7) : bitAt v k m = v / 2 ^ k % 2 * 2 ^ m.toNat := by
  unfold bitAt
  rw [div_min v k hv hv2, and_one _ (div_pow_nonneg v k hv) (by have := div_pow_le v k hv; omega)]
  generalize hb : v / 2 ^ k % 2 = b
  have hb01 : b = 0 ∨ b = 1 := by omega
  have hp := pow8 m hm0 hm7
  rcases hb01 with rfl | rfl
  · simp
  · rcases hp with h | h | h | h | h | h | h | h <;> rw [h] <;> rfl
theorem rowByte_eq (x v : Int) (k : Nat) (m : Int) (hx0 : 0 ≤ x) (hx : x < 256) (hv : 0 ≤ v) (hv2 : v < 2 ^ 62) (hm0 : 0 ≤ m) (hm7 : m ≤ 7) (hd : x % 2 ^ (m.toNat + 1) = 0) :
    rowByte x v k m = x + v / 2 ^ k % 2 * 2 ^ m.toNat := by
  unfold rowByte
  rw [bitAt_eq v k m hv hv2 hm0 hm7]
  generalize hb : v / 2 ^ k % 2 = b
  have hb01 : b = 0 ∨ b = 1 := by omega
  have hpw : (0 : Int) < 2 ^ m.toNat := Int.pow_pos (by decide)
  have hp := pow8 m hm0 hm7
  refine bits_join .u8 8 (by decide) wraps_u8 (m.toNat + 1) x _ hx0 hd (by omega) ?_ ?_ ?_
  · rcases hb01 with rfl | rfl <;> omega
  · rw [Int.pow_succ]; rcases hb01 with rfl | rfl <;> omega
  · rcases hb01 with rfl | rfl
    · simp
    · rcases hp with h | h | h | h | h | h | h | h <;> rw [h] <;> decide
/-! ### lists of bits, packed -/
def IsBits (l : List Int) : Prop := ∀ x ∈ l, x = 0 ∨ x = 1
theorem IsBits.nil : IsBits [] := fun x h => by cases h
theorem IsBits.append {a b : List Int} (ha : IsBits a) (hb : IsBits b) : IsBits (a ++ b) := fun x h => by
  rcases List.mem_append.1 h with h | h
  · exact ha x h
  · exact hb x h
theorem IsBits.getD {l : List Int} (h : IsBits l) (i : Nat) : l.getD i 0 = 0 ∨ l.getD i 0 = 1 := by
  rw [List.getD_eq_getElem?_getD]
  rcases Nat.lt_or_ge i l.length with hi | hi
  · rw [List.getElem?_eq_getElem hi]
    exact h _ (List.getElem_mem hi)
  · rw [List.getElem?_eq_none hi]
    exact .inl rfl
def byteAt (l : List Int) (j : Nat) : Int :=
  l.getD (8 * j) 0 * 128 + l.getD (8 * j + 1) 0 * 64 + l.getD (8 * j + 2) 0 * 32 + l.getD (8 * j + 3) 0 * 16 + l.getD (8 * j + 4) 0 * 8 + l.getD (8 * j + 5) 0 * 4 + l.getD (8 * j + 6) 0 * 2 + l.getD (8 * j + 7) 0
def packL (l : List Int) : List Int := (List.range ((l.length + 7) / 8)).map (byteAt l)
theorem packL_length (l : List Int) : (packL l).length = (l.length + 7) / 8 := by simp [packL]
theorem byteAt_range {l : List Int} (h : IsBits l) (j : Nat) : 0 ≤ byteAt l j ∧ byteAt l j < 256 := by
  unfold byteAt
  have := h.getD (8 * j); have := h.getD (8 * j + 1); have := h.getD (8 * j + 2); have := h.getD (8 * j + 3)
  have := h.getD (8 * j + 4); have := h.getD (8 * j + 5); have := h.getD (8 * j + 6); have := h.getD (8 * j + 7)
  omega
theorem packL_get (l : List Int) (j : Nat) (hj : j < (l.length + 7) / 8) : (packL l)[j]? = some (byteAt l j) := by
  simp [packL, List.getElem?_map, List.getElem?_range hj]
theorem getD_beyond (l : List Int) (i : Nat) (h : l.length ≤ i) : l.getD i 0 = 0 := by
  rw [List.getD_eq_getElem?_getD, List.getElem?_eq_none h]; rfl
theorem getD_snoc_old (l : List Int) (b : Int) (i : Nat) (h : i ≠ l.length) : (l ++ [b]).getD i 0 = l.getD i 0 := by
  rw [List.getD_eq_getElem?_getD, List.getD_eq_getElem?_getD]
  rcases Nat.lt_or_ge i l.length with hi | hi
  · rw [List.getElem?_append_left hi]
  · rw [List.getElem?_eq_none hi, List.getElem?_eq_none (by simp; omega)]
theorem getD_snoc_new (l : List Int) (b : Int) : (l ++ [b]).getD l.length 0 = b := by
  rw [List.getD_eq_getElem?_getD, List.getElem?_append_right (Nat.le_refl _)]; simp
theorem byteAt_snoc_old (l : List Int) (b : Int) (j : Nat) (h : j ≠ l.length / 8) : byteAt (l ++ [b]) j = byteAt l j := by
  unfold byteAt
  rw [getD_snoc_old l b _ (by omega), getD_snoc_old l b _ (by omega), getD_snoc_old l b _ (by omega), getD_snoc_old l b _ (by omega), getD_snoc_old l b _ (by omega), getD_snoc_old l b _ (by omega), getD_snoc_old l b _ (by omega), getD_snoc_old l b _ (by omega)]
/-- The byte in which the next bit comes to stand. -/
theorem byteAt_snoc_new (l : List Int) (b : Int) : byteAt (l ++ [b]) (l.length / 8) = byteAt l (l.length / 8) + b * 2 ^ (7 - l.length % 8) ∧ byteAt l (l.length / 8) % 2 ^ (7 - l.length % 8 + 1) = 0 := by
  obtain ⟨q, r, hr, hl⟩ : ∃ q r, r < 8 ∧ l.length = 8 * q + r := ⟨l.length / 8, l.length % 8, by omega, by omega⟩
  have hq : l.length / 8 = q := by omega
  have hm : l.length % 8 = r := by omega
  rw [hq, hm]
  unfold byteAt
  have hz : ∀ i, r ≤ i → l.getD (8 * q + i) 0 = 0 := fun i hi => getD_beyond l _ (by omega)
  have ho : ∀ i, i ≠ r → (l ++ [b]).getD (8 * q + i) 0 = l.getD (8 * q + i) 0 := fun i hi => getD_snoc_old l b _ (by omega)
  have hn : (l ++ [b]).getD (8 * q + r) 0 = b := by rw [← hl]; exact getD_snoc_new l b
  have h0 := ho 0; have z0 := hz 0
  simp only [Nat.add_zero] at h0 z0
  have hr' : r = 0 ∨ r = 1 ∨ r = 2 ∨ r = 3 ∨ r = 4 ∨ r = 5 ∨ r = 6 ∨ r = 7 := by omega
  rcases hr' with rfl | rfl | rfl | rfl | rfl | rfl | rfl | rfl
  · simp only [Nat.add_zero] at hn
    rw [hn, ho 1 (by omega), ho 2 (by omega), ho 3 (by omega), ho 4 (by omega), ho 5 (by omega), ho 6 (by omega), ho 7 (by omega), z0 (by omega), hz 1 (by omega), hz 2 (by omega), hz 3 (by omega), hz 4 (by omega), hz 5 (by omega), hz 6 (by omega), hz 7 (by omega)]
    constructor <;> simp
  · rw [hn, h0 (by omega), ho 2 (by omega), ho 3 (by omega), ho 4 (by omega), ho 5 (by omega), ho 6 (by omega), ho 7 (by omega), hz 1 (by omega), hz 2 (by omega), hz 3 (by omega), hz 4 (by omega), hz 5 (by omega), hz 6 (by omega), hz 7 (by omega)]
    constructor <;> simp <;> omega
  · rw [hn, h0 (by omega), ho 1 (by omega), ho 3 (by omega), ho 4 (by omega), ho 5 (by omega), ho 6 (by omega), ho 7 (by omega), hz 2 (by omega), hz 3 (by omega), hz 4 (by omega), hz 5 (by omega), hz 6 (by omega), hz 7 (by omega)]
    constructor <;> simp <;> omega
  · rw [hn, h0 (by omega), ho 1 (by omega), ho 2 (by omega), ho 4 (by omega), ho 5 (by omega), ho 6 (by omega), ho 7 (by omega), hz 3 (by omega), hz 4 (by omega), hz 5 (by omega), hz 6 (by omega), hz 7 (by omega)]
    constructor <;> simp <;> omega
  · rw [hn, h0 (by omega), ho 1 (by omega), ho 2 (by omega), ho 3 (by omega), ho 5 (by omega), ho 6 (by omega), ho 7 (by omega), hz 4 (by omega), hz 5 (by omega), hz 6 (by omega), hz 7 (by omega)]
    constructor <;> simp <;> omega
  · rw [hn, h0 (by omega), ho 1 (by omega), ho 2 (by omega), ho 3 (by omega), ho 4 (by omega), ho 6 (by omega), ho 7 (by omega), hz 5 (by omega), hz 6 (by omega), hz 7 (by omega)]
    constructor <;> simp <;> omega
  · rw [hn, h0 (by omega), ho 1 (by omega), ho 2 (by omega), ho 3 (by omega), ho 4 (by omega), ho 5 (by omega), ho 7 (by omega), hz 6 (by omega), hz 7 (by omega)]
    constructor <;> simp <;> omega
  · rw [hn, h0 (by omega), ho 1 (by omega), ho 2 (by omega), ho 3 (by omega), ho 4 (by omega), ho 5 (by omega), ho 6 (by omega), hz 7 (by omega)]
    constructor <;> simp <;> omega
theorem packL_snoc (l : List Int) (b : Int) : packL (l ++ [b]) = (if l.length % 8 = 0 then packL l ++ [0] else packL l).set (l.length / 8) (byteAt (l ++ [b]) (l.length / 8)) := by
  refine List.ext_getElem? fun j => ?_
  have hlen : (if l.length % 8 = 0 then packL l ++ [0] else packL l).length = (l.length + 8) / 8 := by
    split
    · rw [List.length_append, packL_length]; simp; omega
    · rw [packL_length]; omega
  rcases Nat.lt_or_ge j ((l.length + 8) / 8) with hj | hj
  · rw [packL_get _ _ (by simp; omega), List.getElem?_set]
    by_cases h : l.length / 8 = j
    · rw [if_pos h, if_pos (by rw [hlen, h]; exact hj), h]
    · rw [if_neg h, byteAt_snoc_old l b j (fun e => h e.symm)]
      have hj2 : j < (l.length + 7) / 8 := by omega
      split
      · rw [List.getElem?_append_left (by rw [packL_length]; exact hj2), packL_get l j hj2]
      · rw [packL_get l j hj2]
  · rw [List.getElem?_eq_none (by rw [packL_length]; simp; omega), List.getElem?_eq_none (by rw [List.length_set, hlen]; exact hj)]
theorem byteAt_end (l : List Int) (h : l.length % 8 = 0) (j : Nat) (hj : l.length / 8 ≤ j) : byteAt l j = 0 := by
  unfold byteAt
  rw [getD_beyond l _ (by omega), getD_beyond l _ (by omega), getD_beyond l _ (by omega), getD_beyond l _ (by omega), getD_beyond l _ (by omega), getD_beyond l _ (by omega), getD_beyond l _ (by omega), getD_beyond l _ (by omega)]
  rfl
/-- One bit put behind a row is one bit more of the list. -/
theorem rowBit_pack (l : List Int) (hl : IsBits l) (v : Int) (k : Nat) (hv : 0 ≤ v) (hv2 : v < 2 ^ 62) :
    rowBit (packL l, (l.length : Int)) v k = (packL (l ++ [v / 2 ^ k % 2]), ((l ++ [v / 2 ^ k % 2]).length : Int)) := by
  have hdiv : ((l.length : Int) / 8).toNat = l.length / 8 := by omega
  have hm0 : (0 : Int) ≤ 7 - (l.length : Int) % 8 := by omega
  have hm7 : 7 - (l.length : Int) % 8 ≤ 7 := by omega
  have hmn : (7 - (l.length : Int) % 8).toNat = 7 - l.length % 8 := by omega
  have hbs : (if (l.length : Int) % 8 = 0 then packL l ++ [0] else packL l) = (if l.length % 8 = 0 then packL l ++ [0] else packL l) := by
    by_cases h : l.length % 8 = 0
    · rw [if_pos h, if_pos (by omega)]
    · rw [if_neg h, if_neg (by omega)]
  have hrd : rd (if l.length % 8 = 0 then packL l ++ [0] else packL l) ((l.length : Int) / 8) = byteAt l (l.length / 8) := by
    unfold rd
    rw [hdiv, List.getD_eq_getElem?_getD]
    by_cases h : l.length % 8 = 0
    · rw [if_pos h, List.getElem?_append_right (by rw [packL_length]; omega), packL_length, show l.length / 8 - (l.length + 7) / 8 = 0 by omega, byteAt_end l h _ (Nat.le_refl _)]
      rfl
    · rw [if_neg h, packL_get l _ (by omega)]
      rfl
  obtain ⟨h1, h2⟩ := byteAt_snoc_new l (v / 2 ^ k % 2)
  obtain ⟨r0, r1⟩ := byteAt_range hl (l.length / 8)
  unfold rowBit
  simp only [hbs, hrd, hdiv]
  rw [rowByte_eq _ v k _ r0 r1 hv hv2 hm0 hm7 (by rw [hmn]; exact h2), hmn, ← h1, ← packL_snoc]
  simp
/-- A number as so many bits, the highest first. -/
def putL : Nat → Int → List Int
  | 0, _ => []
  | k + 1, v => v / 2 ^ k % 2 :: putL k v
theorem putL_length (w : Nat) (v : Int) : (putL w v).length = w := by
  induction w with
  | zero => rfl
  | succ k ih => simp [putL, ih]
theorem putL_bits (w : Nat) (v : Int) : IsBits (putL w v) := by
  induction w with
  | zero => exact IsBits.nil
  | succ k ih =>
    intro x hx
    rcases List.mem_cons.1 hx with rfl | hx
    · omega
    · exact ih x hx
theorem rowPut_pack (w : Nat) (v : Int) (hv : 0 ≤ v) (hv2 : v < 2 ^ 62) : ∀ (l : List Int), IsBits l → rowPut w (packL l, (l.length : Int)) v = (packL (l ++ putL w v), ((l ++ putL w v).length : Int)) := by
  induction w with
  | zero => intro l hl; simp [rowPut, putL]
  | succ k ih =>
    intro l hl
    rw [rowPut, rowBit_pack l hl v k hv hv2, ih _ (hl.append (fun x hx => by rw [List.mem_singleton.1 hx]; omega))]
    simp [putL]
/-! ### bits that may be -/
/-- A bit of a text. -/
def bitOf (s : ByteArray) (i : Int) : Int := bt s (i / 8) / 2 ^ (7 - i % 8).toNat % 2
def MayP (s : ByteArray) (n : Int) : Prop := 0 ≤ n ∧ n ≤ 6000 ∧ (s.size : Int) = (n + 7) / 8 ∧ (n % 8 = 0 ∨ bt s ((s.size : Int) - 1) % 2 ^ (8 - n % 8).toNat = 0)
instance (s : ByteArray) (n : Int) : Decidable (MayP s n) := by unfold MayP; infer_instance
def ofS (s : ByteArray) (n : Int) : List Int := (List.range n.toNat).map fun i : Nat => bitOf s (i : Int)
def packS (l : List Int) : ByteArray := strOfNums (packL l)
theorem bitOf_bit (s : ByteArray) (i : Int) : bitOf s i = 0 ∨ bitOf s i = 1 := by unfold bitOf; omega
theorem ofS_bits (s : ByteArray) (n : Int) : IsBits (ofS s n) := by
  intro x hx
  obtain ⟨i, _, rfl⟩ := List.mem_map.1 hx
  exact bitOf_bit s _
theorem ofS_length (s : ByteArray) (n : Int) : (ofS s n).length = n.toNat := by simp [ofS]
theorem ofS_getD (s : ByteArray) (n : Int) (i : Nat) (h : i < n.toNat) : (ofS s n).getD i 0 = bitOf s i := by
  simp [ofS, List.getD_eq_getElem?_getD, List.getElem?_map, List.getElem?_range h]
theorem bytesI_get (s : ByteArray) (j : Nat) (h : j < s.size) : (bytesI s)[j]? = some (bt s j) := by
  have h2 : j < s.data.toList.length := h
  simp only [bytesI, List.getElem?_map, List.getElem?_eq_getElem h2, Option.map_some, Option.some.injEq]
  have := bt_at s (j : Int) h
  rw [← this]
  rfl
theorem split8 (x : Int) (h0 : 0 ≤ x) (h1 : x < 256) : x = x / 128 % 2 * 128 + x / 64 % 2 * 64 + x / 32 % 2 * 32 + x / 16 % 2 * 16 + x / 8 % 2 * 8 + x / 4 % 2 * 4 + x / 2 % 2 * 2 + x % 2 := by omega
theorem bitOf_at (s : ByteArray) (j : Nat) (i : Nat) (hi : i < 8) : bitOf s ((8 * j + i : Nat) : Int) = bt s j / 2 ^ (7 - i) % 2 := by
  unfold bitOf
  rw [show ((8 * j + i : Nat) : Int) / 8 = (j : Int) by omega, show (7 - ((8 * j + i : Nat) : Int) % 8).toNat = 7 - i by omega]
/-- Bits that may be, packed, are their text's bytes. -/
theorem pack_ofS (s : ByteArray) (n : Int) (h : MayP s n) : packL (ofS s n) = bytesI s := by
  obtain ⟨h0, h6, hsz, hend⟩ := h
  refine List.ext_getElem? fun j => ?_
  rcases Nat.lt_or_ge j s.size with hj | hj
  · rw [packL_get _ _ (by rw [ofS_length]; omega), bytesI_get s j hj]
    congr 1
    obtain ⟨b0, b1⟩ := bt_range s j
    have hx := split8 (bt s j) b0 (by omega)
    have hbit : ∀ i, i < 8 → (ofS s n).getD (8 * j + i) 0 = bt s j / 2 ^ (7 - i) % 2 := by
      intro i hi
      rcases Nat.lt_or_ge (8 * j + i) n.toNat with hlt | hge
      · rw [ofS_getD s n _ hlt, bitOf_at s j i hi]
      · rw [getD_beyond _ _ (by rw [ofS_length]; exact hge)]
        have hjl : j + 1 = s.size := by omega
        have hn8 : n % 8 ≠ 0 := by omega
        have hz := hend.resolve_left hn8
        rw [show ((s.size : Int) - 1) = (j : Int) by omega] at hz
        have hr : n % 8 ≤ (i : Int) := by omega
        have hcase : ∃ r : Nat, n % 8 = (r : Int) ∧ 1 ≤ r ∧ r ≤ i := ⟨(n % 8).toNat, by omega, by omega, by omega⟩
        obtain ⟨r, hr1, hr2, hr3⟩ := hcase
        rw [hr1, show (8 - (r : Int)).toNat = 8 - r by omega] at hz
        have : i = 1 ∨ i = 2 ∨ i = 3 ∨ i = 4 ∨ i = 5 ∨ i = 6 ∨ i = 7 := by omega
        have hd : (2 : Int) ^ (8 - i) ∣ 2 ^ (8 - r) := ⟨2 ^ (i - r), by rw [← Int.pow_add, show 8 - i + (i - r) = 8 - r by omega]⟩
        have hz2 : bt s j % 2 ^ (8 - i) = 0 := Int.emod_eq_zero_of_dvd (Int.dvd_trans hd (Int.dvd_of_emod_eq_zero hz))
        rcases this with rfl | rfl | rfl | rfl | rfl | rfl | rfl <;> simp at hz2 ⊢ <;> omega
    unfold byteAt
    have e0 := hbit 0 (by omega)
    rw [Nat.add_zero] at e0
    rw [e0, hbit 1 (by omega), hbit 2 (by omega), hbit 3 (by omega), hbit 4 (by omega), hbit 5 (by omega), hbit 6 (by omega), hbit 7 (by omega)]
    simp
    omega
  · rw [List.getElem?_eq_none (by rw [packL_length, ofS_length]; omega), List.getElem?_eq_none (by rw [bytesI_length]; exact hj)]
theorem strOfNums_bytesI (s : ByteArray) : strOfNums (bytesI s) = s := by
  apply ByteArray.ext
  apply Array.ext'
  rw [strOfNums_data, bytesI, List.map_map]
  have : ∀ l : List UInt8, l.map ((fun n : Int => UInt8.ofNat n.toNat) ∘ fun b : UInt8 => (b.toNat : Int)) = l := by
    intro l
    induction l with
    | nil => rfl
    | cons a r ih => simp [ih]
  exact this _
theorem packS_ofS (s : ByteArray) (n : Int) (h : MayP s n) : packS (ofS s n) = s := by rw [packS, pack_ofS s n h, strOfNums_bytesI]
end Go.Proofs.Ytnpghcikhpglkaa.Pu
namespace Go.Proofs.Ytnpghcikhpglkaa.Q
open Go.RowKit Go.Proofs.YtnpghcikhpglkaaW.PrintWords Go.Proofs.YtnpghcikhpglkaaW.PrintLast Go.Proofs.YtnpghcikhpglkaaW.PrintMore
theorem wrap_in (x : Int) (h0 : -9223372036854775808 ≤ x) (h1 : x < 9223372036854775808) : wrap64 x = x := by unfold wrap64; omega
end Go.Proofs.Ytnpghcikhpglkaa.Q
namespace Go.Proofs.Ytnpghcikhpglkaa.Q
open Go.RowKit Go.Proofs.YtnpghcikhpglkaaW.PrintWords Go.Proofs.YtnpghcikhpglkaaW.PrintLast Go.Proofs.YtnpghcikhpglkaaW.PrintMore Go.Proofs.Ytnpghcikhpglkaa.Hand Go.Proofs.Ytnpghcikhpglkaa.Pu
set_option linter.unusedVariables false
set_option linter.unusedSimpArgs false
theorem tdiv8 (x : Int) (h : 0 ≤ x) : Int.tdiv x 8 = x / 8 := Int.tdiv_eq_ediv_of_nonneg h
theorem tmod8 (x : Int) (h : 0 ≤ x) : Int.tmod x 8 = x % 8 := Int.tmod_eq_emod_of_nonneg h
theorem and255 (x : Int) (r : Int) (h0 : 0 ≤ x) (h1 : x < 256) (hr0 : 1 ≤ r) (hr : r < 8) : (Go.bits .and .u8 x (shr .u8 255 r) == 0) = decide (x % 2 ^ (8 - r).toNat = 0) := by
  have hs : shr .u8 255 r = 2 ^ (8 - r).toNat - 1 := by
    have : r = 1 ∨ r = 2 ∨ r = 3 ∨ r = 4 ∨ r = 5 ∨ r = 6 ∨ r = 7 := by omega
    rcases this with rfl | rfl | rfl | rfl | rfl | rfl | rfl <;> decide
  rw [hs, bits_mask .u8 8 (by decide) wraps_u8 (8 - r).toNat (by omega) x h0 (by omega)]
  by_cases h : x % 2 ^ (8 - r).toNat = 0
  · simp [h]
  · simp [h]
theorem may_eq (s : ByteArray) (n : Int) : bits_May.f s n = some (decide (MayP s n)) := by
  unfold bits_May.f
  by_cases h0 : n < 0
  · rw [if_pos h0, decide_eq_false (p := MayP s n) (fun h => by have := h.1; omega)]
  rw [if_neg h0]
  by_cases h1 : n > 6000
  · rw [if_pos h1, decide_eq_false (p := MayP s n) (fun h => by have := h.2.1; omega)]
  rw [if_neg h1]
  have hw : wrap64 (Int.tdiv (wrap64 ((wrap64 (n + 8)) - 1)) 8) = (n + 7) / 8 := by
    rw [wrap_in (n + 8) (by omega) (by omega), wrap_in (n + 8 - 1) (by omega) (by omega), tdiv8 _ (by omega), wrap_in _ (by omega) (by omega)]
    omega
  rw [hw]
  by_cases h2 : (s.size : Int) = (n + 7) / 8
  · rw [if_pos h2, tmod8 n (by omega)]
    by_cases h3 : n % 8 = 0
    · rw [if_pos h3]
      rw [decide_eq_true (p := MayP s n) ⟨by omega, by omega, h2, .inl h3⟩]
    · rw [if_neg h3, wrap_in _ (by omega) (by omega), if_pos (by omega), if_pos (by omega), if_pos (by omega)]
      obtain ⟨b0, b1⟩ := bt_range s ((s.size : Int) - 1)
      rw [and255 _ _ b0 (by omega) (by omega) (by omega)]
      congr 1
      rw [decide_eq_decide]
      constructor
      · intro h; exact ⟨by omega, by omega, h2, .inr h⟩
      · intro h; exact h.2.2.2.resolve_left h3
  · rw [if_neg h2, decide_eq_false (p := MayP s n) (fun h => h2 h.2.2.1)]
theorem bit_some (s : ByteArray) (n i : Int) (h0 : 0 ≤ i) (h1 : i < 8 * s.size) (h2 : i < 1073741824) : bits_bit.f s n i = some (bitOf s i) := by
  unfold bits_bit.f
  have e1 : wrap64 (Int.tdiv i 8) = i / 8 := by rw [tdiv8 i h0, wrap_in _ (by omega) (by omega)]
  have e2 : wrap64 (7 - Int.tmod i 8) = 7 - i % 8 := by rw [tmod8 i h0, wrap_in _ (by omega) (by omega)]
  rw [e1, e2, if_pos (by omega), if_pos (by omega), if_pos (by omega)]
  congr 1
  obtain ⟨b0, b1⟩ := bt_range s (i / 8)
  have hsh : shr .u8 (bt s (i / 8)) (7 - i % 8) = bt s (i / 8) / 2 ^ (7 - i % 8).toNat := by
    unfold shr
    rw [Nat.min_eq_left (by simp [IntKind.bits]; omega)]
  have hn := div_pow_nonneg (bt s (i / 8)) (7 - i % 8).toNat b0
  have hl := div_pow_le (bt s (i / 8)) (7 - i % 8).toNat b0
  rw [hsh, wrap_in _ (by omega) (by omega), and_one _ hn (by omega)]
  rfl
end Go.Proofs.Ytnpghcikhpglkaa.Q
namespace Go.Proofs.Ytnpghcikhpglkaa.Q
open Go.RowKit Go.Proofs.YtnpghcikhpglkaaW.PrintWords Go.Proofs.YtnpghcikhpglkaaW.PrintLast Go.Proofs.YtnpghcikhpglkaaW.PrintMore Go.Proofs.Ytnpghcikhpglkaa.Hand Go.Proofs.Ytnpghcikhpglkaa.Pu
set_option linter.unusedVariables false
set_option linter.unusedSimpArgs false
/-- bits.Put. -/
def bits_Put.f (s : ByteArray) (n v w : Int) : Option (ByteArray × Int × Int) :=
  if MayP s n ∧ 0 ≤ w ∧ w ≤ 30 ∧ 0 ≤ v ∧ v < 2 ^ w.toNat then
    (if n + w ≤ 6000 then some (packS (ofS s n ++ putL w.toNat v), n + w, 0) else some (⟨#[]⟩, 0, 2))
  else some (⟨#[]⟩, 0, 1)
theorem two_cells {w : World} {g t : Nat} {a b : Value} (h : w.heap[g]? = some (.cells #[a, b] t (0, 0))) :
    w.cell? ⟨g, 0, none⟩ = some a ∧ w.cell? ⟨g, 1, none⟩ = some b ∧ w.frozen? ⟨g, 0, none⟩ = false ∧ w.frozen? ⟨g, 1, none⟩ = false :=
  ⟨blk_cell h 0, blk_cell h 1, blk_frozen h 0, blk_frozen h 1⟩
theorem keep2 {w1 w2 : World} {B g : Nat} {o : Obj} (h : w1.heap[g]? = some o) (hb : Below B w1 w2) (hg : g < B) : w2.heap[g]? = some o := (hb.block g hg).trans h
theorem start2 (w : World) (o1 o2 : Obj) : ((w.alloc o1).alloc o2).heap[w.heap.size]? = some o1 ∧ ((w.alloc o1).alloc o2).heap[w.heap.size + 1]? = some o2 ∧ Below w.heap.size w ((w.alloc o1).alloc o2) ∧ w.heap.size + 1 < ((w.alloc o1).alloc o2).heap.size := by
  refine ⟨(Below.heap_alloc _ _ _ (by simp)).trans (heap_alloc_new w o1), ?_, ((Below.refl _ w).alloc (Nat.le_refl _) o1).alloc (by simp) o2, by simp⟩
  have := heap_alloc_new (w.alloc o1) o2
  simpa using this
/-- The result's variable is written whole. -/
theorem put2 {w : World} {g : Nat} {a b c d : Value} (h : w.heap[g]? = some (.cells #[a, b] 27 (0, 0))) : ((w.setCell ⟨g, 0, none⟩ c).setCell ⟨g, 1, none⟩ d).heap[g]? = some (.cells #[c, d] 27 (0, 0)) :=
  blk_put (cs := #[c, b]) (blk_put (cs := #[a, b]) h 0 _ rfl) 1 _ rfl
theorem below_put2 {B : Nat} {w0 w : World} (hb : Below B w0 w) {g : Nat} (hg : B ≤ g) (c d : Value) : Below B w0 ((w.setCell ⟨g, 0, none⟩ c).setCell ⟨g, 1, none⟩ d) :=
  (hb.setCell (p := ⟨g, 0, none⟩) hg c).setCell (p := ⟨g, 1, none⟩) hg d
set_option maxHeartbeats 4000000 in
set_option maxRecDepth 100000 in
theorem put_no (s : ByteArray) (n v k : Int) (w : World) (hm : ¬ MayP s n) :
    Calls Try.prog 24 #[.agg #[.string s, .int .i64 n], .int .i64 v, .int .i64 k] w fun e w' => e = .returned (.tuple #[.agg #[.string ⟨#[]⟩, .int .i64 0], .int .i64 1]) ∧ Below w.heap.size w w' := by
  have hu := Try.underlying27
  have A := Aside0.mk (show bits_May.f s n = some false by rw [may_eq, decide_eq_false hm])
  have HS := Aside0.mk (start2 w (.cells #[.string s, .int .i64 n] 27) (.cells #[.string ⟨#[]⟩, .int .i64 0] 27))
  clear hm
  go_enter Try.func24, Try.ntmps24
  go_wp2_with (first | ((with_reducible refine gate_callee (f := 86) rfl ?_); refine goesL_ (some 10) rfl rfl Try.func86 (by kernel_rfl) rfl #[.agg #[.string s, .int .i64 n]] rfl (by (try simp only [List.map_toArray, List.map_cons, List.map_nil]); first | done | rfl) ?_; (with_reducible refine (bits_May.calls s n false _ A.out).mono ?_); rintro e w1 ⟨rfl, hb⟩; refine ⟨_, rfl, ?_⟩; have HR := Aside0.mk (keep2 HS.out.2.1 hb HS.out.2.2.2); obtain ⟨c0, c1, f0, f1⟩ := two_cells HR.out; have HB := Aside0.mk (below_then HS.out.2.2.1 HS.out.2.2.1.size hb); clear hb))
  refine bodyPost_ret (results_list (rs := [.cell 6 27, .tmp 7]) rfl (by simp) (.cell (w.heap.size + 1) 27 #[.string ⟨#[]⟩, .int .i64 0] (0, 0) _ rfl (put2 HR.out) Try.underlying27 rfl (by kernel_rfl) (.tmp .nil))) rfl ⟨rfl, below_put2 HB.out (by omega) _ _⟩
theorem pow_le30 (k : Int) (h0 : 0 ≤ k) (h1 : k ≤ 30) : (0 : Int) < 2 ^ k.toNat ∧ (2 : Int) ^ k.toNat ≤ 1073741824 := by
  refine ⟨Int.pow_pos (by decide), ?_⟩
  have := Nat.pow_le_pow_right (n := 2) (by decide) (show k.toNat ≤ 30 by omega)
  have h2 : ((2 ^ k.toNat : Nat) : Int) ≤ ((2 ^ 30 : Nat) : Int) := by exact_mod_cast this
  simpa using h2
theorem wrap_pow (k : Int) (h0 : 0 ≤ k) (h1 : k ≤ 30) : wrap64 (2 ^ k.toNat) = 2 ^ k.toNat := by
  have := pow_le30 k h0 h1
  exact wrap_in _ (by omega) (by omega)
theorem rowPut_snd (k : Nat) : ∀ (s : List Int × Int) (v : Int), (rowPut k s v).2 = s.2 + k := by
  induction k with
  | zero => intro s v; simp [rowPut]
  | succ k ih => intro s v; rw [rowPut, ih, rowBit_snd]; omega
/-- Behind the row's making, filling, telling: what lay ahead lies there still. -/
theorem keep4 {w1 w2 w3 w4 : World} {g nd : Nat} {o : Obj} (h : w1.heap[g]? = some o) (hg : g < w1.heap.size) (h2 : Below (w1.drewN nd).heap.size (w1.drewN nd) w2) (h3 : Below (w1.drewN nd).heap.size w2 w3) (h4 : Below w3.heap.size w3 w4) : w4.heap[g]? = some o := by
  have e : (w1.drewN nd).heap[g]? = some o := h
  have hg' : g < (w1.drewN nd).heap.size := hg
  have e2 := keep2 e h2 hg'
  have e3 := keep2 e2 h3 hg'
  exact keep2 e3 h4 (blk_lt e3)
theorem below4 {w w1 w2 w3 w4 : World} {B nd : Nat} (h1 : Below B w w1) (hB : B ≤ w1.heap.size) (h2 : Below (w1.drewN nd).heap.size (w1.drewN nd) w2) (h3 : Below (w1.drewN nd).heap.size w2 w3) (h4 : Below w3.heap.size w3 w4) : Below B w w4 := by
  have hs : (w1.drewN nd).heap.size = w1.heap.size := rfl
  refine (pw_below_drewN h1 nd).trans ((h2.mono (by omega)).trans ((h3.mono (by omega)).trans (h4.mono ?_)))
  exact Nat.le_trans hB (Nat.le_trans (hs ▸ h2.size) h3.size)
theorem width_eq (k : Int) : bits_width.f k = some (decide (0 ≤ k ∧ k ≤ 30)) := by
  unfold bits_width.f
  by_cases h : k ≥ 0
  · rw [if_pos h]; simp; omega
  · rw [if_neg h]; simp; omega
set_option maxHeartbeats 4000000 in
set_option maxRecDepth 100000 in
theorem put_w (s : ByteArray) (n v k : Int) (w : World) (hm : MayP s n) (hk : ¬ (0 ≤ k ∧ k ≤ 30)) :
    Calls Try.prog 24 #[.agg #[.string s, .int .i64 n], .int .i64 v, .int .i64 k] w fun e w' => e = .returned (.tuple #[.agg #[.string ⟨#[]⟩, .int .i64 0], .int .i64 1]) ∧ Below w.heap.size w w' := by
  have hu := Try.underlying27
  have A := Aside0.mk (show bits_May.f s n = some true by rw [may_eq, decide_eq_true hm])
  have HS := Aside0.mk (start2 w (.cells #[.string s, .int .i64 n] 27) (.cells #[.string ⟨#[]⟩, .int .i64 0] 27))
  have WI := Aside0.mk (show bits_width.f k = some false by rw [width_eq, decide_eq_false hk])
  clear hk
  clear hm
  go_enter Try.func24, Try.ntmps24
  go_wp2_with (first | ((with_reducible refine gate_callee (f := 86) rfl ?_); refine goesL_ (some 10) rfl rfl Try.func86 (by kernel_rfl) rfl #[.agg #[.string s, .int .i64 n]] rfl (by (try simp only [List.map_toArray, List.map_cons, List.map_nil]); first | done | rfl) ?_; (with_reducible refine (bits_May.calls s n true _ A.out).mono ?_); rintro e w1 ⟨rfl, hb⟩; refine ⟨_, rfl, ?_⟩; have HA := Aside0.mk (keep2 HS.out.1 hb (Nat.lt_of_succ_lt HS.out.2.2.2)); have HR := Aside0.mk (keep2 HS.out.2.1 hb HS.out.2.2.2); obtain ⟨a0, a1, g0, g1⟩ := two_cells HA.out; obtain ⟨c0, c1, f0, f1⟩ := two_cells HR.out; have HB := Aside0.mk (below_then HS.out.2.2.1 HS.out.2.2.1.size hb); have HZ := Aside0.mk (Nat.lt_of_lt_of_le HS.out.2.2.2 hb.size); clear hb) | (go_at_call 87; (with_reducible refine (bits_width.calls k false _ WI.out).mono ?_); rintro e w' ⟨rfl, ⟨nd, rfl⟩⟩))
  refine bodyPost_ret (results_list (rs := [.cell 6 27, .tmp 7]) rfl (by simp) (.cell (w.heap.size + 1) 27 #[.string ⟨#[]⟩, .int .i64 0] (0, 0) _ rfl (put2 HR.out) Try.underlying27 rfl (by kernel_rfl) (.tmp .nil))) rfl ⟨rfl, below_put2 (pw_below_drewN HB.out _) (by omega) _ _⟩
set_option maxHeartbeats 4000000 in
set_option maxRecDepth 100000 in
theorem put_neg (s : ByteArray) (n v k : Int) (w : World) (hm : MayP s n) (hk : 0 ≤ k ∧ k ≤ 30) (hv : v < 0) :
    Calls Try.prog 24 #[.agg #[.string s, .int .i64 n], .int .i64 v, .int .i64 k] w fun e w' => e = .returned (.tuple #[.agg #[.string ⟨#[]⟩, .int .i64 0], .int .i64 1]) ∧ Below w.heap.size w w' := by
  have hu := Try.underlying27
  have A := Aside0.mk (show bits_May.f s n = some true by rw [may_eq, decide_eq_true hm])
  have HS := Aside0.mk (start2 w (.cells #[.string s, .int .i64 n] 27) (.cells #[.string ⟨#[]⟩, .int .i64 0] 27))
  have WI := Aside0.mk (show bits_width.f k = some true by rw [width_eq, decide_eq_true hk])
  clear hk
  clear hm
  go_enter Try.func24, Try.ntmps24
  go_wp2_with (first | ((with_reducible refine gate_callee (f := 86) rfl ?_); refine goesL_ (some 10) rfl rfl Try.func86 (by kernel_rfl) rfl #[.agg #[.string s, .int .i64 n]] rfl (by (try simp only [List.map_toArray, List.map_cons, List.map_nil]); first | done | rfl) ?_; (with_reducible refine (bits_May.calls s n true _ A.out).mono ?_); rintro e w1 ⟨rfl, hb⟩; refine ⟨_, rfl, ?_⟩; have HA := Aside0.mk (keep2 HS.out.1 hb (Nat.lt_of_succ_lt HS.out.2.2.2)); have HR := Aside0.mk (keep2 HS.out.2.1 hb HS.out.2.2.2); obtain ⟨a0, a1, g0, g1⟩ := two_cells HA.out; obtain ⟨c0, c1, f0, f1⟩ := two_cells HR.out; have HB := Aside0.mk (below_then HS.out.2.2.1 HS.out.2.2.1.size hb); have HZ := Aside0.mk (Nat.lt_of_lt_of_le HS.out.2.2.2 hb.size); clear hb) | (go_at_call 87; (with_reducible refine (bits_width.calls k true _ WI.out).mono ?_); rintro e w' ⟨rfl, ⟨nd, rfl⟩⟩))
  refine bodyPost_ret (results_list (rs := [.cell 6 27, .tmp 7]) rfl (by simp) (.cell (w.heap.size + 1) 27 #[.string ⟨#[]⟩, .int .i64 0] (0, 0) _ rfl (put2 HR.out) Try.underlying27 rfl (by kernel_rfl) (.tmp .nil))) rfl ⟨rfl, below_put2 (pw_below_drewN HB.out _) (by omega) _ _⟩
set_option maxHeartbeats 4000000 in
set_option maxRecDepth 100000 in
theorem put_big (s : ByteArray) (n v k : Int) (w : World) (hm : MayP s n) (hk : 0 ≤ k ∧ k ≤ 30) (hv : 0 ≤ v) (hv2 : 2 ^ k.toNat ≤ v) :
    Calls Try.prog 24 #[.agg #[.string s, .int .i64 n], .int .i64 v, .int .i64 k] w fun e w' => e = .returned (.tuple #[.agg #[.string ⟨#[]⟩, .int .i64 0], .int .i64 1]) ∧ Below w.heap.size w w' := by
  have hu := Try.underlying27
  have A := Aside0.mk (show bits_May.f s n = some true by rw [may_eq, decide_eq_true hm])
  have HS := Aside0.mk (start2 w (.cells #[.string s, .int .i64 n] 27) (.cells #[.string ⟨#[]⟩, .int .i64 0] 27))
  have WI := Aside0.mk (show bits_width.f k = some true by rw [width_eq, decide_eq_true hk])
  obtain ⟨hk0, hk1⟩ := hk
  have hw : wrap64 (2 ^ k.toNat) ≤ v := by rw [wrap_pow k hk0 hk1]; exact hv2
  clear hv2
  clear hm
  go_enter Try.func24, Try.ntmps24
  go_wp2_with (first | ((with_reducible refine gate_callee (f := 86) rfl ?_); refine goesL_ (some 10) rfl rfl Try.func86 (by kernel_rfl) rfl #[.agg #[.string s, .int .i64 n]] rfl (by (try simp only [List.map_toArray, List.map_cons, List.map_nil]); first | done | rfl) ?_; (with_reducible refine (bits_May.calls s n true _ A.out).mono ?_); rintro e w1 ⟨rfl, hb⟩; refine ⟨_, rfl, ?_⟩; have HA := Aside0.mk (keep2 HS.out.1 hb (Nat.lt_of_succ_lt HS.out.2.2.2)); have HR := Aside0.mk (keep2 HS.out.2.1 hb HS.out.2.2.2); obtain ⟨a0, a1, g0, g1⟩ := two_cells HA.out; obtain ⟨c0, c1, f0, f1⟩ := two_cells HR.out; have HB := Aside0.mk (below_then HS.out.2.2.1 HS.out.2.2.1.size hb); have HZ := Aside0.mk (Nat.lt_of_lt_of_le HS.out.2.2.2 hb.size); clear hb) | (go_at_call 87; (with_reducible refine (bits_width.calls k true _ WI.out).mono ?_); rintro e w' ⟨rfl, ⟨nd, rfl⟩⟩))
  refine bodyPost_ret (results_list (rs := [.cell 6 27, .tmp 7]) rfl (by simp) (.cell (w.heap.size + 1) 27 #[.string ⟨#[]⟩, .int .i64 0] (0, 0) _ rfl (put2 HR.out) Try.underlying27 rfl (by kernel_rfl) (.tmp .nil))) rfl ⟨rfl, below_put2 (pw_below_drewN HB.out _) (by omega) _ _⟩
set_option maxHeartbeats 4000000 in
set_option maxRecDepth 100000 in
theorem put_yes (s : ByteArray) (n v : Int) (k : Nat) (w : World) (hm : MayP s n) (hk : k ≤ 30) (hv : 0 ≤ v) (hv2 : v < 2 ^ k) (hn : n + k ≤ 6000) :
    Calls Try.prog 24 #[.agg #[.string s, .int .i64 n], .int .i64 v, .int .i64 k] w fun e w' => e = .returned (.tuple #[.agg #[.string (strOfNums (rowPut k (bytesI s, n) v).1), .int .i64 (n + k)], .int .i64 0]) ∧ Below w.heap.size w w' := by
  have hu := Try.underlying27
  have A := Aside0.mk (show bits_May.f s n = some true by rw [may_eq, decide_eq_true hm])
  have HS := Aside0.mk (start2 w (.cells #[.string s, .int .i64 n] 27) (.cells #[.string ⟨#[]⟩, .int .i64 0] 27))
  have WI := Aside0.mk (show bits_width.f (k : Int) = some true by rw [width_eq, decide_eq_true (by omega)])
  have hw : v < wrap64 (2 ^ k) := by have := wrap_pow (k : Int) (by omega) (by omega); rw [Int.toNat_natCast] at this; rw [this]; exact hv2
  have hk0 : (k : Int) ≤ 30 := by omega
  have hsz : s.size ≤ 1073741824 := by have := hm.2.2.1; have := hm.2.1; omega
  have hn0 : 0 ≤ n := hm.1
  have hn6 : n ≤ 6000 := hm.2.1
  have HSZ := Aside0.mk hm.2.2.1
  have HLE := Aside0.mk (show (rowPut k (bytesI s, n) v).2 ≤ 6000 by rw [rowPut_snd]; exact hn)
  clear hm hv2
  go_enter Try.func24, Try.ntmps24
  go_wp2_with (first | ((with_reducible refine gate_callee (f := 86) rfl ?_); refine goesL_ (some 10) rfl rfl Try.func86 (by kernel_rfl) rfl #[.agg #[.string s, .int .i64 n]] rfl (by (try simp only [List.map_toArray, List.map_cons, List.map_nil]); first | done | rfl) ?_; (with_reducible refine (bits_May.calls s n true _ A.out).mono ?_); rintro e w1 ⟨rfl, hb⟩; refine ⟨_, rfl, ?_⟩; have HA := Aside0.mk (keep2 HS.out.1 hb (Nat.lt_of_succ_lt HS.out.2.2.2)); have HR := Aside0.mk (keep2 HS.out.2.1 hb HS.out.2.2.2); obtain ⟨a0, a1, g0, g1⟩ := two_cells HA.out; obtain ⟨c0, c1, f0, f1⟩ := two_cells HR.out; have HB := Aside0.mk (below_then HS.out.2.2.1 HS.out.2.2.1.size hb); have HZ := Aside0.mk (Nat.lt_of_lt_of_le HS.out.2.2.2 hb.size); clear hb) | (go_at_call 87; (with_reducible refine (bits_width.calls k true _ WI.out).mono ?_); rintro e w' ⟨rfl, ⟨nd, rfl⟩⟩) | (go_at_call 88; ((with_reducible refine (from_ _ s n hsz).mono ?_); rintro e w2 ⟨p, rfl, hrow, hb2⟩); have HROW := Aside0.mk hrow; have HB2 := Aside0.mk hb2; clear hrow hb2) | (go_at_call 89; ((with_reducible refine (row_put _ _ p (bytesI s) n v k HROW.out hn0 (by rw [bytesI_length]; exact HSZ.out) (by omega) HB2.out.size).mono ?_); rintro e w3 ⟨rfl, hrow3, hb3⟩); have HROW3 := Aside0.mk hrow3; have HB3 := Aside0.mk hb3; clear hrow3 hb3))
  go_wp2_with (first | (go_at_call 90; ((with_reducible refine (row_bits_yes _ _ p _ _ HROW3.out HLE.out).mono ?_); rintro e w4 ⟨rfl, hb4⟩); have HR4 := Aside0.mk (keep4 HR.out HZ.out HB2.out HB3.out hb4); obtain ⟨d0, d1, e0, e1⟩ := two_cells HR4.out; have HB4 := Aside0.mk (below4 HB.out (by have := HZ.out; omega) HB2.out HB3.out hb4); clear hb4))
  refine bodyPost_ret (results_list (rs := [.cell 6 27, .tmp 7]) rfl (by simp) (.cell (w.heap.size + 1) 27 #[.string (strOfNums (rowPut k (bytesI s, n) v).1), .int .i64 (rowPut k (bytesI s, n) v).2] (0, 0) _ rfl (put2 HR4.out) Try.underlying27 rfl (by kernel_rfl) (.tmp .nil))) rfl ⟨by rw [rowPut_snd]; rfl, below_put2 HB4.out (by omega) _ _⟩
set_option maxHeartbeats 4000000 in
set_option maxRecDepth 100000 in
theorem put_full (s : ByteArray) (n v : Int) (k : Nat) (w : World) (hm : MayP s n) (hk : k ≤ 30) (hv : 0 ≤ v) (hv2 : v < 2 ^ k) (hn : 6000 < n + k) :
    Calls Try.prog 24 #[.agg #[.string s, .int .i64 n], .int .i64 v, .int .i64 k] w fun e w' => e = .returned (.tuple #[.agg #[.string ⟨#[]⟩, .int .i64 0], .int .i64 2]) ∧ Below w.heap.size w w' := by
  have hu := Try.underlying27
  have A := Aside0.mk (show bits_May.f s n = some true by rw [may_eq, decide_eq_true hm])
  have HS := Aside0.mk (start2 w (.cells #[.string s, .int .i64 n] 27) (.cells #[.string ⟨#[]⟩, .int .i64 0] 27))
  have WI := Aside0.mk (show bits_width.f (k : Int) = some true by rw [width_eq, decide_eq_true (by omega)])
  have hw : v < wrap64 (2 ^ k) := by have := wrap_pow (k : Int) (by omega) (by omega); rw [Int.toNat_natCast] at this; rw [this]; exact hv2
  have hk0 : (k : Int) ≤ 30 := by omega
  have hsz : s.size ≤ 1073741824 := by have := hm.2.2.1; have := hm.2.1; omega
  have hn0 : 0 ≤ n := hm.1
  have hn6 : n ≤ 6000 := hm.2.1
  have HSZ := Aside0.mk hm.2.2.1
  have HLE := Aside0.mk (show 6000 < (rowPut k (bytesI s, n) v).2 by rw [rowPut_snd]; exact hn)
  clear hm hv2
  go_enter Try.func24, Try.ntmps24
  go_wp2_with (first | ((with_reducible refine gate_callee (f := 86) rfl ?_); refine goesL_ (some 10) rfl rfl Try.func86 (by kernel_rfl) rfl #[.agg #[.string s, .int .i64 n]] rfl (by (try simp only [List.map_toArray, List.map_cons, List.map_nil]); first | done | rfl) ?_; (with_reducible refine (bits_May.calls s n true _ A.out).mono ?_); rintro e w1 ⟨rfl, hb⟩; refine ⟨_, rfl, ?_⟩; have HA := Aside0.mk (keep2 HS.out.1 hb (Nat.lt_of_succ_lt HS.out.2.2.2)); have HR := Aside0.mk (keep2 HS.out.2.1 hb HS.out.2.2.2); obtain ⟨a0, a1, g0, g1⟩ := two_cells HA.out; obtain ⟨c0, c1, f0, f1⟩ := two_cells HR.out; have HB := Aside0.mk (below_then HS.out.2.2.1 HS.out.2.2.1.size hb); have HZ := Aside0.mk (Nat.lt_of_lt_of_le HS.out.2.2.2 hb.size); clear hb) | (go_at_call 87; (with_reducible refine (bits_width.calls k true _ WI.out).mono ?_); rintro e w' ⟨rfl, ⟨nd, rfl⟩⟩) | (go_at_call 88; ((with_reducible refine (from_ _ s n hsz).mono ?_); rintro e w2 ⟨p, rfl, hrow, hb2⟩); have HROW := Aside0.mk hrow; have HB2 := Aside0.mk hb2; clear hrow hb2) | (go_at_call 89; ((with_reducible refine (row_put _ _ p (bytesI s) n v k HROW.out hn0 (by rw [bytesI_length]; exact HSZ.out) (by omega) HB2.out.size).mono ?_); rintro e w3 ⟨rfl, hrow3, hb3⟩); have HROW3 := Aside0.mk hrow3; have HB3 := Aside0.mk hb3; clear hrow3 hb3))
  go_wp2_with (first | (go_at_call 90; ((with_reducible refine (row_bits_no _ _ p _ _ HROW3.out HLE.out).mono ?_); rintro e w4 ⟨rfl, hb4⟩); have HR4 := Aside0.mk (keep4 HR.out HZ.out HB2.out HB3.out hb4); obtain ⟨d0, d1, e0, e1⟩ := two_cells HR4.out; have HB4 := Aside0.mk (below4 HB.out (by have := HZ.out; omega) HB2.out HB3.out hb4); clear hb4))
  refine bodyPost_ret (results_list (rs := [.cell 6 27, .tmp 7]) rfl (by simp) (.cell (w.heap.size + 1) 27 #[.string ⟨#[]⟩, .int .i64 0] (0, 0) _ rfl (put2 HR4.out) Try.underlying27 rfl (by kernel_rfl) (.tmp .nil))) rfl ⟨rfl, below_put2 HB4.out (by omega) _ _⟩
set_option maxRecDepth 100000 in
theorem bits_Put.calls (a0_0 : ByteArray) (a0_1 a1 a2 : Int) (r1 : ByteArray) (r2 r3 : Int) (w : World) (h : bits_Put.f a0_0 a0_1 a1 a2 = some (r1, r2, r3)) :
    Calls Try.prog 24 #[.agg #[.string a0_0, .int .i64 a0_1], .int .i64 a1, .int .i64 a2] w fun e w' => e = .returned (.tuple #[.agg #[.string r1, .int .i64 r2], .int .i64 r3]) ∧ Below w.heap.size w w' := by
  unfold bits_Put.f at h
  by_cases hm : MayP a0_0 a0_1
  · by_cases hk : 0 ≤ a2 ∧ a2 ≤ 30
    · by_cases hv : 0 ≤ a1
      · by_cases hv2 : a1 < 2 ^ a2.toNat
        · rw [if_pos ⟨hm, hk.1, hk.2, hv, hv2⟩] at h
          obtain ⟨k, rfl⟩ := Int.eq_ofNat_of_zero_le hk.1
          rw [Int.toNat_natCast] at hv2 h
          by_cases hn : a0_1 + k ≤ 6000
          · rw [if_pos hn] at h
            simp only [Option.some.injEq, Prod.mk.injEq] at h
            obtain ⟨rfl, rfl, rfl⟩ := h
            have e := put_yes a0_0 a0_1 a1 k w hm (by omega) hv hv2 hn
            have hp := rowPut_pack k a1 hv (by have := pow_le30 (k : Int) (by omega) (by omega); rw [Int.toNat_natCast] at this; omega) (ofS a0_0 a0_1) (ofS_bits _ _)
            rw [pack_ofS _ _ hm, ofS_length, Int.toNat_of_nonneg hm.1] at hp
            rw [hp] at e
            exact e
          · rw [if_neg hn] at h
            simp only [Option.some.injEq, Prod.mk.injEq] at h
            obtain ⟨rfl, rfl, rfl⟩ := h
            exact put_full a0_0 a0_1 a1 k w hm (by omega) hv hv2 (by omega)
        · rw [if_neg (fun h => hv2 h.2.2.2.2)] at h
          simp only [Option.some.injEq, Prod.mk.injEq] at h
          obtain ⟨rfl, rfl, rfl⟩ := h
          exact put_big a0_0 a0_1 a1 a2 w hm hk hv (by omega)
      · rw [if_neg (fun h => hv h.2.2.2.1)] at h
        simp only [Option.some.injEq, Prod.mk.injEq] at h
        obtain ⟨rfl, rfl, rfl⟩ := h
        exact put_neg a0_0 a0_1 a1 a2 w hm hk (by omega)
    · rw [if_neg (fun h => hk ⟨h.2.1, h.2.2.1⟩)] at h
      simp only [Option.some.injEq, Prod.mk.injEq] at h
      obtain ⟨rfl, rfl, rfl⟩ := h
      exact put_w a0_0 a0_1 a1 a2 w hm hk
  · rw [if_neg (fun h => hm h.1)] at h
    simp only [Option.some.injEq, Prod.mk.injEq] at h
    obtain ⟨rfl, rfl, rfl⟩ := h
    exact put_no a0_0 a0_1 a1 a2 w hm
end Go.Proofs.Ytnpghcikhpglkaa.Q
namespace Go.Proofs
open Go.Shelf
def Try.lays128_ren : Go.Shelf.Ren := ⟨fun | 128 => 128 | n => n, fun | 51 => 128 | 3 => 3 | 4 => 4 | 46 => 108 | 5 => 5 | 9 => 9 | n => n, fun | n => n⟩
theorem Try.lays128 : Go.Proofs.Lays.n128 Try.prog Try.lays128_ren := {
  mixed := by kernel_rfl
  f128 := Try.func128.trans (congrArg some (by kernel_rfl))
  t3 := Try.underlying3
  a3 := Try.isAgg3
  z3 := Try.sizeOf3
  v3 := Try.zeroValue3
  t4 := Try.underlying4
  a4 := Try.isAgg4
  z4 := Try.sizeOf4
  v4 := Try.zeroValue4
  t5 := Try.underlying5
  a5 := Try.isAgg5
  z5 := Try.sizeOf5
  v5 := Try.zeroValue5
  t9 := Try.underlying9
  a9 := Try.isAgg9
  z9 := Try.sizeOf9
  v9 := Try.zeroValue9
  t46 := Try.underlying108
  a46 := Try.isAgg108
  z46 := Try.sizeOf108
  v46 := Try.zeroValue108
  t51 := Try.underlying128
  a51 := Try.isAgg128
  z51 := Try.sizeOf128
  v51 := Try.zeroValue128 }
/-- bits.Len32: "Len32 returns the minimum number of bits required to represent x; the result is 0 for x == 0.": IT RETURNS 'Lib.bitLen x'; the world is as it was. ('h0', 'h1': x is a uint32.) (LAID: no walk: one application.) -/
theorem Try.bits_Len32 (x : Int) (w : World) (h0 : 0 ≤ x) (h1 : x ≤ 4294967295) :
    Calls Try.prog 128 #[.int .u32 x] w fun e w' => e = .returned (.int .i64 (Lib.bitLen x.toNat)) ∧ w' = w := Any.bits_Len32 Try.lays128 x w h0 h1
def Try.lays125_ren : Go.Shelf.Ren := ⟨fun | 125 => 125 | 128 => 128 | 129 => 129 | n => n, fun | 46 => 108 | 3 => 3 | 51 => 128 | 53 => 130 | 4 => 4 | 5 => 5 | 9 => 9 | n => n, fun | n => n⟩
theorem Try.lays125 : Go.Proofs.Lays.n125 Try.prog Try.lays125_ren := {
  mixed := by kernel_rfl
  f125 := Try.func125.trans (congrArg some (by kernel_rfl))
  f128 := Try.func128.trans (congrArg some (by kernel_rfl))
  f129 := Try.func129.trans (congrArg some (by kernel_rfl))
  t3 := Try.underlying3
  a3 := Try.isAgg3
  z3 := Try.sizeOf3
  v3 := Try.zeroValue3
  t4 := Try.underlying4
  a4 := Try.isAgg4
  z4 := Try.sizeOf4
  v4 := Try.zeroValue4
  t5 := Try.underlying5
  a5 := Try.isAgg5
  z5 := Try.sizeOf5
  v5 := Try.zeroValue5
  t9 := Try.underlying9
  a9 := Try.isAgg9
  z9 := Try.sizeOf9
  v9 := Try.zeroValue9
  t46 := Try.underlying108
  a46 := Try.isAgg108
  z46 := Try.sizeOf108
  v46 := Try.zeroValue108
  t51 := Try.underlying128
  a51 := Try.isAgg128
  z51 := Try.sizeOf128
  v51 := Try.zeroValue128
  t53 := Try.underlying130
  a53 := Try.isAgg130
  z53 := Try.sizeOf130
  v53 := Try.zeroValue130 }
/-- bits.Len: "Len returns the minimum number of bits required to represent x; the result is 0 for x == 0.": IT RETURNS 'Lib.bitLen x'; the world is as it was. (A uint has 64 bits in the model.) ITS CALLEE bits.Len64 IS MET BY ITS OWN CONTRACT OFF THE SHELF (lay that first). (LAID: no walk: one application.) -/
theorem Try.bits_Len (x : Int) (w : World) (h0 : 0 ≤ x) (h1 : x ≤ 18446744073709551615) :
    Calls Try.prog 125 #[.int .u64 x] w fun e w' => e = .returned (.int .i64 (Lib.bitLen x.toNat)) ∧ w' = w := Any.bits_Len Try.lays125 x w h0 h1
def Try.lays129_ren : Go.Shelf.Ren := ⟨fun | 129 => 129 | n => n, fun | 53 => 130 | 3 => 3 | 4 => 4 | 46 => 108 | 5 => 5 | 9 => 9 | n => n, fun | n => n⟩
theorem Try.lays129 : Go.Proofs.Lays.n129 Try.prog Try.lays129_ren := {
  mixed := by kernel_rfl
  f129 := Try.func129.trans (congrArg some (by kernel_rfl))
  t3 := Try.underlying3
  a3 := Try.isAgg3
  z3 := Try.sizeOf3
  v3 := Try.zeroValue3
  t4 := Try.underlying4
  a4 := Try.isAgg4
  z4 := Try.sizeOf4
  v4 := Try.zeroValue4
  t5 := Try.underlying5
  a5 := Try.isAgg5
  z5 := Try.sizeOf5
  v5 := Try.zeroValue5
  t9 := Try.underlying9
  a9 := Try.isAgg9
  z9 := Try.sizeOf9
  v9 := Try.zeroValue9
  t46 := Try.underlying108
  a46 := Try.isAgg108
  z46 := Try.sizeOf108
  v46 := Try.zeroValue108
  t53 := Try.underlying130
  a53 := Try.isAgg130
  z53 := Try.sizeOf130
  v53 := Try.zeroValue130 }
/-- bits.Len64: "Len64 returns the minimum number of bits required to represent x; the result is 0 for x == 0.": IT RETURNS 'Lib.bitLen x'; the world is as it was. ('h0', 'h1': x is a uint64.) (LAID: no walk: one application.) -/
theorem Try.bits_Len64 (x : Int) (w : World) (h0 : 0 ≤ x) (h1 : x ≤ 18446744073709551615) :
    Calls Try.prog 129 #[.int .u64 x] w fun e w' => e = .returned (.int .i64 (Lib.bitLen x.toNat)) ∧ w' = w := Any.bits_Len64 Try.lays129 x w h0 h1
end Go.Proofs
namespace Go.Proofs.Ytnpghcikhpglkaa.Q
open Go.RowKit Go.Proofs.YtnpghcikhpglkaaW.PrintWords
def bits_Len.f (a0 : Int) : Option (Int) := if 0 ≤ a0 ∧ a0 ≤ 18446744073709551615 then some (Lib.bitLen a0.toNat) else none
theorem bits_Len.calls (a0 : Int) (r : Int) (w : World) (h : bits_Len.f a0 = some r) :
    Calls Try.prog 125 #[.int .u64 a0] w fun e w' => e = .returned (.int .i64 r) ∧ Drawn0 w w' := by
  unfold bits_Len.f at h
  split at h
  · rename_i hc
    obtain rfl := Option.some.inj h
    exact (Try.bits_Len a0 w hc.1 hc.2).mono fun e w' ⟨h1, h2⟩ => ⟨h1, h2 ▸ Drawn0.refl w⟩
  · cases h
end Go.Proofs.Ytnpghcikhpglkaa.Q
namespace Go.Proofs.Ytnpghcikhpglkaa.Q
open Go.RowKit Go.Proofs.YtnpghcikhpglkaaW.PrintWords Go.Proofs.YtnpghcikhpglkaaW.PrintLast Go.Proofs.YtnpghcikhpglkaaW.PrintMore
attribute [local go_sem] max2_int min2_int max_two min_two max_three min_three max_four min_four   -- for this text's walks alone
set_option linter.unusedVariables false
set_option linter.unusedSimpArgs false

/-! ### code_zeta: function 119 -/
def code_zeta.f (a0 : Int) (a1 : Int) : Option (Int × Int × Int × Int) := if 0 ≤ (wrap64 (a1 * a0)) then (if 0 ≤ a0 then ((bits_Len.f (IntKind.u64.wrap (wrap64 ((wrap64 ((shl .i64 (shl .i64 1 (wrap64 (a1 * a0))) a0) - (shl .i64 1 (wrap64 (a1 * a0))))) - 1)))).bind fun t778 => (if 0 ≤ t778 then (some (shl .i64 1 (wrap64 (a1 * a0)), wrap64 ((shl .i64 (shl .i64 1 (wrap64 (a1 * a0))) a0) - (shl .i64 1 (wrap64 (a1 * a0)))), t778, wrap64 ((shl .i64 1 t778) - (wrap64 ((shl .i64 (shl .i64 1 (wrap64 (a1 * a0))) a0) - (shl .i64 1 (wrap64 (a1 * a0)))))))) else (none))) else (none)) else (none)
set_option maxHeartbeats 8000000 in
set_option maxRecDepth 100000 in
theorem code_zeta.calls (a0 : Int) (a1 : Int) (r1 : Int) (r2 : Int) (r3 : Int) (r4 : Int) (w : World) (h : code_zeta.f a0 a1 = some (r1, r2, r3, r4)) :
    Calls Try.prog 119 #[.int .i64 a0, .int .i64 a1] w fun e w' => e = .returned (.tuple #[.int .i64 r1, .int .i64 r2, .int .i64 r3, .int .i64 r4]) ∧ Drawn0 w w' := by
  have H : (if 0 ≤ (wrap64 (a1 * a0)) then (if 0 ≤ a0 then ((bits_Len.f (IntKind.u64.wrap (wrap64 ((wrap64 ((shl .i64 (shl .i64 1 (wrap64 (a1 * a0))) a0) - (shl .i64 1 (wrap64 (a1 * a0))))) - 1)))).bind fun t778 => (if 0 ≤ t778 then (some (shl .i64 1 (wrap64 (a1 * a0)), wrap64 ((shl .i64 (shl .i64 1 (wrap64 (a1 * a0))) a0) - (shl .i64 1 (wrap64 (a1 * a0)))), t778, wrap64 ((shl .i64 1 t778) - (wrap64 ((shl .i64 (shl .i64 1 (wrap64 (a1 * a0))) a0) - (shl .i64 1 (wrap64 (a1 * a0)))))))) else (none))) else (none)) else (none)) = some (r1, r2, r3, r4) := h
  clear h
  obtain ⟨ji3, hji3⟩ : ∃ j_ : Int, (wrap64 (a1 * a0)) = j_ := ⟨_, rfl⟩
  replace H : (if 0 ≤ (ji3) then (if 0 ≤ a0 then ((bits_Len.f (IntKind.u64.wrap (wrap64 ((wrap64 ((shl .i64 (shl .i64 1 (ji3)) a0) - (shl .i64 1 (ji3)))) - 1)))).bind fun t778 => (if 0 ≤ t778 then (some (shl .i64 1 (ji3), wrap64 ((shl .i64 (shl .i64 1 (ji3)) a0) - (shl .i64 1 (ji3))), t778, wrap64 ((shl .i64 1 t778) - (wrap64 ((shl .i64 (shl .i64 1 (ji3)) a0) - (shl .i64 1 (ji3))))))) else (none))) else (none)) else (none)) = some (r1, r2, r3, r4) := by first | (rw [hji3] at H; exact H) | (simp only [hji3] at H ⊢; exact H)
  have hji3w : (IntKind.i64.wrap (a1 * a0)) = ji3 := (i64_w _).trans hji3
  by_cases c4 : 0 ≤ (ji3)
  · rw [if_pos c4] at H
    have c4b0 := eq_true c4
    have c4b1 : decide (0 ≤ (ji3)) = true := decide_eq_true c4
    clear c4
    obtain ⟨ji5, hji5⟩ : ∃ j_ : Int, (shl .i64 1 (ji3)) = j_ := ⟨_, rfl⟩
    replace H : (if 0 ≤ a0 then ((bits_Len.f (IntKind.u64.wrap (wrap64 ((wrap64 ((shl .i64 (ji5) a0) - (ji5))) - 1)))).bind fun t778 => (if 0 ≤ t778 then (some (ji5, wrap64 ((shl .i64 (ji5) a0) - (ji5)), t778, wrap64 ((shl .i64 1 t778) - (wrap64 ((shl .i64 (ji5) a0) - (ji5)))))) else (none))) else (none)) = some (r1, r2, r3, r4) := by first | (rw [hji5] at H; exact H) | (simp only [hji5] at H ⊢; exact H)
    have hji5_ : (IntKind.i64.wrap (1 * 2 ^ min (ji3).toNat 64)) = ji5 := hji5
    have hji5z : (ji3) ≤ 64 → (IntKind.i64.wrap (1 * 2 ^ (ji3).toNat)) = ji5 := shl_small hji5
    have hji5u : (IntKind.i64.wrap (2 ^ min (ji3).toNat 64)) = ji5 := by have h_ := hji5_; rw [Int.one_mul] at h_; exact h_
    have hji5v : (ji3) ≤ 64 → (IntKind.i64.wrap (2 ^ (ji3).toNat)) = ji5 := fun hle_ => by have h_ := hji5z hle_; rw [Int.one_mul] at h_; exact h_
    have hji5y : (wrap64 (1 * 2 ^ min (ji3).toNat 64)) = ji5 := (i64_w _).symm.trans hji5_
    have hji5x : (ji3) ≤ 64 → (wrap64 (1 * 2 ^ (ji3).toNat)) = ji5 := fun h_ => (i64_w _).symm.trans (hji5z h_)
    by_cases c6 : 0 ≤ a0
    · rw [if_pos c6] at H
      have c6b0 := eq_true c6
      have c6b1 : decide (0 ≤ a0) = true := decide_eq_true c6
      clear c6
      obtain ⟨ji7, hji7⟩ : ∃ j_ : Int, (shl .i64 (ji5) a0) = j_ := ⟨_, rfl⟩
      replace H : ((bits_Len.f (IntKind.u64.wrap (wrap64 ((wrap64 ((ji7) - (ji5))) - 1)))).bind fun t778 => (if 0 ≤ t778 then (some (ji5, wrap64 ((ji7) - (ji5)), t778, wrap64 ((shl .i64 1 t778) - (wrap64 ((ji7) - (ji5)))))) else (none))) = some (r1, r2, r3, r4) := by first | (rw [hji7] at H; exact H) | (simp only [hji7] at H ⊢; exact H)
      have hji7_ : (IntKind.i64.wrap ((ji5) * 2 ^ min a0.toNat 64)) = ji7 := hji7
      have hji7z : a0 ≤ 64 → (IntKind.i64.wrap ((ji5) * 2 ^ a0.toNat)) = ji7 := shl_small hji7
      have hji7y : (wrap64 ((ji5) * 2 ^ min a0.toNat 64)) = ji7 := (i64_w _).symm.trans hji7_
      have hji7x : a0 ≤ 64 → (wrap64 ((ji5) * 2 ^ a0.toNat)) = ji7 := fun h_ => (i64_w _).symm.trans (hji7z h_)
      replace H := Option.bind_eq_some_iff.mp H
      obtain ⟨t778, A80, H⟩ := H
      replace H : (if 0 ≤ t778 then (some (ji5, wrap64 ((ji7) - (ji5)), t778, wrap64 ((shl .i64 1 t778) - (wrap64 ((ji7) - (ji5)))))) else (none)) = some (r1, r2, r3, r4) := H
      have A8 := Aside0.mk A80
      clear A80
      by_cases c9 : 0 ≤ t778
      · rw [if_pos c9] at H
        have c9b0 := eq_true c9
        have c9b1 : decide (0 ≤ t778) = true := decide_eq_true c9
        clear c9
        obtain ⟨ji10, hji10⟩ : ∃ j_ : Int, (shl .i64 1 t778) = j_ := ⟨_, rfl⟩
        replace H : (some (ji5, wrap64 ((ji7) - (ji5)), t778, wrap64 ((ji10) - (wrap64 ((ji7) - (ji5)))))) = some (r1, r2, r3, r4) := by first | (rw [hji10] at H; exact H) | (simp only [hji10] at H ⊢; exact H)
        (try rw [hji10] at A8)
        have hji10_ : (IntKind.i64.wrap (1 * 2 ^ min t778.toNat 64)) = ji10 := hji10
        have hji10z : t778 ≤ 64 → (IntKind.i64.wrap (1 * 2 ^ t778.toNat)) = ji10 := shl_small hji10
        have hji10u : (IntKind.i64.wrap (2 ^ min t778.toNat 64)) = ji10 := by have h_ := hji10_; rw [Int.one_mul] at h_; exact h_
        have hji10v : t778 ≤ 64 → (IntKind.i64.wrap (2 ^ t778.toNat)) = ji10 := fun hle_ => by have h_ := hji10z hle_; rw [Int.one_mul] at h_; exact h_
        have hji10y : (wrap64 (1 * 2 ^ min t778.toNat 64)) = ji10 := (i64_w _).symm.trans hji10_
        have hji10x : t778 ≤ 64 → (wrap64 (1 * 2 ^ t778.toNat)) = ji10 := fun h_ => (i64_w _).symm.trans (hji10z h_)
        simp only [Option.some.injEq, Prod.mk.injEq] at H
        obtain ⟨rfl, rfl, rfl, rfl⟩ := H
        go_enter Try.func119, Try.ntmps119
        go_wp2_with (first | (go_at_call 125; (with_reducible refine (bits_Len.calls (IntKind.u64.wrap (wrap64 ((wrap64 ((ji7) - (ji5))) - 1))) t778 _ A8.out).mono ?_); rintro e w' ⟨rfl, ⟨nd, rfl⟩⟩; (try first | exact ⟨rfl, _, World.drewN_drewN _ _ _⟩ | exact ⟨rfl, _, Eq.trans (World.drewN_drewN _ _ _) (congrArg (World.drewN _) (Nat.add_assoc _ _ _))⟩)))
        repeat (go_quiet (first | (go_at_call 125; (with_reducible refine (bits_Len.calls (IntKind.u64.wrap (wrap64 ((wrap64 ((ji7) - (ji5))) - 1))) t778 _ A8.out).mono ?_); rintro e w' ⟨rfl, ⟨nd, rfl⟩⟩; (try first | exact ⟨rfl, _, World.drewN_drewN _ _ _⟩ | exact ⟨rfl, _, Eq.trans (World.drewN_drewN _ _ _) (congrArg (World.drewN _) (Nat.add_assoc _ _ _))⟩))); try go_wp2_with (first | (go_at_call 125; (with_reducible refine (bits_Len.calls (IntKind.u64.wrap (wrap64 ((wrap64 ((ji7) - (ji5))) - 1))) t778 _ A8.out).mono ?_); rintro e w' ⟨rfl, ⟨nd, rfl⟩⟩; (try first | exact ⟨rfl, _, World.drewN_drewN _ _ _⟩ | exact ⟨rfl, _, Eq.trans (World.drewN_drewN _ _ _) (congrArg (World.drewN _) (Nat.add_assoc _ _ _))⟩))))
        refine bodyPost_ret (results_list (rs := [.tmp 4, .tmp 5, .tmp 6, .tmp 7]) rfl (by simp) (.tmp (.tmp (.tmp (.tmp .nil))))) rfl ?_
        exact ⟨by first | rfl | (simp; done) | (simp only [← hji3, ← hji5, ← hji7, ← hji10] <;> (first | rfl | simp)) | (simp [*]; done), by repeat (first | exact Drawn0.refl _ | apply Drawn0.step)⟩
      · rw [if_neg c9] at H
        exact absurd H (by simp)
    · rw [if_neg c6] at H
      exact absurd H (by simp)
  · rw [if_neg c4] at H
    exact absurd H (by simp)
end Go.Proofs.Ytnpghcikhpglkaa.Q
namespace Go.Proofs.Ytnpghcikhpglkaa.Q
open Go.RowKit Go.Proofs.YtnpghcikhpglkaaW.PrintWords Go.Proofs.YtnpghcikhpglkaaW.PrintLast Go.Proofs.YtnpghcikhpglkaaW.PrintMore Go.Proofs.Ytnpghcikhpglkaa.Hand Go.Proofs.Ytnpghcikhpglkaa.Pu
set_option linter.unusedVariables false
set_option linter.unusedSimpArgs false
/-- A reader's block. -/
def ReadIs (W : World) (p : Nat) (s : ByteArray) (n at_ : Int) (bad : Bool) : Prop := W.heap[p]? = some (.cells #[.string s, .int .i64 n, .int .i64 at_, .bool bad] 125 (0, 0))
theorem four_cells {w : World} {g t : Nat} {a b c d : Value} (h : w.heap[g]? = some (.cells #[a, b, c, d] t (0, 0))) :
    w.cell? ⟨g, 0, none⟩ = some a ∧ w.cell? ⟨g, 1, none⟩ = some b ∧ w.cell? ⟨g, 2, none⟩ = some c ∧ w.cell? ⟨g, 3, none⟩ = some d ∧ w.frozen? ⟨g, 0, none⟩ = false ∧ w.frozen? ⟨g, 1, none⟩ = false ∧ w.frozen? ⟨g, 2, none⟩ = false ∧ w.frozen? ⟨g, 3, none⟩ = false :=
  ⟨blk_cell h 0, blk_cell h 1, blk_cell h 2, blk_cell h 3, blk_frozen h 0, blk_frozen h 1, blk_frozen h 2, blk_frozen h 3⟩
theorem read_bad {w : World} {p : Nat} {s : ByteArray} {n a : Int} {b : Bool} (h : ReadIs w p s n a b) : ReadIs (w.setCell ⟨p, 3, none⟩ (.bool true)) p s n a true :=
  blk_put (cs := #[.string s, .int .i64 n, .int .i64 a, .bool b]) h 3 _ rfl
theorem read_at {w : World} {p : Nat} {s : ByteArray} {n a : Int} {b : Bool} (h : ReadIs w p s n a b) (c : Int) : ReadIs (w.setCell ⟨p, 2, none⟩ (.int .i64 c)) p s n c b :=
  blk_put (cs := #[.string s, .int .i64 n, .int .i64 a, .bool b]) h 2 _ rfl
theorem keepD {W w3 : World} {p : Nat} {s : ByteArray} {n a : Int} {b : Bool} (h : ReadIs W p s n a b) (hb : Below W.drew.heap.size W.drew w3) : ReadIs w3 p s n a b := keep2 (w1 := W.drew) h hb (blk_lt h)
theorem belowD {W w3 : World} {base : Nat} (h : base ≤ W.heap.size) (hb : Below W.drew.heap.size W.drew w3) : Below base W w3 := below_then (below_drew0 (Below.refl _ W)) h hb
set_option maxHeartbeats 4000000 in
set_option maxRecDepth 100000 in
theorem zeros_yes (W : World) (base p k : Nat) (s : ByteArray) (n a most x a' : Int) (hrd : ReadIs W p s n a false) (hbase : base ≤ p) (ha : bits_Ahead.f k s n a = some x) (h0 : 0 ≤ x) (h1 : x ≤ most) (ha' : wrap64 (a + x) = a') :
    Calls Try.prog 126 #[.pointer (some ⟨p, 0, none⟩), .int .i64 most] W fun e w' => e = .returned (.int .i64 x) ∧ ReadIs w' p s n a' false ∧ Below base W w' := by
  have hu := Try.underlying27
  have hu5 := Try.underlying125
  obtain ⟨c0, c1, c2, c3, f0, f1, f2, f3⟩ := four_cells hrd
  have HRD := Aside0.mk hrd
  have HBASE := Aside0.mk hbase
  have HA := Aside0.mk ha
  clear hrd hbase ha
  have HA' := Aside0.mk ha'
  clear ha'
  have HRD2 : Aside0 (ReadIs W.drew p s n a false) := ⟨HRD.out⟩
  have HB2 : Aside0 (Below base W W.drew) := ⟨below_drew0 (Below.refl _ W)⟩
  go_enter Try.func126, Try.ntmps126
  go_wp2
  go_still_tail 8, (by kernel_rfl)
  change wpList _ _ _ _ _ W.drew
  clear c0 c1 c2 c3 f0 f1 f2 f3 HRD
  generalize W.drew = w2 at *
  go_wp2_with (first | (go_at_call 96; ((with_reducible refine (bits_Ahead.calls k s n a x _ HA.out).mono ?_); rintro e w3 ⟨rfl, hb3⟩); have HRD3 := Aside0.mk (keep2 HRD2.out hb3 (blk_lt HRD2.out)); have HB3 := Aside0.mk (below_then HB2.out (Nat.le_of_lt (Nat.lt_of_le_of_lt HBASE.out (blk_lt HRD2.out))) hb3); clear hb3; obtain ⟨c0, c1, c2, c3, f0, f1, f2, f3⟩ := four_cells HRD3.out))
  go_ret
  exact ⟨rfl, by rw [← HA'.out]; exact read_at HRD3.out _, HB3.out.setCell (p := ⟨p, 2, none⟩) HBASE.out _⟩
set_option maxHeartbeats 4000000 in
set_option maxRecDepth 100000 in
theorem zeros_no1 (W : World) (base p k : Nat) (s : ByteArray) (n a most x : Int) (hrd : ReadIs W p s n a true) (hbase : base ≤ p) (ha : bits_Ahead.f k s n a = some x) :
    Calls Try.prog 126 #[.pointer (some ⟨p, 0, none⟩), .int .i64 most] W fun e w' => e = .returned (.int .i64 0) ∧ ReadIs w' p s n a true ∧ Below base W w' := by
  have hu := Try.underlying27
  have hu5 := Try.underlying125
  obtain ⟨c0, c1, c2, c3, f0, f1, f2, f3⟩ := four_cells hrd
  have HRD := Aside0.mk hrd
  have HBASE := Aside0.mk hbase
  have HA := Aside0.mk ha
  clear hrd hbase ha
  have HRD2 : Aside0 (ReadIs W.drew p s n a true) := ⟨HRD.out⟩
  have HB2 : Aside0 (Below base W W.drew) := ⟨below_drew0 (Below.refl _ W)⟩
  go_enter Try.func126, Try.ntmps126
  go_wp2
  go_still_tail 8, (by kernel_rfl)
  change wpList _ _ _ _ _ W.drew
  clear c0 c1 c2 c3 f0 f1 f2 f3 HRD
  generalize W.drew = w2 at *
  go_wp2_with (first | (go_at_call 96; ((with_reducible refine (bits_Ahead.calls k s n a x _ HA.out).mono ?_); rintro e w3 ⟨rfl, hb3⟩); have HRD3 := Aside0.mk (keep2 HRD2.out hb3 (blk_lt HRD2.out)); have HB3 := Aside0.mk (below_then HB2.out (Nat.le_of_lt (Nat.lt_of_le_of_lt HBASE.out (blk_lt HRD2.out))) hb3); clear hb3; obtain ⟨c0, c1, c2, c3, f0, f1, f2, f3⟩ := four_cells HRD3.out))
  go_ret
  exact ⟨rfl, read_bad HRD3.out, HB3.out.setCell (p := ⟨p, 3, none⟩) HBASE.out _⟩
set_option maxHeartbeats 4000000 in
set_option maxRecDepth 100000 in
theorem zeros_no2 (W : World) (base p k : Nat) (s : ByteArray) (n a most x : Int) (hrd : ReadIs W p s n a false) (hbase : base ≤ p) (ha : bits_Ahead.f k s n a = some x) (h0 : x < 0) :
    Calls Try.prog 126 #[.pointer (some ⟨p, 0, none⟩), .int .i64 most] W fun e w' => e = .returned (.int .i64 0) ∧ ReadIs w' p s n a true ∧ Below base W w' := by
  have hu := Try.underlying27
  have hu5 := Try.underlying125
  obtain ⟨c0, c1, c2, c3, f0, f1, f2, f3⟩ := four_cells hrd
  have HRD := Aside0.mk hrd
  have HBASE := Aside0.mk hbase
  have HA := Aside0.mk ha
  clear hrd hbase ha
  have HRD2 : Aside0 (ReadIs W.drew p s n a false) := ⟨HRD.out⟩
  have HB2 : Aside0 (Below base W W.drew) := ⟨below_drew0 (Below.refl _ W)⟩
  go_enter Try.func126, Try.ntmps126
  go_wp2
  go_still_tail 8, (by kernel_rfl)
  change wpList _ _ _ _ _ W.drew
  clear c0 c1 c2 c3 f0 f1 f2 f3 HRD
  generalize W.drew = w2 at *
  go_wp2_with (first | (go_at_call 96; ((with_reducible refine (bits_Ahead.calls k s n a x _ HA.out).mono ?_); rintro e w3 ⟨rfl, hb3⟩); have HRD3 := Aside0.mk (keep2 HRD2.out hb3 (blk_lt HRD2.out)); have HB3 := Aside0.mk (below_then HB2.out (Nat.le_of_lt (Nat.lt_of_le_of_lt HBASE.out (blk_lt HRD2.out))) hb3); clear hb3; obtain ⟨c0, c1, c2, c3, f0, f1, f2, f3⟩ := four_cells HRD3.out))
  go_ret
  exact ⟨rfl, read_bad HRD3.out, HB3.out.setCell (p := ⟨p, 3, none⟩) HBASE.out _⟩
set_option maxHeartbeats 4000000 in
set_option maxRecDepth 100000 in
theorem zeros_no3 (W : World) (base p k : Nat) (s : ByteArray) (n a most x : Int) (hrd : ReadIs W p s n a false) (hbase : base ≤ p) (ha : bits_Ahead.f k s n a = some x) (h0 : 0 ≤ x) (h1 : most < x) :
    Calls Try.prog 126 #[.pointer (some ⟨p, 0, none⟩), .int .i64 most] W fun e w' => e = .returned (.int .i64 0) ∧ ReadIs w' p s n a true ∧ Below base W w' := by
  have hu := Try.underlying27
  have hu5 := Try.underlying125
  obtain ⟨c0, c1, c2, c3, f0, f1, f2, f3⟩ := four_cells hrd
  have HRD := Aside0.mk hrd
  have HBASE := Aside0.mk hbase
  have HA := Aside0.mk ha
  clear hrd hbase ha
  have HRD2 : Aside0 (ReadIs W.drew p s n a false) := ⟨HRD.out⟩
  have HB2 : Aside0 (Below base W W.drew) := ⟨below_drew0 (Below.refl _ W)⟩
  go_enter Try.func126, Try.ntmps126
  go_wp2
  go_still_tail 8, (by kernel_rfl)
  change wpList _ _ _ _ _ W.drew
  clear c0 c1 c2 c3 f0 f1 f2 f3 HRD
  generalize W.drew = w2 at *
  go_wp2_with (first | (go_at_call 96; ((with_reducible refine (bits_Ahead.calls k s n a x _ HA.out).mono ?_); rintro e w3 ⟨rfl, hb3⟩); have HRD3 := Aside0.mk (keep2 HRD2.out hb3 (blk_lt HRD2.out)); have HB3 := Aside0.mk (below_then HB2.out (Nat.le_of_lt (Nat.lt_of_le_of_lt HBASE.out (blk_lt HRD2.out))) hb3); clear hb3; obtain ⟨c0, c1, c2, c3, f0, f1, f2, f3⟩ := four_cells HRD3.out))
  go_ret
  exact ⟨rfl, read_bad HRD3.out, HB3.out.setCell (p := ⟨p, 3, none⟩) HBASE.out _⟩
set_option maxHeartbeats 4000000 in
set_option maxRecDepth 100000 in
theorem look_yes1 (W : World) (base p k : Nat) (s : ByteArray) (n a wd x a' : Int) (hrd : ReadIs W p s n a false) (hbase : base ≤ p) (ha : bits_Look.f k s n a wd = some (x, true)) (ha' : wrap64 (a + wd) = a') :
    Calls Try.prog 127 #[.pointer (some ⟨p, 0, none⟩), .int .i64 wd] W fun e w' => e = .returned (.int .i64 x) ∧ ReadIs w' p s n a' false ∧ Below base W w' := by
  have hu := Try.underlying27
  have hu5 := Try.underlying125
  obtain ⟨c0, c1, c2, c3, f0, f1, f2, f3⟩ := four_cells hrd
  have HRD := Aside0.mk hrd
  have HBASE := Aside0.mk hbase
  have HA := Aside0.mk ha
  clear hrd hbase ha
  have HA' := Aside0.mk ha'
  clear ha'
  go_enter Try.func127, Try.ntmps127
  go_wp2
  go_region_held3 (fun w' => w'.cell? ⟨p, 0, none⟩ = some (.string s) ∧ w'.cell? ⟨p, 1, none⟩ = some (.int .i64 n) ∧ w'.cell? ⟨p, 2, none⟩ = some (.int .i64 a)) (first | exact ⟨d0, d1, d2⟩ | exact ⟨c0, c1, c2⟩ | go_keep) (first | (go_at_call 91; ((with_reducible refine (bits_Look.calls k s n a wd x true _ HA.out).mono ?_); rintro e w3 ⟨rfl, hb3⟩); have HRD3 := Aside0.mk (keepD HRD.out hb3); have HB3 := Aside0.mk (belowD (Nat.le_of_lt (Nat.lt_of_le_of_lt HBASE.out (blk_lt HRD.out))) hb3); clear hb3; obtain ⟨d0, d1, d2, d3, e0, e1, e2, e3⟩ := four_cells HRD3.out))
  all_goals go_wp2
  all_goals go_ret
  all_goals exact ⟨rfl, by rw [← HA'.out]; exact read_at HRD3.out _, HB3.out.setCell (p := ⟨p, 2, none⟩) HBASE.out _⟩
set_option maxHeartbeats 4000000 in
set_option maxRecDepth 100000 in
theorem look_no1 (W : World) (base p k : Nat) (s : ByteArray) (n a wd x a' : Int) (hrd : ReadIs W p s n a true) (hbase : base ≤ p) (ha : bits_Look.f k s n a wd = some (x, true))  :
    Calls Try.prog 127 #[.pointer (some ⟨p, 0, none⟩), .int .i64 wd] W fun e w' => e = .returned (.int .i64 0) ∧ ReadIs w' p s n a true ∧ Below base W w' := by
  have hu := Try.underlying27
  have hu5 := Try.underlying125
  obtain ⟨c0, c1, c2, c3, f0, f1, f2, f3⟩ := four_cells hrd
  have HRD := Aside0.mk hrd
  have HBASE := Aside0.mk hbase
  have HA := Aside0.mk ha
  clear hrd hbase ha
  go_enter Try.func127, Try.ntmps127
  go_wp2
  go_region_held3 (fun w' => w'.cell? ⟨p, 0, none⟩ = some (.string s) ∧ w'.cell? ⟨p, 1, none⟩ = some (.int .i64 n) ∧ w'.cell? ⟨p, 2, none⟩ = some (.int .i64 a)) (first | exact ⟨d0, d1, d2⟩ | exact ⟨c0, c1, c2⟩ | go_keep) (first | (go_at_call 91; ((with_reducible refine (bits_Look.calls k s n a wd x true _ HA.out).mono ?_); rintro e w3 ⟨rfl, hb3⟩); have HRD3 := Aside0.mk (keepD HRD.out hb3); have HB3 := Aside0.mk (belowD (Nat.le_of_lt (Nat.lt_of_le_of_lt HBASE.out (blk_lt HRD.out))) hb3); clear hb3; obtain ⟨d0, d1, d2, d3, e0, e1, e2, e3⟩ := four_cells HRD3.out))
  all_goals go_wp2
  all_goals go_ret
  all_goals exact ⟨rfl, read_bad HRD3.out, HB3.out.setCell (p := ⟨p, 3, none⟩) HBASE.out _⟩
set_option maxHeartbeats 4000000 in
set_option maxRecDepth 100000 in
theorem look_no2 (W : World) (base p k : Nat) (s : ByteArray) (n a wd x a' : Int) (hrd : ReadIs W p s n a true) (hbase : base ≤ p) (ha : bits_Look.f k s n a wd = some (x, false))  :
    Calls Try.prog 127 #[.pointer (some ⟨p, 0, none⟩), .int .i64 wd] W fun e w' => e = .returned (.int .i64 0) ∧ ReadIs w' p s n a true ∧ Below base W w' := by
  have hu := Try.underlying27
  have hu5 := Try.underlying125
  obtain ⟨c0, c1, c2, c3, f0, f1, f2, f3⟩ := four_cells hrd
  have HRD := Aside0.mk hrd
  have HBASE := Aside0.mk hbase
  have HA := Aside0.mk ha
  clear hrd hbase ha
  go_enter Try.func127, Try.ntmps127
  go_wp2
  go_region_held3 (fun w' => w'.cell? ⟨p, 0, none⟩ = some (.string s) ∧ w'.cell? ⟨p, 1, none⟩ = some (.int .i64 n) ∧ w'.cell? ⟨p, 2, none⟩ = some (.int .i64 a)) (first | exact ⟨d0, d1, d2⟩ | exact ⟨c0, c1, c2⟩ | go_keep) (first | (go_at_call 91; ((with_reducible refine (bits_Look.calls k s n a wd x false _ HA.out).mono ?_); rintro e w3 ⟨rfl, hb3⟩); have HRD3 := Aside0.mk (keepD HRD.out hb3); have HB3 := Aside0.mk (belowD (Nat.le_of_lt (Nat.lt_of_le_of_lt HBASE.out (blk_lt HRD.out))) hb3); clear hb3; obtain ⟨d0, d1, d2, d3, e0, e1, e2, e3⟩ := four_cells HRD3.out))
  all_goals go_wp2
  all_goals go_ret
  all_goals exact ⟨rfl, read_bad HRD3.out, HB3.out.setCell (p := ⟨p, 3, none⟩) HBASE.out _⟩
set_option maxHeartbeats 4000000 in
set_option maxRecDepth 100000 in
theorem look_no3 (W : World) (base p k : Nat) (s : ByteArray) (n a wd x a' : Int) (hrd : ReadIs W p s n a false) (hbase : base ≤ p) (ha : bits_Look.f k s n a wd = some (x, false))  :
    Calls Try.prog 127 #[.pointer (some ⟨p, 0, none⟩), .int .i64 wd] W fun e w' => e = .returned (.int .i64 0) ∧ ReadIs w' p s n a true ∧ Below base W w' := by
  have hu := Try.underlying27
  have hu5 := Try.underlying125
  obtain ⟨c0, c1, c2, c3, f0, f1, f2, f3⟩ := four_cells hrd
  have HRD := Aside0.mk hrd
  have HBASE := Aside0.mk hbase
  have HA := Aside0.mk ha
  clear hrd hbase ha
  go_enter Try.func127, Try.ntmps127
  go_wp2
  go_region_held3 (fun w' => w'.cell? ⟨p, 0, none⟩ = some (.string s) ∧ w'.cell? ⟨p, 1, none⟩ = some (.int .i64 n) ∧ w'.cell? ⟨p, 2, none⟩ = some (.int .i64 a)) (first | exact ⟨d0, d1, d2⟩ | exact ⟨c0, c1, c2⟩ | go_keep) (first | (go_at_call 91; ((with_reducible refine (bits_Look.calls k s n a wd x false _ HA.out).mono ?_); rintro e w3 ⟨rfl, hb3⟩); have HRD3 := Aside0.mk (keepD HRD.out hb3); have HB3 := Aside0.mk (belowD (Nat.le_of_lt (Nat.lt_of_le_of_lt HBASE.out (blk_lt HRD.out))) hb3); clear hb3; obtain ⟨d0, d1, d2, d3, e0, e1, e2, e3⟩ := four_cells HRD3.out))
  all_goals go_wp2
  all_goals go_ret
  all_goals exact ⟨rfl, read_bad HRD3.out, HB3.out.setCell (p := ⟨p, 3, none⟩) HBASE.out _⟩
/-- What the reader answers, where it stands behind, whether it is bad. -/
def rd_zeros (k : Nat) (s : ByteArray) (n a : Int) (bad : Bool) (most : Int) : Option (Int × Int × Bool) :=
  (bits_Ahead.f k s n a).bind fun x => if bad = true then some (0, a, true) else if x < 0 then some (0, a, true) else if most < x then some (0, a, true) else some (x, wrap64 (a + x), false)
def rd_look (k : Nat) (s : ByteArray) (n a : Int) (bad : Bool) (wd : Int) : Option (Int × Int × Bool) :=
  (bits_Look.f k s n a wd).bind fun x => if bad = true then some (0, a, true) else if x.2 = true then some (x.1, wrap64 (a + wd), false) else some (0, a, true)
theorem rd_zeros.calls (W : World) (base p k : Nat) (s : ByteArray) (n a : Int) (bad : Bool) (most r a' : Int) (bad' : Bool) (hrd : ReadIs W p s n a bad) (hbase : base ≤ p) (h : rd_zeros k s n a bad most = some (r, a', bad')) :
    Calls Try.prog 126 #[.pointer (some ⟨p, 0, none⟩), .int .i64 most] W fun e w' => e = .returned (.int .i64 r) ∧ ReadIs w' p s n a' bad' ∧ Below base W w' := by
  unfold rd_zeros at h
  obtain ⟨x, h1, h2⟩ := Option.bind_eq_some_iff.1 h
  cases bad with
  | true =>
    rw [if_pos rfl] at h2
    simp only [Option.some.injEq, Prod.mk.injEq] at h2
    obtain ⟨rfl, rfl, rfl⟩ := h2
    exact zeros_no1 W base p k s n a most x hrd hbase h1
  | false =>
    rw [if_neg (by decide)] at h2
    by_cases c1 : x < 0
    · rw [if_pos c1] at h2
      simp only [Option.some.injEq, Prod.mk.injEq] at h2
      obtain ⟨rfl, rfl, rfl⟩ := h2
      exact zeros_no2 W base p k s n a most x hrd hbase h1 c1
    · rw [if_neg c1] at h2
      by_cases c2 : most < x
      · rw [if_pos c2] at h2
        simp only [Option.some.injEq, Prod.mk.injEq] at h2
        obtain ⟨rfl, rfl, rfl⟩ := h2
        exact zeros_no3 W base p k s n a most x hrd hbase h1 (by omega) c2
      · rw [if_neg c2] at h2
        simp only [Option.some.injEq, Prod.mk.injEq] at h2
        obtain ⟨rfl, h3, rfl⟩ := h2
        exact zeros_yes W base p k s n a most x a' hrd hbase h1 (by omega) (by omega) h3
theorem rd_look.calls (W : World) (base p k : Nat) (s : ByteArray) (n a : Int) (bad : Bool) (wd r a' : Int) (bad' : Bool) (hrd : ReadIs W p s n a bad) (hbase : base ≤ p) (h : rd_look k s n a bad wd = some (r, a', bad')) :
    Calls Try.prog 127 #[.pointer (some ⟨p, 0, none⟩), .int .i64 wd] W fun e w' => e = .returned (.int .i64 r) ∧ ReadIs w' p s n a' bad' ∧ Below base W w' := by
  unfold rd_look at h
  obtain ⟨⟨x, ok⟩, h1, h2⟩ := Option.bind_eq_some_iff.1 h
  cases bad with
  | true =>
    rw [if_pos rfl] at h2
    simp only [Option.some.injEq, Prod.mk.injEq] at h2
    obtain ⟨rfl, rfl, rfl⟩ := h2
    cases ok with
    | true => exact look_no1 W base p k s n a wd x 0 hrd hbase h1
    | false => exact look_no2 W base p k s n a wd x 0 hrd hbase h1
  | false =>
    rw [if_neg (by decide)] at h2
    cases ok with
    | true =>
      rw [if_pos rfl] at h2
      simp only [Option.some.injEq, Prod.mk.injEq] at h2
      obtain ⟨rfl, h3, rfl⟩ := h2
      exact look_yes1 W base p k s n a wd x a' hrd hbase h1 h3
    | false =>
      rw [if_neg (by simp)] at h2
      simp only [Option.some.injEq, Prod.mk.injEq] at h2
      obtain ⟨rfl, rfl, rfl⟩ := h2
      exact look_no3 W base p k s n a wd x 0 hrd hbase h1
set_option maxHeartbeats 4000000 in
set_option maxRecDepth 100000 in
theorem unary_walk (W : World) (base p k : Nat) (s : ByteArray) (n a : Int) (bad : Bool) (most z a1 : Int) (b1 : Bool) (l a2 : Int) (b2 : Bool) (hrd : ReadIs W p s n a bad) (hbase : base ≤ p) (hm : 1 ≤ most) (hm1 : most ≤ 10000) (hz0 : 0 ≤ z) (hz1 : z ≤ 10000)
    (hz : rd_zeros k s n a bad (most - 1) = some (z, a1, b1)) (hl : rd_look k s n a1 b1 1 = some (l, a2, b2)) :
    Calls Try.prog 120 #[.pointer (some ⟨p, 0, none⟩), .int .i64 most] W fun e w' => e = .returned (.int .i64 (z + 1)) ∧ ReadIs w' p s n a2 b2 ∧ Below base W w' := by
  have HRD := Aside0.mk hrd
  have HBASE := Aside0.mk hbase
  have HB := Aside0.mk (Below.refl base W)
  clear hrd hbase
  have HZ := Aside0.mk hz
  have HL := Aside0.mk hl
  clear hz hl
  go_enter Try.func120, Try.ntmps120
  go_wp2_with (first | (go_at_call 126; ((with_reducible refine (rd_zeros.calls _ base p k s n a bad (most - 1) z a1 b1 HRD.out HBASE.out HZ.out).mono ?_); rintro e w3 ⟨rfl, hr3, hb3⟩); have HRD3 := Aside0.mk hr3; have HB3 := Aside0.mk (HB.out.trans hb3); clear hr3 hb3 HRD HB; have HRD := HRD3; have HB := HB3; clear HRD3 HB3) | (go_at_call 127; ((with_reducible refine (rd_look.calls _ base p k s n a1 b1 1 l a2 b2 HRD.out HBASE.out HL.out).mono ?_); rintro e w3 ⟨rfl, hr3, hb3⟩); have HRD3 := Aside0.mk hr3; have HB3 := Aside0.mk (HB.out.trans hb3); clear hr3 hb3 HRD HB; have HRD := HRD3; have HB := HB3; clear HRD3 HB3))
  go_ret
  exact ⟨rfl, HRD.out, HB.out⟩
set_option maxHeartbeats 4000000 in
set_option maxRecDepth 100000 in
theorem gamma_walk (W : World) (base p k : Nat) (s : ByteArray) (n a : Int) (bad : Bool) (z a1 : Int) (b1 : Bool) (l a2 : Int) (b2 : Bool) (hrd : ReadIs W p s n a bad) (hbase : base ≤ p) (hz0 : 0 ≤ z) (hz1 : z ≤ 10000)
    (hz : rd_zeros k s n a bad 30 = some (z, a1, b1)) (hl : rd_look k s n a1 b1 (z + 1) = some (l, a2, b2)) :
    Calls Try.prog 121 #[.pointer (some ⟨p, 0, none⟩)] W fun e w' => e = .returned (.int .i64 l) ∧ ReadIs w' p s n a2 b2 ∧ Below base W w' := by
  have HRD := Aside0.mk hrd
  have HBASE := Aside0.mk hbase
  have HB := Aside0.mk (Below.refl base W)
  clear hrd hbase
  have HZ := Aside0.mk hz
  have HL := Aside0.mk hl
  clear hz hl
  go_enter Try.func121, Try.ntmps121
  go_wp2_with (first | (go_at_call 126; ((with_reducible refine (rd_zeros.calls _ base p k s n a bad 30 z a1 b1 HRD.out HBASE.out HZ.out).mono ?_); rintro e w3 ⟨rfl, hr3, hb3⟩); have HRD3 := Aside0.mk hr3; have HB3 := Aside0.mk (HB.out.trans hb3); clear hr3 hb3 HRD HB; have HRD := HRD3; have HB := HB3; clear HRD3 HB3) | (go_at_call 127; ((with_reducible refine (rd_look.calls _ base p k s n a1 b1 (z + 1) l a2 b2 HRD.out HBASE.out HL.out).mono ?_); rintro e w3 ⟨rfl, hr3, hb3⟩); have HRD3 := Aside0.mk hr3; have HB3 := Aside0.mk (HB.out.trans hb3); clear hr3 hb3 HRD HB; have HRD := HRD3; have HB := HB3; clear HRD3 HB3))
  go_ret
  exact ⟨rfl, HRD.out, HB.out⟩
end Go.Proofs.Ytnpghcikhpglkaa.Q
