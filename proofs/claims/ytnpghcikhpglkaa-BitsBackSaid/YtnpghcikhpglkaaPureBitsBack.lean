/- BitsBack: the plain statement. -/
import Derived.Test.YtnpghcikhpglkaaOp
import Derived.Test.YtnpghcikhpglkaaPc
import Derived.Test.YtnpghcikhpglkaaQ27
namespace Go.Proofs.Ytnpghcikhpglkaa.Pure
open Go.RowKit Go.Proofs.YtnpghcikhpglkaaW.PrintWords Go.Proofs.YtnpghcikhpglkaaW.PrintLast Go.Proofs.YtnpghcikhpglkaaW.PrintMore Go.Proofs.Ytnpghcikhpglkaa.Q Go.Proofs.Ytnpghcikhpglkaa.Pu Go.Proofs.Ytnpghcikhpglkaa.Pb
set_option linter.unusedVariables false

theorem shl_one (w : Nat) (hw : w ≤ 30) : shl .i64 1 (w : Int) = 2 ^ w := by
  unfold shl
  rw [Nat.min_eq_left (by simp [IntKind.bits]; omega), Int.one_mul, Int.toNat_natCast]
  have h := pow_le30 (w : Int) (by omega) (by omega)
  rw [Int.toNat_natCast] at h
  exact wraps_i64 _ (by omega) (by omega)
theorem pow_b (w : Nat) (hw : w ≤ 30) : (0 : Int) < 2 ^ w ∧ (2 : Int) ^ w ≤ 1073741824 := by
  have h := pow_le30 (w : Int) (by omega) (by omega)
  rwa [Int.toNat_natCast] at h

theorem back_asm (l0 : List S27) (l1 : List Int) (x3 i i' c n5 w1' : Int) (k : Nat) (s s1 s2 s3 s4 s5 : ByteArray) (n n1 n2 n3 n4 v w p t3 : Int)
    (h0 : 0 ≤ i) (h1 : i < (l1.length : Int)) (hw0 : 0 ≤ w) (hw : herbariumlaw0_Within.f (rd l1 i) 31 = some w) (e0 : shl .i64 1 w = p) (hv : herbariumlaw0_Within.f (wrap64 (Int.tdiv (rd l1 i) 3)) p = some v)
    (e1 : bits_Put.f s n v w = some (s1, n1, 0)) (e2 : bits_Put.f s1 n1 5 7 = some (s2, n2, 0)) (e3 : bits_Get.f k s2 n2 n w = some (v, 0)) (hc : herbariumlaw0_Within.f (rd l1 i) (wrap64 (n + 1)) = some c)
    (e4 : bits_Cut.f s n 0 c = some (s3, n3, 0)) (e5 : bits_Cut.f s n c n = some (s4, n4, 0)) (e6 : bits_Cat.f s3 n3 s4 n4 = some (s, n, 0)) (hn1 : n1 = wrap64 (n + w)) (hi : wrap64 (i + 1) = i') :
    herbariumlaw1_BitsBack.j4 (k + 1) x3 i true l0 l1 s n = herbariumlaw1_BitsBack.l1 k x3 i' l0 l1 s n := by
  have z : wrap64 ((wrap64 ((wrap64 ((wrap64 ((wrap64 ((0 : Int) + 0)) + 0)) + 0)) + 0)) + 0) = 0 := by decide +kernel
  have q : (!(s.toList == s.toList) || (!(n == n))) = false := by simp
  rw [herbariumlaw1_BitsBack.j4, if_pos rfl, if_pos h0, if_pos h1, hw, Option.bind_some, if_pos hw0, e0, hv, Option.bind_some, e1, Option.bind_some, e2, Option.bind_some, e3, Option.bind_some, hc, Option.bind_some, e4, Option.bind_some, e5, Option.bind_some, e6, Option.bind_some]
  simp only [herbariumlaw1_num.f, Option.bind_some]
  rw [z, if_pos rfl, if_pos trivial, if_pos hn1, q, hi, if_neg (by decide)]

theorem back_e3 (l V F : List Int) (h3 : IsBits (l ++ V ++ F)) (hb : (l ++ V ++ F).length ≤ 6000) (hV : V.length ≤ 30) (k : Nat) (hk : 40 ≤ k) : bits_Get.f k (packS (l ++ V ++ F)) ((l ++ V ++ F).length : Int) (l.length : Int) (V.length : Int) = some (numL V, 0) := by
  rw [get_eq _ h3 hb _ _ (by simp at hb; omega) k hk]
  unfold getR
  rw [if_pos (by omega), if_pos (by simp; omega), Int.toNat_natCast, Int.toNat_natCast, take_drop_mid]
theorem back_e4 (l : List Int) (hl : IsBits l) (hlen : l.length ≤ 6000) (c : Nat) (hc : c ≤ l.length) : bits_Cut.f (packS l) (l.length : Int) 0 (c : Int) = some (packS (l.take c), ((l.take c).length : Int), 0) := by
  rw [cut_eq l hl hlen]
  unfold cutR
  rw [if_pos ⟨by omega, by omega, by omega⟩, List.length_take, Nat.min_eq_left hc]
  simp
theorem back_e5 (l : List Int) (hl : IsBits l) (hlen : l.length ≤ 6000) (c : Nat) (hc : c ≤ l.length) : bits_Cut.f (packS l) (l.length : Int) (c : Int) (l.length : Int) = some (packS (l.drop c), ((l.drop c).length : Int), 0) := by
  rw [cut_eq l hl hlen]
  unfold cutR
  have h : (l.length : Int) - (c : Int) = ((l.drop c).length : Int) := by rw [List.length_drop]; omega
  rw [if_pos ⟨by omega, by omega, by omega⟩, h, Int.toNat_natCast, Int.toNat_natCast, List.take_of_length_le (Nat.le_refl _)]
theorem back_e6 (l : List Int) (hl : IsBits l) (hlen : l.length ≤ 6000) (c : Nat) : bits_Cat.f (packS (l.take c)) ((l.take c).length : Int) (packS (l.drop c)) ((l.drop c).length : Int) = some (packS l, (l.length : Int), 0) := by
  rw [cat_eq _ _ (fun x hx => hl x (List.mem_of_mem_take hx)) (fun x hx => hl x (List.mem_of_mem_drop hx)) (by simp; omega) (by simp; omega), if_pos (by simp; omega), List.take_append_drop]

theorem back_step (l0 : List S27) (l1 : List Int) (l : List Int) (hl : IsBits l) (hlen : l.length ≤ 5940) (x3 : Int) (i : Nat) (hi : i < l1.length) (hn : l1.length ≤ 100) (k : Nat) (hk : 100 ≤ k) :
    herbariumlaw1_BitsBack.j4 (k + 1) x3 (i : Int) true l0 l1 (packS l) (l.length : Int) = herbariumlaw1_BitsBack.l1 k x3 ((i + 1 : Nat) : Int) l0 l1 (packS l) (l.length : Int) := by
  obtain ⟨wi, hw, hw0, hw1⟩ := within_eq (rd l1 (i : Int)) 31 (by omega) (by omega)
  obtain ⟨w, rfl⟩ := Int.eq_ofNat_of_zero_le hw0
  have hpb := pow_b w (by omega)
  obtain ⟨v, hv, hv0, hv1⟩ := within_eq (wrap64 (Int.tdiv (rd l1 (i : Int)) 3)) (2 ^ w) hpb.1 (by omega)
  obtain ⟨ci, hc, hc0, hc1⟩ := within_eq (rd l1 (i : Int)) ((l.length : Int) + 1) (by omega) (by omega)
  obtain ⟨c, rfl⟩ := Int.eq_ofNat_of_zero_le hc0
  have hV : IsBits (putL w v) := putL_bits w v
  have hF : IsBits (putL 7 5) := putL_bits 7 5
  have nV : numL (putL w v) = v := numL_putL_lt w v hv0 hv1
  have e1 := put_some l hl v w (by omega) hv0 hv1 (by omega)
  have e2 : bits_Put.f (packS (l ++ putL w v)) ((l ++ putL w v).length : Int) 5 7 = _ := put_some (l ++ putL w v) (hl.append hV) 5 7 (by omega) (by omega) (by decide) (by rw [List.length_append, putL_length]; omega)
  have e3 := back_e3 l (putL w v) (putL 7 5) ((hl.append hV).append hF) (by simp [putL_length]; omega) (by rw [putL_length]; omega) k (by omega)
  rw [putL_length, nV] at e3
  refine back_asm l0 l1 x3 (i : Int) ((i + 1 : Nat) : Int) (c : Int) 0 0 k (packS l) _ _ _ _ (packS l) (l.length : Int) _ _ _ _ v (w : Int) (2 ^ w) 0 (by omega) (by omega) hw0 hw (shl_one w (by omega)) hv e1 e2 e3 ?_ (back_e4 l hl (by omega) c (by omega)) (back_e5 l hl (by omega) c (by omega)) (back_e6 l hl (by omega) c) ?_ ?_
  · rw [wrap_in _ (by omega) (by omega)]; exact hc
  · rw [wrap_in _ (by omega) (by omega), List.length_append, putL_length]; omega
  · rw [wrap_in _ (by omega) (by omega)]; omega

theorem back_row (l0 : List S27) (l1 : List Int) (l : List Int) (hl : IsBits l) (hlen : l.length ≤ 5940) (x3 : Int) (hx0 : 0 ≤ x3) (hx : x3 < 9223372036854775000) (hn : l1.length ≤ 100) (d : Nat) : ∀ (k i : Nat), i + d = 7 → 100 ≤ k →
    ∃ k', k ≤ k' ∧ herbariumlaw1_BitsBack.l1 (k + 2 * d + 2) x3 (i : Int) l0 l1 (packS l) (l.length : Int) = herbariumlaw1_BitsBack.l0 k' (x3 + 1) l0 l1 := by
  induction d with
  | zero =>
    intro k i hi hk
    refine ⟨k, Nat.le_refl _, ?_⟩
    have w1 := Aside0.mk (wrap_in (x3 + 1) (by omega) (by omega))
    have hd : decide ((i : Int) < 6) = false := by simp; omega
    simp only [Nat.mul_zero, Nat.add_zero]
    rw [herbariumlaw1_BitsBack.l1]
    split
    · rw [hd, herbariumlaw1_BitsBack.j4, if_neg (by decide), w1.out]
    · rw [herbariumlaw1_BitsBack.j4, if_neg (by decide), w1.out]
  | succ d ih =>
    intro k i hi hk
    have w1 := Aside0.mk (wrap_in (x3 + 1) (by omega) (by omega))
    by_cases hlt : i < l1.length
    · by_cases h6 : i < 6
      · obtain ⟨k', hk', e⟩ := ih k (i + 1) (by omega) hk
        refine ⟨k', hk', ?_⟩
        rw [← e, show k + 2 * (d + 1) + 2 = (k + 2 * d + 2 + 1) + 1 by omega, herbariumlaw1_BitsBack.l1, if_pos (by omega), show decide ((i : Int) < 6) = true by simp; omega]
        exact back_step l0 l1 l hl hlen x3 i hlt hn (k + 2 * d + 2) (by omega)
      · refine ⟨k + 2 * (d + 1), by omega, ?_⟩
        rw [herbariumlaw1_BitsBack.l1, if_pos (by omega), show decide ((i : Int) < 6) = false by simp; omega, herbariumlaw1_BitsBack.j4, if_neg (by decide), w1.out]
    · refine ⟨k + 2 * (d + 1), by omega, ?_⟩
      rw [herbariumlaw1_BitsBack.l1, if_neg (by omega), herbariumlaw1_BitsBack.j4, if_neg (by decide), w1.out]

theorem wakesB (k : Nat) (hk : 40 ≤ k) : herbariumlaw1_wakes.f k = some true := wakes1 k hk _ (by unfold herbariumlaw1_wakes.f; rfl)

theorem one_bad (l0 : List S27) (l1 : List Int) (i i' : Int) (k : Nat) (h0 : 0 ≤ i) (h1 : i < (l0.length : Int)) (h6 : decide (i < 6) = true) (c : Int) (hc : bits_Check.f (rd_T27 l0 i).f0 (rd_T27 l0 i).f1 = some c) (hc1 : c ≠ 0) (hi : wrap64 (i + 1) = i') :
    herbariumlaw1_BitsBack.l0 (k + 1 + 1 + 1) i l0 l1 = herbariumlaw1_BitsBack.l0 k i' l0 l1 := by
  rw [herbariumlaw1_BitsBack.l0, if_pos h1, h6, herbariumlaw1_BitsBack.j1, if_pos rfl, if_pos h0, if_pos h1, hc, Option.bind_some, herbariumlaw1_num.f, Option.bind_some, if_neg hc1, herbariumlaw1_BitsBack.j2, if_pos rfl, hi]
theorem one_long (l0 : List S27) (l1 : List Int) (i i' : Int) (k : Nat) (h0 : 0 ≤ i) (h1 : i < (l0.length : Int)) (h6 : decide (i < 6) = true) (hc : bits_Check.f (rd_T27 l0 i).f0 (rd_T27 l0 i).f1 = some 0) (hl : decide ((rd_T27 l0 i).f1 > 5940) = true) (hi : wrap64 (i + 1) = i') :
    herbariumlaw1_BitsBack.l0 (k + 1 + 1 + 1) i l0 l1 = herbariumlaw1_BitsBack.l0 k i' l0 l1 := by
  rw [herbariumlaw1_BitsBack.l0, if_pos h1, h6, herbariumlaw1_BitsBack.j1, if_pos rfl, if_pos h0, if_pos h1, hc, Option.bind_some, herbariumlaw1_num.f, Option.bind_some, if_pos rfl, hl, herbariumlaw1_BitsBack.j2, if_pos rfl, hi]
theorem one_good (l0 : List S27) (l1 : List Int) (i : Int) (k : Nat) (h0 : 0 ≤ i) (h1 : i < (l0.length : Int)) (h6 : decide (i < 6) = true) (hc : bits_Check.f (rd_T27 l0 i).f0 (rd_T27 l0 i).f1 = some 0) (hl : decide ((rd_T27 l0 i).f1 > 5940) = false) :
    herbariumlaw1_BitsBack.l0 (k + 1 + 1 + 1) i l0 l1 = herbariumlaw1_BitsBack.l1 k i 0 l0 l1 (rd_T27 l0 i).f0 (rd_T27 l0 i).f1 := by
  rw [herbariumlaw1_BitsBack.l0, if_pos h1, h6, herbariumlaw1_BitsBack.j1, if_pos rfl, if_pos h0, if_pos h1, hc, Option.bind_some, herbariumlaw1_num.f, Option.bind_some, if_pos rfl, hl, herbariumlaw1_BitsBack.j2, if_neg (by decide)]
theorem one_end (l0 : List S27) (l1 : List Int) (i : Int) (k : Nat) (h : ¬ (i < (l0.length : Int)) ∨ decide (i < 6) = false) (hk : 40 ≤ k) : herbariumlaw1_BitsBack.l0 (k + 1 + 1) i l0 l1 = some true := by
  have hw := wakesB k hk
  have e : herbariumlaw1_BitsBack.j1 (k + 1) i false l0 l1 = some true := by rw [herbariumlaw1_BitsBack.j1, if_neg (by decide), hw, Option.bind_some]
  rw [herbariumlaw1_BitsBack.l0]
  by_cases h1 : i < (l0.length : Int)
  · rw [if_pos h1, h.resolve_left (fun h => h h1), e]
  · rw [if_neg h1, e]

theorem check_eq (s : ByteArray) (n : Int) : bits_Check.f s n = some (if MayP s n then 0 else 1) := by
  unfold bits_Check.f
  rw [may_eq]
  by_cases hm : MayP s n
  · rw [decide_eq_true hm, if_pos hm]; rfl
  · rw [decide_eq_false hm, if_neg hm]; rfl

theorem back_one (l0 : List S27) (l1 : List Int) (hn : l1.length ≤ 100) (i : Nat) (h1 : i < l0.length) (h6 : i < 6) (k : Nat) (hk : 100 ≤ k) : ∃ k', k ≤ k' ∧ herbariumlaw1_BitsBack.l0 (k + 16 + 1 + 1 + 1) (i : Int) l0 l1 = herbariumlaw1_BitsBack.l0 k' ((i : Int) + 1) l0 l1 := by
  have hi : Aside0 (wrap64 ((i : Int) + 1) = (i : Int) + 1) := ⟨wrap_in _ (by omega) (by omega)⟩
  have h6' : decide ((i : Int) < 6) = true := by simp; omega
  have hc := check_eq (rd_T27 l0 (i : Int)).f0 (rd_T27 l0 (i : Int)).f1
  by_cases hm : MayP (rd_T27 l0 (i : Int)).f0 (rd_T27 l0 (i : Int)).f1
  · rw [if_pos hm] at hc
    by_cases h59 : (rd_T27 l0 (i : Int)).f1 > 5940
    · exact ⟨k + 16, by omega, one_long l0 l1 i _ (k + 16) (by omega) (by omega) h6' hc (decide_eq_true h59) hi.out⟩
    · have e := one_good l0 l1 i (k + 16) (by omega) (by omega) h6' hc (decide_eq_false h59)
      obtain ⟨c1, c2, c3, c4⟩ := canon _ _ hm
      obtain ⟨l, hld⟩ : ∃ l, ofS (rd_T27 l0 (i : Int)).f0 (rd_T27 l0 (i : Int)).f1 = l := ⟨_, rfl⟩
      rw [hld] at c1 c2 c3
      rw [c1, c2] at e
      obtain ⟨k', hk', e2⟩ := back_row l0 l1 l c3 (by omega) (i : Int) (by omega) (by omega) hn 7 k 0 (by omega) hk
      rw [show k + 2 * 7 + 2 = k + 16 by omega, show ((0 : Nat) : Int) = 0 from rfl] at e2
      exact ⟨k', hk', e.trans e2⟩
  · rw [if_neg hm] at hc
    exact ⟨k + 16, by omega, one_bad l0 l1 i _ (k + 16) (by omega) (by omega) h6' 1 hc (by decide) hi.out⟩

theorem back_all (l0 : List S27) (l1 : List Int) (hn : l1.length ≤ 100) (d : Nat) : ∀ (k i : Nat), i + d = 7 → 200 + 30 * d ≤ k → herbariumlaw1_BitsBack.l0 k (i : Int) l0 l1 = some true := by
  induction d with
  | zero =>
    intro k i hi hk
    obtain ⟨m, rfl⟩ : ∃ m, k = m + 1 + 1 := ⟨k - 2, by omega⟩
    exact one_end l0 l1 i m (.inr (by simp; omega)) (by omega)
  | succ d ih =>
    intro k i hi hk
    by_cases h : i < l0.length ∧ i < 6
    · obtain ⟨m, rfl⟩ : ∃ m, k = m + 16 + 1 + 1 + 1 := ⟨k - 19, by omega⟩
      obtain ⟨k', hk', e⟩ := back_one l0 l1 hn i h.1 h.2 m (by omega)
      have h2 := ih k' (i + 1) (by omega) (by omega)
      rw [show ((i + 1 : Nat) : Int) = (i : Int) + 1 by omega] at h2
      exact e.trans h2
    · obtain ⟨m, rfl⟩ : ∃ m, k = m + 1 + 1 := ⟨k - 2, by omega⟩
      refine one_end l0 l1 i m ?_ (by omega)
      by_cases h1 : i < l0.length
      · exact .inr (by simp; omega)
      · exact .inl (by omega)

theorem BitsBack : ∀ (l0 : List S27) (l1 : List Int), Op.GoodB l0 → Op.GoodN l1 → ∃ k, Q.herbariumlaw1_BitsBack.f k l0 l1 = some true := by
  intro l0 l1 g0 g1
  have hr : (l0.length : Int) < 9223372036854775807 := by have := g0.1; unfold reachBytes at this; omega
  obtain ⟨k, hk⟩ : ∃ k : Nat, 1000 + l0.length ≤ k := ⟨_, Nat.le_refl _⟩
  refine ⟨k, ?_⟩
  unfold herbariumlaw1_BitsBack.f
  rcases heavy_some l0 l1 hr k (by omega) with h | ⟨h, hn⟩
  · rw [h]; rfl
  · rw [h, Option.bind_some, if_neg (by decide)]
    have := back_all l0 l1 hn 7 k 0 (by omega) (by omega)
    rw [show ((0 : Nat) : Int) = 0 from rfl] at this
    exact this
end Go.Proofs.Ytnpghcikhpglkaa.Pure
