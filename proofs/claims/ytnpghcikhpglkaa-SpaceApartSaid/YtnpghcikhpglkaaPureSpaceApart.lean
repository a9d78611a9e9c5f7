/- SpaceApart: the plain statement. -/
import Derived.Test.YtnpghcikhpglkaaOp
import Derived.Test.YtnpghcikhpglkaaPs
import Derived.Test.YtnpghcikhpglkaaPc
import Derived.Test.YtnpghcikhpglkaaQ10
namespace Go.Proofs.Ytnpghcikhpglkaa.Pure
open Go.RowKit Go.Proofs.YtnpghcikhpglkaaW.PrintWords Go.Proofs.YtnpghcikhpglkaaW.PrintLast Go.Proofs.YtnpghcikhpglkaaW.PrintMore Go.Proofs.Ytnpghcikhpglkaa.Q Go.Proofs.Ytnpghcikhpglkaa.Ps
set_option linter.unusedVariables false

theorem taken_more {l : List S41} {t : List Bool} (h : takenR l 30 = some t) (hl : l.length ≤ 12) (x : S41) : takenR (l ++ [x]) 30 = if fits 30 x = true then markL x.f1.toNat x.f0.toNat t else none := by
  unfold takenR at h ⊢
  rw [if_pos ⟨by omega, by omega, by omega⟩] at h
  rw [if_pos ⟨by omega, by omega, by simp; omega⟩, takeL_append, h, Option.bind_some, takeL]
  split
  · cases markL x.f1.toNat x.f0.toNat t <;> rfl
  · rfl
theorem win_len {t : List Bool} {a m : Nat} (h : Win t a m) (hm : 1 ≤ m) : a + m ≤ t.length := by
  have := h (m - 1) (by omega)
  have := (List.getElem?_eq_some_iff.1 this).1
  omega
theorem fits_iff {b : Int} {x : S41} : fits b x = true ↔ 1 ≤ x.f1 ∧ 0 ≤ x.f0 ∧ x.f0 < b ∧ x.f1 ≤ b - x.f0 := by
  unfold fits
  simp [and_assoc]
/-- What is found. -/
theorem apart_facts (l : List S41) (hl : l.length ≤ 12) (m : Nat) (hm : 1 ≤ m) (hm' : m ≤ 8) (y : Int) (h : findR l 30 (m : Int) = (y, 0)) : ∃ (a : Nat) (n k : Int), y = (a : Int) ∧ a ≤ 30 ∧ freeR l 30 = (n, 0) ∧ freeR (l ++ [⟨y, (m : Int)⟩]) 30 = (k, 0) ∧ n = k + (m : Int) ∧ 0 ≤ k ∧ k ≤ 30 ∧ ∀ c : Nat, c < a → checkR (l ++ [⟨(c : Int), (m : Int)⟩]) 30 = 1 := by
  unfold findR at h
  cases ht : takenR l 30 with
  | none => rw [ht] at h; simp at h
  | some t =>
    obtain ⟨q1, q2, q3, q4⟩ := takenR_length ht
    have q5 : t.length = 30 := q1
    rw [ht] at h
    simp only at h
    rw [if_pos ⟨by omega, by omega⟩] at h
    cases hf : findL (m : Int) (runsL 0 0 t) with
    | none => rw [hf] at h; simp [found] at h
    | some x =>
      rw [hf] at h
      simp only [found, Prod.mk.injEq, and_true] at h
      obtain ⟨a, h1, h2, h3, h4⟩ := find_first m hm t t 0 0 (by simp) (by simp) (by omega) (fun j h1 h2 => by omega) x hf
      have hw := win_len h3 hm
      obtain ⟨t', ht'⟩ := mark_win m a t h3
      have hc := (mark_some m a t t' (by omega) ht').2
      have hc' : t'.count false ≤ t'.length := List.count_le_length
      have hl' := markL_length _ _ _ _ ht'
      obtain rfl : y = (a : Int) := by rw [← h, h1]
      have ft : fits 30 ⟨(a : Int), (m : Int)⟩ = true := fits_iff.2 ⟨by simp; omega, by simp, by simp; omega, by simp; omega⟩
      have hm2 := taken_more ht hl ⟨(a : Int), (m : Int)⟩
      rw [if_pos ft] at hm2
      simp only [Int.toNat_natCast] at hm2
      rw [ht'] at hm2
      refine ⟨a, ((t.count false : Nat) : Int), ((t'.count false : Nat) : Int), rfl, by omega, ?_, ?_, by omega, by omega, by omega, ?_⟩
      · unfold freeR; rw [ht]
      · unfold freeR; rw [hm2]
      · intro c hc
        unfold checkR
        rw [taken_more ht hl]
        split
        · rfl
        · rename_i t2 e
          exfalso
          split at e
          · rename_i hft
            have hft := fits_iff.1 hft
            simp only at hft
            simp only [Int.toNat_natCast] at e
            exact h4 c (by omega) hc (mark_some m c t t2 (by omega) e).1
          · cases e

theorem apart_l2 (L : List (List S41)) (l1 : List Int) (l2 : List S27) (l3 : List Int) (i : Nat) (hi : i < L.length) (m : Nat) (hm : m ≤ 8) (a : Nat) (ha : a ≤ 30) (hl : (rd_L4 L (i : Int)).length ≤ 12)
    (hc : ∀ c : Nat, c < a → checkR (rd_L4 L (i : Int) ++ [⟨(c : Int), (m : Int)⟩]) 30 = 1) : ∀ (d c k : Nat), c + d = a → 2700 ≤ k →
    herbariumlaw13_SpaceApart.l2 (k + d + 1) (i : Int) (m : Int) (a : Int) (c : Int) L l1 l2 l3 = herbariumlaw13_SpaceApart.l1 k (i : Int) ((m + 1 : Nat) : Int) L l1 l2 l3 := by
  intro d
  induction d with
  | zero =>
    intro c k h hk
    rw [herbariumlaw13_SpaceApart.l2, if_neg (by omega), wrap_in _ (by omega) (by omega)]
    rfl
  | succ d ih =>
    intro c k h hk
    rw [herbariumlaw13_SpaceApart.l2, if_pos (by omega), if_pos (by omega), if_pos (by omega), copy_eq _ (by omega) _ (by omega), Option.bind_some, if_pos (by omega), check_eq _ _ _ (by omega), Option.bind_some, hc c (by omega), herbariumlaw13_num.f, Option.bind_some, if_neg (by decide), wrap_in _ (by omega) (by omega)]
    have := ih (c + 1) k (by omega) hk
    exact this
theorem apart_step (L : List (List S41)) (l1 : List Int) (l2 : List S27) (l3 : List Int) (i : Nat) (hi : i < L.length) (hi5 : i < 5) (m : Nat) (h1 : 1 ≤ m) (hm : m ≤ 8) (K : Nat) (hK : 2700 ≤ K) : ∃ k', K ≤ k' ∧
    herbariumlaw13_SpaceApart.l1 (K + 40) (i : Int) (m : Int) L l1 l2 l3 = herbariumlaw13_SpaceApart.l1 k' (i : Int) ((m + 1 : Nat) : Int) L l1 l2 l3 := by
  have hw : wrap64 ((m : Int) + 1) = ((m + 1 : Nat) : Int) := by rw [wrap_in _ (by omega) (by omega)]; rfl
  rw [herbariumlaw13_SpaceApart.l1, if_pos (by omega), if_pos (by omega), if_pos (by omega), find_eq _ _ _ _ (by omega), Option.bind_some, herbariumlaw13_num.f, Option.bind_some]
  have skip : ∀ y : Int, herbariumlaw13_SpaceApart.j3 (K + 39) (i : Int) (m : Int) y true L l1 l2 l3 = herbariumlaw13_SpaceApart.l1 (K + 38) (i : Int) ((m + 1 : Nat) : Int) L l1 l2 l3 := by
    intro y
    rw [herbariumlaw13_SpaceApart.j3, if_pos rfl, hw]
  by_cases he : (findR (rd_L4 L (i : Int)) 30 (m : Int)).2 = 0
  · rw [if_pos he]
    by_cases hl : (rd_L4 L (i : Int)).length ≤ 12
    · rw [decide_eq_false (by omega)]
      obtain ⟨a, n, f, e1, e2, e3, e4, e5, e6, e7, e8⟩ := apart_facts (rd_L4 L (i : Int)) hl m h1 hm (findR (rd_L4 L (i : Int)) 30 (m : Int)).1 (Prod.ext rfl he)
      refine ⟨K + 36 - a, by omega, ?_⟩
      rw [herbariumlaw13_SpaceApart.j3, if_neg (by decide), if_pos (by omega), if_pos (by omega), copy_eq _ (by omega) _ (by omega), Option.bind_some, if_pos (by omega), free_eq _ _ _ (by omega), Option.bind_some, free_eq _ _ _ (by omega), Option.bind_some, e3, e4]
      simp only [herbariumlaw13_num.f, Option.bind_some, if_true]
      rw [wrap_in _ (by omega) (by omega), e5, show (f + (m : Int) != f + (m : Int)) = false by simp, herbariumlaw13_SpaceApart.j4, if_neg (by decide), e1]
      have := apart_l2 L l1 l2 l3 i hi m hm a e2 hl e8 a 0 (K + 36 - a) (by omega) (by omega)
      rw [show K + 36 - a + a + 1 = K + 37 by omega] at this
      exact this
    · rw [decide_eq_true (by omega)]
      exact ⟨K + 38, by omega, skip _⟩
  · rw [if_neg he]
    exact ⟨K + 38, by omega, skip _⟩
theorem apart_row (L : List (List S41)) (l1 : List Int) (l2 : List S27) (l3 : List Int) (i : Nat) (hi : i < L.length) (hi5 : i < 5) : ∀ (d m K : Nat), m + d = 9 → 1 ≤ m → 2700 ≤ K → ∃ k', K ≤ k' ∧
    herbariumlaw13_SpaceApart.l1 (K + 40 * d + 1) (i : Int) (m : Int) L l1 l2 l3 = herbariumlaw13_SpaceApart.l0 k' ((i + 1 : Nat) : Int) L l1 l2 l3 := by
  intro d
  induction d with
  | zero =>
    intro m K h h1 hK
    refine ⟨K, Nat.le_refl _, ?_⟩
    rw [Nat.mul_zero, herbariumlaw13_SpaceApart.l1, if_neg (by omega), wrap_in _ (by omega) (by omega)]
    rfl
  | succ d ih =>
    intro m K h h1 hK
    obtain ⟨k1, g1, g2⟩ := apart_step L l1 l2 l3 i hi hi5 m h1 (by omega) (K + 40 * d + 1) (by omega)
    obtain ⟨k2, g3, g4⟩ := ih (m + 1) (k1 - 40 * d - 1) (by omega) (by omega) (by omega)
    rw [show k1 - 40 * d - 1 + 40 * d + 1 = k1 by omega] at g4
    refine ⟨k2, by omega, ?_⟩
    rw [show K + 40 * (d + 1) + 1 = K + 40 * d + 1 + 40 by omega, g2, g4]
theorem wakes13 (k : Nat) (hk : 100 ≤ k) : herbariumlaw13_wakes.f k = some true := at_rounds herbariumlaw13_wakes.mono hk (by decide +kernel : herbariumlaw13_wakes.f 100 = some true)
theorem apart_all (L : List (List S41)) (l1 : List Int) (l2 : List S27) (l3 : List Int) : ∀ (d i K : Nat), i + d = 5 → 2700 ≤ K → herbariumlaw13_SpaceApart.l0 (K + 400 * d + 2) (i : Int) L l1 l2 l3 = some true := by
  have stop : ∀ (K i : Nat), 2700 ≤ K → herbariumlaw13_SpaceApart.j1 (K + 1) (i : Int) false L l1 l2 l3 = some true := by
    intro K i hK
    rw [herbariumlaw13_SpaceApart.j1, if_neg (by decide), wakes13 K (by omega)]
    rfl
  intro d
  induction d with
  | zero =>
    intro i K h hK
    rw [Nat.mul_zero, herbariumlaw13_SpaceApart.l0]
    split
    · rw [decide_eq_false (by omega)]; exact stop K i hK
    · exact stop K i hK
  | succ d ih =>
    intro i K h hK
    rw [herbariumlaw13_SpaceApart.l0]
    by_cases hi : i < L.length
    · rw [if_pos (by omega), decide_eq_true (by omega), herbariumlaw13_SpaceApart.j1, if_pos rfl]
      obtain ⟨k1, g1, g2⟩ := apart_row L l1 l2 l3 i hi (by omega) 8 1 (K + 400 * d + 79) (by omega) (by omega) (by omega)
      rw [show K + 400 * (d + 1) = K + 400 * d + 79 + 40 * 8 + 1 by omega]
      have h1 : herbariumlaw13_SpaceApart.l1 (K + 400 * d + 79 + 40 * 8 + 1) (i : Int) 1 L l1 l2 l3 = _ := g2
      rw [h1]
      have := ih (i + 1) (k1 - 400 * d - 2) (by omega) (by omega)
      rw [show k1 - 400 * d - 2 + 400 * d + 2 = k1 by omega] at this
      exact this
    · rw [if_neg (by omega)]
      exact stop (K + 400 * (d + 1)) i (by omega)
theorem heavy13 (L : List (List S41)) (l1 : List Int) (l2 : List S27) (l3 : List Int) (h0 : L.length < 9223372036854775807) (h2 : l2.length < 9223372036854775807) : ∀ (d i k : Nat) (s : Int), i + d = L.length → l2.length + d + 1 < k →
    ∃ r, herbariumlaw13_Heavy.l0 k s (i : Int) L l1 l2 l3 = some r := by
  have fin : ∀ (k : Nat) (s : Int), l2.length < k → ∃ r, (if s > 300 then (some true) else ((herbariumlaw1_Heavy.f k l2 l3).bind fun t225 => (some t225))) = some r := by
    intro k s hk
    by_cases h : s > 300
    · exact ⟨_, if_pos h⟩
    · rw [if_neg h]
      rcases Pb.heavy_some l2 l3 (by omega) k hk with h | ⟨h, _⟩ <;> exact ⟨_, by rw [h]; rfl⟩
  intro d
  induction d with
  | zero =>
    intro i k s h hk
    obtain ⟨k, rfl⟩ : ∃ k', k = k' + 1 := ⟨k - 1, by omega⟩
    rw [herbariumlaw13_Heavy.l0, if_neg (by omega)]
    exact fin k s (by omega)
  | succ d ih =>
    intro i k s h hk
    obtain ⟨k, rfl⟩ : ∃ k', k = k' + 1 := ⟨k - 1, by omega⟩
    rw [herbariumlaw13_Heavy.l0, if_pos (by omega)]
    by_cases hs : s < 1048576
    · rw [if_pos hs, if_pos (by omega), wrap_in ((i : Int) + 1) (by omega) (by omega)]
      exact ih (i + 1) k _ (by omega) (by omega)
    · rw [if_neg hs]
      exact fin k s (by omega)
theorem SpaceApart : ∀ (l0 : List (List S41)) (l1 : List Int) (l2 : List S27) (l3 : List Int), Op.GoodL l0 → Op.GoodN l1 → Op.GoodB l2 → Op.GoodN l3 → ∃ k, Q.herbariumlaw13_SpaceApart.f k l0 l1 l2 l3 = some true := by
  intro l0 l1 l2 l3 g0 g1 g2 g3
  have r0 : reachBytes < 9223372036854775807 := by unfold reachBytes; decide
  have h0 := g0.1
  have h2 := g2.1
  refine ⟨4702 + l0.length + l2.length, ?_⟩
  unfold herbariumlaw13_SpaceApart.f herbariumlaw13_Heavy.f
  obtain ⟨r, hr⟩ := heavy13 l0 l1 l2 l3 (by omega) (by omega) l0.length 0 (4702 + l0.length + l2.length) (wrap64 ((l0.length : Int) + (l1.length : Int))) (by omega) (by omega)
  have hr' : herbariumlaw13_Heavy.l0 (4702 + l0.length + l2.length) (wrap64 ((l0.length : Int) + (l1.length : Int))) 0 l0 l1 l2 l3 = some r := hr
  rw [hr', Option.bind_some]
  cases r with
  | true => rfl
  | false =>
    rw [if_neg (by decide)]
    have := apart_all l0 l1 l2 l3 5 0 (2700 + l0.length + l2.length) (by omega) (by omega)
    rw [show 2700 + l0.length + l2.length + 400 * 5 + 2 = 4702 + l0.length + l2.length by omega] at this
    exact this
end Go.Proofs.Ytnpghcikhpglkaa.Pure
