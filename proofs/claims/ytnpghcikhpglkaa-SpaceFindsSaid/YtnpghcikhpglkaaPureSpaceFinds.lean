/- SpaceFinds: the plain statement. -/
import Derived.Test.YtnpghcikhpglkaaOp
import Derived.Test.YtnpghcikhpglkaaPg
import Derived.Test.YtnpghcikhpglkaaPq
import Derived.Test.YtnpghcikhpglkaaPv
import Derived.Test.YtnpghcikhpglkaaQ14
namespace Go.Proofs.Ytnpghcikhpglkaa.Pure
open Go.RowKit Go.Proofs.YtnpghcikhpglkaaW.PrintWords Go.Proofs.YtnpghcikhpglkaaW.PrintLast Go.Proofs.YtnpghcikhpglkaaW.PrintMore Go.Proofs.Ytnpghcikhpglkaa.Q Go.Proofs.Ytnpghcikhpglkaa.Ps
set_option linter.unusedVariables false

theorem wakes13' (k : Nat) (hk : 100 ≤ k) : herbariumlaw13_wakes.f k = some true := at_rounds herbariumlaw13_wakes.mono hk (by decide +kernel : herbariumlaw13_wakes.f 100 = some true)
theorem heavy13' (L : List (List S41)) (l1 : List Int) (l2 : List S27) (l3 : List Int) (h0 : L.length < 9223372036854775807) (h2 : l2.length < 9223372036854775807) (hF' : ∀ l ∈ L, l.length ≤ 8796093022208) : ∀ (d i k : Nat) (s : Int), i + d = L.length → l2.length + d + 1 < k → 0 ≤ s → s < 4611686018427387904 →
    ∃ r, herbariumlaw13_Heavy.l0 k s (i : Int) L l1 l2 l3 = some r ∧ (r = false → s ≤ 300) := by
  have fin : ∀ (k : Nat) (s : Int), l2.length < k → ∃ r, (if s > 300 then (some true) else ((herbariumlaw1_Heavy.f k l2 l3).bind fun t225 => (some t225))) = some r ∧ (r = false → s ≤ 300) := by
    intro k s hk
    by_cases h : s > 300
    · exact ⟨true, if_pos h, fun h => by cases h⟩
    · rw [if_neg h]
      rcases Pv.heavy_some l2 l3 (by omega) k hk with h | ⟨h, _⟩ <;> exact ⟨_, by rw [h]; rfl, fun _ => by omega⟩
  intro d
  induction d with
  | zero =>
    intro i k s h hk s0 s1
    obtain ⟨k, rfl⟩ : ∃ k', k = k' + 1 := ⟨k - 1, by omega⟩
    rw [herbariumlaw13_Heavy.l0, if_neg (by omega)]
    exact fin k s (by omega)
  | succ d ih =>
    intro i k s h hk s0 s1
    obtain ⟨k, rfl⟩ : ∃ k', k = k' + 1 := ⟨k - 1, by omega⟩
    rw [herbariumlaw13_Heavy.l0, if_pos (by omega)]
    by_cases hs : s < 1048576
    · have hm : rd_L4 L (i : Int) ∈ L := by
        show L.getD (i : Int).toNat [] ∈ L
        rw [Int.toNat_natCast, List.getD_eq_getElem?_getD, List.getElem?_eq_getElem (by omega)]
        exact List.getElem_mem _
      have hl := hF' _ hm
      rw [if_pos hs, if_pos (by omega), wrap_in ((i : Int) + 1) (by omega) (by omega), wrap_in (s + _) (by omega) (by omega)]
      obtain ⟨r, h3, h4⟩ := ih (i + 1) k (s + ((rd_L4 L (i : Int)).length : Int)) (by omega) (by omega) (by omega) (by omega)
      exact ⟨r, h3, fun h => by have := h4 h; omega⟩
    · rw [if_neg hs]
      exact fin k s (by omega)

variable (L : List (List S41)) (l1 : List Int) (l2 : List S27) (l3 : List Int) (bs : List Int)

theorem finds_m (i j : Nat) (hj : j < bs.length) (l : List S41) (m : Int) (h0 : -1 ≤ m) (h1 : m < 9) (k : Nat) (hk : 2900 ≤ k) :
    herbariumlaw13_SpaceFinds.l2 (k + 1 + 1) bs (i : Int) l (j : Int) (takenR l (rd bs (j : Int))).isSome m L l1 l2 l3 = herbariumlaw13_SpaceFinds.l2 k bs (i : Int) l (j : Int) (takenR l (rd bs (j : Int))).isSome (m + 1) L l1 l2 l3 := by
  rw [herbariumlaw13_SpaceFinds.l2, if_pos h1, if_pos (by omega), if_pos (by omega), find_eq _ _ _ _ (by omega), Option.bind_some]
  have off : ∀ z : Bool, findR l (rd bs (j : Int)) m = (0, 1) → herbariumlaw13_SpaceFinds.j7 (k + 1) bs (i : Int) l (j : Int) z m (findR l (rd bs (j : Int)) m).1 (findR l (rd bs (j : Int)) m).2 1 0 false L l1 l2 l3 = herbariumlaw13_SpaceFinds.l2 k bs (i : Int) l (j : Int) z (m + 1) L l1 l2 l3 := by
    intro z h
    rw [h, herbariumlaw13_SpaceFinds.j7, if_neg (by decide), herbariumlaw13_num.f, Option.bind_some, if_pos rfl, if_pos rfl, wrap_in _ (by omega) (by omega)]
  cases ht : takenR l (rd bs (j : Int)) with
  | none =>
    rw [show (none : Option (List Bool)).isSome = false from rfl, if_neg (by decide)]
    exact off false (by unfold findR; rw [ht])
  | some t =>
    rw [show (some t).isSome = true from rfl, if_pos rfl]
    unfold herbariumref0_Between.f
    by_cases hm : m ≥ 1
    · rw [if_pos hm, Option.bind_some, decide_eq_true (by omega), herbariumlaw13_SpaceFinds.j7, if_pos rfl, if_pos (by omega), if_pos (by omega), findRef_eq l _ m t ht k hk, Option.bind_some]
      have hf : findR l (rd bs (j : Int)) m = found (findL m (runsL 0 0 t)) := by
        unfold findR; rw [ht]; simp only; rw [if_pos ⟨by omega, by omega⟩]
      rw [hf]
      obtain ⟨m', rfl⟩ := Int.eq_ofNat_of_zero_le (show 0 ≤ m by omega)
      cases hx : findL (m' : Int) (runsL 0 0 t) with
      | none =>
        simp only [found, herbariumlaw13_num.f, Option.bind_some]
        rw [if_neg (by decide), if_pos trivial, if_pos trivial, wrap_in _ (by omega) (by omega)]
      | some x =>
        obtain ⟨a, ha, _⟩ := find_first m' (by omega) t t 0 0 (by simp) (by simp) (by omega) (fun j h1 h2 => by omega) x hx
        simp only [found, herbariumlaw13_num.f, Option.bind_some]
        rw [if_pos (by omega), if_pos trivial, if_pos trivial, wrap_in _ (by omega) (by omega)]
    · rw [if_neg hm, Option.bind_some]
      exact off true (by unfold findR; rw [ht]; simp only; rw [if_neg (fun h => hm h.1)])

theorem finds_l2 (i j : Nat) (hj : j < bs.length) (l : List S41) (K : Nat) (hK : 2900 ≤ K) (R : ∀ k, K ≤ k → herbariumlaw13_SpaceFinds.l1 k bs (i : Int) l ((j : Int) + 1) L l1 l2 l3 = some true) (hj' : (j : Int) < 9223372036854775806) : ∀ (d k : Nat), d ≤ 10 → K + 2 * d + 1 ≤ k →
    herbariumlaw13_SpaceFinds.l2 k bs (i : Int) l (j : Int) (takenR l (rd bs (j : Int))).isSome (9 - (d : Int)) L l1 l2 l3 = some true := by
  intro d
  induction d with
  | zero =>
    intro k hd hk
    obtain ⟨k, rfl⟩ : ∃ k', k = k' + 1 := ⟨k - 1, by omega⟩
    rw [herbariumlaw13_SpaceFinds.l2, if_neg (by omega), wrap_in _ (by omega) (by omega)]
    exact R k (by omega)
  | succ d ih =>
    intro k hd hk
    obtain ⟨k, rfl⟩ : ∃ k', k = k' + 1 + 1 := ⟨k - 2, by omega⟩
    rw [finds_m L l1 l2 l3 bs i j hj l _ (by omega) (by omega) k (by omega), show 9 - ((d + 1 : Nat) : Int) + 1 = 9 - (d : Int) by omega]
    exact ih k (by omega) (by omega)

theorem finds_j3 (i j : Nat) (hj : j < bs.length) (l : List S41) (K : Nat) (hK : 2900 ≤ K) (R : ∀ k, K ≤ k → herbariumlaw13_SpaceFinds.l1 k bs (i : Int) l ((j : Int) + 1) L l1 l2 l3 = some true) (hj' : (j : Int) < 9223372036854775806) (k : Nat) (hk : K + 24 ≤ k) :
    herbariumlaw13_SpaceFinds.j3 k bs (i : Int) l (j : Int) true L l1 l2 l3 = some true := by
  obtain ⟨k, rfl⟩ : ∃ k', k = k' + 1 + 1 + 1 := ⟨k - 3, by omega⟩
  have fin := finds_l2 L l1 l2 l3 bs i j hj l K hK R hj' 10 k (by omega) (by omega)
  have j5 : ∀ a : Int, herbariumlaw13_SpaceFinds.j5 (k + 1) bs (i : Int) l (j : Int) (takenR l (rd bs (j : Int))).isSome (a != a) L l1 l2 l3 = some true := by
    intro a
    rw [show (a != a) = false by simp, herbariumlaw13_SpaceFinds.j5, if_neg (by decide)]
    exact fin
  have j4 : ∀ (x y : List S41) (g a n c : Int), x = y → x.length ≤ 1000 → checkR l (rd bs (j : Int)) = c → g = c → n = c → herbariumlaw13_SpaceFinds.j4 (k + 1 + 1) bs (i : Int) l (j : Int) (takenR l (rd bs (j : Int))).isSome x g a n c a y L l1 l2 l3 = some true := by
    intro x y g a n c h1 h2 h3 h4 h5
    subst h1 h4 h5
    rw [herbariumlaw13_SpaceFinds.j4, if_pos (by omega), if_pos (by omega), check_eq _ _ _ (by omega), Option.bind_some, h3]
    simp only [herbariumlaw13_num.f, Option.bind_some, if_true]
    rw [eqRuns_self x (by omega) _ (by omega), Option.bind_some, if_pos rfl]
    exact j5 a
  rw [herbariumlaw13_SpaceFinds.j3, if_pos rfl, if_pos (by omega), if_pos (by omega), place_eq _ _ _ (by omega), Option.bind_some, gapsR_eq _ _ _ (by omega), Option.bind_some, free_eq _ _ _ (by omega), Option.bind_some]
  cases ht : takenR l (rd bs (j : Int)) with
  | none =>
    rw [show (none : Option (List Bool)).isSome = false from rfl, if_neg (by decide)]
    have h1 : gapsR l (rd bs (j : Int)) = ([], 1) := by unfold gapsR; rw [ht]
    have h2 : freeR l (rd bs (j : Int)) = (0, 1) := by unfold freeR; rw [ht]
    have h3 : checkR l (rd bs (j : Int)) = 1 := by unfold checkR; rw [ht]
    rw [h1, h2]
    rw [ht] at j4
    exact j4 [] [] 1 0 1 1 rfl (by simp) h3 rfl rfl
  | some t =>
    rw [show (some t).isSome = true from rfl, if_pos rfl, gapRef_eq l _ t ht _ (by omega), Option.bind_some, freeRef_eq l _ t ht _ (by omega), Option.bind_some]
    obtain ⟨q1, q2, q3, q4⟩ := takenR_length ht
    have hl := runs_len t 0 0
    have h1 : gapsR l (rd bs (j : Int)) = (runsL 0 0 t, 0) := by unfold gapsR; rw [ht]
    have h2 : freeR l (rd bs (j : Int)) = (((t.count false : Nat) : Int), 0) := by unfold freeR; rw [ht]
    have h3 : checkR l (rd bs (j : Int)) = 0 := by unfold checkR; rw [ht]
    rw [h1, h2]
    rw [ht] at j4
    exact j4 (runsL 0 0 t) (runsL 0 0 t) 0 _ 0 0 rfl (by omega) h3 rfl rfl

theorem finds_l1 (i : Nat) (hi : i < L.length) (hi' : i < 5) (K : Nat) (hK : 2900 ≤ K) (hl : (rd_L4 L (i : Int)).length < K) (hl' : (rd_L4 L (i : Int)).length < 9223372036854775807) (R : ∀ k, K ≤ k → herbariumlaw13_SpaceFinds.l0 k bs ((i : Int) + 1) L l1 l2 l3 = some true) : ∀ (d j k : Nat), j + d = 8 → K + 30 * d + 30 ≤ k →
    herbariumlaw13_SpaceFinds.l1 k bs (i : Int) (rd_L4 L (i : Int)) (j : Int) L l1 l2 l3 = some true := by
  have out : ∀ (j k : Nat), K + 2 ≤ k → herbariumlaw13_SpaceFinds.j3 k bs (i : Int) (rd_L4 L (i : Int)) (j : Int) false L l1 l2 l3 = some true := by
    intro j k hk
    obtain ⟨k, rfl⟩ : ∃ k', k = k' + 1 := ⟨k - 1, by omega⟩
    rw [herbariumlaw13_SpaceFinds.j3, if_neg (by decide), if_pos (by omega), if_pos (by omega), eqRuns_self _ hl' _ (by omega), Option.bind_some, if_pos rfl, wrap_in _ (by omega) (by omega)]
    exact R k (by omega)
  intro d
  induction d with
  | zero =>
    intro j k h hk
    obtain ⟨k, rfl⟩ : ∃ k', k = k' + 1 := ⟨k - 1, by omega⟩
    rw [herbariumlaw13_SpaceFinds.l1]
    split
    · rw [decide_eq_false (by omega)]; exact out j k (by omega)
    · exact out j k (by omega)
  | succ d ih =>
    intro j k h hk
    obtain ⟨k, rfl⟩ : ∃ k', k = k' + 1 := ⟨k - 1, by omega⟩
    rw [herbariumlaw13_SpaceFinds.l1]
    by_cases hj : j < bs.length
    · rw [if_pos (by omega), decide_eq_true (by omega)]
      exact finds_j3 L l1 l2 l3 bs i j hj _ (K + 30 * d + 30) (by omega) (fun k hk => ih (j + 1) k (by omega) hk) (by omega) k (by omega)
    · rw [if_neg (by omega)]; exact out j k (by omega)

theorem need_yes (s : ByteArray) (n : Int) (h : Pu.MayP s n) : ∃ v, space_Need.f s n = some (v, 0) ∧ herbariumref13_Need.f s n = some v := by
  unfold space_Need.f
  rw [may_eq, decide_eq_true h, Option.bind_some, if_pos rfl]
  unfold space_Blocks.f herbariumref13_Need.f
  exact ⟨_, rfl, rfl⟩
theorem need_no (s : ByteArray) (n : Int) (h : ¬ Pu.MayP s n) : space_Need.f s n = some (0, 1) := by
  unfold space_Need.f
  rw [may_eq, decide_eq_false h, Option.bind_some, if_neg (by decide)]
theorem within32 : herbariumlaw0_Within.f 3 2 = some 1 := by decide +kernel
theorem finds_out (K : Nat) (hK : 8100 ≤ K) (q k : Nat) (hk : K < k) : herbariumlaw13_SpaceFinds.j9 k (q : Int) false L l1 l2 l3 = some true := by
  obtain ⟨k, rfl⟩ : ∃ k', k = k' + 1 := ⟨k - 1, by omega⟩
  rw [herbariumlaw13_SpaceFinds.j9, if_neg (by decide), within32, Option.bind_some, if_pos rfl, wakes13' k (by omega), Option.bind_some]
theorem finds_bits (hl2 : l2.length < 9223372036854775807) (q : Nat) (hq : q < l2.length) (k : Nat) (hk : 8100 ≤ k) (next : herbariumlaw13_SpaceFinds.l3 k ((q : Int) + 1) L l1 l2 l3 = some true) : herbariumlaw13_SpaceFinds.j9 (k + 1) (q : Int) true L l1 l2 l3 = some true := by
  have hw : wrap64 ((q : Int) + 1) = (q : Int) + 1 := wrap_in _ (by omega) (by omega)
  rw [herbariumlaw13_SpaceFinds.j9, if_pos rfl, if_pos (by omega), if_pos (by omega), refBits_eq _ _ k hk, hw, next]
  by_cases hm : Pu.MayP (rd_T27 l2 (q : Int)).f0 (rd_T27 l2 (q : Int)).f1
  · obtain ⟨v, h1, h2⟩ := need_yes _ _ hm
    rw [h1, Option.bind_some, decide_eq_true hm, Option.bind_some, if_pos rfl, h2, Option.bind_some, herbariumlaw13_num.f, Option.bind_some, if_pos rfl, if_pos rfl]
  · rw [need_no _ _ hm, Option.bind_some, decide_eq_false hm, Option.bind_some, if_neg (by decide), herbariumlaw13_num.f, Option.bind_some, if_pos rfl, if_pos rfl]
theorem finds_l3 (hl2 : l2.length < 9223372036854775807) (K : Nat) (hK : 8100 ≤ K) : ∀ (d q k : Nat), q + d = 6 → K + 2 * d + 2 ≤ k → herbariumlaw13_SpaceFinds.l3 k (q : Int) L l1 l2 l3 = some true := by
  intro d
  induction d with
  | zero =>
    intro q k h hk
    obtain ⟨k, rfl⟩ : ∃ k', k = k' + 1 := ⟨k - 1, by omega⟩
    rw [herbariumlaw13_SpaceFinds.l3]
    split
    · rw [decide_eq_false (by omega)]; exact finds_out L l1 l2 l3 K hK q k (by omega)
    · exact finds_out L l1 l2 l3 K hK q k (by omega)
  | succ d ih =>
    intro q k h hk
    obtain ⟨k, rfl⟩ : ∃ k', k = k' + 1 + 1 := ⟨k - 2, by omega⟩
    rw [herbariumlaw13_SpaceFinds.l3]
    by_cases hq : q < l2.length
    · rw [if_pos (by omega), decide_eq_true (by omega)]
      have := ih (q + 1) k (by omega) (by omega)
      rw [show ((q + 1 : Nat) : Int) = (q : Int) + 1 by omega] at this
      exact finds_bits L l1 l2 l3 hl2 q hq k (by omega) this
    · rw [if_neg (by omega)]; exact finds_out L l1 l2 l3 K hK q (k + 1) (by omega)

set_option maxRecDepth 100000 in
theorem finds_l0 (hl2 : l2.length < 9223372036854775807) (F : Nat) (hF : ∀ l ∈ L, l.length < F) (hF' : ∀ l ∈ L, l.length ≤ 8796093022208) (G : Nat) (hG : 8200 + F ≤ G) : ∀ (d i k : Nat), i + d = 5 → G + 400 * d ≤ k → herbariumlaw13_SpaceFinds.l0 k bs (i : Int) L l1 l2 l3 = some true := by
  have out : ∀ (i k : Nat), G ≤ k + 1 → herbariumlaw13_SpaceFinds.j1 k bs (i : Int) false L l1 l2 l3 = some true := by
    intro i k hk
    obtain ⟨k, rfl⟩ : ∃ k', k = k' + 1 := ⟨k - 1, by omega⟩
    rw [herbariumlaw13_SpaceFinds.j1, if_neg (by decide)]
    have := finds_l3 L l1 l2 l3 hl2 (G - 20) (by omega) 6 0 k rfl (by omega)
    rw [show ((0 : Nat) : Int) = 0 from rfl] at this
    exact this
  intro d
  induction d with
  | zero =>
    intro i k h hk
    obtain ⟨k, rfl⟩ : ∃ k', k = k' + 1 := ⟨k - 1, by omega⟩
    rw [herbariumlaw13_SpaceFinds.l0]
    split
    · rw [decide_eq_false (by omega)]; exact out i k (by omega)
    · exact out i k (by omega)
  | succ d ih =>
    intro i k h hk
    obtain ⟨k, rfl⟩ : ∃ k', k = k' + 1 + 1 := ⟨k - 2, by omega⟩
    rw [herbariumlaw13_SpaceFinds.l0]
    by_cases hi : i < L.length
    · have hm : rd_L4 L (i : Int) ∈ L := by
        show L.getD (i : Int).toNat [] ∈ L
        rw [Int.toNat_natCast, List.getD_eq_getElem?_getD, List.getElem?_eq_getElem hi]
        exact List.getElem_mem _
      have a1 := hF _ hm
      have a2 := hF' _ hm
      rw [if_pos (by omega), decide_eq_true (by omega), herbariumlaw13_SpaceFinds.j1, if_pos rfl, if_pos (by omega), if_pos (by omega), copy_eq _ a2 _ (by omega), Option.bind_some]
      obtain ⟨K, hK⟩ : ∃ K, K = G + 400 * d := ⟨_, rfl⟩
      have R : ∀ k, K ≤ k → herbariumlaw13_SpaceFinds.l0 k bs ((i : Int) + 1) L l1 l2 l3 = some true := fun k hk => by
        have := ih (i + 1) k (by omega) (by omega)
        rw [show ((i + 1 : Nat) : Int) = (i : Int) + 1 by omega] at this
        exact this
      have k0 : 2900 ≤ K := by omega
      have k1 : K + 30 * 8 + 30 ≤ k := by omega
      have k2 : (rd_L4 L (i : Int)).length < K := by omega
      have := finds_l1 L l1 l2 l3 bs i hi (by omega) K k0 k2 (by omega) R 8 0 k rfl k1
      rw [show ((0 : Nat) : Int) = 0 from rfl] at this
      exact this
    · rw [if_neg (by omega)]; exact out i (k + 1) (by omega)
theorem lens (P : List (List S41)) : ∃ F, ∀ l ∈ P, l.length < F := by
  induction P with
  | nil => exact ⟨0, fun l h => by cases h⟩
  | cons a r ih =>
    obtain ⟨F, h⟩ := ih
    refine ⟨F + a.length + 1, fun l hl => ?_⟩
    rcases List.mem_cons.1 hl with rfl | hl
    · omega
    · have := h l hl; omega
theorem SpaceFinds : ∀ (l0 : List (List S41)) (l1 : List Int) (l2 : List S27) (l3 : List Int), Op.GoodL l0 → Op.GoodN l1 → Op.GoodB l2 → Op.GoodN l3 → ∃ k, Q.herbariumlaw13_SpaceFinds.f k l0 l1 l2 l3 = some true := by
  intro l0 l1 l2 l3 g0 g1 g2 g3
  have r0 : reachBytes ≤ 140737488355328 := by unfold reachBytes; decide
  have h0 := g0.1
  have h1 := g1.1
  have h2 := g2.1
  obtain ⟨F, hF⟩ := lens l0
  refine ⟨11000 + F + l0.length + l2.length, ?_⟩
  unfold herbariumlaw13_SpaceFinds.f herbariumlaw13_Heavy.f
  have hF' : ∀ l ∈ l0, l.length ≤ 8796093022208 := fun l hl => by have := (g0.2 l hl).1; omega
  rw [wrap_in _ (by omega) (by omega)]
  obtain ⟨r, hr, hr2⟩ := heavy13' l0 l1 l2 l3 (by omega) (by omega) hF' l0.length 0 (11000 + F + l0.length + l2.length) ((l0.length : Int) + (l1.length : Int)) (by omega) (by omega) (by omega) (by omega)
  rw [show ((0 : Nat) : Int) = 0 from rfl] at hr
  rw [hr, Option.bind_some]
  cases r with
  | true => rfl
  | false =>
    have hr3 := hr2 rfl
    rw [if_neg (by decide), Option.bind_some, if_pos (by simp only [List.length_cons, List.length_nil]; omega)]
    have := finds_l0 l0 l1 l2 l3 ([20, 1, 0, 100, 101] ++ l1) (by omega) F hF hF' (8900 + F) (by omega) 5 0 (11000 + F + l0.length + l2.length) rfl (by omega)
    rw [show ((0 : Nat) : Int) = 0 from rfl] at this
    exact this
end Go.Proofs.Ytnpghcikhpglkaa.Pure
