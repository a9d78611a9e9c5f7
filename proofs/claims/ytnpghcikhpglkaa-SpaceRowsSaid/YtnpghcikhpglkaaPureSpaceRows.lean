/- SpaceRows: the plain statement. -/
import Derived.Test.YtnpghcikhpglkaaOp
import Derived.Test.YtnpghcikhpglkaaQ6
import Derived.Test.YtnpghcikhpglkaaWi
namespace Go.Proofs.Ytnpghcikhpglkaa.Pure
open Go.RowKit Go.Proofs.YtnpghcikhpglkaaW.PrintWords Go.Proofs.YtnpghcikhpglkaaW.PrintLast Go.Proofs.YtnpghcikhpglkaaW.PrintMore Go.Proofs.Ytnpghcikhpglkaa.Q

/-- Behind the rows: a whole device. -/
def rowsTail (k : Nat) (b : Int) : Option Bool :=
  (space_Find.f k ([] : List (S41)) b b).bind fun bt177 => ((space_Find.f k (([(⟨0, b⟩ : S41)] : List (S41))) b 1).bind fun bt182 => ((herbariumlaw13_num.f bt177.2).bind fun t184 => (if t184 = 0 then (if bt177.1 = 0 then ((herbariumlaw13_num.f bt182.2).bind fun t185 => (if t185 = 5 then ((herbariumlaw13_wakes.f k).bind fun t186 => (some t186)) else (some false))) else (some false)) else (some false))))
theorem tail_all : ∀ m : Fin 100, rowsTail 230 (1 + ((m.val : Nat) : Int)) = some true := by decide +kernel

/-- So many rounds of the rows' making. -/
def rowsAt : Nat → List S41 × List S41 × Int
  | 0 => ([], [], 0)
  | i + 1 => ((rowsAt i).1 ++ [⟨(rowsAt i).2.2, 1 + Int.tmod (i : Int) 3⟩], (rowsAt i).2.1 ++ [⟨2 * (i : Int), 1⟩], (rowsAt i).2.2 + 1 + Int.tmod (i : Int) 3)
theorem rowsAt_len (i : Nat) : (rowsAt i).1.length = i ∧ (rowsAt i).2.1.length = i ∧ 0 ≤ (rowsAt i).2.2 ∧ (rowsAt i).2.2 ≤ 3 * i := by
  induction i with
  | zero => simp [rowsAt]
  | succ i ih =>
    have : Int.tmod (i : Int) 3 = (i : Int) % 3 := Int.tmod_eq_emod_of_nonneg (by omega)
    simp only [rowsAt, List.length_append, List.length_singleton, this]
    omega

theorem rows_make (l0 : List (List S41)) (l1 : List Int) (l2 : List S27) (l3 : List Int) (n : Nat) (hn : n ≤ 12) (k : Nat) (d : Nat) : ∀ i, i + d = n →
    herbariumlaw13_SpaceRows.l1 (k + d) n (rowsAt i).1 (rowsAt i).2.1 (rowsAt i).2.2 i l0 l1 l2 l3 = herbariumlaw13_SpaceRows.l1 k n (rowsAt n).1 (rowsAt n).2.1 (rowsAt n).2.2 n l0 l1 l2 l3 := by
  induction d with
  | zero => intro i hi; obtain rfl : i = n := by omega
            rfl
  | succ d ih =>
    intro i hi
    have h := ih (i + 1) (by omega)
    obtain ⟨h1, h2, h3, h4⟩ := rowsAt_len i
    have ht : Int.tmod (i : Int) 3 = (i : Int) % 3 := Int.tmod_eq_emod_of_nonneg (by omega)
    rw [← h, show k + (d + 1) = (k + d) + 1 by omega]
    simp only [herbariumlaw13_SpaceRows.l1]
    rw [if_pos (by omega), if_pos (by omega), if_pos (by omega)]
    rw [ht]
    simp (disch := omega) only [wrap_in]
    simp only [rowsAt, ht]
    rfl

/-- What a row's answers are. -/
def rowsGood (n : Nat) : Bool :=
  (space_Find.f 100 (rowsAt n).1 60 5 == some ((rowsAt n).2.2, 0)) && (space_Find.f 100 (rowsAt n).2.1 (2 * (n : Int)) 1 == some (1, 0)) && (space_Find.f 100 (rowsAt n).2.1 (2 * (n : Int)) 2 == some (0, 5)) &&
  (space_Free.f 100 (rowsAt n).2.1 (2 * (n : Int)) == some ((n : Int), 0)) && ((space_Gaps.f 100 (rowsAt n).2.1 (2 * (n : Int))).map (fun x => ((x.1.length : Int), x.2)) == some ((n : Int), 0))
theorem rows_good : ∀ n : Fin 12, rowsGood (n.val + 1) = true := by decide +kernel

theorem rows_step (l0 : List (List S41)) (l1 : List Int) (l2 : List S27) (l3 : List Int) (n : Nat) (hn0 : 1 ≤ n) (hn : n ≤ 12) (k : Nat) (hk : 100 ≤ k) :
    herbariumlaw13_SpaceRows.l0 (k + n + 2) n l0 l1 l2 l3 = herbariumlaw13_SpaceRows.l0 k (n + 1) l0 l1 l2 l3 := by
  have hg := rows_good ⟨n - 1, by omega⟩
  simp only [show n - 1 + 1 = n by omega] at hg
  unfold rowsGood at hg
  simp only [Bool.and_eq_true, beq_iff_eq] at hg
  obtain ⟨⟨⟨⟨g1, g2⟩, g3⟩, g4⟩, g5⟩ := hg
  obtain ⟨⟨gl, ge⟩, g5', g6⟩ := Option.map_eq_some_iff.1 g5
  simp only [Prod.mk.injEq] at g6
  obtain ⟨g6, rfl⟩ := g6
  have m1 := at_rounds (space_Find.mono _ _ _) hk g1
  have m2 := at_rounds (space_Find.mono _ _ _) hk g2
  have m3 := at_rounds (space_Find.mono _ _ _) hk g3
  have m4 := at_rounds (space_Free.mono _ _) hk g4
  have m5 := at_rounds (space_Gaps.mono _ _) hk g5'
  rw [show k + n + 2 = (k + 1 + n) + 1 by omega]
  simp only [herbariumlaw13_SpaceRows.l0]
  rw [if_pos (by omega)]
  have hmk := rows_make l0 l1 l2 l3 n hn (k + 1) n 0 (by omega)
  have hmk' : herbariumlaw13_SpaceRows.l1 (k + 1 + n) n [] [] 0 0 l0 l1 l2 l3 = _ := hmk
  rw [hmk']
  simp only [herbariumlaw13_SpaceRows.l1]
  rw [if_neg (by omega)]
  have w1 : wrap64 (2 * (n : Int)) = 2 * (n : Int) := wrap_in _ (by omega) (by omega)
  have w2 : wrap64 ((n : Int) + 1) = (n : Int) + 1 := wrap_in _ (by omega) (by omega)
  rw [w1, w2, m1, Option.bind_some, m2, Option.bind_some, m3, Option.bind_some, m4, Option.bind_some, m5, Option.bind_some]
  simp only [Option.bind_some, herbariumlaw13_num.f, g6, if_true]

theorem SpaceRows : ∀ (l0 : List (List S41)) (l1 : List Int) (l2 : List S27) (l3 : List Int), Op.GoodL l0 → Op.GoodN l1 → Op.GoodB l2 → Op.GoodN l3 → ∃ k, Q.herbariumlaw13_SpaceRows.f k l0 l1 l2 l3 = some true := by
  intro l0 l1 l2 l3 _ _ _ _
  refine ⟨333, ?_⟩
  unfold herbariumlaw13_SpaceRows.f
  have s := rows_step l0 l1 l2 l3
  have e1 := s 1 (by omega) (by omega) 330 (by omega)
  have e2 := s 2 (by omega) (by omega) 326 (by omega)
  have e3 := s 3 (by omega) (by omega) 321 (by omega)
  have e4 := s 4 (by omega) (by omega) 315 (by omega)
  have e5 := s 5 (by omega) (by omega) 308 (by omega)
  have e6 := s 6 (by omega) (by omega) 300 (by omega)
  have e7 := s 7 (by omega) (by omega) 291 (by omega)
  have e8 := s 8 (by omega) (by omega) 281 (by omega)
  have e9 := s 9 (by omega) (by omega) 270 (by omega)
  have e10 := s 10 (by omega) (by omega) 258 (by omega)
  have e11 := s 11 (by omega) (by omega) 245 (by omega)
  have e12 := s 12 (by omega) (by omega) 231 (by omega)
  have hm := tail_all ⟨l1.length % 100, Nat.mod_lt _ (by decide)⟩
  have he : (1 : Int) + ((l1.length % 100 : Nat) : Int) = 1 + (l1.length : Int) % 100 := by omega
  simp only [he] at hm
  refine (e1.trans (e2.trans (e3.trans (e4.trans (e5.trans (e6.trans (e7.trans (e8.trans (e9.trans (e10.trans (e11.trans (e12.trans ?_))))))))))))
  rw [herbariumlaw13_SpaceRows.l0]
  rw [if_neg (by decide)]
  exact hm
end Go.Proofs.Ytnpghcikhpglkaa.Pure
