/- BitsZeros: the plain statement. -/
import Derived.Test.YtnpghcikhpglkaaOp
import Derived.Test.YtnpghcikhpglkaaPz
import Derived.Test.YtnpghcikhpglkaaQ25
namespace Go.Proofs.Ytnpghcikhpglkaa.Pure
open Go.RowKit Go.Proofs.YtnpghcikhpglkaaW.PrintWords Go.Proofs.YtnpghcikhpglkaaW.PrintLast Go.Proofs.YtnpghcikhpglkaaW.PrintMore Go.Proofs.Ytnpghcikhpglkaa.Q Go.Proofs.Ytnpghcikhpglkaa.Pu Go.Proofs.Ytnpghcikhpglkaa.Pb

theorem wakes1z (k : Nat) (hk : 40 ≤ k) : herbariumlaw1_wakes.f k = some true := by
  unfold herbariumlaw1_wakes.f
  have h1 : bits_Put.f (⟨#[]⟩ : ByteArray) 0 5 3 = some (packS (putL 3 5), ((putL 3 5).length : Int), 0) := put_nil 5 3 (by omega) (by omega) (by omega)
  rw [h1]
  simp only [Option.bind_some]
  rw [get_eq (putL 3 5) (putL_bits 3 5) (by rw [putL_length]; omega) 0 3 (by omega) k hk]
  simp only [Option.bind_some, herbariumlaw1_num.f]
  decide +kernel

/-- So many bits 0, a 1, three bits 0. -/
def zl (n : Nat) : List Int := List.replicate n 0 ++ 1 :: [0, 0, 0]
theorem zl_length (n : Nat) : (zl n).length = n + 4 := by simp [zl]
theorem zl_bits (n : Nat) : IsBits (zl n) := by
  intro x hx
  simp only [zl, List.mem_append, List.mem_replicate, List.mem_cons, List.not_mem_nil, or_false] at hx
  omega
theorem zl_ahead (n a : Nat) (h : a ≤ n) : zerosL ((zl n).drop a) = ((n - a : Nat) : Int) := by
  have : (zl n).drop a = List.replicate (n - a) 0 ++ 1 :: [0, 0, 0] := by
    unfold zl
    rw [List.drop_append_of_le_length (by simp; omega), List.drop_replicate]
  rw [this, zerosL_rep]
theorem zl_behind (n a : Nat) (h : n < a) : zerosL ((zl n).drop a) = -1 := by
  apply zerosL_none
  intro x hx
  have : (zl n).drop a = ([0, 0, 0] : List Int).drop (a - n - 1) := by
    unfold zl
    rw [List.drop_append, List.drop_eq_nil_of_le (by simp; omega), List.length_replicate, List.nil_append, show a - n = (a - n - 1) + 1 by omega, List.drop_succ_cons]
    simp
  rw [this] at hx
  have := List.mem_of_mem_drop hx
  simpa using this

theorem zeros_loop (n : Nat) (hn : n < 30) (d : Nat) : ∀ (k a : Nat), a + d = n + 5 → d + 100 < k → herbariumlaw1_BitsZeros.l0 k (n : Int) (a : Int) (packS (zl n)) ((zl n).length : Int) = some true := by
  induction d with
  | zero =>
    intro k a ha hk
    obtain ⟨k, rfl⟩ : ∃ m, k = m + 1 := ⟨k - 1, by omega⟩
    simp only [herbariumlaw1_BitsZeros.l0]
    rw [wrap_in ((n : Int) + 4) (by omega) (by omega), if_neg (by omega), wrap_in ((n : Int) + 5) (by omega) (by omega), zeros_eq (zl n) (zl_bits n) (by rw [zl_length]; omega) _ k (by rw [zl_length]; omega)]
    have : zerosR (zl n) ((n : Int) + 5) = (0, 1) := by
      unfold zerosR
      rw [if_neg (by rw [zl_length]; omega)]
    rw [this]
    simp only [Option.bind_some, herbariumlaw1_num.f, if_true]
    rw [wakes1z k (by omega)]
    rfl
  | succ d ih =>
    intro k a ha hk
    obtain ⟨k, rfl⟩ : ∃ m, k = m + 1 := ⟨k - 1, by omega⟩
    have hi := ih k (a + 1) (by omega) (by omega)
    rw [show ((a + 1 : Nat) : Int) = (a : Int) + 1 by omega] at hi
    simp only [herbariumlaw1_BitsZeros.l0]
    rw [wrap_in ((n : Int) + 4) (by omega) (by omega), if_pos (by omega), zeros_eq (zl n) (zl_bits n) (by rw [zl_length]; omega) _ k (by rw [zl_length]; omega), wrap_in ((a : Int) + 1) (by omega) (by omega)]
    by_cases h : a ≤ n
    · have : zerosR (zl n) (a : Int) = ((n : Int) - a, 0) := by
        unfold zerosR
        rw [if_pos (by rw [zl_length]; omega), Int.toNat_natCast, zl_ahead n a h, if_neg (by omega)]
        congr 1
        omega
      rw [this]
      simp only [Option.bind_some, herbariumlaw1_num.f, if_true]
      rw [if_pos (by omega), wrap_in ((n : Int) - a) (by omega) (by omega), if_pos rfl, if_neg (by omega)]
      exact hi
    · have : zerosR (zl n) (a : Int) = (0, 9) := by
        unfold zerosR
        rw [if_pos (by rw [zl_length]; omega), Int.toNat_natCast, zl_behind n a (by omega), if_pos (by omega)]
      rw [this]
      simp only [Option.bind_some, herbariumlaw1_num.f, if_true]
      rw [if_neg (by omega), if_pos (by omega)]
      exact hi

theorem zl_put (n : Nat) (hn : n < 30) : bits_Put.f (⟨#[]⟩ : ByteArray) 0 1 ((n : Int) + 1) = some (packS (putL (n + 1) 1), ((putL (n + 1) 1).length : Int), 0) := by
  have hp1 : (1 : Int) < 2 ^ (n + 1) := by
    have := Nat.one_lt_two_pow (n := n + 1) (by omega)
    exact_mod_cast this
  have e1 := put_nil 1 (n + 1) (by omega) (by omega) hp1
  rw [show ((n + 1 : Nat) : Int) = (n : Int) + 1 by omega] at e1
  exact e1
theorem zl_put2 (n : Nat) (hn : n < 30) : bits_Put.f (packS (putL (n + 1) 1)) ((putL (n + 1) 1).length : Int) 0 3 = some (packS (zl n), ((zl n).length : Int), 0) := by
  have hz : putL (n + 1) 1 ++ putL 3 0 = zl n := by
    rw [putL_1]
    simp [zl, putL]
  rw [← hz]
  exact put_some (putL (n + 1) 1) (putL_bits _ _) 0 3 (by omega) (by omega) (by decide) (by rw [putL_length]; omega)
theorem zeros_j0 (k : Nat) (x : Int) (s : ByteArray) (m : Int) : herbariumlaw1_BitsZeros.j0 (k + 1) x false s m = herbariumlaw1_BitsZeros.l0 k x 0 s m := by
  simp only [herbariumlaw1_BitsZeros.j0]
  rfl
theorem zall (n : Nat) (hn : n < 30) (k : Nat) (hk : 300 ≤ k) : (bits_Put.f (⟨#[]⟩ : ByteArray) 0 1 ((n : Int) + 1)).bind (fun bt597 => ((bits_Put.f bt597.1 bt597.2.1 0 3).bind fun bt601 => ((herbariumlaw1_num.f bt597.2.2).bind fun t604 => (if t604 = 0 then ((herbariumlaw1_num.f bt601.2.2).bind fun t605 => (herbariumlaw1_BitsZeros.j0 (k + 1) (n : Int) (t605 != 0) bt601.1 bt601.2.1)) else (herbariumlaw1_BitsZeros.j0 (k + 1) (n : Int) true bt601.1 bt601.2.1))))) = some true := by
  rw [zl_put n hn, Option.bind_some]
  show (bits_Put.f (packS (putL (n + 1) 1)) ((putL (n + 1) 1).length : Int) 0 3).bind _ = some true
  rw [zl_put2 n hn, Option.bind_some]
  simp only [Option.bind_some, herbariumlaw1_num.f, if_true]
  have h1 : ((0 : Int) != 0) = false := by decide
  rw [h1, zeros_j0]
  exact zeros_loop n hn (n + 5) k 0 (by omega) (by omega)
theorem BitsZeros : ∀ (l0 : List S27) (l1 : List Int), Op.GoodB l0 → Op.GoodN l1 → ∃ k, Q.herbariumlaw1_BitsZeros.f k l0 l1 = some true := by
  intro l0 l1 _ _
  obtain ⟨n, hn, hnl⟩ : ∃ n : Nat, n < 30 ∧ (l1.length : Int) % 30 = n := ⟨l1.length % 30, Nat.mod_lt _ (by decide), by omega⟩
  refine ⟨300 + 1, ?_⟩
  unfold herbariumlaw1_BitsZeros.f
  rw [hnl]
  exact zall n hn 300 (Nat.le_refl _)
end Go.Proofs.Ytnpghcikhpglkaa.Pure
