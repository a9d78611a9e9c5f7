/- How many bits 0 there are ahead of the next 1: the program's answer as a law on lists. -/
import Derived.Test.YtnpghcikhpglkaaPb
namespace Go.Proofs.Ytnpghcikhpglkaa.Pb
open Go.RowKit Go.Proofs.YtnpghcikhpglkaaW.PrintWords Go.Proofs.YtnpghcikhpglkaaW.PrintLast Go.Proofs.YtnpghcikhpglkaaW.PrintMore Go.Proofs.Ytnpghcikhpglkaa.Hand Go.Proofs.Ytnpghcikhpglkaa.Pu Go.Proofs.Ytnpghcikhpglkaa.Q
set_option linter.unusedVariables false
set_option linter.unusedSimpArgs false

/-- How many bits 0 stand ahead of the first 1; -1: there is no 1. -/
def zerosL : List Int → Int
  | [] => -1
  | b :: r => if b = 1 then 0 else if zerosL r < 0 then -1 else zerosL r + 1
theorem zerosL_range (l : List Int) : -1 ≤ zerosL l ∧ zerosL l < (l.length : Int) := by
  induction l with
  | nil => simp [zerosL]
  | cons b r ih =>
    simp only [zerosL, List.length_cons]
    split
    · omega
    · split <;> omega
theorem zerosL_rep (n : Nat) (r : List Int) : zerosL (List.replicate n 0 ++ 1 :: r) = n := by
  induction n with
  | zero => simp [zerosL]
  | succ n ih =>
    simp only [List.replicate_succ, List.cons_append, zerosL, ih]
    rw [if_neg (by decide), if_neg (by omega)]
    omega
theorem zerosL_none (l : List Int) (h : ∀ x ∈ l, x = 0) : zerosL l = -1 := by
  induction l with
  | nil => rfl
  | cons b r ih =>
    have hb := h b List.mem_cons_self
    simp only [zerosL]
    rw [if_neg (by omega), ih (fun x hx => h x (List.mem_cons_of_mem _ hx)), if_pos (by omega)]
/-- What stands there. -/
theorem zerosL_split (l : List Int) (h : 0 ≤ zerosL l) (hb : IsBits l) : ∃ r, l = List.replicate (zerosL l).toNat 0 ++ 1 :: r := by
  induction l with
  | nil => simp [zerosL] at h
  | cons b r ih =>
    have hbb := hb b List.mem_cons_self
    simp only [zerosL] at h ⊢
    by_cases h1 : b = 1
    · rw [if_pos h1]
      exact ⟨r, by simp [h1]⟩
    · rw [if_neg h1] at h ⊢
      by_cases h2 : zerosL r < 0
      · rw [if_pos h2] at h; omega
      · rw [if_neg h2]
        obtain ⟨q, hq⟩ := ih (by omega) (fun x hx => hb x (List.mem_cons_of_mem _ hx))
        refine ⟨q, ?_⟩
        have hb0 : b = 0 := by omega
        have : (zerosL r + 1).toNat = (zerosL r).toNat + 1 := by omega
        rw [this, List.replicate_succ, List.cons_append, hb0, ← hq]

theorem ahead_loop (l : List Int) (hl : IsBits l) (hlen : l.length ≤ 1000000) (x : Int) (hx : 0 ≤ x) (d : Nat) : ∀ (k i : Nat), i + d = l.length → d < k → x ≤ i →
    bits_Ahead.l0 k x (i : Int) (packS l) (l.length : Int) = some (if zerosL (l.drop i) < 0 then -1 else (i : Int) + zerosL (l.drop i) - x) := by
  induction d with
  | zero =>
    intro k i hi hk hxi
    obtain ⟨k, rfl⟩ : ∃ m, k = m + 1 := ⟨k - 1, by omega⟩
    simp only [bits_Ahead.l0]
    rw [if_neg (by omega), List.drop_eq_nil_of_le (by omega)]
    rfl
  | succ d ih =>
    intro k i hi hk hxi
    obtain ⟨k, rfl⟩ : ∃ m, k = m + 1 := ⟨k - 1, by omega⟩
    have hsz := packS_size l
    have hb := bit_some (packS l) (l.length : Int) (i : Int) (by omega) (by omega) (by omega)
    rw [bitOf_packS l hl i (by omega)] at hb
    have hd : l.drop i = l.getD i 0 :: l.drop (i + 1) := by
      rw [List.drop_eq_getElem_cons (by omega), List.getD_eq_getElem?_getD, List.getElem?_eq_getElem (by omega)]
      rfl
    have hz := zerosL_range (l.drop (i + 1))
    simp only [bits_Ahead.l0]
    rw [if_pos (by omega), hb, Option.bind_some, hd]
    by_cases h1 : l.getD i 0 = 1
    · have hc : zerosL (l.getD i 0 :: l.drop (i + 1)) = 0 := by simp only [zerosL]; rw [if_pos h1]
      rw [if_pos h1, hc, wrap_in _ (by omega) (by omega), if_neg (by omega)]
      simp
    · rw [if_neg h1, wrap_in _ (by omega) (by omega)]
      have := ih k (i + 1) (by omega) (by omega) (by omega)
      rw [show ((i + 1 : Nat) : Int) = (i : Int) + 1 by omega] at this
      rw [this]
      by_cases h2 : zerosL (l.drop (i + 1)) < 0
      · have hc : zerosL (l.getD i 0 :: l.drop (i + 1)) = -1 := by simp only [zerosL]; rw [if_neg h1, if_pos h2]
        rw [if_pos h2, hc, if_pos (by omega)]
      · have hc : zerosL (l.getD i 0 :: l.drop (i + 1)) = zerosL (l.drop (i + 1)) + 1 := by simp only [zerosL]; rw [if_neg h1, if_neg h2]
        rw [if_neg h2, hc, if_neg (by omega)]
        congr 1
        omega
theorem ahead_eq (l : List Int) (hl : IsBits l) (hlen : l.length ≤ 1000000) (a : Nat) (ha : a ≤ l.length) (k : Nat) (hk : l.length < k) : bits_Ahead.f k (packS l) (l.length : Int) (a : Int) = some (zerosL (l.drop a)) := by
  have h := ahead_loop l hl hlen (a : Int) (by omega) (l.length - a) k a (by omega) (by omega) (Int.le_refl _)
  have hz := zerosL_range (l.drop a)
  unfold bits_Ahead.f
  rw [h]
  congr 1
  split <;> omega

/-- bits.Zeros, of bits that may be. -/
def zerosR (l : List Int) (a : Int) : Int × Int :=
  if 0 ≤ a ∧ a ≤ (l.length : Int) then (if zerosL (l.drop a.toNat) < 0 then (0, 9) else (zerosL (l.drop a.toNat), 0)) else (0, 1)
theorem zeros_eq (l : List Int) (hl : IsBits l) (hlen : l.length ≤ 6000) (a : Int) (k : Nat) (hk : l.length + 1 < k) : bits_Zeros.f k (packS l) (l.length : Int) a = some (zerosR l a) := by
  obtain ⟨k, rfl⟩ : ∃ m, k = m + 1 := ⟨k - 1, by omega⟩
  unfold bits_Zeros.f zerosR
  rw [may_eq, decide_eq_true (may_packS l hl hlen)]
  simp only [Option.bind_some, if_true]
  by_cases h0 : a < 0
  · rw [if_pos h0, if_neg (fun h => by omega)]
    simp only [bits_Zeros.j0, if_true]
  · rw [if_neg h0]
    by_cases h1 : a > (l.length : Int)
    · rw [decide_eq_true h1, if_neg (fun h => by omega)]
      simp only [bits_Zeros.j0, if_true]
    · rw [decide_eq_false h1, if_pos ⟨by omega, by omega⟩]
      obtain ⟨a', rfl⟩ := Int.eq_ofNat_of_zero_le (show 0 ≤ a by omega)
      simp only [bits_Zeros.j0]
      rw [if_neg (by decide), ahead_eq l hl (by omega) a' (by omega) k (by omega), Option.bind_some, Int.toNat_natCast]
      have hz := zerosL_range (l.drop a')
      split <;> rfl
theorem putL_1 (n : Nat) : putL (n + 1) 1 = List.replicate n 0 ++ [1] := by
  induction n with
  | zero => rfl
  | succ n ih =>
    have : (1 : Int) / 2 ^ (n + 1) % 2 = 0 := by
      have h : (1 : Int) < 2 ^ (n + 1) := by
        have := Nat.one_lt_two_pow (n := n + 1) (by omega)
        exact_mod_cast this
      rw [Int.ediv_eq_zero_of_lt (by omega) h]
      rfl
    rw [putL, this, ih]
    rfl
end Go.Proofs.Ytnpghcikhpglkaa.Pb
