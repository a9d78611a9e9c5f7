/- What the row of GapsExact rests on, part 7 of 7: functions, contracts, plain laws. -/
import Derived.Test.YtnpghcikhpglkaaCGapsExact5
namespace Go.Proofs.Ytnpghcikhpglkaa.Q
open Go.RowKit Go.Proofs.YtnpghcikhpglkaaW.PrintWords Go.Proofs.YtnpghcikhpglkaaW.PrintLast Go.Proofs.YtnpghcikhpglkaaW.PrintMore Go.Proofs.Ytnpghcikhpglkaa.Hand Go.Proofs.Ytnpghcikhpglkaa.Pu
set_option linter.unusedVariables false
set_option linter.unusedSimpArgs false
theorem refbit_some (s : ByteArray) (n i : Int) (h0 : 0 ≤ i) (h1 : i < 8 * s.size) (h2 : i < 1073741824) : herbariumref1_bit.f s n i = some (bitOf s i) := by
  unfold herbariumref1_bit.f
  have e1 : wrap64 (Int.tdiv i 8) = i / 8 := by rw [tdiv8 i h0, wrap_in _ (by omega) (by omega)]
  have e2 : wrap64 (7 - Int.tmod i 8) = 7 - i % 8 := by rw [tmod8 i h0, wrap_in _ (by omega) (by omega)]
  rw [e1, e2, if_pos (by omega), if_pos (by omega), if_pos (by omega)]
  congr 1
  obtain ⟨b0, b1⟩ := bt_range s (i / 8)
  rw [wrap_in (bt s (i / 8)) (by omega) (by omega)]
  have hsh : shr .i64 (bt s (i / 8)) (7 - i % 8) = bt s (i / 8) / 2 ^ (7 - i % 8).toNat := by
    unfold shr
    rw [Nat.min_eq_left (by simp [IntKind.bits]; omega)]
  have hn := div_pow_nonneg (bt s (i / 8)) (7 - i % 8).toNat b0
  have hl := div_pow_le (bt s (i / 8)) (7 - i % 8).toNat b0
  rw [hsh, and_one _ hn (by omega)]
  rfl
def Tail0 (s : ByteArray) (n : Int) : Prop := ∀ i : Nat, n ≤ (i : Int) → (i : Int) < 8 * s.size → bitOf s (i : Int) = 0
theorem tail_l0 (s : ByteArray) (n : Int) (hs : s.size ≤ 1000) : ∀ (d i k : Nat), i + d = 8 * s.size → d + 1 ≤ k → ∃ r, herbariumref1_Bits.l0 k (i : Int) s n = some r ∧ (r = true ↔ Tail0 s (i : Int)) := by
  intro d
  induction d with
  | zero =>
    intro i k h hk
    obtain ⟨k, rfl⟩ : ∃ k', k = k' + 1 := ⟨k - 1, by omega⟩
    rw [herbariumref1_Bits.l0, wrap_in _ (by omega) (by omega), if_neg (by omega)]
    exact ⟨true, rfl, by simp only [true_iff]; intro j h1 h2; omega⟩
  | succ d ih =>
    intro i k h hk
    obtain ⟨k, rfl⟩ : ∃ k', k = k' + 1 := ⟨k - 1, by omega⟩
    rw [herbariumref1_Bits.l0, wrap_in (8 * (s.size : Int)) (by omega) (by omega), if_pos (by omega), refbit_some s n i (by omega) (by omega) (by omega), Option.bind_some, wrap_in _ (by omega) (by omega)]
    by_cases hb : bitOf s (i : Int) = 0
    · rw [if_pos hb]
      obtain ⟨r, h1, h2⟩ := ih (i + 1) k (by omega) (by omega)
      refine ⟨r, h1, h2.trans ⟨fun h j h3 h4 => ?_, fun h j h3 h4 => h j (by omega) h4⟩⟩
      by_cases hj : j = i
      · rw [hj]; exact hb
      · exact h j (by omega) h4
    · rw [if_neg hb]
      exact ⟨false, rfl, by simp only [Bool.false_eq_true, false_iff]; intro h; exact hb (h i (by omega) (by omega))⟩
theorem low_bits (b : Int) (r : Nat) (h0 : 1 ≤ r) (h1 : r ≤ 7) : b % 2 ^ (8 - r) = 0 ↔ ∀ j : Nat, r ≤ j → j < 8 → b / 2 ^ (7 - j) % 2 = 0 := by
  have hr : r = 1 ∨ r = 2 ∨ r = 3 ∨ r = 4 ∨ r = 5 ∨ r = 6 ∨ r = 7 := by omega
  constructor
  · intro h j h2 h3
    have hj : j = 1 ∨ j = 2 ∨ j = 3 ∨ j = 4 ∨ j = 5 ∨ j = 6 ∨ j = 7 := by omega
    rcases hr with rfl | rfl | rfl | rfl | rfl | rfl | rfl <;> rcases hj with rfl | rfl | rfl | rfl | rfl | rfl | rfl <;> first | (exfalso; omega) | (simp only [Nat.reduceSub, Int.reducePow] at h ⊢; omega)
  · intro h
    have h7 := h 7 (by omega) (by omega)
    have g : ∀ j : Nat, r ≤ j → j < 8 → b / 2 ^ (7 - j) % 2 = 0 := h
    rcases hr with rfl | rfl | rfl | rfl | rfl | rfl | rfl
    · have a1 := g 1 (by omega) (by omega); have a2 := g 2 (by omega) (by omega); have a3 := g 3 (by omega) (by omega); have a4 := g 4 (by omega) (by omega); have a5 := g 5 (by omega) (by omega); have a6 := g 6 (by omega) (by omega)
      clear g h; simp only [Nat.reduceSub, Int.reducePow] at *; omega
    · have a2 := g 2 (by omega) (by omega); have a3 := g 3 (by omega) (by omega); have a4 := g 4 (by omega) (by omega); have a5 := g 5 (by omega) (by omega); have a6 := g 6 (by omega) (by omega)
      clear g h; simp only [Nat.reduceSub, Int.reducePow] at *; omega
    · have a3 := g 3 (by omega) (by omega); have a4 := g 4 (by omega) (by omega); have a5 := g 5 (by omega) (by omega); have a6 := g 6 (by omega) (by omega)
      clear g h; simp only [Nat.reduceSub, Int.reducePow] at *; omega
    · have a4 := g 4 (by omega) (by omega); have a5 := g 5 (by omega) (by omega); have a6 := g 6 (by omega) (by omega)
      clear g h; simp only [Nat.reduceSub, Int.reducePow] at *; omega
    · have a5 := g 5 (by omega) (by omega); have a6 := g 6 (by omega) (by omega)
      clear g h; simp only [Nat.reduceSub, Int.reducePow] at *; omega
    · have a6 := g 6 (by omega) (by omega)
      clear g h; simp only [Nat.reduceSub, Int.reducePow] at *; omega
    · clear g h; simp only [Nat.reduceSub, Int.reducePow] at *; omega
theorem tail_iff (s : ByteArray) (n : Int) (h0 : 0 ≤ n) (h1 : n ≤ 6000) (h2 : (s.size : Int) = (n + 7) / 8) : Tail0 s n ↔ (n % 8 = 0 ∨ bt s ((s.size : Int) - 1) % 2 ^ (8 - n % 8).toNat = 0) := by
  by_cases h3 : n % 8 = 0
  · exact ⟨fun _ => .inl h3, fun _ i h4 h5 => by omega⟩
  · obtain ⟨m, rfl⟩ := Int.eq_ofNat_of_zero_le h0
    have hs : ((s.size : Int) - 1) = ((m / 8 : Nat) : Int) := by omega
    have hr : (8 - (m : Int) % 8).toNat = 8 - m % 8 := by omega
    rw [hs, hr, or_iff_right h3, low_bits _ (m % 8) (by omega) (by omega)]
    constructor
    · intro h j h4 h5
      have := h (8 * (m / 8) + j) (by omega) (by omega)
      rwa [bitOf_at s (m / 8) j h5] at this
    · intro h i h4 h5
      have e := bitOf_at s (m / 8) (i % 8) (by omega)
      rw [show 8 * (m / 8) + i % 8 = i by omega] at e
      rw [e]
      exact h (i % 8) (by omega) (by omega)
theorem refBits_eq (s : ByteArray) (n : Int) (k : Nat) (hk : 8100 ≤ k) : herbariumref1_Bits.f k s n = some (decide (MayP s n)) := by
  obtain ⟨k, rfl⟩ : ∃ k', k = k' + 1 := ⟨k - 1, by omega⟩
  unfold herbariumref1_Bits.f herbariumref0_Num.f
  by_cases h0 : n ≥ 0
  · rw [if_pos h0, Option.bind_some]
    by_cases h1 : n ≤ 6000
    · have hw : wrap64 (Int.tdiv (wrap64 (n + 7)) 8) = (n + 7) / 8 := by
        rw [wrap_in (n + 7) (by omega) (by omega), tdiv8 _ (by omega), wrap_in _ (by omega) (by omega)]
      rw [decide_eq_true h1, if_pos rfl, hw]
      by_cases h2 : (s.size : Int) = (n + 7) / 8
      · rw [show ((s.size : Int) != (n + 7) / 8) = false by simp [h2], herbariumref1_Bits.j0, if_neg (by decide)]
        obtain ⟨m, rfl⟩ := Int.eq_ofNat_of_zero_le h0
        obtain ⟨r, e1, e2⟩ := tail_l0 s (m : Int) (by omega) (8 * s.size - m) m k (by omega) (by omega)
        rw [e1]
        congr 1
        rw [tail_iff s (m : Int) h0 h1 h2] at e2
        rw [Bool.eq_iff_iff, decide_eq_true_iff, e2]
        exact ⟨fun h => ⟨h0, h1, h2, h⟩, fun h => h.2.2.2⟩
      · rw [show ((s.size : Int) != (n + 7) / 8) = true by simp [h2], herbariumref1_Bits.j0, if_pos rfl, decide_eq_false (fun h => h2 h.2.2.1)]
    · rw [decide_eq_false h1, if_neg (by decide), herbariumref1_Bits.j0, if_pos rfl, decide_eq_false (p := MayP s n) (fun h => h1 h.2.1)]
  · rw [if_neg h0, Option.bind_some, if_neg (by decide), herbariumref1_Bits.j0, if_pos rfl, decide_eq_false (p := MayP s n) (fun h => h0 h.1)]
end Go.Proofs.Ytnpghcikhpglkaa.Q
namespace Go.Proofs.Ytnpghcikhpglkaa.Pb
open Go.RowKit Go.Proofs.YtnpghcikhpglkaaW.PrintWords Go.Proofs.YtnpghcikhpglkaaW.PrintLast Go.Proofs.YtnpghcikhpglkaaW.PrintMore Go.Proofs.Ytnpghcikhpglkaa.Hand Go.Proofs.Ytnpghcikhpglkaa.Pu Go.Proofs.Ytnpghcikhpglkaa.Q
set_option linter.unusedVariables false
set_option linter.unusedSimpArgs false
theorem take_snoc (l : List Int) (i : Nat) (h : i < l.length) : l.take i ++ [l.getD i 0] = l.take (i + 1) := by
  rw [List.take_succ_eq_append_getElem h, List.getD_eq_getElem?_getD, List.getElem?_eq_getElem h]
  rfl
/-- Of. -/
theorem of_loop (l : List Int) (hl : IsBits l) (hlen : l.length ≤ 1000000) : ∀ (d k i : Nat), i + d = l.length → d < k → herbariumref1_Of.l0 k (l.take i) (i : Int) (packS l) (l.length : Int) = some l
  | 0, k, i, hi, hk => by
    obtain ⟨k, rfl⟩ : ∃ m, k = m + 1 := ⟨k - 1, by omega⟩
    simp only [herbariumref1_Of.l0]
    rw [if_neg (by omega), List.take_of_length_le (by omega)]
  | d + 1, k, i, hi, hk => by
    obtain ⟨k, rfl⟩ : ∃ m, k = m + 1 := ⟨k - 1, by omega⟩
    have hsz := packS_size l
    have hb := hl.getD i
    simp only [herbariumref1_Of.l0]
    rw [if_pos (by omega), refbit_some _ _ _ (by omega) (by omega) (by omega), bitOf_packS l hl i (by omega), Option.bind_some, if_pos (by rw [List.length_take]; omega), Int.emod_eq_of_lt (by omega) (by omega), take_snoc l i (by omega), wrap_in _ (by omega) (by omega)]
    exact of_loop l hl hlen d k (i + 1) (by omega) (by omega)
theorem refOf_eq (l : List Int) (hl : IsBits l) (hlen : l.length ≤ 1000000) (k : Nat) (hk : l.length < k) : herbariumref1_Of.f k (packS l) (l.length : Int) = some l := by
  unfold herbariumref1_Of.f
  exact of_loop l hl hlen l.length k 0 (by omega) hk
/-- Zeros. -/
theorem rzeros_loop (l : List Int) (hlen : l.length ≤ 1000000) (x : Int) (hx : 0 ≤ x) : ∀ (d k i : Nat), i + d = l.length → d < k → x ≤ i →
    herbariumref1_List_Zeros.l0 k l x (i : Int) = some (if zerosL (l.drop i) < 0 then -1 else (i : Int) + zerosL (l.drop i) - x)
  | 0, k, i, hi, hk, hxi => by
    obtain ⟨k, rfl⟩ : ∃ m, k = m + 1 := ⟨k - 1, by omega⟩
    simp only [herbariumref1_List_Zeros.l0]
    rw [if_neg (by omega), List.drop_of_length_le (by omega)]
    rfl
  | d + 1, k, i, hi, hk, hxi => by
    obtain ⟨k, rfl⟩ : ∃ m, k = m + 1 := ⟨k - 1, by omega⟩
    simp only [herbariumref1_List_Zeros.l0]
    have hd : l.drop i = l.getD i 0 :: l.drop (i + 1) := by
      rw [List.drop_eq_getElem_cons (by omega), List.getD_eq_getElem?_getD, List.getElem?_eq_getElem (by omega)]
      rfl
    have hrd : rd l (i : Int) = l.getD i 0 := by unfold rd; rw [Int.toNat_natCast]
    have hr := zerosL_range (l.drop (i + 1))
    rw [List.length_drop] at hr
    rw [if_pos (by omega), if_pos (by omega), hrd, hd, zerosL]
    by_cases h1 : l.getD i 0 = 1
    · rw [if_pos h1, if_pos h1, if_neg (by omega), wrap_in _ (by omega) (by omega)]
      exact congrArg some (by omega)
    · rw [if_neg h1, if_neg h1, wrap_in _ (by omega) (by omega)]
      have := rzeros_loop l hlen x hx d k (i + 1) (by omega) (by omega) (by omega)
      rw [show ((i + 1 : Nat) : Int) = (i : Int) + 1 by omega] at this
      rw [this]
      congr 1
      by_cases h2 : zerosL (l.drop (i + 1)) < 0
      · rw [if_pos h2, if_pos h2, if_pos (by omega)]
      · rw [if_neg h2, if_neg h2, if_neg (by omega)]; omega
theorem refZeros_eq (l : List Int) (hlen : l.length ≤ 1000000) (a : Nat) (ha : a ≤ l.length) (k : Nat) (hk : l.length < k) : herbariumref1_List_Zeros.f k l (a : Int) = some (zerosL (l.drop a)) := by
  have hr := zerosL_range (l.drop a)
  unfold herbariumref1_List_Zeros.f
  rw [rzeros_loop l hlen (a : Int) (by omega) (l.length - a) k a (by omega) (by omega) (by omega)]
  congr 1
  split <;> omega
/-- Put. -/
theorem shr_eq (v : Int) (w : Nat) (hw : w ≤ 62) : shr .i64 v (w : Int) = v / 2 ^ w := by
  unfold shr
  rw [Nat.min_eq_left (by simp [IntKind.bits]; omega), Int.toNat_natCast]
theorem bit_eq (v : Int) (w : Nat) (hw : w ≤ 62) (h0 : 0 ≤ v) (h1 : v < 2 ^ 62) : (Go.bits .and .i64 (shr .i64 v (w : Int)) 1) % 256 = v / 2 ^ w % 2 := by
  have hn := div_pow_nonneg v w h0
  have hl := div_pow_le v w h0
  rw [shr_eq v w hw, and_one _ hn (by omega)]
  omega
theorem rput_loop (v : Int) (h0 : 0 ≤ v) (h1 : v < 2 ^ 62) : ∀ (w : Nat) (l : List Int) (k : Nat), w ≤ 62 → l.length + w ≤ 1000000 → w < k → herbariumref1_List_Put.l0 k l v ((w : Int) - 1) = some (l ++ putL w v)
  | 0, l, k, hw, hlen, hk => by
    obtain ⟨k, rfl⟩ : ∃ m, k = m + 1 := ⟨k - 1, by omega⟩
    simp only [herbariumref1_List_Put.l0]
    rw [if_neg (by omega)]
    simp [putL]
  | w + 1, l, k, hw, hlen, hk => by
    obtain ⟨k, rfl⟩ : ∃ m, k = m + 1 := ⟨k - 1, by omega⟩
    simp only [herbariumref1_List_Put.l0]
    have e : ((w + 1 : Nat) : Int) - 1 = (w : Int) := by omega
    rw [e, if_pos (by omega), if_pos (by omega), if_pos (by omega), bit_eq v w (by omega) h0 h1, wrap_in _ (by omega) (by omega), rput_loop v h0 h1 w (l ++ [v / 2 ^ w % 2]) k (by omega) (by rw [List.length_append, List.length_singleton]; omega) (by omega), List.append_assoc]
    rfl
theorem refPut_eq (l : List Int) (v : Int) (w : Nat) (h0 : 0 ≤ v) (h1 : v < 2 ^ 62) (hw : w ≤ 62) (hlen : l.length ≤ 900000) (k : Nat) (hk : w < k) : herbariumref1_List_Put.f k l v (w : Int) = some (l ++ putL w v) := by
  unfold herbariumref1_List_Put.f
  rw [wrap_in _ (by omega) (by omega)]
  exact rput_loop v h0 h1 w l k hw (by omega) hk
/-- Get. -/
theorem rget_loop (l : List Int) (hl : IsBits l) (hlen : l.length ≤ 1000000) (a w : Nat) (haw : a + w ≤ l.length) (hw : w ≤ 61) : ∀ (d k i : Nat), i + d = w → d < k →
    herbariumref1_List_Get.l0 k l (a : Int) (w : Int) (numL ((l.drop a).take i)) ((a + i : Nat) : Int) = some (numL ((l.drop a).take w))
  | 0, k, i, hi, hk => by
    obtain ⟨k, rfl⟩ : ∃ m, k = m + 1 := ⟨k - 1, by omega⟩
    obtain rfl : i = w := by omega
    simp only [herbariumref1_List_Get.l0]
    rw [wrap_in _ (by omega) (by omega), if_neg (by omega)]
  | d + 1, k, i, hi, hk => by
    obtain ⟨k, rfl⟩ : ∃ m, k = m + 1 := ⟨k - 1, by omega⟩
    simp only [herbariumref1_List_Get.l0]
    have hib : IsBits ((l.drop a).take i) := fun x hx => hl x (List.mem_of_mem_drop (List.mem_of_mem_take hx))
    have hr := numL_range hib
    have hlt : (l.drop a).length = l.length - a := List.length_drop ..
    have hlen2 : ((l.drop a).take i).length = i := by rw [List.length_take, hlt]; omega
    rw [hlen2] at hr
    have hp : (2 : Int) ^ i ≤ 2 ^ 60 := by have := Nat.pow_le_pow_right (n := 2) (by decide) (show i ≤ 60 by omega); exact_mod_cast this
    have h60 : (2 : Int) ^ 60 < 2 ^ 61 := by decide
    have hb := hl.getD (a + i)
    have hrd : rd l ((a + i : Nat) : Int) = l.getD (a + i) 0 := by unfold rd; rw [Int.toNat_natCast]
    have hsn : (l.drop a).take (i + 1) = (l.drop a).take i ++ [l.getD (a + i) 0] := by
      rw [List.take_succ_eq_append_getElem (by rw [hlt]; omega), List.getElem_drop, List.getD_eq_getElem?_getD, List.getElem?_eq_getElem (by omega)]
      rfl
    rw [wrap_in ((a : Int) + (w : Int)) (by omega) (by omega), if_pos (by omega), if_pos (by omega), if_pos (by omega), hrd, wrap_in (l.getD (a + i) 0) (by omega) (by omega), wrap_in (2 * _) (by omega) (by omega), wrap_in (2 * _ + _) (by omega) (by omega), ← numL_snoc, ← hsn, wrap_in _ (by omega) (by omega)]
    exact rget_loop l hl hlen a w haw hw d k (i + 1) (by omega) (by omega)
theorem refGet_eq (l : List Int) (hl : IsBits l) (hlen : l.length ≤ 1000000) (a w : Nat) (haw : a + w ≤ l.length) (hw : w ≤ 61) (k : Nat) (hk : w < k) : herbariumref1_List_Get.f k l (a : Int) (w : Int) = some (numL ((l.drop a).take w)) := by
  unfold herbariumref1_List_Get.f
  exact rget_loop l hl hlen a w haw hw w k 0 (by omega) hk
/-- log. -/
theorem log_loop : ∀ (g : Nat) (x c : Int) (k : Nat), (2 : Int) ^ g ≤ x → x < 2 ^ (g + 1) → 0 ≤ c → c + g ≤ 1000000 → g < k → herbariumref1_log.l0 k x c = some (c + g)
  | 0, x, c, k, h1, h2, h3, h4, hk => by
    obtain ⟨k, rfl⟩ : ∃ m, k = m + 1 := ⟨k - 1, by omega⟩
    simp only [herbariumref1_log.l0]
    rw [if_neg (by omega)]
    simp
  | g + 1, x, c, k, h1, h2, h3, h4, hk => by
    obtain ⟨k, rfl⟩ : ∃ m, k = m + 1 := ⟨k - 1, by omega⟩
    simp only [herbariumref1_log.l0]
    have hp : (0 : Int) < 2 ^ g := Int.pow_pos (by decide)
    have e1 : (2 : Int) ^ (g + 1) = 2 ^ g * 2 := Int.pow_succ 2 g
    have e2 : (2 : Int) ^ (g + 1 + 1) = 2 ^ (g + 1) * 2 := Int.pow_succ 2 (g + 1)
    rw [if_pos (by omega), wrap_in _ (by omega) (by omega), log_loop g (x / 2) (c + 1) k (by omega) (by omega) (by omega) (by omega) (by omega)]
    exact congrArg some (by omega)
theorem refLog_eq (n : Int) (h1 : 1 ≤ n) (h2 : n ≤ 1073741824) (k : Nat) (hk : 40 ≤ k) : herbariumref1_log.f k n = some (lg n) := by
  obtain ⟨_, g0, g1, g2, g3⟩ := lg_facts n h1 h2
  unfold herbariumref1_log.f
  rw [log_loop (lg n).toNat n 0 k g2 g3 (by omega) (by omega) (by omega)]
  exact congrArg some (by omega)
end Go.Proofs.Ytnpghcikhpglkaa.Pb
namespace Go.Proofs.Ytnpghcikhpglkaa.Pb
open Go.RowKit Go.Proofs.YtnpghcikhpglkaaW.PrintWords Go.Proofs.YtnpghcikhpglkaaW.PrintLast Go.Proofs.YtnpghcikhpglkaaW.PrintMore Go.Proofs.Ytnpghcikhpglkaa.Hand Go.Proofs.Ytnpghcikhpglkaa.Pu Go.Proofs.Ytnpghcikhpglkaa.Q
set_option linter.unusedVariables false
set_option linter.unusedSimpArgs false
theorem write_gamma (l : List Int) (n : Int) (h1 : 1 ≤ n) (h2 : n ≤ 1073741824) (hlen : l.length ≤ 100000) (k : Nat) (hk : 100 ≤ k) : herbariumref1_List_Write.f k l 2 n = some (l ++ gammaL n) := by
  obtain ⟨k, rfl⟩ : ∃ m, k = m + 1 := ⟨k - 1, by omega⟩
  obtain ⟨_, g0, g1, g2, g3⟩ := lg_facts n h1 h2
  have hg := refLog_eq n h1 h2 k (by omega)
  unfold gammaL
  obtain ⟨g, e⟩ := Int.eq_ofNat_of_zero_le g0
  rw [e] at hg g1
  have e1 : wrap64 ((g : Int) + 1) = ((g + 1 : Nat) : Int) := by rw [wrap_in _ (by omega) (by omega)]; rfl
  rw [herbariumref1_List_Write.f, if_neg (by decide), if_pos rfl, hg, Option.bind_some, refPut_eq l 0 g (by omega) (by omega) (by omega) (by omega) k (by omega), Option.bind_some, Option.bind_some, e1, refPut_eq _ n (g + 1) (by omega) (by omega) (by omega) (by rw [List.length_append, putL_length]; omega) k (by omega), Option.bind_some, e, Int.toNat_natCast, List.append_assoc]
  rfl
end Go.Proofs.Ytnpghcikhpglkaa.Pb
namespace Go.Proofs.Ytnpghcikhpglkaa.Pb
open Go.RowKit Go.Proofs.YtnpghcikhpglkaaW.PrintWords Go.Proofs.YtnpghcikhpglkaaW.PrintLast Go.Proofs.YtnpghcikhpglkaaW.PrintMore Go.Proofs.Ytnpghcikhpglkaa.Hand Go.Proofs.Ytnpghcikhpglkaa.Pu Go.Proofs.Ytnpghcikhpglkaa.Q
set_option linter.unusedVariables false
set_option linter.unusedSimpArgs false
theorem between_any (x a b : Int) : herbariumref0_Between.f x a b = some (decide (a ≤ x ∧ x ≤ b)) := by
  unfold herbariumref0_Between.f
  by_cases h : x ≥ a
  · rw [if_pos h]; congr 1; rw [decide_eq_decide]; omega
  · rw [if_neg h, decide_eq_false (fun h2 => h h2.1)]
theorem refCode_eq (kind n : Int) : herbariumref1_Code.f kind n = some (decide ((1 ≤ kind ∧ kind ≤ 5) ∧ NumP kind n)) := by
  unfold herbariumref1_Code.f NumP
  by_cases h1 : kind = 1
  · rw [if_pos h1, between_any, Option.bind_some]; congr 1; rw [decide_eq_decide]
    constructor
    · intro h; exact ⟨by omega, by omega, by omega, fun _ => h.2⟩
    · intro h; exact ⟨h.2.1, h.2.2.2 h1⟩
  · rw [if_neg h1, between_any, Option.bind_some]
    by_cases h2 : 2 ≤ kind ∧ kind ≤ 5
    · rw [decide_eq_true h2, if_pos rfl, between_any, Option.bind_some]; congr 1; rw [decide_eq_decide]
      constructor
      · intro h; exact ⟨by omega, h.1, h.2, fun h => absurd h h1⟩
      · intro h; exact ⟨h.2.1, h.2.2.1⟩
    · rw [decide_eq_false h2, if_neg (by decide), decide_eq_false (fun h => h2 (by have := h.1; omega))]
/-- Read's answer, as the document has it. -/
def rr (kind : Int) (l : List Int) (a : Nat) : Int × Int := if (readR kind l a).2.2 = true then ((readR kind l a).1, (readR kind l a).2.1) else (-1, 0)
theorem rr_none (kind : Int) (l : List Int) (a : Nat) (h : ReadL kind (l.drop a) = none) : rr kind l a = (-1, 0) := by
  have e : readR kind l a = (0, 0, false) := by unfold readR; rw [h]
  unfold rr; rw [e]; rfl
theorem rr_big (kind : Int) (l : List Int) (a c : Nat) (v : Int) (h : ReadL kind (l.drop a) = some (v, c)) (hv : 1073741824 < v) : rr kind l a = (-1, 0) := by
  have e : readR kind l a = (0, 0, false) := by unfold readR; rw [h]; simp only; rw [if_pos hv]
  unfold rr; rw [e]; rfl
theorem rr_some (kind : Int) (l : List Int) (a c : Nat) (v : Int) (h : ReadL kind (l.drop a) = some (v, c)) (hv : v ≤ 1073741824) : rr kind l a = (v, ((a + c : Nat) : Int)) := by
  unfold rr; rw [read_good kind l a c v h hv]; rfl
/-- A number that may be, or none. -/
def chk (v : Int) (x : Int) : Int × Int := if v ≤ 1073741824 then (v, x) else (-1, 0)
theorem chk_code (kind v x : Int) (hk : 2 ≤ kind ∧ kind ≤ 5) (hv : 1 ≤ v) : ((herbariumref1_Code.f kind v).bind fun t => (if t = true then (some (v, x)) else (some ((-1), 0)))) = some (chk v x) := by
  rw [refCode_eq, Option.bind_some]
  unfold chk
  by_cases h : v ≤ 1073741824
  · rw [if_pos h, decide_eq_true (p := (1 ≤ kind ∧ kind ≤ 5) ∧ NumP kind v) ⟨by omega, hv, h, by omega⟩, if_pos rfl]
  · rw [if_neg h, decide_eq_false (p := (1 ≤ kind ∧ kind ≤ 5) ∧ NumP kind v) (fun h2 => h h2.2.2.1), if_neg (by decide)]
theorem rr_chk (kind : Int) (l : List Int) (a c : Nat) (v : Int) (h : ReadL kind (l.drop a) = some (v, c)) : rr kind l a = chk v ((a + c : Nat) : Int) := by
  unfold chk
  by_cases hv : v ≤ 1073741824
  · rw [if_pos hv, rr_some kind l a c v h hv]
  · rw [if_neg hv, rr_big kind l a c v h (by omega)]
theorem read2 (l : List Int) (hl : IsBits l) (hlen : l.length ≤ 6000) (a : Nat) (ha : a ≤ l.length) (k : Nat) (hk : 7000 ≤ k) : herbariumref1_List_Read.f k l (a : Int) 2 = some (rr 2 l a) := by
  obtain ⟨k, rfl⟩ : ∃ m, k = m + 1 + 1 := ⟨k - 2, by omega⟩
  have hr := zerosL_range (l.drop a)
  have hu : ReadL 2 (l.drop a) = gammaR (l.drop a) := by unfold ReadL; rw [if_neg (by decide), if_pos rfl]
  have hf := gamma_facts (l.drop a) (IsBits.drop' hl a)
  rw [← hu] at hf
  unfold gammaR at hu
  rw [List.length_drop] at hr hu
  rw [herbariumref1_List_Read.f, refZeros_eq l (by omega) a ha (k + 1) (by omega), Option.bind_some]
  by_cases h0 : zerosL (l.drop a) < 0
  · rw [if_neg (by omega)] at hu
    rw [if_pos h0, rr_none 2 l a hu]
  · rw [if_neg h0, if_neg (by decide), if_pos rfl]
    have hd : ∀ z : Nat, (l.drop a).drop z = l.drop (a + z) := fun z => by rw [List.drop_drop]
    rw [hd] at hu
    generalize zerosL (l.drop a) = z at *
    obtain ⟨z, rfl⟩ := Int.eq_ofNat_of_zero_le (show 0 ≤ z by omega)
    rw [Int.toNat_natCast] at hu
    by_cases h1 : (z : Int) > 30
    · rw [if_neg (by omega)] at hu
      rw [if_pos h1, herbariumref1_List_Read.j0, if_pos rfl, rr_none 2 l a hu]
    · rw [if_neg h1, wrap_in (2 * (z : Int)) (by omega) (by omega), wrap_in ((a : Int) + _) (by omega) (by omega), wrap_in ((a : Int) + _ + 1) (by omega) (by omega)]
      by_cases h2 : a + 2 * z + 1 > l.length
      · rw [if_neg (by omega)] at hu
        rw [decide_eq_true (by omega), herbariumref1_List_Read.j0, if_pos rfl, rr_none 2 l a hu]
      · rw [if_pos (by omega)] at hu
        have e1 : Aside0 (wrap64 ((a : Int) + (z : Int)) = ((a + z : Nat) : Int)) := ⟨by rw [wrap_in _ (by omega) (by omega)]; rfl⟩
        have e2 : Aside0 (wrap64 ((z : Int) + 1) = ((z + 1 : Nat) : Int)) := ⟨by rw [wrap_in _ (by omega) (by omega)]; rfl⟩
        obtain ⟨f1, f2, f3⟩ := hf _ _ hu
        rw [decide_eq_false (by omega), herbariumref1_List_Read.j0, if_neg (by decide), e1.out, e2.out, refGet_eq l hl (by omega) (a + z) (z + 1) (by omega) (by omega) k (by omega), Option.bind_some, chk_code 2 _ _ (by omega) f1, rr_chk 2 l a _ _ hu, wrap_in (2 * (z : Int)) (by omega) (by omega), wrap_in ((a : Int) + _) (by omega) (by omega), wrap_in ((a : Int) + _ + 1) (by omega) (by omega)]
        congr 2 <;> omega
/-- The rest of a zeta code, read. -/
def z2 (l : List Int) (nx s : Nat) (P : Int) : Int × Int :=
  if nx + s ≤ l.length then
    (if numL ((l.drop nx).take s) < P then chk (P + numL ((l.drop nx).take s)) ((nx + s : Nat) : Int)
    else if nx + s + 1 ≤ l.length then chk (P + (2 * numL ((l.drop nx).take s) + l.getD (nx + s) 0 - P)) ((nx + s + 1 : Nat) : Int) else (-1, 0))
  else (-1, 0)
end Go.Proofs.Ytnpghcikhpglkaa.Pb
namespace Go.Proofs.Ytnpghcikhpglkaa.Pb
open Go.RowKit Go.Proofs.YtnpghcikhpglkaaW.PrintWords Go.Proofs.YtnpghcikhpglkaaW.PrintLast Go.Proofs.YtnpghcikhpglkaaW.PrintMore Go.Proofs.Ytnpghcikhpglkaa.Hand Go.Proofs.Ytnpghcikhpglkaa.Pu Go.Proofs.Ytnpghcikhpglkaa.Q
set_option linter.unusedVariables false
set_option linter.unusedSimpArgs false
theorem origin_eq (x : Int) : herbariumref3_Origin.f x = some (decide (0 ≤ x ∧ x < 16)) := by
  unfold herbariumref3_Origin.f herbariumref0_Num.f
  by_cases h : x ≥ 0
  · rw [if_pos h, Option.bind_some]; congr 1; rw [decide_eq_decide]; omega
  · rw [if_neg h, Option.bind_some, decide_eq_false (fun h2 => h h2.1)]
theorem gmay_snoc {l : List Int} (h : GMay l) (x : Int) (h0 : 0 ≤ x) (h1 : x < 16) (hl : 0 < l.length → l.getD (l.length - 1) 0 < x) : GMay (l ++ [x]) := by
  have hg : ∀ i, i < l.length → (l ++ [x]).getD i 0 = l.getD i 0 := by
    intro i hi
    rw [List.getD_eq_getElem?_getD, List.getD_eq_getElem?_getD, List.getElem?_append_left hi]
  have hx : (l ++ [x]).getD l.length 0 = x := by
    rw [List.getD_eq_getElem?_getD, List.getElem?_append_right (Nat.le_refl _), Nat.sub_self]; rfl
  have hle : (l ++ [x]).length = l.length + 1 := by rw [List.length_append]; rfl
  refine ⟨fun i hi => ?_, fun i hi => ?_⟩
  · rw [hle] at hi
    by_cases he : i = l.length
    · subst he; rw [hx]; exact ⟨h0, h1⟩
    · rw [hg i (by omega)]; exact h.1 i (by omega)
  · rw [hle] at hi
    by_cases he : i + 1 = l.length
    · rw [he, hx, hg i (by omega)]
      have := hl (by omega)
      rw [show l.length - 1 = i by omega] at this
      exact this
    · rw [hg i (by omega), hg (i + 1) (by omega)]; exact h.2 i (by omega)
/-- Which lists may be, by the document. -/
theorem rmay_loop (l : List Int) (hlen : (l.length : Int) < 9223372036854775807) : ∀ (d i k : Nat), i + d = 17 → i ≤ l.length → 2 * d + 2 ≤ k →
    (∀ j, j < i → 0 ≤ l.getD j 0 ∧ l.getD j 0 < 16) → (∀ j, j + 1 < i → l.getD j 0 < l.getD (j + 1) 0) → herbariumref3_May.l0 k l (i : Int) = some (decide (GMay l))
  | 0, i, k, hi, hil, hk, h1, h2 => by
    obtain ⟨k, rfl⟩ : ∃ m, k = m + 1 + 1 := ⟨k - 2, by omega⟩
    by_cases h : i < l.length
    · rw [herbariumref3_May.l0, if_pos (by omega), decide_eq_false (show ¬ ((i : Int) ≤ 16) by omega), herbariumref3_May.j1, if_neg (by decide), decide_eq_false (show ¬ ((l.length : Int) ≤ 16) by omega), decide_eq_false (fun hg => by have := gmay_len hg; omega)]
    · have hg : GMay l := ⟨fun j hj => h1 j (by omega), fun j hj => h2 j (by omega)⟩
      have := gmay_len hg
      omega
  | d + 1, i, k, hi, hil, hk, h1, h2 => by
    obtain ⟨k, rfl⟩ : ∃ m, k = m + 1 + 1 := ⟨k - 2, by omega⟩
    by_cases h : i < l.length
    · have hrd : rd l (i : Int) = l.getD i 0 := by unfold rd; rw [Int.toNat_natCast]
      rw [herbariumref3_May.l0, if_pos (by omega), decide_eq_true (show ((i : Int) ≤ 16) by omega), herbariumref3_May.j1, if_pos rfl, if_pos (by omega), if_pos (by omega), origin_eq, Option.bind_some, hrd]
      by_cases ho : 0 ≤ l.getD i 0 ∧ l.getD i 0 < 16
      · rw [decide_eq_true ho, if_pos rfl, wrap_in ((i : Int) + 1) (by omega) (by omega)]
        by_cases h0 : 0 < i
        · have e1 : wrap64 ((i : Int) - 1) = ((i - 1 : Nat) : Int) := by rw [wrap_in _ (by omega) (by omega)]; omega
          have hrd2 : rd l ((i - 1 : Nat) : Int) = l.getD (i - 1) 0 := by unfold rd; rw [Int.toNat_natCast]
          rw [if_pos (by omega), e1, if_pos (by omega), if_pos (by omega), hrd2]
          by_cases hlt : l.getD (i - 1) 0 < l.getD i 0
          · rw [if_neg (by omega)]
            refine rmay_loop l hlen d (i + 1) k (by omega) (by omega) (by omega) (fun j hj => ?_) (fun j hj => ?_)
            · by_cases he : j = i
              · subst he; exact ho
              · exact h1 j (by omega)
            · by_cases he : j + 1 = i
              · have e2 : j = i - 1 := by omega
                rw [he, e2]; exact hlt
              · exact h2 j (by omega)
          · rw [if_pos (by omega), decide_eq_false (fun hg => hlt (by have := hg.2 (i - 1) (by omega); rw [show i - 1 + 1 = i by omega] at this; exact this))]
        · rw [if_neg (by omega)]
          refine rmay_loop l hlen d (i + 1) k (by omega) (by omega) (by omega) (fun j hj => ?_) (fun j hj => ?_)
          · obtain rfl : j = i := by omega
            exact ho
          · omega
      · rw [decide_eq_false ho, if_neg (by decide), decide_eq_false (fun hg => ho (hg.1 i h))]
    · have hg : GMay l := ⟨fun j hj => h1 j (by omega), fun j hj => h2 j (by omega)⟩
      have := gmay_len hg
      rw [herbariumref3_May.l0, if_neg (by omega), herbariumref3_May.j1, if_neg (by decide), decide_eq_true (show ((l.length : Int) ≤ 16) by omega), decide_eq_true hg]
theorem rmay_eq (l : List Int) (hlen : (l.length : Int) < 9223372036854775807) (k : Nat) (hk : 40 ≤ k) : herbariumref3_May.f k l = some (decide (GMay l)) := by
  unfold herbariumref3_May.f
  exact rmay_loop l hlen 17 0 k (by omega) (by omega) (by omega) (fun j hj => by omega) (fun j hj => by omega)
theorem gcheck_eq (l : List Int) (hlen : (l.length : Int) < 9223372036854775807) (k : Nat) (hk : l.length < k) : gaps_Check.f k l = some (if GMay l then 0 else 1) := by
  unfold gaps_Check.f
  rw [gmay_eq l hlen k hk, Option.bind_some]
  by_cases h : GMay l
  · rw [decide_eq_true h, if_pos rfl, if_pos h]
  · rw [decide_eq_false h, if_neg (by decide), if_neg h]
/-- A copy is the list. -/
theorem copy_loop (l : List Int) (hlen : (l.length : Int) < 17592186044416) : ∀ (d i k : Nat), i + d = l.length → d < k → herbariumref0_CopyNumbers.l0 k l (l.take i) (i : Int) = some l
  | 0, i, k, hi, hk => by
    obtain ⟨k, rfl⟩ : ∃ m, k = m + 1 := ⟨k - 1, by omega⟩
    rw [herbariumref0_CopyNumbers.l0, if_neg (by omega), List.take_of_length_le (by omega)]
  | d + 1, i, k, hi, hk => by
    obtain ⟨k, rfl⟩ : ∃ m, k = m + 1 := ⟨k - 1, by omega⟩
    have hrd : rd l (i : Int) = l.getD i 0 := by unfold rd; rw [Int.toNat_natCast]
    have hsn : l.take i ++ [l.getD i 0] = l.take (i + 1) := take_snoc l i (by omega)
    rw [herbariumref0_CopyNumbers.l0, if_pos (by omega), if_pos (by omega), if_pos (by rw [List.length_take]; omega), hrd, hsn, wrap_in ((i : Int) + 1) (by omega) (by omega)]
    exact copy_loop l hlen d (i + 1) k (by omega) (by omega)
theorem copy_eq (l : List Int) (hlen : (l.length : Int) < 17592186044416) (k : Nat) (hk : l.length < k) : herbariumref0_CopyNumbers.f k l = some l := by
  unfold herbariumref0_CopyNumbers.f
  exact copy_loop l hlen l.length 0 k (by omega) hk
theorem eqn_loop2 (l : List Int) (hl : (l.length : Int) < 9223372036854775807) : ∀ (d i k : Nat), i + d = l.length → d < k → herbariumref0_EqNumbers.l0 k l l (i : Int) = some true
  | 0, i, k, hi, hk => by
    obtain ⟨k, rfl⟩ : ∃ m, k = m + 1 := ⟨k - 1, by omega⟩
    rw [herbariumref0_EqNumbers.l0, if_neg (by omega)]
  | d + 1, i, k, hi, hk => by
    obtain ⟨k, rfl⟩ : ∃ m, k = m + 1 := ⟨k - 1, by omega⟩
    rw [herbariumref0_EqNumbers.l0, if_pos (by omega), if_pos (by omega), if_pos (by omega), if_pos rfl, wrap_in _ (by omega) (by omega)]
    exact eqn_loop2 l hl d (i + 1) k (by omega) (by omega)
theorem eqn_same (l : List Int) (hl : (l.length : Int) < 9223372036854775807) (k : Nat) (hk : l.length < k) : herbariumref0_EqNumbers.f k l l = some true := by
  unfold herbariumref0_EqNumbers.f
  rw [if_pos rfl]
  exact eqn_loop2 l hl l.length 0 k (by omega) hk
theorem numbers_step (k i : Nat) (l : List Int) (h : i < l.length) (hl : (l.length : Int) < 9223372036854775807) : ∃ l', l'.length = l.length ∧ herbariumlaw0_Numbers.l0 (k + 1) l (i : Int) = herbariumlaw0_Numbers.l0 k l' ((i + 1 : Nat) : Int) := by
  obtain ⟨x, hx⟩ : ∃ x : Int, x = -99 := ⟨_, rfl⟩
  refine ⟨l.set (i : Int).toNat x, by rw [List.length_set], ?_⟩
  rw [herbariumlaw0_Numbers.l0, if_pos (by omega), if_pos (by omega), wrap_in _ (by omega) (by omega), hx]
  rfl
theorem numbers_loop (M : Int) (hM : M ≤ 9223372036854775807) : ∀ (d i k : Nat) (l : List Int), (l.length : Int) < M → i + d = l.length → d < k → ∃ r, herbariumlaw0_Numbers.l0 k l (i : Int) = some r
  | 0, i, k, l, hl, hi, hk => by
    obtain ⟨k, rfl⟩ : ∃ m, k = m + 1 := ⟨k - 1, by omega⟩
    rw [herbariumlaw0_Numbers.l0, if_neg (by omega)]
    exact ⟨_, rfl⟩
  | d + 1, i, k, l, hl, hi, hk => by
    obtain ⟨k, rfl⟩ : ∃ m, k = m + 1 := ⟨k - 1, by omega⟩
    obtain ⟨l', h1, h2⟩ := numbers_step k i l (by omega) (by omega)
    rw [h2]
    exact numbers_loop M hM d (i + 1) k l' (by omega) (by omega) (by omega)
theorem numbers_some (l : List Int) (hl : (l.length : Int) < 9223372036854775807) (k : Nat) (hk : l.length < k) : ∃ r, herbariumlaw0_Numbers.f k l = some r := by
  unfold herbariumlaw0_Numbers.f
  exact numbers_loop 9223372036854775807 (Int.le_refl _) l.length 0 k l hl (by omega) hk
/-- A list's bits, by the document. -/
theorem zig_eq (x : Int) (h0 : -1000 ≤ x) (h1 : x ≤ 1000) : herbariumref1_Zig.f x = some (foldG x) := by
  unfold herbariumref1_Zig.f foldG
  by_cases h : x < 0
  · rw [if_neg (by omega), if_pos h, wrap_in ((-2) * x) (by omega) (by omega), wrap_in _ (by omega) (by omega)]
  · rw [if_pos (by omega), if_neg h, wrap_in _ (by omega) (by omega)]
theorem rwrite (l : List Int) (n : Int) (h1 : 1 ≤ n) (h2 : n ≤ 1073741824) (hlen : l.length ≤ 80000) (k : Nat) (hk : 1300 ≤ k) : herbariumref1_List_Write.f k l 2 n = some (l ++ gammaL n) :=
  write_gamma l n h1 h2 (by omega) k (by omega)
theorem rgaps_loop (v : Int) (l : List Int) (hg : GMay l) (hv0 : 0 ≤ v) (hv : v < 16) (p : List Int) (hp : p.length ≤ 70000) : ∀ (d i k : Nat), i + d = l.length → 1300 + d < k →
    herbariumref3_Gaps.l0 k (p ++ gpieces v l i) v l (i : Int) = some (p ++ gpieces v l l.length)
  | 0, i, k, hi, hk => by
    obtain ⟨k, rfl⟩ : ∃ m, k = m + 1 := ⟨k - 1, by omega⟩
    obtain rfl : i = l.length := by omega
    rw [herbariumref3_Gaps.l0, if_neg (by omega)]
  | d + 1, i, k, hi, hk => by
    obtain ⟨k, rfl⟩ : ∃ m, k = m + 1 := ⟨k - 1, by omega⟩
    have h16 := gmay_len hg
    have hr := gnum_range hg hv0 hv i (by omega)
    have hpl := gpieces_len hg hv0 hv i (by omega)
    have hx := hg.1 i (by omega)
    have hw := rwrite (p ++ gpieces v l i) (gnum v l i) hr.1 (by omega) (by rw [List.length_append]; omega) k (by omega)
    have hs : p ++ gpieces v l i ++ gammaL (gnum v l i) = p ++ gpieces v l (i + 1) := by rw [gpieces, List.append_assoc]
    rw [hs] at hw
    have hrd : rd l (i : Int) = l.getD i 0 := by unfold rd; rw [Int.toNat_natCast]
    rw [herbariumref3_Gaps.l0, if_pos (by omega), wrap_in ((i : Int) + 1) (by omega) (by omega)]
    by_cases h0 : i = 0
    · subst h0
      have hgn : gnum v l 0 = foldG (l.getD 0 0 - v) + 1 := by unfold gnum; rw [if_pos rfl]
      have hfr := foldG_range (l.getD 0 0 - v) (by omega) (by omega)
      have hrd0 : rd l 0 = l.getD 0 0 := rfl
      rw [if_pos (by omega), if_pos (by omega), hrd0, wrap_in (l.getD 0 0 - v) (by omega) (by omega), zig_eq _ (by omega) (by omega), Option.bind_some, wrap_in (foldG (l.getD 0 0 - v) + 1) (by omega) (by omega), ← hgn, hw, Option.bind_some]
      exact rgaps_loop v l hg hv0 hv p hp d 1 k (by omega) (by omega)
    · have hgn : gnum v l i = l.getD i 0 - l.getD (i - 1) 0 := by unfold gnum; rw [if_neg h0]
      have hx1 := hg.1 (i - 1) (by omega)
      have e1 : wrap64 ((i : Int) - 1) = ((i - 1 : Nat) : Int) := by rw [wrap_in _ (by omega) (by omega)]; omega
      have hrd2 : rd l ((i - 1 : Nat) : Int) = l.getD (i - 1) 0 := by unfold rd; rw [Int.toNat_natCast]
      rw [if_neg (by omega), if_pos (by omega), e1, if_pos (by omega), if_pos (by omega), hrd, hrd2, wrap_in (l.getD i 0 - l.getD (i - 1) 0) (by omega) (by omega), ← hgn, hw, Option.bind_some]
      exact rgaps_loop v l hg hv0 hv p hp d (i + 1) k (by omega) (by omega)
theorem rgaps_eq (v : Int) (l : List Int) (hg : GMay l) (hv0 : 0 ≤ v) (hv : v < 16) (k : Nat) (hk : 1400 ≤ k) : herbariumref3_Gaps.f k ([] : List Int) v l = some (gapsL v l) := by
  have h16 := gmay_len hg
  unfold herbariumref3_Gaps.f
  have hgl := gammaL_le (n := (l.length : Int) + 1) (by omega) (by omega)
  rw [wrap_in ((l.length : Int) + 1) (by omega) (by omega), rwrite [] _ (by omega) (by omega) (by simp) k (by omega), Option.bind_some, List.nil_append]
  have h := rgaps_loop v l hg hv0 hv (gammaL ((l.length : Int) + 1)) (by omega) l.length 0 k (by omega) (by omega)
  rw [gpieces, List.append_nil] at h
  exact h
/-- One code, read by both. -/
theorem read_both (b : List Int) (hb : IsBits b) (hlen : b.length ≤ 6000) (p : Nat) (hp : p ≤ b.length) :
    (∃ (v : Int) (q : Nat), code_Read.f (packS b) (b.length : Int) (p : Int) 2 = some (v, (q : Int), true) ∧ (∀ k, 7010 ≤ k → herbariumref1_List_Read.f k b (p : Int) 2 = some (v, (q : Int))) ∧ 1 ≤ v ∧ v ≤ 1073741824 ∧ q ≤ b.length) ∨
    (code_Read.f (packS b) (b.length : Int) (p : Int) 2 = some (0, 0, false) ∧ ∀ k, 7010 ≤ k → herbariumref1_List_Read.f k b (p : Int) 2 = some (-1, 0)) := by
  cases h : ReadL 2 (b.drop p) with
  | none => exact .inr ⟨cread_bad b hb hlen p hp h, fun k hk => by rw [read2 b hb hlen p hp k (by omega), rr_none 2 b p h]⟩
  | some q =>
    obtain ⟨v, c⟩ := q
    have hf : gammaR (b.drop p) = some (v, c) := by
      unfold ReadL at h
      rw [if_neg (by decide), if_pos rfl] at h
      exact h
    have hg := gamma_facts (b.drop p) (IsBits.drop' hb p) v c hf
    rw [List.length_drop] at hg
    by_cases hv : v ≤ 1073741824
    · exact .inl ⟨v, p + c, cread_good b hb hlen p c v hp h hv, fun k hk => by rw [read2 b hb hlen p hp k (by omega), rr_some 2 b p c v h hv], hg.1, hv, by omega⟩
    · refine .inr ⟨?_, fun k hk => by rw [read2 b hb hlen p hp k (by omega), rr_big 2 b p c v h (by omega)]⟩
      rw [read_eq b hb hlen p hp 2 (by omega) (by omega)]
      unfold readR; rw [h]; simp only; rw [if_pos (by omega)]
/-- The number of any sign, told by both. -/
theorem unfold_both (x : Int) (h0 : 0 ≤ x) (h1 : x ≤ 1073741824) : ∃ u, code_Unfold.f x = some u ∧ herbariumref1_Zag.f x = some u ∧ -1073741825 ≤ u ∧ u ≤ 1073741825 := by
  unfold code_Unfold.f herbariumref1_Zag.f
  rw [Int.tmod_eq_emod_of_nonneg h0]
  by_cases h : x % 2 = 0
  · obtain ⟨m, rfl⟩ : ∃ m, x = 2 * m := ⟨x / 2, by omega⟩
    rw [if_neg (by omega), if_pos h, Int.mul_tdiv_cancel_left _ (by decide), wrap_in m (by omega) (by omega)]
    exact ⟨m, rfl, rfl, by omega, by omega⟩
  · obtain ⟨m, rfl⟩ : ∃ m, x = 2 * m - 1 := ⟨(x + 1) / 2, by omega⟩
    rw [if_pos (by omega), if_neg h, wrap_in (2 * m - 1 + 1) (by omega) (by omega), wrap_in (-(2 * m - 1 + 1)) (by omega) (by omega), show -(2 * m - 1 + 1) = 2 * (-m) by omega, Int.mul_tdiv_cancel_left _ (by decide), wrap_in (-m) (by omega) (by omega)]
    exact ⟨-m, rfl, rfl, by omega, by omega⟩
theorem rtake_bad (b : List Int) (hb : IsBits b) (hlen : b.length ≤ 6000) (v : Int) (N : Nat) (hN : N ≤ 16) : ∀ (d i k p : Nat) (acc : List Int) (last : Int), i + d = N → 7100 + d ≤ k → p ≤ b.length → acc.length = i →
    (∃ j, j < acc.length ∧ ¬ (0 ≤ acc.getD j 0 ∧ acc.getD j 0 < 16)) → herbariumref3_TakeGaps.l0 k b (p : Int) v ((N : Int) + 1) acc last (i : Int) = some ([], 0, false)
  | 0, i, k, p, acc, last, hd, hk, hp, ha, hbad => by
    obtain ⟨k, rfl⟩ : ∃ m, k = m + 1 := ⟨k - 1, by omega⟩
    obtain ⟨j, hj, hx⟩ := hbad
    rw [herbariumref3_TakeGaps.l0, wrap_in _ (by omega) (by omega), if_neg (by omega), rmay_eq acc (by omega) k (by omega), Option.bind_some, decide_eq_false (fun hg => hx (hg.1 j hj)), if_neg (by decide)]
  | d + 1, i, k, p, acc, last, hd, hk, hp, ha, hbad => by
    obtain ⟨k, rfl⟩ : ∃ m, k = m + 1 := ⟨k - 1, by omega⟩
    obtain ⟨j, hj, hx⟩ := hbad
    rw [herbariumref3_TakeGaps.l0, wrap_in _ (by omega) (by omega), if_pos (by omega)]
    rcases read_both b hb hlen p hp with ⟨x, q, _, h2, h3, h4, h5⟩ | ⟨_, h2⟩
    · rw [h2 k (by omega), Option.bind_some]
      simp only
      rw [if_neg (by omega), if_neg (by omega), if_pos (by omega), wrap_in ((i : Int) + 1) (by omega) (by omega)]
      refine rtake_bad b hb hlen v N hN d (i + 1) k q (acc ++ [wrap64 (last + x)]) (wrap64 (last + x)) (by omega) (by omega) h5 (by rw [List.length_append, ha]; rfl) ⟨j, by rw [List.length_append]; omega, ?_⟩
      rw [List.getD_eq_getElem?_getD, List.getElem?_append_left hj, ← List.getD_eq_getElem?_getD]
      exact hx
    · rw [h2 k (by omega), Option.bind_some]
      rfl
theorem take_both (b : List Int) (hb : IsBits b) (hlen : b.length ≤ 6000) (v : Int) (hv0 : 0 ≤ v) (hv : v < 16) (N : Nat) (hN : N ≤ 16) : ∀ (d i k k' p : Nat) (acc : List Int) (last : Int), i + d = N → 7100 + d ≤ k → d < k' → p ≤ b.length → acc.length = i → GMay acc →
    (0 < i → last = acc.getD (i - 1) 0) → ∃ (l : List Int) (nx : Int) (ok : Bool), herbariumref3_TakeGaps.l0 k b (p : Int) v ((N : Int) + 1) acc last (i : Int) = some (l, nx, ok) ∧ gaps_Read.l0 k' acc (p : Int) (if i = 0 then v else last) (N : Int) (i : Int) (packS b) (b.length : Int) = some (l, nx, ok) ∧ l.length ≤ 16 ∧ (ok = false → l = [] ∧ nx = 0)
  | 0, i, k, k', p, acc, last, hd, hk, hk', hp, ha, hg, hla => by
    obtain ⟨k, rfl⟩ : ∃ m, k = m + 1 := ⟨k - 1, by omega⟩
    obtain ⟨k', rfl⟩ : ∃ m, k' = m + 1 := ⟨k' - 1, by omega⟩
    refine ⟨acc, p, true, ?_, ?_, by omega, fun h => by cases h⟩
    · rw [herbariumref3_TakeGaps.l0, wrap_in _ (by omega) (by omega), if_neg (by omega), rmay_eq acc (by omega) k (by omega), Option.bind_some, decide_eq_true hg, if_pos rfl]
    · rw [gaps_Read.l0, if_neg (by omega)]
  | d + 1, i, k, k', p, acc, last, hd, hk, hk', hp, ha, hg, hla => by
    obtain ⟨k, rfl⟩ : ∃ m, k = m + 1 := ⟨k - 1, by omega⟩
    obtain ⟨k', rfl⟩ : ∃ m, k' = m + 1 := ⟨k' - 1, by omega⟩
    rw [herbariumref3_TakeGaps.l0, wrap_in _ (by omega) (by omega), if_pos (by omega), gaps_Read.l0, if_pos (by omega)]
    rcases read_both b hb hlen p hp with ⟨x, q, h1, h2, h3, h4, h5⟩ | ⟨h1, h2⟩
    · have hin : ∀ y : Int, (0 < i → last < y) → ∃ (l : List Int) (nx : Int) (ok : Bool), herbariumref3_TakeGaps.l0 k b (q : Int) v ((N : Int) + 1) (acc ++ [y]) y ((i + 1 : Nat) : Int) = some (l, nx, ok) ∧ ((gaps_Is.f y).bind fun t991 => (if t991 = true then (if acc.length < 17592186044416 then (gaps_Read.l0 k' (acc ++ [y]) (q : Int) y (N : Int) ((i + 1 : Nat) : Int) (packS b) (b.length : Int)) else (none)) else (some (([] : List Int), 0, false)))) = some (l, nx, ok) ∧ l.length ≤ 16 ∧ (ok = false → l = [] ∧ nx = 0) := by
        intro y hy
        have hgl : (acc ++ [y]).getD i 0 = y := by
          rw [← ha, List.getD_eq_getElem?_getD, List.getElem?_append_right (Nat.le_refl _), Nat.sub_self]; rfl
        have hal : (acc ++ [y]).length = i + 1 := by rw [List.length_append, ha]; rfl
        rw [gis_eq, Option.bind_some]
        by_cases hr : 0 ≤ y ∧ y < 16
        · rw [decide_eq_true hr, if_pos rfl, if_pos (by omega)]
          have ih := take_both b hb hlen v hv0 hv N hN d (i + 1) k k' q (acc ++ [y]) y (by omega) (by omega) (by omega) h5 hal (gmay_snoc hg y hr.1 hr.2 (fun h0 => by rw [ha, ← hla (by omega)]; exact hy (by omega))) (fun _ => by rw [Nat.add_sub_cancel, hgl])
          rw [if_neg (by omega)] at ih
          exact ih
        · rw [decide_eq_false hr, if_neg (by decide)]
          exact ⟨[], 0, false, rtake_bad b hb hlen v N hN d (i + 1) k q (acc ++ [y]) y (by omega) (by omega) h5 hal ⟨i, by omega, by rw [hgl]; exact hr⟩, rfl, by simp, fun _ => ⟨rfl, rfl⟩⟩
      rw [h1, h2 k (by omega), Option.bind_some, Option.bind_some]
      simp only
      rw [if_neg (show ¬ (x < 1) by omega), if_pos trivial, wrap_in ((i : Int) + 1) (by omega) (by omega)]
      by_cases h0 : i = 0
      · obtain ⟨u, u1, u2, u3, u4⟩ := unfold_both (x - 1) (by omega) (by omega)
        rw [if_pos (show ((i : Int) = 0) by omega), if_pos (show ((i : Int) = 0) by omega), if_pos h0, wrap_in (x - 1) (by omega) (by omega), u1, u2, Option.bind_some, Option.bind_some, if_pos (by omega), wrap_in (v + u) (by omega) (by omega)]
        exact hin (v + u) (fun h => by omega)
      · have hlr := hg.1 (i - 1) (by omega)
        rw [← hla (by omega)] at hlr
        rw [if_neg (show ¬ ((i : Int) = 0) by omega), if_neg (show ¬ ((i : Int) = 0) by omega), if_neg h0, if_pos (by omega), wrap_in (last + x) (by omega) (by omega)]
        exact hin (last + x) (fun h => by omega)
    · rw [h1, h2 k (by omega), Option.bind_some, Option.bind_some]
      exact ⟨[], 0, false, rfl, rfl, by simp, fun _ => ⟨rfl, rfl⟩⟩
/-- Which list bits are: told by both alike. -/
theorem gtake_both (b : List Int) (hb : IsBits b) (hlen : b.length ≤ 6000) (a : Nat) (ha : a ≤ b.length) (v : Int) (hv0 : 0 ≤ v) (hv : v < 16) (k k' : Nat) (hk : 7200 ≤ k) (hk' : 40 ≤ k') :
    ∃ (l : List Int) (nx : Int) (ok : Bool), herbariumref3_TakeGaps.f k b (a : Int) v = some (l, nx, ok) ∧ gaps_Take.f k' (packS b) (b.length : Int) (a : Int) v = some (l, nx, if ok = true then 0 else 9) ∧ l.length ≤ 16 ∧ (ok = false → l = [] ∧ nx = 0) := by
  obtain ⟨k, rfl⟩ : ∃ m, k = m + 1 := ⟨k - 1, by omega⟩
  obtain ⟨k', rfl⟩ : ∃ m, k' = m + 1 + 1 := ⟨k' - 2, by omega⟩
  rw [gtake_read b hb hlen a ha v hv0 hv (k' + 1)]
  unfold herbariumref3_TakeGaps.f gaps_Read.f
  rcases read_both b hb hlen a ha with ⟨x, q, h1, h2, h3, h4, h5⟩ | ⟨h1, h2⟩
  · rw [h1, h2 (k + 1) (by omega), Option.bind_some, Option.bind_some]
    simp only
    rw [if_neg (show ¬ (x < 1) by omega), if_pos trivial, wrap_in (x - 1) (by omega) (by omega), herbariumref3_TakeGaps.j0, gaps_Read.j0]
    by_cases hx : x ≤ 17
    · obtain ⟨N, hN⟩ : ∃ N : Nat, x = (N : Int) + 1 := ⟨(x - 1).toNat, by omega⟩
      rw [decide_eq_false (show ¬ (x - 1 > 16) by omega), decide_eq_false (show ¬ (x > 17) by omega), if_neg (by decide), if_neg (by decide), wrap_in (x - 1) (by omega) (by omega), hN, Int.add_sub_cancel]
      obtain ⟨l, nx, ok, e1, e2, e3, e4⟩ := take_both b hb hlen v hv0 hv N (by omega) N 0 k k' q [] 0 (by omega) (by omega) (by omega) h5 rfl ⟨fun i hi => by simp at hi, fun i hi => by simp at hi⟩ (fun h => by omega)
      rw [if_pos rfl] at e2
      refine ⟨l, nx, ok, e1, ?_, e3, e4⟩
      refine (congrArg (fun o => Option.bind o _) e2).trans ?_
      rw [Option.bind_some]
      cases ok with
      | true => rfl
      | false =>
        obtain ⟨rfl, rfl⟩ := e4 rfl
        rfl
    · rw [decide_eq_true (show x - 1 > 16 by omega), decide_eq_true (show x > 17 by omega), if_pos rfl, if_pos rfl]
      exact ⟨[], 0, false, rfl, rfl, by simp, fun _ => ⟨rfl, rfl⟩⟩
  · rw [h1, h2 (k + 1) (by omega), Option.bind_some, Option.bind_some]
    simp only
    rw [if_pos (show ((-1 : Int) < 1) by omega), if_neg (by decide), herbariumref3_TakeGaps.j0, gaps_Read.j0, if_pos rfl, if_pos rfl]
    exact ⟨[], 0, false, rfl, rfl, by simp, fun _ => ⟨rfl, rfl⟩⟩
end Go.Proofs.Ytnpghcikhpglkaa.Pb
namespace Go.Proofs.Ytnpghcikhpglkaa.Pb
open Go.RowKit Go.Proofs.YtnpghcikhpglkaaW.PrintWords Go.Proofs.YtnpghcikhpglkaaW.PrintLast Go.Proofs.YtnpghcikhpglkaaW.PrintMore Go.Proofs.Ytnpghcikhpglkaa.Hand Go.Proofs.Ytnpghcikhpglkaa.Pu Go.Proofs.Ytnpghcikhpglkaa.Q
set_option linter.unusedVariables false
set_option linter.unusedSimpArgs false
theorem set_map_range (n j : Nat) (f g : Nat → Int) (hj : j < n) (hne : ∀ i, i ≠ j → g i = f i) : ((List.range n).map f).set j (g j) = (List.range n).map g := by
  refine List.ext_getElem? fun i => ?_
  rw [List.getElem?_set, List.getElem?_map, List.getElem?_map, List.length_map, List.length_range]
  by_cases h : j = i
  · subst h
    rw [if_pos rfl, if_pos hj, List.getElem?_range hj]; rfl
  · rw [if_neg h]
    rcases Nat.lt_or_ge i n with hi | hi
    · rw [List.getElem?_range hi]; simp only [Option.map_some]; rw [hne i (fun e => h e.symm)]
    · rw [List.getElem?_eq_none (by simp; omega)]; rfl
theorem or_bit (x b : Int) (r : Nat) (hx0 : 0 ≤ x) (hx : x < 256) (hb : b = 0 ∨ b = 1) (hr : r ≤ 7) (hd : x % 2 ^ (r + 1) = 0) : Go.bits .or .u8 x (shl .u8 b (r : Int)) = x + b * 2 ^ r := by
  have h := rowByte_eq x b 0 (r : Int) hx0 hx (by omega) (by omega) (by omega) (by omega) (by rw [Int.toNat_natCast]; exact hd)
  have h2 := bitAt_eq b 0 (r : Int) (by omega) (by omega) (by omega) (by omega)
  unfold rowByte at h
  rw [h2, Int.toNat_natCast] at h
  have e : b / 2 ^ 0 % 2 = b := by rcases hb with rfl | rfl <;> rfl
  rw [e] at h
  have hs : shl .u8 b (r : Int) = b * 2 ^ r := by
    have hr2 : r = 0 ∨ r = 1 ∨ r = 2 ∨ r = 3 ∨ r = 4 ∨ r = 5 ∨ r = 6 ∨ r = 7 := by omega
    rcases hb with rfl | rfl <;> rcases hr2 with rfl | rfl | rfl | rfl | rfl | rfl | rfl | rfl <;> decide +kernel
  rw [hs, h]
theorem pack_loop (l : List Int) (hl : IsBits l) (hlen : l.length ≤ 1000000) : ∀ (d k i : Nat), i + d = l.length → d < k →
    herbariumref1_List_Pack.l0 k l ((List.range ((l.length + 7) / 8)).map (byteAt (l.take i))) (i : Int) = some (packS l, (l.length : Int))
  | 0, k, i, hi, hk => by
    obtain ⟨k, rfl⟩ : ∃ m, k = m + 1 := ⟨k - 1, by omega⟩
    simp only [herbariumref1_List_Pack.l0]
    rw [if_neg (by omega), List.take_of_length_le (by omega)]
    rfl
  | d + 1, k, i, hi, hk => by
    obtain ⟨k, rfl⟩ : ∃ m, k = m + 1 := ⟨k - 1, by omega⟩
    have hb := hl.getD i
    have hsn := take_snoc l i (by omega)
    have hti : (l.take i).length = i := by rw [List.length_take]; omega
    have hn := byteAt_snoc_new (l.take i) (l.getD i 0)
    rw [hsn, hti] at hn
    have ho : ∀ j, j ≠ i / 8 → byteAt (l.take (i + 1)) j = byteAt (l.take i) j := fun j hj => by
      rw [← hsn]; exact byteAt_snoc_old _ _ j (by rw [hti]; exact hj)
    have hrg := byteAt_range (IsBits.take' hl i) (i / 8)
    have e1 : wrap64 (Int.tdiv (i : Int) 8) = ((i / 8 : Nat) : Int) := by rw [tdiv8 _ (by omega), wrap_in _ (by omega) (by omega)]; omega
    have e2 : wrap64 (7 - Int.tmod (i : Int) 8) = ((7 - i % 8 : Nat) : Int) := by rw [tmod8 _ (by omega), wrap_in _ (by omega) (by omega)]; omega
    have hrd : rd l (i : Int) = l.getD i 0 := by unfold rd; rw [Int.toNat_natCast]
    have hrx : rd ((List.range ((l.length + 7) / 8)).map (byteAt (l.take i))) ((i / 8 : Nat) : Int) = byteAt (l.take i) (i / 8) := by
      unfold rd
      rw [Int.toNat_natCast, List.getD_eq_getElem?_getD, List.getElem?_map, List.getElem?_range (by omega)]
      rfl
    simp only [herbariumref1_List_Pack.l0]
    rw [if_pos (by omega), e1, e2, if_pos (by omega), if_pos (by simp; omega), if_pos (by omega), if_pos (by omega), hrx, hrd, or_bit _ _ (7 - i % 8) hrg.1 hrg.2 hb (by omega) hn.2, ← hn.1, Int.toNat_natCast, set_map_range _ _ (byteAt (l.take i)) (byteAt (l.take (i + 1))) (by omega) ho, wrap_in _ (by omega) (by omega)]
    exact pack_loop l hl hlen d k (i + 1) (by omega) (by omega)
theorem refPack_eq (l : List Int) (hl : IsBits l) (hlen : l.length ≤ 1000000) (k : Nat) (hk : l.length < k) : herbariumref1_List_Pack.f k l = some (packS l, (l.length : Int)) := by
  unfold herbariumref1_List_Pack.f
  have e : wrap64 (Int.tdiv (wrap64 ((l.length : Int) + 7)) 8) = (((l.length + 7) / 8 : Nat) : Int) := by
    rw [wrap_in ((l.length : Int) + 7) (by omega) (by omega), tdiv8 _ (by omega), wrap_in _ (by omega) (by omega)]; omega
  rw [e, if_pos (by omega), Int.toNat_natCast, if_pos (by omega)]
  have h0 : List.replicate ((l.length + 7) / 8) (0 : Int) = (List.range ((l.length + 7) / 8)).map (byteAt (l.take 0)) := by
    refine List.ext_getElem? fun i => ?_
    rw [List.getElem?_map]
    rcases Nat.lt_or_ge i ((l.length + 7) / 8) with hi | hi
    · rw [List.getElem?_range hi, List.getElem?_replicate, if_pos hi]; rfl
    · rw [List.getElem?_eq_none (by simp; omega), List.getElem?_eq_none (by simp; omega)]; rfl
  rw [h0]
  exact pack_loop l hl hlen l.length k 0 (by omega) hk
end Go.Proofs.Ytnpghcikhpglkaa.Pb
namespace Go.Proofs.Ytnpghcikhpglkaa.Q
open Go.RowKit Go.Proofs.YtnpghcikhpglkaaW.PrintWords Go.Proofs.YtnpghcikhpglkaaW.PrintLast Go.Proofs.YtnpghcikhpglkaaW.PrintMore Go.Proofs.Ytnpghcikhpglkaa.Hand Go.Proofs.Ytnpghcikhpglkaa.Pu
set_option linter.unusedVariables false
set_option linter.unusedSimpArgs false
set_option maxHeartbeats 4000000 in
set_option maxRecDepth 100000 in
theorem cat_no1 (s : ByteArray) (n : Int) (s2 : ByteArray) (n2 : Int) (w : World) (hm : ¬ MayP s n) :
    Calls Try.prog 43 #[.agg #[.string s, .int .i64 n], .agg #[.string s2, .int .i64 n2]] w fun e w' => e = .returned (.tuple #[.agg #[.string ⟨#[]⟩, .int .i64 0], .int .i64 1]) ∧ Below w.heap.size w w' := by
  have hu := Try.underlying27
  have A := Aside0.mk (show bits_May.f s n = some false by rw [may_eq, decide_eq_false hm])
  have HS := Aside0.mk (start3 w (.cells #[.string s, .int .i64 n] 27) (.cells #[.string s2, .int .i64 n2] 27) (.cells #[.string ⟨#[]⟩, .int .i64 0] 27))
  clear hm
  go_enter Try.func43, Try.ntmps43
  go_wp2_with (first | ((with_reducible refine gate_callee (f := 86) rfl ?_); refine goesL_ (some 9) rfl rfl Try.func86 (by kernel_rfl) rfl #[.agg #[.string s, .int .i64 n]] rfl (by (try simp only [List.map_toArray, List.map_cons, List.map_nil]); first | done | rfl) ?_; (with_reducible refine (bits_May.calls s n false _ A.out).mono ?_); rintro e w1 ⟨rfl, hb⟩; refine ⟨_, rfl, ?_⟩; have HA := Aside0.mk (keep2 HS.out.2.1 hb (by have := HS.out.2.2.2.2; omega)); have HR := Aside0.mk (keep2 HS.out.2.2.1 hb (by have := HS.out.2.2.2.2; omega)); obtain ⟨a0, a1, g0, g1⟩ := two_cells HA.out; obtain ⟨c0, c1, f0, f1⟩ := two_cells HR.out; have HB := Aside0.mk (below_then HS.out.2.2.2.1 HS.out.2.2.2.1.size hb); have HA1 := Aside0.mk (keep2 HS.out.1 hb (by have := HS.out.2.2.2.2; omega)); obtain ⟨x0, x1, y0, y1⟩ := two_cells HA1.out; clear hb))
  refine bodyPost_ret (results_list (rs := [.cell 4 27, .tmp 5]) rfl (by simp) (.cell (w.heap.size + 2) 27 #[.string ⟨#[]⟩, .int .i64 0] (0, 0) _ rfl (put2 HR.out) Try.underlying27 rfl (by kernel_rfl) (.tmp .nil))) rfl ⟨rfl, below_put2 HB.out (by omega) _ _⟩
set_option maxHeartbeats 4000000 in
set_option maxRecDepth 100000 in
theorem cat_no2 (s : ByteArray) (n : Int) (s2 : ByteArray) (n2 : Int) (w : World) (hm : MayP s n) (hm2 : ¬ MayP s2 n2) :
    Calls Try.prog 43 #[.agg #[.string s, .int .i64 n], .agg #[.string s2, .int .i64 n2]] w fun e w' => e = .returned (.tuple #[.agg #[.string ⟨#[]⟩, .int .i64 0], .int .i64 1]) ∧ Below w.heap.size w w' := by
  have hu := Try.underlying27
  have A := Aside0.mk (show bits_May.f s n = some true by rw [may_eq, decide_eq_true hm])
  have A2 := Aside0.mk (show bits_May.f s2 n2 = some false by rw [may_eq, decide_eq_false hm2])
  have HS := Aside0.mk (start3 w (.cells #[.string s, .int .i64 n] 27) (.cells #[.string s2, .int .i64 n2] 27) (.cells #[.string ⟨#[]⟩, .int .i64 0] 27))
  clear hm hm2
  go_enter Try.func43, Try.ntmps43
  go_wp2_with (first | ((with_reducible refine gate_callee (f := 86) rfl ?_); refine goesL_ (some 9) rfl rfl Try.func86 (by kernel_rfl) rfl #[.agg #[.string s, .int .i64 n]] rfl (by (try simp only [List.map_toArray, List.map_cons, List.map_nil]); first | done | rfl) ?_; (with_reducible refine (bits_May.calls s n true _ A.out).mono ?_); rintro e w1 ⟨rfl, hb⟩; refine ⟨_, rfl, ?_⟩; have HA := Aside0.mk (keep2 HS.out.2.1 hb (by have := HS.out.2.2.2.2; omega)); have HR := Aside0.mk (keep2 HS.out.2.2.1 hb (by have := HS.out.2.2.2.2; omega)); obtain ⟨a0, a1, g0, g1⟩ := two_cells HA.out; obtain ⟨c0, c1, f0, f1⟩ := two_cells HR.out; have HB := Aside0.mk (below_then HS.out.2.2.2.1 HS.out.2.2.2.1.size hb); have HA1 := Aside0.mk (keep2 HS.out.1 hb (by have := HS.out.2.2.2.2; omega)); obtain ⟨x0, x1, y0, y1⟩ := two_cells HA1.out; clear hb))
  go_wp2_with (first | (go_at_call 86; ((with_reducible refine (bits_May.calls s2 n2 false _ A2.out).mono ?_); rintro e w2 ⟨rfl, hb⟩); have HGG := Aside0.mk (Nat.lt_of_lt_of_le (blk_lt HR.out) hb.size); have HAA := Aside0.mk (keep2 HA.out hb (blk_lt HA.out)); have HRR := Aside0.mk (keep2 HR.out hb (blk_lt HR.out)); have HA11 := Aside0.mk (keep2 HA1.out hb (blk_lt HA1.out)); clear HA HR HA1 x0 x1 y0 y1 a0 a1 g0 g1 c0 c1 f0 f1; have HA := HAA; have HR := HRR; have HA1 := HA11; clear HAA HRR HA11; obtain ⟨a0, a1, g0, g1⟩ := two_cells HA.out; obtain ⟨c0, c1, f0, f1⟩ := two_cells HR.out; obtain ⟨x0, x1, y0, y1⟩ := two_cells HA1.out; have HBB := Aside0.mk (below_then HB.out HB.out.size hb); clear HB; have HB := HBB; clear HBB; clear hb))
  refine bodyPost_ret (results_list (rs := [.cell 4 27, .tmp 5]) rfl (by simp) (.cell (w.heap.size + 2) 27 #[.string ⟨#[]⟩, .int .i64 0] (0, 0) _ rfl (put2 HR.out) Try.underlying27 rfl (by kernel_rfl) (.tmp .nil))) rfl ⟨rfl, below_put2 HB.out (by omega) _ _⟩
set_option maxHeartbeats 4000000 in
set_option maxRecDepth 100000 in
theorem cat_yes (s : ByteArray) (n : Int) (s2 : ByteArray) (n2 : Int) (w : World) (hm : MayP s n) (hm2 : MayP s2 n2) (hn : n + n2 ≤ 6000) :
    Calls Try.prog 43 #[.agg #[.string s, .int .i64 n], .agg #[.string s2, .int .i64 n2]] w fun e w' => e = .returned (.tuple #[.agg #[.string (strOfNums (rowSeq s2 n2.toNat 0 (bytesI s, n)).1), .int .i64 (rowSeq s2 n2.toNat 0 (bytesI s, n)).2], .int .i64 0]) ∧ Below w.heap.size w w' := by
  have hu := Try.underlying27
  have A := Aside0.mk (show bits_May.f s n = some true by rw [may_eq, decide_eq_true hm])
  have A2 := Aside0.mk (show bits_May.f s2 n2 = some true by rw [may_eq, decide_eq_true hm2])
  have HS := Aside0.mk (start3 w (.cells #[.string s, .int .i64 n] 27) (.cells #[.string s2, .int .i64 n2] 27) (.cells #[.string ⟨#[]⟩, .int .i64 0] 27))
  have hsz : s.size ≤ 1073741824 := by have := hm.2.2.1; have := hm.2.1; omega
  have hn0 : 0 ≤ n := hm.1
  have hn6 : n ≤ 6000 := hm.2.1
  have hk0 : 0 ≤ n2 := hm2.1
  have hk6 : n2 ≤ 6000 := hm2.2.1
  have HSZ := Aside0.mk hm.2.2.1
  have HSZ2 := Aside0.mk hm2.2.2.1
  have HLE := Aside0.mk hn
  clear hm hm2 hn
  go_enter Try.func43, Try.ntmps43
  go_wp2_with (first | ((with_reducible refine gate_callee (f := 86) rfl ?_); refine goesL_ (some 9) rfl rfl Try.func86 (by kernel_rfl) rfl #[.agg #[.string s, .int .i64 n]] rfl (by (try simp only [List.map_toArray, List.map_cons, List.map_nil]); first | done | rfl) ?_; (with_reducible refine (bits_May.calls s n true _ A.out).mono ?_); rintro e w1 ⟨rfl, hb⟩; refine ⟨_, rfl, ?_⟩; have HA := Aside0.mk (keep2 HS.out.2.1 hb (by have := HS.out.2.2.2.2; omega)); have HR := Aside0.mk (keep2 HS.out.2.2.1 hb (by have := HS.out.2.2.2.2; omega)); obtain ⟨a0, a1, g0, g1⟩ := two_cells HA.out; obtain ⟨c0, c1, f0, f1⟩ := two_cells HR.out; have HB := Aside0.mk (below_then HS.out.2.2.2.1 HS.out.2.2.2.1.size hb); have HA1 := Aside0.mk (keep2 HS.out.1 hb (by have := HS.out.2.2.2.2; omega)); obtain ⟨x0, x1, y0, y1⟩ := two_cells HA1.out; clear hb))
  go_wp2_with (first | (go_at_call 86; ((with_reducible refine (bits_May.calls s2 n2 true _ A2.out).mono ?_); rintro e w2 ⟨rfl, hb⟩); have HGG := Aside0.mk (Nat.lt_of_lt_of_le (blk_lt HR.out) hb.size); have HAA := Aside0.mk (keep2 HA.out hb (blk_lt HA.out)); have HRR := Aside0.mk (keep2 HR.out hb (blk_lt HR.out)); have HA11 := Aside0.mk (keep2 HA1.out hb (blk_lt HA1.out)); clear HA HR HA1 x0 x1 y0 y1 a0 a1 g0 g1 c0 c1 f0 f1; have HA := HAA; have HR := HRR; have HA1 := HA11; clear HAA HRR HA11; obtain ⟨a0, a1, g0, g1⟩ := two_cells HA.out; obtain ⟨c0, c1, f0, f1⟩ := two_cells HR.out; obtain ⟨x0, x1, y0, y1⟩ := two_cells HA1.out; have HBB := Aside0.mk (below_then HB.out HB.out.size hb); clear HB; have HB := HBB; clear HBB; clear hb) | (go_at_call 88; ((with_reducible refine (from_ _ s n hsz).mono ?_); rintro e w3 ⟨p, rfl, hrow, hb3⟩); have HROW := Aside0.mk hrow; have HB3 := Aside0.mk hb3; have HAA := Aside0.mk (keep2 HA.out hb3 (blk_lt HA.out)); have HRR := Aside0.mk (keep2 HR.out hb3 (blk_lt HR.out)); clear HA HR a0 a1 g0 g1 c0 c1 f0 f1 HA1 x0 x1 y0 y1; have HA := HAA; have HR := HRR; clear HAA HRR; obtain ⟨a0, a1, g0, g1⟩ := two_cells HA.out; obtain ⟨c0, c1, f0, f1⟩ := two_cells HR.out; have HBB := Aside0.mk (below_then HB.out HB.out.size hb3); clear HB; have HB := HBB; clear HBB; clear hrow hb3))
  have HG2 := Aside0.mk (HGG.out)
  have HG1 := Aside0.mk (Nat.lt_of_succ_lt HGG.out)
  go_loopw [21] (fun i wr => ∃ (c : Nat) (st : List Int × Int), i = .int .i64 c ∧ Aside0 (rowSeq s2 (n2.toNat - c) c st = rowSeq s2 n2.toNat 0 (bytesI s, n)) ∧ Aside0 (RowIs wr w2.heap.size p st.1 st.2) ∧ Aside0 (st.2 = n + c) ∧ Aside0 ((st.1.length : Int) = (st.2 + 7) / 8) ∧ c ≤ n2.toNat ∧ Aside0 (wr.heap[w.heap.size + 1]? = some (.cells #[.string s2, .int .i64 n2] 27 (0, 0))) ∧ Aside0 (wr.heap[w.heap.size + 2]? = some (.cells #[.string ⟨#[]⟩, .int .i64 0] 27 (0, 0))) ∧ Aside0 (Below w.heap.size w wr) ∧ Aside0 (w3.heap.size ≤ wr.heap.size))
    (fun i wr => (n2 - intOf i).toNat)
  case atStart => exact ⟨0, (bytesI s, n), rfl, ⟨by simp⟩, ⟨HROW.out⟩, ⟨by simp⟩, ⟨by rw [bytesI_length]; exact HSZ.out⟩, Nat.zero_le _, ⟨HA.out⟩, ⟨HR.out⟩, ⟨HB.out⟩, ⟨Nat.le_refl _⟩⟩
  case round =>
    clear HA HR a0 a1 g0 g1 c0 c1 f0 f1 HB HROW
    obtain ⟨c, ⟨bs, m⟩, rfl, HSEQ, HROW, HM, HLEN, hc, HA, HR, HB, HWR⟩ := hrel
    have hm : Aside0 (m = n + c) := HM
    obtain ⟨a0, a1, g0, g1⟩ := two_cells HA.out
    obtain ⟨c0, c1, f0, f1⟩ := two_cells HR.out
    by_cases hlt : (c : Int) < n2
    · have HBIT := Aside0.mk (bit_some s2 n2 c (by omega) (by have := HSZ2.out; omega) (by omega))
      go_wp2_with (first | (go_at_call 100; ((with_reducible refine (bits_bit.calls s2 n2 c (bitOf s2 c) _ HBIT.out).mono ?_); rintro e w4 ⟨rfl, hb3⟩); have HROW2 := Aside0.mk (HROW.out.below hb3); have HBB := Aside0.mk hb3; clear hb3) | (go_at_call 89; ((with_reducible refine (row_put1 _ w2.heap.size p bs m (bitOf s2 c) HROW2.out ?e1 ?e2 ?e3 ?e4).mono ?_); (case e1 => rw [hm.out]; omega); (case e2 => exact HLEN.out); (case e3 => rw [hm.out]; omega); (case e4 => exact Nat.le_trans (Nat.le_trans HB3.out.size HWR.out) HBB.out.size); rintro e w5 ⟨rfl, hrow3, hb3⟩); have HROW3 := Aside0.mk hrow3; have HB4 := Aside0.mk hb3; clear hrow3 hb3))
      go_roundw
      case rel =>
        refine ⟨c + 1, rowPut 1 (bs, m) (bitOf s2 c), by go_num, ⟨?_⟩, ⟨HROW3.out⟩, ⟨?_⟩, ⟨rowPut1_len (bs, m) _ (by rw [hm.out]; omega) HLEN.out⟩, by omega, ⟨keep2 (keep2 HA.out HBB.out (blk_lt HA.out)) HB4.out (by have := HG1.out; omega)⟩, ⟨keep2 (keep2 HR.out HBB.out (blk_lt HR.out)) HB4.out (by have := HG2.out; omega)⟩, ⟨(HB.out.trans (HBB.out.mono HB.out.size)).trans (HB4.out.mono (by have := HG1.out; omega))⟩, ⟨Nat.le_trans HWR.out (Nat.le_trans HBB.out.size HB4.out.size)⟩⟩
        · rw [← HSEQ.out, show n2.toNat - c = (n2.toNat - (c + 1)) + 1 by omega, rowSeq, show ((c + 1 : Nat) : Int) = (c : Int) + 1 by omega]
        · rw [rowPut_snd, hm.out]; simp only []; omega
      case measure => simp [intOf]; omega
    · have hcc : c = n2.toNat := by omega
      have HE : Aside0 ((bs, m) = rowSeq s2 n2.toNat 0 (bytesI s, n)) := ⟨by
        have := HSEQ.out
        rw [hcc, Nat.sub_self, rowSeq] at this
        exact this⟩
      have HM6 : Aside0 (m ≤ 6000) := ⟨by have := hm.out; have := HLE.out; omega⟩
      clear hcc
      go_wp2_with (first | (go_at_call 90; ((with_reducible refine (row_bits_yes _ _ p bs m HROW.out HM6.out).mono ?_); rintro e w4 ⟨rfl, hb4⟩); have HR4 := Aside0.mk (keep2 HR.out hb4 (blk_lt HR.out)); have HB4 := Aside0.mk (below_then HB.out HB.out.size hb4); clear HR c0 c1 f0 f1; obtain ⟨c0, c1, f0, f1⟩ := two_cells HR4.out; clear hb4))
      refine bodyPost_ret (results_list (rs := [.cell 4 27, .tmp 5]) rfl (by simp) (.cell (w.heap.size + 2) 27 #[.string (strOfNums bs), .int .i64 m] (0, 0) _ rfl (put2 HR4.out) Try.underlying27 rfl (by kernel_rfl) (.tmp .nil))) rfl ⟨by rw [← HE.out] <;> rfl, below_put2 HB4.out (by omega) _ _⟩
set_option maxHeartbeats 4000000 in
set_option maxRecDepth 100000 in
theorem cat_full (s : ByteArray) (n : Int) (s2 : ByteArray) (n2 : Int) (w : World) (hm : MayP s n) (hm2 : MayP s2 n2) (hn : 6000 < n + n2) :
    Calls Try.prog 43 #[.agg #[.string s, .int .i64 n], .agg #[.string s2, .int .i64 n2]] w fun e w' => e = .returned (.tuple #[.agg #[.string ⟨#[]⟩, .int .i64 0], .int .i64 2]) ∧ Below w.heap.size w w' := by
  have hu := Try.underlying27
  have A := Aside0.mk (show bits_May.f s n = some true by rw [may_eq, decide_eq_true hm])
  have A2 := Aside0.mk (show bits_May.f s2 n2 = some true by rw [may_eq, decide_eq_true hm2])
  have HS := Aside0.mk (start3 w (.cells #[.string s, .int .i64 n] 27) (.cells #[.string s2, .int .i64 n2] 27) (.cells #[.string ⟨#[]⟩, .int .i64 0] 27))
  have hsz : s.size ≤ 1073741824 := by have := hm.2.2.1; have := hm.2.1; omega
  have hn0 : 0 ≤ n := hm.1
  have hn6 : n ≤ 6000 := hm.2.1
  have hk0 : 0 ≤ n2 := hm2.1
  have hk6 : n2 ≤ 6000 := hm2.2.1
  have HSZ := Aside0.mk hm.2.2.1
  have HSZ2 := Aside0.mk hm2.2.2.1
  have HLE := Aside0.mk hn
  clear hm hm2 hn
  go_enter Try.func43, Try.ntmps43
  go_wp2_with (first | ((with_reducible refine gate_callee (f := 86) rfl ?_); refine goesL_ (some 9) rfl rfl Try.func86 (by kernel_rfl) rfl #[.agg #[.string s, .int .i64 n]] rfl (by (try simp only [List.map_toArray, List.map_cons, List.map_nil]); first | done | rfl) ?_; (with_reducible refine (bits_May.calls s n true _ A.out).mono ?_); rintro e w1 ⟨rfl, hb⟩; refine ⟨_, rfl, ?_⟩; have HA := Aside0.mk (keep2 HS.out.2.1 hb (by have := HS.out.2.2.2.2; omega)); have HR := Aside0.mk (keep2 HS.out.2.2.1 hb (by have := HS.out.2.2.2.2; omega)); obtain ⟨a0, a1, g0, g1⟩ := two_cells HA.out; obtain ⟨c0, c1, f0, f1⟩ := two_cells HR.out; have HB := Aside0.mk (below_then HS.out.2.2.2.1 HS.out.2.2.2.1.size hb); have HA1 := Aside0.mk (keep2 HS.out.1 hb (by have := HS.out.2.2.2.2; omega)); obtain ⟨x0, x1, y0, y1⟩ := two_cells HA1.out; clear hb))
  go_wp2_with (first | (go_at_call 86; ((with_reducible refine (bits_May.calls s2 n2 true _ A2.out).mono ?_); rintro e w2 ⟨rfl, hb⟩); have HGG := Aside0.mk (Nat.lt_of_lt_of_le (blk_lt HR.out) hb.size); have HAA := Aside0.mk (keep2 HA.out hb (blk_lt HA.out)); have HRR := Aside0.mk (keep2 HR.out hb (blk_lt HR.out)); have HA11 := Aside0.mk (keep2 HA1.out hb (blk_lt HA1.out)); clear HA HR HA1 x0 x1 y0 y1 a0 a1 g0 g1 c0 c1 f0 f1; have HA := HAA; have HR := HRR; have HA1 := HA11; clear HAA HRR HA11; obtain ⟨a0, a1, g0, g1⟩ := two_cells HA.out; obtain ⟨c0, c1, f0, f1⟩ := two_cells HR.out; obtain ⟨x0, x1, y0, y1⟩ := two_cells HA1.out; have HBB := Aside0.mk (below_then HB.out HB.out.size hb); clear HB; have HB := HBB; clear HBB; clear hb) | (go_at_call 88; ((with_reducible refine (from_ _ s n hsz).mono ?_); rintro e w3 ⟨p, rfl, hrow, hb3⟩); have HROW := Aside0.mk hrow; have HB3 := Aside0.mk hb3; have HAA := Aside0.mk (keep2 HA.out hb3 (blk_lt HA.out)); have HRR := Aside0.mk (keep2 HR.out hb3 (blk_lt HR.out)); clear HA HR a0 a1 g0 g1 c0 c1 f0 f1 HA1 x0 x1 y0 y1; have HA := HAA; have HR := HRR; clear HAA HRR; obtain ⟨a0, a1, g0, g1⟩ := two_cells HA.out; obtain ⟨c0, c1, f0, f1⟩ := two_cells HR.out; have HBB := Aside0.mk (below_then HB.out HB.out.size hb3); clear HB; have HB := HBB; clear HBB; clear hrow hb3))
  have HG2 := Aside0.mk (HGG.out)
  have HG1 := Aside0.mk (Nat.lt_of_succ_lt HGG.out)
  go_loopw [21] (fun i wr => ∃ (c : Nat) (st : List Int × Int), i = .int .i64 c ∧ Aside0 (rowSeq s2 (n2.toNat - c) c st = rowSeq s2 n2.toNat 0 (bytesI s, n)) ∧ Aside0 (RowIs wr w2.heap.size p st.1 st.2) ∧ Aside0 (st.2 = n + c) ∧ Aside0 ((st.1.length : Int) = (st.2 + 7) / 8) ∧ c ≤ n2.toNat ∧ Aside0 (wr.heap[w.heap.size + 1]? = some (.cells #[.string s2, .int .i64 n2] 27 (0, 0))) ∧ Aside0 (wr.heap[w.heap.size + 2]? = some (.cells #[.string ⟨#[]⟩, .int .i64 0] 27 (0, 0))) ∧ Aside0 (Below w.heap.size w wr) ∧ Aside0 (w3.heap.size ≤ wr.heap.size))
    (fun i wr => (n2 - intOf i).toNat)
  case atStart => exact ⟨0, (bytesI s, n), rfl, ⟨by simp⟩, ⟨HROW.out⟩, ⟨by simp⟩, ⟨by rw [bytesI_length]; exact HSZ.out⟩, Nat.zero_le _, ⟨HA.out⟩, ⟨HR.out⟩, ⟨HB.out⟩, ⟨Nat.le_refl _⟩⟩
  case round =>
    clear HA HR a0 a1 g0 g1 c0 c1 f0 f1 HB HROW
    obtain ⟨c, ⟨bs, m⟩, rfl, HSEQ, HROW, HM, HLEN, hc, HA, HR, HB, HWR⟩ := hrel
    have hm : Aside0 (m = n + c) := HM
    obtain ⟨a0, a1, g0, g1⟩ := two_cells HA.out
    obtain ⟨c0, c1, f0, f1⟩ := two_cells HR.out
    by_cases hlt : (c : Int) < n2
    · have HBIT := Aside0.mk (bit_some s2 n2 c (by omega) (by have := HSZ2.out; omega) (by omega))
      go_wp2_with (first | (go_at_call 100; ((with_reducible refine (bits_bit.calls s2 n2 c (bitOf s2 c) _ HBIT.out).mono ?_); rintro e w4 ⟨rfl, hb3⟩); have HROW2 := Aside0.mk (HROW.out.below hb3); have HBB := Aside0.mk hb3; clear hb3) | (go_at_call 89; ((with_reducible refine (row_put1 _ w2.heap.size p bs m (bitOf s2 c) HROW2.out ?e1 ?e2 ?e3 ?e4).mono ?_); (case e1 => rw [hm.out]; omega); (case e2 => exact HLEN.out); (case e3 => rw [hm.out]; omega); (case e4 => exact Nat.le_trans (Nat.le_trans HB3.out.size HWR.out) HBB.out.size); rintro e w5 ⟨rfl, hrow3, hb3⟩); have HROW3 := Aside0.mk hrow3; have HB4 := Aside0.mk hb3; clear hrow3 hb3))
      go_roundw
      case rel =>
        refine ⟨c + 1, rowPut 1 (bs, m) (bitOf s2 c), by go_num, ⟨?_⟩, ⟨HROW3.out⟩, ⟨?_⟩, ⟨rowPut1_len (bs, m) _ (by rw [hm.out]; omega) HLEN.out⟩, by omega, ⟨keep2 (keep2 HA.out HBB.out (blk_lt HA.out)) HB4.out (by have := HG1.out; omega)⟩, ⟨keep2 (keep2 HR.out HBB.out (blk_lt HR.out)) HB4.out (by have := HG2.out; omega)⟩, ⟨(HB.out.trans (HBB.out.mono HB.out.size)).trans (HB4.out.mono (by have := HG1.out; omega))⟩, ⟨Nat.le_trans HWR.out (Nat.le_trans HBB.out.size HB4.out.size)⟩⟩
        · rw [← HSEQ.out, show n2.toNat - c = (n2.toNat - (c + 1)) + 1 by omega, rowSeq, show ((c + 1 : Nat) : Int) = (c : Int) + 1 by omega]
        · rw [rowPut_snd, hm.out]; simp only []; omega
      case measure => simp [intOf]; omega
    · have hcc : c = n2.toNat := by omega
      have HE : Aside0 ((bs, m) = rowSeq s2 n2.toNat 0 (bytesI s, n)) := ⟨by
        have := HSEQ.out
        rw [hcc, Nat.sub_self, rowSeq] at this
        exact this⟩
      have HM6 : Aside0 (6000 < m) := ⟨by have := hm.out; have := HLE.out; omega⟩
      clear hcc
      go_wp2_with (first | (go_at_call 90; ((with_reducible refine (row_bits_no _ _ p bs m HROW.out HM6.out).mono ?_); rintro e w4 ⟨rfl, hb4⟩); have HR4 := Aside0.mk (keep2 HR.out hb4 (blk_lt HR.out)); have HB4 := Aside0.mk (below_then HB.out HB.out.size hb4); clear HR c0 c1 f0 f1; obtain ⟨c0, c1, f0, f1⟩ := two_cells HR4.out; clear hb4))
      refine bodyPost_ret (results_list (rs := [.cell 4 27, .tmp 5]) rfl (by simp) (.cell (w.heap.size + 2) 27 #[.string ⟨#[]⟩, .int .i64 0] (0, 0) _ rfl (put2 HR4.out) Try.underlying27 rfl (by kernel_rfl) (.tmp .nil))) rfl ⟨rfl, below_put2 HB4.out (by omega) _ _⟩
/-- bits.Cat. -/
def bits_Cat.f (s : ByteArray) (n : Int) (s2 : ByteArray) (n2 : Int) : Option (ByteArray × Int × Int) :=
  if MayP s n ∧ MayP s2 n2 then (if n + n2 ≤ 6000 then some (packS (ofS s n ++ ofS s2 n2), n + n2, 0) else some (⟨#[]⟩, 0, 2)) else some (⟨#[]⟩, 0, 1)
theorem partK_ofS (s : ByteArray) (k : Nat) : ∀ i : Nat, partK s k (i : Int) = (List.range k).map fun j : Nat => bitOf s ((i + j : Nat) : Int) := by
  induction k with
  | zero => intro i; rfl
  | succ k ih =>
    intro i
    have h := ih (i + 1)
    rw [show (((i + 1 : Nat)) : Int) = (i : Int) + 1 by omega] at h
    rw [partK, List.range_succ_eq_map, List.map_cons, List.map_map, h]
    congr 1
    refine List.map_congr_left fun j _ => ?_
    simp only [Function.comp]
    congr 1
    omega
theorem partK_all (s : ByteArray) (n : Int) : partK s n.toNat 0 = ofS s n := by
  have := partK_ofS s n.toNat 0
  simp only [Nat.zero_add] at this
  exact this
theorem bits_Cat.calls (a0_0 : ByteArray) (a0_1 : Int) (a1_0 : ByteArray) (a1_1 : Int) (r1 : ByteArray) (r2 r3 : Int) (w : World) (h : bits_Cat.f a0_0 a0_1 a1_0 a1_1 = some (r1, r2, r3)) :
    Calls Try.prog 43 #[.agg #[.string a0_0, .int .i64 a0_1], .agg #[.string a1_0, .int .i64 a1_1]] w fun e w' => e = .returned (.tuple #[.agg #[.string r1, .int .i64 r2], .int .i64 r3]) ∧ Below w.heap.size w w' := by
  unfold bits_Cat.f at h
  by_cases hm : MayP a0_0 a0_1
  · by_cases hm2 : MayP a1_0 a1_1
    · rw [if_pos ⟨hm, hm2⟩] at h
      by_cases hn : a0_1 + a1_1 ≤ 6000
      · rw [if_pos hn] at h
        simp only [Option.some.injEq, Prod.mk.injEq] at h
        obtain ⟨rfl, rfl, rfl⟩ := h
        have e := cat_yes a0_0 a0_1 a1_0 a1_1 w hm hm2 hn
        have hp := rowSeq_pack a1_0 a1_1.toNat 0 (ofS a0_0 a0_1) (ofS_bits _ _)
        rw [pack_ofS _ _ hm, partK_all, List.length_append, ofS_length, ofS_length] at hp
        have h1 : ((a0_1.toNat : Nat) : Int) = a0_1 := Int.toNat_of_nonneg hm.1
        have h2 : (((a0_1.toNat + a1_1.toNat : Nat)) : Int) = a0_1 + a1_1 := by have := hm.1; have := hm2.1; omega
        rw [h1, h2] at hp
        rw [hp] at e
        exact e
      · rw [if_neg hn] at h
        simp only [Option.some.injEq, Prod.mk.injEq] at h
        obtain ⟨rfl, rfl, rfl⟩ := h
        exact cat_full a0_0 a0_1 a1_0 a1_1 w hm hm2 (by omega)
    · rw [if_neg (fun h => hm2 h.2)] at h
      simp only [Option.some.injEq, Prod.mk.injEq] at h
      obtain ⟨rfl, rfl, rfl⟩ := h
      exact cat_no2 a0_0 a0_1 a1_0 a1_1 w hm hm2
  · rw [if_neg (fun h => hm h.1)] at h
    simp only [Option.some.injEq, Prod.mk.injEq] at h
    obtain ⟨rfl, rfl, rfl⟩ := h
    exact cat_no1 a0_0 a0_1 a1_0 a1_1 w hm
end Go.Proofs.Ytnpghcikhpglkaa.Q
namespace Go.Proofs.Ytnpghcikhpglkaa.Pb
open Go.RowKit Go.Proofs.YtnpghcikhpglkaaW.PrintWords Go.Proofs.YtnpghcikhpglkaaW.PrintLast Go.Proofs.YtnpghcikhpglkaaW.PrintMore Go.Proofs.Ytnpghcikhpglkaa.Hand Go.Proofs.Ytnpghcikhpglkaa.Pu Go.Proofs.Ytnpghcikhpglkaa.Q
set_option linter.unusedVariables false
set_option linter.unusedSimpArgs false
theorem u64_wrap (x : Int) : IntKind.u64.wrap x = x % 18446744073709551616 := by simp [IntKind.wrap, IntKind.bits, IntKind.signed]
theorem within_eq (a n : Int) (h0 : 0 < n) (h1 : n < 9223372036854775808) : ∃ r, herbariumlaw0_Within.f a n = some r ∧ 0 ≤ r ∧ r < n := by
  unfold herbariumlaw0_Within.f
  rw [u64_wrap, u64_wrap, Int.emod_eq_of_lt (a := n) (by omega) (by omega), if_neg (by omega)]
  have hm := Int.emod_nonneg a (show (18446744073709551616 : Int) ≠ 0 by omega)
  rw [Int.tmod_eq_emod_of_nonneg hm]
  have r0 := Int.emod_nonneg (a % 18446744073709551616) (show n ≠ 0 by omega)
  have r1 := Int.emod_lt_of_pos (a % 18446744073709551616) h0
  rw [wrap_in _ (by omega) (by omega)]
  exact ⟨_, rfl, r0, r1⟩
theorem weight_some (l : List S27) (hl : (l.length : Int) < 9223372036854775807) (d : Nat) : ∀ (k : Nat) (x i : Int), 0 ≤ i → i + d = l.length → d < k → ∃ t, herbariumlaw0_BitsWeight.l0 k l x i = some t := by
  induction d with
  | zero =>
    intro k x i h0 hi hk
    obtain ⟨k, rfl⟩ : ∃ m, k = m + 1 := ⟨k - 1, by omega⟩
    simp only [herbariumlaw0_BitsWeight.l0]
    rw [if_neg (by omega)]
    exact ⟨_, rfl⟩
  | succ d ih =>
    intro k x i h0 hi hk
    obtain ⟨k, rfl⟩ : ∃ m, k = m + 1 := ⟨k - 1, by omega⟩
    simp only [herbariumlaw0_BitsWeight.l0]
    rw [if_pos (by omega)]
    split
    · rw [wrap_in (i + 1) (by omega) (by omega)]
      exact ih k _ (i + 1) (by omega) (by omega) (by omega)
    · exact ⟨_, rfl⟩
end Go.Proofs.Ytnpghcikhpglkaa.Pb
namespace Go.Proofs.Ytnpghcikhpglkaa.Pure
open Go.RowKit Go.Proofs.YtnpghcikhpglkaaW.PrintWords Go.Proofs.YtnpghcikhpglkaaW.PrintLast Go.Proofs.YtnpghcikhpglkaaW.PrintMore Go.Proofs.Ytnpghcikhpglkaa.Hand Go.Proofs.Ytnpghcikhpglkaa.Q Go.Proofs.Ytnpghcikhpglkaa.Pu Go.Proofs.Ytnpghcikhpglkaa.Pb
set_option linter.unusedVariables false
namespace Exact3
theorem wakes3 : herbariumlaw3_wakes.f 60 = some true := by decide +kernel
theorem lists_some (l : List (List Int)) (hl : (l.length : Int) < 9223372036854775807) : ∀ (d : Nat) (k : Nat) (x i : Int), 0 ≤ i → i + d = l.length → d < k → ∃ t, herbariumlaw0_Lists.l0 k l x i = some t
  | 0, k, x, i, h0, hi, hk => by
    obtain ⟨k, rfl⟩ : ∃ m, k = m + 1 := ⟨k - 1, by omega⟩
    rw [herbariumlaw0_Lists.l0, if_neg (by omega)]
    exact ⟨_, rfl⟩
  | d + 1, k, x, i, h0, hi, hk => by
    obtain ⟨k, rfl⟩ : ∃ m, k = m + 1 := ⟨k - 1, by omega⟩
    rw [herbariumlaw0_Lists.l0, if_pos (by omega)]
    split
    · rw [wrap_in (i + 1) (by omega) (by omega)]
      exact lists_some l hl d k _ (i + 1) (by omega) (by omega) (by omega)
    · exact ⟨_, rfl⟩
theorem heavy3_some (l0 : List (List Int)) (l1 : List S27) (l2 : List Int) (h0 : (l0.length : Int) < 9223372036854775807) (h1 : (l1.length : Int) < 9223372036854775807) (k : Nat) (hk : l0.length < k) (hk1 : l1.length < k) : ∃ b, herbariumlaw3_Heavy.f k l0 l1 l2 = some b := by
  unfold herbariumlaw3_Heavy.f herbariumlaw0_Lists.f herbariumlaw0_BitsWeight.f
  obtain ⟨t, ht⟩ := lists_some l0 h0 l0.length k (l0.length : Int) 0 (by omega) (by omega) hk
  obtain ⟨u, hu⟩ := weight_some l1 h1 l1.length k (l1.length : Int) 0 (by omega) (by omega) hk1
  rw [ht, Option.bind_some, hu, Option.bind_some]
  exact ⟨_, rfl⟩
/-- The lists that are played. -/
theorem lists_eq (l0 : List (List Int)) (l1 : List S27) (l2 : List Int) (h0 : l0.length * 24 ≤ 140737488351232) : ∃ ls, herbariumlaw3_Lists.f l0 l1 l2 = some ls ∧ ls.length ≤ 9 ∧ ∀ z ∈ ls, z.length ≤ 4 ∨ z ∈ l0 := by
  unfold herbariumlaw3_Lists.f
  rw [Option.bind_some, if_pos (by simp; omega), Option.bind_some]
  have hm : ∀ z ∈ (([[], [0], [2, 3, 4, 9], [15]] : List (List Int)) ++ l0), z.length ≤ 4 ∨ z ∈ l0 := by
    intro z hz
    rcases List.mem_append.1 hz with h | h
    · left
      simp only [List.mem_cons, List.not_mem_nil, or_false] at h
      rcases h with rfl | rfl | rfl | rfl <;> simp
    · exact .inr h
  split
  · rename_i h9
    rw [if_pos (by omega)]
    exact ⟨_, rfl, by rw [List.length_take]; omega, fun z hz => hm z (List.mem_of_mem_take hz)⟩
  · rename_i h9
    exact ⟨_, rfl, by omega, hm⟩
/-! ### the texts -/
def Made (made : List (List Int)) (n : Nat) : Prop := (∀ z ∈ made, IsBits z ∧ z.length ≤ 1100) ∧ made.length ≤ n
theorem rd8_mem (made : List (List Int)) (i : Nat) (h : i < made.length) : rd_L8 made (i : Int) ∈ made := by
  unfold rd_L8
  rw [Int.toNat_natCast, List.getD_eq_getElem?_getD, List.getElem?_eq_getElem h]
  exact List.getElem_mem h
theorem bits_set {l : List Int} (h : IsBits l) (i : Nat) (x : Int) (hx : x = 0 ∨ x = 1) : IsBits (l.set i x) := by
  intro y hy
  rcases List.mem_or_eq_of_mem_set hy with h1 | h1
  · exact h y h1
  · rw [h1]; exact hx
theorem texts_loop (made : List (List Int)) (n : Nat) (hm : Made made n) (l0 : List (List Int)) (l1 : List S27) (l2 : List Int) : ∀ (d i k : Nat) (x5 : List S27), i + d = 10 → x5.length ≤ 6 + 4 * i → 1300 + 2 * d ≤ k →
    ∃ ts : List S27, herbariumlaw3_Texts.l0 k made x5 (i : Int) l0 l1 l2 = some ts ∧ ts.length ≤ 46
  | 0, i, k, x5, hi, hx, hk => by
    obtain ⟨k, rfl⟩ : ∃ m, k = m + 1 + 1 := ⟨k - 2, by omega⟩
    refine ⟨x5, ?_, by omega⟩
    have e : herbariumlaw3_Texts.j2 (k + 1) made x5 (i : Int) false l0 l1 l2 = some x5 := by rw [herbariumlaw3_Texts.j2, if_neg (by decide)]
    rw [herbariumlaw3_Texts.l0, decide_eq_false (show ¬ ((i : Int) < 10) by omega), e]
    split <;> rfl
  | d + 1, i, k, x5, hi, hx, hk => by
    obtain ⟨k, rfl⟩ : ∃ m, k = m + 1 + 1 := ⟨k - 2, by omega⟩
    by_cases h : i < made.length
    · have hz := hm.1 _ (rd8_mem made i h)
      rw [herbariumlaw3_Texts.l0, if_pos (by omega), decide_eq_true (show ((i : Int) < 10) by omega), herbariumlaw3_Texts.j2, if_pos rfl, if_pos (by omega), if_pos (by omega)]
      generalize rd_L8 made (i : Int) = z at *
      rw [refPack_eq z hz.1 (by omega) k (by omega), Option.bind_some, if_pos (by omega), Option.bind_some, wrap_in ((i : Int) + 1) (by omega) (by omega)]
      by_cases h0 : z.length = 0
      · rw [if_pos (by omega)]
        exact texts_loop made n hm l0 l1 l2 d (i + 1) k _ (by omega) (by simp only [List.length_append, List.length_cons, List.length_nil]; omega) (by omega)
      · rw [if_neg (by omega), Option.bind_some, if_pos (by simp; omega), Option.bind_some, List.nil_append]
        obtain ⟨r, e, r0, r1⟩ := within_eq (wrap64 (wrap64 ((i : Int) * 7) + wrap64 ((l2.length : Int) * 3))) (z.length : Int) (by omega) (by omega)
        obtain ⟨q, rfl⟩ := Int.eq_ofNat_of_zero_le r0
        have hrd : rd z (q : Int) = 0 ∨ rd z (q : Int) = 1 := by
          unfold rd; rw [Int.toNat_natCast]; exact hz.1.getD q
        have hs := bits_set hz.1 q ((1 - rd z (q : Int)) % 256) (by rcases hrd with h | h <;> rw [h] <;> decide)
        have h101 : IsBits ([1, 0, 1] : List Int) := fun x hx => by simp at hx; omega
        have hp1 := refPack_eq (z.set q ((1 - rd z (q : Int)) % 256)) hs (by rw [List.length_set]; omega) k (by rw [List.length_set]; omega)
        have hp2 := refPack_eq (z.take q) (IsBits.take' hz.1 q) (by rw [List.length_take]; omega) k (by rw [List.length_take]; omega)
        have hp3 := refPack_eq (z ++ [1, 0, 1]) (IsBits.append hz.1 h101) (by simp; omega) k (by simp; omega)
        rw [e, Option.bind_some, if_pos (by omega), if_pos (by omega), Int.toNat_natCast, hp1, Option.bind_some, if_pos (by omega), hp2, Option.bind_some, Option.bind_some, if_pos (by simp; omega), Option.bind_some, Option.bind_some, List.nil_append, if_pos (by simp; omega), hp3, Option.bind_some, Option.bind_some, if_pos (by simp; omega)]
        exact texts_loop made n hm l0 l1 l2 d (i + 1) k _ (by omega) (by simp only [List.length_append, List.length_cons, List.length_nil]; omega) (by omega)
    · refine ⟨x5, ?_, by omega⟩
      rw [herbariumlaw3_Texts.l0, if_neg (by omega), herbariumlaw3_Texts.j2, if_neg (by decide)]
theorem texts_some (made : List (List Int)) (n : Nat) (hm : Made made n) (l0 : List (List Int)) (l1 : List S27) (l2 : List Int) (h1 : l1.length * 24 ≤ 140737488351232) (k : Nat) (hk : 1400 ≤ k) : ∃ ts : List S27, herbariumlaw3_Texts.f k l0 l1 l2 made = some ts ∧ ts.length ≤ 46 := by
  obtain ⟨k, rfl⟩ : ∃ m, k = m + 1 := ⟨k - 1, by omega⟩
  unfold herbariumlaw3_Texts.f
  rw [Option.bind_some, if_pos (by simp; omega), Option.bind_some]
  split
  · rename_i h6
    rw [if_pos (by omega), herbariumlaw3_Texts.j0]
    exact texts_loop made n hm l0 l1 l2 10 0 k _ (by omega) (by rw [List.length_take]; omega) (by omega)
  · rename_i h6
    rw [herbariumlaw3_Texts.j0]
    exact texts_loop made n hm l0 l1 l2 10 0 k _ (by omega) (by omega) (by omega)
/-! ### which list bits are -/
theorem gtake_notmay (s : ByteArray) (n a v : Int) (h : ¬ MayP s n) (k : Nat) (hk : 1 ≤ k) : gaps_Take.f k s n a v = some ([], 0, 1) := by
  obtain ⟨k, rfl⟩ : ∃ m, k = m + 1 := ⟨k - 1, by omega⟩
  unfold gaps_Take.f
  rw [may_eq, decide_eq_false h, Option.bind_some, if_neg (by decide), gaps_Take.j0, if_pos rfl]
theorem gtake_out (b : List Int) (hb : IsBits b) (hlen : b.length ≤ 6000) (a v : Int) (h : ¬ ((0 ≤ v ∧ v < 16) ∧ 0 ≤ a ∧ a ≤ (b.length : Int))) (k : Nat) (hk : 1 ≤ k) : gaps_Take.f k (packS b) (b.length : Int) a v = some ([], 0, 1) := by
  obtain ⟨k, rfl⟩ : ∃ m, k = m + 1 := ⟨k - 1, by omega⟩
  unfold gaps_Take.f
  rw [may_eq, decide_eq_true (may_packS b hb hlen), Option.bind_some, if_pos rfl, gis_eq, Option.bind_some]
  by_cases hv : 0 ≤ v ∧ v < 16
  · rw [decide_eq_true hv, if_pos rfl]
    by_cases ha : a < 0
    · rw [if_pos ha, gaps_Take.j0, if_pos rfl]
    · rw [if_neg ha, decide_eq_true (show a > (b.length : Int) by omega), gaps_Take.j0, if_pos rfl]
  · rw [decide_eq_false hv, if_neg (by decide), gaps_Take.j0, if_pos rfl]
theorem num_any (x a : Int) : herbariumref0_Num.f x a = some (decide (0 ≤ x ∧ x ≤ a)) := by
  unfold herbariumref0_Num.f
  by_cases h : x ≥ 0
  · rw [if_pos h]; congr 1; rw [decide_eq_decide]; omega
  · rw [if_neg h, decide_eq_false (fun h2 => h h2.1)]
theorem j16_ok (vs : List Int) (ts : List S27) (i : Int) (m : Bool) (b : List Int) (kk a : Int) (ha : -1 ≤ a ∧ a < 100) (l : List Int) (hl : l.length ≤ 16) (nx e : Int) (k : Nat) (hk : 40 ≤ k) :
    herbariumlaw3_GapsExact.j16 (k + 1) vs ts i m b kk a l nx e e nx l = herbariumlaw3_GapsExact.l5 k vs ts i m b kk (a + 1) := by
  obtain ⟨r, hr⟩ := numbers_some l (by omega) k (by omega)
  rw [herbariumlaw3_GapsExact.j16, herbariumlaw3_num.f, Option.bind_some, if_pos rfl, if_pos rfl, eqn_same l (by omega) k (by omega), Option.bind_some, if_pos rfl, hr, Option.bind_some, wrap_in (a + 1) (by omega) (by omega)]
theorem l5_step (vs : List Int) (ts : List S27) (i : Nat) (hi : i < ts.length) (m : Bool) (b : List Int) (kk : Nat) (hkk : kk < vs.length) (s : ByteArray) (n : Int)
    (hs : (rd_T27 ts (i : Int)).f0 = s) (hn : (rd_T27 ts (i : Int)).f1 = n) (hm : (m = true ∧ s = packS b ∧ n = (b.length : Int) ∧ IsBits b ∧ b.length ≤ 6000) ∨ (m = false ∧ ¬ MayP s n)) (a : Int) (ha : -1 ≤ a ∧ a < 4) (k : Nat) (hk : 8000 ≤ k) :
    herbariumlaw3_GapsExact.l5 (k + 1 + 1 + 1) vs ts (i : Int) m b (kk : Int) a = herbariumlaw3_GapsExact.l5 k vs ts (i : Int) m b (kk : Int) (a + 1) := by
  rw [herbariumlaw3_GapsExact.l5, if_pos (by omega), if_pos (by omega), if_pos (by omega), if_pos (by omega), if_pos (by omega), hs, hn]
  have hj : herbariumlaw3_GapsExact.j15 (k + 1 + 1) vs ts (i : Int) m b (kk : Int) a [] 0 1 1 0 [] false = herbariumlaw3_GapsExact.l5 k vs ts (i : Int) m b (kk : Int) (a + 1) := by
    rw [herbariumlaw3_GapsExact.j15, if_neg (by decide), j16_ok vs ts _ m b _ a (by omega) [] (by simp) 0 1 k (by omega)]
  rcases hm with ⟨rfl, rfl, rfl, hb, hlen⟩ | ⟨rfl, hno⟩
  · by_cases h : (0 ≤ rd vs (kk : Int) ∧ rd vs (kk : Int) < 16) ∧ 0 ≤ a ∧ a ≤ (b.length : Int)
    · obtain ⟨q, rfl⟩ := Int.eq_ofNat_of_zero_le h.2.1
      obtain ⟨l, nx, ok, e1, e2, e3, e4⟩ := gtake_both b hb hlen q (by omega) (rd vs (kk : Int)) h.1.1 h.1.2 (k + 1) (k + 1 + 1) (by omega) (by omega)
      rw [e2, Option.bind_some, if_pos rfl, num_any, decide_eq_true h.2, Option.bind_some, if_pos rfl, origin_eq, decide_eq_true h.1, Option.bind_some]
      simp only
      rw [herbariumlaw3_GapsExact.j15, if_pos rfl, if_pos (by omega), if_pos (by omega), e1, Option.bind_some]
      simp only
      cases ok with
      | true => rw [if_pos rfl, if_pos rfl, j16_ok vs ts _ true b _ _ (by omega) l e3 nx 0 k (by omega)]
      | false =>
        obtain ⟨rfl, rfl⟩ := e4 rfl
        rw [if_neg (by decide), if_neg (by decide), j16_ok vs ts _ true b _ _ (by omega) [] e3 0 9 k (by omega)]
    · rw [gtake_out b hb hlen a _ h _ (by omega), Option.bind_some, if_pos rfl, num_any, Option.bind_some]
      simp only
      by_cases h2 : 0 ≤ a ∧ a ≤ (b.length : Int)
      · rw [decide_eq_true h2, if_pos rfl, origin_eq, decide_eq_false (fun h3 => h ⟨h3, h2⟩), Option.bind_some]
        exact hj
      · rw [decide_eq_false h2, if_neg (by decide)]
        exact hj
  · rw [gtake_notmay s n a _ hno _ (by omega), Option.bind_some, if_neg (by decide)]
    exact hj
theorem l5_all (vs : List Int) (ts : List S27) (i : Nat) (hi : i < ts.length) (m : Bool) (b : List Int) (kk : Nat) (hkk : kk < vs.length) (hk100 : kk < 100) (s : ByteArray) (n : Int)
    (hs : (rd_T27 ts (i : Int)).f0 = s) (hn : (rd_T27 ts (i : Int)).f1 = n) (hm : (m = true ∧ s = packS b ∧ n = (b.length : Int) ∧ IsBits b ∧ b.length ≤ 6000) ∨ (m = false ∧ ¬ MayP s n)) (K : Nat) (hK : 8000 ≤ K)
    (hnext : ∀ k, K ≤ k → herbariumlaw3_GapsExact.l4 k vs ts (i : Int) m b ((kk : Int) + 1) = some true) :
    ∀ (d : Nat) (a : Int), a + d = 4 → -1 ≤ a → ∀ k, K + 3 * d + 1 ≤ k → herbariumlaw3_GapsExact.l5 k vs ts (i : Int) m b (kk : Int) a = some true
  | 0, a, hd, ha, k, hk => by
    obtain ⟨k, rfl⟩ : ∃ m, k = m + 1 := ⟨k - 1, by omega⟩
    rw [herbariumlaw3_GapsExact.l5, if_neg (by omega), wrap_in ((kk : Int) + 1) (by omega) (by omega)]
    exact hnext k (by omega)
  | d + 1, a, hd, ha, k, hk => by
    obtain ⟨k, rfl⟩ : ∃ m, k = m + 1 + 1 + 1 := ⟨k - 3, by omega⟩
    rw [l5_step vs ts i hi m b kk hkk s n hs hn hm a (by omega) k (by omega)]
    exact l5_all vs ts i hi m b kk hkk hk100 s n hs hn hm K hK hnext d (a + 1) (by omega) (by omega) k (by omega)
theorem l4_all (vs : List Int) (ts : List S27) (i : Nat) (hi : i < ts.length) (hi100 : i < 1000) (m : Bool) (b : List Int) (s : ByteArray) (n : Int)
    (hs : (rd_T27 ts (i : Int)).f0 = s) (hn : (rd_T27 ts (i : Int)).f1 = n) (hm : (m = true ∧ s = packS b ∧ n = (b.length : Int) ∧ IsBits b ∧ b.length ≤ 6000) ∨ (m = false ∧ ¬ MayP s n)) (K : Nat) (hK : 8000 ≤ K)
    (hnext : ∀ k, K ≤ k → herbariumlaw3_GapsExact.l3 k vs ts ((i : Int) + 1) = some true) :
    ∀ (d kk : Nat), kk + d = 6 → ∀ k, K + 20 * d + 3 ≤ k → herbariumlaw3_GapsExact.l4 k vs ts (i : Int) m b (kk : Int) = some true
  | 0, kk, hd, k, hk => by
    obtain ⟨k, rfl⟩ : ∃ m, k = m + 1 + 1 := ⟨k - 2, by omega⟩
    have e : herbariumlaw3_GapsExact.j13 (k + 1) vs ts (i : Int) m b (kk : Int) false = some true := by
      rw [herbariumlaw3_GapsExact.j13, if_neg (by decide), wrap_in ((i : Int) + 1) (by omega) (by omega)]
      exact hnext k (by omega)
    rw [herbariumlaw3_GapsExact.l4, decide_eq_false (show ¬ ((kk : Int) < 6) by omega), e]
    split <;> rfl
  | d + 1, kk, hd, k, hk => by
    obtain ⟨k, rfl⟩ : ∃ m, k = m + 1 + 1 := ⟨k - 2, by omega⟩
    by_cases h : kk < vs.length
    · rw [herbariumlaw3_GapsExact.l4, if_pos (by omega), decide_eq_true (show ((kk : Int) < 6) by omega), herbariumlaw3_GapsExact.j13, if_pos rfl]
      refine l5_all vs ts i hi m b kk h (by omega) s n hs hn hm (K + 20 * d + 3) (by omega) (fun k hk => ?_) 5 (-1) (by omega) (by omega) k (by omega)
      exact l4_all vs ts i hi hi100 m b s n hs hn hm K hK hnext d (kk + 1) (by omega) k hk
    · rw [herbariumlaw3_GapsExact.l4, if_neg (by omega), herbariumlaw3_GapsExact.j13, if_neg (by decide), wrap_in ((i : Int) + 1) (by omega) (by omega), hnext k (by omega)]
theorem l3_all (vs : List Int) (ts : List S27) (hts : ts.length ≤ 46) : ∀ (d i : Nat), i + d = ts.length → ∀ k, 9000 + 200 * d ≤ k → herbariumlaw3_GapsExact.l3 k vs ts (i : Int) = some true
  | 0, i, hd, k, hk => by
    obtain ⟨k, rfl⟩ : ∃ m, k = m + 1 := ⟨k - 1, by omega⟩
    rw [herbariumlaw3_GapsExact.l3, if_neg (by omega), at_rounds herbariumlaw3_wakes.mono (show 60 ≤ k by omega) wakes3]
    rfl
  | d + 1, i, hd, k, hk => by
    obtain ⟨k, rfl⟩ : ∃ m, k = m + 1 + 1 := ⟨k - 2, by omega⟩
    have hnext : ∀ k, 9000 + 200 * d ≤ k → herbariumlaw3_GapsExact.l3 k vs ts ((i : Int) + 1) = some true := fun k hk => l3_all vs ts hts d (i + 1) (by omega) k hk
    rw [herbariumlaw3_GapsExact.l3, if_pos (by omega), if_pos (by omega), refBits_eq _ _ (k + 1) (by omega), Option.bind_some]
    obtain ⟨s, hs⟩ : ∃ s, (rd_T27 ts (i : Int)).f0 = s := ⟨_, rfl⟩
    obtain ⟨n, hn⟩ : ∃ n, (rd_T27 ts (i : Int)).f1 = n := ⟨_, rfl⟩
    rw [hs, hn]
    by_cases hm : MayP s n
    · obtain ⟨c1, c2, c3, c4⟩ := canon s n hm
      have ho := refOf_eq (ofS s n) c3 (by omega) (k + 1) (by omega)
      rw [← c1, ← c2] at ho
      rw [decide_eq_true hm, if_pos rfl, ho, Option.bind_some, herbariumlaw3_GapsExact.j11]
      exact l4_all vs ts i (by omega) (by omega) true (ofS s n) s n hs hn (.inl ⟨rfl, c1, c2, c3, c4⟩) (9000 + 200 * d) (by omega) hnext 6 0 (by omega) k (by omega)
    · rw [decide_eq_false hm, if_neg (by decide), herbariumlaw3_GapsExact.j11]
      exact l4_all vs ts i (by omega) (by omega) false [] s n hs hn (.inr ⟨rfl, hm⟩) (9000 + 200 * d) (by omega) hnext 6 0 (by omega) k (by omega)
/-! ### lists as bits -/
section
variable (ls : List (List Int)) (vs : List Int) (l0 : List (List Int)) (l1 : List S27) (l2 : List Int)
theorem j9_ok (made : List (List Int)) (i : Nat) (hi : i < ls.length) (m : Bool) (kk : Nat) (bad size : Int) (list : List Int) (j : Nat) (hj : j < 100) (e : Int) (s : ByteArray) (n : Int) (k : Nat)
    (hl : ((rd_L7 ls (i : Int)).length : Int) < 9223372036854775807) (hk : (rd_L7 ls (i : Int)).length < k) :
    herbariumlaw3_GapsExact.j9 (k + 1) ls vs made (i : Int) m (rd_L7 ls (i : Int)) (kk : Int) bad size list (j : Int) e e l0 l1 l2 s n s n = herbariumlaw3_GapsExact.l2 k ls vs made (i : Int) m (rd_L7 ls (i : Int)) (kk : Int) bad size list ((j : Int) + 1) l0 l1 l2 := by
  rw [herbariumlaw3_GapsExact.j9, herbariumlaw3_num.f, Option.bind_some, if_pos rfl, if_neg (by simp), if_pos (by omega), if_pos (by omega), eqn_same _ hl k hk, Option.bind_some, if_pos rfl, wrap_in ((j : Int) + 1) (by omega) (by omega)]
theorem l2_all (made : List (List Int)) (i : Nat) (hi : i < ls.length) (m : Bool) (kk : Nat) (hkk : kk < vs.length) (hk100 : kk < 100) (bad size : Int) (list : List Int)
    (hl : ((rd_L7 ls (i : Int)).length : Int) < 9223372036854775807)
    (hg : (bad = 0 ∧ ((0 ≤ rd vs (kk : Int) ∧ rd vs (kk : Int) < 16) ∧ GMay (rd_L7 ls (i : Int))) ∧ list = gapsL (rd vs (kk : Int)) (rd_L7 ls (i : Int)) ∧ size = (list.length : Int)) ∨ (bad = 1 ∧ ¬ ((0 ≤ rd vs (kk : Int) ∧ rd vs (kk : Int) < 16) ∧ GMay (rd_L7 ls (i : Int)))))
    (K : Nat) (hK : 9000 ≤ K) (hKl : (rd_L7 ls (i : Int)).length < K) (hnext : ∀ k, K ≤ k → herbariumlaw3_GapsExact.l1 k ls vs made (i : Int) m (rd_L7 ls (i : Int)) ((kk : Int) + 1) l0 l1 l2 = some true) :
    ∀ (d j : Nat), j + d = 3 → ∀ k, K + 4 * d + 2 ≤ k → herbariumlaw3_GapsExact.l2 k ls vs made (i : Int) m (rd_L7 ls (i : Int)) (kk : Int) bad size list (j : Int) l0 l1 l2 = some true
  | 0, j, hd, k, hk => by
    obtain ⟨k, rfl⟩ : ∃ m, k = m + 1 + 1 := ⟨k - 2, by omega⟩
    have e : herbariumlaw3_GapsExact.j7 (k + 1) ls vs made (i : Int) m (rd_L7 ls (i : Int)) (kk : Int) bad size list (j : Int) false l0 l1 l2 = some true := by
      rw [herbariumlaw3_GapsExact.j7, if_neg (by decide), wrap_in ((kk : Int) + 1) (by omega) (by omega)]
      exact hnext k (by omega)
    rw [herbariumlaw3_GapsExact.l2, decide_eq_false (show ¬ ((j : Int) < 3) by omega), e]
    split <;> rfl
  | d + 1, j, hd, k, hk => by
    by_cases h : j < l1.length
    · obtain ⟨k, rfl⟩ : ∃ m, k = m + 1 + 1 + 1 + 1 := ⟨k - 4, by omega⟩
      have ih := l2_all made i hi m kk hkk hk100 bad size list hl hg K hK hKl hnext d (j + 1) (by omega) k (by omega)
      have h9 : ∀ (e : Int) (s : ByteArray) (n : Int), herbariumlaw3_GapsExact.j9 (k + 1) ls vs made (i : Int) m (rd_L7 ls (i : Int)) (kk : Int) bad size list (j : Int) e e l0 l1 l2 s n s n = some true := fun e s n => by
        rw [j9_ok ls vs l0 l1 l2 made i hi m kk bad size list j (by omega) e s n k hl (by omega)]; exact ih
      rw [herbariumlaw3_GapsExact.l2, if_pos (by omega), decide_eq_true (show ((j : Int) < 3) by omega), herbariumlaw3_GapsExact.j7, if_pos rfl, if_pos (by omega), if_pos (by omega), if_pos (by omega), if_pos (by omega)]
      obtain ⟨s, hs⟩ : ∃ s, (rd_T27 l1 (j : Int)).f0 = s := ⟨_, rfl⟩
      obtain ⟨n, hn⟩ : ∃ n, (rd_T27 l1 (j : Int)).f1 = n := ⟨_, rfl⟩
      rw [hs, hn]
      have h8 : ∀ (e : Int), herbariumlaw3_GapsExact.j8 (k + 1 + 1) ls vs made (i : Int) m (rd_L7 ls (i : Int)) (kk : Int) bad size list (j : Int) 1 1 false l0 l1 l2 (⟨#[]⟩ : ByteArray) 0 (⟨#[]⟩ : ByteArray) 0 = some true := fun e => by
        rw [herbariumlaw3_GapsExact.j8, if_neg (by decide)]; exact h9 1 _ _
      rcases hg with ⟨rfl, hgood, rfl, rfl⟩ | ⟨rfl, hbad⟩
      · by_cases hm : MayP s n
        · obtain ⟨c1, c2, c3, c4⟩ := canon s n hm
          have ho := refOf_eq (ofS s n) c3 (by omega) (k + 1) (by omega)
          have hgl := gapsL_len hgood.2 hgood.1.1 hgood.1.2
          have hgb := gapsL_bits (rd vs (kk : Int)) (rd_L7 ls (i : Int))
          have hp := gput_eq (ofS s n) c3 c4 (rd vs (kk : Int)) (rd_L7 ls (i : Int)) hl
          rw [← c1, ← c2, if_pos hgood] at hp
          rw [← c1, ← c2] at ho
          have hpk := refPack_eq (ofS s n ++ gapsL (rd vs (kk : Int)) (rd_L7 ls (i : Int))) (IsBits.append c3 hgb) (by rw [List.length_append]; omega) (k + 1) (by rw [List.length_append]; omega)
          rw [hp, Option.bind_some, if_pos rfl, refBits_eq _ _ (k + 1 + 1) (by omega), decide_eq_true hm, Option.bind_some, herbariumlaw3_GapsExact.j8, if_pos rfl, if_pos (by omega), if_pos (by omega), hs, hn, wrap_in (n + _) (by omega) (by omega), ho]
          by_cases h6 : (ofS s n).length + (gapsL (rd vs (kk : Int)) (rd_L7 ls (i : Int))).length ≤ 6000
          · rw [if_pos h6, if_pos (by omega), Option.bind_some, if_pos (by omega), hpk, Option.bind_some]
            exact h9 0 _ _
          · rw [if_neg h6, if_neg (by omega)]
            exact h9 2 _ _
        · have hp : gaps_Put.f s n (rd vs (kk : Int)) (rd_L7 ls (i : Int)) = some (⟨#[]⟩, 0, 1) := by
            unfold gaps_Put.f
            rw [if_pos hl, if_neg (fun h => hm h.1)]
          rw [hp, Option.bind_some, if_pos rfl, refBits_eq _ _ (k + 1 + 1) (by omega), decide_eq_false hm, Option.bind_some]
          exact h8 0
      · have hp : gaps_Put.f s n (rd vs (kk : Int)) (rd_L7 ls (i : Int)) = some (⟨#[]⟩, 0, 1) := by
          unfold gaps_Put.f
          rw [if_pos hl, if_neg (fun h => hbad h.2)]
        rw [hp, Option.bind_some, if_neg (by decide)]
        exact h8 0
    · obtain ⟨k, rfl⟩ : ∃ m, k = m + 1 + 1 := ⟨k - 2, by omega⟩
      rw [herbariumlaw3_GapsExact.l2, if_neg (by omega), herbariumlaw3_GapsExact.j7, if_neg (by decide), wrap_in ((kk : Int) + 1) (by omega) (by omega)]
      exact hnext k (by omega)
theorem l1_all (hvs : vs.length ≤ 10) (i : Nat) (hi : i < ls.length) (hi9 : i < 9) (m : Bool) (hm : m = decide (GMay (rd_L7 ls (i : Int)))) (hl : ((rd_L7 ls (i : Int)).length : Int) < 9223372036854775807)
    (K : Nat) (hK : 9000 ≤ K) (hKl : (rd_L7 ls (i : Int)).length < K) (hnext : ∀ made, Made made (10 * (i + 1)) → ∀ k, K ≤ k → herbariumlaw3_GapsExact.l0 k ls vs made ((i : Int) + 1) l0 l1 l2 = some true) :
    ∀ (d kk : Nat), kk + d = vs.length → ∀ made, Made made (10 * i + kk) → ∀ k, K + 30 * d + 2 ≤ k → herbariumlaw3_GapsExact.l1 k ls vs made (i : Int) m (rd_L7 ls (i : Int)) (kk : Int) l0 l1 l2 = some true
  | 0, kk, hd, made, hmade, k, hk => by
    obtain ⟨k, rfl⟩ : ∃ m, k = m + 1 := ⟨k - 1, by omega⟩
    rw [herbariumlaw3_GapsExact.l1, if_neg (by omega), wrap_in ((i : Int) + 1) (by omega) (by omega)]
    exact hnext made ⟨hmade.1, by have := hmade.2; omega⟩ k (by omega)
  | d + 1, kk, hd, made, hmade, k, hk => by
    obtain ⟨k, rfl⟩ : ∃ m, k = m + 1 + 1 + 1 + 1 := ⟨k - 4, by omega⟩
    have hm2 := hmade.2
    have ih : ∀ made, Made made (10 * i + (kk + 1)) → ∀ k, K + 30 * d + 2 ≤ k → herbariumlaw3_GapsExact.l1 k ls vs made (i : Int) m (rd_L7 ls (i : Int)) ((kk : Int) + 1) l0 l1 l2 = some true := fun made hmade k hk =>
      l1_all hvs i hi hi9 m hm hl K hK hKl hnext d (kk + 1) (by omega) made hmade k hk
    rw [herbariumlaw3_GapsExact.l1, if_pos (by omega), if_pos (by omega), gsize_eq _ _ hl, Option.bind_some, origin_eq, Option.bind_some]
    have hbadw : ∀ (x : Int), ¬ ((0 ≤ rd vs (kk : Int) ∧ rd vs (kk : Int) < 16) ∧ GMay (rd_L7 ls (i : Int))) → herbariumlaw3_GapsExact.j3 (k + 1 + 1 + 1) ls vs made (i : Int) m (rd_L7 ls (i : Int)) (kk : Int) 0 1 1 0 [] false l0 l1 l2 = some true := by
      intro x hb
      rw [herbariumlaw3_GapsExact.j3, if_neg (by decide), herbariumlaw3_GapsExact.j4, herbariumlaw3_num.f, Option.bind_some, if_pos rfl, show ((0 : Int) != 0) = false from rfl, herbariumlaw3_GapsExact.j5, if_neg (by decide)]
      exact l2_all ls vs l0 l1 l2 made i hi m kk (by omega) (by omega) 1 0 [] hl (.inr ⟨rfl, hb⟩) (K + 30 * d + 2) (by omega) (by omega) (fun k hk => ih made ⟨hmade.1, by omega⟩ k hk) 3 0 (by omega) k (by omega)
    by_cases hv : 0 ≤ rd vs (kk : Int) ∧ rd vs (kk : Int) < 16
    · by_cases hgm : GMay (rd_L7 ls (i : Int))
      · have hmt : m = true := by rw [hm, decide_eq_true hgm]
        have hgl := gapsL_len hgm hv.1 hv.2
        rw [if_pos hmt, decide_eq_true hv, if_pos ⟨hv, hgm⟩]
        simp only
        rw [herbariumlaw3_GapsExact.j3, if_pos rfl, if_pos (by omega), if_pos (by omega), if_pos (by omega), if_pos (by omega), rgaps_eq _ _ hgm hv.1 hv.2 _ (by omega), Option.bind_some, if_pos (by omega), herbariumlaw3_GapsExact.j4, herbariumlaw3_num.f, Option.bind_some, if_pos rfl, bne_self_eq_false, herbariumlaw3_GapsExact.j5, if_neg (by decide)]
        have hmd : Made (made ++ [gapsL (rd vs (kk : Int)) (rd_L7 ls (i : Int))]) (10 * i + (kk + 1)) := by
          refine ⟨fun z hz => ?_, by rw [List.length_append, List.length_singleton]; omega⟩
          rcases List.mem_append.1 hz with h | h
          · exact hmade.1 z h
          · rw [List.mem_singleton.1 h]; exact ⟨gapsL_bits _ _, hgl⟩
        exact l2_all ls vs l0 l1 l2 _ i hi m kk (by omega) (by omega) 0 _ _ hl (.inl ⟨rfl, ⟨hv, hgm⟩, rfl, rfl⟩) (K + 30 * d + 2) (by omega) (by omega) (fun k hk => ih _ hmd k hk) 3 0 (by omega) k (by omega)
      · have hmt : ¬ (m = true) := by rw [hm, decide_eq_false hgm]; decide
        rw [if_neg hmt, if_neg (fun h => hgm h.2)]
        exact hbadw 0 (fun h => hgm h.2)
    · rw [decide_eq_false hv, if_neg (show ¬ ((0 ≤ rd vs (kk : Int) ∧ rd vs (kk : Int) < 16) ∧ GMay (rd_L7 ls (i : Int))) from fun h => hv h.1)]
      have e := hbadw 0 (fun h => hv h.1)
      split <;> exact e
theorem l0_all (R : Nat) (hR : 20000 ≤ R) (hR9 : 9000 ≤ R) (hvs : vs.length ≤ 10) (M : Nat) (hM : (M : Int) < 17592186044416) (hls : ls.length ≤ 9) (hll : ∀ i : Nat, i < ls.length → (rd_L7 ls (i : Int)).length ≤ M) (h1 : l1.length * 24 ≤ 140737488351232) :
    ∀ (d i : Nat), i + d = ls.length → ∀ made, Made made (10 * i) → ∀ k, M + R + 400 * d ≤ k → herbariumlaw3_GapsExact.l0 k ls vs made (i : Int) l0 l1 l2 = some true
  | 0, i, hd, made, hmade, k, hk => by
    obtain ⟨k, rfl⟩ : ∃ m, k = m + 1 := ⟨k - 1, by omega⟩
    obtain ⟨ts, e, hts⟩ := texts_some made _ hmade l0 l1 l2 h1 k (by omega)
    rw [herbariumlaw3_GapsExact.l0, if_neg (by omega), e, Option.bind_some]
    exact l3_all vs ts hts ts.length 0 (by omega) k (by omega)
  | d + 1, i, hd, made, hmade, k, hk => by
    obtain ⟨k, rfl⟩ : ∃ m, k = m + 1 := ⟨k - 1, by omega⟩
    have hl := hll i (by omega)
    have hmv : ((if GMay (rd_L7 ls (i : Int)) then (0 : Int) else 1) == 0) = decide (GMay (rd_L7 ls (i : Int))) := by
      by_cases h : GMay (rd_L7 ls (i : Int))
      · rw [if_pos h, decide_eq_true h]; rfl
      · rw [if_neg h, decide_eq_false h]; rfl
    rw [herbariumlaw3_GapsExact.l0, if_pos (by omega), if_pos (by omega), rmay_eq _ (by omega) k (by omega), Option.bind_some, copy_eq _ (by omega) k (by omega), Option.bind_some, gcheck_eq _ (by omega) k (by omega), Option.bind_some, herbariumlaw3_num.f, Option.bind_some, hmv, bne_self_eq_false, if_neg (by decide)]
    obtain ⟨K, hK⟩ : ∃ K, K = M + R + 400 * d := ⟨_, rfl⟩
    have h9 : 9000 ≤ K := by rw [hK]; exact Nat.le_trans (Nat.le_trans hR9 (Nat.le_add_left R M)) (Nat.le_add_right _ _)
    have hlK : (rd_L7 ls (i : Int)).length < K := by omega
    have hkK : K + 30 * vs.length + 2 ≤ k := by omega
    exact l1_all ls vs l0 l1 l2 hvs i (by omega) (by omega) _ rfl (by omega) K h9 hlK (fun made hmade k hk => l0_all R hR hR9 hvs M hM hls hll h1 d (i + 1) (by omega) made hmade k (by omega)) vs.length 0 (by omega) made hmade k hkK
end
end Exact3
theorem GapsExact : ∀ (l0 : List (List Int)) (l1 : List S27) (l2 : List Int), Op.GoodI l0 → Op.GoodB l1 → Op.GoodN l2 → ∃ k, Q.herbariumlaw3_GapsExact.f k l0 l1 l2 = some true := by
  intro l0 l1 l2 g0 g1 g2
  have hr0 := g0.1
  have hr1 := g1.1
  have hr2 := g2.1
  unfold reachBytes at hr0 hr1 hr2
  obtain ⟨M, hM⟩ : ∃ M : Nat, M = 17592186044000 := ⟨_, rfl⟩
  obtain ⟨k, hk⟩ : ∃ k : Nat, M + 30000 + l0.length + l1.length ≤ k := ⟨_, Nat.le_refl _⟩
  refine ⟨k, ?_⟩
  unfold herbariumlaw3_GapsExact.f
  obtain ⟨b, hb⟩ := Exact3.heavy3_some l0 l1 l2 (by omega) (by omega) k (by omega) (by omega)
  rw [hb, Option.bind_some]
  cases b with
  | true => rfl
  | false =>
    obtain ⟨ls, e, hl9, hm⟩ := Exact3.lists_eq l0 l1 l2 (by omega)
    have hll : ∀ i : Nat, i < ls.length → (rd_L7 ls (i : Int)).length ≤ M := by
      intro i hi
      have hrd : rd_L7 ls (i : Int) ∈ ls := by
        unfold rd_L7
        rw [Int.toNat_natCast, List.getD_eq_getElem?_getD, List.getElem?_eq_getElem hi]
        exact List.getElem_mem hi
      rcases hm _ hrd with h | h
      · omega
      · have := (g0.2 _ h).1
        unfold reachBytes at this
        omega
    have hj : ∀ vs : List Int, vs.length ≤ 10 → herbariumlaw3_GapsExact.j0 k ls vs l0 l1 l2 = some true := by
      intro vs hvs
      obtain ⟨k, rfl⟩ : ∃ m, k = m + 1 := ⟨k - 1, by omega⟩
      rw [herbariumlaw3_GapsExact.j0]
      exact Exact3.l0_all ls vs l0 l1 l2 20000 (Nat.le_refl _) (by omega) hvs M (by omega) hl9 hll (by omega) ls.length 0 (by omega) [] ⟨fun z hz => (by cases hz), Nat.le_refl _⟩ k (by omega)
    rw [if_neg (by decide), e, Option.bind_some, Option.bind_some, if_pos (by simp; omega), Option.bind_some]
    split
    · rw [if_pos (by omega)]
      exact hj _ (by rw [List.length_take]; omega)
    · rename_i h10
      exact hj _ (by omega)
end Go.Proofs.Ytnpghcikhpglkaa.Pure
