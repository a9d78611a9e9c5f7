/- What the row of CodeCuts rests on, part 3 of 3: functions, contracts, plain laws. -/
import Derived.Test.YtnpghcikhpglkaaCCodeCuts1
namespace Go.Proofs.Ytnpghcikhpglkaa.Pb
open Go.RowKit Go.Proofs.YtnpghcikhpglkaaW.PrintWords Go.Proofs.YtnpghcikhpglkaaW.PrintLast Go.Proofs.YtnpghcikhpglkaaW.PrintMore Go.Proofs.Ytnpghcikhpglkaa.Hand Go.Proofs.Ytnpghcikhpglkaa.Pu Go.Proofs.Ytnpghcikhpglkaa.Q
set_option linter.unusedVariables false
set_option linter.unusedSimpArgs false

/-! ### a list's text -/
theorem packS_size (l : List Int) : (packS l).size = (l.length + 7) / 8 := by rw [packS, strOfNums_size, packL_length]
theorem bt_strOfNums (xs : List Int) (i : Nat) (hi : i < xs.length) (h : 0 ≤ xs.getD i 0 ∧ xs.getD i 0 < 256) : bt (strOfNums xs) (i : Int) = xs.getD i 0 := by
  have hs : i < (strOfNums xs).size := by rw [strOfNums_size]; exact hi
  rw [← bt_at (strOfNums xs) (i : Int) hs]
  have h2 : i < (strOfNums xs).data.toList.length := hs
  have h3 : (strOfNums xs).data.toList[i]'h2 = UInt8.ofNat (xs[i]'hi).toNat := by simp [strOfNums_data]
  have h4 : (strOfNums xs)[(i : Int).toNat]'hs = UInt8.ofNat (xs[i]'hi).toNat := h3
  rw [h4]
  rw [List.getD_eq_getElem?_getD, List.getElem?_eq_getElem hi] at h ⊢
  simp only [Option.getD_some] at h ⊢
  rw [UInt8.toNat_ofNat']
  omega
theorem bt_packS (l : List Int) (hl : IsBits l) (j : Nat) (hj : j < (l.length + 7) / 8) : bt (packS l) (j : Int) = byteAt l j := by
  have h1 : (packL l).getD j 0 = byteAt l j := by rw [List.getD_eq_getElem?_getD, packL_get l j hj]; rfl
  have := bt_strOfNums (packL l) j (by rw [packL_length]; exact hj) (by rw [h1]; exact byteAt_range hl j)
  rw [packS, this, h1]
theorem b01 {x : Int} (h : x = 0 ∨ x = 1) : 0 ≤ x ∧ x ≤ 1 := by omega
theorem byte8 (x0 x1 x2 x3 x4 x5 x6 x7 : Int) (h0 : 0 ≤ x0 ∧ x0 ≤ 1) (h1 : 0 ≤ x1 ∧ x1 ≤ 1) (h2 : 0 ≤ x2 ∧ x2 ≤ 1) (h3 : 0 ≤ x3 ∧ x3 ≤ 1) (h4 : 0 ≤ x4 ∧ x4 ≤ 1) (h5 : 0 ≤ x5 ∧ x5 ≤ 1) (h6 : 0 ≤ x6 ∧ x6 ≤ 1) (h7 : 0 ≤ x7 ∧ x7 ≤ 1) :
    let b := x0 * 128 + x1 * 64 + x2 * 32 + x3 * 16 + x4 * 8 + x5 * 4 + x6 * 2 + x7
    b / 128 % 2 = x0 ∧ b / 64 % 2 = x1 ∧ b / 32 % 2 = x2 ∧ b / 16 % 2 = x3 ∧ b / 8 % 2 = x4 ∧ b / 4 % 2 = x5 ∧ b / 2 % 2 = x6 ∧ b / 1 % 2 = x7 := by
  refine ⟨?_, ?_, ?_, ?_, ?_, ?_, ?_, ?_⟩ <;> omega
theorem bit_byteAt (l : List Int) (hl : IsBits l) (j i : Nat) (hi : i < 8) : byteAt l j / 2 ^ (7 - i) % 2 = l.getD (8 * j + i) 0 := by
  have h := byte8 _ _ _ _ _ _ _ _ (b01 (hl.getD (8 * j))) (b01 (hl.getD (8 * j + 1))) (b01 (hl.getD (8 * j + 2))) (b01 (hl.getD (8 * j + 3))) (b01 (hl.getD (8 * j + 4))) (b01 (hl.getD (8 * j + 5))) (b01 (hl.getD (8 * j + 6))) (b01 (hl.getD (8 * j + 7)))
  have hi' : i = 0 ∨ i = 1 ∨ i = 2 ∨ i = 3 ∨ i = 4 ∨ i = 5 ∨ i = 6 ∨ i = 7 := by omega
  rcases hi' with rfl | rfl | rfl | rfl | rfl | rfl | rfl | rfl
  · exact h.1
  · exact h.2.1
  · exact h.2.2.1
  · exact h.2.2.2.1
  · exact h.2.2.2.2.1
  · exact h.2.2.2.2.2.1
  · exact h.2.2.2.2.2.2.1
  · exact h.2.2.2.2.2.2.2
theorem bitOf_packS (l : List Int) (hl : IsBits l) (i : Nat) (hi : i < l.length) : bitOf (packS l) (i : Int) = l.getD i 0 := by
  have h := bitOf_at (packS l) (i / 8) (i % 8) (by omega)
  rw [show 8 * (i / 8) + i % 8 = i by omega] at h
  rw [h, bt_packS l hl (i / 8) (by omega), bit_byteAt l hl (i / 8) (i % 8) (by omega), show 8 * (i / 8) + i % 8 = i by omega]
theorem ofS_packS (l : List Int) (hl : IsBits l) : ofS (packS l) (l.length : Int) = l := by
  refine List.ext_getElem? fun i => ?_
  rcases Nat.lt_or_ge i l.length with hi | hi
  · have h := ofS_getD (packS l) (l.length : Int) i (by simpa using hi)
    rw [bitOf_packS l hl i hi] at h
    have hi2 : i < (ofS (packS l) (l.length : Int)).length := by rw [ofS_length]; simpa using hi
    rw [List.getD_eq_getElem?_getD, List.getD_eq_getElem?_getD, List.getElem?_eq_getElem hi2, List.getElem?_eq_getElem hi] at h
    rw [List.getElem?_eq_getElem hi2, List.getElem?_eq_getElem hi]
    simpa using h
  · rw [List.getElem?_eq_none (by rw [ofS_length]; simpa using hi), List.getElem?_eq_none hi]
theorem may_packS (l : List Int) (hl : IsBits l) (h : l.length ≤ 6000) : MayP (packS l) (l.length : Int) := by
  refine ⟨by omega, by omega, by rw [packS_size]; omega, ?_⟩
  rcases Nat.eq_zero_or_pos (l.length % 8) with h8 | h8
  · exact .inl (by omega)
  · refine .inr ?_
    have hj : ((packS l).size : Int) - 1 = ((l.length / 8 : Nat) : Int) := by rw [packS_size]; omega
    rw [hj, bt_packS l hl _ (by omega)]
    have := (byteAt_snoc_new l 0).2
    rw [show (8 - (l.length : Int) % 8).toNat = 7 - l.length % 8 + 1 by omega]
    exact this
/-- Bits that may be are their list's. -/
theorem canon (s : ByteArray) (n : Int) (h : MayP s n) : s = packS (ofS s n) ∧ n = ((ofS s n).length : Int) ∧ IsBits (ofS s n) ∧ (ofS s n).length ≤ 6000 := by
  refine ⟨(packS_ofS s n h).symm, by rw [ofS_length]; have := h.1; omega, ofS_bits s n, by rw [ofS_length]; have := h.2.1; omega⟩

/-! ### numbers out of bits -/
def numL (l : List Int) : Int := l.foldl (fun v b => 2 * v + b) 0
theorem numL_snoc (l : List Int) (b : Int) : numL (l ++ [b]) = 2 * numL l + b := by simp [numL]
theorem numL_from (l : List Int) : ∀ v : Int, l.foldl (fun v b => 2 * v + b) v = v * 2 ^ l.length + numL l := by
  induction l with
  | nil => intro v; simp [numL]
  | cons a r ih =>
    intro v
    have h0 := ih (2 * v + a)
    have h1 : numL (a :: r) = a * 2 ^ r.length + numL r := by
      have := ih a
      simp only [numL, List.foldl_cons] at this ⊢
      simpa using this
    simp only [List.foldl_cons, List.length_cons]
    rw [h0, h1, Int.pow_succ]
    rw [Int.add_mul]
    have e : 2 * v * 2 ^ r.length = v * (2 ^ r.length * 2) := by rw [Int.mul_comm 2 v, Int.mul_assoc, Int.mul_comm 2]
    rw [e]
    omega
theorem numL_cons (a : Int) (r : List Int) : numL (a :: r) = a * 2 ^ r.length + numL r := by
  have := numL_from r a
  simp only [numL, List.foldl_cons] at this ⊢
  simpa using this
theorem numL_range {l : List Int} (h : IsBits l) : 0 ≤ numL l ∧ numL l < 2 ^ l.length := by
  induction l with
  | nil => simp [numL]
  | cons a r ih =>
    have hr := ih (fun x hx => h x (List.mem_cons_of_mem _ hx))
    have ha := h a (List.mem_cons_self)
    have hp : (0 : Int) < 2 ^ r.length := Int.pow_pos (by decide)
    rw [numL_cons, List.length_cons, Int.pow_succ]
    rcases ha with rfl | rfl <;> omega
theorem numL_putL (w : Nat) (v : Int) (h0 : 0 ≤ v) : numL (putL w v) = v % 2 ^ w := by
  induction w with
  | zero => simp [putL, numL]
  | succ k ih =>
    rw [putL, numL_cons, putL_length, ih]
    have hp : (0 : Int) < 2 ^ k := Int.pow_pos (by decide)
    rw [Int.pow_succ]
    generalize (2 : Int) ^ k = p at hp ⊢
    have e1 := Int.mul_ediv_add_emod v p
    have e2 := Int.mul_ediv_add_emod (v / p) 2
    have r0 := Int.emod_nonneg v (show p ≠ 0 by omega)
    have r1 := Int.emod_lt_of_pos v hp
    have hb : v / p % 2 = 0 ∨ v / p % 2 = 1 := by omega
    have hv : v = (p * 2) * (v / p / 2) + (v / p % 2 * p + v % p) := by
      rw [Int.mul_assoc]
      have : p * (2 * (v / p / 2)) + v / p % 2 * p = p * (v / p) := by rw [Int.mul_comm (v / p % 2) p, ← Int.mul_add, e2]
      omega
    have hm : v % (p * 2) = (v / p % 2 * p + v % p) % (p * 2) := by
      conv => lhs; rw [hv]
      rw [Int.mul_add_emod_self_left]
    rw [hm, Int.emod_eq_of_lt (a := v / p % 2 * p + v % p) (b := p * 2)]
    · rcases hb with h | h <;> rw [h] <;> omega
    · rcases hb with h | h <;> rw [h] <;> omega
theorem numL_putL_lt (w : Nat) (v : Int) (h0 : 0 ≤ v) (h1 : v < 2 ^ w) : numL (putL w v) = v := by rw [numL_putL w v h0, Int.emod_eq_of_lt h0 h1]

/-! ### bits.Look, bits.Get -/
theorem or_step (v b : Int) (h0 : 0 ≤ v) (h1 : v < 2 ^ 61) (hb : b = 0 ∨ b = 1) : Go.bits .or .i64 (wrap64 (v * 2)) b = 2 * v + b := by
  rw [wrap_in _ (by omega) (by omega), bits_join .i64 63 (by decide) wraps_i64 1 (v * 2) b (by omega) (by simp) (by omega) (by omega) (by simp; omega) (by omega)]
  omega
theorem look_loop (l : List Int) (hl : IsBits l) (hlen : l.length ≤ 1000000) (n : Int) (a w : Nat) (haw : a + w ≤ l.length) (hw : w ≤ 61) (d : Nat) : ∀ (k i : Nat), i + d = w → d < k →
    bits_Look.l0 k (a : Int) (numL ((l.drop a).take i)) (w : Int) (i : Int) (packS l) n = some (numL ((l.drop a).take w), true) := by
  induction d with
  | zero =>
    intro k i hi hk
    obtain ⟨k, rfl⟩ : ∃ m, k = m + 1 := ⟨k - 1, by omega⟩
    obtain rfl : i = w := by omega
    simp only [bits_Look.l0]
    rw [if_neg (by omega)]
  | succ d ih =>
    intro k i hi hk
    obtain ⟨k, rfl⟩ : ∃ m, k = m + 1 := ⟨k - 1, by omega⟩
    simp only [bits_Look.l0]
    rw [if_pos (by omega)]
    have hw1 : wrap64 ((a : Int) + (i : Int)) = ((a + i : Nat) : Int) := by rw [wrap_in _ (by omega) (by omega)]; omega
    have hsz := packS_size l
    rw [hw1, bit_some _ _ _ (by omega) (by omega) (by omega), bitOf_packS l hl (a + i) (by omega), Option.bind_some]
    have hib : IsBits ((l.drop a).take i) := fun x hx => hl x (List.mem_of_mem_drop (List.mem_of_mem_take hx))
    have hr := numL_range hib
    have hlt : (l.drop a).length = l.length - a := List.length_drop ..
    have hlen2 : ((l.drop a).take i).length = i := by rw [List.length_take, hlt]; omega
    rw [hlen2] at hr
    have hp : (2 : Int) ^ i ≤ 2 ^ 60 := by have := Nat.pow_le_pow_right (n := 2) (by decide) (show i ≤ 60 by omega); exact_mod_cast this
    have h60 : (2 : Int) ^ 60 < 2 ^ 61 := by decide
    have hb := hl.getD (a + i)
    rw [or_step _ _ hr.1 (by omega) hb]
    have hsn : (l.drop a).take (i + 1) = (l.drop a).take i ++ [l.getD (a + i) 0] := by
      rw [List.take_succ_eq_append_getElem (by rw [hlt]; omega), List.getElem_drop, List.getD_eq_getElem?_getD, List.getElem?_eq_getElem (by omega)]
      rfl
    rw [← numL_snoc, ← hsn, wrap_in _ (by omega) (by omega)]
    have := ih k (i + 1) (by omega) (by omega)
    rw [show ((i + 1 : Nat) : Int) = (i : Int) + 1 by omega] at this
    exact this
theorem look_yes (l : List Int) (hl : IsBits l) (hlen : l.length ≤ 1000000) (a w : Nat) (haw : a + w ≤ l.length) (hw : w ≤ 61) (k : Nat) (hk : w + 1 < k) :
    bits_Look.f k (packS l) (l.length : Int) (a : Int) (w : Int) = some (numL ((l.drop a).take w), true) := by
  obtain ⟨k, rfl⟩ : ∃ m, k = m + 1 := ⟨k - 1, by omega⟩
  unfold bits_Look.f
  rw [if_neg (by omega)]
  have hd : decide ((w : Int) > wrap64 ((l.length : Int) - (a : Int))) = false := by
    rw [wrap_in _ (by omega) (by omega)]
    simp
    omega
  rw [hd]
  simp only [bits_Look.j0]
  rw [if_neg (by decide)]
  exact look_loop l hl hlen _ a w haw hw w k 0 (by omega) (by omega)
theorem look_no (s : ByteArray) (n a w : Int) (hn : 0 ≤ n ∧ n ≤ 1000000) (ha : 0 ≤ a) (hw0 : 0 ≤ w) (h : n < a + w) (k : Nat) (hk : 0 < k) : bits_Look.f k s n a w = some (0, false) := by
  obtain ⟨k, rfl⟩ : ∃ m, k = m + 1 := ⟨k - 1, by omega⟩
  unfold bits_Look.f
  by_cases h1 : a > n
  · rw [if_pos h1]
    simp only [bits_Look.j0]
    rw [if_pos trivial]
  · rw [if_neg h1]
    have hd : decide (w > wrap64 (n - a)) = true := by
      rw [wrap_in _ (by omega) (by omega)]
      simp
      omega
    rw [hd]
    simp only [bits_Look.j0]
    rw [if_pos trivial]

/-- bits.Get, of bits that may be. -/
def getR (l : List Int) (a w : Int) : Int × Int :=
  if 0 ≤ a ∧ 0 ≤ w ∧ w ≤ 30 then (if a + w ≤ (l.length : Int) then (numL ((l.drop a.toNat).take w.toNat), 0) else (0, 9)) else (0, 1)
theorem get_eq (l : List Int) (hl : IsBits l) (hlen : l.length ≤ 6000) (a w : Int) (ha : a < 9223372036854775808) (k : Nat) (hk : 40 ≤ k) : bits_Get.f k (packS l) (l.length : Int) a w = some (getR l a w) := by
  obtain ⟨k, rfl⟩ : ∃ m, k = m + 1 := ⟨k - 1, by omega⟩
  unfold bits_Get.f getR
  rw [may_eq, decide_eq_true (may_packS l hl hlen)]
  simp only [Option.bind_some, if_true]
  by_cases h0 : a < 0
  · rw [if_pos h0, if_neg (fun h => by omega)]
    simp only [bits_Get.j0]
    rw [if_pos trivial]
  · rw [if_neg h0, width_eq]
    simp only [Option.bind_some, bits_Get.j0]
    by_cases hw : 0 ≤ w ∧ w ≤ 30
    · rw [decide_eq_true hw, if_neg (by decide), if_pos ⟨by omega, hw⟩]
      by_cases hf : a + w ≤ (l.length : Int)
      · obtain ⟨a', rfl⟩ := Int.eq_ofNat_of_zero_le (show 0 ≤ a by omega)
        obtain ⟨w', rfl⟩ := Int.eq_ofNat_of_zero_le hw.1
        rw [if_pos hf, look_yes l hl (by omega) a' w' (by omega) (by omega) k (by omega), Option.bind_some]
        simp
      · rw [if_neg hf, look_no _ _ a w (by omega) (by omega) hw.1 (by omega) k (by omega), Option.bind_some]
        simp
    · rw [decide_eq_false hw, if_pos (by decide), if_neg (fun h => hw h.2)]

/-! ### bits.Put -/
theorem put_eq (l : List Int) (hl : IsBits l) (hlen : l.length ≤ 6000) (v w : Int) : bits_Put.f (packS l) (l.length : Int) v w =
    if 0 ≤ w ∧ w ≤ 30 ∧ 0 ≤ v ∧ v < 2 ^ w.toNat then (if (l.length : Int) + w ≤ 6000 then some (packS (l ++ putL w.toNat v), ((l ++ putL w.toNat v).length : Int), 0) else some (⟨#[]⟩, 0, 2)) else some (⟨#[]⟩, 0, 1) := by
  unfold bits_Put.f
  rw [ofS_packS l hl]
  by_cases h : 0 ≤ w ∧ w ≤ 30 ∧ 0 ≤ v ∧ v < 2 ^ w.toNat
  · rw [if_pos ⟨may_packS l hl hlen, h⟩, if_pos h]
    have : ((l ++ putL w.toNat v).length : Int) = (l.length : Int) + w := by rw [List.length_append, putL_length]; omega
    rw [this]
  · rw [if_neg (fun hh => h hh.2), if_neg h]
theorem put_some (l : List Int) (hl : IsBits l) (v : Int) (w : Nat) (hw : w ≤ 30) (hv : 0 ≤ v) (hv2 : v < 2 ^ w) (h : l.length + w ≤ 6000) :
    bits_Put.f (packS l) (l.length : Int) v (w : Int) = some (packS (l ++ putL w v), ((l ++ putL w v).length : Int), 0) := by
  rw [put_eq l hl (by omega), if_pos ⟨by omega, by omega, hv, by simpa using hv2⟩, if_pos (by omega)]
  simp
theorem packS_nil : packS [] = ⟨#[]⟩ := rfl
theorem put_nil (v : Int) (w : Nat) (hw : w ≤ 30) (hv : 0 ≤ v) (hv2 : v < 2 ^ w) : bits_Put.f (⟨#[]⟩ : ByteArray) 0 v (w : Int) = some (packS (putL w v), ((putL w v).length : Int), 0) := by
  have := put_some [] IsBits.nil v w hw hv hv2 (by simp; omega)
  simpa [packS_nil] using this

/-! ### slices of lists -/
theorem take_drop_mid (a b c : List Int) : ((a ++ b ++ c).drop a.length).take b.length = b := by
  rw [List.append_assoc, List.drop_left, List.take_left]
end Go.Proofs.Ytnpghcikhpglkaa.Pb
namespace Go.Proofs.Ytnpghcikhpglkaa.Pb
open Go.RowKit Go.Proofs.YtnpghcikhpglkaaW.PrintWords Go.Proofs.YtnpghcikhpglkaaW.PrintLast Go.Proofs.YtnpghcikhpglkaaW.PrintMore Go.Proofs.Ytnpghcikhpglkaa.Hand Go.Proofs.Ytnpghcikhpglkaa.Pu Go.Proofs.Ytnpghcikhpglkaa.Q
set_option linter.unusedVariables false
set_option linter.unusedSimpArgs false

/-- How many bits 0 stand ahead of the first 1; -1: there is no 1. -/
def zerosL : List Int → Int
  | [] => -1
  | b :: r => if b = 1 then 0 else if zerosL r < 0 then -1 else zerosL r + 1
theorem zerosL_range (l : List Int) : -1 ≤ zerosL l ∧ zerosL l < (l.length : Int) := by
  induction l with
  | nil => simp [zerosL]
  | cons b r ih =>
    simp only [zerosL, List.length_cons]
    split
    · omega
    · split <;> omega
theorem zerosL_rep (n : Nat) (r : List Int) : zerosL (List.replicate n 0 ++ 1 :: r) = n := by
  induction n with
  | zero => simp [zerosL]
  | succ n ih =>
    simp only [List.replicate_succ, List.cons_append, zerosL, ih]
    rw [if_neg (by decide), if_neg (by omega)]
    omega
theorem zerosL_none (l : List Int) (h : ∀ x ∈ l, x = 0) : zerosL l = -1 := by
  induction l with
  | nil => rfl
  | cons b r ih =>
    have hb := h b List.mem_cons_self
    simp only [zerosL]
    rw [if_neg (by omega), ih (fun x hx => h x (List.mem_cons_of_mem _ hx)), if_pos (by omega)]
/-- What stands there. -/
theorem zerosL_split (l : List Int) (h : 0 ≤ zerosL l) (hb : IsBits l) : ∃ r, l = List.replicate (zerosL l).toNat 0 ++ 1 :: r := by
  induction l with
  | nil => simp [zerosL] at h
  | cons b r ih =>
    have hbb := hb b List.mem_cons_self
    simp only [zerosL] at h ⊢
    by_cases h1 : b = 1
    · rw [if_pos h1]
      exact ⟨r, by simp [h1]⟩
    · rw [if_neg h1] at h ⊢
      by_cases h2 : zerosL r < 0
      · rw [if_pos h2] at h; omega
      · rw [if_neg h2]
        obtain ⟨q, hq⟩ := ih (by omega) (fun x hx => hb x (List.mem_cons_of_mem _ hx))
        refine ⟨q, ?_⟩
        have hb0 : b = 0 := by omega
        have : (zerosL r + 1).toNat = (zerosL r).toNat + 1 := by omega
        rw [this, List.replicate_succ, List.cons_append, hb0, ← hq]

theorem ahead_loop (l : List Int) (hl : IsBits l) (hlen : l.length ≤ 1000000) (x : Int) (hx : 0 ≤ x) (d : Nat) : ∀ (k i : Nat), i + d = l.length → d < k → x ≤ i →
    bits_Ahead.l0 k x (i : Int) (packS l) (l.length : Int) = some (if zerosL (l.drop i) < 0 then -1 else (i : Int) + zerosL (l.drop i) - x) := by
  induction d with
  | zero =>
    intro k i hi hk hxi
    obtain ⟨k, rfl⟩ : ∃ m, k = m + 1 := ⟨k - 1, by omega⟩
    simp only [bits_Ahead.l0]
    rw [if_neg (by omega), List.drop_eq_nil_of_le (by omega)]
    rfl
  | succ d ih =>
    intro k i hi hk hxi
    obtain ⟨k, rfl⟩ : ∃ m, k = m + 1 := ⟨k - 1, by omega⟩
    have hsz := packS_size l
    have hb := bit_some (packS l) (l.length : Int) (i : Int) (by omega) (by omega) (by omega)
    rw [bitOf_packS l hl i (by omega)] at hb
    have hd : l.drop i = l.getD i 0 :: l.drop (i + 1) := by
      rw [List.drop_eq_getElem_cons (by omega), List.getD_eq_getElem?_getD, List.getElem?_eq_getElem (by omega)]
      rfl
    have hz := zerosL_range (l.drop (i + 1))
    simp only [bits_Ahead.l0]
    rw [if_pos (by omega), hb, Option.bind_some, hd]
    by_cases h1 : l.getD i 0 = 1
    · have hc : zerosL (l.getD i 0 :: l.drop (i + 1)) = 0 := by simp only [zerosL]; rw [if_pos h1]
      rw [if_pos h1, hc, wrap_in _ (by omega) (by omega), if_neg (by omega)]
      simp
    · rw [if_neg h1, wrap_in _ (by omega) (by omega)]
      have := ih k (i + 1) (by omega) (by omega) (by omega)
      rw [show ((i + 1 : Nat) : Int) = (i : Int) + 1 by omega] at this
      rw [this]
      by_cases h2 : zerosL (l.drop (i + 1)) < 0
      · have hc : zerosL (l.getD i 0 :: l.drop (i + 1)) = -1 := by simp only [zerosL]; rw [if_neg h1, if_pos h2]
        rw [if_pos h2, hc, if_pos (by omega)]
      · have hc : zerosL (l.getD i 0 :: l.drop (i + 1)) = zerosL (l.drop (i + 1)) + 1 := by simp only [zerosL]; rw [if_neg h1, if_neg h2]
        rw [if_neg h2, hc, if_neg (by omega)]
        congr 1
        omega
theorem ahead_eq (l : List Int) (hl : IsBits l) (hlen : l.length ≤ 1000000) (a : Nat) (ha : a ≤ l.length) (k : Nat) (hk : l.length < k) : bits_Ahead.f k (packS l) (l.length : Int) (a : Int) = some (zerosL (l.drop a)) := by
  have h := ahead_loop l hl hlen (a : Int) (by omega) (l.length - a) k a (by omega) (by omega) (Int.le_refl _)
  have hz := zerosL_range (l.drop a)
  unfold bits_Ahead.f
  rw [h]
  congr 1
  split <;> omega

/-- bits.Zeros, of bits that may be. -/
def zerosR (l : List Int) (a : Int) : Int × Int :=
  if 0 ≤ a ∧ a ≤ (l.length : Int) then (if zerosL (l.drop a.toNat) < 0 then (0, 9) else (zerosL (l.drop a.toNat), 0)) else (0, 1)
theorem zeros_eq (l : List Int) (hl : IsBits l) (hlen : l.length ≤ 6000) (a : Int) (k : Nat) (hk : l.length + 1 < k) : bits_Zeros.f k (packS l) (l.length : Int) a = some (zerosR l a) := by
  obtain ⟨k, rfl⟩ : ∃ m, k = m + 1 := ⟨k - 1, by omega⟩
  unfold bits_Zeros.f zerosR
  rw [may_eq, decide_eq_true (may_packS l hl hlen)]
  simp only [Option.bind_some, if_true]
  by_cases h0 : a < 0
  · rw [if_pos h0, if_neg (fun h => by omega)]
    simp only [bits_Zeros.j0, if_true]
  · rw [if_neg h0]
    by_cases h1 : a > (l.length : Int)
    · rw [decide_eq_true h1, if_neg (fun h => by omega)]
      simp only [bits_Zeros.j0, if_true]
    · rw [decide_eq_false h1, if_pos ⟨by omega, by omega⟩]
      obtain ⟨a', rfl⟩ := Int.eq_ofNat_of_zero_le (show 0 ≤ a by omega)
      simp only [bits_Zeros.j0]
      rw [if_neg (by decide), ahead_eq l hl (by omega) a' (by omega) k (by omega), Option.bind_some, Int.toNat_natCast]
      have hz := zerosL_range (l.drop a')
      split <;> rfl
theorem putL_1 (n : Nat) : putL (n + 1) 1 = List.replicate n 0 ++ [1] := by
  induction n with
  | zero => rfl
  | succ n ih =>
    have : (1 : Int) / 2 ^ (n + 1) % 2 = 0 := by
      have h : (1 : Int) < 2 ^ (n + 1) := by
        have := Nat.one_lt_two_pow (n := n + 1) (by omega)
        exact_mod_cast this
      rw [Int.ediv_eq_zero_of_lt (by omega) h]
      rfl
    rw [putL, this, ih]
    rfl
end Go.Proofs.Ytnpghcikhpglkaa.Pb
namespace Go.Proofs.Ytnpghcikhpglkaa.Pb
open Go.RowKit Go.Proofs.YtnpghcikhpglkaaW.PrintWords Go.Proofs.YtnpghcikhpglkaaW.PrintLast Go.Proofs.YtnpghcikhpglkaaW.PrintMore Go.Proofs.Ytnpghcikhpglkaa.Hand Go.Proofs.Ytnpghcikhpglkaa.Pu Go.Proofs.Ytnpghcikhpglkaa.Q
set_option linter.unusedVariables false
set_option linter.unusedSimpArgs false

theorem rd_zeros_bad (l : List Int) (hl : IsBits l) (hlen : l.length ≤ 6000) (a : Nat) (ha : a ≤ l.length) (most : Int) (k : Nat) (hk : 7000 ≤ k) : rd_zeros k (packS l) (l.length : Int) (a : Int) true most = some (0, (a : Int), true) := by
  unfold rd_zeros
  rw [ahead_eq l hl (by omega) a ha k (by omega), Option.bind_some, if_pos rfl]
theorem rd_zeros_eq (l : List Int) (hl : IsBits l) (hlen : l.length ≤ 6000) (a : Nat) (ha : a ≤ l.length) (most : Int) (k : Nat) (hk : 7000 ≤ k) : rd_zeros k (packS l) (l.length : Int) (a : Int) false most =
    some (if 0 ≤ zerosL (l.drop a) ∧ zerosL (l.drop a) ≤ most then (zerosL (l.drop a), (a : Int) + zerosL (l.drop a), false) else (0, (a : Int), true)) := by
  have hr := zerosL_range (l.drop a)
  rw [List.length_drop] at hr
  unfold rd_zeros
  rw [ahead_eq l hl (by omega) a ha k (by omega), Option.bind_some, if_neg (by decide)]
  generalize zerosL (l.drop a) = z at *
  by_cases h1 : z < 0
  · rw [if_pos h1, if_neg (fun h => by omega)]
  · rw [if_neg h1]
    by_cases h2 : most < z
    · rw [if_pos h2, if_neg (fun h => by omega)]
    · rw [if_neg h2, if_pos ⟨by omega, by omega⟩, wrap_in _ (by omega) (by omega)]
theorem look_some (l : List Int) (hl : IsBits l) (hlen : l.length ≤ 6000) (a w : Nat) (hw : w ≤ 61) (k : Nat) (hk : 7000 ≤ k) : bits_Look.f k (packS l) (l.length : Int) (a : Int) (w : Int) = if a + w ≤ l.length then some (numL ((l.drop a).take w), true) else some (0, false) := by
  by_cases h : a + w ≤ l.length
  · rw [if_pos h]
    exact look_yes l hl (by omega) a w h hw k (by omega)
  · rw [if_neg h]
    exact look_no (packS l) (l.length : Int) (a : Int) (w : Int) (by omega) (by omega) (by omega) (by omega) k (by omega)
theorem rd_look_bad (l : List Int) (hl : IsBits l) (hlen : l.length ≤ 6000) (a w : Nat) (hw : w ≤ 61) (k : Nat) (hk : 7000 ≤ k) : rd_look k (packS l) (l.length : Int) (a : Int) true (w : Int) = some (0, (a : Int), true) := by
  unfold rd_look
  rw [look_some l hl hlen a w hw k hk]
  split <;> (rw [Option.bind_some, if_pos rfl])
theorem rd_look_eq (l : List Int) (hl : IsBits l) (hlen : l.length ≤ 6000) (a w : Nat) (hw : w ≤ 61) (k : Nat) (hk : 7000 ≤ k) : rd_look k (packS l) (l.length : Int) (a : Int) false (w : Int) =
    some (if a + w ≤ l.length then (numL ((l.drop a).take w), ((a + w : Nat) : Int), false) else (0, (a : Int), true)) := by
  unfold rd_look
  rw [look_some l hl hlen a w hw k hk]
  by_cases h : a + w ≤ l.length
  · rw [if_pos h, if_pos h, Option.bind_some, if_neg (by decide), if_pos rfl, wrap_in _ (by omega) (by omega)]
    rfl
  · rw [if_neg h, if_neg h, Option.bind_some, if_neg (by decide), if_neg (by simp)]

/-- The rest's first code, as a number and how many bits it takes. -/
def unaryR (most : Int) (r : List Int) : Option (Int × Nat) := if 0 ≤ zerosL r ∧ zerosL r ≤ most - 1 then some (zerosL r + 1, (zerosL r).toNat + 1) else none
def gammaR (r : List Int) : Option (Int × Nat) :=
  if 0 ≤ zerosL r ∧ zerosL r ≤ 30 ∧ 2 * (zerosL r).toNat + 1 ≤ r.length then some (numL ((r.drop (zerosL r).toNat).take ((zerosL r).toNat + 1)), 2 * (zerosL r).toNat + 1) else none
/-- What the reader has: good, it stands behind the code; bad. -/
def Got (o : Option (Int × Int × Bool)) (a : Nat) (q : Option (Int × Nat)) : Prop := match q with
  | some (v, c) => o = some (v, ((a + c : Nat) : Int), false)
  | none => ∃ (v : Int) (a' : Nat), o = some (v, (a' : Int), true)
theorem unary_got (l : List Int) (hl : IsBits l) (hlen : l.length ≤ 6000) (a : Nat) (ha : a ≤ l.length) (most : Int) (hm0 : 1 ≤ most) (hm1 : most ≤ 10000) (k : Nat) (hk : 7000 ≤ k) : Got (rd_unary k (packS l) (l.length : Int) (a : Int) false most) a (unaryR most (l.drop a)) := by
  have hr := zerosL_range (l.drop a)
  rw [List.length_drop] at hr
  unfold rd_unary
  rw [if_pos ⟨hm0, hm1⟩, rd_zeros_eq l hl hlen a ha _ k hk, Option.bind_some]
  unfold unaryR
  generalize zerosL (l.drop a) = z at *
  by_cases h : 0 ≤ z ∧ z ≤ most - 1
  · rw [if_pos h, if_pos h]
    simp only [Got]
    obtain ⟨z, rfl⟩ := Int.eq_ofNat_of_zero_le h.1
    have e := rd_look_eq l hl hlen (a + z) 1 (by omega) k hk
    rw [if_pos (by omega)] at e
    have e' : rd_look k (packS l) (l.length : Int) ((a : Int) + (z : Int)) false 1 = _ := e
    rw [if_pos ⟨by omega, by omega⟩, e', Option.bind_some, Int.toNat_natCast]
    rfl
  · rw [if_neg h, if_neg h]
    simp only [Got]
    have e := rd_look_bad l hl hlen a 1 (by omega) k hk
    have e' : rd_look k (packS l) (l.length : Int) (a : Int) true 1 = _ := e
    rw [if_pos ⟨by omega, by omega⟩, e', Option.bind_some]
    exact ⟨_, a, rfl⟩
theorem gamma_got (l : List Int) (hl : IsBits l) (hlen : l.length ≤ 6000) (a : Nat) (ha : a ≤ l.length) (k : Nat) (hk : 7000 ≤ k) : Got (rd_gamma k (packS l) (l.length : Int) (a : Int) false) a (gammaR (l.drop a)) := by
  have hr := zerosL_range (l.drop a)
  unfold rd_gamma
  rw [rd_zeros_eq l hl hlen a ha _ k hk, Option.bind_some]
  unfold gammaR
  have hd : ∀ z : Nat, (l.drop a).drop z = l.drop (a + z) := fun z => by rw [List.drop_drop]
  rw [hd, List.length_drop]
  rw [List.length_drop] at hr
  generalize zerosL (l.drop a) = z at *
  by_cases h : 0 ≤ z ∧ z ≤ 30
  · rw [if_pos h]
    obtain ⟨z, rfl⟩ := Int.eq_ofNat_of_zero_le h.1
    have e := rd_look_eq l hl hlen (a + z) (z + 1) (by omega) k hk
    have e' : rd_look k (packS l) (l.length : Int) ((a : Int) + (z : Int)) false ((z : Int) + 1) = _ := e
    simp only [Int.toNat_natCast]
    rw [if_pos ⟨by omega, by omega⟩, e']
    by_cases h2 : 2 * z + 1 ≤ l.length - a
    · rw [if_pos (show a + z + (z + 1) ≤ l.length by omega), if_pos ⟨h.1, h.2, h2⟩]
      simp only [Got]
      rw [show a + z + (z + 1) = a + (2 * z + 1) by omega]
    · rw [if_neg (show ¬ (a + z + (z + 1) ≤ l.length) by omega), if_neg (fun h => h2 h.2.2)]
      exact ⟨_, a + z, rfl⟩
  · have hn : ¬ (0 ≤ z ∧ z ≤ 30 ∧ 2 * z.toNat + 1 ≤ l.length - a) := fun h2 => h ⟨h2.1, h2.2.1⟩
    rw [if_neg h, if_neg hn]
    have e := rd_look_bad l hl hlen a 1 (by omega) k hk
    have e' : rd_look k (packS l) (l.length : Int) (a : Int) true (0 + 1) = _ := e
    rw [if_pos ⟨by omega, by omega⟩, e']
    exact ⟨_, a, rfl⟩
theorem IsBits.drop' {l : List Int} (h : IsBits l) (n : Nat) : IsBits (l.drop n) := fun x hx => h x (List.mem_of_mem_drop hx)
theorem IsBits.take' {l : List Int} (h : IsBits l) (n : Nat) : IsBits (l.take n) := fun x hx => h x (List.mem_of_mem_take hx)
theorem gamma_facts (r : List Int) (hr : IsBits r) (g : Int) (c : Nat) (h : gammaR r = some (g, c)) : 1 ≤ g ∧ g < 2147483648 ∧ c ≤ r.length := by
  unfold gammaR at h
  split at h
  · rename_i hc
    simp only [Option.some.injEq, Prod.mk.injEq] at h
    obtain ⟨rfl, rfl⟩ := h
    obtain ⟨q, hq⟩ := zerosL_split r hc.1 hr
    generalize hz : (zerosL r).toNat = z at *
    have hz30 : z ≤ 30 := by omega
    have e1 : r.drop z = 1 :: q := by
      rw [hq, List.drop_append_of_le_length (by simp), List.drop_of_length_le (by simp), List.nil_append]
    have hqb : IsBits q := fun x hx => hr x (by rw [hq]; simp [hx])
    rw [e1, List.take_succ_cons, numL_cons]
    have hb := numL_range (IsBits.take' hqb z)
    have hl : (q.take z).length ≤ z := by rw [List.length_take]; omega
    generalize (q.take z).length = m at *
    have hm := Nat.pow_le_pow_right (n := 2) (by decide) (show m ≤ 30 by omega)
    have hm1 : ((2 ^ m : Nat) : Int) ≤ ((2 ^ 30 : Nat) : Int) := by exact_mod_cast hm
    have hm0 : 0 < 2 ^ m := Nat.pow_pos (by decide)
    have hcast : ((2 ^ m : Nat) : Int) = (2 : Int) ^ m := Int.natCast_pow 2 m
    rw [← hcast] at hb ⊢
    refine ⟨by omega, by omega, by omega⟩
  · cases h
def deltaR (r : List Int) : Option (Int × Nat) := (gammaR r).bind fun q =>
  if q.1 - 1 ≤ 30 ∧ q.2 + (q.1 - 1).toNat ≤ r.length then some (2 ^ (q.1 - 1).toNat + numL ((r.drop q.2).take (q.1 - 1).toNat), q.2 + (q.1 - 1).toNat) else none
theorem or_high (m : Nat) (hm : m ≤ 30) (v : Int) (h0 : 0 ≤ v) (h1 : v < 2 ^ m) : Go.bits .or .i64 (IntKind.i64.wrap (2 ^ m)) v = 2 ^ m + v := by
  have hp := pow_le30 (m : Int) (by omega) (by omega)
  rw [Int.toNat_natCast] at hp
  have hw : IntKind.i64.wrap (2 ^ m) = 2 ^ m := wraps_i64 _ (by omega) (by omega)
  rw [hw, bits_join .i64 63 (by decide) wraps_i64 m (2 ^ m) v (by omega) (Int.emod_self) (by omega) h0 h1 (by omega)]
theorem delta_got (l : List Int) (hl : IsBits l) (hlen : l.length ≤ 6000) (a : Nat) (ha : a ≤ l.length) (k : Nat) (hk : 7000 ≤ k) : Got (rd_delta k (packS l) (l.length : Int) (a : Int) false) a (deltaR (l.drop a)) := by
  have hg := gamma_got l hl hlen a ha k hk
  unfold rd_delta deltaR
  cases hgr : gammaR (l.drop a) with
  | none =>
    rw [hgr] at hg
    obtain ⟨v, a', e⟩ := hg
    rw [e, Option.bind_some, if_pos rfl, Option.bind_none]
    exact ⟨_, a', rfl⟩
  | some q =>
    obtain ⟨g, c⟩ := q
    rw [hgr] at hg
    simp only [Got] at hg
    obtain ⟨g1, g2, g3⟩ := gamma_facts _ (IsBits.drop' hl a) g c hgr
    rw [List.length_drop] at g3
    rw [hg, Option.bind_some, if_neg (by simp), Option.bind_some]
    simp only
    by_cases h30 : 30 < g - 1
    · rw [if_pos h30, if_pos (by omega), if_neg (fun h => by omega)]
      exact ⟨_, a + c, rfl⟩
    · rw [if_neg h30, if_pos (by omega)]
      obtain ⟨m, hm⟩ := Int.eq_ofNat_of_zero_le (show 0 ≤ g - 1 by omega)
      have hgn : g.toNat - 1 = m := by omega
      rw [hm, hgn, Int.toNat_natCast, List.drop_drop, List.length_drop]
      have e := rd_look_eq l hl hlen (a + c) m (by omega) k hk
      rw [e, Option.bind_some]
      by_cases h2 : a + c + m ≤ l.length
      · rw [if_pos h2, if_pos ⟨by omega, by omega⟩]
        have hb := numL_range (IsBits.take' (IsBits.drop' hl (a + c)) m)
        rw [List.length_take, List.length_drop, Nat.min_eq_left (by omega)] at hb
        simp only [Got]
        rw [or_high m (by omega) _ hb.1 hb.2, show a + c + m = a + (c + m) by omega]
      · rw [if_neg h2, if_neg (fun h => by omega)]
        exact ⟨_, a + c, rfl⟩
def zetaR (kk most : Int) (r : List Int) : Option (Int × Nat) := (unaryR most r).bind fun u => (code_zeta.f kk (u.1 - 1)).bind fun q =>
  if u.2 + (q.2.2.1 - 1).toNat ≤ r.length then
    (if numL ((r.drop u.2).take (q.2.2.1 - 1).toNat) < q.2.2.2 then some (q.1 + numL ((r.drop u.2).take (q.2.2.1 - 1).toNat), u.2 + (q.2.2.1 - 1).toNat)
    else if u.2 + (q.2.2.1 - 1).toNat + 1 ≤ r.length then some (q.1 + (numL ((r.drop u.2).take (q.2.2.1 - 1).toNat) * 2 + numL ((r.drop (u.2 + (q.2.2.1 - 1).toNat)).take 1) - q.2.2.2), u.2 + (q.2.2.1 - 1).toNat + 1) else none)
  else none
theorem zeta_got (kk : Nat) (most : Int) (hm0 : 1 ≤ most) (hm1 : most ≤ 16) (hz : ∀ h : Nat, (h : Int) ≤ most - 1 → ∃ low many size short : Int, code_zeta.f (kk : Int) (h : Int) = some (low, many, size, short) ∧ 0 ≤ low ∧ low ≤ 4294967296 ∧ 1 ≤ size ∧ size ≤ 33 ∧ 0 ≤ short ∧ short ≤ 4294967296)
    (l : List Int) (hl : IsBits l) (hlen : l.length ≤ 6000) (a : Nat) (ha : a ≤ l.length) (k : Nat) (hk : 7000 ≤ k) : Got (rd_zeta (kk : Int) most k (packS l) (l.length : Int) (a : Int) false) a (zetaR (kk : Int) most (l.drop a)) := by
  have hu := unary_got l hl hlen a ha most hm0 (by omega) k hk
  have hr := zerosL_range (l.drop a)
  rw [List.length_drop] at hr
  unfold rd_zeta zetaR
  cases hur : unaryR most (l.drop a) with
  | none =>
    rw [hur] at hu
    obtain ⟨v, a', e⟩ := hu
    rw [e, Option.bind_some, if_pos rfl, Option.bind_none]
    exact ⟨_, a', rfl⟩
  | some q =>
    obtain ⟨u, c⟩ := q
    rw [hur] at hu
    simp only [Got] at hu
    have hc : 1 ≤ u ∧ u ≤ most ∧ a + c ≤ l.length := by
      unfold unaryR at hur
      split at hur
      · simp only [Option.some.injEq, Prod.mk.injEq] at hur
        omega
      · cases hur
    obtain ⟨h, hh⟩ := Int.eq_ofNat_of_zero_le (show 0 ≤ u - 1 by omega)
    obtain ⟨low, many, size, short, e, z1, z2, z3, z4, z5, z6⟩ := hz h (by omega)
    rw [hu, Option.bind_some, if_neg (by simp), Option.bind_some]
    simp only
    rw [if_pos ⟨by omega, by omega⟩, hh, e, Option.bind_some, Option.bind_some]
    simp only
    rw [if_pos ⟨z1, z2, z3, by omega, z5, z6⟩]
    obtain ⟨m, hm⟩ := Int.eq_ofNat_of_zero_le (show 0 ≤ size - 1 by omega)
    rw [hm, Int.toNat_natCast, List.drop_drop, List.drop_drop, List.length_drop, rd_look_eq l hl hlen (a + c) m (by omega) k hk, Option.bind_some]
    by_cases h2 : a + c + m ≤ l.length
    · rw [if_pos h2, if_pos (show c + m ≤ l.length - a by omega)]
      have hb := numL_range (IsBits.take' (IsBits.drop' hl (a + c)) m)
      rw [List.length_take, List.length_drop, Nat.min_eq_left (by omega)] at hb
      have hpw := Nat.pow_le_pow_right (n := 2) (by decide) (show m ≤ 32 by omega)
      have hpc : ((2 ^ m : Nat) : Int) = (2 : Int) ^ m := Int.natCast_pow 2 m
      rw [← hpc] at hb
      generalize numL ((l.drop (a + c)).take m) = z at *
      simp only
      rw [if_pos ⟨by omega, by omega⟩]
      by_cases h3 : z < short
      · rw [if_pos h3, if_pos h3]
        simp only [Got]
        rw [show a + c + m = a + (c + m) by omega]
      · rw [if_neg h3, if_neg h3]
        have e1 := rd_look_eq l hl hlen (a + c + m) 1 (by omega) k hk
        have e1' : rd_look k (packS l) (l.length : Int) ((a + c + m : Nat) : Int) false 1 = _ := e1
        rw [e1', Option.bind_some]
        by_cases h4 : a + c + m + 1 ≤ l.length
        · rw [if_pos h4, if_pos (show c + m + 1 ≤ l.length - a by omega)]
          have hb1 := numL_range (IsBits.take' (IsBits.drop' hl (a + c + m)) 1)
          rw [List.length_take, List.length_drop, Nat.min_eq_left (by omega)] at hb1
          rw [show a + (c + m) = a + c + m by omega]
          generalize numL ((l.drop (a + c + m)).take 1) = y at *
          simp only [Got]
          rw [if_pos ⟨by omega, by omega⟩, show a + c + m + 1 = a + (c + m + 1) by omega]
        · rw [if_neg h4, if_neg (show ¬ (c + m + 1 ≤ l.length - a) by omega), if_pos ⟨by omega, by omega⟩]
          exact ⟨_, a + c + m, rfl⟩
    · rw [if_neg h2, if_neg (show ¬ (c + m ≤ l.length - a) by omega)]
      have e1 := rd_look_bad l hl hlen (a + c) 1 (by omega) k hk
      have e1' : rd_look k (packS l) (l.length : Int) ((a + c : Nat) : Int) true 1 = _ := e1
      simp only
      rw [if_pos ⟨by omega, by omega⟩, e1', Option.bind_some]
      split
      · exact ⟨_, a + c, rfl⟩
      · rw [if_pos ⟨by omega, by omega⟩]
        exact ⟨_, a + c, rfl⟩
end Go.Proofs.Ytnpghcikhpglkaa.Pb
namespace Go.Proofs.Ytnpghcikhpglkaa.Pb
open Go.RowKit Go.Proofs.YtnpghcikhpglkaaW.PrintWords Go.Proofs.YtnpghcikhpglkaaW.PrintLast Go.Proofs.YtnpghcikhpglkaaW.PrintMore Go.Proofs.Ytnpghcikhpglkaa.Hand Go.Proofs.Ytnpghcikhpglkaa.Pu Go.Proofs.Ytnpghcikhpglkaa.Q
set_option linter.unusedVariables false
set_option linter.unusedSimpArgs false

/-- The rest's first code of a kind. -/
def ReadL (kind : Int) (r : List Int) : Option (Int × Nat) :=
  if kind = 1 then unaryR 1000 r else if kind = 2 then gammaR r else if kind = 3 then deltaR r else if kind = 4 then zetaR 2 16 r else zetaR 3 11 r
theorem zt2' (h : Nat) (hh : (h : Int) ≤ 16 - 1) : ∃ low many size short : Int, code_zeta.f ((2 : Nat) : Int) (h : Int) = some (low, many, size, short) ∧ 0 ≤ low ∧ low ≤ 4294967296 ∧ 1 ≤ size ∧ size ≤ 33 ∧ 0 ≤ short ∧ short ≤ 4294967296 := by
  obtain ⟨low, many, size, short, e, e1, e2, e3, e4, e5, e6, e7⟩ := zt_facts (zt2 ⟨h, by omega⟩)
  have hb : ∀ h : Fin 16, (Option.any (fun q : Int × Int × Int × Int => Nat.ble q.2.2.1.toNat 33) (code_zeta.f ((2 : Nat) : Int) (h.val : Int))) = true := by decide +kernel
  have hb2 := hb ⟨h, by omega⟩
  simp only at e e1 hb2
  rw [e] at hb2
  have hb3 : size.toNat ≤ 33 := Nat.le_of_ble_eq_true hb2
  have hp := Nat.pow_le_pow_right (n := 2) (by decide) (show h * 2 ≤ 32 by omega)
  have hp0 : 0 < 2 ^ (h * 2) := Nat.pow_pos (by decide)
  exact ⟨low, many, size, short, e, by omega, by omega, e3, by omega, e5, by omega⟩
theorem zt3' (h : Nat) (hh : (h : Int) ≤ 11 - 1) : ∃ low many size short : Int, code_zeta.f ((3 : Nat) : Int) (h : Int) = some (low, many, size, short) ∧ 0 ≤ low ∧ low ≤ 4294967296 ∧ 1 ≤ size ∧ size ≤ 33 ∧ 0 ≤ short ∧ short ≤ 4294967296 := by
  obtain ⟨low, many, size, short, e, e1, e2, e3, e4, e5, e6, e7⟩ := zt_facts (zt3 ⟨h, by omega⟩)
  have hb : ∀ h : Fin 11, (Option.any (fun q : Int × Int × Int × Int => Nat.ble q.2.2.1.toNat 33) (code_zeta.f ((3 : Nat) : Int) (h.val : Int))) = true := by decide +kernel
  have hb2 := hb ⟨h, by omega⟩
  simp only at e e1 hb2
  rw [e] at hb2
  have hb3 : size.toNat ≤ 33 := Nat.le_of_ble_eq_true hb2
  have hp := Nat.pow_le_pow_right (n := 2) (by decide) (show h * 3 ≤ 32 by omega)
  have hp0 : 0 < 2 ^ (h * 3) := Nat.pow_pos (by decide)
  exact ⟨low, many, size, short, e, by omega, by omega, e3, by omega, e5, by omega⟩
theorem read_got (l : List Int) (hl : IsBits l) (hlen : l.length ≤ 6000) (a : Nat) (ha : a ≤ l.length) (kind : Int) (hk1 : 1 ≤ kind) (hk5 : kind ≤ 5) (k : Nat) (hk : 7000 ≤ k) : Got (readK k (packS l) (l.length : Int) (a : Int) kind) a (ReadL kind (l.drop a)) := by
  have hkk : kind = 1 ∨ kind = 2 ∨ kind = 3 ∨ kind = 4 ∨ kind = 5 := by omega
  unfold readK ReadL
  rcases hkk with rfl | rfl | rfl | rfl | rfl
  · rw [if_pos rfl, if_pos rfl]; exact unary_got l hl hlen a ha 1000 (by omega) (by omega) k hk
  · rw [if_neg (by decide), if_pos rfl, if_neg (by decide), if_pos rfl]; exact gamma_got l hl hlen a ha k hk
  · rw [if_neg (by decide), if_neg (by decide), if_pos rfl, if_neg (by decide), if_neg (by decide), if_pos rfl]; exact delta_got l hl hlen a ha k hk
  · rw [if_neg (by decide), if_neg (by decide), if_neg (by decide), if_pos rfl, if_neg (by decide), if_neg (by decide), if_neg (by decide), if_pos rfl]
    exact zeta_got 2 16 (by omega) (by omega) zt2' l hl hlen a ha k hk
  · rw [if_neg (by decide), if_neg (by decide), if_neg (by decide), if_neg (by decide), if_pos rfl, if_neg (by decide), if_neg (by decide), if_neg (by decide), if_neg (by decide)]
    exact zeta_got 3 11 (by omega) (by omega) zt3' l hl hlen a ha k hk
/-- code.Read's answer. -/
def readR (kind : Int) (l : List Int) (a : Nat) : Int × Int × Bool := match ReadL kind (l.drop a) with
  | some (v, c) => if 1073741824 < v then (0, 0, false) else (v, ((a + c : Nat) : Int), true)
  | none => (0, 0, false)
theorem read_eq (l : List Int) (hl : IsBits l) (hlen : l.length ≤ 6000) (a : Nat) (ha : a ≤ l.length) (kind : Int) (hk1 : 1 ≤ kind) (hk5 : kind ≤ 5) : code_Read.f (packS l) (l.length : Int) (a : Int) kind = some (readR kind l a) := by
  have hg := read_got l hl hlen a ha kind hk1 hk5 rounds (by unfold rounds; omega)
  unfold code_Read.f readR
  cases hr : ReadL kind (l.drop a) with
  | none =>
    rw [hr] at hg
    obtain ⟨v, a', e⟩ := hg
    rw [e, Option.bind_some, if_pos rfl]
  | some q =>
    obtain ⟨v, c⟩ := q
    rw [hr] at hg
    simp only [Got] at hg
    rw [hg, Option.bind_some, if_neg (by simp)]
    simp only
    split <;> rfl
end Go.Proofs.Ytnpghcikhpglkaa.Pb
namespace Go.Proofs.Ytnpghcikhpglkaa.Pb
open Go.RowKit Go.Proofs.YtnpghcikhpglkaaW.PrintWords Go.Proofs.YtnpghcikhpglkaaW.PrintLast Go.Proofs.YtnpghcikhpglkaaW.PrintMore Go.Proofs.Ytnpghcikhpglkaa.Hand Go.Proofs.Ytnpghcikhpglkaa.Pu Go.Proofs.Ytnpghcikhpglkaa.Q
set_option linter.unusedVariables false
set_option linter.unusedSimpArgs false

theorem unaryL_eq (n : Int) : unaryL n = List.replicate (n - 1).toNat 0 ++ [1] := by
  unfold unaryL; rw [putL_zero]; rfl
theorem unary_read (most n : Int) (h1 : 1 ≤ n) (h2 : n ≤ most) (r : List Int) : unaryR most (unaryL n ++ r) = some (n, (unaryL n).length) := by
  obtain ⟨m, hm⟩ := Int.eq_ofNat_of_zero_le (show 0 ≤ n - 1 by omega)
  rw [unaryL_length n h1, unaryL_eq, hm, Int.toNat_natCast, List.append_assoc, List.singleton_append]
  unfold unaryR
  rw [zerosL_rep, if_pos ⟨by omega, by omega⟩, Int.toNat_natCast, show m + 1 = n.toNat by omega, show (m : Int) + 1 = n by omega]
theorem gamma_read (n : Int) (h1 : 1 ≤ n) (h2 : n ≤ 1073741824) (r : List Int) : gammaR (gammaL n ++ r) = some (n, (gammaL n).length) := by
  obtain ⟨_, g0, g1, g2, g3⟩ := lg_facts n h1 h2
  have hlen := gammaL_length n
  obtain ⟨g, hg⟩ := Int.eq_ofNat_of_zero_le g0
  have e : gammaL n = List.replicate g 0 ++ putL (g + 1) n := by
    unfold gammaL
    rw [hg, putL_zero, Int.toNat_natCast, show ((g : Int) + 1).toNat = g + 1 by omega]
  rw [hg, Int.toNat_natCast] at g2 g3
  rw [hg, Int.toNat_natCast, show ((g : Int) + 1).toNat = g + 1 by omega] at hlen
  have hp : (0 : Int) < 2 ^ g := Int.pow_pos (by decide)
  have hs : (2 : Int) ^ (g + 1) = 2 ^ g * 2 := Int.pow_succ 2 g
  have hd : n / 2 ^ g = 1 := by
    rw [Int.ediv_eq_iff_of_pos hp]
    omega
  have e1 : putL (g + 1) n = 1 :: putL g n := by rw [putL, hd]; rfl
  have e2 : gammaL n ++ r = List.replicate g 0 ++ 1 :: (putL g n ++ r) := by rw [e, e1]; simp
  have hz : zerosL (gammaL n ++ r) = (g : Int) := by rw [e2, zerosL_rep]
  have hdr : ((gammaL n ++ r).drop g).take (g + 1) = putL (g + 1) n := by
    rw [e, List.append_assoc, List.drop_append_of_le_length (by simp), List.drop_of_length_le (by simp), List.nil_append, List.take_append_of_le_length (by rw [putL_length]; omega), List.take_of_length_le (by rw [putL_length]; omega)]
  unfold gammaR
  rw [hz, Int.toNat_natCast, if_pos ⟨by omega, by omega, by rw [List.length_append, hlen]; omega⟩, hdr, numL_putL_lt (g + 1) n (by omega) g3, hlen, show 2 * g + 1 = g + (g + 1) by omega]
theorem delta_read (n : Int) (h1 : 1 ≤ n) (h2 : n ≤ 1073741824) (r : List Int) : deltaR (deltaL n ++ r) = some (n, (deltaL n).length) := by
  obtain ⟨_, g0, g1, g2, g3⟩ := lg_facts n h1 h2
  obtain ⟨g, hg⟩ := Int.eq_ofNat_of_zero_le g0
  have e : deltaL n = gammaL ((g : Int) + 1) ++ putL g n := by unfold deltaL; rw [hg, Int.toNat_natCast]
  rw [hg, Int.toNat_natCast] at g2 g3
  have hp : (0 : Int) < 2 ^ g := Int.pow_pos (by decide)
  have hs : (2 : Int) ^ (g + 1) = 2 ^ g * 2 := Int.pow_succ 2 g
  have hm : n % 2 ^ g = n - 2 ^ g := by
    rw [← Int.emod_eq_of_lt (a := n - 2 ^ g) (b := 2 ^ g) (by omega) (by omega), Int.sub_emod_right]
  unfold deltaR
  rw [e, List.append_assoc, gamma_read ((g : Int) + 1) (by omega) (by omega), Option.bind_some]
  simp only
  have hd : ((gammaL ((g : Int) + 1) ++ (putL g n ++ r)).drop (gammaL ((g : Int) + 1)).length).take g = putL g n := by
    rw [List.drop_left, List.take_append_of_le_length (by rw [putL_length]; omega), List.take_of_length_le (by rw [putL_length]; omega)]
  rw [show (g : Int) + 1 - 1 = (g : Int) by omega, Int.toNat_natCast, hd, if_pos ⟨by omega, by simp only [List.length_append, putL_length]; omega⟩, numL_putL g n (by omega), hm, List.length_append, putL_length, show (2 : Int) ^ g + (n - 2 ^ g) = n by omega]
end Go.Proofs.Ytnpghcikhpglkaa.Pb
namespace Go.Proofs.Ytnpghcikhpglkaa.Pb
open Go.RowKit Go.Proofs.YtnpghcikhpglkaaW.PrintWords Go.Proofs.YtnpghcikhpglkaaW.PrintLast Go.Proofs.YtnpghcikhpglkaaW.PrintMore Go.Proofs.Ytnpghcikhpglkaa.Hand Go.Proofs.Ytnpghcikhpglkaa.Pu Go.Proofs.Ytnpghcikhpglkaa.Q
set_option linter.unusedVariables false
set_option linter.unusedSimpArgs false

theorem putL_last (m : Nat) : ∀ v : Int, putL (m + 1) v = putL m (v / 2) ++ [v % 2] := by
  induction m with
  | zero => intro v; simp [putL]
  | succ m ih =>
    intro v
    have e : v / 2 ^ (m + 1) = v / 2 / 2 ^ m := by
      rw [Int.pow_succ, Int.mul_comm, ← Int.ediv_ediv_of_nonneg (by decide)]
    rw [putL, ih v, putL, e]
    rfl
def manyOk (kk h : Nat) : Bool := Option.any (fun q : Int × Int × Int × Int => Nat.blt (2 ^ (q.2.2.1.toNat - 1)) q.2.1.toNat) (code_zeta.f (kk : Int) (h : Int))
theorem many2 : ∀ h : Fin 16, manyOk 2 h.val = true := by decide +kernel
theorem many3 : ∀ h : Fin 11, manyOk 3 h.val = true := by decide +kernel
theorem zeta_read (kk h : Nat) (most n : Int) (hk : 1 ≤ kk) (h1 : 1 ≤ n) (h2 : n ≤ 1073741824) (hh : Int.tdiv (lg n) (kk : Int) = (h : Int)) (hmost : (h : Int) + 1 ≤ most) (ho : ztOk kk h = true) (hm : manyOk kk h = true) (hhi : n < ((2 ^ (h * kk + kk) : Nat) : Int)) (hlo : ((2 ^ (h * kk) : Nat) : Int) ≤ n) (r : List Int) :
    zetaR (kk : Int) most (zetaL (kk : Int) n ++ r) = some (n, (zetaL (kk : Int) n).length) := by
  obtain ⟨low, many, size, short, e, e1, e2, e3, e4, e5, e6, e7⟩ := zt_facts ho
  unfold manyOk at hm
  rw [e] at hm
  have hm2 : 2 ^ (size.toNat - 1) < many.toNat := by simpa using hm
  obtain ⟨m, hsz⟩ := Int.eq_ofNat_of_zero_le (show 0 ≤ size - 1 by omega)
  have hsz2 : size.toNat = m + 1 := by omega
  rw [hsz2] at e6 hm2
  have hpow : 2 ^ (m + 1) = 2 ^ m * 2 := Nat.pow_succ 2 m
  simp only [Nat.add_sub_cancel] at hm2
  have hc : ((2 ^ m : Nat) : Int) = (2 : Int) ^ m := Int.natCast_pow 2 m
  have hz : zetaL (kk : Int) n = unaryL ((h : Int) + 1) ++ (if n - low < short then putL (size - 1).toNat (n - low) else putL size.toNat (n - low + short)) := by
    unfold zetaL; rw [hh, e]
  rw [hz, hsz, hsz2, Int.toNat_natCast]
  by_cases hx : n - low < short
  · rw [if_pos hx, List.append_assoc]
    unfold zetaR
    rw [unary_read most ((h : Int) + 1) (by omega) hmost, Option.bind_some]
    simp only
    rw [show (h : Int) + 1 - 1 = (h : Int) by omega, e, Option.bind_some]
    simp only
    rw [hsz, Int.toNat_natCast, List.drop_left, List.take_append_of_le_length (by rw [putL_length]; omega), List.take_of_length_le (by rw [putL_length]; omega), if_pos (by simp only [List.length_append, putL_length]; omega), numL_putL_lt m (n - low) (by omega) (by rw [← hc]; omega), if_pos hx, List.length_append, putL_length, show low + (n - low) = n by omega]
  · rw [if_neg hx, List.append_assoc]
    unfold zetaR
    rw [unary_read most ((h : Int) + 1) (by omega) hmost, Option.bind_some]
    simp only
    rw [show (h : Int) + 1 - 1 = (h : Int) by omega, e, Option.bind_some]
    simp only
    rw [putL_last]
    have hv : (n - low + short) / 2 < ((2 ^ m : Nat) : Int) := by omega
    rw [hsz, Int.toNat_natCast, List.drop_left, List.append_assoc, List.take_append_of_le_length (by rw [putL_length]; omega), List.take_of_length_le (by rw [putL_length]; omega), if_pos (by simp only [List.length_append, putL_length]; omega), numL_putL_lt m _ (by omega) (by rw [← hc]; exact hv), if_neg (by omega), if_pos (by simp only [List.length_append, putL_length, List.length_singleton]; omega)]
    have hd : ((unaryL ((h : Int) + 1) ++ (putL m ((n - low + short) / 2) ++ ([(n - low + short) % 2] ++ r))).drop ((unaryL ((h : Int) + 1)).length + m)).take 1 = [(n - low + short) % 2] := by
      rw [← List.drop_drop, List.drop_left]
      have := List.drop_left (l₁ := putL m ((n - low + short) / 2)) (l₂ := [(n - low + short) % 2] ++ r)
      rw [putL_length] at this
      rw [this]; rfl
    rw [hd, List.length_append, List.length_append, putL_length]
    have hn : numL [(n - low + short) % 2] = (n - low + short) % 2 := by simp [numL]
    rw [hn, show low + ((n - low + short) / 2 * 2 + (n - low + short) % 2 - short) = n by omega]
    rfl
theorem lg_high {n : Int} {h kk : Nat} (h0 : 1 ≤ n) (h1 : n ≤ 1073741824) (hh : (h : Int) = lg n / (kk : Int)) (hk : 1 ≤ kk) : n < ((2 ^ (h * kk + kk) : Nat) : Int) := by
  obtain ⟨_, g0, g1, g2, g3⟩ := lg_facts n h0 h1
  obtain ⟨g, hg⟩ := Int.eq_ofNat_of_zero_le g0
  rw [hg] at hh g3
  rw [Int.toNat_natCast] at g3
  have hh' : h = g / kk := by exact_mod_cast hh
  have hle : g + 1 ≤ h * kk + kk := by
    have := Nat.lt_div_mul_add (a := g) (b := kk) (by omega)
    rw [hh']; omega
  have := Nat.pow_le_pow_right (n := 2) (by decide) hle
  have h2 : ((2 ^ (g + 1) : Nat) : Int) ≤ ((2 ^ (h * kk + kk) : Nat) : Int) := by exact_mod_cast this
  have h3 : ((2 ^ (g + 1) : Nat) : Int) = (2 : Int) ^ (g + 1) := Int.natCast_pow 2 (g + 1)
  rw [h3] at h2
  exact Int.lt_of_lt_of_le g3 h2
theorem read_lay (kind n : Int) (hk1 : 1 ≤ kind) (hk5 : kind ≤ 5) (h1 : 1 ≤ n) (h2 : n ≤ 1073741824) (h3 : kind = 1 → n ≤ 1000) (r : List Int) : ReadL kind (layL kind n ++ r) = some (n, (layL kind n).length) := by
  obtain ⟨_, g0, g1, _, _⟩ := lg_facts n h1 h2
  have hkk : kind = 1 ∨ kind = 2 ∨ kind = 3 ∨ kind = 4 ∨ kind = 5 := by omega
  unfold ReadL layL
  rcases hkk with rfl | rfl | rfl | rfl | rfl
  · rw [if_pos rfl, if_pos rfl]; exact unary_read 1000 n h1 (h3 rfl) r
  · rw [if_neg (by decide), if_pos rfl, if_neg (by decide), if_pos rfl]; exact gamma_read n h1 h2 r
  · rw [if_neg (by decide), if_neg (by decide), if_pos rfl, if_neg (by decide), if_neg (by decide), if_pos rfl]; exact delta_read n h1 h2 r
  · rw [if_neg (by decide), if_neg (by decide), if_neg (by decide), if_pos rfl, if_neg (by decide), if_neg (by decide), if_neg (by decide), if_pos rfl]
    obtain ⟨h, hh⟩ := Int.eq_ofNat_of_zero_le (show 0 ≤ lg n / 2 by omega)
    exact zeta_read 2 h 16 n (by omega) h1 h2 (by rw [Int.tdiv_eq_ediv_of_nonneg g0]; exact hh) (by omega) (zt2 ⟨h, by omega⟩) (many2 ⟨h, by omega⟩) (lg_high h1 h2 hh.symm (by omega)) (low_le h1 h2 hh.symm (by omega)) r
  · rw [if_neg (by decide), if_neg (by decide), if_neg (by decide), if_neg (by decide), if_neg (by decide), if_neg (by decide), if_neg (by decide), if_neg (by decide)]
    obtain ⟨h, hh⟩ := Int.eq_ofNat_of_zero_le (show 0 ≤ lg n / 3 by omega)
    exact zeta_read 3 h 11 n (by omega) h1 h2 (by rw [Int.tdiv_eq_ediv_of_nonneg g0]; exact hh) (by omega) (zt3 ⟨h, by omega⟩) (many3 ⟨h, by omega⟩) (lg_high h1 h2 hh.symm (by omega)) (low_le h1 h2 hh.symm (by omega)) r
end Go.Proofs.Ytnpghcikhpglkaa.Pb
namespace Go.Proofs.Ytnpghcikhpglkaa.Pb
open Go.RowKit Go.Proofs.YtnpghcikhpglkaaW.PrintWords Go.Proofs.YtnpghcikhpglkaaW.PrintLast Go.Proofs.YtnpghcikhpglkaaW.PrintMore Go.Proofs.Ytnpghcikhpglkaa.Hand Go.Proofs.Ytnpghcikhpglkaa.Pu Go.Proofs.Ytnpghcikhpglkaa.Q
set_option linter.unusedVariables false
set_option linter.unusedSimpArgs false

/-- A number may be coded so. -/
def NumP (kind n : Int) : Prop := 1 ≤ n ∧ n ≤ 1073741824 ∧ (kind = 1 → n ≤ 1000)
instance (kind n : Int) : Decidable (NumP kind n) := by unfold NumP; infer_instance
theorem is_eq (kind : Int) : code_Is.f kind = some (decide (1 ≤ kind ∧ kind ≤ 5)) := by
  unfold code_Is.f
  by_cases h : kind ≥ 1
  · rw [if_pos h]; congr 1; rw [decide_eq_decide]; omega
  · rw [if_neg h, decide_eq_false (fun h2 => h h2.1)]
theorem number_eq (kind n : Int) : code_number.f kind n = some (decide (1 ≤ n ∧ n ≤ 1073741824 ∧ (kind = 1 → n ≤ 1000))) := by
  unfold code_number.f
  by_cases h1 : kind = 1
  · rw [if_pos h1]
    by_cases h : n ≥ 1
    · rw [if_pos h]; congr 1; rw [decide_eq_decide]; constructor <;> intro h2 <;> omega
    · rw [if_neg h, decide_eq_false (fun h2 => h h2.1)]
  · rw [if_neg h1]
    by_cases h : n ≥ 1
    · rw [if_pos h]; congr 1; rw [decide_eq_decide]; constructor <;> intro h2 <;> omega
    · rw [if_neg h, decide_eq_false (fun h2 => h h2.1)]
theorem cput_eq (l : List Int) (hl : IsBits l) (hlen : l.length ≤ 6000) (kind n : Int) : code_Put.f (packS l) (l.length : Int) kind n =
    some (if (1 ≤ kind ∧ kind ≤ 5) ∧ NumP kind n then (if l.length + (layL kind n).length ≤ 6000 then (packS (l ++ layL kind n), ((l ++ layL kind n).length : Int), 0) else (⟨#[]⟩, 0, 2)) else (⟨#[]⟩, 0, 1)) := by
  unfold code_Put.f
  rw [if_pos (may_packS l hl hlen), is_eq, ofS_packS l hl, Option.bind_some]
  by_cases h1 : 1 ≤ kind ∧ kind ≤ 5
  · rw [decide_eq_true h1, if_pos rfl, number_eq, Option.bind_some]
    by_cases h2 : NumP kind n
    · rw [decide_eq_true (p := 1 ≤ n ∧ n ≤ 1073741824 ∧ (kind = 1 → n ≤ 1000)) h2, if_pos rfl, if_pos (show (1 ≤ kind ∧ kind ≤ 5) ∧ NumP kind n from ⟨h1, h2⟩)]
      by_cases h3 : l.length + (layL kind n).length ≤ 6000
      · rw [if_pos h3, if_pos (show ((l ++ layL kind n).length : Int) ≤ 6000 by rw [List.length_append]; omega)]
      · rw [if_neg h3, if_neg (show ¬ (((l ++ layL kind n).length : Int) ≤ 6000) by rw [List.length_append]; omega)]
    · rw [decide_eq_false (p := 1 ≤ n ∧ n ≤ 1073741824 ∧ (kind = 1 → n ≤ 1000)) h2, if_neg (by decide), if_neg (show ¬ ((1 ≤ kind ∧ kind ≤ 5) ∧ NumP kind n) from fun h => h2 h.2)]
  · rw [decide_eq_false h1, if_neg (by decide), if_neg (show ¬ ((1 ≤ kind ∧ kind ≤ 5) ∧ NumP kind n) from fun h => h1 h.1)]
theorem csize_eq (kind n : Int) : code_Size.f kind n = some (if (1 ≤ kind ∧ kind ≤ 5) ∧ NumP kind n then (((layL kind n).length : Int), 0) else (0, 1)) := by
  unfold code_Size.f
  rw [is_eq, Option.bind_some]
  by_cases h1 : 1 ≤ kind ∧ kind ≤ 5
  · rw [decide_eq_true h1, if_pos rfl, number_eq, Option.bind_some]
    by_cases h2 : NumP kind n
    · rw [decide_eq_true (p := 1 ≤ n ∧ n ≤ 1073741824 ∧ (kind = 1 → n ≤ 1000)) h2, if_pos rfl, if_pos (show (1 ≤ kind ∧ kind ≤ 5) ∧ NumP kind n from ⟨h1, h2⟩)]
    · rw [decide_eq_false (p := 1 ≤ n ∧ n ≤ 1073741824 ∧ (kind = 1 → n ≤ 1000)) h2, if_neg (by decide), if_neg (show ¬ ((1 ≤ kind ∧ kind ≤ 5) ∧ NumP kind n) from fun h => h2 h.2)]
  · rw [decide_eq_false h1, if_neg (by decide), if_neg (show ¬ ((1 ≤ kind ∧ kind ≤ 5) ∧ NumP kind n) from fun h => h1 h.1)]
/-- code.Take's answer. -/
def takeR (kind : Int) (l : List Int) (a : Int) : Int × Int × Int :=
  if (1 ≤ kind ∧ kind ≤ 5) ∧ 0 ≤ a ∧ a ≤ (l.length : Int) then (if (readR kind l a.toNat).2.2 = true then ((readR kind l a.toNat).1, (readR kind l a.toNat).2.1, 0) else (0, 0, 9)) else (0, 0, 1)
theorem ctake_eq (l : List Int) (hl : IsBits l) (hlen : l.length ≤ 6000) (kind a : Int) (k : Nat) (hk : 1 ≤ k) : code_Take.f k (packS l) (l.length : Int) a kind = some (takeR kind l a) := by
  obtain ⟨k, rfl⟩ : ∃ k', k = k' + 1 := ⟨k - 1, by omega⟩
  unfold code_Take.f takeR
  rw [may_eq, decide_eq_true (may_packS l hl hlen), Option.bind_some, if_pos rfl, is_eq, Option.bind_some]
  by_cases h1 : 1 ≤ kind ∧ kind ≤ 5
  · rw [decide_eq_true h1, if_pos rfl]
    by_cases h2 : a < 0
    · rw [if_pos h2, code_Take.j0, if_pos rfl, if_neg (fun h => by omega)]
    · rw [if_neg h2]
      by_cases h3 : a > (l.length : Int)
      · rw [decide_eq_true h3, code_Take.j0, if_pos rfl, if_neg (fun h => by omega)]
      · rw [decide_eq_false h3, code_Take.j0, if_neg (by decide), if_pos ⟨h1, by omega, by omega⟩]
        obtain ⟨a, rfl⟩ := Int.eq_ofNat_of_zero_le (show 0 ≤ a by omega)
        rw [read_eq l hl hlen a (by omega) kind h1.1 h1.2, Option.bind_some, Int.toNat_natCast]
        by_cases h4 : (readR kind l a).2.2 = true
        · rw [if_pos h4, if_pos h4]
        · rw [if_neg h4, if_neg h4]
  · rw [decide_eq_false h1, if_neg (by decide), code_Take.j0, if_pos rfl, if_neg (fun h => h1 h.1)]
end Go.Proofs.Ytnpghcikhpglkaa.Pb
namespace Go.Proofs.Ytnpghcikhpglkaa.Pb
open Go.RowKit Go.Proofs.YtnpghcikhpglkaaW.PrintWords Go.Proofs.YtnpghcikhpglkaaW.PrintLast Go.Proofs.YtnpghcikhpglkaaW.PrintMore Go.Proofs.Ytnpghcikhpglkaa.Hand Go.Proofs.Ytnpghcikhpglkaa.Pu Go.Proofs.Ytnpghcikhpglkaa.Q
set_option linter.unusedVariables false
set_option linter.unusedSimpArgs false

theorem unaryL_bits (n : Int) : IsBits (unaryL n) := by unfold unaryL; exact IsBits.append (putL_bits _ _) (putL_bits _ _)
theorem gammaL_bits (n : Int) : IsBits (gammaL n) := by unfold gammaL; exact IsBits.append (putL_bits _ _) (putL_bits _ _)
theorem deltaL_bits (n : Int) : IsBits (deltaL n) := by unfold deltaL; exact IsBits.append (gammaL_bits _) (putL_bits _ _)
theorem zetaL_bits (kk n : Int) : IsBits (zetaL kk n) := by
  unfold zetaL
  split
  · refine IsBits.append (unaryL_bits _) ?_
    split <;> exact putL_bits _ _
  · exact IsBits.nil
theorem layL_bits (kind n : Int) : IsBits (layL kind n) := by
  unfold layL
  split
  · exact unaryL_bits n
  split
  · exact gammaL_bits n
  split
  · exact deltaL_bits n
  split <;> exact zetaL_bits _ _
theorem lg_mono (a b : Int) (h1 : 1 ≤ a) (h : a ≤ b) (h2 : b ≤ 1073741824) : lg a ≤ lg b := by
  obtain ⟨_, a0, _, a2, a3⟩ := lg_facts a h1 (by omega)
  obtain ⟨_, b0, _, b2, b3⟩ := lg_facts b (by omega) h2
  refine Int.not_lt.1 fun hc => ?_
  have hle : (lg b).toNat + 1 ≤ (lg a).toNat := by omega
  have hp := Nat.pow_le_pow_right (n := 2) (by decide) hle
  have hp' : ((2 ^ ((lg b).toNat + 1) : Nat) : Int) ≤ ((2 ^ (lg a).toNat : Nat) : Int) := by exact_mod_cast hp
  rw [Int.natCast_pow, Int.natCast_pow] at hp'
  have e2 : ((2 : Nat) : Int) = 2 := rfl
  rw [e2] at hp'
  omega
theorem gammaL_mono (a b : Int) (h1 : 1 ≤ a) (h : a ≤ b) (h2 : b ≤ 1073741824) : (gammaL a).length ≤ (gammaL b).length := by
  have := lg_mono a b h1 h h2
  rw [gammaL_length, gammaL_length]; omega
theorem deltaL_mono (a b : Int) (h1 : 1 ≤ a) (h : a ≤ b) (h2 : b ≤ 1073741824) : (deltaL a).length ≤ (deltaL b).length := by
  have := lg_mono a b h1 h h2
  obtain ⟨_, a0, a1, _⟩ := lg_facts a h1 (by omega)
  obtain ⟨_, b0, b1, _⟩ := lg_facts b (by omega) h2
  have := gammaL_mono (lg a + 1) (lg b + 1) (by omega) (by omega) (by omega)
  unfold deltaL
  simp only [List.length_append, putL_length]; omega
/-- A zeta code's parts. -/
def zetaIs (kk h : Nat) : Bool := code_zeta.f (kk : Int) (h : Int) == some (((2 ^ (h * kk) : Nat) : Int), ((2 ^ (h * kk + kk) : Nat) : Int) - ((2 ^ (h * kk) : Nat) : Int), ((h * kk + kk : Nat) : Int), ((2 ^ (h * kk) : Nat) : Int))
theorem zetaIs2 : ∀ h : Fin 16, zetaIs 2 h.val = true := by decide +kernel
theorem zetaIs3 : ∀ h : Fin 11, zetaIs 3 h.val = true := by decide +kernel
theorem zeta_is (kk h : Nat) (ho : zetaIs kk h = true) : code_zeta.f (kk : Int) (h : Int) = some ((2 : Int) ^ (h * kk), (2 : Int) ^ (h * kk + kk) - 2 ^ (h * kk), ((h * kk + kk : Nat) : Int), (2 : Int) ^ (h * kk)) := by
  have := eq_of_beq ho
  rw [this, Int.natCast_pow, Int.natCast_pow]
  rfl
theorem zetaL_parts (kk h : Nat) (n : Int) (hk : 1 ≤ kk) (hh : Int.tdiv (lg n) (kk : Int) = (h : Int)) (hz : zetaIs kk h = true) :
    zetaL (kk : Int) n = unaryL ((h : Int) + 1) ++ (if n - 2 ^ (h * kk) < 2 ^ (h * kk) then putL (h * kk + kk - 1) (n - 2 ^ (h * kk)) else putL (h * kk + kk) (n - 2 ^ (h * kk) + 2 ^ (h * kk))) := by
  have hze := zeta_is kk h hz
  have ek : ((h * kk + kk : Nat) : Int) - 1 = ((h * kk + kk - 1 : Nat) : Int) := by omega
  unfold zetaL
  rw [hh, hze]
  simp only
  rw [ek, Int.toNat_natCast, Int.toNat_natCast]
theorem zetaL_mono (kk : Nat) (top : Nat) (hk : 1 ≤ kk) (hz : ∀ h : Fin top, zetaIs kk h.val = true) (a b : Int) (h1 : 1 ≤ a) (h : a ≤ b) (h2 : b ≤ 1073741824) (ht : Int.tdiv (lg b) (kk : Int) < (top : Int)) : (zetaL (kk : Int) a).length ≤ (zetaL (kk : Int) b).length := by
  have hm := lg_mono a b h1 h h2
  obtain ⟨_, a0, a1, _⟩ := lg_facts a h1 (by omega)
  obtain ⟨_, b0, b1, _⟩ := lg_facts b (by omega) h2
  have hd : Int.tdiv (lg a) (kk : Int) ≤ Int.tdiv (lg b) (kk : Int) := by
    rw [Int.tdiv_eq_ediv_of_nonneg a0, Int.tdiv_eq_ediv_of_nonneg b0]
    exact Int.ediv_le_ediv (by omega) hm
  have hd0 : 0 ≤ Int.tdiv (lg a) (kk : Int) := Int.tdiv_nonneg a0 (by omega)
  obtain ⟨x, hx⟩ := Int.eq_ofNat_of_zero_le hd0
  obtain ⟨y, hy⟩ := Int.eq_ofNat_of_zero_le (Int.le_trans hd0 hd)
  have hxy : x ≤ y := by omega
  rw [zetaL_parts kk x a hk hx (hz ⟨x, by omega⟩), zetaL_parts kk y b hk hy (hz ⟨y, by omega⟩), List.length_append, List.length_append, unaryL_length _ (by omega), unaryL_length _ (by omega)]
  have hmul := Nat.mul_le_mul_right kk hxy
  by_cases he : x = y
  · subst he
    generalize (2 : Int) ^ (x * kk) = P
    split <;> split <;> simp only [putL_length] <;> omega
  · generalize (2 : Int) ^ (x * kk) = P
    generalize (2 : Int) ^ (y * kk) = P2
    split <;> split <;> simp only [putL_length] <;> omega
theorem layL_mono (kind a b : Int) (hk1 : 1 ≤ kind) (hk5 : kind ≤ 5) (h1 : 1 ≤ a) (h : a ≤ b) (h2 : b ≤ 1073741824) : (layL kind a).length ≤ (layL kind b).length := by
  obtain ⟨_, b0, b1, _⟩ := lg_facts b (by omega) h2
  have hkk : kind = 1 ∨ kind = 2 ∨ kind = 3 ∨ kind = 4 ∨ kind = 5 := by omega
  unfold layL
  rcases hkk with rfl | rfl | rfl | rfl | rfl
  · rw [if_pos rfl, if_pos rfl, unaryL_length _ h1, unaryL_length _ (by omega)]; omega
  · rw [if_neg (by decide), if_pos rfl, if_neg (by decide), if_pos rfl]; exact gammaL_mono a b h1 h h2
  · rw [if_neg (by decide), if_neg (by decide), if_pos rfl, if_neg (by decide), if_neg (by decide), if_pos rfl]; exact deltaL_mono a b h1 h h2
  · rw [if_neg (by decide), if_neg (by decide), if_neg (by decide), if_pos rfl, if_neg (by decide), if_neg (by decide), if_neg (by decide), if_pos rfl]
    exact zetaL_mono 2 16 (by omega) zetaIs2 a b h1 h h2 (by rw [Int.tdiv_eq_ediv_of_nonneg b0]; omega)
  · rw [if_neg (by decide), if_neg (by decide), if_neg (by decide), if_neg (by decide), if_neg (by decide), if_neg (by decide), if_neg (by decide), if_neg (by decide)]
    exact zetaL_mono 3 11 (by omega) zetaIs3 a b h1 h h2 (by rw [Int.tdiv_eq_ediv_of_nonneg b0]; omega)
/-- How long a code can be. -/
def lenOk (kind : Nat) : Bool := Nat.ble (layL (kind : Int) 1073741824).length 70
theorem len_all : ∀ k : Fin 4, lenOk (k.val + 2) = true := by decide +kernel
theorem layL_short (kind n : Int) (hk1 : 2 ≤ kind) (hk5 : kind ≤ 5) (h1 : 1 ≤ n) (h2 : n ≤ 1073741824) : (layL kind n).length ≤ 70 := by
  have hm := layL_mono kind n 1073741824 (by omega) hk5 h1 h2 (by omega)
  obtain ⟨k, hk⟩ := Int.eq_ofNat_of_zero_le (show 0 ≤ kind - 2 by omega)
  have ha := len_all ⟨k, by omega⟩
  unfold lenOk at ha
  simp only [Nat.ble_eq] at ha
  rw [show ((k + 2 : Nat) : Int) = kind by omega] at ha
  omega
theorem layL_len (kind n : Int) (hk1 : 1 ≤ kind) (hk5 : kind ≤ 5) (h1 : 1 ≤ n) (h2 : n ≤ 1073741824) (h3 : kind = 1 → n ≤ 1000) : (layL kind n).length ≤ 1000 := by
  by_cases hk : kind = 1
  · subst hk
    have := h3 rfl
    unfold layL
    rw [if_pos rfl, unaryL_length _ h1]; omega
  · have := layL_short kind n (by omega) hk5 h1 h2; omega
theorem read_good (kind : Int) (l : List Int) (a c : Nat) (n : Int) (hr : ReadL kind (l.drop a) = some (n, c)) (hn : n ≤ 1073741824) : readR kind l a = (n, ((a + c : Nat) : Int), true) := by
  unfold readR
  rw [hr]
  simp only
  rw [if_neg (by omega)]
theorem take_good (kind : Int) (l : List Int) (a c : Nat) (n : Int) (hk1 : 1 ≤ kind) (hk5 : kind ≤ 5) (ha : a ≤ l.length) (hr : ReadL kind (l.drop a) = some (n, c)) (hn : n ≤ 1073741824) : takeR kind l (a : Int) = (n, ((a + c : Nat) : Int), 0) := by
  unfold takeR
  rw [if_pos ⟨⟨hk1, hk5⟩, by omega, by omega⟩, Int.toNat_natCast, read_good kind l a c n hr hn]
  rfl
theorem take_bad (kind : Int) (l : List Int) (a : Nat) (hk1 : 1 ≤ kind) (hk5 : kind ≤ 5) (ha : a ≤ l.length) (hr : ReadL kind (l.drop a) = none) : takeR kind l (a : Int) = (0, 0, 9) := by
  have e : readR kind l a = (0, 0, false) := by unfold readR; rw [hr]
  unfold takeR
  rw [if_pos ⟨⟨hk1, hk5⟩, by omega, by omega⟩, Int.toNat_natCast, e]
  rfl
end Go.Proofs.Ytnpghcikhpglkaa.Pb
namespace Go.Proofs.Ytnpghcikhpglkaa.Pb
open Go.RowKit Go.Proofs.YtnpghcikhpglkaaW.PrintWords Go.Proofs.YtnpghcikhpglkaaW.PrintLast Go.Proofs.YtnpghcikhpglkaaW.PrintMore Go.Proofs.Ytnpghcikhpglkaa.Hand Go.Proofs.Ytnpghcikhpglkaa.Pu Go.Proofs.Ytnpghcikhpglkaa.Q
set_option linter.unusedVariables false
set_option linter.unusedSimpArgs false

theorem pow_le60 (w : Nat) (hw : w ≤ 60) : (0 : Int) < 2 ^ w ∧ (2 : Int) ^ w ≤ 1152921504606846976 := by
  refine ⟨Int.pow_pos (by decide), ?_⟩
  have := Nat.pow_le_pow_right (n := 2) (by decide) hw
  have h2 : ((2 ^ w : Nat) : Int) ≤ ((2 ^ 60 : Nat) : Int) := by exact_mod_cast this
  rw [Int.natCast_pow] at h2
  have e : ((2 ^ 60 : Nat) : Int) = 1152921504606846976 := by decide
  rw [e] at h2
  exact h2
theorem pows (kk h : Nat) (hkk : kk = 2 ∨ kk = 3) (hh : h ≤ 15) : h * kk ≤ 45 ∧ (0 : Int) < 2 ^ (h * kk) ∧ (2 : Int) ^ (h * kk) ≤ 1152921504606846976 ∧ (2 : Int) ^ (h * kk + kk) ≤ 1152921504606846976 ∧ (2 : Int) ^ (h * kk + kk) = 2 * 2 ^ (h * kk + kk - 1) ∧ 2 * (2 : Int) ^ (h * kk) ≤ 2 ^ (h * kk + kk - 1) := by
  have e0 : h * kk ≤ 45 := by rcases hkk with rfl | rfl <;> omega
  have a := pow_le60 (h * kk) (by omega)
  have b := pow_le60 (h * kk + kk) (by omega)
  refine ⟨e0, a.1, a.2, b.2, ?_, ?_⟩
  · have : h * kk + kk = (h * kk + kk - 1) + 1 := by omega
    conv => lhs; rw [this]
    rw [Int.pow_succ, Int.mul_comm]
  · rcases hkk with rfl | rfl
    · have : h * 2 + 2 - 1 = h * 2 + 1 := by omega
      rw [this, Int.pow_succ]; omega
    · have : h * 3 + 3 - 1 = h * 3 + 1 + 1 := by omega
      have hp : (0 : Int) < 2 ^ (h * 3) := Int.pow_pos (by decide)
      rw [this, Int.pow_succ, Int.pow_succ]; omega
theorem zetaR_eq (kk z : Nat) (most : Int) (r : List Int) (hk : 1 ≤ kk) (hz : zerosL r = (z : Int)) (hm : (z : Int) ≤ most - 1) (his : zetaIs kk z = true) (s : Nat) (hs : z * kk + kk = s + 1) (P : Int) (hP : (2 : Int) ^ (z * kk) = P) :
    zetaR (kk : Int) most r = if z + 1 + s ≤ r.length then
      (if numL ((r.drop (z + 1)).take s) < P then some (P + numL ((r.drop (z + 1)).take s), z + 1 + s)
      else if z + 1 + s + 1 ≤ r.length then some (P + (numL ((r.drop (z + 1)).take s) * 2 + numL ((r.drop (z + 1 + s)).take 1) - P), z + 1 + s + 1) else none)
    else none := by
  have hze := zeta_is kk z his
  have hu : unaryR most r = some ((z : Int) + 1, z + 1) := by
    unfold unaryR
    rw [hz, if_pos ⟨by omega, hm⟩, Int.toNat_natCast]
  unfold zetaR
  rw [hu, Option.bind_some]
  simp only
  rw [show (z : Int) + 1 - 1 = (z : Int) by omega, hze, Option.bind_some]
  simp only
  rw [hP, hs, show (((s + 1 : Nat) : Int) - 1).toNat = s by omega]
end Go.Proofs.Ytnpghcikhpglkaa.Pb
namespace Go.Proofs.Ytnpghcikhpglkaa.Pb
open Go.RowKit Go.Proofs.YtnpghcikhpglkaaW.PrintWords Go.Proofs.YtnpghcikhpglkaaW.PrintLast Go.Proofs.YtnpghcikhpglkaaW.PrintMore Go.Proofs.Ytnpghcikhpglkaa.Hand Go.Proofs.Ytnpghcikhpglkaa.Pu Go.Proofs.Ytnpghcikhpglkaa.Q
set_option linter.unusedVariables false
set_option linter.unusedSimpArgs false

theorem zerosL_reps (t : Nat) : zerosL (List.replicate t 0) = -1 := zerosL_none _ (fun x hx => (List.mem_replicate.1 hx).2)
theorem take_reps (g t : Nat) (r : List Int) (h : t ≤ g) : (List.replicate g 0 ++ r).take t = List.replicate t (0 : Int) := by
  rw [List.take_append_of_le_length (by simp; omega), List.take_replicate, Nat.min_eq_left h]
theorem unary_cut (most n : Int) (h1 : 1 ≤ n) (t : Nat) (ht : t < (unaryL n).length) : unaryR most ((unaryL n).take t) = none := by
  obtain ⟨m, hm⟩ := Int.eq_ofNat_of_zero_le (show 0 ≤ n - 1 by omega)
  rw [unaryL_length n h1] at ht
  rw [unaryL_eq, hm, Int.toNat_natCast, take_reps m t _ (by omega)]
  unfold unaryR
  rw [zerosL_reps, if_neg (by omega)]
theorem gammaL_shape (n : Int) (h1 : 1 ≤ n) (h2 : n ≤ 1073741824) : ∃ g : Nat, lg n = (g : Int) ∧ g ≤ 30 ∧ gammaL n = List.replicate g 0 ++ 1 :: putL g n ∧ (gammaL n).length = 2 * g + 1 := by
  obtain ⟨_, g0, g1, g2, g3⟩ := lg_facts n h1 h2
  have hlen := gammaL_length n
  obtain ⟨g, hg⟩ := Int.eq_ofNat_of_zero_le g0
  rw [hg, Int.toNat_natCast] at g2 g3
  rw [hg, Int.toNat_natCast, show ((g : Int) + 1).toNat = g + 1 by omega] at hlen
  have hp : (0 : Int) < 2 ^ g := Int.pow_pos (by decide)
  have hs : (2 : Int) ^ (g + 1) = 2 ^ g * 2 := Int.pow_succ 2 g
  have hd : n / 2 ^ g = 1 := by
    rw [Int.ediv_eq_iff_of_pos hp]
    omega
  have e1 : putL (g + 1) n = 1 :: putL g n := by rw [putL, hd]; rfl
  refine ⟨g, hg, by omega, ?_, by omega⟩
  unfold gammaL
  rw [hg, putL_zero, Int.toNat_natCast, show ((g : Int) + 1).toNat = g + 1 by omega, e1]
theorem gamma_cut (n : Int) (h1 : 1 ≤ n) (h2 : n ≤ 1073741824) (t : Nat) (ht : t < (gammaL n).length) : gammaR ((gammaL n).take t) = none := by
  obtain ⟨g, hg, g30, e, el⟩ := gammaL_shape n h1 h2
  rw [el] at ht
  rw [e]
  unfold gammaR
  by_cases h : t ≤ g
  · rw [take_reps g t _ h, zerosL_reps, if_neg (by omega)]
  · have e2 : (List.replicate g 0 ++ 1 :: putL g n).take t = List.replicate g (0 : Int) ++ 1 :: (putL g n).take (t - g - 1) := by
      rw [List.take_append, List.length_replicate, List.take_of_length_le (by simp; omega), show t - g = (t - g - 1) + 1 by omega, List.take_succ_cons, Nat.add_sub_cancel]
    rw [e2, zerosL_rep, Int.toNat_natCast, if_neg]
    intro h3
    have h4 := h3.2.2
    simp only [List.length_append, List.length_replicate, List.length_cons, List.length_take, putL_length] at h4
    omega
theorem delta_cut (n : Int) (h1 : 1 ≤ n) (h2 : n ≤ 1073741824) (t : Nat) (ht : t < (deltaL n).length) : deltaR ((deltaL n).take t) = none := by
  obtain ⟨_, g0, g1, g2, g3⟩ := lg_facts n h1 h2
  obtain ⟨g, hg⟩ := Int.eq_ofNat_of_zero_le g0
  have e : deltaL n = gammaL ((g : Int) + 1) ++ putL g n := by unfold deltaL; rw [hg, Int.toNat_natCast]
  rw [e, List.length_append, putL_length] at ht
  rw [e]
  unfold deltaR
  by_cases h : t < (gammaL ((g : Int) + 1)).length
  · rw [List.take_append_of_le_length (by omega), gamma_cut _ (by omega) (by omega) t h]; rfl
  · rw [List.take_append, List.take_of_length_le (l := gammaL ((g : Int) + 1)) (by omega), gamma_read ((g : Int) + 1) (by omega) (by omega), Option.bind_some]
    simp only
    rw [show (g : Int) + 1 - 1 = (g : Int) by omega, Int.toNat_natCast, if_neg]
    intro h3
    have h4 := h3.2
    simp only [List.length_append, List.length_take, putL_length] at h4
    omega
theorem zeta_cut (kk h : Nat) (most n : Int) (hkk : kk = 2 ∨ kk = 3) (h1 : 1 ≤ n) (h2 : n ≤ 1073741824) (hh : Int.tdiv (lg n) (kk : Int) = (h : Int)) (hmost : (h : Int) ≤ most - 1) (h15 : h ≤ 15) (his : zetaIs kk h = true) (hlo : (2 : Int) ^ (h * kk) ≤ n) (hhi : n < (2 : Int) ^ (h * kk + kk)) (t : Nat) (ht : t < (zetaL (kk : Int) n).length) :
    zetaR (kk : Int) most ((zetaL (kk : Int) n).take t) = none := by
  obtain ⟨p0, p1, p2, p3, p4, p5⟩ := pows kk h hkk h15
  have hz := zetaL_parts kk h n (by omega) hh his
  have hul := unaryL_length ((h : Int) + 1) (by omega)
  obtain ⟨s, hs⟩ : ∃ s, h * kk + kk = s + 1 := ⟨h * kk + kk - 1, by omega⟩
  rw [hs, Nat.add_sub_cancel] at hz p4 p5
  rw [hs] at hhi p3
  generalize hP : (2 : Int) ^ (h * kk) = P at *
  rw [hz]
  rw [hz] at ht
  by_cases hc : t < h + 1
  · rw [List.take_append_of_le_length (by omega)]
    unfold zetaR
    rw [unary_cut most _ (by omega) t (by omega)]; rfl
  · rw [List.take_append, List.take_of_length_le (l := unaryL ((h : Int) + 1)) (by omega)]
    have hzz : ∀ X : List Int, zerosL (unaryL ((h : Int) + 1) ++ X) = (h : Int) := by
      intro X
      rw [unaryL_eq, List.append_assoc, List.singleton_append, zerosL_rep]; omega
    rw [zetaR_eq kk h most _ (by omega) (hzz _) hmost his s hs P hP]
    have hul2 : (unaryL ((h : Int) + 1)).length = h + 1 := by omega
    have hd : ∀ X : List Int, (unaryL ((h : Int) + 1) ++ X).drop (h + 1) = X := by
      intro X; rw [← hul2, List.drop_left]
    rw [hd, hul2, List.length_append, hul2]
    rw [List.length_append, hul2] at ht
    by_cases hx : n - P < P
    · rw [if_pos hx] at ht ⊢
      rw [putL_length] at ht
      rw [if_neg (by rw [List.length_take, putL_length]; omega)]
    · rw [if_neg hx] at ht ⊢
      rw [putL_length] at ht
      by_cases h3 : t < h + 1 + s
      · rw [if_neg (by rw [List.length_take, putL_length]; omega)]
      · obtain rfl : t = h + 1 + s := by omega
        have hv : (putL (s + 1) (n - P + P)).take (h + 1 + s - (h + 1)) = putL s ((n - P + P) / 2) := by
          rw [putL_last, show h + 1 + s - (h + 1) = s by omega, List.take_append_of_le_length (by rw [putL_length]; omega), List.take_of_length_le (by rw [putL_length]; omega)]
        rw [hv, List.take_of_length_le (by rw [putL_length]; omega), putL_length, if_pos (by omega), numL_putL_lt s _ (by omega) (by omega), if_neg (by omega), if_neg (by omega)]
theorem lay_cut (kind n : Int) (hk1 : 1 ≤ kind) (hk5 : kind ≤ 5) (h1 : 1 ≤ n) (h2 : n ≤ 1073741824) (t : Nat) (ht : t < (layL kind n).length) : ReadL kind ((layL kind n).take t) = none := by
  obtain ⟨_, g0, g1, _, _⟩ := lg_facts n h1 h2
  have hkk : kind = 1 ∨ kind = 2 ∨ kind = 3 ∨ kind = 4 ∨ kind = 5 := by omega
  unfold layL at ht ⊢
  unfold ReadL
  rcases hkk with rfl | rfl | rfl | rfl | rfl
  · rw [if_pos rfl] at ht ⊢; rw [if_pos rfl]; exact unary_cut 1000 n h1 t ht
  · rw [if_neg (by decide), if_pos rfl] at ht ⊢; rw [if_neg (by decide), if_pos rfl]; exact gamma_cut n h1 h2 t ht
  · rw [if_neg (by decide), if_neg (by decide), if_pos rfl] at ht ⊢; rw [if_neg (by decide), if_neg (by decide), if_pos rfl]; exact delta_cut n h1 h2 t ht
  · rw [if_neg (by decide), if_neg (by decide), if_neg (by decide), if_pos rfl] at ht ⊢
    rw [if_neg (by decide), if_neg (by decide), if_neg (by decide), if_pos rfl]
    obtain ⟨h, hh⟩ := Int.eq_ofNat_of_zero_le (show 0 ≤ lg n / 2 by omega)
    have hlo := low_le (kk := 2) h1 h2 hh.symm (by omega)
    have hhi := lg_high (kk := 2) h1 h2 hh.symm (by omega)
    rw [Int.natCast_pow] at hlo hhi
    exact zeta_cut 2 h 16 n (.inl rfl) h1 h2 (by rw [Int.tdiv_eq_ediv_of_nonneg g0]; exact hh) (by omega) (by omega) (zetaIs2 ⟨h, by omega⟩) hlo hhi t ht
  · rw [if_neg (by decide), if_neg (by decide), if_neg (by decide), if_neg (by decide)] at ht ⊢
    rw [if_neg (by decide), if_neg (by decide), if_neg (by decide), if_neg (by decide)]
    obtain ⟨h, hh⟩ := Int.eq_ofNat_of_zero_le (show 0 ≤ lg n / 3 by omega)
    have hlo := low_le (kk := 3) h1 h2 hh.symm (by omega)
    have hhi := lg_high (kk := 3) h1 h2 hh.symm (by omega)
    rw [Int.natCast_pow] at hlo hhi
    exact zeta_cut 3 h 11 n (.inr rfl) h1 h2 (by rw [Int.tdiv_eq_ediv_of_nonneg g0]; exact hh) (by omega) (by omega) (zetaIs3 ⟨h, by omega⟩) hlo hhi t ht
end Go.Proofs.Ytnpghcikhpglkaa.Pb
namespace Go.Proofs.Ytnpghcikhpglkaa.Q
open Go.RowKit Go.Proofs.YtnpghcikhpglkaaW.PrintWords Go.Proofs.YtnpghcikhpglkaaW.PrintLast Go.Proofs.YtnpghcikhpglkaaW.PrintMore Go.Proofs.Ytnpghcikhpglkaa.Hand Go.Proofs.Ytnpghcikhpglkaa.Pu
set_option linter.unusedVariables false
set_option linter.unusedSimpArgs false

theorem refbit_some (s : ByteArray) (n i : Int) (h0 : 0 ≤ i) (h1 : i < 8 * s.size) (h2 : i < 1073741824) : herbariumref1_bit.f s n i = some (bitOf s i) := by
  unfold herbariumref1_bit.f
  have e1 : wrap64 (Int.tdiv i 8) = i / 8 := by rw [tdiv8 i h0, wrap_in _ (by omega) (by omega)]
  have e2 : wrap64 (7 - Int.tmod i 8) = 7 - i % 8 := by rw [tmod8 i h0, wrap_in _ (by omega) (by omega)]
  rw [e1, e2, if_pos (by omega), if_pos (by omega), if_pos (by omega)]
  congr 1
  obtain ⟨b0, b1⟩ := bt_range s (i / 8)
  rw [wrap_in (bt s (i / 8)) (by omega) (by omega)]
  have hsh : shr .i64 (bt s (i / 8)) (7 - i % 8) = bt s (i / 8) / 2 ^ (7 - i % 8).toNat := by
    unfold shr
    rw [Nat.min_eq_left (by simp [IntKind.bits]; omega)]
  have hn := div_pow_nonneg (bt s (i / 8)) (7 - i % 8).toNat b0
  have hl := div_pow_le (bt s (i / 8)) (7 - i % 8).toNat b0
  rw [hsh, and_one _ hn (by omega)]
  rfl
def Tail0 (s : ByteArray) (n : Int) : Prop := ∀ i : Nat, n ≤ (i : Int) → (i : Int) < 8 * s.size → bitOf s (i : Int) = 0
theorem tail_l0 (s : ByteArray) (n : Int) (hs : s.size ≤ 1000) : ∀ (d i k : Nat), i + d = 8 * s.size → d + 1 ≤ k → ∃ r, herbariumref1_Bits.l0 k (i : Int) s n = some r ∧ (r = true ↔ Tail0 s (i : Int)) := by
  intro d
  induction d with
  | zero =>
    intro i k h hk
    obtain ⟨k, rfl⟩ : ∃ k', k = k' + 1 := ⟨k - 1, by omega⟩
    rw [herbariumref1_Bits.l0, wrap_in _ (by omega) (by omega), if_neg (by omega)]
    exact ⟨true, rfl, by simp only [true_iff]; intro j h1 h2; omega⟩
  | succ d ih =>
    intro i k h hk
    obtain ⟨k, rfl⟩ : ∃ k', k = k' + 1 := ⟨k - 1, by omega⟩
    rw [herbariumref1_Bits.l0, wrap_in (8 * (s.size : Int)) (by omega) (by omega), if_pos (by omega), refbit_some s n i (by omega) (by omega) (by omega), Option.bind_some, wrap_in _ (by omega) (by omega)]
    by_cases hb : bitOf s (i : Int) = 0
    · rw [if_pos hb]
      obtain ⟨r, h1, h2⟩ := ih (i + 1) k (by omega) (by omega)
      refine ⟨r, h1, h2.trans ⟨fun h j h3 h4 => ?_, fun h j h3 h4 => h j (by omega) h4⟩⟩
      by_cases hj : j = i
      · rw [hj]; exact hb
      · exact h j (by omega) h4
    · rw [if_neg hb]
      exact ⟨false, rfl, by simp only [Bool.false_eq_true, false_iff]; intro h; exact hb (h i (by omega) (by omega))⟩
theorem low_bits (b : Int) (r : Nat) (h0 : 1 ≤ r) (h1 : r ≤ 7) : b % 2 ^ (8 - r) = 0 ↔ ∀ j : Nat, r ≤ j → j < 8 → b / 2 ^ (7 - j) % 2 = 0 := by
  have hr : r = 1 ∨ r = 2 ∨ r = 3 ∨ r = 4 ∨ r = 5 ∨ r = 6 ∨ r = 7 := by omega
  constructor
  · intro h j h2 h3
    have hj : j = 1 ∨ j = 2 ∨ j = 3 ∨ j = 4 ∨ j = 5 ∨ j = 6 ∨ j = 7 := by omega
    rcases hr with rfl | rfl | rfl | rfl | rfl | rfl | rfl <;> rcases hj with rfl | rfl | rfl | rfl | rfl | rfl | rfl <;> first | (exfalso; omega) | (simp only [Nat.reduceSub, Int.reducePow] at h ⊢; omega)
  · intro h
    have h7 := h 7 (by omega) (by omega)
    have g : ∀ j : Nat, r ≤ j → j < 8 → b / 2 ^ (7 - j) % 2 = 0 := h
    rcases hr with rfl | rfl | rfl | rfl | rfl | rfl | rfl
    · have a1 := g 1 (by omega) (by omega); have a2 := g 2 (by omega) (by omega); have a3 := g 3 (by omega) (by omega); have a4 := g 4 (by omega) (by omega); have a5 := g 5 (by omega) (by omega); have a6 := g 6 (by omega) (by omega)
      clear g h; simp only [Nat.reduceSub, Int.reducePow] at *; omega
    · have a2 := g 2 (by omega) (by omega); have a3 := g 3 (by omega) (by omega); have a4 := g 4 (by omega) (by omega); have a5 := g 5 (by omega) (by omega); have a6 := g 6 (by omega) (by omega)
      clear g h; simp only [Nat.reduceSub, Int.reducePow] at *; omega
    · have a3 := g 3 (by omega) (by omega); have a4 := g 4 (by omega) (by omega); have a5 := g 5 (by omega) (by omega); have a6 := g 6 (by omega) (by omega)
      clear g h; simp only [Nat.reduceSub, Int.reducePow] at *; omega
    · have a4 := g 4 (by omega) (by omega); have a5 := g 5 (by omega) (by omega); have a6 := g 6 (by omega) (by omega)
      clear g h; simp only [Nat.reduceSub, Int.reducePow] at *; omega
    · have a5 := g 5 (by omega) (by omega); have a6 := g 6 (by omega) (by omega)
      clear g h; simp only [Nat.reduceSub, Int.reducePow] at *; omega
    · have a6 := g 6 (by omega) (by omega)
      clear g h; simp only [Nat.reduceSub, Int.reducePow] at *; omega
    · clear g h; simp only [Nat.reduceSub, Int.reducePow] at *; omega
theorem tail_iff (s : ByteArray) (n : Int) (h0 : 0 ≤ n) (h1 : n ≤ 6000) (h2 : (s.size : Int) = (n + 7) / 8) : Tail0 s n ↔ (n % 8 = 0 ∨ bt s ((s.size : Int) - 1) % 2 ^ (8 - n % 8).toNat = 0) := by
  by_cases h3 : n % 8 = 0
  · exact ⟨fun _ => .inl h3, fun _ i h4 h5 => by omega⟩
  · obtain ⟨m, rfl⟩ := Int.eq_ofNat_of_zero_le h0
    have hs : ((s.size : Int) - 1) = ((m / 8 : Nat) : Int) := by omega
    have hr : (8 - (m : Int) % 8).toNat = 8 - m % 8 := by omega
    rw [hs, hr, or_iff_right h3, low_bits _ (m % 8) (by omega) (by omega)]
    constructor
    · intro h j h4 h5
      have := h (8 * (m / 8) + j) (by omega) (by omega)
      rwa [bitOf_at s (m / 8) j h5] at this
    · intro h i h4 h5
      have e := bitOf_at s (m / 8) (i % 8) (by omega)
      rw [show 8 * (m / 8) + i % 8 = i by omega] at e
      rw [e]
      exact h (i % 8) (by omega) (by omega)
theorem refBits_eq (s : ByteArray) (n : Int) (k : Nat) (hk : 8100 ≤ k) : herbariumref1_Bits.f k s n = some (decide (MayP s n)) := by
  obtain ⟨k, rfl⟩ : ∃ k', k = k' + 1 := ⟨k - 1, by omega⟩
  unfold herbariumref1_Bits.f herbariumref0_Num.f
  by_cases h0 : n ≥ 0
  · rw [if_pos h0, Option.bind_some]
    by_cases h1 : n ≤ 6000
    · have hw : wrap64 (Int.tdiv (wrap64 (n + 7)) 8) = (n + 7) / 8 := by
        rw [wrap_in (n + 7) (by omega) (by omega), tdiv8 _ (by omega), wrap_in _ (by omega) (by omega)]
      rw [decide_eq_true h1, if_pos rfl, hw]
      by_cases h2 : (s.size : Int) = (n + 7) / 8
      · rw [show ((s.size : Int) != (n + 7) / 8) = false by simp [h2], herbariumref1_Bits.j0, if_neg (by decide)]
        obtain ⟨m, rfl⟩ := Int.eq_ofNat_of_zero_le h0
        obtain ⟨r, e1, e2⟩ := tail_l0 s (m : Int) (by omega) (8 * s.size - m) m k (by omega) (by omega)
        rw [e1]
        congr 1
        rw [tail_iff s (m : Int) h0 h1 h2] at e2
        rw [Bool.eq_iff_iff, decide_eq_true_iff, e2]
        exact ⟨fun h => ⟨h0, h1, h2, h⟩, fun h => h.2.2.2⟩
      · rw [show ((s.size : Int) != (n + 7) / 8) = true by simp [h2], herbariumref1_Bits.j0, if_pos rfl, decide_eq_false (fun h => h2 h.2.2.1)]
    · rw [decide_eq_false h1, if_neg (by decide), herbariumref1_Bits.j0, if_pos rfl, decide_eq_false (p := MayP s n) (fun h => h1 h.2.1)]
  · rw [if_neg h0, Option.bind_some, if_neg (by decide), herbariumref1_Bits.j0, if_pos rfl, decide_eq_false (p := MayP s n) (fun h => h0 h.1)]
end Go.Proofs.Ytnpghcikhpglkaa.Q
namespace Go.Proofs.Ytnpghcikhpglkaa.Pure
open Go.RowKit Go.Proofs.YtnpghcikhpglkaaW.PrintWords Go.Proofs.YtnpghcikhpglkaaW.PrintLast Go.Proofs.YtnpghcikhpglkaaW.PrintMore Go.Proofs.Ytnpghcikhpglkaa.Hand Go.Proofs.Ytnpghcikhpglkaa.Q Go.Proofs.Ytnpghcikhpglkaa.Pu Go.Proofs.Ytnpghcikhpglkaa.Pb
set_option linter.unusedVariables false
namespace Cuts
theorem wakes2 : herbariumlaw2_wakes.f 40 = some true := by decide +kernel
theorem put_empty (kind v : Int) : code_Put.f (⟨#[]⟩ : ByteArray) 0 kind v = some (if (1 ≤ kind ∧ kind ≤ 5) ∧ NumP kind v then (if (layL kind v).length ≤ 6000 then (packS (layL kind v), ((layL kind v).length : Int), 0) else (⟨#[]⟩, 0, 2)) else (⟨#[]⟩, 0, 1)) := by
  have e := cput_eq [] IsBits.nil (by simp) kind v
  rw [List.nil_append, List.length_nil, Nat.zero_add] at e
  exact e
theorem lcut_eq (l : List Int) (hl : IsBits l) (hlen : l.length ≤ 6000) (t : Nat) (ht : t ≤ l.length) : herbariumlaw2_cut.f (packS l) (l.length : Int) (t : Int) = some (packS (l.take t), (t : Int)) := by
  unfold herbariumlaw2_cut.f
  rw [if_pos ⟨may_packS l hl hlen, by omega, by omega⟩, ofS_packS l hl, Int.toNat_natCast]
theorem l2_all (kind v : Int) (hk2 : 2 ≤ kind) (hk5 : kind ≤ 5) (h1 : 1 ≤ v) (h2 : v ≤ 1073741824) (ns : List Int) (x5 : Int) (hx5 : 0 ≤ x5 ∧ x5 < 1000) (y0 : List S27) (y1 : List Int) (K : Nat) (hK : 1 ≤ K)
    (hnext : ∀ k, K ≤ k → herbariumlaw2_CodeCuts.l1 k kind ns (x5 + 1) y0 y1 = some true) :
    ∀ (d i : Nat), i + d = (layL kind v).length → ∀ k, K + d + 1 ≤ k → herbariumlaw2_CodeCuts.l2 k kind ns x5 (i : Int) y0 y1 (packS (layL kind v)) ((layL kind v).length : Int) = some true
  | 0, i, hi, k, hk => by
    obtain ⟨k, rfl⟩ : ∃ m, k = m + 1 := ⟨k - 1, by omega⟩
    rw [herbariumlaw2_CodeCuts.l2, if_neg (by omega), put_empty, if_neg (fun h => by have := h.2.2.1; omega), Option.bind_some]
    simp only [herbariumlaw2_num.f, Option.bind_some]
    rw [if_pos trivial, wrap_in (x5 + 1) (by omega) (by omega)]
    exact hnext k (by omega)
  | d + 1, i, hi, k, hk => by
    obtain ⟨k, rfl⟩ : ∃ m, k = m + 1 := ⟨k - 1, by omega⟩
    have hlen := layL_short kind v hk2 hk5 h1 h2
    have hb := layL_bits kind v
    have hti : ((layL kind v).take i).length = i := by rw [List.length_take]; omega
    have hc := lay_cut kind v (by omega) hk5 h1 h2 i (by omega)
    have ht := take_bad kind ((layL kind v).take i) 0 (by omega) hk5 (by omega) (by rw [List.drop_zero]; exact hc)
    have e := ctake_eq ((layL kind v).take i) (IsBits.take' hb i) (by omega) kind 0 k (by omega)
    have ht' : takeR kind ((layL kind v).take i) 0 = (0, 0, 9) := ht
    rw [hti, ht'] at e
    rw [herbariumlaw2_CodeCuts.l2, if_pos (by omega), lcut_eq _ hb (by omega) i (by omega), Option.bind_some]
    simp only
    rw [e, Option.bind_some]
    simp only [herbariumlaw2_num.f, Option.bind_some]
    rw [if_pos trivial, wrap_in ((i : Int) + 1) (by omega) (by omega)]
    exact l2_all kind v hk2 hk5 h1 h2 ns x5 hx5 y0 y1 K hK hnext d (i + 1) (by omega) k (by omega)
theorem l1_one (kind v : Int) (hk2 : 2 ≤ kind) (hk5 : kind ≤ 5) (h1 : 1 ≤ v) (h2 : v ≤ 1073741824) (ns : List Int) (x5 : Int) (hx5 : 0 ≤ x5 ∧ x5 < 1000) (hlt : x5 < (ns.length : Int)) (hv : rd ns x5 = v) (y0 : List S27) (y1 : List Int) (K : Nat) (hK : 1 ≤ K)
    (hnext : ∀ k, K ≤ k → herbariumlaw2_CodeCuts.l1 k kind ns (x5 + 1) y0 y1 = some true) (k : Nat) (hk : K + 9000 ≤ k) : herbariumlaw2_CodeCuts.l1 k kind ns x5 y0 y1 = some true := by
  obtain ⟨k, rfl⟩ : ∃ m, k = m + 1 + 1 := ⟨k - 2, by omega⟩
  have hlen := layL_short kind v hk2 hk5 h1 h2
  have hb := layL_bits kind v
  rw [herbariumlaw2_CodeCuts.l1, if_pos hlt, if_pos hx5.1, hv, put_empty, if_pos ⟨by omega, h1, h2, by omega⟩, if_pos (by omega), Option.bind_some]
  simp only [herbariumlaw2_num.f, Option.bind_some]
  rw [if_pos trivial, refBits_eq _ _ (k + 1) (by omega), decide_eq_true (may_packS _ hb (by omega)), Option.bind_some, herbariumlaw2_CodeCuts.j2, if_neg (by decide)]
  exact l2_all kind v hk2 hk5 h1 h2 ns x5 hx5 y0 y1 K hK hnext (layL kind v).length 0 (by omega) k (by omega)
theorem l1_ev (kind v : Int) (hk2 : 2 ≤ kind) (hk5 : kind ≤ 5) (h1 : 1 ≤ v) (h2 : v ≤ 1073741824) (ns : List Int) (x5 : Int) (hx5 : 0 ≤ x5 ∧ x5 < 1000) (hlt : x5 < (ns.length : Int)) (hv : rd ns x5 = v) (y0 : List S27) (y1 : List Int)
    (hnext : ∃ K, ∀ k, K ≤ k → herbariumlaw2_CodeCuts.l1 k kind ns (x5 + 1) y0 y1 = some true) : ∃ K, ∀ k, K ≤ k → herbariumlaw2_CodeCuts.l1 k kind ns x5 y0 y1 = some true := by
  obtain ⟨K, h⟩ := hnext
  exact ⟨K + 1 + 9000, fun k hk => l1_one kind v hk2 hk5 h1 h2 ns x5 hx5 hlt hv y0 y1 (K + 1) (by omega) (fun k hk => h k (by omega)) k hk⟩
theorem kind_ev (n : Int) (hn : 1 ≤ n ∧ n ≤ 1073741824) (kind : Int) (h2 : 2 ≤ kind) (h5 : kind ≤ 5) (y0 : List S27) (y1 : List Int) (hy : wrap64 (100 + (y1.length : Int)) = n) (hnext : ∃ K, ∀ k, K ≤ k → herbariumlaw2_CodeCuts.l0 k (kind + 1) y0 y1 = some true) :
    ∃ K, ∀ k, K ≤ k → herbariumlaw2_CodeCuts.l0 k kind y0 y1 = some true := by
  obtain ⟨ns, hns⟩ : ∃ ns : List Int, ns = [2, 5, n, 65535, 1073741824] := ⟨_, rfl⟩
  have hl : (ns.length : Int) = 5 := by rw [hns]; rfl
  have r0 : rd ns 0 = 2 := by rw [hns]; rfl
  have r1 : rd ns 1 = 5 := by rw [hns]; rfl
  have r2 : rd ns 2 = n := by rw [hns]; rfl
  have r3 : rd ns 3 = 65535 := by rw [hns]; rfl
  have r4 : rd ns 4 = 1073741824 := by rw [hns]; rfl
  have e5 : ∃ K, ∀ k, K ≤ k → herbariumlaw2_CodeCuts.l1 k kind ns 5 y0 y1 = some true := by
    obtain ⟨K, h⟩ := hnext
    refine ⟨K + 1, fun k hk => ?_⟩
    obtain ⟨k, rfl⟩ : ∃ m, k = m + 1 := ⟨k - 1, by omega⟩
    rw [herbariumlaw2_CodeCuts.l1, if_neg (by omega), wrap_in (kind + 1) (by omega) (by omega)]
    exact h k (by omega)
  have e4 := l1_ev kind _ h2 h5 (by omega) (by omega) ns 4 (by omega) (by omega) r4 y0 y1 e5
  have e3 := l1_ev kind _ h2 h5 (by omega) (by omega) ns 3 (by omega) (by omega) r3 y0 y1 e4
  have e2 := l1_ev kind _ h2 h5 hn.1 hn.2 ns 2 (by omega) (by omega) r2 y0 y1 e3
  have e1 := l1_ev kind _ h2 h5 (by omega) (by omega) ns 1 (by omega) (by omega) r1 y0 y1 e2
  obtain ⟨K, h⟩ := l1_ev kind _ h2 h5 (by omega) (by omega) ns 0 (by omega) (by omega) r0 y0 y1 e1
  refine ⟨K + 1, fun k hk => ?_⟩
  obtain ⟨k, rfl⟩ : ∃ m, k = m + 1 := ⟨k - 1, by omega⟩
  rw [herbariumlaw2_CodeCuts.l0, if_pos h5, hy, ← hns]
  exact h k (by omega)
theorem end_ev (y0 : List S27) (y1 : List Int) : ∃ K, ∀ k, K ≤ k → herbariumlaw2_CodeCuts.l0 k 6 y0 y1 = some true := by
  refine ⟨41, fun k hk => ?_⟩
  obtain ⟨k, rfl⟩ : ∃ m, k = m + 1 := ⟨k - 1, by omega⟩
  rw [herbariumlaw2_CodeCuts.l0, if_neg (by omega), at_rounds herbariumlaw2_wakes.mono (show 40 ≤ k by omega) wakes2]
  rfl
end Cuts
theorem CodeCuts : ∀ (l0 : List S27) (l1 : List Int), Op.GoodB l0 → Op.GoodN l1 → l1.length ≤ 1048576 → ∃ k, Q.herbariumlaw2_CodeCuts.f k l0 l1 = some true := by
  intro l0 l1 _ _ hl
  obtain ⟨n, hn⟩ : ∃ n, n = 100 + (l1.length : Int) := ⟨_, rfl⟩
  have hw : wrap64 (100 + (l1.length : Int)) = n := by rw [hn, wrap_in _ (by omega) (by omega)]
  have hb : 1 ≤ n ∧ n ≤ 1073741824 := by omega
  obtain ⟨K, h⟩ := Cuts.kind_ev n hb 2 (by omega) (by omega) l0 l1 hw (Cuts.kind_ev n hb 3 (by omega) (by omega) l0 l1 hw (Cuts.kind_ev n hb 4 (by omega) (by omega) l0 l1 hw (Cuts.kind_ev n hb 5 (by omega) (by omega) l0 l1 hw (Cuts.end_ev l0 l1))))
  exact ⟨K, h K (Nat.le_refl _)⟩
end Go.Proofs.Ytnpghcikhpglkaa.Pure
