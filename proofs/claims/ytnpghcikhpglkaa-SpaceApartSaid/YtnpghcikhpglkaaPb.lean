/- What the program's functions on bits answer, as laws on lists of bits. -/
import Derived.Test.YtnpghcikhpglkaaHa
import Derived.Test.YtnpghcikhpglkaaQ9
namespace Go.Proofs.Ytnpghcikhpglkaa.Pb
open Go.RowKit Go.Proofs.YtnpghcikhpglkaaW.PrintWords Go.Proofs.YtnpghcikhpglkaaW.PrintLast Go.Proofs.YtnpghcikhpglkaaW.PrintMore Go.Proofs.Ytnpghcikhpglkaa.Hand Go.Proofs.Ytnpghcikhpglkaa.Pu Go.Proofs.Ytnpghcikhpglkaa.Q
set_option linter.unusedVariables false
set_option linter.unusedSimpArgs false

/-! ### a list's text -/
theorem packS_size (l : List Int) : (packS l).size = (l.length + 7) / 8 := by rw [packS, strOfNums_size, packL_length]
theorem bt_strOfNums (xs : List Int) (i : Nat) (hi : i < xs.length) (h : 0 ≤ xs.getD i 0 ∧ xs.getD i 0 < 256) : bt (strOfNums xs) (i : Int) = xs.getD i 0 := by
  have hs : i < (strOfNums xs).size := by rw [strOfNums_size]; exact hi
  rw [← bt_at (strOfNums xs) (i : Int) hs]
  have h2 : i < (strOfNums xs).data.toList.length := hs
  have h3 : (strOfNums xs).data.toList[i]'h2 = UInt8.ofNat (xs[i]'hi).toNat := by simp [strOfNums_data]
  have h4 : (strOfNums xs)[(i : Int).toNat]'hs = UInt8.ofNat (xs[i]'hi).toNat := h3
  rw [h4]
  rw [List.getD_eq_getElem?_getD, List.getElem?_eq_getElem hi] at h ⊢
  simp only [Option.getD_some] at h ⊢
  rw [UInt8.toNat_ofNat']
  omega
theorem bt_packS (l : List Int) (hl : IsBits l) (j : Nat) (hj : j < (l.length + 7) / 8) : bt (packS l) (j : Int) = byteAt l j := by
  have h1 : (packL l).getD j 0 = byteAt l j := by rw [List.getD_eq_getElem?_getD, packL_get l j hj]; rfl
  have := bt_strOfNums (packL l) j (by rw [packL_length]; exact hj) (by rw [h1]; exact byteAt_range hl j)
  rw [packS, this, h1]
theorem b01 {x : Int} (h : x = 0 ∨ x = 1) : 0 ≤ x ∧ x ≤ 1 := by omega
theorem byte8 (x0 x1 x2 x3 x4 x5 x6 x7 : Int) (h0 : 0 ≤ x0 ∧ x0 ≤ 1) (h1 : 0 ≤ x1 ∧ x1 ≤ 1) (h2 : 0 ≤ x2 ∧ x2 ≤ 1) (h3 : 0 ≤ x3 ∧ x3 ≤ 1) (h4 : 0 ≤ x4 ∧ x4 ≤ 1) (h5 : 0 ≤ x5 ∧ x5 ≤ 1) (h6 : 0 ≤ x6 ∧ x6 ≤ 1) (h7 : 0 ≤ x7 ∧ x7 ≤ 1) :
    let b := x0 * 128 + x1 * 64 + x2 * 32 + x3 * 16 + x4 * 8 + x5 * 4 + x6 * 2 + x7
    b / 128 % 2 = x0 ∧ b / 64 % 2 = x1 ∧ b / 32 % 2 = x2 ∧ b / 16 % 2 = x3 ∧ b / 8 % 2 = x4 ∧ b / 4 % 2 = x5 ∧ b / 2 % 2 = x6 ∧ b / 1 % 2 = x7 := by
  refine ⟨?_, ?_, ?_, ?_, ?_, ?_, ?_, ?_⟩ <;> omega
theorem bit_byteAt (l : List Int) (hl : IsBits l) (j i : Nat) (hi : i < 8) : byteAt l j / 2 ^ (7 - i) % 2 = l.getD (8 * j + i) 0 := by
  have h := byte8 _ _ _ _ _ _ _ _ (b01 (hl.getD (8 * j))) (b01 (hl.getD (8 * j + 1))) (b01 (hl.getD (8 * j + 2))) (b01 (hl.getD (8 * j + 3))) (b01 (hl.getD (8 * j + 4))) (b01 (hl.getD (8 * j + 5))) (b01 (hl.getD (8 * j + 6))) (b01 (hl.getD (8 * j + 7)))
  have hi' : i = 0 ∨ i = 1 ∨ i = 2 ∨ i = 3 ∨ i = 4 ∨ i = 5 ∨ i = 6 ∨ i = 7 := by omega
  rcases hi' with rfl | rfl | rfl | rfl | rfl | rfl | rfl | rfl
  · exact h.1
  · exact h.2.1
  · exact h.2.2.1
  · exact h.2.2.2.1
  · exact h.2.2.2.2.1
  · exact h.2.2.2.2.2.1
  · exact h.2.2.2.2.2.2.1
  · exact h.2.2.2.2.2.2.2
theorem bitOf_packS (l : List Int) (hl : IsBits l) (i : Nat) (hi : i < l.length) : bitOf (packS l) (i : Int) = l.getD i 0 := by
  have h := bitOf_at (packS l) (i / 8) (i % 8) (by omega)
  rw [show 8 * (i / 8) + i % 8 = i by omega] at h
  rw [h, bt_packS l hl (i / 8) (by omega), bit_byteAt l hl (i / 8) (i % 8) (by omega), show 8 * (i / 8) + i % 8 = i by omega]
theorem ofS_packS (l : List Int) (hl : IsBits l) : ofS (packS l) (l.length : Int) = l := by
  refine List.ext_getElem? fun i => ?_
  rcases Nat.lt_or_ge i l.length with hi | hi
  · have h := ofS_getD (packS l) (l.length : Int) i (by simpa using hi)
    rw [bitOf_packS l hl i hi] at h
    have hi2 : i < (ofS (packS l) (l.length : Int)).length := by rw [ofS_length]; simpa using hi
    rw [List.getD_eq_getElem?_getD, List.getD_eq_getElem?_getD, List.getElem?_eq_getElem hi2, List.getElem?_eq_getElem hi] at h
    rw [List.getElem?_eq_getElem hi2, List.getElem?_eq_getElem hi]
    simpa using h
  · rw [List.getElem?_eq_none (by rw [ofS_length]; simpa using hi), List.getElem?_eq_none hi]
theorem may_packS (l : List Int) (hl : IsBits l) (h : l.length ≤ 6000) : MayP (packS l) (l.length : Int) := by
  refine ⟨by omega, by omega, by rw [packS_size]; omega, ?_⟩
  rcases Nat.eq_zero_or_pos (l.length % 8) with h8 | h8
  · exact .inl (by omega)
  · refine .inr ?_
    have hj : ((packS l).size : Int) - 1 = ((l.length / 8 : Nat) : Int) := by rw [packS_size]; omega
    rw [hj, bt_packS l hl _ (by omega)]
    have := (byteAt_snoc_new l 0).2
    rw [show (8 - (l.length : Int) % 8).toNat = 7 - l.length % 8 + 1 by omega]
    exact this
/-- Bits that may be are their list's. -/
theorem canon (s : ByteArray) (n : Int) (h : MayP s n) : s = packS (ofS s n) ∧ n = ((ofS s n).length : Int) ∧ IsBits (ofS s n) ∧ (ofS s n).length ≤ 6000 := by
  refine ⟨(packS_ofS s n h).symm, by rw [ofS_length]; have := h.1; omega, ofS_bits s n, by rw [ofS_length]; have := h.2.1; omega⟩

/-! ### numbers out of bits -/
def numL (l : List Int) : Int := l.foldl (fun v b => 2 * v + b) 0
theorem numL_snoc (l : List Int) (b : Int) : numL (l ++ [b]) = 2 * numL l + b := by simp [numL]
theorem numL_from (l : List Int) : ∀ v : Int, l.foldl (fun v b => 2 * v + b) v = v * 2 ^ l.length + numL l := by
  induction l with
  | nil => intro v; simp [numL]
  | cons a r ih =>
    intro v
    have h0 := ih (2 * v + a)
    have h1 : numL (a :: r) = a * 2 ^ r.length + numL r := by
      have := ih a
      simp only [numL, List.foldl_cons] at this ⊢
      simpa using this
    simp only [List.foldl_cons, List.length_cons]
    rw [h0, h1, Int.pow_succ]
    rw [Int.add_mul]
    have e : 2 * v * 2 ^ r.length = v * (2 ^ r.length * 2) := by rw [Int.mul_comm 2 v, Int.mul_assoc, Int.mul_comm 2]
    rw [e]
    omega
theorem numL_cons (a : Int) (r : List Int) : numL (a :: r) = a * 2 ^ r.length + numL r := by
  have := numL_from r a
  simp only [numL, List.foldl_cons] at this ⊢
  simpa using this
theorem numL_range {l : List Int} (h : IsBits l) : 0 ≤ numL l ∧ numL l < 2 ^ l.length := by
  induction l with
  | nil => simp [numL]
  | cons a r ih =>
    have hr := ih (fun x hx => h x (List.mem_cons_of_mem _ hx))
    have ha := h a (List.mem_cons_self)
    have hp : (0 : Int) < 2 ^ r.length := Int.pow_pos (by decide)
    rw [numL_cons, List.length_cons, Int.pow_succ]
    rcases ha with rfl | rfl <;> omega
theorem numL_putL (w : Nat) (v : Int) (h0 : 0 ≤ v) : numL (putL w v) = v % 2 ^ w := by
  induction w with
  | zero => simp [putL, numL]
  | succ k ih =>
    rw [putL, numL_cons, putL_length, ih]
    have hp : (0 : Int) < 2 ^ k := Int.pow_pos (by decide)
    rw [Int.pow_succ]
    generalize (2 : Int) ^ k = p at hp ⊢
    have e1 := Int.mul_ediv_add_emod v p
    have e2 := Int.mul_ediv_add_emod (v / p) 2
    have r0 := Int.emod_nonneg v (show p ≠ 0 by omega)
    have r1 := Int.emod_lt_of_pos v hp
    have hb : v / p % 2 = 0 ∨ v / p % 2 = 1 := by omega
    have hv : v = (p * 2) * (v / p / 2) + (v / p % 2 * p + v % p) := by
      rw [Int.mul_assoc]
      have : p * (2 * (v / p / 2)) + v / p % 2 * p = p * (v / p) := by rw [Int.mul_comm (v / p % 2) p, ← Int.mul_add, e2]
      omega
    have hm : v % (p * 2) = (v / p % 2 * p + v % p) % (p * 2) := by
      conv => lhs; rw [hv]
      rw [Int.mul_add_emod_self_left]
    rw [hm, Int.emod_eq_of_lt (a := v / p % 2 * p + v % p) (b := p * 2)]
    · rcases hb with h | h <;> rw [h] <;> omega
    · rcases hb with h | h <;> rw [h] <;> omega
theorem numL_putL_lt (w : Nat) (v : Int) (h0 : 0 ≤ v) (h1 : v < 2 ^ w) : numL (putL w v) = v := by rw [numL_putL w v h0, Int.emod_eq_of_lt h0 h1]

/-! ### bits.Look, bits.Get -/
theorem or_step (v b : Int) (h0 : 0 ≤ v) (h1 : v < 2 ^ 61) (hb : b = 0 ∨ b = 1) : Go.bits .or .i64 (wrap64 (v * 2)) b = 2 * v + b := by
  rw [wrap_in _ (by omega) (by omega), bits_join .i64 63 (by decide) wraps_i64 1 (v * 2) b (by omega) (by simp) (by omega) (by omega) (by simp; omega) (by omega)]
  omega
theorem look_loop (l : List Int) (hl : IsBits l) (hlen : l.length ≤ 1000000) (n : Int) (a w : Nat) (haw : a + w ≤ l.length) (hw : w ≤ 61) (d : Nat) : ∀ (k i : Nat), i + d = w → d < k →
    bits_Look.l0 k (a : Int) (numL ((l.drop a).take i)) (w : Int) (i : Int) (packS l) n = some (numL ((l.drop a).take w), true) := by
  induction d with
  | zero =>
    intro k i hi hk
    obtain ⟨k, rfl⟩ : ∃ m, k = m + 1 := ⟨k - 1, by omega⟩
    obtain rfl : i = w := by omega
    simp only [bits_Look.l0]
    rw [if_neg (by omega)]
  | succ d ih =>
    intro k i hi hk
    obtain ⟨k, rfl⟩ : ∃ m, k = m + 1 := ⟨k - 1, by omega⟩
    simp only [bits_Look.l0]
    rw [if_pos (by omega)]
    have hw1 : wrap64 ((a : Int) + (i : Int)) = ((a + i : Nat) : Int) := by rw [wrap_in _ (by omega) (by omega)]; omega
    have hsz := packS_size l
    rw [hw1, bit_some _ _ _ (by omega) (by omega) (by omega), bitOf_packS l hl (a + i) (by omega), Option.bind_some]
    have hib : IsBits ((l.drop a).take i) := fun x hx => hl x (List.mem_of_mem_drop (List.mem_of_mem_take hx))
    have hr := numL_range hib
    have hlt : (l.drop a).length = l.length - a := List.length_drop ..
    have hlen2 : ((l.drop a).take i).length = i := by rw [List.length_take, hlt]; omega
    rw [hlen2] at hr
    have hp : (2 : Int) ^ i ≤ 2 ^ 60 := by have := Nat.pow_le_pow_right (n := 2) (by decide) (show i ≤ 60 by omega); exact_mod_cast this
    have h60 : (2 : Int) ^ 60 < 2 ^ 61 := by decide
    have hb := hl.getD (a + i)
    rw [or_step _ _ hr.1 (by omega) hb]
    have hsn : (l.drop a).take (i + 1) = (l.drop a).take i ++ [l.getD (a + i) 0] := by
      rw [List.take_succ_eq_append_getElem (by rw [hlt]; omega), List.getElem_drop, List.getD_eq_getElem?_getD, List.getElem?_eq_getElem (by omega)]
      rfl
    rw [← numL_snoc, ← hsn, wrap_in _ (by omega) (by omega)]
    have := ih k (i + 1) (by omega) (by omega)
    rw [show ((i + 1 : Nat) : Int) = (i : Int) + 1 by omega] at this
    exact this
theorem look_yes (l : List Int) (hl : IsBits l) (hlen : l.length ≤ 1000000) (a w : Nat) (haw : a + w ≤ l.length) (hw : w ≤ 61) (k : Nat) (hk : w + 1 < k) :
    bits_Look.f k (packS l) (l.length : Int) (a : Int) (w : Int) = some (numL ((l.drop a).take w), true) := by
  obtain ⟨k, rfl⟩ : ∃ m, k = m + 1 := ⟨k - 1, by omega⟩
  unfold bits_Look.f
  rw [if_neg (by omega)]
  have hd : decide ((w : Int) > wrap64 ((l.length : Int) - (a : Int))) = false := by
    rw [wrap_in _ (by omega) (by omega)]
    simp
    omega
  rw [hd]
  simp only [bits_Look.j0]
  rw [if_neg (by decide)]
  exact look_loop l hl hlen _ a w haw hw w k 0 (by omega) (by omega)
theorem look_no (s : ByteArray) (n a w : Int) (hn : 0 ≤ n ∧ n ≤ 1000000) (ha : 0 ≤ a) (hw0 : 0 ≤ w) (h : n < a + w) (k : Nat) (hk : 0 < k) : bits_Look.f k s n a w = some (0, false) := by
  obtain ⟨k, rfl⟩ : ∃ m, k = m + 1 := ⟨k - 1, by omega⟩
  unfold bits_Look.f
  by_cases h1 : a > n
  · rw [if_pos h1]
    simp only [bits_Look.j0]
    rw [if_pos trivial]
  · rw [if_neg h1]
    have hd : decide (w > wrap64 (n - a)) = true := by
      rw [wrap_in _ (by omega) (by omega)]
      simp
      omega
    rw [hd]
    simp only [bits_Look.j0]
    rw [if_pos trivial]

/-- bits.Get, of bits that may be. -/
def getR (l : List Int) (a w : Int) : Int × Int :=
  if 0 ≤ a ∧ 0 ≤ w ∧ w ≤ 30 then (if a + w ≤ (l.length : Int) then (numL ((l.drop a.toNat).take w.toNat), 0) else (0, 9)) else (0, 1)
theorem get_eq (l : List Int) (hl : IsBits l) (hlen : l.length ≤ 6000) (a w : Int) (ha : a < 9223372036854775808) (k : Nat) (hk : 40 ≤ k) : bits_Get.f k (packS l) (l.length : Int) a w = some (getR l a w) := by
  obtain ⟨k, rfl⟩ : ∃ m, k = m + 1 := ⟨k - 1, by omega⟩
  unfold bits_Get.f getR
  rw [may_eq, decide_eq_true (may_packS l hl hlen)]
  simp only [Option.bind_some, if_true]
  by_cases h0 : a < 0
  · rw [if_pos h0, if_neg (fun h => by omega)]
    simp only [bits_Get.j0]
    rw [if_pos trivial]
  · rw [if_neg h0, width_eq]
    simp only [Option.bind_some, bits_Get.j0]
    by_cases hw : 0 ≤ w ∧ w ≤ 30
    · rw [decide_eq_true hw, if_neg (by decide), if_pos ⟨by omega, hw⟩]
      by_cases hf : a + w ≤ (l.length : Int)
      · obtain ⟨a', rfl⟩ := Int.eq_ofNat_of_zero_le (show 0 ≤ a by omega)
        obtain ⟨w', rfl⟩ := Int.eq_ofNat_of_zero_le hw.1
        rw [if_pos hf, look_yes l hl (by omega) a' w' (by omega) (by omega) k (by omega), Option.bind_some]
        simp
      · rw [if_neg hf, look_no _ _ a w (by omega) (by omega) hw.1 (by omega) k (by omega), Option.bind_some]
        simp
    · rw [decide_eq_false hw, if_pos (by decide), if_neg (fun h => hw h.2)]

/-! ### bits.Put -/
theorem put_eq (l : List Int) (hl : IsBits l) (hlen : l.length ≤ 6000) (v w : Int) : bits_Put.f (packS l) (l.length : Int) v w =
    if 0 ≤ w ∧ w ≤ 30 ∧ 0 ≤ v ∧ v < 2 ^ w.toNat then (if (l.length : Int) + w ≤ 6000 then some (packS (l ++ putL w.toNat v), ((l ++ putL w.toNat v).length : Int), 0) else some (⟨#[]⟩, 0, 2)) else some (⟨#[]⟩, 0, 1) := by
  unfold bits_Put.f
  rw [ofS_packS l hl]
  by_cases h : 0 ≤ w ∧ w ≤ 30 ∧ 0 ≤ v ∧ v < 2 ^ w.toNat
  · rw [if_pos ⟨may_packS l hl hlen, h⟩, if_pos h]
    have : ((l ++ putL w.toNat v).length : Int) = (l.length : Int) + w := by rw [List.length_append, putL_length]; omega
    rw [this]
  · rw [if_neg (fun hh => h hh.2), if_neg h]
theorem put_some (l : List Int) (hl : IsBits l) (v : Int) (w : Nat) (hw : w ≤ 30) (hv : 0 ≤ v) (hv2 : v < 2 ^ w) (h : l.length + w ≤ 6000) :
    bits_Put.f (packS l) (l.length : Int) v (w : Int) = some (packS (l ++ putL w v), ((l ++ putL w v).length : Int), 0) := by
  rw [put_eq l hl (by omega), if_pos ⟨by omega, by omega, hv, by simpa using hv2⟩, if_pos (by omega)]
  simp
theorem packS_nil : packS [] = ⟨#[]⟩ := rfl
theorem put_nil (v : Int) (w : Nat) (hw : w ≤ 30) (hv : 0 ≤ v) (hv2 : v < 2 ^ w) : bits_Put.f (⟨#[]⟩ : ByteArray) 0 v (w : Int) = some (packS (putL w v), ((putL w v).length : Int), 0) := by
  have := put_some [] IsBits.nil v w hw hv hv2 (by simp; omega)
  simpa [packS_nil] using this

/-! ### slices of lists -/
theorem take_drop_mid (a b c : List Int) : ((a ++ b ++ c).drop a.length).take b.length = b := by
  rw [List.append_assoc, List.drop_left, List.take_left]
end Go.Proofs.Ytnpghcikhpglkaa.Pb
