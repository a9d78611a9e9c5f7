/- Bits as lists, bytes of bits: plain laws, without the program's walk. -/
import Derived.Test.YtnpghcikhpglkaaHr
import Derived.Laws.BitsLemmas
namespace Go.Proofs.Ytnpghcikhpglkaa.Pu
open Go.RowKit Go.Proofs.YtnpghcikhpglkaaW.PrintWords Go.Proofs.YtnpghcikhpglkaaW.PrintLast Go.Proofs.YtnpghcikhpglkaaW.PrintMore Go.Proofs.Ytnpghcikhpglkaa.Q Go.Proofs.Ytnpghcikhpglkaa.Hand
set_option linter.unusedVariables false

/-! ### the machine's bit operations -/
theorem wraps_i64 (n : Int) (h₀ : 0 ≤ n) (h₁ : n < 2 ^ 63) : IntKind.i64.wrap n = n := by rw [IntKind.wrap_i64]; omega
theorem and_one (x : Int) (h0 : 0 ≤ x) (h1 : x < 2 ^ 63) : bits .and .i64 x 1 = x % 2 :=
  bits_mask .i64 63 (by decide) wraps_i64 1 (by decide) x h0 h1
theorem pow8 (m : Int) (h0 : 0 ≤ m) (h7 : m ≤ 7) : (2 : Int) ^ m.toNat = 1 ∨ (2 : Int) ^ m.toNat = 2 ∨ (2 : Int) ^ m.toNat = 4 ∨ (2 : Int) ^ m.toNat = 8 ∨ (2 : Int) ^ m.toNat = 16 ∨ (2 : Int) ^ m.toNat = 32 ∨ (2 : Int) ^ m.toNat = 64 ∨ (2 : Int) ^ m.toNat = 128 := by
  have : m = 0 ∨ m = 1 ∨ m = 2 ∨ m = 3 ∨ m = 4 ∨ m = 5 ∨ m = 6 ∨ m = 7 := by omega
  rcases this with rfl | rfl | rfl | rfl | rfl | rfl | rfl | rfl <;> simp
theorem div_pow_nonneg (v : Int) (k : Nat) (h : 0 ≤ v) : 0 ≤ v / 2 ^ k := Int.ediv_nonneg h (Int.le_of_lt (Int.pow_pos (by decide)))
theorem div_pow_le (v : Int) (k : Nat) (h : 0 ≤ v) : v / 2 ^ k ≤ v := Int.ediv_le_self _ h

theorem div_min (v : Int) (k : Nat) (hv : 0 ≤ v) (hv2 : v < 2 ^ 62) : v / 2 ^ min k 64 = v / 2 ^ k := by
  rcases Nat.le_total k 64 with hk | hk
  · rw [Nat.min_eq_left hk]
  · rw [Nat.min_eq_right hk]
    have h1 : v < 2 ^ 64 := by omega
    have h2 : (2 : Int) ^ 64 ≤ 2 ^ k := by have := Nat.pow_le_pow_right (n := 2) (by decide) hk; exact_mod_cast this
    rw [Int.ediv_eq_zero_of_lt hv h1, Int.ediv_eq_zero_of_lt hv (Int.lt_of_lt_of_le h1 h2)]
theorem bitAt_eq (v : Int) (k : Nat) (m : Int) (hv : 0 ≤ v) (hv2 : v < 2 ^ 62) (hm0 : 0 ≤ m) (hm7 : m ≤ 7) : bitAt v k m = v / 2 ^ k % 2 * 2 ^ m.toNat := by
  unfold bitAt
  rw [div_min v k hv hv2, and_one _ (div_pow_nonneg v k hv) (by have := div_pow_le v k hv; omega)]
  generalize hb : v / 2 ^ k % 2 = b
  have hb01 : b = 0 ∨ b = 1 := by omega
  have hp := pow8 m hm0 hm7
  rcases hb01 with rfl | rfl
  · simp
  · rcases hp with h | h | h | h | h | h | h | h <;> rw [h] <;> rfl
theorem rowByte_eq (x v : Int) (k : Nat) (m : Int) (hx0 : 0 ≤ x) (hx : x < 256) (hv : 0 ≤ v) (hv2 : v < 2 ^ 62) (hm0 : 0 ≤ m) (hm7 : m ≤ 7) (hd : x % 2 ^ (m.toNat + 1) = 0) :
    rowByte x v k m = x + v / 2 ^ k % 2 * 2 ^ m.toNat := by
  unfold rowByte
  rw [bitAt_eq v k m hv hv2 hm0 hm7]
  generalize hb : v / 2 ^ k % 2 = b
  have hb01 : b = 0 ∨ b = 1 := by omega
  have hpw : (0 : Int) < 2 ^ m.toNat := Int.pow_pos (by decide)
  have hp := pow8 m hm0 hm7
  refine bits_join .u8 8 (by decide) wraps_u8 (m.toNat + 1) x _ hx0 hd (by omega) ?_ ?_ ?_
  · rcases hb01 with rfl | rfl <;> omega
  · rw [Int.pow_succ]; rcases hb01 with rfl | rfl <;> omega
  · rcases hb01 with rfl | rfl
    · simp
    · rcases hp with h | h | h | h | h | h | h | h <;> rw [h] <;> decide

/-! ### lists of bits, packed -/
def IsBits (l : List Int) : Prop := ∀ x ∈ l, x = 0 ∨ x = 1
theorem IsBits.nil : IsBits [] := fun x h => by cases h
theorem IsBits.append {a b : List Int} (ha : IsBits a) (hb : IsBits b) : IsBits (a ++ b) := fun x h => by
  rcases List.mem_append.1 h with h | h
  · exact ha x h
  · exact hb x h
theorem IsBits.getD {l : List Int} (h : IsBits l) (i : Nat) : l.getD i 0 = 0 ∨ l.getD i 0 = 1 := by
  rw [List.getD_eq_getElem?_getD]
  rcases Nat.lt_or_ge i l.length with hi | hi
  · rw [List.getElem?_eq_getElem hi]
    exact h _ (List.getElem_mem hi)
  · rw [List.getElem?_eq_none hi]
    exact .inl rfl

def byteAt (l : List Int) (j : Nat) : Int :=
  l.getD (8 * j) 0 * 128 + l.getD (8 * j + 1) 0 * 64 + l.getD (8 * j + 2) 0 * 32 + l.getD (8 * j + 3) 0 * 16 + l.getD (8 * j + 4) 0 * 8 + l.getD (8 * j + 5) 0 * 4 + l.getD (8 * j + 6) 0 * 2 + l.getD (8 * j + 7) 0
def packL (l : List Int) : List Int := (List.range ((l.length + 7) / 8)).map (byteAt l)
theorem packL_length (l : List Int) : (packL l).length = (l.length + 7) / 8 := by simp [packL]
theorem byteAt_range {l : List Int} (h : IsBits l) (j : Nat) : 0 ≤ byteAt l j ∧ byteAt l j < 256 := by
  unfold byteAt
  have := h.getD (8 * j); have := h.getD (8 * j + 1); have := h.getD (8 * j + 2); have := h.getD (8 * j + 3)
  have := h.getD (8 * j + 4); have := h.getD (8 * j + 5); have := h.getD (8 * j + 6); have := h.getD (8 * j + 7)
  omega
theorem packL_get (l : List Int) (j : Nat) (hj : j < (l.length + 7) / 8) : (packL l)[j]? = some (byteAt l j) := by
  simp [packL, List.getElem?_map, List.getElem?_range hj]
theorem getD_beyond (l : List Int) (i : Nat) (h : l.length ≤ i) : l.getD i 0 = 0 := by
  rw [List.getD_eq_getElem?_getD, List.getElem?_eq_none h]; rfl
theorem getD_snoc_old (l : List Int) (b : Int) (i : Nat) (h : i ≠ l.length) : (l ++ [b]).getD i 0 = l.getD i 0 := by
  rw [List.getD_eq_getElem?_getD, List.getD_eq_getElem?_getD]
  rcases Nat.lt_or_ge i l.length with hi | hi
  · rw [List.getElem?_append_left hi]
  · rw [List.getElem?_eq_none hi, List.getElem?_eq_none (by simp; omega)]
theorem getD_snoc_new (l : List Int) (b : Int) : (l ++ [b]).getD l.length 0 = b := by
  rw [List.getD_eq_getElem?_getD, List.getElem?_append_right (Nat.le_refl _)]; simp
theorem byteAt_snoc_old (l : List Int) (b : Int) (j : Nat) (h : j ≠ l.length / 8) : byteAt (l ++ [b]) j = byteAt l j := by
  unfold byteAt
  rw [getD_snoc_old l b _ (by omega), getD_snoc_old l b _ (by omega), getD_snoc_old l b _ (by omega), getD_snoc_old l b _ (by omega), getD_snoc_old l b _ (by omega), getD_snoc_old l b _ (by omega), getD_snoc_old l b _ (by omega), getD_snoc_old l b _ (by omega)]
/-- The byte in which the next bit comes to stand. -/
theorem byteAt_snoc_new (l : List Int) (b : Int) : byteAt (l ++ [b]) (l.length / 8) = byteAt l (l.length / 8) + b * 2 ^ (7 - l.length % 8) ∧ byteAt l (l.length / 8) % 2 ^ (7 - l.length % 8 + 1) = 0 := by
  obtain ⟨q, r, hr, hl⟩ : ∃ q r, r < 8 ∧ l.length = 8 * q + r := ⟨l.length / 8, l.length % 8, by omega, by omega⟩
  have hq : l.length / 8 = q := by omega
  have hm : l.length % 8 = r := by omega
  rw [hq, hm]
  unfold byteAt
  have hz : ∀ i, r ≤ i → l.getD (8 * q + i) 0 = 0 := fun i hi => getD_beyond l _ (by omega)
  have ho : ∀ i, i ≠ r → (l ++ [b]).getD (8 * q + i) 0 = l.getD (8 * q + i) 0 := fun i hi => getD_snoc_old l b _ (by omega)
  have hn : (l ++ [b]).getD (8 * q + r) 0 = b := by rw [← hl]; exact getD_snoc_new l b
  have h0 := ho 0; have z0 := hz 0
  simp only [Nat.add_zero] at h0 z0
  have hr' : r = 0 ∨ r = 1 ∨ r = 2 ∨ r = 3 ∨ r = 4 ∨ r = 5 ∨ r = 6 ∨ r = 7 := by omega
  rcases hr' with rfl | rfl | rfl | rfl | rfl | rfl | rfl | rfl
  · simp only [Nat.add_zero] at hn
    rw [hn, ho 1 (by omega), ho 2 (by omega), ho 3 (by omega), ho 4 (by omega), ho 5 (by omega), ho 6 (by omega), ho 7 (by omega), z0 (by omega), hz 1 (by omega), hz 2 (by omega), hz 3 (by omega), hz 4 (by omega), hz 5 (by omega), hz 6 (by omega), hz 7 (by omega)]
    constructor <;> simp
  · rw [hn, h0 (by omega), ho 2 (by omega), ho 3 (by omega), ho 4 (by omega), ho 5 (by omega), ho 6 (by omega), ho 7 (by omega), hz 1 (by omega), hz 2 (by omega), hz 3 (by omega), hz 4 (by omega), hz 5 (by omega), hz 6 (by omega), hz 7 (by omega)]
    constructor <;> simp <;> omega
  · rw [hn, h0 (by omega), ho 1 (by omega), ho 3 (by omega), ho 4 (by omega), ho 5 (by omega), ho 6 (by omega), ho 7 (by omega), hz 2 (by omega), hz 3 (by omega), hz 4 (by omega), hz 5 (by omega), hz 6 (by omega), hz 7 (by omega)]
    constructor <;> simp <;> omega
  · rw [hn, h0 (by omega), ho 1 (by omega), ho 2 (by omega), ho 4 (by omega), ho 5 (by omega), ho 6 (by omega), ho 7 (by omega), hz 3 (by omega), hz 4 (by omega), hz 5 (by omega), hz 6 (by omega), hz 7 (by omega)]
    constructor <;> simp <;> omega
  · rw [hn, h0 (by omega), ho 1 (by omega), ho 2 (by omega), ho 3 (by omega), ho 5 (by omega), ho 6 (by omega), ho 7 (by omega), hz 4 (by omega), hz 5 (by omega), hz 6 (by omega), hz 7 (by omega)]
    constructor <;> simp <;> omega
  · rw [hn, h0 (by omega), ho 1 (by omega), ho 2 (by omega), ho 3 (by omega), ho 4 (by omega), ho 6 (by omega), ho 7 (by omega), hz 5 (by omega), hz 6 (by omega), hz 7 (by omega)]
    constructor <;> simp <;> omega
  · rw [hn, h0 (by omega), ho 1 (by omega), ho 2 (by omega), ho 3 (by omega), ho 4 (by omega), ho 5 (by omega), ho 7 (by omega), hz 6 (by omega), hz 7 (by omega)]
    constructor <;> simp <;> omega
  · rw [hn, h0 (by omega), ho 1 (by omega), ho 2 (by omega), ho 3 (by omega), ho 4 (by omega), ho 5 (by omega), ho 6 (by omega), hz 7 (by omega)]
    constructor <;> simp <;> omega

theorem packL_snoc (l : List Int) (b : Int) : packL (l ++ [b]) = (if l.length % 8 = 0 then packL l ++ [0] else packL l).set (l.length / 8) (byteAt (l ++ [b]) (l.length / 8)) := by
  refine List.ext_getElem? fun j => ?_
  have hlen : (if l.length % 8 = 0 then packL l ++ [0] else packL l).length = (l.length + 8) / 8 := by
    split
    · rw [List.length_append, packL_length]; simp; omega
    · rw [packL_length]; omega
  rcases Nat.lt_or_ge j ((l.length + 8) / 8) with hj | hj
  · rw [packL_get _ _ (by simp; omega), List.getElem?_set]
    by_cases h : l.length / 8 = j
    · rw [if_pos h, if_pos (by rw [hlen, h]; exact hj), h]
    · rw [if_neg h, byteAt_snoc_old l b j (fun e => h e.symm)]
      have hj2 : j < (l.length + 7) / 8 := by omega
      split
      · rw [List.getElem?_append_left (by rw [packL_length]; exact hj2), packL_get l j hj2]
      · rw [packL_get l j hj2]
  · rw [List.getElem?_eq_none (by rw [packL_length]; simp; omega), List.getElem?_eq_none (by rw [List.length_set, hlen]; exact hj)]

theorem byteAt_end (l : List Int) (h : l.length % 8 = 0) (j : Nat) (hj : l.length / 8 ≤ j) : byteAt l j = 0 := by
  unfold byteAt
  rw [getD_beyond l _ (by omega), getD_beyond l _ (by omega), getD_beyond l _ (by omega), getD_beyond l _ (by omega), getD_beyond l _ (by omega), getD_beyond l _ (by omega), getD_beyond l _ (by omega), getD_beyond l _ (by omega)]
  rfl

/-- One bit put behind a row is one bit more of the list. -/
theorem rowBit_pack (l : List Int) (hl : IsBits l) (v : Int) (k : Nat) (hv : 0 ≤ v) (hv2 : v < 2 ^ 62) :
    rowBit (packL l, (l.length : Int)) v k = (packL (l ++ [v / 2 ^ k % 2]), ((l ++ [v / 2 ^ k % 2]).length : Int)) := by
  have hdiv : ((l.length : Int) / 8).toNat = l.length / 8 := by omega
  have hm0 : (0 : Int) ≤ 7 - (l.length : Int) % 8 := by omega
  have hm7 : 7 - (l.length : Int) % 8 ≤ 7 := by omega
  have hmn : (7 - (l.length : Int) % 8).toNat = 7 - l.length % 8 := by omega
  have hbs : (if (l.length : Int) % 8 = 0 then packL l ++ [0] else packL l) = (if l.length % 8 = 0 then packL l ++ [0] else packL l) := by
    by_cases h : l.length % 8 = 0
    · rw [if_pos h, if_pos (by omega)]
    · rw [if_neg h, if_neg (by omega)]
  have hrd : rd (if l.length % 8 = 0 then packL l ++ [0] else packL l) ((l.length : Int) / 8) = byteAt l (l.length / 8) := by
    unfold rd
    rw [hdiv, List.getD_eq_getElem?_getD]
    by_cases h : l.length % 8 = 0
    · rw [if_pos h, List.getElem?_append_right (by rw [packL_length]; omega), packL_length, show l.length / 8 - (l.length + 7) / 8 = 0 by omega, byteAt_end l h _ (Nat.le_refl _)]
      rfl
    · rw [if_neg h, packL_get l _ (by omega)]
      rfl
  obtain ⟨h1, h2⟩ := byteAt_snoc_new l (v / 2 ^ k % 2)
  obtain ⟨r0, r1⟩ := byteAt_range hl (l.length / 8)
  unfold rowBit
  simp only [hbs, hrd, hdiv]
  rw [rowByte_eq _ v k _ r0 r1 hv hv2 hm0 hm7 (by rw [hmn]; exact h2), hmn, ← h1, ← packL_snoc]
  simp

/-- A number as so many bits, the highest first. -/
def putL : Nat → Int → List Int
  | 0, _ => []
  | k + 1, v => v / 2 ^ k % 2 :: putL k v
theorem putL_length (w : Nat) (v : Int) : (putL w v).length = w := by
  induction w with
  | zero => rfl
  | succ k ih => simp [putL, ih]
theorem putL_bits (w : Nat) (v : Int) : IsBits (putL w v) := by
  induction w with
  | zero => exact IsBits.nil
  | succ k ih =>
    intro x hx
    rcases List.mem_cons.1 hx with rfl | hx
    · omega
    · exact ih x hx
theorem rowPut_pack (w : Nat) (v : Int) (hv : 0 ≤ v) (hv2 : v < 2 ^ 62) : ∀ (l : List Int), IsBits l → rowPut w (packL l, (l.length : Int)) v = (packL (l ++ putL w v), ((l ++ putL w v).length : Int)) := by
  induction w with
  | zero => intro l hl; simp [rowPut, putL]
  | succ k ih =>
    intro l hl
    rw [rowPut, rowBit_pack l hl v k hv hv2, ih _ (hl.append (fun x hx => by rw [List.mem_singleton.1 hx]; omega))]
    simp [putL]
/-- Zeros, however many. -/
theorem putL_zero (w : Nat) : putL w 0 = List.replicate w 0 := by
  induction w with
  | zero => rfl
  | succ k ih => simp [putL, ih, List.replicate_succ]

/-! ### bits that may be -/
/-- A bit of a text. -/
def bitOf (s : ByteArray) (i : Int) : Int := bt s (i / 8) / 2 ^ (7 - i % 8).toNat % 2
def MayP (s : ByteArray) (n : Int) : Prop := 0 ≤ n ∧ n ≤ 6000 ∧ (s.size : Int) = (n + 7) / 8 ∧ (n % 8 = 0 ∨ bt s ((s.size : Int) - 1) % 2 ^ (8 - n % 8).toNat = 0)
instance (s : ByteArray) (n : Int) : Decidable (MayP s n) := by unfold MayP; infer_instance
def ofS (s : ByteArray) (n : Int) : List Int := (List.range n.toNat).map fun i : Nat => bitOf s (i : Int)
def packS (l : List Int) : ByteArray := strOfNums (packL l)
theorem bitOf_bit (s : ByteArray) (i : Int) : bitOf s i = 0 ∨ bitOf s i = 1 := by unfold bitOf; omega
theorem ofS_bits (s : ByteArray) (n : Int) : IsBits (ofS s n) := by
  intro x hx
  obtain ⟨i, _, rfl⟩ := List.mem_map.1 hx
  exact bitOf_bit s _
theorem ofS_length (s : ByteArray) (n : Int) : (ofS s n).length = n.toNat := by simp [ofS]
theorem ofS_getD (s : ByteArray) (n : Int) (i : Nat) (h : i < n.toNat) : (ofS s n).getD i 0 = bitOf s i := by
  simp [ofS, List.getD_eq_getElem?_getD, List.getElem?_map, List.getElem?_range h]
theorem bytesI_get (s : ByteArray) (j : Nat) (h : j < s.size) : (bytesI s)[j]? = some (bt s j) := by
  have h2 : j < s.data.toList.length := h
  simp only [bytesI, List.getElem?_map, List.getElem?_eq_getElem h2, Option.map_some, Option.some.injEq]
  have := bt_at s (j : Int) h
  rw [← this]
  rfl

theorem split8 (x : Int) (h0 : 0 ≤ x) (h1 : x < 256) : x = x / 128 % 2 * 128 + x / 64 % 2 * 64 + x / 32 % 2 * 32 + x / 16 % 2 * 16 + x / 8 % 2 * 8 + x / 4 % 2 * 4 + x / 2 % 2 * 2 + x % 2 := by omega
theorem bitOf_at (s : ByteArray) (j : Nat) (i : Nat) (hi : i < 8) : bitOf s ((8 * j + i : Nat) : Int) = bt s j / 2 ^ (7 - i) % 2 := by
  unfold bitOf
  rw [show ((8 * j + i : Nat) : Int) / 8 = (j : Int) by omega, show (7 - ((8 * j + i : Nat) : Int) % 8).toNat = 7 - i by omega]
/-- Bits that may be, packed, are their text's bytes. -/
theorem pack_ofS (s : ByteArray) (n : Int) (h : MayP s n) : packL (ofS s n) = bytesI s := by
  obtain ⟨h0, h6, hsz, hend⟩ := h
  refine List.ext_getElem? fun j => ?_
  rcases Nat.lt_or_ge j s.size with hj | hj
  · rw [packL_get _ _ (by rw [ofS_length]; omega), bytesI_get s j hj]
    congr 1
    obtain ⟨b0, b1⟩ := bt_range s j
    have hx := split8 (bt s j) b0 (by omega)
    have hbit : ∀ i, i < 8 → (ofS s n).getD (8 * j + i) 0 = bt s j / 2 ^ (7 - i) % 2 := by
      intro i hi
      rcases Nat.lt_or_ge (8 * j + i) n.toNat with hlt | hge
      · rw [ofS_getD s n _ hlt, bitOf_at s j i hi]
      · rw [getD_beyond _ _ (by rw [ofS_length]; exact hge)]
        have hjl : j + 1 = s.size := by omega
        have hn8 : n % 8 ≠ 0 := by omega
        have hz := hend.resolve_left hn8
        rw [show ((s.size : Int) - 1) = (j : Int) by omega] at hz
        have hr : n % 8 ≤ (i : Int) := by omega
        have hcase : ∃ r : Nat, n % 8 = (r : Int) ∧ 1 ≤ r ∧ r ≤ i := ⟨(n % 8).toNat, by omega, by omega, by omega⟩
        obtain ⟨r, hr1, hr2, hr3⟩ := hcase
        rw [hr1, show (8 - (r : Int)).toNat = 8 - r by omega] at hz
        have : i = 1 ∨ i = 2 ∨ i = 3 ∨ i = 4 ∨ i = 5 ∨ i = 6 ∨ i = 7 := by omega
        have hd : (2 : Int) ^ (8 - i) ∣ 2 ^ (8 - r) := ⟨2 ^ (i - r), by rw [← Int.pow_add, show 8 - i + (i - r) = 8 - r by omega]⟩
        have hz2 : bt s j % 2 ^ (8 - i) = 0 := Int.emod_eq_zero_of_dvd (Int.dvd_trans hd (Int.dvd_of_emod_eq_zero hz))
        rcases this with rfl | rfl | rfl | rfl | rfl | rfl | rfl <;> simp at hz2 ⊢ <;> omega
    unfold byteAt
    have e0 := hbit 0 (by omega)
    rw [Nat.add_zero] at e0
    rw [e0, hbit 1 (by omega), hbit 2 (by omega), hbit 3 (by omega), hbit 4 (by omega), hbit 5 (by omega), hbit 6 (by omega), hbit 7 (by omega)]
    simp
    omega
  · rw [List.getElem?_eq_none (by rw [packL_length, ofS_length]; omega), List.getElem?_eq_none (by rw [bytesI_length]; exact hj)]

theorem strOfNums_bytesI (s : ByteArray) : strOfNums (bytesI s) = s := by
  apply ByteArray.ext
  apply Array.ext'
  rw [strOfNums_data, bytesI, List.map_map]
  have : ∀ l : List UInt8, l.map ((fun n : Int => UInt8.ofNat n.toNat) ∘ fun b : UInt8 => (b.toNat : Int)) = l := by
    intro l
    induction l with
    | nil => rfl
    | cons a r ih => simp [ih]
  exact this _
theorem packS_ofS (s : ByteArray) (n : Int) (h : MayP s n) : packS (ofS s n) = s := by rw [packS, pack_ofS s n h, strOfNums_bytesI]
end Go.Proofs.Ytnpghcikhpglkaa.Pu
