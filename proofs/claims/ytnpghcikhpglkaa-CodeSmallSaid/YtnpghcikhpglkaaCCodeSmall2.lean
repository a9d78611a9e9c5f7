/- What the row of CodeSmall rests on, part 3 of 3: functions, contracts, plain laws. -/
import Derived.Test.YtnpghcikhpglkaaCCodeSmall1
namespace Go.Proofs.Ytnpghcikhpglkaa.Pb
open Go.RowKit Go.Proofs.YtnpghcikhpglkaaW.PrintWords Go.Proofs.YtnpghcikhpglkaaW.PrintLast Go.Proofs.YtnpghcikhpglkaaW.PrintMore Go.Proofs.Ytnpghcikhpglkaa.Hand Go.Proofs.Ytnpghcikhpglkaa.Pu Go.Proofs.Ytnpghcikhpglkaa.Q
set_option linter.unusedVariables false
set_option linter.unusedSimpArgs false

/-- A number may be coded so. -/
def NumP (kind n : Int) : Prop := 1 ≤ n ∧ n ≤ 1073741824 ∧ (kind = 1 → n ≤ 1000)
instance (kind n : Int) : Decidable (NumP kind n) := by unfold NumP; infer_instance
theorem is_eq (kind : Int) : code_Is.f kind = some (decide (1 ≤ kind ∧ kind ≤ 5)) := by
  unfold code_Is.f
  by_cases h : kind ≥ 1
  · rw [if_pos h]; congr 1; rw [decide_eq_decide]; omega
  · rw [if_neg h, decide_eq_false (fun h2 => h h2.1)]
theorem number_eq (kind n : Int) : code_number.f kind n = some (decide (1 ≤ n ∧ n ≤ 1073741824 ∧ (kind = 1 → n ≤ 1000))) := by
  unfold code_number.f
  by_cases h1 : kind = 1
  · rw [if_pos h1]
    by_cases h : n ≥ 1
    · rw [if_pos h]; congr 1; rw [decide_eq_decide]; constructor <;> intro h2 <;> omega
    · rw [if_neg h, decide_eq_false (fun h2 => h h2.1)]
  · rw [if_neg h1]
    by_cases h : n ≥ 1
    · rw [if_pos h]; congr 1; rw [decide_eq_decide]; constructor <;> intro h2 <;> omega
    · rw [if_neg h, decide_eq_false (fun h2 => h h2.1)]
theorem cput_eq (l : List Int) (hl : IsBits l) (hlen : l.length ≤ 6000) (kind n : Int) : code_Put.f (packS l) (l.length : Int) kind n =
    some (if (1 ≤ kind ∧ kind ≤ 5) ∧ NumP kind n then (if l.length + (layL kind n).length ≤ 6000 then (packS (l ++ layL kind n), ((l ++ layL kind n).length : Int), 0) else (⟨#[]⟩, 0, 2)) else (⟨#[]⟩, 0, 1)) := by
  unfold code_Put.f
  rw [if_pos (may_packS l hl hlen), is_eq, ofS_packS l hl, Option.bind_some]
  by_cases h1 : 1 ≤ kind ∧ kind ≤ 5
  · rw [decide_eq_true h1, if_pos rfl, number_eq, Option.bind_some]
    by_cases h2 : NumP kind n
    · rw [decide_eq_true (p := 1 ≤ n ∧ n ≤ 1073741824 ∧ (kind = 1 → n ≤ 1000)) h2, if_pos rfl, if_pos (show (1 ≤ kind ∧ kind ≤ 5) ∧ NumP kind n from ⟨h1, h2⟩)]
      by_cases h3 : l.length + (layL kind n).length ≤ 6000
      · rw [if_pos h3, if_pos (show ((l ++ layL kind n).length : Int) ≤ 6000 by rw [List.length_append]; omega)]
      · rw [if_neg h3, if_neg (show ¬ (((l ++ layL kind n).length : Int) ≤ 6000) by rw [List.length_append]; omega)]
    · rw [decide_eq_false (p := 1 ≤ n ∧ n ≤ 1073741824 ∧ (kind = 1 → n ≤ 1000)) h2, if_neg (by decide), if_neg (show ¬ ((1 ≤ kind ∧ kind ≤ 5) ∧ NumP kind n) from fun h => h2 h.2)]
  · rw [decide_eq_false h1, if_neg (by decide), if_neg (show ¬ ((1 ≤ kind ∧ kind ≤ 5) ∧ NumP kind n) from fun h => h1 h.1)]
theorem csize_eq (kind n : Int) : code_Size.f kind n = some (if (1 ≤ kind ∧ kind ≤ 5) ∧ NumP kind n then (((layL kind n).length : Int), 0) else (0, 1)) := by
  unfold code_Size.f
  rw [is_eq, Option.bind_some]
  by_cases h1 : 1 ≤ kind ∧ kind ≤ 5
  · rw [decide_eq_true h1, if_pos rfl, number_eq, Option.bind_some]
    by_cases h2 : NumP kind n
    · rw [decide_eq_true (p := 1 ≤ n ∧ n ≤ 1073741824 ∧ (kind = 1 → n ≤ 1000)) h2, if_pos rfl, if_pos (show (1 ≤ kind ∧ kind ≤ 5) ∧ NumP kind n from ⟨h1, h2⟩)]
    · rw [decide_eq_false (p := 1 ≤ n ∧ n ≤ 1073741824 ∧ (kind = 1 → n ≤ 1000)) h2, if_neg (by decide), if_neg (show ¬ ((1 ≤ kind ∧ kind ≤ 5) ∧ NumP kind n) from fun h => h2 h.2)]
  · rw [decide_eq_false h1, if_neg (by decide), if_neg (show ¬ ((1 ≤ kind ∧ kind ≤ 5) ∧ NumP kind n) from fun h => h1 h.1)]
/-- code.Take's answer. -/
def takeR (kind : Int) (l : List Int) (a : Int) : Int × Int × Int :=
  if (1 ≤ kind ∧ kind ≤ 5) ∧ 0 ≤ a ∧ a ≤ (l.length : Int) then (if (readR kind l a.toNat).2.2 = true then ((readR kind l a.toNat).1, (readR kind l a.toNat).2.1, 0) else (0, 0, 9)) else (0, 0, 1)
theorem ctake_eq (l : List Int) (hl : IsBits l) (hlen : l.length ≤ 6000) (kind a : Int) (k : Nat) (hk : 1 ≤ k) : code_Take.f k (packS l) (l.length : Int) a kind = some (takeR kind l a) := by
  obtain ⟨k, rfl⟩ : ∃ k', k = k' + 1 := ⟨k - 1, by omega⟩
  unfold code_Take.f takeR
  rw [may_eq, decide_eq_true (may_packS l hl hlen), Option.bind_some, if_pos rfl, is_eq, Option.bind_some]
  by_cases h1 : 1 ≤ kind ∧ kind ≤ 5
  · rw [decide_eq_true h1, if_pos rfl]
    by_cases h2 : a < 0
    · rw [if_pos h2, code_Take.j0, if_pos rfl, if_neg (fun h => by omega)]
    · rw [if_neg h2]
      by_cases h3 : a > (l.length : Int)
      · rw [decide_eq_true h3, code_Take.j0, if_pos rfl, if_neg (fun h => by omega)]
      · rw [decide_eq_false h3, code_Take.j0, if_neg (by decide), if_pos ⟨h1, by omega, by omega⟩]
        obtain ⟨a, rfl⟩ := Int.eq_ofNat_of_zero_le (show 0 ≤ a by omega)
        rw [read_eq l hl hlen a (by omega) kind h1.1 h1.2, Option.bind_some, Int.toNat_natCast]
        by_cases h4 : (readR kind l a).2.2 = true
        · rw [if_pos h4, if_pos h4]
        · rw [if_neg h4, if_neg h4]
  · rw [decide_eq_false h1, if_neg (by decide), code_Take.j0, if_pos rfl, if_neg (fun h => h1 h.1)]
end Go.Proofs.Ytnpghcikhpglkaa.Pb
namespace Go.Proofs.Ytnpghcikhpglkaa.Pb
open Go.RowKit Go.Proofs.YtnpghcikhpglkaaW.PrintWords Go.Proofs.YtnpghcikhpglkaaW.PrintLast Go.Proofs.YtnpghcikhpglkaaW.PrintMore Go.Proofs.Ytnpghcikhpglkaa.Hand Go.Proofs.Ytnpghcikhpglkaa.Pu Go.Proofs.Ytnpghcikhpglkaa.Q
set_option linter.unusedVariables false
set_option linter.unusedSimpArgs false

theorem unaryL_bits (n : Int) : IsBits (unaryL n) := by unfold unaryL; exact IsBits.append (putL_bits _ _) (putL_bits _ _)
theorem gammaL_bits (n : Int) : IsBits (gammaL n) := by unfold gammaL; exact IsBits.append (putL_bits _ _) (putL_bits _ _)
theorem deltaL_bits (n : Int) : IsBits (deltaL n) := by unfold deltaL; exact IsBits.append (gammaL_bits _) (putL_bits _ _)
theorem zetaL_bits (kk n : Int) : IsBits (zetaL kk n) := by
  unfold zetaL
  split
  · refine IsBits.append (unaryL_bits _) ?_
    split <;> exact putL_bits _ _
  · exact IsBits.nil
theorem layL_bits (kind n : Int) : IsBits (layL kind n) := by
  unfold layL
  split
  · exact unaryL_bits n
  split
  · exact gammaL_bits n
  split
  · exact deltaL_bits n
  split <;> exact zetaL_bits _ _
theorem lg_mono (a b : Int) (h1 : 1 ≤ a) (h : a ≤ b) (h2 : b ≤ 1073741824) : lg a ≤ lg b := by
  obtain ⟨_, a0, _, a2, a3⟩ := lg_facts a h1 (by omega)
  obtain ⟨_, b0, _, b2, b3⟩ := lg_facts b (by omega) h2
  refine Int.not_lt.1 fun hc => ?_
  have hle : (lg b).toNat + 1 ≤ (lg a).toNat := by omega
  have hp := Nat.pow_le_pow_right (n := 2) (by decide) hle
  have hp' : ((2 ^ ((lg b).toNat + 1) : Nat) : Int) ≤ ((2 ^ (lg a).toNat : Nat) : Int) := by exact_mod_cast hp
  rw [Int.natCast_pow, Int.natCast_pow] at hp'
  have e2 : ((2 : Nat) : Int) = 2 := rfl
  rw [e2] at hp'
  omega
theorem gammaL_mono (a b : Int) (h1 : 1 ≤ a) (h : a ≤ b) (h2 : b ≤ 1073741824) : (gammaL a).length ≤ (gammaL b).length := by
  have := lg_mono a b h1 h h2
  rw [gammaL_length, gammaL_length]; omega
theorem deltaL_mono (a b : Int) (h1 : 1 ≤ a) (h : a ≤ b) (h2 : b ≤ 1073741824) : (deltaL a).length ≤ (deltaL b).length := by
  have := lg_mono a b h1 h h2
  obtain ⟨_, a0, a1, _⟩ := lg_facts a h1 (by omega)
  obtain ⟨_, b0, b1, _⟩ := lg_facts b (by omega) h2
  have := gammaL_mono (lg a + 1) (lg b + 1) (by omega) (by omega) (by omega)
  unfold deltaL
  simp only [List.length_append, putL_length]; omega
/-- A zeta code's parts. -/
def zetaIs (kk h : Nat) : Bool := code_zeta.f (kk : Int) (h : Int) == some (((2 ^ (h * kk) : Nat) : Int), ((2 ^ (h * kk + kk) : Nat) : Int) - ((2 ^ (h * kk) : Nat) : Int), ((h * kk + kk : Nat) : Int), ((2 ^ (h * kk) : Nat) : Int))
theorem zetaIs2 : ∀ h : Fin 16, zetaIs 2 h.val = true := by decide +kernel
theorem zetaIs3 : ∀ h : Fin 11, zetaIs 3 h.val = true := by decide +kernel
theorem zeta_is (kk h : Nat) (ho : zetaIs kk h = true) : code_zeta.f (kk : Int) (h : Int) = some ((2 : Int) ^ (h * kk), (2 : Int) ^ (h * kk + kk) - 2 ^ (h * kk), ((h * kk + kk : Nat) : Int), (2 : Int) ^ (h * kk)) := by
  have := eq_of_beq ho
  rw [this, Int.natCast_pow, Int.natCast_pow]
  rfl
theorem zetaL_parts (kk h : Nat) (n : Int) (hk : 1 ≤ kk) (hh : Int.tdiv (lg n) (kk : Int) = (h : Int)) (hz : zetaIs kk h = true) :
    zetaL (kk : Int) n = unaryL ((h : Int) + 1) ++ (if n - 2 ^ (h * kk) < 2 ^ (h * kk) then putL (h * kk + kk - 1) (n - 2 ^ (h * kk)) else putL (h * kk + kk) (n - 2 ^ (h * kk) + 2 ^ (h * kk))) := by
  have hze := zeta_is kk h hz
  have ek : ((h * kk + kk : Nat) : Int) - 1 = ((h * kk + kk - 1 : Nat) : Int) := by omega
  unfold zetaL
  rw [hh, hze]
  simp only
  rw [ek, Int.toNat_natCast, Int.toNat_natCast]
theorem zetaL_mono (kk : Nat) (top : Nat) (hk : 1 ≤ kk) (hz : ∀ h : Fin top, zetaIs kk h.val = true) (a b : Int) (h1 : 1 ≤ a) (h : a ≤ b) (h2 : b ≤ 1073741824) (ht : Int.tdiv (lg b) (kk : Int) < (top : Int)) : (zetaL (kk : Int) a).length ≤ (zetaL (kk : Int) b).length := by
  have hm := lg_mono a b h1 h h2
  obtain ⟨_, a0, a1, _⟩ := lg_facts a h1 (by omega)
  obtain ⟨_, b0, b1, _⟩ := lg_facts b (by omega) h2
  have hd : Int.tdiv (lg a) (kk : Int) ≤ Int.tdiv (lg b) (kk : Int) := by
    rw [Int.tdiv_eq_ediv_of_nonneg a0, Int.tdiv_eq_ediv_of_nonneg b0]
    exact Int.ediv_le_ediv (by omega) hm
  have hd0 : 0 ≤ Int.tdiv (lg a) (kk : Int) := Int.tdiv_nonneg a0 (by omega)
  obtain ⟨x, hx⟩ := Int.eq_ofNat_of_zero_le hd0
  obtain ⟨y, hy⟩ := Int.eq_ofNat_of_zero_le (Int.le_trans hd0 hd)
  have hxy : x ≤ y := by omega
  rw [zetaL_parts kk x a hk hx (hz ⟨x, by omega⟩), zetaL_parts kk y b hk hy (hz ⟨y, by omega⟩), List.length_append, List.length_append, unaryL_length _ (by omega), unaryL_length _ (by omega)]
  have hmul := Nat.mul_le_mul_right kk hxy
  by_cases he : x = y
  · subst he
    generalize (2 : Int) ^ (x * kk) = P
    split <;> split <;> simp only [putL_length] <;> omega
  · generalize (2 : Int) ^ (x * kk) = P
    generalize (2 : Int) ^ (y * kk) = P2
    split <;> split <;> simp only [putL_length] <;> omega
theorem layL_mono (kind a b : Int) (hk1 : 1 ≤ kind) (hk5 : kind ≤ 5) (h1 : 1 ≤ a) (h : a ≤ b) (h2 : b ≤ 1073741824) : (layL kind a).length ≤ (layL kind b).length := by
  obtain ⟨_, b0, b1, _⟩ := lg_facts b (by omega) h2
  have hkk : kind = 1 ∨ kind = 2 ∨ kind = 3 ∨ kind = 4 ∨ kind = 5 := by omega
  unfold layL
  rcases hkk with rfl | rfl | rfl | rfl | rfl
  · rw [if_pos rfl, if_pos rfl, unaryL_length _ h1, unaryL_length _ (by omega)]; omega
  · rw [if_neg (by decide), if_pos rfl, if_neg (by decide), if_pos rfl]; exact gammaL_mono a b h1 h h2
  · rw [if_neg (by decide), if_neg (by decide), if_pos rfl, if_neg (by decide), if_neg (by decide), if_pos rfl]; exact deltaL_mono a b h1 h h2
  · rw [if_neg (by decide), if_neg (by decide), if_neg (by decide), if_pos rfl, if_neg (by decide), if_neg (by decide), if_neg (by decide), if_pos rfl]
    exact zetaL_mono 2 16 (by omega) zetaIs2 a b h1 h h2 (by rw [Int.tdiv_eq_ediv_of_nonneg b0]; omega)
  · rw [if_neg (by decide), if_neg (by decide), if_neg (by decide), if_neg (by decide), if_neg (by decide), if_neg (by decide), if_neg (by decide), if_neg (by decide)]
    exact zetaL_mono 3 11 (by omega) zetaIs3 a b h1 h h2 (by rw [Int.tdiv_eq_ediv_of_nonneg b0]; omega)
/-- How long a code can be. -/
def lenOk (kind : Nat) : Bool := Nat.ble (layL (kind : Int) 1073741824).length 70
theorem len_all : ∀ k : Fin 4, lenOk (k.val + 2) = true := by decide +kernel
theorem layL_short (kind n : Int) (hk1 : 2 ≤ kind) (hk5 : kind ≤ 5) (h1 : 1 ≤ n) (h2 : n ≤ 1073741824) : (layL kind n).length ≤ 70 := by
  have hm := layL_mono kind n 1073741824 (by omega) hk5 h1 h2 (by omega)
  obtain ⟨k, hk⟩ := Int.eq_ofNat_of_zero_le (show 0 ≤ kind - 2 by omega)
  have ha := len_all ⟨k, by omega⟩
  unfold lenOk at ha
  simp only [Nat.ble_eq] at ha
  rw [show ((k + 2 : Nat) : Int) = kind by omega] at ha
  omega
theorem layL_len (kind n : Int) (hk1 : 1 ≤ kind) (hk5 : kind ≤ 5) (h1 : 1 ≤ n) (h2 : n ≤ 1073741824) (h3 : kind = 1 → n ≤ 1000) : (layL kind n).length ≤ 1000 := by
  by_cases hk : kind = 1
  · subst hk
    have := h3 rfl
    unfold layL
    rw [if_pos rfl, unaryL_length _ h1]; omega
  · have := layL_short kind n (by omega) hk5 h1 h2; omega
theorem read_good (kind : Int) (l : List Int) (a c : Nat) (n : Int) (hr : ReadL kind (l.drop a) = some (n, c)) (hn : n ≤ 1073741824) : readR kind l a = (n, ((a + c : Nat) : Int), true) := by
  unfold readR
  rw [hr]
  simp only
  rw [if_neg (by omega)]
theorem take_good (kind : Int) (l : List Int) (a c : Nat) (n : Int) (hk1 : 1 ≤ kind) (hk5 : kind ≤ 5) (ha : a ≤ l.length) (hr : ReadL kind (l.drop a) = some (n, c)) (hn : n ≤ 1073741824) : takeR kind l (a : Int) = (n, ((a + c : Nat) : Int), 0) := by
  unfold takeR
  rw [if_pos ⟨⟨hk1, hk5⟩, by omega, by omega⟩, Int.toNat_natCast, read_good kind l a c n hr hn]
  rfl
theorem take_bad (kind : Int) (l : List Int) (a : Nat) (hk1 : 1 ≤ kind) (hk5 : kind ≤ 5) (ha : a ≤ l.length) (hr : ReadL kind (l.drop a) = none) : takeR kind l (a : Int) = (0, 0, 9) := by
  have e : readR kind l a = (0, 0, false) := by unfold readR; rw [hr]
  unfold takeR
  rw [if_pos ⟨⟨hk1, hk5⟩, by omega, by omega⟩, Int.toNat_natCast, e]
  rfl
end Go.Proofs.Ytnpghcikhpglkaa.Pb
namespace Go.Proofs.Ytnpghcikhpglkaa.Pure
open Go.RowKit Go.Proofs.YtnpghcikhpglkaaW.PrintWords Go.Proofs.YtnpghcikhpglkaaW.PrintLast Go.Proofs.YtnpghcikhpglkaaW.PrintMore Go.Proofs.Ytnpghcikhpglkaa.Hand Go.Proofs.Ytnpghcikhpglkaa.Q Go.Proofs.Ytnpghcikhpglkaa.Pt Go.Proofs.Ytnpghcikhpglkaa.Pu Go.Proofs.Ytnpghcikhpglkaa.Pb
set_option linter.unusedVariables false
/-- So many numbers' codes, one behind the other. -/
def codes (kind : Int) : Nat → Int → List Int
  | 0, _ => []
  | d + 1, n => layL kind n ++ codes kind d (n + 1)
theorem codes_bits (kind : Int) : ∀ (d : Nat) (n : Int), IsBits (codes kind d n)
  | 0, _ => IsBits.nil
  | d + 1, n => IsBits.append (layL_bits kind n) (codes_bits kind d (n + 1))
theorem len40 (kind n : Int) (hk1 : 1 ≤ kind) (hk5 : kind ≤ 5) (h1 : 1 ≤ n) (h2 : n ≤ 40) : (layL kind n).length ≤ 70 := by
  by_cases hk : kind = 1
  · subst hk
    unfold layL
    rw [if_pos rfl, unaryL_length _ h1]; omega
  · exact layL_short kind n (by omega) hk5 h1 (by omega)
theorem codes_len (kind : Int) (hk1 : 1 ≤ kind) (hk5 : kind ≤ 5) : ∀ (d : Nat) (n : Int), 1 ≤ n → n + d = 41 → (codes kind d n).length ≤ 70 * d
  | 0, _, _, _ => by simp [codes]
  | d + 1, n, h1, h2 => by
    have := codes_len kind hk1 hk5 d (n + 1) (by omega) (by omega)
    have := len40 kind n hk1 hk5 h1 (by omega)
    simp only [codes, List.length_append]; omega
theorem run1_eq (kind : Int) (hk1 : 1 ≤ kind) (hk5 : kind ≤ 5) : ∀ (d : Nat) (n : Int) (l : List Int), IsBits l → l.length + 70 * d ≤ 6000 → 1 ≤ n → n + d = 41 →
    run1 kind d n (packS l) (l.length : Int) = some (packS (l ++ codes kind d n), ((l ++ codes kind d n).length : Int))
  | 0, _, l, _, _, _, _ => by simp [run1, codes]
  | d + 1, n, l, hl, hlen, h1, h2 => by
    have hnum : NumP kind n := ⟨h1, by omega, fun _ => by omega⟩
    have hle := len40 kind n hk1 hk5 h1 (by omega)
    have ih := run1_eq kind hk1 hk5 d (n + 1) (l ++ layL kind n) (IsBits.append hl (layL_bits kind n)) (by rw [List.length_append]; omega) (by omega) (by omega)
    rw [run1, cput_eq l hl (by omega), csize_eq, if_pos ⟨⟨hk1, hk5⟩, hnum⟩, if_pos (show l.length + (layL kind n).length ≤ 6000 by omega), if_pos (show (1 ≤ kind ∧ kind ≤ 5) ∧ NumP kind n from ⟨⟨hk1, hk5⟩, hnum⟩), Option.bind_some, Option.bind_some]
    simp only
    rw [if_pos trivial, if_pos trivial, wrap_in _ (by omega) (by omega), if_pos (by rw [List.length_append]; omega), ih]
    simp only [codes, List.append_assoc]
theorem run2_eq (kind : Int) (hk1 : 1 ≤ kind) (hk5 : kind ≤ 5) : ∀ (d : Nat) (n : Int) (l : List Int), IsBits l → l.length + 70 * d ≤ 6000 → 1 ≤ n → n + d = 41 →
    run2 kind (packS (l ++ codes kind d n)) ((l ++ codes kind d n).length : Int) d n (l.length : Int) = some ((l ++ codes kind d n).length : Int)
  | 0, _, l, _, _, _, _ => by simp [run2, codes]
  | d + 1, n, l, hl, hlen, h1, h2 => by
    have hle := len40 kind n hk1 hk5 h1 (by omega)
    have hcl := codes_len kind hk1 hk5 (d + 1) n h1 h2
    have ih := run2_eq kind hk1 hk5 d (n + 1) (l ++ layL kind n) (IsBits.append hl (layL_bits kind n)) (by rw [List.length_append]; omega) (by omega) (by omega)
    rw [List.append_assoc] at ih
    have hr : ReadL kind ((l ++ codes kind (d + 1) n).drop l.length) = some (n, (layL kind n).length) := by
      rw [List.drop_left]
      exact read_lay kind n hk1 hk5 h1 (by omega) (fun _ => by omega) _
    have ht : takeR kind (l ++ codes kind (d + 1) n) (l.length : Int) = (n, ((l.length + (layL kind n).length : Nat) : Int), 0) :=
      take_good kind _ _ _ n hk1 hk5 (by rw [List.length_append]; omega) hr (by omega)
    rw [run2, ctake_eq _ (IsBits.append hl (codes_bits kind _ _)) (by rw [List.length_append]; omega) kind _ 1 (by omega), ht, Option.bind_some]
    simp only
    rw [if_pos trivial, if_pos trivial]
    rw [show ((l.length + (layL kind n).length : Nat) : Int) = ((l ++ layL kind n).length : Int) by rw [List.length_append]]
    exact ih
theorem wakes2 : herbariumlaw2_wakes.f 40 = some true := by decide +kernel
theorem step (kind : Int) (hk1 : 1 ≤ kind) (hk5 : kind ≤ 5) (x : List S27) (y : List Int) (k : Nat) (hk : 1 ≤ k) :
    herbariumlaw2_CodeSmall.l0 (k + 1 + 40 + 1 + 40 + 1) kind x y = herbariumlaw2_CodeSmall.l0 k (kind + 1) x y := by
  have h1 := run1_eq kind hk1 hk5 40 1 [] IsBits.nil (by simp) (by omega) (by omega)
  have h2 := run2_eq kind hk1 hk5 40 1 [] IsBits.nil (by simp) (by omega) (by omega)
  exact kind_step kind (by omega) hk5 x y _ _ h1 h2 k hk
theorem CodeSmall : ∀ (l0 : List S27) (l1 : List Int), Op.GoodB l0 → Op.GoodN l1 → ∃ k, Q.herbariumlaw2_CodeSmall.f k l0 l1 = some true := by
  intro l0 l1 _ _
  obtain ⟨k, hk⟩ : ∃ k, k = 100 := ⟨_, rfl⟩
  have e6 : herbariumlaw2_CodeSmall.l0 (k + 1) 6 l0 l1 = some true := by
    rw [herbariumlaw2_CodeSmall.l0, if_neg (by omega), if_pos (by omega), at_rounds herbariumlaw2_wakes.mono (show 40 ≤ k by omega) wakes2]
    rfl
  have e5 := step 5 (by omega) (by omega) l0 l1 (k + 1) (by omega)
  have e4 := step 4 (by omega) (by omega) l0 l1 (k + 1 + 1 + 40 + 1 + 40 + 1) (by omega)
  have e3 := step 3 (by omega) (by omega) l0 l1 (k + 1 + 1 + 40 + 1 + 40 + 1 + 1 + 40 + 1 + 40 + 1) (by omega)
  have e2 := step 2 (by omega) (by omega) l0 l1 (k + 1 + 1 + 40 + 1 + 40 + 1 + 1 + 40 + 1 + 40 + 1 + 1 + 40 + 1 + 40 + 1) (by omega)
  have e1 := step 1 (by omega) (by omega) l0 l1 (k + 1 + 1 + 40 + 1 + 40 + 1 + 1 + 40 + 1 + 40 + 1 + 1 + 40 + 1 + 40 + 1 + 1 + 40 + 1 + 40 + 1) (by omega)
  refine ⟨_, e1.trans (e2.trans (e3.trans (e4.trans (e5.trans e6))))⟩
end Go.Proofs.Ytnpghcikhpglkaa.Pure
