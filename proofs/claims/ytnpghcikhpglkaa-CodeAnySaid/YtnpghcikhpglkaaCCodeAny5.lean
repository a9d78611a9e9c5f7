/- What the row of CodeAny rests on, part 6 of 6: functions, contracts, plain laws. -/
import Derived.Test.YtnpghcikhpglkaaCCodeAny4
namespace Go.Proofs.Ytnpghcikhpglkaa.Pb
open Go.RowKit Go.Proofs.YtnpghcikhpglkaaW.PrintWords Go.Proofs.YtnpghcikhpglkaaW.PrintLast Go.Proofs.YtnpghcikhpglkaaW.PrintMore Go.Proofs.Ytnpghcikhpglkaa.Hand Go.Proofs.Ytnpghcikhpglkaa.Pu Go.Proofs.Ytnpghcikhpglkaa.Q
set_option linter.unusedVariables false
set_option linter.unusedSimpArgs false
/-- How many bits 0 stand ahead of the first 1; -1: there is no 1. -/
def zerosL : List Int → Int
  | [] => -1
  | b :: r => if b = 1 then 0 else if zerosL r < 0 then -1 else zerosL r + 1
theorem zerosL_range (l : List Int) : -1 ≤ zerosL l ∧ zerosL l < (l.length : Int) := by
  induction l with
  | nil => simp [zerosL]
  | cons b r ih =>
    simp only [zerosL, List.length_cons]
    split
    · omega
    · split <;> omega
/-- What stands there. -/
theorem zerosL_split (l : List Int) (h : 0 ≤ zerosL l) (hb : IsBits l) : ∃ r, l = List.replicate (zerosL l).toNat 0 ++ 1 :: r := by
  induction l with
  | nil => simp [zerosL] at h
  | cons b r ih =>
    have hbb := hb b List.mem_cons_self
    simp only [zerosL] at h ⊢
    by_cases h1 : b = 1
    · rw [if_pos h1]
      exact ⟨r, by simp [h1]⟩
    · rw [if_neg h1] at h ⊢
      by_cases h2 : zerosL r < 0
      · rw [if_pos h2] at h; omega
      · rw [if_neg h2]
        obtain ⟨q, hq⟩ := ih (by omega) (fun x hx => hb x (List.mem_cons_of_mem _ hx))
        refine ⟨q, ?_⟩
        have hb0 : b = 0 := by omega
        have : (zerosL r + 1).toNat = (zerosL r).toNat + 1 := by omega
        rw [this, List.replicate_succ, List.cons_append, hb0, ← hq]
theorem ahead_loop (l : List Int) (hl : IsBits l) (hlen : l.length ≤ 1000000) (x : Int) (hx : 0 ≤ x) (d : Nat) : ∀ (k i : Nat), i + d = l.length → d < k → x ≤ i →
    bits_Ahead.l0 k x (i : Int) (packS l) (l.length : Int) = some (if zerosL (l.drop i) < 0 then -1 else (i : Int) + zerosL (l.drop i) - x) := by
  induction d with
  | zero =>
    intro k i hi hk hxi
    obtain ⟨k, rfl⟩ : ∃ m, k = m + 1 := ⟨k - 1, by omega⟩
    simp only [bits_Ahead.l0]
    rw [if_neg (by omega), List.drop_eq_nil_of_le (by omega)]
    rfl
  | succ d ih =>
    intro k i hi hk hxi
    obtain ⟨k, rfl⟩ : ∃ m, k = m + 1 := ⟨k - 1, by omega⟩
    have hsz := packS_size l
    have hb := bit_some (packS l) (l.length : Int) (i : Int) (by omega) (by omega) (by omega)
    rw [bitOf_packS l hl i (by omega)] at hb
    have hd : l.drop i = l.getD i 0 :: l.drop (i + 1) := by
      rw [List.drop_eq_getElem_cons (by omega), List.getD_eq_getElem?_getD, List.getElem?_eq_getElem (by omega)]
      rfl
    have hz := zerosL_range (l.drop (i + 1))
    simp only [bits_Ahead.l0]
    rw [if_pos (by omega), hb, Option.bind_some, hd]
    by_cases h1 : l.getD i 0 = 1
    · have hc : zerosL (l.getD i 0 :: l.drop (i + 1)) = 0 := by simp only [zerosL]; rw [if_pos h1]
      rw [if_pos h1, hc, wrap_in _ (by omega) (by omega), if_neg (by omega)]
      simp
    · rw [if_neg h1, wrap_in _ (by omega) (by omega)]
      have := ih k (i + 1) (by omega) (by omega) (by omega)
      rw [show ((i + 1 : Nat) : Int) = (i : Int) + 1 by omega] at this
      rw [this]
      by_cases h2 : zerosL (l.drop (i + 1)) < 0
      · have hc : zerosL (l.getD i 0 :: l.drop (i + 1)) = -1 := by simp only [zerosL]; rw [if_neg h1, if_pos h2]
        rw [if_pos h2, hc, if_pos (by omega)]
      · have hc : zerosL (l.getD i 0 :: l.drop (i + 1)) = zerosL (l.drop (i + 1)) + 1 := by simp only [zerosL]; rw [if_neg h1, if_neg h2]
        rw [if_neg h2, hc, if_neg (by omega)]
        congr 1
        omega
theorem ahead_eq (l : List Int) (hl : IsBits l) (hlen : l.length ≤ 1000000) (a : Nat) (ha : a ≤ l.length) (k : Nat) (hk : l.length < k) : bits_Ahead.f k (packS l) (l.length : Int) (a : Int) = some (zerosL (l.drop a)) := by
  have h := ahead_loop l hl hlen (a : Int) (by omega) (l.length - a) k a (by omega) (by omega) (Int.le_refl _)
  have hz := zerosL_range (l.drop a)
  unfold bits_Ahead.f
  rw [h]
  congr 1
  split <;> omega
end Go.Proofs.Ytnpghcikhpglkaa.Pb
namespace Go.Proofs.Ytnpghcikhpglkaa.Pb
open Go.RowKit Go.Proofs.YtnpghcikhpglkaaW.PrintWords Go.Proofs.YtnpghcikhpglkaaW.PrintLast Go.Proofs.YtnpghcikhpglkaaW.PrintMore Go.Proofs.Ytnpghcikhpglkaa.Hand Go.Proofs.Ytnpghcikhpglkaa.Pu Go.Proofs.Ytnpghcikhpglkaa.Q
set_option linter.unusedVariables false
set_option linter.unusedSimpArgs false
theorem rd_zeros_eq (l : List Int) (hl : IsBits l) (hlen : l.length ≤ 6000) (a : Nat) (ha : a ≤ l.length) (most : Int) (k : Nat) (hk : 7000 ≤ k) : rd_zeros k (packS l) (l.length : Int) (a : Int) false most =
    some (if 0 ≤ zerosL (l.drop a) ∧ zerosL (l.drop a) ≤ most then (zerosL (l.drop a), (a : Int) + zerosL (l.drop a), false) else (0, (a : Int), true)) := by
  have hr := zerosL_range (l.drop a)
  rw [List.length_drop] at hr
  unfold rd_zeros
  rw [ahead_eq l hl (by omega) a ha k (by omega), Option.bind_some, if_neg (by decide)]
  generalize zerosL (l.drop a) = z at *
  by_cases h1 : z < 0
  · rw [if_pos h1, if_neg (fun h => by omega)]
  · rw [if_neg h1]
    by_cases h2 : most < z
    · rw [if_pos h2, if_neg (fun h => by omega)]
    · rw [if_neg h2, if_pos ⟨by omega, by omega⟩, wrap_in _ (by omega) (by omega)]
theorem look_some (l : List Int) (hl : IsBits l) (hlen : l.length ≤ 6000) (a w : Nat) (hw : w ≤ 61) (k : Nat) (hk : 7000 ≤ k) : bits_Look.f k (packS l) (l.length : Int) (a : Int) (w : Int) = if a + w ≤ l.length then some (numL ((l.drop a).take w), true) else some (0, false) := by
  by_cases h : a + w ≤ l.length
  · rw [if_pos h]
    exact look_yes l hl (by omega) a w h hw k (by omega)
  · rw [if_neg h]
    exact look_no (packS l) (l.length : Int) (a : Int) (w : Int) (by omega) (by omega) (by omega) (by omega) k (by omega)
theorem rd_look_bad (l : List Int) (hl : IsBits l) (hlen : l.length ≤ 6000) (a w : Nat) (hw : w ≤ 61) (k : Nat) (hk : 7000 ≤ k) : rd_look k (packS l) (l.length : Int) (a : Int) true (w : Int) = some (0, (a : Int), true) := by
  unfold rd_look
  rw [look_some l hl hlen a w hw k hk]
  split <;> (rw [Option.bind_some, if_pos rfl])
theorem rd_look_eq (l : List Int) (hl : IsBits l) (hlen : l.length ≤ 6000) (a w : Nat) (hw : w ≤ 61) (k : Nat) (hk : 7000 ≤ k) : rd_look k (packS l) (l.length : Int) (a : Int) false (w : Int) =
    some (if a + w ≤ l.length then (numL ((l.drop a).take w), ((a + w : Nat) : Int), false) else (0, (a : Int), true)) := by
  unfold rd_look
  rw [look_some l hl hlen a w hw k hk]
  by_cases h : a + w ≤ l.length
  · rw [if_pos h, if_pos h, Option.bind_some, if_neg (by decide), if_pos rfl, wrap_in _ (by omega) (by omega)]
    rfl
  · rw [if_neg h, if_neg h, Option.bind_some, if_neg (by decide), if_neg (by simp)]
/-- The rest's first code, as a number and how many bits it takes. -/
def unaryR (most : Int) (r : List Int) : Option (Int × Nat) := if 0 ≤ zerosL r ∧ zerosL r ≤ most - 1 then some (zerosL r + 1, (zerosL r).toNat + 1) else none
def gammaR (r : List Int) : Option (Int × Nat) :=
  if 0 ≤ zerosL r ∧ zerosL r ≤ 30 ∧ 2 * (zerosL r).toNat + 1 ≤ r.length then some (numL ((r.drop (zerosL r).toNat).take ((zerosL r).toNat + 1)), 2 * (zerosL r).toNat + 1) else none
/-- What the reader has: good, it stands behind the code; bad. -/
def Got (o : Option (Int × Int × Bool)) (a : Nat) (q : Option (Int × Nat)) : Prop := match q with
  | some (v, c) => o = some (v, ((a + c : Nat) : Int), false)
  | none => ∃ (v : Int) (a' : Nat), o = some (v, (a' : Int), true)
theorem unary_got (l : List Int) (hl : IsBits l) (hlen : l.length ≤ 6000) (a : Nat) (ha : a ≤ l.length) (most : Int) (hm0 : 1 ≤ most) (hm1 : most ≤ 10000) (k : Nat) (hk : 7000 ≤ k) : Got (rd_unary k (packS l) (l.length : Int) (a : Int) false most) a (unaryR most (l.drop a)) := by
  have hr := zerosL_range (l.drop a)
  rw [List.length_drop] at hr
  unfold rd_unary
  rw [if_pos ⟨hm0, hm1⟩, rd_zeros_eq l hl hlen a ha _ k hk, Option.bind_some]
  unfold unaryR
  generalize zerosL (l.drop a) = z at *
  by_cases h : 0 ≤ z ∧ z ≤ most - 1
  · rw [if_pos h, if_pos h]
    simp only [Got]
    obtain ⟨z, rfl⟩ := Int.eq_ofNat_of_zero_le h.1
    have e := rd_look_eq l hl hlen (a + z) 1 (by omega) k hk
    rw [if_pos (by omega)] at e
    have e' : rd_look k (packS l) (l.length : Int) ((a : Int) + (z : Int)) false 1 = _ := e
    rw [if_pos ⟨by omega, by omega⟩, e', Option.bind_some, Int.toNat_natCast]
    rfl
  · rw [if_neg h, if_neg h]
    simp only [Got]
    have e := rd_look_bad l hl hlen a 1 (by omega) k hk
    have e' : rd_look k (packS l) (l.length : Int) (a : Int) true 1 = _ := e
    rw [if_pos ⟨by omega, by omega⟩, e', Option.bind_some]
    exact ⟨_, a, rfl⟩
theorem gamma_got (l : List Int) (hl : IsBits l) (hlen : l.length ≤ 6000) (a : Nat) (ha : a ≤ l.length) (k : Nat) (hk : 7000 ≤ k) : Got (rd_gamma k (packS l) (l.length : Int) (a : Int) false) a (gammaR (l.drop a)) := by
  have hr := zerosL_range (l.drop a)
  unfold rd_gamma
  rw [rd_zeros_eq l hl hlen a ha _ k hk, Option.bind_some]
  unfold gammaR
  have hd : ∀ z : Nat, (l.drop a).drop z = l.drop (a + z) := fun z => by rw [List.drop_drop]
  rw [hd, List.length_drop]
  rw [List.length_drop] at hr
  generalize zerosL (l.drop a) = z at *
  by_cases h : 0 ≤ z ∧ z ≤ 30
  · rw [if_pos h]
    obtain ⟨z, rfl⟩ := Int.eq_ofNat_of_zero_le h.1
    have e := rd_look_eq l hl hlen (a + z) (z + 1) (by omega) k hk
    have e' : rd_look k (packS l) (l.length : Int) ((a : Int) + (z : Int)) false ((z : Int) + 1) = _ := e
    simp only [Int.toNat_natCast]
    rw [if_pos ⟨by omega, by omega⟩, e']
    by_cases h2 : 2 * z + 1 ≤ l.length - a
    · rw [if_pos (show a + z + (z + 1) ≤ l.length by omega), if_pos ⟨h.1, h.2, h2⟩]
      simp only [Got]
      rw [show a + z + (z + 1) = a + (2 * z + 1) by omega]
    · rw [if_neg (show ¬ (a + z + (z + 1) ≤ l.length) by omega), if_neg (fun h => h2 h.2.2)]
      exact ⟨_, a + z, rfl⟩
  · have hn : ¬ (0 ≤ z ∧ z ≤ 30 ∧ 2 * z.toNat + 1 ≤ l.length - a) := fun h2 => h ⟨h2.1, h2.2.1⟩
    rw [if_neg h, if_neg hn]
    have e := rd_look_bad l hl hlen a 1 (by omega) k hk
    have e' : rd_look k (packS l) (l.length : Int) (a : Int) true (0 + 1) = _ := e
    rw [if_pos ⟨by omega, by omega⟩, e']
    exact ⟨_, a, rfl⟩
theorem IsBits.drop' {l : List Int} (h : IsBits l) (n : Nat) : IsBits (l.drop n) := fun x hx => h x (List.mem_of_mem_drop hx)
theorem IsBits.take' {l : List Int} (h : IsBits l) (n : Nat) : IsBits (l.take n) := fun x hx => h x (List.mem_of_mem_take hx)
theorem gamma_facts (r : List Int) (hr : IsBits r) (g : Int) (c : Nat) (h : gammaR r = some (g, c)) : 1 ≤ g ∧ g < 2147483648 ∧ c ≤ r.length := by
  unfold gammaR at h
  split at h
  · rename_i hc
    simp only [Option.some.injEq, Prod.mk.injEq] at h
    obtain ⟨rfl, rfl⟩ := h
    obtain ⟨q, hq⟩ := zerosL_split r hc.1 hr
    generalize hz : (zerosL r).toNat = z at *
    have hz30 : z ≤ 30 := by omega
    have e1 : r.drop z = 1 :: q := by
      rw [hq, List.drop_append_of_le_length (by simp), List.drop_of_length_le (by simp), List.nil_append]
    have hqb : IsBits q := fun x hx => hr x (by rw [hq]; simp [hx])
    rw [e1, List.take_succ_cons, numL_cons]
    have hb := numL_range (IsBits.take' hqb z)
    have hl : (q.take z).length ≤ z := by rw [List.length_take]; omega
    generalize (q.take z).length = m at *
    have hm := Nat.pow_le_pow_right (n := 2) (by decide) (show m ≤ 30 by omega)
    have hm1 : ((2 ^ m : Nat) : Int) ≤ ((2 ^ 30 : Nat) : Int) := by exact_mod_cast hm
    have hm0 : 0 < 2 ^ m := Nat.pow_pos (by decide)
    have hcast : ((2 ^ m : Nat) : Int) = (2 : Int) ^ m := Int.natCast_pow 2 m
    rw [← hcast] at hb ⊢
    refine ⟨by omega, by omega, by omega⟩
  · cases h
def deltaR (r : List Int) : Option (Int × Nat) := (gammaR r).bind fun q =>
  if q.1 - 1 ≤ 30 ∧ q.2 + (q.1 - 1).toNat ≤ r.length then some (2 ^ (q.1 - 1).toNat + numL ((r.drop q.2).take (q.1 - 1).toNat), q.2 + (q.1 - 1).toNat) else none
theorem or_high (m : Nat) (hm : m ≤ 30) (v : Int) (h0 : 0 ≤ v) (h1 : v < 2 ^ m) : Go.bits .or .i64 (IntKind.i64.wrap (2 ^ m)) v = 2 ^ m + v := by
  have hp := pow_le30 (m : Int) (by omega) (by omega)
  rw [Int.toNat_natCast] at hp
  have hw : IntKind.i64.wrap (2 ^ m) = 2 ^ m := wraps_i64 _ (by omega) (by omega)
  rw [hw, bits_join .i64 63 (by decide) wraps_i64 m (2 ^ m) v (by omega) (Int.emod_self) (by omega) h0 h1 (by omega)]
theorem delta_got (l : List Int) (hl : IsBits l) (hlen : l.length ≤ 6000) (a : Nat) (ha : a ≤ l.length) (k : Nat) (hk : 7000 ≤ k) : Got (rd_delta k (packS l) (l.length : Int) (a : Int) false) a (deltaR (l.drop a)) := by
  have hg := gamma_got l hl hlen a ha k hk
  unfold rd_delta deltaR
  cases hgr : gammaR (l.drop a) with
  | none =>
    rw [hgr] at hg
    obtain ⟨v, a', e⟩ := hg
    rw [e, Option.bind_some, if_pos rfl, Option.bind_none]
    exact ⟨_, a', rfl⟩
  | some q =>
    obtain ⟨g, c⟩ := q
    rw [hgr] at hg
    simp only [Got] at hg
    obtain ⟨g1, g2, g3⟩ := gamma_facts _ (IsBits.drop' hl a) g c hgr
    rw [List.length_drop] at g3
    rw [hg, Option.bind_some, if_neg (by simp), Option.bind_some]
    simp only
    by_cases h30 : 30 < g - 1
    · rw [if_pos h30, if_pos (by omega), if_neg (fun h => by omega)]
      exact ⟨_, a + c, rfl⟩
    · rw [if_neg h30, if_pos (by omega)]
      obtain ⟨m, hm⟩ := Int.eq_ofNat_of_zero_le (show 0 ≤ g - 1 by omega)
      have hgn : g.toNat - 1 = m := by omega
      rw [hm, hgn, Int.toNat_natCast, List.drop_drop, List.length_drop]
      have e := rd_look_eq l hl hlen (a + c) m (by omega) k hk
      rw [e, Option.bind_some]
      by_cases h2 : a + c + m ≤ l.length
      · rw [if_pos h2, if_pos ⟨by omega, by omega⟩]
        have hb := numL_range (IsBits.take' (IsBits.drop' hl (a + c)) m)
        rw [List.length_take, List.length_drop, Nat.min_eq_left (by omega)] at hb
        simp only [Got]
        rw [or_high m (by omega) _ hb.1 hb.2, show a + c + m = a + (c + m) by omega]
      · rw [if_neg h2, if_neg (fun h => by omega)]
        exact ⟨_, a + c, rfl⟩
def zetaR (kk most : Int) (r : List Int) : Option (Int × Nat) := (unaryR most r).bind fun u => (code_zeta.f kk (u.1 - 1)).bind fun q =>
  if u.2 + (q.2.2.1 - 1).toNat ≤ r.length then
    (if numL ((r.drop u.2).take (q.2.2.1 - 1).toNat) < q.2.2.2 then some (q.1 + numL ((r.drop u.2).take (q.2.2.1 - 1).toNat), u.2 + (q.2.2.1 - 1).toNat)
    else if u.2 + (q.2.2.1 - 1).toNat + 1 ≤ r.length then some (q.1 + (numL ((r.drop u.2).take (q.2.2.1 - 1).toNat) * 2 + numL ((r.drop (u.2 + (q.2.2.1 - 1).toNat)).take 1) - q.2.2.2), u.2 + (q.2.2.1 - 1).toNat + 1) else none)
  else none
theorem zeta_got (kk : Nat) (most : Int) (hm0 : 1 ≤ most) (hm1 : most ≤ 16) (hz : ∀ h : Nat, (h : Int) ≤ most - 1 → ∃ low many size short : Int, code_zeta.f (kk : Int) (h : Int) = some (low, many, size, short) ∧ 0 ≤ low ∧ low ≤ 4294967296 ∧ 1 ≤ size ∧ size ≤ 33 ∧ 0 ≤ short ∧ short ≤ 4294967296)
    (l : List Int) (hl : IsBits l) (hlen : l.length ≤ 6000) (a : Nat) (ha : a ≤ l.length) (k : Nat) (hk : 7000 ≤ k) : Got (rd_zeta (kk : Int) most k (packS l) (l.length : Int) (a : Int) false) a (zetaR (kk : Int) most (l.drop a)) := by
  have hu := unary_got l hl hlen a ha most hm0 (by omega) k hk
  have hr := zerosL_range (l.drop a)
  rw [List.length_drop] at hr
  unfold rd_zeta zetaR
  cases hur : unaryR most (l.drop a) with
  | none =>
    rw [hur] at hu
    obtain ⟨v, a', e⟩ := hu
    rw [e, Option.bind_some, if_pos rfl, Option.bind_none]
    exact ⟨_, a', rfl⟩
  | some q =>
    obtain ⟨u, c⟩ := q
    rw [hur] at hu
    simp only [Got] at hu
    have hc : 1 ≤ u ∧ u ≤ most ∧ a + c ≤ l.length := by
      unfold unaryR at hur
      split at hur
      · simp only [Option.some.injEq, Prod.mk.injEq] at hur
        omega
      · cases hur
    obtain ⟨h, hh⟩ := Int.eq_ofNat_of_zero_le (show 0 ≤ u - 1 by omega)
    obtain ⟨low, many, size, short, e, z1, z2, z3, z4, z5, z6⟩ := hz h (by omega)
    rw [hu, Option.bind_some, if_neg (by simp), Option.bind_some]
    simp only
    rw [if_pos ⟨by omega, by omega⟩, hh, e, Option.bind_some, Option.bind_some]
    simp only
    rw [if_pos ⟨z1, z2, z3, by omega, z5, z6⟩]
    obtain ⟨m, hm⟩ := Int.eq_ofNat_of_zero_le (show 0 ≤ size - 1 by omega)
    rw [hm, Int.toNat_natCast, List.drop_drop, List.drop_drop, List.length_drop, rd_look_eq l hl hlen (a + c) m (by omega) k hk, Option.bind_some]
    by_cases h2 : a + c + m ≤ l.length
    · rw [if_pos h2, if_pos (show c + m ≤ l.length - a by omega)]
      have hb := numL_range (IsBits.take' (IsBits.drop' hl (a + c)) m)
      rw [List.length_take, List.length_drop, Nat.min_eq_left (by omega)] at hb
      have hpw := Nat.pow_le_pow_right (n := 2) (by decide) (show m ≤ 32 by omega)
      have hpc : ((2 ^ m : Nat) : Int) = (2 : Int) ^ m := Int.natCast_pow 2 m
      rw [← hpc] at hb
      generalize numL ((l.drop (a + c)).take m) = z at *
      simp only
      rw [if_pos ⟨by omega, by omega⟩]
      by_cases h3 : z < short
      · rw [if_pos h3, if_pos h3]
        simp only [Got]
        rw [show a + c + m = a + (c + m) by omega]
      · rw [if_neg h3, if_neg h3]
        have e1 := rd_look_eq l hl hlen (a + c + m) 1 (by omega) k hk
        have e1' : rd_look k (packS l) (l.length : Int) ((a + c + m : Nat) : Int) false 1 = _ := e1
        rw [e1', Option.bind_some]
        by_cases h4 : a + c + m + 1 ≤ l.length
        · rw [if_pos h4, if_pos (show c + m + 1 ≤ l.length - a by omega)]
          have hb1 := numL_range (IsBits.take' (IsBits.drop' hl (a + c + m)) 1)
          rw [List.length_take, List.length_drop, Nat.min_eq_left (by omega)] at hb1
          rw [show a + (c + m) = a + c + m by omega]
          generalize numL ((l.drop (a + c + m)).take 1) = y at *
          simp only [Got]
          rw [if_pos ⟨by omega, by omega⟩, show a + c + m + 1 = a + (c + m + 1) by omega]
        · rw [if_neg h4, if_neg (show ¬ (c + m + 1 ≤ l.length - a) by omega), if_pos ⟨by omega, by omega⟩]
          exact ⟨_, a + c + m, rfl⟩
    · rw [if_neg h2, if_neg (show ¬ (c + m ≤ l.length - a) by omega)]
      have e1 := rd_look_bad l hl hlen (a + c) 1 (by omega) k hk
      have e1' : rd_look k (packS l) (l.length : Int) ((a + c : Nat) : Int) true 1 = _ := e1
      simp only
      rw [if_pos ⟨by omega, by omega⟩, e1', Option.bind_some]
      split
      · exact ⟨_, a + c, rfl⟩
      · rw [if_pos ⟨by omega, by omega⟩]
        exact ⟨_, a + c, rfl⟩
end Go.Proofs.Ytnpghcikhpglkaa.Pb
namespace Go.Proofs.Ytnpghcikhpglkaa.Pb
open Go.RowKit Go.Proofs.YtnpghcikhpglkaaW.PrintWords Go.Proofs.YtnpghcikhpglkaaW.PrintLast Go.Proofs.YtnpghcikhpglkaaW.PrintMore Go.Proofs.Ytnpghcikhpglkaa.Hand Go.Proofs.Ytnpghcikhpglkaa.Pu Go.Proofs.Ytnpghcikhpglkaa.Q
set_option linter.unusedVariables false
set_option linter.unusedSimpArgs false
/-- The rest's first code of a kind. -/
def ReadL (kind : Int) (r : List Int) : Option (Int × Nat) :=
  if kind = 1 then unaryR 1000 r else if kind = 2 then gammaR r else if kind = 3 then deltaR r else if kind = 4 then zetaR 2 16 r else zetaR 3 11 r
theorem zt2' (h : Nat) (hh : (h : Int) ≤ 16 - 1) : ∃ low many size short : Int, code_zeta.f ((2 : Nat) : Int) (h : Int) = some (low, many, size, short) ∧ 0 ≤ low ∧ low ≤ 4294967296 ∧ 1 ≤ size ∧ size ≤ 33 ∧ 0 ≤ short ∧ short ≤ 4294967296 := by
  obtain ⟨low, many, size, short, e, e1, e2, e3, e4, e5, e6, e7⟩ := zt_facts (zt2 ⟨h, by omega⟩)
  have hb : ∀ h : Fin 16, (Option.any (fun q : Int × Int × Int × Int => Nat.ble q.2.2.1.toNat 33) (code_zeta.f ((2 : Nat) : Int) (h.val : Int))) = true := by decide +kernel
  have hb2 := hb ⟨h, by omega⟩
  simp only at e e1 hb2
  rw [e] at hb2
  have hb3 : size.toNat ≤ 33 := Nat.le_of_ble_eq_true hb2
  have hp := Nat.pow_le_pow_right (n := 2) (by decide) (show h * 2 ≤ 32 by omega)
  have hp0 : 0 < 2 ^ (h * 2) := Nat.pow_pos (by decide)
  exact ⟨low, many, size, short, e, by omega, by omega, e3, by omega, e5, by omega⟩
theorem zt3' (h : Nat) (hh : (h : Int) ≤ 11 - 1) : ∃ low many size short : Int, code_zeta.f ((3 : Nat) : Int) (h : Int) = some (low, many, size, short) ∧ 0 ≤ low ∧ low ≤ 4294967296 ∧ 1 ≤ size ∧ size ≤ 33 ∧ 0 ≤ short ∧ short ≤ 4294967296 := by
  obtain ⟨low, many, size, short, e, e1, e2, e3, e4, e5, e6, e7⟩ := zt_facts (zt3 ⟨h, by omega⟩)
  have hb : ∀ h : Fin 11, (Option.any (fun q : Int × Int × Int × Int => Nat.ble q.2.2.1.toNat 33) (code_zeta.f ((3 : Nat) : Int) (h.val : Int))) = true := by decide +kernel
  have hb2 := hb ⟨h, by omega⟩
  simp only at e e1 hb2
  rw [e] at hb2
  have hb3 : size.toNat ≤ 33 := Nat.le_of_ble_eq_true hb2
  have hp := Nat.pow_le_pow_right (n := 2) (by decide) (show h * 3 ≤ 32 by omega)
  have hp0 : 0 < 2 ^ (h * 3) := Nat.pow_pos (by decide)
  exact ⟨low, many, size, short, e, by omega, by omega, e3, by omega, e5, by omega⟩
theorem read_got (l : List Int) (hl : IsBits l) (hlen : l.length ≤ 6000) (a : Nat) (ha : a ≤ l.length) (kind : Int) (hk1 : 1 ≤ kind) (hk5 : kind ≤ 5) (k : Nat) (hk : 7000 ≤ k) : Got (readK k (packS l) (l.length : Int) (a : Int) kind) a (ReadL kind (l.drop a)) := by
  have hkk : kind = 1 ∨ kind = 2 ∨ kind = 3 ∨ kind = 4 ∨ kind = 5 := by omega
  unfold readK ReadL
  rcases hkk with rfl | rfl | rfl | rfl | rfl
  · rw [if_pos rfl, if_pos rfl]; exact unary_got l hl hlen a ha 1000 (by omega) (by omega) k hk
  · rw [if_neg (by decide), if_pos rfl, if_neg (by decide), if_pos rfl]; exact gamma_got l hl hlen a ha k hk
  · rw [if_neg (by decide), if_neg (by decide), if_pos rfl, if_neg (by decide), if_neg (by decide), if_pos rfl]; exact delta_got l hl hlen a ha k hk
  · rw [if_neg (by decide), if_neg (by decide), if_neg (by decide), if_pos rfl, if_neg (by decide), if_neg (by decide), if_neg (by decide), if_pos rfl]
    exact zeta_got 2 16 (by omega) (by omega) zt2' l hl hlen a ha k hk
  · rw [if_neg (by decide), if_neg (by decide), if_neg (by decide), if_neg (by decide), if_pos rfl, if_neg (by decide), if_neg (by decide), if_neg (by decide), if_neg (by decide)]
    exact zeta_got 3 11 (by omega) (by omega) zt3' l hl hlen a ha k hk
/-- code.Read's answer. -/
def readR (kind : Int) (l : List Int) (a : Nat) : Int × Int × Bool := match ReadL kind (l.drop a) with
  | some (v, c) => if 1073741824 < v then (0, 0, false) else (v, ((a + c : Nat) : Int), true)
  | none => (0, 0, false)
theorem read_eq (l : List Int) (hl : IsBits l) (hlen : l.length ≤ 6000) (a : Nat) (ha : a ≤ l.length) (kind : Int) (hk1 : 1 ≤ kind) (hk5 : kind ≤ 5) : code_Read.f (packS l) (l.length : Int) (a : Int) kind = some (readR kind l a) := by
  have hg := read_got l hl hlen a ha kind hk1 hk5 rounds (by unfold rounds; omega)
  unfold code_Read.f readR
  cases hr : ReadL kind (l.drop a) with
  | none =>
    rw [hr] at hg
    obtain ⟨v, a', e⟩ := hg
    rw [e, Option.bind_some, if_pos rfl]
  | some q =>
    obtain ⟨v, c⟩ := q
    rw [hr] at hg
    simp only [Got] at hg
    rw [hg, Option.bind_some, if_neg (by simp)]
    simp only
    split <;> rfl
end Go.Proofs.Ytnpghcikhpglkaa.Pb
namespace Go.Proofs.Ytnpghcikhpglkaa.Pb
open Go.RowKit Go.Proofs.YtnpghcikhpglkaaW.PrintWords Go.Proofs.YtnpghcikhpglkaaW.PrintLast Go.Proofs.YtnpghcikhpglkaaW.PrintMore Go.Proofs.Ytnpghcikhpglkaa.Hand Go.Proofs.Ytnpghcikhpglkaa.Pu Go.Proofs.Ytnpghcikhpglkaa.Q
set_option linter.unusedVariables false
set_option linter.unusedSimpArgs false
theorem unaryL_eq (n : Int) : unaryL n = List.replicate (n - 1).toNat 0 ++ [1] := by
  unfold unaryL; rw [putL_zero]; rfl
end Go.Proofs.Ytnpghcikhpglkaa.Pb
namespace Go.Proofs.Ytnpghcikhpglkaa.Pb
open Go.RowKit Go.Proofs.YtnpghcikhpglkaaW.PrintWords Go.Proofs.YtnpghcikhpglkaaW.PrintLast Go.Proofs.YtnpghcikhpglkaaW.PrintMore Go.Proofs.Ytnpghcikhpglkaa.Hand Go.Proofs.Ytnpghcikhpglkaa.Pu Go.Proofs.Ytnpghcikhpglkaa.Q
set_option linter.unusedVariables false
set_option linter.unusedSimpArgs false
/-- A number may be coded so. -/
def NumP (kind n : Int) : Prop := 1 ≤ n ∧ n ≤ 1073741824 ∧ (kind = 1 → n ≤ 1000)
instance (kind n : Int) : Decidable (NumP kind n) := by unfold NumP; infer_instance
theorem is_eq (kind : Int) : code_Is.f kind = some (decide (1 ≤ kind ∧ kind ≤ 5)) := by
  unfold code_Is.f
  by_cases h : kind ≥ 1
  · rw [if_pos h]; congr 1; rw [decide_eq_decide]; omega
  · rw [if_neg h, decide_eq_false (fun h2 => h h2.1)]
theorem number_eq (kind n : Int) : code_number.f kind n = some (decide (1 ≤ n ∧ n ≤ 1073741824 ∧ (kind = 1 → n ≤ 1000))) := by
  unfold code_number.f
  by_cases h1 : kind = 1
  · rw [if_pos h1]
    by_cases h : n ≥ 1
    · rw [if_pos h]; congr 1; rw [decide_eq_decide]; constructor <;> intro h2 <;> omega
    · rw [if_neg h, decide_eq_false (fun h2 => h h2.1)]
  · rw [if_neg h1]
    by_cases h : n ≥ 1
    · rw [if_pos h]; congr 1; rw [decide_eq_decide]; constructor <;> intro h2 <;> omega
    · rw [if_neg h, decide_eq_false (fun h2 => h h2.1)]
theorem cput_eq (l : List Int) (hl : IsBits l) (hlen : l.length ≤ 6000) (kind n : Int) : code_Put.f (packS l) (l.length : Int) kind n =
    some (if (1 ≤ kind ∧ kind ≤ 5) ∧ NumP kind n then (if l.length + (layL kind n).length ≤ 6000 then (packS (l ++ layL kind n), ((l ++ layL kind n).length : Int), 0) else (⟨#[]⟩, 0, 2)) else (⟨#[]⟩, 0, 1)) := by
  unfold code_Put.f
  rw [if_pos (may_packS l hl hlen), is_eq, ofS_packS l hl, Option.bind_some]
  by_cases h1 : 1 ≤ kind ∧ kind ≤ 5
  · rw [decide_eq_true h1, if_pos rfl, number_eq, Option.bind_some]
    by_cases h2 : NumP kind n
    · rw [decide_eq_true (p := 1 ≤ n ∧ n ≤ 1073741824 ∧ (kind = 1 → n ≤ 1000)) h2, if_pos rfl, if_pos (show (1 ≤ kind ∧ kind ≤ 5) ∧ NumP kind n from ⟨h1, h2⟩)]
      by_cases h3 : l.length + (layL kind n).length ≤ 6000
      · rw [if_pos h3, if_pos (show ((l ++ layL kind n).length : Int) ≤ 6000 by rw [List.length_append]; omega)]
      · rw [if_neg h3, if_neg (show ¬ (((l ++ layL kind n).length : Int) ≤ 6000) by rw [List.length_append]; omega)]
    · rw [decide_eq_false (p := 1 ≤ n ∧ n ≤ 1073741824 ∧ (kind = 1 → n ≤ 1000)) h2, if_neg (by decide), if_neg (show ¬ ((1 ≤ kind ∧ kind ≤ 5) ∧ NumP kind n) from fun h => h2 h.2)]
  · rw [decide_eq_false h1, if_neg (by decide), if_neg (show ¬ ((1 ≤ kind ∧ kind ≤ 5) ∧ NumP kind n) from fun h => h1 h.1)]
theorem csize_eq (kind n : Int) : code_Size.f kind n = some (if (1 ≤ kind ∧ kind ≤ 5) ∧ NumP kind n then (((layL kind n).length : Int), 0) else (0, 1)) := by
  unfold code_Size.f
  rw [is_eq, Option.bind_some]
  by_cases h1 : 1 ≤ kind ∧ kind ≤ 5
  · rw [decide_eq_true h1, if_pos rfl, number_eq, Option.bind_some]
    by_cases h2 : NumP kind n
    · rw [decide_eq_true (p := 1 ≤ n ∧ n ≤ 1073741824 ∧ (kind = 1 → n ≤ 1000)) h2, if_pos rfl, if_pos (show (1 ≤ kind ∧ kind ≤ 5) ∧ NumP kind n from ⟨h1, h2⟩)]
    · rw [decide_eq_false (p := 1 ≤ n ∧ n ≤ 1073741824 ∧ (kind = 1 → n ≤ 1000)) h2, if_neg (by decide), if_neg (show ¬ ((1 ≤ kind ∧ kind ≤ 5) ∧ NumP kind n) from fun h => h2 h.2)]
  · rw [decide_eq_false h1, if_neg (by decide), if_neg (show ¬ ((1 ≤ kind ∧ kind ≤ 5) ∧ NumP kind n) from fun h => h1 h.1)]
/-- code.Take's answer. -/
def takeR (kind : Int) (l : List Int) (a : Int) : Int × Int × Int :=
  if (1 ≤ kind ∧ kind ≤ 5) ∧ 0 ≤ a ∧ a ≤ (l.length : Int) then (if (readR kind l a.toNat).2.2 = true then ((readR kind l a.toNat).1, (readR kind l a.toNat).2.1, 0) else (0, 0, 9)) else (0, 0, 1)
theorem ctake_eq (l : List Int) (hl : IsBits l) (hlen : l.length ≤ 6000) (kind a : Int) (k : Nat) (hk : 1 ≤ k) : code_Take.f k (packS l) (l.length : Int) a kind = some (takeR kind l a) := by
  obtain ⟨k, rfl⟩ : ∃ k', k = k' + 1 := ⟨k - 1, by omega⟩
  unfold code_Take.f takeR
  rw [may_eq, decide_eq_true (may_packS l hl hlen), Option.bind_some, if_pos rfl, is_eq, Option.bind_some]
  by_cases h1 : 1 ≤ kind ∧ kind ≤ 5
  · rw [decide_eq_true h1, if_pos rfl]
    by_cases h2 : a < 0
    · rw [if_pos h2, code_Take.j0, if_pos rfl, if_neg (fun h => by omega)]
    · rw [if_neg h2]
      by_cases h3 : a > (l.length : Int)
      · rw [decide_eq_true h3, code_Take.j0, if_pos rfl, if_neg (fun h => by omega)]
      · rw [decide_eq_false h3, code_Take.j0, if_neg (by decide), if_pos ⟨h1, by omega, by omega⟩]
        obtain ⟨a, rfl⟩ := Int.eq_ofNat_of_zero_le (show 0 ≤ a by omega)
        rw [read_eq l hl hlen a (by omega) kind h1.1 h1.2, Option.bind_some, Int.toNat_natCast]
        by_cases h4 : (readR kind l a).2.2 = true
        · rw [if_pos h4, if_pos h4]
        · rw [if_neg h4, if_neg h4]
  · rw [decide_eq_false h1, if_neg (by decide), code_Take.j0, if_pos rfl, if_neg (fun h => h1 h.1)]
end Go.Proofs.Ytnpghcikhpglkaa.Pb
namespace Go.Proofs.Ytnpghcikhpglkaa.Pb
open Go.RowKit Go.Proofs.YtnpghcikhpglkaaW.PrintWords Go.Proofs.YtnpghcikhpglkaaW.PrintLast Go.Proofs.YtnpghcikhpglkaaW.PrintMore Go.Proofs.Ytnpghcikhpglkaa.Hand Go.Proofs.Ytnpghcikhpglkaa.Pu Go.Proofs.Ytnpghcikhpglkaa.Q
set_option linter.unusedVariables false
set_option linter.unusedSimpArgs false
theorem unaryL_bits (n : Int) : IsBits (unaryL n) := by unfold unaryL; exact IsBits.append (putL_bits _ _) (putL_bits _ _)
theorem gammaL_bits (n : Int) : IsBits (gammaL n) := by unfold gammaL; exact IsBits.append (putL_bits _ _) (putL_bits _ _)
theorem deltaL_bits (n : Int) : IsBits (deltaL n) := by unfold deltaL; exact IsBits.append (gammaL_bits _) (putL_bits _ _)
theorem zetaL_bits (kk n : Int) : IsBits (zetaL kk n) := by
  unfold zetaL
  split
  · refine IsBits.append (unaryL_bits _) ?_
    split <;> exact putL_bits _ _
  · exact IsBits.nil
theorem layL_bits (kind n : Int) : IsBits (layL kind n) := by
  unfold layL
  split
  · exact unaryL_bits n
  split
  · exact gammaL_bits n
  split
  · exact deltaL_bits n
  split <;> exact zetaL_bits _ _
theorem lg_mono (a b : Int) (h1 : 1 ≤ a) (h : a ≤ b) (h2 : b ≤ 1073741824) : lg a ≤ lg b := by
  obtain ⟨_, a0, _, a2, a3⟩ := lg_facts a h1 (by omega)
  obtain ⟨_, b0, _, b2, b3⟩ := lg_facts b (by omega) h2
  refine Int.not_lt.1 fun hc => ?_
  have hle : (lg b).toNat + 1 ≤ (lg a).toNat := by omega
  have hp := Nat.pow_le_pow_right (n := 2) (by decide) hle
  have hp' : ((2 ^ ((lg b).toNat + 1) : Nat) : Int) ≤ ((2 ^ (lg a).toNat : Nat) : Int) := by exact_mod_cast hp
  rw [Int.natCast_pow, Int.natCast_pow] at hp'
  have e2 : ((2 : Nat) : Int) = 2 := rfl
  rw [e2] at hp'
  omega
theorem gammaL_mono (a b : Int) (h1 : 1 ≤ a) (h : a ≤ b) (h2 : b ≤ 1073741824) : (gammaL a).length ≤ (gammaL b).length := by
  have := lg_mono a b h1 h h2
  rw [gammaL_length, gammaL_length]; omega
theorem deltaL_mono (a b : Int) (h1 : 1 ≤ a) (h : a ≤ b) (h2 : b ≤ 1073741824) : (deltaL a).length ≤ (deltaL b).length := by
  have := lg_mono a b h1 h h2
  obtain ⟨_, a0, a1, _⟩ := lg_facts a h1 (by omega)
  obtain ⟨_, b0, b1, _⟩ := lg_facts b (by omega) h2
  have := gammaL_mono (lg a + 1) (lg b + 1) (by omega) (by omega) (by omega)
  unfold deltaL
  simp only [List.length_append, putL_length]; omega
/-- A zeta code's parts. -/
def zetaIs (kk h : Nat) : Bool := code_zeta.f (kk : Int) (h : Int) == some (((2 ^ (h * kk) : Nat) : Int), ((2 ^ (h * kk + kk) : Nat) : Int) - ((2 ^ (h * kk) : Nat) : Int), ((h * kk + kk : Nat) : Int), ((2 ^ (h * kk) : Nat) : Int))
theorem zetaIs2 : ∀ h : Fin 16, zetaIs 2 h.val = true := by decide +kernel
theorem zetaIs3 : ∀ h : Fin 11, zetaIs 3 h.val = true := by decide +kernel
theorem zeta_is (kk h : Nat) (ho : zetaIs kk h = true) : code_zeta.f (kk : Int) (h : Int) = some ((2 : Int) ^ (h * kk), (2 : Int) ^ (h * kk + kk) - 2 ^ (h * kk), ((h * kk + kk : Nat) : Int), (2 : Int) ^ (h * kk)) := by
  have := eq_of_beq ho
  rw [this, Int.natCast_pow, Int.natCast_pow]
  rfl
theorem zetaL_parts (kk h : Nat) (n : Int) (hk : 1 ≤ kk) (hh : Int.tdiv (lg n) (kk : Int) = (h : Int)) (hz : zetaIs kk h = true) :
    zetaL (kk : Int) n = unaryL ((h : Int) + 1) ++ (if n - 2 ^ (h * kk) < 2 ^ (h * kk) then putL (h * kk + kk - 1) (n - 2 ^ (h * kk)) else putL (h * kk + kk) (n - 2 ^ (h * kk) + 2 ^ (h * kk))) := by
  have hze := zeta_is kk h hz
  have ek : ((h * kk + kk : Nat) : Int) - 1 = ((h * kk + kk - 1 : Nat) : Int) := by omega
  unfold zetaL
  rw [hh, hze]
  simp only
  rw [ek, Int.toNat_natCast, Int.toNat_natCast]
theorem zetaL_mono (kk : Nat) (top : Nat) (hk : 1 ≤ kk) (hz : ∀ h : Fin top, zetaIs kk h.val = true) (a b : Int) (h1 : 1 ≤ a) (h : a ≤ b) (h2 : b ≤ 1073741824) (ht : Int.tdiv (lg b) (kk : Int) < (top : Int)) : (zetaL (kk : Int) a).length ≤ (zetaL (kk : Int) b).length := by
  have hm := lg_mono a b h1 h h2
  obtain ⟨_, a0, a1, _⟩ := lg_facts a h1 (by omega)
  obtain ⟨_, b0, b1, _⟩ := lg_facts b (by omega) h2
  have hd : Int.tdiv (lg a) (kk : Int) ≤ Int.tdiv (lg b) (kk : Int) := by
    rw [Int.tdiv_eq_ediv_of_nonneg a0, Int.tdiv_eq_ediv_of_nonneg b0]
    exact Int.ediv_le_ediv (by omega) hm
  have hd0 : 0 ≤ Int.tdiv (lg a) (kk : Int) := Int.tdiv_nonneg a0 (by omega)
  obtain ⟨x, hx⟩ := Int.eq_ofNat_of_zero_le hd0
  obtain ⟨y, hy⟩ := Int.eq_ofNat_of_zero_le (Int.le_trans hd0 hd)
  have hxy : x ≤ y := by omega
  rw [zetaL_parts kk x a hk hx (hz ⟨x, by omega⟩), zetaL_parts kk y b hk hy (hz ⟨y, by omega⟩), List.length_append, List.length_append, unaryL_length _ (by omega), unaryL_length _ (by omega)]
  have hmul := Nat.mul_le_mul_right kk hxy
  by_cases he : x = y
  · subst he
    generalize (2 : Int) ^ (x * kk) = P
    split <;> split <;> simp only [putL_length] <;> omega
  · generalize (2 : Int) ^ (x * kk) = P
    generalize (2 : Int) ^ (y * kk) = P2
    split <;> split <;> simp only [putL_length] <;> omega
theorem layL_mono (kind a b : Int) (hk1 : 1 ≤ kind) (hk5 : kind ≤ 5) (h1 : 1 ≤ a) (h : a ≤ b) (h2 : b ≤ 1073741824) : (layL kind a).length ≤ (layL kind b).length := by
  obtain ⟨_, b0, b1, _⟩ := lg_facts b (by omega) h2
  have hkk : kind = 1 ∨ kind = 2 ∨ kind = 3 ∨ kind = 4 ∨ kind = 5 := by omega
  unfold layL
  rcases hkk with rfl | rfl | rfl | rfl | rfl
  · rw [if_pos rfl, if_pos rfl, unaryL_length _ h1, unaryL_length _ (by omega)]; omega
  · rw [if_neg (by decide), if_pos rfl, if_neg (by decide), if_pos rfl]; exact gammaL_mono a b h1 h h2
  · rw [if_neg (by decide), if_neg (by decide), if_pos rfl, if_neg (by decide), if_neg (by decide), if_pos rfl]; exact deltaL_mono a b h1 h h2
  · rw [if_neg (by decide), if_neg (by decide), if_neg (by decide), if_pos rfl, if_neg (by decide), if_neg (by decide), if_neg (by decide), if_pos rfl]
    exact zetaL_mono 2 16 (by omega) zetaIs2 a b h1 h h2 (by rw [Int.tdiv_eq_ediv_of_nonneg b0]; omega)
  · rw [if_neg (by decide), if_neg (by decide), if_neg (by decide), if_neg (by decide), if_neg (by decide), if_neg (by decide), if_neg (by decide), if_neg (by decide)]
    exact zetaL_mono 3 11 (by omega) zetaIs3 a b h1 h h2 (by rw [Int.tdiv_eq_ediv_of_nonneg b0]; omega)
/-- How long a code can be. -/
def lenOk (kind : Nat) : Bool := Nat.ble (layL (kind : Int) 1073741824).length 70
theorem len_all : ∀ k : Fin 4, lenOk (k.val + 2) = true := by decide +kernel
theorem layL_short (kind n : Int) (hk1 : 2 ≤ kind) (hk5 : kind ≤ 5) (h1 : 1 ≤ n) (h2 : n ≤ 1073741824) : (layL kind n).length ≤ 70 := by
  have hm := layL_mono kind n 1073741824 (by omega) hk5 h1 h2 (by omega)
  obtain ⟨k, hk⟩ := Int.eq_ofNat_of_zero_le (show 0 ≤ kind - 2 by omega)
  have ha := len_all ⟨k, by omega⟩
  unfold lenOk at ha
  simp only [Nat.ble_eq] at ha
  rw [show ((k + 2 : Nat) : Int) = kind by omega] at ha
  omega
theorem layL_len (kind n : Int) (hk1 : 1 ≤ kind) (hk5 : kind ≤ 5) (h1 : 1 ≤ n) (h2 : n ≤ 1073741824) (h3 : kind = 1 → n ≤ 1000) : (layL kind n).length ≤ 1000 := by
  by_cases hk : kind = 1
  · subst hk
    have := h3 rfl
    unfold layL
    rw [if_pos rfl, unaryL_length _ h1]; omega
  · have := layL_short kind n (by omega) hk5 h1 h2; omega
theorem read_good (kind : Int) (l : List Int) (a c : Nat) (n : Int) (hr : ReadL kind (l.drop a) = some (n, c)) (hn : n ≤ 1073741824) : readR kind l a = (n, ((a + c : Nat) : Int), true) := by
  unfold readR
  rw [hr]
  simp only
  rw [if_neg (by omega)]
theorem take_good (kind : Int) (l : List Int) (a c : Nat) (n : Int) (hk1 : 1 ≤ kind) (hk5 : kind ≤ 5) (ha : a ≤ l.length) (hr : ReadL kind (l.drop a) = some (n, c)) (hn : n ≤ 1073741824) : takeR kind l (a : Int) = (n, ((a + c : Nat) : Int), 0) := by
  unfold takeR
  rw [if_pos ⟨⟨hk1, hk5⟩, by omega, by omega⟩, Int.toNat_natCast, read_good kind l a c n hr hn]
  rfl
theorem take_bad (kind : Int) (l : List Int) (a : Nat) (hk1 : 1 ≤ kind) (hk5 : kind ≤ 5) (ha : a ≤ l.length) (hr : ReadL kind (l.drop a) = none) : takeR kind l (a : Int) = (0, 0, 9) := by
  have e : readR kind l a = (0, 0, false) := by unfold readR; rw [hr]
  unfold takeR
  rw [if_pos ⟨⟨hk1, hk5⟩, by omega, by omega⟩, Int.toNat_natCast, e]
  rfl
end Go.Proofs.Ytnpghcikhpglkaa.Pb
namespace Go.Proofs.Ytnpghcikhpglkaa.Q
open Go.RowKit Go.Proofs.YtnpghcikhpglkaaW.PrintWords Go.Proofs.YtnpghcikhpglkaaW.PrintLast Go.Proofs.YtnpghcikhpglkaaW.PrintMore Go.Proofs.Ytnpghcikhpglkaa.Hand Go.Proofs.Ytnpghcikhpglkaa.Pu
set_option linter.unusedVariables false
set_option linter.unusedSimpArgs false
theorem refbit_some (s : ByteArray) (n i : Int) (h0 : 0 ≤ i) (h1 : i < 8 * s.size) (h2 : i < 1073741824) : herbariumref1_bit.f s n i = some (bitOf s i) := by
  unfold herbariumref1_bit.f
  have e1 : wrap64 (Int.tdiv i 8) = i / 8 := by rw [tdiv8 i h0, wrap_in _ (by omega) (by omega)]
  have e2 : wrap64 (7 - Int.tmod i 8) = 7 - i % 8 := by rw [tmod8 i h0, wrap_in _ (by omega) (by omega)]
  rw [e1, e2, if_pos (by omega), if_pos (by omega), if_pos (by omega)]
  congr 1
  obtain ⟨b0, b1⟩ := bt_range s (i / 8)
  rw [wrap_in (bt s (i / 8)) (by omega) (by omega)]
  have hsh : shr .i64 (bt s (i / 8)) (7 - i % 8) = bt s (i / 8) / 2 ^ (7 - i % 8).toNat := by
    unfold shr
    rw [Nat.min_eq_left (by simp [IntKind.bits]; omega)]
  have hn := div_pow_nonneg (bt s (i / 8)) (7 - i % 8).toNat b0
  have hl := div_pow_le (bt s (i / 8)) (7 - i % 8).toNat b0
  rw [hsh, and_one _ hn (by omega)]
  rfl
def Tail0 (s : ByteArray) (n : Int) : Prop := ∀ i : Nat, n ≤ (i : Int) → (i : Int) < 8 * s.size → bitOf s (i : Int) = 0
theorem tail_l0 (s : ByteArray) (n : Int) (hs : s.size ≤ 1000) : ∀ (d i k : Nat), i + d = 8 * s.size → d + 1 ≤ k → ∃ r, herbariumref1_Bits.l0 k (i : Int) s n = some r ∧ (r = true ↔ Tail0 s (i : Int)) := by
  intro d
  induction d with
  | zero =>
    intro i k h hk
    obtain ⟨k, rfl⟩ : ∃ k', k = k' + 1 := ⟨k - 1, by omega⟩
    rw [herbariumref1_Bits.l0, wrap_in _ (by omega) (by omega), if_neg (by omega)]
    exact ⟨true, rfl, by simp only [true_iff]; intro j h1 h2; omega⟩
  | succ d ih =>
    intro i k h hk
    obtain ⟨k, rfl⟩ : ∃ k', k = k' + 1 := ⟨k - 1, by omega⟩
    rw [herbariumref1_Bits.l0, wrap_in (8 * (s.size : Int)) (by omega) (by omega), if_pos (by omega), refbit_some s n i (by omega) (by omega) (by omega), Option.bind_some, wrap_in _ (by omega) (by omega)]
    by_cases hb : bitOf s (i : Int) = 0
    · rw [if_pos hb]
      obtain ⟨r, h1, h2⟩ := ih (i + 1) k (by omega) (by omega)
      refine ⟨r, h1, h2.trans ⟨fun h j h3 h4 => ?_, fun h j h3 h4 => h j (by omega) h4⟩⟩
      by_cases hj : j = i
      · rw [hj]; exact hb
      · exact h j (by omega) h4
    · rw [if_neg hb]
      exact ⟨false, rfl, by simp only [Bool.false_eq_true, false_iff]; intro h; exact hb (h i (by omega) (by omega))⟩
theorem low_bits (b : Int) (r : Nat) (h0 : 1 ≤ r) (h1 : r ≤ 7) : b % 2 ^ (8 - r) = 0 ↔ ∀ j : Nat, r ≤ j → j < 8 → b / 2 ^ (7 - j) % 2 = 0 := by
  have hr : r = 1 ∨ r = 2 ∨ r = 3 ∨ r = 4 ∨ r = 5 ∨ r = 6 ∨ r = 7 := by omega
  constructor
  · intro h j h2 h3
    have hj : j = 1 ∨ j = 2 ∨ j = 3 ∨ j = 4 ∨ j = 5 ∨ j = 6 ∨ j = 7 := by omega
    rcases hr with rfl | rfl | rfl | rfl | rfl | rfl | rfl <;> rcases hj with rfl | rfl | rfl | rfl | rfl | rfl | rfl <;> first | (exfalso; omega) | (simp only [Nat.reduceSub, Int.reducePow] at h ⊢; omega)
  · intro h
    have h7 := h 7 (by omega) (by omega)
    have g : ∀ j : Nat, r ≤ j → j < 8 → b / 2 ^ (7 - j) % 2 = 0 := h
    rcases hr with rfl | rfl | rfl | rfl | rfl | rfl | rfl
    · have a1 := g 1 (by omega) (by omega); have a2 := g 2 (by omega) (by omega); have a3 := g 3 (by omega) (by omega); have a4 := g 4 (by omega) (by omega); have a5 := g 5 (by omega) (by omega); have a6 := g 6 (by omega) (by omega)
      clear g h; simp only [Nat.reduceSub, Int.reducePow] at *; omega
    · have a2 := g 2 (by omega) (by omega); have a3 := g 3 (by omega) (by omega); have a4 := g 4 (by omega) (by omega); have a5 := g 5 (by omega) (by omega); have a6 := g 6 (by omega) (by omega)
      clear g h; simp only [Nat.reduceSub, Int.reducePow] at *; omega
    · have a3 := g 3 (by omega) (by omega); have a4 := g 4 (by omega) (by omega); have a5 := g 5 (by omega) (by omega); have a6 := g 6 (by omega) (by omega)
      clear g h; simp only [Nat.reduceSub, Int.reducePow] at *; omega
    · have a4 := g 4 (by omega) (by omega); have a5 := g 5 (by omega) (by omega); have a6 := g 6 (by omega) (by omega)
      clear g h; simp only [Nat.reduceSub, Int.reducePow] at *; omega
    · have a5 := g 5 (by omega) (by omega); have a6 := g 6 (by omega) (by omega)
      clear g h; simp only [Nat.reduceSub, Int.reducePow] at *; omega
    · have a6 := g 6 (by omega) (by omega)
      clear g h; simp only [Nat.reduceSub, Int.reducePow] at *; omega
    · clear g h; simp only [Nat.reduceSub, Int.reducePow] at *; omega
theorem tail_iff (s : ByteArray) (n : Int) (h0 : 0 ≤ n) (h1 : n ≤ 6000) (h2 : (s.size : Int) = (n + 7) / 8) : Tail0 s n ↔ (n % 8 = 0 ∨ bt s ((s.size : Int) - 1) % 2 ^ (8 - n % 8).toNat = 0) := by
  by_cases h3 : n % 8 = 0
  · exact ⟨fun _ => .inl h3, fun _ i h4 h5 => by omega⟩
  · obtain ⟨m, rfl⟩ := Int.eq_ofNat_of_zero_le h0
    have hs : ((s.size : Int) - 1) = ((m / 8 : Nat) : Int) := by omega
    have hr : (8 - (m : Int) % 8).toNat = 8 - m % 8 := by omega
    rw [hs, hr, or_iff_right h3, low_bits _ (m % 8) (by omega) (by omega)]
    constructor
    · intro h j h4 h5
      have := h (8 * (m / 8) + j) (by omega) (by omega)
      rwa [bitOf_at s (m / 8) j h5] at this
    · intro h i h4 h5
      have e := bitOf_at s (m / 8) (i % 8) (by omega)
      rw [show 8 * (m / 8) + i % 8 = i by omega] at e
      rw [e]
      exact h (i % 8) (by omega) (by omega)
theorem refBits_eq (s : ByteArray) (n : Int) (k : Nat) (hk : 8100 ≤ k) : herbariumref1_Bits.f k s n = some (decide (MayP s n)) := by
  obtain ⟨k, rfl⟩ : ∃ k', k = k' + 1 := ⟨k - 1, by omega⟩
  unfold herbariumref1_Bits.f herbariumref0_Num.f
  by_cases h0 : n ≥ 0
  · rw [if_pos h0, Option.bind_some]
    by_cases h1 : n ≤ 6000
    · have hw : wrap64 (Int.tdiv (wrap64 (n + 7)) 8) = (n + 7) / 8 := by
        rw [wrap_in (n + 7) (by omega) (by omega), tdiv8 _ (by omega), wrap_in _ (by omega) (by omega)]
      rw [decide_eq_true h1, if_pos rfl, hw]
      by_cases h2 : (s.size : Int) = (n + 7) / 8
      · rw [show ((s.size : Int) != (n + 7) / 8) = false by simp [h2], herbariumref1_Bits.j0, if_neg (by decide)]
        obtain ⟨m, rfl⟩ := Int.eq_ofNat_of_zero_le h0
        obtain ⟨r, e1, e2⟩ := tail_l0 s (m : Int) (by omega) (8 * s.size - m) m k (by omega) (by omega)
        rw [e1]
        congr 1
        rw [tail_iff s (m : Int) h0 h1 h2] at e2
        rw [Bool.eq_iff_iff, decide_eq_true_iff, e2]
        exact ⟨fun h => ⟨h0, h1, h2, h⟩, fun h => h.2.2.2⟩
      · rw [show ((s.size : Int) != (n + 7) / 8) = true by simp [h2], herbariumref1_Bits.j0, if_pos rfl, decide_eq_false (fun h => h2 h.2.2.1)]
    · rw [decide_eq_false h1, if_neg (by decide), herbariumref1_Bits.j0, if_pos rfl, decide_eq_false (p := MayP s n) (fun h => h1 h.2.1)]
  · rw [if_neg h0, Option.bind_some, if_neg (by decide), herbariumref1_Bits.j0, if_pos rfl, decide_eq_false (p := MayP s n) (fun h => h0 h.1)]
end Go.Proofs.Ytnpghcikhpglkaa.Q
namespace Go.Proofs.Ytnpghcikhpglkaa.Pb
open Go.RowKit Go.Proofs.YtnpghcikhpglkaaW.PrintWords Go.Proofs.YtnpghcikhpglkaaW.PrintLast Go.Proofs.YtnpghcikhpglkaaW.PrintMore Go.Proofs.Ytnpghcikhpglkaa.Hand Go.Proofs.Ytnpghcikhpglkaa.Pu Go.Proofs.Ytnpghcikhpglkaa.Q
set_option linter.unusedVariables false
set_option linter.unusedSimpArgs false
theorem take_snoc (l : List Int) (i : Nat) (h : i < l.length) : l.take i ++ [l.getD i 0] = l.take (i + 1) := by
  rw [List.take_succ_eq_append_getElem h, List.getD_eq_getElem?_getD, List.getElem?_eq_getElem h]
  rfl
/-- Of. -/
theorem of_loop (l : List Int) (hl : IsBits l) (hlen : l.length ≤ 1000000) : ∀ (d k i : Nat), i + d = l.length → d < k → herbariumref1_Of.l0 k (l.take i) (i : Int) (packS l) (l.length : Int) = some l
  | 0, k, i, hi, hk => by
    obtain ⟨k, rfl⟩ : ∃ m, k = m + 1 := ⟨k - 1, by omega⟩
    simp only [herbariumref1_Of.l0]
    rw [if_neg (by omega), List.take_of_length_le (by omega)]
  | d + 1, k, i, hi, hk => by
    obtain ⟨k, rfl⟩ : ∃ m, k = m + 1 := ⟨k - 1, by omega⟩
    have hsz := packS_size l
    have hb := hl.getD i
    simp only [herbariumref1_Of.l0]
    rw [if_pos (by omega), refbit_some _ _ _ (by omega) (by omega) (by omega), bitOf_packS l hl i (by omega), Option.bind_some, if_pos (by rw [List.length_take]; omega), Int.emod_eq_of_lt (by omega) (by omega), take_snoc l i (by omega), wrap_in _ (by omega) (by omega)]
    exact of_loop l hl hlen d k (i + 1) (by omega) (by omega)
theorem refOf_eq (l : List Int) (hl : IsBits l) (hlen : l.length ≤ 1000000) (k : Nat) (hk : l.length < k) : herbariumref1_Of.f k (packS l) (l.length : Int) = some l := by
  unfold herbariumref1_Of.f
  exact of_loop l hl hlen l.length k 0 (by omega) hk
/-- Zeros. -/
theorem rzeros_loop (l : List Int) (hlen : l.length ≤ 1000000) (x : Int) (hx : 0 ≤ x) : ∀ (d k i : Nat), i + d = l.length → d < k → x ≤ i →
    herbariumref1_List_Zeros.l0 k l x (i : Int) = some (if zerosL (l.drop i) < 0 then -1 else (i : Int) + zerosL (l.drop i) - x)
  | 0, k, i, hi, hk, hxi => by
    obtain ⟨k, rfl⟩ : ∃ m, k = m + 1 := ⟨k - 1, by omega⟩
    simp only [herbariumref1_List_Zeros.l0]
    rw [if_neg (by omega), List.drop_of_length_le (by omega)]
    rfl
  | d + 1, k, i, hi, hk, hxi => by
    obtain ⟨k, rfl⟩ : ∃ m, k = m + 1 := ⟨k - 1, by omega⟩
    simp only [herbariumref1_List_Zeros.l0]
    have hd : l.drop i = l.getD i 0 :: l.drop (i + 1) := by
      rw [List.drop_eq_getElem_cons (by omega), List.getD_eq_getElem?_getD, List.getElem?_eq_getElem (by omega)]
      rfl
    have hrd : rd l (i : Int) = l.getD i 0 := by unfold rd; rw [Int.toNat_natCast]
    have hr := zerosL_range (l.drop (i + 1))
    rw [List.length_drop] at hr
    rw [if_pos (by omega), if_pos (by omega), hrd, hd, zerosL]
    by_cases h1 : l.getD i 0 = 1
    · rw [if_pos h1, if_pos h1, if_neg (by omega), wrap_in _ (by omega) (by omega)]
      exact congrArg some (by omega)
    · rw [if_neg h1, if_neg h1, wrap_in _ (by omega) (by omega)]
      have := rzeros_loop l hlen x hx d k (i + 1) (by omega) (by omega) (by omega)
      rw [show ((i + 1 : Nat) : Int) = (i : Int) + 1 by omega] at this
      rw [this]
      congr 1
      by_cases h2 : zerosL (l.drop (i + 1)) < 0
      · rw [if_pos h2, if_pos h2, if_pos (by omega)]
      · rw [if_neg h2, if_neg h2, if_neg (by omega)]; omega
theorem refZeros_eq (l : List Int) (hlen : l.length ≤ 1000000) (a : Nat) (ha : a ≤ l.length) (k : Nat) (hk : l.length < k) : herbariumref1_List_Zeros.f k l (a : Int) = some (zerosL (l.drop a)) := by
  have hr := zerosL_range (l.drop a)
  unfold herbariumref1_List_Zeros.f
  rw [rzeros_loop l hlen (a : Int) (by omega) (l.length - a) k a (by omega) (by omega) (by omega)]
  congr 1
  split <;> omega
/-- Put. -/
theorem shr_eq (v : Int) (w : Nat) (hw : w ≤ 62) : shr .i64 v (w : Int) = v / 2 ^ w := by
  unfold shr
  rw [Nat.min_eq_left (by simp [IntKind.bits]; omega), Int.toNat_natCast]
theorem bit_eq (v : Int) (w : Nat) (hw : w ≤ 62) (h0 : 0 ≤ v) (h1 : v < 2 ^ 62) : (Go.bits .and .i64 (shr .i64 v (w : Int)) 1) % 256 = v / 2 ^ w % 2 := by
  have hn := div_pow_nonneg v w h0
  have hl := div_pow_le v w h0
  rw [shr_eq v w hw, and_one _ hn (by omega)]
  omega
theorem rput_loop (v : Int) (h0 : 0 ≤ v) (h1 : v < 2 ^ 62) : ∀ (w : Nat) (l : List Int) (k : Nat), w ≤ 62 → l.length + w ≤ 1000000 → w < k → herbariumref1_List_Put.l0 k l v ((w : Int) - 1) = some (l ++ putL w v)
  | 0, l, k, hw, hlen, hk => by
    obtain ⟨k, rfl⟩ : ∃ m, k = m + 1 := ⟨k - 1, by omega⟩
    simp only [herbariumref1_List_Put.l0]
    rw [if_neg (by omega)]
    simp [putL]
  | w + 1, l, k, hw, hlen, hk => by
    obtain ⟨k, rfl⟩ : ∃ m, k = m + 1 := ⟨k - 1, by omega⟩
    simp only [herbariumref1_List_Put.l0]
    have e : ((w + 1 : Nat) : Int) - 1 = (w : Int) := by omega
    rw [e, if_pos (by omega), if_pos (by omega), if_pos (by omega), bit_eq v w (by omega) h0 h1, wrap_in _ (by omega) (by omega), rput_loop v h0 h1 w (l ++ [v / 2 ^ w % 2]) k (by omega) (by rw [List.length_append, List.length_singleton]; omega) (by omega), List.append_assoc]
    rfl
theorem refPut_eq (l : List Int) (v : Int) (w : Nat) (h0 : 0 ≤ v) (h1 : v < 2 ^ 62) (hw : w ≤ 62) (hlen : l.length ≤ 900000) (k : Nat) (hk : w < k) : herbariumref1_List_Put.f k l v (w : Int) = some (l ++ putL w v) := by
  unfold herbariumref1_List_Put.f
  rw [wrap_in _ (by omega) (by omega)]
  exact rput_loop v h0 h1 w l k hw (by omega) hk
/-- Get. -/
theorem rget_loop (l : List Int) (hl : IsBits l) (hlen : l.length ≤ 1000000) (a w : Nat) (haw : a + w ≤ l.length) (hw : w ≤ 61) : ∀ (d k i : Nat), i + d = w → d < k →
    herbariumref1_List_Get.l0 k l (a : Int) (w : Int) (numL ((l.drop a).take i)) ((a + i : Nat) : Int) = some (numL ((l.drop a).take w))
  | 0, k, i, hi, hk => by
    obtain ⟨k, rfl⟩ : ∃ m, k = m + 1 := ⟨k - 1, by omega⟩
    obtain rfl : i = w := by omega
    simp only [herbariumref1_List_Get.l0]
    rw [wrap_in _ (by omega) (by omega), if_neg (by omega)]
  | d + 1, k, i, hi, hk => by
    obtain ⟨k, rfl⟩ : ∃ m, k = m + 1 := ⟨k - 1, by omega⟩
    simp only [herbariumref1_List_Get.l0]
    have hib : IsBits ((l.drop a).take i) := fun x hx => hl x (List.mem_of_mem_drop (List.mem_of_mem_take hx))
    have hr := numL_range hib
    have hlt : (l.drop a).length = l.length - a := List.length_drop ..
    have hlen2 : ((l.drop a).take i).length = i := by rw [List.length_take, hlt]; omega
    rw [hlen2] at hr
    have hp : (2 : Int) ^ i ≤ 2 ^ 60 := by have := Nat.pow_le_pow_right (n := 2) (by decide) (show i ≤ 60 by omega); exact_mod_cast this
    have h60 : (2 : Int) ^ 60 < 2 ^ 61 := by decide
    have hb := hl.getD (a + i)
    have hrd : rd l ((a + i : Nat) : Int) = l.getD (a + i) 0 := by unfold rd; rw [Int.toNat_natCast]
    have hsn : (l.drop a).take (i + 1) = (l.drop a).take i ++ [l.getD (a + i) 0] := by
      rw [List.take_succ_eq_append_getElem (by rw [hlt]; omega), List.getElem_drop, List.getD_eq_getElem?_getD, List.getElem?_eq_getElem (by omega)]
      rfl
    rw [wrap_in ((a : Int) + (w : Int)) (by omega) (by omega), if_pos (by omega), if_pos (by omega), if_pos (by omega), hrd, wrap_in (l.getD (a + i) 0) (by omega) (by omega), wrap_in (2 * _) (by omega) (by omega), wrap_in (2 * _ + _) (by omega) (by omega), ← numL_snoc, ← hsn, wrap_in _ (by omega) (by omega)]
    exact rget_loop l hl hlen a w haw hw d k (i + 1) (by omega) (by omega)
theorem refGet_eq (l : List Int) (hl : IsBits l) (hlen : l.length ≤ 1000000) (a w : Nat) (haw : a + w ≤ l.length) (hw : w ≤ 61) (k : Nat) (hk : w < k) : herbariumref1_List_Get.f k l (a : Int) (w : Int) = some (numL ((l.drop a).take w)) := by
  unfold herbariumref1_List_Get.f
  exact rget_loop l hl hlen a w haw hw w k 0 (by omega) hk
/-- log. -/
theorem log_loop : ∀ (g : Nat) (x c : Int) (k : Nat), (2 : Int) ^ g ≤ x → x < 2 ^ (g + 1) → 0 ≤ c → c + g ≤ 1000000 → g < k → herbariumref1_log.l0 k x c = some (c + g)
  | 0, x, c, k, h1, h2, h3, h4, hk => by
    obtain ⟨k, rfl⟩ : ∃ m, k = m + 1 := ⟨k - 1, by omega⟩
    simp only [herbariumref1_log.l0]
    rw [if_neg (by omega)]
    simp
  | g + 1, x, c, k, h1, h2, h3, h4, hk => by
    obtain ⟨k, rfl⟩ : ∃ m, k = m + 1 := ⟨k - 1, by omega⟩
    simp only [herbariumref1_log.l0]
    have hp : (0 : Int) < 2 ^ g := Int.pow_pos (by decide)
    have e1 : (2 : Int) ^ (g + 1) = 2 ^ g * 2 := Int.pow_succ 2 g
    have e2 : (2 : Int) ^ (g + 1 + 1) = 2 ^ (g + 1) * 2 := Int.pow_succ 2 (g + 1)
    rw [if_pos (by omega), wrap_in _ (by omega) (by omega), log_loop g (x / 2) (c + 1) k (by omega) (by omega) (by omega) (by omega) (by omega)]
    exact congrArg some (by omega)
theorem refLog_eq (n : Int) (h1 : 1 ≤ n) (h2 : n ≤ 1073741824) (k : Nat) (hk : 40 ≤ k) : herbariumref1_log.f k n = some (lg n) := by
  obtain ⟨_, g0, g1, g2, g3⟩ := lg_facts n h1 h2
  unfold herbariumref1_log.f
  rw [log_loop (lg n).toNat n 0 k g2 g3 (by omega) (by omega) (by omega)]
  exact congrArg some (by omega)
end Go.Proofs.Ytnpghcikhpglkaa.Pb
namespace Go.Proofs.Ytnpghcikhpglkaa.Pb
open Go.RowKit Go.Proofs.YtnpghcikhpglkaaW.PrintWords Go.Proofs.YtnpghcikhpglkaaW.PrintLast Go.Proofs.YtnpghcikhpglkaaW.PrintMore Go.Proofs.Ytnpghcikhpglkaa.Hand Go.Proofs.Ytnpghcikhpglkaa.Pu Go.Proofs.Ytnpghcikhpglkaa.Q
set_option linter.unusedVariables false
set_option linter.unusedSimpArgs false
theorem pow_le60 (w : Nat) (hw : w ≤ 60) : (0 : Int) < 2 ^ w ∧ (2 : Int) ^ w ≤ 1152921504606846976 := by
  refine ⟨Int.pow_pos (by decide), ?_⟩
  have := Nat.pow_le_pow_right (n := 2) (by decide) hw
  have h2 : ((2 ^ w : Nat) : Int) ≤ ((2 ^ 60 : Nat) : Int) := by exact_mod_cast this
  rw [Int.natCast_pow] at h2
  have e : ((2 ^ 60 : Nat) : Int) = 1152921504606846976 := by decide
  rw [e] at h2
  exact h2
theorem pows (kk h : Nat) (hkk : kk = 2 ∨ kk = 3) (hh : h ≤ 15) : h * kk ≤ 45 ∧ (0 : Int) < 2 ^ (h * kk) ∧ (2 : Int) ^ (h * kk) ≤ 1152921504606846976 ∧ (2 : Int) ^ (h * kk + kk) ≤ 1152921504606846976 ∧ (2 : Int) ^ (h * kk + kk) = 2 * 2 ^ (h * kk + kk - 1) ∧ 2 * (2 : Int) ^ (h * kk) ≤ 2 ^ (h * kk + kk - 1) := by
  have e0 : h * kk ≤ 45 := by rcases hkk with rfl | rfl <;> omega
  have a := pow_le60 (h * kk) (by omega)
  have b := pow_le60 (h * kk + kk) (by omega)
  refine ⟨e0, a.1, a.2, b.2, ?_, ?_⟩
  · have : h * kk + kk = (h * kk + kk - 1) + 1 := by omega
    conv => lhs; rw [this]
    rw [Int.pow_succ, Int.mul_comm]
  · rcases hkk with rfl | rfl
    · have : h * 2 + 2 - 1 = h * 2 + 1 := by omega
      rw [this, Int.pow_succ]; omega
    · have : h * 3 + 3 - 1 = h * 3 + 1 + 1 := by omega
      have hp : (0 : Int) < 2 ^ (h * 3) := Int.pow_pos (by decide)
      rw [this, Int.pow_succ, Int.pow_succ]; omega
theorem zetaR_eq (kk z : Nat) (most : Int) (r : List Int) (hk : 1 ≤ kk) (hz : zerosL r = (z : Int)) (hm : (z : Int) ≤ most - 1) (his : zetaIs kk z = true) (s : Nat) (hs : z * kk + kk = s + 1) (P : Int) (hP : (2 : Int) ^ (z * kk) = P) :
    zetaR (kk : Int) most r = if z + 1 + s ≤ r.length then
      (if numL ((r.drop (z + 1)).take s) < P then some (P + numL ((r.drop (z + 1)).take s), z + 1 + s)
      else if z + 1 + s + 1 ≤ r.length then some (P + (numL ((r.drop (z + 1)).take s) * 2 + numL ((r.drop (z + 1 + s)).take 1) - P), z + 1 + s + 1) else none)
    else none := by
  have hze := zeta_is kk z his
  have hu : unaryR most r = some ((z : Int) + 1, z + 1) := by
    unfold unaryR
    rw [hz, if_pos ⟨by omega, hm⟩, Int.toNat_natCast]
  unfold zetaR
  rw [hu, Option.bind_some]
  simp only
  rw [show (z : Int) + 1 - 1 = (z : Int) by omega, hze, Option.bind_some]
  simp only
  rw [hP, hs, show (((s + 1 : Nat) : Int) - 1).toNat = s by omega]
end Go.Proofs.Ytnpghcikhpglkaa.Pb
namespace Go.Proofs.Ytnpghcikhpglkaa.Pb
open Go.RowKit Go.Proofs.YtnpghcikhpglkaaW.PrintWords Go.Proofs.YtnpghcikhpglkaaW.PrintLast Go.Proofs.YtnpghcikhpglkaaW.PrintMore Go.Proofs.Ytnpghcikhpglkaa.Hand Go.Proofs.Ytnpghcikhpglkaa.Pu Go.Proofs.Ytnpghcikhpglkaa.Q
set_option linter.unusedVariables false
set_option linter.unusedSimpArgs false
theorem shl_60 (w : Nat) (hw : w ≤ 60) : shl .i64 1 (w : Int) = 2 ^ w := by
  have h := pow_le60 w hw
  unfold shl
  rw [Nat.min_eq_left (by simp [IntKind.bits]; omega), Int.one_mul, Int.toNat_natCast]
  exact wraps_i64 _ (by omega) (by omega)
theorem putL_add (w : Nat) : ∀ (v t : Int), putL w (v + 2 ^ w * t) = putL w v := by
  induction w with
  | zero => intro v t; rfl
  | succ w ih =>
    intro v t
    have hp : (2 : Int) ^ w ≠ 0 := Int.ne_of_gt (Int.pow_pos (by decide))
    have e1 : v + 2 ^ (w + 1) * t = v + 2 ^ w * (2 * t) := by rw [Int.pow_succ, Int.mul_assoc]
    have e2 : (v + 2 ^ w * (2 * t)) / 2 ^ w = v / 2 ^ w + 2 * t := Int.add_mul_ediv_left _ _ hp
    rw [e1, putL, putL, e2, ih]
    congr 1; omega
theorem unary_loop (n : Int) (hn : n ≤ 1000000) : ∀ (d : Nat) (l : List Int) (i : Int) (k : Nat), i + d = n → 0 ≤ i → l.length + d ≤ 1000000 → d < k → herbariumref1_List_Write.l0 k l n i = some (l ++ (List.replicate d 0 ++ [1]))
  | 0, l, i, k, hi, h0, hlen, hk => by
    obtain ⟨k, rfl⟩ : ∃ m, k = m + 1 := ⟨k - 1, by omega⟩
    simp only [herbariumref1_List_Write.l0]
    rw [if_neg (by omega), if_pos (by omega)]
    rfl
  | d + 1, l, i, k, hi, h0, hlen, hk => by
    obtain ⟨k, rfl⟩ : ∃ m, k = m + 1 := ⟨k - 1, by omega⟩
    simp only [herbariumref1_List_Write.l0]
    rw [if_pos (by omega), if_pos (by omega), wrap_in _ (by omega) (by omega), unary_loop n hn d (l ++ [0]) (i + 1) k (by omega) (by omega) (by simp; omega) (by omega), List.append_assoc]
    rfl
theorem write_unary (l : List Int) (n : Int) (h1 : 1 ≤ n) (h2 : n ≤ 1000) (hlen : l.length ≤ 100000) (k : Nat) (hk : 1100 ≤ k) : herbariumref1_List_Write.f k l 1 n = some (l ++ unaryL n) := by
  obtain ⟨k, rfl⟩ : ∃ m, k = m + 1 := ⟨k - 1, by omega⟩
  obtain ⟨m, hm⟩ := Int.eq_ofNat_of_zero_le (show 0 ≤ n - 1 by omega)
  rw [herbariumref1_List_Write.f, if_pos rfl, unary_loop n (by omega) m l 1 k (by omega) (by omega) (by omega) (by omega), unaryL_eq, hm, Int.toNat_natCast]
theorem write_gamma (l : List Int) (n : Int) (h1 : 1 ≤ n) (h2 : n ≤ 1073741824) (hlen : l.length ≤ 100000) (k : Nat) (hk : 100 ≤ k) : herbariumref1_List_Write.f k l 2 n = some (l ++ gammaL n) := by
  obtain ⟨k, rfl⟩ : ∃ m, k = m + 1 := ⟨k - 1, by omega⟩
  obtain ⟨_, g0, g1, g2, g3⟩ := lg_facts n h1 h2
  have hg := refLog_eq n h1 h2 k (by omega)
  unfold gammaL
  obtain ⟨g, e⟩ := Int.eq_ofNat_of_zero_le g0
  rw [e] at hg g1
  have e1 : wrap64 ((g : Int) + 1) = ((g + 1 : Nat) : Int) := by rw [wrap_in _ (by omega) (by omega)]; rfl
  rw [herbariumref1_List_Write.f, if_neg (by decide), if_pos rfl, hg, Option.bind_some, refPut_eq l 0 g (by omega) (by omega) (by omega) (by omega) k (by omega), Option.bind_some, Option.bind_some, e1, refPut_eq _ n (g + 1) (by omega) (by omega) (by omega) (by rw [List.length_append, putL_length]; omega) k (by omega), Option.bind_some, e, Int.toNat_natCast, List.append_assoc]
  rfl
theorem write_delta (l : List Int) (n : Int) (h1 : 1 ≤ n) (h2 : n ≤ 1073741824) (hlen : l.length ≤ 90000) (k : Nat) (hk : 200 ≤ k) : herbariumref1_List_Write.f k l 3 n = some (l ++ deltaL n) := by
  obtain ⟨k, rfl⟩ : ∃ m, k = m + 1 := ⟨k - 1, by omega⟩
  obtain ⟨_, g0, g1, g2, g3⟩ := lg_facts n h1 h2
  have hg := refLog_eq n h1 h2 k (by omega)
  unfold deltaL
  obtain ⟨g, e⟩ := Int.eq_ofNat_of_zero_le g0
  rw [e] at hg g1 g2
  rw [Int.toNat_natCast] at g2
  have hw := write_gamma l ((g : Int) + 1) (by omega) (by omega) (by omega) k (by omega)
  have hgl := gammaL_length ((g : Int) + 1)
  obtain ⟨_, _, gg1, _, _⟩ := lg_facts ((g : Int) + 1) (by omega) (by omega)
  have hp := pow_le60 g (by omega)
  have e3 : putL g (n - 2 ^ g) = putL g n := by
    have := putL_add g (n - 2 ^ g) 1
    rw [Int.mul_one, Int.sub_add_cancel] at this
    exact this.symm
  rw [herbariumref1_List_Write.f, if_neg (by decide), if_neg (by decide), if_pos rfl, hg, Option.bind_some, wrap_in ((g : Int) + 1) (by omega) (by omega), hw, Option.bind_some, Option.bind_some, if_pos (by omega), Option.bind_some, shl_60 g (by omega), wrap_in (n - _) (by omega) (by omega), refPut_eq _ (n - 2 ^ g) g (by omega) (by omega) (by omega) (by rw [List.length_append]; omega) k (by omega), Option.bind_some, e, Int.toNat_natCast, e3, List.append_assoc]
theorem wrap_hk (h kk : Nat) (hh : h ≤ 15) (hb : h * kk + kk ≤ 60) : wrap64 ((h : Int) * (kk : Int)) = ((h * kk : Nat) : Int) ∧ wrap64 (wrap64 ((h : Int) + 1) * (kk : Int)) = ((h * kk + kk : Nat) : Int) := by
  have e0 : (h : Int) * (kk : Int) = ((h * kk : Nat) : Int) := (Int.natCast_mul h kk).symm
  have e1 : ((h : Int) + 1) * (kk : Int) = ((h * kk + kk : Nat) : Int) := by rw [Int.add_mul, Int.one_mul, e0, Int.natCast_add]
  have e2 : wrap64 ((h : Int) + 1) = (h : Int) + 1 := wrap_in _ (by omega) (by omega)
  rw [e2, e1, e0]
  clear e0 e1 e2
  generalize h * kk = E at *
  exact ⟨wrap_in _ (by omega) (by omega), wrap_in _ (by omega) (by omega)⟩
theorem zlog (P Q R : Int) (s : Nat) (hQ : (2 : Int) ^ s = Q) (hP : 1 ≤ P) (hPQ : 2 * P ≤ Q) (hR : R = 2 * Q) (hs : s ≤ 60) (k : Nat) (hk : 100 ≤ k) : herbariumref1_log.f k (R - P - 1) = some (s : Int) := by
  unfold herbariumref1_log.f
  have e : (2 : Int) ^ (s + 1) = 2 ^ s * 2 := Int.pow_succ 2 s
  rw [log_loop s _ 0 k (by rw [hQ]; omega) (by rw [e, hQ]; omega) (by omega) (by omega) (by omega)]
  exact congrArg some (by omega)
theorem j1_core (l : List Int) (hl : l.length ≤ 90000) (n : Int) (h1 : 1 ≤ n) (h2 : n ≤ 1073741824) (h kk E s : Nat) (P Q R : Int) (hh15 : h ≤ 15) (hkk : (kk : Int) ≠ 0) (hh : Int.tdiv (lg n) (kk : Int) = (h : Int))
    (e1 : Aside0 (wrap64 ((h : Int) * (kk : Int)) = (E : Int))) (e2 : Aside0 (wrap64 (wrap64 ((h : Int) + 1) * (kk : Int)) = ((s + 1 : Nat) : Int))) (hs1 : shl .i64 1 (E : Int) = P) (hs2 : shl .i64 1 ((s + 1 : Nat) : Int) = R)
    (hs : s ≤ 50) (hQ : (2 : Int) ^ s = Q) (hP : 1 ≤ P) (hPQ : 2 * P ≤ Q) (hR : R = 2 * Q) (hR2 : R ≤ 1152921504606846976) (hlo : P ≤ n) (k : Nat) (hk : 200 ≤ k) :
    herbariumref1_List_Write.j1 (k + 1) l n (kk : Int) = some (l ++ (unaryL ((h : Int) + 1) ++ (if n - P < P then putL s (n - P) else putL (s + 1) (n - P + P)))) := by
  have hg := refLog_eq n h1 h2 k (by omega)
  have hlog := zlog P Q R s hQ hP hPQ hR (by omega) k (by omega)
  have hu : unaryL ((h : Int) + 1) = putL h 0 ++ putL 1 1 := by
    unfold unaryL; rw [show ((h : Int) + 1 - 1).toNat = h by omega]
  have hp1 := refPut_eq l 0 h (by omega) (by omega) (by omega) (by omega) k (by omega)
  have hp2 := refPut_eq (l ++ putL h 0) 1 1 (by omega) (by omega) (by omega) (by rw [List.length_append, putL_length]; omega) k (by omega)
  have hp2' : herbariumref1_List_Put.f k (l ++ putL h 0) 1 1 = some (l ++ putL h 0 ++ putL 1 1) := hp2
  have hll : (l ++ putL h 0 ++ putL 1 1).length ≤ 900000 := by simp only [List.length_append, putL_length]; omega
  have e3 : Aside0 (wrap64 ((s : Int) + 1) = ((s + 1 : Nat) : Int)) := ⟨by rw [wrap_in _ (by omega) (by omega)]; rfl⟩
  have e4 : Aside0 (wrap64 (((s + 1 : Nat) : Int) - 1) = (s : Int)) := ⟨by rw [wrap_in _ (by omega) (by omega)]; omega⟩
  have e5 : Aside0 (wrap64 (h : Int) = (h : Int)) := ⟨wrap_in _ (by omega) (by omega)⟩
  have e7 : Aside0 (wrap64 (R - P) = R - P) := ⟨wrap_in _ (by omega) (by omega)⟩
  have e8 : Aside0 (wrap64 (R - P - 1) = R - P - 1) := ⟨wrap_in _ (by omega) (by omega)⟩
  have e9 : Aside0 (wrap64 (R - (R - P)) = P) := ⟨by rw [wrap_in _ (by omega) (by omega)]; omega⟩
  have e10 : Aside0 (wrap64 (n - P) = n - P) := ⟨wrap_in _ (by omega) (by omega)⟩
  rw [hu, herbariumref1_List_Write.j1, hg, Option.bind_some, if_neg hkk, hh, e5.out, hp1, Option.bind_some, hp2', Option.bind_some, e1.out, e2.out, if_pos (by omega), if_pos (by omega), hs1, hs2, e7.out, e8.out, hlog, Option.bind_some, e3.out, if_pos (by omega), hs2, e4.out, e9.out, e10.out]
  by_cases hx : n - P < P
  · rw [if_pos hx, if_pos hx, refPut_eq _ (n - P) s (by omega) (by omega) (by omega) hll k (by omega), Option.bind_some]
    simp only [List.append_assoc]
  · have e11 : Aside0 (wrap64 (n - P + R) = n - P + R) := ⟨wrap_in _ (by omega) (by omega)⟩
    have e12 : Aside0 (wrap64 (n - P + R - (R - P)) = n - P + P) := ⟨by rw [wrap_in _ (by omega) (by omega)]; omega⟩
    rw [if_neg hx, if_neg hx, e11.out, e12.out, refPut_eq _ (n - P + P) (s + 1) (by omega) (by omega) (by omega) hll k (by omega), Option.bind_some]
    simp only [List.append_assoc]
theorem write_zeta (l : List Int) (n : Int) (kk : Nat) (hkk : kk = 2 ∨ kk = 3) (h1 : 1 ≤ n) (h2 : n ≤ 1073741824) (hlen : l.length ≤ 90000) (h : Nat) (hh : Int.tdiv (lg n) (kk : Int) = (h : Int)) (hh15 : h ≤ 15) (hz : zetaIs kk h = true) (hlo : (2 : Int) ^ (h * kk) ≤ n) (k : Nat) (hk : 300 ≤ k) :
    herbariumref1_List_Write.j1 k l n (kk : Int) = some (l ++ zetaL (kk : Int) n) := by
  obtain ⟨k, rfl⟩ : ∃ m, k = m + 1 := ⟨k - 1, by omega⟩
  obtain ⟨p0, p1, p2, p3, p4, p5⟩ := pows kk h hkk hh15
  have hkk0 : (kk : Int) ≠ 0 := by rcases hkk with rfl | rfl <;> decide
  have hk1 : 1 ≤ kk ∧ kk ≤ 3 := by rcases hkk with rfl | rfl <;> decide
  have hs1 := shl_60 (h * kk) (Nat.le_trans p0 (by decide))
  have hs2 := shl_60 (h * kk + kk) (Nat.le_trans (Nat.add_le_add p0 hk1.2) (by decide))
  have e1 := Aside0.mk (wrap_hk h kk hh15 (Nat.le_trans (Nat.add_le_add p0 hk1.2) (by decide)))
  rw [zetaL_parts kk h n hk1.1 hh hz]
  clear hkk hz
  generalize h * kk = E at *
  obtain ⟨s, hs⟩ : ∃ s, E + kk = s + 1 := ⟨E + kk - 1, by have := hk1.1; clear p1 p2 p3 p4 p5 hlo hs1 hs2; omega⟩
  have hs50 : s ≤ 50 := by have := hk1.2; clear p1 p2 p3 p4 p5 hlo hs1 hs2; omega
  rw [hs] at e1 hs2 p3 p4 p5 ⊢
  rw [Nat.add_sub_cancel] at p4 p5 ⊢
  exact j1_core l hlen n h1 h2 h kk E s (2 ^ E) (2 ^ s) (2 ^ (s + 1)) hh15 hkk0 hh ⟨e1.out.1⟩ ⟨e1.out.2⟩ hs1 hs2 hs50 rfl p1 p5 p4 p3 hlo k (by omega)
theorem refWrite_eq (l : List Int) (kind n : Int) (hk1 : 1 ≤ kind) (hk5 : kind ≤ 5) (hn : NumP kind n) (hlen : l.length ≤ 80000) (k : Nat) (hk : 1300 ≤ k) : herbariumref1_List_Write.f k l kind n = some (l ++ layL kind n) := by
  obtain ⟨h1, h2, h3⟩ := hn
  obtain ⟨_, g0, g1, _, _⟩ := lg_facts n h1 h2
  have hkk : kind = 1 ∨ kind = 2 ∨ kind = 3 ∨ kind = 4 ∨ kind = 5 := by omega
  unfold layL
  rcases hkk with rfl | rfl | rfl | rfl | rfl
  · rw [if_pos rfl]; exact write_unary l n h1 (h3 rfl) (by omega) k (by omega)
  · rw [if_neg (by decide), if_pos rfl]; exact write_gamma l n h1 h2 (by omega) k (by omega)
  · rw [if_neg (by decide), if_neg (by decide), if_pos rfl]; exact write_delta l n h1 h2 (by omega) k (by omega)
  · rw [if_neg (by decide), if_neg (by decide), if_neg (by decide), if_pos rfl]
    obtain ⟨k, rfl⟩ : ∃ m, k = m + 1 := ⟨k - 1, by omega⟩
    obtain ⟨h, hh⟩ := Int.eq_ofNat_of_zero_le (show 0 ≤ lg n / 2 by omega)
    have hlo := low_le (kk := 2) h1 h2 hh.symm (by omega)
    rw [Int.natCast_pow] at hlo
    rw [herbariumref1_List_Write.f, if_neg (by decide), if_neg (by decide), if_neg (by decide), if_neg (by decide)]
    exact write_zeta l n 2 (.inl rfl) h1 h2 (by omega) h (by rw [Int.tdiv_eq_ediv_of_nonneg g0]; exact hh) (by omega) (zetaIs2 ⟨h, by omega⟩) hlo k (by omega)
  · rw [if_neg (by decide), if_neg (by decide), if_neg (by decide), if_neg (by decide)]
    obtain ⟨k, rfl⟩ : ∃ m, k = m + 1 := ⟨k - 1, by omega⟩
    obtain ⟨h, hh⟩ := Int.eq_ofNat_of_zero_le (show 0 ≤ lg n / 3 by omega)
    have hlo := low_le (kk := 3) h1 h2 hh.symm (by omega)
    rw [Int.natCast_pow] at hlo
    rw [herbariumref1_List_Write.f, if_neg (by decide), if_neg (by decide), if_neg (by decide), if_pos rfl]
    exact write_zeta l n 3 (.inr rfl) h1 h2 (by omega) h (by rw [Int.tdiv_eq_ediv_of_nonneg g0]; exact hh) (by omega) (zetaIs3 ⟨h, by omega⟩) hlo k (by omega)
end Go.Proofs.Ytnpghcikhpglkaa.Pb
namespace Go.Proofs.Ytnpghcikhpglkaa.Pb
open Go.RowKit Go.Proofs.YtnpghcikhpglkaaW.PrintWords Go.Proofs.YtnpghcikhpglkaaW.PrintLast Go.Proofs.YtnpghcikhpglkaaW.PrintMore Go.Proofs.Ytnpghcikhpglkaa.Hand Go.Proofs.Ytnpghcikhpglkaa.Pu Go.Proofs.Ytnpghcikhpglkaa.Q
set_option linter.unusedVariables false
set_option linter.unusedSimpArgs false
theorem between_any (x a b : Int) : herbariumref0_Between.f x a b = some (decide (a ≤ x ∧ x ≤ b)) := by
  unfold herbariumref0_Between.f
  by_cases h : x ≥ a
  · rw [if_pos h]; congr 1; rw [decide_eq_decide]; omega
  · rw [if_neg h, decide_eq_false (fun h2 => h h2.1)]
theorem refCode_eq (kind n : Int) : herbariumref1_Code.f kind n = some (decide ((1 ≤ kind ∧ kind ≤ 5) ∧ NumP kind n)) := by
  unfold herbariumref1_Code.f NumP
  by_cases h1 : kind = 1
  · rw [if_pos h1, between_any, Option.bind_some]; congr 1; rw [decide_eq_decide]
    constructor
    · intro h; exact ⟨by omega, by omega, by omega, fun _ => h.2⟩
    · intro h; exact ⟨h.2.1, h.2.2.2 h1⟩
  · rw [if_neg h1, between_any, Option.bind_some]
    by_cases h2 : 2 ≤ kind ∧ kind ≤ 5
    · rw [decide_eq_true h2, if_pos rfl, between_any, Option.bind_some]; congr 1; rw [decide_eq_decide]
      constructor
      · intro h; exact ⟨by omega, h.1, h.2, fun h => absurd h h1⟩
      · intro h; exact ⟨h.2.1, h.2.2.1⟩
    · rw [decide_eq_false h2, if_neg (by decide), decide_eq_false (fun h => h2 (by have := h.1; omega))]
/-- Read's answer, as the document has it. -/
def rr (kind : Int) (l : List Int) (a : Nat) : Int × Int := if (readR kind l a).2.2 = true then ((readR kind l a).1, (readR kind l a).2.1) else (-1, 0)
theorem rr_none (kind : Int) (l : List Int) (a : Nat) (h : ReadL kind (l.drop a) = none) : rr kind l a = (-1, 0) := by
  have e : readR kind l a = (0, 0, false) := by unfold readR; rw [h]
  unfold rr; rw [e]; rfl
theorem rr_big (kind : Int) (l : List Int) (a c : Nat) (v : Int) (h : ReadL kind (l.drop a) = some (v, c)) (hv : 1073741824 < v) : rr kind l a = (-1, 0) := by
  have e : readR kind l a = (0, 0, false) := by unfold readR; rw [h]; simp only; rw [if_pos hv]
  unfold rr; rw [e]; rfl
theorem rr_some (kind : Int) (l : List Int) (a c : Nat) (v : Int) (h : ReadL kind (l.drop a) = some (v, c)) (hv : v ≤ 1073741824) : rr kind l a = (v, ((a + c : Nat) : Int)) := by
  unfold rr; rw [read_good kind l a c v h hv]; rfl
/-- A number that may be, or none. -/
def chk (v : Int) (x : Int) : Int × Int := if v ≤ 1073741824 then (v, x) else (-1, 0)
theorem chk_code (kind v x : Int) (hk : 2 ≤ kind ∧ kind ≤ 5) (hv : 1 ≤ v) : ((herbariumref1_Code.f kind v).bind fun t => (if t = true then (some (v, x)) else (some ((-1), 0)))) = some (chk v x) := by
  rw [refCode_eq, Option.bind_some]
  unfold chk
  by_cases h : v ≤ 1073741824
  · rw [if_pos h, decide_eq_true (p := (1 ≤ kind ∧ kind ≤ 5) ∧ NumP kind v) ⟨by omega, hv, h, by omega⟩, if_pos rfl]
  · rw [if_neg h, decide_eq_false (p := (1 ≤ kind ∧ kind ≤ 5) ∧ NumP kind v) (fun h2 => h h2.2.2.1), if_neg (by decide)]
theorem rr_chk (kind : Int) (l : List Int) (a c : Nat) (v : Int) (h : ReadL kind (l.drop a) = some (v, c)) : rr kind l a = chk v ((a + c : Nat) : Int) := by
  unfold chk
  by_cases hv : v ≤ 1073741824
  · rw [if_pos hv, rr_some kind l a c v h hv]
  · rw [if_neg hv, rr_big kind l a c v h (by omega)]
theorem read1 (l : List Int) (hl : IsBits l) (hlen : l.length ≤ 6000) (a : Nat) (ha : a ≤ l.length) (k : Nat) (hk : 7000 ≤ k) : herbariumref1_List_Read.f k l (a : Int) 1 = some (rr 1 l a) := by
  obtain ⟨k, rfl⟩ : ∃ m, k = m + 1 := ⟨k - 1, by omega⟩
  have hr := zerosL_range (l.drop a)
  rw [List.length_drop] at hr
  have hu : ReadL 1 (l.drop a) = unaryR 1000 (l.drop a) := by unfold ReadL; rw [if_pos rfl]
  unfold unaryR at hu
  rw [herbariumref1_List_Read.f, refZeros_eq l (by omega) a ha k (by omega), Option.bind_some]
  by_cases h0 : zerosL (l.drop a) < 0
  · rw [if_neg (by omega)] at hu
    rw [if_pos h0, rr_none 1 l a hu]
  · rw [if_neg h0, if_pos rfl, wrap_in (zerosL (l.drop a) + 1) (by omega) (by omega), refCode_eq, Option.bind_some]
    by_cases h1 : zerosL (l.drop a) ≤ 999
    · rw [if_pos (by omega)] at hu
      rw [decide_eq_true (p := (1 ≤ (1 : Int) ∧ (1 : Int) ≤ 5) ∧ NumP 1 _) ⟨by omega, by omega, by omega, by omega⟩, if_pos rfl, rr_some 1 l a _ _ hu (by omega), wrap_in ((a : Int) + zerosL (l.drop a)) (by omega) (by omega), wrap_in _ (by omega) (by omega)]
      congr 2 <;> omega
    · rw [if_neg (by omega)] at hu
      rw [decide_eq_false (p := (1 ≤ (1 : Int) ∧ (1 : Int) ≤ 5) ∧ NumP 1 _) (fun h => by have := h.2.2.2 rfl; omega), if_neg (by decide), rr_none 1 l a hu]
theorem read2 (l : List Int) (hl : IsBits l) (hlen : l.length ≤ 6000) (a : Nat) (ha : a ≤ l.length) (k : Nat) (hk : 7000 ≤ k) : herbariumref1_List_Read.f k l (a : Int) 2 = some (rr 2 l a) := by
  obtain ⟨k, rfl⟩ : ∃ m, k = m + 1 + 1 := ⟨k - 2, by omega⟩
  have hr := zerosL_range (l.drop a)
  have hu : ReadL 2 (l.drop a) = gammaR (l.drop a) := by unfold ReadL; rw [if_neg (by decide), if_pos rfl]
  have hf := gamma_facts (l.drop a) (IsBits.drop' hl a)
  rw [← hu] at hf
  unfold gammaR at hu
  rw [List.length_drop] at hr hu
  rw [herbariumref1_List_Read.f, refZeros_eq l (by omega) a ha (k + 1) (by omega), Option.bind_some]
  by_cases h0 : zerosL (l.drop a) < 0
  · rw [if_neg (by omega)] at hu
    rw [if_pos h0, rr_none 2 l a hu]
  · rw [if_neg h0, if_neg (by decide), if_pos rfl]
    have hd : ∀ z : Nat, (l.drop a).drop z = l.drop (a + z) := fun z => by rw [List.drop_drop]
    rw [hd] at hu
    generalize zerosL (l.drop a) = z at *
    obtain ⟨z, rfl⟩ := Int.eq_ofNat_of_zero_le (show 0 ≤ z by omega)
    rw [Int.toNat_natCast] at hu
    by_cases h1 : (z : Int) > 30
    · rw [if_neg (by omega)] at hu
      rw [if_pos h1, herbariumref1_List_Read.j0, if_pos rfl, rr_none 2 l a hu]
    · rw [if_neg h1, wrap_in (2 * (z : Int)) (by omega) (by omega), wrap_in ((a : Int) + _) (by omega) (by omega), wrap_in ((a : Int) + _ + 1) (by omega) (by omega)]
      by_cases h2 : a + 2 * z + 1 > l.length
      · rw [if_neg (by omega)] at hu
        rw [decide_eq_true (by omega), herbariumref1_List_Read.j0, if_pos rfl, rr_none 2 l a hu]
      · rw [if_pos (by omega)] at hu
        have e1 : Aside0 (wrap64 ((a : Int) + (z : Int)) = ((a + z : Nat) : Int)) := ⟨by rw [wrap_in _ (by omega) (by omega)]; rfl⟩
        have e2 : Aside0 (wrap64 ((z : Int) + 1) = ((z + 1 : Nat) : Int)) := ⟨by rw [wrap_in _ (by omega) (by omega)]; rfl⟩
        obtain ⟨f1, f2, f3⟩ := hf _ _ hu
        rw [decide_eq_false (by omega), herbariumref1_List_Read.j0, if_neg (by decide), e1.out, e2.out, refGet_eq l hl (by omega) (a + z) (z + 1) (by omega) (by omega) k (by omega), Option.bind_some, chk_code 2 _ _ (by omega) f1, rr_chk 2 l a _ _ hu, wrap_in (2 * (z : Int)) (by omega) (by omega), wrap_in ((a : Int) + _) (by omega) (by omega), wrap_in ((a : Int) + _ + 1) (by omega) (by omega)]
        congr 2 <;> omega
theorem read3 (l : List Int) (hl : IsBits l) (hlen : l.length ≤ 6000) (a : Nat) (ha : a ≤ l.length) (k : Nat) (hk : 7010 ≤ k) : herbariumref1_List_Read.f k l (a : Int) 3 = some (rr 3 l a) := by
  obtain ⟨k, rfl⟩ : ∃ m, k = m + 1 + 1 := ⟨k - 2, by omega⟩
  have hr := zerosL_range (l.drop a)
  have hg : ReadL 2 (l.drop a) = gammaR (l.drop a) := by unfold ReadL; rw [if_neg (by decide), if_pos rfl]
  have hu : ReadL 3 (l.drop a) = deltaR (l.drop a) := by unfold ReadL; rw [if_neg (by decide), if_neg (by decide), if_pos rfl]
  have hf := gamma_facts (l.drop a) (IsBits.drop' hl a)
  have h2 := read2 l hl hlen a ha (k + 1) (by omega)
  unfold deltaR at hu
  rw [herbariumref1_List_Read.f, refZeros_eq l (by omega) a ha (k + 1) (by omega), Option.bind_some]
  by_cases h0 : zerosL (l.drop a) < 0
  · have hgn : gammaR (l.drop a) = none := by unfold gammaR; rw [if_neg (by omega)]
    rw [hgn, Option.bind_none] at hu
    rw [if_pos h0, rr_none 3 l a hu]
  · rw [if_neg h0, if_neg (by decide), if_neg (by decide), if_pos rfl, h2, Option.bind_some]
    cases hgr : gammaR (l.drop a) with
    | none =>
      rw [hgr, Option.bind_none] at hu
      rw [rr_none 2 l a (hg.trans hgr)]
      simp only
      rw [if_pos (by decide), herbariumref1_List_Read.j1, if_pos rfl, rr_none 3 l a hu]
    | some q =>
      obtain ⟨g, c⟩ := q
      obtain ⟨f1, f2, f3⟩ := hf g c hgr
      rw [hgr, Option.bind_some] at hu
      simp only at hu
      rw [List.length_drop] at hu f3
      by_cases hbig : g ≤ 1073741824
      · rw [rr_some 2 l a c g (hg.trans hgr) hbig]
        simp only
        rw [if_neg (by omega)]
        by_cases h31 : g > 31
        · rw [if_neg (by omega)] at hu
          rw [if_pos h31, herbariumref1_List_Read.j1, if_pos rfl, rr_none 3 l a hu]
        · obtain ⟨m, hm⟩ := Int.eq_ofNat_of_zero_le (show 0 ≤ g - 1 by omega)
          obtain rfl : g = (m : Int) + 1 := by omega
          rw [hm, Int.toNat_natCast, List.drop_drop] at hu
          rw [if_neg h31, wrap_in (((a + c : Nat) : Int) + ((m : Int) + 1)) (by omega) (by omega), wrap_in (_ - 1) (by omega) (by omega)]
          by_cases h5 : a + c + m > l.length
          · rw [if_neg (by omega)] at hu
            rw [decide_eq_true (by omega), herbariumref1_List_Read.j1, if_pos rfl, rr_none 3 l a hu]
          · rw [if_pos (by omega)] at hu
            have hp := pow_le60 m (by omega)
            have hb := numL_range (IsBits.take' (IsBits.drop' hl (a + c)) m)
            rw [List.length_take, List.length_drop, Nat.min_eq_left (by omega)] at hb
            have e1 : Aside0 (wrap64 ((m : Int) + 1 - 1) = (m : Int)) := ⟨by rw [wrap_in _ (by omega) (by omega)]; omega⟩
            have hp30 : (2 : Int) ^ m ≤ 2 ^ 30 := by
              have := Nat.pow_le_pow_right (n := 2) (by decide) (show m ≤ 30 by omega)
              exact_mod_cast this
            have e30 : (2 : Int) ^ 30 = 1073741824 := by decide
            rw [decide_eq_false (by omega), herbariumref1_List_Read.j1, if_neg (by decide), e1.out, if_pos (by omega), refGet_eq l hl (by omega) (a + c) m (by omega) (by omega) k (by omega), Option.bind_some, shl_60 m (by omega), wrap_in (2 ^ m + _) (by omega) (by omega), chk_code 3 _ _ (by omega) (by omega), rr_chk 3 l a _ _ hu, wrap_in (((a + c : Nat) : Int) + ((m : Int) + 1)) (by omega) (by omega), wrap_in (_ - 1) (by omega) (by omega)]
            congr 2 <;> omega
      · rw [if_neg (by omega)] at hu
        rw [rr_big 2 l a c g (hg.trans hgr) (by omega)]
        simp only
        rw [if_pos (by decide), herbariumref1_List_Read.j1, if_pos rfl, rr_none 3 l a hu]
/-- The rest of a zeta code, read. -/
def z2 (l : List Int) (nx s : Nat) (P : Int) : Int × Int :=
  if nx + s ≤ l.length then
    (if numL ((l.drop nx).take s) < P then chk (P + numL ((l.drop nx).take s)) ((nx + s : Nat) : Int)
    else if nx + s + 1 ≤ l.length then chk (P + (2 * numL ((l.drop nx).take s) + l.getD (nx + s) 0 - P)) ((nx + s + 1 : Nat) : Int) else (-1, 0))
  else (-1, 0)
theorem j2_core (l : List Int) (hl : IsBits l) (hlen : l.length ≤ 6000) (kind : Int) (hk : 2 ≤ kind ∧ kind ≤ 5) (h nx kk E s : Nat) (P Q R : Int) (hh : h ≤ 15) (hnx : nx ≤ l.length)
    (e1 : Aside0 (wrap64 ((h : Int) * (kk : Int)) = (E : Int))) (e2 : Aside0 (wrap64 (wrap64 ((h : Int) + 1) * (kk : Int)) = ((s + 1 : Nat) : Int))) (hs1 : shl .i64 1 (E : Int) = P) (hs2 : shl .i64 1 ((s + 1 : Nat) : Int) = R)
    (hs : s ≤ 50) (hQ : (2 : Int) ^ s = Q) (hP : 1 ≤ P) (hPQ : 2 * P ≤ Q) (hR : R = 2 * Q) (hR2 : R ≤ 1152921504606846976)
    (k : Nat) (hlog : herbariumref1_log.f k (R - P - 1) = some (s : Int)) (hkk : 1000 ≤ k) : herbariumref1_List_Read.j2 (k + 1) l kind (h : Int) (nx : Int) (kk : Int) = some (z2 l nx s P) := by
  have e3 : Aside0 (wrap64 ((s : Int) + 1) = ((s + 1 : Nat) : Int)) := ⟨by rw [wrap_in _ (by omega) (by omega)]; rfl⟩
  have e4 : Aside0 (wrap64 (((s + 1 : Nat) : Int) - 1) = (s : Int)) := ⟨by rw [wrap_in _ (by omega) (by omega)]; omega⟩
  have e5 : Aside0 (wrap64 (wrap64 ((nx : Int) + ((s + 1 : Nat) : Int)) - 1) = ((nx + s : Nat) : Int)) := ⟨by rw [wrap_in (_ + _) (by omega) (by omega), wrap_in _ (by omega) (by omega)]; omega⟩
  have e6 : Aside0 (wrap64 (((nx + s : Nat) : Int) + 1) = ((nx + s + 1 : Nat) : Int)) := ⟨by rw [wrap_in _ (by omega) (by omega)]; rfl⟩
  have e7 : Aside0 (wrap64 (R - P) = R - P) := ⟨wrap_in _ (by omega) (by omega)⟩
  have e8 : Aside0 (wrap64 (R - P - 1) = R - P - 1) := ⟨wrap_in _ (by omega) (by omega)⟩
  have e9 : Aside0 (wrap64 (R - (R - P)) = P) := ⟨by rw [wrap_in _ (by omega) (by omega)]; omega⟩
  rw [herbariumref1_List_Read.j2, if_neg (by omega), e2.out, e1.out, if_pos (by omega), if_pos (by omega), hs2, hs1, e7.out, e8.out, hlog, Option.bind_some, e3.out, e4.out, e5.out, hs2, e9.out]
  unfold z2
  by_cases h1 : nx + s ≤ l.length
  · rw [if_neg (by omega), if_pos h1, refGet_eq l hl (by omega) nx s h1 (by omega) k (by omega), Option.bind_some, if_pos (by omega)]
    have hb := numL_range (IsBits.take' (IsBits.drop' hl nx) s)
    rw [List.length_take, List.length_drop, Nat.min_eq_left (by omega), hQ] at hb
    generalize numL ((l.drop nx).take s) = v at *
    by_cases h2 : v < P
    · rw [if_neg (by omega), if_pos h2, wrap_in (P + v) (by omega) (by omega), chk_code kind _ _ hk (by omega)]
    · rw [if_pos (by omega), if_neg h2, e6.out]
      by_cases h3 : nx + s + 1 ≤ l.length
      · have hbb := hl.getD (nx + s)
        have hrd : rd l ((nx + s : Nat) : Int) = l.getD (nx + s) 0 := by unfold rd; rw [Int.toNat_natCast]
        rw [if_neg (by omega), if_pos h3, if_pos (by omega), if_pos (by omega), hrd]
        generalize l.getD (nx + s) 0 = b at *
        rw [wrap_in b (by omega) (by omega), wrap_in (2 * v) (by omega) (by omega), wrap_in (2 * v + b) (by omega) (by omega), wrap_in (2 * v + b - P) (by omega) (by omega), wrap_in (P + _) (by omega) (by omega), chk_code kind _ _ hk (by omega)]
      · rw [if_pos (by omega), if_neg h3]
  · rw [if_pos (by omega), if_neg h1]
theorem read_zeta (l : List Int) (hl : IsBits l) (hlen : l.length ≤ 6000) (kind : Int) (hk : 2 ≤ kind ∧ kind ≤ 5) (h nx kk : Nat) (hkk : kk = 2 ∨ kk = 3) (hh : h ≤ 15) (hnx : nx ≤ l.length) (k : Nat) (hk2 : 1000 ≤ k) :
    herbariumref1_List_Read.j2 (k + 1) l kind (h : Int) (nx : Int) (kk : Int) = some (z2 l nx (h * kk + kk - 1) (2 ^ (h * kk))) := by
  obtain ⟨p0, p1, p2, p3, p4, p5⟩ := pows kk h hkk hh
  have hk1 : 1 ≤ kk ∧ kk ≤ 3 := by rcases hkk with rfl | rfl <;> decide
  have hs1 := shl_60 (h * kk) (Nat.le_trans p0 (by decide))
  have hs2 := shl_60 (h * kk + kk) (Nat.le_trans (Nat.add_le_add p0 hk1.2) (by decide))
  have e1 := Aside0.mk (wrap_hk h kk hh (Nat.le_trans (Nat.add_le_add p0 hk1.2) (by decide)))
  clear hkk
  generalize h * kk = E at *
  obtain ⟨s, hs⟩ : ∃ s, E + kk = s + 1 := ⟨E + kk - 1, by have := hk1.1; clear p1 p2 p3 p4 p5 hs1 hs2; omega⟩
  have hs50 : s ≤ 50 := by have := hk1.2; clear p1 p2 p3 p4 p5 hs1 hs2; omega
  rw [hs] at e1 hs2 p3 p4 p5 ⊢
  rw [Nat.add_sub_cancel] at p4 p5 ⊢
  exact j2_core l hl hlen kind hk h nx kk E s (2 ^ E) (2 ^ s) (2 ^ (s + 1)) hh hnx ⟨e1.out.1⟩ ⟨e1.out.2⟩ hs1 hs2 hs50 rfl p1 p5 p4 p3 k (zlog _ _ _ s rfl p1 p5 p4 (by omega) k (by omega)) hk2
theorem num_one (l : List Int) (i : Nat) (h : i < l.length) : numL ((l.drop i).take 1) = l.getD i 0 := by
  rw [List.drop_eq_getElem_cons h, List.take_succ_cons, List.take_zero, List.getD_eq_getElem?_getD, List.getElem?_eq_getElem h]
  simp [numL]
theorem rr_z2 (kind : Int) (l : List Int) (a z kk : Nat) (most : Int) (hRL : ReadL kind (l.drop a) = zetaR (kk : Int) most (l.drop a)) (ha : a ≤ l.length) (hk : 1 ≤ kk) (hz : zerosL (l.drop a) = (z : Int)) (hm : (z : Int) ≤ most - 1) (his : zetaIs kk z = true) (s : Nat) (hs : z * kk + kk = s + 1) (P : Int) (hP : (2 : Int) ^ (z * kk) = P) :
    rr kind l a = z2 l (a + z + 1) s P := by
  have h := hRL.trans (zetaR_eq kk z most (l.drop a) hk hz hm his s hs P hP)
  rw [List.length_drop, List.drop_drop, List.drop_drop, show a + (z + 1) = a + z + 1 by omega, show a + (z + 1 + s) = a + z + 1 + s by omega] at h
  unfold z2
  by_cases h1 : a + z + 1 + s ≤ l.length
  · rw [if_pos (by omega)] at h
    rw [if_pos h1]
    by_cases h2 : numL ((l.drop (a + z + 1)).take s) < P
    · rw [if_pos h2] at h
      rw [if_pos h2, rr_chk kind l a _ _ h, show a + (z + 1 + s) = a + z + 1 + s by omega]
    · rw [if_neg h2] at h
      rw [if_neg h2]
      by_cases h3 : a + z + 1 + s + 1 ≤ l.length
      · rw [if_pos (by omega), num_one l _ (by omega)] at h
        rw [if_pos h3, rr_chk kind l a _ _ h, show a + (z + 1 + s + 1) = a + z + 1 + s + 1 by omega, Int.mul_comm _ 2]
      · rw [if_neg (by omega)] at h
        rw [if_neg h3, rr_none kind l a h]
  · rw [if_neg (by omega)] at h
    rw [if_neg h1, rr_none kind l a h]
theorem z2_big (l : List Int) (hl : IsBits l) (nx s : Nat) (P : Int) (hP : 1073741824 < P) : z2 l nx s P = (-1, 0) := by
  have hb := numL_range (IsBits.take' (IsBits.drop' hl nx) s)
  have hbb := hl.getD (nx + s)
  unfold z2 chk
  split
  · split
    · rw [if_neg (by omega)]
    · split
      · rw [if_neg (by omega)]
      · rfl
  · rfl
theorem read4 (l : List Int) (hl : IsBits l) (hlen : l.length ≤ 6000) (a : Nat) (ha : a ≤ l.length) (k : Nat) (hk : 7010 ≤ k) : herbariumref1_List_Read.f k l (a : Int) 4 = some (rr 4 l a) := by
  obtain ⟨k, rfl⟩ : ∃ m, k = m + 1 + 1 := ⟨k - 2, by omega⟩
  have hr := zerosL_range (l.drop a)
  have hu : ReadL 4 (l.drop a) = zetaR ((2 : Nat) : Int) 16 (l.drop a) := by unfold ReadL; rw [if_neg (by decide), if_neg (by decide), if_neg (by decide), if_pos rfl]; rfl
  rw [List.length_drop] at hr
  rw [herbariumref1_List_Read.f, refZeros_eq l (by omega) a ha (k + 1) (by omega), Option.bind_some]
  by_cases h0 : zerosL (l.drop a) < 0
  · have hn : zetaR ((2 : Nat) : Int) 16 (l.drop a) = none := by unfold zetaR unaryR; rw [if_neg (by omega)]; rfl
    rw [if_pos h0, rr_none 4 l a (hu.trans hn)]
  · rw [if_neg h0, if_neg (by decide), if_neg (by decide), if_neg (by decide), if_neg (by decide)]
    obtain ⟨z, hz⟩ := Int.eq_ofNat_of_zero_le (show 0 ≤ zerosL (l.drop a) by omega)
    rw [hz] at hr ⊢
    have e : Aside0 (wrap64 (wrap64 ((a : Int) + (z : Int)) + 1) = ((a + z + 1 : Nat) : Int)) := ⟨by rw [wrap_in ((a : Int) + (z : Int)) (by omega) (by omega), wrap_in _ (by omega) (by omega)]; rfl⟩
    rw [e.out]
    by_cases h1 : z ≤ 15
    · have hj := read_zeta l hl hlen 4 (by omega) z (a + z + 1) 2 (.inl rfl) h1 (by omega) k (by omega)
      have hq := rr_z2 4 l a z 2 16 hu ha (by omega) hz (by omega) (zetaIs2 ⟨z, by omega⟩) (z * 2 + 2 - 1) (by omega) _ rfl
      rw [hq]; exact hj
    · have hn : zetaR ((2 : Nat) : Int) 16 (l.drop a) = none := by unfold zetaR unaryR; rw [if_neg (by omega)]; rfl
      rw [herbariumref1_List_Read.j2, if_pos (by omega), rr_none 4 l a (hu.trans hn)]
theorem read5 (l : List Int) (hl : IsBits l) (hlen : l.length ≤ 6000) (a : Nat) (ha : a ≤ l.length) (k : Nat) (hk : 7010 ≤ k) : herbariumref1_List_Read.f k l (a : Int) 5 = some (rr 5 l a) := by
  obtain ⟨k, rfl⟩ : ∃ m, k = m + 1 + 1 := ⟨k - 2, by omega⟩
  have hr := zerosL_range (l.drop a)
  have hu : ReadL 5 (l.drop a) = zetaR ((3 : Nat) : Int) 11 (l.drop a) := by unfold ReadL; rw [if_neg (by decide), if_neg (by decide), if_neg (by decide), if_neg (by decide)]; rfl
  rw [List.length_drop] at hr
  rw [herbariumref1_List_Read.f, refZeros_eq l (by omega) a ha (k + 1) (by omega), Option.bind_some]
  by_cases h0 : zerosL (l.drop a) < 0
  · have hn : zetaR ((3 : Nat) : Int) 11 (l.drop a) = none := by unfold zetaR unaryR; rw [if_neg (by omega)]; rfl
    rw [if_pos h0, rr_none 5 l a (hu.trans hn)]
  · rw [if_neg h0, if_neg (by decide), if_neg (by decide), if_neg (by decide), if_pos rfl]
    obtain ⟨z, hz⟩ := Int.eq_ofNat_of_zero_le (show 0 ≤ zerosL (l.drop a) by omega)
    rw [hz] at hr ⊢
    have e : Aside0 (wrap64 (wrap64 ((a : Int) + (z : Int)) + 1) = ((a + z + 1 : Nat) : Int)) := ⟨by rw [wrap_in ((a : Int) + (z : Int)) (by omega) (by omega), wrap_in _ (by omega) (by omega)]; rfl⟩
    rw [e.out]
    by_cases h1 : z ≤ 15
    · have hj := read_zeta l hl hlen 5 (by omega) z (a + z + 1) 3 (.inr rfl) h1 (by omega) k (by omega)
      by_cases h2 : z ≤ 10
      · have hq := rr_z2 5 l a z 3 11 hu ha (by omega) hz (by omega) (zetaIs3 ⟨z, by omega⟩) (z * 3 + 3 - 1) (by omega) _ rfl
        rw [hq]; exact hj
      · have hn : zetaR ((3 : Nat) : Int) 11 (l.drop a) = none := by unfold zetaR unaryR; rw [if_neg (by omega)]; rfl
        have hp : (2 : Int) ^ 33 ≤ 2 ^ (z * 3) := by
          have := Nat.pow_le_pow_right (n := 2) (by decide) (show 33 ≤ z * 3 by omega)
          exact_mod_cast this
        have e33 : (2 : Int) ^ 33 = 8589934592 := by decide
        rw [rr_none 5 l a (hu.trans hn), ← z2_big l hl (a + z + 1) (z * 3 + 3 - 1) (2 ^ (z * 3)) (by omega)]
        exact hj
    · have hn : zetaR ((3 : Nat) : Int) 11 (l.drop a) = none := by unfold zetaR unaryR; rw [if_neg (by omega)]; rfl
      rw [herbariumref1_List_Read.j2, if_pos (by omega), rr_none 5 l a (hu.trans hn)]
theorem refRead_eq (l : List Int) (hl : IsBits l) (hlen : l.length ≤ 6000) (a : Nat) (ha : a ≤ l.length) (kind : Int) (hk1 : 1 ≤ kind) (hk5 : kind ≤ 5) (k : Nat) (hk : 7010 ≤ k) : herbariumref1_List_Read.f k l (a : Int) kind = some (rr kind l a) := by
  have hkk : kind = 1 ∨ kind = 2 ∨ kind = 3 ∨ kind = 4 ∨ kind = 5 := by omega
  rcases hkk with rfl | rfl | rfl | rfl | rfl
  · exact read1 l hl hlen a ha k (by omega)
  · exact read2 l hl hlen a ha k (by omega)
  · exact read3 l hl hlen a ha k hk
  · exact read4 l hl hlen a ha k hk
  · exact read5 l hl hlen a ha k hk
end Go.Proofs.Ytnpghcikhpglkaa.Pb
namespace Go.Proofs.Ytnpghcikhpglkaa.Pb
open Go.RowKit Go.Proofs.YtnpghcikhpglkaaW.PrintWords Go.Proofs.YtnpghcikhpglkaaW.PrintLast Go.Proofs.YtnpghcikhpglkaaW.PrintMore Go.Proofs.Ytnpghcikhpglkaa.Hand Go.Proofs.Ytnpghcikhpglkaa.Pu Go.Proofs.Ytnpghcikhpglkaa.Q
set_option linter.unusedVariables false
set_option linter.unusedSimpArgs false
theorem set_map_range (n j : Nat) (f g : Nat → Int) (hj : j < n) (hne : ∀ i, i ≠ j → g i = f i) : ((List.range n).map f).set j (g j) = (List.range n).map g := by
  refine List.ext_getElem? fun i => ?_
  rw [List.getElem?_set, List.getElem?_map, List.getElem?_map, List.length_map, List.length_range]
  by_cases h : j = i
  · subst h
    rw [if_pos rfl, if_pos hj, List.getElem?_range hj]; rfl
  · rw [if_neg h]
    rcases Nat.lt_or_ge i n with hi | hi
    · rw [List.getElem?_range hi]; simp only [Option.map_some]; rw [hne i (fun e => h e.symm)]
    · rw [List.getElem?_eq_none (by simp; omega)]; rfl
theorem or_bit (x b : Int) (r : Nat) (hx0 : 0 ≤ x) (hx : x < 256) (hb : b = 0 ∨ b = 1) (hr : r ≤ 7) (hd : x % 2 ^ (r + 1) = 0) : Go.bits .or .u8 x (shl .u8 b (r : Int)) = x + b * 2 ^ r := by
  have h := rowByte_eq x b 0 (r : Int) hx0 hx (by omega) (by omega) (by omega) (by omega) (by rw [Int.toNat_natCast]; exact hd)
  have h2 := bitAt_eq b 0 (r : Int) (by omega) (by omega) (by omega) (by omega)
  unfold rowByte at h
  rw [h2, Int.toNat_natCast] at h
  have e : b / 2 ^ 0 % 2 = b := by rcases hb with rfl | rfl <;> rfl
  rw [e] at h
  have hs : shl .u8 b (r : Int) = b * 2 ^ r := by
    have hr2 : r = 0 ∨ r = 1 ∨ r = 2 ∨ r = 3 ∨ r = 4 ∨ r = 5 ∨ r = 6 ∨ r = 7 := by omega
    rcases hb with rfl | rfl <;> rcases hr2 with rfl | rfl | rfl | rfl | rfl | rfl | rfl | rfl <;> decide +kernel
  rw [hs, h]
theorem pack_loop (l : List Int) (hl : IsBits l) (hlen : l.length ≤ 1000000) : ∀ (d k i : Nat), i + d = l.length → d < k →
    herbariumref1_List_Pack.l0 k l ((List.range ((l.length + 7) / 8)).map (byteAt (l.take i))) (i : Int) = some (packS l, (l.length : Int))
  | 0, k, i, hi, hk => by
    obtain ⟨k, rfl⟩ : ∃ m, k = m + 1 := ⟨k - 1, by omega⟩
    simp only [herbariumref1_List_Pack.l0]
    rw [if_neg (by omega), List.take_of_length_le (by omega)]
    rfl
  | d + 1, k, i, hi, hk => by
    obtain ⟨k, rfl⟩ : ∃ m, k = m + 1 := ⟨k - 1, by omega⟩
    have hb := hl.getD i
    have hsn := take_snoc l i (by omega)
    have hti : (l.take i).length = i := by rw [List.length_take]; omega
    have hn := byteAt_snoc_new (l.take i) (l.getD i 0)
    rw [hsn, hti] at hn
    have ho : ∀ j, j ≠ i / 8 → byteAt (l.take (i + 1)) j = byteAt (l.take i) j := fun j hj => by
      rw [← hsn]; exact byteAt_snoc_old _ _ j (by rw [hti]; exact hj)
    have hrg := byteAt_range (IsBits.take' hl i) (i / 8)
    have e1 : wrap64 (Int.tdiv (i : Int) 8) = ((i / 8 : Nat) : Int) := by rw [tdiv8 _ (by omega), wrap_in _ (by omega) (by omega)]; omega
    have e2 : wrap64 (7 - Int.tmod (i : Int) 8) = ((7 - i % 8 : Nat) : Int) := by rw [tmod8 _ (by omega), wrap_in _ (by omega) (by omega)]; omega
    have hrd : rd l (i : Int) = l.getD i 0 := by unfold rd; rw [Int.toNat_natCast]
    have hrx : rd ((List.range ((l.length + 7) / 8)).map (byteAt (l.take i))) ((i / 8 : Nat) : Int) = byteAt (l.take i) (i / 8) := by
      unfold rd
      rw [Int.toNat_natCast, List.getD_eq_getElem?_getD, List.getElem?_map, List.getElem?_range (by omega)]
      rfl
    simp only [herbariumref1_List_Pack.l0]
    rw [if_pos (by omega), e1, e2, if_pos (by omega), if_pos (by simp; omega), if_pos (by omega), if_pos (by omega), hrx, hrd, or_bit _ _ (7 - i % 8) hrg.1 hrg.2 hb (by omega) hn.2, ← hn.1, Int.toNat_natCast, set_map_range _ _ (byteAt (l.take i)) (byteAt (l.take (i + 1))) (by omega) ho, wrap_in _ (by omega) (by omega)]
    exact pack_loop l hl hlen d k (i + 1) (by omega) (by omega)
theorem refPack_eq (l : List Int) (hl : IsBits l) (hlen : l.length ≤ 1000000) (k : Nat) (hk : l.length < k) : herbariumref1_List_Pack.f k l = some (packS l, (l.length : Int)) := by
  unfold herbariumref1_List_Pack.f
  have e : wrap64 (Int.tdiv (wrap64 ((l.length : Int) + 7)) 8) = (((l.length + 7) / 8 : Nat) : Int) := by
    rw [wrap_in ((l.length : Int) + 7) (by omega) (by omega), tdiv8 _ (by omega), wrap_in _ (by omega) (by omega)]; omega
  rw [e, if_pos (by omega), Int.toNat_natCast, if_pos (by omega)]
  have h0 : List.replicate ((l.length + 7) / 8) (0 : Int) = (List.range ((l.length + 7) / 8)).map (byteAt (l.take 0)) := by
    refine List.ext_getElem? fun i => ?_
    rw [List.getElem?_map]
    rcases Nat.lt_or_ge i ((l.length + 7) / 8) with hi | hi
    · rw [List.getElem?_range hi, List.getElem?_replicate, if_pos hi]; rfl
    · rw [List.getElem?_eq_none (by simp; omega), List.getElem?_eq_none (by simp; omega)]; rfl
  rw [h0]
  exact pack_loop l hl hlen l.length k 0 (by omega) hk
end Go.Proofs.Ytnpghcikhpglkaa.Pb
namespace Go.Proofs.Ytnpghcikhpglkaa.Pv
open Go.RowKit Go.Proofs.YtnpghcikhpglkaaW.PrintWords Go.Proofs.YtnpghcikhpglkaaW.PrintLast Go.Proofs.YtnpghcikhpglkaaW.PrintMore Go.Proofs.Ytnpghcikhpglkaa.Q
set_option linter.unusedVariables false
theorem weight_some (l : List S27) (hl : (l.length : Int) < 9223372036854775807) (d : Nat) : ∀ (k : Nat) (x i : Int), 0 ≤ i → i + d = l.length → d < k → ∃ t, herbariumlaw0_BitsWeight.l0 k l x i = some t := by
  induction d with
  | zero =>
    intro k x i h0 hi hk
    obtain ⟨k, rfl⟩ : ∃ m, k = m + 1 := ⟨k - 1, by omega⟩
    simp only [herbariumlaw0_BitsWeight.l0]
    rw [if_neg (by omega)]
    exact ⟨_, rfl⟩
  | succ d ih =>
    intro k x i h0 hi hk
    obtain ⟨k, rfl⟩ : ∃ m, k = m + 1 := ⟨k - 1, by omega⟩
    simp only [herbariumlaw0_BitsWeight.l0]
    rw [if_pos (by omega)]
    split
    · rw [wrap_in (i + 1) (by omega) (by omega)]
      exact ih k _ (i + 1) (by omega) (by omega) (by omega)
    · exact ⟨_, rfl⟩
/-- More than is played, or not: told in any case; and where it is not: there are few. -/
theorem heavy_some (l : List S27) (m : List Int) (hl : (l.length : Int) < 9223372036854775807) (k : Nat) (hk : l.length < k) : herbariumlaw1_Heavy.f k l m = some true ∨ (herbariumlaw1_Heavy.f k l m = some false ∧ m.length ≤ 100) := by
  unfold herbariumlaw1_Heavy.f herbariumlaw0_BitsWeight.f
  obtain ⟨t, ht⟩ := weight_some l hl l.length k (l.length : Int) 0 (by omega) (by omega) hk
  rw [ht]
  simp only [Option.bind_some]
  split
  · exact .inl rfl
  · by_cases h : (m.length : Int) > 100
    · rw [decide_eq_true h]; exact .inl rfl
    · rw [decide_eq_false h]; exact .inr ⟨rfl, by omega⟩
end Go.Proofs.Ytnpghcikhpglkaa.Pv
namespace Go.Proofs.Ytnpghcikhpglkaa.Pb
open Go.RowKit Go.Proofs.YtnpghcikhpglkaaW.PrintWords Go.Proofs.YtnpghcikhpglkaaW.PrintLast Go.Proofs.YtnpghcikhpglkaaW.PrintMore Go.Proofs.Ytnpghcikhpglkaa.Hand Go.Proofs.Ytnpghcikhpglkaa.Pu Go.Proofs.Ytnpghcikhpglkaa.Q
set_option linter.unusedVariables false
set_option linter.unusedSimpArgs false
theorem wakes_2 : herbariumlaw2_wakes.f 40 = some true := by decide +kernel
theorem readL_pos (kind : Int) (r : List Int) (hr : IsBits r) (hk1 : 1 ≤ kind) (hk5 : kind ≤ 5) (v : Int) (c : Nat) (h : ReadL kind r = some (v, c)) : 0 ≤ v := by
  have hz : ∀ (kk : Nat) (most : Int), (∀ z : Nat, (z : Int) ≤ most - 1 → zetaIs kk z = true) → 1 ≤ kk → zetaR (kk : Int) most r = some (v, c) → 0 ≤ v := by
    intro kk most hzi hkk h
    by_cases h0 : 0 ≤ zerosL r ∧ zerosL r ≤ most - 1
    · obtain ⟨z, hze⟩ := Int.eq_ofNat_of_zero_le h0.1
      rw [zetaR_eq kk z most r hkk hze (by omega) (hzi z (by omega)) (z * kk + kk - 1) (by omega) (2 ^ (z * kk)) rfl] at h
      have hp : (0 : Int) < 2 ^ (z * kk) := Int.pow_pos (by decide)
      have hb := numL_range (IsBits.take' (IsBits.drop' hr (z + 1)) (z * kk + kk - 1))
      have hb1 := numL_range (IsBits.take' (IsBits.drop' hr (z + 1 + (z * kk + kk - 1))) 1)
      generalize numL ((r.drop (z + 1)).take (z * kk + kk - 1)) = x at *
      generalize numL ((r.drop (z + 1 + (z * kk + kk - 1))).take 1) = y at *
      generalize (2 : Int) ^ (z * kk) = P at *
      split at h
      · split at h
        · simp only [Option.some.injEq, Prod.mk.injEq] at h; omega
        · split at h
          · simp only [Option.some.injEq, Prod.mk.injEq] at h; omega
          · cases h
      · cases h
    · unfold zetaR unaryR at h
      rw [if_neg h0] at h
      cases h
  have hkk : kind = 1 ∨ kind = 2 ∨ kind = 3 ∨ kind = 4 ∨ kind = 5 := by omega
  unfold ReadL at h
  rcases hkk with rfl | rfl | rfl | rfl | rfl
  · rw [if_pos rfl] at h
    unfold unaryR at h
    split at h
    · simp only [Option.some.injEq, Prod.mk.injEq] at h; omega
    · cases h
  · rw [if_neg (by decide), if_pos rfl] at h
    have := gamma_facts r hr v c h; omega
  · rw [if_neg (by decide), if_neg (by decide), if_pos rfl] at h
    unfold deltaR at h
    obtain ⟨q, hq, h⟩ := Option.bind_eq_some_iff.1 h
    split at h
    · simp only [Option.some.injEq, Prod.mk.injEq] at h
      have hb := numL_range (IsBits.take' (IsBits.drop' hr q.2) (q.1 - 1).toNat)
      have hp : (0 : Int) < 2 ^ (q.1 - 1).toNat := Int.pow_pos (by decide)
      generalize (2 : Int) ^ (q.1 - 1).toNat = P at *
      omega
    · cases h
  · rw [if_neg (by decide), if_neg (by decide), if_neg (by decide), if_pos rfl] at h
    exact hz 2 16 (fun z hz => zetaIs2 ⟨z, by omega⟩) (by omega) h
  · rw [if_neg (by decide), if_neg (by decide), if_neg (by decide), if_neg (by decide)] at h
    exact hz 3 11 (fun z hz => zetaIs3 ⟨z, by omega⟩) (by omega) h
theorem take_rr (kind : Int) (l : List Int) (hl : IsBits l) (a : Nat) (hk1 : 1 ≤ kind) (hk5 : kind ≤ 5) (ha : a ≤ l.length) : (0 ≤ (rr kind l a).1 ∧ takeR kind l (a : Int) = ((rr kind l a).1, (rr kind l a).2, 0)) ∨ (rr kind l a = (-1, 0) ∧ takeR kind l (a : Int) = (0, 0, 9)) := by
  cases h : ReadL kind (l.drop a) with
  | none => exact .inr ⟨rr_none kind l a h, take_bad kind l a hk1 hk5 ha h⟩
  | some q =>
    obtain ⟨v, c⟩ := q
    have hp := readL_pos kind _ (IsBits.drop' hl a) hk1 hk5 v c h
    by_cases hv : v ≤ 1073741824
    · left
      rw [rr_some kind l a c v h hv]
      exact ⟨hp, take_good kind l a c v hk1 hk5 ha h hv⟩
    · right
      refine ⟨rr_big kind l a c v h (by omega), ?_⟩
      have e : readR kind l a = (0, 0, false) := by unfold readR; rw [h]; simp only; rw [if_pos (by omega)]
      unfold takeR
      rw [if_pos ⟨⟨hk1, hk5⟩, by omega, by omega⟩, Int.toNat_natCast, e]
      rfl
theorem cput_notmay (s : ByteArray) (n kind v : Int) (h : ¬ MayP s n) : code_Put.f s n kind v = some (⟨#[]⟩, 0, 1) := by unfold code_Put.f; rw [if_neg h]
theorem ctake_notmay (s : ByteArray) (n kind a : Int) (h : ¬ MayP s n) (k : Nat) (hk : 1 ≤ k) : code_Take.f k s n a kind = some (0, 0, 1) := by
  obtain ⟨k, rfl⟩ : ∃ k', k = k' + 1 := ⟨k - 1, by omega⟩
  unfold code_Take.f
  rw [may_eq, decide_eq_false h, Option.bind_some, if_neg (by decide), code_Take.j0, if_pos rfl]
theorem same_bits (s : ByteArray) (n : Int) : (!(s.toList == s.toList) || !(n == n)) = false := by simp
theorem j6_ok (ks ns : List Int) (bs : List S27) (x7 kind x9 : Int) (m : Bool) (l : List Int) (i : Int) (e1 c e2 : Int) (s : ByteArray) (n : Int) (x : ByteArray) (y : Int) (hi : 0 ≤ i ∧ i < 1000000) (k : Nat) :
    herbariumlaw2_kinds.j6 (k + 1) ks ns bs x7 kind x9 m l i e1 c e2 e1 e2 c s n x y x y = herbariumlaw2_kinds.l2 k ks ns bs x7 kind x9 m l (i + 1) s n := by
  rw [herbariumlaw2_kinds.j6, herbariumlaw2_num.f, Option.bind_some, if_pos rfl, same_bits, if_neg (by decide), herbariumlaw2_num.f, Option.bind_some, if_pos rfl, if_pos rfl, wrap_in (i + 1) (by omega) (by omega)]
theorem l2_may (ks ns : List Int) (bs : List S27) (x7 kind x9 : Int) (l : List Int) (hl : IsBits l) (hlen : l.length ≤ 6000) (hns : ns.length ≤ 1000) (K : Nat) (hK : 9000 ≤ K)
    (hnext : ∀ k, K ≤ k → herbariumlaw2_kinds.l3 k ks ns bs x7 kind x9 true l (-1) (packS l) (l.length : Int) = some true) :
    ∀ (d i : Nat), i + d = ns.length → ∀ k, K + 3 * d + 2 ≤ k → herbariumlaw2_kinds.l2 k ks ns bs x7 kind x9 true l (i : Int) (packS l) (l.length : Int) = some true
  | 0, i, hi, k, hk => by
    obtain ⟨k, rfl⟩ : ∃ m, k = m + 1 := ⟨k - 1, by omega⟩
    rw [herbariumlaw2_kinds.l2, if_neg (by omega)]
    exact hnext k (by omega)
  | d + 1, i, hi, k, hk => by
    obtain ⟨k, rfl⟩ : ∃ m, k = m + 1 + 1 := ⟨k - 2, by omega⟩
    have ih := l2_may ks ns bs x7 kind x9 l hl hlen hns K hK hnext d (i + 1) (by omega) k (by omega)
    rw [show ((i + 1 : Nat) : Int) = (i : Int) + 1 by omega] at ih
    generalize hv : rd ns (i : Int) = v
    rw [herbariumlaw2_kinds.l2, if_pos (by omega), if_pos (by omega), hv, cput_eq l hl hlen, Option.bind_some, csize_eq, Option.bind_some, refCode_eq, Option.bind_some]
    by_cases hc : (1 ≤ kind ∧ kind ≤ 5) ∧ NumP kind v
    · have hw := refWrite_eq [] kind v hc.1.1 hc.1.2 hc.2 (by simp) (k + 1) (by omega)
      have hll := layL_len kind v hc.1.1 hc.1.2 hc.2.1 hc.2.2.1 hc.2.2.2
      rw [List.nil_append] at hw
      rw [decide_eq_true hc, if_pos rfl, hw, Option.bind_some, if_pos rfl, wrap_in ((l.length : Int) + _) (by omega) (by omega), if_pos hc, if_pos hc]
      by_cases h6 : l.length + (layL kind v).length ≤ 6000
      · rw [if_pos (by omega), if_pos h6, Option.bind_some, if_pos (by simp; omega), Option.bind_some, if_pos (by simp; omega), List.nil_append, refPack_eq _ (IsBits.append hl (layL_bits kind v)) (by rw [List.length_append]; omega) (k + 1) (by rw [List.length_append]; omega), Option.bind_some]
        simp only
        rw [j6_ok ks ns bs x7 kind x9 true l (i : Int) 0 _ 0 _ _ _ _ (by omega) k]
        exact ih
      · rw [if_neg (by omega), if_neg h6]
        simp only
        rw [j6_ok ks ns bs x7 kind x9 true l (i : Int) 2 _ 0 _ _ _ _ (by omega) k]
        exact ih
    · rw [decide_eq_false hc, if_neg (by decide), if_neg hc, if_neg hc]
      simp only
      rw [j6_ok ks ns bs x7 kind x9 true l (i : Int) 1 _ 1 _ _ _ _ (by omega) k]
      exact ih
theorem l2_not (ks ns : List Int) (bs : List S27) (x7 kind x9 : Int) (s : ByteArray) (n : Int) (hm : ¬ MayP s n) (hns : ns.length ≤ 1000) (K : Nat) (hK : 9000 ≤ K)
    (hnext : ∀ k, K ≤ k → herbariumlaw2_kinds.l3 k ks ns bs x7 kind x9 false [] (-1) s n = some true) :
    ∀ (d i : Nat), i + d = ns.length → ∀ k, K + 3 * d + 2 ≤ k → herbariumlaw2_kinds.l2 k ks ns bs x7 kind x9 false [] (i : Int) s n = some true
  | 0, i, hi, k, hk => by
    obtain ⟨k, rfl⟩ : ∃ m, k = m + 1 := ⟨k - 1, by omega⟩
    rw [herbariumlaw2_kinds.l2, if_neg (by omega)]
    exact hnext k (by omega)
  | d + 1, i, hi, k, hk => by
    obtain ⟨k, rfl⟩ : ∃ m, k = m + 1 + 1 := ⟨k - 2, by omega⟩
    have ih := l2_not ks ns bs x7 kind x9 s n hm hns K hK hnext d (i + 1) (by omega) k (by omega)
    rw [show ((i + 1 : Nat) : Int) = (i : Int) + 1 by omega] at ih
    generalize hv : rd ns (i : Int) = v
    rw [herbariumlaw2_kinds.l2, if_pos (by omega), if_pos (by omega), hv, cput_notmay s n kind v hm, Option.bind_some, csize_eq, Option.bind_some, refCode_eq, Option.bind_some]
    by_cases hc : (1 ≤ kind ∧ kind ≤ 5) ∧ NumP kind v
    · have hw := refWrite_eq [] kind v hc.1.1 hc.1.2 hc.2 (by simp) (k + 1) (by omega)
      rw [List.nil_append] at hw
      rw [decide_eq_true hc, if_pos rfl, hw, Option.bind_some, if_neg (by decide), if_pos hc]
      simp only
      rw [j6_ok ks ns bs x7 kind x9 false [] (i : Int) 1 _ 0 _ _ _ _ (by omega) k]
      exact ih
    · rw [decide_eq_false hc, if_neg (by decide), if_neg hc]
      simp only
      rw [j6_ok ks ns bs x7 kind x9 false [] (i : Int) 1 _ 1 _ _ _ _ (by omega) k]
      exact ih
theorem num_any (x a : Int) : herbariumref0_Num.f x a = some (decide (0 ≤ x ∧ x ≤ a)) := by
  unfold herbariumref0_Num.f
  by_cases h : x ≥ 0
  · rw [if_pos h]; congr 1; rw [decide_eq_decide]; omega
  · rw [if_neg h, decide_eq_false (fun h2 => h h2.1)]
/-- The next place. -/
theorem j9_may (ks ns : List Int) (bs : List S27) (x7 kind x9 : Int) (l : List Int) (hl : IsBits l) (hlen : l.length ≤ 6000) (a : Int) (ha : -1 ≤ a ∧ a ≤ 100) (k : Nat) (hk : 8000 ≤ k) (b : Bool) (hb : b = decide ((1 ≤ kind ∧ kind ≤ 5) ∧ 0 ≤ a ∧ a ≤ (l.length : Int))) :
    herbariumlaw2_kinds.j9 (k + 1) ks ns bs x7 kind x9 true l a (takeR kind l a).1 (takeR kind l a).2.1 (takeR kind l a).2.2 1 0 0 b (packS l) (l.length : Int) = herbariumlaw2_kinds.l3 k ks ns bs x7 kind x9 true l (a + 1) (packS l) (l.length : Int) := by
  rw [herbariumlaw2_kinds.j9, wrap_in (a + 1) (by omega) (by omega)]
  by_cases hc : (1 ≤ kind ∧ kind ≤ 5) ∧ 0 ≤ a ∧ a ≤ (l.length : Int)
  · rw [decide_eq_true hc] at hb
    subst hb
    obtain ⟨a, rfl⟩ := Int.eq_ofNat_of_zero_le hc.2.1
    rw [if_pos rfl, refRead_eq l hl hlen a (by omega) kind hc.1.1 hc.1.2 k (by omega), Option.bind_some]
    rcases take_rr kind l hl a hc.1.1 hc.1.2 (by omega) with ⟨h1, h2⟩ | ⟨h1, h2⟩
    · rw [if_pos h1, h2, herbariumlaw2_num.f, Option.bind_some, if_pos rfl, if_pos rfl, if_pos rfl]
    · rw [h1, h2, if_neg (by decide), herbariumlaw2_num.f, Option.bind_some, if_pos rfl, if_pos rfl, if_pos rfl]
  · rw [decide_eq_false hc] at hb
    subst hb
    have e : takeR kind l a = (0, 0, 1) := by unfold takeR; rw [if_neg hc]
    rw [if_neg (by decide), e, herbariumlaw2_num.f, Option.bind_some, if_pos rfl, if_pos rfl, if_pos rfl]
theorem l3_step_may (ks ns : List Int) (bs : List S27) (x7 kind x9 : Int) (l : List Int) (hl : IsBits l) (hlen : l.length ≤ 6000) (a : Int) (ha : -1 ≤ a ∧ a < 60) (han : a ≤ (l.length : Int) + 1) (k : Nat) (hk : 8000 ≤ k) :
    herbariumlaw2_kinds.l3 (k + 1 + 1 + 1) ks ns bs x7 kind x9 true l a (packS l) (l.length : Int) = herbariumlaw2_kinds.l3 k ks ns bs x7 kind x9 true l (a + 1) (packS l) (l.length : Int) := by
  rw [herbariumlaw2_kinds.l3, wrap_in ((l.length : Int) + 1) (by omega) (by omega), if_pos han, decide_eq_true ha.2, herbariumlaw2_kinds.j8, if_pos rfl, ctake_eq l hl hlen kind a (k + 1) (by omega), Option.bind_some, if_pos rfl, num_any, Option.bind_some]
  by_cases hn : 0 ≤ a ∧ a ≤ (l.length : Int)
  · rw [decide_eq_true hn, if_pos rfl, between_any, Option.bind_some]
    exact j9_may ks ns bs x7 kind x9 l hl hlen a (by omega) k hk _ (by rw [decide_eq_decide]; exact ⟨fun h => ⟨h, hn⟩, fun h => h.1⟩)
  · rw [decide_eq_false hn, if_neg (by decide)]
    exact j9_may ks ns bs x7 kind x9 l hl hlen a (by omega) k hk _ (by rw [eq_comm, decide_eq_false_iff_not]; exact fun h => hn h.2)
theorem l3_end (ks ns : List Int) (bs : List S27) (x7 kind x9 : Int) (m : Bool) (l : List Int) (s : ByteArray) (n a : Int) (h : ¬ (a ≤ wrap64 (n + 1) ∧ a < 60)) (h9 : 0 ≤ x9 ∧ x9 < 1000000) (k : Nat) :
    herbariumlaw2_kinds.l3 (k + 1 + 1) ks ns bs x7 kind x9 m l a s n = herbariumlaw2_kinds.l1 k ks ns bs x7 kind (x9 + 1) := by
  have e : herbariumlaw2_kinds.j8 (k + 1) ks ns bs x7 kind x9 m l a false s n = herbariumlaw2_kinds.l1 k ks ns bs x7 kind (x9 + 1) := by
    rw [herbariumlaw2_kinds.j8, if_neg (by decide), wrap_in (x9 + 1) (by omega) (by omega)]
  rw [herbariumlaw2_kinds.l3]
  by_cases h1 : a ≤ wrap64 (n + 1)
  · rw [if_pos h1, decide_eq_false (fun h2 => h ⟨h1, h2⟩), e]
  · rw [if_neg h1, e]
theorem l3_may (ks ns : List Int) (bs : List S27) (x7 kind x9 : Int) (h9 : 0 ≤ x9 ∧ x9 < 1000000) (l : List Int) (hl : IsBits l) (hlen : l.length ≤ 6000) (K : Nat) (hK : 8000 ≤ K)
    (hnext : ∀ k, K ≤ k → herbariumlaw2_kinds.l1 k ks ns bs x7 kind (x9 + 1) = some true) :
    ∀ (d : Nat) (a : Int), -1 ≤ a → a + d = 60 → ∀ k, K + 3 * d + 2 ≤ k → herbariumlaw2_kinds.l3 k ks ns bs x7 kind x9 true l a (packS l) (l.length : Int) = some true
  | 0, a, h0, hd, k, hk => by
    obtain ⟨k, rfl⟩ : ∃ m, k = m + 1 + 1 := ⟨k - 2, by omega⟩
    rw [l3_end ks ns bs x7 kind x9 true l _ _ a (by omega) h9 k]
    exact hnext k (by omega)
  | d + 1, a, h0, hd, k, hk => by
    by_cases h : a ≤ (l.length : Int) + 1
    · obtain ⟨k, rfl⟩ : ∃ m, k = m + 1 + 1 + 1 := ⟨k - 3, by omega⟩
      rw [l3_step_may ks ns bs x7 kind x9 l hl hlen a ⟨h0, by omega⟩ h k (by omega)]
      exact l3_may ks ns bs x7 kind x9 h9 l hl hlen K hK hnext d (a + 1) (by omega) (by omega) k (by omega)
    · obtain ⟨k, rfl⟩ : ∃ m, k = m + 1 + 1 := ⟨k - 2, by omega⟩
      rw [l3_end ks ns bs x7 kind x9 true l _ _ a (by rw [wrap_in _ (by omega) (by omega)]; omega) h9 k]
      exact hnext k (by omega)
theorem l3_not (ks ns : List Int) (bs : List S27) (x7 kind x9 : Int) (h9 : 0 ≤ x9 ∧ x9 < 1000000) (s : ByteArray) (n : Int) (hm : ¬ MayP s n) (K : Nat) (hK : 8000 ≤ K)
    (hnext : ∀ k, K ≤ k → herbariumlaw2_kinds.l1 k ks ns bs x7 kind (x9 + 1) = some true) :
    ∀ (d : Nat) (a : Int), -1 ≤ a → a + d = 60 → ∀ k, K + 3 * d + 2 ≤ k → herbariumlaw2_kinds.l3 k ks ns bs x7 kind x9 false [] a s n = some true
  | 0, a, h0, hd, k, hk => by
    obtain ⟨k, rfl⟩ : ∃ m, k = m + 1 + 1 := ⟨k - 2, by omega⟩
    rw [l3_end ks ns bs x7 kind x9 false [] _ _ a (by omega) h9 k]
    exact hnext k (by omega)
  | d + 1, a, h0, hd, k, hk => by
    by_cases h : a ≤ wrap64 (n + 1)
    · obtain ⟨k, rfl⟩ : ∃ m, k = m + 1 + 1 + 1 := ⟨k - 3, by omega⟩
      rw [herbariumlaw2_kinds.l3, if_pos h, decide_eq_true (show a < 60 by omega), herbariumlaw2_kinds.j8, if_pos rfl, ctake_notmay s n kind a hm (k + 1) (by omega), Option.bind_some, if_neg (by decide), herbariumlaw2_kinds.j9, if_neg (by decide), herbariumlaw2_num.f, Option.bind_some, if_pos rfl, if_pos rfl, if_pos rfl, wrap_in (a + 1) (by omega) (by omega)]
      exact l3_not ks ns bs x7 kind x9 h9 s n hm K hK hnext d (a + 1) (by omega) (by omega) k (by omega)
    · obtain ⟨k, rfl⟩ : ∃ m, k = m + 1 + 1 := ⟨k - 2, by omega⟩
      rw [l3_end ks ns bs x7 kind x9 false [] _ _ a (fun h2 => h h2.1) h9 k]
      exact hnext k (by omega)
/-- One row of bits. -/
theorem l1_one (ks ns : List Int) (bs : List S27) (x7 kind : Int) (hns : ns.length ≤ 100) (i : Nat) (hi : i < bs.length) (h6 : i < 6) (K : Nat) (hK : 9000 ≤ K)
    (hnext : ∀ k, K ≤ k → herbariumlaw2_kinds.l1 k ks ns bs x7 kind ((i : Int) + 1) = some true) :
    ∀ k, K + 600 ≤ k → herbariumlaw2_kinds.l1 k ks ns bs x7 kind (i : Int) = some true := by
  intro k hk
  obtain ⟨k, rfl⟩ : ∃ m, k = m + 1 + 1 + 1 := ⟨k - 3, by omega⟩
  rw [herbariumlaw2_kinds.l1, if_pos (by omega), decide_eq_true (show (i : Int) < 6 by omega), herbariumlaw2_kinds.j3, if_pos rfl, if_pos (by omega), if_pos (by omega), refBits_eq _ _ (k + 1) (by omega), Option.bind_some]
  generalize (rd_T27 bs (i : Int)).f0 = s
  generalize (rd_T27 bs (i : Int)).f1 = n
  by_cases hm : MayP s n
  · obtain ⟨c1, c2, c3, c4⟩ := canon s n hm
    rw [decide_eq_true hm, if_pos rfl]
    generalize ofS s n = l at *
    subst c1
    subst c2
    rw [refOf_eq l c3 (by omega) (k + 1) (by omega), Option.bind_some, herbariumlaw2_kinds.j4]
    have h3 := l3_may ks ns bs x7 kind (i : Int) (by omega) l c3 c4 K (by omega) hnext 61 (-1) (by omega) (by omega)
    exact l2_may ks ns bs x7 kind (i : Int) l c3 c4 (by omega) (K + 3 * 61 + 2) (by omega) h3 ns.length 0 (by omega) k (by omega)
  · rw [decide_eq_false hm, if_neg (by decide), herbariumlaw2_kinds.j4]
    have h3 := l3_not ks ns bs x7 kind (i : Int) (by omega) s n hm K (by omega) hnext 61 (-1) (by omega) (by omega)
    exact l2_not ks ns bs x7 kind (i : Int) s n hm (by omega) (K + 3 * 61 + 2) (by omega) h3 ns.length 0 (by omega) k (by omega)
set_option maxRecDepth 100000 in
theorem l1_all (ks ns : List Int) (bs : List S27) (x7 kind : Int) (hx7 : 0 ≤ x7 ∧ x7 < 1000000) (hns : ns.length ≤ 100) (K : Nat) (hK : 9000 ≤ K)
    (hnext : ∀ k, K ≤ k → herbariumlaw2_kinds.l0 k ks ns bs (x7 + 1) = some true) :
    ∀ (d i : Nat), i + d = 6 → ∀ k, K + 700 * d + 10 ≤ k → herbariumlaw2_kinds.l1 k ks ns bs x7 kind (i : Int) = some true
  | 0, i, hd, k, hk => by
    obtain ⟨k, rfl⟩ : ∃ m, k = m + 1 + 1 := ⟨k - 2, by omega⟩
    have e : herbariumlaw2_kinds.j3 (k + 1) ks ns bs x7 kind (i : Int) false = some true := by
      rw [herbariumlaw2_kinds.j3, if_neg (by decide), wrap_in (x7 + 1) (by omega) (by omega)]
      exact hnext k (by omega)
    rw [herbariumlaw2_kinds.l1, decide_eq_false (show ¬ ((i : Int) < 6) by omega), e]
    split <;> rfl
  | d + 1, i, hd, k, hk => by
    by_cases h : i < bs.length
    · obtain ⟨K', hK'⟩ : ∃ K', K' = K + 700 * d + 10 := ⟨_, rfl⟩
      have ih : ∀ k, K' ≤ k → herbariumlaw2_kinds.l1 k ks ns bs x7 kind ((i : Int) + 1) = some true := by
        intro k hk
        have := l1_all ks ns bs x7 kind hx7 hns K hK hnext d (i + 1) (by omega) k (by omega)
        rw [show ((i + 1 : Nat) : Int) = (i : Int) + 1 by omega] at this
        exact this
      exact l1_one ks ns bs x7 kind hns i h (by omega) K' (by omega) ih k (by omega)
    · obtain ⟨k, rfl⟩ : ∃ m, k = m + 1 + 1 := ⟨k - 2, by omega⟩
      rw [herbariumlaw2_kinds.l1, if_neg (by omega), herbariumlaw2_kinds.j3, if_neg (by decide), wrap_in (x7 + 1) (by omega) (by omega)]
      exact hnext k (by omega)
set_option maxRecDepth 100000 in
theorem l0_all (ks ns : List Int) (bs : List S27) (hks : ks.length ≤ 10) (hns : ns.length ≤ 100) :
    ∀ (d i : Nat), i + d = ks.length → ∀ k, 9000 + 4300 * d + 60 ≤ k → herbariumlaw2_kinds.l0 k ks ns bs (i : Int) = some true
  | 0, i, hd, k, hk => by
    obtain ⟨k, rfl⟩ : ∃ m, k = m + 1 := ⟨k - 1, by omega⟩
    rw [herbariumlaw2_kinds.l0, if_neg (by omega), at_rounds herbariumlaw2_wakes.mono (show 40 ≤ k by omega) wakes_2]
    rfl
  | d + 1, i, hd, k, hk => by
    obtain ⟨k, rfl⟩ : ∃ m, k = m + 1 := ⟨k - 1, by omega⟩
    rw [herbariumlaw2_kinds.l0, if_pos (by omega), if_pos (by omega)]
    obtain ⟨K', hK'⟩ : ∃ K', K' = 9000 + 4300 * d + 60 := ⟨_, rfl⟩
    have ih : ∀ k, K' ≤ k → herbariumlaw2_kinds.l0 k ks ns bs ((i : Int) + 1) = some true := by
      intro k hk
      have := l0_all ks ns bs hks hns d (i + 1) (by omega) k (by omega)
      rw [show ((i + 1 : Nat) : Int) = (i : Int) + 1 by omega] at this
      exact this
    have h0 := l1_all ks ns bs (i : Int) (rd ks (i : Int)) (by omega) hns K' (by omega) ih 6 0 (by omega) k (by omega)
    exact h0
theorem kinds_true (l0 : List S27) (l1 ks : List Int) (g0 : Op.GoodB l0) (hks : ks.length ≤ 10) : ∃ K, ∀ k, K ≤ k → herbariumlaw2_kinds.f k l0 l1 ks = some true := by
  have hr := g0.1
  unfold reachBytes at hr
  refine ⟨l0.length + 100000, fun k hk => ?_⟩
  unfold herbariumlaw2_kinds.f
  rcases Pv.heavy_some l0 l1 (by omega) k (by omega) with h | ⟨h, hn⟩
  · rw [h]; rfl
  · obtain ⟨k, rfl⟩ : ∃ m, k = m + 1 := ⟨k - 1, by omega⟩
    have hj : ∀ ns : List Int, ns.length ≤ 100 → herbariumlaw2_kinds.j0 (k + 1) ks ns l0 l1 = some true := by
      intro ns hns
      rw [herbariumlaw2_kinds.j0, Option.bind_some, if_pos (by simp; omega)]
      exact l0_all ks ns _ hks hns ks.length 0 (by omega) k (by omega)
    rw [h, Option.bind_some, if_neg (by decide), Option.bind_some, if_pos (by simp; omega), Option.bind_some]
    split
    · rw [if_pos (by omega)]
      exact hj _ (by rw [List.length_take]; omega)
    · rename_i h18
      exact hj _ (by omega)
end Go.Proofs.Ytnpghcikhpglkaa.Pb
namespace Go.Proofs.Ytnpghcikhpglkaa.Pure
open Go.RowKit Go.Proofs.YtnpghcikhpglkaaW.PrintWords Go.Proofs.YtnpghcikhpglkaaW.PrintLast Go.Proofs.YtnpghcikhpglkaaW.PrintMore Go.Proofs.Ytnpghcikhpglkaa.Q Go.Proofs.Ytnpghcikhpglkaa.Pb
set_option linter.unusedVariables false
theorem CodeAny : ∀ (l0 : List S27) (l1 : List Int), Op.GoodB l0 → Op.GoodN l1 → ∃ k, Q.herbariumlaw2_CodeAny.f k l0 l1 = some true := by
  intro l0 l1 g0 _
  obtain ⟨K, h⟩ := kinds_true l0 l1 [0, 6, (-1)] g0 (by simp)
  refine ⟨K, ?_⟩
  unfold herbariumlaw2_CodeAny.f
  rw [h K (Nat.le_refl _)]
  rfl
end Go.Proofs.Ytnpghcikhpglkaa.Pure
