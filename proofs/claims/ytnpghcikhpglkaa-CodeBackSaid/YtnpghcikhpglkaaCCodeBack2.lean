/- What the row of CodeBack rests on, part 3 of 3: functions, contracts, plain laws. -/
import Derived.Test.YtnpghcikhpglkaaCCodeBack1
namespace Go.Proofs.Ytnpghcikhpglkaa.Pb
open Go.RowKit Go.Proofs.YtnpghcikhpglkaaW.PrintWords Go.Proofs.YtnpghcikhpglkaaW.PrintLast Go.Proofs.YtnpghcikhpglkaaW.PrintMore Go.Proofs.Ytnpghcikhpglkaa.Hand Go.Proofs.Ytnpghcikhpglkaa.Pu Go.Proofs.Ytnpghcikhpglkaa.Q
set_option linter.unusedVariables false
set_option linter.unusedSimpArgs false

theorem rd_zeros_bad (l : List Int) (hl : IsBits l) (hlen : l.length ≤ 6000) (a : Nat) (ha : a ≤ l.length) (most : Int) (k : Nat) (hk : 7000 ≤ k) : rd_zeros k (packS l) (l.length : Int) (a : Int) true most = some (0, (a : Int), true) := by
  unfold rd_zeros
  rw [ahead_eq l hl (by omega) a ha k (by omega), Option.bind_some, if_pos rfl]
theorem rd_zeros_eq (l : List Int) (hl : IsBits l) (hlen : l.length ≤ 6000) (a : Nat) (ha : a ≤ l.length) (most : Int) (k : Nat) (hk : 7000 ≤ k) : rd_zeros k (packS l) (l.length : Int) (a : Int) false most =
    some (if 0 ≤ zerosL (l.drop a) ∧ zerosL (l.drop a) ≤ most then (zerosL (l.drop a), (a : Int) + zerosL (l.drop a), false) else (0, (a : Int), true)) := by
  have hr := zerosL_range (l.drop a)
  rw [List.length_drop] at hr
  unfold rd_zeros
  rw [ahead_eq l hl (by omega) a ha k (by omega), Option.bind_some, if_neg (by decide)]
  generalize zerosL (l.drop a) = z at *
  by_cases h1 : z < 0
  · rw [if_pos h1, if_neg (fun h => by omega)]
  · rw [if_neg h1]
    by_cases h2 : most < z
    · rw [if_pos h2, if_neg (fun h => by omega)]
    · rw [if_neg h2, if_pos ⟨by omega, by omega⟩, wrap_in _ (by omega) (by omega)]
theorem look_some (l : List Int) (hl : IsBits l) (hlen : l.length ≤ 6000) (a w : Nat) (hw : w ≤ 61) (k : Nat) (hk : 7000 ≤ k) : bits_Look.f k (packS l) (l.length : Int) (a : Int) (w : Int) = if a + w ≤ l.length then some (numL ((l.drop a).take w), true) else some (0, false) := by
  by_cases h : a + w ≤ l.length
  · rw [if_pos h]
    exact look_yes l hl (by omega) a w h hw k (by omega)
  · rw [if_neg h]
    exact look_no (packS l) (l.length : Int) (a : Int) (w : Int) (by omega) (by omega) (by omega) (by omega) k (by omega)
theorem rd_look_bad (l : List Int) (hl : IsBits l) (hlen : l.length ≤ 6000) (a w : Nat) (hw : w ≤ 61) (k : Nat) (hk : 7000 ≤ k) : rd_look k (packS l) (l.length : Int) (a : Int) true (w : Int) = some (0, (a : Int), true) := by
  unfold rd_look
  rw [look_some l hl hlen a w hw k hk]
  split <;> (rw [Option.bind_some, if_pos rfl])
theorem rd_look_eq (l : List Int) (hl : IsBits l) (hlen : l.length ≤ 6000) (a w : Nat) (hw : w ≤ 61) (k : Nat) (hk : 7000 ≤ k) : rd_look k (packS l) (l.length : Int) (a : Int) false (w : Int) =
    some (if a + w ≤ l.length then (numL ((l.drop a).take w), ((a + w : Nat) : Int), false) else (0, (a : Int), true)) := by
  unfold rd_look
  rw [look_some l hl hlen a w hw k hk]
  by_cases h : a + w ≤ l.length
  · rw [if_pos h, if_pos h, Option.bind_some, if_neg (by decide), if_pos rfl, wrap_in _ (by omega) (by omega)]
    rfl
  · rw [if_neg h, if_neg h, Option.bind_some, if_neg (by decide), if_neg (by simp)]

/-- The rest's first code, as a number and how many bits it takes. -/
def unaryR (most : Int) (r : List Int) : Option (Int × Nat) := if 0 ≤ zerosL r ∧ zerosL r ≤ most - 1 then some (zerosL r + 1, (zerosL r).toNat + 1) else none
def gammaR (r : List Int) : Option (Int × Nat) :=
  if 0 ≤ zerosL r ∧ zerosL r ≤ 30 ∧ 2 * (zerosL r).toNat + 1 ≤ r.length then some (numL ((r.drop (zerosL r).toNat).take ((zerosL r).toNat + 1)), 2 * (zerosL r).toNat + 1) else none
/-- What the reader has: good, it stands behind the code; bad. -/
def Got (o : Option (Int × Int × Bool)) (a : Nat) (q : Option (Int × Nat)) : Prop := match q with
  | some (v, c) => o = some (v, ((a + c : Nat) : Int), false)
  | none => ∃ (v : Int) (a' : Nat), o = some (v, (a' : Int), true)
theorem unary_got (l : List Int) (hl : IsBits l) (hlen : l.length ≤ 6000) (a : Nat) (ha : a ≤ l.length) (most : Int) (hm0 : 1 ≤ most) (hm1 : most ≤ 10000) (k : Nat) (hk : 7000 ≤ k) : Got (rd_unary k (packS l) (l.length : Int) (a : Int) false most) a (unaryR most (l.drop a)) := by
  have hr := zerosL_range (l.drop a)
  rw [List.length_drop] at hr
  unfold rd_unary
  rw [if_pos ⟨hm0, hm1⟩, rd_zeros_eq l hl hlen a ha _ k hk, Option.bind_some]
  unfold unaryR
  generalize zerosL (l.drop a) = z at *
  by_cases h : 0 ≤ z ∧ z ≤ most - 1
  · rw [if_pos h, if_pos h]
    simp only [Got]
    obtain ⟨z, rfl⟩ := Int.eq_ofNat_of_zero_le h.1
    have e := rd_look_eq l hl hlen (a + z) 1 (by omega) k hk
    rw [if_pos (by omega)] at e
    have e' : rd_look k (packS l) (l.length : Int) ((a : Int) + (z : Int)) false 1 = _ := e
    rw [if_pos ⟨by omega, by omega⟩, e', Option.bind_some, Int.toNat_natCast]
    rfl
  · rw [if_neg h, if_neg h]
    simp only [Got]
    have e := rd_look_bad l hl hlen a 1 (by omega) k hk
    have e' : rd_look k (packS l) (l.length : Int) (a : Int) true 1 = _ := e
    rw [if_pos ⟨by omega, by omega⟩, e', Option.bind_some]
    exact ⟨_, a, rfl⟩
theorem gamma_got (l : List Int) (hl : IsBits l) (hlen : l.length ≤ 6000) (a : Nat) (ha : a ≤ l.length) (k : Nat) (hk : 7000 ≤ k) : Got (rd_gamma k (packS l) (l.length : Int) (a : Int) false) a (gammaR (l.drop a)) := by
  have hr := zerosL_range (l.drop a)
  unfold rd_gamma
  rw [rd_zeros_eq l hl hlen a ha _ k hk, Option.bind_some]
  unfold gammaR
  have hd : ∀ z : Nat, (l.drop a).drop z = l.drop (a + z) := fun z => by rw [List.drop_drop]
  rw [hd, List.length_drop]
  rw [List.length_drop] at hr
  generalize zerosL (l.drop a) = z at *
  by_cases h : 0 ≤ z ∧ z ≤ 30
  · rw [if_pos h]
    obtain ⟨z, rfl⟩ := Int.eq_ofNat_of_zero_le h.1
    have e := rd_look_eq l hl hlen (a + z) (z + 1) (by omega) k hk
    have e' : rd_look k (packS l) (l.length : Int) ((a : Int) + (z : Int)) false ((z : Int) + 1) = _ := e
    simp only [Int.toNat_natCast]
    rw [if_pos ⟨by omega, by omega⟩, e']
    by_cases h2 : 2 * z + 1 ≤ l.length - a
    · rw [if_pos (show a + z + (z + 1) ≤ l.length by omega), if_pos ⟨h.1, h.2, h2⟩]
      simp only [Got]
      rw [show a + z + (z + 1) = a + (2 * z + 1) by omega]
    · rw [if_neg (show ¬ (a + z + (z + 1) ≤ l.length) by omega), if_neg (fun h => h2 h.2.2)]
      exact ⟨_, a + z, rfl⟩
  · have hn : ¬ (0 ≤ z ∧ z ≤ 30 ∧ 2 * z.toNat + 1 ≤ l.length - a) := fun h2 => h ⟨h2.1, h2.2.1⟩
    rw [if_neg h, if_neg hn]
    have e := rd_look_bad l hl hlen a 1 (by omega) k hk
    have e' : rd_look k (packS l) (l.length : Int) (a : Int) true (0 + 1) = _ := e
    rw [if_pos ⟨by omega, by omega⟩, e']
    exact ⟨_, a, rfl⟩
theorem IsBits.drop' {l : List Int} (h : IsBits l) (n : Nat) : IsBits (l.drop n) := fun x hx => h x (List.mem_of_mem_drop hx)
theorem IsBits.take' {l : List Int} (h : IsBits l) (n : Nat) : IsBits (l.take n) := fun x hx => h x (List.mem_of_mem_take hx)
theorem gamma_facts (r : List Int) (hr : IsBits r) (g : Int) (c : Nat) (h : gammaR r = some (g, c)) : 1 ≤ g ∧ g < 2147483648 ∧ c ≤ r.length := by
  unfold gammaR at h
  split at h
  · rename_i hc
    simp only [Option.some.injEq, Prod.mk.injEq] at h
    obtain ⟨rfl, rfl⟩ := h
    obtain ⟨q, hq⟩ := zerosL_split r hc.1 hr
    generalize hz : (zerosL r).toNat = z at *
    have hz30 : z ≤ 30 := by omega
    have e1 : r.drop z = 1 :: q := by
      rw [hq, List.drop_append_of_le_length (by simp), List.drop_of_length_le (by simp), List.nil_append]
    have hqb : IsBits q := fun x hx => hr x (by rw [hq]; simp [hx])
    rw [e1, List.take_succ_cons, numL_cons]
    have hb := numL_range (IsBits.take' hqb z)
    have hl : (q.take z).length ≤ z := by rw [List.length_take]; omega
    generalize (q.take z).length = m at *
    have hm := Nat.pow_le_pow_right (n := 2) (by decide) (show m ≤ 30 by omega)
    have hm1 : ((2 ^ m : Nat) : Int) ≤ ((2 ^ 30 : Nat) : Int) := by exact_mod_cast hm
    have hm0 : 0 < 2 ^ m := Nat.pow_pos (by decide)
    have hcast : ((2 ^ m : Nat) : Int) = (2 : Int) ^ m := Int.natCast_pow 2 m
    rw [← hcast] at hb ⊢
    refine ⟨by omega, by omega, by omega⟩
  · cases h
def deltaR (r : List Int) : Option (Int × Nat) := (gammaR r).bind fun q =>
  if q.1 - 1 ≤ 30 ∧ q.2 + (q.1 - 1).toNat ≤ r.length then some (2 ^ (q.1 - 1).toNat + numL ((r.drop q.2).take (q.1 - 1).toNat), q.2 + (q.1 - 1).toNat) else none
theorem or_high (m : Nat) (hm : m ≤ 30) (v : Int) (h0 : 0 ≤ v) (h1 : v < 2 ^ m) : Go.bits .or .i64 (IntKind.i64.wrap (2 ^ m)) v = 2 ^ m + v := by
  have hp := pow_le30 (m : Int) (by omega) (by omega)
  rw [Int.toNat_natCast] at hp
  have hw : IntKind.i64.wrap (2 ^ m) = 2 ^ m := wraps_i64 _ (by omega) (by omega)
  rw [hw, bits_join .i64 63 (by decide) wraps_i64 m (2 ^ m) v (by omega) (Int.emod_self) (by omega) h0 h1 (by omega)]
theorem delta_got (l : List Int) (hl : IsBits l) (hlen : l.length ≤ 6000) (a : Nat) (ha : a ≤ l.length) (k : Nat) (hk : 7000 ≤ k) : Got (rd_delta k (packS l) (l.length : Int) (a : Int) false) a (deltaR (l.drop a)) := by
  have hg := gamma_got l hl hlen a ha k hk
  unfold rd_delta deltaR
  cases hgr : gammaR (l.drop a) with
  | none =>
    rw [hgr] at hg
    obtain ⟨v, a', e⟩ := hg
    rw [e, Option.bind_some, if_pos rfl, Option.bind_none]
    exact ⟨_, a', rfl⟩
  | some q =>
    obtain ⟨g, c⟩ := q
    rw [hgr] at hg
    simp only [Got] at hg
    obtain ⟨g1, g2, g3⟩ := gamma_facts _ (IsBits.drop' hl a) g c hgr
    rw [List.length_drop] at g3
    rw [hg, Option.bind_some, if_neg (by simp), Option.bind_some]
    simp only
    by_cases h30 : 30 < g - 1
    · rw [if_pos h30, if_pos (by omega), if_neg (fun h => by omega)]
      exact ⟨_, a + c, rfl⟩
    · rw [if_neg h30, if_pos (by omega)]
      obtain ⟨m, hm⟩ := Int.eq_ofNat_of_zero_le (show 0 ≤ g - 1 by omega)
      have hgn : g.toNat - 1 = m := by omega
      rw [hm, hgn, Int.toNat_natCast, List.drop_drop, List.length_drop]
      have e := rd_look_eq l hl hlen (a + c) m (by omega) k hk
      rw [e, Option.bind_some]
      by_cases h2 : a + c + m ≤ l.length
      · rw [if_pos h2, if_pos ⟨by omega, by omega⟩]
        have hb := numL_range (IsBits.take' (IsBits.drop' hl (a + c)) m)
        rw [List.length_take, List.length_drop, Nat.min_eq_left (by omega)] at hb
        simp only [Got]
        rw [or_high m (by omega) _ hb.1 hb.2, show a + c + m = a + (c + m) by omega]
      · rw [if_neg h2, if_neg (fun h => by omega)]
        exact ⟨_, a + c, rfl⟩
def zetaR (kk most : Int) (r : List Int) : Option (Int × Nat) := (unaryR most r).bind fun u => (code_zeta.f kk (u.1 - 1)).bind fun q =>
  if u.2 + (q.2.2.1 - 1).toNat ≤ r.length then
    (if numL ((r.drop u.2).take (q.2.2.1 - 1).toNat) < q.2.2.2 then some (q.1 + numL ((r.drop u.2).take (q.2.2.1 - 1).toNat), u.2 + (q.2.2.1 - 1).toNat)
    else if u.2 + (q.2.2.1 - 1).toNat + 1 ≤ r.length then some (q.1 + (numL ((r.drop u.2).take (q.2.2.1 - 1).toNat) * 2 + numL ((r.drop (u.2 + (q.2.2.1 - 1).toNat)).take 1) - q.2.2.2), u.2 + (q.2.2.1 - 1).toNat + 1) else none)
  else none
theorem zeta_got (kk : Nat) (most : Int) (hm0 : 1 ≤ most) (hm1 : most ≤ 16) (hz : ∀ h : Nat, (h : Int) ≤ most - 1 → ∃ low many size short : Int, code_zeta.f (kk : Int) (h : Int) = some (low, many, size, short) ∧ 0 ≤ low ∧ low ≤ 4294967296 ∧ 1 ≤ size ∧ size ≤ 33 ∧ 0 ≤ short ∧ short ≤ 4294967296)
    (l : List Int) (hl : IsBits l) (hlen : l.length ≤ 6000) (a : Nat) (ha : a ≤ l.length) (k : Nat) (hk : 7000 ≤ k) : Got (rd_zeta (kk : Int) most k (packS l) (l.length : Int) (a : Int) false) a (zetaR (kk : Int) most (l.drop a)) := by
  have hu := unary_got l hl hlen a ha most hm0 (by omega) k hk
  have hr := zerosL_range (l.drop a)
  rw [List.length_drop] at hr
  unfold rd_zeta zetaR
  cases hur : unaryR most (l.drop a) with
  | none =>
    rw [hur] at hu
    obtain ⟨v, a', e⟩ := hu
    rw [e, Option.bind_some, if_pos rfl, Option.bind_none]
    exact ⟨_, a', rfl⟩
  | some q =>
    obtain ⟨u, c⟩ := q
    rw [hur] at hu
    simp only [Got] at hu
    have hc : 1 ≤ u ∧ u ≤ most ∧ a + c ≤ l.length := by
      unfold unaryR at hur
      split at hur
      · simp only [Option.some.injEq, Prod.mk.injEq] at hur
        omega
      · cases hur
    obtain ⟨h, hh⟩ := Int.eq_ofNat_of_zero_le (show 0 ≤ u - 1 by omega)
    obtain ⟨low, many, size, short, e, z1, z2, z3, z4, z5, z6⟩ := hz h (by omega)
    rw [hu, Option.bind_some, if_neg (by simp), Option.bind_some]
    simp only
    rw [if_pos ⟨by omega, by omega⟩, hh, e, Option.bind_some, Option.bind_some]
    simp only
    rw [if_pos ⟨z1, z2, z3, by omega, z5, z6⟩]
    obtain ⟨m, hm⟩ := Int.eq_ofNat_of_zero_le (show 0 ≤ size - 1 by omega)
    rw [hm, Int.toNat_natCast, List.drop_drop, List.drop_drop, List.length_drop, rd_look_eq l hl hlen (a + c) m (by omega) k hk, Option.bind_some]
    by_cases h2 : a + c + m ≤ l.length
    · rw [if_pos h2, if_pos (show c + m ≤ l.length - a by omega)]
      have hb := numL_range (IsBits.take' (IsBits.drop' hl (a + c)) m)
      rw [List.length_take, List.length_drop, Nat.min_eq_left (by omega)] at hb
      have hpw := Nat.pow_le_pow_right (n := 2) (by decide) (show m ≤ 32 by omega)
      have hpc : ((2 ^ m : Nat) : Int) = (2 : Int) ^ m := Int.natCast_pow 2 m
      rw [← hpc] at hb
      generalize numL ((l.drop (a + c)).take m) = z at *
      simp only
      rw [if_pos ⟨by omega, by omega⟩]
      by_cases h3 : z < short
      · rw [if_pos h3, if_pos h3]
        simp only [Got]
        rw [show a + c + m = a + (c + m) by omega]
      · rw [if_neg h3, if_neg h3]
        have e1 := rd_look_eq l hl hlen (a + c + m) 1 (by omega) k hk
        have e1' : rd_look k (packS l) (l.length : Int) ((a + c + m : Nat) : Int) false 1 = _ := e1
        rw [e1', Option.bind_some]
        by_cases h4 : a + c + m + 1 ≤ l.length
        · rw [if_pos h4, if_pos (show c + m + 1 ≤ l.length - a by omega)]
          have hb1 := numL_range (IsBits.take' (IsBits.drop' hl (a + c + m)) 1)
          rw [List.length_take, List.length_drop, Nat.min_eq_left (by omega)] at hb1
          rw [show a + (c + m) = a + c + m by omega]
          generalize numL ((l.drop (a + c + m)).take 1) = y at *
          simp only [Got]
          rw [if_pos ⟨by omega, by omega⟩, show a + c + m + 1 = a + (c + m + 1) by omega]
        · rw [if_neg h4, if_neg (show ¬ (c + m + 1 ≤ l.length - a) by omega), if_pos ⟨by omega, by omega⟩]
          exact ⟨_, a + c + m, rfl⟩
    · rw [if_neg h2, if_neg (show ¬ (c + m ≤ l.length - a) by omega)]
      have e1 := rd_look_bad l hl hlen (a + c) 1 (by omega) k hk
      have e1' : rd_look k (packS l) (l.length : Int) ((a + c : Nat) : Int) true 1 = _ := e1
      simp only
      rw [if_pos ⟨by omega, by omega⟩, e1', Option.bind_some]
      split
      · exact ⟨_, a + c, rfl⟩
      · rw [if_pos ⟨by omega, by omega⟩]
        exact ⟨_, a + c, rfl⟩
end Go.Proofs.Ytnpghcikhpglkaa.Pb
namespace Go.Proofs.Ytnpghcikhpglkaa.Pb
open Go.RowKit Go.Proofs.YtnpghcikhpglkaaW.PrintWords Go.Proofs.YtnpghcikhpglkaaW.PrintLast Go.Proofs.YtnpghcikhpglkaaW.PrintMore Go.Proofs.Ytnpghcikhpglkaa.Hand Go.Proofs.Ytnpghcikhpglkaa.Pu Go.Proofs.Ytnpghcikhpglkaa.Q
set_option linter.unusedVariables false
set_option linter.unusedSimpArgs false

/-- The rest's first code of a kind. -/
def ReadL (kind : Int) (r : List Int) : Option (Int × Nat) :=
  if kind = 1 then unaryR 1000 r else if kind = 2 then gammaR r else if kind = 3 then deltaR r else if kind = 4 then zetaR 2 16 r else zetaR 3 11 r
theorem zt2' (h : Nat) (hh : (h : Int) ≤ 16 - 1) : ∃ low many size short : Int, code_zeta.f ((2 : Nat) : Int) (h : Int) = some (low, many, size, short) ∧ 0 ≤ low ∧ low ≤ 4294967296 ∧ 1 ≤ size ∧ size ≤ 33 ∧ 0 ≤ short ∧ short ≤ 4294967296 := by
  obtain ⟨low, many, size, short, e, e1, e2, e3, e4, e5, e6, e7⟩ := zt_facts (zt2 ⟨h, by omega⟩)
  have hb : ∀ h : Fin 16, (Option.any (fun q : Int × Int × Int × Int => Nat.ble q.2.2.1.toNat 33) (code_zeta.f ((2 : Nat) : Int) (h.val : Int))) = true := by decide +kernel
  have hb2 := hb ⟨h, by omega⟩
  simp only at e e1 hb2
  rw [e] at hb2
  have hb3 : size.toNat ≤ 33 := Nat.le_of_ble_eq_true hb2
  have hp := Nat.pow_le_pow_right (n := 2) (by decide) (show h * 2 ≤ 32 by omega)
  have hp0 : 0 < 2 ^ (h * 2) := Nat.pow_pos (by decide)
  exact ⟨low, many, size, short, e, by omega, by omega, e3, by omega, e5, by omega⟩
theorem zt3' (h : Nat) (hh : (h : Int) ≤ 11 - 1) : ∃ low many size short : Int, code_zeta.f ((3 : Nat) : Int) (h : Int) = some (low, many, size, short) ∧ 0 ≤ low ∧ low ≤ 4294967296 ∧ 1 ≤ size ∧ size ≤ 33 ∧ 0 ≤ short ∧ short ≤ 4294967296 := by
  obtain ⟨low, many, size, short, e, e1, e2, e3, e4, e5, e6, e7⟩ := zt_facts (zt3 ⟨h, by omega⟩)
  have hb : ∀ h : Fin 11, (Option.any (fun q : Int × Int × Int × Int => Nat.ble q.2.2.1.toNat 33) (code_zeta.f ((3 : Nat) : Int) (h.val : Int))) = true := by decide +kernel
  have hb2 := hb ⟨h, by omega⟩
  simp only at e e1 hb2
  rw [e] at hb2
  have hb3 : size.toNat ≤ 33 := Nat.le_of_ble_eq_true hb2
  have hp := Nat.pow_le_pow_right (n := 2) (by decide) (show h * 3 ≤ 32 by omega)
  have hp0 : 0 < 2 ^ (h * 3) := Nat.pow_pos (by decide)
  exact ⟨low, many, size, short, e, by omega, by omega, e3, by omega, e5, by omega⟩
theorem read_got (l : List Int) (hl : IsBits l) (hlen : l.length ≤ 6000) (a : Nat) (ha : a ≤ l.length) (kind : Int) (hk1 : 1 ≤ kind) (hk5 : kind ≤ 5) (k : Nat) (hk : 7000 ≤ k) : Got (readK k (packS l) (l.length : Int) (a : Int) kind) a (ReadL kind (l.drop a)) := by
  have hkk : kind = 1 ∨ kind = 2 ∨ kind = 3 ∨ kind = 4 ∨ kind = 5 := by omega
  unfold readK ReadL
  rcases hkk with rfl | rfl | rfl | rfl | rfl
  · rw [if_pos rfl, if_pos rfl]; exact unary_got l hl hlen a ha 1000 (by omega) (by omega) k hk
  · rw [if_neg (by decide), if_pos rfl, if_neg (by decide), if_pos rfl]; exact gamma_got l hl hlen a ha k hk
  · rw [if_neg (by decide), if_neg (by decide), if_pos rfl, if_neg (by decide), if_neg (by decide), if_pos rfl]; exact delta_got l hl hlen a ha k hk
  · rw [if_neg (by decide), if_neg (by decide), if_neg (by decide), if_pos rfl, if_neg (by decide), if_neg (by decide), if_neg (by decide), if_pos rfl]
    exact zeta_got 2 16 (by omega) (by omega) zt2' l hl hlen a ha k hk
  · rw [if_neg (by decide), if_neg (by decide), if_neg (by decide), if_neg (by decide), if_pos rfl, if_neg (by decide), if_neg (by decide), if_neg (by decide), if_neg (by decide)]
    exact zeta_got 3 11 (by omega) (by omega) zt3' l hl hlen a ha k hk
/-- code.Read's answer. -/
def readR (kind : Int) (l : List Int) (a : Nat) : Int × Int × Bool := match ReadL kind (l.drop a) with
  | some (v, c) => if 1073741824 < v then (0, 0, false) else (v, ((a + c : Nat) : Int), true)
  | none => (0, 0, false)
theorem read_eq (l : List Int) (hl : IsBits l) (hlen : l.length ≤ 6000) (a : Nat) (ha : a ≤ l.length) (kind : Int) (hk1 : 1 ≤ kind) (hk5 : kind ≤ 5) : code_Read.f (packS l) (l.length : Int) (a : Int) kind = some (readR kind l a) := by
  have hg := read_got l hl hlen a ha kind hk1 hk5 rounds (by unfold rounds; omega)
  unfold code_Read.f readR
  cases hr : ReadL kind (l.drop a) with
  | none =>
    rw [hr] at hg
    obtain ⟨v, a', e⟩ := hg
    rw [e, Option.bind_some, if_pos rfl]
  | some q =>
    obtain ⟨v, c⟩ := q
    rw [hr] at hg
    simp only [Got] at hg
    rw [hg, Option.bind_some, if_neg (by simp)]
    simp only
    split <;> rfl
end Go.Proofs.Ytnpghcikhpglkaa.Pb
namespace Go.Proofs.Ytnpghcikhpglkaa.Pb
open Go.RowKit Go.Proofs.YtnpghcikhpglkaaW.PrintWords Go.Proofs.YtnpghcikhpglkaaW.PrintLast Go.Proofs.YtnpghcikhpglkaaW.PrintMore Go.Proofs.Ytnpghcikhpglkaa.Hand Go.Proofs.Ytnpghcikhpglkaa.Pu Go.Proofs.Ytnpghcikhpglkaa.Q
set_option linter.unusedVariables false
set_option linter.unusedSimpArgs false

theorem unaryL_eq (n : Int) : unaryL n = List.replicate (n - 1).toNat 0 ++ [1] := by
  unfold unaryL; rw [putL_zero]; rfl
theorem unary_read (most n : Int) (h1 : 1 ≤ n) (h2 : n ≤ most) (r : List Int) : unaryR most (unaryL n ++ r) = some (n, (unaryL n).length) := by
  obtain ⟨m, hm⟩ := Int.eq_ofNat_of_zero_le (show 0 ≤ n - 1 by omega)
  rw [unaryL_length n h1, unaryL_eq, hm, Int.toNat_natCast, List.append_assoc, List.singleton_append]
  unfold unaryR
  rw [zerosL_rep, if_pos ⟨by omega, by omega⟩, Int.toNat_natCast, show m + 1 = n.toNat by omega, show (m : Int) + 1 = n by omega]
theorem gamma_read (n : Int) (h1 : 1 ≤ n) (h2 : n ≤ 1073741824) (r : List Int) : gammaR (gammaL n ++ r) = some (n, (gammaL n).length) := by
  obtain ⟨_, g0, g1, g2, g3⟩ := lg_facts n h1 h2
  have hlen := gammaL_length n
  obtain ⟨g, hg⟩ := Int.eq_ofNat_of_zero_le g0
  have e : gammaL n = List.replicate g 0 ++ putL (g + 1) n := by
    unfold gammaL
    rw [hg, putL_zero, Int.toNat_natCast, show ((g : Int) + 1).toNat = g + 1 by omega]
  rw [hg, Int.toNat_natCast] at g2 g3
  rw [hg, Int.toNat_natCast, show ((g : Int) + 1).toNat = g + 1 by omega] at hlen
  have hp : (0 : Int) < 2 ^ g := Int.pow_pos (by decide)
  have hs : (2 : Int) ^ (g + 1) = 2 ^ g * 2 := Int.pow_succ 2 g
  have hd : n / 2 ^ g = 1 := by
    rw [Int.ediv_eq_iff_of_pos hp]
    omega
  have e1 : putL (g + 1) n = 1 :: putL g n := by rw [putL, hd]; rfl
  have e2 : gammaL n ++ r = List.replicate g 0 ++ 1 :: (putL g n ++ r) := by rw [e, e1]; simp
  have hz : zerosL (gammaL n ++ r) = (g : Int) := by rw [e2, zerosL_rep]
  have hdr : ((gammaL n ++ r).drop g).take (g + 1) = putL (g + 1) n := by
    rw [e, List.append_assoc, List.drop_append_of_le_length (by simp), List.drop_of_length_le (by simp), List.nil_append, List.take_append_of_le_length (by rw [putL_length]; omega), List.take_of_length_le (by rw [putL_length]; omega)]
  unfold gammaR
  rw [hz, Int.toNat_natCast, if_pos ⟨by omega, by omega, by rw [List.length_append, hlen]; omega⟩, hdr, numL_putL_lt (g + 1) n (by omega) g3, hlen, show 2 * g + 1 = g + (g + 1) by omega]
theorem delta_read (n : Int) (h1 : 1 ≤ n) (h2 : n ≤ 1073741824) (r : List Int) : deltaR (deltaL n ++ r) = some (n, (deltaL n).length) := by
  obtain ⟨_, g0, g1, g2, g3⟩ := lg_facts n h1 h2
  obtain ⟨g, hg⟩ := Int.eq_ofNat_of_zero_le g0
  have e : deltaL n = gammaL ((g : Int) + 1) ++ putL g n := by unfold deltaL; rw [hg, Int.toNat_natCast]
  rw [hg, Int.toNat_natCast] at g2 g3
  have hp : (0 : Int) < 2 ^ g := Int.pow_pos (by decide)
  have hs : (2 : Int) ^ (g + 1) = 2 ^ g * 2 := Int.pow_succ 2 g
  have hm : n % 2 ^ g = n - 2 ^ g := by
    rw [← Int.emod_eq_of_lt (a := n - 2 ^ g) (b := 2 ^ g) (by omega) (by omega), Int.sub_emod_right]
  unfold deltaR
  rw [e, List.append_assoc, gamma_read ((g : Int) + 1) (by omega) (by omega), Option.bind_some]
  simp only
  have hd : ((gammaL ((g : Int) + 1) ++ (putL g n ++ r)).drop (gammaL ((g : Int) + 1)).length).take g = putL g n := by
    rw [List.drop_left, List.take_append_of_le_length (by rw [putL_length]; omega), List.take_of_length_le (by rw [putL_length]; omega)]
  rw [show (g : Int) + 1 - 1 = (g : Int) by omega, Int.toNat_natCast, hd, if_pos ⟨by omega, by simp only [List.length_append, putL_length]; omega⟩, numL_putL g n (by omega), hm, List.length_append, putL_length, show (2 : Int) ^ g + (n - 2 ^ g) = n by omega]
end Go.Proofs.Ytnpghcikhpglkaa.Pb
namespace Go.Proofs.Ytnpghcikhpglkaa.Pb
open Go.RowKit Go.Proofs.YtnpghcikhpglkaaW.PrintWords Go.Proofs.YtnpghcikhpglkaaW.PrintLast Go.Proofs.YtnpghcikhpglkaaW.PrintMore Go.Proofs.Ytnpghcikhpglkaa.Hand Go.Proofs.Ytnpghcikhpglkaa.Pu Go.Proofs.Ytnpghcikhpglkaa.Q
set_option linter.unusedVariables false
set_option linter.unusedSimpArgs false

theorem putL_last (m : Nat) : ∀ v : Int, putL (m + 1) v = putL m (v / 2) ++ [v % 2] := by
  induction m with
  | zero => intro v; simp [putL]
  | succ m ih =>
    intro v
    have e : v / 2 ^ (m + 1) = v / 2 / 2 ^ m := by
      rw [Int.pow_succ, Int.mul_comm, ← Int.ediv_ediv_of_nonneg (by decide)]
    rw [putL, ih v, putL, e]
    rfl
def manyOk (kk h : Nat) : Bool := Option.any (fun q : Int × Int × Int × Int => Nat.blt (2 ^ (q.2.2.1.toNat - 1)) q.2.1.toNat) (code_zeta.f (kk : Int) (h : Int))
theorem many2 : ∀ h : Fin 16, manyOk 2 h.val = true := by decide +kernel
theorem many3 : ∀ h : Fin 11, manyOk 3 h.val = true := by decide +kernel
theorem zeta_read (kk h : Nat) (most n : Int) (hk : 1 ≤ kk) (h1 : 1 ≤ n) (h2 : n ≤ 1073741824) (hh : Int.tdiv (lg n) (kk : Int) = (h : Int)) (hmost : (h : Int) + 1 ≤ most) (ho : ztOk kk h = true) (hm : manyOk kk h = true) (hhi : n < ((2 ^ (h * kk + kk) : Nat) : Int)) (hlo : ((2 ^ (h * kk) : Nat) : Int) ≤ n) (r : List Int) :
    zetaR (kk : Int) most (zetaL (kk : Int) n ++ r) = some (n, (zetaL (kk : Int) n).length) := by
  obtain ⟨low, many, size, short, e, e1, e2, e3, e4, e5, e6, e7⟩ := zt_facts ho
  unfold manyOk at hm
  rw [e] at hm
  have hm2 : 2 ^ (size.toNat - 1) < many.toNat := by simpa using hm
  obtain ⟨m, hsz⟩ := Int.eq_ofNat_of_zero_le (show 0 ≤ size - 1 by omega)
  have hsz2 : size.toNat = m + 1 := by omega
  rw [hsz2] at e6 hm2
  have hpow : 2 ^ (m + 1) = 2 ^ m * 2 := Nat.pow_succ 2 m
  simp only [Nat.add_sub_cancel] at hm2
  have hc : ((2 ^ m : Nat) : Int) = (2 : Int) ^ m := Int.natCast_pow 2 m
  have hz : zetaL (kk : Int) n = unaryL ((h : Int) + 1) ++ (if n - low < short then putL (size - 1).toNat (n - low) else putL size.toNat (n - low + short)) := by
    unfold zetaL; rw [hh, e]
  rw [hz, hsz, hsz2, Int.toNat_natCast]
  by_cases hx : n - low < short
  · rw [if_pos hx, List.append_assoc]
    unfold zetaR
    rw [unary_read most ((h : Int) + 1) (by omega) hmost, Option.bind_some]
    simp only
    rw [show (h : Int) + 1 - 1 = (h : Int) by omega, e, Option.bind_some]
    simp only
    rw [hsz, Int.toNat_natCast, List.drop_left, List.take_append_of_le_length (by rw [putL_length]; omega), List.take_of_length_le (by rw [putL_length]; omega), if_pos (by simp only [List.length_append, putL_length]; omega), numL_putL_lt m (n - low) (by omega) (by rw [← hc]; omega), if_pos hx, List.length_append, putL_length, show low + (n - low) = n by omega]
  · rw [if_neg hx, List.append_assoc]
    unfold zetaR
    rw [unary_read most ((h : Int) + 1) (by omega) hmost, Option.bind_some]
    simp only
    rw [show (h : Int) + 1 - 1 = (h : Int) by omega, e, Option.bind_some]
    simp only
    rw [putL_last]
    have hv : (n - low + short) / 2 < ((2 ^ m : Nat) : Int) := by omega
    rw [hsz, Int.toNat_natCast, List.drop_left, List.append_assoc, List.take_append_of_le_length (by rw [putL_length]; omega), List.take_of_length_le (by rw [putL_length]; omega), if_pos (by simp only [List.length_append, putL_length]; omega), numL_putL_lt m _ (by omega) (by rw [← hc]; exact hv), if_neg (by omega), if_pos (by simp only [List.length_append, putL_length, List.length_singleton]; omega)]
    have hd : ((unaryL ((h : Int) + 1) ++ (putL m ((n - low + short) / 2) ++ ([(n - low + short) % 2] ++ r))).drop ((unaryL ((h : Int) + 1)).length + m)).take 1 = [(n - low + short) % 2] := by
      rw [← List.drop_drop, List.drop_left]
      have := List.drop_left (l₁ := putL m ((n - low + short) / 2)) (l₂ := [(n - low + short) % 2] ++ r)
      rw [putL_length] at this
      rw [this]; rfl
    rw [hd, List.length_append, List.length_append, putL_length]
    have hn : numL [(n - low + short) % 2] = (n - low + short) % 2 := by simp [numL]
    rw [hn, show low + ((n - low + short) / 2 * 2 + (n - low + short) % 2 - short) = n by omega]
    rfl
theorem lg_high {n : Int} {h kk : Nat} (h0 : 1 ≤ n) (h1 : n ≤ 1073741824) (hh : (h : Int) = lg n / (kk : Int)) (hk : 1 ≤ kk) : n < ((2 ^ (h * kk + kk) : Nat) : Int) := by
  obtain ⟨_, g0, g1, g2, g3⟩ := lg_facts n h0 h1
  obtain ⟨g, hg⟩ := Int.eq_ofNat_of_zero_le g0
  rw [hg] at hh g3
  rw [Int.toNat_natCast] at g3
  have hh' : h = g / kk := by exact_mod_cast hh
  have hle : g + 1 ≤ h * kk + kk := by
    have := Nat.lt_div_mul_add (a := g) (b := kk) (by omega)
    rw [hh']; omega
  have := Nat.pow_le_pow_right (n := 2) (by decide) hle
  have h2 : ((2 ^ (g + 1) : Nat) : Int) ≤ ((2 ^ (h * kk + kk) : Nat) : Int) := by exact_mod_cast this
  have h3 : ((2 ^ (g + 1) : Nat) : Int) = (2 : Int) ^ (g + 1) := Int.natCast_pow 2 (g + 1)
  rw [h3] at h2
  exact Int.lt_of_lt_of_le g3 h2
theorem read_lay (kind n : Int) (hk1 : 1 ≤ kind) (hk5 : kind ≤ 5) (h1 : 1 ≤ n) (h2 : n ≤ 1073741824) (h3 : kind = 1 → n ≤ 1000) (r : List Int) : ReadL kind (layL kind n ++ r) = some (n, (layL kind n).length) := by
  obtain ⟨_, g0, g1, _, _⟩ := lg_facts n h1 h2
  have hkk : kind = 1 ∨ kind = 2 ∨ kind = 3 ∨ kind = 4 ∨ kind = 5 := by omega
  unfold ReadL layL
  rcases hkk with rfl | rfl | rfl | rfl | rfl
  · rw [if_pos rfl, if_pos rfl]; exact unary_read 1000 n h1 (h3 rfl) r
  · rw [if_neg (by decide), if_pos rfl, if_neg (by decide), if_pos rfl]; exact gamma_read n h1 h2 r
  · rw [if_neg (by decide), if_neg (by decide), if_pos rfl, if_neg (by decide), if_neg (by decide), if_pos rfl]; exact delta_read n h1 h2 r
  · rw [if_neg (by decide), if_neg (by decide), if_neg (by decide), if_pos rfl, if_neg (by decide), if_neg (by decide), if_neg (by decide), if_pos rfl]
    obtain ⟨h, hh⟩ := Int.eq_ofNat_of_zero_le (show 0 ≤ lg n / 2 by omega)
    exact zeta_read 2 h 16 n (by omega) h1 h2 (by rw [Int.tdiv_eq_ediv_of_nonneg g0]; exact hh) (by omega) (zt2 ⟨h, by omega⟩) (many2 ⟨h, by omega⟩) (lg_high h1 h2 hh.symm (by omega)) (low_le h1 h2 hh.symm (by omega)) r
  · rw [if_neg (by decide), if_neg (by decide), if_neg (by decide), if_neg (by decide), if_neg (by decide), if_neg (by decide), if_neg (by decide), if_neg (by decide)]
    obtain ⟨h, hh⟩ := Int.eq_ofNat_of_zero_le (show 0 ≤ lg n / 3 by omega)
    exact zeta_read 3 h 11 n (by omega) h1 h2 (by rw [Int.tdiv_eq_ediv_of_nonneg g0]; exact hh) (by omega) (zt3 ⟨h, by omega⟩) (many3 ⟨h, by omega⟩) (lg_high h1 h2 hh.symm (by omega)) (low_le h1 h2 hh.symm (by omega)) r
end Go.Proofs.Ytnpghcikhpglkaa.Pb
namespace Go.Proofs.Ytnpghcikhpglkaa.Pb
open Go.RowKit Go.Proofs.YtnpghcikhpglkaaW.PrintWords Go.Proofs.YtnpghcikhpglkaaW.PrintLast Go.Proofs.YtnpghcikhpglkaaW.PrintMore Go.Proofs.Ytnpghcikhpglkaa.Hand Go.Proofs.Ytnpghcikhpglkaa.Pu Go.Proofs.Ytnpghcikhpglkaa.Q
set_option linter.unusedVariables false
set_option linter.unusedSimpArgs false

/-- A number may be coded so. -/
def NumP (kind n : Int) : Prop := 1 ≤ n ∧ n ≤ 1073741824 ∧ (kind = 1 → n ≤ 1000)
instance (kind n : Int) : Decidable (NumP kind n) := by unfold NumP; infer_instance
theorem is_eq (kind : Int) : code_Is.f kind = some (decide (1 ≤ kind ∧ kind ≤ 5)) := by
  unfold code_Is.f
  by_cases h : kind ≥ 1
  · rw [if_pos h]; congr 1; rw [decide_eq_decide]; omega
  · rw [if_neg h, decide_eq_false (fun h2 => h h2.1)]
theorem number_eq (kind n : Int) : code_number.f kind n = some (decide (1 ≤ n ∧ n ≤ 1073741824 ∧ (kind = 1 → n ≤ 1000))) := by
  unfold code_number.f
  by_cases h1 : kind = 1
  · rw [if_pos h1]
    by_cases h : n ≥ 1
    · rw [if_pos h]; congr 1; rw [decide_eq_decide]; constructor <;> intro h2 <;> omega
    · rw [if_neg h, decide_eq_false (fun h2 => h h2.1)]
  · rw [if_neg h1]
    by_cases h : n ≥ 1
    · rw [if_pos h]; congr 1; rw [decide_eq_decide]; constructor <;> intro h2 <;> omega
    · rw [if_neg h, decide_eq_false (fun h2 => h h2.1)]
theorem cput_eq (l : List Int) (hl : IsBits l) (hlen : l.length ≤ 6000) (kind n : Int) : code_Put.f (packS l) (l.length : Int) kind n =
    some (if (1 ≤ kind ∧ kind ≤ 5) ∧ NumP kind n then (if l.length + (layL kind n).length ≤ 6000 then (packS (l ++ layL kind n), ((l ++ layL kind n).length : Int), 0) else (⟨#[]⟩, 0, 2)) else (⟨#[]⟩, 0, 1)) := by
  unfold code_Put.f
  rw [if_pos (may_packS l hl hlen), is_eq, ofS_packS l hl, Option.bind_some]
  by_cases h1 : 1 ≤ kind ∧ kind ≤ 5
  · rw [decide_eq_true h1, if_pos rfl, number_eq, Option.bind_some]
    by_cases h2 : NumP kind n
    · rw [decide_eq_true (p := 1 ≤ n ∧ n ≤ 1073741824 ∧ (kind = 1 → n ≤ 1000)) h2, if_pos rfl, if_pos (show (1 ≤ kind ∧ kind ≤ 5) ∧ NumP kind n from ⟨h1, h2⟩)]
      by_cases h3 : l.length + (layL kind n).length ≤ 6000
      · rw [if_pos h3, if_pos (show ((l ++ layL kind n).length : Int) ≤ 6000 by rw [List.length_append]; omega)]
      · rw [if_neg h3, if_neg (show ¬ (((l ++ layL kind n).length : Int) ≤ 6000) by rw [List.length_append]; omega)]
    · rw [decide_eq_false (p := 1 ≤ n ∧ n ≤ 1073741824 ∧ (kind = 1 → n ≤ 1000)) h2, if_neg (by decide), if_neg (show ¬ ((1 ≤ kind ∧ kind ≤ 5) ∧ NumP kind n) from fun h => h2 h.2)]
  · rw [decide_eq_false h1, if_neg (by decide), if_neg (show ¬ ((1 ≤ kind ∧ kind ≤ 5) ∧ NumP kind n) from fun h => h1 h.1)]
theorem csize_eq (kind n : Int) : code_Size.f kind n = some (if (1 ≤ kind ∧ kind ≤ 5) ∧ NumP kind n then (((layL kind n).length : Int), 0) else (0, 1)) := by
  unfold code_Size.f
  rw [is_eq, Option.bind_some]
  by_cases h1 : 1 ≤ kind ∧ kind ≤ 5
  · rw [decide_eq_true h1, if_pos rfl, number_eq, Option.bind_some]
    by_cases h2 : NumP kind n
    · rw [decide_eq_true (p := 1 ≤ n ∧ n ≤ 1073741824 ∧ (kind = 1 → n ≤ 1000)) h2, if_pos rfl, if_pos (show (1 ≤ kind ∧ kind ≤ 5) ∧ NumP kind n from ⟨h1, h2⟩)]
    · rw [decide_eq_false (p := 1 ≤ n ∧ n ≤ 1073741824 ∧ (kind = 1 → n ≤ 1000)) h2, if_neg (by decide), if_neg (show ¬ ((1 ≤ kind ∧ kind ≤ 5) ∧ NumP kind n) from fun h => h2 h.2)]
  · rw [decide_eq_false h1, if_neg (by decide), if_neg (show ¬ ((1 ≤ kind ∧ kind ≤ 5) ∧ NumP kind n) from fun h => h1 h.1)]
/-- code.Take's answer. -/
def takeR (kind : Int) (l : List Int) (a : Int) : Int × Int × Int :=
  if (1 ≤ kind ∧ kind ≤ 5) ∧ 0 ≤ a ∧ a ≤ (l.length : Int) then (if (readR kind l a.toNat).2.2 = true then ((readR kind l a.toNat).1, (readR kind l a.toNat).2.1, 0) else (0, 0, 9)) else (0, 0, 1)
theorem ctake_eq (l : List Int) (hl : IsBits l) (hlen : l.length ≤ 6000) (kind a : Int) (k : Nat) (hk : 1 ≤ k) : code_Take.f k (packS l) (l.length : Int) a kind = some (takeR kind l a) := by
  obtain ⟨k, rfl⟩ : ∃ k', k = k' + 1 := ⟨k - 1, by omega⟩
  unfold code_Take.f takeR
  rw [may_eq, decide_eq_true (may_packS l hl hlen), Option.bind_some, if_pos rfl, is_eq, Option.bind_some]
  by_cases h1 : 1 ≤ kind ∧ kind ≤ 5
  · rw [decide_eq_true h1, if_pos rfl]
    by_cases h2 : a < 0
    · rw [if_pos h2, code_Take.j0, if_pos rfl, if_neg (fun h => by omega)]
    · rw [if_neg h2]
      by_cases h3 : a > (l.length : Int)
      · rw [decide_eq_true h3, code_Take.j0, if_pos rfl, if_neg (fun h => by omega)]
      · rw [decide_eq_false h3, code_Take.j0, if_neg (by decide), if_pos ⟨h1, by omega, by omega⟩]
        obtain ⟨a, rfl⟩ := Int.eq_ofNat_of_zero_le (show 0 ≤ a by omega)
        rw [read_eq l hl hlen a (by omega) kind h1.1 h1.2, Option.bind_some, Int.toNat_natCast]
        by_cases h4 : (readR kind l a).2.2 = true
        · rw [if_pos h4, if_pos h4]
        · rw [if_neg h4, if_neg h4]
  · rw [decide_eq_false h1, if_neg (by decide), code_Take.j0, if_pos rfl, if_neg (fun h => h1 h.1)]
end Go.Proofs.Ytnpghcikhpglkaa.Pb
namespace Go.Proofs.Ytnpghcikhpglkaa.Pb
open Go.RowKit Go.Proofs.YtnpghcikhpglkaaW.PrintWords Go.Proofs.YtnpghcikhpglkaaW.PrintLast Go.Proofs.YtnpghcikhpglkaaW.PrintMore Go.Proofs.Ytnpghcikhpglkaa.Hand Go.Proofs.Ytnpghcikhpglkaa.Pu Go.Proofs.Ytnpghcikhpglkaa.Q
set_option linter.unusedVariables false
set_option linter.unusedSimpArgs false

theorem unaryL_bits (n : Int) : IsBits (unaryL n) := by unfold unaryL; exact IsBits.append (putL_bits _ _) (putL_bits _ _)
theorem gammaL_bits (n : Int) : IsBits (gammaL n) := by unfold gammaL; exact IsBits.append (putL_bits _ _) (putL_bits _ _)
theorem deltaL_bits (n : Int) : IsBits (deltaL n) := by unfold deltaL; exact IsBits.append (gammaL_bits _) (putL_bits _ _)
theorem zetaL_bits (kk n : Int) : IsBits (zetaL kk n) := by
  unfold zetaL
  split
  · refine IsBits.append (unaryL_bits _) ?_
    split <;> exact putL_bits _ _
  · exact IsBits.nil
theorem layL_bits (kind n : Int) : IsBits (layL kind n) := by
  unfold layL
  split
  · exact unaryL_bits n
  split
  · exact gammaL_bits n
  split
  · exact deltaL_bits n
  split <;> exact zetaL_bits _ _
theorem lg_mono (a b : Int) (h1 : 1 ≤ a) (h : a ≤ b) (h2 : b ≤ 1073741824) : lg a ≤ lg b := by
  obtain ⟨_, a0, _, a2, a3⟩ := lg_facts a h1 (by omega)
  obtain ⟨_, b0, _, b2, b3⟩ := lg_facts b (by omega) h2
  refine Int.not_lt.1 fun hc => ?_
  have hle : (lg b).toNat + 1 ≤ (lg a).toNat := by omega
  have hp := Nat.pow_le_pow_right (n := 2) (by decide) hle
  have hp' : ((2 ^ ((lg b).toNat + 1) : Nat) : Int) ≤ ((2 ^ (lg a).toNat : Nat) : Int) := by exact_mod_cast hp
  rw [Int.natCast_pow, Int.natCast_pow] at hp'
  have e2 : ((2 : Nat) : Int) = 2 := rfl
  rw [e2] at hp'
  omega
theorem gammaL_mono (a b : Int) (h1 : 1 ≤ a) (h : a ≤ b) (h2 : b ≤ 1073741824) : (gammaL a).length ≤ (gammaL b).length := by
  have := lg_mono a b h1 h h2
  rw [gammaL_length, gammaL_length]; omega
theorem deltaL_mono (a b : Int) (h1 : 1 ≤ a) (h : a ≤ b) (h2 : b ≤ 1073741824) : (deltaL a).length ≤ (deltaL b).length := by
  have := lg_mono a b h1 h h2
  obtain ⟨_, a0, a1, _⟩ := lg_facts a h1 (by omega)
  obtain ⟨_, b0, b1, _⟩ := lg_facts b (by omega) h2
  have := gammaL_mono (lg a + 1) (lg b + 1) (by omega) (by omega) (by omega)
  unfold deltaL
  simp only [List.length_append, putL_length]; omega
/-- A zeta code's parts. -/
def zetaIs (kk h : Nat) : Bool := code_zeta.f (kk : Int) (h : Int) == some (((2 ^ (h * kk) : Nat) : Int), ((2 ^ (h * kk + kk) : Nat) : Int) - ((2 ^ (h * kk) : Nat) : Int), ((h * kk + kk : Nat) : Int), ((2 ^ (h * kk) : Nat) : Int))
theorem zetaIs2 : ∀ h : Fin 16, zetaIs 2 h.val = true := by decide +kernel
theorem zetaIs3 : ∀ h : Fin 11, zetaIs 3 h.val = true := by decide +kernel
theorem zeta_is (kk h : Nat) (ho : zetaIs kk h = true) : code_zeta.f (kk : Int) (h : Int) = some ((2 : Int) ^ (h * kk), (2 : Int) ^ (h * kk + kk) - 2 ^ (h * kk), ((h * kk + kk : Nat) : Int), (2 : Int) ^ (h * kk)) := by
  have := eq_of_beq ho
  rw [this, Int.natCast_pow, Int.natCast_pow]
  rfl
theorem zetaL_parts (kk h : Nat) (n : Int) (hk : 1 ≤ kk) (hh : Int.tdiv (lg n) (kk : Int) = (h : Int)) (hz : zetaIs kk h = true) :
    zetaL (kk : Int) n = unaryL ((h : Int) + 1) ++ (if n - 2 ^ (h * kk) < 2 ^ (h * kk) then putL (h * kk + kk - 1) (n - 2 ^ (h * kk)) else putL (h * kk + kk) (n - 2 ^ (h * kk) + 2 ^ (h * kk))) := by
  have hze := zeta_is kk h hz
  have ek : ((h * kk + kk : Nat) : Int) - 1 = ((h * kk + kk - 1 : Nat) : Int) := by omega
  unfold zetaL
  rw [hh, hze]
  simp only
  rw [ek, Int.toNat_natCast, Int.toNat_natCast]
theorem zetaL_mono (kk : Nat) (top : Nat) (hk : 1 ≤ kk) (hz : ∀ h : Fin top, zetaIs kk h.val = true) (a b : Int) (h1 : 1 ≤ a) (h : a ≤ b) (h2 : b ≤ 1073741824) (ht : Int.tdiv (lg b) (kk : Int) < (top : Int)) : (zetaL (kk : Int) a).length ≤ (zetaL (kk : Int) b).length := by
  have hm := lg_mono a b h1 h h2
  obtain ⟨_, a0, a1, _⟩ := lg_facts a h1 (by omega)
  obtain ⟨_, b0, b1, _⟩ := lg_facts b (by omega) h2
  have hd : Int.tdiv (lg a) (kk : Int) ≤ Int.tdiv (lg b) (kk : Int) := by
    rw [Int.tdiv_eq_ediv_of_nonneg a0, Int.tdiv_eq_ediv_of_nonneg b0]
    exact Int.ediv_le_ediv (by omega) hm
  have hd0 : 0 ≤ Int.tdiv (lg a) (kk : Int) := Int.tdiv_nonneg a0 (by omega)
  obtain ⟨x, hx⟩ := Int.eq_ofNat_of_zero_le hd0
  obtain ⟨y, hy⟩ := Int.eq_ofNat_of_zero_le (Int.le_trans hd0 hd)
  have hxy : x ≤ y := by omega
  rw [zetaL_parts kk x a hk hx (hz ⟨x, by omega⟩), zetaL_parts kk y b hk hy (hz ⟨y, by omega⟩), List.length_append, List.length_append, unaryL_length _ (by omega), unaryL_length _ (by omega)]
  have hmul := Nat.mul_le_mul_right kk hxy
  by_cases he : x = y
  · subst he
    generalize (2 : Int) ^ (x * kk) = P
    split <;> split <;> simp only [putL_length] <;> omega
  · generalize (2 : Int) ^ (x * kk) = P
    generalize (2 : Int) ^ (y * kk) = P2
    split <;> split <;> simp only [putL_length] <;> omega
theorem layL_mono (kind a b : Int) (hk1 : 1 ≤ kind) (hk5 : kind ≤ 5) (h1 : 1 ≤ a) (h : a ≤ b) (h2 : b ≤ 1073741824) : (layL kind a).length ≤ (layL kind b).length := by
  obtain ⟨_, b0, b1, _⟩ := lg_facts b (by omega) h2
  have hkk : kind = 1 ∨ kind = 2 ∨ kind = 3 ∨ kind = 4 ∨ kind = 5 := by omega
  unfold layL
  rcases hkk with rfl | rfl | rfl | rfl | rfl
  · rw [if_pos rfl, if_pos rfl, unaryL_length _ h1, unaryL_length _ (by omega)]; omega
  · rw [if_neg (by decide), if_pos rfl, if_neg (by decide), if_pos rfl]; exact gammaL_mono a b h1 h h2
  · rw [if_neg (by decide), if_neg (by decide), if_pos rfl, if_neg (by decide), if_neg (by decide), if_pos rfl]; exact deltaL_mono a b h1 h h2
  · rw [if_neg (by decide), if_neg (by decide), if_neg (by decide), if_pos rfl, if_neg (by decide), if_neg (by decide), if_neg (by decide), if_pos rfl]
    exact zetaL_mono 2 16 (by omega) zetaIs2 a b h1 h h2 (by rw [Int.tdiv_eq_ediv_of_nonneg b0]; omega)
  · rw [if_neg (by decide), if_neg (by decide), if_neg (by decide), if_neg (by decide), if_neg (by decide), if_neg (by decide), if_neg (by decide), if_neg (by decide)]
    exact zetaL_mono 3 11 (by omega) zetaIs3 a b h1 h h2 (by rw [Int.tdiv_eq_ediv_of_nonneg b0]; omega)
/-- How long a code can be. -/
def lenOk (kind : Nat) : Bool := Nat.ble (layL (kind : Int) 1073741824).length 70
theorem len_all : ∀ k : Fin 4, lenOk (k.val + 2) = true := by decide +kernel
theorem layL_short (kind n : Int) (hk1 : 2 ≤ kind) (hk5 : kind ≤ 5) (h1 : 1 ≤ n) (h2 : n ≤ 1073741824) : (layL kind n).length ≤ 70 := by
  have hm := layL_mono kind n 1073741824 (by omega) hk5 h1 h2 (by omega)
  obtain ⟨k, hk⟩ := Int.eq_ofNat_of_zero_le (show 0 ≤ kind - 2 by omega)
  have ha := len_all ⟨k, by omega⟩
  unfold lenOk at ha
  simp only [Nat.ble_eq] at ha
  rw [show ((k + 2 : Nat) : Int) = kind by omega] at ha
  omega
theorem layL_len (kind n : Int) (hk1 : 1 ≤ kind) (hk5 : kind ≤ 5) (h1 : 1 ≤ n) (h2 : n ≤ 1073741824) (h3 : kind = 1 → n ≤ 1000) : (layL kind n).length ≤ 1000 := by
  by_cases hk : kind = 1
  · subst hk
    have := h3 rfl
    unfold layL
    rw [if_pos rfl, unaryL_length _ h1]; omega
  · have := layL_short kind n (by omega) hk5 h1 h2; omega
theorem read_good (kind : Int) (l : List Int) (a c : Nat) (n : Int) (hr : ReadL kind (l.drop a) = some (n, c)) (hn : n ≤ 1073741824) : readR kind l a = (n, ((a + c : Nat) : Int), true) := by
  unfold readR
  rw [hr]
  simp only
  rw [if_neg (by omega)]
theorem take_good (kind : Int) (l : List Int) (a c : Nat) (n : Int) (hk1 : 1 ≤ kind) (hk5 : kind ≤ 5) (ha : a ≤ l.length) (hr : ReadL kind (l.drop a) = some (n, c)) (hn : n ≤ 1073741824) : takeR kind l (a : Int) = (n, ((a + c : Nat) : Int), 0) := by
  unfold takeR
  rw [if_pos ⟨⟨hk1, hk5⟩, by omega, by omega⟩, Int.toNat_natCast, read_good kind l a c n hr hn]
  rfl
theorem take_bad (kind : Int) (l : List Int) (a : Nat) (hk1 : 1 ≤ kind) (hk5 : kind ≤ 5) (ha : a ≤ l.length) (hr : ReadL kind (l.drop a) = none) : takeR kind l (a : Int) = (0, 0, 9) := by
  have e : readR kind l a = (0, 0, false) := by unfold readR; rw [hr]
  unfold takeR
  rw [if_pos ⟨⟨hk1, hk5⟩, by omega, by omega⟩, Int.toNat_natCast, e]
  rfl
end Go.Proofs.Ytnpghcikhpglkaa.Pb
namespace Go.Proofs.Ytnpghcikhpglkaa.Q
open Go.RowKit Go.Proofs.YtnpghcikhpglkaaW.PrintWords Go.Proofs.YtnpghcikhpglkaaW.PrintLast Go.Proofs.YtnpghcikhpglkaaW.PrintMore Go.Proofs.Ytnpghcikhpglkaa.Hand Go.Proofs.Ytnpghcikhpglkaa.Pu
set_option linter.unusedVariables false
set_option linter.unusedSimpArgs false

set_option maxHeartbeats 4000000 in
set_option maxRecDepth 100000 in
theorem cat_no1 (s : ByteArray) (n : Int) (s2 : ByteArray) (n2 : Int) (w : World) (hm : ¬ MayP s n) :
    Calls Try.prog 43 #[.agg #[.string s, .int .i64 n], .agg #[.string s2, .int .i64 n2]] w fun e w' => e = .returned (.tuple #[.agg #[.string ⟨#[]⟩, .int .i64 0], .int .i64 1]) ∧ Below w.heap.size w w' := by
  have hu := Try.underlying27
  have A := Aside0.mk (show bits_May.f s n = some false by rw [may_eq, decide_eq_false hm])
  have HS := Aside0.mk (start3 w (.cells #[.string s, .int .i64 n] 27) (.cells #[.string s2, .int .i64 n2] 27) (.cells #[.string ⟨#[]⟩, .int .i64 0] 27))
  clear hm
  go_enter Try.func43, Try.ntmps43
  go_wp2_with (first | ((with_reducible refine gate_callee (f := 86) rfl ?_); refine goesL_ (some 9) rfl rfl Try.func86 (by kernel_rfl) rfl #[.agg #[.string s, .int .i64 n]] rfl (by (try simp only [List.map_toArray, List.map_cons, List.map_nil]); first | done | rfl) ?_; (with_reducible refine (bits_May.calls s n false _ A.out).mono ?_); rintro e w1 ⟨rfl, hb⟩; refine ⟨_, rfl, ?_⟩; have HA := Aside0.mk (keep2 HS.out.2.1 hb (by have := HS.out.2.2.2.2; omega)); have HR := Aside0.mk (keep2 HS.out.2.2.1 hb (by have := HS.out.2.2.2.2; omega)); obtain ⟨a0, a1, g0, g1⟩ := two_cells HA.out; obtain ⟨c0, c1, f0, f1⟩ := two_cells HR.out; have HB := Aside0.mk (below_then HS.out.2.2.2.1 HS.out.2.2.2.1.size hb); have HA1 := Aside0.mk (keep2 HS.out.1 hb (by have := HS.out.2.2.2.2; omega)); obtain ⟨x0, x1, y0, y1⟩ := two_cells HA1.out; clear hb))
  refine bodyPost_ret (results_list (rs := [.cell 4 27, .tmp 5]) rfl (by simp) (.cell (w.heap.size + 2) 27 #[.string ⟨#[]⟩, .int .i64 0] (0, 0) _ rfl (put2 HR.out) Try.underlying27 rfl (by kernel_rfl) (.tmp .nil))) rfl ⟨rfl, below_put2 HB.out (by omega) _ _⟩
set_option maxHeartbeats 4000000 in
set_option maxRecDepth 100000 in
theorem cat_no2 (s : ByteArray) (n : Int) (s2 : ByteArray) (n2 : Int) (w : World) (hm : MayP s n) (hm2 : ¬ MayP s2 n2) :
    Calls Try.prog 43 #[.agg #[.string s, .int .i64 n], .agg #[.string s2, .int .i64 n2]] w fun e w' => e = .returned (.tuple #[.agg #[.string ⟨#[]⟩, .int .i64 0], .int .i64 1]) ∧ Below w.heap.size w w' := by
  have hu := Try.underlying27
  have A := Aside0.mk (show bits_May.f s n = some true by rw [may_eq, decide_eq_true hm])
  have A2 := Aside0.mk (show bits_May.f s2 n2 = some false by rw [may_eq, decide_eq_false hm2])
  have HS := Aside0.mk (start3 w (.cells #[.string s, .int .i64 n] 27) (.cells #[.string s2, .int .i64 n2] 27) (.cells #[.string ⟨#[]⟩, .int .i64 0] 27))
  clear hm hm2
  go_enter Try.func43, Try.ntmps43
  go_wp2_with (first | ((with_reducible refine gate_callee (f := 86) rfl ?_); refine goesL_ (some 9) rfl rfl Try.func86 (by kernel_rfl) rfl #[.agg #[.string s, .int .i64 n]] rfl (by (try simp only [List.map_toArray, List.map_cons, List.map_nil]); first | done | rfl) ?_; (with_reducible refine (bits_May.calls s n true _ A.out).mono ?_); rintro e w1 ⟨rfl, hb⟩; refine ⟨_, rfl, ?_⟩; have HA := Aside0.mk (keep2 HS.out.2.1 hb (by have := HS.out.2.2.2.2; omega)); have HR := Aside0.mk (keep2 HS.out.2.2.1 hb (by have := HS.out.2.2.2.2; omega)); obtain ⟨a0, a1, g0, g1⟩ := two_cells HA.out; obtain ⟨c0, c1, f0, f1⟩ := two_cells HR.out; have HB := Aside0.mk (below_then HS.out.2.2.2.1 HS.out.2.2.2.1.size hb); have HA1 := Aside0.mk (keep2 HS.out.1 hb (by have := HS.out.2.2.2.2; omega)); obtain ⟨x0, x1, y0, y1⟩ := two_cells HA1.out; clear hb))
  go_wp2_with (first | (go_at_call 86; ((with_reducible refine (bits_May.calls s2 n2 false _ A2.out).mono ?_); rintro e w2 ⟨rfl, hb⟩); have HGG := Aside0.mk (Nat.lt_of_lt_of_le (blk_lt HR.out) hb.size); have HAA := Aside0.mk (keep2 HA.out hb (blk_lt HA.out)); have HRR := Aside0.mk (keep2 HR.out hb (blk_lt HR.out)); have HA11 := Aside0.mk (keep2 HA1.out hb (blk_lt HA1.out)); clear HA HR HA1 x0 x1 y0 y1 a0 a1 g0 g1 c0 c1 f0 f1; have HA := HAA; have HR := HRR; have HA1 := HA11; clear HAA HRR HA11; obtain ⟨a0, a1, g0, g1⟩ := two_cells HA.out; obtain ⟨c0, c1, f0, f1⟩ := two_cells HR.out; obtain ⟨x0, x1, y0, y1⟩ := two_cells HA1.out; have HBB := Aside0.mk (below_then HB.out HB.out.size hb); clear HB; have HB := HBB; clear HBB; clear hb))
  refine bodyPost_ret (results_list (rs := [.cell 4 27, .tmp 5]) rfl (by simp) (.cell (w.heap.size + 2) 27 #[.string ⟨#[]⟩, .int .i64 0] (0, 0) _ rfl (put2 HR.out) Try.underlying27 rfl (by kernel_rfl) (.tmp .nil))) rfl ⟨rfl, below_put2 HB.out (by omega) _ _⟩
set_option maxHeartbeats 4000000 in
set_option maxRecDepth 100000 in
theorem cat_yes (s : ByteArray) (n : Int) (s2 : ByteArray) (n2 : Int) (w : World) (hm : MayP s n) (hm2 : MayP s2 n2) (hn : n + n2 ≤ 6000) :
    Calls Try.prog 43 #[.agg #[.string s, .int .i64 n], .agg #[.string s2, .int .i64 n2]] w fun e w' => e = .returned (.tuple #[.agg #[.string (strOfNums (rowSeq s2 n2.toNat 0 (bytesI s, n)).1), .int .i64 (rowSeq s2 n2.toNat 0 (bytesI s, n)).2], .int .i64 0]) ∧ Below w.heap.size w w' := by
  have hu := Try.underlying27
  have A := Aside0.mk (show bits_May.f s n = some true by rw [may_eq, decide_eq_true hm])
  have A2 := Aside0.mk (show bits_May.f s2 n2 = some true by rw [may_eq, decide_eq_true hm2])
  have HS := Aside0.mk (start3 w (.cells #[.string s, .int .i64 n] 27) (.cells #[.string s2, .int .i64 n2] 27) (.cells #[.string ⟨#[]⟩, .int .i64 0] 27))
  have hsz : s.size ≤ 1073741824 := by have := hm.2.2.1; have := hm.2.1; omega
  have hn0 : 0 ≤ n := hm.1
  have hn6 : n ≤ 6000 := hm.2.1
  have hk0 : 0 ≤ n2 := hm2.1
  have hk6 : n2 ≤ 6000 := hm2.2.1
  have HSZ := Aside0.mk hm.2.2.1
  have HSZ2 := Aside0.mk hm2.2.2.1
  have HLE := Aside0.mk hn
  clear hm hm2 hn
  go_enter Try.func43, Try.ntmps43
  go_wp2_with (first | ((with_reducible refine gate_callee (f := 86) rfl ?_); refine goesL_ (some 9) rfl rfl Try.func86 (by kernel_rfl) rfl #[.agg #[.string s, .int .i64 n]] rfl (by (try simp only [List.map_toArray, List.map_cons, List.map_nil]); first | done | rfl) ?_; (with_reducible refine (bits_May.calls s n true _ A.out).mono ?_); rintro e w1 ⟨rfl, hb⟩; refine ⟨_, rfl, ?_⟩; have HA := Aside0.mk (keep2 HS.out.2.1 hb (by have := HS.out.2.2.2.2; omega)); have HR := Aside0.mk (keep2 HS.out.2.2.1 hb (by have := HS.out.2.2.2.2; omega)); obtain ⟨a0, a1, g0, g1⟩ := two_cells HA.out; obtain ⟨c0, c1, f0, f1⟩ := two_cells HR.out; have HB := Aside0.mk (below_then HS.out.2.2.2.1 HS.out.2.2.2.1.size hb); have HA1 := Aside0.mk (keep2 HS.out.1 hb (by have := HS.out.2.2.2.2; omega)); obtain ⟨x0, x1, y0, y1⟩ := two_cells HA1.out; clear hb))
  go_wp2_with (first | (go_at_call 86; ((with_reducible refine (bits_May.calls s2 n2 true _ A2.out).mono ?_); rintro e w2 ⟨rfl, hb⟩); have HGG := Aside0.mk (Nat.lt_of_lt_of_le (blk_lt HR.out) hb.size); have HAA := Aside0.mk (keep2 HA.out hb (blk_lt HA.out)); have HRR := Aside0.mk (keep2 HR.out hb (blk_lt HR.out)); have HA11 := Aside0.mk (keep2 HA1.out hb (blk_lt HA1.out)); clear HA HR HA1 x0 x1 y0 y1 a0 a1 g0 g1 c0 c1 f0 f1; have HA := HAA; have HR := HRR; have HA1 := HA11; clear HAA HRR HA11; obtain ⟨a0, a1, g0, g1⟩ := two_cells HA.out; obtain ⟨c0, c1, f0, f1⟩ := two_cells HR.out; obtain ⟨x0, x1, y0, y1⟩ := two_cells HA1.out; have HBB := Aside0.mk (below_then HB.out HB.out.size hb); clear HB; have HB := HBB; clear HBB; clear hb) | (go_at_call 88; ((with_reducible refine (from_ _ s n hsz).mono ?_); rintro e w3 ⟨p, rfl, hrow, hb3⟩); have HROW := Aside0.mk hrow; have HB3 := Aside0.mk hb3; have HAA := Aside0.mk (keep2 HA.out hb3 (blk_lt HA.out)); have HRR := Aside0.mk (keep2 HR.out hb3 (blk_lt HR.out)); clear HA HR a0 a1 g0 g1 c0 c1 f0 f1 HA1 x0 x1 y0 y1; have HA := HAA; have HR := HRR; clear HAA HRR; obtain ⟨a0, a1, g0, g1⟩ := two_cells HA.out; obtain ⟨c0, c1, f0, f1⟩ := two_cells HR.out; have HBB := Aside0.mk (below_then HB.out HB.out.size hb3); clear HB; have HB := HBB; clear HBB; clear hrow hb3))
  have HG2 := Aside0.mk (HGG.out)
  have HG1 := Aside0.mk (Nat.lt_of_succ_lt HGG.out)
  go_loopw [21] (fun i wr => ∃ (c : Nat) (st : List Int × Int), i = .int .i64 c ∧ Aside0 (rowSeq s2 (n2.toNat - c) c st = rowSeq s2 n2.toNat 0 (bytesI s, n)) ∧ Aside0 (RowIs wr w2.heap.size p st.1 st.2) ∧ Aside0 (st.2 = n + c) ∧ Aside0 ((st.1.length : Int) = (st.2 + 7) / 8) ∧ c ≤ n2.toNat ∧ Aside0 (wr.heap[w.heap.size + 1]? = some (.cells #[.string s2, .int .i64 n2] 27 (0, 0))) ∧ Aside0 (wr.heap[w.heap.size + 2]? = some (.cells #[.string ⟨#[]⟩, .int .i64 0] 27 (0, 0))) ∧ Aside0 (Below w.heap.size w wr) ∧ Aside0 (w3.heap.size ≤ wr.heap.size))
    (fun i wr => (n2 - intOf i).toNat)
  case atStart => exact ⟨0, (bytesI s, n), rfl, ⟨by simp⟩, ⟨HROW.out⟩, ⟨by simp⟩, ⟨by rw [bytesI_length]; exact HSZ.out⟩, Nat.zero_le _, ⟨HA.out⟩, ⟨HR.out⟩, ⟨HB.out⟩, ⟨Nat.le_refl _⟩⟩
  case round =>
    clear HA HR a0 a1 g0 g1 c0 c1 f0 f1 HB HROW
    obtain ⟨c, ⟨bs, m⟩, rfl, HSEQ, HROW, HM, HLEN, hc, HA, HR, HB, HWR⟩ := hrel
    have hm : Aside0 (m = n + c) := HM
    obtain ⟨a0, a1, g0, g1⟩ := two_cells HA.out
    obtain ⟨c0, c1, f0, f1⟩ := two_cells HR.out
    by_cases hlt : (c : Int) < n2
    · have HBIT := Aside0.mk (bit_some s2 n2 c (by omega) (by have := HSZ2.out; omega) (by omega))
      go_wp2_with (first | (go_at_call 100; ((with_reducible refine (bits_bit.calls s2 n2 c (bitOf s2 c) _ HBIT.out).mono ?_); rintro e w4 ⟨rfl, hb3⟩); have HROW2 := Aside0.mk (HROW.out.below hb3); have HBB := Aside0.mk hb3; clear hb3) | (go_at_call 89; ((with_reducible refine (row_put1 _ w2.heap.size p bs m (bitOf s2 c) HROW2.out ?e1 ?e2 ?e3 ?e4).mono ?_); (case e1 => rw [hm.out]; omega); (case e2 => exact HLEN.out); (case e3 => rw [hm.out]; omega); (case e4 => exact Nat.le_trans (Nat.le_trans HB3.out.size HWR.out) HBB.out.size); rintro e w5 ⟨rfl, hrow3, hb3⟩); have HROW3 := Aside0.mk hrow3; have HB4 := Aside0.mk hb3; clear hrow3 hb3))
      go_roundw
      case rel =>
        refine ⟨c + 1, rowPut 1 (bs, m) (bitOf s2 c), by go_num, ⟨?_⟩, ⟨HROW3.out⟩, ⟨?_⟩, ⟨rowPut1_len (bs, m) _ (by rw [hm.out]; omega) HLEN.out⟩, by omega, ⟨keep2 (keep2 HA.out HBB.out (blk_lt HA.out)) HB4.out (by have := HG1.out; omega)⟩, ⟨keep2 (keep2 HR.out HBB.out (blk_lt HR.out)) HB4.out (by have := HG2.out; omega)⟩, ⟨(HB.out.trans (HBB.out.mono HB.out.size)).trans (HB4.out.mono (by have := HG1.out; omega))⟩, ⟨Nat.le_trans HWR.out (Nat.le_trans HBB.out.size HB4.out.size)⟩⟩
        · rw [← HSEQ.out, show n2.toNat - c = (n2.toNat - (c + 1)) + 1 by omega, rowSeq, show ((c + 1 : Nat) : Int) = (c : Int) + 1 by omega]
        · rw [rowPut_snd, hm.out]; simp only []; omega
      case measure => simp [intOf]; omega
    · have hcc : c = n2.toNat := by omega
      have HE : Aside0 ((bs, m) = rowSeq s2 n2.toNat 0 (bytesI s, n)) := ⟨by
        have := HSEQ.out
        rw [hcc, Nat.sub_self, rowSeq] at this
        exact this⟩
      have HM6 : Aside0 (m ≤ 6000) := ⟨by have := hm.out; have := HLE.out; omega⟩
      clear hcc
      go_wp2_with (first | (go_at_call 90; ((with_reducible refine (row_bits_yes _ _ p bs m HROW.out HM6.out).mono ?_); rintro e w4 ⟨rfl, hb4⟩); have HR4 := Aside0.mk (keep2 HR.out hb4 (blk_lt HR.out)); have HB4 := Aside0.mk (below_then HB.out HB.out.size hb4); clear HR c0 c1 f0 f1; obtain ⟨c0, c1, f0, f1⟩ := two_cells HR4.out; clear hb4))
      refine bodyPost_ret (results_list (rs := [.cell 4 27, .tmp 5]) rfl (by simp) (.cell (w.heap.size + 2) 27 #[.string (strOfNums bs), .int .i64 m] (0, 0) _ rfl (put2 HR4.out) Try.underlying27 rfl (by kernel_rfl) (.tmp .nil))) rfl ⟨by rw [← HE.out] <;> rfl, below_put2 HB4.out (by omega) _ _⟩
set_option maxHeartbeats 4000000 in
set_option maxRecDepth 100000 in
theorem cat_full (s : ByteArray) (n : Int) (s2 : ByteArray) (n2 : Int) (w : World) (hm : MayP s n) (hm2 : MayP s2 n2) (hn : 6000 < n + n2) :
    Calls Try.prog 43 #[.agg #[.string s, .int .i64 n], .agg #[.string s2, .int .i64 n2]] w fun e w' => e = .returned (.tuple #[.agg #[.string ⟨#[]⟩, .int .i64 0], .int .i64 2]) ∧ Below w.heap.size w w' := by
  have hu := Try.underlying27
  have A := Aside0.mk (show bits_May.f s n = some true by rw [may_eq, decide_eq_true hm])
  have A2 := Aside0.mk (show bits_May.f s2 n2 = some true by rw [may_eq, decide_eq_true hm2])
  have HS := Aside0.mk (start3 w (.cells #[.string s, .int .i64 n] 27) (.cells #[.string s2, .int .i64 n2] 27) (.cells #[.string ⟨#[]⟩, .int .i64 0] 27))
  have hsz : s.size ≤ 1073741824 := by have := hm.2.2.1; have := hm.2.1; omega
  have hn0 : 0 ≤ n := hm.1
  have hn6 : n ≤ 6000 := hm.2.1
  have hk0 : 0 ≤ n2 := hm2.1
  have hk6 : n2 ≤ 6000 := hm2.2.1
  have HSZ := Aside0.mk hm.2.2.1
  have HSZ2 := Aside0.mk hm2.2.2.1
  have HLE := Aside0.mk hn
  clear hm hm2 hn
  go_enter Try.func43, Try.ntmps43
  go_wp2_with (first | ((with_reducible refine gate_callee (f := 86) rfl ?_); refine goesL_ (some 9) rfl rfl Try.func86 (by kernel_rfl) rfl #[.agg #[.string s, .int .i64 n]] rfl (by (try simp only [List.map_toArray, List.map_cons, List.map_nil]); first | done | rfl) ?_; (with_reducible refine (bits_May.calls s n true _ A.out).mono ?_); rintro e w1 ⟨rfl, hb⟩; refine ⟨_, rfl, ?_⟩; have HA := Aside0.mk (keep2 HS.out.2.1 hb (by have := HS.out.2.2.2.2; omega)); have HR := Aside0.mk (keep2 HS.out.2.2.1 hb (by have := HS.out.2.2.2.2; omega)); obtain ⟨a0, a1, g0, g1⟩ := two_cells HA.out; obtain ⟨c0, c1, f0, f1⟩ := two_cells HR.out; have HB := Aside0.mk (below_then HS.out.2.2.2.1 HS.out.2.2.2.1.size hb); have HA1 := Aside0.mk (keep2 HS.out.1 hb (by have := HS.out.2.2.2.2; omega)); obtain ⟨x0, x1, y0, y1⟩ := two_cells HA1.out; clear hb))
  go_wp2_with (first | (go_at_call 86; ((with_reducible refine (bits_May.calls s2 n2 true _ A2.out).mono ?_); rintro e w2 ⟨rfl, hb⟩); have HGG := Aside0.mk (Nat.lt_of_lt_of_le (blk_lt HR.out) hb.size); have HAA := Aside0.mk (keep2 HA.out hb (blk_lt HA.out)); have HRR := Aside0.mk (keep2 HR.out hb (blk_lt HR.out)); have HA11 := Aside0.mk (keep2 HA1.out hb (blk_lt HA1.out)); clear HA HR HA1 x0 x1 y0 y1 a0 a1 g0 g1 c0 c1 f0 f1; have HA := HAA; have HR := HRR; have HA1 := HA11; clear HAA HRR HA11; obtain ⟨a0, a1, g0, g1⟩ := two_cells HA.out; obtain ⟨c0, c1, f0, f1⟩ := two_cells HR.out; obtain ⟨x0, x1, y0, y1⟩ := two_cells HA1.out; have HBB := Aside0.mk (below_then HB.out HB.out.size hb); clear HB; have HB := HBB; clear HBB; clear hb) | (go_at_call 88; ((with_reducible refine (from_ _ s n hsz).mono ?_); rintro e w3 ⟨p, rfl, hrow, hb3⟩); have HROW := Aside0.mk hrow; have HB3 := Aside0.mk hb3; have HAA := Aside0.mk (keep2 HA.out hb3 (blk_lt HA.out)); have HRR := Aside0.mk (keep2 HR.out hb3 (blk_lt HR.out)); clear HA HR a0 a1 g0 g1 c0 c1 f0 f1 HA1 x0 x1 y0 y1; have HA := HAA; have HR := HRR; clear HAA HRR; obtain ⟨a0, a1, g0, g1⟩ := two_cells HA.out; obtain ⟨c0, c1, f0, f1⟩ := two_cells HR.out; have HBB := Aside0.mk (below_then HB.out HB.out.size hb3); clear HB; have HB := HBB; clear HBB; clear hrow hb3))
  have HG2 := Aside0.mk (HGG.out)
  have HG1 := Aside0.mk (Nat.lt_of_succ_lt HGG.out)
  go_loopw [21] (fun i wr => ∃ (c : Nat) (st : List Int × Int), i = .int .i64 c ∧ Aside0 (rowSeq s2 (n2.toNat - c) c st = rowSeq s2 n2.toNat 0 (bytesI s, n)) ∧ Aside0 (RowIs wr w2.heap.size p st.1 st.2) ∧ Aside0 (st.2 = n + c) ∧ Aside0 ((st.1.length : Int) = (st.2 + 7) / 8) ∧ c ≤ n2.toNat ∧ Aside0 (wr.heap[w.heap.size + 1]? = some (.cells #[.string s2, .int .i64 n2] 27 (0, 0))) ∧ Aside0 (wr.heap[w.heap.size + 2]? = some (.cells #[.string ⟨#[]⟩, .int .i64 0] 27 (0, 0))) ∧ Aside0 (Below w.heap.size w wr) ∧ Aside0 (w3.heap.size ≤ wr.heap.size))
    (fun i wr => (n2 - intOf i).toNat)
  case atStart => exact ⟨0, (bytesI s, n), rfl, ⟨by simp⟩, ⟨HROW.out⟩, ⟨by simp⟩, ⟨by rw [bytesI_length]; exact HSZ.out⟩, Nat.zero_le _, ⟨HA.out⟩, ⟨HR.out⟩, ⟨HB.out⟩, ⟨Nat.le_refl _⟩⟩
  case round =>
    clear HA HR a0 a1 g0 g1 c0 c1 f0 f1 HB HROW
    obtain ⟨c, ⟨bs, m⟩, rfl, HSEQ, HROW, HM, HLEN, hc, HA, HR, HB, HWR⟩ := hrel
    have hm : Aside0 (m = n + c) := HM
    obtain ⟨a0, a1, g0, g1⟩ := two_cells HA.out
    obtain ⟨c0, c1, f0, f1⟩ := two_cells HR.out
    by_cases hlt : (c : Int) < n2
    · have HBIT := Aside0.mk (bit_some s2 n2 c (by omega) (by have := HSZ2.out; omega) (by omega))
      go_wp2_with (first | (go_at_call 100; ((with_reducible refine (bits_bit.calls s2 n2 c (bitOf s2 c) _ HBIT.out).mono ?_); rintro e w4 ⟨rfl, hb3⟩); have HROW2 := Aside0.mk (HROW.out.below hb3); have HBB := Aside0.mk hb3; clear hb3) | (go_at_call 89; ((with_reducible refine (row_put1 _ w2.heap.size p bs m (bitOf s2 c) HROW2.out ?e1 ?e2 ?e3 ?e4).mono ?_); (case e1 => rw [hm.out]; omega); (case e2 => exact HLEN.out); (case e3 => rw [hm.out]; omega); (case e4 => exact Nat.le_trans (Nat.le_trans HB3.out.size HWR.out) HBB.out.size); rintro e w5 ⟨rfl, hrow3, hb3⟩); have HROW3 := Aside0.mk hrow3; have HB4 := Aside0.mk hb3; clear hrow3 hb3))
      go_roundw
      case rel =>
        refine ⟨c + 1, rowPut 1 (bs, m) (bitOf s2 c), by go_num, ⟨?_⟩, ⟨HROW3.out⟩, ⟨?_⟩, ⟨rowPut1_len (bs, m) _ (by rw [hm.out]; omega) HLEN.out⟩, by omega, ⟨keep2 (keep2 HA.out HBB.out (blk_lt HA.out)) HB4.out (by have := HG1.out; omega)⟩, ⟨keep2 (keep2 HR.out HBB.out (blk_lt HR.out)) HB4.out (by have := HG2.out; omega)⟩, ⟨(HB.out.trans (HBB.out.mono HB.out.size)).trans (HB4.out.mono (by have := HG1.out; omega))⟩, ⟨Nat.le_trans HWR.out (Nat.le_trans HBB.out.size HB4.out.size)⟩⟩
        · rw [← HSEQ.out, show n2.toNat - c = (n2.toNat - (c + 1)) + 1 by omega, rowSeq, show ((c + 1 : Nat) : Int) = (c : Int) + 1 by omega]
        · rw [rowPut_snd, hm.out]; simp only []; omega
      case measure => simp [intOf]; omega
    · have hcc : c = n2.toNat := by omega
      have HE : Aside0 ((bs, m) = rowSeq s2 n2.toNat 0 (bytesI s, n)) := ⟨by
        have := HSEQ.out
        rw [hcc, Nat.sub_self, rowSeq] at this
        exact this⟩
      have HM6 : Aside0 (6000 < m) := ⟨by have := hm.out; have := HLE.out; omega⟩
      clear hcc
      go_wp2_with (first | (go_at_call 90; ((with_reducible refine (row_bits_no _ _ p bs m HROW.out HM6.out).mono ?_); rintro e w4 ⟨rfl, hb4⟩); have HR4 := Aside0.mk (keep2 HR.out hb4 (blk_lt HR.out)); have HB4 := Aside0.mk (below_then HB.out HB.out.size hb4); clear HR c0 c1 f0 f1; obtain ⟨c0, c1, f0, f1⟩ := two_cells HR4.out; clear hb4))
      refine bodyPost_ret (results_list (rs := [.cell 4 27, .tmp 5]) rfl (by simp) (.cell (w.heap.size + 2) 27 #[.string ⟨#[]⟩, .int .i64 0] (0, 0) _ rfl (put2 HR4.out) Try.underlying27 rfl (by kernel_rfl) (.tmp .nil))) rfl ⟨rfl, below_put2 HB4.out (by omega) _ _⟩

/-- bits.Cat. -/
def bits_Cat.f (s : ByteArray) (n : Int) (s2 : ByteArray) (n2 : Int) : Option (ByteArray × Int × Int) :=
  if MayP s n ∧ MayP s2 n2 then (if n + n2 ≤ 6000 then some (packS (ofS s n ++ ofS s2 n2), n + n2, 0) else some (⟨#[]⟩, 0, 2)) else some (⟨#[]⟩, 0, 1)
theorem partK_ofS (s : ByteArray) (k : Nat) : ∀ i : Nat, partK s k (i : Int) = (List.range k).map fun j : Nat => bitOf s ((i + j : Nat) : Int) := by
  induction k with
  | zero => intro i; rfl
  | succ k ih =>
    intro i
    have h := ih (i + 1)
    rw [show (((i + 1 : Nat)) : Int) = (i : Int) + 1 by omega] at h
    rw [partK, List.range_succ_eq_map, List.map_cons, List.map_map, h]
    congr 1
    refine List.map_congr_left fun j _ => ?_
    simp only [Function.comp]
    congr 1
    omega
theorem partK_all (s : ByteArray) (n : Int) : partK s n.toNat 0 = ofS s n := by
  have := partK_ofS s n.toNat 0
  simp only [Nat.zero_add] at this
  exact this
theorem bits_Cat.calls (a0_0 : ByteArray) (a0_1 : Int) (a1_0 : ByteArray) (a1_1 : Int) (r1 : ByteArray) (r2 r3 : Int) (w : World) (h : bits_Cat.f a0_0 a0_1 a1_0 a1_1 = some (r1, r2, r3)) :
    Calls Try.prog 43 #[.agg #[.string a0_0, .int .i64 a0_1], .agg #[.string a1_0, .int .i64 a1_1]] w fun e w' => e = .returned (.tuple #[.agg #[.string r1, .int .i64 r2], .int .i64 r3]) ∧ Below w.heap.size w w' := by
  unfold bits_Cat.f at h
  by_cases hm : MayP a0_0 a0_1
  · by_cases hm2 : MayP a1_0 a1_1
    · rw [if_pos ⟨hm, hm2⟩] at h
      by_cases hn : a0_1 + a1_1 ≤ 6000
      · rw [if_pos hn] at h
        simp only [Option.some.injEq, Prod.mk.injEq] at h
        obtain ⟨rfl, rfl, rfl⟩ := h
        have e := cat_yes a0_0 a0_1 a1_0 a1_1 w hm hm2 hn
        have hp := rowSeq_pack a1_0 a1_1.toNat 0 (ofS a0_0 a0_1) (ofS_bits _ _)
        rw [pack_ofS _ _ hm, partK_all, List.length_append, ofS_length, ofS_length] at hp
        have h1 : ((a0_1.toNat : Nat) : Int) = a0_1 := Int.toNat_of_nonneg hm.1
        have h2 : (((a0_1.toNat + a1_1.toNat : Nat)) : Int) = a0_1 + a1_1 := by have := hm.1; have := hm2.1; omega
        rw [h1, h2] at hp
        rw [hp] at e
        exact e
      · rw [if_neg hn] at h
        simp only [Option.some.injEq, Prod.mk.injEq] at h
        obtain ⟨rfl, rfl, rfl⟩ := h
        exact cat_full a0_0 a0_1 a1_0 a1_1 w hm hm2 (by omega)
    · rw [if_neg (fun h => hm2 h.2)] at h
      simp only [Option.some.injEq, Prod.mk.injEq] at h
      obtain ⟨rfl, rfl, rfl⟩ := h
      exact cat_no2 a0_0 a0_1 a1_0 a1_1 w hm hm2
  · rw [if_neg (fun h => hm h.1)] at h
    simp only [Option.some.injEq, Prod.mk.injEq] at h
    obtain ⟨rfl, rfl, rfl⟩ := h
    exact cat_no1 a0_0 a0_1 a1_0 a1_1 w hm
end Go.Proofs.Ytnpghcikhpglkaa.Q
namespace Go.Proofs.Ytnpghcikhpglkaa.Q
open Go.RowKit Go.Proofs.YtnpghcikhpglkaaW.PrintWords Go.Proofs.YtnpghcikhpglkaaW.PrintLast Go.Proofs.YtnpghcikhpglkaaW.PrintMore
attribute [local go_sem] max2_int min2_int max_two min_two max_three min_three max_four min_four   -- for this text's walks alone
set_option linter.unusedVariables false
set_option linter.unusedSimpArgs false

/-! ### bits_Cut: function 42 -/
def bits_Cut.f (a0_0 : ByteArray) (a0_1 : Int) (a1 : Int) (a2 : Int) : Option (ByteArray × Int × Int) := (bits_May.f a0_0 a0_1).bind fun t617 => (if t617 = true then (if a1 < 0 then (some ((⟨#[]⟩ : ByteArray), 0, 1)) else (if a1 > a2 then (some ((⟨#[]⟩ : ByteArray), 0, 1)) else (if a2 > a0_1 then (some ((⟨#[]⟩ : ByteArray), 0, 1)) else ((bits_Part.f a0_0 a0_1 a1 a2).bind fun bt618 => (some (bt618.1, bt618.2, 0)))))) else (some ((⟨#[]⟩ : ByteArray), 0, 1)))
set_option maxHeartbeats 8000000 in
set_option maxRecDepth 100000 in
theorem bits_Cut.calls (a0_0 : ByteArray) (a0_1 : Int) (a1 : Int) (a2 : Int) (r1 : ByteArray) (r2 : Int) (r3 : Int) (w : World) (h : bits_Cut.f a0_0 a0_1 a1 a2 = some (r1, r2, r3)) :
    Calls Try.prog 42 #[.agg #[.string a0_0, .int .i64 a0_1], .int .i64 a1, .int .i64 a2] w fun e w' => e = .returned (.tuple #[.agg #[.string r1, .int .i64 r2], .int .i64 r3]) ∧ Below w.heap.size w w' := by
  have hu27 := Try.underlying27
  have HB := Aside0.mk (Below.refl w.heap.size w)
  have H : ((bits_May.f a0_0 a0_1).bind fun t617 => (if t617 = true then (if a1 < 0 then (some ((⟨#[]⟩ : ByteArray), 0, 1)) else (if a1 > a2 then (some ((⟨#[]⟩ : ByteArray), 0, 1)) else (if a2 > a0_1 then (some ((⟨#[]⟩ : ByteArray), 0, 1)) else ((bits_Part.f a0_0 a0_1 a1 a2).bind fun bt618 => (some (bt618.1, bt618.2, 0)))))) else (some ((⟨#[]⟩ : ByteArray), 0, 1)))) = some (r1, r2, r3) := h
  clear h
  replace H := Option.bind_eq_some_iff.mp H
  obtain ⟨t617, A40, H⟩ := H
  replace H : (if t617 = true then (if a1 < 0 then (some ((⟨#[]⟩ : ByteArray), 0, 1)) else (if a1 > a2 then (some ((⟨#[]⟩ : ByteArray), 0, 1)) else (if a2 > a0_1 then (some ((⟨#[]⟩ : ByteArray), 0, 1)) else ((bits_Part.f a0_0 a0_1 a1 a2).bind fun bt618 => (some (bt618.1, bt618.2, 0)))))) else (some ((⟨#[]⟩ : ByteArray), 0, 1))) = some (r1, r2, r3) := H
  have A4 := Aside0.mk A40
  clear A40
  by_cases c5 : t617 = true
  · subst c5
    have H1 : (if a1 < 0 then (some ((⟨#[]⟩ : ByteArray), 0, 1)) else (if a1 > a2 then (some ((⟨#[]⟩ : ByteArray), 0, 1)) else (if a2 > a0_1 then (some ((⟨#[]⟩ : ByteArray), 0, 1)) else ((bits_Part.f a0_0 a0_1 a1 a2).bind fun bt618 => (some (bt618.1, bt618.2, 0)))))) = some (r1, r2, r3) := by rw [if_pos rfl] at H; exact H
    clear H
    have H := H1
    clear H1
    by_cases c6 : a1 < 0
    · rw [if_pos c6] at H
      have c6b0 : decide (a1 < 0) = true := decide_eq_true c6
      clear c6
      simp only [Option.some.injEq, Prod.mk.injEq] at H
      obtain ⟨rfl, rfl, rfl⟩ := H
      go_enter Try.func42, Try.ntmps42
      go_wp2_with (first | ((with_reducible refine gate_dst (N := 3) rfl ?_); refine box_event ?hg (N := 3) ?hd (cs := #[.string a0_0, .int .i64 a0_1]) (t := 27) ?hr ?_; (case hd => rfl); (case hg => rfl); (case hr => first | (go_simp; done) | (go_simp; rfl)); intro gb615 hg w7 hbox hb; have n0_ := Aside0.mk (below_step (by repeat (first | (with_reducible first | exact HB.out | apply below_alloc | apply pw_below_drewN | apply below_drew1) | exact HB.out)) hb); have n1_ := Aside0.mk (hbox); have n2_ := Aside0.mk ((by rw [hg]; exact (below_size (by repeat (first | (with_reducible first | exact HB.out | apply below_alloc | apply pw_below_drewN | apply below_drew1) | exact HB.out))) : w.heap.size ≤ gb615)); have n3_ := Aside0.mk ((by rw [hg]; exact (below_size (by repeat (first | (with_reducible first | exact HB.out | apply below_alloc | apply pw_below_drewN | apply below_drew1) | exact HB.out))) : w.heap.size ≤ gb615)); clear HB; have HB := n0_; have BK615 := n1_; have GW615 := n2_; have GE615 := n3_; clear n0_ n1_ n2_ n3_; clear hb hbox hg) | ((with_reducible refine gate_dst (N := 6) rfl ?_); refine box_event ?hg (N := 6) ?hd (cs := #[.string (⟨#[]⟩ : ByteArray), .int .i64 0]) (t := 27) ?hr ?_; (case hd => rfl); (case hg => rfl); (case hr => first | (go_simp; done) | (go_simp; rfl)); intro gb616 hg w8 hbox hb; have n0_ := Aside0.mk (blk_below (g := gb615) (o := .cells #[.string a0_0, .int .i64 a0_1] 27 (0, 0)) (by (with_reducible repeat (first | refine blk_drewN ?_ _ | refine blk_drew ?_ | refine blk_alloc ?_ _)); exact BK615.out) hb); have n1_ := Aside0.mk (below_step (by repeat (first | (with_reducible first | exact HB.out | apply below_alloc | apply pw_below_drewN | apply below_drew1 | refine below_set ?_ GE615.out) | exact HB.out)) hb); have n2_ := Aside0.mk (hbox); have n3_ := Aside0.mk ((by rw [hg]; exact (below_size (by repeat (first | (with_reducible first | exact HB.out | apply below_alloc | apply pw_below_drewN | apply below_drew1 | refine below_set ?_ GE615.out) | exact HB.out))) : w.heap.size ≤ gb616)); have n4_ := Aside0.mk ((by rw [hg]; exact (below_size (by repeat (first | (with_reducible first | exact HB.out | apply below_alloc | apply pw_below_drewN | apply below_drew1 | refine below_set ?_ GE615.out) | exact HB.out))) : w.heap.size ≤ gb616)); have n5_ := Aside0.mk ((by rw [hg]; exact Nat.ne_of_lt (blk_lt (g := gb615) (o := .cells #[.string a0_0, .int .i64 a0_1] 27 (0, 0)) (by (with_reducible repeat (first | refine blk_drewN ?_ _ | refine blk_drew ?_ | refine blk_alloc ?_ _)); exact BK615.out)) : gb615 ≠ gb616)); have n6_ := Aside0.mk ((by rw [hg]; exact Nat.ne_of_gt (blk_lt (g := gb615) (o := .cells #[.string a0_0, .int .i64 a0_1] 27 (0, 0)) (by (with_reducible repeat (first | refine blk_drewN ?_ _ | refine blk_drew ?_ | refine blk_alloc ?_ _)); exact BK615.out)) : gb616 ≠ gb615)); clear BK615; clear HB; have BK615 := n0_; have HB := n1_; have BK616 := n2_; have GW616 := n3_; have GE616 := n4_; have NB615_616 := n5_; have NB616_615 := n6_; clear n0_ n1_ n2_ n3_ n4_ n5_ n6_; clear hb hbox hg; have hnb9 := NB615_616.out; have hnc9 := NB616_615.out; have hcz10_0 : w8.cell? ⟨gb615, 0, none⟩ = some (.string a0_0) := (blk_cell BK615.out 0).trans rfl; have hcz10_1 : w8.cell? ⟨gb615, 1, none⟩ = some (.int .i64 a0_1) := (blk_cell BK615.out 1).trans rfl; have hfz10_0 := blk_frozen BK615.out 0; have hfz10_1 := blk_frozen BK615.out 1) | ((with_reducible refine gate_callee (f := 86) rfl ?_); refine goesL_ (some 9) rfl rfl Try.func86 (by kernel_rfl) rfl #[.agg #[.string a0_0, .int .i64 a0_1]] rfl (by (try simp only [List.map_toArray, List.map_cons, List.map_nil]); first | done | rfl | (simp only [List.length_drop, List.length_take]; rfl)) ?_; (with_reducible refine (bits_May.calls a0_0 a0_1 true _ A4.out).mono ?_); rintro e w11 ⟨rfl, hb⟩; refine ⟨_, rfl, ?_⟩; have n0_ := Aside0.mk (blk_below (g := gb615) (o := .cells #[.string a0_0, .int .i64 a0_1] 27 (0, 0)) (by (with_reducible repeat (first | refine blk_drewN ?_ _ | refine blk_drew ?_ | refine blk_alloc ?_ _)); exact BK615.out) hb); have n1_ := Aside0.mk (blk_below (g := gb616) (o := .cells #[.string (⟨#[]⟩ : ByteArray), .int .i64 0] 27 (0, 0)) (by (with_reducible repeat (first | refine blk_drewN ?_ _ | refine blk_drew ?_ | refine blk_alloc ?_ _)); exact BK616.out) hb); have n2_ := Aside0.mk (below_step (by repeat (first | (with_reducible first | exact HB.out | apply below_alloc | apply pw_below_drewN | apply below_drew1 | refine below_set ?_ GE615.out | refine below_set ?_ GE616.out) | exact HB.out)) hb); clear BK615; clear BK616; clear HB; have BK615 := n0_; have BK616 := n1_; have HB := n2_; clear n0_ n1_ n2_; (try clear hb); (try clear hb2); (try clear hk); (try clear hi); have hcz12_0 : w11.cell? ⟨gb616, 0, none⟩ = some (.string (⟨#[]⟩ : ByteArray)) := (blk_cell BK616.out 0).trans rfl; have hcz12_1 : w11.cell? ⟨gb616, 1, none⟩ = some (.int .i64 0) := (blk_cell BK616.out 1).trans rfl; have hfz12_0 := blk_frozen BK616.out 0; have hfz12_1 := blk_frozen BK616.out 1))
      refine bodyPost_ret (results_ct rfl _ _ gb616 27 #[.string (⟨#[]⟩ : ByteArray), .int .i64 0] (0, 0) _ rfl (by (with_reducible repeat (first | refine blk_drewN ?_ _ | refine blk_drew ?_ | refine blk_alloc ?_ _)); refine blk_put (cs := #[.string (⟨#[]⟩ : ByteArray), .int .i64 0]) ?_ 1 _ rfl; (with_reducible repeat (first | refine blk_drewN ?_ _ | refine blk_drew ?_ | refine blk_alloc ?_ _)); refine blk_put (cs := #[.string (⟨#[]⟩ : ByteArray), .int .i64 0]) ?_ 0 _ rfl; (with_reducible repeat (first | refine blk_drewN ?_ _ | refine blk_drew ?_ | refine blk_alloc ?_ _)); exact BK616.out) Try.underlying27 rfl (by kernel_rfl)) rfl ?_
      exact ⟨by first | rfl | (simp [errW_none, errW_some] <;> rfl) | (simp [*, errW_none, errW_some] <;> rfl), by repeat (first | (with_reducible first | exact HB.out | apply below_alloc | apply pw_below_drewN | apply below_drew1 | refine below_set ?_ GE615.out | refine below_set ?_ GE616.out) | exact HB.out)⟩
    · rw [if_neg c6] at H
      have c6b0 : decide (a1 < 0) = false := decide_eq_false c6
      clear c6
      by_cases c13 : a1 > a2
      · rw [if_pos c13] at H
        have c13b0 : decide (a2 < a1) = true := decide_eq_true c13
        clear c13
        simp only [Option.some.injEq, Prod.mk.injEq] at H
        obtain ⟨rfl, rfl, rfl⟩ := H
        go_enter Try.func42, Try.ntmps42
        go_wp2_with (first | ((with_reducible refine gate_dst (N := 3) rfl ?_); refine box_event ?hg (N := 3) ?hd (cs := #[.string a0_0, .int .i64 a0_1]) (t := 27) ?hr ?_; (case hd => rfl); (case hg => rfl); (case hr => first | (go_simp; done) | (go_simp; rfl)); intro gb615 hg w14 hbox hb; have n0_ := Aside0.mk (below_step (by repeat (first | (with_reducible first | exact HB.out | apply below_alloc | apply pw_below_drewN | apply below_drew1) | exact HB.out)) hb); have n1_ := Aside0.mk (hbox); have n2_ := Aside0.mk ((by rw [hg]; exact (below_size (by repeat (first | (with_reducible first | exact HB.out | apply below_alloc | apply pw_below_drewN | apply below_drew1) | exact HB.out))) : w.heap.size ≤ gb615)); have n3_ := Aside0.mk ((by rw [hg]; exact (below_size (by repeat (first | (with_reducible first | exact HB.out | apply below_alloc | apply pw_below_drewN | apply below_drew1) | exact HB.out))) : w.heap.size ≤ gb615)); clear HB; have HB := n0_; have BK615 := n1_; have GW615 := n2_; have GE615 := n3_; clear n0_ n1_ n2_ n3_; clear hb hbox hg) | ((with_reducible refine gate_dst (N := 6) rfl ?_); refine box_event ?hg (N := 6) ?hd (cs := #[.string (⟨#[]⟩ : ByteArray), .int .i64 0]) (t := 27) ?hr ?_; (case hd => rfl); (case hg => rfl); (case hr => first | (go_simp; done) | (go_simp; rfl)); intro gb616 hg w15 hbox hb; have n0_ := Aside0.mk (blk_below (g := gb615) (o := .cells #[.string a0_0, .int .i64 a0_1] 27 (0, 0)) (by (with_reducible repeat (first | refine blk_drewN ?_ _ | refine blk_drew ?_ | refine blk_alloc ?_ _)); exact BK615.out) hb); have n1_ := Aside0.mk (below_step (by repeat (first | (with_reducible first | exact HB.out | apply below_alloc | apply pw_below_drewN | apply below_drew1 | refine below_set ?_ GE615.out) | exact HB.out)) hb); have n2_ := Aside0.mk (hbox); have n3_ := Aside0.mk ((by rw [hg]; exact (below_size (by repeat (first | (with_reducible first | exact HB.out | apply below_alloc | apply pw_below_drewN | apply below_drew1 | refine below_set ?_ GE615.out) | exact HB.out))) : w.heap.size ≤ gb616)); have n4_ := Aside0.mk ((by rw [hg]; exact (below_size (by repeat (first | (with_reducible first | exact HB.out | apply below_alloc | apply pw_below_drewN | apply below_drew1 | refine below_set ?_ GE615.out) | exact HB.out))) : w.heap.size ≤ gb616)); have n5_ := Aside0.mk ((by rw [hg]; exact Nat.ne_of_lt (blk_lt (g := gb615) (o := .cells #[.string a0_0, .int .i64 a0_1] 27 (0, 0)) (by (with_reducible repeat (first | refine blk_drewN ?_ _ | refine blk_drew ?_ | refine blk_alloc ?_ _)); exact BK615.out)) : gb615 ≠ gb616)); have n6_ := Aside0.mk ((by rw [hg]; exact Nat.ne_of_gt (blk_lt (g := gb615) (o := .cells #[.string a0_0, .int .i64 a0_1] 27 (0, 0)) (by (with_reducible repeat (first | refine blk_drewN ?_ _ | refine blk_drew ?_ | refine blk_alloc ?_ _)); exact BK615.out)) : gb616 ≠ gb615)); clear BK615; clear HB; have BK615 := n0_; have HB := n1_; have BK616 := n2_; have GW616 := n3_; have GE616 := n4_; have NB615_616 := n5_; have NB616_615 := n6_; clear n0_ n1_ n2_ n3_ n4_ n5_ n6_; clear hb hbox hg; have hnb16 := NB615_616.out; have hnc16 := NB616_615.out; have hcz17_0 : w15.cell? ⟨gb615, 0, none⟩ = some (.string a0_0) := (blk_cell BK615.out 0).trans rfl; have hcz17_1 : w15.cell? ⟨gb615, 1, none⟩ = some (.int .i64 a0_1) := (blk_cell BK615.out 1).trans rfl; have hfz17_0 := blk_frozen BK615.out 0; have hfz17_1 := blk_frozen BK615.out 1) | ((with_reducible refine gate_callee (f := 86) rfl ?_); refine goesL_ (some 9) rfl rfl Try.func86 (by kernel_rfl) rfl #[.agg #[.string a0_0, .int .i64 a0_1]] rfl (by (try simp only [List.map_toArray, List.map_cons, List.map_nil]); first | done | rfl | (simp only [List.length_drop, List.length_take]; rfl)) ?_; (with_reducible refine (bits_May.calls a0_0 a0_1 true _ A4.out).mono ?_); rintro e w18 ⟨rfl, hb⟩; refine ⟨_, rfl, ?_⟩; have n0_ := Aside0.mk (blk_below (g := gb615) (o := .cells #[.string a0_0, .int .i64 a0_1] 27 (0, 0)) (by (with_reducible repeat (first | refine blk_drewN ?_ _ | refine blk_drew ?_ | refine blk_alloc ?_ _)); exact BK615.out) hb); have n1_ := Aside0.mk (blk_below (g := gb616) (o := .cells #[.string (⟨#[]⟩ : ByteArray), .int .i64 0] 27 (0, 0)) (by (with_reducible repeat (first | refine blk_drewN ?_ _ | refine blk_drew ?_ | refine blk_alloc ?_ _)); exact BK616.out) hb); have n2_ := Aside0.mk (below_step (by repeat (first | (with_reducible first | exact HB.out | apply below_alloc | apply pw_below_drewN | apply below_drew1 | refine below_set ?_ GE615.out | refine below_set ?_ GE616.out) | exact HB.out)) hb); clear BK615; clear BK616; clear HB; have BK615 := n0_; have BK616 := n1_; have HB := n2_; clear n0_ n1_ n2_; (try clear hb); (try clear hb2); (try clear hk); (try clear hi); have hcz19_0 : w18.cell? ⟨gb616, 0, none⟩ = some (.string (⟨#[]⟩ : ByteArray)) := (blk_cell BK616.out 0).trans rfl; have hcz19_1 : w18.cell? ⟨gb616, 1, none⟩ = some (.int .i64 0) := (blk_cell BK616.out 1).trans rfl; have hfz19_0 := blk_frozen BK616.out 0; have hfz19_1 := blk_frozen BK616.out 1))
        refine bodyPost_ret (results_ct rfl _ _ gb616 27 #[.string (⟨#[]⟩ : ByteArray), .int .i64 0] (0, 0) _ rfl (by (with_reducible repeat (first | refine blk_drewN ?_ _ | refine blk_drew ?_ | refine blk_alloc ?_ _)); refine blk_put (cs := #[.string (⟨#[]⟩ : ByteArray), .int .i64 0]) ?_ 1 _ rfl; (with_reducible repeat (first | refine blk_drewN ?_ _ | refine blk_drew ?_ | refine blk_alloc ?_ _)); refine blk_put (cs := #[.string (⟨#[]⟩ : ByteArray), .int .i64 0]) ?_ 0 _ rfl; (with_reducible repeat (first | refine blk_drewN ?_ _ | refine blk_drew ?_ | refine blk_alloc ?_ _)); exact BK616.out) Try.underlying27 rfl (by kernel_rfl)) rfl ?_
        exact ⟨by first | rfl | (simp [errW_none, errW_some] <;> rfl) | (simp [*, errW_none, errW_some] <;> rfl), by repeat (first | (with_reducible first | exact HB.out | apply below_alloc | apply pw_below_drewN | apply below_drew1 | refine below_set ?_ GE615.out | refine below_set ?_ GE616.out) | exact HB.out)⟩
      · rw [if_neg c13] at H
        have c13b0 : decide (a2 < a1) = false := decide_eq_false c13
        clear c13
        by_cases c20 : a2 > a0_1
        · rw [if_pos c20] at H
          have c20b0 : decide (a0_1 < a2) = true := decide_eq_true c20
          clear c20
          simp only [Option.some.injEq, Prod.mk.injEq] at H
          obtain ⟨rfl, rfl, rfl⟩ := H
          go_enter Try.func42, Try.ntmps42
          go_wp2_with (first | ((with_reducible refine gate_dst (N := 3) rfl ?_); refine box_event ?hg (N := 3) ?hd (cs := #[.string a0_0, .int .i64 a0_1]) (t := 27) ?hr ?_; (case hd => rfl); (case hg => rfl); (case hr => first | (go_simp; done) | (go_simp; rfl)); intro gb615 hg w21 hbox hb; have n0_ := Aside0.mk (below_step (by repeat (first | (with_reducible first | exact HB.out | apply below_alloc | apply pw_below_drewN | apply below_drew1) | exact HB.out)) hb); have n1_ := Aside0.mk (hbox); have n2_ := Aside0.mk ((by rw [hg]; exact (below_size (by repeat (first | (with_reducible first | exact HB.out | apply below_alloc | apply pw_below_drewN | apply below_drew1) | exact HB.out))) : w.heap.size ≤ gb615)); have n3_ := Aside0.mk ((by rw [hg]; exact (below_size (by repeat (first | (with_reducible first | exact HB.out | apply below_alloc | apply pw_below_drewN | apply below_drew1) | exact HB.out))) : w.heap.size ≤ gb615)); clear HB; have HB := n0_; have BK615 := n1_; have GW615 := n2_; have GE615 := n3_; clear n0_ n1_ n2_ n3_; clear hb hbox hg) | ((with_reducible refine gate_dst (N := 6) rfl ?_); refine box_event ?hg (N := 6) ?hd (cs := #[.string (⟨#[]⟩ : ByteArray), .int .i64 0]) (t := 27) ?hr ?_; (case hd => rfl); (case hg => rfl); (case hr => first | (go_simp; done) | (go_simp; rfl)); intro gb616 hg w22 hbox hb; have n0_ := Aside0.mk (blk_below (g := gb615) (o := .cells #[.string a0_0, .int .i64 a0_1] 27 (0, 0)) (by (with_reducible repeat (first | refine blk_drewN ?_ _ | refine blk_drew ?_ | refine blk_alloc ?_ _)); exact BK615.out) hb); have n1_ := Aside0.mk (below_step (by repeat (first | (with_reducible first | exact HB.out | apply below_alloc | apply pw_below_drewN | apply below_drew1 | refine below_set ?_ GE615.out) | exact HB.out)) hb); have n2_ := Aside0.mk (hbox); have n3_ := Aside0.mk ((by rw [hg]; exact (below_size (by repeat (first | (with_reducible first | exact HB.out | apply below_alloc | apply pw_below_drewN | apply below_drew1 | refine below_set ?_ GE615.out) | exact HB.out))) : w.heap.size ≤ gb616)); have n4_ := Aside0.mk ((by rw [hg]; exact (below_size (by repeat (first | (with_reducible first | exact HB.out | apply below_alloc | apply pw_below_drewN | apply below_drew1 | refine below_set ?_ GE615.out) | exact HB.out))) : w.heap.size ≤ gb616)); have n5_ := Aside0.mk ((by rw [hg]; exact Nat.ne_of_lt (blk_lt (g := gb615) (o := .cells #[.string a0_0, .int .i64 a0_1] 27 (0, 0)) (by (with_reducible repeat (first | refine blk_drewN ?_ _ | refine blk_drew ?_ | refine blk_alloc ?_ _)); exact BK615.out)) : gb615 ≠ gb616)); have n6_ := Aside0.mk ((by rw [hg]; exact Nat.ne_of_gt (blk_lt (g := gb615) (o := .cells #[.string a0_0, .int .i64 a0_1] 27 (0, 0)) (by (with_reducible repeat (first | refine blk_drewN ?_ _ | refine blk_drew ?_ | refine blk_alloc ?_ _)); exact BK615.out)) : gb616 ≠ gb615)); clear BK615; clear HB; have BK615 := n0_; have HB := n1_; have BK616 := n2_; have GW616 := n3_; have GE616 := n4_; have NB615_616 := n5_; have NB616_615 := n6_; clear n0_ n1_ n2_ n3_ n4_ n5_ n6_; clear hb hbox hg; have hnb23 := NB615_616.out; have hnc23 := NB616_615.out; have hcz24_0 : w22.cell? ⟨gb615, 0, none⟩ = some (.string a0_0) := (blk_cell BK615.out 0).trans rfl; have hcz24_1 : w22.cell? ⟨gb615, 1, none⟩ = some (.int .i64 a0_1) := (blk_cell BK615.out 1).trans rfl; have hfz24_0 := blk_frozen BK615.out 0; have hfz24_1 := blk_frozen BK615.out 1) | ((with_reducible refine gate_callee (f := 86) rfl ?_); refine goesL_ (some 9) rfl rfl Try.func86 (by kernel_rfl) rfl #[.agg #[.string a0_0, .int .i64 a0_1]] rfl (by (try simp only [List.map_toArray, List.map_cons, List.map_nil]); first | done | rfl | (simp only [List.length_drop, List.length_take]; rfl)) ?_; (with_reducible refine (bits_May.calls a0_0 a0_1 true _ A4.out).mono ?_); rintro e w25 ⟨rfl, hb⟩; refine ⟨_, rfl, ?_⟩; have n0_ := Aside0.mk (blk_below (g := gb615) (o := .cells #[.string a0_0, .int .i64 a0_1] 27 (0, 0)) (by (with_reducible repeat (first | refine blk_drewN ?_ _ | refine blk_drew ?_ | refine blk_alloc ?_ _)); exact BK615.out) hb); have n1_ := Aside0.mk (blk_below (g := gb616) (o := .cells #[.string (⟨#[]⟩ : ByteArray), .int .i64 0] 27 (0, 0)) (by (with_reducible repeat (first | refine blk_drewN ?_ _ | refine blk_drew ?_ | refine blk_alloc ?_ _)); exact BK616.out) hb); have n2_ := Aside0.mk (below_step (by repeat (first | (with_reducible first | exact HB.out | apply below_alloc | apply pw_below_drewN | apply below_drew1 | refine below_set ?_ GE615.out | refine below_set ?_ GE616.out) | exact HB.out)) hb); clear BK615; clear BK616; clear HB; have BK615 := n0_; have BK616 := n1_; have HB := n2_; clear n0_ n1_ n2_; (try clear hb); (try clear hb2); (try clear hk); (try clear hi); have hcz26_0 : w25.cell? ⟨gb615, 0, none⟩ = some (.string a0_0) := (blk_cell BK615.out 0).trans rfl; have hcz26_1 : w25.cell? ⟨gb615, 1, none⟩ = some (.int .i64 a0_1) := (blk_cell BK615.out 1).trans rfl; have hfz26_0 := blk_frozen BK615.out 0; have hfz26_1 := blk_frozen BK615.out 1; have hcz27_0 : w25.cell? ⟨gb616, 0, none⟩ = some (.string (⟨#[]⟩ : ByteArray)) := (blk_cell BK616.out 0).trans rfl; have hcz27_1 : w25.cell? ⟨gb616, 1, none⟩ = some (.int .i64 0) := (blk_cell BK616.out 1).trans rfl; have hfz27_0 := blk_frozen BK616.out 0; have hfz27_1 := blk_frozen BK616.out 1))
          refine bodyPost_ret (results_ct rfl _ _ gb616 27 #[.string (⟨#[]⟩ : ByteArray), .int .i64 0] (0, 0) _ rfl (by (with_reducible repeat (first | refine blk_drewN ?_ _ | refine blk_drew ?_ | refine blk_alloc ?_ _)); refine blk_put (cs := #[.string (⟨#[]⟩ : ByteArray), .int .i64 0]) ?_ 1 _ rfl; (with_reducible repeat (first | refine blk_drewN ?_ _ | refine blk_drew ?_ | refine blk_alloc ?_ _)); refine blk_put (cs := #[.string (⟨#[]⟩ : ByteArray), .int .i64 0]) ?_ 0 _ rfl; (with_reducible repeat (first | refine blk_drewN ?_ _ | refine blk_drew ?_ | refine blk_alloc ?_ _)); exact BK616.out) Try.underlying27 rfl (by kernel_rfl)) rfl ?_
          exact ⟨by first | rfl | (simp [errW_none, errW_some] <;> rfl) | (simp [*, errW_none, errW_some] <;> rfl), by repeat (first | (with_reducible first | exact HB.out | apply below_alloc | apply pw_below_drewN | apply below_drew1 | refine below_set ?_ GE615.out | refine below_set ?_ GE616.out) | exact HB.out)⟩
        · rw [if_neg c20] at H
          have c20b0 : decide (a0_1 < a2) = false := decide_eq_false c20
          clear c20
          replace H := Option.bind_eq_some_iff.mp H
          obtain ⟨⟨t618, t619⟩, A280, H⟩ := H
          replace H : (some (t618, t619, 0)) = some (r1, r2, r3) := H
          have A28 := Aside0.mk A280
          clear A280
          simp only [Option.some.injEq, Prod.mk.injEq] at H
          obtain ⟨rfl, rfl, rfl⟩ := H
          go_enter Try.func42, Try.ntmps42
          go_wp2_with (first | ((with_reducible refine gate_dst (N := 3) rfl ?_); refine box_event ?hg (N := 3) ?hd (cs := #[.string a0_0, .int .i64 a0_1]) (t := 27) ?hr ?_; (case hd => rfl); (case hg => rfl); (case hr => first | (go_simp; done) | (go_simp; rfl)); intro gb615 hg w29 hbox hb; have n0_ := Aside0.mk (below_step (by repeat (first | (with_reducible first | exact HB.out | apply below_alloc | apply pw_below_drewN | apply below_drew1) | exact HB.out)) hb); have n1_ := Aside0.mk (hbox); have n2_ := Aside0.mk ((by rw [hg]; exact (below_size (by repeat (first | (with_reducible first | exact HB.out | apply below_alloc | apply pw_below_drewN | apply below_drew1) | exact HB.out))) : w.heap.size ≤ gb615)); have n3_ := Aside0.mk ((by rw [hg]; exact (below_size (by repeat (first | (with_reducible first | exact HB.out | apply below_alloc | apply pw_below_drewN | apply below_drew1) | exact HB.out))) : w.heap.size ≤ gb615)); clear HB; have HB := n0_; have BK615 := n1_; have GW615 := n2_; have GE615 := n3_; clear n0_ n1_ n2_ n3_; clear hb hbox hg) | ((with_reducible refine gate_dst (N := 6) rfl ?_); refine box_event ?hg (N := 6) ?hd (cs := #[.string (⟨#[]⟩ : ByteArray), .int .i64 0]) (t := 27) ?hr ?_; (case hd => rfl); (case hg => rfl); (case hr => first | (go_simp; done) | (go_simp; rfl)); intro gb616 hg w30 hbox hb; have n0_ := Aside0.mk (blk_below (g := gb615) (o := .cells #[.string a0_0, .int .i64 a0_1] 27 (0, 0)) (by (with_reducible repeat (first | refine blk_drewN ?_ _ | refine blk_drew ?_ | refine blk_alloc ?_ _)); exact BK615.out) hb); have n1_ := Aside0.mk (below_step (by repeat (first | (with_reducible first | exact HB.out | apply below_alloc | apply pw_below_drewN | apply below_drew1 | refine below_set ?_ GE615.out) | exact HB.out)) hb); have n2_ := Aside0.mk (hbox); have n3_ := Aside0.mk ((by rw [hg]; exact (below_size (by repeat (first | (with_reducible first | exact HB.out | apply below_alloc | apply pw_below_drewN | apply below_drew1 | refine below_set ?_ GE615.out) | exact HB.out))) : w.heap.size ≤ gb616)); have n4_ := Aside0.mk ((by rw [hg]; exact (below_size (by repeat (first | (with_reducible first | exact HB.out | apply below_alloc | apply pw_below_drewN | apply below_drew1 | refine below_set ?_ GE615.out) | exact HB.out))) : w.heap.size ≤ gb616)); have n5_ := Aside0.mk ((by rw [hg]; exact Nat.ne_of_lt (blk_lt (g := gb615) (o := .cells #[.string a0_0, .int .i64 a0_1] 27 (0, 0)) (by (with_reducible repeat (first | refine blk_drewN ?_ _ | refine blk_drew ?_ | refine blk_alloc ?_ _)); exact BK615.out)) : gb615 ≠ gb616)); have n6_ := Aside0.mk ((by rw [hg]; exact Nat.ne_of_gt (blk_lt (g := gb615) (o := .cells #[.string a0_0, .int .i64 a0_1] 27 (0, 0)) (by (with_reducible repeat (first | refine blk_drewN ?_ _ | refine blk_drew ?_ | refine blk_alloc ?_ _)); exact BK615.out)) : gb616 ≠ gb615)); clear BK615; clear HB; have BK615 := n0_; have HB := n1_; have BK616 := n2_; have GW616 := n3_; have GE616 := n4_; have NB615_616 := n5_; have NB616_615 := n6_; clear n0_ n1_ n2_ n3_ n4_ n5_ n6_; clear hb hbox hg; have hnb31 := NB615_616.out; have hnc31 := NB616_615.out; have hcz32_0 : w30.cell? ⟨gb615, 0, none⟩ = some (.string a0_0) := (blk_cell BK615.out 0).trans rfl; have hcz32_1 : w30.cell? ⟨gb615, 1, none⟩ = some (.int .i64 a0_1) := (blk_cell BK615.out 1).trans rfl; have hfz32_0 := blk_frozen BK615.out 0; have hfz32_1 := blk_frozen BK615.out 1) | ((with_reducible refine gate_callee (f := 86) rfl ?_); refine goesL_ (some 9) rfl rfl Try.func86 (by kernel_rfl) rfl #[.agg #[.string a0_0, .int .i64 a0_1]] rfl (by (try simp only [List.map_toArray, List.map_cons, List.map_nil]); first | done | rfl | (simp only [List.length_drop, List.length_take]; rfl)) ?_; (with_reducible refine (bits_May.calls a0_0 a0_1 true _ A4.out).mono ?_); rintro e w33 ⟨rfl, hb⟩; refine ⟨_, rfl, ?_⟩; have n0_ := Aside0.mk (blk_below (g := gb615) (o := .cells #[.string a0_0, .int .i64 a0_1] 27 (0, 0)) (by (with_reducible repeat (first | refine blk_drewN ?_ _ | refine blk_drew ?_ | refine blk_alloc ?_ _)); exact BK615.out) hb); have n1_ := Aside0.mk (blk_below (g := gb616) (o := .cells #[.string (⟨#[]⟩ : ByteArray), .int .i64 0] 27 (0, 0)) (by (with_reducible repeat (first | refine blk_drewN ?_ _ | refine blk_drew ?_ | refine blk_alloc ?_ _)); exact BK616.out) hb); have n2_ := Aside0.mk (below_step (by repeat (first | (with_reducible first | exact HB.out | apply below_alloc | apply pw_below_drewN | apply below_drew1 | refine below_set ?_ GE615.out | refine below_set ?_ GE616.out) | exact HB.out)) hb); clear BK615; clear BK616; clear HB; have BK615 := n0_; have BK616 := n1_; have HB := n2_; clear n0_ n1_ n2_; (try clear hb); (try clear hb2); (try clear hk); (try clear hi); have hcz34_0 : w33.cell? ⟨gb615, 0, none⟩ = some (.string a0_0) := (blk_cell BK615.out 0).trans rfl; have hcz34_1 : w33.cell? ⟨gb615, 1, none⟩ = some (.int .i64 a0_1) := (blk_cell BK615.out 1).trans rfl; have hfz34_0 := blk_frozen BK615.out 0; have hfz34_1 := blk_frozen BK615.out 1) | ((with_reducible refine gate_callee (f := 99) rfl ?_); refine goesL_ (some 30) rfl rfl Try.func99 (by kernel_rfl) rfl #[.agg #[.string a0_0, .int .i64 a0_1], .int .i64 a1, .int .i64 a2] rfl (by (try simp only [List.map_toArray, List.map_cons, List.map_nil]); first | done | rfl | (simp only [List.length_drop, List.length_take]; rfl)) ?_; (with_reducible refine (bits_Part.calls a0_0 a0_1 a1 a2 t618 t619 _ A28.out).mono ?_); rintro e w35 ⟨rfl, hb⟩; refine ⟨_, rfl, ?_⟩; have n0_ := Aside0.mk (blk_below (g := gb615) (o := .cells #[.string a0_0, .int .i64 a0_1] 27 (0, 0)) (by (with_reducible repeat (first | refine blk_drewN ?_ _ | refine blk_drew ?_ | refine blk_alloc ?_ _)); exact BK615.out) hb); have n1_ := Aside0.mk (blk_below (g := gb616) (o := .cells #[.string (⟨#[]⟩ : ByteArray), .int .i64 0] 27 (0, 0)) (by (with_reducible repeat (first | refine blk_drewN ?_ _ | refine blk_drew ?_ | refine blk_alloc ?_ _)); exact BK616.out) hb); have n2_ := Aside0.mk (below_step (by repeat (first | (with_reducible first | exact HB.out | apply below_alloc | apply pw_below_drewN | apply below_drew1 | refine below_set ?_ GE615.out | refine below_set ?_ GE616.out) | exact HB.out)) hb); clear BK615; clear BK616; clear HB; have BK615 := n0_; have BK616 := n1_; have HB := n2_; clear n0_ n1_ n2_; (try clear hb); (try clear hb2); (try clear hk); (try clear hi); have hcz36_0 : w35.cell? ⟨gb616, 0, none⟩ = some (.string (⟨#[]⟩ : ByteArray)) := (blk_cell BK616.out 0).trans rfl; have hcz36_1 : w35.cell? ⟨gb616, 1, none⟩ = some (.int .i64 0) := (blk_cell BK616.out 1).trans rfl; have hfz36_0 := blk_frozen BK616.out 0; have hfz36_1 := blk_frozen BK616.out 1))
          refine bodyPost_ret (results_ct rfl _ _ gb616 27 #[.string t618, .int .i64 t619] (0, 0) _ rfl (by (with_reducible repeat (first | refine blk_drewN ?_ _ | refine blk_drew ?_ | refine blk_alloc ?_ _)); refine blk_put (cs := #[.string t618, .int .i64 0]) ?_ 1 _ rfl; (with_reducible repeat (first | refine blk_drewN ?_ _ | refine blk_drew ?_ | refine blk_alloc ?_ _)); refine blk_put (cs := #[.string (⟨#[]⟩ : ByteArray), .int .i64 0]) ?_ 0 _ rfl; (with_reducible repeat (first | refine blk_drewN ?_ _ | refine blk_drew ?_ | refine blk_alloc ?_ _)); exact BK616.out) Try.underlying27 rfl (by kernel_rfl)) rfl ?_
          exact ⟨by first | rfl | (simp [errW_none, errW_some] <;> rfl) | (simp [*, errW_none, errW_some] <;> rfl), by repeat (first | (with_reducible first | exact HB.out | apply below_alloc | apply pw_below_drewN | apply below_drew1 | refine below_set ?_ GE615.out | refine below_set ?_ GE616.out) | exact HB.out)⟩
  · replace c5 := Bool.eq_false_iff.mpr c5
    subst c5
    have H1 : (some ((⟨#[]⟩ : ByteArray), 0, 1)) = some (r1, r2, r3) := by rw [if_neg (show ¬ (false = true) by decide)] at H; exact H
    clear H
    have H := H1
    clear H1
    simp only [Option.some.injEq, Prod.mk.injEq] at H
    obtain ⟨rfl, rfl, rfl⟩ := H
    go_enter Try.func42, Try.ntmps42
    go_wp2_with (first | ((with_reducible refine gate_dst (N := 3) rfl ?_); refine box_event ?hg (N := 3) ?hd (cs := #[.string a0_0, .int .i64 a0_1]) (t := 27) ?hr ?_; (case hd => rfl); (case hg => rfl); (case hr => first | (go_simp; done) | (go_simp; rfl)); intro gb615 hg w37 hbox hb; have n0_ := Aside0.mk (below_step (by repeat (first | (with_reducible first | exact HB.out | apply below_alloc | apply pw_below_drewN | apply below_drew1) | exact HB.out)) hb); have n1_ := Aside0.mk (hbox); have n2_ := Aside0.mk ((by rw [hg]; exact (below_size (by repeat (first | (with_reducible first | exact HB.out | apply below_alloc | apply pw_below_drewN | apply below_drew1) | exact HB.out))) : w.heap.size ≤ gb615)); have n3_ := Aside0.mk ((by rw [hg]; exact (below_size (by repeat (first | (with_reducible first | exact HB.out | apply below_alloc | apply pw_below_drewN | apply below_drew1) | exact HB.out))) : w.heap.size ≤ gb615)); clear HB; have HB := n0_; have BK615 := n1_; have GW615 := n2_; have GE615 := n3_; clear n0_ n1_ n2_ n3_; clear hb hbox hg) | ((with_reducible refine gate_dst (N := 6) rfl ?_); refine box_event ?hg (N := 6) ?hd (cs := #[.string (⟨#[]⟩ : ByteArray), .int .i64 0]) (t := 27) ?hr ?_; (case hd => rfl); (case hg => rfl); (case hr => first | (go_simp; done) | (go_simp; rfl)); intro gb616 hg w38 hbox hb; have n0_ := Aside0.mk (blk_below (g := gb615) (o := .cells #[.string a0_0, .int .i64 a0_1] 27 (0, 0)) (by (with_reducible repeat (first | refine blk_drewN ?_ _ | refine blk_drew ?_ | refine blk_alloc ?_ _)); exact BK615.out) hb); have n1_ := Aside0.mk (below_step (by repeat (first | (with_reducible first | exact HB.out | apply below_alloc | apply pw_below_drewN | apply below_drew1 | refine below_set ?_ GE615.out) | exact HB.out)) hb); have n2_ := Aside0.mk (hbox); have n3_ := Aside0.mk ((by rw [hg]; exact (below_size (by repeat (first | (with_reducible first | exact HB.out | apply below_alloc | apply pw_below_drewN | apply below_drew1 | refine below_set ?_ GE615.out) | exact HB.out))) : w.heap.size ≤ gb616)); have n4_ := Aside0.mk ((by rw [hg]; exact (below_size (by repeat (first | (with_reducible first | exact HB.out | apply below_alloc | apply pw_below_drewN | apply below_drew1 | refine below_set ?_ GE615.out) | exact HB.out))) : w.heap.size ≤ gb616)); have n5_ := Aside0.mk ((by rw [hg]; exact Nat.ne_of_lt (blk_lt (g := gb615) (o := .cells #[.string a0_0, .int .i64 a0_1] 27 (0, 0)) (by (with_reducible repeat (first | refine blk_drewN ?_ _ | refine blk_drew ?_ | refine blk_alloc ?_ _)); exact BK615.out)) : gb615 ≠ gb616)); have n6_ := Aside0.mk ((by rw [hg]; exact Nat.ne_of_gt (blk_lt (g := gb615) (o := .cells #[.string a0_0, .int .i64 a0_1] 27 (0, 0)) (by (with_reducible repeat (first | refine blk_drewN ?_ _ | refine blk_drew ?_ | refine blk_alloc ?_ _)); exact BK615.out)) : gb616 ≠ gb615)); clear BK615; clear HB; have BK615 := n0_; have HB := n1_; have BK616 := n2_; have GW616 := n3_; have GE616 := n4_; have NB615_616 := n5_; have NB616_615 := n6_; clear n0_ n1_ n2_ n3_ n4_ n5_ n6_; clear hb hbox hg; have hnb39 := NB615_616.out; have hnc39 := NB616_615.out; have hcz40_0 : w38.cell? ⟨gb615, 0, none⟩ = some (.string a0_0) := (blk_cell BK615.out 0).trans rfl; have hcz40_1 : w38.cell? ⟨gb615, 1, none⟩ = some (.int .i64 a0_1) := (blk_cell BK615.out 1).trans rfl; have hfz40_0 := blk_frozen BK615.out 0; have hfz40_1 := blk_frozen BK615.out 1) | ((with_reducible refine gate_callee (f := 86) rfl ?_); refine goesL_ (some 9) rfl rfl Try.func86 (by kernel_rfl) rfl #[.agg #[.string a0_0, .int .i64 a0_1]] rfl (by (try simp only [List.map_toArray, List.map_cons, List.map_nil]); first | done | rfl | (simp only [List.length_drop, List.length_take]; rfl)) ?_; (with_reducible refine (bits_May.calls a0_0 a0_1 false _ A4.out).mono ?_); rintro e w41 ⟨rfl, hb⟩; refine ⟨_, rfl, ?_⟩; have n0_ := Aside0.mk (blk_below (g := gb615) (o := .cells #[.string a0_0, .int .i64 a0_1] 27 (0, 0)) (by (with_reducible repeat (first | refine blk_drewN ?_ _ | refine blk_drew ?_ | refine blk_alloc ?_ _)); exact BK615.out) hb); have n1_ := Aside0.mk (blk_below (g := gb616) (o := .cells #[.string (⟨#[]⟩ : ByteArray), .int .i64 0] 27 (0, 0)) (by (with_reducible repeat (first | refine blk_drewN ?_ _ | refine blk_drew ?_ | refine blk_alloc ?_ _)); exact BK616.out) hb); have n2_ := Aside0.mk (below_step (by repeat (first | (with_reducible first | exact HB.out | apply below_alloc | apply pw_below_drewN | apply below_drew1 | refine below_set ?_ GE615.out | refine below_set ?_ GE616.out) | exact HB.out)) hb); clear BK615; clear BK616; clear HB; have BK615 := n0_; have BK616 := n1_; have HB := n2_; clear n0_ n1_ n2_; (try clear hb); (try clear hb2); (try clear hk); (try clear hi); have hcz42_0 : w41.cell? ⟨gb616, 0, none⟩ = some (.string (⟨#[]⟩ : ByteArray)) := (blk_cell BK616.out 0).trans rfl; have hcz42_1 : w41.cell? ⟨gb616, 1, none⟩ = some (.int .i64 0) := (blk_cell BK616.out 1).trans rfl; have hfz42_0 := blk_frozen BK616.out 0; have hfz42_1 := blk_frozen BK616.out 1))
    refine bodyPost_ret (results_ct rfl _ _ gb616 27 #[.string (⟨#[]⟩ : ByteArray), .int .i64 0] (0, 0) _ rfl (by (with_reducible repeat (first | refine blk_drewN ?_ _ | refine blk_drew ?_ | refine blk_alloc ?_ _)); refine blk_put (cs := #[.string (⟨#[]⟩ : ByteArray), .int .i64 0]) ?_ 1 _ rfl; (with_reducible repeat (first | refine blk_drewN ?_ _ | refine blk_drew ?_ | refine blk_alloc ?_ _)); refine blk_put (cs := #[.string (⟨#[]⟩ : ByteArray), .int .i64 0]) ?_ 0 _ rfl; (with_reducible repeat (first | refine blk_drewN ?_ _ | refine blk_drew ?_ | refine blk_alloc ?_ _)); exact BK616.out) Try.underlying27 rfl (by kernel_rfl)) rfl ?_
    exact ⟨by first | rfl | (simp [errW_none, errW_some] <;> rfl) | (simp [*, errW_none, errW_some] <;> rfl), by repeat (first | (with_reducible first | exact HB.out | apply below_alloc | apply pw_below_drewN | apply below_drew1 | refine below_set ?_ GE615.out | refine below_set ?_ GE616.out) | exact HB.out)⟩
end Go.Proofs.Ytnpghcikhpglkaa.Q
namespace Go.Proofs.Ytnpghcikhpglkaa.Pb
open Go.RowKit Go.Proofs.YtnpghcikhpglkaaW.PrintWords Go.Proofs.YtnpghcikhpglkaaW.PrintLast Go.Proofs.YtnpghcikhpglkaaW.PrintMore Go.Proofs.Ytnpghcikhpglkaa.Hand Go.Proofs.Ytnpghcikhpglkaa.Pu Go.Proofs.Ytnpghcikhpglkaa.Q
set_option linter.unusedVariables false
set_option linter.unusedSimpArgs false

theorem partK_packS (l : List Int) (hl : IsBits l) (k i : Nat) (h : i + k ≤ l.length) : partK (packS l) k (i : Int) = (l.drop i).take k := by
  rw [partK_ofS]
  refine List.ext_getElem? fun j => ?_
  rcases Nat.lt_or_ge j k with hj | hj
  · rw [List.getElem?_map, List.getElem?_range hj, List.getElem?_take_of_lt hj, List.getElem?_drop, List.getElem?_eq_getElem (by omega)]
    simp only [Option.map_some]
    rw [bitOf_packS l hl (i + j) (by omega), List.getD_eq_getElem?_getD, List.getElem?_eq_getElem (by omega)]
    rfl
  · rw [List.getElem?_eq_none (by simp; omega), List.getElem?_eq_none (by simp; omega)]
/-- bits.Cut, of bits that may be. -/
def cutR (l : List Int) (a b : Int) : ByteArray × Int × Int :=
  if 0 ≤ a ∧ a ≤ b ∧ b ≤ (l.length : Int) then (packS ((l.drop a.toNat).take (b - a).toNat), b - a, 0) else (⟨#[]⟩, 0, 1)
theorem cut_eq (l : List Int) (hl : IsBits l) (hlen : l.length ≤ 6000) (a b : Int) : bits_Cut.f (packS l) (l.length : Int) a b = some (cutR l a b) := by
  unfold bits_Cut.f cutR
  rw [may_eq, decide_eq_true (may_packS l hl hlen)]
  simp only [Option.bind_some, if_true]
  by_cases h1 : a < 0
  · rw [if_pos h1, if_neg (fun h => by omega)]
  · rw [if_neg h1]
    by_cases h2 : a > b
    · rw [if_pos h2, if_neg (fun h => by omega)]
    · rw [if_neg h2]
      by_cases h3 : b > (l.length : Int)
      · rw [if_pos h3, if_neg (fun h => by omega)]
      · have hsz := packS_size l
        rw [if_neg h3, if_pos ⟨by omega, by omega, by omega⟩]
        unfold bits_Part.f
        rw [if_pos ⟨by omega, by omega, by omega⟩]
        simp only [Option.bind_some]
        obtain ⟨a', rfl⟩ := Int.eq_ofNat_of_zero_le (show 0 ≤ a by omega)
        rw [partK_packS l hl _ a' (by omega), Int.toNat_natCast, Int.toNat_of_nonneg (by omega)]
theorem cat_eq (A B : List Int) (hA : IsBits A) (hB : IsBits B) (h1 : A.length ≤ 6000) (h2 : B.length ≤ 6000) : bits_Cat.f (packS A) (A.length : Int) (packS B) (B.length : Int) =
    if A.length + B.length ≤ 6000 then some (packS (A ++ B), ((A ++ B).length : Int), 0) else some (⟨#[]⟩, 0, 2) := by
  unfold bits_Cat.f
  rw [if_pos ⟨may_packS A hA h1, may_packS B hB h2⟩, ofS_packS A hA, ofS_packS B hB]
  by_cases h : A.length + B.length ≤ 6000
  · rw [if_pos h, if_pos (by omega), List.length_append]
    simp
  · rw [if_neg h, if_neg (by omega)]

theorem u64_wrap (x : Int) : IntKind.u64.wrap x = x % 18446744073709551616 := by simp [IntKind.wrap, IntKind.bits, IntKind.signed]
theorem within_eq (a n : Int) (h0 : 0 < n) (h1 : n < 9223372036854775808) : ∃ r, herbariumlaw0_Within.f a n = some r ∧ 0 ≤ r ∧ r < n := by
  unfold herbariumlaw0_Within.f
  rw [u64_wrap, u64_wrap, Int.emod_eq_of_lt (a := n) (by omega) (by omega), if_neg (by omega)]
  have hm := Int.emod_nonneg a (show (18446744073709551616 : Int) ≠ 0 by omega)
  rw [Int.tmod_eq_emod_of_nonneg hm]
  have r0 := Int.emod_nonneg (a % 18446744073709551616) (show n ≠ 0 by omega)
  have r1 := Int.emod_lt_of_pos (a % 18446744073709551616) h0
  rw [wrap_in _ (by omega) (by omega)]
  exact ⟨_, rfl, r0, r1⟩

theorem weight_some (l : List S27) (hl : (l.length : Int) < 9223372036854775807) (d : Nat) : ∀ (k : Nat) (x i : Int), 0 ≤ i → i + d = l.length → d < k → ∃ t, herbariumlaw0_BitsWeight.l0 k l x i = some t := by
  induction d with
  | zero =>
    intro k x i h0 hi hk
    obtain ⟨k, rfl⟩ : ∃ m, k = m + 1 := ⟨k - 1, by omega⟩
    simp only [herbariumlaw0_BitsWeight.l0]
    rw [if_neg (by omega)]
    exact ⟨_, rfl⟩
  | succ d ih =>
    intro k x i h0 hi hk
    obtain ⟨k, rfl⟩ : ∃ m, k = m + 1 := ⟨k - 1, by omega⟩
    simp only [herbariumlaw0_BitsWeight.l0]
    rw [if_pos (by omega)]
    split
    · rw [wrap_in (i + 1) (by omega) (by omega)]
      exact ih k _ (i + 1) (by omega) (by omega) (by omega)
    · exact ⟨_, rfl⟩
/-- More than is played, or not: told in any case; and where it is not: there are few. -/
theorem heavy_some (l : List S27) (m : List Int) (hl : (l.length : Int) < 9223372036854775807) (k : Nat) (hk : l.length < k) : herbariumlaw1_Heavy.f k l m = some true ∨ (herbariumlaw1_Heavy.f k l m = some false ∧ m.length ≤ 100) := by
  unfold herbariumlaw1_Heavy.f herbariumlaw0_BitsWeight.f
  obtain ⟨t, ht⟩ := weight_some l hl l.length k (l.length : Int) 0 (by omega) (by omega) hk
  rw [ht]
  simp only [Option.bind_some]
  split
  · exact .inl rfl
  · by_cases h : (m.length : Int) > 100
    · rw [decide_eq_true h]; exact .inl rfl
    · rw [decide_eq_false h]; exact .inr ⟨rfl, by omega⟩
theorem wakes1 (k : Nat) (hk : 40 ≤ k) (f : Option Bool) (hf : f = ((bits_Put.f (⟨#[]⟩ : ByteArray) 0 5 3).bind fun bt559 => ((bits_Get.f k bt559.1 bt559.2.1 0 3).bind fun bt563 => ((herbariumlaw1_num.f bt559.2.2).bind fun t565 => (if t565 = 0 then ((herbariumlaw1_num.f bt563.2).bind fun t566 => (if t566 = 0 then (if (bt559.1.toList == ([160] : List UInt8) && (bt559.2.1 == 3)) = true then (some (bt563.1 == 5)) else (some false)) else (some false))) else (some false)))))) : f = some true := by
  have h1 : bits_Put.f (⟨#[]⟩ : ByteArray) 0 5 3 = some (packS (putL 3 5), ((putL 3 5).length : Int), 0) := put_nil 5 3 (by omega) (by omega) (by omega)
  rw [hf, h1]
  simp only [Option.bind_some]
  rw [get_eq (putL 3 5) (putL_bits 3 5) (by rw [putL_length]; omega) 0 3 (by omega) k hk]
  simp only [Option.bind_some, herbariumlaw1_num.f]
  decide +kernel
end Go.Proofs.Ytnpghcikhpglkaa.Pb
namespace Go.Proofs.Ytnpghcikhpglkaa.Pure
open Go.RowKit Go.Proofs.YtnpghcikhpglkaaW.PrintWords Go.Proofs.YtnpghcikhpglkaaW.PrintLast Go.Proofs.YtnpghcikhpglkaaW.PrintMore Go.Proofs.Ytnpghcikhpglkaa.Hand Go.Proofs.Ytnpghcikhpglkaa.Q Go.Proofs.Ytnpghcikhpglkaa.Pu Go.Proofs.Ytnpghcikhpglkaa.Pb
set_option linter.unusedVariables false
namespace CodeB
theorem pack1 : packS [1] = ⟨#[128]⟩ := by decide +kernel
theorem bits1 : IsBits [1] := fun x hx => by simp at hx; exact .inr hx
theorem wakes2 : herbariumlaw2_wakes.f 40 = some true := by decide +kernel
theorem within32 : herbariumlaw0_Within.f 3 2 = some 1 := by decide +kernel
theorem back_num (kind n : Int) (i : Nat) (hk1 : 1 ≤ kind) (hk5 : kind ≤ 5) (hn : NumP kind n) (hi : i < 5) (l0 : List S27) (l1 : List Int) (k : Nat) (hk : 1 ≤ k) :
    herbariumlaw2_CodeBack.j4 (k + 1 + 1) kind (i : Int) n l0 l1 = herbariumlaw2_CodeBack.l1 k kind ((i : Int) + 1) l0 l1 := by
  have hlen := layL_len kind n hk1 hk5 hn.1 hn.2.1 hn.2.2
  have hg := layL_short 2 (1 + (i : Int)) (by omega) (by omega) (by omega) (by omega)
  have hlb := layL_bits kind n
  have hb1 : IsBits ([1] ++ layL kind n) := IsBits.append bits1 hlb
  have hn1 := hn.1
  have hn2 := hn.2.1
  have p1 : code_Put.f (⟨#[128]⟩ : ByteArray) 1 kind n = some (packS ([1] ++ layL kind n), (([1] ++ layL kind n).length : Int), 0) := by
    have e := cput_eq [1] bits1 (by simp) kind n
    rw [if_pos ⟨⟨hk1, hk5⟩, hn⟩, if_pos (by simp only [List.length_append, List.length_singleton]; omega), pack1] at e
    exact e
  have p2 : code_Put.f (packS ([1] ++ layL kind n)) (([1] ++ layL kind n).length : Int) 2 (1 + (i : Int)) = some (packS ([1] ++ layL kind n ++ layL 2 (1 + (i : Int))), (([1] ++ layL kind n ++ layL 2 (1 + (i : Int))).length : Int), 0) := by
    rw [cput_eq ([1] ++ layL kind n) hb1 (by simp only [List.length_append, List.length_singleton]; omega) 2 (1 + (i : Int)), if_pos ⟨⟨by omega, by omega⟩, by omega, by omega, by omega⟩, if_pos (by simp only [List.length_append, List.length_singleton]; omega)]
  have hr : ReadL kind (([1] ++ layL kind n ++ layL 2 (1 + (i : Int))).drop 1) = some (n, (layL kind n).length) := by
    rw [List.append_assoc, List.singleton_append, List.drop_succ_cons, List.drop_zero]
    exact read_lay kind n hk1 hk5 hn1 hn2 hn.2.2 _
  have p3 : code_Take.f (k + 1) (packS ([1] ++ layL kind n ++ layL 2 (1 + (i : Int)))) (([1] ++ layL kind n ++ layL 2 (1 + (i : Int))).length : Int) 1 kind = some (n, ((1 + (layL kind n).length : Nat) : Int), 0) := by
    rw [ctake_eq _ (IsBits.append hb1 (layL_bits 2 _)) (by simp only [List.length_append, List.length_singleton]; omega) kind 1 (k + 1) (by omega)]
    exact congrArg some (take_good kind _ 1 _ n hk1 hk5 (by simp only [List.length_append, List.length_singleton]; omega) hr hn2)
  have p4 : code_Size.f kind n = some (((layL kind n).length : Int), 0) := by rw [csize_eq, if_pos ⟨⟨hk1, hk5⟩, hn⟩]
  have hl1 : ([1] ++ layL kind n).length = 1 + (layL kind n).length := by simp; omega
  rw [herbariumlaw2_CodeBack.j4, p1, Option.bind_some]
  simp only
  rw [wrap_in (1 + (i : Int)) (by omega) (by omega), p2, Option.bind_some]
  simp only
  rw [p3, Option.bind_some]
  simp only
  rw [p4, Option.bind_some]
  simp only [herbariumlaw2_num.f, Option.bind_some]
  have hz : wrap64 (wrap64 (wrap64 (0 + 0) + 0) + 0) = 0 := by unfold wrap64; omega
  have hne : (((layL kind n).length : Int) != wrap64 ((([1] ++ layL kind n).length : Int) - 1)) = false := by
    rw [hl1, wrap_in _ (by omega) (by omega)]
    simp only [bne_eq_false_iff_eq]; omega
  rw [if_pos hz, if_pos trivial, if_pos (by rw [hl1]), hne, herbariumlaw2_CodeBack.j5, if_neg (by decide), wrap_in ((i : Int) + 1) (by omega) (by omega)]
  by_cases h1 : n > 1
  · have hm := layL_mono kind (n - 1) n hk1 hk5 (by omega) (by omega) hn2
    have p5 : code_Size.f kind (n - 1) = some (((layL kind (n - 1)).length : Int), 0) := by
      rw [csize_eq, if_pos ⟨⟨hk1, hk5⟩, by omega, by omega, fun h => by have := hn.2.2 h; omega⟩]
    rw [if_pos h1, wrap_in (n - 1) (by omega) (by omega), p5, Option.bind_some]
    simp only [herbariumlaw2_num.f, Option.bind_some]
    rw [if_pos trivial, if_neg (by omega)]
  · rw [if_neg h1]
theorem back_j3 (kind : Int) (x n : Int) (i : Nat) (hk1 : 1 ≤ kind) (hk5 : kind ≤ 5) (hx : 0 ≤ x ∧ x < 1000) (b : Bool) (hb : b = true → kind ≠ 1) (hi : i < 5) (l0 : List S27) (l1 : List Int) (hi1 : i < l1.length) (k : Nat) (hk : 1 ≤ k) :
    herbariumlaw2_CodeBack.j3 (k + 1 + 1 + 1) kind (i : Int) (wrap64 (1 + x)) b l0 l1 = herbariumlaw2_CodeBack.l1 k kind ((i : Int) + 1) l0 l1 := by
  rw [herbariumlaw2_CodeBack.j3]
  cases b with
  | false => rw [if_neg (by decide), wrap_in (1 + x) (by omega) (by omega)]; exact back_num kind (1 + x) i hk1 hk5 ⟨by omega, by omega, fun _ => by omega⟩ hi l0 l1 k hk
  | true =>
    obtain ⟨r, e, r0, r1⟩ := within_eq (rd l1 (i : Int)) 1073741824 (by omega) (by omega)
    rw [if_pos rfl, if_pos (by omega), if_pos (by omega), e, Option.bind_some, wrap_in (1 + r) (by omega) (by omega)]
    exact back_num kind (1 + r) i hk1 hk5 ⟨by omega, by omega, fun h => absurd h (hb rfl)⟩ hi l0 l1 k hk
theorem back_one (kind : Int) (i : Nat) (hk1 : 1 ≤ kind) (hk5 : kind ≤ 5) (hi : i < 5) (l0 : List S27) (l1 : List Int) (hi1 : i < l1.length) (k : Nat) (hk : 1 ≤ k) :
    herbariumlaw2_CodeBack.l1 (k + 1 + 1 + 1 + 1 + 1) kind (i : Int) l0 l1 = herbariumlaw2_CodeBack.l1 k kind ((i : Int) + 1) l0 l1 := by
  obtain ⟨r, e, r0, r1⟩ := within_eq (rd l1 (i : Int)) 1000 (by omega) (by omega)
  rw [herbariumlaw2_CodeBack.l1, if_pos (by omega), decide_eq_true (show (i : Int) < 5 by omega), herbariumlaw2_CodeBack.j2, if_pos rfl, if_pos (by omega), if_pos (by omega), e, Option.bind_some]
  by_cases h1 : kind = 1
  · rw [if_pos h1]; exact back_j3 kind r 0 i hk1 hk5 ⟨r0, r1⟩ false (by simp) hi l0 l1 hi1 k hk
  · rw [if_neg h1]; exact back_j3 kind r 0 i hk1 hk5 ⟨r0, r1⟩ _ (fun _ => h1) hi l0 l1 hi1 k hk
theorem back_end (kind : Int) (i : Nat) (hk1 : 1 ≤ kind) (hk5 : kind ≤ 5) (l0 : List S27) (l1 : List Int) (h : ¬ (i < l1.length ∧ i < 5)) (k : Nat) :
    herbariumlaw2_CodeBack.l1 (k + 1 + 1) kind (i : Int) l0 l1 = herbariumlaw2_CodeBack.l0 k (kind + 1) l0 l1 := by
  have e : herbariumlaw2_CodeBack.j2 (k + 1) kind (i : Int) false l0 l1 = herbariumlaw2_CodeBack.l0 k (kind + 1) l0 l1 := by
    rw [herbariumlaw2_CodeBack.j2, if_neg (by decide), wrap_in _ (by omega) (by omega)]
  rw [herbariumlaw2_CodeBack.l1]
  by_cases h1 : i < l1.length
  · rw [if_pos (by omega), decide_eq_false (show ¬ ((i : Int) < 5) by omega), e]
  · rw [if_neg (by omega), e]
theorem back_kind (kind : Int) (hk1 : 1 ≤ kind) (hk5 : kind ≤ 5) (l0 : List S27) (l1 : List Int) (K : Nat) (hnext : ∀ k, K ≤ k → herbariumlaw2_CodeBack.l0 k (kind + 1) l0 l1 = some true) : ∀ (d i : Nat), i + d = 5 → ∀ k, K + 10 + 10 * d ≤ k → herbariumlaw2_CodeBack.l1 k kind (i : Int) l0 l1 = some true
  | 0, i, hd, k, hk => by
    obtain ⟨m, rfl⟩ : ∃ m, k = m + 1 + 1 := ⟨k - 2, by omega⟩
    rw [back_end kind i hk1 hk5 l0 l1 (by omega) m]
    exact hnext m (by omega)
  | d + 1, i, hd, k, hk => by
    by_cases h : i < l1.length
    · obtain ⟨m, rfl⟩ : ∃ m, k = m + 1 + 1 + 1 + 1 + 1 := ⟨k - 5, by omega⟩
      rw [back_one kind i hk1 hk5 (by omega) l0 l1 h m (by omega)]
      exact back_kind kind hk1 hk5 l0 l1 K hnext d (i + 1) (by omega) m (by omega)
    · obtain ⟨m, rfl⟩ : ∃ m, k = m + 1 + 1 := ⟨k - 2, by omega⟩
      rw [back_end kind i hk1 hk5 l0 l1 (by omega) m]
      exact hnext m (by omega)
theorem back_all (l0 : List S27) (l1 : List Int) : ∀ (d : Nat) (kind : Int), 1 ≤ kind → kind + d = 6 → ∀ k, 100 + 100 * d ≤ k → herbariumlaw2_CodeBack.l0 k kind l0 l1 = some true
  | 0, kind, h1, hd, k, hk => by
    obtain ⟨m, rfl⟩ : ∃ m, k = m + 1 := ⟨k - 1, by omega⟩
    rw [herbariumlaw2_CodeBack.l0, if_neg (by omega), within32, Option.bind_some, if_pos rfl, at_rounds herbariumlaw2_wakes.mono (show 40 ≤ m by omega) wakes2]
    rfl
  | d + 1, kind, h1, hd, k, hk => by
    obtain ⟨m, rfl⟩ : ∃ m, k = m + 1 := ⟨k - 1, by omega⟩
    rw [herbariumlaw2_CodeBack.l0, if_pos (by omega)]
    exact back_kind kind h1 (by omega) l0 l1 (100 + 100 * d) (fun k hk => back_all l0 l1 d (kind + 1) (by omega) (by omega) k hk) 5 0 (by omega) m (by omega)
end CodeB
theorem CodeBack : ∀ (l0 : List S27) (l1 : List Int), Op.GoodB l0 → Op.GoodN l1 → ∃ k, Q.herbariumlaw2_CodeBack.f k l0 l1 = some true := by
  intro l0 l1 g0 g1
  have hr : (l0.length : Int) < 9223372036854775807 := by have := g0.1; unfold reachBytes at this; omega
  obtain ⟨k, hk⟩ : ∃ k : Nat, 1000 + l0.length ≤ k := ⟨_, Nat.le_refl _⟩
  refine ⟨k, ?_⟩
  unfold herbariumlaw2_CodeBack.f
  rcases heavy_some l0 l1 hr k (by omega) with h | ⟨h, hn⟩
  · rw [h]; rfl
  · rw [h, Option.bind_some, if_neg (by decide)]
    exact CodeB.back_all l0 l1 5 1 (by omega) (by omega) k (by omega)
end Go.Proofs.Ytnpghcikhpglkaa.Pure
