/- What the row of GapsAll rests on, part 4 of 4: functions, contracts, plain laws. -/
import Derived.Test.YtnpghcikhpglkaaCGapsAll2
namespace Go.Proofs.Ytnpghcikhpglkaa.Pb
open Go.RowKit Go.Proofs.YtnpghcikhpglkaaW.PrintWords Go.Proofs.YtnpghcikhpglkaaW.PrintLast Go.Proofs.YtnpghcikhpglkaaW.PrintMore Go.Proofs.Ytnpghcikhpglkaa.Hand Go.Proofs.Ytnpghcikhpglkaa.Pu Go.Proofs.Ytnpghcikhpglkaa.Q
set_option linter.unusedVariables false
set_option linter.unusedSimpArgs false

theorem unaryL_bits (n : Int) : IsBits (unaryL n) := by unfold unaryL; exact IsBits.append (putL_bits _ _) (putL_bits _ _)
theorem gammaL_bits (n : Int) : IsBits (gammaL n) := by unfold gammaL; exact IsBits.append (putL_bits _ _) (putL_bits _ _)
theorem deltaL_bits (n : Int) : IsBits (deltaL n) := by unfold deltaL; exact IsBits.append (gammaL_bits _) (putL_bits _ _)
theorem zetaL_bits (kk n : Int) : IsBits (zetaL kk n) := by
  unfold zetaL
  split
  · refine IsBits.append (unaryL_bits _) ?_
    split <;> exact putL_bits _ _
  · exact IsBits.nil
theorem layL_bits (kind n : Int) : IsBits (layL kind n) := by
  unfold layL
  split
  · exact unaryL_bits n
  split
  · exact gammaL_bits n
  split
  · exact deltaL_bits n
  split <;> exact zetaL_bits _ _
theorem lg_mono (a b : Int) (h1 : 1 ≤ a) (h : a ≤ b) (h2 : b ≤ 1073741824) : lg a ≤ lg b := by
  obtain ⟨_, a0, _, a2, a3⟩ := lg_facts a h1 (by omega)
  obtain ⟨_, b0, _, b2, b3⟩ := lg_facts b (by omega) h2
  refine Int.not_lt.1 fun hc => ?_
  have hle : (lg b).toNat + 1 ≤ (lg a).toNat := by omega
  have hp := Nat.pow_le_pow_right (n := 2) (by decide) hle
  have hp' : ((2 ^ ((lg b).toNat + 1) : Nat) : Int) ≤ ((2 ^ (lg a).toNat : Nat) : Int) := by exact_mod_cast hp
  rw [Int.natCast_pow, Int.natCast_pow] at hp'
  have e2 : ((2 : Nat) : Int) = 2 := rfl
  rw [e2] at hp'
  omega
theorem gammaL_mono (a b : Int) (h1 : 1 ≤ a) (h : a ≤ b) (h2 : b ≤ 1073741824) : (gammaL a).length ≤ (gammaL b).length := by
  have := lg_mono a b h1 h h2
  rw [gammaL_length, gammaL_length]; omega
theorem deltaL_mono (a b : Int) (h1 : 1 ≤ a) (h : a ≤ b) (h2 : b ≤ 1073741824) : (deltaL a).length ≤ (deltaL b).length := by
  have := lg_mono a b h1 h h2
  obtain ⟨_, a0, a1, _⟩ := lg_facts a h1 (by omega)
  obtain ⟨_, b0, b1, _⟩ := lg_facts b (by omega) h2
  have := gammaL_mono (lg a + 1) (lg b + 1) (by omega) (by omega) (by omega)
  unfold deltaL
  simp only [List.length_append, putL_length]; omega
/-- A zeta code's parts. -/
def zetaIs (kk h : Nat) : Bool := code_zeta.f (kk : Int) (h : Int) == some (((2 ^ (h * kk) : Nat) : Int), ((2 ^ (h * kk + kk) : Nat) : Int) - ((2 ^ (h * kk) : Nat) : Int), ((h * kk + kk : Nat) : Int), ((2 ^ (h * kk) : Nat) : Int))
theorem zetaIs2 : ∀ h : Fin 16, zetaIs 2 h.val = true := by decide +kernel
theorem zetaIs3 : ∀ h : Fin 11, zetaIs 3 h.val = true := by decide +kernel
theorem zeta_is (kk h : Nat) (ho : zetaIs kk h = true) : code_zeta.f (kk : Int) (h : Int) = some ((2 : Int) ^ (h * kk), (2 : Int) ^ (h * kk + kk) - 2 ^ (h * kk), ((h * kk + kk : Nat) : Int), (2 : Int) ^ (h * kk)) := by
  have := eq_of_beq ho
  rw [this, Int.natCast_pow, Int.natCast_pow]
  rfl
theorem zetaL_parts (kk h : Nat) (n : Int) (hk : 1 ≤ kk) (hh : Int.tdiv (lg n) (kk : Int) = (h : Int)) (hz : zetaIs kk h = true) :
    zetaL (kk : Int) n = unaryL ((h : Int) + 1) ++ (if n - 2 ^ (h * kk) < 2 ^ (h * kk) then putL (h * kk + kk - 1) (n - 2 ^ (h * kk)) else putL (h * kk + kk) (n - 2 ^ (h * kk) + 2 ^ (h * kk))) := by
  have hze := zeta_is kk h hz
  have ek : ((h * kk + kk : Nat) : Int) - 1 = ((h * kk + kk - 1 : Nat) : Int) := by omega
  unfold zetaL
  rw [hh, hze]
  simp only
  rw [ek, Int.toNat_natCast, Int.toNat_natCast]
theorem zetaL_mono (kk : Nat) (top : Nat) (hk : 1 ≤ kk) (hz : ∀ h : Fin top, zetaIs kk h.val = true) (a b : Int) (h1 : 1 ≤ a) (h : a ≤ b) (h2 : b ≤ 1073741824) (ht : Int.tdiv (lg b) (kk : Int) < (top : Int)) : (zetaL (kk : Int) a).length ≤ (zetaL (kk : Int) b).length := by
  have hm := lg_mono a b h1 h h2
  obtain ⟨_, a0, a1, _⟩ := lg_facts a h1 (by omega)
  obtain ⟨_, b0, b1, _⟩ := lg_facts b (by omega) h2
  have hd : Int.tdiv (lg a) (kk : Int) ≤ Int.tdiv (lg b) (kk : Int) := by
    rw [Int.tdiv_eq_ediv_of_nonneg a0, Int.tdiv_eq_ediv_of_nonneg b0]
    exact Int.ediv_le_ediv (by omega) hm
  have hd0 : 0 ≤ Int.tdiv (lg a) (kk : Int) := Int.tdiv_nonneg a0 (by omega)
  obtain ⟨x, hx⟩ := Int.eq_ofNat_of_zero_le hd0
  obtain ⟨y, hy⟩ := Int.eq_ofNat_of_zero_le (Int.le_trans hd0 hd)
  have hxy : x ≤ y := by omega
  rw [zetaL_parts kk x a hk hx (hz ⟨x, by omega⟩), zetaL_parts kk y b hk hy (hz ⟨y, by omega⟩), List.length_append, List.length_append, unaryL_length _ (by omega), unaryL_length _ (by omega)]
  have hmul := Nat.mul_le_mul_right kk hxy
  by_cases he : x = y
  · subst he
    generalize (2 : Int) ^ (x * kk) = P
    split <;> split <;> simp only [putL_length] <;> omega
  · generalize (2 : Int) ^ (x * kk) = P
    generalize (2 : Int) ^ (y * kk) = P2
    split <;> split <;> simp only [putL_length] <;> omega
theorem layL_mono (kind a b : Int) (hk1 : 1 ≤ kind) (hk5 : kind ≤ 5) (h1 : 1 ≤ a) (h : a ≤ b) (h2 : b ≤ 1073741824) : (layL kind a).length ≤ (layL kind b).length := by
  obtain ⟨_, b0, b1, _⟩ := lg_facts b (by omega) h2
  have hkk : kind = 1 ∨ kind = 2 ∨ kind = 3 ∨ kind = 4 ∨ kind = 5 := by omega
  unfold layL
  rcases hkk with rfl | rfl | rfl | rfl | rfl
  · rw [if_pos rfl, if_pos rfl, unaryL_length _ h1, unaryL_length _ (by omega)]; omega
  · rw [if_neg (by decide), if_pos rfl, if_neg (by decide), if_pos rfl]; exact gammaL_mono a b h1 h h2
  · rw [if_neg (by decide), if_neg (by decide), if_pos rfl, if_neg (by decide), if_neg (by decide), if_pos rfl]; exact deltaL_mono a b h1 h h2
  · rw [if_neg (by decide), if_neg (by decide), if_neg (by decide), if_pos rfl, if_neg (by decide), if_neg (by decide), if_neg (by decide), if_pos rfl]
    exact zetaL_mono 2 16 (by omega) zetaIs2 a b h1 h h2 (by rw [Int.tdiv_eq_ediv_of_nonneg b0]; omega)
  · rw [if_neg (by decide), if_neg (by decide), if_neg (by decide), if_neg (by decide), if_neg (by decide), if_neg (by decide), if_neg (by decide), if_neg (by decide)]
    exact zetaL_mono 3 11 (by omega) zetaIs3 a b h1 h h2 (by rw [Int.tdiv_eq_ediv_of_nonneg b0]; omega)
/-- How long a code can be. -/
def lenOk (kind : Nat) : Bool := Nat.ble (layL (kind : Int) 1073741824).length 70
theorem len_all : ∀ k : Fin 4, lenOk (k.val + 2) = true := by decide +kernel
theorem layL_short (kind n : Int) (hk1 : 2 ≤ kind) (hk5 : kind ≤ 5) (h1 : 1 ≤ n) (h2 : n ≤ 1073741824) : (layL kind n).length ≤ 70 := by
  have hm := layL_mono kind n 1073741824 (by omega) hk5 h1 h2 (by omega)
  obtain ⟨k, hk⟩ := Int.eq_ofNat_of_zero_le (show 0 ≤ kind - 2 by omega)
  have ha := len_all ⟨k, by omega⟩
  unfold lenOk at ha
  simp only [Nat.ble_eq] at ha
  rw [show ((k + 2 : Nat) : Int) = kind by omega] at ha
  omega
theorem layL_len (kind n : Int) (hk1 : 1 ≤ kind) (hk5 : kind ≤ 5) (h1 : 1 ≤ n) (h2 : n ≤ 1073741824) (h3 : kind = 1 → n ≤ 1000) : (layL kind n).length ≤ 1000 := by
  by_cases hk : kind = 1
  · subst hk
    have := h3 rfl
    unfold layL
    rw [if_pos rfl, unaryL_length _ h1]; omega
  · have := layL_short kind n (by omega) hk5 h1 h2; omega
theorem read_good (kind : Int) (l : List Int) (a c : Nat) (n : Int) (hr : ReadL kind (l.drop a) = some (n, c)) (hn : n ≤ 1073741824) : readR kind l a = (n, ((a + c : Nat) : Int), true) := by
  unfold readR
  rw [hr]
  simp only
  rw [if_neg (by omega)]
theorem take_good (kind : Int) (l : List Int) (a c : Nat) (n : Int) (hk1 : 1 ≤ kind) (hk5 : kind ≤ 5) (ha : a ≤ l.length) (hr : ReadL kind (l.drop a) = some (n, c)) (hn : n ≤ 1073741824) : takeR kind l (a : Int) = (n, ((a + c : Nat) : Int), 0) := by
  unfold takeR
  rw [if_pos ⟨⟨hk1, hk5⟩, by omega, by omega⟩, Int.toNat_natCast, read_good kind l a c n hr hn]
  rfl
theorem take_bad (kind : Int) (l : List Int) (a : Nat) (hk1 : 1 ≤ kind) (hk5 : kind ≤ 5) (ha : a ≤ l.length) (hr : ReadL kind (l.drop a) = none) : takeR kind l (a : Int) = (0, 0, 9) := by
  have e : readR kind l a = (0, 0, false) := by unfold readR; rw [hr]
  unfold takeR
  rw [if_pos ⟨⟨hk1, hk5⟩, by omega, by omega⟩, Int.toNat_natCast, e]
  rfl
end Go.Proofs.Ytnpghcikhpglkaa.Pb
namespace Go.Proofs.Ytnpghcikhpglkaa.Pb
open Go.RowKit Go.Proofs.YtnpghcikhpglkaaW.PrintWords Go.Proofs.YtnpghcikhpglkaaW.PrintLast Go.Proofs.YtnpghcikhpglkaaW.PrintMore Go.Proofs.Ytnpghcikhpglkaa.Hand Go.Proofs.Ytnpghcikhpglkaa.Pu Go.Proofs.Ytnpghcikhpglkaa.Q
set_option linter.unusedVariables false
set_option linter.unusedSimpArgs false

theorem pow_le60 (w : Nat) (hw : w ≤ 60) : (0 : Int) < 2 ^ w ∧ (2 : Int) ^ w ≤ 1152921504606846976 := by
  refine ⟨Int.pow_pos (by decide), ?_⟩
  have := Nat.pow_le_pow_right (n := 2) (by decide) hw
  have h2 : ((2 ^ w : Nat) : Int) ≤ ((2 ^ 60 : Nat) : Int) := by exact_mod_cast this
  rw [Int.natCast_pow] at h2
  have e : ((2 ^ 60 : Nat) : Int) = 1152921504606846976 := by decide
  rw [e] at h2
  exact h2
theorem pows (kk h : Nat) (hkk : kk = 2 ∨ kk = 3) (hh : h ≤ 15) : h * kk ≤ 45 ∧ (0 : Int) < 2 ^ (h * kk) ∧ (2 : Int) ^ (h * kk) ≤ 1152921504606846976 ∧ (2 : Int) ^ (h * kk + kk) ≤ 1152921504606846976 ∧ (2 : Int) ^ (h * kk + kk) = 2 * 2 ^ (h * kk + kk - 1) ∧ 2 * (2 : Int) ^ (h * kk) ≤ 2 ^ (h * kk + kk - 1) := by
  have e0 : h * kk ≤ 45 := by rcases hkk with rfl | rfl <;> omega
  have a := pow_le60 (h * kk) (by omega)
  have b := pow_le60 (h * kk + kk) (by omega)
  refine ⟨e0, a.1, a.2, b.2, ?_, ?_⟩
  · have : h * kk + kk = (h * kk + kk - 1) + 1 := by omega
    conv => lhs; rw [this]
    rw [Int.pow_succ, Int.mul_comm]
  · rcases hkk with rfl | rfl
    · have : h * 2 + 2 - 1 = h * 2 + 1 := by omega
      rw [this, Int.pow_succ]; omega
    · have : h * 3 + 3 - 1 = h * 3 + 1 + 1 := by omega
      have hp : (0 : Int) < 2 ^ (h * 3) := Int.pow_pos (by decide)
      rw [this, Int.pow_succ, Int.pow_succ]; omega
theorem zetaR_eq (kk z : Nat) (most : Int) (r : List Int) (hk : 1 ≤ kk) (hz : zerosL r = (z : Int)) (hm : (z : Int) ≤ most - 1) (his : zetaIs kk z = true) (s : Nat) (hs : z * kk + kk = s + 1) (P : Int) (hP : (2 : Int) ^ (z * kk) = P) :
    zetaR (kk : Int) most r = if z + 1 + s ≤ r.length then
      (if numL ((r.drop (z + 1)).take s) < P then some (P + numL ((r.drop (z + 1)).take s), z + 1 + s)
      else if z + 1 + s + 1 ≤ r.length then some (P + (numL ((r.drop (z + 1)).take s) * 2 + numL ((r.drop (z + 1 + s)).take 1) - P), z + 1 + s + 1) else none)
    else none := by
  have hze := zeta_is kk z his
  have hu : unaryR most r = some ((z : Int) + 1, z + 1) := by
    unfold unaryR
    rw [hz, if_pos ⟨by omega, hm⟩, Int.toNat_natCast]
  unfold zetaR
  rw [hu, Option.bind_some]
  simp only
  rw [show (z : Int) + 1 - 1 = (z : Int) by omega, hze, Option.bind_some]
  simp only
  rw [hP, hs, show (((s + 1 : Nat) : Int) - 1).toNat = s by omega]
end Go.Proofs.Ytnpghcikhpglkaa.Pb
namespace Go.Proofs.Ytnpghcikhpglkaa.Pb
open Go.RowKit Go.Proofs.YtnpghcikhpglkaaW.PrintWords Go.Proofs.YtnpghcikhpglkaaW.PrintLast Go.Proofs.YtnpghcikhpglkaaW.PrintMore Go.Proofs.Ytnpghcikhpglkaa.Hand Go.Proofs.Ytnpghcikhpglkaa.Pu Go.Proofs.Ytnpghcikhpglkaa.Q
set_option linter.unusedVariables false
set_option linter.unusedSimpArgs false

theorem zerosL_reps (t : Nat) : zerosL (List.replicate t 0) = -1 := zerosL_none _ (fun x hx => (List.mem_replicate.1 hx).2)
theorem take_reps (g t : Nat) (r : List Int) (h : t ≤ g) : (List.replicate g 0 ++ r).take t = List.replicate t (0 : Int) := by
  rw [List.take_append_of_le_length (by simp; omega), List.take_replicate, Nat.min_eq_left h]
theorem unary_cut (most n : Int) (h1 : 1 ≤ n) (t : Nat) (ht : t < (unaryL n).length) : unaryR most ((unaryL n).take t) = none := by
  obtain ⟨m, hm⟩ := Int.eq_ofNat_of_zero_le (show 0 ≤ n - 1 by omega)
  rw [unaryL_length n h1] at ht
  rw [unaryL_eq, hm, Int.toNat_natCast, take_reps m t _ (by omega)]
  unfold unaryR
  rw [zerosL_reps, if_neg (by omega)]
theorem gammaL_shape (n : Int) (h1 : 1 ≤ n) (h2 : n ≤ 1073741824) : ∃ g : Nat, lg n = (g : Int) ∧ g ≤ 30 ∧ gammaL n = List.replicate g 0 ++ 1 :: putL g n ∧ (gammaL n).length = 2 * g + 1 := by
  obtain ⟨_, g0, g1, g2, g3⟩ := lg_facts n h1 h2
  have hlen := gammaL_length n
  obtain ⟨g, hg⟩ := Int.eq_ofNat_of_zero_le g0
  rw [hg, Int.toNat_natCast] at g2 g3
  rw [hg, Int.toNat_natCast, show ((g : Int) + 1).toNat = g + 1 by omega] at hlen
  have hp : (0 : Int) < 2 ^ g := Int.pow_pos (by decide)
  have hs : (2 : Int) ^ (g + 1) = 2 ^ g * 2 := Int.pow_succ 2 g
  have hd : n / 2 ^ g = 1 := by
    rw [Int.ediv_eq_iff_of_pos hp]
    omega
  have e1 : putL (g + 1) n = 1 :: putL g n := by rw [putL, hd]; rfl
  refine ⟨g, hg, by omega, ?_, by omega⟩
  unfold gammaL
  rw [hg, putL_zero, Int.toNat_natCast, show ((g : Int) + 1).toNat = g + 1 by omega, e1]
theorem gamma_cut (n : Int) (h1 : 1 ≤ n) (h2 : n ≤ 1073741824) (t : Nat) (ht : t < (gammaL n).length) : gammaR ((gammaL n).take t) = none := by
  obtain ⟨g, hg, g30, e, el⟩ := gammaL_shape n h1 h2
  rw [el] at ht
  rw [e]
  unfold gammaR
  by_cases h : t ≤ g
  · rw [take_reps g t _ h, zerosL_reps, if_neg (by omega)]
  · have e2 : (List.replicate g 0 ++ 1 :: putL g n).take t = List.replicate g (0 : Int) ++ 1 :: (putL g n).take (t - g - 1) := by
      rw [List.take_append, List.length_replicate, List.take_of_length_le (by simp; omega), show t - g = (t - g - 1) + 1 by omega, List.take_succ_cons, Nat.add_sub_cancel]
    rw [e2, zerosL_rep, Int.toNat_natCast, if_neg]
    intro h3
    have h4 := h3.2.2
    simp only [List.length_append, List.length_replicate, List.length_cons, List.length_take, putL_length] at h4
    omega
theorem delta_cut (n : Int) (h1 : 1 ≤ n) (h2 : n ≤ 1073741824) (t : Nat) (ht : t < (deltaL n).length) : deltaR ((deltaL n).take t) = none := by
  obtain ⟨_, g0, g1, g2, g3⟩ := lg_facts n h1 h2
  obtain ⟨g, hg⟩ := Int.eq_ofNat_of_zero_le g0
  have e : deltaL n = gammaL ((g : Int) + 1) ++ putL g n := by unfold deltaL; rw [hg, Int.toNat_natCast]
  rw [e, List.length_append, putL_length] at ht
  rw [e]
  unfold deltaR
  by_cases h : t < (gammaL ((g : Int) + 1)).length
  · rw [List.take_append_of_le_length (by omega), gamma_cut _ (by omega) (by omega) t h]; rfl
  · rw [List.take_append, List.take_of_length_le (l := gammaL ((g : Int) + 1)) (by omega), gamma_read ((g : Int) + 1) (by omega) (by omega), Option.bind_some]
    simp only
    rw [show (g : Int) + 1 - 1 = (g : Int) by omega, Int.toNat_natCast, if_neg]
    intro h3
    have h4 := h3.2
    simp only [List.length_append, List.length_take, putL_length] at h4
    omega
theorem zeta_cut (kk h : Nat) (most n : Int) (hkk : kk = 2 ∨ kk = 3) (h1 : 1 ≤ n) (h2 : n ≤ 1073741824) (hh : Int.tdiv (lg n) (kk : Int) = (h : Int)) (hmost : (h : Int) ≤ most - 1) (h15 : h ≤ 15) (his : zetaIs kk h = true) (hlo : (2 : Int) ^ (h * kk) ≤ n) (hhi : n < (2 : Int) ^ (h * kk + kk)) (t : Nat) (ht : t < (zetaL (kk : Int) n).length) :
    zetaR (kk : Int) most ((zetaL (kk : Int) n).take t) = none := by
  obtain ⟨p0, p1, p2, p3, p4, p5⟩ := pows kk h hkk h15
  have hz := zetaL_parts kk h n (by omega) hh his
  have hul := unaryL_length ((h : Int) + 1) (by omega)
  obtain ⟨s, hs⟩ : ∃ s, h * kk + kk = s + 1 := ⟨h * kk + kk - 1, by omega⟩
  rw [hs, Nat.add_sub_cancel] at hz p4 p5
  rw [hs] at hhi p3
  generalize hP : (2 : Int) ^ (h * kk) = P at *
  rw [hz]
  rw [hz] at ht
  by_cases hc : t < h + 1
  · rw [List.take_append_of_le_length (by omega)]
    unfold zetaR
    rw [unary_cut most _ (by omega) t (by omega)]; rfl
  · rw [List.take_append, List.take_of_length_le (l := unaryL ((h : Int) + 1)) (by omega)]
    have hzz : ∀ X : List Int, zerosL (unaryL ((h : Int) + 1) ++ X) = (h : Int) := by
      intro X
      rw [unaryL_eq, List.append_assoc, List.singleton_append, zerosL_rep]; omega
    rw [zetaR_eq kk h most _ (by omega) (hzz _) hmost his s hs P hP]
    have hul2 : (unaryL ((h : Int) + 1)).length = h + 1 := by omega
    have hd : ∀ X : List Int, (unaryL ((h : Int) + 1) ++ X).drop (h + 1) = X := by
      intro X; rw [← hul2, List.drop_left]
    rw [hd, hul2, List.length_append, hul2]
    rw [List.length_append, hul2] at ht
    by_cases hx : n - P < P
    · rw [if_pos hx] at ht ⊢
      rw [putL_length] at ht
      rw [if_neg (by rw [List.length_take, putL_length]; omega)]
    · rw [if_neg hx] at ht ⊢
      rw [putL_length] at ht
      by_cases h3 : t < h + 1 + s
      · rw [if_neg (by rw [List.length_take, putL_length]; omega)]
      · obtain rfl : t = h + 1 + s := by omega
        have hv : (putL (s + 1) (n - P + P)).take (h + 1 + s - (h + 1)) = putL s ((n - P + P) / 2) := by
          rw [putL_last, show h + 1 + s - (h + 1) = s by omega, List.take_append_of_le_length (by rw [putL_length]; omega), List.take_of_length_le (by rw [putL_length]; omega)]
        rw [hv, List.take_of_length_le (by rw [putL_length]; omega), putL_length, if_pos (by omega), numL_putL_lt s _ (by omega) (by omega), if_neg (by omega), if_neg (by omega)]
theorem lay_cut (kind n : Int) (hk1 : 1 ≤ kind) (hk5 : kind ≤ 5) (h1 : 1 ≤ n) (h2 : n ≤ 1073741824) (t : Nat) (ht : t < (layL kind n).length) : ReadL kind ((layL kind n).take t) = none := by
  obtain ⟨_, g0, g1, _, _⟩ := lg_facts n h1 h2
  have hkk : kind = 1 ∨ kind = 2 ∨ kind = 3 ∨ kind = 4 ∨ kind = 5 := by omega
  unfold layL at ht ⊢
  unfold ReadL
  rcases hkk with rfl | rfl | rfl | rfl | rfl
  · rw [if_pos rfl] at ht ⊢; rw [if_pos rfl]; exact unary_cut 1000 n h1 t ht
  · rw [if_neg (by decide), if_pos rfl] at ht ⊢; rw [if_neg (by decide), if_pos rfl]; exact gamma_cut n h1 h2 t ht
  · rw [if_neg (by decide), if_neg (by decide), if_pos rfl] at ht ⊢; rw [if_neg (by decide), if_neg (by decide), if_pos rfl]; exact delta_cut n h1 h2 t ht
  · rw [if_neg (by decide), if_neg (by decide), if_neg (by decide), if_pos rfl] at ht ⊢
    rw [if_neg (by decide), if_neg (by decide), if_neg (by decide), if_pos rfl]
    obtain ⟨h, hh⟩ := Int.eq_ofNat_of_zero_le (show 0 ≤ lg n / 2 by omega)
    have hlo := low_le (kk := 2) h1 h2 hh.symm (by omega)
    have hhi := lg_high (kk := 2) h1 h2 hh.symm (by omega)
    rw [Int.natCast_pow] at hlo hhi
    exact zeta_cut 2 h 16 n (.inl rfl) h1 h2 (by rw [Int.tdiv_eq_ediv_of_nonneg g0]; exact hh) (by omega) (by omega) (zetaIs2 ⟨h, by omega⟩) hlo hhi t ht
  · rw [if_neg (by decide), if_neg (by decide), if_neg (by decide), if_neg (by decide)] at ht ⊢
    rw [if_neg (by decide), if_neg (by decide), if_neg (by decide), if_neg (by decide)]
    obtain ⟨h, hh⟩ := Int.eq_ofNat_of_zero_le (show 0 ≤ lg n / 3 by omega)
    have hlo := low_le (kk := 3) h1 h2 hh.symm (by omega)
    have hhi := lg_high (kk := 3) h1 h2 hh.symm (by omega)
    rw [Int.natCast_pow] at hlo hhi
    exact zeta_cut 3 h 11 n (.inr rfl) h1 h2 (by rw [Int.tdiv_eq_ediv_of_nonneg g0]; exact hh) (by omega) (by omega) (zetaIs3 ⟨h, by omega⟩) hlo hhi t ht
end Go.Proofs.Ytnpghcikhpglkaa.Pb
namespace Go.Proofs.Ytnpghcikhpglkaa.Pb
open Go.RowKit Go.Proofs.YtnpghcikhpglkaaW.PrintWords Go.Proofs.YtnpghcikhpglkaaW.PrintLast Go.Proofs.YtnpghcikhpglkaaW.PrintMore Go.Proofs.Ytnpghcikhpglkaa.Hand Go.Proofs.Ytnpghcikhpglkaa.Pu Go.Proofs.Ytnpghcikhpglkaa.Q
set_option linter.unusedVariables false
set_option linter.unusedSimpArgs false

theorem gpieces_bits (v : Int) (l : List Int) : ∀ c, IsBits (gpieces v l c)
  | 0 => IsBits.nil
  | c + 1 => IsBits.append (gpieces_bits v l c) (gammaL_bits _)
theorem gapsL_bits (v : Int) (l : List Int) : IsBits (gapsL v l) := IsBits.append (gammaL_bits _) (gpieces_bits v l _)
theorem gapsL_len {v : Int} {l : List Int} (h : GMay l) (hv0 : 0 ≤ v) (hv : v < 16) : (gapsL v l).length ≤ 1100 := by
  have h1 := gpieces_len h hv0 hv l.length (Nat.le_refl _)
  have h2 := gmay_len h
  have h3 := gammaL_le (n := (l.length : Int) + 1) (by omega) (by omega)
  unfold gapsL
  rw [List.length_append]; omega
theorem gpieces_split (v : Int) (l : List Int) (i : Nat) : ∀ n, i < n → ∃ t, gpieces v l n = gpieces v l i ++ (gammaL (gnum v l i) ++ t)
  | 0, h => by omega
  | n + 1, h => by
    by_cases he : i = n
    · subst he; exact ⟨[], by simp [gpieces]⟩
    · obtain ⟨t, ht⟩ := gpieces_split v l i n (by omega)
      exact ⟨t ++ gammaL (gnum v l n), by rw [gpieces, ht]; simp⟩
/-- Where an element's bits begin, behind so many bits. -/
def gpos (a : Nat) (v : Int) (l : List Int) (i : Nat) : Nat := a + (gammaL ((l.length : Int) + 1)).length + (gpieces v l i).length
def glast (v : Int) (l : List Int) (i : Nat) : Int := if i = 0 then v else l.getD (i - 1) 0
theorem gpos_succ (a : Nat) (v : Int) (l : List Int) (i : Nat) : gpos a v l (i + 1) = gpos a v l i + (gammaL (gnum v l i)).length := by
  unfold gpos; simp only [gpieces, List.length_append]; omega
theorem unfoldG_eq (x : Int) (h0 : -1000 ≤ x) (h1 : x ≤ 1000) : code_Unfold.f (foldG x) = some x := by
  unfold code_Unfold.f foldG
  by_cases h : x < 0
  · rw [if_pos h, Int.tmod_eq_emod_of_nonneg (by omega), if_pos (by omega), wrap_in (-2 * x - 1 + 1) (by omega) (by omega), wrap_in (-(-2 * x - 1 + 1)) (by omega) (by omega), show -(-2 * x - 1 + 1) = 2 * x by omega, Int.mul_tdiv_cancel_left _ (by decide), wrap_in _ (by omega) (by omega)]
  · rw [if_neg h, Int.tmod_eq_emod_of_nonneg (by omega), if_neg (by omega), Int.mul_tdiv_cancel_left _ (by decide), wrap_in _ (by omega) (by omega)]
/-- An element's bits stand there. -/
def GAt (b : List Int) (a : Nat) (v : Int) (l : List Int) (i : Nat) : Prop := gpos a v l i ≤ b.length ∧ ReadL 2 (b.drop (gpos a v l i)) = some (gnum v l i, (gammaL (gnum v l i)).length)
theorem cread_good (b : List Int) (hb : IsBits b) (hlen : b.length ≤ 6000) (p c : Nat) (n : Int) (hp : p ≤ b.length) (hr : ReadL 2 (b.drop p) = some (n, c)) (hn : n ≤ 1073741824) : code_Read.f (packS b) (b.length : Int) (p : Int) 2 = some (n, ((p + c : Nat) : Int), true) := by
  rw [read_eq b hb hlen p hp 2 (by omega) (by omega), read_good 2 b p c n hr hn]
theorem cread_bad (b : List Int) (hb : IsBits b) (hlen : b.length ≤ 6000) (p : Nat) (hp : p ≤ b.length) (hr : ReadL 2 (b.drop p) = none) : code_Read.f (packS b) (b.length : Int) (p : Int) 2 = some (0, 0, false) := by
  rw [read_eq b hb hlen p hp 2 (by omega) (by omega)]
  unfold readR; rw [hr]
theorem gread_step (b : List Int) (hb : IsBits b) (hlen : b.length ≤ 6000) (a : Nat) (v : Int) (l : List Int) (hl : GMay l) (hv0 : 0 ≤ v) (hv : v < 16) (i : Nat) (hi : i < l.length) (hat : GAt b a v l i) (k : Nat) :
    gaps_Read.l0 (k + 1) (l.take i) (gpos a v l i : Int) (glast v l i) (l.length : Int) (i : Int) (packS b) (b.length : Int) =
    gaps_Read.l0 k (l.take (i + 1)) (gpos a v l (i + 1) : Int) (glast v l (i + 1)) (l.length : Int) ((i + 1 : Nat) : Int) (packS b) (b.length : Int) := by
  have hg := gnum_range hl hv0 hv i hi
  have h16 := gmay_len hl
  have hx := hl.1 i hi
  have hc := cread_good b hb hlen _ _ _ hat.1 hat.2 (by omega)
  have hsn : l.take i ++ [l.getD i 0] = l.take (i + 1) := by
    rw [List.take_succ_eq_append_getElem hi, List.getD_eq_getElem?_getD, List.getElem?_eq_getElem hi]; rfl
  have htl : (l.take i).length < 17592186044416 := by rw [List.length_take]; omega
  have hnext : glast v l (i + 1) = l.getD i 0 := by unfold glast; rw [if_neg (by omega), Nat.add_sub_cancel]
  rw [gaps_Read.l0, if_pos (by omega), hc, Option.bind_some]
  simp only
  rw [if_pos trivial, wrap_in ((i : Int) + 1) (by omega) (by omega), gpos_succ, hnext]
  by_cases h0 : i = 0
  · subst h0
    have hgn : gnum v l 0 = foldG (l.getD 0 0 - v) + 1 := by unfold gnum; rw [if_pos rfl]
    have hgl : glast v l 0 = v := by unfold glast; rw [if_pos rfl]
    have hfr := foldG_range (l.getD 0 0 - v) (by omega) (by omega)
    rw [if_pos (by omega), hgn, hgl, wrap_in (foldG (l.getD 0 0 - v) + 1 - 1) (by omega) (by omega), Int.add_sub_cancel, unfoldG_eq _ (by omega) (by omega), Option.bind_some, show v + (l.getD 0 0 - v) = l.getD 0 0 by omega, wrap_in (l.getD 0 0) (by omega) (by omega), gis_eq, decide_eq_true hx, Option.bind_some, if_pos rfl, if_pos htl, hsn]
    rfl
  · have hgn : gnum v l i = l.getD i 0 - l.getD (i - 1) 0 := by unfold gnum; rw [if_neg h0]
    have hgl : glast v l i = l.getD (i - 1) 0 := by unfold glast; rw [if_neg h0]
    rw [if_neg (by omega), hgn, hgl, show l.getD (i - 1) 0 + (l.getD i 0 - l.getD (i - 1) 0) = l.getD i 0 by omega, wrap_in (l.getD i 0) (by omega) (by omega), gis_eq, decide_eq_true hx, Option.bind_some, if_pos rfl, if_pos htl, hsn]
    rfl
theorem gread_run (b : List Int) (hb : IsBits b) (hlen : b.length ≤ 6000) (a : Nat) (v : Int) (l : List Int) (hl : GMay l) (hv0 : 0 ≤ v) (hv : v < 16) (j : Nat) (hj : j ≤ l.length) (hat : ∀ i, i < j → GAt b a v l i) : ∀ (d i : Nat), i + d = j → ∀ k,
    gaps_Read.l0 (k + d) (l.take i) (gpos a v l i : Int) (glast v l i) (l.length : Int) (i : Int) (packS b) (b.length : Int) =
    gaps_Read.l0 k (l.take j) (gpos a v l j : Int) (glast v l j) (l.length : Int) (j : Int) (packS b) (b.length : Int)
  | 0, i, hi, k => by obtain rfl : i = j := by omega
                      rfl
  | d + 1, i, hi, k => by
    rw [show k + (d + 1) = k + d + 1 by omega, gread_step b hb hlen a v l hl hv0 hv i (by omega) (hat i (by omega)) (k + d)]
    exact gread_run b hb hlen a v l hl hv0 hv j hj hat d (i + 1) (by omega) k
theorem gread_head (b : List Int) (hb : IsBits b) (hlen : b.length ≤ 6000) (a : Nat) (ha : a ≤ b.length) (v : Int) (l : List Int) (hl : GMay l) (hh : ReadL 2 (b.drop a) = some ((l.length : Int) + 1, (gammaL ((l.length : Int) + 1)).length)) (k : Nat) :
    gaps_Read.f (k + 1) (packS b) (b.length : Int) (a : Int) v = gaps_Read.l0 k [] (gpos a v l 0 : Int) v (l.length : Int) 0 (packS b) (b.length : Int) := by
  have h16 := gmay_len hl
  unfold gaps_Read.f
  rw [cread_good b hb hlen a _ _ ha hh (by omega), Option.bind_some]
  simp only
  rw [if_pos trivial, decide_eq_false (by omega), gaps_Read.j0, if_neg (by decide), Int.add_sub_cancel, wrap_in (l.length : Int) (by omega) (by omega)]
  rfl
theorem gread_all (b : List Int) (hb : IsBits b) (hlen : b.length ≤ 6000) (a : Nat) (ha : a ≤ b.length) (v : Int) (l : List Int) (hl : GMay l) (hv0 : 0 ≤ v) (hv : v < 16) (hh : ReadL 2 (b.drop a) = some ((l.length : Int) + 1, (gammaL ((l.length : Int) + 1)).length))
    (hat : ∀ i, i < l.length → GAt b a v l i) (k : Nat) (hk : 30 ≤ k) : gaps_Read.f k (packS b) (b.length : Int) (a : Int) v = some (l, (gpos a v l l.length : Int), true) := by
  have h16 := gmay_len hl
  obtain ⟨m, rfl⟩ : ∃ m, k = m + 1 + l.length + 1 := ⟨k - 2 - l.length, by omega⟩
  rw [gread_head b hb hlen a ha v l hl hh]
  have h := gread_run b hb hlen a v l hl hv0 hv l.length (Nat.le_refl _) hat l.length 0 (by omega) (m + 1)
  have hg : glast v l 0 = v := by unfold glast; rw [if_pos rfl]
  rw [List.take_zero, hg] at h
  refine h.trans ?_
  rw [gaps_Read.l0, if_neg (by omega), List.take_of_length_le (Nat.le_refl _)]
theorem gread_fail (b : List Int) (hb : IsBits b) (hlen : b.length ≤ 6000) (a : Nat) (ha : a ≤ b.length) (v : Int) (l : List Int) (hl : GMay l) (hv0 : 0 ≤ v) (hv : v < 16) (hh : ReadL 2 (b.drop a) = some ((l.length : Int) + 1, (gammaL ((l.length : Int) + 1)).length))
    (j : Nat) (hj : j < l.length) (hat : ∀ i, i < j → GAt b a v l i) (hp : gpos a v l j ≤ b.length) (hr : ReadL 2 (b.drop (gpos a v l j)) = none) (k : Nat) (hk : 30 ≤ k) : gaps_Read.f k (packS b) (b.length : Int) (a : Int) v = some ([], 0, false) := by
  have h16 := gmay_len hl
  obtain ⟨m, rfl⟩ : ∃ m, k = m + 1 + j + 1 := ⟨k - 2 - j, by omega⟩
  rw [gread_head b hb hlen a ha v l hl hh]
  have h := gread_run b hb hlen a v l hl hv0 hv j (by omega) hat j 0 (by omega) (m + 1)
  have hg : glast v l 0 = v := by unfold glast; rw [if_pos rfl]
  rw [List.take_zero, hg] at h
  refine h.trans ?_
  rw [gaps_Read.l0, if_pos (by omega), cread_bad b hb hlen _ hp hr, Option.bind_some, if_neg (by decide)]
theorem gread_nohead (b : List Int) (hb : IsBits b) (hlen : b.length ≤ 6000) (a : Nat) (ha : a ≤ b.length) (v : Int) (hr : ReadL 2 (b.drop a) = none) (k : Nat) (hk : 1 ≤ k) : gaps_Read.f k (packS b) (b.length : Int) (a : Int) v = some ([], 0, false) := by
  obtain ⟨m, rfl⟩ : ∃ m, k = m + 1 := ⟨k - 1, by omega⟩
  unfold gaps_Read.f
  rw [cread_bad b hb hlen a ha hr, Option.bind_some, if_neg (by decide), gaps_Read.j0, if_pos rfl]
theorem gtake_read (b : List Int) (hb : IsBits b) (hlen : b.length ≤ 6000) (a : Nat) (ha : a ≤ b.length) (v : Int) (hv0 : 0 ≤ v) (hv : v < 16) (k : Nat) :
    gaps_Take.f (k + 1) (packS b) (b.length : Int) (a : Int) v = (gaps_Read.f k (packS b) (b.length : Int) (a : Int) v).bind fun r => if r.2.2 = true then some (r.1, r.2.1, 0) else some ([], 0, 9) := by
  unfold gaps_Take.f
  rw [may_eq, decide_eq_true (may_packS b hb hlen), Option.bind_some, if_pos rfl, gis_eq, decide_eq_true ⟨hv0, hv⟩, Option.bind_some, if_pos rfl, if_neg (by omega), decide_eq_false (by omega), gaps_Take.j0, if_neg (by decide)]
theorem read_gamma (n : Int) (h1 : 1 ≤ n) (h2 : n ≤ 1073741824) (r : List Int) : ReadL 2 (gammaL n ++ r) = some (n, (gammaL n).length) := by
  have h := read_lay 2 n (by omega) (by omega) h1 h2 (by omega) r
  have e : layL 2 n = gammaL n := by unfold layL; rw [if_neg (by decide), if_pos rfl]
  rw [e] at h; exact h
theorem cut_gamma (n : Int) (h1 : 1 ≤ n) (h2 : n ≤ 1073741824) (t : Nat) (ht : t < (gammaL n).length) : ReadL 2 ((gammaL n).take t) = none := by
  have e : layL 2 n = gammaL n := by unfold layL; rw [if_neg (by decide), if_pos rfl]
  have h := lay_cut 2 n (by omega) (by omega) h1 h2 t (by rw [e]; exact ht)
  rw [e] at h; exact h
theorem at_whole (p r : List Int) (v : Int) (l : List Int) (hl : GMay l) (hv0 : 0 ≤ v) (hv : v < 16) (i : Nat) (hi : i < l.length) : GAt (p ++ gapsL v l ++ r) p.length v l i := by
  have hg := gnum_range hl hv0 hv i hi
  obtain ⟨t, ht⟩ := gpieces_split v l i l.length hi
  have e : p ++ gapsL v l ++ r = (p ++ gammaL ((l.length : Int) + 1) ++ gpieces v l i) ++ (gammaL (gnum v l i) ++ (t ++ r)) := by unfold gapsL; rw [ht]; simp
  have el : (p ++ gammaL ((l.length : Int) + 1) ++ gpieces v l i).length = gpos p.length v l i := by unfold gpos; simp only [List.length_append]
  refine ⟨?_, ?_⟩
  · rw [e, List.length_append, el]; omega
  · rw [e, ← el, List.drop_left]; exact read_gamma _ hg.1 (by omega) _
/-- A list that was put is taken. -/
theorem gtake_whole (p r : List Int) (hp : IsBits p) (hr : IsBits r) (v : Int) (l : List Int) (hl : GMay l) (hv0 : 0 ≤ v) (hv : v < 16) (hlen : (p ++ gapsL v l ++ r).length ≤ 6000) (k : Nat) (hk : 40 ≤ k) :
    gaps_Take.f k (packS (p ++ gapsL v l ++ r)) ((p ++ gapsL v l ++ r).length : Int) (p.length : Int) v = some (l, ((p ++ gapsL v l).length : Int), 0) := by
  obtain ⟨k, rfl⟩ : ∃ m, k = m + 1 := ⟨k - 1, by omega⟩
  have hb : IsBits (p ++ gapsL v l ++ r) := IsBits.append (IsBits.append hp (gapsL_bits v l)) hr
  have h16 := gmay_len hl
  have ha : p.length ≤ (p ++ gapsL v l ++ r).length := by simp only [List.length_append]; omega
  have hh : ReadL 2 ((p ++ gapsL v l ++ r).drop p.length) = some ((l.length : Int) + 1, (gammaL ((l.length : Int) + 1)).length) := by
    rw [List.append_assoc, List.drop_left]
    unfold gapsL
    rw [List.append_assoc]
    exact read_gamma _ (by omega) (by omega) _
  rw [gtake_read _ hb hlen _ ha v hv0 hv, gread_all _ hb hlen _ ha v l hl hv0 hv hh (fun i hi => at_whole p r v l hl hv0 hv i hi) k (by omega), Option.bind_some]
  simp only
  rw [if_pos trivial]
  unfold gpos gapsL
  simp only [List.length_append]
  rw [Nat.add_assoc]
theorem gpos_at (a : Nat) (v : Int) (l : List Int) (t : Nat) (h0 : gpos a v l 0 ≤ t) : ∀ n, t < gpos a v l n → ∃ j, j < n ∧ gpos a v l j ≤ t ∧ t < gpos a v l (j + 1)
  | 0, h => by omega
  | n + 1, h => by
    by_cases hn : gpos a v l n ≤ t
    · exact ⟨n, by omega, hn, h⟩
    · obtain ⟨j, h1, h2, h3⟩ := gpos_at a v l t h0 n (by omega)
      exact ⟨j, by omega, h2, h3⟩
theorem gpos_mono (a : Nat) (v : Int) (l : List Int) (i : Nat) : ∀ j, i ≤ j → gpos a v l i ≤ gpos a v l j
  | 0, h => by obtain rfl : i = 0 := by omega
               exact Nat.le_refl _
  | j + 1, h => by
    by_cases he : i = j + 1
    · subst he; exact Nat.le_refl _
    · have := gpos_mono a v l i j (by omega)
      rw [gpos_succ]; omega
theorem drop_take_mid (x y z : List Int) (t : Nat) (h : x.length ≤ t) (h2 : t - x.length ≤ y.length) : ((x ++ (y ++ z)).take t).drop x.length = y.take (t - x.length) := by
  rw [List.take_append, List.take_of_length_le h, List.drop_left, List.take_append_of_le_length h2]
/-- A list's bits that are cut are none. -/
theorem gtake_cut (v : Int) (l : List Int) (hl : GMay l) (hv0 : 0 ≤ v) (hv : v < 16) (t : Nat) (ht : t < (gapsL v l).length) (k : Nat) (hk : 40 ≤ k) :
    gaps_Take.f k (packS ((gapsL v l).take t)) (t : Int) 0 v = some ([], 0, 9) := by
  obtain ⟨k, rfl⟩ : ∃ m, k = m + 1 := ⟨k - 1, by omega⟩
  have hlenG := gapsL_len hl hv0 hv
  have hb := gapsL_bits v l
  have hbt : IsBits ((gapsL v l).take t) := IsBits.take' hb t
  have h16 := gmay_len hl
  have htl : ((gapsL v l).take t).length = t := by rw [List.length_take]; omega
  have hpl : gpos 0 v l l.length = (gapsL v l).length := by unfold gpos gapsL; rw [List.length_append]; omega
  have e := gtake_read ((gapsL v l).take t) hbt (by omega) 0 (by omega) v hv0 hv k
  rw [htl] at e
  have e0 : ((0 : Nat) : Int) = 0 := rfl
  rw [e0] at e
  rw [e]
  have hgoal : gaps_Read.f k (packS ((gapsL v l).take t)) (t : Int) 0 v = some ([], 0, false) := by
    by_cases hh : t < (gammaL ((l.length : Int) + 1)).length
    · have hr : ReadL 2 (((gapsL v l).take t).drop 0) = none := by
        unfold gapsL
        rw [List.drop_zero, List.take_append_of_le_length (by omega)]
        exact cut_gamma _ (by omega) (by omega) t hh
      have := gread_nohead _ hbt (by omega) 0 (by omega) v hr k (by omega)
      rw [htl, e0] at this
      exact this
    · have hr : ReadL 2 (((gapsL v l).take t).drop 0) = some ((l.length : Int) + 1, (gammaL ((l.length : Int) + 1)).length) := by
        unfold gapsL
        rw [List.drop_zero, List.take_append, List.take_of_length_le (l := gammaL ((l.length : Int) + 1)) (by omega)]
        exact read_gamma _ (by omega) (by omega) _
      have hp0 : gpos 0 v l 0 ≤ t := by unfold gpos; simp only [gpieces, List.length_nil]; omega
      obtain ⟨j, hj, hj1, hj2⟩ := gpos_at 0 v l t hp0 l.length (by omega)
      have hsplit : ∀ i, i < l.length → ∃ z, gapsL v l = (gammaL ((l.length : Int) + 1) ++ gpieces v l i) ++ (gammaL (gnum v l i) ++ z) ∧ (gammaL ((l.length : Int) + 1) ++ gpieces v l i).length = gpos 0 v l i := by
        intro i hi
        obtain ⟨z, hz⟩ := gpieces_split v l i l.length hi
        refine ⟨z, ?_, ?_⟩
        · unfold gapsL; rw [hz, List.append_assoc]
        · unfold gpos; rw [List.length_append]; omega
      have hat : ∀ i, i < j → GAt ((gapsL v l).take t) 0 v l i := by
        intro i hi
        have hg := gnum_range hl hv0 hv i (by omega)
        obtain ⟨z, hz, hzl⟩ := hsplit i (by omega)
        have hm := gpos_mono 0 v l (i + 1) j (by omega)
        rw [gpos_succ] at hm
        refine ⟨by omega, ?_⟩
        rw [hz, ← hzl, List.take_append, List.take_of_length_le (by omega), List.drop_left, List.take_append, List.take_of_length_le (l := gammaL (gnum v l i)) (by omega)]
        exact read_gamma _ hg.1 (by omega) _
      have hgj := gnum_range hl hv0 hv j hj
      obtain ⟨z, hz, hzl⟩ := hsplit j hj
      rw [gpos_succ] at hj2
      have hrj : ReadL 2 (((gapsL v l).take t).drop (gpos 0 v l j)) = none := by
        rw [hz, ← hzl, drop_take_mid _ _ _ _ (by omega) (by omega)]
        exact cut_gamma _ hgj.1 (by omega) _ (by omega)
      have := gread_fail _ hbt (by omega) 0 (by omega) v l hl hv0 hv hr j hj hat (by omega) hrj k (by omega)
      rw [htl, e0] at this
      exact this
  rw [hgoal, Option.bind_some, if_neg (by decide)]
/-! ### gaps.Put, gaps.Size in lists -/
theorem gput_eq (b : List Int) (hb : IsBits b) (hlen : b.length ≤ 6000) (v : Int) (l : List Int) (hll : (l.length : Int) < 9223372036854775807) : gaps_Put.f (packS b) (b.length : Int) v l =
    some (if (0 ≤ v ∧ v < 16) ∧ GMay l then (if b.length + (gapsL v l).length ≤ 6000 then (packS (b ++ gapsL v l), ((b ++ gapsL v l).length : Int), 0) else (⟨#[]⟩, 0, 2)) else (⟨#[]⟩, 0, 1)) := by
  unfold gaps_Put.f
  rw [if_pos hll, ofS_packS b hb]
  by_cases h : (0 ≤ v ∧ v < 16) ∧ GMay l
  · rw [if_pos ⟨may_packS b hb hlen, h⟩, if_pos h]
    by_cases h2 : b.length + (gapsL v l).length ≤ 6000
    · rw [if_pos h2, if_pos (show ((b ++ gapsL v l).length : Int) ≤ 6000 by rw [List.length_append]; omega)]
    · rw [if_neg h2, if_neg (show ¬ (((b ++ gapsL v l).length : Int) ≤ 6000) by rw [List.length_append]; omega)]
  · rw [if_neg (fun h2 => h h2.2), if_neg h]
theorem gsize_eq (v : Int) (l : List Int) (hll : (l.length : Int) < 9223372036854775807) : gaps_Size.f v l = some (if (0 ≤ v ∧ v < 16) ∧ GMay l then (((gapsL v l).length : Int), 0) else (0, 1)) := by
  unfold gaps_Size.f
  rw [if_pos hll]
  split <;> rfl
/-- Equal numbers are equal. -/
theorem eqn_loop (l : List Int) (hl : l.length ≤ 1000000) : ∀ (d i k : Nat), i + d = l.length → d < k → herbariumref0_EqNumbers.l0 k l l (i : Int) = some true
  | 0, i, k, hi, hk => by
    obtain ⟨k, rfl⟩ : ∃ m, k = m + 1 := ⟨k - 1, by omega⟩
    rw [herbariumref0_EqNumbers.l0, if_neg (by omega)]
  | d + 1, i, k, hi, hk => by
    obtain ⟨k, rfl⟩ : ∃ m, k = m + 1 := ⟨k - 1, by omega⟩
    rw [herbariumref0_EqNumbers.l0, if_pos (by omega), if_pos (by omega), if_pos (by omega), if_pos rfl, wrap_in _ (by omega) (by omega)]
    exact eqn_loop l hl d (i + 1) k (by omega) (by omega)
theorem eqn_refl (l : List Int) (hl : l.length ≤ 1000000) (k : Nat) (hk : l.length < k) : herbariumref0_EqNumbers.f k l l = some true := by
  unfold herbariumref0_EqNumbers.f
  rw [if_pos rfl]
  exact eqn_loop l hl l.length 0 k (by omega) hk
end Go.Proofs.Ytnpghcikhpglkaa.Pb
namespace Go.Proofs.Ytnpghcikhpglkaa.Q
open Go.RowKit Go.Proofs.YtnpghcikhpglkaaW.PrintWords Go.Proofs.YtnpghcikhpglkaaW.PrintLast Go.Proofs.YtnpghcikhpglkaaW.PrintMore Go.Proofs.Ytnpghcikhpglkaa.Hand Go.Proofs.Ytnpghcikhpglkaa.Pu
set_option linter.unusedVariables false
set_option linter.unusedSimpArgs false

theorem refbit_some (s : ByteArray) (n i : Int) (h0 : 0 ≤ i) (h1 : i < 8 * s.size) (h2 : i < 1073741824) : herbariumref1_bit.f s n i = some (bitOf s i) := by
  unfold herbariumref1_bit.f
  have e1 : wrap64 (Int.tdiv i 8) = i / 8 := by rw [tdiv8 i h0, wrap_in _ (by omega) (by omega)]
  have e2 : wrap64 (7 - Int.tmod i 8) = 7 - i % 8 := by rw [tmod8 i h0, wrap_in _ (by omega) (by omega)]
  rw [e1, e2, if_pos (by omega), if_pos (by omega), if_pos (by omega)]
  congr 1
  obtain ⟨b0, b1⟩ := bt_range s (i / 8)
  rw [wrap_in (bt s (i / 8)) (by omega) (by omega)]
  have hsh : shr .i64 (bt s (i / 8)) (7 - i % 8) = bt s (i / 8) / 2 ^ (7 - i % 8).toNat := by
    unfold shr
    rw [Nat.min_eq_left (by simp [IntKind.bits]; omega)]
  have hn := div_pow_nonneg (bt s (i / 8)) (7 - i % 8).toNat b0
  have hl := div_pow_le (bt s (i / 8)) (7 - i % 8).toNat b0
  rw [hsh, and_one _ hn (by omega)]
  rfl
def Tail0 (s : ByteArray) (n : Int) : Prop := ∀ i : Nat, n ≤ (i : Int) → (i : Int) < 8 * s.size → bitOf s (i : Int) = 0
theorem tail_l0 (s : ByteArray) (n : Int) (hs : s.size ≤ 1000) : ∀ (d i k : Nat), i + d = 8 * s.size → d + 1 ≤ k → ∃ r, herbariumref1_Bits.l0 k (i : Int) s n = some r ∧ (r = true ↔ Tail0 s (i : Int)) := by
  intro d
  induction d with
  | zero =>
    intro i k h hk
    obtain ⟨k, rfl⟩ : ∃ k', k = k' + 1 := ⟨k - 1, by omega⟩
    rw [herbariumref1_Bits.l0, wrap_in _ (by omega) (by omega), if_neg (by omega)]
    exact ⟨true, rfl, by simp only [true_iff]; intro j h1 h2; omega⟩
  | succ d ih =>
    intro i k h hk
    obtain ⟨k, rfl⟩ : ∃ k', k = k' + 1 := ⟨k - 1, by omega⟩
    rw [herbariumref1_Bits.l0, wrap_in (8 * (s.size : Int)) (by omega) (by omega), if_pos (by omega), refbit_some s n i (by omega) (by omega) (by omega), Option.bind_some, wrap_in _ (by omega) (by omega)]
    by_cases hb : bitOf s (i : Int) = 0
    · rw [if_pos hb]
      obtain ⟨r, h1, h2⟩ := ih (i + 1) k (by omega) (by omega)
      refine ⟨r, h1, h2.trans ⟨fun h j h3 h4 => ?_, fun h j h3 h4 => h j (by omega) h4⟩⟩
      by_cases hj : j = i
      · rw [hj]; exact hb
      · exact h j (by omega) h4
    · rw [if_neg hb]
      exact ⟨false, rfl, by simp only [Bool.false_eq_true, false_iff]; intro h; exact hb (h i (by omega) (by omega))⟩
theorem low_bits (b : Int) (r : Nat) (h0 : 1 ≤ r) (h1 : r ≤ 7) : b % 2 ^ (8 - r) = 0 ↔ ∀ j : Nat, r ≤ j → j < 8 → b / 2 ^ (7 - j) % 2 = 0 := by
  have hr : r = 1 ∨ r = 2 ∨ r = 3 ∨ r = 4 ∨ r = 5 ∨ r = 6 ∨ r = 7 := by omega
  constructor
  · intro h j h2 h3
    have hj : j = 1 ∨ j = 2 ∨ j = 3 ∨ j = 4 ∨ j = 5 ∨ j = 6 ∨ j = 7 := by omega
    rcases hr with rfl | rfl | rfl | rfl | rfl | rfl | rfl <;> rcases hj with rfl | rfl | rfl | rfl | rfl | rfl | rfl <;> first | (exfalso; omega) | (simp only [Nat.reduceSub, Int.reducePow] at h ⊢; omega)
  · intro h
    have h7 := h 7 (by omega) (by omega)
    have g : ∀ j : Nat, r ≤ j → j < 8 → b / 2 ^ (7 - j) % 2 = 0 := h
    rcases hr with rfl | rfl | rfl | rfl | rfl | rfl | rfl
    · have a1 := g 1 (by omega) (by omega); have a2 := g 2 (by omega) (by omega); have a3 := g 3 (by omega) (by omega); have a4 := g 4 (by omega) (by omega); have a5 := g 5 (by omega) (by omega); have a6 := g 6 (by omega) (by omega)
      clear g h; simp only [Nat.reduceSub, Int.reducePow] at *; omega
    · have a2 := g 2 (by omega) (by omega); have a3 := g 3 (by omega) (by omega); have a4 := g 4 (by omega) (by omega); have a5 := g 5 (by omega) (by omega); have a6 := g 6 (by omega) (by omega)
      clear g h; simp only [Nat.reduceSub, Int.reducePow] at *; omega
    · have a3 := g 3 (by omega) (by omega); have a4 := g 4 (by omega) (by omega); have a5 := g 5 (by omega) (by omega); have a6 := g 6 (by omega) (by omega)
      clear g h; simp only [Nat.reduceSub, Int.reducePow] at *; omega
    · have a4 := g 4 (by omega) (by omega); have a5 := g 5 (by omega) (by omega); have a6 := g 6 (by omega) (by omega)
      clear g h; simp only [Nat.reduceSub, Int.reducePow] at *; omega
    · have a5 := g 5 (by omega) (by omega); have a6 := g 6 (by omega) (by omega)
      clear g h; simp only [Nat.reduceSub, Int.reducePow] at *; omega
    · have a6 := g 6 (by omega) (by omega)
      clear g h; simp only [Nat.reduceSub, Int.reducePow] at *; omega
    · clear g h; simp only [Nat.reduceSub, Int.reducePow] at *; omega
theorem tail_iff (s : ByteArray) (n : Int) (h0 : 0 ≤ n) (h1 : n ≤ 6000) (h2 : (s.size : Int) = (n + 7) / 8) : Tail0 s n ↔ (n % 8 = 0 ∨ bt s ((s.size : Int) - 1) % 2 ^ (8 - n % 8).toNat = 0) := by
  by_cases h3 : n % 8 = 0
  · exact ⟨fun _ => .inl h3, fun _ i h4 h5 => by omega⟩
  · obtain ⟨m, rfl⟩ := Int.eq_ofNat_of_zero_le h0
    have hs : ((s.size : Int) - 1) = ((m / 8 : Nat) : Int) := by omega
    have hr : (8 - (m : Int) % 8).toNat = 8 - m % 8 := by omega
    rw [hs, hr, or_iff_right h3, low_bits _ (m % 8) (by omega) (by omega)]
    constructor
    · intro h j h4 h5
      have := h (8 * (m / 8) + j) (by omega) (by omega)
      rwa [bitOf_at s (m / 8) j h5] at this
    · intro h i h4 h5
      have e := bitOf_at s (m / 8) (i % 8) (by omega)
      rw [show 8 * (m / 8) + i % 8 = i by omega] at e
      rw [e]
      exact h (i % 8) (by omega) (by omega)
theorem refBits_eq (s : ByteArray) (n : Int) (k : Nat) (hk : 8100 ≤ k) : herbariumref1_Bits.f k s n = some (decide (MayP s n)) := by
  obtain ⟨k, rfl⟩ : ∃ k', k = k' + 1 := ⟨k - 1, by omega⟩
  unfold herbariumref1_Bits.f herbariumref0_Num.f
  by_cases h0 : n ≥ 0
  · rw [if_pos h0, Option.bind_some]
    by_cases h1 : n ≤ 6000
    · have hw : wrap64 (Int.tdiv (wrap64 (n + 7)) 8) = (n + 7) / 8 := by
        rw [wrap_in (n + 7) (by omega) (by omega), tdiv8 _ (by omega), wrap_in _ (by omega) (by omega)]
      rw [decide_eq_true h1, if_pos rfl, hw]
      by_cases h2 : (s.size : Int) = (n + 7) / 8
      · rw [show ((s.size : Int) != (n + 7) / 8) = false by simp [h2], herbariumref1_Bits.j0, if_neg (by decide)]
        obtain ⟨m, rfl⟩ := Int.eq_ofNat_of_zero_le h0
        obtain ⟨r, e1, e2⟩ := tail_l0 s (m : Int) (by omega) (8 * s.size - m) m k (by omega) (by omega)
        rw [e1]
        congr 1
        rw [tail_iff s (m : Int) h0 h1 h2] at e2
        rw [Bool.eq_iff_iff, decide_eq_true_iff, e2]
        exact ⟨fun h => ⟨h0, h1, h2, h⟩, fun h => h.2.2.2⟩
      · rw [show ((s.size : Int) != (n + 7) / 8) = true by simp [h2], herbariumref1_Bits.j0, if_pos rfl, decide_eq_false (fun h => h2 h.2.2.1)]
    · rw [decide_eq_false h1, if_neg (by decide), herbariumref1_Bits.j0, if_pos rfl, decide_eq_false (p := MayP s n) (fun h => h1 h.2.1)]
  · rw [if_neg h0, Option.bind_some, if_neg (by decide), herbariumref1_Bits.j0, if_pos rfl, decide_eq_false (p := MayP s n) (fun h => h0 h.1)]
end Go.Proofs.Ytnpghcikhpglkaa.Q
namespace Go.Proofs.Ytnpghcikhpglkaa.Pb
open Go.RowKit Go.Proofs.YtnpghcikhpglkaaW.PrintWords Go.Proofs.YtnpghcikhpglkaaW.PrintLast Go.Proofs.YtnpghcikhpglkaaW.PrintMore Go.Proofs.Ytnpghcikhpglkaa.Hand Go.Proofs.Ytnpghcikhpglkaa.Pu Go.Proofs.Ytnpghcikhpglkaa.Q
set_option linter.unusedVariables false
set_option linter.unusedSimpArgs false

theorem take_snoc (l : List Int) (i : Nat) (h : i < l.length) : l.take i ++ [l.getD i 0] = l.take (i + 1) := by
  rw [List.take_succ_eq_append_getElem h, List.getD_eq_getElem?_getD, List.getElem?_eq_getElem h]
  rfl
/-- Of. -/
theorem of_loop (l : List Int) (hl : IsBits l) (hlen : l.length ≤ 1000000) : ∀ (d k i : Nat), i + d = l.length → d < k → herbariumref1_Of.l0 k (l.take i) (i : Int) (packS l) (l.length : Int) = some l
  | 0, k, i, hi, hk => by
    obtain ⟨k, rfl⟩ : ∃ m, k = m + 1 := ⟨k - 1, by omega⟩
    simp only [herbariumref1_Of.l0]
    rw [if_neg (by omega), List.take_of_length_le (by omega)]
  | d + 1, k, i, hi, hk => by
    obtain ⟨k, rfl⟩ : ∃ m, k = m + 1 := ⟨k - 1, by omega⟩
    have hsz := packS_size l
    have hb := hl.getD i
    simp only [herbariumref1_Of.l0]
    rw [if_pos (by omega), refbit_some _ _ _ (by omega) (by omega) (by omega), bitOf_packS l hl i (by omega), Option.bind_some, if_pos (by rw [List.length_take]; omega), Int.emod_eq_of_lt (by omega) (by omega), take_snoc l i (by omega), wrap_in _ (by omega) (by omega)]
    exact of_loop l hl hlen d k (i + 1) (by omega) (by omega)
theorem refOf_eq (l : List Int) (hl : IsBits l) (hlen : l.length ≤ 1000000) (k : Nat) (hk : l.length < k) : herbariumref1_Of.f k (packS l) (l.length : Int) = some l := by
  unfold herbariumref1_Of.f
  exact of_loop l hl hlen l.length k 0 (by omega) hk
/-- Zeros. -/
theorem rzeros_loop (l : List Int) (hlen : l.length ≤ 1000000) (x : Int) (hx : 0 ≤ x) : ∀ (d k i : Nat), i + d = l.length → d < k → x ≤ i →
    herbariumref1_List_Zeros.l0 k l x (i : Int) = some (if zerosL (l.drop i) < 0 then -1 else (i : Int) + zerosL (l.drop i) - x)
  | 0, k, i, hi, hk, hxi => by
    obtain ⟨k, rfl⟩ : ∃ m, k = m + 1 := ⟨k - 1, by omega⟩
    simp only [herbariumref1_List_Zeros.l0]
    rw [if_neg (by omega), List.drop_of_length_le (by omega)]
    rfl
  | d + 1, k, i, hi, hk, hxi => by
    obtain ⟨k, rfl⟩ : ∃ m, k = m + 1 := ⟨k - 1, by omega⟩
    simp only [herbariumref1_List_Zeros.l0]
    have hd : l.drop i = l.getD i 0 :: l.drop (i + 1) := by
      rw [List.drop_eq_getElem_cons (by omega), List.getD_eq_getElem?_getD, List.getElem?_eq_getElem (by omega)]
      rfl
    have hrd : rd l (i : Int) = l.getD i 0 := by unfold rd; rw [Int.toNat_natCast]
    have hr := zerosL_range (l.drop (i + 1))
    rw [List.length_drop] at hr
    rw [if_pos (by omega), if_pos (by omega), hrd, hd, zerosL]
    by_cases h1 : l.getD i 0 = 1
    · rw [if_pos h1, if_pos h1, if_neg (by omega), wrap_in _ (by omega) (by omega)]
      exact congrArg some (by omega)
    · rw [if_neg h1, if_neg h1, wrap_in _ (by omega) (by omega)]
      have := rzeros_loop l hlen x hx d k (i + 1) (by omega) (by omega) (by omega)
      rw [show ((i + 1 : Nat) : Int) = (i : Int) + 1 by omega] at this
      rw [this]
      congr 1
      by_cases h2 : zerosL (l.drop (i + 1)) < 0
      · rw [if_pos h2, if_pos h2, if_pos (by omega)]
      · rw [if_neg h2, if_neg h2, if_neg (by omega)]; omega
theorem refZeros_eq (l : List Int) (hlen : l.length ≤ 1000000) (a : Nat) (ha : a ≤ l.length) (k : Nat) (hk : l.length < k) : herbariumref1_List_Zeros.f k l (a : Int) = some (zerosL (l.drop a)) := by
  have hr := zerosL_range (l.drop a)
  unfold herbariumref1_List_Zeros.f
  rw [rzeros_loop l hlen (a : Int) (by omega) (l.length - a) k a (by omega) (by omega) (by omega)]
  congr 1
  split <;> omega
/-- Put. -/
theorem shr_eq (v : Int) (w : Nat) (hw : w ≤ 62) : shr .i64 v (w : Int) = v / 2 ^ w := by
  unfold shr
  rw [Nat.min_eq_left (by simp [IntKind.bits]; omega), Int.toNat_natCast]
theorem bit_eq (v : Int) (w : Nat) (hw : w ≤ 62) (h0 : 0 ≤ v) (h1 : v < 2 ^ 62) : (Go.bits .and .i64 (shr .i64 v (w : Int)) 1) % 256 = v / 2 ^ w % 2 := by
  have hn := div_pow_nonneg v w h0
  have hl := div_pow_le v w h0
  rw [shr_eq v w hw, and_one _ hn (by omega)]
  omega
theorem rput_loop (v : Int) (h0 : 0 ≤ v) (h1 : v < 2 ^ 62) : ∀ (w : Nat) (l : List Int) (k : Nat), w ≤ 62 → l.length + w ≤ 1000000 → w < k → herbariumref1_List_Put.l0 k l v ((w : Int) - 1) = some (l ++ putL w v)
  | 0, l, k, hw, hlen, hk => by
    obtain ⟨k, rfl⟩ : ∃ m, k = m + 1 := ⟨k - 1, by omega⟩
    simp only [herbariumref1_List_Put.l0]
    rw [if_neg (by omega)]
    simp [putL]
  | w + 1, l, k, hw, hlen, hk => by
    obtain ⟨k, rfl⟩ : ∃ m, k = m + 1 := ⟨k - 1, by omega⟩
    simp only [herbariumref1_List_Put.l0]
    have e : ((w + 1 : Nat) : Int) - 1 = (w : Int) := by omega
    rw [e, if_pos (by omega), if_pos (by omega), if_pos (by omega), bit_eq v w (by omega) h0 h1, wrap_in _ (by omega) (by omega), rput_loop v h0 h1 w (l ++ [v / 2 ^ w % 2]) k (by omega) (by rw [List.length_append, List.length_singleton]; omega) (by omega), List.append_assoc]
    rfl
theorem refPut_eq (l : List Int) (v : Int) (w : Nat) (h0 : 0 ≤ v) (h1 : v < 2 ^ 62) (hw : w ≤ 62) (hlen : l.length ≤ 900000) (k : Nat) (hk : w < k) : herbariumref1_List_Put.f k l v (w : Int) = some (l ++ putL w v) := by
  unfold herbariumref1_List_Put.f
  rw [wrap_in _ (by omega) (by omega)]
  exact rput_loop v h0 h1 w l k hw (by omega) hk
/-- Get. -/
theorem rget_loop (l : List Int) (hl : IsBits l) (hlen : l.length ≤ 1000000) (a w : Nat) (haw : a + w ≤ l.length) (hw : w ≤ 61) : ∀ (d k i : Nat), i + d = w → d < k →
    herbariumref1_List_Get.l0 k l (a : Int) (w : Int) (numL ((l.drop a).take i)) ((a + i : Nat) : Int) = some (numL ((l.drop a).take w))
  | 0, k, i, hi, hk => by
    obtain ⟨k, rfl⟩ : ∃ m, k = m + 1 := ⟨k - 1, by omega⟩
    obtain rfl : i = w := by omega
    simp only [herbariumref1_List_Get.l0]
    rw [wrap_in _ (by omega) (by omega), if_neg (by omega)]
  | d + 1, k, i, hi, hk => by
    obtain ⟨k, rfl⟩ : ∃ m, k = m + 1 := ⟨k - 1, by omega⟩
    simp only [herbariumref1_List_Get.l0]
    have hib : IsBits ((l.drop a).take i) := fun x hx => hl x (List.mem_of_mem_drop (List.mem_of_mem_take hx))
    have hr := numL_range hib
    have hlt : (l.drop a).length = l.length - a := List.length_drop ..
    have hlen2 : ((l.drop a).take i).length = i := by rw [List.length_take, hlt]; omega
    rw [hlen2] at hr
    have hp : (2 : Int) ^ i ≤ 2 ^ 60 := by have := Nat.pow_le_pow_right (n := 2) (by decide) (show i ≤ 60 by omega); exact_mod_cast this
    have h60 : (2 : Int) ^ 60 < 2 ^ 61 := by decide
    have hb := hl.getD (a + i)
    have hrd : rd l ((a + i : Nat) : Int) = l.getD (a + i) 0 := by unfold rd; rw [Int.toNat_natCast]
    have hsn : (l.drop a).take (i + 1) = (l.drop a).take i ++ [l.getD (a + i) 0] := by
      rw [List.take_succ_eq_append_getElem (by rw [hlt]; omega), List.getElem_drop, List.getD_eq_getElem?_getD, List.getElem?_eq_getElem (by omega)]
      rfl
    rw [wrap_in ((a : Int) + (w : Int)) (by omega) (by omega), if_pos (by omega), if_pos (by omega), if_pos (by omega), hrd, wrap_in (l.getD (a + i) 0) (by omega) (by omega), wrap_in (2 * _) (by omega) (by omega), wrap_in (2 * _ + _) (by omega) (by omega), ← numL_snoc, ← hsn, wrap_in _ (by omega) (by omega)]
    exact rget_loop l hl hlen a w haw hw d k (i + 1) (by omega) (by omega)
theorem refGet_eq (l : List Int) (hl : IsBits l) (hlen : l.length ≤ 1000000) (a w : Nat) (haw : a + w ≤ l.length) (hw : w ≤ 61) (k : Nat) (hk : w < k) : herbariumref1_List_Get.f k l (a : Int) (w : Int) = some (numL ((l.drop a).take w)) := by
  unfold herbariumref1_List_Get.f
  exact rget_loop l hl hlen a w haw hw w k 0 (by omega) hk
/-- log. -/
theorem log_loop : ∀ (g : Nat) (x c : Int) (k : Nat), (2 : Int) ^ g ≤ x → x < 2 ^ (g + 1) → 0 ≤ c → c + g ≤ 1000000 → g < k → herbariumref1_log.l0 k x c = some (c + g)
  | 0, x, c, k, h1, h2, h3, h4, hk => by
    obtain ⟨k, rfl⟩ : ∃ m, k = m + 1 := ⟨k - 1, by omega⟩
    simp only [herbariumref1_log.l0]
    rw [if_neg (by omega)]
    simp
  | g + 1, x, c, k, h1, h2, h3, h4, hk => by
    obtain ⟨k, rfl⟩ : ∃ m, k = m + 1 := ⟨k - 1, by omega⟩
    simp only [herbariumref1_log.l0]
    have hp : (0 : Int) < 2 ^ g := Int.pow_pos (by decide)
    have e1 : (2 : Int) ^ (g + 1) = 2 ^ g * 2 := Int.pow_succ 2 g
    have e2 : (2 : Int) ^ (g + 1 + 1) = 2 ^ (g + 1) * 2 := Int.pow_succ 2 (g + 1)
    rw [if_pos (by omega), wrap_in _ (by omega) (by omega), log_loop g (x / 2) (c + 1) k (by omega) (by omega) (by omega) (by omega) (by omega)]
    exact congrArg some (by omega)
theorem refLog_eq (n : Int) (h1 : 1 ≤ n) (h2 : n ≤ 1073741824) (k : Nat) (hk : 40 ≤ k) : herbariumref1_log.f k n = some (lg n) := by
  obtain ⟨_, g0, g1, g2, g3⟩ := lg_facts n h1 h2
  unfold herbariumref1_log.f
  rw [log_loop (lg n).toNat n 0 k g2 g3 (by omega) (by omega) (by omega)]
  exact congrArg some (by omega)
end Go.Proofs.Ytnpghcikhpglkaa.Pb
namespace Go.Proofs.Ytnpghcikhpglkaa.Pure
open Go.RowKit Go.Proofs.YtnpghcikhpglkaaW.PrintWords Go.Proofs.YtnpghcikhpglkaaW.PrintLast Go.Proofs.YtnpghcikhpglkaaW.PrintMore Go.Proofs.Ytnpghcikhpglkaa.Hand Go.Proofs.Ytnpghcikhpglkaa.Q Go.Proofs.Ytnpghcikhpglkaa.Pu Go.Proofs.Ytnpghcikhpglkaa.Pb
set_option linter.unusedVariables false
namespace All
theorem wakes3 : herbariumlaw3_wakes.f 60 = some true := by decide +kernel
/-- The numbers of the first i bits of a set. -/
def glist (set : Nat) : Nat → List Int
  | 0 => []
  | i + 1 => if set / 2 ^ i % 2 = 1 then glist set i ++ [((2 * (i / 4) + i : Nat) : Int)] else glist set i
def gok (set : Nat) : Bool := decide (GMay (glist set 8))
theorem gok_all : ∀ s : Fin 256, gok s.val = true := by decide +kernel
theorem glist_len (set : Nat) : ∀ i, (glist set i).length ≤ i
  | 0 => by simp [glist]
  | i + 1 => by have := glist_len set i; unfold glist; split <;> simp <;> omega
theorem build (set : Nat) (hs : set < 256) (y0 : List (List Int)) (y1 : List S27) (y2 : List Int) : ∀ (d i k : Nat), i + d = 8 →
    herbariumlaw3_GapsAll.l1 (k + d) (set : Int) (glist set i) (i : Int) y0 y1 y2 = herbariumlaw3_GapsAll.l1 k (set : Int) (glist set 8) 8 y0 y1 y2
  | 0, i, k, hi => by obtain rfl : i = 8 := by omega
                      rfl
  | d + 1, i, k, hi => by
    have hb : Go.bits .and .i64 (shr .i64 (set : Int) (i : Int)) 1 = ((set / 2 ^ i % 2 : Nat) : Int) := by
      have hn := div_pow_nonneg (set : Int) i (by omega)
      have hl := div_pow_le (set : Int) i (by omega)
      rw [shr_eq _ i (by omega), and_one _ hn (by omega), Int.natCast_emod, Int.natCast_ediv, Int.natCast_pow]
      rfl
    have e : wrap64 (wrap64 (2 * wrap64 (Int.tdiv (i : Int) 4)) + (i : Int)) = ((2 * (i / 4) + i : Nat) : Int) := by
      rw [Int.tdiv_eq_ediv_of_nonneg (by omega), wrap_in ((i : Int) / 4) (by omega) (by omega), wrap_in (2 * _) (by omega) (by omega), wrap_in _ (by omega) (by omega)]; omega
    have hl := glist_len set i
    have ih := build set hs y0 y1 y2 d (i + 1) k (by omega)
    rw [show k + (d + 1) = k + d + 1 by omega, herbariumlaw3_GapsAll.l1, if_pos (by omega), if_pos (by omega), hb, wrap_in ((i : Int) + 1) (by omega) (by omega)]
    by_cases h1 : set / 2 ^ i % 2 = 1
    · have hg : glist set (i + 1) = glist set i ++ [((2 * (i / 4) + i : Nat) : Int)] := by rw [glist, if_pos h1]
      rw [if_pos (by omega), if_pos (by omega), e, ← hg]
      exact ih
    · have hg : glist set (i + 1) = glist set i := by rw [glist, if_neg h1]
      rw [if_neg (by omega), ← hg]
      exact ih
theorem gfirst_eq (l : List Int) (hl : IsBits l) (hlen : l.length ≤ 6000) (t : Nat) (ht : t ≤ l.length) : herbariumlaw3_first.f (packS l) (l.length : Int) (t : Int) = some (packS (l.take t), (t : Int)) := by
  unfold herbariumlaw3_first.f
  rw [if_pos ⟨may_packS l hl hlen, by omega, by omega⟩, ofS_packS l hl, Int.toNat_natCast]
theorem cuts (set : Int) (hs : 0 ≤ set ∧ set < 1000) (v : Int) (hv0 : 0 ≤ v) (hv : v < 16) (l : List Int) (hl : GMay l) (y0 : List (List Int)) (y1 : List S27) (y2 : List Int) (K : Nat) (hK : 40 ≤ K) (hnext : ∀ k, K ≤ k → herbariumlaw3_GapsAll.l0 k (set + 1) y0 y1 y2 = some true) :
    ∀ (d t : Nat), (gapsL v l).length ≤ t + d → t ≤ 2000 → ∀ k, K + d + 1 ≤ k → herbariumlaw3_GapsAll.l2 k set v (t : Int) y0 y1 y2 (packS (gapsL v l)) ((gapsL v l).length : Int) = some true
  | 0, t, hd, ht, k, hk => by
    obtain ⟨k, rfl⟩ : ∃ m, k = m + 1 := ⟨k - 1, by omega⟩
    rw [herbariumlaw3_GapsAll.l2, if_neg (by omega), wrap_in (set + 1) (by omega) (by omega)]
    exact hnext k (by omega)
  | d + 1, t, hd, ht, k, hk => by
    obtain ⟨k, rfl⟩ : ∃ m, k = m + 1 := ⟨k - 1, by omega⟩
    have hlen := gapsL_len hl hv0 hv
    by_cases h : t < (gapsL v l).length
    · rw [herbariumlaw3_GapsAll.l2, if_pos (by omega), gfirst_eq _ (gapsL_bits v l) (by omega) t (by omega), Option.bind_some]
      simp only
      rw [gtake_cut v l hl hv0 hv t h k (by omega), Option.bind_some]
      simp only [herbariumlaw3_num.f, Option.bind_some]
      rw [if_pos trivial, wrap_in ((t : Int) + 3) (by omega) (by omega)]
      exact cuts set hs v hv0 hv l hl y0 y1 y2 K hK hnext d (t + 3) (by omega) (by omega) k (by omega)
    · rw [herbariumlaw3_GapsAll.l2, if_neg (by omega), wrap_in (set + 1) (by omega) (by omega)]
      exact hnext k (by omega)
theorem one (set : Nat) (hs : set < 256) (y0 : List (List Int)) (y1 : List S27) (y2 : List Int) (hy : y0.length * 24 ≤ 140737488351232) (K : Nat) (hK : 9000 ≤ K) (hnext : ∀ k, K ≤ k → herbariumlaw3_GapsAll.l0 k ((set : Int) + 1) y0 y1 y2 = some true) (k : Nat) (hk : K + 2000 ≤ k) :
    herbariumlaw3_GapsAll.l0 k (set : Int) y0 y1 y2 = some true := by
  obtain ⟨k, rfl⟩ : ∃ m, k = m + 1 + 1 + 8 + 1 := ⟨k - 11, by omega⟩
  have hg : GMay (glist set 8) := of_decide_eq_true (gok_all ⟨set, hs⟩)
  have hl8 := glist_len set 8
  rw [herbariumlaw3_GapsAll.l0, if_pos (by omega)]
  have hbld := build set hs y0 y1 y2 8 0 (k + 1 + 1) (by omega)
  rw [show ((0 : Nat) : Int) = 0 from rfl] at hbld
  have hbld' : herbariumlaw3_GapsAll.l1 (k + 1 + 1 + 8) (set : Int) [] 0 y0 y1 y2 = _ := hbld
  rw [hbld']
  generalize glist set 8 = l at *
  obtain ⟨v, hv⟩ : ∃ v, v = Int.tmod (wrap64 (wrap64 ((y0.length : Int) * 5) + (set : Int))) 16 := ⟨_, rfl⟩
  have hvr : 0 ≤ v ∧ v < 16 := by
    rw [wrap_in ((y0.length : Int) * 5) (by omega) (by omega), wrap_in _ (by omega) (by omega), Int.tmod_eq_emod_of_nonneg (by omega)] at hv
    omega
  have hlen := gapsL_len hg hvr.1 hvr.2
  have hb := gapsL_bits v l
  have p1 := gput_eq [] IsBits.nil (by simp) v l (by omega)
  rw [if_pos ⟨hvr, hg⟩, if_pos (by rw [List.length_nil]; omega), List.nil_append] at p1
  have p1' : gaps_Put.f (⟨#[]⟩ : ByteArray) 0 v l = some (packS (gapsL v l), ((gapsL v l).length : Int), 0) := p1
  have p2 := gtake_whole [] [] IsBits.nil IsBits.nil v l hg hvr.1 hvr.2 (by simp; omega) (k + 1) (by omega)
  rw [List.nil_append, List.append_nil, List.length_nil] at p2
  have p3 := gsize_eq v l (by omega)
  rw [if_pos ⟨hvr, hg⟩] at p3
  rw [herbariumlaw3_GapsAll.l1, if_neg (by omega), ← hv, p1', Option.bind_some]
  simp only
  have p2' : gaps_Take.f (k + 1) (packS (gapsL v l)) ((gapsL v l).length : Int) 0 v = some (l, ((gapsL v l).length : Int), 0) := p2
  rw [p2', Option.bind_some]
  simp only
  rw [p3, Option.bind_some]
  simp only [herbariumlaw3_num.f, Option.bind_some]
  have hz : wrap64 (wrap64 (0 + 0) + 0) = 0 := by unfold wrap64; omega
  rw [if_pos hz, eqn_refl l (by omega) (k + 1) (by omega), Option.bind_some, if_pos trivial, if_pos trivial, if_pos rfl, refBits_eq _ _ (k + 1) (by omega), decide_eq_true (may_packS _ hb (by omega)), Option.bind_some, herbariumlaw3_GapsAll.j2, if_neg (by decide)]
  exact cuts (set : Int) (by omega) v hvr.1 hvr.2 l hg y0 y1 y2 K (by omega) hnext (gapsL v l).length 0 (by omega) (by omega) k (by omega)
theorem all (y0 : List (List Int)) (y1 : List S27) (y2 : List Int) (hy : y0.length * 24 ≤ 140737488351232) : ∀ (d set : Nat), set + d = 256 → ∃ K, 9000 ≤ K ∧ ∀ k, K ≤ k → herbariumlaw3_GapsAll.l0 k (set : Int) y0 y1 y2 = some true
  | 0, set, hs => by
    refine ⟨9000, Nat.le_refl _, fun k hk => ?_⟩
    obtain ⟨k, rfl⟩ : ∃ m, k = m + 1 := ⟨k - 1, by omega⟩
    rw [herbariumlaw3_GapsAll.l0, if_neg (by omega), at_rounds herbariumlaw3_wakes.mono (show 60 ≤ k by omega) wakes3]
    rfl
  | d + 1, set, hs => by
    obtain ⟨K, hK, h⟩ := all y0 y1 y2 hy d (set + 1) (by omega)
    rw [show ((set + 1 : Nat) : Int) = (set : Int) + 1 by omega] at h
    exact ⟨K + 2000, by omega, fun k hk => one set (by omega) y0 y1 y2 hy K hK h k hk⟩
end All
theorem GapsAll : ∀ (l0 : List (List Int)) (l1 : List S27) (l2 : List Int), Op.GoodI l0 → Op.GoodB l1 → Op.GoodN l2 → ∃ k, Q.herbariumlaw3_GapsAll.f k l0 l1 l2 = some true := by
  intro l0 l1 l2 g0 _ _
  have hr := g0.1
  unfold reachBytes at hr
  obtain ⟨K, _, h⟩ := All.all l0 l1 l2 (by omega) 256 0 (by omega)
  exact ⟨K, by unfold herbariumlaw3_GapsAll.f; exact h K (Nat.le_refl _)⟩
end Go.Proofs.Ytnpghcikhpglkaa.Pure
