/- What the row of BitsExact rests on, part 7 of 7: functions, contracts, plain laws. -/
import Derived.Test.YtnpghcikhpglkaaCBitsExact5
import Derived.Shelf.Small.Bits
import Derived.Shelf.Strconv.Itoa0
import Derived.Lib.ItoaNum
import Derived.StillTailTactics
import Derived.Deep.RegionHeld3
namespace Go.Proofs.Ytnpghcikhpglkaa.Q
open Go.RowKit Go.Proofs.YtnpghcikhpglkaaW.PrintWords Go.Proofs.YtnpghcikhpglkaaW.PrintLast Go.Proofs.YtnpghcikhpglkaaW.PrintMore Go.Proofs.Ytnpghcikhpglkaa.Hand Go.Proofs.Ytnpghcikhpglkaa.Pu
set_option linter.unusedVariables false
set_option linter.unusedSimpArgs false
theorem refbit_some (s : ByteArray) (n i : Int) (h0 : 0 ≤ i) (h1 : i < 8 * s.size) (h2 : i < 1073741824) : herbariumref1_bit.f s n i = some (bitOf s i) := by
  unfold herbariumref1_bit.f
  have e1 : wrap64 (Int.tdiv i 8) = i / 8 := by rw [tdiv8 i h0, wrap_in _ (by omega) (by omega)]
  have e2 : wrap64 (7 - Int.tmod i 8) = 7 - i % 8 := by rw [tmod8 i h0, wrap_in _ (by omega) (by omega)]
  rw [e1, e2, if_pos (by omega), if_pos (by omega), if_pos (by omega)]
  congr 1
  obtain ⟨b0, b1⟩ := bt_range s (i / 8)
  rw [wrap_in (bt s (i / 8)) (by omega) (by omega)]
  have hsh : shr .i64 (bt s (i / 8)) (7 - i % 8) = bt s (i / 8) / 2 ^ (7 - i % 8).toNat := by
    unfold shr
    rw [Nat.min_eq_left (by simp [IntKind.bits]; omega)]
  have hn := div_pow_nonneg (bt s (i / 8)) (7 - i % 8).toNat b0
  have hl := div_pow_le (bt s (i / 8)) (7 - i % 8).toNat b0
  rw [hsh, and_one _ hn (by omega)]
  rfl
def Tail0 (s : ByteArray) (n : Int) : Prop := ∀ i : Nat, n ≤ (i : Int) → (i : Int) < 8 * s.size → bitOf s (i : Int) = 0
theorem tail_l0 (s : ByteArray) (n : Int) (hs : s.size ≤ 1000) : ∀ (d i k : Nat), i + d = 8 * s.size → d + 1 ≤ k → ∃ r, herbariumref1_Bits.l0 k (i : Int) s n = some r ∧ (r = true ↔ Tail0 s (i : Int)) := by
  intro d
  induction d with
  | zero =>
    intro i k h hk
    obtain ⟨k, rfl⟩ : ∃ k', k = k' + 1 := ⟨k - 1, by omega⟩
    rw [herbariumref1_Bits.l0, wrap_in _ (by omega) (by omega), if_neg (by omega)]
    exact ⟨true, rfl, by simp only [true_iff]; intro j h1 h2; omega⟩
  | succ d ih =>
    intro i k h hk
    obtain ⟨k, rfl⟩ : ∃ k', k = k' + 1 := ⟨k - 1, by omega⟩
    rw [herbariumref1_Bits.l0, wrap_in (8 * (s.size : Int)) (by omega) (by omega), if_pos (by omega), refbit_some s n i (by omega) (by omega) (by omega), Option.bind_some, wrap_in _ (by omega) (by omega)]
    by_cases hb : bitOf s (i : Int) = 0
    · rw [if_pos hb]
      obtain ⟨r, h1, h2⟩ := ih (i + 1) k (by omega) (by omega)
      refine ⟨r, h1, h2.trans ⟨fun h j h3 h4 => ?_, fun h j h3 h4 => h j (by omega) h4⟩⟩
      by_cases hj : j = i
      · rw [hj]; exact hb
      · exact h j (by omega) h4
    · rw [if_neg hb]
      exact ⟨false, rfl, by simp only [Bool.false_eq_true, false_iff]; intro h; exact hb (h i (by omega) (by omega))⟩
theorem low_bits (b : Int) (r : Nat) (h0 : 1 ≤ r) (h1 : r ≤ 7) : b % 2 ^ (8 - r) = 0 ↔ ∀ j : Nat, r ≤ j → j < 8 → b / 2 ^ (7 - j) % 2 = 0 := by
  have hr : r = 1 ∨ r = 2 ∨ r = 3 ∨ r = 4 ∨ r = 5 ∨ r = 6 ∨ r = 7 := by omega
  constructor
  · intro h j h2 h3
    have hj : j = 1 ∨ j = 2 ∨ j = 3 ∨ j = 4 ∨ j = 5 ∨ j = 6 ∨ j = 7 := by omega
    rcases hr with rfl | rfl | rfl | rfl | rfl | rfl | rfl <;> rcases hj with rfl | rfl | rfl | rfl | rfl | rfl | rfl <;> first | (exfalso; omega) | (simp only [Nat.reduceSub, Int.reducePow] at h ⊢; omega)
  · intro h
    have h7 := h 7 (by omega) (by omega)
    have g : ∀ j : Nat, r ≤ j → j < 8 → b / 2 ^ (7 - j) % 2 = 0 := h
    rcases hr with rfl | rfl | rfl | rfl | rfl | rfl | rfl
    · have a1 := g 1 (by omega) (by omega); have a2 := g 2 (by omega) (by omega); have a3 := g 3 (by omega) (by omega); have a4 := g 4 (by omega) (by omega); have a5 := g 5 (by omega) (by omega); have a6 := g 6 (by omega) (by omega)
      clear g h; simp only [Nat.reduceSub, Int.reducePow] at *; omega
    · have a2 := g 2 (by omega) (by omega); have a3 := g 3 (by omega) (by omega); have a4 := g 4 (by omega) (by omega); have a5 := g 5 (by omega) (by omega); have a6 := g 6 (by omega) (by omega)
      clear g h; simp only [Nat.reduceSub, Int.reducePow] at *; omega
    · have a3 := g 3 (by omega) (by omega); have a4 := g 4 (by omega) (by omega); have a5 := g 5 (by omega) (by omega); have a6 := g 6 (by omega) (by omega)
      clear g h; simp only [Nat.reduceSub, Int.reducePow] at *; omega
    · have a4 := g 4 (by omega) (by omega); have a5 := g 5 (by omega) (by omega); have a6 := g 6 (by omega) (by omega)
      clear g h; simp only [Nat.reduceSub, Int.reducePow] at *; omega
    · have a5 := g 5 (by omega) (by omega); have a6 := g 6 (by omega) (by omega)
      clear g h; simp only [Nat.reduceSub, Int.reducePow] at *; omega
    · have a6 := g 6 (by omega) (by omega)
      clear g h; simp only [Nat.reduceSub, Int.reducePow] at *; omega
    · clear g h; simp only [Nat.reduceSub, Int.reducePow] at *; omega
theorem tail_iff (s : ByteArray) (n : Int) (h0 : 0 ≤ n) (h1 : n ≤ 6000) (h2 : (s.size : Int) = (n + 7) / 8) : Tail0 s n ↔ (n % 8 = 0 ∨ bt s ((s.size : Int) - 1) % 2 ^ (8 - n % 8).toNat = 0) := by
  by_cases h3 : n % 8 = 0
  · exact ⟨fun _ => .inl h3, fun _ i h4 h5 => by omega⟩
  · obtain ⟨m, rfl⟩ := Int.eq_ofNat_of_zero_le h0
    have hs : ((s.size : Int) - 1) = ((m / 8 : Nat) : Int) := by omega
    have hr : (8 - (m : Int) % 8).toNat = 8 - m % 8 := by omega
    rw [hs, hr, or_iff_right h3, low_bits _ (m % 8) (by omega) (by omega)]
    constructor
    · intro h j h4 h5
      have := h (8 * (m / 8) + j) (by omega) (by omega)
      rwa [bitOf_at s (m / 8) j h5] at this
    · intro h i h4 h5
      have e := bitOf_at s (m / 8) (i % 8) (by omega)
      rw [show 8 * (m / 8) + i % 8 = i by omega] at e
      rw [e]
      exact h (i % 8) (by omega) (by omega)
theorem refBits_eq (s : ByteArray) (n : Int) (k : Nat) (hk : 8100 ≤ k) : herbariumref1_Bits.f k s n = some (decide (MayP s n)) := by
  obtain ⟨k, rfl⟩ : ∃ k', k = k' + 1 := ⟨k - 1, by omega⟩
  unfold herbariumref1_Bits.f herbariumref0_Num.f
  by_cases h0 : n ≥ 0
  · rw [if_pos h0, Option.bind_some]
    by_cases h1 : n ≤ 6000
    · have hw : wrap64 (Int.tdiv (wrap64 (n + 7)) 8) = (n + 7) / 8 := by
        rw [wrap_in (n + 7) (by omega) (by omega), tdiv8 _ (by omega), wrap_in _ (by omega) (by omega)]
      rw [decide_eq_true h1, if_pos rfl, hw]
      by_cases h2 : (s.size : Int) = (n + 7) / 8
      · rw [show ((s.size : Int) != (n + 7) / 8) = false by simp [h2], herbariumref1_Bits.j0, if_neg (by decide)]
        obtain ⟨m, rfl⟩ := Int.eq_ofNat_of_zero_le h0
        obtain ⟨r, e1, e2⟩ := tail_l0 s (m : Int) (by omega) (8 * s.size - m) m k (by omega) (by omega)
        rw [e1]
        congr 1
        rw [tail_iff s (m : Int) h0 h1 h2] at e2
        rw [Bool.eq_iff_iff, decide_eq_true_iff, e2]
        exact ⟨fun h => ⟨h0, h1, h2, h⟩, fun h => h.2.2.2⟩
      · rw [show ((s.size : Int) != (n + 7) / 8) = true by simp [h2], herbariumref1_Bits.j0, if_pos rfl, decide_eq_false (fun h => h2 h.2.2.1)]
    · rw [decide_eq_false h1, if_neg (by decide), herbariumref1_Bits.j0, if_pos rfl, decide_eq_false (p := MayP s n) (fun h => h1 h.2.1)]
  · rw [if_neg h0, Option.bind_some, if_neg (by decide), herbariumref1_Bits.j0, if_pos rfl, decide_eq_false (p := MayP s n) (fun h => h0 h.1)]
end Go.Proofs.Ytnpghcikhpglkaa.Q
namespace Go.Proofs
open Go.Shelf
def Try.lays128_ren : Go.Shelf.Ren := ⟨fun | 128 => 128 | n => n, fun | 51 => 128 | 3 => 3 | 4 => 4 | 46 => 108 | 5 => 5 | 9 => 9 | n => n, fun | n => n⟩
theorem Try.lays128 : Go.Proofs.Lays.n128 Try.prog Try.lays128_ren := {
  mixed := by kernel_rfl
  f128 := Try.func128.trans (congrArg some (by kernel_rfl))
  t3 := Try.underlying3
  a3 := Try.isAgg3
  z3 := Try.sizeOf3
  v3 := Try.zeroValue3
  t4 := Try.underlying4
  a4 := Try.isAgg4
  z4 := Try.sizeOf4
  v4 := Try.zeroValue4
  t5 := Try.underlying5
  a5 := Try.isAgg5
  z5 := Try.sizeOf5
  v5 := Try.zeroValue5
  t9 := Try.underlying9
  a9 := Try.isAgg9
  z9 := Try.sizeOf9
  v9 := Try.zeroValue9
  t46 := Try.underlying108
  a46 := Try.isAgg108
  z46 := Try.sizeOf108
  v46 := Try.zeroValue108
  t51 := Try.underlying128
  a51 := Try.isAgg128
  z51 := Try.sizeOf128
  v51 := Try.zeroValue128 }
/-- bits.Len32: "Len32 returns the minimum number of bits required to represent x; the result is 0 for x == 0.": IT RETURNS 'Lib.bitLen x'; the world is as it was. ('h0', 'h1': x is a uint32.) (LAID: no walk: one application.) -/
theorem Try.bits_Len32 (x : Int) (w : World) (h0 : 0 ≤ x) (h1 : x ≤ 4294967295) :
    Calls Try.prog 128 #[.int .u32 x] w fun e w' => e = .returned (.int .i64 (Lib.bitLen x.toNat)) ∧ w' = w := Any.bits_Len32 Try.lays128 x w h0 h1
def Try.lays125_ren : Go.Shelf.Ren := ⟨fun | 125 => 125 | 128 => 128 | 129 => 129 | n => n, fun | 46 => 108 | 3 => 3 | 51 => 128 | 53 => 130 | 4 => 4 | 5 => 5 | 9 => 9 | n => n, fun | n => n⟩
theorem Try.lays125 : Go.Proofs.Lays.n125 Try.prog Try.lays125_ren := {
  mixed := by kernel_rfl
  f125 := Try.func125.trans (congrArg some (by kernel_rfl))
  f128 := Try.func128.trans (congrArg some (by kernel_rfl))
  f129 := Try.func129.trans (congrArg some (by kernel_rfl))
  t3 := Try.underlying3
  a3 := Try.isAgg3
  z3 := Try.sizeOf3
  v3 := Try.zeroValue3
  t4 := Try.underlying4
  a4 := Try.isAgg4
  z4 := Try.sizeOf4
  v4 := Try.zeroValue4
  t5 := Try.underlying5
  a5 := Try.isAgg5
  z5 := Try.sizeOf5
  v5 := Try.zeroValue5
  t9 := Try.underlying9
  a9 := Try.isAgg9
  z9 := Try.sizeOf9
  v9 := Try.zeroValue9
  t46 := Try.underlying108
  a46 := Try.isAgg108
  z46 := Try.sizeOf108
  v46 := Try.zeroValue108
  t51 := Try.underlying128
  a51 := Try.isAgg128
  z51 := Try.sizeOf128
  v51 := Try.zeroValue128
  t53 := Try.underlying130
  a53 := Try.isAgg130
  z53 := Try.sizeOf130
  v53 := Try.zeroValue130 }
/-- bits.Len: "Len returns the minimum number of bits required to represent x; the result is 0 for x == 0.": IT RETURNS 'Lib.bitLen x'; the world is as it was. (A uint has 64 bits in the model.) ITS CALLEE bits.Len64 IS MET BY ITS OWN CONTRACT OFF THE SHELF (lay that first). (LAID: no walk: one application.) -/
theorem Try.bits_Len (x : Int) (w : World) (h0 : 0 ≤ x) (h1 : x ≤ 18446744073709551615) :
    Calls Try.prog 125 #[.int .u64 x] w fun e w' => e = .returned (.int .i64 (Lib.bitLen x.toNat)) ∧ w' = w := Any.bits_Len Try.lays125 x w h0 h1
def Try.lays129_ren : Go.Shelf.Ren := ⟨fun | 129 => 129 | n => n, fun | 53 => 130 | 3 => 3 | 4 => 4 | 46 => 108 | 5 => 5 | 9 => 9 | n => n, fun | n => n⟩
theorem Try.lays129 : Go.Proofs.Lays.n129 Try.prog Try.lays129_ren := {
  mixed := by kernel_rfl
  f129 := Try.func129.trans (congrArg some (by kernel_rfl))
  t3 := Try.underlying3
  a3 := Try.isAgg3
  z3 := Try.sizeOf3
  v3 := Try.zeroValue3
  t4 := Try.underlying4
  a4 := Try.isAgg4
  z4 := Try.sizeOf4
  v4 := Try.zeroValue4
  t5 := Try.underlying5
  a5 := Try.isAgg5
  z5 := Try.sizeOf5
  v5 := Try.zeroValue5
  t9 := Try.underlying9
  a9 := Try.isAgg9
  z9 := Try.sizeOf9
  v9 := Try.zeroValue9
  t46 := Try.underlying108
  a46 := Try.isAgg108
  z46 := Try.sizeOf108
  v46 := Try.zeroValue108
  t53 := Try.underlying130
  a53 := Try.isAgg130
  z53 := Try.sizeOf130
  v53 := Try.zeroValue130 }
/-- bits.Len64: "Len64 returns the minimum number of bits required to represent x; the result is 0 for x == 0.": IT RETURNS 'Lib.bitLen x'; the world is as it was. ('h0', 'h1': x is a uint64.) (LAID: no walk: one application.) -/
theorem Try.bits_Len64 (x : Int) (w : World) (h0 : 0 ≤ x) (h1 : x ≤ 18446744073709551615) :
    Calls Try.prog 129 #[.int .u64 x] w fun e w' => e = .returned (.int .i64 (Lib.bitLen x.toNat)) ∧ w' = w := Any.bits_Len64 Try.lays129 x w h0 h1
end Go.Proofs
namespace Go.Proofs.Ytnpghcikhpglkaa.Q
open Go.RowKit Go.Proofs.YtnpghcikhpglkaaW.PrintWords
def bits_Len.f (a0 : Int) : Option (Int) := if 0 ≤ a0 ∧ a0 ≤ 18446744073709551615 then some (Lib.bitLen a0.toNat) else none
theorem bits_Len.calls (a0 : Int) (r : Int) (w : World) (h : bits_Len.f a0 = some r) :
    Calls Try.prog 125 #[.int .u64 a0] w fun e w' => e = .returned (.int .i64 r) ∧ Drawn0 w w' := by
  unfold bits_Len.f at h
  split at h
  · rename_i hc
    obtain rfl := Option.some.inj h
    exact (Try.bits_Len a0 w hc.1 hc.2).mono fun e w' ⟨h1, h2⟩ => ⟨h1, h2 ▸ Drawn0.refl w⟩
  · cases h
end Go.Proofs.Ytnpghcikhpglkaa.Q
namespace Go.Proofs.Ytnpghcikhpglkaa.Q
open Go.RowKit Go.Proofs.YtnpghcikhpglkaaW.PrintWords Go.Proofs.YtnpghcikhpglkaaW.PrintLast Go.Proofs.YtnpghcikhpglkaaW.PrintMore
attribute [local go_sem] max2_int min2_int max_two min_two max_three min_three max_four min_four   -- for this text's walks alone
set_option linter.unusedVariables false
set_option linter.unusedSimpArgs false

/-! ### code_log: function 117 -/
def code_log.f (a0 : Int) : Option (Int) := (bits_Len.f (IntKind.u64.wrap (a0))).bind fun t777 => (some (wrap64 (t777 - 1)))
set_option maxHeartbeats 8000000 in
set_option maxRecDepth 100000 in
theorem code_log.calls (a0 : Int) (r : Int) (w : World) (h : code_log.f a0 = some r) :
    Calls Try.prog 117 #[.int .i64 a0] w fun e w' => e = .returned (.int .i64 r) ∧ Drawn0 w w' := by
  have H : ((bits_Len.f (IntKind.u64.wrap (a0))).bind fun t777 => (some (wrap64 (t777 - 1)))) = some r := h
  clear h
  replace H := Option.bind_eq_some_iff.mp H
  obtain ⟨t777, A20, H⟩ := H
  replace H : (some (wrap64 (t777 - 1))) = some r := H
  have A2 := Aside0.mk A20
  clear A20
  obtain rfl := Option.some.inj H
  go_enter Try.func117, Try.ntmps117
  go_wp2_with (first | ((with_reducible refine gate_callee (f := 125) rfl ?_); refine goesL_ (some 5) rfl rfl Try.func125 (by kernel_rfl) rfl #[.int .u64 (IntKind.u64.wrap (a0))] rfl (by (try simp only [List.map_toArray, List.map_cons, List.map_nil]); first | done | rfl | (simp only [List.length_drop, List.length_take]; rfl)) ?_; (with_reducible refine (bits_Len.calls (IntKind.u64.wrap (a0)) t777 _ A2.out).mono ?_); rintro e w' ⟨rfl, ⟨nd, rfl⟩⟩; refine ⟨_, rfl, ?_⟩))
  go_ret
  exact ⟨by first | rfl | (simp; done) | (simp [*]; done), by repeat (first | exact Drawn0.refl _ | apply Drawn0.step)⟩
end Go.Proofs.Ytnpghcikhpglkaa.Q
namespace Go.Proofs.Ytnpghcikhpglkaa.Q
open Go.RowKit Go.Proofs.YtnpghcikhpglkaaW.PrintWords Go.Proofs.YtnpghcikhpglkaaW.PrintLast Go.Proofs.YtnpghcikhpglkaaW.PrintMore
attribute [local go_sem] max2_int min2_int max_two min_two max_three min_three max_four min_four   -- for this text's walks alone
set_option linter.unusedVariables false
set_option linter.unusedSimpArgs false

/-! ### code_zeta: function 119 -/
def code_zeta.f (a0 : Int) (a1 : Int) : Option (Int × Int × Int × Int) := if 0 ≤ (wrap64 (a1 * a0)) then (if 0 ≤ a0 then ((bits_Len.f (IntKind.u64.wrap (wrap64 ((wrap64 ((shl .i64 (shl .i64 1 (wrap64 (a1 * a0))) a0) - (shl .i64 1 (wrap64 (a1 * a0))))) - 1)))).bind fun t778 => (if 0 ≤ t778 then (some (shl .i64 1 (wrap64 (a1 * a0)), wrap64 ((shl .i64 (shl .i64 1 (wrap64 (a1 * a0))) a0) - (shl .i64 1 (wrap64 (a1 * a0)))), t778, wrap64 ((shl .i64 1 t778) - (wrap64 ((shl .i64 (shl .i64 1 (wrap64 (a1 * a0))) a0) - (shl .i64 1 (wrap64 (a1 * a0)))))))) else (none))) else (none)) else (none)
set_option maxHeartbeats 8000000 in
set_option maxRecDepth 100000 in
theorem code_zeta.calls (a0 : Int) (a1 : Int) (r1 : Int) (r2 : Int) (r3 : Int) (r4 : Int) (w : World) (h : code_zeta.f a0 a1 = some (r1, r2, r3, r4)) :
    Calls Try.prog 119 #[.int .i64 a0, .int .i64 a1] w fun e w' => e = .returned (.tuple #[.int .i64 r1, .int .i64 r2, .int .i64 r3, .int .i64 r4]) ∧ Drawn0 w w' := by
  have H : (if 0 ≤ (wrap64 (a1 * a0)) then (if 0 ≤ a0 then ((bits_Len.f (IntKind.u64.wrap (wrap64 ((wrap64 ((shl .i64 (shl .i64 1 (wrap64 (a1 * a0))) a0) - (shl .i64 1 (wrap64 (a1 * a0))))) - 1)))).bind fun t778 => (if 0 ≤ t778 then (some (shl .i64 1 (wrap64 (a1 * a0)), wrap64 ((shl .i64 (shl .i64 1 (wrap64 (a1 * a0))) a0) - (shl .i64 1 (wrap64 (a1 * a0)))), t778, wrap64 ((shl .i64 1 t778) - (wrap64 ((shl .i64 (shl .i64 1 (wrap64 (a1 * a0))) a0) - (shl .i64 1 (wrap64 (a1 * a0)))))))) else (none))) else (none)) else (none)) = some (r1, r2, r3, r4) := h
  clear h
  obtain ⟨ji3, hji3⟩ : ∃ j_ : Int, (wrap64 (a1 * a0)) = j_ := ⟨_, rfl⟩
  replace H : (if 0 ≤ (ji3) then (if 0 ≤ a0 then ((bits_Len.f (IntKind.u64.wrap (wrap64 ((wrap64 ((shl .i64 (shl .i64 1 (ji3)) a0) - (shl .i64 1 (ji3)))) - 1)))).bind fun t778 => (if 0 ≤ t778 then (some (shl .i64 1 (ji3), wrap64 ((shl .i64 (shl .i64 1 (ji3)) a0) - (shl .i64 1 (ji3))), t778, wrap64 ((shl .i64 1 t778) - (wrap64 ((shl .i64 (shl .i64 1 (ji3)) a0) - (shl .i64 1 (ji3))))))) else (none))) else (none)) else (none)) = some (r1, r2, r3, r4) := by first | (rw [hji3] at H; exact H) | (simp only [hji3] at H ⊢; exact H)
  have hji3w : (IntKind.i64.wrap (a1 * a0)) = ji3 := (i64_w _).trans hji3
  by_cases c4 : 0 ≤ (ji3)
  · rw [if_pos c4] at H
    have c4b0 := eq_true c4
    have c4b1 : decide (0 ≤ (ji3)) = true := decide_eq_true c4
    clear c4
    obtain ⟨ji5, hji5⟩ : ∃ j_ : Int, (shl .i64 1 (ji3)) = j_ := ⟨_, rfl⟩
    replace H : (if 0 ≤ a0 then ((bits_Len.f (IntKind.u64.wrap (wrap64 ((wrap64 ((shl .i64 (ji5) a0) - (ji5))) - 1)))).bind fun t778 => (if 0 ≤ t778 then (some (ji5, wrap64 ((shl .i64 (ji5) a0) - (ji5)), t778, wrap64 ((shl .i64 1 t778) - (wrap64 ((shl .i64 (ji5) a0) - (ji5)))))) else (none))) else (none)) = some (r1, r2, r3, r4) := by first | (rw [hji5] at H; exact H) | (simp only [hji5] at H ⊢; exact H)
    have hji5_ : (IntKind.i64.wrap (1 * 2 ^ min (ji3).toNat 64)) = ji5 := hji5
    have hji5z : (ji3) ≤ 64 → (IntKind.i64.wrap (1 * 2 ^ (ji3).toNat)) = ji5 := shl_small hji5
    have hji5u : (IntKind.i64.wrap (2 ^ min (ji3).toNat 64)) = ji5 := by have h_ := hji5_; rw [Int.one_mul] at h_; exact h_
    have hji5v : (ji3) ≤ 64 → (IntKind.i64.wrap (2 ^ (ji3).toNat)) = ji5 := fun hle_ => by have h_ := hji5z hle_; rw [Int.one_mul] at h_; exact h_
    have hji5y : (wrap64 (1 * 2 ^ min (ji3).toNat 64)) = ji5 := (i64_w _).symm.trans hji5_
    have hji5x : (ji3) ≤ 64 → (wrap64 (1 * 2 ^ (ji3).toNat)) = ji5 := fun h_ => (i64_w _).symm.trans (hji5z h_)
    by_cases c6 : 0 ≤ a0
    · rw [if_pos c6] at H
      have c6b0 := eq_true c6
      have c6b1 : decide (0 ≤ a0) = true := decide_eq_true c6
      clear c6
      obtain ⟨ji7, hji7⟩ : ∃ j_ : Int, (shl .i64 (ji5) a0) = j_ := ⟨_, rfl⟩
      replace H : ((bits_Len.f (IntKind.u64.wrap (wrap64 ((wrap64 ((ji7) - (ji5))) - 1)))).bind fun t778 => (if 0 ≤ t778 then (some (ji5, wrap64 ((ji7) - (ji5)), t778, wrap64 ((shl .i64 1 t778) - (wrap64 ((ji7) - (ji5)))))) else (none))) = some (r1, r2, r3, r4) := by first | (rw [hji7] at H; exact H) | (simp only [hji7] at H ⊢; exact H)
      have hji7_ : (IntKind.i64.wrap ((ji5) * 2 ^ min a0.toNat 64)) = ji7 := hji7
      have hji7z : a0 ≤ 64 → (IntKind.i64.wrap ((ji5) * 2 ^ a0.toNat)) = ji7 := shl_small hji7
      have hji7y : (wrap64 ((ji5) * 2 ^ min a0.toNat 64)) = ji7 := (i64_w _).symm.trans hji7_
      have hji7x : a0 ≤ 64 → (wrap64 ((ji5) * 2 ^ a0.toNat)) = ji7 := fun h_ => (i64_w _).symm.trans (hji7z h_)
      replace H := Option.bind_eq_some_iff.mp H
      obtain ⟨t778, A80, H⟩ := H
      replace H : (if 0 ≤ t778 then (some (ji5, wrap64 ((ji7) - (ji5)), t778, wrap64 ((shl .i64 1 t778) - (wrap64 ((ji7) - (ji5)))))) else (none)) = some (r1, r2, r3, r4) := H
      have A8 := Aside0.mk A80
      clear A80
      by_cases c9 : 0 ≤ t778
      · rw [if_pos c9] at H
        have c9b0 := eq_true c9
        have c9b1 : decide (0 ≤ t778) = true := decide_eq_true c9
        clear c9
        obtain ⟨ji10, hji10⟩ : ∃ j_ : Int, (shl .i64 1 t778) = j_ := ⟨_, rfl⟩
        replace H : (some (ji5, wrap64 ((ji7) - (ji5)), t778, wrap64 ((ji10) - (wrap64 ((ji7) - (ji5)))))) = some (r1, r2, r3, r4) := by first | (rw [hji10] at H; exact H) | (simp only [hji10] at H ⊢; exact H)
        (try rw [hji10] at A8)
        have hji10_ : (IntKind.i64.wrap (1 * 2 ^ min t778.toNat 64)) = ji10 := hji10
        have hji10z : t778 ≤ 64 → (IntKind.i64.wrap (1 * 2 ^ t778.toNat)) = ji10 := shl_small hji10
        have hji10u : (IntKind.i64.wrap (2 ^ min t778.toNat 64)) = ji10 := by have h_ := hji10_; rw [Int.one_mul] at h_; exact h_
        have hji10v : t778 ≤ 64 → (IntKind.i64.wrap (2 ^ t778.toNat)) = ji10 := fun hle_ => by have h_ := hji10z hle_; rw [Int.one_mul] at h_; exact h_
        have hji10y : (wrap64 (1 * 2 ^ min t778.toNat 64)) = ji10 := (i64_w _).symm.trans hji10_
        have hji10x : t778 ≤ 64 → (wrap64 (1 * 2 ^ t778.toNat)) = ji10 := fun h_ => (i64_w _).symm.trans (hji10z h_)
        simp only [Option.some.injEq, Prod.mk.injEq] at H
        obtain ⟨rfl, rfl, rfl, rfl⟩ := H
        go_enter Try.func119, Try.ntmps119
        go_wp2_with (first | (go_at_call 125; (with_reducible refine (bits_Len.calls (IntKind.u64.wrap (wrap64 ((wrap64 ((ji7) - (ji5))) - 1))) t778 _ A8.out).mono ?_); rintro e w' ⟨rfl, ⟨nd, rfl⟩⟩; (try first | exact ⟨rfl, _, World.drewN_drewN _ _ _⟩ | exact ⟨rfl, _, Eq.trans (World.drewN_drewN _ _ _) (congrArg (World.drewN _) (Nat.add_assoc _ _ _))⟩)))
        repeat (go_quiet (first | (go_at_call 125; (with_reducible refine (bits_Len.calls (IntKind.u64.wrap (wrap64 ((wrap64 ((ji7) - (ji5))) - 1))) t778 _ A8.out).mono ?_); rintro e w' ⟨rfl, ⟨nd, rfl⟩⟩; (try first | exact ⟨rfl, _, World.drewN_drewN _ _ _⟩ | exact ⟨rfl, _, Eq.trans (World.drewN_drewN _ _ _) (congrArg (World.drewN _) (Nat.add_assoc _ _ _))⟩))); try go_wp2_with (first | (go_at_call 125; (with_reducible refine (bits_Len.calls (IntKind.u64.wrap (wrap64 ((wrap64 ((ji7) - (ji5))) - 1))) t778 _ A8.out).mono ?_); rintro e w' ⟨rfl, ⟨nd, rfl⟩⟩; (try first | exact ⟨rfl, _, World.drewN_drewN _ _ _⟩ | exact ⟨rfl, _, Eq.trans (World.drewN_drewN _ _ _) (congrArg (World.drewN _) (Nat.add_assoc _ _ _))⟩))))
        refine bodyPost_ret (results_list (rs := [.tmp 4, .tmp 5, .tmp 6, .tmp 7]) rfl (by simp) (.tmp (.tmp (.tmp (.tmp .nil))))) rfl ?_
        exact ⟨by first | rfl | (simp; done) | (simp only [← hji3, ← hji5, ← hji7, ← hji10] <;> (first | rfl | simp)) | (simp [*]; done), by repeat (first | exact Drawn0.refl _ | apply Drawn0.step)⟩
      · rw [if_neg c9] at H
        exact absurd H (by simp)
    · rw [if_neg c6] at H
      exact absurd H (by simp)
  · rw [if_neg c4] at H
    exact absurd H (by simp)
end Go.Proofs.Ytnpghcikhpglkaa.Q
namespace Go.Proofs.Ytnpghcikhpglkaa.Q
open Go.RowKit Go.Proofs.YtnpghcikhpglkaaW.PrintWords Go.Proofs.YtnpghcikhpglkaaW.PrintLast Go.Proofs.YtnpghcikhpglkaaW.PrintMore Go.Proofs.Ytnpghcikhpglkaa.Hand Go.Proofs.Ytnpghcikhpglkaa.Pu
set_option linter.unusedVariables false
set_option linter.unusedSimpArgs false
/-- A row that holds these bits. -/
structure RowL (W : World) (base p : Nat) (l : List Int) : Prop where mk :: (out : RowIs W base p (packL l) (l.length : Int)) (bits : IsBits l)
theorem put_rowI (W : World) (base p : Nat) (l : List Int) (v k : Int) (hrow : RowL W base p l) (hv : 0 ≤ v) (hv2 : v < 2 ^ 62) (hk : 0 ≤ k) (hbd : (l.length : Int) + k ≤ 1073741824) (hbase : base ≤ W.heap.size) :
    Calls Try.prog 89 #[.pointer (some ⟨p, 0, none⟩), .int .i64 v, .int .i64 k] W fun e w' => e = .returned (.tuple #[]) ∧ RowL w' base p (l ++ putL k.toNat v) ∧ Below base W w' := by
  obtain ⟨k, rfl⟩ := Int.eq_ofNat_of_zero_le hk
  have h := row_put W base p (packL l) (l.length : Int) v k hrow.out (by omega) (by rw [packL_length]; omega) hbd hbase
  rw [rowPut_pack k v hv hv2 l hrow.bits] at h
  refine h.mono fun e w' ⟨h1, h2, h3⟩ => ⟨h1, ⟨h2, hrow.bits.append (putL_bits _ _)⟩, h3⟩
def unaryL (n : Int) : List Int := putL (n - 1).toNat 0 ++ putL 1 1
set_option maxHeartbeats 4000000 in
set_option maxRecDepth 100000 in
theorem lay_unary (W : World) (base p : Nat) (l : List Int) (n : Int) (hrow : RowL W base p l) (hn : 1 ≤ n) (hn2 : n ≤ 1000) (hlen : l.length ≤ 1000000) (hbase : base ≤ W.heap.size) :
    Calls Try.prog 104 #[.pointer (some ⟨p, 0, none⟩), .int .i64 1, .int .i64 n] W fun e w' => e = .returned (.tuple #[]) ∧ RowL w' base p (l ++ unaryL n) ∧ Below base W w' := by
  have HROW := Aside0.mk hrow
  have HB := Aside0.mk (Below.refl base W)
  have HBASE := Aside0.mk hbase
  clear hrow hbase
  go_enter Try.func104, Try.ntmps104
  go_wp2_with (first | (go_at_call 89; ((with_reducible refine (put_rowI _ base p _ _ _ HROW.out ?e1 ?e2 ?e3 ?e4 ?e5).mono ?_); (case e1 => omega); (case e2 => first | decide | omega); (case e3 => omega); (case e4 => first | omega | (simp only [List.length_append, putL_length]; omega)); (case e5 => exact Nat.le_trans HBASE.out HB.out.size); rintro e w3 ⟨rfl, hrow3, hb3⟩); have HB3 := Aside0.mk (HB.out.trans hb3); have HROW3 := Aside0.mk hrow3; clear hrow3 hb3 HROW HB; have HROW := HROW3; have HB := HB3; clear HROW3 HB3))
  go_end0
  exact ⟨rfl, by unfold unaryL; rw [← List.append_assoc]; exact HROW.out, HB.out⟩
theorem rowL_draw {W w' : World} {base p : Nat} {l : List Int} (h : RowL W base p l) (hd : Drawn0 W w') : RowL w' base p l := ⟨h.out.below hd.below, h.bits⟩
theorem below_draw {W W1 w' : World} {base : Nat} (hB : Below base W W1) (hbase : base ≤ W.heap.size) (hd : Drawn0 W1 w') : Below base W w' := hB.trans (hd.below.mono (Nat.le_trans hbase hB.size))
/-- How many bits a number has, less one. -/
def lg (n : Int) : Int := (Lib.bitLen n.toNat : Int) - 1
theorem lg_facts (n : Int) (h0 : 1 ≤ n) (h1 : n ≤ 1073741824) : code_log.f n = some (lg n) ∧ 0 ≤ lg n ∧ lg n ≤ 30 ∧ (2 : Int) ^ (lg n).toNat ≤ n ∧ n < 2 ^ ((lg n).toNat + 1) := by
  obtain ⟨m, rfl⟩ := Int.eq_ofNat_of_zero_le (show 0 ≤ n by omega)
  have hb := Lib.bitLenAux_bounds 64 m (by omega) (by omega)
  have hb1 : 1 ≤ Lib.bitLen m := hb.1
  have hb2 : 2 ^ (Lib.bitLen m - 1) ≤ m := hb.2.1
  have hb3 : m < 2 ^ Lib.bitLen m := hb.2.2
  have hb4 : Lib.bitLen m ≤ 31 := Lib.bitLen_le m 31 (by omega) (by omega)
  have e : lg (m : Int) = ((Lib.bitLen m - 1 : Nat) : Int) := by unfold lg; rw [Int.toNat_natCast]; omega
  refine ⟨?_, by omega, by omega, ?_, ?_⟩
  · unfold code_log.f
    have hw : IntKind.u64.wrap (m : Int) = (m : Int) := by simp [IntKind.wrap, IntKind.bits, IntKind.signed]; omega
    rw [hw]
    unfold bits_Len.f
    rw [if_pos ⟨by omega, by omega⟩, Option.bind_some, Int.toNat_natCast, wrap_in _ (by omega) (by omega)]
    rfl
  · rw [e, Int.toNat_natCast]; exact_mod_cast hb2
  · rw [e, Int.toNat_natCast, show Lib.bitLen m - 1 + 1 = Lib.bitLen m by omega]; exact_mod_cast hb3
def gammaL (n : Int) : List Int := putL (lg n).toNat 0 ++ putL (lg n + 1).toNat n
def deltaL (n : Int) : List Int := gammaL (lg n + 1) ++ putL (lg n).toNat n
theorem gammaL_length (n : Int) : (gammaL n).length = (lg n).toNat + (lg n + 1).toNat := by simp [gammaL, putL_length]
theorem unaryL_length (n : Int) (h : 1 ≤ n) : (unaryL n).length = n.toNat := by simp [unaryL, putL_length]; omega
set_option maxHeartbeats 4000000 in
set_option maxRecDepth 100000 in
theorem lay_gamma (W : World) (base p : Nat) (l : List Int) (n : Int) (hrow : RowL W base p l) (hn : 1 ≤ n) (hn2 : n ≤ 1073741824) (hlen : l.length ≤ 1000000) (hbase : base ≤ W.heap.size) :
    Calls Try.prog 104 #[.pointer (some ⟨p, 0, none⟩), .int .i64 2, .int .i64 n] W fun e w' => e = .returned (.tuple #[]) ∧ RowL w' base p (l ++ gammaL n) ∧ Below base W w' := by
  have HROW := Aside0.mk hrow
  have HB := Aside0.mk (Below.refl base W)
  have HBASE := Aside0.mk hbase
  obtain ⟨hlog, hg0, hg1, _, _⟩ := lg_facts n hn hn2
  have HG : Aside0 (gammaL n = putL (lg n).toNat 0 ++ putL (lg n + 1).toNat n) := ⟨rfl⟩
  generalize lg n = g at *
  have HLOG := Aside0.mk hlog
  clear hrow hbase hlog
  go_enter Try.func104, Try.ntmps104
  go_wp2_with (first | (go_at_call 117; (with_reducible refine (code_log.calls n g _ HLOG.out).mono ?_); rintro e w3 ⟨rfl, hd3⟩; have HROW3 := Aside0.mk (rowL_draw HROW.out hd3); have HB3 := Aside0.mk (below_draw HB.out HBASE.out hd3); clear hd3 HROW HB; have HROW := HROW3; have HB := HB3; clear HROW3 HB3) | (go_at_call 89; ((with_reducible refine (put_rowI _ base p _ _ _ HROW.out ?e1 ?e2 ?e3 ?e4 ?e5).mono ?_); (case e1 => omega); (case e2 => first | decide | omega); (case e3 => omega); (case e4 => first | omega | (simp only [List.length_append, putL_length]; omega)); (case e5 => exact Nat.le_trans HBASE.out HB.out.size); rintro e w3 ⟨rfl, hrow3, hb3⟩); have HB3 := Aside0.mk (HB.out.trans hb3); have HROW3 := Aside0.mk hrow3; clear hrow3 hb3 HROW HB; have HROW := HROW3; have HB := HB3; clear HROW3 HB3))
  go_end0
  exact ⟨rfl, by rw [HG.out, ← List.append_assoc]; exact HROW.out, HB.out⟩
set_option maxHeartbeats 4000000 in
set_option maxRecDepth 100000 in
theorem lay_delta (W : World) (base p : Nat) (l : List Int) (n : Int) (hrow : RowL W base p l) (hn : 1 ≤ n) (hn2 : n ≤ 1073741824) (hlen : l.length ≤ 900000) (hbase : base ≤ W.heap.size) :
    Calls Try.prog 104 #[.pointer (some ⟨p, 0, none⟩), .int .i64 3, .int .i64 n] W fun e w' => e = .returned (.tuple #[]) ∧ RowL w' base p (l ++ deltaL n) ∧ Below base W w' := by
  have HROW := Aside0.mk hrow
  have HB := Aside0.mk (Below.refl base W)
  have HBASE := Aside0.mk hbase
  obtain ⟨hlog, hg0, hg1, _, _⟩ := lg_facts n hn hn2
  have HG : Aside0 (deltaL n = gammaL (lg n + 1) ++ putL (lg n).toNat n) := ⟨rfl⟩
  have HL := gammaL_length (lg n + 1)
  have hgg := (lg_facts (lg n + 1) (by omega) (by omega)).2.2.1
  have hgl : (gammaL (lg n + 1)).length ≤ 100 := by omega
  clear HL hgg
  generalize lg n = g at *
  have HLOG := Aside0.mk hlog
  clear hrow hbase hlog
  go_enter Try.func104, Try.ntmps104
  go_wp2_with (first | (go_at_call 117; (with_reducible refine (code_log.calls n g _ HLOG.out).mono ?_); rintro e w3 ⟨rfl, hd3⟩; have HROW3 := Aside0.mk (rowL_draw HROW.out hd3); have HB3 := Aside0.mk (below_draw HB.out HBASE.out hd3); clear hd3 HROW HB; have HROW := HROW3; have HB := HB3; clear HROW3 HB3) | (go_at_call 104; ((with_reducible refine (lay_gamma _ base p _ _ HROW.out ?e1 ?e2 ?e3 ?e4).mono ?_); (case e1 => omega); (case e2 => omega); (case e3 => first | omega | (simp only [List.length_append, putL_length]; omega)); (case e4 => exact Nat.le_trans HBASE.out HB.out.size); rintro e w3 ⟨rfl, hrow3, hb3⟩); have HB3 := Aside0.mk (HB.out.trans hb3); have HROW3 := Aside0.mk hrow3; clear hrow3 hb3 HROW HB; have HROW := HROW3; have HB := HB3; clear HROW3 HB3) | (go_at_call 89; ((with_reducible refine (put_rowI _ base p _ _ _ HROW.out ?e1 ?e2 ?e3 ?e4 ?e5).mono ?_); (case e1 => omega); (case e2 => first | decide | omega); (case e3 => omega); (case e4 => first | omega | (simp only [List.length_append, putL_length]; omega)); (case e5 => exact Nat.le_trans HBASE.out HB.out.size); rintro e w3 ⟨rfl, hrow3, hb3⟩); have HB3 := Aside0.mk (HB.out.trans hb3); have HROW3 := Aside0.mk hrow3; clear hrow3 hb3 HROW HB; have HROW := HROW3; have HB := HB3; clear HROW3 HB3))
  go_end0
  exact ⟨rfl, by rw [HG.out, ← List.append_assoc]; exact HROW.out, HB.out⟩
theorem parts4 : code_parts.f 4 = some 2 := by decide +kernel
set_option maxHeartbeats 4000000 in
set_option maxRecDepth 100000 in
theorem lay_zeta2 (W : World) (base p : Nat) (l : List Int) (n g low many size short : Int) (c : List Int) (hrow : RowL W base p l) (hn : 1 ≤ n) (hn2 : n ≤ 1073741824) (hlen : l.length ≤ 900000) (hbase : base ≤ W.heap.size)
    (hlog : code_log.f n = some g) (hg0 : 0 ≤ g) (hg1 : g ≤ 30) (hz : code_zeta.f 2 (Int.tdiv g 2) = some (low, many, size, short)) (hlow0 : 0 ≤ low) (hlow : low ≤ n) (hs : 1 ≤ size) (hs2 : size ≤ 64) (hsh0 : 0 ≤ short) (hsh : short ≤ 4611686017353646080)
    (hc : c = unaryL (Int.tdiv g 2 + 1) ++ (if n - low < short then putL (size - 1).toNat (n - low) else putL size.toNat (n - low + short))) :
    Calls Try.prog 104 #[.pointer (some ⟨p, 0, none⟩), .int .i64 4, .int .i64 n] W fun e w' => e = .returned (.tuple #[]) ∧ RowL w' base p (l ++ c) ∧ Below base W w' := by
  have HROW := Aside0.mk hrow
  have HB := Aside0.mk (Below.refl base W)
  have HBASE := Aside0.mk hbase
  have HLOG := Aside0.mk hlog
  have HZ := Aside0.mk hz
  have HC := Aside0.mk hc
  have HP := Aside0.mk parts4
  have hh0 : 0 ≤ Int.tdiv g 2 ∧ Int.tdiv g 2 ≤ 30 := by rw [Int.tdiv_eq_ediv_of_nonneg hg0]; omega
  have hul : (unaryL (Int.tdiv g 2 + 1)).length ≤ 100 := by rw [unaryL_length _ (by omega)]; omega
  clear hrow hbase hlog hz hc
  by_cases hlt : n - low < short
  · have HC2 := Aside0.mk (HC.out.trans (by rw [if_pos hlt]))
    go_enter Try.func104, Try.ntmps104
    go_wp2_with (first | (go_at_call 117; (with_reducible refine (code_log.calls n g _ HLOG.out).mono ?_); rintro e w3 ⟨rfl, hd3⟩; have HROW3 := Aside0.mk (rowL_draw HROW.out hd3); have HB3 := Aside0.mk (below_draw HB.out HBASE.out hd3); clear hd3 HROW HB; have HROW := HROW3; have HB := HB3; clear HROW3 HB3) | (go_at_call 118; (with_reducible refine (code_parts.calls 4 2 _ HP.out).mono ?_); rintro e w3 ⟨rfl, hd3⟩; have HROW3 := Aside0.mk (rowL_draw HROW.out hd3); have HB3 := Aside0.mk (below_draw HB.out HBASE.out hd3); clear hd3 HROW HB; have HROW := HROW3; have HB := HB3; clear HROW3 HB3) | (go_at_call 119; (with_reducible refine (code_zeta.calls 2 (Int.tdiv g 2) low many size short _ HZ.out).mono ?_); rintro e w3 ⟨rfl, hd3⟩; have HROW3 := Aside0.mk (rowL_draw HROW.out hd3); have HB3 := Aside0.mk (below_draw HB.out HBASE.out hd3); clear hd3 HROW HB; have HROW := HROW3; have HB := HB3; clear HROW3 HB3) | (go_at_call 104; ((with_reducible refine (lay_unary _ base p _ _ HROW.out ?e1 ?e2 ?e3 ?e4).mono ?_); (case e1 => omega); (case e2 => omega); (case e3 => first | omega | (simp only [List.length_append, putL_length]; omega)); (case e4 => exact Nat.le_trans HBASE.out HB.out.size); rintro e w3 ⟨rfl, hrow3, hb3⟩); have HB3 := Aside0.mk (HB.out.trans hb3); have HROW3 := Aside0.mk hrow3; clear hrow3 hb3 HROW HB; have HROW := HROW3; have HB := HB3; clear HROW3 HB3) | (go_at_call 89; ((with_reducible refine (put_rowI _ base p _ _ _ HROW.out ?e1 ?e2 ?e3 ?e4 ?e5).mono ?_); (case e1 => omega); (case e2 => first | decide | omega); (case e3 => omega); (case e4 => first | omega | (simp only [List.length_append, putL_length]; omega)); (case e5 => exact Nat.le_trans HBASE.out HB.out.size); rintro e w3 ⟨rfl, hrow3, hb3⟩); have HB3 := Aside0.mk (HB.out.trans hb3); have HROW3 := Aside0.mk hrow3; clear hrow3 hb3 HROW HB; have HROW := HROW3; have HB := HB3; clear HROW3 HB3))
    go_end0
    exact ⟨rfl, by rw [HC2.out, ← List.append_assoc]; exact HROW.out, HB.out⟩
  · have HC2 := Aside0.mk (HC.out.trans (by rw [if_neg hlt]))
    go_enter Try.func104, Try.ntmps104
    go_wp2_with (first | (go_at_call 117; (with_reducible refine (code_log.calls n g _ HLOG.out).mono ?_); rintro e w3 ⟨rfl, hd3⟩; have HROW3 := Aside0.mk (rowL_draw HROW.out hd3); have HB3 := Aside0.mk (below_draw HB.out HBASE.out hd3); clear hd3 HROW HB; have HROW := HROW3; have HB := HB3; clear HROW3 HB3) | (go_at_call 118; (with_reducible refine (code_parts.calls 4 2 _ HP.out).mono ?_); rintro e w3 ⟨rfl, hd3⟩; have HROW3 := Aside0.mk (rowL_draw HROW.out hd3); have HB3 := Aside0.mk (below_draw HB.out HBASE.out hd3); clear hd3 HROW HB; have HROW := HROW3; have HB := HB3; clear HROW3 HB3) | (go_at_call 119; (with_reducible refine (code_zeta.calls 2 (Int.tdiv g 2) low many size short _ HZ.out).mono ?_); rintro e w3 ⟨rfl, hd3⟩; have HROW3 := Aside0.mk (rowL_draw HROW.out hd3); have HB3 := Aside0.mk (below_draw HB.out HBASE.out hd3); clear hd3 HROW HB; have HROW := HROW3; have HB := HB3; clear HROW3 HB3) | (go_at_call 104; ((with_reducible refine (lay_unary _ base p _ _ HROW.out ?e1 ?e2 ?e3 ?e4).mono ?_); (case e1 => omega); (case e2 => omega); (case e3 => first | omega | (simp only [List.length_append, putL_length]; omega)); (case e4 => exact Nat.le_trans HBASE.out HB.out.size); rintro e w3 ⟨rfl, hrow3, hb3⟩); have HB3 := Aside0.mk (HB.out.trans hb3); have HROW3 := Aside0.mk hrow3; clear hrow3 hb3 HROW HB; have HROW := HROW3; have HB := HB3; clear HROW3 HB3) | (go_at_call 89; ((with_reducible refine (put_rowI _ base p _ _ _ HROW.out ?e1 ?e2 ?e3 ?e4 ?e5).mono ?_); (case e1 => omega); (case e2 => first | decide | omega); (case e3 => omega); (case e4 => first | omega | (simp only [List.length_append, putL_length]; omega)); (case e5 => exact Nat.le_trans HBASE.out HB.out.size); rintro e w3 ⟨rfl, hrow3, hb3⟩); have HB3 := Aside0.mk (HB.out.trans hb3); have HROW3 := Aside0.mk hrow3; clear hrow3 hb3 HROW HB; have HROW := HROW3; have HB := HB3; clear HROW3 HB3))
    go_end0
    exact ⟨rfl, by rw [HC2.out, ← List.append_assoc]; exact HROW.out, HB.out⟩
theorem parts5 : code_parts.f 5 = some 3 := by decide +kernel
set_option maxHeartbeats 4000000 in
set_option maxRecDepth 100000 in
theorem lay_zeta3 (W : World) (base p : Nat) (l : List Int) (n g low many size short : Int) (c : List Int) (hrow : RowL W base p l) (hn : 1 ≤ n) (hn2 : n ≤ 1073741824) (hlen : l.length ≤ 900000) (hbase : base ≤ W.heap.size)
    (hlog : code_log.f n = some g) (hg0 : 0 ≤ g) (hg1 : g ≤ 30) (hz : code_zeta.f 3 (Int.tdiv g 3) = some (low, many, size, short)) (hlow0 : 0 ≤ low) (hlow : low ≤ n) (hs : 1 ≤ size) (hs2 : size ≤ 64) (hsh0 : 0 ≤ short) (hsh : short ≤ 4611686017353646080)
    (hc : c = unaryL (Int.tdiv g 3 + 1) ++ (if n - low < short then putL (size - 1).toNat (n - low) else putL size.toNat (n - low + short))) :
    Calls Try.prog 104 #[.pointer (some ⟨p, 0, none⟩), .int .i64 5, .int .i64 n] W fun e w' => e = .returned (.tuple #[]) ∧ RowL w' base p (l ++ c) ∧ Below base W w' := by
  have HROW := Aside0.mk hrow
  have HB := Aside0.mk (Below.refl base W)
  have HBASE := Aside0.mk hbase
  have HLOG := Aside0.mk hlog
  have HZ := Aside0.mk hz
  have HC := Aside0.mk hc
  have HP := Aside0.mk parts5
  have hh0 : 0 ≤ Int.tdiv g 3 ∧ Int.tdiv g 3 ≤ 30 := by rw [Int.tdiv_eq_ediv_of_nonneg hg0]; omega
  have hul : (unaryL (Int.tdiv g 3 + 1)).length ≤ 100 := by rw [unaryL_length _ (by omega)]; omega
  clear hrow hbase hlog hz hc
  by_cases hlt : n - low < short
  · have HC2 := Aside0.mk (HC.out.trans (by rw [if_pos hlt]))
    go_enter Try.func104, Try.ntmps104
    go_wp2_with (first | (go_at_call 117; (with_reducible refine (code_log.calls n g _ HLOG.out).mono ?_); rintro e w3 ⟨rfl, hd3⟩; have HROW3 := Aside0.mk (rowL_draw HROW.out hd3); have HB3 := Aside0.mk (below_draw HB.out HBASE.out hd3); clear hd3 HROW HB; have HROW := HROW3; have HB := HB3; clear HROW3 HB3) | (go_at_call 118; (with_reducible refine (code_parts.calls 5 3 _ HP.out).mono ?_); rintro e w3 ⟨rfl, hd3⟩; have HROW3 := Aside0.mk (rowL_draw HROW.out hd3); have HB3 := Aside0.mk (below_draw HB.out HBASE.out hd3); clear hd3 HROW HB; have HROW := HROW3; have HB := HB3; clear HROW3 HB3) | (go_at_call 119; (with_reducible refine (code_zeta.calls 3 (Int.tdiv g 3) low many size short _ HZ.out).mono ?_); rintro e w3 ⟨rfl, hd3⟩; have HROW3 := Aside0.mk (rowL_draw HROW.out hd3); have HB3 := Aside0.mk (below_draw HB.out HBASE.out hd3); clear hd3 HROW HB; have HROW := HROW3; have HB := HB3; clear HROW3 HB3) | (go_at_call 104; ((with_reducible refine (lay_unary _ base p _ _ HROW.out ?e1 ?e2 ?e3 ?e4).mono ?_); (case e1 => omega); (case e2 => omega); (case e3 => first | omega | (simp only [List.length_append, putL_length]; omega)); (case e4 => exact Nat.le_trans HBASE.out HB.out.size); rintro e w3 ⟨rfl, hrow3, hb3⟩); have HB3 := Aside0.mk (HB.out.trans hb3); have HROW3 := Aside0.mk hrow3; clear hrow3 hb3 HROW HB; have HROW := HROW3; have HB := HB3; clear HROW3 HB3) | (go_at_call 89; ((with_reducible refine (put_rowI _ base p _ _ _ HROW.out ?e1 ?e2 ?e3 ?e4 ?e5).mono ?_); (case e1 => omega); (case e2 => first | decide | omega); (case e3 => omega); (case e4 => first | omega | (simp only [List.length_append, putL_length]; omega)); (case e5 => exact Nat.le_trans HBASE.out HB.out.size); rintro e w3 ⟨rfl, hrow3, hb3⟩); have HB3 := Aside0.mk (HB.out.trans hb3); have HROW3 := Aside0.mk hrow3; clear hrow3 hb3 HROW HB; have HROW := HROW3; have HB := HB3; clear HROW3 HB3))
    go_end0
    exact ⟨rfl, by rw [HC2.out, ← List.append_assoc]; exact HROW.out, HB.out⟩
  · have HC2 := Aside0.mk (HC.out.trans (by rw [if_neg hlt]))
    go_enter Try.func104, Try.ntmps104
    go_wp2_with (first | (go_at_call 117; (with_reducible refine (code_log.calls n g _ HLOG.out).mono ?_); rintro e w3 ⟨rfl, hd3⟩; have HROW3 := Aside0.mk (rowL_draw HROW.out hd3); have HB3 := Aside0.mk (below_draw HB.out HBASE.out hd3); clear hd3 HROW HB; have HROW := HROW3; have HB := HB3; clear HROW3 HB3) | (go_at_call 118; (with_reducible refine (code_parts.calls 5 3 _ HP.out).mono ?_); rintro e w3 ⟨rfl, hd3⟩; have HROW3 := Aside0.mk (rowL_draw HROW.out hd3); have HB3 := Aside0.mk (below_draw HB.out HBASE.out hd3); clear hd3 HROW HB; have HROW := HROW3; have HB := HB3; clear HROW3 HB3) | (go_at_call 119; (with_reducible refine (code_zeta.calls 3 (Int.tdiv g 3) low many size short _ HZ.out).mono ?_); rintro e w3 ⟨rfl, hd3⟩; have HROW3 := Aside0.mk (rowL_draw HROW.out hd3); have HB3 := Aside0.mk (below_draw HB.out HBASE.out hd3); clear hd3 HROW HB; have HROW := HROW3; have HB := HB3; clear HROW3 HB3) | (go_at_call 104; ((with_reducible refine (lay_unary _ base p _ _ HROW.out ?e1 ?e2 ?e3 ?e4).mono ?_); (case e1 => omega); (case e2 => omega); (case e3 => first | omega | (simp only [List.length_append, putL_length]; omega)); (case e4 => exact Nat.le_trans HBASE.out HB.out.size); rintro e w3 ⟨rfl, hrow3, hb3⟩); have HB3 := Aside0.mk (HB.out.trans hb3); have HROW3 := Aside0.mk hrow3; clear hrow3 hb3 HROW HB; have HROW := HROW3; have HB := HB3; clear HROW3 HB3) | (go_at_call 89; ((with_reducible refine (put_rowI _ base p _ _ _ HROW.out ?e1 ?e2 ?e3 ?e4 ?e5).mono ?_); (case e1 => omega); (case e2 => first | decide | omega); (case e3 => omega); (case e4 => first | omega | (simp only [List.length_append, putL_length]; omega)); (case e5 => exact Nat.le_trans HBASE.out HB.out.size); rintro e w3 ⟨rfl, hrow3, hb3⟩); have HB3 := Aside0.mk (HB.out.trans hb3); have HROW3 := Aside0.mk hrow3; clear hrow3 hb3 HROW HB; have HROW := HROW3; have HB := HB3; clear HROW3 HB3))
    go_end0
    exact ⟨rfl, by rw [HC2.out, ← List.append_assoc]; exact HROW.out, HB.out⟩
end Go.Proofs.Ytnpghcikhpglkaa.Q
namespace Go.Proofs.Ytnpghcikhpglkaa.Q
open Go.RowKit Go.Proofs.YtnpghcikhpglkaaW.PrintWords Go.Proofs.YtnpghcikhpglkaaW.PrintLast Go.Proofs.YtnpghcikhpglkaaW.PrintMore Go.Proofs.Ytnpghcikhpglkaa.Hand Go.Proofs.Ytnpghcikhpglkaa.Pu
set_option linter.unusedVariables false
set_option linter.unusedSimpArgs false
theorem rowL_from {W : World} {base p : Nat} {s : ByteArray} {n : Int} (hm : MayP s n) (h : RowIs W base p (bytesI s) n) : RowL W base p (ofS s n) := by
  refine ⟨?_, ofS_bits s n⟩
  rw [pack_ofS s n hm, ofS_length, Int.toNat_of_nonneg hm.1]
  exact h
/-- What laying a number's code does. -/
@[reducible] def LayP (kind v : Int) (c : List Int) : Prop := ∀ (W : World) (base p : Nat) (l : List Int), RowL W base p l → l.length ≤ 6000 → base ≤ W.heap.size →
    Calls Try.prog 104 #[.pointer (some ⟨p, 0, none⟩), .int .i64 kind, .int .i64 v] W fun e w' => e = .returned (.tuple #[]) ∧ RowL w' base p (l ++ c) ∧ Below base W w'
set_option maxHeartbeats 4000000 in
set_option maxRecDepth 100000 in
theorem cput_no1 (s : ByteArray) (n kind v : Int) (w : World) (hm : ¬ MayP s n) :
    Calls Try.prog 58 #[.agg #[.string s, .int .i64 n], .int .i64 kind, .int .i64 v] w fun e w' => e = .returned (.tuple #[.agg #[.string ⟨#[]⟩, .int .i64 0], .int .i64 1]) ∧ Below w.heap.size w w' := by
  have hu := Try.underlying27
  have HS := Aside0.mk (start2 w (.cells #[.string s, .int .i64 n] 27) (.cells #[.string ⟨#[]⟩, .int .i64 0] 27))
  have HA := Aside0.mk HS.out.1
  have HR := Aside0.mk HS.out.2.1
  have HB := Aside0.mk HS.out.2.2.1
  clear HS
  have A := Aside0.mk (show bits_May.f s n = some false by rw [may_eq, decide_eq_false hm])
  clear hm
  go_enter Try.func58, Try.ntmps58
  go_wp2_with (first | ((with_reducible refine gate_callee (f := 86) rfl ?_); refine goesL_ (some 10) rfl rfl Try.func86 (by kernel_rfl) rfl #[.agg #[.string s, .int .i64 n]] rfl (by (try simp only [List.map_toArray, List.map_cons, List.map_nil]); first | done | rfl) ?_; (with_reducible refine (bits_May.calls s n false _ A.out).mono ?_); rintro e w3 ⟨rfl, hb3⟩; refine ⟨_, rfl, ?_⟩; have HAA := Aside0.mk (keep2 HA.out hb3 (blk_lt HA.out)); have HRR := Aside0.mk (keep2 HR.out hb3 (blk_lt HR.out)); have HBB := Aside0.mk (below_then HB.out HB.out.size hb3); (try clear a0 a1 g0 g1 c0 c1 f0 f1); clear HA HR HB; have HA := HAA; have HR := HRR; have HB := HBB; clear HAA HRR HBB; obtain ⟨a0, a1, g0, g1⟩ := two_cells HA.out; obtain ⟨c0, c1, f0, f1⟩ := two_cells HR.out; clear hb3))
  refine bodyPost_ret (results_list (rs := [.cell 6 27, .tmp 7]) rfl (by simp) (.cell (w.heap.size + 1) 27 #[.string ⟨#[]⟩, .int .i64 0] (0, 0) _ rfl (put2 HR.out) Try.underlying27 rfl (by kernel_rfl) (.tmp .nil))) rfl ⟨rfl, below_put2 HB.out (by omega) _ _⟩
set_option maxHeartbeats 4000000 in
set_option maxRecDepth 100000 in
theorem cput_no2 (s : ByteArray) (n kind v : Int) (w : World) (hm : MayP s n) (hi : code_Is.f kind = some false) :
    Calls Try.prog 58 #[.agg #[.string s, .int .i64 n], .int .i64 kind, .int .i64 v] w fun e w' => e = .returned (.tuple #[.agg #[.string ⟨#[]⟩, .int .i64 0], .int .i64 1]) ∧ Below w.heap.size w w' := by
  have hu := Try.underlying27
  have HS := Aside0.mk (start2 w (.cells #[.string s, .int .i64 n] 27) (.cells #[.string ⟨#[]⟩, .int .i64 0] 27))
  have HA := Aside0.mk HS.out.1
  have HR := Aside0.mk HS.out.2.1
  have HB := Aside0.mk HS.out.2.2.1
  clear HS
  have A := Aside0.mk (show bits_May.f s n = some true by rw [may_eq, decide_eq_true hm])
  have AI := Aside0.mk hi
  clear hm hi
  go_enter Try.func58, Try.ntmps58
  go_wp2_with (first | ((with_reducible refine gate_callee (f := 86) rfl ?_); refine goesL_ (some 10) rfl rfl Try.func86 (by kernel_rfl) rfl #[.agg #[.string s, .int .i64 n]] rfl (by (try simp only [List.map_toArray, List.map_cons, List.map_nil]); first | done | rfl) ?_; (with_reducible refine (bits_May.calls s n true _ A.out).mono ?_); rintro e w3 ⟨rfl, hb3⟩; refine ⟨_, rfl, ?_⟩; have HAA := Aside0.mk (keep2 HA.out hb3 (blk_lt HA.out)); have HRR := Aside0.mk (keep2 HR.out hb3 (blk_lt HR.out)); have HBB := Aside0.mk (below_then HB.out HB.out.size hb3); (try clear a0 a1 g0 g1 c0 c1 f0 f1); clear HA HR HB; have HA := HAA; have HR := HRR; have HB := HBB; clear HAA HRR HBB; obtain ⟨a0, a1, g0, g1⟩ := two_cells HA.out; obtain ⟨c0, c1, f0, f1⟩ := two_cells HR.out; clear hb3) | (go_at_call 102; ((with_reducible refine (code_Is.calls kind false _ AI.out).mono ?_); rintro e w3 ⟨rfl, hd3⟩); have hb3 := hd3.below; clear hd3; have HAA := Aside0.mk (keep2 HA.out hb3 (blk_lt HA.out)); have HRR := Aside0.mk (keep2 HR.out hb3 (blk_lt HR.out)); have HBB := Aside0.mk (below_then HB.out HB.out.size hb3); (try clear a0 a1 g0 g1 c0 c1 f0 f1); clear HA HR HB; have HA := HAA; have HR := HRR; have HB := HBB; clear HAA HRR HBB; obtain ⟨a0, a1, g0, g1⟩ := two_cells HA.out; obtain ⟨c0, c1, f0, f1⟩ := two_cells HR.out; clear hb3))
  refine bodyPost_ret (results_list (rs := [.cell 6 27, .tmp 7]) rfl (by simp) (.cell (w.heap.size + 1) 27 #[.string ⟨#[]⟩, .int .i64 0] (0, 0) _ rfl (put2 HR.out) Try.underlying27 rfl (by kernel_rfl) (.tmp .nil))) rfl ⟨rfl, below_put2 HB.out (by omega) _ _⟩
set_option maxHeartbeats 4000000 in
set_option maxRecDepth 100000 in
theorem cput_no3 (s : ByteArray) (n kind v : Int) (w : World) (hm : MayP s n) (hi : code_Is.f kind = some true) (hv : code_number.f kind v = some false) :
    Calls Try.prog 58 #[.agg #[.string s, .int .i64 n], .int .i64 kind, .int .i64 v] w fun e w' => e = .returned (.tuple #[.agg #[.string ⟨#[]⟩, .int .i64 0], .int .i64 1]) ∧ Below w.heap.size w w' := by
  have hu := Try.underlying27
  have HS := Aside0.mk (start2 w (.cells #[.string s, .int .i64 n] 27) (.cells #[.string ⟨#[]⟩, .int .i64 0] 27))
  have HA := Aside0.mk HS.out.1
  have HR := Aside0.mk HS.out.2.1
  have HB := Aside0.mk HS.out.2.2.1
  clear HS
  have A := Aside0.mk (show bits_May.f s n = some true by rw [may_eq, decide_eq_true hm])
  have AI := Aside0.mk hi
  have AN := Aside0.mk hv
  clear hm hi hv
  go_enter Try.func58, Try.ntmps58
  go_wp2_with (first | ((with_reducible refine gate_callee (f := 86) rfl ?_); refine goesL_ (some 10) rfl rfl Try.func86 (by kernel_rfl) rfl #[.agg #[.string s, .int .i64 n]] rfl (by (try simp only [List.map_toArray, List.map_cons, List.map_nil]); first | done | rfl) ?_; (with_reducible refine (bits_May.calls s n true _ A.out).mono ?_); rintro e w3 ⟨rfl, hb3⟩; refine ⟨_, rfl, ?_⟩; have HAA := Aside0.mk (keep2 HA.out hb3 (blk_lt HA.out)); have HRR := Aside0.mk (keep2 HR.out hb3 (blk_lt HR.out)); have HBB := Aside0.mk (below_then HB.out HB.out.size hb3); (try clear a0 a1 g0 g1 c0 c1 f0 f1); clear HA HR HB; have HA := HAA; have HR := HRR; have HB := HBB; clear HAA HRR HBB; obtain ⟨a0, a1, g0, g1⟩ := two_cells HA.out; obtain ⟨c0, c1, f0, f1⟩ := two_cells HR.out; clear hb3) | (go_at_call 102; ((with_reducible refine (code_Is.calls kind true _ AI.out).mono ?_); rintro e w3 ⟨rfl, hd3⟩); have hb3 := hd3.below; clear hd3; have HAA := Aside0.mk (keep2 HA.out hb3 (blk_lt HA.out)); have HRR := Aside0.mk (keep2 HR.out hb3 (blk_lt HR.out)); have HBB := Aside0.mk (below_then HB.out HB.out.size hb3); (try clear a0 a1 g0 g1 c0 c1 f0 f1); clear HA HR HB; have HA := HAA; have HR := HRR; have HB := HBB; clear HAA HRR HBB; obtain ⟨a0, a1, g0, g1⟩ := two_cells HA.out; obtain ⟨c0, c1, f0, f1⟩ := two_cells HR.out; clear hb3) | (go_at_call 103; ((with_reducible refine (code_number.calls kind v false _ AN.out).mono ?_); rintro e w3 ⟨rfl, hd3⟩); have hb3 := hd3.below; clear hd3; have HAA := Aside0.mk (keep2 HA.out hb3 (blk_lt HA.out)); have HRR := Aside0.mk (keep2 HR.out hb3 (blk_lt HR.out)); have HBB := Aside0.mk (below_then HB.out HB.out.size hb3); (try clear a0 a1 g0 g1 c0 c1 f0 f1); clear HA HR HB; have HA := HAA; have HR := HRR; have HB := HBB; clear HAA HRR HBB; obtain ⟨a0, a1, g0, g1⟩ := two_cells HA.out; obtain ⟨c0, c1, f0, f1⟩ := two_cells HR.out; clear hb3))
  refine bodyPost_ret (results_list (rs := [.cell 6 27, .tmp 7]) rfl (by simp) (.cell (w.heap.size + 1) 27 #[.string ⟨#[]⟩, .int .i64 0] (0, 0) _ rfl (put2 HR.out) Try.underlying27 rfl (by kernel_rfl) (.tmp .nil))) rfl ⟨rfl, below_put2 HB.out (by omega) _ _⟩
set_option maxHeartbeats 4000000 in
set_option maxRecDepth 100000 in
theorem cput_yes (s : ByteArray) (n kind v : Int) (c : List Int) (m : Int) (w : World) (hmm : ((ofS s n ++ c).length : Int) = m) (hm : MayP s n) (hi : code_Is.f kind = some true) (hv : code_number.f kind v = some true) (hlay : LayP kind v c) (hle : m ≤ 6000) :
    Calls Try.prog 58 #[.agg #[.string s, .int .i64 n], .int .i64 kind, .int .i64 v] w fun e w' => e = .returned (.tuple #[.agg #[.string (packS (ofS s n ++ c)), .int .i64 m], .int .i64 0]) ∧ Below w.heap.size w w' := by
  have hu := Try.underlying27
  have HS := Aside0.mk (start2 w (.cells #[.string s, .int .i64 n] 27) (.cells #[.string ⟨#[]⟩, .int .i64 0] 27))
  have HA := Aside0.mk HS.out.1
  have HR := Aside0.mk HS.out.2.1
  have HB := Aside0.mk HS.out.2.2.1
  clear HS
  have A := Aside0.mk (show bits_May.f s n = some true by rw [may_eq, decide_eq_true hm])
  have AI := Aside0.mk hi
  have AN := Aside0.mk hv
  have HLAY := Aside0.mk hlay
  have HLE := Aside0.mk hle
  have HM := Aside0.mk hm
  have HMM := Aside0.mk hmm
  have HLEN : Aside0 ((ofS s n).length ≤ 6000) := ⟨by rw [ofS_length]; have := hm.2.1; omega⟩
  have hsz : s.size ≤ 1073741824 := by have := hm.2.2.1; have := hm.2.1; omega
  clear hm hi hv hlay hle hmm
  go_enter Try.func58, Try.ntmps58
  go_wp2_with (first | ((with_reducible refine gate_callee (f := 86) rfl ?_); refine goesL_ (some 10) rfl rfl Try.func86 (by kernel_rfl) rfl #[.agg #[.string s, .int .i64 n]] rfl (by (try simp only [List.map_toArray, List.map_cons, List.map_nil]); first | done | rfl) ?_; (with_reducible refine (bits_May.calls s n true _ A.out).mono ?_); rintro e w3 ⟨rfl, hb3⟩; refine ⟨_, rfl, ?_⟩; have HAA := Aside0.mk (keep2 HA.out hb3 (blk_lt HA.out)); have HRR := Aside0.mk (keep2 HR.out hb3 (blk_lt HR.out)); have HBB := Aside0.mk (below_then HB.out HB.out.size hb3); (try clear a0 a1 g0 g1 c0 c1 f0 f1); clear HA HR HB; have HA := HAA; have HR := HRR; have HB := HBB; clear HAA HRR HBB; obtain ⟨a0, a1, g0, g1⟩ := two_cells HA.out; obtain ⟨c0, c1, f0, f1⟩ := two_cells HR.out; clear hb3) | (go_at_call 102; ((with_reducible refine (code_Is.calls kind true _ AI.out).mono ?_); rintro e w3 ⟨rfl, hd3⟩); have hb3 := hd3.below; clear hd3; have HAA := Aside0.mk (keep2 HA.out hb3 (blk_lt HA.out)); have HRR := Aside0.mk (keep2 HR.out hb3 (blk_lt HR.out)); have HBB := Aside0.mk (below_then HB.out HB.out.size hb3); (try clear a0 a1 g0 g1 c0 c1 f0 f1); clear HA HR HB; have HA := HAA; have HR := HRR; have HB := HBB; clear HAA HRR HBB; obtain ⟨a0, a1, g0, g1⟩ := two_cells HA.out; obtain ⟨c0, c1, f0, f1⟩ := two_cells HR.out; clear hb3) | (go_at_call 103; ((with_reducible refine (code_number.calls kind v true _ AN.out).mono ?_); rintro e w3 ⟨rfl, hd3⟩); have hb3 := hd3.below; clear hd3; have HAA := Aside0.mk (keep2 HA.out hb3 (blk_lt HA.out)); have HRR := Aside0.mk (keep2 HR.out hb3 (blk_lt HR.out)); have HBB := Aside0.mk (below_then HB.out HB.out.size hb3); (try clear a0 a1 g0 g1 c0 c1 f0 f1); clear HA HR HB; have HA := HAA; have HR := HRR; have HB := HBB; clear HAA HRR HBB; obtain ⟨a0, a1, g0, g1⟩ := two_cells HA.out; obtain ⟨c0, c1, f0, f1⟩ := two_cells HR.out; clear hb3) | (go_at_call 88; have HBASE := Aside0.mk (blk_lt HR.out); ((with_reducible refine (from_ _ s n hsz).mono ?_); rintro e w3 ⟨p, rfl, hrow, hb3⟩); have HROW := Aside0.mk (rowL_from HM.out hrow); have HZ := Aside0.mk hb3.size; clear hrow; have HAA := Aside0.mk (keep2 HA.out hb3 (blk_lt HA.out)); have HRR := Aside0.mk (keep2 HR.out hb3 (blk_lt HR.out)); have HBB := Aside0.mk (below_then HB.out HB.out.size hb3); (try clear a0 a1 g0 g1 c0 c1 f0 f1); clear HA HR HB; have HA := HAA; have HR := HRR; have HB := HBB; clear HAA HRR HBB; obtain ⟨a0, a1, g0, g1⟩ := two_cells HA.out; obtain ⟨c0, c1, f0, f1⟩ := two_cells HR.out; clear hb3) | (go_at_call 104; ((with_reducible refine (HLAY.out _ _ p _ HROW.out HLEN.out HZ.out).mono ?_); rintro e w3 ⟨rfl, hrow3, hb3⟩); have HROW3 := Aside0.mk hrow3; have HAA := Aside0.mk (keep2 HA.out hb3 (Nat.lt_of_succ_lt HBASE.out)); have HRR := Aside0.mk (keep2 HR.out hb3 HBASE.out); have HBB := Aside0.mk (HB.out.trans (hb3.mono (Nat.le_of_lt (Nat.lt_of_succ_lt HBASE.out)))); clear a0 a1 g0 g1 c0 c1 f0 f1; clear HA HR HB hrow3 hb3 HROW; have HA := HAA; have HR := HRR; have HB := HBB; clear HAA HRR HBB; obtain ⟨a0, a1, g0, g1⟩ := two_cells HA.out; obtain ⟨c0, c1, f0, f1⟩ := two_cells HR.out))
  go_wp2_with (first | (go_at_call 90; ((with_reducible refine (row_bits_yes _ _ p _ m (HMM.out ▸ HROW3.out.out) HLE.out).mono ?_); rintro e w3 ⟨rfl, hb3⟩); have HAA := Aside0.mk (keep2 HA.out hb3 (blk_lt HA.out)); have HRR := Aside0.mk (keep2 HR.out hb3 (blk_lt HR.out)); have HBB := Aside0.mk (below_then HB.out HB.out.size hb3); (try clear a0 a1 g0 g1 c0 c1 f0 f1); clear HA HR HB; have HA := HAA; have HR := HRR; have HB := HBB; clear HAA HRR HBB; obtain ⟨a0, a1, g0, g1⟩ := two_cells HA.out; obtain ⟨c0, c1, f0, f1⟩ := two_cells HR.out; clear hb3))
  refine bodyPost_ret (results_list (rs := [.cell 6 27, .tmp 7]) rfl (by simp) (.cell (w.heap.size + 1) 27 #[.string (strOfNums (packL (ofS s n ++ c))), .int .i64 m] (0, 0) _ rfl (put2 HR.out) Try.underlying27 rfl (by kernel_rfl) (.tmp .nil))) rfl ⟨rfl, below_put2 HB.out (by omega) _ _⟩
set_option maxHeartbeats 4000000 in
set_option maxRecDepth 100000 in
theorem cput_no (s : ByteArray) (n kind v : Int) (c : List Int) (m : Int) (w : World) (hmm : ((ofS s n ++ c).length : Int) = m) (hm : MayP s n) (hi : code_Is.f kind = some true) (hv : code_number.f kind v = some true) (hlay : LayP kind v c) (hle : 6000 < m) :
    Calls Try.prog 58 #[.agg #[.string s, .int .i64 n], .int .i64 kind, .int .i64 v] w fun e w' => e = .returned (.tuple #[.agg #[.string ⟨#[]⟩, .int .i64 0], .int .i64 2]) ∧ Below w.heap.size w w' := by
  have hu := Try.underlying27
  have HS := Aside0.mk (start2 w (.cells #[.string s, .int .i64 n] 27) (.cells #[.string ⟨#[]⟩, .int .i64 0] 27))
  have HA := Aside0.mk HS.out.1
  have HR := Aside0.mk HS.out.2.1
  have HB := Aside0.mk HS.out.2.2.1
  clear HS
  have A := Aside0.mk (show bits_May.f s n = some true by rw [may_eq, decide_eq_true hm])
  have AI := Aside0.mk hi
  have AN := Aside0.mk hv
  have HLAY := Aside0.mk hlay
  have HLE := Aside0.mk hle
  have HM := Aside0.mk hm
  have HMM := Aside0.mk hmm
  have HLEN : Aside0 ((ofS s n).length ≤ 6000) := ⟨by rw [ofS_length]; have := hm.2.1; omega⟩
  have hsz : s.size ≤ 1073741824 := by have := hm.2.2.1; have := hm.2.1; omega
  clear hm hi hv hlay hle hmm
  go_enter Try.func58, Try.ntmps58
  go_wp2_with (first | ((with_reducible refine gate_callee (f := 86) rfl ?_); refine goesL_ (some 10) rfl rfl Try.func86 (by kernel_rfl) rfl #[.agg #[.string s, .int .i64 n]] rfl (by (try simp only [List.map_toArray, List.map_cons, List.map_nil]); first | done | rfl) ?_; (with_reducible refine (bits_May.calls s n true _ A.out).mono ?_); rintro e w3 ⟨rfl, hb3⟩; refine ⟨_, rfl, ?_⟩; have HAA := Aside0.mk (keep2 HA.out hb3 (blk_lt HA.out)); have HRR := Aside0.mk (keep2 HR.out hb3 (blk_lt HR.out)); have HBB := Aside0.mk (below_then HB.out HB.out.size hb3); (try clear a0 a1 g0 g1 c0 c1 f0 f1); clear HA HR HB; have HA := HAA; have HR := HRR; have HB := HBB; clear HAA HRR HBB; obtain ⟨a0, a1, g0, g1⟩ := two_cells HA.out; obtain ⟨c0, c1, f0, f1⟩ := two_cells HR.out; clear hb3) | (go_at_call 102; ((with_reducible refine (code_Is.calls kind true _ AI.out).mono ?_); rintro e w3 ⟨rfl, hd3⟩); have hb3 := hd3.below; clear hd3; have HAA := Aside0.mk (keep2 HA.out hb3 (blk_lt HA.out)); have HRR := Aside0.mk (keep2 HR.out hb3 (blk_lt HR.out)); have HBB := Aside0.mk (below_then HB.out HB.out.size hb3); (try clear a0 a1 g0 g1 c0 c1 f0 f1); clear HA HR HB; have HA := HAA; have HR := HRR; have HB := HBB; clear HAA HRR HBB; obtain ⟨a0, a1, g0, g1⟩ := two_cells HA.out; obtain ⟨c0, c1, f0, f1⟩ := two_cells HR.out; clear hb3) | (go_at_call 103; ((with_reducible refine (code_number.calls kind v true _ AN.out).mono ?_); rintro e w3 ⟨rfl, hd3⟩); have hb3 := hd3.below; clear hd3; have HAA := Aside0.mk (keep2 HA.out hb3 (blk_lt HA.out)); have HRR := Aside0.mk (keep2 HR.out hb3 (blk_lt HR.out)); have HBB := Aside0.mk (below_then HB.out HB.out.size hb3); (try clear a0 a1 g0 g1 c0 c1 f0 f1); clear HA HR HB; have HA := HAA; have HR := HRR; have HB := HBB; clear HAA HRR HBB; obtain ⟨a0, a1, g0, g1⟩ := two_cells HA.out; obtain ⟨c0, c1, f0, f1⟩ := two_cells HR.out; clear hb3) | (go_at_call 88; have HBASE := Aside0.mk (blk_lt HR.out); ((with_reducible refine (from_ _ s n hsz).mono ?_); rintro e w3 ⟨p, rfl, hrow, hb3⟩); have HROW := Aside0.mk (rowL_from HM.out hrow); have HZ := Aside0.mk hb3.size; clear hrow; have HAA := Aside0.mk (keep2 HA.out hb3 (blk_lt HA.out)); have HRR := Aside0.mk (keep2 HR.out hb3 (blk_lt HR.out)); have HBB := Aside0.mk (below_then HB.out HB.out.size hb3); (try clear a0 a1 g0 g1 c0 c1 f0 f1); clear HA HR HB; have HA := HAA; have HR := HRR; have HB := HBB; clear HAA HRR HBB; obtain ⟨a0, a1, g0, g1⟩ := two_cells HA.out; obtain ⟨c0, c1, f0, f1⟩ := two_cells HR.out; clear hb3) | (go_at_call 104; ((with_reducible refine (HLAY.out _ _ p _ HROW.out HLEN.out HZ.out).mono ?_); rintro e w3 ⟨rfl, hrow3, hb3⟩); have HROW3 := Aside0.mk hrow3; have HAA := Aside0.mk (keep2 HA.out hb3 (Nat.lt_of_succ_lt HBASE.out)); have HRR := Aside0.mk (keep2 HR.out hb3 HBASE.out); have HBB := Aside0.mk (HB.out.trans (hb3.mono (Nat.le_of_lt (Nat.lt_of_succ_lt HBASE.out)))); clear a0 a1 g0 g1 c0 c1 f0 f1; clear HA HR HB hrow3 hb3 HROW; have HA := HAA; have HR := HRR; have HB := HBB; clear HAA HRR HBB; obtain ⟨a0, a1, g0, g1⟩ := two_cells HA.out; obtain ⟨c0, c1, f0, f1⟩ := two_cells HR.out))
  go_wp2_with (first | (go_at_call 90; ((with_reducible refine (row_bits_no _ _ p _ m (HMM.out ▸ HROW3.out.out) HLE.out).mono ?_); rintro e w3 ⟨rfl, hb3⟩); have HAA := Aside0.mk (keep2 HA.out hb3 (blk_lt HA.out)); have HRR := Aside0.mk (keep2 HR.out hb3 (blk_lt HR.out)); have HBB := Aside0.mk (below_then HB.out HB.out.size hb3); (try clear a0 a1 g0 g1 c0 c1 f0 f1); clear HA HR HB; have HA := HAA; have HR := HRR; have HB := HBB; clear HAA HRR HBB; obtain ⟨a0, a1, g0, g1⟩ := two_cells HA.out; obtain ⟨c0, c1, f0, f1⟩ := two_cells HR.out; clear hb3))
  refine bodyPost_ret (results_list (rs := [.cell 6 27, .tmp 7]) rfl (by simp) (.cell (w.heap.size + 1) 27 #[.string ⟨#[]⟩, .int .i64 0] (0, 0) _ rfl (put2 HR.out) Try.underlying27 rfl (by kernel_rfl) (.tmp .nil))) rfl ⟨rfl, below_put2 HB.out (by omega) _ _⟩
end Go.Proofs.Ytnpghcikhpglkaa.Q
namespace Go.Proofs.Ytnpghcikhpglkaa.Q
open Go.RowKit Go.Proofs.YtnpghcikhpglkaaW.PrintWords Go.Proofs.YtnpghcikhpglkaaW.PrintLast Go.Proofs.YtnpghcikhpglkaaW.PrintMore Go.Proofs.Ytnpghcikhpglkaa.Hand Go.Proofs.Ytnpghcikhpglkaa.Pu
set_option linter.unusedVariables false
set_option linter.unusedSimpArgs false
theorem rowL_new (W : World) : RowL (W.alloc (.cells #[.slice none 0 0, .int .i64 0] 116)) W.heap.size W.heap.size [] :=
  ⟨⟨_, heap_alloc_new W _, OwnB.nil _ _, Nat.le_refl _⟩, IsBits.nil⟩
set_option maxHeartbeats 4000000 in
set_option maxRecDepth 100000 in
theorem csize_no1 (kind v : Int) (w : World) (hi : code_Is.f kind = some false) :
    Calls Try.prog 64 #[.int .i64 kind, .int .i64 v] w fun e w' => e = .returned (.tuple #[.int .i64 0, .int .i64 1]) ∧ Below w.heap.size w w' := by
  have HB := Aside0.mk (Below.refl w.heap.size w)
  have AI := Aside0.mk hi
  clear hi
  go_enter Try.func64, Try.ntmps64
  go_wp2_with (first | (go_at_call 102; ((with_reducible refine (code_Is.calls kind false _ AI.out).mono ?_); rintro e w3 ⟨rfl, hd3⟩); have hb3 := hd3.below; clear hd3; have HBB := Aside0.mk (below_then HB.out HB.out.size hb3); clear HB; have HB := HBB; clear HBB hb3))
  refine bodyPost_ret (results_list (rs := [.tmp 4, .tmp 5]) rfl (by simp) (.tmp (.tmp .nil))) rfl ⟨rfl, HB.out⟩
set_option maxHeartbeats 4000000 in
set_option maxRecDepth 100000 in
theorem csize_no2 (kind v : Int) (w : World) (hi : code_Is.f kind = some true) (hv : code_number.f kind v = some false) :
    Calls Try.prog 64 #[.int .i64 kind, .int .i64 v] w fun e w' => e = .returned (.tuple #[.int .i64 0, .int .i64 1]) ∧ Below w.heap.size w w' := by
  have HB := Aside0.mk (Below.refl w.heap.size w)
  have AI := Aside0.mk hi
  have AN := Aside0.mk hv
  clear hi hv
  go_enter Try.func64, Try.ntmps64
  go_wp2_with (first | (go_at_call 102; ((with_reducible refine (code_Is.calls kind true _ AI.out).mono ?_); rintro e w3 ⟨rfl, hd3⟩); have hb3 := hd3.below; clear hd3; have HBB := Aside0.mk (below_then HB.out HB.out.size hb3); clear HB; have HB := HBB; clear HBB hb3) | (go_at_call 103; ((with_reducible refine (code_number.calls kind v false _ AN.out).mono ?_); rintro e w4 ⟨rfl, hd3⟩); have hb3 := hd3.below; clear hd3; have HBB := Aside0.mk (below_then HB.out HB.out.size hb3); clear HB; have HB := HBB; clear HBB hb3))
  refine bodyPost_ret (results_list (rs := [.tmp 4, .tmp 5]) rfl (by simp) (.tmp (.tmp .nil))) rfl ⟨rfl, HB.out⟩
set_option maxHeartbeats 4000000 in
set_option maxRecDepth 100000 in
theorem csize_yes (kind v : Int) (c : List Int) (m : Int) (w : World) (hmm : (([] ++ c : List Int).length : Int) = m) (hi : code_Is.f kind = some true) (hv : code_number.f kind v = some true) (hlay : LayP kind v c) :
    Calls Try.prog 64 #[.int .i64 kind, .int .i64 v] w fun e w' => e = .returned (.tuple #[.int .i64 m, .int .i64 0]) ∧ Below w.heap.size w w' := by
  have HB := Aside0.mk (Below.refl w.heap.size w)
  have AI := Aside0.mk hi
  have AN := Aside0.mk hv
  have HLAY := Aside0.mk hlay
  have HMM := Aside0.mk hmm
  clear hi hv hlay hmm
  go_enter Try.func64, Try.ntmps64
  go_wp2_with (first | (go_at_call 102; ((with_reducible refine (code_Is.calls kind true _ AI.out).mono ?_); rintro e w3 ⟨rfl, hd3⟩); have hb3 := hd3.below; clear hd3; have HBB := Aside0.mk (below_then HB.out HB.out.size hb3); clear HB; have HB := HBB; clear HBB hb3) | (go_at_call 103; ((with_reducible refine (code_number.calls kind v true _ AN.out).mono ?_); rintro e w4 ⟨rfl, hd3⟩); have hb3 := hd3.below; clear hd3; have HBB := Aside0.mk (below_then HB.out HB.out.size hb3); clear HB; have HB := HBB; clear HBB hb3) | (go_at_call 104; ((with_reducible refine (HLAY.out _ _ _ [] (rowL_new _) (by simp) (by simp)).mono ?_); rintro e w5 ⟨rfl, hrow3, hb3⟩); have HROW3 := Aside0.mk hrow3; have HBB := Aside0.mk ((HB.out.alloc HB.out.size _).trans (hb3.mono HB.out.size)); clear HB hrow3 hb3; have HB := HBB; clear HBB) | (go_at_call 109; ((with_reducible refine (row_size _ _ _ _ m (HMM.out ▸ HROW3.out.out)).mono ?_); rintro e w6 ⟨rfl, rfl⟩)))
  refine bodyPost_ret (results_list (rs := [.tmp 4, .tmp 5]) rfl (by simp) (.tmp (.tmp .nil))) rfl ⟨rfl, HB.out⟩
end Go.Proofs.Ytnpghcikhpglkaa.Q
namespace Go.Proofs.Ytnpghcikhpglkaa.Q
open Go.RowKit Go.Proofs.YtnpghcikhpglkaaW.PrintWords Go.Proofs.YtnpghcikhpglkaaW.PrintLast Go.Proofs.YtnpghcikhpglkaaW.PrintMore Go.Proofs.Ytnpghcikhpglkaa.Hand Go.Proofs.Ytnpghcikhpglkaa.Pu
set_option linter.unusedVariables false
set_option linter.unusedSimpArgs false
/-- A reader's block. -/
def ReadIs (W : World) (p : Nat) (s : ByteArray) (n at_ : Int) (bad : Bool) : Prop := W.heap[p]? = some (.cells #[.string s, .int .i64 n, .int .i64 at_, .bool bad] 125 (0, 0))
theorem four_cells {w : World} {g t : Nat} {a b c d : Value} (h : w.heap[g]? = some (.cells #[a, b, c, d] t (0, 0))) :
    w.cell? ⟨g, 0, none⟩ = some a ∧ w.cell? ⟨g, 1, none⟩ = some b ∧ w.cell? ⟨g, 2, none⟩ = some c ∧ w.cell? ⟨g, 3, none⟩ = some d ∧ w.frozen? ⟨g, 0, none⟩ = false ∧ w.frozen? ⟨g, 1, none⟩ = false ∧ w.frozen? ⟨g, 2, none⟩ = false ∧ w.frozen? ⟨g, 3, none⟩ = false :=
  ⟨blk_cell h 0, blk_cell h 1, blk_cell h 2, blk_cell h 3, blk_frozen h 0, blk_frozen h 1, blk_frozen h 2, blk_frozen h 3⟩
theorem read_bad {w : World} {p : Nat} {s : ByteArray} {n a : Int} {b : Bool} (h : ReadIs w p s n a b) : ReadIs (w.setCell ⟨p, 3, none⟩ (.bool true)) p s n a true :=
  blk_put (cs := #[.string s, .int .i64 n, .int .i64 a, .bool b]) h 3 _ rfl
theorem read_at {w : World} {p : Nat} {s : ByteArray} {n a : Int} {b : Bool} (h : ReadIs w p s n a b) (c : Int) : ReadIs (w.setCell ⟨p, 2, none⟩ (.int .i64 c)) p s n c b :=
  blk_put (cs := #[.string s, .int .i64 n, .int .i64 a, .bool b]) h 2 _ rfl
theorem keepD {W w3 : World} {p : Nat} {s : ByteArray} {n a : Int} {b : Bool} (h : ReadIs W p s n a b) (hb : Below W.drew.heap.size W.drew w3) : ReadIs w3 p s n a b := keep2 (w1 := W.drew) h hb (blk_lt h)
theorem belowD {W w3 : World} {base : Nat} (h : base ≤ W.heap.size) (hb : Below W.drew.heap.size W.drew w3) : Below base W w3 := below_then (below_drew0 (Below.refl _ W)) h hb
set_option maxHeartbeats 4000000 in
set_option maxRecDepth 100000 in
theorem zeros_yes (W : World) (base p k : Nat) (s : ByteArray) (n a most x a' : Int) (hrd : ReadIs W p s n a false) (hbase : base ≤ p) (ha : bits_Ahead.f k s n a = some x) (h0 : 0 ≤ x) (h1 : x ≤ most) (ha' : wrap64 (a + x) = a') :
    Calls Try.prog 126 #[.pointer (some ⟨p, 0, none⟩), .int .i64 most] W fun e w' => e = .returned (.int .i64 x) ∧ ReadIs w' p s n a' false ∧ Below base W w' := by
  have hu := Try.underlying27
  have hu5 := Try.underlying125
  obtain ⟨c0, c1, c2, c3, f0, f1, f2, f3⟩ := four_cells hrd
  have HRD := Aside0.mk hrd
  have HBASE := Aside0.mk hbase
  have HA := Aside0.mk ha
  clear hrd hbase ha
  have HA' := Aside0.mk ha'
  clear ha'
  have HRD2 : Aside0 (ReadIs W.drew p s n a false) := ⟨HRD.out⟩
  have HB2 : Aside0 (Below base W W.drew) := ⟨below_drew0 (Below.refl _ W)⟩
  go_enter Try.func126, Try.ntmps126
  go_wp2
  go_still_tail 8, (by kernel_rfl)
  change wpList _ _ _ _ _ W.drew
  clear c0 c1 c2 c3 f0 f1 f2 f3 HRD
  generalize W.drew = w2 at *
  go_wp2_with (first | (go_at_call 96; ((with_reducible refine (bits_Ahead.calls k s n a x _ HA.out).mono ?_); rintro e w3 ⟨rfl, hb3⟩); have HRD3 := Aside0.mk (keep2 HRD2.out hb3 (blk_lt HRD2.out)); have HB3 := Aside0.mk (below_then HB2.out (Nat.le_of_lt (Nat.lt_of_le_of_lt HBASE.out (blk_lt HRD2.out))) hb3); clear hb3; obtain ⟨c0, c1, c2, c3, f0, f1, f2, f3⟩ := four_cells HRD3.out))
  go_ret
  exact ⟨rfl, by rw [← HA'.out]; exact read_at HRD3.out _, HB3.out.setCell (p := ⟨p, 2, none⟩) HBASE.out _⟩
set_option maxHeartbeats 4000000 in
set_option maxRecDepth 100000 in
theorem zeros_no1 (W : World) (base p k : Nat) (s : ByteArray) (n a most x : Int) (hrd : ReadIs W p s n a true) (hbase : base ≤ p) (ha : bits_Ahead.f k s n a = some x) :
    Calls Try.prog 126 #[.pointer (some ⟨p, 0, none⟩), .int .i64 most] W fun e w' => e = .returned (.int .i64 0) ∧ ReadIs w' p s n a true ∧ Below base W w' := by
  have hu := Try.underlying27
  have hu5 := Try.underlying125
  obtain ⟨c0, c1, c2, c3, f0, f1, f2, f3⟩ := four_cells hrd
  have HRD := Aside0.mk hrd
  have HBASE := Aside0.mk hbase
  have HA := Aside0.mk ha
  clear hrd hbase ha
  have HRD2 : Aside0 (ReadIs W.drew p s n a true) := ⟨HRD.out⟩
  have HB2 : Aside0 (Below base W W.drew) := ⟨below_drew0 (Below.refl _ W)⟩
  go_enter Try.func126, Try.ntmps126
  go_wp2
  go_still_tail 8, (by kernel_rfl)
  change wpList _ _ _ _ _ W.drew
  clear c0 c1 c2 c3 f0 f1 f2 f3 HRD
  generalize W.drew = w2 at *
  go_wp2_with (first | (go_at_call 96; ((with_reducible refine (bits_Ahead.calls k s n a x _ HA.out).mono ?_); rintro e w3 ⟨rfl, hb3⟩); have HRD3 := Aside0.mk (keep2 HRD2.out hb3 (blk_lt HRD2.out)); have HB3 := Aside0.mk (below_then HB2.out (Nat.le_of_lt (Nat.lt_of_le_of_lt HBASE.out (blk_lt HRD2.out))) hb3); clear hb3; obtain ⟨c0, c1, c2, c3, f0, f1, f2, f3⟩ := four_cells HRD3.out))
  go_ret
  exact ⟨rfl, read_bad HRD3.out, HB3.out.setCell (p := ⟨p, 3, none⟩) HBASE.out _⟩
set_option maxHeartbeats 4000000 in
set_option maxRecDepth 100000 in
theorem zeros_no2 (W : World) (base p k : Nat) (s : ByteArray) (n a most x : Int) (hrd : ReadIs W p s n a false) (hbase : base ≤ p) (ha : bits_Ahead.f k s n a = some x) (h0 : x < 0) :
    Calls Try.prog 126 #[.pointer (some ⟨p, 0, none⟩), .int .i64 most] W fun e w' => e = .returned (.int .i64 0) ∧ ReadIs w' p s n a true ∧ Below base W w' := by
  have hu := Try.underlying27
  have hu5 := Try.underlying125
  obtain ⟨c0, c1, c2, c3, f0, f1, f2, f3⟩ := four_cells hrd
  have HRD := Aside0.mk hrd
  have HBASE := Aside0.mk hbase
  have HA := Aside0.mk ha
  clear hrd hbase ha
  have HRD2 : Aside0 (ReadIs W.drew p s n a false) := ⟨HRD.out⟩
  have HB2 : Aside0 (Below base W W.drew) := ⟨below_drew0 (Below.refl _ W)⟩
  go_enter Try.func126, Try.ntmps126
  go_wp2
  go_still_tail 8, (by kernel_rfl)
  change wpList _ _ _ _ _ W.drew
  clear c0 c1 c2 c3 f0 f1 f2 f3 HRD
  generalize W.drew = w2 at *
  go_wp2_with (first | (go_at_call 96; ((with_reducible refine (bits_Ahead.calls k s n a x _ HA.out).mono ?_); rintro e w3 ⟨rfl, hb3⟩); have HRD3 := Aside0.mk (keep2 HRD2.out hb3 (blk_lt HRD2.out)); have HB3 := Aside0.mk (below_then HB2.out (Nat.le_of_lt (Nat.lt_of_le_of_lt HBASE.out (blk_lt HRD2.out))) hb3); clear hb3; obtain ⟨c0, c1, c2, c3, f0, f1, f2, f3⟩ := four_cells HRD3.out))
  go_ret
  exact ⟨rfl, read_bad HRD3.out, HB3.out.setCell (p := ⟨p, 3, none⟩) HBASE.out _⟩
set_option maxHeartbeats 4000000 in
set_option maxRecDepth 100000 in
theorem zeros_no3 (W : World) (base p k : Nat) (s : ByteArray) (n a most x : Int) (hrd : ReadIs W p s n a false) (hbase : base ≤ p) (ha : bits_Ahead.f k s n a = some x) (h0 : 0 ≤ x) (h1 : most < x) :
    Calls Try.prog 126 #[.pointer (some ⟨p, 0, none⟩), .int .i64 most] W fun e w' => e = .returned (.int .i64 0) ∧ ReadIs w' p s n a true ∧ Below base W w' := by
  have hu := Try.underlying27
  have hu5 := Try.underlying125
  obtain ⟨c0, c1, c2, c3, f0, f1, f2, f3⟩ := four_cells hrd
  have HRD := Aside0.mk hrd
  have HBASE := Aside0.mk hbase
  have HA := Aside0.mk ha
  clear hrd hbase ha
  have HRD2 : Aside0 (ReadIs W.drew p s n a false) := ⟨HRD.out⟩
  have HB2 : Aside0 (Below base W W.drew) := ⟨below_drew0 (Below.refl _ W)⟩
  go_enter Try.func126, Try.ntmps126
  go_wp2
  go_still_tail 8, (by kernel_rfl)
  change wpList _ _ _ _ _ W.drew
  clear c0 c1 c2 c3 f0 f1 f2 f3 HRD
  generalize W.drew = w2 at *
  go_wp2_with (first | (go_at_call 96; ((with_reducible refine (bits_Ahead.calls k s n a x _ HA.out).mono ?_); rintro e w3 ⟨rfl, hb3⟩); have HRD3 := Aside0.mk (keep2 HRD2.out hb3 (blk_lt HRD2.out)); have HB3 := Aside0.mk (below_then HB2.out (Nat.le_of_lt (Nat.lt_of_le_of_lt HBASE.out (blk_lt HRD2.out))) hb3); clear hb3; obtain ⟨c0, c1, c2, c3, f0, f1, f2, f3⟩ := four_cells HRD3.out))
  go_ret
  exact ⟨rfl, read_bad HRD3.out, HB3.out.setCell (p := ⟨p, 3, none⟩) HBASE.out _⟩
set_option maxHeartbeats 4000000 in
set_option maxRecDepth 100000 in
theorem look_yes1 (W : World) (base p k : Nat) (s : ByteArray) (n a wd x a' : Int) (hrd : ReadIs W p s n a false) (hbase : base ≤ p) (ha : bits_Look.f k s n a wd = some (x, true)) (ha' : wrap64 (a + wd) = a') :
    Calls Try.prog 127 #[.pointer (some ⟨p, 0, none⟩), .int .i64 wd] W fun e w' => e = .returned (.int .i64 x) ∧ ReadIs w' p s n a' false ∧ Below base W w' := by
  have hu := Try.underlying27
  have hu5 := Try.underlying125
  obtain ⟨c0, c1, c2, c3, f0, f1, f2, f3⟩ := four_cells hrd
  have HRD := Aside0.mk hrd
  have HBASE := Aside0.mk hbase
  have HA := Aside0.mk ha
  clear hrd hbase ha
  have HA' := Aside0.mk ha'
  clear ha'
  go_enter Try.func127, Try.ntmps127
  go_wp2
  go_region_held3 (fun w' => w'.cell? ⟨p, 0, none⟩ = some (.string s) ∧ w'.cell? ⟨p, 1, none⟩ = some (.int .i64 n) ∧ w'.cell? ⟨p, 2, none⟩ = some (.int .i64 a)) (first | exact ⟨d0, d1, d2⟩ | exact ⟨c0, c1, c2⟩ | go_keep) (first | (go_at_call 91; ((with_reducible refine (bits_Look.calls k s n a wd x true _ HA.out).mono ?_); rintro e w3 ⟨rfl, hb3⟩); have HRD3 := Aside0.mk (keepD HRD.out hb3); have HB3 := Aside0.mk (belowD (Nat.le_of_lt (Nat.lt_of_le_of_lt HBASE.out (blk_lt HRD.out))) hb3); clear hb3; obtain ⟨d0, d1, d2, d3, e0, e1, e2, e3⟩ := four_cells HRD3.out))
  all_goals go_wp2
  all_goals go_ret
  all_goals exact ⟨rfl, by rw [← HA'.out]; exact read_at HRD3.out _, HB3.out.setCell (p := ⟨p, 2, none⟩) HBASE.out _⟩
set_option maxHeartbeats 4000000 in
set_option maxRecDepth 100000 in
theorem look_no1 (W : World) (base p k : Nat) (s : ByteArray) (n a wd x a' : Int) (hrd : ReadIs W p s n a true) (hbase : base ≤ p) (ha : bits_Look.f k s n a wd = some (x, true))  :
    Calls Try.prog 127 #[.pointer (some ⟨p, 0, none⟩), .int .i64 wd] W fun e w' => e = .returned (.int .i64 0) ∧ ReadIs w' p s n a true ∧ Below base W w' := by
  have hu := Try.underlying27
  have hu5 := Try.underlying125
  obtain ⟨c0, c1, c2, c3, f0, f1, f2, f3⟩ := four_cells hrd
  have HRD := Aside0.mk hrd
  have HBASE := Aside0.mk hbase
  have HA := Aside0.mk ha
  clear hrd hbase ha
  go_enter Try.func127, Try.ntmps127
  go_wp2
  go_region_held3 (fun w' => w'.cell? ⟨p, 0, none⟩ = some (.string s) ∧ w'.cell? ⟨p, 1, none⟩ = some (.int .i64 n) ∧ w'.cell? ⟨p, 2, none⟩ = some (.int .i64 a)) (first | exact ⟨d0, d1, d2⟩ | exact ⟨c0, c1, c2⟩ | go_keep) (first | (go_at_call 91; ((with_reducible refine (bits_Look.calls k s n a wd x true _ HA.out).mono ?_); rintro e w3 ⟨rfl, hb3⟩); have HRD3 := Aside0.mk (keepD HRD.out hb3); have HB3 := Aside0.mk (belowD (Nat.le_of_lt (Nat.lt_of_le_of_lt HBASE.out (blk_lt HRD.out))) hb3); clear hb3; obtain ⟨d0, d1, d2, d3, e0, e1, e2, e3⟩ := four_cells HRD3.out))
  all_goals go_wp2
  all_goals go_ret
  all_goals exact ⟨rfl, read_bad HRD3.out, HB3.out.setCell (p := ⟨p, 3, none⟩) HBASE.out _⟩
set_option maxHeartbeats 4000000 in
set_option maxRecDepth 100000 in
theorem look_no2 (W : World) (base p k : Nat) (s : ByteArray) (n a wd x a' : Int) (hrd : ReadIs W p s n a true) (hbase : base ≤ p) (ha : bits_Look.f k s n a wd = some (x, false))  :
    Calls Try.prog 127 #[.pointer (some ⟨p, 0, none⟩), .int .i64 wd] W fun e w' => e = .returned (.int .i64 0) ∧ ReadIs w' p s n a true ∧ Below base W w' := by
  have hu := Try.underlying27
  have hu5 := Try.underlying125
  obtain ⟨c0, c1, c2, c3, f0, f1, f2, f3⟩ := four_cells hrd
  have HRD := Aside0.mk hrd
  have HBASE := Aside0.mk hbase
  have HA := Aside0.mk ha
  clear hrd hbase ha
  go_enter Try.func127, Try.ntmps127
  go_wp2
  go_region_held3 (fun w' => w'.cell? ⟨p, 0, none⟩ = some (.string s) ∧ w'.cell? ⟨p, 1, none⟩ = some (.int .i64 n) ∧ w'.cell? ⟨p, 2, none⟩ = some (.int .i64 a)) (first | exact ⟨d0, d1, d2⟩ | exact ⟨c0, c1, c2⟩ | go_keep) (first | (go_at_call 91; ((with_reducible refine (bits_Look.calls k s n a wd x false _ HA.out).mono ?_); rintro e w3 ⟨rfl, hb3⟩); have HRD3 := Aside0.mk (keepD HRD.out hb3); have HB3 := Aside0.mk (belowD (Nat.le_of_lt (Nat.lt_of_le_of_lt HBASE.out (blk_lt HRD.out))) hb3); clear hb3; obtain ⟨d0, d1, d2, d3, e0, e1, e2, e3⟩ := four_cells HRD3.out))
  all_goals go_wp2
  all_goals go_ret
  all_goals exact ⟨rfl, read_bad HRD3.out, HB3.out.setCell (p := ⟨p, 3, none⟩) HBASE.out _⟩
set_option maxHeartbeats 4000000 in
set_option maxRecDepth 100000 in
theorem look_no3 (W : World) (base p k : Nat) (s : ByteArray) (n a wd x a' : Int) (hrd : ReadIs W p s n a false) (hbase : base ≤ p) (ha : bits_Look.f k s n a wd = some (x, false))  :
    Calls Try.prog 127 #[.pointer (some ⟨p, 0, none⟩), .int .i64 wd] W fun e w' => e = .returned (.int .i64 0) ∧ ReadIs w' p s n a true ∧ Below base W w' := by
  have hu := Try.underlying27
  have hu5 := Try.underlying125
  obtain ⟨c0, c1, c2, c3, f0, f1, f2, f3⟩ := four_cells hrd
  have HRD := Aside0.mk hrd
  have HBASE := Aside0.mk hbase
  have HA := Aside0.mk ha
  clear hrd hbase ha
  go_enter Try.func127, Try.ntmps127
  go_wp2
  go_region_held3 (fun w' => w'.cell? ⟨p, 0, none⟩ = some (.string s) ∧ w'.cell? ⟨p, 1, none⟩ = some (.int .i64 n) ∧ w'.cell? ⟨p, 2, none⟩ = some (.int .i64 a)) (first | exact ⟨d0, d1, d2⟩ | exact ⟨c0, c1, c2⟩ | go_keep) (first | (go_at_call 91; ((with_reducible refine (bits_Look.calls k s n a wd x false _ HA.out).mono ?_); rintro e w3 ⟨rfl, hb3⟩); have HRD3 := Aside0.mk (keepD HRD.out hb3); have HB3 := Aside0.mk (belowD (Nat.le_of_lt (Nat.lt_of_le_of_lt HBASE.out (blk_lt HRD.out))) hb3); clear hb3; obtain ⟨d0, d1, d2, d3, e0, e1, e2, e3⟩ := four_cells HRD3.out))
  all_goals go_wp2
  all_goals go_ret
  all_goals exact ⟨rfl, read_bad HRD3.out, HB3.out.setCell (p := ⟨p, 3, none⟩) HBASE.out _⟩
/-- What the reader answers, where it stands behind, whether it is bad. -/
def rd_zeros (k : Nat) (s : ByteArray) (n a : Int) (bad : Bool) (most : Int) : Option (Int × Int × Bool) :=
  (bits_Ahead.f k s n a).bind fun x => if bad = true then some (0, a, true) else if x < 0 then some (0, a, true) else if most < x then some (0, a, true) else some (x, wrap64 (a + x), false)
def rd_look (k : Nat) (s : ByteArray) (n a : Int) (bad : Bool) (wd : Int) : Option (Int × Int × Bool) :=
  (bits_Look.f k s n a wd).bind fun x => if bad = true then some (0, a, true) else if x.2 = true then some (x.1, wrap64 (a + wd), false) else some (0, a, true)
theorem rd_zeros.calls (W : World) (base p k : Nat) (s : ByteArray) (n a : Int) (bad : Bool) (most r a' : Int) (bad' : Bool) (hrd : ReadIs W p s n a bad) (hbase : base ≤ p) (h : rd_zeros k s n a bad most = some (r, a', bad')) :
    Calls Try.prog 126 #[.pointer (some ⟨p, 0, none⟩), .int .i64 most] W fun e w' => e = .returned (.int .i64 r) ∧ ReadIs w' p s n a' bad' ∧ Below base W w' := by
  unfold rd_zeros at h
  obtain ⟨x, h1, h2⟩ := Option.bind_eq_some_iff.1 h
  cases bad with
  | true =>
    rw [if_pos rfl] at h2
    simp only [Option.some.injEq, Prod.mk.injEq] at h2
    obtain ⟨rfl, rfl, rfl⟩ := h2
    exact zeros_no1 W base p k s n a most x hrd hbase h1
  | false =>
    rw [if_neg (by decide)] at h2
    by_cases c1 : x < 0
    · rw [if_pos c1] at h2
      simp only [Option.some.injEq, Prod.mk.injEq] at h2
      obtain ⟨rfl, rfl, rfl⟩ := h2
      exact zeros_no2 W base p k s n a most x hrd hbase h1 c1
    · rw [if_neg c1] at h2
      by_cases c2 : most < x
      · rw [if_pos c2] at h2
        simp only [Option.some.injEq, Prod.mk.injEq] at h2
        obtain ⟨rfl, rfl, rfl⟩ := h2
        exact zeros_no3 W base p k s n a most x hrd hbase h1 (by omega) c2
      · rw [if_neg c2] at h2
        simp only [Option.some.injEq, Prod.mk.injEq] at h2
        obtain ⟨rfl, h3, rfl⟩ := h2
        exact zeros_yes W base p k s n a most x a' hrd hbase h1 (by omega) (by omega) h3
theorem rd_look.calls (W : World) (base p k : Nat) (s : ByteArray) (n a : Int) (bad : Bool) (wd r a' : Int) (bad' : Bool) (hrd : ReadIs W p s n a bad) (hbase : base ≤ p) (h : rd_look k s n a bad wd = some (r, a', bad')) :
    Calls Try.prog 127 #[.pointer (some ⟨p, 0, none⟩), .int .i64 wd] W fun e w' => e = .returned (.int .i64 r) ∧ ReadIs w' p s n a' bad' ∧ Below base W w' := by
  unfold rd_look at h
  obtain ⟨⟨x, ok⟩, h1, h2⟩ := Option.bind_eq_some_iff.1 h
  cases bad with
  | true =>
    rw [if_pos rfl] at h2
    simp only [Option.some.injEq, Prod.mk.injEq] at h2
    obtain ⟨rfl, rfl, rfl⟩ := h2
    cases ok with
    | true => exact look_no1 W base p k s n a wd x 0 hrd hbase h1
    | false => exact look_no2 W base p k s n a wd x 0 hrd hbase h1
  | false =>
    rw [if_neg (by decide)] at h2
    cases ok with
    | true =>
      rw [if_pos rfl] at h2
      simp only [Option.some.injEq, Prod.mk.injEq] at h2
      obtain ⟨rfl, h3, rfl⟩ := h2
      exact look_yes1 W base p k s n a wd x a' hrd hbase h1 h3
    | false =>
      rw [if_neg (by simp)] at h2
      simp only [Option.some.injEq, Prod.mk.injEq] at h2
      obtain ⟨rfl, rfl, rfl⟩ := h2
      exact look_no3 W base p k s n a wd x 0 hrd hbase h1
set_option maxHeartbeats 4000000 in
set_option maxRecDepth 100000 in
theorem unary_walk (W : World) (base p k : Nat) (s : ByteArray) (n a : Int) (bad : Bool) (most z a1 : Int) (b1 : Bool) (l a2 : Int) (b2 : Bool) (hrd : ReadIs W p s n a bad) (hbase : base ≤ p) (hm : 1 ≤ most) (hm1 : most ≤ 10000) (hz0 : 0 ≤ z) (hz1 : z ≤ 10000)
    (hz : rd_zeros k s n a bad (most - 1) = some (z, a1, b1)) (hl : rd_look k s n a1 b1 1 = some (l, a2, b2)) :
    Calls Try.prog 120 #[.pointer (some ⟨p, 0, none⟩), .int .i64 most] W fun e w' => e = .returned (.int .i64 (z + 1)) ∧ ReadIs w' p s n a2 b2 ∧ Below base W w' := by
  have HRD := Aside0.mk hrd
  have HBASE := Aside0.mk hbase
  have HB := Aside0.mk (Below.refl base W)
  clear hrd hbase
  have HZ := Aside0.mk hz
  have HL := Aside0.mk hl
  clear hz hl
  go_enter Try.func120, Try.ntmps120
  go_wp2_with (first | (go_at_call 126; ((with_reducible refine (rd_zeros.calls _ base p k s n a bad (most - 1) z a1 b1 HRD.out HBASE.out HZ.out).mono ?_); rintro e w3 ⟨rfl, hr3, hb3⟩); have HRD3 := Aside0.mk hr3; have HB3 := Aside0.mk (HB.out.trans hb3); clear hr3 hb3 HRD HB; have HRD := HRD3; have HB := HB3; clear HRD3 HB3) | (go_at_call 127; ((with_reducible refine (rd_look.calls _ base p k s n a1 b1 1 l a2 b2 HRD.out HBASE.out HL.out).mono ?_); rintro e w3 ⟨rfl, hr3, hb3⟩); have HRD3 := Aside0.mk hr3; have HB3 := Aside0.mk (HB.out.trans hb3); clear hr3 hb3 HRD HB; have HRD := HRD3; have HB := HB3; clear HRD3 HB3))
  go_ret
  exact ⟨rfl, HRD.out, HB.out⟩
set_option maxHeartbeats 4000000 in
set_option maxRecDepth 100000 in
theorem gamma_walk (W : World) (base p k : Nat) (s : ByteArray) (n a : Int) (bad : Bool) (z a1 : Int) (b1 : Bool) (l a2 : Int) (b2 : Bool) (hrd : ReadIs W p s n a bad) (hbase : base ≤ p) (hz0 : 0 ≤ z) (hz1 : z ≤ 10000)
    (hz : rd_zeros k s n a bad 30 = some (z, a1, b1)) (hl : rd_look k s n a1 b1 (z + 1) = some (l, a2, b2)) :
    Calls Try.prog 121 #[.pointer (some ⟨p, 0, none⟩)] W fun e w' => e = .returned (.int .i64 l) ∧ ReadIs w' p s n a2 b2 ∧ Below base W w' := by
  have HRD := Aside0.mk hrd
  have HBASE := Aside0.mk hbase
  have HB := Aside0.mk (Below.refl base W)
  clear hrd hbase
  have HZ := Aside0.mk hz
  have HL := Aside0.mk hl
  clear hz hl
  go_enter Try.func121, Try.ntmps121
  go_wp2_with (first | (go_at_call 126; ((with_reducible refine (rd_zeros.calls _ base p k s n a bad 30 z a1 b1 HRD.out HBASE.out HZ.out).mono ?_); rintro e w3 ⟨rfl, hr3, hb3⟩); have HRD3 := Aside0.mk hr3; have HB3 := Aside0.mk (HB.out.trans hb3); clear hr3 hb3 HRD HB; have HRD := HRD3; have HB := HB3; clear HRD3 HB3) | (go_at_call 127; ((with_reducible refine (rd_look.calls _ base p k s n a1 b1 (z + 1) l a2 b2 HRD.out HBASE.out HL.out).mono ?_); rintro e w3 ⟨rfl, hr3, hb3⟩); have HRD3 := Aside0.mk hr3; have HB3 := Aside0.mk (HB.out.trans hb3); clear hr3 hb3 HRD HB; have HRD := HRD3; have HB := HB3; clear HRD3 HB3))
  go_ret
  exact ⟨rfl, HRD.out, HB.out⟩
end Go.Proofs.Ytnpghcikhpglkaa.Q
namespace Go.Proofs.Ytnpghcikhpglkaa.Q
open Go.RowKit Go.Proofs.YtnpghcikhpglkaaW.PrintWords Go.Proofs.YtnpghcikhpglkaaW.PrintLast Go.Proofs.YtnpghcikhpglkaaW.PrintMore Go.Proofs.Ytnpghcikhpglkaa.Hand Go.Proofs.Ytnpghcikhpglkaa.Pu
set_option linter.unusedVariables false
set_option linter.unusedSimpArgs false
theorem read_below {W w3 : World} {p : Nat} {s : ByteArray} {n a : Int} {b : Bool} (h : ReadIs W p s n a b) (hb : Below W.heap.size W w3) : ReadIs w3 p s n a b := keep2 h hb (blk_lt h)
theorem read_drew {W : World} {p : Nat} {s : ByteArray} {n a : Int} {b : Bool} (h : ReadIs W p s n a b) : ReadIs W.drew p s n a b := h
theorem below_dr {W w w4 : World} {base : Nat} (h : Below base W w) (hb : Below base w.drew w4) : Below base W w4 := (show Below base W w.drew from ⟨h.os, h.tape, h.output, h.size, h.block⟩).trans hb
def rd_gamma (k : Nat) (s : ByteArray) (n a : Int) (bad : Bool) : Option (Int × Int × Bool) :=
  (rd_zeros k s n a bad 30).bind fun z => if 0 ≤ z.1 ∧ z.1 ≤ 10000 then rd_look k s n z.2.1 z.2.2 (z.1 + 1) else none
def rd_unary (k : Nat) (s : ByteArray) (n a : Int) (bad : Bool) (most : Int) : Option (Int × Int × Bool) :=
  if 1 ≤ most ∧ most ≤ 10000 then (rd_zeros k s n a bad (most - 1)).bind fun z => if 0 ≤ z.1 ∧ z.1 ≤ 10000 then (rd_look k s n z.2.1 z.2.2 1).bind fun l => some (z.1 + 1, l.2.1, l.2.2) else none else none
theorem rd_gamma.calls (W : World) (base p k : Nat) (s : ByteArray) (n a : Int) (bad : Bool) (r a' : Int) (bad' : Bool) (hrd : ReadIs W p s n a bad) (hbase : base ≤ p) (h : rd_gamma k s n a bad = some (r, a', bad')) :
    Calls Try.prog 121 #[.pointer (some ⟨p, 0, none⟩)] W fun e w' => e = .returned (.int .i64 r) ∧ ReadIs w' p s n a' bad' ∧ Below base W w' := by
  unfold rd_gamma at h
  obtain ⟨⟨z, a1, b1⟩, h1, h2⟩ := Option.bind_eq_some_iff.1 h
  split at h2
  · rename_i hc
    exact gamma_walk W base p k s n a bad z a1 b1 r a' bad' hrd hbase hc.1 hc.2 h1 h2
  · cases h2
theorem rd_unary.calls (W : World) (base p k : Nat) (s : ByteArray) (n a : Int) (bad : Bool) (most r a' : Int) (bad' : Bool) (hrd : ReadIs W p s n a bad) (hbase : base ≤ p) (h : rd_unary k s n a bad most = some (r, a', bad')) :
    Calls Try.prog 120 #[.pointer (some ⟨p, 0, none⟩), .int .i64 most] W fun e w' => e = .returned (.int .i64 r) ∧ ReadIs w' p s n a' bad' ∧ Below base W w' := by
  unfold rd_unary at h
  split at h
  · rename_i hm
    obtain ⟨⟨z, a1, b1⟩, h1, h2⟩ := Option.bind_eq_some_iff.1 h
    split at h2
    · rename_i hc
      obtain ⟨⟨l, a2, b2⟩, h3, h4⟩ := Option.bind_eq_some_iff.1 h2
      simp only [Option.some.injEq, Prod.mk.injEq] at h4
      obtain ⟨rfl, rfl, rfl⟩ := h4
      exact unary_walk W base p k s n a bad most z a1 b1 l a2 b2 hrd hbase hm.1 hm.2 hc.1 hc.2 h1 h3
    · cases h2
  · cases h
set_option maxHeartbeats 4000000 in
set_option maxRecDepth 100000 in
theorem delta_bad1 (W : World) (base p k : Nat) (s : ByteArray) (n a : Int) (bad : Bool) (g a1 : Int) (hrd : ReadIs W p s n a bad) (hbase : base ≤ p) (hg : rd_gamma k s n a bad = some (g, a1, true))  :
    Calls Try.prog 122 #[.pointer (some ⟨p, 0, none⟩)] W fun e w' => e = .returned (.int .i64 0) ∧ ReadIs w' p s n a1 true ∧ Below base W w' := by
  have hu5 := Try.underlying125
  have HRD := Aside0.mk hrd
  have HBASE := Aside0.mk hbase
  have HB := Aside0.mk (Below.refl base W)
  clear hrd hbase
  have HG := Aside0.mk hg
  clear hg
  go_enter Try.func122, Try.ntmps122
  go_wp2_with (first | (go_at_call 121; ((with_reducible refine (rd_gamma.calls _ base p k s n a bad g a1 true HRD.out HBASE.out HG.out).mono ?_); rintro e w3 ⟨rfl, hr3, hb3⟩); have HRD3 := Aside0.mk hr3; have HB3 := Aside0.mk (HB.out.trans hb3); clear hr3 hb3 HRD HB; have HRD := HRD3; have HB := HB3; clear HRD3 HB3; (try clear c0 c1 c2 c3 f0 f1 f2 f3); obtain ⟨c0, c1, c2, c3, f0, f1, f2, f3⟩ := four_cells HRD.out))
  go_ret
  exact ⟨rfl, read_bad HRD.out, HB.out.setCell (p := ⟨p, 3, none⟩) HBASE.out _⟩
set_option maxHeartbeats 4000000 in
set_option maxRecDepth 100000 in
theorem delta_bad2 (W : World) (base p k : Nat) (s : ByteArray) (n a : Int) (bad : Bool) (g a1 : Int) (hrd : ReadIs W p s n a bad) (hbase : base ≤ p) (hg : rd_gamma k s n a bad = some (g, a1, false)) (hg2 : 30 < g - 1) (hg3 : g ≤ 4611686018427387904) :
    Calls Try.prog 122 #[.pointer (some ⟨p, 0, none⟩)] W fun e w' => e = .returned (.int .i64 0) ∧ ReadIs w' p s n a1 true ∧ Below base W w' := by
  have hu5 := Try.underlying125
  have HRD := Aside0.mk hrd
  have HBASE := Aside0.mk hbase
  have HB := Aside0.mk (Below.refl base W)
  clear hrd hbase
  have HG := Aside0.mk hg
  clear hg
  go_enter Try.func122, Try.ntmps122
  go_wp2_with (first | (go_at_call 121; ((with_reducible refine (rd_gamma.calls _ base p k s n a bad g a1 false HRD.out HBASE.out HG.out).mono ?_); rintro e w3 ⟨rfl, hr3, hb3⟩); have HRD3 := Aside0.mk hr3; have HB3 := Aside0.mk (HB.out.trans hb3); clear hr3 hb3 HRD HB; have HRD := HRD3; have HB := HB3; clear HRD3 HB3; (try clear c0 c1 c2 c3 f0 f1 f2 f3); obtain ⟨c0, c1, c2, c3, f0, f1, f2, f3⟩ := four_cells HRD.out))
  go_ret
  exact ⟨rfl, read_bad HRD.out, HB.out.setCell (p := ⟨p, 3, none⟩) HBASE.out _⟩
set_option maxHeartbeats 4000000 in
set_option maxRecDepth 100000 in
theorem delta_ok (W : World) (base p k : Nat) (s : ByteArray) (n a : Int) (bad : Bool) (g a1 : Int) (l a2 : Int) (b2 : Bool) (hrd : ReadIs W p s n a bad) (hbase : base ≤ p) (hg : rd_gamma k s n a bad = some (g, a1, false)) (hg0 : 0 ≤ g - 1) (hg1 : g - 1 ≤ 30)
    (hl : rd_look k s n a1 false (g - 1) = some (l, a2, b2)) :
    Calls Try.prog 122 #[.pointer (some ⟨p, 0, none⟩)] W fun e w' => e = .returned (.int .i64 (Go.bits .or .i64 (IntKind.i64.wrap (2 ^ (g.toNat - 1))) l)) ∧ ReadIs w' p s n a2 b2 ∧ Below base W w' := by
  have hu5 := Try.underlying125
  have HRD := Aside0.mk hrd
  have HBASE := Aside0.mk hbase
  have HB := Aside0.mk (Below.refl base W)
  clear hrd hbase
  have HG := Aside0.mk hg
  have HL := Aside0.mk hl
  clear hg hl
  go_enter Try.func122, Try.ntmps122
  go_wp2_with (first | (go_at_call 121; ((with_reducible refine (rd_gamma.calls _ base p k s n a bad g a1 false HRD.out HBASE.out HG.out).mono ?_); rintro e w3 ⟨rfl, hr3, hb3⟩); have HRD3 := Aside0.mk hr3; have HB3 := Aside0.mk (HB.out.trans hb3); clear hr3 hb3 HRD HB; have HRD := HRD3; have HB := HB3; clear HRD3 HB3; (try clear c0 c1 c2 c3 f0 f1 f2 f3); obtain ⟨c0, c1, c2, c3, f0, f1, f2, f3⟩ := four_cells HRD.out))
  go_region_held3 (fun _ => True) (trivial) (first | (go_at_call 127; ((with_reducible refine (rd_look.calls _ base p k s n a1 false (g - 1) l a2 b2 (read_drew HRD.out) HBASE.out HL.out).mono ?_); rintro e w4 ⟨rfl, hr4, hb4⟩); have HRD4 := Aside0.mk hr4; have HB4 := Aside0.mk (below_dr HB.out hb4); clear hr4 hb4))
  all_goals go_wp2
  all_goals go_ret
  all_goals exact ⟨by first | rfl | simp, HRD4.out, HB4.out⟩
set_option maxHeartbeats 4000000 in
set_option maxRecDepth 100000 in
theorem zeta2_bad (W : World) (base p k : Nat) (s : ByteArray) (n a : Int) (bad : Bool) (h a1 : Int) (hrd : ReadIs W p s n a bad) (hbase : base ≤ p) (hh : rd_unary k s n a bad 16 = some (h, a1, true)) :
    Calls Try.prog 123 #[.pointer (some ⟨p, 0, none⟩), .int .i64 2] W fun e w' => e = .returned (.int .i64 0) ∧ ReadIs w' p s n a1 true ∧ Below base W w' := by
  have hu5 := Try.underlying125
  have HRD := Aside0.mk hrd
  have HBASE := Aside0.mk hbase
  have HB := Aside0.mk (Below.refl base W)
  clear hrd hbase
  have HH := Aside0.mk hh
  clear hh
  go_enter Try.func123, Try.ntmps123
  go_wp2_with (first | (go_at_call 120; ((with_reducible refine (rd_unary.calls _ base p k s n a bad 16 h a1 true HRD.out HBASE.out HH.out).mono ?_); rintro e w3 ⟨rfl, hr3, hb3⟩); have HRD3 := Aside0.mk hr3; have HB3 := Aside0.mk (HB.out.trans hb3); clear hr3 hb3 HRD HB; have HRD := HRD3; have HB := HB3; clear HRD3 HB3; (try clear c0 c1 c2 c3 f0 f1 f2 f3); obtain ⟨c0, c1, c2, c3, f0, f1, f2, f3⟩ := four_cells HRD.out))
  go_ret
  exact ⟨by first | rfl | simp, HRD.out, HB.out⟩
set_option maxHeartbeats 4000000 in
set_option maxRecDepth 100000 in
theorem zeta2_short (W : World) (base p k : Nat) (s : ByteArray) (n a : Int) (bad : Bool) (h a1 low many size short z a2 : Int) (b2 : Bool) (hrd : ReadIs W p s n a bad) (hbase : base ≤ p) (hh : rd_unary k s n a bad 16 = some (h, a1, false)) (hh0 : 1 ≤ h) (hh1 : h ≤ 100)
    (hz : code_zeta.f 2 (h - 1) = some (low, many, size, short)) (hlow0 : 0 ≤ low) (hlow : low ≤ 4294967296) (hs0 : 1 ≤ size) (hs1 : size ≤ 64) (hsh0 : 0 ≤ short) (hsh1 : short ≤ 4294967296) (hl : rd_look k s n a1 false (size - 1) = some (z, a2, b2)) (hz0 : 0 ≤ z) (hz1 : z ≤ 4294967296) (hzs : z < short) :
    Calls Try.prog 123 #[.pointer (some ⟨p, 0, none⟩), .int .i64 2] W fun e w' => e = .returned (.int .i64 (low + z)) ∧ ReadIs w' p s n a2 b2 ∧ Below base W w' := by
  have hu5 := Try.underlying125
  have HRD := Aside0.mk hrd
  have HBASE := Aside0.mk hbase
  have HB := Aside0.mk (Below.refl base W)
  clear hrd hbase
  have HH := Aside0.mk hh
  have HZ := Aside0.mk hz
  have HL := Aside0.mk hl
  clear hh hz hl
  go_enter Try.func123, Try.ntmps123
  go_wp2_with (first | (go_at_call 120; ((with_reducible refine (rd_unary.calls _ base p k s n a bad 16 h a1 false HRD.out HBASE.out HH.out).mono ?_); rintro e w3 ⟨rfl, hr3, hb3⟩); have HRD3 := Aside0.mk hr3; have HB3 := Aside0.mk (HB.out.trans hb3); clear hr3 hb3 HRD HB; have HRD := HRD3; have HB := HB3; clear HRD3 HB3; (try clear c0 c1 c2 c3 f0 f1 f2 f3); obtain ⟨c0, c1, c2, c3, f0, f1, f2, f3⟩ := four_cells HRD.out) | (go_at_call 119; (with_reducible refine (code_zeta.calls 2 (h - 1) low many size short _ HZ.out).mono ?_); rintro e w3 ⟨rfl, hd3⟩; have HRD3 := Aside0.mk (read_below HRD.out hd3.below); have HB3 := Aside0.mk (below_then HB.out (Nat.le_of_lt (Nat.lt_of_le_of_lt HBASE.out (blk_lt HRD.out))) hd3.below); clear hd3 HRD HB; have HRD := HRD3; have HB := HB3; clear HRD3 HB3; (try clear c0 c1 c2 c3 f0 f1 f2 f3); obtain ⟨c0, c1, c2, c3, f0, f1, f2, f3⟩ := four_cells HRD.out) | (go_at_call 127; ((with_reducible refine (rd_look.calls _ base p k s n a1 false (size - 1) z a2 b2 HRD.out HBASE.out HL.out).mono ?_); rintro e w3 ⟨rfl, hr3, hb3⟩); have HRD3 := Aside0.mk hr3; have HB3 := Aside0.mk (HB.out.trans hb3); clear hr3 hb3 HRD HB; have HRD := HRD3; have HB := HB3; clear HRD3 HB3; (try clear c0 c1 c2 c3 f0 f1 f2 f3); obtain ⟨c0, c1, c2, c3, f0, f1, f2, f3⟩ := four_cells HRD.out))
  go_ret
  exact ⟨by first | rfl | simp, HRD.out, HB.out⟩
set_option maxHeartbeats 4000000 in
set_option maxRecDepth 100000 in
theorem zeta2_long (W : World) (base p k : Nat) (s : ByteArray) (n a : Int) (bad : Bool) (h a1 low many size short z a2 : Int) (b2 : Bool) (hrd : ReadIs W p s n a bad) (hbase : base ≤ p) (hh : rd_unary k s n a bad 16 = some (h, a1, false)) (hh0 : 1 ≤ h) (hh1 : h ≤ 100)
    (hz : code_zeta.f 2 (h - 1) = some (low, many, size, short)) (hlow0 : 0 ≤ low) (hlow : low ≤ 4294967296) (hs0 : 1 ≤ size) (hs1 : size ≤ 64) (hsh0 : 0 ≤ short) (hsh1 : short ≤ 4294967296) (hl : rd_look k s n a1 false (size - 1) = some (z, a2, b2)) (hz0 : 0 ≤ z) (hz1 : z ≤ 4294967296) (hzs : short ≤ z) (y a3 : Int) (b3 : Bool) (hy : rd_look k s n a2 b2 1 = some (y, a3, b3)) (hy0 : 0 ≤ y) (hy1 : y ≤ 1) :
    Calls Try.prog 123 #[.pointer (some ⟨p, 0, none⟩), .int .i64 2] W fun e w' => e = .returned (.int .i64 (low + (z * 2 + y - short))) ∧ ReadIs w' p s n a3 b3 ∧ Below base W w' := by
  have hu5 := Try.underlying125
  have HRD := Aside0.mk hrd
  have HBASE := Aside0.mk hbase
  have HB := Aside0.mk (Below.refl base W)
  clear hrd hbase
  have HH := Aside0.mk hh
  have HZ := Aside0.mk hz
  have HL := Aside0.mk hl
  clear hh hz hl
  have HY := Aside0.mk hy
  clear hy
  go_enter Try.func123, Try.ntmps123
  go_wp2_with (first | (go_at_call 120; ((with_reducible refine (rd_unary.calls _ base p k s n a bad 16 h a1 false HRD.out HBASE.out HH.out).mono ?_); rintro e w3 ⟨rfl, hr3, hb3⟩); have HRD3 := Aside0.mk hr3; have HB3 := Aside0.mk (HB.out.trans hb3); clear hr3 hb3 HRD HB; have HRD := HRD3; have HB := HB3; clear HRD3 HB3; (try clear c0 c1 c2 c3 f0 f1 f2 f3); obtain ⟨c0, c1, c2, c3, f0, f1, f2, f3⟩ := four_cells HRD.out) | (go_at_call 119; (with_reducible refine (code_zeta.calls 2 (h - 1) low many size short _ HZ.out).mono ?_); rintro e w3 ⟨rfl, hd3⟩; have HRD3 := Aside0.mk (read_below HRD.out hd3.below); have HB3 := Aside0.mk (below_then HB.out (Nat.le_of_lt (Nat.lt_of_le_of_lt HBASE.out (blk_lt HRD.out))) hd3.below); clear hd3 HRD HB; have HRD := HRD3; have HB := HB3; clear HRD3 HB3; (try clear c0 c1 c2 c3 f0 f1 f2 f3); obtain ⟨c0, c1, c2, c3, f0, f1, f2, f3⟩ := four_cells HRD.out) | (go_at_call 127; ((with_reducible refine (rd_look.calls _ base p k s n a1 false (size - 1) z a2 b2 HRD.out HBASE.out HL.out).mono ?_); rintro e w3 ⟨rfl, hr3, hb3⟩); have HRD3 := Aside0.mk hr3; have HB3 := Aside0.mk (HB.out.trans hb3); clear hr3 hb3 HRD HB; have HRD := HRD3; have HB := HB3; clear HRD3 HB3; (try clear c0 c1 c2 c3 f0 f1 f2 f3); obtain ⟨c0, c1, c2, c3, f0, f1, f2, f3⟩ := four_cells HRD.out) | (go_at_call 127; ((with_reducible refine (rd_look.calls _ base p k s n a2 b2 1 y a3 b3 HRD.out HBASE.out HY.out).mono ?_); rintro e w3 ⟨rfl, hr3, hb3⟩); have HRD3 := Aside0.mk hr3; have HB3 := Aside0.mk (HB.out.trans hb3); clear hr3 hb3 HRD HB; have HRD := HRD3; have HB := HB3; clear HRD3 HB3; (try clear c0 c1 c2 c3 f0 f1 f2 f3); obtain ⟨c0, c1, c2, c3, f0, f1, f2, f3⟩ := four_cells HRD.out))
  go_ret
  exact ⟨by first | rfl | simp, HRD.out, HB.out⟩
set_option maxHeartbeats 4000000 in
set_option maxRecDepth 100000 in
theorem zeta3_bad (W : World) (base p k : Nat) (s : ByteArray) (n a : Int) (bad : Bool) (h a1 : Int) (hrd : ReadIs W p s n a bad) (hbase : base ≤ p) (hh : rd_unary k s n a bad 11 = some (h, a1, true)) :
    Calls Try.prog 123 #[.pointer (some ⟨p, 0, none⟩), .int .i64 3] W fun e w' => e = .returned (.int .i64 0) ∧ ReadIs w' p s n a1 true ∧ Below base W w' := by
  have hu5 := Try.underlying125
  have HRD := Aside0.mk hrd
  have HBASE := Aside0.mk hbase
  have HB := Aside0.mk (Below.refl base W)
  clear hrd hbase
  have HH := Aside0.mk hh
  clear hh
  go_enter Try.func123, Try.ntmps123
  go_wp2_with (first | (go_at_call 120; ((with_reducible refine (rd_unary.calls _ base p k s n a bad 11 h a1 true HRD.out HBASE.out HH.out).mono ?_); rintro e w3 ⟨rfl, hr3, hb3⟩); have HRD3 := Aside0.mk hr3; have HB3 := Aside0.mk (HB.out.trans hb3); clear hr3 hb3 HRD HB; have HRD := HRD3; have HB := HB3; clear HRD3 HB3; (try clear c0 c1 c2 c3 f0 f1 f2 f3); obtain ⟨c0, c1, c2, c3, f0, f1, f2, f3⟩ := four_cells HRD.out))
  go_ret
  exact ⟨by first | rfl | simp, HRD.out, HB.out⟩
set_option maxHeartbeats 4000000 in
set_option maxRecDepth 100000 in
theorem zeta3_short (W : World) (base p k : Nat) (s : ByteArray) (n a : Int) (bad : Bool) (h a1 low many size short z a2 : Int) (b2 : Bool) (hrd : ReadIs W p s n a bad) (hbase : base ≤ p) (hh : rd_unary k s n a bad 11 = some (h, a1, false)) (hh0 : 1 ≤ h) (hh1 : h ≤ 100)
    (hz : code_zeta.f 3 (h - 1) = some (low, many, size, short)) (hlow0 : 0 ≤ low) (hlow : low ≤ 4294967296) (hs0 : 1 ≤ size) (hs1 : size ≤ 64) (hsh0 : 0 ≤ short) (hsh1 : short ≤ 4294967296) (hl : rd_look k s n a1 false (size - 1) = some (z, a2, b2)) (hz0 : 0 ≤ z) (hz1 : z ≤ 4294967296) (hzs : z < short) :
    Calls Try.prog 123 #[.pointer (some ⟨p, 0, none⟩), .int .i64 3] W fun e w' => e = .returned (.int .i64 (low + z)) ∧ ReadIs w' p s n a2 b2 ∧ Below base W w' := by
  have hu5 := Try.underlying125
  have HRD := Aside0.mk hrd
  have HBASE := Aside0.mk hbase
  have HB := Aside0.mk (Below.refl base W)
  clear hrd hbase
  have HH := Aside0.mk hh
  have HZ := Aside0.mk hz
  have HL := Aside0.mk hl
  clear hh hz hl
  go_enter Try.func123, Try.ntmps123
  go_wp2_with (first | (go_at_call 120; ((with_reducible refine (rd_unary.calls _ base p k s n a bad 11 h a1 false HRD.out HBASE.out HH.out).mono ?_); rintro e w3 ⟨rfl, hr3, hb3⟩); have HRD3 := Aside0.mk hr3; have HB3 := Aside0.mk (HB.out.trans hb3); clear hr3 hb3 HRD HB; have HRD := HRD3; have HB := HB3; clear HRD3 HB3; (try clear c0 c1 c2 c3 f0 f1 f2 f3); obtain ⟨c0, c1, c2, c3, f0, f1, f2, f3⟩ := four_cells HRD.out) | (go_at_call 119; (with_reducible refine (code_zeta.calls 3 (h - 1) low many size short _ HZ.out).mono ?_); rintro e w3 ⟨rfl, hd3⟩; have HRD3 := Aside0.mk (read_below HRD.out hd3.below); have HB3 := Aside0.mk (below_then HB.out (Nat.le_of_lt (Nat.lt_of_le_of_lt HBASE.out (blk_lt HRD.out))) hd3.below); clear hd3 HRD HB; have HRD := HRD3; have HB := HB3; clear HRD3 HB3; (try clear c0 c1 c2 c3 f0 f1 f2 f3); obtain ⟨c0, c1, c2, c3, f0, f1, f2, f3⟩ := four_cells HRD.out) | (go_at_call 127; ((with_reducible refine (rd_look.calls _ base p k s n a1 false (size - 1) z a2 b2 HRD.out HBASE.out HL.out).mono ?_); rintro e w3 ⟨rfl, hr3, hb3⟩); have HRD3 := Aside0.mk hr3; have HB3 := Aside0.mk (HB.out.trans hb3); clear hr3 hb3 HRD HB; have HRD := HRD3; have HB := HB3; clear HRD3 HB3; (try clear c0 c1 c2 c3 f0 f1 f2 f3); obtain ⟨c0, c1, c2, c3, f0, f1, f2, f3⟩ := four_cells HRD.out))
  go_ret
  exact ⟨by first | rfl | simp, HRD.out, HB.out⟩
set_option maxHeartbeats 4000000 in
set_option maxRecDepth 100000 in
theorem zeta3_long (W : World) (base p k : Nat) (s : ByteArray) (n a : Int) (bad : Bool) (h a1 low many size short z a2 : Int) (b2 : Bool) (hrd : ReadIs W p s n a bad) (hbase : base ≤ p) (hh : rd_unary k s n a bad 11 = some (h, a1, false)) (hh0 : 1 ≤ h) (hh1 : h ≤ 100)
    (hz : code_zeta.f 3 (h - 1) = some (low, many, size, short)) (hlow0 : 0 ≤ low) (hlow : low ≤ 4294967296) (hs0 : 1 ≤ size) (hs1 : size ≤ 64) (hsh0 : 0 ≤ short) (hsh1 : short ≤ 4294967296) (hl : rd_look k s n a1 false (size - 1) = some (z, a2, b2)) (hz0 : 0 ≤ z) (hz1 : z ≤ 4294967296) (hzs : short ≤ z) (y a3 : Int) (b3 : Bool) (hy : rd_look k s n a2 b2 1 = some (y, a3, b3)) (hy0 : 0 ≤ y) (hy1 : y ≤ 1) :
    Calls Try.prog 123 #[.pointer (some ⟨p, 0, none⟩), .int .i64 3] W fun e w' => e = .returned (.int .i64 (low + (z * 2 + y - short))) ∧ ReadIs w' p s n a3 b3 ∧ Below base W w' := by
  have hu5 := Try.underlying125
  have HRD := Aside0.mk hrd
  have HBASE := Aside0.mk hbase
  have HB := Aside0.mk (Below.refl base W)
  clear hrd hbase
  have HH := Aside0.mk hh
  have HZ := Aside0.mk hz
  have HL := Aside0.mk hl
  clear hh hz hl
  have HY := Aside0.mk hy
  clear hy
  go_enter Try.func123, Try.ntmps123
  go_wp2_with (first | (go_at_call 120; ((with_reducible refine (rd_unary.calls _ base p k s n a bad 11 h a1 false HRD.out HBASE.out HH.out).mono ?_); rintro e w3 ⟨rfl, hr3, hb3⟩); have HRD3 := Aside0.mk hr3; have HB3 := Aside0.mk (HB.out.trans hb3); clear hr3 hb3 HRD HB; have HRD := HRD3; have HB := HB3; clear HRD3 HB3; (try clear c0 c1 c2 c3 f0 f1 f2 f3); obtain ⟨c0, c1, c2, c3, f0, f1, f2, f3⟩ := four_cells HRD.out) | (go_at_call 119; (with_reducible refine (code_zeta.calls 3 (h - 1) low many size short _ HZ.out).mono ?_); rintro e w3 ⟨rfl, hd3⟩; have HRD3 := Aside0.mk (read_below HRD.out hd3.below); have HB3 := Aside0.mk (below_then HB.out (Nat.le_of_lt (Nat.lt_of_le_of_lt HBASE.out (blk_lt HRD.out))) hd3.below); clear hd3 HRD HB; have HRD := HRD3; have HB := HB3; clear HRD3 HB3; (try clear c0 c1 c2 c3 f0 f1 f2 f3); obtain ⟨c0, c1, c2, c3, f0, f1, f2, f3⟩ := four_cells HRD.out) | (go_at_call 127; ((with_reducible refine (rd_look.calls _ base p k s n a1 false (size - 1) z a2 b2 HRD.out HBASE.out HL.out).mono ?_); rintro e w3 ⟨rfl, hr3, hb3⟩); have HRD3 := Aside0.mk hr3; have HB3 := Aside0.mk (HB.out.trans hb3); clear hr3 hb3 HRD HB; have HRD := HRD3; have HB := HB3; clear HRD3 HB3; (try clear c0 c1 c2 c3 f0 f1 f2 f3); obtain ⟨c0, c1, c2, c3, f0, f1, f2, f3⟩ := four_cells HRD.out) | (go_at_call 127; ((with_reducible refine (rd_look.calls _ base p k s n a2 b2 1 y a3 b3 HRD.out HBASE.out HY.out).mono ?_); rintro e w3 ⟨rfl, hr3, hb3⟩); have HRD3 := Aside0.mk hr3; have HB3 := Aside0.mk (HB.out.trans hb3); clear hr3 hb3 HRD HB; have HRD := HRD3; have HB := HB3; clear HRD3 HB3; (try clear c0 c1 c2 c3 f0 f1 f2 f3); obtain ⟨c0, c1, c2, c3, f0, f1, f2, f3⟩ := four_cells HRD.out))
  go_ret
  exact ⟨by first | rfl | simp, HRD.out, HB.out⟩
end Go.Proofs.Ytnpghcikhpglkaa.Q
namespace Go.Proofs.Ytnpghcikhpglkaa.Q
open Go.RowKit Go.Proofs.YtnpghcikhpglkaaW.PrintWords Go.Proofs.YtnpghcikhpglkaaW.PrintLast Go.Proofs.YtnpghcikhpglkaaW.PrintMore Go.Proofs.Ytnpghcikhpglkaa.Hand Go.Proofs.Ytnpghcikhpglkaa.Pu
set_option linter.unusedVariables false
set_option linter.unusedSimpArgs false
def rd_delta (k : Nat) (s : ByteArray) (n a : Int) (bad : Bool) : Option (Int × Int × Bool) :=
  (rd_gamma k s n a bad).bind fun g => if g.2.2 = true then some (0, g.2.1, true) else if 30 < g.1 - 1 then (if g.1 ≤ 4611686018427387904 then some (0, g.2.1, true) else none) else if 0 ≤ g.1 - 1 then
    (rd_look k s n g.2.1 false (g.1 - 1)).bind fun l => some (Go.bits .or .i64 (IntKind.i64.wrap (2 ^ (g.1.toNat - 1))) l.1, l.2.1, l.2.2) else none
def rd_zeta (kk most : Int) (k : Nat) (s : ByteArray) (n a : Int) (bad : Bool) : Option (Int × Int × Bool) :=
  (rd_unary k s n a bad most).bind fun u => if u.2.2 = true then some (0, u.2.1, true) else if 1 ≤ u.1 ∧ u.1 ≤ 100 then
    (code_zeta.f kk (u.1 - 1)).bind fun q => if 0 ≤ q.1 ∧ q.1 ≤ 4294967296 ∧ 1 ≤ q.2.2.1 ∧ q.2.2.1 ≤ 64 ∧ 0 ≤ q.2.2.2 ∧ q.2.2.2 ≤ 4294967296 then
      (rd_look k s n u.2.1 false (q.2.2.1 - 1)).bind fun z => if 0 ≤ z.1 ∧ z.1 ≤ 4294967296 then
        (if z.1 < q.2.2.2 then some (q.1 + z.1, z.2.1, z.2.2) else (rd_look k s n z.2.1 z.2.2 1).bind fun y => if 0 ≤ y.1 ∧ y.1 ≤ 1 then some (q.1 + (z.1 * 2 + y.1 - q.2.2.2), y.2.1, y.2.2) else none) else none
      else none
    else none
theorem rd_delta.calls (W : World) (base p k : Nat) (s : ByteArray) (n a : Int) (bad : Bool) (r a' : Int) (bad' : Bool) (hrd : ReadIs W p s n a bad) (hbase : base ≤ p) (h : rd_delta k s n a bad = some (r, a', bad')) :
    Calls Try.prog 122 #[.pointer (some ⟨p, 0, none⟩)] W fun e w' => e = .returned (.int .i64 r) ∧ ReadIs w' p s n a' bad' ∧ Below base W w' := by
  unfold rd_delta at h
  obtain ⟨⟨g, a1, b1⟩, h1, h2⟩ := Option.bind_eq_some_iff.1 h
  simp only at h2
  cases b1 with
  | true =>
    rw [if_pos rfl] at h2
    simp only [Option.some.injEq, Prod.mk.injEq] at h2
    obtain ⟨rfl, rfl, rfl⟩ := h2
    exact delta_bad1 W base p k s n a bad g a1 hrd hbase h1
  | false =>
    rw [if_neg (by simp)] at h2
    by_cases c1 : 30 < g - 1
    · rw [if_pos c1] at h2
      split at h2
      · rename_i c2
        simp only [Option.some.injEq, Prod.mk.injEq] at h2
        obtain ⟨rfl, rfl, rfl⟩ := h2
        exact delta_bad2 W base p k s n a bad g a1 hrd hbase h1 c1 c2
      · cases h2
    · rw [if_neg c1] at h2
      split at h2
      · rename_i c2
        obtain ⟨⟨l, a2, b2⟩, h3, h4⟩ := Option.bind_eq_some_iff.1 h2
        simp only [Option.some.injEq, Prod.mk.injEq] at h4
        obtain ⟨rfl, rfl, rfl⟩ := h4
        exact delta_ok W base p k s n a bad g a1 l a2 b2 hrd hbase h1 c2 (by omega) h3
      · cases h2
theorem rd_zeta2.calls (W : World) (base p k : Nat) (s : ByteArray) (n a : Int) (bad : Bool) (r a' : Int) (bad' : Bool) (hrd : ReadIs W p s n a bad) (hbase : base ≤ p) (h : rd_zeta 2 16 k s n a bad = some (r, a', bad')) :
    Calls Try.prog 123 #[.pointer (some ⟨p, 0, none⟩), .int .i64 2] W fun e w' => e = .returned (.int .i64 r) ∧ ReadIs w' p s n a' bad' ∧ Below base W w' := by
  unfold rd_zeta at h
  obtain ⟨⟨u, a1, b1⟩, h1, h2⟩ := Option.bind_eq_some_iff.1 h
  simp only at h2
  cases b1 with
  | true =>
    rw [if_pos rfl] at h2
    simp only [Option.some.injEq, Prod.mk.injEq] at h2
    obtain ⟨rfl, rfl, rfl⟩ := h2
    exact zeta2_bad W base p k s n a bad u a1 hrd hbase h1
  | false =>
    rw [if_neg (by simp)] at h2
    split at h2
    · rename_i c1
      obtain ⟨⟨low, many, size, short⟩, h3, h4⟩ := Option.bind_eq_some_iff.1 h2
      simp only at h4
      split at h4
      · rename_i c2
        obtain ⟨⟨z, a2, b2⟩, h5, h6⟩ := Option.bind_eq_some_iff.1 h4
        simp only at h6
        split at h6
        · rename_i c3
          split at h6
          · rename_i c4
            simp only [Option.some.injEq, Prod.mk.injEq] at h6
            obtain ⟨rfl, rfl, rfl⟩ := h6
            exact zeta2_short W base p k s n a bad u a1 low many size short z a2 b2 hrd hbase h1 c1.1 c1.2 h3 c2.1 c2.2.1 c2.2.2.1 c2.2.2.2.1 c2.2.2.2.2.1 c2.2.2.2.2.2 h5 c3.1 c3.2 c4
          · rename_i c4
            obtain ⟨⟨y, a3, b3⟩, h7, h8⟩ := Option.bind_eq_some_iff.1 h6
            simp only at h8
            split at h8
            · rename_i c5
              simp only [Option.some.injEq, Prod.mk.injEq] at h8
              obtain ⟨rfl, rfl, rfl⟩ := h8
              exact zeta2_long W base p k s n a bad u a1 low many size short z a2 b2 hrd hbase h1 c1.1 c1.2 h3 c2.1 c2.2.1 c2.2.2.1 c2.2.2.2.1 c2.2.2.2.2.1 c2.2.2.2.2.2 h5 c3.1 c3.2 (by omega) y a3 b3 h7 c5.1 c5.2
            · cases h8
        · cases h6
      · cases h4
    · cases h2
theorem rd_zeta3.calls (W : World) (base p k : Nat) (s : ByteArray) (n a : Int) (bad : Bool) (r a' : Int) (bad' : Bool) (hrd : ReadIs W p s n a bad) (hbase : base ≤ p) (h : rd_zeta 3 11 k s n a bad = some (r, a', bad')) :
    Calls Try.prog 123 #[.pointer (some ⟨p, 0, none⟩), .int .i64 3] W fun e w' => e = .returned (.int .i64 r) ∧ ReadIs w' p s n a' bad' ∧ Below base W w' := by
  unfold rd_zeta at h
  obtain ⟨⟨u, a1, b1⟩, h1, h2⟩ := Option.bind_eq_some_iff.1 h
  simp only at h2
  cases b1 with
  | true =>
    rw [if_pos rfl] at h2
    simp only [Option.some.injEq, Prod.mk.injEq] at h2
    obtain ⟨rfl, rfl, rfl⟩ := h2
    exact zeta3_bad W base p k s n a bad u a1 hrd hbase h1
  | false =>
    rw [if_neg (by simp)] at h2
    split at h2
    · rename_i c1
      obtain ⟨⟨low, many, size, short⟩, h3, h4⟩ := Option.bind_eq_some_iff.1 h2
      simp only at h4
      split at h4
      · rename_i c2
        obtain ⟨⟨z, a2, b2⟩, h5, h6⟩ := Option.bind_eq_some_iff.1 h4
        simp only at h6
        split at h6
        · rename_i c3
          split at h6
          · rename_i c4
            simp only [Option.some.injEq, Prod.mk.injEq] at h6
            obtain ⟨rfl, rfl, rfl⟩ := h6
            exact zeta3_short W base p k s n a bad u a1 low many size short z a2 b2 hrd hbase h1 c1.1 c1.2 h3 c2.1 c2.2.1 c2.2.2.1 c2.2.2.2.1 c2.2.2.2.2.1 c2.2.2.2.2.2 h5 c3.1 c3.2 c4
          · rename_i c4
            obtain ⟨⟨y, a3, b3⟩, h7, h8⟩ := Option.bind_eq_some_iff.1 h6
            simp only at h8
            split at h8
            · rename_i c5
              simp only [Option.some.injEq, Prod.mk.injEq] at h8
              obtain ⟨rfl, rfl, rfl⟩ := h8
              exact zeta3_long W base p k s n a bad u a1 low many size short z a2 b2 hrd hbase h1 c1.1 c1.2 h3 c2.1 c2.2.1 c2.2.2.1 c2.2.2.2.1 c2.2.2.2.2.1 c2.2.2.2.2.2 h5 c3.1 c3.2 (by omega) y a3 b3 h7 c5.1 c5.2
            · cases h8
        · cases h6
      · cases h4
    · cases h2
theorem rparts4 : code_parts.f 4 = some 2 := by decide +kernel
theorem rparts5 : code_parts.f 5 = some 3 := by decide +kernel
/-- The reader's answer of a kind. -/
def readK (k : Nat) (s : ByteArray) (n a kind : Int) : Option (Int × Int × Bool) :=
  if kind = 1 then rd_unary k s n a false 1000 else if kind = 2 then rd_gamma k s n a false else if kind = 3 then rd_delta k s n a false else if kind = 4 then rd_zeta 2 16 k s n a false else if kind = 5 then rd_zeta 3 11 k s n a false else none
set_option maxHeartbeats 4000000 in
set_option maxRecDepth 100000 in
theorem read1_bad (w : World) (k : Nat) (s : ByteArray) (n a r a' : Int) (hm : rd_unary k s n a false 1000 = some (r, a', true))  :
    Calls Try.prog 105 #[.agg #[.string s, .int .i64 n], .int .i64 a, .int .i64 1] w fun e w' => e = .returned (.tuple #[.int .i64 0, .int .i64 0, .bool false]) ∧ Below w.heap.size w w' := by
  have hu := Try.underlying27
  have hu5 := Try.underlying125
  have HS := Aside0.mk (start2 w (.cells #[.string s, .int .i64 n] 27) (.cells #[.string s, .int .i64 n, .int .i64 a, .bool false] 125))
  have HRD : Aside0 (ReadIs ((w.alloc (.cells #[.string s, .int .i64 n] 27)).alloc (.cells #[.string s, .int .i64 n, .int .i64 a, .bool false] 125)) (w.heap.size + 1) s n a false) := ⟨HS.out.2.1⟩
  have HB := Aside0.mk HS.out.2.2.1
  clear HS
  have HM := Aside0.mk hm
  clear hm
  go_enter Try.func105, Try.ntmps105
  go_wp2_with (first | (go_at_call 120; ((with_reducible refine (rd_unary.calls _ w.heap.size (w.heap.size + 1) k s n a false 1000 r a' true HRD.out (Nat.le_succ _) HM.out).mono ?_); rintro e w3 ⟨rfl, hr3, hb3⟩); have HRD3 := Aside0.mk hr3; have HB3 := Aside0.mk (HB.out.trans hb3); clear hr3 hb3 HRD HB; have HRD := HRD3; have HB := HB3; clear HRD3 HB3; (try clear c0 c1 c2 c3 f0 f1 f2 f3); obtain ⟨c0, c1, c2, c3, f0, f1, f2, f3⟩ := four_cells HRD.out))
  refine bodyPost_ret (results_list (rs := [.tmp 6, .tmp 7, .tmp 8]) rfl (by simp) (.tmp (.tmp (.tmp .nil)))) rfl ⟨rfl, HB.out⟩
set_option maxHeartbeats 4000000 in
set_option maxRecDepth 100000 in
theorem read1_big (w : World) (k : Nat) (s : ByteArray) (n a r a' : Int) (hm : rd_unary k s n a false 1000 = some (r, a', false)) (hr : 1073741824 < r) :
    Calls Try.prog 105 #[.agg #[.string s, .int .i64 n], .int .i64 a, .int .i64 1] w fun e w' => e = .returned (.tuple #[.int .i64 0, .int .i64 0, .bool false]) ∧ Below w.heap.size w w' := by
  have hu := Try.underlying27
  have hu5 := Try.underlying125
  have HS := Aside0.mk (start2 w (.cells #[.string s, .int .i64 n] 27) (.cells #[.string s, .int .i64 n, .int .i64 a, .bool false] 125))
  have HRD : Aside0 (ReadIs ((w.alloc (.cells #[.string s, .int .i64 n] 27)).alloc (.cells #[.string s, .int .i64 n, .int .i64 a, .bool false] 125)) (w.heap.size + 1) s n a false) := ⟨HS.out.2.1⟩
  have HB := Aside0.mk HS.out.2.2.1
  clear HS
  have HM := Aside0.mk hm
  clear hm
  go_enter Try.func105, Try.ntmps105
  go_wp2_with (first | (go_at_call 120; ((with_reducible refine (rd_unary.calls _ w.heap.size (w.heap.size + 1) k s n a false 1000 r a' false HRD.out (Nat.le_succ _) HM.out).mono ?_); rintro e w3 ⟨rfl, hr3, hb3⟩); have HRD3 := Aside0.mk hr3; have HB3 := Aside0.mk (HB.out.trans hb3); clear hr3 hb3 HRD HB; have HRD := HRD3; have HB := HB3; clear HRD3 HB3; (try clear c0 c1 c2 c3 f0 f1 f2 f3); obtain ⟨c0, c1, c2, c3, f0, f1, f2, f3⟩ := four_cells HRD.out))
  refine bodyPost_ret (results_list (rs := [.tmp 6, .tmp 7, .tmp 8]) rfl (by simp) (.tmp (.tmp (.tmp .nil)))) rfl ⟨rfl, HB.out⟩
set_option maxHeartbeats 4000000 in
set_option maxRecDepth 100000 in
theorem read1_ok (w : World) (k : Nat) (s : ByteArray) (n a r a' : Int) (hm : rd_unary k s n a false 1000 = some (r, a', false)) (hr : r ≤ 1073741824) :
    Calls Try.prog 105 #[.agg #[.string s, .int .i64 n], .int .i64 a, .int .i64 1] w fun e w' => e = .returned (.tuple #[.int .i64 r, .int .i64 a', .bool true]) ∧ Below w.heap.size w w' := by
  have hu := Try.underlying27
  have hu5 := Try.underlying125
  have HS := Aside0.mk (start2 w (.cells #[.string s, .int .i64 n] 27) (.cells #[.string s, .int .i64 n, .int .i64 a, .bool false] 125))
  have HRD : Aside0 (ReadIs ((w.alloc (.cells #[.string s, .int .i64 n] 27)).alloc (.cells #[.string s, .int .i64 n, .int .i64 a, .bool false] 125)) (w.heap.size + 1) s n a false) := ⟨HS.out.2.1⟩
  have HB := Aside0.mk HS.out.2.2.1
  clear HS
  have HM := Aside0.mk hm
  clear hm
  go_enter Try.func105, Try.ntmps105
  go_wp2_with (first | (go_at_call 120; ((with_reducible refine (rd_unary.calls _ w.heap.size (w.heap.size + 1) k s n a false 1000 r a' false HRD.out (Nat.le_succ _) HM.out).mono ?_); rintro e w3 ⟨rfl, hr3, hb3⟩); have HRD3 := Aside0.mk hr3; have HB3 := Aside0.mk (HB.out.trans hb3); clear hr3 hb3 HRD HB; have HRD := HRD3; have HB := HB3; clear HRD3 HB3; (try clear c0 c1 c2 c3 f0 f1 f2 f3); obtain ⟨c0, c1, c2, c3, f0, f1, f2, f3⟩ := four_cells HRD.out))
  go_region
  go_wp2
  refine bodyPost_ret (results_list (rs := [.tmp 6, .tmp 7, .tmp 8]) rfl (by simp) (.tmp (.tmp (.tmp .nil)))) rfl ⟨rfl, pw_below_drewN HB.out 1⟩
set_option maxHeartbeats 4000000 in
set_option maxRecDepth 100000 in
theorem read2_bad (w : World) (k : Nat) (s : ByteArray) (n a r a' : Int) (hm : rd_gamma k s n a false = some (r, a', true))  :
    Calls Try.prog 105 #[.agg #[.string s, .int .i64 n], .int .i64 a, .int .i64 2] w fun e w' => e = .returned (.tuple #[.int .i64 0, .int .i64 0, .bool false]) ∧ Below w.heap.size w w' := by
  have hu := Try.underlying27
  have hu5 := Try.underlying125
  have HS := Aside0.mk (start2 w (.cells #[.string s, .int .i64 n] 27) (.cells #[.string s, .int .i64 n, .int .i64 a, .bool false] 125))
  have HRD : Aside0 (ReadIs ((w.alloc (.cells #[.string s, .int .i64 n] 27)).alloc (.cells #[.string s, .int .i64 n, .int .i64 a, .bool false] 125)) (w.heap.size + 1) s n a false) := ⟨HS.out.2.1⟩
  have HB := Aside0.mk HS.out.2.2.1
  clear HS
  have HM := Aside0.mk hm
  clear hm
  go_enter Try.func105, Try.ntmps105
  go_wp2_with (first | (go_at_call 121; ((with_reducible refine (rd_gamma.calls _ w.heap.size (w.heap.size + 1) k s n a false r a' true HRD.out (Nat.le_succ _) HM.out).mono ?_); rintro e w3 ⟨rfl, hr3, hb3⟩); have HRD3 := Aside0.mk hr3; have HB3 := Aside0.mk (HB.out.trans hb3); clear hr3 hb3 HRD HB; have HRD := HRD3; have HB := HB3; clear HRD3 HB3; (try clear c0 c1 c2 c3 f0 f1 f2 f3); obtain ⟨c0, c1, c2, c3, f0, f1, f2, f3⟩ := four_cells HRD.out))
  refine bodyPost_ret (results_list (rs := [.tmp 6, .tmp 7, .tmp 8]) rfl (by simp) (.tmp (.tmp (.tmp .nil)))) rfl ⟨rfl, HB.out⟩
set_option maxHeartbeats 4000000 in
set_option maxRecDepth 100000 in
theorem read2_big (w : World) (k : Nat) (s : ByteArray) (n a r a' : Int) (hm : rd_gamma k s n a false = some (r, a', false)) (hr : 1073741824 < r) :
    Calls Try.prog 105 #[.agg #[.string s, .int .i64 n], .int .i64 a, .int .i64 2] w fun e w' => e = .returned (.tuple #[.int .i64 0, .int .i64 0, .bool false]) ∧ Below w.heap.size w w' := by
  have hu := Try.underlying27
  have hu5 := Try.underlying125
  have HS := Aside0.mk (start2 w (.cells #[.string s, .int .i64 n] 27) (.cells #[.string s, .int .i64 n, .int .i64 a, .bool false] 125))
  have HRD : Aside0 (ReadIs ((w.alloc (.cells #[.string s, .int .i64 n] 27)).alloc (.cells #[.string s, .int .i64 n, .int .i64 a, .bool false] 125)) (w.heap.size + 1) s n a false) := ⟨HS.out.2.1⟩
  have HB := Aside0.mk HS.out.2.2.1
  clear HS
  have HM := Aside0.mk hm
  clear hm
  go_enter Try.func105, Try.ntmps105
  go_wp2_with (first | (go_at_call 121; ((with_reducible refine (rd_gamma.calls _ w.heap.size (w.heap.size + 1) k s n a false r a' false HRD.out (Nat.le_succ _) HM.out).mono ?_); rintro e w3 ⟨rfl, hr3, hb3⟩); have HRD3 := Aside0.mk hr3; have HB3 := Aside0.mk (HB.out.trans hb3); clear hr3 hb3 HRD HB; have HRD := HRD3; have HB := HB3; clear HRD3 HB3; (try clear c0 c1 c2 c3 f0 f1 f2 f3); obtain ⟨c0, c1, c2, c3, f0, f1, f2, f3⟩ := four_cells HRD.out))
  refine bodyPost_ret (results_list (rs := [.tmp 6, .tmp 7, .tmp 8]) rfl (by simp) (.tmp (.tmp (.tmp .nil)))) rfl ⟨rfl, HB.out⟩
set_option maxHeartbeats 4000000 in
set_option maxRecDepth 100000 in
theorem read2_ok (w : World) (k : Nat) (s : ByteArray) (n a r a' : Int) (hm : rd_gamma k s n a false = some (r, a', false)) (hr : r ≤ 1073741824) :
    Calls Try.prog 105 #[.agg #[.string s, .int .i64 n], .int .i64 a, .int .i64 2] w fun e w' => e = .returned (.tuple #[.int .i64 r, .int .i64 a', .bool true]) ∧ Below w.heap.size w w' := by
  have hu := Try.underlying27
  have hu5 := Try.underlying125
  have HS := Aside0.mk (start2 w (.cells #[.string s, .int .i64 n] 27) (.cells #[.string s, .int .i64 n, .int .i64 a, .bool false] 125))
  have HRD : Aside0 (ReadIs ((w.alloc (.cells #[.string s, .int .i64 n] 27)).alloc (.cells #[.string s, .int .i64 n, .int .i64 a, .bool false] 125)) (w.heap.size + 1) s n a false) := ⟨HS.out.2.1⟩
  have HB := Aside0.mk HS.out.2.2.1
  clear HS
  have HM := Aside0.mk hm
  clear hm
  go_enter Try.func105, Try.ntmps105
  go_wp2_with (first | (go_at_call 121; ((with_reducible refine (rd_gamma.calls _ w.heap.size (w.heap.size + 1) k s n a false r a' false HRD.out (Nat.le_succ _) HM.out).mono ?_); rintro e w3 ⟨rfl, hr3, hb3⟩); have HRD3 := Aside0.mk hr3; have HB3 := Aside0.mk (HB.out.trans hb3); clear hr3 hb3 HRD HB; have HRD := HRD3; have HB := HB3; clear HRD3 HB3; (try clear c0 c1 c2 c3 f0 f1 f2 f3); obtain ⟨c0, c1, c2, c3, f0, f1, f2, f3⟩ := four_cells HRD.out))
  go_region
  go_wp2
  refine bodyPost_ret (results_list (rs := [.tmp 6, .tmp 7, .tmp 8]) rfl (by simp) (.tmp (.tmp (.tmp .nil)))) rfl ⟨rfl, pw_below_drewN HB.out 1⟩
set_option maxHeartbeats 4000000 in
set_option maxRecDepth 100000 in
theorem read3_bad (w : World) (k : Nat) (s : ByteArray) (n a r a' : Int) (hm : rd_delta k s n a false = some (r, a', true))  :
    Calls Try.prog 105 #[.agg #[.string s, .int .i64 n], .int .i64 a, .int .i64 3] w fun e w' => e = .returned (.tuple #[.int .i64 0, .int .i64 0, .bool false]) ∧ Below w.heap.size w w' := by
  have hu := Try.underlying27
  have hu5 := Try.underlying125
  have HS := Aside0.mk (start2 w (.cells #[.string s, .int .i64 n] 27) (.cells #[.string s, .int .i64 n, .int .i64 a, .bool false] 125))
  have HRD : Aside0 (ReadIs ((w.alloc (.cells #[.string s, .int .i64 n] 27)).alloc (.cells #[.string s, .int .i64 n, .int .i64 a, .bool false] 125)) (w.heap.size + 1) s n a false) := ⟨HS.out.2.1⟩
  have HB := Aside0.mk HS.out.2.2.1
  clear HS
  have HM := Aside0.mk hm
  clear hm
  go_enter Try.func105, Try.ntmps105
  go_wp2_with (first | (go_at_call 122; ((with_reducible refine (rd_delta.calls _ w.heap.size (w.heap.size + 1) k s n a false r a' true HRD.out (Nat.le_succ _) HM.out).mono ?_); rintro e w3 ⟨rfl, hr3, hb3⟩); have HRD3 := Aside0.mk hr3; have HB3 := Aside0.mk (HB.out.trans hb3); clear hr3 hb3 HRD HB; have HRD := HRD3; have HB := HB3; clear HRD3 HB3; (try clear c0 c1 c2 c3 f0 f1 f2 f3); obtain ⟨c0, c1, c2, c3, f0, f1, f2, f3⟩ := four_cells HRD.out))
  refine bodyPost_ret (results_list (rs := [.tmp 6, .tmp 7, .tmp 8]) rfl (by simp) (.tmp (.tmp (.tmp .nil)))) rfl ⟨rfl, HB.out⟩
set_option maxHeartbeats 4000000 in
set_option maxRecDepth 100000 in
theorem read3_big (w : World) (k : Nat) (s : ByteArray) (n a r a' : Int) (hm : rd_delta k s n a false = some (r, a', false)) (hr : 1073741824 < r) :
    Calls Try.prog 105 #[.agg #[.string s, .int .i64 n], .int .i64 a, .int .i64 3] w fun e w' => e = .returned (.tuple #[.int .i64 0, .int .i64 0, .bool false]) ∧ Below w.heap.size w w' := by
  have hu := Try.underlying27
  have hu5 := Try.underlying125
  have HS := Aside0.mk (start2 w (.cells #[.string s, .int .i64 n] 27) (.cells #[.string s, .int .i64 n, .int .i64 a, .bool false] 125))
  have HRD : Aside0 (ReadIs ((w.alloc (.cells #[.string s, .int .i64 n] 27)).alloc (.cells #[.string s, .int .i64 n, .int .i64 a, .bool false] 125)) (w.heap.size + 1) s n a false) := ⟨HS.out.2.1⟩
  have HB := Aside0.mk HS.out.2.2.1
  clear HS
  have HM := Aside0.mk hm
  clear hm
  go_enter Try.func105, Try.ntmps105
  go_wp2_with (first | (go_at_call 122; ((with_reducible refine (rd_delta.calls _ w.heap.size (w.heap.size + 1) k s n a false r a' false HRD.out (Nat.le_succ _) HM.out).mono ?_); rintro e w3 ⟨rfl, hr3, hb3⟩); have HRD3 := Aside0.mk hr3; have HB3 := Aside0.mk (HB.out.trans hb3); clear hr3 hb3 HRD HB; have HRD := HRD3; have HB := HB3; clear HRD3 HB3; (try clear c0 c1 c2 c3 f0 f1 f2 f3); obtain ⟨c0, c1, c2, c3, f0, f1, f2, f3⟩ := four_cells HRD.out))
  refine bodyPost_ret (results_list (rs := [.tmp 6, .tmp 7, .tmp 8]) rfl (by simp) (.tmp (.tmp (.tmp .nil)))) rfl ⟨rfl, HB.out⟩
set_option maxHeartbeats 4000000 in
set_option maxRecDepth 100000 in
theorem read3_ok (w : World) (k : Nat) (s : ByteArray) (n a r a' : Int) (hm : rd_delta k s n a false = some (r, a', false)) (hr : r ≤ 1073741824) :
    Calls Try.prog 105 #[.agg #[.string s, .int .i64 n], .int .i64 a, .int .i64 3] w fun e w' => e = .returned (.tuple #[.int .i64 r, .int .i64 a', .bool true]) ∧ Below w.heap.size w w' := by
  have hu := Try.underlying27
  have hu5 := Try.underlying125
  have HS := Aside0.mk (start2 w (.cells #[.string s, .int .i64 n] 27) (.cells #[.string s, .int .i64 n, .int .i64 a, .bool false] 125))
  have HRD : Aside0 (ReadIs ((w.alloc (.cells #[.string s, .int .i64 n] 27)).alloc (.cells #[.string s, .int .i64 n, .int .i64 a, .bool false] 125)) (w.heap.size + 1) s n a false) := ⟨HS.out.2.1⟩
  have HB := Aside0.mk HS.out.2.2.1
  clear HS
  have HM := Aside0.mk hm
  clear hm
  go_enter Try.func105, Try.ntmps105
  go_wp2_with (first | (go_at_call 122; ((with_reducible refine (rd_delta.calls _ w.heap.size (w.heap.size + 1) k s n a false r a' false HRD.out (Nat.le_succ _) HM.out).mono ?_); rintro e w3 ⟨rfl, hr3, hb3⟩); have HRD3 := Aside0.mk hr3; have HB3 := Aside0.mk (HB.out.trans hb3); clear hr3 hb3 HRD HB; have HRD := HRD3; have HB := HB3; clear HRD3 HB3; (try clear c0 c1 c2 c3 f0 f1 f2 f3); obtain ⟨c0, c1, c2, c3, f0, f1, f2, f3⟩ := four_cells HRD.out))
  go_region
  go_wp2
  refine bodyPost_ret (results_list (rs := [.tmp 6, .tmp 7, .tmp 8]) rfl (by simp) (.tmp (.tmp (.tmp .nil)))) rfl ⟨rfl, pw_below_drewN HB.out 1⟩
set_option maxHeartbeats 4000000 in
set_option maxRecDepth 100000 in
theorem read4_bad (w : World) (k : Nat) (s : ByteArray) (n a r a' : Int) (hm : rd_zeta 2 16 k s n a false = some (r, a', true))  :
    Calls Try.prog 105 #[.agg #[.string s, .int .i64 n], .int .i64 a, .int .i64 4] w fun e w' => e = .returned (.tuple #[.int .i64 0, .int .i64 0, .bool false]) ∧ Below w.heap.size w w' := by
  have hu := Try.underlying27
  have hu5 := Try.underlying125
  have HS := Aside0.mk (start2 w (.cells #[.string s, .int .i64 n] 27) (.cells #[.string s, .int .i64 n, .int .i64 a, .bool false] 125))
  have HRD : Aside0 (ReadIs ((w.alloc (.cells #[.string s, .int .i64 n] 27)).alloc (.cells #[.string s, .int .i64 n, .int .i64 a, .bool false] 125)) (w.heap.size + 1) s n a false) := ⟨HS.out.2.1⟩
  have HB := Aside0.mk HS.out.2.2.1
  clear HS
  have HM := Aside0.mk hm
  clear hm
  go_enter Try.func105, Try.ntmps105
  go_wp2_with (first | (go_at_call 123; ((with_reducible refine (rd_zeta2.calls _ w.heap.size (w.heap.size + 1) k s n a false r a' true HRD.out (Nat.le_succ _) HM.out).mono ?_); rintro e w3 ⟨rfl, hr3, hb3⟩); have HRD3 := Aside0.mk hr3; have HB3 := Aside0.mk (HB.out.trans hb3); clear hr3 hb3 HRD HB; have HRD := HRD3; have HB := HB3; clear HRD3 HB3; (try clear c0 c1 c2 c3 f0 f1 f2 f3); obtain ⟨c0, c1, c2, c3, f0, f1, f2, f3⟩ := four_cells HRD.out) | (go_at_call 118; (with_reducible refine (code_parts.calls 4 2 _ rparts4).mono ?_); rintro e w3 ⟨rfl, hd3⟩; have HRD3 := Aside0.mk (read_below HRD.out hd3.below); have HB3 := Aside0.mk (below_then HB.out HB.out.size hd3.below); clear hd3 HRD HB; have HRD := HRD3; have HB := HB3; clear HRD3 HB3; (try clear c0 c1 c2 c3 f0 f1 f2 f3); obtain ⟨c0, c1, c2, c3, f0, f1, f2, f3⟩ := four_cells HRD.out))
  refine bodyPost_ret (results_list (rs := [.tmp 6, .tmp 7, .tmp 8]) rfl (by simp) (.tmp (.tmp (.tmp .nil)))) rfl ⟨rfl, HB.out⟩
set_option maxHeartbeats 4000000 in
set_option maxRecDepth 100000 in
theorem read4_big (w : World) (k : Nat) (s : ByteArray) (n a r a' : Int) (hm : rd_zeta 2 16 k s n a false = some (r, a', false)) (hr : 1073741824 < r) :
    Calls Try.prog 105 #[.agg #[.string s, .int .i64 n], .int .i64 a, .int .i64 4] w fun e w' => e = .returned (.tuple #[.int .i64 0, .int .i64 0, .bool false]) ∧ Below w.heap.size w w' := by
  have hu := Try.underlying27
  have hu5 := Try.underlying125
  have HS := Aside0.mk (start2 w (.cells #[.string s, .int .i64 n] 27) (.cells #[.string s, .int .i64 n, .int .i64 a, .bool false] 125))
  have HRD : Aside0 (ReadIs ((w.alloc (.cells #[.string s, .int .i64 n] 27)).alloc (.cells #[.string s, .int .i64 n, .int .i64 a, .bool false] 125)) (w.heap.size + 1) s n a false) := ⟨HS.out.2.1⟩
  have HB := Aside0.mk HS.out.2.2.1
  clear HS
  have HM := Aside0.mk hm
  clear hm
  go_enter Try.func105, Try.ntmps105
  go_wp2_with (first | (go_at_call 123; ((with_reducible refine (rd_zeta2.calls _ w.heap.size (w.heap.size + 1) k s n a false r a' false HRD.out (Nat.le_succ _) HM.out).mono ?_); rintro e w3 ⟨rfl, hr3, hb3⟩); have HRD3 := Aside0.mk hr3; have HB3 := Aside0.mk (HB.out.trans hb3); clear hr3 hb3 HRD HB; have HRD := HRD3; have HB := HB3; clear HRD3 HB3; (try clear c0 c1 c2 c3 f0 f1 f2 f3); obtain ⟨c0, c1, c2, c3, f0, f1, f2, f3⟩ := four_cells HRD.out) | (go_at_call 118; (with_reducible refine (code_parts.calls 4 2 _ rparts4).mono ?_); rintro e w3 ⟨rfl, hd3⟩; have HRD3 := Aside0.mk (read_below HRD.out hd3.below); have HB3 := Aside0.mk (below_then HB.out HB.out.size hd3.below); clear hd3 HRD HB; have HRD := HRD3; have HB := HB3; clear HRD3 HB3; (try clear c0 c1 c2 c3 f0 f1 f2 f3); obtain ⟨c0, c1, c2, c3, f0, f1, f2, f3⟩ := four_cells HRD.out))
  refine bodyPost_ret (results_list (rs := [.tmp 6, .tmp 7, .tmp 8]) rfl (by simp) (.tmp (.tmp (.tmp .nil)))) rfl ⟨rfl, HB.out⟩
set_option maxHeartbeats 4000000 in
set_option maxRecDepth 100000 in
theorem read4_ok (w : World) (k : Nat) (s : ByteArray) (n a r a' : Int) (hm : rd_zeta 2 16 k s n a false = some (r, a', false)) (hr : r ≤ 1073741824) :
    Calls Try.prog 105 #[.agg #[.string s, .int .i64 n], .int .i64 a, .int .i64 4] w fun e w' => e = .returned (.tuple #[.int .i64 r, .int .i64 a', .bool true]) ∧ Below w.heap.size w w' := by
  have hu := Try.underlying27
  have hu5 := Try.underlying125
  have HS := Aside0.mk (start2 w (.cells #[.string s, .int .i64 n] 27) (.cells #[.string s, .int .i64 n, .int .i64 a, .bool false] 125))
  have HRD : Aside0 (ReadIs ((w.alloc (.cells #[.string s, .int .i64 n] 27)).alloc (.cells #[.string s, .int .i64 n, .int .i64 a, .bool false] 125)) (w.heap.size + 1) s n a false) := ⟨HS.out.2.1⟩
  have HB := Aside0.mk HS.out.2.2.1
  clear HS
  have HM := Aside0.mk hm
  clear hm
  go_enter Try.func105, Try.ntmps105
  go_wp2_with (first | (go_at_call 123; ((with_reducible refine (rd_zeta2.calls _ w.heap.size (w.heap.size + 1) k s n a false r a' false HRD.out (Nat.le_succ _) HM.out).mono ?_); rintro e w3 ⟨rfl, hr3, hb3⟩); have HRD3 := Aside0.mk hr3; have HB3 := Aside0.mk (HB.out.trans hb3); clear hr3 hb3 HRD HB; have HRD := HRD3; have HB := HB3; clear HRD3 HB3; (try clear c0 c1 c2 c3 f0 f1 f2 f3); obtain ⟨c0, c1, c2, c3, f0, f1, f2, f3⟩ := four_cells HRD.out) | (go_at_call 118; (with_reducible refine (code_parts.calls 4 2 _ rparts4).mono ?_); rintro e w3 ⟨rfl, hd3⟩; have HRD3 := Aside0.mk (read_below HRD.out hd3.below); have HB3 := Aside0.mk (below_then HB.out HB.out.size hd3.below); clear hd3 HRD HB; have HRD := HRD3; have HB := HB3; clear HRD3 HB3; (try clear c0 c1 c2 c3 f0 f1 f2 f3); obtain ⟨c0, c1, c2, c3, f0, f1, f2, f3⟩ := four_cells HRD.out))
  go_region
  go_wp2
  refine bodyPost_ret (results_list (rs := [.tmp 6, .tmp 7, .tmp 8]) rfl (by simp) (.tmp (.tmp (.tmp .nil)))) rfl ⟨rfl, pw_below_drewN HB.out 1⟩
set_option maxHeartbeats 4000000 in
set_option maxRecDepth 100000 in
theorem read5_bad (w : World) (k : Nat) (s : ByteArray) (n a r a' : Int) (hm : rd_zeta 3 11 k s n a false = some (r, a', true))  :
    Calls Try.prog 105 #[.agg #[.string s, .int .i64 n], .int .i64 a, .int .i64 5] w fun e w' => e = .returned (.tuple #[.int .i64 0, .int .i64 0, .bool false]) ∧ Below w.heap.size w w' := by
  have hu := Try.underlying27
  have hu5 := Try.underlying125
  have HS := Aside0.mk (start2 w (.cells #[.string s, .int .i64 n] 27) (.cells #[.string s, .int .i64 n, .int .i64 a, .bool false] 125))
  have HRD : Aside0 (ReadIs ((w.alloc (.cells #[.string s, .int .i64 n] 27)).alloc (.cells #[.string s, .int .i64 n, .int .i64 a, .bool false] 125)) (w.heap.size + 1) s n a false) := ⟨HS.out.2.1⟩
  have HB := Aside0.mk HS.out.2.2.1
  clear HS
  have HM := Aside0.mk hm
  clear hm
  go_enter Try.func105, Try.ntmps105
  go_wp2_with (first | (go_at_call 123; ((with_reducible refine (rd_zeta3.calls _ w.heap.size (w.heap.size + 1) k s n a false r a' true HRD.out (Nat.le_succ _) HM.out).mono ?_); rintro e w3 ⟨rfl, hr3, hb3⟩); have HRD3 := Aside0.mk hr3; have HB3 := Aside0.mk (HB.out.trans hb3); clear hr3 hb3 HRD HB; have HRD := HRD3; have HB := HB3; clear HRD3 HB3; (try clear c0 c1 c2 c3 f0 f1 f2 f3); obtain ⟨c0, c1, c2, c3, f0, f1, f2, f3⟩ := four_cells HRD.out) | (go_at_call 118; (with_reducible refine (code_parts.calls 5 3 _ rparts5).mono ?_); rintro e w3 ⟨rfl, hd3⟩; have HRD3 := Aside0.mk (read_below HRD.out hd3.below); have HB3 := Aside0.mk (below_then HB.out HB.out.size hd3.below); clear hd3 HRD HB; have HRD := HRD3; have HB := HB3; clear HRD3 HB3; (try clear c0 c1 c2 c3 f0 f1 f2 f3); obtain ⟨c0, c1, c2, c3, f0, f1, f2, f3⟩ := four_cells HRD.out))
  refine bodyPost_ret (results_list (rs := [.tmp 6, .tmp 7, .tmp 8]) rfl (by simp) (.tmp (.tmp (.tmp .nil)))) rfl ⟨rfl, HB.out⟩
set_option maxHeartbeats 4000000 in
set_option maxRecDepth 100000 in
theorem read5_big (w : World) (k : Nat) (s : ByteArray) (n a r a' : Int) (hm : rd_zeta 3 11 k s n a false = some (r, a', false)) (hr : 1073741824 < r) :
    Calls Try.prog 105 #[.agg #[.string s, .int .i64 n], .int .i64 a, .int .i64 5] w fun e w' => e = .returned (.tuple #[.int .i64 0, .int .i64 0, .bool false]) ∧ Below w.heap.size w w' := by
  have hu := Try.underlying27
  have hu5 := Try.underlying125
  have HS := Aside0.mk (start2 w (.cells #[.string s, .int .i64 n] 27) (.cells #[.string s, .int .i64 n, .int .i64 a, .bool false] 125))
  have HRD : Aside0 (ReadIs ((w.alloc (.cells #[.string s, .int .i64 n] 27)).alloc (.cells #[.string s, .int .i64 n, .int .i64 a, .bool false] 125)) (w.heap.size + 1) s n a false) := ⟨HS.out.2.1⟩
  have HB := Aside0.mk HS.out.2.2.1
  clear HS
  have HM := Aside0.mk hm
  clear hm
  go_enter Try.func105, Try.ntmps105
  go_wp2_with (first | (go_at_call 123; ((with_reducible refine (rd_zeta3.calls _ w.heap.size (w.heap.size + 1) k s n a false r a' false HRD.out (Nat.le_succ _) HM.out).mono ?_); rintro e w3 ⟨rfl, hr3, hb3⟩); have HRD3 := Aside0.mk hr3; have HB3 := Aside0.mk (HB.out.trans hb3); clear hr3 hb3 HRD HB; have HRD := HRD3; have HB := HB3; clear HRD3 HB3; (try clear c0 c1 c2 c3 f0 f1 f2 f3); obtain ⟨c0, c1, c2, c3, f0, f1, f2, f3⟩ := four_cells HRD.out) | (go_at_call 118; (with_reducible refine (code_parts.calls 5 3 _ rparts5).mono ?_); rintro e w3 ⟨rfl, hd3⟩; have HRD3 := Aside0.mk (read_below HRD.out hd3.below); have HB3 := Aside0.mk (below_then HB.out HB.out.size hd3.below); clear hd3 HRD HB; have HRD := HRD3; have HB := HB3; clear HRD3 HB3; (try clear c0 c1 c2 c3 f0 f1 f2 f3); obtain ⟨c0, c1, c2, c3, f0, f1, f2, f3⟩ := four_cells HRD.out))
  refine bodyPost_ret (results_list (rs := [.tmp 6, .tmp 7, .tmp 8]) rfl (by simp) (.tmp (.tmp (.tmp .nil)))) rfl ⟨rfl, HB.out⟩
set_option maxHeartbeats 4000000 in
set_option maxRecDepth 100000 in
theorem read5_ok (w : World) (k : Nat) (s : ByteArray) (n a r a' : Int) (hm : rd_zeta 3 11 k s n a false = some (r, a', false)) (hr : r ≤ 1073741824) :
    Calls Try.prog 105 #[.agg #[.string s, .int .i64 n], .int .i64 a, .int .i64 5] w fun e w' => e = .returned (.tuple #[.int .i64 r, .int .i64 a', .bool true]) ∧ Below w.heap.size w w' := by
  have hu := Try.underlying27
  have hu5 := Try.underlying125
  have HS := Aside0.mk (start2 w (.cells #[.string s, .int .i64 n] 27) (.cells #[.string s, .int .i64 n, .int .i64 a, .bool false] 125))
  have HRD : Aside0 (ReadIs ((w.alloc (.cells #[.string s, .int .i64 n] 27)).alloc (.cells #[.string s, .int .i64 n, .int .i64 a, .bool false] 125)) (w.heap.size + 1) s n a false) := ⟨HS.out.2.1⟩
  have HB := Aside0.mk HS.out.2.2.1
  clear HS
  have HM := Aside0.mk hm
  clear hm
  go_enter Try.func105, Try.ntmps105
  go_wp2_with (first | (go_at_call 123; ((with_reducible refine (rd_zeta3.calls _ w.heap.size (w.heap.size + 1) k s n a false r a' false HRD.out (Nat.le_succ _) HM.out).mono ?_); rintro e w3 ⟨rfl, hr3, hb3⟩); have HRD3 := Aside0.mk hr3; have HB3 := Aside0.mk (HB.out.trans hb3); clear hr3 hb3 HRD HB; have HRD := HRD3; have HB := HB3; clear HRD3 HB3; (try clear c0 c1 c2 c3 f0 f1 f2 f3); obtain ⟨c0, c1, c2, c3, f0, f1, f2, f3⟩ := four_cells HRD.out) | (go_at_call 118; (with_reducible refine (code_parts.calls 5 3 _ rparts5).mono ?_); rintro e w3 ⟨rfl, hd3⟩; have HRD3 := Aside0.mk (read_below HRD.out hd3.below); have HB3 := Aside0.mk (below_then HB.out HB.out.size hd3.below); clear hd3 HRD HB; have HRD := HRD3; have HB := HB3; clear HRD3 HB3; (try clear c0 c1 c2 c3 f0 f1 f2 f3); obtain ⟨c0, c1, c2, c3, f0, f1, f2, f3⟩ := four_cells HRD.out))
  go_region
  go_wp2
  refine bodyPost_ret (results_list (rs := [.tmp 6, .tmp 7, .tmp 8]) rfl (by simp) (.tmp (.tmp (.tmp .nil)))) rfl ⟨rfl, pw_below_drewN HB.out 1⟩
end Go.Proofs.Ytnpghcikhpglkaa.Q
namespace Go.Proofs.Ytnpghcikhpglkaa.Q
open Go.RowKit Go.Proofs.YtnpghcikhpglkaaW.PrintWords Go.Proofs.YtnpghcikhpglkaaW.PrintLast Go.Proofs.YtnpghcikhpglkaaW.PrintMore Go.Proofs.Ytnpghcikhpglkaa.Hand Go.Proofs.Ytnpghcikhpglkaa.Pu
set_option linter.unusedVariables false
set_option linter.unusedSimpArgs false
def ztGood (kk h : Nat) (q : Int × Int × Int × Int) : Bool :=
  q.1 == ((2 ^ (h * kk) : Nat) : Int) && (q.2.1 == ((2 ^ (h * kk + kk) : Nat) : Int) - ((2 ^ (h * kk) : Nat) : Int) && (Nat.ble 1 q.2.2.1.toNat && (Nat.ble q.2.2.1.toNat 40 && (q.2.2.1 == (q.2.2.1.toNat : Int) && (q.2.2.2 == ((2 ^ q.2.2.1.toNat : Nat) : Int) - q.2.1 && (q.2.2.2 == (q.2.2.2.toNat : Int) && Nat.ble q.2.2.2.toNat 2147483648))))))
def ztOk (kk : Nat) (h : Nat) : Bool := (code_zeta.f (kk : Int) (h : Int)).any (ztGood kk h)
theorem zt2 : ∀ h : Fin 16, ztOk 2 h.val = true := by decide +kernel
theorem zt3 : ∀ h : Fin 11, ztOk 3 h.val = true := by decide +kernel
theorem zt_facts {kk h : Nat} (ho : ztOk kk h = true) : ∃ low many size short : Int, code_zeta.f (kk : Int) (h : Int) = some (low, many, size, short) ∧ low = ((2 ^ (h * kk) : Nat) : Int) ∧ many = ((2 ^ (h * kk + kk) : Nat) : Int) - ((2 ^ (h * kk) : Nat) : Int) ∧ 1 ≤ size ∧ size ≤ 40 ∧ 0 ≤ short ∧ short = ((2 ^ size.toNat : Nat) : Int) - many ∧ short ≤ 2147483648 := by
  unfold ztOk at ho
  generalize code_zeta.f (kk : Int) (h : Int) = o at ho
  cases o with
  | none => cases ho
  | some q =>
    obtain ⟨low, many, size, short⟩ := q
    refine ⟨low, many, size, short, rfl, ?_⟩
    have hg : ztGood kk h (low, many, size, short) = true := ho
    clear ho
    unfold ztGood at hg
    simp only [Bool.and_eq_true, beq_iff_eq, Nat.ble_eq] at hg
    obtain ⟨h1, h2, h3, h4, h5, h6, h7, h8⟩ := hg
    exact ⟨h1, h2, by omega, by omega, by omega, h6, by omega⟩
def zetaL (kk n : Int) : List Int := match code_zeta.f kk (Int.tdiv (lg n) kk) with
  | some (low, _, size, short) => unaryL (Int.tdiv (lg n) kk + 1) ++ (if n - low < short then putL (size - 1).toNat (n - low) else putL size.toNat (n - low + short))
  | none => []
/-- A number's code. -/
def layL (kind n : Int) : List Int := if kind = 1 then unaryL n else if kind = 2 then gammaL n else if kind = 3 then deltaL n else if kind = 4 then zetaL 2 n else zetaL 3 n
theorem low_le {n : Int} {h kk : Nat} (h0 : 1 ≤ n) (h1 : n ≤ 1073741824) (hh : (h : Int) = lg n / (kk : Int)) (hk : 1 ≤ kk) : ((2 ^ (h * kk) : Nat) : Int) ≤ n := by
  obtain ⟨_, g0, g1, g2, g3⟩ := lg_facts n h0 h1
  obtain ⟨g, hg⟩ := Int.eq_ofNat_of_zero_le g0
  rw [hg] at hh g2
  rw [Int.toNat_natCast] at g2
  have hh' : h = g / kk := by exact_mod_cast hh
  have hle : h * kk ≤ g := by rw [hh']; exact Nat.div_mul_le_self g kk
  have := Nat.pow_le_pow_right (n := 2) (by decide) hle
  have h2 : ((2 ^ (h * kk) : Nat) : Int) ≤ ((2 ^ g : Nat) : Int) := by exact_mod_cast this
  have h3 : (((2 : Nat) ^ g : Nat) : Int) = (2 : Int) ^ g := Int.natCast_pow 2 g
  rw [h3] at h2
  exact Int.le_trans h2 g2
theorem lay_p (kind n : Int) (hk : code_Is.f kind = some true) (hn : code_number.f kind n = some true) : LayP kind n (layL kind n) := by
  have hk1 : 1 ≤ kind ∧ kind ≤ 5 := by
    unfold code_Is.f at hk
    split at hk
    · simp only [Option.some.injEq, decide_eq_true_eq] at hk; omega
    · simp at hk
  have hn1 : 1 ≤ n ∧ n ≤ 1073741824 ∧ (kind = 1 → n ≤ 1000) := by
    unfold code_number.f at hn
    split at hn
    · split at hn
      · simp only [Option.some.injEq, decide_eq_true_eq] at hn; omega
      · simp at hn
    · split at hn
      · simp only [Option.some.injEq, decide_eq_true_eq] at hn; omega
      · simp at hn
  obtain ⟨hn0, hn2, hn3⟩ := hn1
  obtain ⟨hlog, g0, g1, g2, g3⟩ := lg_facts n hn0 hn2
  intro W base p l hrow hl hbase
  have hkk : kind = 1 ∨ kind = 2 ∨ kind = 3 ∨ kind = 4 ∨ kind = 5 := by omega
  rcases hkk with rfl | rfl | rfl | rfl | rfl
  · exact lay_unary W base p l n hrow hn0 (hn3 rfl) (by omega) hbase
  · exact lay_gamma W base p l n hrow hn0 hn2 (by omega) hbase
  · exact lay_delta W base p l n hrow hn0 hn2 (by omega) hbase
  · obtain ⟨h, hh⟩ := Int.eq_ofNat_of_zero_le (show 0 ≤ lg n / 2 by omega)
    have ht : Int.tdiv (lg n) 2 = (h : Int) := by rw [Int.tdiv_eq_ediv_of_nonneg g0]; exact hh
    obtain ⟨low, many, size, short, e, e1, e2, e3, e4, e5, e6, e7⟩ := zt_facts (zt2 ⟨h, by omega⟩)
    simp only at e e1
    have hlow : low ≤ n := by rw [e1]; exact low_le hn0 hn2 hh.symm (by omega)
    have hp : 0 < 2 ^ (h * 2) := Nat.pow_pos (by decide)
    have e' : code_zeta.f 2 (Int.tdiv (lg n) 2) = some (low, many, size, short) := by rw [ht]; exact e
    exact lay_zeta2 W base p l n (lg n) low many size short (layL 4 n) hrow hn0 hn2 (by omega) hbase hlog g0 g1 e' (by omega) hlow e3 (by omega) e5 (by omega) (by unfold layL zetaL; rw [if_neg (by decide), if_neg (by decide), if_neg (by decide), if_pos rfl, e'])
  · obtain ⟨h, hh⟩ := Int.eq_ofNat_of_zero_le (show 0 ≤ lg n / 3 by omega)
    have ht : Int.tdiv (lg n) 3 = (h : Int) := by rw [Int.tdiv_eq_ediv_of_nonneg g0]; exact hh
    obtain ⟨low, many, size, short, e, e1, e2, e3, e4, e5, e6, e7⟩ := zt_facts (zt3 ⟨h, by omega⟩)
    simp only at e e1
    have hlow : low ≤ n := by rw [e1]; exact low_le hn0 hn2 hh.symm (by omega)
    have hp : 0 < 2 ^ (h * 3) := Nat.pow_pos (by decide)
    have e' : code_zeta.f 3 (Int.tdiv (lg n) 3) = some (low, many, size, short) := by rw [ht]; exact e
    exact lay_zeta3 W base p l n (lg n) low many size short (layL 5 n) hrow hn0 hn2 (by omega) hbase hlog g0 g1 e' (by omega) hlow e3 (by omega) e5 (by omega) (by unfold layL zetaL; rw [if_neg (by decide), if_neg (by decide), if_neg (by decide), if_neg (by decide), e'])
/-- code.Put. -/
def code_Put.f (s : ByteArray) (n kind v : Int) : Option (ByteArray × Int × Int) :=
  if MayP s n then (code_Is.f kind).bind fun i => if i = true then (code_number.f kind v).bind fun m => if m = true then
    (if ((ofS s n ++ layL kind v).length : Int) ≤ 6000 then some (packS (ofS s n ++ layL kind v), ((ofS s n ++ layL kind v).length : Int), 0) else some (⟨#[]⟩, 0, 2)) else some (⟨#[]⟩, 0, 1) else some (⟨#[]⟩, 0, 1)
  else some (⟨#[]⟩, 0, 1)
theorem code_Put.calls (s : ByteArray) (n kind v : Int) (r1 : ByteArray) (r2 r3 : Int) (w : World) (h : code_Put.f s n kind v = some (r1, r2, r3)) :
    Calls Try.prog 58 #[.agg #[.string s, .int .i64 n], .int .i64 kind, .int .i64 v] w fun e w' => e = .returned (.tuple #[.agg #[.string r1, .int .i64 r2], .int .i64 r3]) ∧ Below w.heap.size w w' := by
  unfold code_Put.f at h
  split at h
  · rename_i hm
    obtain ⟨i, hi, h⟩ := Option.bind_eq_some_iff.1 h
    cases i with
    | false =>
      rw [if_neg (by simp)] at h
      simp only [Option.some.injEq, Prod.mk.injEq] at h
      obtain ⟨rfl, rfl, rfl⟩ := h
      exact cput_no2 s n kind v w hm hi
    | true =>
      rw [if_pos rfl] at h
      obtain ⟨m, hv, h⟩ := Option.bind_eq_some_iff.1 h
      cases m with
      | false =>
        rw [if_neg (by simp)] at h
        simp only [Option.some.injEq, Prod.mk.injEq] at h
        obtain ⟨rfl, rfl, rfl⟩ := h
        exact cput_no3 s n kind v w hm hi hv
      | true =>
        rw [if_pos rfl] at h
        split at h
        · rename_i hle
          simp only [Option.some.injEq, Prod.mk.injEq] at h
          obtain ⟨rfl, rfl, rfl⟩ := h
          exact cput_yes s n kind v (layL kind v) _ w rfl hm hi hv (lay_p kind v hi hv) hle
        · rename_i hle
          simp only [Option.some.injEq, Prod.mk.injEq] at h
          obtain ⟨rfl, rfl, rfl⟩ := h
          exact cput_no s n kind v (layL kind v) _ w rfl hm hi hv (lay_p kind v hi hv) (by omega)
  · rename_i hm
    simp only [Option.some.injEq, Prod.mk.injEq] at h
    obtain ⟨rfl, rfl, rfl⟩ := h
    exact cput_no1 s n kind v w hm
/-- code.Size. -/
def code_Size.f (kind v : Int) : Option (Int × Int) :=
  (code_Is.f kind).bind fun i => if i = true then (code_number.f kind v).bind fun m => if m = true then some (((layL kind v).length : Int), 0) else some (0, 1) else some (0, 1)
theorem code_Size.calls (kind v r1 r2 : Int) (w : World) (h : code_Size.f kind v = some (r1, r2)) :
    Calls Try.prog 64 #[.int .i64 kind, .int .i64 v] w fun e w' => e = .returned (.tuple #[.int .i64 r1, .int .i64 r2]) ∧ Below w.heap.size w w' := by
  unfold code_Size.f at h
  obtain ⟨i, hi, h⟩ := Option.bind_eq_some_iff.1 h
  cases i with
  | false =>
    rw [if_neg (by simp)] at h
    simp only [Option.some.injEq, Prod.mk.injEq] at h
    obtain ⟨rfl, rfl⟩ := h
    exact csize_no1 kind v w hi
  | true =>
    rw [if_pos rfl] at h
    obtain ⟨m, hv, h⟩ := Option.bind_eq_some_iff.1 h
    cases m with
    | false =>
      rw [if_neg (by simp)] at h
      simp only [Option.some.injEq, Prod.mk.injEq] at h
      obtain ⟨rfl, rfl⟩ := h
      exact csize_no2 kind v w hi hv
    | true =>
      rw [if_pos rfl] at h
      simp only [Option.some.injEq, Prod.mk.injEq] at h
      obtain ⟨rfl, rfl⟩ := h
      exact csize_yes kind v (layL kind v) _ w (by rw [List.nil_append]) hi hv (lay_p kind v hi hv)
end Go.Proofs.Ytnpghcikhpglkaa.Q
namespace Go.Proofs.Ytnpghcikhpglkaa.Q
open Go.RowKit Go.Proofs.YtnpghcikhpglkaaW.PrintWords Go.Proofs.YtnpghcikhpglkaaW.PrintLast Go.Proofs.YtnpghcikhpglkaaW.PrintMore Go.Proofs.Ytnpghcikhpglkaa.Hand Go.Proofs.Ytnpghcikhpglkaa.Pu
set_option linter.unusedVariables false
/-- So many rounds are enough for bits that may be. -/
def rounds : Nat := 20000
/-- code.Read. -/
def code_Read.f (s : ByteArray) (n a kind : Int) : Option (Int × Int × Bool) :=
  (readK rounds s n a kind).bind fun r => if r.2.2 = true then some (0, 0, false) else if 1073741824 < r.1 then some (0, 0, false) else some (r.1, r.2.1, true)
theorem code_Read.calls (s : ByteArray) (n a kind r1 r2 : Int) (r3 : Bool) (w : World) (h : code_Read.f s n a kind = some (r1, r2, r3)) :
    Calls Try.prog 105 #[.agg #[.string s, .int .i64 n], .int .i64 a, .int .i64 kind] w fun e w' => e = .returned (.tuple #[.int .i64 r1, .int .i64 r2, .bool r3]) ∧ Below w.heap.size w w' := by
  unfold code_Read.f at h
  generalize rounds = k at h
  obtain ⟨⟨r, a', b⟩, h1, h2⟩ := Option.bind_eq_some_iff.1 h
  simp only at h2
  unfold readK at h1
  by_cases k1 : kind = 1
  · subst k1
    rw [if_pos rfl] at h1
    cases b with
    | true =>
      rw [if_pos rfl] at h2
      simp only [Option.some.injEq, Prod.mk.injEq] at h2
      obtain ⟨rfl, rfl, rfl⟩ := h2
      exact read1_bad w k s n a r a' h1
    | false =>
      rw [if_neg (by simp)] at h2
      split at h2
      · rename_i hr
        simp only [Option.some.injEq, Prod.mk.injEq] at h2
        obtain ⟨rfl, rfl, rfl⟩ := h2
        exact read1_big w k s n a r a' h1 hr
      · rename_i hr
        simp only [Option.some.injEq, Prod.mk.injEq] at h2
        obtain ⟨rfl, rfl, rfl⟩ := h2
        exact read1_ok w k s n a r a' h1 (by omega)
  by_cases k2 : kind = 2
  · subst k2
    rw [if_neg (by decide), if_pos rfl] at h1
    cases b with
    | true =>
      rw [if_pos rfl] at h2
      simp only [Option.some.injEq, Prod.mk.injEq] at h2
      obtain ⟨rfl, rfl, rfl⟩ := h2
      exact read2_bad w k s n a r a' h1
    | false =>
      rw [if_neg (by simp)] at h2
      split at h2
      · rename_i hr
        simp only [Option.some.injEq, Prod.mk.injEq] at h2
        obtain ⟨rfl, rfl, rfl⟩ := h2
        exact read2_big w k s n a r a' h1 hr
      · rename_i hr
        simp only [Option.some.injEq, Prod.mk.injEq] at h2
        obtain ⟨rfl, rfl, rfl⟩ := h2
        exact read2_ok w k s n a r a' h1 (by omega)
  by_cases k3 : kind = 3
  · subst k3
    rw [if_neg (by decide), if_neg (by decide), if_pos rfl] at h1
    cases b with
    | true =>
      rw [if_pos rfl] at h2
      simp only [Option.some.injEq, Prod.mk.injEq] at h2
      obtain ⟨rfl, rfl, rfl⟩ := h2
      exact read3_bad w k s n a r a' h1
    | false =>
      rw [if_neg (by simp)] at h2
      split at h2
      · rename_i hr
        simp only [Option.some.injEq, Prod.mk.injEq] at h2
        obtain ⟨rfl, rfl, rfl⟩ := h2
        exact read3_big w k s n a r a' h1 hr
      · rename_i hr
        simp only [Option.some.injEq, Prod.mk.injEq] at h2
        obtain ⟨rfl, rfl, rfl⟩ := h2
        exact read3_ok w k s n a r a' h1 (by omega)
  by_cases k4 : kind = 4
  · subst k4
    rw [if_neg (by decide), if_neg (by decide), if_neg (by decide), if_pos rfl] at h1
    cases b with
    | true =>
      rw [if_pos rfl] at h2
      simp only [Option.some.injEq, Prod.mk.injEq] at h2
      obtain ⟨rfl, rfl, rfl⟩ := h2
      exact read4_bad w k s n a r a' h1
    | false =>
      rw [if_neg (by simp)] at h2
      split at h2
      · rename_i hr
        simp only [Option.some.injEq, Prod.mk.injEq] at h2
        obtain ⟨rfl, rfl, rfl⟩ := h2
        exact read4_big w k s n a r a' h1 hr
      · rename_i hr
        simp only [Option.some.injEq, Prod.mk.injEq] at h2
        obtain ⟨rfl, rfl, rfl⟩ := h2
        exact read4_ok w k s n a r a' h1 (by omega)
  by_cases k5 : kind = 5
  · subst k5
    rw [if_neg (by decide), if_neg (by decide), if_neg (by decide), if_neg (by decide), if_pos rfl] at h1
    cases b with
    | true =>
      rw [if_pos rfl] at h2
      simp only [Option.some.injEq, Prod.mk.injEq] at h2
      obtain ⟨rfl, rfl, rfl⟩ := h2
      exact read5_bad w k s n a r a' h1
    | false =>
      rw [if_neg (by simp)] at h2
      split at h2
      · rename_i hr
        simp only [Option.some.injEq, Prod.mk.injEq] at h2
        obtain ⟨rfl, rfl, rfl⟩ := h2
        exact read5_big w k s n a r a' h1 hr
      · rename_i hr
        simp only [Option.some.injEq, Prod.mk.injEq] at h2
        obtain ⟨rfl, rfl, rfl⟩ := h2
        exact read5_ok w k s n a r a' h1 (by omega)
  rw [if_neg k1, if_neg k2, if_neg k3, if_neg k4, if_neg k5] at h1
  cases h1
end Go.Proofs.Ytnpghcikhpglkaa.Q
namespace Go.Proofs.Ytnpghcikhpglkaa.Pb
open Go.RowKit Go.Proofs.YtnpghcikhpglkaaW.PrintWords Go.Proofs.YtnpghcikhpglkaaW.PrintLast Go.Proofs.YtnpghcikhpglkaaW.PrintMore Go.Proofs.Ytnpghcikhpglkaa.Hand Go.Proofs.Ytnpghcikhpglkaa.Pu Go.Proofs.Ytnpghcikhpglkaa.Q
set_option linter.unusedVariables false
set_option linter.unusedSimpArgs false
theorem IsBits.drop' {l : List Int} (h : IsBits l) (n : Nat) : IsBits (l.drop n) := fun x hx => h x (List.mem_of_mem_drop hx)
theorem IsBits.take' {l : List Int} (h : IsBits l) (n : Nat) : IsBits (l.take n) := fun x hx => h x (List.mem_of_mem_take hx)
end Go.Proofs.Ytnpghcikhpglkaa.Pb
namespace Go.Proofs.Ytnpghcikhpglkaa.Q
open Go.RowKit Go.Proofs.YtnpghcikhpglkaaW.PrintWords Go.Proofs.YtnpghcikhpglkaaW.PrintLast Go.Proofs.YtnpghcikhpglkaaW.PrintMore
attribute [local go_sem] max2_int min2_int max_two min_two max_three min_three max_four min_four   -- for this text's walks alone
set_option linter.unusedVariables false
set_option linter.unusedSimpArgs false

/-- A state of type 116 at block g of W; what its slices lead to came in by w0. -/
def IsS116 (w0 W : World) (g : Nat) (f0 : List Int) (f1 : Int) : Prop := ∃ A0 c0, W.heap[g]? = some (.cells #[.slice A0 f0.length c0, .int .i64 f1] 116 (0, 0)) ∧ w0.heap.size ≤ g ∧ Kd.C (Kd.int .u8) w0 A0 f0.length f0
theorem IsS116.grown {w0 W : World} {g : Nat} {f0 : List Int} {f1 : Int} {W1 : World} {row : Option Nat} (h : IsS116 w0 W g f0 f1) (hw : W.grownBy W1 row) (hne : some g ≠ row) : IsS116 w0 W1 g f0 f1 := by
  obtain ⟨A0, c0, hb, hg, hr0⟩ := h
  exact ⟨A0, c0, blk_grown hb hw hne, hg, hr0⟩
theorem IsS116.own_neN {w0 W : World} {g : Nat} {f0 : List Int} {f1 : Int} {α : Type} {d : Kd α} {e : Nat} {base : Nat} {ok : Nat → Prop} {v : Value} {xs : List α} (h : IsS116 w0 W g f0 f1) (ho : Kd.N d e W base ok v xs) (ht : e ≠ 116) : some g ≠ v.ownBlock := by
  obtain ⟨A0, c0, hb, hg, hr0⟩ := h
  exact Kd.N_ne ho hb ht
theorem IsS116.fresh {w0 W : World} {g : Nat} {f0 : List Int} {f1 : Int} (h : IsS116 w0 W g f0 f1) : ∀ k, W.heap.size ≤ k → k ≠ g := by
  obtain ⟨A0, c0, hb, hg, hr0⟩ := h
  exact Kd.freshB hb
theorem IsS116.kept {w0 W : World} {g : Nat} {f0 : List Int} {f1 : Int} {W1 : World} {S : Nat → Prop} (h : IsS116 w0 W g f0 f1) (hk : Kept W W1 S) (hne : ¬ S g) : IsS116 w0 W1 g f0 f1 := by
  obtain ⟨A0, c0, hb, hg, hr0⟩ := h
  exact ⟨A0, c0, blk_kept hb hk hne, hg, hr0⟩
theorem IsS116.below {w0 W : World} {g : Nat} {f0 : List Int} {f1 : Int} {W1 : World} (h : IsS116 w0 W g f0 f1) (hw : Below W.heap.size W W1) : IsS116 w0 W1 g f0 f1 := h.grown (grown_of_below hw none) (by simp)
theorem IsS116.alloc {w0 W : World} {g : Nat} {f0 : List Int} {f1 : Int} (h : IsS116 w0 W g f0 f1) (o : Obj) : IsS116 w0 (W.alloc o) g f0 f1 := h.below (below_alloc (Below.refl _ _) o)
theorem IsS116.drewN {w0 W : World} {g : Nat} {f0 : List Int} {f1 : Int} (h : IsS116 w0 W g f0 f1) (m : Nat) : IsS116 w0 (W.drewN m) g f0 f1 := h
theorem IsS116.drew {w0 W : World} {g : Nat} {f0 : List Int} {f1 : Int} (h : IsS116 w0 W g f0 f1) : IsS116 w0 W.drew g f0 f1 := h
theorem IsS116.at_ {w0 W : World} {g : Nat} {f0 : List Int} {f1 : Int} {w' : World} {m : Nat} (hq : W.drewN m = w') (h : IsS116 w0 W g f0 f1) : IsS116 w0 w' g f0 f1 := by subst hq; exact IsS116.drewN h m
theorem IsS116.apart {w0 W : World} {g : Nat} {f0 : List Int} {f1 : Int} {α : Type} {d : Kd α} {e : Nat} {base : Nat} {ok : Nat → Prop} {v : Value} {xs : List α} (h : IsS116 w0 W g f0 f1) (ho : d.R e W base ok v xs) (ht : ∀ q, q ∈ e :: d.E → q ≠ 116) : d.R e W base (fun k => ok k ∧ k ≠ g) v xs := by
  obtain ⟨A0, c0, hb, hg, hr0⟩ := h
  exact Kd.R_types ho hb ht
theorem IsS116.own_ne {w0 W : World} {g : Nat} {f0 : List Int} {f1 : Int} {α : Type} {d : Kd α} {e : Nat} {base : Nat} {ok : Nat → Prop} {v : Value} {xs : List α} (h : IsS116 w0 W g f0 f1) (ho : d.R e W base ok v xs) (ht : e ≠ 116) : some g ≠ v.ownBlock := by
  obtain ⟨A0, c0, hb, hg, hr0⟩ := h
  exact Kd.R_ne ho hb ht
theorem IsS116.apartQ {w0 W : World} {g : Nat} {f0 : List Int} {f1 : Int} {α : Type} {d : Kd α} {e : Nat} {base : Nat} {ok : Nat → Prop} {v : Value} {xs : List α} (h : IsS116 w0 W g f0 f1) (ho : d.Q e W base ok v xs) (ht : ∀ q, q ∈ e :: d.E → q ≠ 116) : d.Q e W base (fun k => ok k ∧ k ≠ g) v xs := by
  obtain ⟨A0, c0, hb, hg, hr0⟩ := h
  exact Kd.Q_types ho hb ht
theorem IsS116.own_neQ {w0 W : World} {g : Nat} {f0 : List Int} {f1 : Int} {α : Type} {d : Kd α} {e : Nat} {base : Nat} {ok : Nat → Prop} {v : Value} {xs : List α} (h : IsS116 w0 W g f0 f1) (ho : d.Q e W base ok v xs) (ht : e ≠ 116) : some g ≠ v.ownBlock := by
  obtain ⟨A0, c0, hb, hg, hr0⟩ := h
  exact Kd.Q_ne ho hb ht
theorem IsS116.apartS {w0 W : World} {g : Nat} {f0 : List Int} {f1 : Int} {α : Type} {d : Kd α} {e : Nat} {base : Nat} {ok : Nat → Prop} {v : Value} {xs : List α} (h : IsS116 w0 W g f0 f1) (ho : d.S e W base ok v xs) (ht : ∀ q, q ∈ e :: d.E → q ≠ 116) : d.S e W base (fun k => ok k ∧ k ≠ g) v xs := by
  obtain ⟨A0, c0, hb, hg, hr0⟩ := h
  exact Kd.S_types ho hb ht
theorem IsS116.own_neS {w0 W : World} {g : Nat} {f0 : List Int} {f1 : Int} {α : Type} {d : Kd α} {e : Nat} {base : Nat} {ok : Nat → Prop} {v : Value} {xs : List α} (h : IsS116 w0 W g f0 f1) (ho : d.S e W base ok v xs) (ht : e ≠ 116) : some g ≠ v.ownBlock := by
  obtain ⟨A0, c0, hb, hg, hr0⟩ := h
  exact Kd.S_ne ho hb ht
theorem IsS116.lt {w0 W : World} {g : Nat} {f0 : List Int} {f1 : Int} (h : IsS116 w0 W g f0 f1) : g < W.heap.size := by
  obtain ⟨A0, c0, hb, hg, hr0⟩ := h
  exact blk_lt hb
theorem IsS116.ge {w0 W : World} {g : Nat} {f0 : List Int} {f1 : Int} (h : IsS116 w0 W g f0 f1) : w0.heap.size ≤ g := by
  obtain ⟨A0, c0, hb, hg, hr0⟩ := h
  exact hg
theorem IsS116.ne_blk {w0 W : World} {g : Nat} {f0 : List Int} {f1 : Int} {a : Nat} {cs : Array Value} {t : TypeId} {fr : Nat × Nat} (h : IsS116 w0 W g f0 f1) (hb2 : W.heap[a]? = some (.cells cs t fr)) (ht : t ≠ 116) : g ≠ a := by
  obtain ⟨A0, c0, hb, hg, hr0⟩ := h
  rintro rfl
  rw [hb] at hb2
  injection hb2 with hb2
  injection hb2 with _ ht2
  exact ht ht2.symm
theorem IsS116.far {w0 W : World} {g : Nat} {f0 : List Int} {f1 : Int} {p : Addr} (h : IsS116 w0 W g f0 f1) (hne : g ≠ p.block) (u : Value) : IsS116 w0 (W.setCell p u) g f0 f1 := by
  obtain ⟨A0, c0, hb, hg, hr0⟩ := h
  exact ⟨A0, c0, blk_far hb hne u, hg, hr0⟩
theorem cellS116_0 {W : World} {g : Nat} {A0 : Option Addr} {c0 : Nat} {f0 : List Int} {f1 : Int} (h : W.heap[g]? = some (.cells #[.slice A0 f0.length c0, .int .i64 f1] 116 (0, 0))) : W.cell? ⟨g, 0, none⟩ = some (.slice A0 f0.length c0) := (blk_cell h 0).trans rfl
theorem cellS116_1 {W : World} {g : Nat} {A0 : Option Addr} {c0 : Nat} {f0 : List Int} {f1 : Int} (h : W.heap[g]? = some (.cells #[.slice A0 f0.length c0, .int .i64 f1] 116 (0, 0))) : W.cell? ⟨g, 1, none⟩ = some (.int .i64 f1) := (blk_cell h 1).trans rfl
theorem IsS116.set_1 {w0 W : World} {g : Nat} {f0 : List Int} {f1 : Int} (h : IsS116 w0 W g f0 f1) (x : Int) : IsS116 w0 (W.setCell ⟨g, 1, none⟩ (.int .i64 x)) g f0 x := by
  obtain ⟨A0, c0, hb, hg, hr0⟩ := h
  exact ⟨A0, c0, by simpa using blk_set hb 1 (.int .i64 x), hg, hr0⟩
theorem IsS116.new (w0 W : World) (A0 : Option Addr) (c0 : Nat) (f0 : List Int) (f1 : Int) (hB : Below w0.heap.size w0 W) (hr0 : Kd.C (Kd.int .u8) w0 A0 f0.length f0) : IsS116 w0 (W.alloc (.cells #[.slice A0 f0.length c0, .int .i64 f1] 116)) W.heap.size f0 f1 := ⟨A0, c0, by simpa using heap_alloc_new W _, hB.size, hr0⟩
end Go.Proofs.Ytnpghcikhpglkaa.Q
namespace Go.Proofs.Ytnpghcikhpglkaa.Pb
open Go.RowKit Go.Proofs.YtnpghcikhpglkaaW.PrintWords Go.Proofs.YtnpghcikhpglkaaW.PrintLast Go.Proofs.YtnpghcikhpglkaaW.PrintMore Go.Proofs.Ytnpghcikhpglkaa.Hand Go.Proofs.Ytnpghcikhpglkaa.Pu Go.Proofs.Ytnpghcikhpglkaa.Q
set_option linter.unusedVariables false
set_option linter.unusedSimpArgs false
theorem take_snoc (l : List Int) (i : Nat) (h : i < l.length) : l.take i ++ [l.getD i 0] = l.take (i + 1) := by
  rw [List.take_succ_eq_append_getElem h, List.getD_eq_getElem?_getD, List.getElem?_eq_getElem h]
  rfl
/-- Of. -/
theorem of_loop (l : List Int) (hl : IsBits l) (hlen : l.length ≤ 1000000) : ∀ (d k i : Nat), i + d = l.length → d < k → herbariumref1_Of.l0 k (l.take i) (i : Int) (packS l) (l.length : Int) = some l
  | 0, k, i, hi, hk => by
    obtain ⟨k, rfl⟩ : ∃ m, k = m + 1 := ⟨k - 1, by omega⟩
    simp only [herbariumref1_Of.l0]
    rw [if_neg (by omega), List.take_of_length_le (by omega)]
  | d + 1, k, i, hi, hk => by
    obtain ⟨k, rfl⟩ : ∃ m, k = m + 1 := ⟨k - 1, by omega⟩
    have hsz := packS_size l
    have hb := hl.getD i
    simp only [herbariumref1_Of.l0]
    rw [if_pos (by omega), refbit_some _ _ _ (by omega) (by omega) (by omega), bitOf_packS l hl i (by omega), Option.bind_some, if_pos (by rw [List.length_take]; omega), Int.emod_eq_of_lt (by omega) (by omega), take_snoc l i (by omega), wrap_in _ (by omega) (by omega)]
    exact of_loop l hl hlen d k (i + 1) (by omega) (by omega)
theorem refOf_eq (l : List Int) (hl : IsBits l) (hlen : l.length ≤ 1000000) (k : Nat) (hk : l.length < k) : herbariumref1_Of.f k (packS l) (l.length : Int) = some l := by
  unfold herbariumref1_Of.f
  exact of_loop l hl hlen l.length k 0 (by omega) hk
/-- Zeros. -/
theorem rzeros_loop (l : List Int) (hlen : l.length ≤ 1000000) (x : Int) (hx : 0 ≤ x) : ∀ (d k i : Nat), i + d = l.length → d < k → x ≤ i →
    herbariumref1_List_Zeros.l0 k l x (i : Int) = some (if zerosL (l.drop i) < 0 then -1 else (i : Int) + zerosL (l.drop i) - x)
  | 0, k, i, hi, hk, hxi => by
    obtain ⟨k, rfl⟩ : ∃ m, k = m + 1 := ⟨k - 1, by omega⟩
    simp only [herbariumref1_List_Zeros.l0]
    rw [if_neg (by omega), List.drop_of_length_le (by omega)]
    rfl
  | d + 1, k, i, hi, hk, hxi => by
    obtain ⟨k, rfl⟩ : ∃ m, k = m + 1 := ⟨k - 1, by omega⟩
    simp only [herbariumref1_List_Zeros.l0]
    have hd : l.drop i = l.getD i 0 :: l.drop (i + 1) := by
      rw [List.drop_eq_getElem_cons (by omega), List.getD_eq_getElem?_getD, List.getElem?_eq_getElem (by omega)]
      rfl
    have hrd : rd l (i : Int) = l.getD i 0 := by unfold rd; rw [Int.toNat_natCast]
    have hr := zerosL_range (l.drop (i + 1))
    rw [List.length_drop] at hr
    rw [if_pos (by omega), if_pos (by omega), hrd, hd, zerosL]
    by_cases h1 : l.getD i 0 = 1
    · rw [if_pos h1, if_pos h1, if_neg (by omega), wrap_in _ (by omega) (by omega)]
      exact congrArg some (by omega)
    · rw [if_neg h1, if_neg h1, wrap_in _ (by omega) (by omega)]
      have := rzeros_loop l hlen x hx d k (i + 1) (by omega) (by omega) (by omega)
      rw [show ((i + 1 : Nat) : Int) = (i : Int) + 1 by omega] at this
      rw [this]
      congr 1
      by_cases h2 : zerosL (l.drop (i + 1)) < 0
      · rw [if_pos h2, if_pos h2, if_pos (by omega)]
      · rw [if_neg h2, if_neg h2, if_neg (by omega)]; omega
theorem refZeros_eq (l : List Int) (hlen : l.length ≤ 1000000) (a : Nat) (ha : a ≤ l.length) (k : Nat) (hk : l.length < k) : herbariumref1_List_Zeros.f k l (a : Int) = some (zerosL (l.drop a)) := by
  have hr := zerosL_range (l.drop a)
  unfold herbariumref1_List_Zeros.f
  rw [rzeros_loop l hlen (a : Int) (by omega) (l.length - a) k a (by omega) (by omega) (by omega)]
  congr 1
  split <;> omega
/-- Put. -/
theorem shr_eq (v : Int) (w : Nat) (hw : w ≤ 62) : shr .i64 v (w : Int) = v / 2 ^ w := by
  unfold shr
  rw [Nat.min_eq_left (by simp [IntKind.bits]; omega), Int.toNat_natCast]
theorem bit_eq (v : Int) (w : Nat) (hw : w ≤ 62) (h0 : 0 ≤ v) (h1 : v < 2 ^ 62) : (Go.bits .and .i64 (shr .i64 v (w : Int)) 1) % 256 = v / 2 ^ w % 2 := by
  have hn := div_pow_nonneg v w h0
  have hl := div_pow_le v w h0
  rw [shr_eq v w hw, and_one _ hn (by omega)]
  omega
theorem rput_loop (v : Int) (h0 : 0 ≤ v) (h1 : v < 2 ^ 62) : ∀ (w : Nat) (l : List Int) (k : Nat), w ≤ 62 → l.length + w ≤ 1000000 → w < k → herbariumref1_List_Put.l0 k l v ((w : Int) - 1) = some (l ++ putL w v)
  | 0, l, k, hw, hlen, hk => by
    obtain ⟨k, rfl⟩ : ∃ m, k = m + 1 := ⟨k - 1, by omega⟩
    simp only [herbariumref1_List_Put.l0]
    rw [if_neg (by omega)]
    simp [putL]
  | w + 1, l, k, hw, hlen, hk => by
    obtain ⟨k, rfl⟩ : ∃ m, k = m + 1 := ⟨k - 1, by omega⟩
    simp only [herbariumref1_List_Put.l0]
    have e : ((w + 1 : Nat) : Int) - 1 = (w : Int) := by omega
    rw [e, if_pos (by omega), if_pos (by omega), if_pos (by omega), bit_eq v w (by omega) h0 h1, wrap_in _ (by omega) (by omega), rput_loop v h0 h1 w (l ++ [v / 2 ^ w % 2]) k (by omega) (by rw [List.length_append, List.length_singleton]; omega) (by omega), List.append_assoc]
    rfl
theorem refPut_eq (l : List Int) (v : Int) (w : Nat) (h0 : 0 ≤ v) (h1 : v < 2 ^ 62) (hw : w ≤ 62) (hlen : l.length ≤ 900000) (k : Nat) (hk : w < k) : herbariumref1_List_Put.f k l v (w : Int) = some (l ++ putL w v) := by
  unfold herbariumref1_List_Put.f
  rw [wrap_in _ (by omega) (by omega)]
  exact rput_loop v h0 h1 w l k hw (by omega) hk
/-- Get. -/
theorem rget_loop (l : List Int) (hl : IsBits l) (hlen : l.length ≤ 1000000) (a w : Nat) (haw : a + w ≤ l.length) (hw : w ≤ 61) : ∀ (d k i : Nat), i + d = w → d < k →
    herbariumref1_List_Get.l0 k l (a : Int) (w : Int) (numL ((l.drop a).take i)) ((a + i : Nat) : Int) = some (numL ((l.drop a).take w))
  | 0, k, i, hi, hk => by
    obtain ⟨k, rfl⟩ : ∃ m, k = m + 1 := ⟨k - 1, by omega⟩
    obtain rfl : i = w := by omega
    simp only [herbariumref1_List_Get.l0]
    rw [wrap_in _ (by omega) (by omega), if_neg (by omega)]
  | d + 1, k, i, hi, hk => by
    obtain ⟨k, rfl⟩ : ∃ m, k = m + 1 := ⟨k - 1, by omega⟩
    simp only [herbariumref1_List_Get.l0]
    have hib : IsBits ((l.drop a).take i) := fun x hx => hl x (List.mem_of_mem_drop (List.mem_of_mem_take hx))
    have hr := numL_range hib
    have hlt : (l.drop a).length = l.length - a := List.length_drop ..
    have hlen2 : ((l.drop a).take i).length = i := by rw [List.length_take, hlt]; omega
    rw [hlen2] at hr
    have hp : (2 : Int) ^ i ≤ 2 ^ 60 := by have := Nat.pow_le_pow_right (n := 2) (by decide) (show i ≤ 60 by omega); exact_mod_cast this
    have h60 : (2 : Int) ^ 60 < 2 ^ 61 := by decide
    have hb := hl.getD (a + i)
    have hrd : rd l ((a + i : Nat) : Int) = l.getD (a + i) 0 := by unfold rd; rw [Int.toNat_natCast]
    have hsn : (l.drop a).take (i + 1) = (l.drop a).take i ++ [l.getD (a + i) 0] := by
      rw [List.take_succ_eq_append_getElem (by rw [hlt]; omega), List.getElem_drop, List.getD_eq_getElem?_getD, List.getElem?_eq_getElem (by omega)]
      rfl
    rw [wrap_in ((a : Int) + (w : Int)) (by omega) (by omega), if_pos (by omega), if_pos (by omega), if_pos (by omega), hrd, wrap_in (l.getD (a + i) 0) (by omega) (by omega), wrap_in (2 * _) (by omega) (by omega), wrap_in (2 * _ + _) (by omega) (by omega), ← numL_snoc, ← hsn, wrap_in _ (by omega) (by omega)]
    exact rget_loop l hl hlen a w haw hw d k (i + 1) (by omega) (by omega)
theorem refGet_eq (l : List Int) (hl : IsBits l) (hlen : l.length ≤ 1000000) (a w : Nat) (haw : a + w ≤ l.length) (hw : w ≤ 61) (k : Nat) (hk : w < k) : herbariumref1_List_Get.f k l (a : Int) (w : Int) = some (numL ((l.drop a).take w)) := by
  unfold herbariumref1_List_Get.f
  exact rget_loop l hl hlen a w haw hw w k 0 (by omega) hk
end Go.Proofs.Ytnpghcikhpglkaa.Pb
namespace Go.Proofs.Ytnpghcikhpglkaa.Pb
open Go.RowKit Go.Proofs.YtnpghcikhpglkaaW.PrintWords Go.Proofs.YtnpghcikhpglkaaW.PrintLast Go.Proofs.YtnpghcikhpglkaaW.PrintMore Go.Proofs.Ytnpghcikhpglkaa.Hand Go.Proofs.Ytnpghcikhpglkaa.Pu Go.Proofs.Ytnpghcikhpglkaa.Q
set_option linter.unusedVariables false
set_option linter.unusedSimpArgs false
theorem pow_le60 (w : Nat) (hw : w ≤ 60) : (0 : Int) < 2 ^ w ∧ (2 : Int) ^ w ≤ 1152921504606846976 := by
  refine ⟨Int.pow_pos (by decide), ?_⟩
  have := Nat.pow_le_pow_right (n := 2) (by decide) hw
  have h2 : ((2 ^ w : Nat) : Int) ≤ ((2 ^ 60 : Nat) : Int) := by exact_mod_cast this
  rw [Int.natCast_pow] at h2
  have e : ((2 ^ 60 : Nat) : Int) = 1152921504606846976 := by decide
  rw [e] at h2
  exact h2
end Go.Proofs.Ytnpghcikhpglkaa.Pb
namespace Go.Proofs.Ytnpghcikhpglkaa.Pb
open Go.RowKit Go.Proofs.YtnpghcikhpglkaaW.PrintWords Go.Proofs.YtnpghcikhpglkaaW.PrintLast Go.Proofs.YtnpghcikhpglkaaW.PrintMore Go.Proofs.Ytnpghcikhpglkaa.Hand Go.Proofs.Ytnpghcikhpglkaa.Pu Go.Proofs.Ytnpghcikhpglkaa.Q
set_option linter.unusedVariables false
set_option linter.unusedSimpArgs false
theorem shl_60 (w : Nat) (hw : w ≤ 60) : shl .i64 1 (w : Int) = 2 ^ w := by
  have h := pow_le60 w hw
  unfold shl
  rw [Nat.min_eq_left (by simp [IntKind.bits]; omega), Int.one_mul, Int.toNat_natCast]
  exact wraps_i64 _ (by omega) (by omega)
end Go.Proofs.Ytnpghcikhpglkaa.Pb
namespace Go.Proofs.Ytnpghcikhpglkaa.Pb
open Go.RowKit Go.Proofs.YtnpghcikhpglkaaW.PrintWords Go.Proofs.YtnpghcikhpglkaaW.PrintLast Go.Proofs.YtnpghcikhpglkaaW.PrintMore Go.Proofs.Ytnpghcikhpglkaa.Hand Go.Proofs.Ytnpghcikhpglkaa.Pu Go.Proofs.Ytnpghcikhpglkaa.Q
set_option linter.unusedVariables false
set_option linter.unusedSimpArgs false
theorem set_map_range (n j : Nat) (f g : Nat → Int) (hj : j < n) (hne : ∀ i, i ≠ j → g i = f i) : ((List.range n).map f).set j (g j) = (List.range n).map g := by
  refine List.ext_getElem? fun i => ?_
  rw [List.getElem?_set, List.getElem?_map, List.getElem?_map, List.length_map, List.length_range]
  by_cases h : j = i
  · subst h
    rw [if_pos rfl, if_pos hj, List.getElem?_range hj]; rfl
  · rw [if_neg h]
    rcases Nat.lt_or_ge i n with hi | hi
    · rw [List.getElem?_range hi]; simp only [Option.map_some]; rw [hne i (fun e => h e.symm)]
    · rw [List.getElem?_eq_none (by simp; omega)]; rfl
theorem or_bit (x b : Int) (r : Nat) (hx0 : 0 ≤ x) (hx : x < 256) (hb : b = 0 ∨ b = 1) (hr : r ≤ 7) (hd : x % 2 ^ (r + 1) = 0) : Go.bits .or .u8 x (shl .u8 b (r : Int)) = x + b * 2 ^ r := by
  have h := rowByte_eq x b 0 (r : Int) hx0 hx (by omega) (by omega) (by omega) (by omega) (by rw [Int.toNat_natCast]; exact hd)
  have h2 := bitAt_eq b 0 (r : Int) (by omega) (by omega) (by omega) (by omega)
  unfold rowByte at h
  rw [h2, Int.toNat_natCast] at h
  have e : b / 2 ^ 0 % 2 = b := by rcases hb with rfl | rfl <;> rfl
  rw [e] at h
  have hs : shl .u8 b (r : Int) = b * 2 ^ r := by
    have hr2 : r = 0 ∨ r = 1 ∨ r = 2 ∨ r = 3 ∨ r = 4 ∨ r = 5 ∨ r = 6 ∨ r = 7 := by omega
    rcases hb with rfl | rfl <;> rcases hr2 with rfl | rfl | rfl | rfl | rfl | rfl | rfl | rfl <;> decide +kernel
  rw [hs, h]
theorem pack_loop (l : List Int) (hl : IsBits l) (hlen : l.length ≤ 1000000) : ∀ (d k i : Nat), i + d = l.length → d < k →
    herbariumref1_List_Pack.l0 k l ((List.range ((l.length + 7) / 8)).map (byteAt (l.take i))) (i : Int) = some (packS l, (l.length : Int))
  | 0, k, i, hi, hk => by
    obtain ⟨k, rfl⟩ : ∃ m, k = m + 1 := ⟨k - 1, by omega⟩
    simp only [herbariumref1_List_Pack.l0]
    rw [if_neg (by omega), List.take_of_length_le (by omega)]
    rfl
  | d + 1, k, i, hi, hk => by
    obtain ⟨k, rfl⟩ : ∃ m, k = m + 1 := ⟨k - 1, by omega⟩
    have hb := hl.getD i
    have hsn := take_snoc l i (by omega)
    have hti : (l.take i).length = i := by rw [List.length_take]; omega
    have hn := byteAt_snoc_new (l.take i) (l.getD i 0)
    rw [hsn, hti] at hn
    have ho : ∀ j, j ≠ i / 8 → byteAt (l.take (i + 1)) j = byteAt (l.take i) j := fun j hj => by
      rw [← hsn]; exact byteAt_snoc_old _ _ j (by rw [hti]; exact hj)
    have hrg := byteAt_range (IsBits.take' hl i) (i / 8)
    have e1 : wrap64 (Int.tdiv (i : Int) 8) = ((i / 8 : Nat) : Int) := by rw [tdiv8 _ (by omega), wrap_in _ (by omega) (by omega)]; omega
    have e2 : wrap64 (7 - Int.tmod (i : Int) 8) = ((7 - i % 8 : Nat) : Int) := by rw [tmod8 _ (by omega), wrap_in _ (by omega) (by omega)]; omega
    have hrd : rd l (i : Int) = l.getD i 0 := by unfold rd; rw [Int.toNat_natCast]
    have hrx : rd ((List.range ((l.length + 7) / 8)).map (byteAt (l.take i))) ((i / 8 : Nat) : Int) = byteAt (l.take i) (i / 8) := by
      unfold rd
      rw [Int.toNat_natCast, List.getD_eq_getElem?_getD, List.getElem?_map, List.getElem?_range (by omega)]
      rfl
    simp only [herbariumref1_List_Pack.l0]
    rw [if_pos (by omega), e1, e2, if_pos (by omega), if_pos (by simp; omega), if_pos (by omega), if_pos (by omega), hrx, hrd, or_bit _ _ (7 - i % 8) hrg.1 hrg.2 hb (by omega) hn.2, ← hn.1, Int.toNat_natCast, set_map_range _ _ (byteAt (l.take i)) (byteAt (l.take (i + 1))) (by omega) ho, wrap_in _ (by omega) (by omega)]
    exact pack_loop l hl hlen d k (i + 1) (by omega) (by omega)
theorem refPack_eq (l : List Int) (hl : IsBits l) (hlen : l.length ≤ 1000000) (k : Nat) (hk : l.length < k) : herbariumref1_List_Pack.f k l = some (packS l, (l.length : Int)) := by
  unfold herbariumref1_List_Pack.f
  have e : wrap64 (Int.tdiv (wrap64 ((l.length : Int) + 7)) 8) = (((l.length + 7) / 8 : Nat) : Int) := by
    rw [wrap_in ((l.length : Int) + 7) (by omega) (by omega), tdiv8 _ (by omega), wrap_in _ (by omega) (by omega)]; omega
  rw [e, if_pos (by omega), Int.toNat_natCast, if_pos (by omega)]
  have h0 : List.replicate ((l.length + 7) / 8) (0 : Int) = (List.range ((l.length + 7) / 8)).map (byteAt (l.take 0)) := by
    refine List.ext_getElem? fun i => ?_
    rw [List.getElem?_map]
    rcases Nat.lt_or_ge i ((l.length + 7) / 8) with hi | hi
    · rw [List.getElem?_range hi, List.getElem?_replicate, if_pos hi]; rfl
    · rw [List.getElem?_eq_none (by simp; omega), List.getElem?_eq_none (by simp; omega)]; rfl
  rw [h0]
  exact pack_loop l hl hlen l.length k 0 (by omega) hk
end Go.Proofs.Ytnpghcikhpglkaa.Pb
namespace Go.Proofs.Ytnpghcikhpglkaa.Pure
open Go.RowKit Go.Proofs.YtnpghcikhpglkaaW.PrintWords Go.Proofs.YtnpghcikhpglkaaW.PrintLast Go.Proofs.YtnpghcikhpglkaaW.PrintMore Go.Proofs.Ytnpghcikhpglkaa.Hand Go.Proofs.Ytnpghcikhpglkaa.Q Go.Proofs.Ytnpghcikhpglkaa.Pu Go.Proofs.Ytnpghcikhpglkaa.Pb
set_option linter.unusedVariables false
namespace Bits3
theorem wakesB (k : Nat) (hk : 40 ≤ k) : herbariumlaw1_wakes.f k = some true := wakes1 k hk _ (by unfold herbariumlaw1_wakes.f; rfl)
theorem num_any (x a : Int) : herbariumref0_Num.f x a = some (decide (0 ≤ x ∧ x ≤ a)) := by
  unfold herbariumref0_Num.f
  by_cases h : x ≥ 0
  · rw [if_pos h]; congr 1; rw [decide_eq_decide]; omega
  · rw [if_neg h, decide_eq_false (fun h2 => h h2.1)]
theorem same_bits (s : ByteArray) (n : Int) : (!(s.toList == s.toList) || (!(n == n))) = false := by simp
theorem zeros_no (s : ByteArray) (n a : Int) (h : ¬ MayP s n) (k : Nat) (hk : 1 ≤ k) : bits_Zeros.f k s n a = some (0, 1) := by
  obtain ⟨k, rfl⟩ : ∃ m, k = m + 1 := ⟨k - 1, by omega⟩
  unfold bits_Zeros.f
  rw [may_eq, decide_eq_false h, Option.bind_some, if_neg (by decide), bits_Zeros.j0, if_pos rfl]
theorem get_no (s : ByteArray) (n a w : Int) (h : ¬ MayP s n) (k : Nat) (hk : 1 ≤ k) : bits_Get.f k s n a w = some (0, 1) := by
  obtain ⟨k, rfl⟩ : ∃ m, k = m + 1 := ⟨k - 1, by omega⟩
  unfold bits_Get.f
  rw [may_eq, decide_eq_false h, Option.bind_some, if_neg (by decide), bits_Get.j0, if_pos rfl]
theorem put_no (s : ByteArray) (n v w : Int) (h : ¬ MayP s n) : bits_Put.f s n v w = some (⟨#[]⟩, 0, 1) := by
  unfold bits_Put.f; rw [if_neg (fun h2 => h h2.1)]
theorem cut_no (s : ByteArray) (n a b : Int) (h : ¬ MayP s n) : bits_Cut.f s n a b = some (⟨#[]⟩, 0, 1) := by
  unfold bits_Cut.f
  rw [may_eq, decide_eq_false h, Option.bind_some, if_neg (by decide)]
theorem cat_no (s : ByteArray) (n : Int) (s2 : ByteArray) (n2 : Int) (h : ¬ (MayP s n ∧ MayP s2 n2)) : bits_Cat.f s n s2 n2 = some (⟨#[]⟩, 0, 1) := by
  unfold bits_Cat.f; rw [if_neg h]
/-- The bits at hand: those that may be, as a list; or not. -/
def At (m : Bool) (b : List Int) (s : ByteArray) (n : Int) : Prop := (m = true ∧ s = packS b ∧ n = (b.length : Int) ∧ IsBits b ∧ b.length ≤ 6000) ∨ (m = false ∧ ¬ MayP s n)
section
variable (ns : List Int) (bs : List S27) (l1 : List Int) (i : Int) (m : Bool) (b : List Int) (s : ByteArray) (n : Int)
theorem l1_step (h : At m b s n) (kk : Nat) (hkk : kk < ns.length) (k : Nat) (hk : 8200 ≤ k) :
    herbariumlaw1_BitsExact.l1 (k + 1 + 1 + 1 + 1) ns i m b (kk : Int) bs l1 s n = herbariumlaw1_BitsExact.l2 k ns i m b (kk : Int) 0 bs l1 s n := by
  have h6 : ∀ (zv ze : Int), herbariumlaw1_BitsExact.j6 (k + 1 + 1) ns i m b (kk : Int) zv ze ze zv bs l1 s n = herbariumlaw1_BitsExact.l2 k ns i m b (kk : Int) 0 bs l1 s n := by
    intro zv ze
    rw [herbariumlaw1_BitsExact.j6, herbariumlaw1_num.f, Option.bind_some, if_pos rfl, bne_self_eq_false, herbariumlaw1_BitsExact.j7, if_neg (by decide)]
  have h5 : herbariumlaw1_BitsExact.j5 (k + 1 + 1 + 1) ns i m b (kk : Int) 0 1 1 0 false bs l1 s n = herbariumlaw1_BitsExact.l2 k ns i m b (kk : Int) 0 bs l1 s n := by
    rw [herbariumlaw1_BitsExact.j5, if_neg (by decide)]; exact h6 0 1
  rw [herbariumlaw1_BitsExact.l1, if_pos (by omega), if_pos (by omega)]
  rcases h with ⟨rfl, rfl, rfl, hb, hlen⟩ | ⟨rfl, hno⟩
  · rw [zeros_eq b hb hlen _ _ (by omega), Option.bind_some, if_pos rfl, num_any, Option.bind_some]
    unfold zerosR
    by_cases hz : 0 ≤ rd ns (kk : Int) ∧ rd ns (kk : Int) ≤ (b.length : Int)
    · obtain ⟨a, ha⟩ := Int.eq_ofNat_of_zero_le hz.1
      rw [if_pos hz, decide_eq_true hz, herbariumlaw1_BitsExact.j5, if_pos rfl, if_pos (by omega), if_pos (by omega), ha, refZeros_eq b (by omega) a (by omega) (k + 1 + 1) (by omega), Option.bind_some, Int.toNat_natCast]
      by_cases h0 : zerosL (b.drop a) < 0
      · rw [if_pos h0, if_neg (by omega)]; exact h6 0 9
      · rw [if_neg h0, if_pos (by omega)]; exact h6 _ 0
    · rw [if_neg hz, decide_eq_false hz]; exact h5
  · rw [zeros_no s n _ hno _ (by omega), Option.bind_some, if_neg (by decide)]; exact h5
theorem j10_ok (kk jj e : Int) (ps : ByteArray) (pn : Int) (k : Nat) : herbariumlaw1_BitsExact.j10 (k + 1) ns i m b kk jj e e bs l1 s n ps pn ps pn = herbariumlaw1_BitsExact.j11 k ns i m b kk jj false bs l1 s n := by
  rw [herbariumlaw1_BitsExact.j10, herbariumlaw1_num.f, Option.bind_some, if_pos rfl, same_bits]
theorem put_part (h : At m b s n) (kk jj : Nat) (hkk : kk < ns.length) (hjj : jj < ns.length) (k : Nat) (hk : 8200 ≤ k) :
    herbariumlaw1_BitsExact.l2 (k + 1 + 1 + 1) ns i m b (kk : Int) (jj : Int) bs l1 s n = herbariumlaw1_BitsExact.j11 k ns i m b (kk : Int) (jj : Int) false bs l1 s n := by
  have h9 : herbariumlaw1_BitsExact.j9 (k + 1 + 1) ns i m b (kk : Int) (jj : Int) 1 1 false bs l1 s n ⟨#[]⟩ 0 ⟨#[]⟩ 0 = herbariumlaw1_BitsExact.j11 k ns i m b (kk : Int) (jj : Int) false bs l1 s n := by
    rw [herbariumlaw1_BitsExact.j9, if_neg (by decide)]; exact j10_ok ns bs l1 i m b s n _ _ 1 _ 0 k
  rw [herbariumlaw1_BitsExact.l2, if_pos (by omega), if_pos (by omega), if_pos (by omega), if_pos (by omega)]
  generalize hv : rd ns (kk : Int) = v at *
  generalize hw : rd ns (jj : Int) = w at *
  rcases h with ⟨rfl, rfl, rfl, hb, hlen⟩ | ⟨rfl, hno⟩
  · rw [put_eq b hb hlen]
    by_cases hw30 : 0 ≤ w ∧ w ≤ 30
    · obtain ⟨W, rfl⟩ := Int.eq_ofNat_of_zero_le hw30.1
      have hp := Nat.pow_le_pow_right (n := 2) (by decide) (show W ≤ 30 by omega)
      have hp1 : ((2 ^ W : Nat) : Int) ≤ ((2 ^ 30 : Nat) : Int) := by exact_mod_cast hp
      have hp0 : 0 < 2 ^ W := Nat.pow_pos (by decide)
      have hpc : ((2 ^ W : Nat) : Int) = (2 : Int) ^ W := Int.natCast_pow 2 W
      have hs : wrap64 (shl .i64 1 (W : Int) - 1) = (2 : Int) ^ W - 1 := by
        rw [shl_60 W (by omega)]
        rw [← hpc]
        exact wrap_in _ (by omega) (by omega)
      rw [Int.toNat_natCast]
      by_cases hv2 : 0 ≤ v ∧ v ≤ (2 : Int) ^ W - 1
      · have hc : 0 ≤ (W : Int) ∧ (W : Int) ≤ 30 ∧ 0 ≤ v ∧ v < (2 : Int) ^ W := ⟨hw30.1, hw30.2, hv2.1, by omega⟩
        have hput := refPut_eq ([] ++ b) v W hv2.1 (by rw [← hpc] at hv2; omega) (by omega) (by rw [List.nil_append]; omega) (k + 1) (by omega)
        have hpk := refPack_eq (b ++ putL W v) (IsBits.append hb (putL_bits W v)) (by rw [List.length_append, putL_length]; omega) (k + 1) (by rw [List.length_append, putL_length]; omega)
        rw [List.nil_append] at hput
        rw [if_pos hc]
        by_cases h6 : (b.length : Int) + (W : Int) ≤ 6000
        · rw [if_pos h6, Option.bind_some, if_pos rfl, num_any, decide_eq_true hw30, Option.bind_some, if_pos rfl, if_pos hw30.1, num_any, hs, decide_eq_true hv2, Option.bind_some, herbariumlaw1_BitsExact.j9, if_pos rfl, if_pos (by omega), if_pos (by omega), hw, wrap_in ((b.length : Int) + (W : Int)) (by omega) (by omega), if_pos h6, Option.bind_some, if_pos (by rw [List.length_nil]; omega), if_pos (by omega), if_pos (by omega), hv, List.nil_append, hput, Option.bind_some, hpk, Option.bind_some]
          exact j10_ok ns bs l1 i true b _ _ _ _ 0 _ _ k
        · rw [if_neg h6, Option.bind_some, if_pos rfl, num_any, decide_eq_true hw30, Option.bind_some, if_pos rfl, if_pos hw30.1, num_any, hs, decide_eq_true hv2, Option.bind_some, herbariumlaw1_BitsExact.j9, if_pos rfl, if_pos (by omega), if_pos (by omega), hw, wrap_in ((b.length : Int) + (W : Int)) (by omega) (by omega), if_neg h6]
          exact j10_ok ns bs l1 i true b _ _ _ _ 2 _ _ k
      · rw [if_neg (fun h => hv2 ⟨h.2.2.1, by omega⟩), Option.bind_some, if_pos rfl, num_any, decide_eq_true hw30, Option.bind_some, if_pos rfl, if_pos hw30.1, num_any, hs, decide_eq_false hv2, Option.bind_some]
        exact h9
    · rw [if_neg (fun h => hw30 ⟨h.1, h.2.1⟩), Option.bind_some, if_pos rfl, num_any, decide_eq_false hw30, Option.bind_some, if_neg (by decide)]
      exact h9
  · rw [put_no s n _ _ hno, Option.bind_some, if_neg (by decide)]
    exact h9
theorem get_part (h : At m b s n) (kk jj : Nat) (hkk : kk < ns.length) (hjj : jj < ns.length) (hv : rd ns (kk : Int) < 9223372036854775808) (k : Nat) (hk : 8200 ≤ k) :
    ∃ gv ge : Int, herbariumlaw1_BitsExact.j11 (k + 1 + 1) ns i m b (kk : Int) (jj : Int) false bs l1 s n = herbariumlaw1_BitsExact.j13 k ns i m b (kk : Int) (jj : Int) gv ge ge gv bs l1 s n := by
  rw [herbariumlaw1_BitsExact.j11, if_neg (by decide), if_pos (by omega), if_pos (by omega), if_pos (by omega), if_pos (by omega)]
  generalize hv' : rd ns (kk : Int) = v at *
  generalize hw : rd ns (jj : Int) = w at *
  have h12 : herbariumlaw1_BitsExact.j12 (k + 1) ns i m b (kk : Int) (jj : Int) 0 1 1 0 false bs l1 s n = herbariumlaw1_BitsExact.j13 k ns i m b (kk : Int) (jj : Int) 0 1 1 0 bs l1 s n := by
    rw [herbariumlaw1_BitsExact.j12, if_neg (by decide)]
  rcases h with ⟨rfl, rfl, rfl, hb, hlen⟩ | ⟨rfl, hno⟩
  · rw [get_eq b hb hlen v w hv (k + 1) (by omega), Option.bind_some, if_pos rfl]
    unfold getR
    by_cases hv0 : v ≥ 0
    · rw [if_pos hv0, num_any, Option.bind_some]
      by_cases hw30 : 0 ≤ w ∧ w ≤ 30
      · rw [decide_eq_true hw30, if_pos ⟨hv0, hw30⟩, herbariumlaw1_BitsExact.j12, if_pos rfl, if_pos (by omega), if_pos (by omega), hv']
        obtain ⟨a, rfl⟩ := Int.eq_ofNat_of_zero_le hv0
        obtain ⟨W, rfl⟩ := Int.eq_ofNat_of_zero_le hw30.1
        by_cases hl : (a : Int) ≤ (b.length : Int)
        · rw [if_pos hl, if_pos (by omega), if_pos (by omega), hw, wrap_in ((b.length : Int) - (a : Int)) (by omega) (by omega)]
          by_cases hl2 : (a : Int) + (W : Int) ≤ (b.length : Int)
          · rw [if_pos hl2, if_pos (by omega), refGet_eq b hb (by omega) a W (by omega) (by omega) k (by omega), Option.bind_some, Int.toNat_natCast, Int.toNat_natCast]
            exact ⟨_, 0, rfl⟩
          · rw [if_neg hl2, if_neg (by omega)]
            exact ⟨0, 9, rfl⟩
        · rw [if_neg hl, if_neg (by omega)]
          exact ⟨0, 9, rfl⟩
      · rw [decide_eq_false hw30, if_neg (fun h => hw30 h.2)]
        exact ⟨0, 1, h12⟩
    · rw [if_neg hv0, if_neg (fun h => hv0 h.1)]
      exact ⟨0, 1, h12⟩
  · rw [get_no s n _ _ hno _ (by omega), Option.bind_some, if_neg (by decide)]
    exact ⟨0, 1, h12⟩
theorem j15_ok (kk : Int) (jj : Nat) (hjj : jj < 1000) (gv ge ce : Int) (cs : ByteArray) (cn : Int) (k : Nat) : herbariumlaw1_BitsExact.j15 (k + 1) ns i m b kk (jj : Int) gv ge ge gv ce ce bs l1 s n cs cn cs cn = herbariumlaw1_BitsExact.l2 k ns i m b kk ((jj : Int) + 1) bs l1 s n := by
  rw [herbariumlaw1_BitsExact.j15, herbariumlaw1_num.f, Option.bind_some, if_pos rfl, if_pos rfl, herbariumlaw1_num.f, Option.bind_some, if_pos rfl, same_bits, if_neg (by decide), wrap_in ((jj : Int) + 1) (by omega) (by omega)]
theorem cut_part (h : At m b s n) (kk jj : Nat) (hkk : kk < ns.length) (hjj : jj < ns.length) (hjj2 : jj < 1000) (gv ge : Int) (k : Nat) (hk : 8200 ≤ k) :
    herbariumlaw1_BitsExact.j13 (k + 1 + 1 + 1) ns i m b (kk : Int) (jj : Int) gv ge ge gv bs l1 s n = herbariumlaw1_BitsExact.l2 k ns i m b (kk : Int) ((jj : Int) + 1) bs l1 s n := by
  rw [herbariumlaw1_BitsExact.j13, if_pos (by omega), if_pos (by omega), if_pos (by omega), if_pos (by omega)]
  generalize hv : rd ns (kk : Int) = v at *
  generalize hw : rd ns (jj : Int) = w at *
  have h14 : herbariumlaw1_BitsExact.j14 (k + 1 + 1) ns i m b (kk : Int) (jj : Int) gv ge ge gv 1 1 false bs l1 s n ⟨#[]⟩ 0 ⟨#[]⟩ 0 = herbariumlaw1_BitsExact.l2 k ns i m b (kk : Int) ((jj : Int) + 1) bs l1 s n := by
    rw [herbariumlaw1_BitsExact.j14, if_neg (by decide)]; exact j15_ok ns bs l1 i m b s n _ jj hjj2 gv ge 1 _ 0 k
  rcases h with ⟨rfl, rfl, rfl, hb, hlen⟩ | ⟨rfl, hno⟩
  · rw [cut_eq b hb hlen, Option.bind_some, if_pos rfl]
    unfold cutR
    by_cases hv0 : v ≥ 0
    · rw [if_pos hv0]
      by_cases hvw : v ≤ w
      · rw [if_pos hvw]
        by_cases hwl : w ≤ (b.length : Int)
        · obtain ⟨a, rfl⟩ := Int.eq_ofNat_of_zero_le hv0
          obtain ⟨W, rfl⟩ := Int.eq_ofNat_of_zero_le (show 0 ≤ w by omega)
          have he : (b.take W).drop a = (b.drop a).take (W - a) := List.drop_take
          have hle : ((b.drop a).take (W - a)).length = W - a := by rw [List.length_take, List.length_drop]; omega
          have hpk := refPack_eq ((b.drop a).take (W - a)) (IsBits.take' (IsBits.drop' hb a) _) (by omega) (k + 1) (by omega)
          have e1 : ((W : Int) - (a : Int)).toNat = W - a := by omega
          have e2 : ((W - a : Nat) : Int) = (W : Int) - (a : Int) := by omega
          rw [hle, e2] at hpk
          rw [if_pos ⟨hv0, hvw, hwl⟩, decide_eq_true hwl, e1, Int.toNat_natCast]
          simp only
          rw [herbariumlaw1_BitsExact.j14, if_pos rfl, if_pos (by omega), if_pos (by omega), if_pos (by omega), if_pos (by omega), hv, hw, if_pos hv0, if_pos hvw, if_pos hwl, Int.toNat_natCast, Int.toNat_natCast, he, hpk, Option.bind_some]
          exact j15_ok ns bs l1 i true b _ _ _ jj hjj2 gv ge 0 _ _ k
        · rw [if_neg (fun h => hwl h.2.2), decide_eq_false hwl]
          exact h14
      · rw [if_neg hvw, if_neg (fun h => hvw h.2.1)]
        exact h14
    · rw [if_neg hv0, if_neg (fun h => hv0 h.1)]
      exact h14
  · rw [cut_no s n _ _ hno, Option.bind_some, if_neg (by decide)]
    exact h14
theorem l2_all (h : At m b s n) (hns : ns.length ≤ 12) (hr : ∀ q : Nat, q < ns.length → rd ns (q : Int) < 9223372036854775808) (kk : Nat) (hkk : kk < ns.length) (K : Nat) (hK : 8300 ≤ K)
    (hnext : ∀ k, K ≤ k → herbariumlaw1_BitsExact.l1 k ns i m b ((kk : Int) + 1) bs l1 s n = some true) :
    ∀ (d jj : Nat), jj + d = ns.length → ∀ k, K + 8 * d + 1 ≤ k → herbariumlaw1_BitsExact.l2 k ns i m b (kk : Int) (jj : Int) bs l1 s n = some true
  | 0, jj, hd, k, hk => by
    obtain ⟨k, rfl⟩ : ∃ m, k = m + 1 := ⟨k - 1, by omega⟩
    rw [herbariumlaw1_BitsExact.l2, if_neg (by omega), wrap_in ((kk : Int) + 1) (by omega) (by omega)]
    exact hnext k (by omega)
  | d + 1, jj, hd, k, hk => by
    obtain ⟨k, rfl⟩ : ∃ m, k = m + 1 + 1 + 1 + 1 + 1 + 1 + 1 + 1 := ⟨k - 8, by omega⟩
    rw [put_part ns bs l1 i m b s n h kk jj hkk (by omega) (k + 1 + 1 + 1 + 1 + 1) (by omega)]
    obtain ⟨gv, ge, e⟩ := get_part ns bs l1 i m b s n h kk jj hkk (by omega) (hr kk hkk) (k + 1 + 1 + 1) (by omega)
    rw [e, cut_part ns bs l1 i m b s n h kk jj hkk (by omega) (by omega) gv ge k (by omega)]
    exact l2_all h hns hr kk hkk K hK hnext d (jj + 1) (by omega) k (by omega)
theorem l1_all (h : At m b s n) (hns : ns.length ≤ 12) (hr : ∀ q : Nat, q < ns.length → rd ns (q : Int) < 9223372036854775808) (K : Nat) (hK : 8300 ≤ K)
    (hnext : ∀ k, K ≤ k → herbariumlaw1_BitsExact.l3 k ns i m b 0 bs l1 s n = some true) :
    ∀ (d kk : Nat), kk + d = ns.length → ∀ k, K + 120 * d + 1 ≤ k → herbariumlaw1_BitsExact.l1 k ns i m b (kk : Int) bs l1 s n = some true
  | 0, kk, hd, k, hk => by
    obtain ⟨k, rfl⟩ : ∃ m, k = m + 1 := ⟨k - 1, by omega⟩
    rw [herbariumlaw1_BitsExact.l1, if_neg (by omega)]
    exact hnext k (by omega)
  | d + 1, kk, hd, k, hk => by
    obtain ⟨k, rfl⟩ : ∃ m, k = m + 1 + 1 + 1 + 1 := ⟨k - 4, by omega⟩
    rw [l1_step ns bs l1 i m b s n h kk (by omega) k (by omega)]
    exact l2_all ns bs l1 i m b s n h hns hr kk (by omega) (K + 120 * d + 1) (by omega) (fun k hk => l1_all h hns hr K hK hnext d (kk + 1) (by omega) k hk) ns.length 0 (by omega) k (by omega)
theorem l3_step (h : At m b s n) (x : Nat) (hx : x < bs.length) (hx6 : x < 6) (k : Nat) (hk : 12100 ≤ k) :
    herbariumlaw1_BitsExact.l3 (k + 1 + 1 + 1) ns i m b (x : Int) bs l1 s n = herbariumlaw1_BitsExact.l3 k ns i m b ((x : Int) + 1) bs l1 s n := by
  rw [herbariumlaw1_BitsExact.l3, if_pos (by omega), decide_eq_true (show ((x : Int) < 6) by omega), herbariumlaw1_BitsExact.j17, if_pos rfl, if_pos (by omega), if_pos (by omega)]
  obtain ⟨s2, hs2⟩ : ∃ s2, (rd_T27 bs (x : Int)).f0 = s2 := ⟨_, rfl⟩
  obtain ⟨n2, hn2⟩ : ∃ n2, (rd_T27 bs (x : Int)).f1 = n2 := ⟨_, rfl⟩
  rw [hs2, hn2]
  have h18 : herbariumlaw1_BitsExact.j18 (k + 1) ns i m b (x : Int) 1 1 false bs l1 s n ⟨#[]⟩ 0 ⟨#[]⟩ 0 = herbariumlaw1_BitsExact.l3 k ns i m b ((x : Int) + 1) bs l1 s n := by
    rw [herbariumlaw1_BitsExact.j18, if_neg (by decide), herbariumlaw1_num.f, Option.bind_some, if_pos rfl, same_bits, if_neg (by decide), wrap_in ((x : Int) + 1) (by omega) (by omega)]
  rcases h with ⟨rfl, rfl, rfl, hb, hlen⟩ | ⟨rfl, hno⟩
  · by_cases hm2 : MayP s2 n2
    · obtain ⟨c1, c2, c3, c4⟩ := canon s2 n2 hm2
      have ho := refOf_eq (ofS s2 n2) c3 (by omega) k (by omega)
      have hc := cat_eq b (ofS s2 n2) hb c3 hlen c4
      rw [← c1, ← c2] at ho hc
      have hpk := refPack_eq (b ++ ofS s2 n2) (IsBits.append hb c3) (by rw [List.length_append]; omega) k (by rw [List.length_append]; omega)
      rw [hc]
      by_cases h6 : b.length + (ofS s2 n2).length ≤ 6000
      · rw [if_pos h6, Option.bind_some, if_pos rfl, refBits_eq _ _ (k + 1) (by omega), decide_eq_true hm2, Option.bind_some, herbariumlaw1_BitsExact.j18, if_pos rfl, if_pos (by omega), if_pos (by omega), hs2, hn2, wrap_in ((b.length : Int) + n2) (by omega) (by omega), if_pos (by omega), Option.bind_some, if_pos (by rw [List.length_nil]; omega), Option.bind_some, ho, Option.bind_some, List.nil_append, if_pos (by omega), hpk, Option.bind_some, herbariumlaw1_num.f, Option.bind_some, if_pos rfl, same_bits, if_neg (by decide), wrap_in ((x : Int) + 1) (by omega) (by omega)]
      · rw [if_neg h6, Option.bind_some, if_pos rfl, refBits_eq _ _ (k + 1) (by omega), decide_eq_true hm2, Option.bind_some, herbariumlaw1_BitsExact.j18, if_pos rfl, if_pos (by omega), if_pos (by omega), hn2, wrap_in ((b.length : Int) + n2) (by omega) (by omega), if_neg (by omega), herbariumlaw1_num.f, Option.bind_some, if_pos rfl, same_bits, if_neg (by decide), wrap_in ((x : Int) + 1) (by omega) (by omega)]
    · rw [cat_no _ _ s2 n2 (fun h => hm2 h.2), Option.bind_some, if_pos rfl, refBits_eq _ _ (k + 1) (by omega), decide_eq_false hm2, Option.bind_some]
      exact h18
  · rw [cat_no s n s2 n2 (fun h => hno h.1), Option.bind_some, if_neg (by decide)]
    exact h18
theorem l3_all (h : At m b s n) (hi : 0 ≤ i ∧ i < 1000) (K : Nat) (hK : 12200 ≤ K) (hnext : ∀ k, K ≤ k → herbariumlaw1_BitsExact.l0 k ns (i + 1) bs l1 = some true) :
    ∀ (d x : Nat), x + d = 6 → ∀ k, K + 3 * d + 2 ≤ k → herbariumlaw1_BitsExact.l3 k ns i m b (x : Int) bs l1 s n = some true
  | 0, x, hd, k, hk => by
    obtain ⟨k, rfl⟩ : ∃ m, k = m + 1 + 1 := ⟨k - 2, by omega⟩
    have e : herbariumlaw1_BitsExact.j17 (k + 1) ns i m b (x : Int) false bs l1 s n = some true := by
      rw [herbariumlaw1_BitsExact.j17, if_neg (by decide), wrap_in (i + 1) (by omega) (by omega)]
      exact hnext k (by omega)
    rw [herbariumlaw1_BitsExact.l3, decide_eq_false (show ¬ ((x : Int) < 6) by omega), e]
    split <;> rfl
  | d + 1, x, hd, k, hk => by
    by_cases hx : x < bs.length
    · obtain ⟨k, rfl⟩ : ∃ m, k = m + 1 + 1 + 1 := ⟨k - 3, by omega⟩
      rw [l3_step ns bs l1 i m b s n h x hx (by omega) k (by omega)]
      exact l3_all h hi K hK hnext d (x + 1) (by omega) k (by omega)
    · obtain ⟨k, rfl⟩ : ∃ m, k = m + 1 + 1 := ⟨k - 2, by omega⟩
      rw [herbariumlaw1_BitsExact.l3, if_neg (by omega), herbariumlaw1_BitsExact.j17, if_neg (by decide), wrap_in (i + 1) (by omega) (by omega)]
      exact hnext k (by omega)
end
theorem l0_all (R : Nat) (hR : 12200 ≤ R) (hR2 : 8300 ≤ R) (hR3 : 8100 ≤ R) (ns : List Int) (bs : List S27) (l1 : List Int) (hns : ns.length ≤ 12) (hr : ∀ q : Nat, q < ns.length → rd ns (q : Int) < 9223372036854775808) :
    ∀ (d i : Nat), i + d = 6 → ∀ k, R + 1500 * d + 2 ≤ k → herbariumlaw1_BitsExact.l0 k ns (i : Int) bs l1 = some true
  | 0, i, hd, k, hk => by
    obtain ⟨k, rfl⟩ : ∃ m, k = m + 1 + 1 := ⟨k - 2, by omega⟩
    have e : herbariumlaw1_BitsExact.j2 (k + 1) ns (i : Int) false bs l1 = some true := by
      rw [herbariumlaw1_BitsExact.j2, if_neg (by decide), wakesB k (by omega)]; rfl
    rw [herbariumlaw1_BitsExact.l0, decide_eq_false (show ¬ ((i : Int) < 6) by omega), e]
    split <;> rfl
  | d + 1, i, hd, k, hk => by
    by_cases hi : i < bs.length
    · obtain ⟨k, rfl⟩ : ∃ m, k = m + 1 + 1 + 1 := ⟨k - 3, by omega⟩
      have hnext : ∀ k, R + 1500 * d + 2 ≤ k → herbariumlaw1_BitsExact.l0 k ns ((i : Int) + 1) bs l1 = some true := fun k hk => l0_all R hR hR2 hR3 ns bs l1 hns hr d (i + 1) (by omega) k hk
      obtain ⟨K, hK⟩ : ∃ K, K = R + 1500 * d + 2 := ⟨_, rfl⟩
      have hK1 : 12200 ≤ K := by rw [hK]; exact Nat.le_trans hR (Nat.le_trans (Nat.le_add_right _ _) (Nat.le_add_right _ _))
      have hK2 : 8300 ≤ K + 30 := by rw [hK]; exact Nat.le_trans hR2 (Nat.le_trans (Nat.le_trans (Nat.le_add_right _ _) (Nat.le_add_right _ _)) (Nat.le_add_right _ _))
      have hK4 : R ≤ k + 1 := by omega
      have hK3 : K + 30 + 120 * ns.length + 1 ≤ k := by omega
      rw [← hK] at hnext
      rw [herbariumlaw1_BitsExact.l0, if_pos (by omega), decide_eq_true (show ((i : Int) < 6) by omega), herbariumlaw1_BitsExact.j2, if_pos rfl, if_pos (by omega), if_pos (by omega), refBits_eq _ _ (k + 1) (Nat.le_trans hR3 hK4), Option.bind_some]
      generalize (rd_T27 bs (i : Int)).f0 = s
      generalize (rd_T27 bs (i : Int)).f1 = n
      have hgo : ∀ (m : Bool) (b : List Int), At m b s n → herbariumlaw1_BitsExact.j3 (k + 1) ns (i : Int) m b bs l1 s n = some true := by
        intro m b hm
        rw [herbariumlaw1_BitsExact.j3]
        refine l1_all ns bs l1 (i : Int) m b s n hm hns hr (K + 30) hK2 (fun k hk => ?_) ns.length 0 (by omega) k hK3
        exact l3_all ns bs l1 (i : Int) m b s n hm (by omega) K hK1 hnext 6 0 (by omega) k (by omega)
      unfold bits_Check.f
      rw [may_eq, Option.bind_some]
      by_cases hm : MayP s n
      · obtain ⟨c1, c2, c3, c4⟩ := canon s n hm
        have ho := refOf_eq (ofS s n) c3 (by omega) (k + 1) (by omega)
        rw [← c1, ← c2] at ho
        rw [decide_eq_true hm, if_pos rfl, Option.bind_some, herbariumlaw1_num.f, Option.bind_some, if_neg (by decide), if_pos rfl, ho, Option.bind_some]
        exact hgo true (ofS s n) (.inl ⟨rfl, c1, c2, c3, c4⟩)
      · rw [decide_eq_false hm, if_neg (by decide), Option.bind_some, herbariumlaw1_num.f, Option.bind_some, if_neg (by decide), if_neg (by decide)]
        exact hgo false [] (.inr ⟨rfl, hm⟩)
    · obtain ⟨k, rfl⟩ : ∃ m, k = m + 1 + 1 := ⟨k - 2, by omega⟩
      rw [herbariumlaw1_BitsExact.l0, if_neg (by omega), herbariumlaw1_BitsExact.j2, if_neg (by decide), wakesB k (by omega)]; rfl
end Bits3
theorem BitsExact : ∀ (l0 : List S27) (l1 : List Int), Op.GoodB l0 → Op.GoodN l1 → ∃ k, Q.herbariumlaw1_BitsExact.f k l0 l1 = some true := by
  intro l0 l1 g0 g1
  have hr0 := g0.1
  have hr1 := g1.1
  unfold reachBytes at hr0 hr1
  obtain ⟨k, hk⟩ : ∃ k : Nat, 30000 + l0.length ≤ k := ⟨_, Nat.le_refl _⟩
  refine ⟨k, ?_⟩
  unfold herbariumlaw1_BitsExact.f
  rcases heavy_some l0 l1 (by omega) k (by omega) with h | ⟨h, hn⟩
  · rw [h]; rfl
  · have hwf : ∀ x ∈ (([0, 1, 3, 30, 31, (-1)] : List Int) ++ l1), x < 9223372036854775808 := by
      intro x hx
      rcases List.mem_append.1 hx with h | h
      · simp only [List.mem_cons, List.not_mem_nil, or_false] at h; omega
      · have := g1.2 x h
        simp only [Lit.wf, IntKind.min, IntKind.max, IntKind.signed, IntKind.bits, Bool.and_eq_true, decide_eq_true_eq, if_true] at this
        omega
    have hj : ∀ ns : List Int, ns.length ≤ 12 → (∀ x ∈ ns, x ∈ (([0, 1, 3, 30, 31, (-1)] : List Int) ++ l1)) → herbariumlaw1_BitsExact.j0 k ns l0 l1 = some true := by
      intro ns hns hm
      obtain ⟨k, rfl⟩ : ∃ m, k = m + 1 := ⟨k - 1, by omega⟩
      rw [herbariumlaw1_BitsExact.j0]
      refine Bits3.l0_all 12200 (Nat.le_refl _) (by decide) (by decide) ns l0 l1 hns (fun q hq => ?_) 6 0 (by omega) k (by omega)
      refine hwf _ (hm _ ?_)
      unfold rd
      rw [Int.toNat_natCast, List.getD_eq_getElem?_getD, List.getElem?_eq_getElem hq]
      exact List.getElem_mem hq
    rw [h, Option.bind_some, if_neg (by decide), Option.bind_some, if_pos (by simp; omega), Option.bind_some]
    split
    · rw [if_pos (by omega)]
      exact hj _ (by rw [List.length_take]; omega) (fun x hx => List.mem_of_mem_take hx)
    · rename_i h12
      exact hj _ (by omega) (fun x hx => hx)
end Go.Proofs.Ytnpghcikhpglkaa.Pure
