/- BitsWide: the plain statement. -/
import Derived.Test.YtnpghcikhpglkaaOp
import Derived.Test.YtnpghcikhpglkaaPb
import Derived.Test.YtnpghcikhpglkaaQ24
namespace Go.Proofs.Ytnpghcikhpglkaa.Pure
open Go.RowKit Go.Proofs.YtnpghcikhpglkaaW.PrintWords Go.Proofs.YtnpghcikhpglkaaW.PrintLast Go.Proofs.YtnpghcikhpglkaaW.PrintMore Go.Proofs.Ytnpghcikhpglkaa.Q Go.Proofs.Ytnpghcikhpglkaa.Pu Go.Proofs.Ytnpghcikhpglkaa.Pb

theorem wakes1 (k : Nat) (hk : 40 ≤ k) : herbariumlaw1_wakes.f k = some true := by
  unfold herbariumlaw1_wakes.f
  have h1 : bits_Put.f (⟨#[]⟩ : ByteArray) 0 5 3 = some (packS (putL 3 5), ((putL 3 5).length : Int), 0) := put_nil 5 3 (by omega) (by omega) (by omega)
  rw [h1]
  simp only [Option.bind_some]
  rw [get_eq (putL 3 5) (putL_bits 3 5) (by rw [putL_length]; omega) 0 3 (by omega) k hk]
  simp only [Option.bind_some, herbariumlaw1_num.f]
  decide +kernel

theorem shl_one (w : Nat) (hw : w ≤ 30) : shl .i64 1 (w : Int) = 2 ^ w := by
  unfold shl
  rw [Nat.min_eq_left (by simp [IntKind.bits]; omega), Int.one_mul, Int.toNat_natCast]
  have h := pow_le30 (w : Int) (by omega) (by omega)
  rw [Int.toNat_natCast] at h
  exact wraps_i64 _ (by omega) (by omega)

theorem get_mid (A B C : List Int) (h : B.length ≤ 30) : getR (A ++ B ++ C) (A.length : Int) (B.length : Int) = (numL B, 0) := by
  unfold getR
  rw [if_pos (by omega), if_pos (by simp; omega), Int.toNat_natCast, Int.toNat_natCast, take_drop_mid]
theorem get_end (A B C : List Int) (h : C.length ≤ 30) : getR (A ++ B ++ C) ((A.length : Int) + (B.length : Int)) (C.length : Int) = (numL C, 0) := by
  unfold getR
  rw [if_pos (by omega), if_pos (by simp; omega), Int.toNat_natCast, show ((A.length : Int) + (B.length : Int)).toNat = (A ++ B).length by simp; omega]
  have := take_drop_mid (A ++ B) C []
  rw [List.append_nil] at this
  rw [this]
theorem get_past (A B C : List Int) (h : C.length ≤ 30) : getR (A ++ B ++ C) ((A.length : Int) + (B.length : Int) + 1) (C.length : Int) = (0, 9) := by
  unfold getR
  rw [if_pos (by omega), if_neg (by simp; omega)]

theorem wide_step (l0 : List S27) (l1 : List Int) (w a : Nat) (hw : w ≤ 30) (ha : a < 9) (k : Nat) (hk : 40 ≤ k) :
    herbariumlaw1_BitsWide.l1 (k + 1) (w : Int) (a : Int) l0 l1 = herbariumlaw1_BitsWide.l1 k (w : Int) ((a + 1 : Nat) : Int) l0 l1 := by
  obtain ⟨p, hp⟩ : ∃ p : Int, (2 : Int) ^ w = p := ⟨_, rfl⟩
  have hpb : 0 < p ∧ p ≤ 1073741824 := by have := pow_le30 (w : Int) (by omega) (by omega); rw [Int.toNat_natCast, hp] at this; exact this
  have hpa : (0 : Int) < 2 ^ a := Int.pow_pos (by decide)
  have w0 := Aside0.mk (wrap_in (p - 1) (by omega) (by omega))
  have w1 := Aside0.mk (wrap_in ((a : Int) + (w : Int)) (by omega) (by omega))
  have w2 := Aside0.mk (wrap_in ((a : Int) + (w : Int) + 1) (by omega) (by omega))
  have w3 := Aside0.mk (wrap_in (2 * (w : Int)) (by omega) (by omega))
  have w4 := Aside0.mk (wrap_in ((a : Int) + 2 * (w : Int)) (by omega) (by omega))
  have w5 : Aside0 (wrap64 ((a : Int) + 1) = ((a + 1 : Nat) : Int)) := ⟨by rw [wrap_in _ (by omega) (by omega)]; omega⟩
  have z := Aside0.mk (wrap_in 0 (by omega) (by omega))
  have e0 : shl .i64 1 (w : Int) = p := by rw [shl_one w hw, hp]
  obtain ⟨A, hAd⟩ : ∃ A, putL a 0 = A := ⟨_, rfl⟩
  obtain ⟨B, hBd⟩ : ∃ B, putL w (p - 1) = B := ⟨_, rfl⟩
  obtain ⟨C, hCd⟩ : ∃ C, putL w 0 = C := ⟨_, rfl⟩
  have hA : IsBits A := hAd ▸ putL_bits a 0
  have hB : IsBits B := hBd ▸ putL_bits _ _
  have hC : IsBits C := hCd ▸ putL_bits _ _
  have lA : A.length = a := by rw [← hAd, putL_length]
  have lB : B.length = w := by rw [← hBd, putL_length]
  have lC : C.length = w := by rw [← hCd, putL_length]
  have nB : numL B = p - 1 := by rw [← hBd]; exact numL_putL_lt w _ (by omega) (by omega)
  have nC : numL C = 0 := by rw [← hCd]; exact numL_putL_lt w _ (by omega) (by omega)
  have e1 : bits_Put.f (⟨#[]⟩ : ByteArray) 0 0 (a : Int) = some (packS A, (A.length : Int), 0) := by rw [← hAd]; exact put_nil 0 a (by omega) (by omega) hpa
  have e2 : bits_Put.f (packS A) (A.length : Int) (p - 1) (w : Int) = some (packS (A ++ B), ((A ++ B).length : Int), 0) := by rw [← hBd]; exact put_some A hA (p - 1) w hw (by omega) (by omega) (by omega)
  have e3 : bits_Put.f (packS (A ++ B)) ((A ++ B).length : Int) 0 (w : Int) = some (packS (A ++ B ++ C), ((A ++ B ++ C).length : Int), 0) := by rw [← hCd]; exact put_some (A ++ B) (hA.append hB) 0 w hw (by omega) (by omega) (by rw [List.length_append]; omega)
  have hABC := (hA.append hB).append hC
  have hl : ((A ++ B ++ C).length : Int) = (a : Int) + 2 * (w : Int) := by rw [List.length_append, List.length_append]; omega
  have hl6 : (A ++ B ++ C).length ≤ 6000 := by omega
  have e7 : bits_Put.f (packS (A ++ B ++ C)) ((A ++ B ++ C).length : Int) p (w : Int) = some (⟨#[]⟩, 0, 1) := by
    rw [put_eq _ hABC hl6, if_neg (fun h => by have := h.2.2.2; rw [Int.toNat_natCast, hp] at this; omega)]
  have g := fun at' (h : at' < 9223372036854775808) => get_eq _ hABC hl6 at' (w : Int) h k hk
  have g1 := g (a : Int) (by omega)
  have g2 := g ((a : Int) + (w : Int)) (by omega)
  have g3 := g ((a : Int) + (w : Int) + 1) (by omega)
  have m1 := get_mid A B C (by omega)
  have m2 := get_end A B C (by omega)
  have m3 := get_past A B C (by omega)
  rw [lA, lB, nB] at m1
  rw [lA, lB, lC, nC] at m2
  rw [lA, lB, lC] at m3
  rw [m1] at g1
  rw [m2] at g2
  rw [m3] at g3
  simp only [herbariumlaw1_BitsWide.l1]
  rw [if_pos (by omega), e1]
  simp only [Option.bind_some]
  rw [if_pos (by omega), e0, w0.out, e2]
  simp only [Option.bind_some]
  rw [e3]
  simp only [Option.bind_some]
  rw [w1.out, w2.out, w3.out, w4.out, w5.out, g1]
  simp only [Option.bind_some]
  rw [g2]
  simp only [Option.bind_some]
  rw [e7]
  simp only [Option.bind_some]
  rw [g3]
  simp only [Option.bind_some, herbariumlaw1_num.f, Int.add_zero, z.out, if_true, hl]

theorem wide_row (l0 : List S27) (l1 : List Int) (w : Nat) (hw : w ≤ 30) (k : Nat) (hk : 40 ≤ k) (d : Nat) : ∀ a, a + d = 9 →
    herbariumlaw1_BitsWide.l1 (k + d + 1) (w : Int) (a : Int) l0 l1 = herbariumlaw1_BitsWide.l0 k ((w + 1 : Nat) : Int) l0 l1 := by
  induction d with
  | zero =>
    intro a ha
    simp only [herbariumlaw1_BitsWide.l1]
    have w5 : wrap64 ((w : Int) + 1) = ((w + 1 : Nat) : Int) := by rw [wrap_in _ (by omega) (by omega)]; omega
    rw [if_neg (by omega), w5]
  | succ d ih =>
    intro a ha
    have h := ih (a + 1) (by omega)
    rw [← h, show k + (d + 1) + 1 = (k + d + 1) + 1 by omega]
    exact wide_step l0 l1 w a hw (by omega) (k + d + 1) (by omega)

theorem wide_all (l0 : List S27) (l1 : List Int) (d : Nat) : ∀ w k, w + d = 31 → 50 + 11 * d ≤ k → herbariumlaw1_BitsWide.l0 k (w : Int) l0 l1 = some true := by
  induction d with
  | zero =>
    intro w k hw hk
    obtain ⟨k, rfl⟩ : ∃ m, k = m + 1 := ⟨k - 1, by omega⟩
    simp only [herbariumlaw1_BitsWide.l0]
    rw [if_neg (by omega), if_pos (show _ ≥ _ from Int.natCast_nonneg _), wakes1 k (by omega)]
    rfl
  | succ d ih =>
    intro w k hw hk
    obtain ⟨k, rfl⟩ : ∃ m, k = m + 1 := ⟨k - 1, by omega⟩
    simp only [herbariumlaw1_BitsWide.l0]
    rw [if_pos (by omega)]
    obtain ⟨q, rfl⟩ : ∃ q, k = q + 9 + 1 := ⟨k - 10, by omega⟩
    have := wide_row l0 l1 w (by omega) q (by omega) 9 0 (by omega)
    exact this.trans (ih (w + 1) q (by omega) (by omega))

theorem BitsWide : ∀ (l0 : List S27) (l1 : List Int), Op.GoodB l0 → Op.GoodN l1 → ∃ k, Q.herbariumlaw1_BitsWide.f k l0 l1 = some true :=
  fun l0 l1 _ _ => ⟨1000, wide_all l0 l1 31 0 1000 (by omega) (by omega)⟩
end Go.Proofs.Ytnpghcikhpglkaa.Pure
