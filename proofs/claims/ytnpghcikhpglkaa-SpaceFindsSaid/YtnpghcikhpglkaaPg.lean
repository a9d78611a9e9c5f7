/- The document's own places and gaps: they are the program's. -/
import Derived.Test.YtnpghcikhpglkaaPs
import Derived.Test.YtnpghcikhpglkaaQ11
import Derived.Test.YtnpghcikhpglkaaQ13
namespace Go.Proofs.Ytnpghcikhpglkaa.Ps
open Go.RowKit Go.Proofs.YtnpghcikhpglkaaW.PrintWords Go.Proofs.YtnpghcikhpglkaaW.PrintLast Go.Proofs.YtnpghcikhpglkaaW.PrintMore Go.Proofs.Ytnpghcikhpglkaa.Q
set_option linter.unusedVariables false
set_option linter.unusedSimpArgs false

theorem fits_iff {b : Int} {x : S41} : fits b x = true ↔ 1 ≤ x.f1 ∧ 0 ≤ x.f0 ∧ x.f0 < b ∧ x.f1 ≤ b - x.f0 := by
  unfold fits
  simp [and_assoc]
def over (x : S41) (j : Nat) : Bool := decide (x.f0 ≤ (j : Int)) && decide ((j : Int) < x.f0 + x.f1)
def hits (x y : S41) : Bool := decide (x.f0 < y.f0 + y.f1) && decide (y.f0 < x.f0 + x.f1)
theorem mark_get : ∀ (n a : Nat) (t t' : List Bool), a + n ≤ t.length → markL n a t = some t' → ∀ j, j < t.length → t'.getD j false = (decide (a ≤ j) && decide (j < a + n) || t.getD j false) := by
  intro n
  induction n with
  | zero =>
    intro a t t' h hm j hj
    simp only [markL, Option.some.injEq] at hm; subst hm
    have : (decide (a ≤ j) && decide (j < a + 0)) = false := by simp
    rw [this]; rfl
  | succ n ih =>
    intro a t t' h hm j hj
    rw [markL] at hm
    split at hm
    · cases hm
    · rw [ih (a + 1) (t.set a true) t' (by rw [List.length_set]; omega) hm j (by rw [List.length_set]; exact hj)]
      by_cases hja : j = a
      · subst hja
        rw [List.getD_eq_getElem?_getD, List.getElem?_set_self hj]
        simp
      · rw [List.getD_eq_getElem?_getD, List.getElem?_set_ne (fun h => hja h.symm), ← List.getD_eq_getElem?_getD]
        congr 1
        rw [Bool.eq_iff_iff]
        simp only [Bool.and_eq_true, decide_eq_true_eq]
        omega
theorem take_all (b : Int) : ∀ (l : List S41) (t t' : List Bool), (t.length : Int) = b → takeL b l t = some t' → (∀ x ∈ l, fits b x = true) ∧ ∀ j, j < t.length → t'.getD j false = (l.any (fun x => over x j) || t.getD j false) := by
  intro l
  induction l with
  | nil =>
    intro t t' h hm
    simp only [takeL, Option.some.injEq] at hm; subst hm
    exact ⟨fun x hx => (by cases hx), fun j hj => by simp⟩
  | cons x r ih =>
    intro t t' h hm
    rw [takeL] at hm
    split at hm
    · rename_i hf
      obtain ⟨t1, h1, h2⟩ := Option.bind_eq_some_iff.1 hm
      have hff := fits_iff.1 hf
      have hl := markL_length _ _ _ _ h1
      obtain ⟨g1, g2⟩ := ih t1 t' (by omega) h2
      refine ⟨fun y hy => ?_, fun j hj => ?_⟩
      · rcases List.mem_cons.1 hy with rfl | hy
        · exact hf
        · exact g1 y hy
      · rw [g2 j (by omega), mark_get _ _ _ _ (by omega) h1 j hj, List.any_cons]
        have : (decide (x.f0.toNat ≤ j) && decide (j < x.f0.toNat + x.f1.toNat)) = over x j := by
          unfold over
          rw [Bool.eq_iff_iff]
          simp only [Bool.and_eq_true, decide_eq_true_eq]
          omega
        rw [this]
        cases over x j <;> cases r.any (fun x => over x j) <;> simp
    · cases hm
theorem takeL_append2 (b : Int) (m : List S41) : ∀ (l : List S41) (t : List Bool), takeL b (l ++ m) t = (takeL b l t).bind (takeL b m) := by
  intro l
  induction l with
  | nil => intro t; rfl
  | cons y r ih =>
    intro t
    rw [List.cons_append, takeL, takeL]
    split
    · cases markL y.f1.toNat y.f0.toNat t with
      | none => rfl
      | some t1 => simp only [Option.bind_some]; exact ih t1
    · rfl
/-- A place is laid just where no other is hit. -/
theorem mark_iff (b : Int) (p : List S41) (t : List Bool) (hp : takeL b p (List.replicate b.toNat false) = some t) (hb : 0 ≤ b) (x : S41) (hf : fits b x = true) : (markL x.f1.toNat x.f0.toNat t).isSome = !(p.any (fun y => hits x y)) := by
  have hff := fits_iff.1 hf
  have hl : t.length = b.toNat := by rw [takeL_length _ _ _ _ hp, List.length_replicate]
  obtain ⟨g1, g2⟩ := take_all b p _ t (by simp; omega) hp
  simp only [List.length_replicate] at g2
  have g3 : ∀ j, j < b.toNat → t.getD j false = p.any (fun x => over x j) := by
    intro j hj
    rw [g2 j hj]
    have : (List.replicate b.toNat false).getD j false = false := by rw [List.getD_eq_getElem?_getD, List.getElem?_replicate]; split <;> rfl
    rw [this, Bool.or_false]
  rw [Bool.eq_iff_iff]
  constructor
  · intro h
    obtain ⟨t', h⟩ := Option.isSome_iff_exists.1 h
    have hw := (mark_some _ _ t t' (by omega) h).1
    rw [Bool.not_eq_true', List.any_eq_false]
    intro y hy hyx
    unfold hits at hyx
    simp only [Bool.and_eq_true, decide_eq_true_eq] at hyx
    have hfy := fits_iff.1 (g1 y hy)
    -- the greater of the two beginnings
    have : ∃ j : Nat, x.f0.toNat ≤ j ∧ j < x.f0.toNat + x.f1.toNat ∧ y.f0 ≤ (j : Int) ∧ (j : Int) < y.f0 + y.f1 := by
      by_cases hc : x.f0 ≤ y.f0
      · exact ⟨y.f0.toNat, by omega, by omega, by omega, by omega⟩
      · exact ⟨x.f0.toNat, by omega, by omega, by omega, by omega⟩
    obtain ⟨j, j1, j2, j3, j4⟩ := this
    have h0 := hw (j - x.f0.toNat) (by omega)
    rw [show x.f0.toNat + (j - x.f0.toNat) = j by omega] at h0
    have h1 := g3 j (by omega)
    rw [List.getD_eq_getElem?_getD, h0, Option.getD_some] at h1
    have h2 : p.any (fun x => over x j) = true := List.any_eq_true.2 ⟨y, hy, by unfold over; simp; omega⟩
    rw [h2] at h1
    cases h1
  · intro h
    rw [Bool.not_eq_true', List.any_eq_false] at h
    obtain ⟨t', ht'⟩ := mark_win x.f1.toNat x.f0.toNat t (fun j hj => by
      have h1 := g3 (x.f0.toNat + j) (by omega)
      have hlt : x.f0.toNat + j < t.length := by omega
      rw [List.getD_eq_getElem?_getD, List.getElem?_eq_getElem hlt, Option.getD_some] at h1
      rw [List.getElem?_eq_getElem hlt, h1]
      congr 1
      rw [List.any_eq_false]
      intro y hy ho
      unfold over at ho
      simp only [Bool.and_eq_true, decide_eq_true_eq] at ho
      refine h y hy ?_
      unfold hits
      simp only [Bool.and_eq_true, decide_eq_true_eq]
      omega)
    rw [ht']; rfl

theorem place_bad (l : List S41) (b i : Int) (k : Nat) : herbariumref13_Places.j2 (k + 1) l b i true = some false := by
  rw [herbariumref13_Places.j2, if_pos rfl]
theorem drop_take_cons (l : List S41) (i c : Nat) (h : c < i) (hi : i ≤ l.length) : (l.take i).drop c = l.getD c z41 :: (l.take i).drop (c + 1) := by
  have h1 : c < (l.take i).length := by rw [List.length_take]; omega
  rw [List.drop_eq_getElem_cons h1, List.getElem_take, List.getD_eq_getElem?_getD, List.getElem?_eq_getElem (by omega)]
  rfl
theorem place_l1 (l : List S41) (b : Int) (hb : b ≤ 100) (hl : l.length ≤ 13) (i : Nat) (hi : i < l.length) (hx : fits b (l.getD i z41) = true) (hp : ∀ y ∈ l.take i, fits b y = true) : ∀ (d c k : Nat), c + d = i → d + 1 ≤ k →
    herbariumref13_Places.l1 k l b (i : Int) (c : Int) = if ((l.take i).drop c).any (fun y => hits (l.getD i z41) y) = true then some false else herbariumref13_Places.l0 (k - d - 1) l b ((i + 1 : Nat) : Int) := by
  intro d
  induction d with
  | zero =>
    intro c k h hk
    obtain ⟨k, rfl⟩ : ∃ k', k = k' + 1 := ⟨k - 1, by omega⟩
    rw [herbariumref13_Places.l1, if_neg (by omega), wrap_in _ (by omega) (by omega), List.drop_eq_nil_of_le (by rw [List.length_take]; omega)]
    rfl
  | succ d ih =>
    intro c k h hk
    obtain ⟨k, rfl⟩ : ∃ k', k = k' + 1 := ⟨k - 1, by omega⟩
    have hc := drop_take_cons l i c (by omega) (by omega)
    have hy := fits_iff.1 (hp (l.getD c z41) (List.mem_of_mem_drop (i := c) (by rw [hc]; exact List.mem_cons_self)))
    have hx' := fits_iff.1 hx
    have e1 : rd_T41 l (i : Int) = l.getD i z41 := rfl
    have e2 : rd_T41 l (c : Int) = l.getD c z41 := rfl
    have h0 := ih (c + 1) k (by omega) (by omega)
    rw [herbariumref13_Places.l1, if_pos (by omega), if_pos (by omega), if_pos (by omega), if_pos (by omega), if_pos (by omega), e1, e2, hc, List.any_cons]
    generalize l.getD c z41 = y at *
    generalize l.getD i z41 = x at *
    rw [wrap_in _ (by omega) (by omega), wrap_in _ (by omega) (by omega), wrap_in _ (by omega) (by omega)]
    have h0' : herbariumref13_Places.l1 k l b (i : Int) ((c : Int) + 1) = _ := h0
    rw [h0', show k + 1 - (d + 1) - 1 = k - d - 1 by omega]
    have hh : hits x y = (decide (x.f0 < y.f0 + y.f1) && decide (y.f0 < x.f0 + x.f1)) := rfl
    by_cases h1 : x.f0 < y.f0 + y.f1
    · rw [if_pos h1]
      by_cases h2 : y.f0 < x.f0 + x.f1
      · rw [if_pos h2, hh, decide_eq_true h1, decide_eq_true h2]; rfl
      · rw [if_neg h2, hh, decide_eq_false h2, Bool.and_false, Bool.false_or]
    · rw [if_neg h1, hh, decide_eq_false h1, Bool.false_and, Bool.false_or]
theorem place_l0 (l : List S41) (b : Int) (hb0 : 1 ≤ b) (hb : b ≤ 100) (hl : l.length ≤ 13) : ∀ (d i : Nat) (t : List Bool) (k : Nat), i + d = l.length → takeL b (l.take i) (List.replicate b.toNat false) = some t → 20 * d + 1 ≤ k →
    herbariumref13_Places.l0 k l b (i : Int) = some (takeL b (l.drop i) t).isSome := by
  intro d
  induction d with
  | zero =>
    intro i t k hi ht hk
    obtain ⟨k, rfl⟩ : ∃ k', k = k' + 1 := ⟨k - 1, by omega⟩
    rw [herbariumref13_Places.l0, if_neg (by omega), List.drop_eq_nil_of_le (by omega)]
    rfl
  | succ d ih =>
    intro i t k hi ht hk
    obtain ⟨k, rfl⟩ : ∃ k', k = k' + 1 + 1 := ⟨k - 2, by omega⟩
    have hp := (take_all b _ _ t (by simp; omega) ht).1
    have e : rd_T41 l (i : Int) = l.getD i z41 := rfl
    rw [herbariumref13_Places.l0, if_pos (by omega), if_pos (by omega), e, getD_drop l i (by omega), takeL]
    by_cases hf : fits b (l.getD i z41) = true
    · have hff := fits_iff.1 hf
      have hm := mark_iff b _ t ht (by omega) _ hf
      have h1 := place_l1 l b hb hl i (by omega) hf hp i 0 k (by omega) (by omega)
      rw [List.drop_zero] at h1
      rw [if_neg (by omega), if_neg (by omega), if_neg (by omega), wrap_in _ (by omega) (by omega), decide_eq_false (by omega), herbariumref13_Places.j2, if_neg (by decide), if_pos hf]
      have h1' : herbariumref13_Places.l1 k l b (i : Int) 0 = _ := h1
      rw [h1']
      cases hmk : markL (l.getD i z41).f1.toNat (l.getD i z41).f0.toNat t with
      | none =>
        rw [hmk] at hm
        have : (l.take i).any (fun y => hits (l.getD i z41) y) = true := by simpa using hm
        rw [if_pos this]; rfl
      | some t' =>
        rw [hmk] at hm
        have : ¬ ((l.take i).any (fun y => hits (l.getD i z41) y) = true) := by intro h; rw [h] at hm; cases hm
        rw [if_neg this, Option.bind_some]
        refine ih (i + 1) t' (k - i - 1) (by omega) ?_ (by omega)
        have h2 : l.take (i + 1) = l.take i ++ [l.getD i z41] := by
          rw [List.take_add_one, List.getD_eq_getElem?_getD, List.getElem?_eq_getElem (by omega)]; rfl
        rw [h2, takeL_append2, ht, Option.bind_some, takeL, if_pos hf, hmk]; rfl
    · rw [if_neg hf]
      have hff : ¬ (1 ≤ (l.getD i z41).f1 ∧ 0 ≤ (l.getD i z41).f0 ∧ (l.getD i z41).f0 < b ∧ (l.getD i z41).f1 ≤ b - (l.getD i z41).f0) := fun h => hf (fits_iff.2 h)
      by_cases h1 : (l.getD i z41).f0 < 0
      · rw [if_pos h1, place_bad]; rfl
      · rw [if_neg h1]
        by_cases h2 : (l.getD i z41).f1 < 1
        · rw [if_pos h2, place_bad]; rfl
        · rw [if_neg h2]
          by_cases h3 : (l.getD i z41).f0 > b
          · rw [if_pos h3, place_bad]; rfl
          · rw [if_neg h3, wrap_in _ (by omega) (by omega), decide_eq_true (by omega), place_bad]; rfl
theorem place_eq (l : List S41) (b : Int) (k : Nat) (hk : 400 ≤ k) : herbariumref13_Places.f k l b = some (takenR l b).isSome := by
  obtain ⟨k, rfl⟩ : ∃ k', k = k' + 1 := ⟨k - 1, by omega⟩
  unfold herbariumref13_Places.f takenR herbariumref0_Between.f
  by_cases h1 : b ≥ 1
  · rw [if_pos h1, Option.bind_some]
    by_cases h2 : b ≤ 100
    · rw [decide_eq_true h2, if_pos rfl]
      by_cases h3 : l.length ≤ 13
      · rw [if_pos ⟨h1, h2, h3⟩, decide_eq_false (by omega), herbariumref13_Places.j0, if_neg (by decide)]
        have := place_l0 l b h1 h2 h3 l.length 0 (List.replicate b.toNat false) k (by omega) (by rfl) (by omega)
        rw [List.drop_zero] at this
        exact this
      · rw [if_neg (fun h => h3 h.2.2), decide_eq_true (by omega), herbariumref13_Places.j0, if_pos rfl]; rfl
    · rw [decide_eq_false h2, if_neg (by decide), if_neg (fun h => h2 h.2.1), herbariumref13_Places.j0, if_pos rfl]; rfl
  · rw [if_neg h1, Option.bind_some, if_neg (by decide), if_neg (fun h => h1 h.1), herbariumref13_Places.j0, if_pos rfl]; rfl

/-! ### the document's gaps -/
theorem gap_l1 (l : List S41) (b : Int) (i : Nat) (hi : i < l.length) (hl : l.length ≤ 13) (a : Nat) (h0 : (l.getD i z41).f0 = (a : Int)) : ∀ (d c : Nat) (t t' : List Bool) (k : Nat), (l.getD i z41).f1 = ((c + d : Nat) : Int) → a + c + d ≤ t.length → t.length ≤ 100 → markL d (a + c) t = some t' → d + 1 ≤ k →
    herbariumref13_Gaps.l1 k l b t (i : Int) (c : Int) = herbariumref13_Gaps.l0 (k - d - 1) l b t' ((i + 1 : Nat) : Int) := by
  intro d
  induction d with
  | zero =>
    intro c t t' k h1 h2 h3 hm hk
    obtain ⟨k, rfl⟩ : ∃ k', k = k' + 1 := ⟨k - 1, by omega⟩
    have e : rd_T41 l (i : Int) = l.getD i z41 := rfl
    simp only [markL, Option.some.injEq] at hm; subst hm
    rw [herbariumref13_Gaps.l1, if_pos (by omega), if_pos (by omega), e, h1, if_neg (by omega), wrap_in _ (by omega) (by omega)]
    rfl
  | succ d ih =>
    intro c t t' k h1 h2 h3 hm hk
    obtain ⟨k, rfl⟩ : ∃ k', k = k' + 1 := ⟨k - 1, by omega⟩
    have e : rd_T41 l (i : Int) = l.getD i z41 := rfl
    rw [markL] at hm
    split at hm
    · cases hm
    · have := ih (c + 1) (t.set (a + c) true) t' k (by rw [h1]; omega) (by rw [List.length_set]; omega) (by rw [List.length_set]; omega) hm (by omega)
      rw [herbariumref13_Gaps.l1, if_pos (by omega), if_pos (by omega), e, h1, if_pos (by omega), h0, wrap_in _ (by omega) (by omega), wrap_in _ (by omega) (by omega), if_pos (by omega), if_pos (by omega), show ((a : Int) + (c : Int)).toNat = a + c by omega, show k + 1 - (d + 1) - 1 = k - d - 1 by omega]
      exact this
theorem gap_l0 (l : List S41) (b : Int) (hl : l.length ≤ 13) : ∀ (d i : Nat) (t t' : List Bool) (k : Nat), i + d = l.length → (t.length : Int) = b → t.length ≤ 100 → takeL b (l.drop i) t = some t' → 200 * d + 1 ≤ k →
    ∃ k', k ≤ k' + 200 * d + 1 ∧ herbariumref13_Gaps.l0 k l b t (i : Int) = herbariumref13_Gaps.l2 k' b t' [] 0 := by
  intro d
  induction d with
  | zero =>
    intro i t t' k hi hb ht hm hk
    obtain ⟨k, rfl⟩ : ∃ k', k = k' + 1 := ⟨k - 1, by omega⟩
    rw [List.drop_eq_nil_of_le (by omega)] at hm
    simp only [takeL, Option.some.injEq] at hm; subst hm
    refine ⟨k, by omega, ?_⟩
    rw [herbariumref13_Gaps.l0, if_neg (by omega)]
  | succ d ih =>
    intro i t t' k hi hb ht hm hk
    obtain ⟨k, rfl⟩ : ∃ k', k = k' + 1 := ⟨k - 1, by omega⟩
    rw [getD_drop l i (by omega), takeL] at hm
    split at hm
    · rename_i hf
      have hff := fits_iff.1 hf
      obtain ⟨t1, h1, h2⟩ := Option.bind_eq_some_iff.1 hm
      have hl1 := markL_length _ _ _ _ h1
      obtain ⟨a, ha⟩ := Int.eq_ofNat_of_zero_le hff.2.1
      obtain ⟨n, hn⟩ := Int.eq_ofNat_of_zero_le (show 0 ≤ (l.getD i z41).f1 by omega)
      rw [ha, hn, Int.toNat_natCast, Int.toNat_natCast] at h1
      have g := gap_l1 l b i (by omega) hl a ha n 0 t t1 k (by rw [hn]; omega) (by omega) ht h1 (by omega)
      obtain ⟨k2, g1, g2⟩ := ih (i + 1) t1 t' (k - n - 1) (by omega) (by omega) (by omega) h2 (by omega)
      refine ⟨k2, by omega, ?_⟩
      rw [herbariumref13_Gaps.l0, if_pos (by omega)]
      exact g.trans g2
    · cases hm
theorem getD_last (xs : List S41) (y : S41) : (xs ++ [y]).getD xs.length z41 = y := by
  rw [List.getD_eq_getElem?_getD, List.getElem?_append_right (Nat.le_refl _), Nat.sub_self]; rfl
theorem set_last (xs : List S41) (y z : S41) : (xs ++ [y]).set xs.length z = xs ++ [z] := by
  rw [List.set_append_right _ _ (Nat.le_refl _), Nat.sub_self]; rfl
def Ends (xs : List S41) (i : Nat) : Prop := xs = [] ∨ ∃ ys y, xs = ys ++ [y] ∧ 0 ≤ y.f0 + y.f1 ∧ y.f0 + y.f1 < (i : Int)
theorem rd_last (xs : List S41) (y : S41) (h : xs.length ≤ 1000) : rd_T41 (xs ++ [y]) (wrap64 (((xs ++ [y]).length : Int) - 1)) = y := by
  rw [wrap_in _ (by first | (simp; done) | (simp; omega)) (by first | (simp; done) | (simp; omega))]
  have : ((xs ++ [y]).length : Int) - 1 = (xs.length : Int) := by simp
  rw [this]
  exact getD_last xs y
theorem gap_l2 (t : List Bool) (ht : t.length ≤ 100) : ∀ (d i p k : Nat) (xs : List S41), i + d = t.length → p ≤ i → xs.length ≤ p → (p < i ∨ Ends xs i) → d + 1 ≤ k →
    herbariumref13_Gaps.l2 k (t.length : Int) t (xs ++ (if p < i then [⟨(p : Int), ((i - p : Nat) : Int)⟩] else [])) (i : Int) = some (xs ++ runsL i p (t.drop i)) := by
  intro d
  induction d with
  | zero =>
    intro i p k xs hi hp hx he hk
    obtain ⟨k, rfl⟩ : ∃ k', k = k' + 1 := ⟨k - 1, by omega⟩
    rw [herbariumref13_Gaps.l2, if_neg (by omega), List.drop_eq_nil_of_le (by omega)]
    rfl
  | succ d ih =>
    intro i p k xs hi hp hx he hk
    obtain ⟨k, rfl⟩ : ∃ k', k = k' + 1 := ⟨k - 1, by omega⟩
    have e : rdOf false t (i : Int) = t.getD i false := rfl
    rw [herbariumref13_Gaps.l2, if_pos (by omega), if_pos (by omega), if_pos (by omega), drop_bool t i (by omega), e, wrap_in ((i : Int) + 1) (by omega) (by omega)]
    cases t.getD i false with
    | true =>
      rw [if_pos rfl, runsL, ← List.append_assoc]
      have := ih (i + 1) (i + 1) k (xs ++ (if p < i then [⟨(p : Int), ((i - p : Nat) : Int)⟩] else [])) (by omega) (by omega) (by split <;> simp <;> omega) (.inr ?_) (by omega)
      · rw [if_neg (show ¬ (i + 1 < i + 1) by omega), List.append_nil] at this
        exact this
      · by_cases h : p < i
        · rw [if_pos h]
          exact .inr ⟨xs, _, rfl, by first | (simp; done) | (simp; omega), by first | (simp; done) | (simp; omega)⟩
        · rw [if_neg h, List.append_nil]
          rcases he.resolve_left h with he | ⟨ys, y, h1, h2, h3⟩
          · exact .inl he
          · exact .inr ⟨ys, y, h1, h2, by omega⟩
    | false =>
      rw [if_neg (by decide), runsL]
      by_cases h : p < i
      · rw [if_pos h]
        have hlen : xs.length ≤ 1000 := by omega
        have e2 := rd_last xs ⟨(p : Int), ((i - p : Nat) : Int)⟩ hlen
        have e3 : wrap64 (((xs ++ [(⟨(p : Int), ((i - p : Nat) : Int)⟩ : S41)]).length : Int) - 1) = (xs.length : Int) := by
          rw [wrap_in _ (by first | (simp; done) | (simp; omega)) (by first | (simp; done) | (simp; omega))]; simp
        rw [e2, e3, if_pos (by first | (simp; done) | (simp; omega)), if_pos (by omega), if_pos (by simp; omega), Int.toNat_natCast, set_last]
        simp only
        rw [wrap_in _ (by omega) (by omega), if_pos (by omega), wrap_in _ (by omega) (by omega)]
        have := ih (i + 1) p k xs (by omega) (by omega) hx (.inl (by omega)) (by omega)
        rw [if_pos (by omega), show ((i + 1 - p : Nat) : Int) = ((i - p : Nat) : Int) + 1 by omega] at this
        exact this
      · rw [if_neg h, List.append_nil]
        obtain rfl : p = i := by omega
        have := ih (p + 1) p k xs (by omega) (by omega) hx (.inl (by omega)) (by omega)
        rw [if_pos (by omega), show ((p + 1 - p : Nat) : Int) = 1 by omega] at this
        have this' : herbariumref13_Gaps.l2 k (t.length : Int) t (xs ++ [(⟨(p : Int), 1⟩ : S41)]) ((p : Int) + 1) = _ := this
        rcases he.resolve_left h with rfl | ⟨ys, y, rfl, h2, h3⟩
        · rw [if_neg (by simp), if_pos (by simp)]
          exact this'
        · have hlen : ys.length ≤ 1000 := by simp at hx; omega
          have e2 := rd_last ys y hlen
          have e3 : wrap64 (((ys ++ [y]).length : Int) - 1) = (ys.length : Int) := by
            rw [wrap_in _ (by first | (simp; done) | (simp; omega)) (by first | (simp; done) | (simp; omega))]; simp
          rw [e2, e3, if_pos (by first | (simp; done) | (simp; omega)), if_pos (by omega), if_pos (by simp; omega), wrap_in _ (by omega) (by omega), if_neg (by omega), if_pos (by first | (simp; done) | (simp; omega))]
          exact this'
theorem gapRef_eq (l : List S41) (b : Int) (t : List Bool) (h : takenR l b = some t) (k : Nat) (hk : 2900 ≤ k) : herbariumref13_Gaps.f k l b = some (runsL 0 0 t) := by
  obtain ⟨h1, h2, h3, h4⟩ := takenR_length h
  unfold takenR at h
  rw [if_pos ⟨h2, h3, h4⟩] at h
  unfold herbariumref13_Gaps.f
  rw [if_pos (by omega), if_pos (by omega)]
  obtain ⟨k', g1, g2⟩ := gap_l0 l b h4 l.length 0 (List.replicate b.toNat false) t k (by omega) (by first | (simp; done) | (simp; omega)) (by first | (simp; done) | (simp; omega)) h (by omega)
  have g2' : herbariumref13_Gaps.l0 k l b (List.replicate b.toNat false) 0 = _ := g2
  rw [g2']
  have := gap_l2 t (by omega) t.length 0 0 k' [] (by omega) (by omega) (by simp) (.inr (.inl rfl)) (by omega)
  rw [if_neg (by omega), show (t.length : Int) = b by omega] at this
  exact this
theorem freeRef_eq (l : List S41) (b : Int) (t : List Bool) (h : takenR l b = some t) (k : Nat) (hk : 2900 ≤ k) : herbariumref13_Free.f k l b = some ((t.count false : Nat) : Int) := by
  unfold herbariumref13_Free.f
  rw [gapRef_eq l b t h k hk, Option.bind_some]
  obtain ⟨h1, h2, h3, h4⟩ := takenR_length h
  have hl := runs_len t 0 0
  have hh := holes_eq t
  have hc : t.count false ≤ t.length := List.count_le_length
  unfold holes at hh
  have hn := runs_pos t 0 0 (by omega)
  have main : ∀ (d i k : Nat) (s : Int), i + d = (runsL 0 0 t).length → d + 1 ≤ k → 0 ≤ s → s + sumL ((runsL 0 0 t).drop i) ≤ 1000 → herbariumref13_Free.l0 k s (runsL 0 0 t) (i : Int) = some (s + sumL ((runsL 0 0 t).drop i)) := by
    intro d
    induction d with
    | zero =>
      intro i k s hi hk h0 hs
      obtain ⟨k, rfl⟩ : ∃ k', k = k' + 1 := ⟨k - 1, by omega⟩
      rw [herbariumref13_Free.l0, if_neg (by omega), List.drop_eq_nil_of_le (by omega)]
      simp [sumL]
    | succ d ih =>
      intro i k s hi hk h0 hs
      obtain ⟨k, rfl⟩ : ∃ k', k = k' + 1 := ⟨k - 1, by omega⟩
      have e : rd_T41 (runsL 0 0 t) (i : Int) = (runsL 0 0 t).getD i z41 := rfl
      have hd := getD_drop (runsL 0 0 t) i (by omega)
      have hx : 0 ≤ ((runsL 0 0 t).getD i z41).f1 := hn _ (by rw [List.getD_eq_getElem?_getD, List.getElem?_eq_getElem (by omega)]; exact List.getElem_mem _)
      rw [hd, sumL] at hs ⊢
      have hr : 0 ≤ sumL ((runsL 0 0 t).drop (i + 1)) := sum_nonneg (fun x hx => hn x (List.mem_of_mem_drop hx))
      rw [herbariumref13_Free.l0, if_pos (by omega), if_pos (by omega), e, wrap_in _ (by omega) (by omega), wrap_in _ (by omega) (by omega)]
      have := ih (i + 1) k (s + ((runsL 0 0 t).getD i z41).f1) (by omega) (by omega) (by omega) (by omega)
      rw [Int.add_assoc] at this
      exact this
  have := main (runsL 0 0 t).length 0 k 0 (by omega) (by omega) (by omega) (by rw [List.drop_zero]; omega)
  rw [List.drop_zero, hh, Int.zero_add] at this
  exact this
theorem findRef_eq (l : List S41) (b m : Int) (t : List Bool) (h : takenR l b = some t) (k : Nat) (hk : 2900 ≤ k) : herbariumref13_Find.f k l b m = some (match findL m (runsL 0 0 t) with | some x => x.f0 | none => -1) := by
  unfold herbariumref13_Find.f
  rw [gapRef_eq l b t h k hk, Option.bind_some]
  obtain ⟨h1, h2, h3, h4⟩ := takenR_length h
  have hl := runs_len t 0 0
  have main : ∀ (d i k : Nat), i + d = (runsL 0 0 t).length → d + 1 ≤ k → herbariumref13_Find.l0 k m (runsL 0 0 t) (i : Int) = some (match findL m ((runsL 0 0 t).drop i) with | some x => x.f0 | none => -1) := by
    intro d
    induction d with
    | zero =>
      intro i k hi hk
      obtain ⟨k, rfl⟩ : ∃ k', k = k' + 1 := ⟨k - 1, by omega⟩
      rw [herbariumref13_Find.l0, if_neg (by omega), List.drop_eq_nil_of_le (by omega)]
      rfl
    | succ d ih =>
      intro i k hi hk
      obtain ⟨k, rfl⟩ : ∃ k', k = k' + 1 := ⟨k - 1, by omega⟩
      have e : rd_T41 (runsL 0 0 t) (i : Int) = (runsL 0 0 t).getD i z41 := rfl
      rw [herbariumref13_Find.l0, if_pos (by omega), if_pos (by omega), e, getD_drop _ i (by omega), findL, wrap_in _ (by omega) (by omega)]
      by_cases h : m ≤ ((runsL 0 0 t).getD i z41).f1
      · rw [if_pos h, if_pos h]
      · rw [if_neg h, if_neg h]
        exact ih (i + 1) k (by omega) (by omega)
  have := main (runsL 0 0 t).length 0 k (by omega) (by omega)
  rw [List.drop_zero] at this
  exact this
theorem eqRuns_self (l : List S41) (hl : l.length < 9223372036854775807) (k : Nat) (hk : l.length + 1 ≤ k) : herbariumref0_EqRuns.f k l l = some true := by
  unfold herbariumref0_EqRuns.f
  rw [if_pos rfl]
  have main : ∀ (d i k : Nat), i + d = l.length → d + 1 ≤ k → herbariumref0_EqRuns.l0 k l l (i : Int) = some true := by
    intro d
    induction d with
    | zero =>
      intro i k hi hk
      obtain ⟨k, rfl⟩ : ∃ k', k = k' + 1 := ⟨k - 1, by omega⟩
      rw [herbariumref0_EqRuns.l0, if_neg (by omega)]
    | succ d ih =>
      intro i k hi hk
      obtain ⟨k, rfl⟩ : ∃ k', k = k' + 1 := ⟨k - 1, by omega⟩
      rw [herbariumref0_EqRuns.l0, if_pos (by omega), if_pos (by omega), if_pos (by omega), if_neg (by simp), wrap_in _ (by omega) (by omega)]
      exact ih (i + 1) k (by omega) (by omega)
  exact main l.length 0 k (by omega) hk
end Go.Proofs.Ytnpghcikhpglkaa.Ps
