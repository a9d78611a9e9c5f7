/- Places: what is taken and what is free, as plain laws on lists. -/
import Derived.Test.YtnpghcikhpglkaaQ5
import Derived.Test.YtnpghcikhpglkaaQ9
import Derived.Test.YtnpghcikhpglkaaWi
namespace Go.Proofs.Ytnpghcikhpglkaa.Ps
open Go.RowKit Go.Proofs.YtnpghcikhpglkaaW.PrintWords Go.Proofs.YtnpghcikhpglkaaW.PrintLast Go.Proofs.YtnpghcikhpglkaaW.PrintMore Go.Proofs.Ytnpghcikhpglkaa.Q
set_option linter.unusedVariables false
set_option linter.unusedSimpArgs false

def markL : Nat → Nat → List Bool → Option (List Bool)
  | 0, _, t => some t
  | n + 1, a, t => if t.getD a false = true then none else markL n (a + 1) (t.set a true)
def fits (b : Int) (x : S41) : Bool := decide (1 ≤ x.f1) && decide (0 ≤ x.f0) && decide (x.f0 < b) && decide (x.f1 ≤ b - x.f0)
def takeL (b : Int) : List S41 → List Bool → Option (List Bool)
  | [], t => some t
  | x :: r, t => if fits b x = true then (markL x.f1.toNat x.f0.toNat t).bind (takeL b r) else none
def takenR (l : List S41) (b : Int) : Option (List Bool) := if 1 ≤ b ∧ b ≤ 100 ∧ l.length ≤ 13 then takeL b l (List.replicate b.toNat false) else none
def told : Option (List Bool) → List Bool × Bool
  | some t => (t, true)
  | none => ([], false)

theorem markL_length : ∀ (n a : Nat) (t t' : List Bool), markL n a t = some t' → t'.length = t.length := by
  intro n
  induction n with
  | zero => intro a t t' h; simp only [markL, Option.some.injEq] at h; rw [h]
  | succ n ih =>
    intro a t t' h
    rw [markL] at h
    split at h
    · cases h
    · rw [ih _ _ _ h, List.length_set]
theorem takeL_length (b : Int) : ∀ (l : List S41) (t t' : List Bool), takeL b l t = some t' → t'.length = t.length := by
  intro l
  induction l with
  | nil => intro t t' h; simp only [takeL, Option.some.injEq] at h; rw [h]
  | cons x r ih =>
    intro t t' h
    rw [takeL] at h
    split at h
    · obtain ⟨t1, h1, h2⟩ := Option.bind_eq_some_iff.1 h
      rw [ih _ _ h2, markL_length _ _ _ _ h1]
    · cases h

theorem taken_l1 (b : Int) (l : List S41) (len i x0 x1 : Int) (k : Nat) : ∀ (n a : Nat) (t : List Bool), a + n ≤ t.length → t.length ≤ 100 → x0 + x1 = ((a + n : Nat) : Int) →
    space_taken.l1 (k + n + 1) b t (a : Int) l len i x0 x1 = (match markL n a t with | some t' => space_taken.l0 k b t' l len (wrap64 (i + 1)) | none => some ([], false)) := by
  intro n
  induction n with
  | zero =>
    intro a t h1 h2 h3
    rw [space_taken.l1, h3, wrap_in _ (by omega) (by omega), if_neg (by omega)]
    rfl
  | succ n ih =>
    intro a t h1 h2 h3
    rw [space_taken.l1, h3, wrap_in _ (by omega) (by omega), if_pos (by omega), if_pos (by omega), if_pos (by omega), markL]
    have e : rdOf false t (a : Int) = t.getD a false := rfl
    rw [e]
    by_cases ht : t.getD a false = true
    · rw [if_pos ht, if_pos ht]
    · rw [if_neg ht, if_neg ht, wrap_in _ (by omega) (by omega), Int.toNat_natCast]
      have := ih (a + 1) (t.set a true) (by rw [List.length_set]; omega) (by rw [List.length_set]; omega) (by rw [h3]; omega)
      rw [← this]
      rfl

theorem told_none : some (([] : List Bool), false) = some (told none) := rfl
theorem getD_drop (l : List S41) (i : Nat) (h : i < l.length) : l.drop i = l.getD i z41 :: l.drop (i + 1) := by
  rw [List.drop_eq_getElem_cons h, List.getD_eq_getElem?_getD, List.getElem?_eq_getElem h]
  rfl
theorem taken_bad (b : Int) (l : List S41) (t : List Bool) (len i x0 x1 : Int) (k : Nat) : space_taken.j2 (k + 1) b t l len i true x0 x1 = some ([], false) := by
  rw [space_taken.j2, if_pos rfl]
theorem taken_l0 (b : Int) (hb0 : 1 ≤ b) (hb : b ≤ 100) (l : List S41) (hl : l.length ≤ 13) : ∀ (d i : Nat) (t : List Bool) (k : Nat), i + d = l.length → t.length = b.toNat → 200 * d + 1 ≤ k →
    space_taken.l0 k b t l (l.length : Int) (i : Int) = some (told (takeL b (l.drop i) t)) := by
  intro d
  induction d with
  | zero =>
    intro i t k hi ht hk
    obtain ⟨k, rfl⟩ : ∃ k', k = k' + 1 := ⟨k - 1, by omega⟩
    rw [space_taken.l0, if_neg (by omega), List.drop_eq_nil_of_le (by omega)]
    rfl
  | succ d ih =>
    intro i t k hi ht hk
    obtain ⟨k, rfl⟩ : ∃ k', k = k' + 1 + 1 := ⟨k - 2, by omega⟩
    rw [space_taken.l0, if_pos (by omega), if_pos (by omega), if_pos (by omega), getD_drop l i (by omega), takeL]
    have e : rd_T41 l (i : Int) = l.getD i z41 := rfl
    rw [e]
    generalize l.getD i z41 = x
    unfold fits
    by_cases h1 : x.f1 < 1
    · rw [if_pos h1, taken_bad, decide_eq_false (by omega), told_none]; rfl
    · rw [if_neg h1, decide_eq_true (show 1 ≤ x.f1 by omega)]
      by_cases h2 : x.f0 < 0
      · rw [if_pos h2, taken_bad, decide_eq_false (show ¬ 0 ≤ x.f0 by omega), told_none]; rfl
      · rw [if_neg h2, decide_eq_true (show 0 ≤ x.f0 by omega)]
        by_cases h3 : x.f0 ≥ b
        · rw [if_pos h3, taken_bad, decide_eq_false (show ¬ x.f0 < b by omega), told_none]; rfl
        · rw [if_neg h3, decide_eq_true (show x.f0 < b by omega), wrap_in _ (by omega) (by omega)]
          by_cases h4 : x.f1 > b - x.f0
          · rw [decide_eq_true h4, taken_bad, decide_eq_false (show ¬ x.f1 ≤ b - x.f0 by omega), told_none]; rfl
          · rw [decide_eq_false h4, space_taken.j2, if_neg (by decide), decide_eq_true (show x.f1 ≤ b - x.f0 by omega)]
            simp only [Bool.and_self, if_true]
            obtain ⟨a, ha⟩ := Int.eq_ofNat_of_zero_le (show 0 ≤ x.f0 by omega)
            obtain ⟨n, hn⟩ := Int.eq_ofNat_of_zero_le (show 0 ≤ x.f1 by omega)
            rw [ha, hn, Int.toNat_natCast, Int.toNat_natCast]
            have h := taken_l1 b l (l.length : Int) (i : Int) (a : Int) (n : Int) (k - n - 1) n a t (by omega) (by omega) (by omega)
            rw [show k - n - 1 + n + 1 = k by omega] at h
            rw [h]
            cases hm : markL n a t with
            | none => rfl
            | some t' =>
              have hl' := markL_length _ _ _ _ hm
              rw [Option.bind_some]
              simp only
              rw [wrap_in _ (by omega) (by omega)]
              exact ih (i + 1) t' (k - n - 1) (by omega) (by omega) (by omega)
theorem taken_eq (l : List S41) (b : Int) (k : Nat) (hk : 2700 ≤ k) : space_taken.f k l b = some (told (takenR l b)) := by
  obtain ⟨k, rfl⟩ : ∃ k', k = k' + 1 := ⟨k - 1, by omega⟩
  unfold space_taken.f takenR space_within.f
  by_cases h1 : b ≥ 1
  · rw [if_pos h1, Option.bind_some]
    by_cases h2 : b ≤ 100
    · rw [decide_eq_true h2, if_pos rfl]
      by_cases h3 : l.length ≤ 13
      · rw [if_pos ⟨h1, h2, h3⟩, decide_eq_false (by omega), space_taken.j0, if_neg (by decide), if_pos (by omega), if_pos (by omega)]
        have := taken_l0 b h1 h2 l h3 l.length 0 (List.replicate b.toNat false) k (by omega) (by simp) (by omega)
        exact this
      · rw [if_neg (fun h => h3 h.2.2), decide_eq_true (by omega), space_taken.j0, if_pos rfl]; rfl
    · rw [decide_eq_false h2, if_neg (by decide), if_neg (fun h => h2 h.2.1), space_taken.j0, if_pos rfl]; rfl
  · rw [if_neg h1, Option.bind_some, if_neg (by decide), if_neg (fun h => h1 h.1), space_taken.j0, if_pos rfl]; rfl
theorem takenR_length {l : List S41} {b : Int} {t : List Bool} (h : takenR l b = some t) : t.length = b.toNat ∧ 1 ≤ b ∧ b ≤ 100 ∧ l.length ≤ 13 := by
  unfold takenR at h
  split at h
  · rename_i hc
    exact ⟨by rw [takeL_length _ _ _ _ h, List.length_replicate], hc⟩
  · cases h

/-! ### what is free -/
def runsL : Nat → Nat → List Bool → List S41
  | i, p, [] => if p < i then [⟨(p : Int), ((i - p : Nat) : Int)⟩] else []
  | i, p, true :: r => (if p < i then [⟨(p : Int), ((i - p : Nat) : Int)⟩] else []) ++ runsL (i + 1) (i + 1) r
  | i, p, false :: r => runsL (i + 1) p r
theorem drop_bool (t : List Bool) (i : Nat) (h : i < t.length) : t.drop i = t.getD i false :: t.drop (i + 1) := by
  rw [List.drop_eq_getElem_cons h, List.getD_eq_getElem?_getD, List.getElem?_eq_getElem h]
  rfl
theorem gaps_over (t : List Bool) (i : Nat) (xs : List S41) (k : Nat) (hi : t.length ≤ i) : space_gaps.l0 (k + 1) t xs (i : Int) = some xs := by
  rw [space_gaps.l0, if_neg (by omega)]
theorem gaps_both (t : List Bool) (ht : t.length ≤ 1000) : ∀ d,
    (∀ (i p : Nat) (xs : List S41) (k : Nat), i + d = t.length → p ≤ i → xs.length ≤ i → 2 * d + 2 ≤ k → space_gaps.l1 k t xs (i : Int) (p : Int) = some (xs ++ runsL i p (t.drop i))) ∧
    (∀ (i : Nat) (xs : List S41) (k : Nat), i + d = t.length → xs.length ≤ i → 2 * d + 3 ≤ k → space_gaps.l0 k t xs (i : Int) = some (xs ++ runsL i i (t.drop i))) := by
  intro d
  induction d with
  | zero =>
    refine ⟨?_, ?_⟩
    · intro i p xs k hi hp hx hk
      obtain ⟨k, rfl⟩ : ∃ k', k = k' + 1 + 1 := ⟨k - 2, by omega⟩
      rw [space_gaps.l1, if_neg (by omega), List.drop_eq_nil_of_le (by omega), wrap_in _ (by omega) (by omega), wrap_in _ (by omega) (by omega), runsL]
      by_cases h : p < i
      · rw [if_pos (by omega), if_pos (by omega), if_pos h]
        have := gaps_over t (i + 1) (xs ++ [⟨(p : Int), (i : Int) - (p : Int)⟩]) k (by omega)
        rw [show ((i - p : Nat) : Int) = (i : Int) - (p : Int) by omega]
        exact this
      · rw [if_neg (by omega), if_neg h, List.append_nil]
        exact gaps_over t (i + 1) xs k (by omega)
    · intro i xs k hi hx hk
      obtain ⟨k, rfl⟩ : ∃ k', k = k' + 1 := ⟨k - 1, by omega⟩
      rw [gaps_over t i xs k (by omega), List.drop_eq_nil_of_le (by omega), runsL, if_neg (by omega), List.append_nil]
  | succ d ih =>
    obtain ⟨ih1, ih0⟩ := ih
    have now : ∀ (i p : Nat) (xs : List S41) (k : Nat), i + (d + 1) = t.length → p ≤ i → xs.length ≤ i → 2 * (d + 1) + 2 ≤ k → space_gaps.l1 k t xs (i : Int) (p : Int) = some (xs ++ runsL i p (t.drop i)) := by
      intro i p xs k hi hp hx hk
      obtain ⟨k, rfl⟩ : ∃ k', k = k' + 1 := ⟨k - 1, by omega⟩
      rw [space_gaps.l1, if_pos (by omega), if_pos (by omega), drop_bool t i (by omega)]
      have e : rdOf false t (i : Int) = t.getD i false := rfl
      rw [e, wrap_in _ (by omega) (by omega), wrap_in _ (by omega) (by omega)]
      cases t.getD i false with
      | false =>
        rw [if_neg (by decide), runsL]
        exact ih1 (i + 1) p xs k (by omega) (by omega) (by omega) (by omega)
      | true =>
        rw [if_pos rfl, runsL]
        by_cases h : p < i
        · rw [if_pos (by omega), if_pos (by omega), if_pos h]
          have := ih0 (i + 1) (xs ++ [⟨(p : Int), (i : Int) - (p : Int)⟩]) k (by omega) (by simp; omega) (by omega)
          rw [show ((i - p : Nat) : Int) = (i : Int) - (p : Int) by omega, ← List.append_assoc]
          exact this
        · rw [if_neg (by omega), if_neg h]
          exact ih0 (i + 1) xs k (by omega) (by omega) (by omega)
    refine ⟨now, ?_⟩
    intro i xs k hi hx hk
    obtain ⟨k, rfl⟩ : ∃ k', k = k' + 1 := ⟨k - 1, by omega⟩
    rw [space_gaps.l0, if_pos (by omega)]
    exact now i i xs k hi (by omega) hx (by omega)
theorem gaps_eq (t : List Bool) (ht : t.length ≤ 100) (k : Nat) (hk : 300 ≤ k) : space_gaps.f k t = some (runsL 0 0 t) := by
  have := (gaps_both t (by omega) t.length).2 0 [] k (by omega) (by simp) (by omega)
  exact this

/-- The first so long. -/
def findL (m : Int) : List S41 → Option S41
  | [] => none
  | x :: r => if m ≤ x.f1 then some x else findL m r
def sumL : List S41 → Int
  | [] => 0
  | x :: r => x.f1 + sumL r
def found : Option S41 → Int × Int
  | some x => (x.f0, 0)
  | none => (0, 5)
theorem find_l0 (m : Int) (l : List S41) (hl : l.length ≤ 1000) : ∀ (d i k : Nat), i + d = l.length → d + 1 ≤ k → space_Find.l0 k m l (l.length : Int) (i : Int) = some (found (findL m (l.drop i))) := by
  intro d
  induction d with
  | zero =>
    intro i k hi hk
    obtain ⟨k, rfl⟩ : ∃ k', k = k' + 1 := ⟨k - 1, by omega⟩
    rw [space_Find.l0, if_neg (by omega), List.drop_eq_nil_of_le (by omega)]
    rfl
  | succ d ih =>
    intro i k hi hk
    obtain ⟨k, rfl⟩ : ∃ k', k = k' + 1 := ⟨k - 1, by omega⟩
    have e : rd_T41 l (i : Int) = l.getD i z41 := rfl
    rw [space_Find.l0, if_pos (by omega), if_pos (by omega), if_pos (by omega), getD_drop l i (by omega), findL, e, wrap_in _ (by omega) (by omega)]
    by_cases h : m ≤ (l.getD i z41).f1
    · rw [if_pos h, if_pos h]; rfl
    · rw [if_neg h, if_neg h]
      exact ih (i + 1) k (by omega) (by omega)
theorem sum_nonneg {l : List S41} (h : ∀ x ∈ l, 0 ≤ x.f1) : 0 ≤ sumL l := by
  induction l with
  | nil => exact Int.le_refl _
  | cons x r ih =>
    have h1 := h x (by simp)
    have h2 := ih (fun y hy => h y (by simp [hy]))
    rw [sumL]; omega
theorem free_l0 (l : List S41) (hl : l.length ≤ 1000) (hn : ∀ x ∈ l, 0 ≤ x.f1) : ∀ (d i k : Nat) (s : Int), i + d = l.length → d + 1 ≤ k → 0 ≤ s → s + sumL (l.drop i) ≤ 1000 → space_Free.l0 k s l (l.length : Int) (i : Int) = some (s + sumL (l.drop i), 0) := by
  intro d
  induction d with
  | zero =>
    intro i k s hi hk h0 hs
    obtain ⟨k, rfl⟩ : ∃ k', k = k' + 1 := ⟨k - 1, by omega⟩
    rw [space_Free.l0, if_neg (by omega), List.drop_eq_nil_of_le (by omega)]
    simp [sumL]
  | succ d ih =>
    intro i k s hi hk h0 hs
    obtain ⟨k, rfl⟩ : ∃ k', k = k' + 1 := ⟨k - 1, by omega⟩
    have e : rd_T41 l (i : Int) = l.getD i z41 := rfl
    have hd := getD_drop l i (by omega)
    have hx : 0 ≤ (l.getD i z41).f1 := hn _ (by rw [List.getD_eq_getElem?_getD, List.getElem?_eq_getElem (by omega)]; exact List.getElem_mem _)
    rw [hd, sumL] at hs ⊢
    have hr : 0 ≤ sumL (l.drop (i + 1)) := sum_nonneg (fun x hx => hn x (List.mem_of_mem_drop hx))
    rw [space_Free.l0, if_pos (by omega), if_pos (by omega), if_pos (by omega), e, wrap_in _ (by omega) (by omega), wrap_in _ (by omega) (by omega)]
    have := ih (i + 1) k (s + (l.getD i z41).f1) (by omega) (by omega) (by omega) (by omega)
    rw [Int.add_assoc] at this
    exact this
def holes (t : List Bool) : Int := sumL (runsL 0 0 t)
theorem runs_pos : ∀ (r : List Bool) (i p : Nat), p ≤ i → ∀ x ∈ runsL i p r, 0 ≤ x.f1 := by
  intro r
  induction r with
  | nil =>
    intro i p hp x hx
    rw [runsL] at hx
    split at hx
    · simp at hx; rw [hx]; simp
    · cases hx
  | cons b r ih =>
    intro i p hp x hx
    cases b with
    | false => exact ih (i + 1) p (by omega) x hx
    | true =>
      rw [runsL] at hx
      rcases List.mem_append.1 hx with hx | hx
      · split at hx
        · simp at hx; rw [hx]; simp
        · cases hx
      · exact ih (i + 1) (i + 1) (by omega) x hx
theorem sumL_append (a b : List S41) : sumL (a ++ b) = sumL a + sumL b := by
  induction a with
  | nil => simp [sumL]
  | cons x r ih => simp only [List.cons_append, sumL, ih]; omega
theorem runs_sum : ∀ (r : List Bool) (i p : Nat), p ≤ i → sumL (runsL i p r) = ((i - p : Nat) : Int) + ((r.count false : Nat) : Int) := by
  intro r
  induction r with
  | nil =>
    intro i p hp
    rw [runsL]
    split
    · simp [sumL]
    · simp [sumL]; omega
  | cons b r ih =>
    intro i p hp
    cases b with
    | false =>
      rw [runsL, ih (i + 1) p (by omega), List.count_cons]
      simp; omega
    | true =>
      rw [runsL, sumL_append, ih (i + 1) (i + 1) (by omega), List.count_cons]
      split
      · simp [sumL]
      · simp [sumL]; omega
theorem holes_eq (t : List Bool) : holes t = ((t.count false : Nat) : Int) := by
  rw [holes, runs_sum t 0 0 (by omega)]; simp
theorem runs_len : ∀ (r : List Bool) (i p : Nat), (runsL i p r).length ≤ r.length + 1 := by
  intro r
  induction r with
  | nil => intro i p; rw [runsL]; split <;> simp
  | cons b r ih =>
    intro i p
    cases b with
    | false => rw [runsL]; have := ih (i + 1) p; simp; omega
    | true =>
      rw [runsL]; have := ih (i + 1) (i + 1)
      split <;> simp <;> omega

def findR (l : List S41) (b m : Int) : Int × Int :=
  match takenR l b with
  | none => (0, 1)
  | some t => if 1 ≤ m ∧ m ≤ 100 then found (findL m (runsL 0 0 t)) else (0, 1)
theorem find_eq (l : List S41) (b m : Int) (k : Nat) (hk : 2700 ≤ k) : space_Find.f k l b m = some (findR l b m) := by
  obtain ⟨k, rfl⟩ : ∃ k', k = k' + 1 := ⟨k - 1, by omega⟩
  unfold space_Find.f findR
  rw [taken_eq l b (k + 1) hk, Option.bind_some]
  cases h : takenR l b with
  | none => rw [show (told none).2 = false from rfl, if_neg (by decide), space_Find.j0, if_pos rfl]
  | some t =>
    obtain ⟨h1, h2, h3, h4⟩ := takenR_length h
    rw [show (told (some t)).2 = true from rfl, show (told (some t)).1 = t from rfl, if_pos rfl]
    simp only
    unfold space_within.f
    by_cases m1 : m ≥ 1
    · rw [if_pos m1, Option.bind_some]
      by_cases m2 : m ≤ 100
      · rw [decide_eq_true m2, space_Find.j0, if_neg (by decide), if_pos ⟨m1, m2⟩, gaps_eq t (by omega) k (by omega), Option.bind_some]
        have hl := runs_len t 0 0
        exact find_l0 m (runsL 0 0 t) (by omega) (runsL 0 0 t).length 0 k (by omega) (by omega)
      · rw [decide_eq_false m2, space_Find.j0, if_pos (show (!false) = true from rfl), if_neg (fun h => m2 h.2)]
    · rw [if_neg m1, Option.bind_some, space_Find.j0, if_pos (show (!false) = true from rfl), if_neg (fun h => m1 h.1)]
def freeR (l : List S41) (b : Int) : Int × Int :=
  match takenR l b with
  | none => (0, 1)
  | some t => (((t.count false : Nat) : Int), 0)
theorem free_eq (l : List S41) (b : Int) (k : Nat) (hk : 2700 ≤ k) : space_Free.f k l b = some (freeR l b) := by
  unfold space_Free.f freeR
  rw [taken_eq l b k hk, Option.bind_some]
  cases h : takenR l b with
  | none => rw [show (told none).2 = false from rfl, if_neg (by decide)]
  | some t =>
    obtain ⟨h1, h2, h3, h4⟩ := takenR_length h
    rw [show (told (some t)).2 = true from rfl, show (told (some t)).1 = t from rfl, if_pos rfl, gaps_eq t (by omega) k (by omega), Option.bind_some]
    have hl := runs_len t 0 0
    have hh := holes_eq t
    have hc : t.count false ≤ t.length := List.count_le_length
    have := free_l0 (runsL 0 0 t) (by omega) (runs_pos t 0 0 (by omega)) (runsL 0 0 t).length 0 k 0 (by omega) (by omega) (by omega) (by rw [List.drop_zero]; unfold holes at hh; omega)
    rw [List.drop_zero] at this
    unfold holes at hh
    rw [hh, Int.zero_add] at this
    exact this
def gapsR (l : List S41) (b : Int) : List S41 × Int :=
  match takenR l b with
  | none => ([], 1)
  | some t => (runsL 0 0 t, 0)
theorem gapsR_eq (l : List S41) (b : Int) (k : Nat) (hk : 2700 ≤ k) : space_Gaps.f k l b = some (gapsR l b) := by
  unfold space_Gaps.f gapsR
  rw [taken_eq l b k hk, Option.bind_some]
  cases h : takenR l b with
  | none => rw [show (told none).2 = false from rfl, if_neg (by decide)]
  | some t =>
    obtain ⟨h1, h2, h3, h4⟩ := takenR_length h
    rw [show (told (some t)).2 = true from rfl, show (told (some t)).1 = t from rfl, if_pos rfl, gaps_eq t (by omega) k (by omega), Option.bind_some]
def checkR (l : List S41) (b : Int) : Int := match takenR l b with | none => 1 | some _ => 0
theorem check_eq (l : List S41) (b : Int) (k : Nat) (hk : 2700 ≤ k) : space_Check.f k l b = some (checkR l b) := by
  unfold space_Check.f space_May.f checkR
  rw [taken_eq l b k hk]
  cases h : takenR l b <;> rfl
theorem copy_l0 (l : List S41) (hl : l.length ≤ 8796093022208) : ∀ (d i k : Nat) (xs : List S41), i + d = l.length → d + 1 ≤ k → xs.length ≤ i → herbariumref0_CopyRuns.l0 k l xs (i : Int) = some (xs ++ l.drop i) := by
  intro d
  induction d with
  | zero =>
    intro i k xs hi hk hx
    obtain ⟨k, rfl⟩ : ∃ k', k = k' + 1 := ⟨k - 1, by omega⟩
    rw [herbariumref0_CopyRuns.l0, if_neg (by omega), List.drop_eq_nil_of_le (by omega), List.append_nil]
  | succ d ih =>
    intro i k xs hi hk hx
    obtain ⟨k, rfl⟩ : ∃ k', k = k' + 1 := ⟨k - 1, by omega⟩
    rw [herbariumref0_CopyRuns.l0, if_pos (by omega), if_pos (by omega), if_pos (by omega), getD_drop l i (by omega), wrap_in _ (by omega) (by omega)]
    have e : rd_T41 l (i : Int) = l.getD i z41 := rfl
    rw [e]
    have := ih (i + 1) k (xs ++ [l.getD i z41]) (by omega) (by omega) (by simp; omega)
    rw [List.append_assoc] at this
    exact this
theorem copy_eq (l : List S41) (hl : l.length ≤ 8796093022208) (k : Nat) (hk : l.length + 1 ≤ k) : herbariumref0_CopyRuns.f k l = some l := by
  have := copy_l0 l hl l.length 0 k [] (by omega) hk (by simp)
  exact this

/-! ### windows -/
def Win (t : List Bool) (a m : Nat) : Prop := ∀ j, j < m → t[a + j]? = some false
theorem find_first (m : Nat) (hm : 1 ≤ m) (t : List Bool) : ∀ (r : List Bool) (i p : Nat), r = t.drop i → i + r.length = t.length → p ≤ i → (∀ j, p ≤ j → j < i → t[j]? = some false) → ∀ x, findL (m : Int) (runsL i p r) = some x →
    ∃ a : Nat, x.f0 = (a : Int) ∧ p ≤ a ∧ Win t a m ∧ ∀ c, p ≤ c → c < a → ¬ Win t c m := by
  intro r
  induction r with
  | nil =>
    intro i p hr hl hp hj x hx
    rw [runsL] at hx
    split at hx
    · rw [findL] at hx
      split at hx
      · rename_i h1 h2
        cases hx
        simp only at h2
        exact ⟨p, rfl, Nat.le_refl _, fun j hj' => hj (p + j) (by omega) (by omega), fun c h1 h2 => by omega⟩
      · cases hx
    · cases hx
  | cons b r ih =>
    intro i p hr hl hp hj x hx
    have hi : i < t.length := by simp at hl; omega
    have hd : t.drop i = t[i] :: t.drop (i + 1) := List.drop_eq_getElem_cons hi
    rw [hd] at hr
    obtain ⟨hb, hr'⟩ := List.cons.inj hr
    have hti : t[i]? = some b := by rw [List.getElem?_eq_getElem hi, hb]
    simp only [List.length_cons] at hl
    cases b with
    | false =>
      rw [runsL] at hx
      refine ih (i + 1) p hr' (by omega) (by omega) ?_ x hx
      intro j h1 h2
      by_cases h : j = i
      · rw [h, hti]
      · exact hj j h1 (by omega)
    | true =>
      rw [runsL] at hx
      have skip : ¬ (m ≤ i - p) → findL (m : Int) (runsL (i + 1) (i + 1) r) = some x → ∃ a : Nat, x.f0 = (a : Int) ∧ p ≤ a ∧ Win t a m ∧ ∀ c, p ≤ c → c < a → ¬ Win t c m := by
        intro hn hx
        obtain ⟨a, h1, h2, h3, h4⟩ := ih (i + 1) (i + 1) hr' (by omega) (by omega) (fun j h1 h2 => by omega) x hx
        refine ⟨a, h1, by omega, h3, fun c hc1 hc2 hw => ?_⟩
        by_cases hci : i + 1 ≤ c
        · exact h4 c hci hc2 hw
        · have := hw (i - c) (by omega)
          rw [show c + (i - c) = i by omega, hti] at this
          cases this
      by_cases hpi : p < i
      · rw [if_pos hpi, List.singleton_append, findL] at hx
        split at hx
        · rename_i h2
          cases hx
          simp only at h2
          exact ⟨p, rfl, Nat.le_refl _, fun j hj' => hj (p + j) (by omega) (by omega), fun c h1 h2 => by omega⟩
        · rename_i h2
          simp only at h2
          exact skip (by omega) hx
      · rw [if_neg hpi, List.nil_append] at hx
        exact skip (by omega) hx
theorem mark_some : ∀ (n a : Nat) (t t' : List Bool), a + n ≤ t.length → markL n a t = some t' → Win t a n ∧ t'.count false + n = t.count false := by
  intro n
  induction n with
  | zero => intro a t t' h hm; simp only [markL, Option.some.injEq] at hm; subst hm; exact ⟨fun j hj => by omega, rfl⟩
  | succ n ih =>
    intro a t t' h hm
    rw [markL] at hm
    split at hm
    · cases hm
    · rename_i hf
      have hlt : a < t.length := by omega
      have hta : t[a]? = some false := by
        rw [List.getElem?_eq_getElem hlt]
        rw [List.getD_eq_getElem?_getD, List.getElem?_eq_getElem hlt] at hf
        simpa using hf
      obtain ⟨h1, h2⟩ := ih (a + 1) (t.set a true) t' (by rw [List.length_set]; omega) hm
      refine ⟨?_, ?_⟩
      · intro j hj
        by_cases hj0 : j = 0
        · rw [hj0]; exact hta
        · have := h1 (j - 1) (by omega)
          rw [List.getElem?_set_ne (by omega), show a + 1 + (j - 1) = a + j by omega] at this
          exact this
      · have hta' : t[a] = false := by rw [List.getElem?_eq_getElem hlt] at hta; simpa using hta
        have hc : 0 < t.count false := List.count_pos_iff.2 (by rw [← hta']; exact List.getElem_mem _)
        rw [List.count_set hlt, hta'] at h2
        simp at h2
        omega
theorem mark_win : ∀ (n a : Nat) (t : List Bool), Win t a n → ∃ t', markL n a t = some t' := by
  intro n
  induction n with
  | zero => intro a t _; exact ⟨t, rfl⟩
  | succ n ih =>
    intro a t h
    have h0 := h 0 (by omega)
    rw [Nat.add_zero] at h0
    rw [markL, List.getD_eq_getElem?_getD, h0, if_neg (by decide)]
    refine ih (a + 1) _ (fun j hj => ?_)
    rw [List.getElem?_set_ne (by omega)]
    have := h (j + 1) (by omega)
    rwa [show a + (j + 1) = a + 1 + j by omega] at this
theorem takeL_append (b : Int) (x : S41) : ∀ (l : List S41) (t : List Bool), takeL b (l ++ [x]) t = (takeL b l t).bind (takeL b [x]) := by
  intro l
  induction l with
  | nil => intro t; rfl
  | cons y r ih =>
    intro t
    rw [List.cons_append, takeL, takeL]
    split
    · cases markL y.f1.toNat y.f0.toNat t with
      | none => rfl
      | some t1 => simp only [Option.bind_some]; exact ih t1
    · rfl
end Go.Proofs.Ytnpghcikhpglkaa.Ps
