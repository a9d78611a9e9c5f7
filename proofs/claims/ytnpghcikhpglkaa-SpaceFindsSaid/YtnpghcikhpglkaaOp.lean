/- The laws' arguments, opened: a struct of slices, as the walks want it. -/
import Derived.Test.YtnpghcikhpglkaaQ0
import Derived.Deep.Slices
import Derived.Deep.Fields
import Derived.ChangeSame
import Derived.WalkKit
import Derived.ProofKit
import Derived.OpenShut
import Derived.ShutString
import Derived.ChangeOld
import Derived.SizedLaws
import Derived.ChangeSlices
import Derived.Carry
namespace Go.Proofs.Ytnpghcikhpglkaa.Op
open Go.ChangeShapes Go.WideShapes Go.ChangeAt Go.RowKit Go.Deep Go.Proofs.YtnpghcikhpglkaaW.PrintWords Go.Proofs.Ytnpghcikhpglkaa.Q
set_option linter.unusedVariables false

/-- What can be read at the type t is of the kind d; and, where it weighs no more than the reach, G holds of it. -/
def Opens {α : Type} (P : Program) (t : TypeId) (d : Kd α) (G : α → Prop) : Prop :=
  ∀ (H : Type) (enc : TypeId × Value → H) (w : World) (fuel : Nat) (cs : List Value) (x : DataW H × List MemPlace),
    DataW.trod enc P w 0 (fun _ => true) true fuel t cs = some x → ∃ y, d.K w y cs ∧ ((∀ n ∈ x.1.weights P t, n ≤ reachBytes) → G y)

theorem opens_int {P : Program} {t : TypeId} {k : IntKind} (ht : P.underlying t = some (.int k)) : Opens P t (Kd.int k) (fun n => (Lit.int k n).wf = true) := by
  intro H enc w fuel cs x h
  obtain ⟨n, rfl, _, hw⟩ := DataW.trod_int ht h
  exact ⟨n, rfl, fun _ => hw⟩

theorem opens_string {P : Program} {t : TypeId} (ht : P.underlying t = some .string) : Opens P t Kd.string (fun s => s.size ≤ reachBytes) := by
  intro H enc w fuel cs x h
  obtain ⟨s, rfl, rfl, _⟩ := DataW.trod_string ht h
  refine ⟨s, rfl, fun hw => ?_⟩
  have := hw s.data.toList.length (by simp [DataW.weights])
  simpa using this

theorem mem_weightsAll {H : Type} {P : Program} {e : TypeId} {d : DataW H} {n : Nat} (hn : n ∈ d.weights P e) : ∀ l : List (DataW H), d ∈ l → n ∈ DataW.weightsAll P e l
  | [], h => by cases h
  | x :: r, h => by
    rw [DataW.weightsAll]
    rcases List.mem_cons.1 h with rfl | h
    · exact List.mem_append_left _ hn
    · exact List.mem_append_right _ (mem_weightsAll hn r h)

theorem opens_slice {α : Type} {P : Program} {t e : TypeId} {d : Kd α} {G : α → Prop} {B : Nat} (ht : P.underlying t = some (.slice e)) (hc : P.cellsOf e = d.sz) (hB : P.bytesOf e = B) (he : Opens P e d G) :
    Opens P t (Kd.slice e d) (fun l => l.length * B ≤ reachBytes ∧ ∀ y ∈ l, G y) := by
  intro H enc w fuel cs x h
  rcases open_slice ht h with ⟨rfl, rfl⟩ | ⟨a, len, cap, m, n, D, Pl, rfl, _, hl, hm, hmm, rfl, hi⟩
  · refine ⟨[], ⟨none, 0, rfl, Nat.le_refl _, rfl, by simp, fun h => absurd h (by simp)⟩, fun _ => ⟨by simp, fun y hy => by cases hy⟩⟩
  · have hmc : m = cap := by simpa using hmm
    have hex : ∀ i, i < len → ∃ z : α × List Value, d.K w z.1 z.2 ∧ w.cells? 0 (a.add (i * P.cellsOf e)) (P.cellsOf e) = some z.2 ∧ ((∀ n ∈ (D i).weights P e, n ≤ reachBytes) → G z.1) := by
      intro i hil
      obtain ⟨cs', h1, h2⟩ := hi i (by omega)
      obtain ⟨y, hy, hg⟩ := he H enc w n cs' _ h2
      exact ⟨(y, cs'), hy, h1, hg⟩
    rcases Nat.eq_zero_or_pos len with h0 | h0
    · subst h0
      refine ⟨[], ⟨some a, cap, rfl, Nat.zero_le _, rfl, by simp, fun h => absurd h (by simp)⟩, fun _ => ⟨by simp, fun y hy => by cases hy⟩⟩
    · obtain ⟨z0, _⟩ := hex 0 h0
      haveI : Inhabited (α × List Value) := ⟨z0⟩
      obtain ⟨f, hf⟩ := choose_lt hex
      refine ⟨(List.range len).map fun i => (f i).1, ⟨some a, cap, by simp, by simpa using hl, by simp, by simp only [List.length_map, List.length_range, maxLen] at *; omega, fun _ => ⟨a, rfl, fun j p hj => ?_⟩⟩, fun hw => ⟨?_, fun y hy => ?_⟩⟩
      · have hjl : j < len := by
          have := (List.getElem?_eq_some_iff.1 hj).1
          simpa using this
        obtain ⟨hk, hcl, _⟩ := hf j hjl
        have hp : p = (f j).1 := by
          rw [List.getElem?_map, List.getElem?_range hjl] at hj
          simpa using hj.symm
        subst hp
        obtain ⟨_, hlen, hat⟩ := World.cells?_some hcl
        refine ⟨(f j).2, by rw [hlen, hc], hk, fun i u hu => ?_⟩
        have hil : i < P.cellsOf e := by have := (List.getElem?_eq_some_iff.1 hu).1; omega
        have := hat i hil
        rw [Go.Deep.add_add] at this
        rw [← hc, this, hu]
      · have := hw ((((List.range len).map D).length + ((List.range (m - len)).map fun j => D (len + j)).length) * P.bytesOf e) (by simp [DataW.weights, ht])
        simp only [List.length_map, List.length_range] at this ⊢
        rw [hB] at this
        exact Nat.le_trans (Nat.mul_le_mul_right _ (by omega)) this
      · obtain ⟨i, hil, rfl⟩ := List.mem_map.1 hy
        have hil' : i < len := List.mem_range.1 hil
        obtain ⟨_, _, hg⟩ := hf i hil'
        refine hg fun q hq => hw q ?_
        rw [DataW.weights, ht]
        refine List.mem_cons_of_mem _ (List.mem_append_left _ (mem_weightsAll hq _ (List.mem_map.2 ⟨i, hil, rfl⟩)))

theorem opens_iso {α β : Type} {P : Program} {t : TypeId} {d : Kd α} {G : α → Prop} (f : β → α) (g : α → β) (hfg : ∀ x, f (g x) = x) (h : Opens P t d G) : Opens P t (Kd.iso d f) (fun y => G (f y)) := by
  intro H enc w fuel cs x hx
  obtain ⟨y, hy, hg⟩ := h H enc w fuel cs x hx
  exact ⟨g y, by show d.K w (f (g y)) cs; rw [hfg]; exact hy, fun hw => by show G (f (g y)); rw [hfg]; exact hg hw⟩

theorem take_drop_len {β : Type} (l : List β) (i n : Nat) (h : i + n ≤ l.length) : ((l.drop i).take n).length = n := by simp; omega

theorem opens_two {α β : Type} {P : Program} {t : TypeId} {f0 f1 : Field} {d0 : Kd α} {d1 : Kd β} {G0 : α → Prop} {G1 : β → Prop} (ht : P.underlying t = some (.struct #[f0, f1]))
    (hc : P.cellsOf t = d0.sz + d1.sz) (o0 : f0.offset = 0) (o1 : f1.offset = d0.sz) (c0 : P.cellsOf f0.type = d0.sz) (c1 : P.cellsOf f1.type = d1.sz)
    (h0 : Opens P f0.type d0 G0) (h1 : Opens P f1.type d1 G1) : Opens P t (Kd.pair d0 d1) (fun y => G0 y.1 ∧ G1 y.2) := by
  intro H enc w fuel cs x h
  obtain ⟨xs, n, _, rfl, hlen, hxl, hf⟩ := DataW.trod_struct ht h
  match xs, hxl with
  | [x0, x1], _ =>
    have e0 := hf 0 f0 rfl
    have e1 := hf 1 f1 rfl
    rw [o0, c0] at e0
    rw [o1, c1] at e1
    obtain ⟨y0, k0, g0⟩ := h0 H enc w n _ _ e0
    obtain ⟨y1, k1, g1⟩ := h1 H enc w n _ _ e1
    refine ⟨(y0, y1), ⟨_, _, ?_, k0, k1⟩, fun hw => ⟨g0 fun q hq => hw q ?_, g1 fun q hq => hw q ?_⟩⟩
    · rw [List.drop_zero, List.take_of_length_le (l := cs.drop d0.sz) (by rw [List.length_drop]; omega), List.take_append_drop]
    · simp [DataW.weights, ht, DataW.weightsEach, hq]
    · simp [DataW.weights, ht, DataW.weightsEach, hq]

theorem opens_three {α β γ : Type} {P : Program} {t : TypeId} {f0 f1 f2 : Field} {d0 : Kd α} {d1 : Kd β} {d2 : Kd γ} {G0 : α → Prop} {G1 : β → Prop} {G2 : γ → Prop} (ht : P.underlying t = some (.struct #[f0, f1, f2]))
    (hc : P.cellsOf t = d0.sz + (d1.sz + d2.sz)) (o0 : f0.offset = 0) (o1 : f1.offset = d0.sz) (o2 : f2.offset = d0.sz + d1.sz) (c0 : P.cellsOf f0.type = d0.sz) (c1 : P.cellsOf f1.type = d1.sz) (c2 : P.cellsOf f2.type = d2.sz)
    (h0 : Opens P f0.type d0 G0) (h1 : Opens P f1.type d1 G1) (h2 : Opens P f2.type d2 G2) : Opens P t (Kd.pair d0 (Kd.pair d1 d2)) (fun y => G0 y.1 ∧ G1 y.2.1 ∧ G2 y.2.2) := by
  intro H enc w fuel cs x h
  obtain ⟨xs, n, _, rfl, hlen, hxl, hf⟩ := DataW.trod_struct ht h
  match xs, hxl with
  | [x0, x1, x2], _ =>
    have e0 := hf 0 f0 rfl
    have e1 := hf 1 f1 rfl
    have e2 := hf 2 f2 rfl
    rw [o0, c0] at e0
    rw [o1, c1] at e1
    rw [o2, c2] at e2
    obtain ⟨y0, k0, g0⟩ := h0 H enc w n _ _ e0
    obtain ⟨y1, k1, g1⟩ := h1 H enc w n _ _ e1
    obtain ⟨y2, k2, g2⟩ := h2 H enc w n _ _ e2
    refine ⟨(y0, y1, y2), ⟨_, _, ?_, k0, _, _, rfl, k1, k2⟩, fun hw => ⟨g0 fun q hq => hw q ?_, g1 fun q hq => hw q ?_, g2 fun q hq => hw q ?_⟩⟩
    · rw [List.drop_zero, List.take_of_length_le (l := cs.drop (d0.sz + d1.sz)) (by rw [List.length_drop]; omega), ← List.drop_drop, List.take_append_drop, List.take_append_drop]
    · simp [DataW.weights, ht, DataW.weightsEach, hq]
    · simp [DataW.weights, ht, DataW.weightsEach, hq]
    · simp [DataW.weights, ht, DataW.weightsEach, hq]

/-! ### the three arguments of the laws -/
theorem opens27 : Opens Try.prog 27 k27 (fun b => b.f0.size ≤ reachBytes ∧ (Lit.int .i64 b.f1).wf = true) :=
  opens_iso (fun x : S27 => (x.f0, x.f1)) (fun x => ⟨x.1, x.2⟩) (fun _ => rfl)
    (opens_two Try.underlying27 (by kernel_rfl) rfl rfl (by kernel_rfl) (by kernel_rfl) (opens_string Try.underlying9) (opens_int Try.underlying3))
theorem opens41 : Opens Try.prog 41 k41 (fun b => (Lit.int .i64 b.f0).wf = true ∧ (Lit.int .i64 b.f1).wf = true) :=
  opens_iso (fun x : S41 => (x.f0, x.f1)) (fun x => ⟨x.1, x.2⟩) (fun _ => rfl)
    (opens_two Try.underlying41 (by kernel_rfl) rfl rfl (by kernel_rfl) (by kernel_rfl) (opens_int Try.underlying3) (opens_int Try.underlying3))
theorem opens23 : Opens Try.prog 23 (Kd.slice 3 (Kd.int .i64)) (fun l => l.length * 8 ≤ reachBytes ∧ ∀ y ∈ l, (Lit.int .i64 y).wf = true) :=
  opens_slice Try.underlying23 (by kernel_rfl) (by kernel_rfl) (opens_int Try.underlying3)
theorem opens22 : Opens Try.prog 22 (Kd.slice 27 k27) (fun l => l.length * 24 ≤ reachBytes ∧ ∀ y ∈ l, y.f0.size ≤ reachBytes ∧ (Lit.int .i64 y.f1).wf = true) :=
  opens_slice Try.underlying22 (by kernel_rfl) (by kernel_rfl) opens27
theorem opens39 : Opens Try.prog 39 (Kd.slice 41 k41) (fun l => l.length * 16 ≤ reachBytes ∧ ∀ y ∈ l, (Lit.int .i64 y.f0).wf = true ∧ (Lit.int .i64 y.f1).wf = true) :=
  opens_slice Try.underlying39 (by kernel_rfl) (by kernel_rfl) opens41
theorem opens36 : Opens Try.prog 36 (Kd.slice 39 (Kd.slice 41 k41)) (fun l => l.length * 24 ≤ reachBytes ∧ ∀ z ∈ l, z.length * 16 ≤ reachBytes ∧ ∀ y ∈ z, (Lit.int .i64 y.f0).wf = true ∧ (Lit.int .i64 y.f1).wf = true) :=
  opens_slice Try.underlying36 (by kernel_rfl) (by kernel_rfl) opens39

/-- What is known of the numbers of an argument; of its bits; of its places; of its lists. -/
def GoodN (l : List Int) : Prop := l.length * 8 ≤ reachBytes ∧ ∀ y ∈ l, (Lit.int .i64 y).wf = true
def GoodB (l : List S27) : Prop := l.length * 24 ≤ reachBytes ∧ ∀ y ∈ l, y.f0.size ≤ reachBytes ∧ (Lit.int .i64 y.f1).wf = true
def GoodL (l : List (List S41)) : Prop := l.length * 24 ≤ reachBytes ∧ ∀ z ∈ l, z.length * 16 ≤ reachBytes ∧ ∀ y ∈ z, (Lit.int .i64 y.f0).wf = true ∧ (Lit.int .i64 y.f1).wf = true
def GoodI (l : List (List Int)) : Prop := l.length * 24 ≤ reachBytes ∧ ∀ z ∈ l, GoodN z

theorem opens25 : Opens Try.prog 25 (Kd.pair (Kd.slice 27 k27) (Kd.slice 3 (Kd.int .i64))) (fun y => GoodB y.1 ∧ GoodN y.2) :=
  opens_two Try.underlying25 (by kernel_rfl) rfl rfl (by kernel_rfl) (by kernel_rfl) opens22 opens23
theorem opens38 : Opens Try.prog 38 (Kd.pair (Kd.slice 39 (Kd.slice 41 k41)) (Kd.pair (Kd.slice 3 (Kd.int .i64)) (Kd.pair (Kd.slice 27 k27) (Kd.slice 3 (Kd.int .i64))))) (fun y => GoodL y.1 ∧ GoodN y.2.1 ∧ GoodB y.2.2.1 ∧ GoodN y.2.2.2) :=
  opens_three Try.underlying38 (by kernel_rfl) rfl rfl rfl (by kernel_rfl) (by kernel_rfl) (by kernel_rfl) opens36 opens23 opens25

set_option maxRecDepth 100000 in
/-- The argument of layers 1 and 2. -/
theorem ask1 {H : Type} {enc : TypeId × Value → H} {w : World} {v : Value} {d : DataW H} {p : List MemPlace} {base : Nat} (hv : Value.okWide Try.prog w .any base 25 v) (h : DataW.Trod enc Try.prog w 0 (fun _ => true) true 25 v d p)
    (hs : ∀ n ∈ d.weights Try.prog 25, n ≤ reachBytes) :
    ∃ (A0 : Option Addr) (c0 : Nat) (l0 : List S27) (A1 : Option Addr) (c1 : Nat) (l1 : List Int), v = .agg #[.slice A0 l0.length c0, .slice A1 l1.length c1] ∧
      Kd.C k27 w A0 l0.length l0 ∧ l0.length ≤ c0 ∧ Kd.C (Kd.int .i64) w A1 l1.length l1 ∧ l1.length ≤ c1 ∧ GoodB l0 ∧ GoodN l1 := by
  obtain ⟨cs, rfl, hsz⟩ := okWide_struct Try.underlying25 hv
  obtain ⟨fuel, hf⟩ := h
  obtain ⟨⟨l0, l1⟩, ⟨_, _, hc, ⟨A0, c0, rfl, hl0, hr0⟩, ⟨A1, c1, rfl, hl1, hr1⟩⟩, hg⟩ := opens25 H enc w fuel _ _ hf
  obtain ⟨g0, g1⟩ := hg hs
  refine ⟨A0, c0, l0, A1, c1, l1, ?_, hr0, hl0, hr1, hl1, g0, g1⟩
  have : cs.toList = [.slice A0 l0.length c0, .slice A1 l1.length c1] := by simpa [Value.cells] using hc
  rw [← this]
set_option maxRecDepth 100000 in
theorem ask13 {H : Type} {enc : TypeId × Value → H} {w : World} {v : Value} {d : DataW H} {p : List MemPlace} {base : Nat} (hv : Value.okWide Try.prog w .any base 38 v) (h : DataW.Trod enc Try.prog w 0 (fun _ => true) true 38 v d p)
    (hs : ∀ n ∈ d.weights Try.prog 38, n ≤ reachBytes) :
    ∃ (A0 : Option Addr) (c0 : Nat) (l0 : List (List S41)) (A1 : Option Addr) (c1 : Nat) (l1 : List Int) (A2 : Option Addr) (c2 : Nat) (l2 : List S27) (A3 : Option Addr) (c3 : Nat) (l3 : List Int),
      v = .agg #[.slice A0 l0.length c0, .slice A1 l1.length c1, .slice A2 l2.length c2, .slice A3 l3.length c3] ∧
      Kd.C (Kd.slice 41 k41) w A0 l0.length l0 ∧ l0.length ≤ c0 ∧ Kd.C (Kd.int .i64) w A1 l1.length l1 ∧ l1.length ≤ c1 ∧ Kd.C k27 w A2 l2.length l2 ∧ l2.length ≤ c2 ∧ Kd.C (Kd.int .i64) w A3 l3.length l3 ∧ l3.length ≤ c3 ∧
      GoodL l0 ∧ GoodN l1 ∧ GoodB l2 ∧ GoodN l3 := by
  obtain ⟨cs, rfl, hsz⟩ := okWide_struct Try.underlying38 hv
  obtain ⟨fuel, hf⟩ := h
  obtain ⟨⟨l0, l1, l2, l3⟩, ⟨_, _, hc, ⟨A0, c0, rfl, hl0, hr0⟩, _, _, rfl, ⟨A1, c1, rfl, hl1, hr1⟩, _, _, rfl, ⟨A2, c2, rfl, hl2, hr2⟩, ⟨A3, c3, rfl, hl3, hr3⟩⟩, hg⟩ := opens38 H enc w fuel _ _ hf
  obtain ⟨g0, g1, g2, g3⟩ := hg hs
  refine ⟨A0, c0, l0, A1, c1, l1, A2, c2, l2, A3, c3, l3, ?_, hr0, hl0, hr1, hl1, hr2, hl2, hr3, hl3, g0, g1, g2, g3⟩
  have : cs.toList = [.slice A0 l0.length c0, .slice A1 l1.length c1, .slice A2 l2.length c2, .slice A3 l3.length c3] := by simpa [Value.cells] using hc
  rw [← this]
end Go.Proofs.Ytnpghcikhpglkaa.Op
