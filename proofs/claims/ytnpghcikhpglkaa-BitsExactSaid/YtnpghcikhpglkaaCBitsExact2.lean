/- What the row of BitsExact rests on, part 3 of 7: functions, contracts, plain laws. -/
import Derived.Test.YtnpghcikhpglkaaCBitsExact1
import Derived.Below
import Derived.Deep.Draws
import Derived.Deep.AppendLies
import Derived.Maps.AppendAt
import Derived.OwnWalk
import Derived.Laws.BytesArg
import Derived.Laws.MakeOwn
import Derived.Laws.OwnMore
import Derived.Deep.OwnRows
import Derived.Tactics
import Derived.Lib.ConvBytes
import Derived.Laws.Slices
import Derived.WalkKit
import Derived.KernelRfl
import Derived.RowKit3
import Derived.Deep.LoopGhost
import Derived.Deep.QuietTactic
import Derived.BigQuiet
import Derived.WideLaws
import Derived.Deep.DeepCutAuto
import Derived.Deep.CutBlock
import Derived.Deep.RegionHeld3
import Derived.Laws.Rows
import Derived.Lib.AppendStr
import Derived.ArgAppend
import Derived.Laws.IdiomCopy
import Derived.OrdersHeld
import Derived.Laws.BitsLemmas
import Derived.RowKit
import Derived.Deep.Slices
import Derived.Deep.Fields
import Derived.ChangeSame
import Derived.ProofKit
import Derived.OpenShut
import Derived.ShutString
import Derived.ChangeOld
import Derived.SizedLaws
import Derived.ChangeSlices
import Derived.Carry
import Derived.Lib.Hide
import Derived.BigRegion
import Derived.Outline
namespace Go.Proofs.Ytnpghcikhpglkaa.Q
open Go.RowKit Go.Proofs.YtnpghcikhpglkaaW.PrintWords Go.Proofs.YtnpghcikhpglkaaW.PrintLast Go.Proofs.YtnpghcikhpglkaaW.PrintMore
attribute [local go_sem] max2_int min2_int max_two min_two max_three min_three max_four min_four   -- for this text's walks alone
set_option linter.unusedVariables false
set_option linter.unusedSimpArgs false
def errW : Option Int → Value
  | none => .nilIface
  | some c => .iface 0 (.int .i64 c)
theorem errW_none : errW none = .nilIface := rfl
theorem errW_some (c : Int) : errW (some c) = .iface 0 (.int .i64 c) := rfl
theorem info3 : (Try.prog.info? 3).map (fun i => (i.zero, i.size, i.bytes)) = some (some (.int .i64 0), 1, 8) := by kernel_rfl
theorem info5 : (Try.prog.info? 5).map (fun i => (i.zero, i.size, i.bytes)) = some (some (.int .u8 0), 1, 1) := by kernel_rfl
/-! #### struct type 41 -/
/-! #### struct type 27 -/
structure S27 where
  f0 : ByteArray
  f1 : Int
def z27 : S27 := ⟨(⟨#[]⟩ : ByteArray), (0 : Int)⟩
def k27 : Kd S27 := Kd.iso (Kd.pair Kd.string (Kd.int .i64)) (fun x : S27 => (x.f0, x.f1))
theorem k27_open {w : World} {x : S27} {cs : List Value} (h : k27.K w x cs) : cs = [.string x.f0, .int .i64 x.f1] := by
  obtain ⟨_, _, rfl, rfl, rfl⟩ := h
  exact rfl
def rd_T27 (xs : List S27) (i : Int) : S27 := xs.getD i.toNat z27
theorem at_T27 {w : World} {A : Option Addr} {n : Nat} {xs : List S27} (h : Kd.C k27 w A n xs) (i : Int) (h0 : 0 ≤ i) (h1 : i < n) : ∃ ad , A = some ad ∧ w.cell? (ad.add (i.toNat * 2)) = some (.string (rd_T27 xs i).f0) ∧ w.cell? ⟨(ad.add (i.toNat * 2)).block, (ad.add (i.toNat * 2)).off + 1, none⟩ = some (.int .i64 (rd_T27 xs i).f1) := by
  obtain ⟨ad, c, e, _, hK, hc0⟩ := Kd.C_get h z27 i h0 h1
  have hc : ∀ j u, c[j]? = some u → w.cell? (ad.add (i.toNat * 2 + j)) = some u := hc0
  obtain rfl := k27_open hK
  exact ⟨ad, e, hc 0 _ rfl, by rw [← add_field _ _ 1 (by omega)]; exact hc 1 _ rfl⟩
end Go.Proofs.Ytnpghcikhpglkaa.Q
namespace Go.Proofs.Ytnpghcikhpglkaa.Op
open Go.ChangeShapes Go.WideShapes Go.ChangeAt Go.RowKit Go.Deep Go.Proofs.YtnpghcikhpglkaaW.PrintWords Go.Proofs.Ytnpghcikhpglkaa.Q
set_option linter.unusedVariables false
/-- What can be read at the type t is of the kind d; and, where it weighs no more than the reach, G holds of it. -/
def Opens {α : Type} (P : Program) (t : TypeId) (d : Kd α) (G : α → Prop) : Prop :=
  ∀ (H : Type) (enc : TypeId × Value → H) (w : World) (fuel : Nat) (cs : List Value) (x : DataW H × List MemPlace),
    DataW.trod enc P w 0 (fun _ => true) true fuel t cs = some x → ∃ y, d.K w y cs ∧ ((∀ n ∈ x.1.weights P t, n ≤ reachBytes) → G y)
theorem opens_int {P : Program} {t : TypeId} {k : IntKind} (ht : P.underlying t = some (.int k)) : Opens P t (Kd.int k) (fun n => (Lit.int k n).wf = true) := by
  intro H enc w fuel cs x h
  obtain ⟨n, rfl, _, hw⟩ := DataW.trod_int ht h
  exact ⟨n, rfl, fun _ => hw⟩
theorem opens_string {P : Program} {t : TypeId} (ht : P.underlying t = some .string) : Opens P t Kd.string (fun s => s.size ≤ reachBytes) := by
  intro H enc w fuel cs x h
  obtain ⟨s, rfl, rfl, _⟩ := DataW.trod_string ht h
  refine ⟨s, rfl, fun hw => ?_⟩
  have := hw s.data.toList.length (by simp [DataW.weights])
  simpa using this
theorem mem_weightsAll {H : Type} {P : Program} {e : TypeId} {d : DataW H} {n : Nat} (hn : n ∈ d.weights P e) : ∀ l : List (DataW H), d ∈ l → n ∈ DataW.weightsAll P e l
  | [], h => by cases h
  | x :: r, h => by
    rw [DataW.weightsAll]
    rcases List.mem_cons.1 h with rfl | h
    · exact List.mem_append_left _ hn
    · exact List.mem_append_right _ (mem_weightsAll hn r h)
theorem opens_slice {α : Type} {P : Program} {t e : TypeId} {d : Kd α} {G : α → Prop} {B : Nat} (ht : P.underlying t = some (.slice e)) (hc : P.cellsOf e = d.sz) (hB : P.bytesOf e = B) (he : Opens P e d G) :
    Opens P t (Kd.slice e d) (fun l => l.length * B ≤ reachBytes ∧ ∀ y ∈ l, G y) := by
  intro H enc w fuel cs x h
  rcases open_slice ht h with ⟨rfl, rfl⟩ | ⟨a, len, cap, m, n, D, Pl, rfl, _, hl, hm, hmm, rfl, hi⟩
  · refine ⟨[], ⟨none, 0, rfl, Nat.le_refl _, rfl, by simp, fun h => absurd h (by simp)⟩, fun _ => ⟨by simp, fun y hy => by cases hy⟩⟩
  · have hmc : m = cap := by simpa using hmm
    have hex : ∀ i, i < len → ∃ z : α × List Value, d.K w z.1 z.2 ∧ w.cells? 0 (a.add (i * P.cellsOf e)) (P.cellsOf e) = some z.2 ∧ ((∀ n ∈ (D i).weights P e, n ≤ reachBytes) → G z.1) := by
      intro i hil
      obtain ⟨cs', h1, h2⟩ := hi i (by omega)
      obtain ⟨y, hy, hg⟩ := he H enc w n cs' _ h2
      exact ⟨(y, cs'), hy, h1, hg⟩
    rcases Nat.eq_zero_or_pos len with h0 | h0
    · subst h0
      refine ⟨[], ⟨some a, cap, rfl, Nat.zero_le _, rfl, by simp, fun h => absurd h (by simp)⟩, fun _ => ⟨by simp, fun y hy => by cases hy⟩⟩
    · obtain ⟨z0, _⟩ := hex 0 h0
      haveI : Inhabited (α × List Value) := ⟨z0⟩
      obtain ⟨f, hf⟩ := choose_lt hex
      refine ⟨(List.range len).map fun i => (f i).1, ⟨some a, cap, by simp, by simpa using hl, by simp, by simp only [List.length_map, List.length_range, maxLen] at *; omega, fun _ => ⟨a, rfl, fun j p hj => ?_⟩⟩, fun hw => ⟨?_, fun y hy => ?_⟩⟩
      · have hjl : j < len := by
          have := (List.getElem?_eq_some_iff.1 hj).1
          simpa using this
        obtain ⟨hk, hcl, _⟩ := hf j hjl
        have hp : p = (f j).1 := by
          rw [List.getElem?_map, List.getElem?_range hjl] at hj
          simpa using hj.symm
        subst hp
        obtain ⟨_, hlen, hat⟩ := World.cells?_some hcl
        refine ⟨(f j).2, by rw [hlen, hc], hk, fun i u hu => ?_⟩
        have hil : i < P.cellsOf e := by have := (List.getElem?_eq_some_iff.1 hu).1; omega
        have := hat i hil
        rw [Go.Deep.add_add] at this
        rw [← hc, this, hu]
      · have := hw ((((List.range len).map D).length + ((List.range (m - len)).map fun j => D (len + j)).length) * P.bytesOf e) (by simp [DataW.weights, ht])
        simp only [List.length_map, List.length_range] at this ⊢
        rw [hB] at this
        exact Nat.le_trans (Nat.mul_le_mul_right _ (by omega)) this
      · obtain ⟨i, hil, rfl⟩ := List.mem_map.1 hy
        have hil' : i < len := List.mem_range.1 hil
        obtain ⟨_, _, hg⟩ := hf i hil'
        refine hg fun q hq => hw q ?_
        rw [DataW.weights, ht]
        refine List.mem_cons_of_mem _ (List.mem_append_left _ (mem_weightsAll hq _ (List.mem_map.2 ⟨i, hil, rfl⟩)))
theorem opens_iso {α β : Type} {P : Program} {t : TypeId} {d : Kd α} {G : α → Prop} (f : β → α) (g : α → β) (hfg : ∀ x, f (g x) = x) (h : Opens P t d G) : Opens P t (Kd.iso d f) (fun y => G (f y)) := by
  intro H enc w fuel cs x hx
  obtain ⟨y, hy, hg⟩ := h H enc w fuel cs x hx
  exact ⟨g y, by show d.K w (f (g y)) cs; rw [hfg]; exact hy, fun hw => by show G (f (g y)); rw [hfg]; exact hg hw⟩
theorem opens_two {α β : Type} {P : Program} {t : TypeId} {f0 f1 : Field} {d0 : Kd α} {d1 : Kd β} {G0 : α → Prop} {G1 : β → Prop} (ht : P.underlying t = some (.struct #[f0, f1]))
    (hc : P.cellsOf t = d0.sz + d1.sz) (o0 : f0.offset = 0) (o1 : f1.offset = d0.sz) (c0 : P.cellsOf f0.type = d0.sz) (c1 : P.cellsOf f1.type = d1.sz)
    (h0 : Opens P f0.type d0 G0) (h1 : Opens P f1.type d1 G1) : Opens P t (Kd.pair d0 d1) (fun y => G0 y.1 ∧ G1 y.2) := by
  intro H enc w fuel cs x h
  obtain ⟨xs, n, _, rfl, hlen, hxl, hf⟩ := DataW.trod_struct ht h
  match xs, hxl with
  | [x0, x1], _ =>
    have e0 := hf 0 f0 rfl
    have e1 := hf 1 f1 rfl
    rw [o0, c0] at e0
    rw [o1, c1] at e1
    obtain ⟨y0, k0, g0⟩ := h0 H enc w n _ _ e0
    obtain ⟨y1, k1, g1⟩ := h1 H enc w n _ _ e1
    refine ⟨(y0, y1), ⟨_, _, ?_, k0, k1⟩, fun hw => ⟨g0 fun q hq => hw q ?_, g1 fun q hq => hw q ?_⟩⟩
    · rw [List.drop_zero, List.take_of_length_le (l := cs.drop d0.sz) (by rw [List.length_drop]; omega), List.take_append_drop]
    · simp [DataW.weights, ht, DataW.weightsEach, hq]
    · simp [DataW.weights, ht, DataW.weightsEach, hq]
/-! ### the three arguments of the laws -/
theorem opens27 : Opens Try.prog 27 k27 (fun b => b.f0.size ≤ reachBytes ∧ (Lit.int .i64 b.f1).wf = true) :=
  opens_iso (fun x : S27 => (x.f0, x.f1)) (fun x => ⟨x.1, x.2⟩) (fun _ => rfl)
    (opens_two Try.underlying27 (by kernel_rfl) rfl rfl (by kernel_rfl) (by kernel_rfl) (opens_string Try.underlying9) (opens_int Try.underlying3))
theorem opens23 : Opens Try.prog 23 (Kd.slice 3 (Kd.int .i64)) (fun l => l.length * 8 ≤ reachBytes ∧ ∀ y ∈ l, (Lit.int .i64 y).wf = true) :=
  opens_slice Try.underlying23 (by kernel_rfl) (by kernel_rfl) (opens_int Try.underlying3)
theorem opens22 : Opens Try.prog 22 (Kd.slice 27 k27) (fun l => l.length * 24 ≤ reachBytes ∧ ∀ y ∈ l, y.f0.size ≤ reachBytes ∧ (Lit.int .i64 y.f1).wf = true) :=
  opens_slice Try.underlying22 (by kernel_rfl) (by kernel_rfl) opens27
/-- What is known of the numbers of an argument; of its bits; of its places; of its lists. -/
def GoodN (l : List Int) : Prop := l.length * 8 ≤ reachBytes ∧ ∀ y ∈ l, (Lit.int .i64 y).wf = true
def GoodB (l : List S27) : Prop := l.length * 24 ≤ reachBytes ∧ ∀ y ∈ l, y.f0.size ≤ reachBytes ∧ (Lit.int .i64 y.f1).wf = true
theorem opens25 : Opens Try.prog 25 (Kd.pair (Kd.slice 27 k27) (Kd.slice 3 (Kd.int .i64))) (fun y => GoodB y.1 ∧ GoodN y.2) :=
  opens_two Try.underlying25 (by kernel_rfl) rfl rfl (by kernel_rfl) (by kernel_rfl) opens22 opens23
set_option maxRecDepth 100000 in
/-- The argument of layers 1 and 2. -/
theorem ask1 {H : Type} {enc : TypeId × Value → H} {w : World} {v : Value} {d : DataW H} {p : List MemPlace} {base : Nat} (hv : Value.okWide Try.prog w .any base 25 v) (h : DataW.Trod enc Try.prog w 0 (fun _ => true) true 25 v d p)
    (hs : ∀ n ∈ d.weights Try.prog 25, n ≤ reachBytes) :
    ∃ (A0 : Option Addr) (c0 : Nat) (l0 : List S27) (A1 : Option Addr) (c1 : Nat) (l1 : List Int), v = .agg #[.slice A0 l0.length c0, .slice A1 l1.length c1] ∧
      Kd.C k27 w A0 l0.length l0 ∧ l0.length ≤ c0 ∧ Kd.C (Kd.int .i64) w A1 l1.length l1 ∧ l1.length ≤ c1 ∧ GoodB l0 ∧ GoodN l1 := by
  obtain ⟨cs, rfl, hsz⟩ := okWide_struct Try.underlying25 hv
  obtain ⟨fuel, hf⟩ := h
  obtain ⟨⟨l0, l1⟩, ⟨_, _, hc, ⟨A0, c0, rfl, hl0, hr0⟩, ⟨A1, c1, rfl, hl1, hr1⟩⟩, hg⟩ := opens25 H enc w fuel _ _ hf
  obtain ⟨g0, g1⟩ := hg hs
  refine ⟨A0, c0, l0, A1, c1, l1, ?_, hr0, hl0, hr1, hl1, g0, g1⟩
  have : cs.toList = [.slice A0 l0.length c0, .slice A1 l1.length c1] := by simpa [Value.cells] using hc
  rw [← this]
end Go.Proofs.Ytnpghcikhpglkaa.Op
namespace Go.Proofs.Ytnpghcikhpglkaa.Fa
def headCodes : List Nat := [104, 97, 114, 110, 101, 115, 115, 32, 49, 97, 56, 50, 102, 57, 48, 102, 57, 101, 102, 102, 56, 57, 97, 97, 50, 57, 99, 56, 56, 57, 101, 56, 48, 54, 97, 55, 49, 98, 51, 99, 97, 49, 57, 102, 53, 55, 57, 48, 56, 50, 98, 48, 49, 50, 99, 51, 49, 51, 48, 50, 98, 97, 49, 102, 99, 98, 97, 50, 98, 52, 98, 49, 32, 99, 117, 116, 32, 97, 116, 32, 104, 101, 114, 98, 97, 114, 105, 117, 109, 47, 104, 101, 114, 98, 97, 114, 105, 117, 109, 108, 97, 119, 49, 46, 66, 105, 116, 115, 87, 105, 100, 101, 32, 104, 101, 114, 98, 97, 114, 105, 117, 109, 47, 104, 101, 114, 98, 97, 114, 105, 117, 109, 108, 97, 119, 49, 51, 46, 83, 112, 97, 99, 101, 82, 111, 119, 115, 32, 104, 101, 114, 98, 97, 114, 105, 117, 109, 47, 104, 101, 114, 98, 97, 114, 105, 117, 109, 108, 97, 119, 49, 51, 46, 83, 112, 97, 99, 101, 78, 101, 101, 100, 115, 32, 104, 101, 114, 98, 97, 114, 105, 117, 109, 47, 104, 101, 114, 98, 97, 114, 105, 117, 109, 108, 97, 119, 49, 46, 66, 105, 116, 115, 90, 101, 114, 111, 115, 32, 104, 101, 114, 98, 97, 114, 105, 117, 109, 47, 104, 101, 114, 98, 97, 114, 105, 117, 109, 108, 97, 119, 49, 51, 46, 83, 112, 97, 99, 101, 65, 112, 97, 114, 116, 32, 104, 101, 114, 98, 97, 114, 105, 117, 109, 47, 104, 101, 114, 98, 97, 114, 105, 117, 109, 108, 97, 119, 49, 46, 66, 105, 116, 115, 66, 97, 99, 107, 32, 104, 101, 114, 98, 97, 114, 105, 117, 109, 47, 104, 101, 114, 98, 97, 114, 105, 117, 109, 108, 97, 119, 49, 51, 46, 83, 112, 97, 99, 101, 70, 105, 110, 100, 115, 32, 104, 101, 114, 98, 97, 114, 105, 117, 109, 47, 104, 101, 114, 98, 97, 114, 105, 117, 109, 108, 97, 119, 49, 46, 66, 105, 116, 115, 69, 120, 97, 99, 116, 32, 104, 101, 114, 98, 97, 114, 105, 117, 109, 47, 104, 101, 114, 98, 97, 114, 105, 117, 109, 108, 97, 119, 50, 46, 67, 111, 100, 101, 67, 117, 116, 115, 32, 104, 101, 114, 98, 97, 114, 105, 117, 109, 47, 104, 101, 114, 98, 97, 114, 105, 117, 109, 108, 97, 119, 50, 46, 67, 111, 100, 101, 65, 110, 121, 32, 104, 101, 114, 98, 97, 114, 105, 117, 109, 47, 104, 101, 114, 98, 97, 114, 105, 117, 109, 108, 97, 119, 50, 46, 67, 111, 100, 101, 66, 97, 99, 107, 32, 104, 101, 114, 98, 97, 114, 105, 117, 109, 47, 104, 101, 114, 98, 97, 114, 105, 117, 109, 108, 97, 119, 50, 46, 67, 111, 100, 101, 85, 110, 97, 114, 121, 32, 104, 101, 114, 98, 97, 114, 105, 117, 109, 47, 104, 101, 114, 98, 97, 114, 105, 117, 109, 108, 97, 119, 50, 46, 67, 111, 100, 101, 71, 97, 109, 109, 97, 32, 104, 101, 114, 98, 97, 114, 105, 117, 109, 47, 104, 101, 114, 98, 97, 114, 105, 117, 109, 108, 97, 119, 50, 46, 67, 111, 100, 101, 68, 101, 108, 116, 97, 32, 104, 101, 114, 98, 97, 114, 105, 117, 109, 47, 104, 101, 114, 98, 97, 114, 105, 117, 109, 108, 97, 119, 50, 46, 67, 111, 100, 101, 90, 101, 116, 97, 84, 119, 111, 32, 104, 101, 114, 98, 97, 114, 105, 117, 109, 47, 104, 101, 114, 98, 97, 114, 105, 117, 109, 108, 97, 119, 50, 46, 67, 111, 100, 101, 90, 101, 116, 97, 84, 104, 114, 101, 101, 32, 104, 101, 114, 98, 97, 114, 105, 117, 109, 47, 104, 101, 114, 98, 97, 114, 105, 117, 109, 108, 97, 119, 50, 46, 67, 111, 100, 101, 83, 109, 97, 108, 108, 32, 104, 101, 114, 98, 97, 114, 105, 117, 109, 47, 104, 101, 114, 98, 97, 114, 105, 117, 109, 108, 97, 119, 50, 46, 67, 111, 100, 101, 90, 105, 103, 115, 32, 104, 101, 114, 98, 97, 114, 105, 117, 109, 47, 104, 101, 114, 98, 97, 114, 105, 117, 109, 108, 97, 119, 51, 46, 71, 97, 112, 115, 66, 97, 99, 107, 32, 104, 101, 114, 98, 97, 114, 105, 117, 109, 47, 104, 101, 114, 98, 97, 114, 105, 117, 109, 108, 97, 119, 51, 46, 71, 97, 112, 115, 65, 108, 108, 32, 104, 101, 114, 98, 97, 114, 105, 117, 109, 47, 104, 101, 114, 98, 97, 114, 105, 117, 109, 108, 97, 119, 51, 46, 71, 97, 112, 115, 69, 120, 97, 99, 116]
def restCodes : List (List Nat) := [[99, 117, 116], [97, 116], [104, 101, 114, 98, 97, 114, 105, 117, 109, 47, 104, 101, 114, 98, 97, 114, 105, 117, 109, 108, 97, 119, 49, 46, 66, 105, 116, 115, 87, 105, 100, 101], [104, 101, 114, 98, 97, 114, 105, 117, 109, 47, 104, 101, 114, 98, 97, 114, 105, 117, 109, 108, 97, 119, 49, 51, 46, 83, 112, 97, 99, 101, 82, 111, 119, 115], [104, 101, 114, 98, 97, 114, 105, 117, 109, 47, 104, 101, 114, 98, 97, 114, 105, 117, 109, 108, 97, 119, 49, 51, 46, 83, 112, 97, 99, 101, 78, 101, 101, 100, 115], [104, 101, 114, 98, 97, 114, 105, 117, 109, 47, 104, 101, 114, 98, 97, 114, 105, 117, 109, 108, 97, 119, 49, 46, 66, 105, 116, 115, 90, 101, 114, 111, 115], [104, 101, 114, 98, 97, 114, 105, 117, 109, 47, 104, 101, 114, 98, 97, 114, 105, 117, 109, 108, 97, 119, 49, 51, 46, 83, 112, 97, 99, 101, 65, 112, 97, 114, 116], [104, 101, 114, 98, 97, 114, 105, 117, 109, 47, 104, 101, 114, 98, 97, 114, 105, 117, 109, 108, 97, 119, 49, 46, 66, 105, 116, 115, 66, 97, 99, 107], [104, 101, 114, 98, 97, 114, 105, 117, 109, 47, 104, 101, 114, 98, 97, 114, 105, 117, 109, 108, 97, 119, 49, 51, 46, 83, 112, 97, 99, 101, 70, 105, 110, 100, 115], [104, 101, 114, 98, 97, 114, 105, 117, 109, 47, 104, 101, 114, 98, 97, 114, 105, 117, 109, 108, 97, 119, 49, 46, 66, 105, 116, 115, 69, 120, 97, 99, 116], [104, 101, 114, 98, 97, 114, 105, 117, 109, 47, 104, 101, 114, 98, 97, 114, 105, 117, 109, 108, 97, 119, 50, 46, 67, 111, 100, 101, 67, 117, 116, 115], [104, 101, 114, 98, 97, 114, 105, 117, 109, 47, 104, 101, 114, 98, 97, 114, 105, 117, 109, 108, 97, 119, 50, 46, 67, 111, 100, 101, 65, 110, 121], [104, 101, 114, 98, 97, 114, 105, 117, 109, 47, 104, 101, 114, 98, 97, 114, 105, 117, 109, 108, 97, 119, 50, 46, 67, 111, 100, 101, 66, 97, 99, 107], [104, 101, 114, 98, 97, 114, 105, 117, 109, 47, 104, 101, 114, 98, 97, 114, 105, 117, 109, 108, 97, 119, 50, 46, 67, 111, 100, 101, 85, 110, 97, 114, 121], [104, 101, 114, 98, 97, 114, 105, 117, 109, 47, 104, 101, 114, 98, 97, 114, 105, 117, 109, 108, 97, 119, 50, 46, 67, 111, 100, 101, 71, 97, 109, 109, 97], [104, 101, 114, 98, 97, 114, 105, 117, 109, 47, 104, 101, 114, 98, 97, 114, 105, 117, 109, 108, 97, 119, 50, 46, 67, 111, 100, 101, 68, 101, 108, 116, 97], [104, 101, 114, 98, 97, 114, 105, 117, 109, 47, 104, 101, 114, 98, 97, 114, 105, 117, 109, 108, 97, 119, 50, 46, 67, 111, 100, 101, 90, 101, 116, 97, 84, 119, 111], [104, 101, 114, 98, 97, 114, 105, 117, 109, 47, 104, 101, 114, 98, 97, 114, 105, 117, 109, 108, 97, 119, 50, 46, 67, 111, 100, 101, 90, 101, 116, 97, 84, 104, 114, 101, 101], [104, 101, 114, 98, 97, 114, 105, 117, 109, 47, 104, 101, 114, 98, 97, 114, 105, 117, 109, 108, 97, 119, 50, 46, 67, 111, 100, 101, 83, 109, 97, 108, 108], [104, 101, 114, 98, 97, 114, 105, 117, 109, 47, 104, 101, 114, 98, 97, 114, 105, 117, 109, 108, 97, 119, 50, 46, 67, 111, 100, 101, 90, 105, 103, 115], [104, 101, 114, 98, 97, 114, 105, 117, 109, 47, 104, 101, 114, 98, 97, 114, 105, 117, 109, 108, 97, 119, 51, 46, 71, 97, 112, 115, 66, 97, 99, 107], [104, 101, 114, 98, 97, 114, 105, 117, 109, 47, 104, 101, 114, 98, 97, 114, 105, 117, 109, 108, 97, 119, 51, 46, 71, 97, 112, 115, 65, 108, 108], [104, 101, 114, 98, 97, 114, 105, 117, 109, 47, 104, 101, 114, 98, 97, 114, 105, 117, 109, 108, 97, 119, 51, 46, 71, 97, 112, 115, 69, 120, 97, 99, 116]]
theorem head_is : Try.prog.initOrder = String.ofList (headCodes.map Char.ofNat) := by kernel_rfl
theorem head_chars : Try.prog.initOrder.toList = headCodes.map Char.ofNat := (congrArg String.toList head_is).trans String.toList_ofList
theorem head_rest : behindMainWord (wordsSigns (headCodes.map Char.ofNat)) = restCodes.map (fun l => l.map Char.ofNat) := by kernel_rfl
theorem head_words : behindMainWord (wordsSigns Try.prog.initOrder.toList) = restCodes.map (fun l => l.map Char.ofNat) := (congrArg (fun l => behindMainWord (wordsSigns l)) head_chars).trans head_rest
theorem head_cons : restCodes.map (fun l => l.map Char.ofNat) = [99, 117, 116].map Char.ofNat :: restCodes.tail.map (fun l => l.map Char.ofNat) := rfl
theorem make_of {P : Program} {c : List Char} {rest : List (List Char)} (h : behindMainWord (wordsSigns P.initOrder.toList) = c :: rest) (hc : (c == "gc".toList || c == "spec".toList) = false) (h2 : (c == "cut".toList) = true) : P.make = some .cut := by
  unfold Program.make
  rw [h]
  simp only [hc, h2]
  rfl
theorem mayEnter_of {P : Program} {c : List Char} {rest : List (List Char)} (h : behindMainWord (wordsSigns P.initOrder.toList) = c :: rest) (hs : (stripLifts liftWords (c :: rest)).1 = []) (hs2 : ((stripLifts liftWords (c :: rest)).2.head? == some "cut".toList) = true)
    (hl : P.laysLater = false) (hr : P.bearsReflect = false) (hd : P.doorFits [] = true) : P.mayEnter = true := by
  unfold Program.mayEnter
  rw [h]
  simp only [hs, hs2, hl, hr, hd]
  simp
theorem liftsFinal_of {P : Program} {c : List Char} {rest : List (List Char)} (h : behindMainWord (wordsSigns P.initOrder.toList) = c :: rest) (hs : (stripLifts liftWords (c :: rest)).1 = []) (hc : (c == "carried".toList) = false) : P.liftsFinal = false := by
  unfold Program.liftsFinal Program.headLifts
  rw [h]
  simp only [hs, List.head?_cons]
  have : (some c == some "carried".toList) = false := by simpa using hc
  rw [this]
  split <;> simp
theorem strip1 : (stripLifts liftWords (restCodes.map (fun l => l.map Char.ofNat))).1 = [] := by kernel_rfl
theorem strip2 : ((stripLifts liftWords (restCodes.map (fun l => l.map Char.ofNat))).2.head? == some "cut".toList) = true := by kernel_rfl
theorem lays : Try.prog.laysLater = false := by kernel_rfl
theorem refl_ : Try.prog.bearsReflect = false := by kernel_rfl
theorem door : Try.prog.doorFits [] = true := by kernel_rfl
theorem words_ : behindMainWord (wordsSigns Try.prog.initOrder.toList) = [99, 117, 116].map Char.ofNat :: restCodes.tail.map (fun l => l.map Char.ofNat) := head_words.trans head_cons
theorem make : Try.prog.make = some .cut := make_of words_ (by decide) (by decide)
theorem mayEnter : Try.prog.mayEnter = true := mayEnter_of words_ (head_cons ▸ strip1) (head_cons ▸ strip2) lays refl_ door
theorem liftsFinal : Try.prog.liftsFinal = false := liftsFinal_of words_ (head_cons ▸ strip1) (by decide)
end Go.Proofs.Ytnpghcikhpglkaa.Fa
namespace Go.Proofs.Ytnpghcikhpglkaa.Q
open Go.RowKit Go.Proofs.YtnpghcikhpglkaaW.PrintWords Go.Proofs.YtnpghcikhpglkaaW.PrintLast Go.Proofs.YtnpghcikhpglkaaW.PrintMore
attribute [local go_sem] max2_int min2_int max_two min_two max_three min_three max_four min_four   -- for this text's walks alone
set_option linter.unusedVariables false
set_option linter.unusedSimpArgs false
theorem eqA27 (d : Nat) (w : World) (x0 y0 : ByteArray) (x1 y1 : Int) :
    (Op.equalIn (d + 2) 27 (.agg #[.string x0, .int .i64 x1]) (.agg #[.string y0, .int .i64 y1])).run Try.prog w = .ok (x0.toList == y0.toList && (x1 == y1)) w := by
  refine eqA_of Try.underlying27 (by kernel_rfl) ?_
  refine eqf_cons (by rfl) (by go_simp; rfl) (by go_simp; rfl) (by go_simp) ?_
  exact eqf_last (by rfl) (by go_simp; rfl) (by go_simp; rfl) (by go_simp)
end Go.Proofs.Ytnpghcikhpglkaa.Q
namespace Go.Proofs.Ytnpghcikhpglkaa.Q
open Go.RowKit Go.Proofs.YtnpghcikhpglkaaW.PrintWords Go.Proofs.YtnpghcikhpglkaaW.PrintLast Go.Proofs.YtnpghcikhpglkaaW.PrintMore
attribute [local go_sem] max2_int min2_int max_two min_two max_three min_three max_four min_four   -- for this text's walks alone
set_option linter.unusedVariables false
set_option linter.unusedSimpArgs false

/-! ### bits_May: function 86 -/
def bits_May.f (a0_0 : ByteArray) (a0_1 : Int) : Option (Bool) := if a0_1 < 0 then (some false) else (if a0_1 > 6000 then (some false) else (if (a0_0.size : Int) = (wrap64 (Int.tdiv (wrap64 ((wrap64 (a0_1 + 8)) - 1)) 8)) then (if (Int.tmod a0_1 8) = 0 then (some true) else (if 0 ≤ (wrap64 ((a0_0.size : Int) - 1)) then (if (wrap64 ((a0_0.size : Int) - 1)) < (a0_0.size : Int) then (if 0 ≤ (Int.tmod a0_1 8) then (some ((Go.bits .and .u8 (bt a0_0 (wrap64 ((a0_0.size : Int) - 1))) (shr .u8 255 (Int.tmod a0_1 8))) == 0)) else (none)) else (none)) else (none))) else (some false)))
set_option maxHeartbeats 8000000 in
set_option maxRecDepth 100000 in
theorem bits_May.calls (a0_0 : ByteArray) (a0_1 : Int) (r : Bool) (w : World) (h : bits_May.f a0_0 a0_1 = some r) :
    Calls Try.prog 86 #[.agg #[.string a0_0, .int .i64 a0_1]] w fun e w' => e = .returned (.bool r) ∧ Below w.heap.size w w' := by
 have hu27 := Try.underlying27
 have HB := ak (Below.refl w.heap.size w)
 have H : (if a0_1 < 0 then (some false) else (if a0_1 > 6000 then (some false) else (if (a0_0.size : Int) = (wrap64 (Int.tdiv (wrap64 ((wrap64 (a0_1 + 8)) - 1)) 8)) then (if (Int.tmod a0_1 8) = 0 then (some true) else (if 0 ≤ (wrap64 ((a0_0.size : Int) - 1)) then (if (wrap64 ((a0_0.size : Int) - 1)) < (a0_0.size : Int) then (if 0 ≤ (Int.tmod a0_1 8) then (some ((Go.bits .and .u8 (bt a0_0 (wrap64 ((a0_0.size : Int) - 1))) (shr .u8 255 (Int.tmod a0_1 8))) == 0)) else (none)) else (none)) else (none))) else (some false)))) = some r := h
 clear h
 by_cases c2 : a0_1 < 0
 ·
  rw [if_pos c2] at H
  have c2b0 : decide (a0_1 < 0) = true := decide_eq_true c2
  clear c2
  obtain rfl := Option.some.inj H
  go_enter Try.func86, Try.ntmps86
  go_wp2_with (first | ((with_reducible refine gate_dst (N := 1) rfl ?_); (try (refine gate_guard (by rfl) ?_; dsimp only)); refine box_event ?hg (N := 1) ?hd (cs := #[.string a0_0, .int .i64 a0_1]) (t := 27) ?hr ?_; (case hd => rfl); (case hg => rfl); (case hr => first | (go_simp; done) | (go_simp; rfl)); intro gb101 hg w3 hbox hb; have n0_ := ak (below_step (ul HB.out) hb); have n1_ := ak (hbox); have n2_ := ak ((by rw [hg]; exact (below_size (ul HB.out)) : w.heap.size ≤ gb101)); have n3_ := ak ((by rw [hg]; exact (below_size (ul HB.out)) : w.heap.size ≤ gb101)); clear HB; have HB := n0_; have BK101 := n1_; have GW101 := n2_; have GE101 := n3_; clear n0_ n1_ n2_ n3_; clear hb hbox hg; have hcz4_0 : w3.cell? ⟨gb101, 0, none⟩ = some (.string a0_0) := (blk_cell BK101.out 0).trans rfl; have hcz4_1 : w3.cell? ⟨gb101, 1, none⟩ = some (.int .i64 a0_1) := (blk_cell BK101.out 1).trans rfl; have hfz4_0 := blk_frozen BK101.out 0; have hfz4_1 := blk_frozen BK101.out 1))
  repeat (go_quiet (first | ((with_reducible refine gate_dst (N := 1) rfl ?_); (try (refine gate_guard (by rfl) ?_; dsimp only)); refine box_event ?hg (N := 1) ?hd (cs := #[.string a0_0, .int .i64 a0_1]) (t := 27) ?hr ?_; (case hd => rfl); (case hg => rfl); (case hr => first | (go_simp; done) | (go_simp; rfl)); intro gb101 hg w3 hbox hb; have n0_ := ak (below_step (ul HB.out) hb); have n1_ := ak (hbox); have n2_ := ak ((by rw [hg]; exact (below_size (ul HB.out)) : w.heap.size ≤ gb101)); have n3_ := ak ((by rw [hg]; exact (below_size (ul HB.out)) : w.heap.size ≤ gb101)); clear HB; have HB := n0_; have BK101 := n1_; have GW101 := n2_; have GE101 := n3_; clear n0_ n1_ n2_ n3_; clear hb hbox hg; have hcz4_0 : w3.cell? ⟨gb101, 0, none⟩ = some (.string a0_0) := (blk_cell BK101.out 0).trans rfl; have hcz4_1 : w3.cell? ⟨gb101, 1, none⟩ = some (.int .i64 a0_1) := (blk_cell BK101.out 1).trans rfl; have hfz4_0 := blk_frozen BK101.out 0; have hfz4_1 := blk_frozen BK101.out 1)); try go_wp2_with (first | ((with_reducible refine gate_dst (N := 1) rfl ?_); (try (refine gate_guard (by rfl) ?_; dsimp only)); refine box_event ?hg (N := 1) ?hd (cs := #[.string a0_0, .int .i64 a0_1]) (t := 27) ?hr ?_; (case hd => rfl); (case hg => rfl); (case hr => first | (go_simp; done) | (go_simp; rfl)); intro gb101 hg w3 hbox hb; have n0_ := ak (below_step (ul HB.out) hb); have n1_ := ak (hbox); have n2_ := ak ((by rw [hg]; exact (below_size (ul HB.out)) : w.heap.size ≤ gb101)); have n3_ := ak ((by rw [hg]; exact (below_size (ul HB.out)) : w.heap.size ≤ gb101)); clear HB; have HB := n0_; have BK101 := n1_; have GW101 := n2_; have GE101 := n3_; clear n0_ n1_ n2_ n3_; clear hb hbox hg; have hcz4_0 : w3.cell? ⟨gb101, 0, none⟩ = some (.string a0_0) := (blk_cell BK101.out 0).trans rfl; have hcz4_1 : w3.cell? ⟨gb101, 1, none⟩ = some (.int .i64 a0_1) := (blk_cell BK101.out 1).trans rfl; have hfz4_0 := blk_frozen BK101.out 0; have hfz4_1 := blk_frozen BK101.out 1)))
  go_ret
  exact ⟨by first | rfl | (simp [errW_none, errW_some] <;> rfl) | (simp [*, errW_none, errW_some] <;> rfl), by repeat with_reducible first | exact HB.out | apply b1 | apply b2 | apply b3 | refine b4 ?_ GE101.out⟩
 rw [if_neg c2] at H
 have c2b0 : decide (a0_1 < 0) = false := decide_eq_false c2
 clear c2
 by_cases c5 : a0_1 > 6000
 ·
  rw [if_pos c5] at H
  have c5b0 : decide (6000 < a0_1) = true := decide_eq_true c5
  clear c5
  obtain rfl := Option.some.inj H
  go_enter Try.func86, Try.ntmps86
  go_wp2_with (first | ((with_reducible refine gate_dst (N := 1) rfl ?_); (try (refine gate_guard (by rfl) ?_; dsimp only)); refine box_event ?hg (N := 1) ?hd (cs := #[.string a0_0, .int .i64 a0_1]) (t := 27) ?hr ?_; (case hd => rfl); (case hg => rfl); (case hr => first | (go_simp; done) | (go_simp; rfl)); intro gb101 hg w6 hbox hb; have n0_ := ak (below_step (ul HB.out) hb); have n1_ := ak (hbox); have n2_ := ak ((by rw [hg]; exact (below_size (ul HB.out)) : w.heap.size ≤ gb101)); have n3_ := ak ((by rw [hg]; exact (below_size (ul HB.out)) : w.heap.size ≤ gb101)); clear HB; have HB := n0_; have BK101 := n1_; have GW101 := n2_; have GE101 := n3_; clear n0_ n1_ n2_ n3_; clear hb hbox hg; have hcz7_0 : w6.cell? ⟨gb101, 0, none⟩ = some (.string a0_0) := (blk_cell BK101.out 0).trans rfl; have hcz7_1 : w6.cell? ⟨gb101, 1, none⟩ = some (.int .i64 a0_1) := (blk_cell BK101.out 1).trans rfl; have hfz7_0 := blk_frozen BK101.out 0; have hfz7_1 := blk_frozen BK101.out 1))
  repeat (go_quiet (first | ((with_reducible refine gate_dst (N := 1) rfl ?_); (try (refine gate_guard (by rfl) ?_; dsimp only)); refine box_event ?hg (N := 1) ?hd (cs := #[.string a0_0, .int .i64 a0_1]) (t := 27) ?hr ?_; (case hd => rfl); (case hg => rfl); (case hr => first | (go_simp; done) | (go_simp; rfl)); intro gb101 hg w6 hbox hb; have n0_ := ak (below_step (ul HB.out) hb); have n1_ := ak (hbox); have n2_ := ak ((by rw [hg]; exact (below_size (ul HB.out)) : w.heap.size ≤ gb101)); have n3_ := ak ((by rw [hg]; exact (below_size (ul HB.out)) : w.heap.size ≤ gb101)); clear HB; have HB := n0_; have BK101 := n1_; have GW101 := n2_; have GE101 := n3_; clear n0_ n1_ n2_ n3_; clear hb hbox hg; have hcz7_0 : w6.cell? ⟨gb101, 0, none⟩ = some (.string a0_0) := (blk_cell BK101.out 0).trans rfl; have hcz7_1 : w6.cell? ⟨gb101, 1, none⟩ = some (.int .i64 a0_1) := (blk_cell BK101.out 1).trans rfl; have hfz7_0 := blk_frozen BK101.out 0; have hfz7_1 := blk_frozen BK101.out 1)); try go_wp2_with (first | ((with_reducible refine gate_dst (N := 1) rfl ?_); (try (refine gate_guard (by rfl) ?_; dsimp only)); refine box_event ?hg (N := 1) ?hd (cs := #[.string a0_0, .int .i64 a0_1]) (t := 27) ?hr ?_; (case hd => rfl); (case hg => rfl); (case hr => first | (go_simp; done) | (go_simp; rfl)); intro gb101 hg w6 hbox hb; have n0_ := ak (below_step (ul HB.out) hb); have n1_ := ak (hbox); have n2_ := ak ((by rw [hg]; exact (below_size (ul HB.out)) : w.heap.size ≤ gb101)); have n3_ := ak ((by rw [hg]; exact (below_size (ul HB.out)) : w.heap.size ≤ gb101)); clear HB; have HB := n0_; have BK101 := n1_; have GW101 := n2_; have GE101 := n3_; clear n0_ n1_ n2_ n3_; clear hb hbox hg; have hcz7_0 : w6.cell? ⟨gb101, 0, none⟩ = some (.string a0_0) := (blk_cell BK101.out 0).trans rfl; have hcz7_1 : w6.cell? ⟨gb101, 1, none⟩ = some (.int .i64 a0_1) := (blk_cell BK101.out 1).trans rfl; have hfz7_0 := blk_frozen BK101.out 0; have hfz7_1 := blk_frozen BK101.out 1)))
  go_ret
  exact ⟨by first | rfl | (simp [errW_none, errW_some] <;> rfl) | (simp [*, errW_none, errW_some] <;> rfl), by repeat with_reducible first | exact HB.out | apply b1 | apply b2 | apply b3 | refine b4 ?_ GE101.out⟩
 rw [if_neg c5] at H
 have c5b0 : decide (6000 < a0_1) = false := decide_eq_false c5
 clear c5
 by_cases c8 : (a0_0.size : Int) = (wrap64 (Int.tdiv (wrap64 ((wrap64 (a0_1 + 8)) - 1)) 8))
 rotate_left
 ·
  rw [if_neg c8] at H
  have c8b0 : ((a0_0.size : Int) == (wrap64 (Int.tdiv (wrap64 ((wrap64 (a0_1 + 8)) - 1)) 8))) = false := beq_eq_false_iff_ne.mpr c8
  have c8b1 : ((a0_0.size : Int) != (wrap64 (Int.tdiv (wrap64 ((wrap64 (a0_1 + 8)) - 1)) 8))) = true := bne_iff_ne.mpr c8
  obtain rfl := Option.some.inj H
  go_enter Try.func86, Try.ntmps86
  go_wp2_with (first | ((with_reducible refine gate_dst (N := 1) rfl ?_); (try (refine gate_guard (by rfl) ?_; dsimp only)); refine box_event ?hg (N := 1) ?hd (cs := #[.string a0_0, .int .i64 a0_1]) (t := 27) ?hr ?_; (case hd => rfl); (case hg => rfl); (case hr => first | (go_simp; done) | (go_simp; rfl)); intro gb101 hg w21 hbox hb; have n0_ := ak (below_step (ul HB.out) hb); have n1_ := ak (hbox); have n2_ := ak ((by rw [hg]; exact (below_size (ul HB.out)) : w.heap.size ≤ gb101)); have n3_ := ak ((by rw [hg]; exact (below_size (ul HB.out)) : w.heap.size ≤ gb101)); clear HB; have HB := n0_; have BK101 := n1_; have GW101 := n2_; have GE101 := n3_; clear n0_ n1_ n2_ n3_; clear hb hbox hg; have hcz22_0 : w21.cell? ⟨gb101, 0, none⟩ = some (.string a0_0) := (blk_cell BK101.out 0).trans rfl; have hcz22_1 : w21.cell? ⟨gb101, 1, none⟩ = some (.int .i64 a0_1) := (blk_cell BK101.out 1).trans rfl; have hfz22_0 := blk_frozen BK101.out 0; have hfz22_1 := blk_frozen BK101.out 1))
  repeat (go_quiet (first | ((with_reducible refine gate_dst (N := 1) rfl ?_); (try (refine gate_guard (by rfl) ?_; dsimp only)); refine box_event ?hg (N := 1) ?hd (cs := #[.string a0_0, .int .i64 a0_1]) (t := 27) ?hr ?_; (case hd => rfl); (case hg => rfl); (case hr => first | (go_simp; done) | (go_simp; rfl)); intro gb101 hg w21 hbox hb; have n0_ := ak (below_step (ul HB.out) hb); have n1_ := ak (hbox); have n2_ := ak ((by rw [hg]; exact (below_size (ul HB.out)) : w.heap.size ≤ gb101)); have n3_ := ak ((by rw [hg]; exact (below_size (ul HB.out)) : w.heap.size ≤ gb101)); clear HB; have HB := n0_; have BK101 := n1_; have GW101 := n2_; have GE101 := n3_; clear n0_ n1_ n2_ n3_; clear hb hbox hg; have hcz22_0 : w21.cell? ⟨gb101, 0, none⟩ = some (.string a0_0) := (blk_cell BK101.out 0).trans rfl; have hcz22_1 : w21.cell? ⟨gb101, 1, none⟩ = some (.int .i64 a0_1) := (blk_cell BK101.out 1).trans rfl; have hfz22_0 := blk_frozen BK101.out 0; have hfz22_1 := blk_frozen BK101.out 1)); try go_wp2_with (first | ((with_reducible refine gate_dst (N := 1) rfl ?_); (try (refine gate_guard (by rfl) ?_; dsimp only)); refine box_event ?hg (N := 1) ?hd (cs := #[.string a0_0, .int .i64 a0_1]) (t := 27) ?hr ?_; (case hd => rfl); (case hg => rfl); (case hr => first | (go_simp; done) | (go_simp; rfl)); intro gb101 hg w21 hbox hb; have n0_ := ak (below_step (ul HB.out) hb); have n1_ := ak (hbox); have n2_ := ak ((by rw [hg]; exact (below_size (ul HB.out)) : w.heap.size ≤ gb101)); have n3_ := ak ((by rw [hg]; exact (below_size (ul HB.out)) : w.heap.size ≤ gb101)); clear HB; have HB := n0_; have BK101 := n1_; have GW101 := n2_; have GE101 := n3_; clear n0_ n1_ n2_ n3_; clear hb hbox hg; have hcz22_0 : w21.cell? ⟨gb101, 0, none⟩ = some (.string a0_0) := (blk_cell BK101.out 0).trans rfl; have hcz22_1 : w21.cell? ⟨gb101, 1, none⟩ = some (.int .i64 a0_1) := (blk_cell BK101.out 1).trans rfl; have hfz22_0 := blk_frozen BK101.out 0; have hfz22_1 := blk_frozen BK101.out 1)))
  go_ret
  exact ⟨by first | rfl | (simp [errW_none, errW_some] <;> rfl) | (simp [*, errW_none, errW_some] <;> rfl), by repeat with_reducible first | exact HB.out | apply b1 | apply b2 | apply b3 | refine b4 ?_ GE101.out⟩
 rw [if_pos c8] at H
 have c8b0 : ((a0_0.size : Int) == (wrap64 (Int.tdiv (wrap64 ((wrap64 (a0_1 + 8)) - 1)) 8))) = true := beq_iff_eq.mpr c8
 have c8b1 : ((a0_0.size : Int) != (wrap64 (Int.tdiv (wrap64 ((wrap64 (a0_1 + 8)) - 1)) 8))) = false := bne_eq_false_iff_eq.mpr c8
 clear c8
 by_cases c9 : (Int.tmod a0_1 8) = 0
 ·
  rw [if_pos c9] at H
  have c9b0 : ((Int.tmod a0_1 8) == 0) = true := beq_iff_eq.mpr c9
  have c9b1 : ((Int.tmod a0_1 8) != 0) = false := bne_eq_false_iff_eq.mpr c9
  clear c9
  obtain rfl := Option.some.inj H
  go_enter Try.func86, Try.ntmps86
  go_wp2_with (first | ((with_reducible refine gate_dst (N := 1) rfl ?_); (try (refine gate_guard (by rfl) ?_; dsimp only)); refine box_event ?hg (N := 1) ?hd (cs := #[.string a0_0, .int .i64 a0_1]) (t := 27) ?hr ?_; (case hd => rfl); (case hg => rfl); (case hr => first | (go_simp; done) | (go_simp; rfl)); intro gb101 hg w10 hbox hb; have n0_ := ak (below_step (ul HB.out) hb); have n1_ := ak (hbox); have n2_ := ak ((by rw [hg]; exact (below_size (ul HB.out)) : w.heap.size ≤ gb101)); have n3_ := ak ((by rw [hg]; exact (below_size (ul HB.out)) : w.heap.size ≤ gb101)); clear HB; have HB := n0_; have BK101 := n1_; have GW101 := n2_; have GE101 := n3_; clear n0_ n1_ n2_ n3_; clear hb hbox hg; have hcz11_0 : w10.cell? ⟨gb101, 0, none⟩ = some (.string a0_0) := (blk_cell BK101.out 0).trans rfl; have hcz11_1 : w10.cell? ⟨gb101, 1, none⟩ = some (.int .i64 a0_1) := (blk_cell BK101.out 1).trans rfl; have hfz11_0 := blk_frozen BK101.out 0; have hfz11_1 := blk_frozen BK101.out 1))
  repeat (go_quiet (first | ((with_reducible refine gate_dst (N := 1) rfl ?_); (try (refine gate_guard (by rfl) ?_; dsimp only)); refine box_event ?hg (N := 1) ?hd (cs := #[.string a0_0, .int .i64 a0_1]) (t := 27) ?hr ?_; (case hd => rfl); (case hg => rfl); (case hr => first | (go_simp; done) | (go_simp; rfl)); intro gb101 hg w10 hbox hb; have n0_ := ak (below_step (ul HB.out) hb); have n1_ := ak (hbox); have n2_ := ak ((by rw [hg]; exact (below_size (ul HB.out)) : w.heap.size ≤ gb101)); have n3_ := ak ((by rw [hg]; exact (below_size (ul HB.out)) : w.heap.size ≤ gb101)); clear HB; have HB := n0_; have BK101 := n1_; have GW101 := n2_; have GE101 := n3_; clear n0_ n1_ n2_ n3_; clear hb hbox hg; have hcz11_0 : w10.cell? ⟨gb101, 0, none⟩ = some (.string a0_0) := (blk_cell BK101.out 0).trans rfl; have hcz11_1 : w10.cell? ⟨gb101, 1, none⟩ = some (.int .i64 a0_1) := (blk_cell BK101.out 1).trans rfl; have hfz11_0 := blk_frozen BK101.out 0; have hfz11_1 := blk_frozen BK101.out 1)); try go_wp2_with (first | ((with_reducible refine gate_dst (N := 1) rfl ?_); (try (refine gate_guard (by rfl) ?_; dsimp only)); refine box_event ?hg (N := 1) ?hd (cs := #[.string a0_0, .int .i64 a0_1]) (t := 27) ?hr ?_; (case hd => rfl); (case hg => rfl); (case hr => first | (go_simp; done) | (go_simp; rfl)); intro gb101 hg w10 hbox hb; have n0_ := ak (below_step (ul HB.out) hb); have n1_ := ak (hbox); have n2_ := ak ((by rw [hg]; exact (below_size (ul HB.out)) : w.heap.size ≤ gb101)); have n3_ := ak ((by rw [hg]; exact (below_size (ul HB.out)) : w.heap.size ≤ gb101)); clear HB; have HB := n0_; have BK101 := n1_; have GW101 := n2_; have GE101 := n3_; clear n0_ n1_ n2_ n3_; clear hb hbox hg; have hcz11_0 : w10.cell? ⟨gb101, 0, none⟩ = some (.string a0_0) := (blk_cell BK101.out 0).trans rfl; have hcz11_1 : w10.cell? ⟨gb101, 1, none⟩ = some (.int .i64 a0_1) := (blk_cell BK101.out 1).trans rfl; have hfz11_0 := blk_frozen BK101.out 0; have hfz11_1 := blk_frozen BK101.out 1)))
  go_ret
  exact ⟨by first | rfl | (simp [errW_none, errW_some] <;> rfl) | (simp [*, errW_none, errW_some] <;> rfl), by repeat with_reducible first | exact HB.out | apply b1 | apply b2 | apply b3 | refine b4 ?_ GE101.out⟩
 rw [if_neg c9] at H
 have c9b0 : ((Int.tmod a0_1 8) == 0) = false := beq_eq_false_iff_ne.mpr c9
 have c9b1 : ((Int.tmod a0_1 8) != 0) = true := bne_iff_ne.mpr c9
 obtain ⟨ji12, hji12⟩ : ∃ j_ : Int, (wrap64 ((a0_0.size : Int) - 1)) = j_ := ⟨_, rfl⟩
 replace H : (if 0 ≤ (ji12) then (if (ji12) < (a0_0.size : Int) then (if 0 ≤ (Int.tmod a0_1 8) then (some ((Go.bits .and .u8 (bt a0_0 (ji12)) (shr .u8 255 (Int.tmod a0_1 8))) == 0)) else (none)) else (none)) else (none)) = some r := by first | (rw [hji12] at H; exact H) | (simp only [hji12] at H ⊢; exact H)
 have hji12w : (IntKind.i64.wrap ((a0_0.size : Int) - 1)) = ji12 := (i64_w _).trans hji12
 by_cases c13 : 0 ≤ (ji12)
 rotate_left
 ·
  rw [if_neg c13] at H
  exact absurd H (by simp)
 rw [if_pos c13] at H
 have c13b0 : decide (0 ≤ (ji12)) = true := decide_eq_true c13
 clear c13
 by_cases c14 : (ji12) < (a0_0.size : Int)
 rotate_left
 ·
  rw [if_neg c14] at H
  exact absurd H (by simp)
 rw [if_pos c14] at H
 have c14b0 : decide ((ji12) < (a0_0.size : Int)) = true := decide_eq_true c14
 clear c14
 obtain ⟨ji16, hji16⟩ : ∃ j_ : Int, (Int.tmod a0_1 8) = j_ := ⟨_, rfl⟩
 replace H : (if 0 ≤ (ji16) then (some ((Go.bits .and .u8 (bt a0_0 (ji12)) (shr .u8 255 (ji16))) == 0)) else (none)) = some r := by first | (rw [hji16] at H; exact H) | (simp only [hji16] at H ⊢; exact H)
 (try rw [hji16] at c9b0)
 (try rw [hji16] at c9b1)
 by_cases c17 : 0 ≤ (ji16)
 rotate_left
 ·
  rw [if_neg c17] at H
  exact absurd H (by simp)
 rw [if_pos c17] at H
 have c17b0 := eq_true c17
 have c17b1 : decide (0 ≤ (ji16)) = true := decide_eq_true c17
 clear c17
 obtain ⟨ji18, hji18⟩ : ∃ j_ : Int, (shr .u8 255 (ji16)) = j_ := ⟨_, rfl⟩
 replace H : (some ((Go.bits .and .u8 (bt a0_0 (ji12)) (ji18)) == 0)) = some r := by first | (rw [hji18] at H; exact H) | (simp only [hji18] at H ⊢; exact H)
 have hji18_ : (255 / 2 ^ min (ji16).toNat 8) = ji18 := hji18
 have hji18z : (ji16) ≤ 8 → (255 / 2 ^ (ji16).toNat) = ji18 := shr_small hji18
 obtain rfl := Option.some.inj H
 go_enter Try.func86, Try.ntmps86
 go_wp2_with (first | ((with_reducible refine gate_dst (N := 1) rfl ?_); (try (refine gate_guard (by rfl) ?_; dsimp only)); refine box_event ?hg (N := 1) ?hd (cs := #[.string a0_0, .int .i64 a0_1]) (t := 27) ?hr ?_; (case hd => rfl); (case hg => rfl); (case hr => first | (go_simp; done) | (go_simp; rfl)); intro gb101 hg w19 hbox hb; have n0_ := ak (below_step (ul HB.out) hb); have n1_ := ak (hbox); have n2_ := ak ((by rw [hg]; exact (below_size (ul HB.out)) : w.heap.size ≤ gb101)); have n3_ := ak ((by rw [hg]; exact (below_size (ul HB.out)) : w.heap.size ≤ gb101)); clear HB; have HB := n0_; have BK101 := n1_; have GW101 := n2_; have GE101 := n3_; clear n0_ n1_ n2_ n3_; clear hb hbox hg; have hcz20_0 : w19.cell? ⟨gb101, 0, none⟩ = some (.string a0_0) := (blk_cell BK101.out 0).trans rfl; have hcz20_1 : w19.cell? ⟨gb101, 1, none⟩ = some (.int .i64 a0_1) := (blk_cell BK101.out 1).trans rfl; have hfz20_0 := blk_frozen BK101.out 0; have hfz20_1 := blk_frozen BK101.out 1; have p15 : 0 ≤ ((ji12) : Int) := of_decide_eq_true (by first | (with_reducible assumption) | assumption); have q15 : (ji12) < (a0_0.size : Int) := of_decide_eq_true (by first | (with_reducible assumption) | assumption); have hx15 := bt_at a0_0 (ji12); replace p15 := eq_true p15; replace q15 := eq_true q15))
 repeat (go_quiet (first | ((with_reducible refine gate_dst (N := 1) rfl ?_); (try (refine gate_guard (by rfl) ?_; dsimp only)); refine box_event ?hg (N := 1) ?hd (cs := #[.string a0_0, .int .i64 a0_1]) (t := 27) ?hr ?_; (case hd => rfl); (case hg => rfl); (case hr => first | (go_simp; done) | (go_simp; rfl)); intro gb101 hg w19 hbox hb; have n0_ := ak (below_step (ul HB.out) hb); have n1_ := ak (hbox); have n2_ := ak ((by rw [hg]; exact (below_size (ul HB.out)) : w.heap.size ≤ gb101)); have n3_ := ak ((by rw [hg]; exact (below_size (ul HB.out)) : w.heap.size ≤ gb101)); clear HB; have HB := n0_; have BK101 := n1_; have GW101 := n2_; have GE101 := n3_; clear n0_ n1_ n2_ n3_; clear hb hbox hg; have hcz20_0 : w19.cell? ⟨gb101, 0, none⟩ = some (.string a0_0) := (blk_cell BK101.out 0).trans rfl; have hcz20_1 : w19.cell? ⟨gb101, 1, none⟩ = some (.int .i64 a0_1) := (blk_cell BK101.out 1).trans rfl; have hfz20_0 := blk_frozen BK101.out 0; have hfz20_1 := blk_frozen BK101.out 1; have p15 : 0 ≤ ((ji12) : Int) := of_decide_eq_true (by first | (with_reducible assumption) | assumption); have q15 : (ji12) < (a0_0.size : Int) := of_decide_eq_true (by first | (with_reducible assumption) | assumption); have hx15 := bt_at a0_0 (ji12); replace p15 := eq_true p15; replace q15 := eq_true q15)); try go_wp2_with (first | ((with_reducible refine gate_dst (N := 1) rfl ?_); (try (refine gate_guard (by rfl) ?_; dsimp only)); refine box_event ?hg (N := 1) ?hd (cs := #[.string a0_0, .int .i64 a0_1]) (t := 27) ?hr ?_; (case hd => rfl); (case hg => rfl); (case hr => first | (go_simp; done) | (go_simp; rfl)); intro gb101 hg w19 hbox hb; have n0_ := ak (below_step (ul HB.out) hb); have n1_ := ak (hbox); have n2_ := ak ((by rw [hg]; exact (below_size (ul HB.out)) : w.heap.size ≤ gb101)); have n3_ := ak ((by rw [hg]; exact (below_size (ul HB.out)) : w.heap.size ≤ gb101)); clear HB; have HB := n0_; have BK101 := n1_; have GW101 := n2_; have GE101 := n3_; clear n0_ n1_ n2_ n3_; clear hb hbox hg; have hcz20_0 : w19.cell? ⟨gb101, 0, none⟩ = some (.string a0_0) := (blk_cell BK101.out 0).trans rfl; have hcz20_1 : w19.cell? ⟨gb101, 1, none⟩ = some (.int .i64 a0_1) := (blk_cell BK101.out 1).trans rfl; have hfz20_0 := blk_frozen BK101.out 0; have hfz20_1 := blk_frozen BK101.out 1; have p15 : 0 ≤ ((ji12) : Int) := of_decide_eq_true (by first | (with_reducible assumption) | assumption); have q15 : (ji12) < (a0_0.size : Int) := of_decide_eq_true (by first | (with_reducible assumption) | assumption); have hx15 := bt_at a0_0 (ji12); replace p15 := eq_true p15; replace q15 := eq_true q15)))
 go_ret
 exact ⟨by first | rfl | (simp [errW_none, errW_some] <;> rfl) | (simp only [← hji12, ← hji16, ← hji18]; first | rfl | (simp [errW_none, errW_some] <;> rfl)) | (simp [*, errW_none, errW_some] <;> rfl), by repeat with_reducible first | exact HB.out | apply b1 | apply b2 | apply b3 | refine b4 ?_ GE101.out⟩
end Go.Proofs.Ytnpghcikhpglkaa.Q
namespace Go.Proofs.Ytnpghcikhpglkaa.Q
open Go.RowKit Go.Proofs.YtnpghcikhpglkaaW.PrintWords Go.Proofs.YtnpghcikhpglkaaW.PrintLast Go.Proofs.YtnpghcikhpglkaaW.PrintMore
attribute [local go_sem] max2_int min2_int max_two min_two max_three min_three max_four min_four   -- for this text's walks alone
set_option linter.unusedVariables false
set_option linter.unusedSimpArgs false

/-! ### bits_width: function 87 -/
def bits_width.f (a0 : Int) : Option (Bool) := if a0 ≥ 0 then (some (decide (a0 ≤ 30))) else (some false)
set_option maxHeartbeats 8000000 in
set_option maxRecDepth 100000 in
theorem bits_width.calls (a0 : Int) (r : Bool) (w : World) (h : bits_width.f a0 = some r) :
    Calls Try.prog 87 #[.int .i64 a0] w fun e w' => e = .returned (.bool r) ∧ Drawn0 w w' := by
 have H : (if a0 ≥ 0 then (some (decide (a0 ≤ 30))) else (some false)) = some r := h
 clear h
 by_cases c2 : a0 ≥ 0
 ·
  rw [if_pos c2] at H
  have c2b0 : decide (0 ≤ a0) = true := decide_eq_true c2
  clear c2
  obtain rfl := Option.some.inj H
  go_enter Try.func87, Try.ntmps87
  go_wp2
  go_ret
  exact ⟨by first | rfl | (simp; done) | (simp [*]; done), by repeat (first | exact Drawn0.refl _ | apply Drawn0.step)⟩
 rw [if_neg c2] at H
 have c2b0 : decide (0 ≤ a0) = false := decide_eq_false c2
 clear c2
 obtain rfl := Option.some.inj H
 go_enter Try.func87, Try.ntmps87
 go_wp2
 go_ret
 exact ⟨by first | rfl | (simp; done) | (simp [*]; done), by repeat (first | exact Drawn0.refl _ | apply Drawn0.step)⟩
end Go.Proofs.Ytnpghcikhpglkaa.Q
namespace Go.Proofs.Ytnpghcikhpglkaa.Q
open Go.RowKit Go.Proofs.YtnpghcikhpglkaaW.PrintWords Go.Proofs.YtnpghcikhpglkaaW.PrintLast Go.Proofs.YtnpghcikhpglkaaW.PrintMore
attribute [local go_sem] max2_int min2_int max_two min_two max_three min_three max_four min_four   -- for this text's walks alone
set_option linter.unusedVariables false
set_option linter.unusedSimpArgs false

/-! ### bits_bit: function 100 -/
def bits_bit.f (a0_0 : ByteArray) (a0_1 : Int) (a1 : Int) : Option (Int) := if 0 ≤ (wrap64 (Int.tdiv a1 8)) then (if (wrap64 (Int.tdiv a1 8)) < (a0_0.size : Int) then (if 0 ≤ (wrap64 (7 - (Int.tmod a1 8))) then (some (Go.bits .and .i64 (wrap64 (shr .u8 (bt a0_0 (wrap64 (Int.tdiv a1 8))) (wrap64 (7 - (Int.tmod a1 8))))) 1)) else (none)) else (none)) else (none)
set_option maxHeartbeats 8000000 in
set_option maxRecDepth 100000 in
theorem bits_bit.calls (a0_0 : ByteArray) (a0_1 : Int) (a1 : Int) (r : Int) (w : World) (h : bits_bit.f a0_0 a0_1 a1 = some r) :
    Calls Try.prog 100 #[.agg #[.string a0_0, .int .i64 a0_1], .int .i64 a1] w fun e w' => e = .returned (.int .i64 r) ∧ Below w.heap.size w w' := by
 have hu27 := Try.underlying27
 have HB := ak (Below.refl w.heap.size w)
 have H : (if 0 ≤ (wrap64 (Int.tdiv a1 8)) then (if (wrap64 (Int.tdiv a1 8)) < (a0_0.size : Int) then (if 0 ≤ (wrap64 (7 - (Int.tmod a1 8))) then (some (Go.bits .and .i64 (wrap64 (shr .u8 (bt a0_0 (wrap64 (Int.tdiv a1 8))) (wrap64 (7 - (Int.tmod a1 8))))) 1)) else (none)) else (none)) else (none)) = some r := h
 clear h
 obtain ⟨ji3, hji3⟩ : ∃ j_ : Int, (wrap64 (Int.tdiv a1 8)) = j_ := ⟨_, rfl⟩
 replace H : (if 0 ≤ (ji3) then (if (ji3) < (a0_0.size : Int) then (if 0 ≤ (wrap64 (7 - (Int.tmod a1 8))) then (some (Go.bits .and .i64 (wrap64 (shr .u8 (bt a0_0 (ji3)) (wrap64 (7 - (Int.tmod a1 8))))) 1)) else (none)) else (none)) else (none)) = some r := by first | (rw [hji3] at H; exact H) | (simp only [hji3] at H ⊢; exact H)
 have hji3w : (IntKind.i64.wrap (Int.tdiv a1 8)) = ji3 := (i64_w _).trans hji3
 by_cases c4 : 0 ≤ (ji3)
 rotate_left
 ·
  rw [if_neg c4] at H
  exact absurd H (by simp)
 rw [if_pos c4] at H
 have c4b0 : decide (0 ≤ (ji3)) = true := decide_eq_true c4
 clear c4
 by_cases c5 : (ji3) < (a0_0.size : Int)
 rotate_left
 ·
  rw [if_neg c5] at H
  exact absurd H (by simp)
 rw [if_pos c5] at H
 have c5b0 : decide ((ji3) < (a0_0.size : Int)) = true := decide_eq_true c5
 clear c5
 obtain ⟨ji7, hji7⟩ : ∃ j_ : Int, (wrap64 (7 - (Int.tmod a1 8))) = j_ := ⟨_, rfl⟩
 replace H : (if 0 ≤ (ji7) then (some (Go.bits .and .i64 (wrap64 (shr .u8 (bt a0_0 (ji3)) (ji7))) 1)) else (none)) = some r := by first | (rw [hji7] at H; exact H) | (simp only [hji7] at H ⊢; exact H)
 have hji7w : (IntKind.i64.wrap (7 - (Int.tmod a1 8))) = ji7 := (i64_w _).trans hji7
 by_cases c8 : 0 ≤ (ji7)
 rotate_left
 ·
  rw [if_neg c8] at H
  exact absurd H (by simp)
 rw [if_pos c8] at H
 have c8b0 := eq_true c8
 have c8b1 : decide (0 ≤ (ji7)) = true := decide_eq_true c8
 clear c8
 obtain ⟨ji9, hji9⟩ : ∃ j_ : Int, (shr .u8 (bt a0_0 (ji3)) (ji7)) = j_ := ⟨_, rfl⟩
 replace H : (some (Go.bits .and .i64 (wrap64 (ji9)) 1)) = some r := by first | (rw [hji9] at H; exact H) | (simp only [hji9] at H ⊢; exact H)
 have hji9_ : ((bt a0_0 (ji3)) / 2 ^ min (ji7).toNat 8) = ji9 := hji9
 have hji9z : (ji7) ≤ 8 → ((bt a0_0 (ji3)) / 2 ^ (ji7).toNat) = ji9 := shr_small hji9
 obtain rfl := Option.some.inj H
 go_enter Try.func100, Try.ntmps100
 go_wp2_with (first | ((with_reducible refine gate_dst (N := 2) rfl ?_); refine box_event ?hg (N := 2) ?hd (cs := #[.string a0_0, .int .i64 a0_1]) (t := 27) ?hr ?_; (case hd => rfl); (case hg => rfl); (case hr => first | (go_simp; done) | (go_simp; rfl)); intro gb104 hg w10 hbox hb; have n0_ := ak (below_step (ul HB.out) hb); have n1_ := ak (hbox); have n2_ := ak ((by rw [hg]; exact (below_size (ul HB.out)) : w.heap.size ≤ gb104)); have n3_ := ak ((by rw [hg]; exact (below_size (ul HB.out)) : w.heap.size ≤ gb104)); clear HB; have HB := n0_; have BK104 := n1_; have GW104 := n2_; have GE104 := n3_; clear n0_ n1_ n2_ n3_; clear hb hbox hg; have hcz11_0 : w10.cell? ⟨gb104, 0, none⟩ = some (.string a0_0) := (blk_cell BK104.out 0).trans rfl; have hcz11_1 : w10.cell? ⟨gb104, 1, none⟩ = some (.int .i64 a0_1) := (blk_cell BK104.out 1).trans rfl; have hfz11_0 := blk_frozen BK104.out 0; have hfz11_1 := blk_frozen BK104.out 1; have p6 : 0 ≤ ((ji3) : Int) := of_decide_eq_true (by first | (with_reducible assumption) | assumption); have q6 : (ji3) < (a0_0.size : Int) := of_decide_eq_true (by first | (with_reducible assumption) | assumption); have hx6 := bt_at a0_0 (ji3); replace p6 := eq_true p6; replace q6 := eq_true q6))
 go_ret
 exact ⟨by first | rfl | (simp [errW_none, errW_some] <;> rfl) | (simp only [← hji3, ← hji7, ← hji9]; first | rfl | (simp [errW_none, errW_some] <;> rfl)) | (simp [*, errW_none, errW_some] <;> rfl), by repeat with_reducible first | exact HB.out | apply b1 | apply b2 | apply b3 | refine b4 ?_ GE104.out⟩
end Go.Proofs.Ytnpghcikhpglkaa.Q
namespace Go.Proofs.Ytnpghcikhpglkaa.Q
open Go.RowKit Go.Proofs.YtnpghcikhpglkaaW.PrintWords Go.Proofs.YtnpghcikhpglkaaW.PrintLast Go.Proofs.YtnpghcikhpglkaaW.PrintMore
attribute [local go_sem] max2_int min2_int max_two min_two max_three min_three max_four min_four   -- for this text's walks alone
set_option linter.unusedVariables false
set_option linter.unusedSimpArgs false

/-! ### bits_Look: function 91 -/
mutual
def bits_Look.j0 : Nat → Int → Int → Bool → ByteArray → Int → Option (Int × Bool)
  | 0, _, _, _, _, _ => none
  | k + 1, x1, x2, x21, x106000, x106001 => if x21 = true then (some (0, false)) else (bits_Look.l0 k x1 0 x2 0 x106000 x106001)
def bits_Look.l0 : Nat → Int → Int → Int → Int → ByteArray → Int → Option (Int × Bool)
  | 0, _, _, _, _, _, _ => none
  | k + 1, x1, x8, x22, x23, x106000, x106001 => if x23 < x22 then ((bits_bit.f x106000 x106001 (wrap64 (x1 + x23))).bind fun t106 => (bits_Look.l0 k x1 (Go.bits .or .i64 (wrap64 (x8 * 2)) t106) x22 (wrap64 (x23 + 1)) x106000 x106001)) else (some (x8, true))
end
def bits_Look.f (k : Nat) (a0_0 : ByteArray) (a0_1 : Int) (a1 : Int) (a2 : Int) : Option (Int × Bool) := if a1 > a0_1 then (bits_Look.j0 k a1 a2 true a0_0 a0_1) else (bits_Look.j0 k a1 a2 (decide (a2 > (wrap64 (a0_1 - a1)))) a0_0 a0_1)
set_option maxHeartbeats 8000000 in
set_option maxRecDepth 100000 in
theorem bits_Look.calls (k : Nat) (a0_0 : ByteArray) (a0_1 : Int) (a1 : Int) (a2 : Int) (r1 : Int) (r2 : Bool) (w : World) (h : bits_Look.f k a0_0 a0_1 a1 a2 = some (r1, r2)) :
    Calls Try.prog 91 #[.agg #[.string a0_0, .int .i64 a0_1], .int .i64 a1, .int .i64 a2] w fun e w' => e = .returned (.tuple #[.int .i64 r1, .bool r2]) ∧ Below w.heap.size w w' := by
 have hu27 := Try.underlying27
 have HB := ak (Below.refl w.heap.size w)
 have H : (if a1 > a0_1 then (bits_Look.j0 k a1 a2 true a0_0 a0_1) else (bits_Look.j0 k a1 a2 (decide (a2 > (wrap64 (a0_1 - a1)))) a0_0 a0_1)) = some (r1, r2) := h
 clear h
 have HC4 := ak H
 clear H
 go_enter Try.func91, Try.ntmps91
 go_upto_region 1 with (first | ((with_reducible refine gate_dst (N := 3) rfl ?_); refine box_event ?hg (N := 3) ?hd (cs := #[.string a0_0, .int .i64 a0_1]) (t := 27) ?hr ?_; (case hd => rfl); (case hg => rfl); (case hr => first | (go_simp; done) | (go_simp; rfl)); intro gb105 hg w5 hbox hb; have n0_ := ak (below_step (ul HB.out) hb); have n1_ := ak (hbox); have n2_ := ak ((by rw [hg]; exact (below_size (ul HB.out)) : w.heap.size ≤ gb105)); have n3_ := ak ((by rw [hg]; exact (below_size (ul HB.out)) : w.heap.size ≤ gb105)); clear HB; have HB := n0_; have BK105 := n1_; have GW105 := n2_; have GE105 := n3_; clear n0_ n1_ n2_ n3_; clear hb hbox hg))
 (try simp only [Act.put, s1, s2, s3])
 go_cut [21] (fun v21 wc => ∃ (kq : Nat) (x21_3 : Bool), v21 = .bool x21_3 ∧ Aside0 (bits_Look.j0 kq a1 a2 x21_3 a0_0 a0_1 = some (r1, r2)) ∧ Aside0 (kq ≤ k) ∧ Aside0 (wc.heap[gb105]? = some (.cells #[.string a0_0, .int .i64 a0_1] 27 (0, 0))) ∧ Aside0 (Below w.heap.size w wc))
 case first =>
  have H := HC4.out
  clear HC4
  by_cases c6 : a1 > a0_1
  ·
   rw [if_pos c6] at H
   have c6b0 : decide (a0_1 < a1) = true := decide_eq_true c6
   clear c6
   (first | rw [c6b0] | (simp only [i64_w, i32_w]; rw [c6b0]) | skip)
   have H' := ak H
   clear H
   have hcz7_0 : w5.cell? ⟨gb105, 0, none⟩ = some (.string a0_0) := (blk_cell BK105.out 0).trans rfl
   have hcz7_1 : w5.cell? ⟨gb105, 1, none⟩ = some (.int .i64 a0_1) := (blk_cell BK105.out 1).trans rfl
   have hfz7_0 := blk_frozen BK105.out 0
   have hfz7_1 := blk_frozen BK105.out 1
   go_wp2
   go_meet
   case rel => exact ⟨_, (true), (by first | rfl | (simp; done) | (simp [*]; done)), H', ⟨by first | omega | exact Nat.le_refl _⟩, ⟨ub BK105.out⟩, ⟨by repeat with_reducible first | exact HB.out | apply b1 | apply b2 | apply b3 | refine b4 ?_ GE105.out⟩⟩
  rw [if_neg c6] at H
  have c6b0 : decide (a0_1 < a1) = false := decide_eq_false c6
  clear c6
  (first | rw [c6b0] | (simp only [i64_w, i32_w]; rw [c6b0]) | skip)
  have H' := ak H
  clear H
  have hcz8_0 : w5.cell? ⟨gb105, 0, none⟩ = some (.string a0_0) := (blk_cell BK105.out 0).trans rfl
  have hcz8_1 : w5.cell? ⟨gb105, 1, none⟩ = some (.int .i64 a0_1) := (blk_cell BK105.out 1).trans rfl
  have hfz8_0 := blk_frozen BK105.out 0
  have hfz8_1 := blk_frozen BK105.out 1
  go_wp2
  go_meet
  case rel => exact ⟨_, (decide (a2 > (wrap64 (a0_1 - a1)))), (by first | rfl | (simp; done) | (simp [*]; done)), H', ⟨by first | omega | exact Nat.le_refl _⟩, ⟨ub BK105.out⟩, ⟨by repeat with_reducible first | exact HB.out | apply b1 | apply b2 | apply b3 | refine b4 ?_ GE105.out⟩⟩
 clear HC4
 obtain ⟨kq, x21_3, rfl, HA, HJ3, BK105, HB⟩ := hcut
 cases kq with
 | zero => exact absurd HA.out (by simp [bits_Look.j0])
 | succ kj3 => ?_
 have H := HA.out
 clear HA
 simp only [bits_Look.j0] at H
 by_cases c9 : x21_3 = true
 ·
  subst c9
  rw [if_pos rfl] at H
  simp only [Option.some.injEq, Prod.mk.injEq] at H
  obtain ⟨rfl, rfl⟩ := H
  go_wp2
  go_ret2
  exact ⟨by first | rfl | (simp [errW_none, errW_some] <;> rfl) | (simp [*, errW_none, errW_some] <;> rfl), by repeat with_reducible first | exact HB.out | apply b1 | apply b2 | apply b3 | refine b4 ?_ GE105.out⟩
 replace c9 := Bool.eq_false_iff.mpr c9
 subst c9
 rw [if_neg (show ¬ (false = true) by decide)] at H
 have H' := ak H
 clear H
 go_wp2
 go_loopg [8, 23] kj3 (fun kq v8 v23 w' => ∃ (x8_2 : Int) (x23_2 : Int), v8 = .int .i64 x8_2 ∧ v23 = .int .i64 x23_2 ∧ Aside0 (bits_Look.l0 kq a1 x8_2 a2 x23_2 a0_0 a0_1 = some (r1, r2)) ∧ Aside0 (kq ≤ kj3) ∧ Aside0 (w'.heap[gb105]? = some (.cells #[.string a0_0, .int .i64 a0_1] 27 (0, 0))) ∧ Aside0 (Below w.heap.size w w'))
 case atStart => exact ⟨(0), (0), (by first | rfl | (simp; done) | (simp [*]; done)), (by first | rfl | (simp; done) | (simp [*]; done)), H', ⟨Nat.le_refl _⟩, ⟨ub BK105.out⟩, ⟨by repeat with_reducible first | exact HB.out | apply b1 | apply b2 | apply b3 | refine b4 ?_ GE105.out⟩⟩
 clear H'
 (try clear c9)
 obtain ⟨x8_2, x23_2, rfl, rfl, HA, HK2, BK105, HB⟩ := hrel
 cases gk with
 | zero => exact absurd HA.out (by simp [bits_Look.l0])
 | succ k2 => ?_
 have H := HA.out
 clear HA
 simp only [bits_Look.l0] at H
 by_cases c10 : x23_2 < a2
 rotate_left
 ·
  rw [if_neg c10] at H
  have c10b0 : decide (x23_2 < a2) = false := decide_eq_false c10
  clear c10
  simp only [Option.some.injEq, Prod.mk.injEq] at H
  obtain ⟨rfl, rfl⟩ := H
  go_wp2
  go_ret2
  exact ⟨by first | rfl | (simp [errW_none, errW_some] <;> rfl) | (simp [*, errW_none, errW_some] <;> rfl), by repeat with_reducible first | exact HB.out | apply b1 | apply b2 | apply b3 | refine b4 ?_ GE105.out⟩
 rw [if_pos c10] at H
 have c10b0 : decide (x23_2 < a2) = true := decide_eq_true c10
 clear c10
 replace H := Option.bind_eq_some_iff.mp H
 obtain ⟨t106, A110, H⟩ := H
 try dsimp only at H
 have A11 := ak A110
 clear A110
 have H' := ak H
 clear H
 have hcz12_0 : wr.cell? ⟨gb105, 0, none⟩ = some (.string a0_0) := (blk_cell BK105.out 0).trans rfl
 have hcz12_1 : wr.cell? ⟨gb105, 1, none⟩ = some (.int .i64 a0_1) := (blk_cell BK105.out 1).trans rfl
 have hfz12_0 := blk_frozen BK105.out 0
 have hfz12_1 := blk_frozen BK105.out 1
 go_wp2_with (first | ((with_reducible refine gate_callee (f := 100) rfl ?_); refine goesL_ (some 32) rfl rfl Try.func100 (by kernel_rfl) rfl #[.agg #[.string a0_0, .int .i64 a0_1], .int .i64 (wrap64 (a1 + x23_2))] rfl (by (try simp only [List.map_toArray, List.map_cons, List.map_nil]); first | done | rfl | (simp only [List.length_drop, List.length_take]; rfl)) ?_; (with_reducible refine (bits_bit.calls a0_0 a0_1 (wrap64 (a1 + x23_2)) t106 _ A11.out).mono ?_); rintro e w13 ⟨rfl, hb⟩; refine ⟨_, rfl, ?_⟩; have n0_ := ak (blk_below (g := gb105) (o := .cells #[.string a0_0, .int .i64 a0_1] 27 (0, 0)) (ub BK105.out) hb); have n1_ := ak (below_step (by repeat with_reducible first | exact HB.out | apply b1 | apply b2 | apply b3 | refine b4 ?_ GE105.out) hb); clear BK105; clear HB; have BK105 := n0_; have HB := n1_; clear n0_ n1_; (try clear hb); (try clear hb2); (try clear hk); (try clear hi)))
 go_roundg k2
 case measure => have := HJ3.out; have := HK2.out; omega
 case rel => exact ⟨(Go.bits .or .i64 (wrap64 (x8_2 * 2)) t106), (wrap64 (x23_2 + 1)), (by first | rfl | (simp; done) | (simp [*]; done)), (by first | rfl | (simp; done) | (simp [*]; done)), H', ⟨by have := HJ3.out; have := HK2.out; omega⟩, ⟨ub BK105.out⟩, ⟨by repeat with_reducible first | exact HB.out | apply b1 | apply b2 | apply b3 | refine b4 ?_ GE105.out⟩⟩
end Go.Proofs.Ytnpghcikhpglkaa.Q
namespace Go.Proofs.Ytnpghcikhpglkaa.Q
open Go.RowKit Go.Proofs.YtnpghcikhpglkaaW.PrintWords Go.Proofs.YtnpghcikhpglkaaW.PrintLast Go.Proofs.YtnpghcikhpglkaaW.PrintMore
attribute [local go_sem] max2_int min2_int max_two min_two max_three min_three max_four min_four   -- for this text's walks alone
set_option linter.unusedVariables false
set_option linter.unusedSimpArgs false

/-! ### bits_Get: function 25 -/
def bits_Get.j0 : Nat → Int → Int → Bool → ByteArray → Int → Option (Int × Int)
  | 0, _, _, _, _, _ => none
  | k + 1, x1, x2, x21, x108000, x108001 => if x21 = true then (some (0, 1)) else ((bits_Look.f k x108000 x108001 x1 x2).bind fun bt110 => (if bt110.2 = true then (some (bt110.1, 0)) else (some (0, 9))))
def bits_Get.f (k : Nat) (a0_0 : ByteArray) (a0_1 : Int) (a1 : Int) (a2 : Int) : Option (Int × Int) := (bits_May.f a0_0 a0_1).bind fun t108 => (if t108 = true then (if a1 < 0 then (bits_Get.j0 k a1 a2 true a0_0 a0_1) else ((bits_width.f a2).bind fun t109 => (bits_Get.j0 k a1 a2 (!t109) a0_0 a0_1))) else (bits_Get.j0 k a1 a2 true a0_0 a0_1))
set_option maxHeartbeats 8000000 in
set_option maxRecDepth 100000 in
theorem bits_Get.calls (k : Nat) (a0_0 : ByteArray) (a0_1 : Int) (a1 : Int) (a2 : Int) (r1 : Int) (r2 : Int) (w : World) (h : bits_Get.f k a0_0 a0_1 a1 a2 = some (r1, r2)) :
    Calls Try.prog 25 #[.agg #[.string a0_0, .int .i64 a0_1], .int .i64 a1, .int .i64 a2] w fun e w' => e = .returned (.tuple #[.int .i64 r1, .int .i64 r2]) ∧ Below w.heap.size w w' := by
 have hu27 := Try.underlying27
 have HB := ak (Below.refl w.heap.size w)
 have H : ((bits_May.f a0_0 a0_1).bind fun t108 => (if t108 = true then (if a1 < 0 then (bits_Get.j0 k a1 a2 true a0_0 a0_1) else ((bits_width.f a2).bind fun t109 => (bits_Get.j0 k a1 a2 (!t109) a0_0 a0_1))) else (bits_Get.j0 k a1 a2 true a0_0 a0_1))) = some (r1, r2) := h
 clear h
 have HC4 := ak H
 clear H
 go_enter Try.func25, Try.ntmps25
 go_upto_region 1 with (first | ((with_reducible refine gate_dst (N := 3) rfl ?_); refine box_event ?hg (N := 3) ?hd (cs := #[.string a0_0, .int .i64 a0_1]) (t := 27) ?hr ?_; (case hd => rfl); (case hg => rfl); (case hr => first | (go_simp; done) | (go_simp; rfl)); intro gb107 hg w5 hbox hb; have n0_ := ak (below_step (ul HB.out) hb); have n1_ := ak (hbox); have n2_ := ak ((by rw [hg]; exact (below_size (ul HB.out)) : w.heap.size ≤ gb107)); have n3_ := ak ((by rw [hg]; exact (below_size (ul HB.out)) : w.heap.size ≤ gb107)); clear HB; have HB := n0_; have BK107 := n1_; have GW107 := n2_; have GE107 := n3_; clear n0_ n1_ n2_ n3_; clear hb hbox hg))
 (try simp only [Act.put, s1, s2, s3])
 go_cut [21] (fun v21 wc => ∃ (kq : Nat) (x21_3 : Bool), v21 = .bool x21_3 ∧ Aside0 (bits_Get.j0 kq a1 a2 x21_3 a0_0 a0_1 = some (r1, r2)) ∧ Aside0 (kq ≤ k) ∧ Aside0 (wc.heap[gb107]? = some (.cells #[.string a0_0, .int .i64 a0_1] 27 (0, 0))) ∧ Aside0 (Below w.heap.size w wc))
 case first =>
  have H := HC4.out
  clear HC4
  replace H := Option.bind_eq_some_iff.mp H
  obtain ⟨t108, A60, H⟩ := H
  try dsimp only at H
  have A6 := ak A60
  clear A60
  by_cases c7 : t108 = true
  rotate_left
  ·
   replace c7 := Bool.eq_false_iff.mpr c7
   subst c7
   rw [if_neg (show ¬ (false = true) by decide)] at H
   have H' := ak H
   clear H
   have hcz14_0 : w5.cell? ⟨gb107, 0, none⟩ = some (.string a0_0) := (blk_cell BK107.out 0).trans rfl
   have hcz14_1 : w5.cell? ⟨gb107, 1, none⟩ = some (.int .i64 a0_1) := (blk_cell BK107.out 1).trans rfl
   have hfz14_0 := blk_frozen BK107.out 0
   have hfz14_1 := blk_frozen BK107.out 1
   go_wp2_with (first | ((with_reducible refine gate_callee (f := 86) rfl ?_); refine goesL_ (some 11) rfl rfl Try.func86 (by kernel_rfl) rfl #[.agg #[.string a0_0, .int .i64 a0_1]] rfl (by (try simp only [List.map_toArray, List.map_cons, List.map_nil]); first | done | rfl | (simp only [List.length_drop, List.length_take]; rfl)) ?_; (with_reducible refine (bits_May.calls a0_0 a0_1 false _ A6.out).mono ?_); rintro e w15 ⟨rfl, hb⟩; refine ⟨_, rfl, ?_⟩; have n0_ := ak (blk_below (g := gb107) (o := .cells #[.string a0_0, .int .i64 a0_1] 27 (0, 0)) (ub BK107.out) hb); have n1_ := ak (below_step (by repeat with_reducible first | exact HB.out | apply b1 | apply b2 | apply b3 | refine b4 ?_ GE107.out) hb); clear BK107; clear HB; have BK107 := n0_; have HB := n1_; clear n0_ n1_; (try clear hb); (try clear hb2); (try clear hk); (try clear hi)))
   go_meet
   case rel => exact ⟨_, (true), (by first | rfl | (simp; done) | (simp [*]; done)), H', ⟨by first | omega | exact Nat.le_refl _⟩, ⟨ub BK107.out⟩, ⟨by repeat with_reducible first | exact HB.out | apply b1 | apply b2 | apply b3 | refine b4 ?_ GE107.out⟩⟩
  subst c7
  rw [if_pos rfl] at H
  by_cases c8 : a1 < 0
  ·
   rw [if_pos c8] at H
   have c8b0 : decide (a1 < 0) = true := decide_eq_true c8
   clear c8
   (first | rw [c8b0] | (simp only [i64_w, i32_w]; rw [c8b0]) | skip)
   have H' := ak H
   clear H
   have hcz9_0 : w5.cell? ⟨gb107, 0, none⟩ = some (.string a0_0) := (blk_cell BK107.out 0).trans rfl
   have hcz9_1 : w5.cell? ⟨gb107, 1, none⟩ = some (.int .i64 a0_1) := (blk_cell BK107.out 1).trans rfl
   have hfz9_0 := blk_frozen BK107.out 0
   have hfz9_1 := blk_frozen BK107.out 1
   go_wp2_with (first | ((with_reducible refine gate_callee (f := 86) rfl ?_); refine goesL_ (some 11) rfl rfl Try.func86 (by kernel_rfl) rfl #[.agg #[.string a0_0, .int .i64 a0_1]] rfl (by (try simp only [List.map_toArray, List.map_cons, List.map_nil]); first | done | rfl | (simp only [List.length_drop, List.length_take]; rfl)) ?_; (with_reducible refine (bits_May.calls a0_0 a0_1 true _ A6.out).mono ?_); rintro e w10 ⟨rfl, hb⟩; refine ⟨_, rfl, ?_⟩; have n0_ := ak (blk_below (g := gb107) (o := .cells #[.string a0_0, .int .i64 a0_1] 27 (0, 0)) (ub BK107.out) hb); have n1_ := ak (below_step (by repeat with_reducible first | exact HB.out | apply b1 | apply b2 | apply b3 | refine b4 ?_ GE107.out) hb); clear BK107; clear HB; have BK107 := n0_; have HB := n1_; clear n0_ n1_; (try clear hb); (try clear hb2); (try clear hk); (try clear hi)))
   go_meet
   case rel => exact ⟨_, (true), (by first | rfl | (simp; done) | (simp [*]; done)), H', ⟨by first | omega | exact Nat.le_refl _⟩, ⟨ub BK107.out⟩, ⟨by repeat with_reducible first | exact HB.out | apply b1 | apply b2 | apply b3 | refine b4 ?_ GE107.out⟩⟩
  rw [if_neg c8] at H
  have c8b0 : decide (a1 < 0) = false := decide_eq_false c8
  clear c8
  (first | rw [c8b0] | (simp only [i64_w, i32_w]; rw [c8b0]) | skip)
  replace H := Option.bind_eq_some_iff.mp H
  obtain ⟨t109, A110, H⟩ := H
  try dsimp only at H
  have A11 := ak A110
  clear A110
  have H' := ak H
  clear H
  have hcz12_0 : w5.cell? ⟨gb107, 0, none⟩ = some (.string a0_0) := (blk_cell BK107.out 0).trans rfl
  have hcz12_1 : w5.cell? ⟨gb107, 1, none⟩ = some (.int .i64 a0_1) := (blk_cell BK107.out 1).trans rfl
  have hfz12_0 := blk_frozen BK107.out 0
  have hfz12_1 := blk_frozen BK107.out 1
  go_wp2_with (first | ((with_reducible refine gate_callee (f := 86) rfl ?_); refine goesL_ (some 11) rfl rfl Try.func86 (by kernel_rfl) rfl #[.agg #[.string a0_0, .int .i64 a0_1]] rfl (by (try simp only [List.map_toArray, List.map_cons, List.map_nil]); first | done | rfl | (simp only [List.length_drop, List.length_take]; rfl)) ?_; (with_reducible refine (bits_May.calls a0_0 a0_1 true _ A6.out).mono ?_); rintro e w13 ⟨rfl, hb⟩; refine ⟨_, rfl, ?_⟩; have n0_ := ak (blk_below (g := gb107) (o := .cells #[.string a0_0, .int .i64 a0_1] 27 (0, 0)) (ub BK107.out) hb); have n1_ := ak (below_step (by repeat with_reducible first | exact HB.out | apply b1 | apply b2 | apply b3 | refine b4 ?_ GE107.out) hb); clear BK107; clear HB; have BK107 := n0_; have HB := n1_; clear n0_ n1_; (try clear hb); (try clear hb2); (try clear hk); (try clear hi)) | (go_at_call 87; (with_reducible refine (bits_width.calls a2 t109 _ A11.out).mono ?_); rintro e w' ⟨rfl, ⟨nd, rfl⟩⟩))
  go_meet
  case rel => exact ⟨_, (!t109), (by first | rfl | (simp; done) | (simp [*]; done)), H', ⟨by first | omega | exact Nat.le_refl _⟩, ⟨ub BK107.out⟩, ⟨by repeat with_reducible first | exact HB.out | apply b1 | apply b2 | apply b3 | refine b4 ?_ GE107.out⟩⟩
 clear HC4
 obtain ⟨kq, x21_3, rfl, HA, HJ3, BK107, HB⟩ := hcut
 cases kq with
 | zero => exact absurd HA.out (by simp [bits_Get.j0])
 | succ kj3 => ?_
 have H := HA.out
 clear HA
 simp only [bits_Get.j0] at H
 by_cases c16 : x21_3 = true
 ·
  subst c16
  rw [if_pos rfl] at H
  simp only [Option.some.injEq, Prod.mk.injEq] at H
  obtain ⟨rfl, rfl⟩ := H
  go_wp2
  go_ret2
  exact ⟨by first | rfl | (simp [errW_none, errW_some] <;> rfl) | (simp [*, errW_none, errW_some] <;> rfl), by repeat with_reducible first | exact HB.out | apply b1 | apply b2 | apply b3 | refine b4 ?_ GE107.out⟩
 replace c16 := Bool.eq_false_iff.mpr c16
 subst c16
 rw [if_neg (show ¬ (false = true) by decide)] at H
 replace H := Option.bind_eq_some_iff.mp H
 obtain ⟨⟨t110, t111⟩, A170, H⟩ := H
 try dsimp only at H
 have A17 := ak A170
 clear A170
 by_cases c18 : t111 = true
 ·
  subst c18
  rw [if_pos rfl] at H
  simp only [Option.some.injEq, Prod.mk.injEq] at H
  obtain ⟨rfl, rfl⟩ := H
  have hcz19_0 : wc.cell? ⟨gb107, 0, none⟩ = some (.string a0_0) := (blk_cell BK107.out 0).trans rfl
  have hcz19_1 : wc.cell? ⟨gb107, 1, none⟩ = some (.int .i64 a0_1) := (blk_cell BK107.out 1).trans rfl
  have hfz19_0 := blk_frozen BK107.out 0
  have hfz19_1 := blk_frozen BK107.out 1
  go_wp2_with (first | ((with_reducible refine gate_callee (f := 91) rfl ?_); refine goesL_ (some 26) rfl rfl Try.func91 (by kernel_rfl) rfl #[.agg #[.string a0_0, .int .i64 a0_1], .int .i64 a1, .int .i64 a2] rfl (by (try simp only [List.map_toArray, List.map_cons, List.map_nil]); first | done | rfl | (simp only [List.length_drop, List.length_take]; rfl)) ?_; (with_reducible refine (bits_Look.calls kj3 a0_0 a0_1 a1 a2 t110 true _ A17.out).mono ?_); rintro e w20 ⟨rfl, hb⟩; refine ⟨_, rfl, ?_⟩; have n0_ := ak (blk_below (g := gb107) (o := .cells #[.string a0_0, .int .i64 a0_1] 27 (0, 0)) (ub BK107.out) hb); have n1_ := ak (below_step (by repeat with_reducible first | exact HB.out | apply b1 | apply b2 | apply b3 | refine b4 ?_ GE107.out) hb); clear BK107; clear HB; have BK107 := n0_; have HB := n1_; clear n0_ n1_; (try clear hb); (try clear hb2); (try clear hk); (try clear hi)))
  go_ret2
  exact ⟨by first | rfl | (simp [errW_none, errW_some] <;> rfl) | (simp [*, errW_none, errW_some] <;> rfl), by repeat with_reducible first | exact HB.out | apply b1 | apply b2 | apply b3 | refine b4 ?_ GE107.out⟩
 replace c18 := Bool.eq_false_iff.mpr c18
 subst c18
 rw [if_neg (show ¬ (false = true) by decide)] at H
 simp only [Option.some.injEq, Prod.mk.injEq] at H
 obtain ⟨rfl, rfl⟩ := H
 have hcz21_0 : wc.cell? ⟨gb107, 0, none⟩ = some (.string a0_0) := (blk_cell BK107.out 0).trans rfl
 have hcz21_1 : wc.cell? ⟨gb107, 1, none⟩ = some (.int .i64 a0_1) := (blk_cell BK107.out 1).trans rfl
 have hfz21_0 := blk_frozen BK107.out 0
 have hfz21_1 := blk_frozen BK107.out 1
 go_wp2_with (first | ((with_reducible refine gate_callee (f := 91) rfl ?_); refine goesL_ (some 26) rfl rfl Try.func91 (by kernel_rfl) rfl #[.agg #[.string a0_0, .int .i64 a0_1], .int .i64 a1, .int .i64 a2] rfl (by (try simp only [List.map_toArray, List.map_cons, List.map_nil]); first | done | rfl | (simp only [List.length_drop, List.length_take]; rfl)) ?_; (with_reducible refine (bits_Look.calls kj3 a0_0 a0_1 a1 a2 t110 false _ A17.out).mono ?_); rintro e w22 ⟨rfl, hb⟩; refine ⟨_, rfl, ?_⟩; have n0_ := ak (blk_below (g := gb107) (o := .cells #[.string a0_0, .int .i64 a0_1] 27 (0, 0)) (ub BK107.out) hb); have n1_ := ak (below_step (by repeat with_reducible first | exact HB.out | apply b1 | apply b2 | apply b3 | refine b4 ?_ GE107.out) hb); clear BK107; clear HB; have BK107 := n0_; have HB := n1_; clear n0_ n1_; (try clear hb); (try clear hb2); (try clear hk); (try clear hi)))
 go_ret2
 exact ⟨by first | rfl | (simp [errW_none, errW_some] <;> rfl) | (simp [*, errW_none, errW_some] <;> rfl), by repeat with_reducible first | exact HB.out | apply b1 | apply b2 | apply b3 | refine b4 ?_ GE107.out⟩
end Go.Proofs.Ytnpghcikhpglkaa.Q
namespace Go.Proofs.Ytnpghcikhpglkaa.Q
open Go.RowKit Go.Proofs.YtnpghcikhpglkaaW.PrintWords Go.Proofs.YtnpghcikhpglkaaW.PrintLast Go.Proofs.YtnpghcikhpglkaaW.PrintMore
attribute [local go_sem] max2_int min2_int max_two min_two max_three min_three max_four min_four   -- for this text's walks alone
set_option linter.unusedVariables false
set_option linter.unusedSimpArgs false

/-! ### herbariumlaw1_num: function 26 -/
def herbariumlaw1_num.f (a0 : Int) : Option (Int) := some a0
set_option maxHeartbeats 8000000 in
set_option maxRecDepth 100000 in
theorem herbariumlaw1_num.calls (a0 : Int) (r : Int) (w : World) (h : herbariumlaw1_num.f a0 = some r) :
    Calls Try.prog 26 #[.int .i64 a0] w fun e w' => e = .returned (.int .i64 r) ∧ Drawn0 w w' := by
 have H : (some a0) = some r := h
 clear h
 obtain rfl := Option.some.inj H
 go_enter Try.func26, Try.ntmps26
 go_wp2
 go_ret
 exact ⟨by first | rfl | (simp; done) | (simp [*]; done), by repeat (first | exact Drawn0.refl _ | apply Drawn0.step)⟩
end Go.Proofs.Ytnpghcikhpglkaa.Q
namespace Go.Proofs.Ytnpghcikhpglkaa.Q
open Go.RowKit Go.Proofs.YtnpghcikhpglkaaW.PrintWords Go.Proofs.YtnpghcikhpglkaaW.PrintLast Go.Proofs.YtnpghcikhpglkaaW.PrintMore
attribute [local go_sem] max2_int min2_int max_two min_two max_three min_three max_four min_four   -- for this text's walks alone
set_option linter.unusedVariables false
set_option linter.unusedSimpArgs false

/-! ### bits_Ahead: function 96 -/
def bits_Ahead.l0 : Nat → Int → Int → ByteArray → Int → Option (Int)
  | 0, _, _, _, _ => none
  | k + 1, x1, x5, x216000, x216001 => if x5 < x216001 then ((bits_bit.f x216000 x216001 x5).bind fun t216 => (if t216 = 1 then (some (wrap64 (x5 - x1))) else (bits_Ahead.l0 k x1 (wrap64 (x5 + 1)) x216000 x216001))) else (some (-1))
def bits_Ahead.f (k : Nat) (a0_0 : ByteArray) (a0_1 : Int) (a1 : Int) : Option (Int) := bits_Ahead.l0 k a1 a1 a0_0 a0_1
set_option maxHeartbeats 8000000 in
set_option maxRecDepth 100000 in
theorem bits_Ahead.calls (k : Nat) (a0_0 : ByteArray) (a0_1 : Int) (a1 : Int) (r : Int) (w : World) (h : bits_Ahead.f k a0_0 a0_1 a1 = some r) :
    Calls Try.prog 96 #[.agg #[.string a0_0, .int .i64 a0_1], .int .i64 a1] w fun e w' => e = .returned (.int .i64 r) ∧ Below w.heap.size w w' := by
 have hu27 := Try.underlying27
 have HB := ak (Below.refl w.heap.size w)
 have H : (bits_Ahead.l0 k a1 a1 a0_0 a0_1) = some r := h
 clear h
 have H' := ak H
 clear H
 go_enter Try.func96, Try.ntmps96
 go_wp2_with (first | ((with_reducible refine gate_dst (N := 2) rfl ?_); refine box_event ?hg (N := 2) ?hd (cs := #[.string a0_0, .int .i64 a0_1]) (t := 27) ?hr ?_; (case hd => rfl); (case hg => rfl); (case hr => first | (go_simp; done) | (go_simp; rfl)); intro gb215 hg w3 hbox hb; have n0_ := ak (below_step (ul HB.out) hb); have n1_ := ak (hbox); have n2_ := ak ((by rw [hg]; exact (below_size (ul HB.out)) : w.heap.size ≤ gb215)); have n3_ := ak ((by rw [hg]; exact (below_size (ul HB.out)) : w.heap.size ≤ gb215)); clear HB; have HB := n0_; have BK215 := n1_; have GW215 := n2_; have GE215 := n3_; clear n0_ n1_ n2_ n3_; clear hb hbox hg))
 go_loopg [5] k (fun kq v5 w' => ∃ (x5_1 : Int), v5 = .int .i64 x5_1 ∧ Aside0 (bits_Ahead.l0 kq a1 x5_1 a0_0 a0_1 = some r) ∧ Aside0 (kq ≤ k) ∧ Aside0 (w'.heap[gb215]? = some (.cells #[.string a0_0, .int .i64 a0_1] 27 (0, 0))) ∧ Aside0 (Below w.heap.size w w'))
 case atStart => exact ⟨(a1), (by first | rfl | (simp; done) | (simp [*]; done)), H', ⟨Nat.le_refl _⟩, ⟨ub BK215.out⟩, ⟨by repeat with_reducible first | exact HB.out | apply b1 | apply b2 | apply b3 | refine b4 ?_ GE215.out⟩⟩
 clear H'
 obtain ⟨x5_1, rfl, HA, HK1, BK215, HB⟩ := hrel
 cases gk with
 | zero => exact absurd HA.out (by simp [bits_Ahead.l0])
 | succ k1 => ?_
 have H := HA.out
 clear HA
 simp only [bits_Ahead.l0] at H
 by_cases c4 : x5_1 < a0_1
 rotate_left
 ·
  rw [if_neg c4] at H
  have c4b0 : decide (x5_1 < a0_1) = false := decide_eq_false c4
  clear c4
  obtain rfl := Option.some.inj H
  have hcz11_0 : wr.cell? ⟨gb215, 0, none⟩ = some (.string a0_0) := (blk_cell BK215.out 0).trans rfl
  have hcz11_1 : wr.cell? ⟨gb215, 1, none⟩ = some (.int .i64 a0_1) := (blk_cell BK215.out 1).trans rfl
  have hfz11_0 := blk_frozen BK215.out 0
  have hfz11_1 := blk_frozen BK215.out 1
  go_wp2
  go_ret
  exact ⟨by first | rfl | (simp [errW_none, errW_some] <;> rfl) | (simp [*, errW_none, errW_some] <;> rfl), by repeat with_reducible first | exact HB.out | apply b1 | apply b2 | apply b3 | refine b4 ?_ GE215.out⟩
 rw [if_pos c4] at H
 have c4b0 : decide (x5_1 < a0_1) = true := decide_eq_true c4
 clear c4
 replace H := Option.bind_eq_some_iff.mp H
 obtain ⟨t216, A50, H⟩ := H
 try dsimp only at H
 have A5 := ak A50
 clear A50
 by_cases c6 : t216 = 1
 ·
  rw [if_pos c6] at H
  have c6b0 : (t216 == 1) = true := beq_iff_eq.mpr c6
  have c6b1 : (t216 != 1) = false := bne_eq_false_iff_eq.mpr c6
  clear c6
  obtain rfl := Option.some.inj H
  have hcz7_0 : wr.cell? ⟨gb215, 0, none⟩ = some (.string a0_0) := (blk_cell BK215.out 0).trans rfl
  have hcz7_1 : wr.cell? ⟨gb215, 1, none⟩ = some (.int .i64 a0_1) := (blk_cell BK215.out 1).trans rfl
  have hfz7_0 := blk_frozen BK215.out 0
  have hfz7_1 := blk_frozen BK215.out 1
  go_wp2_with (first | ((with_reducible refine gate_callee (f := 100) rfl ?_); refine goesL_ (some 15) rfl rfl Try.func100 (by kernel_rfl) rfl #[.agg #[.string a0_0, .int .i64 a0_1], .int .i64 x5_1] rfl (by (try simp only [List.map_toArray, List.map_cons, List.map_nil]); first | done | rfl | (simp only [List.length_drop, List.length_take]; rfl)) ?_; (with_reducible refine (bits_bit.calls a0_0 a0_1 x5_1 t216 _ A5.out).mono ?_); rintro e w8 ⟨rfl, hb⟩; refine ⟨_, rfl, ?_⟩; have n0_ := ak (blk_below (g := gb215) (o := .cells #[.string a0_0, .int .i64 a0_1] 27 (0, 0)) (ub BK215.out) hb); have n1_ := ak (below_step (by repeat with_reducible first | exact HB.out | apply b1 | apply b2 | apply b3 | refine b4 ?_ GE215.out) hb); clear BK215; clear HB; have BK215 := n0_; have HB := n1_; clear n0_ n1_; (try clear hb); (try clear hb2); (try clear hk); (try clear hi)))
  go_ret
  exact ⟨by first | rfl | (simp [errW_none, errW_some] <;> rfl) | (simp [*, errW_none, errW_some] <;> rfl), by repeat with_reducible first | exact HB.out | apply b1 | apply b2 | apply b3 | refine b4 ?_ GE215.out⟩
 rw [if_neg c6] at H
 have c6b0 : (t216 == 1) = false := beq_eq_false_iff_ne.mpr c6
 have c6b1 : (t216 != 1) = true := bne_iff_ne.mpr c6
 have H' := ak H
 clear H
 have hcz9_0 : wr.cell? ⟨gb215, 0, none⟩ = some (.string a0_0) := (blk_cell BK215.out 0).trans rfl
 have hcz9_1 : wr.cell? ⟨gb215, 1, none⟩ = some (.int .i64 a0_1) := (blk_cell BK215.out 1).trans rfl
 have hfz9_0 := blk_frozen BK215.out 0
 have hfz9_1 := blk_frozen BK215.out 1
 go_wp2_with (first | ((with_reducible refine gate_callee (f := 100) rfl ?_); refine goesL_ (some 15) rfl rfl Try.func100 (by kernel_rfl) rfl #[.agg #[.string a0_0, .int .i64 a0_1], .int .i64 x5_1] rfl (by (try simp only [List.map_toArray, List.map_cons, List.map_nil]); first | done | rfl | (simp only [List.length_drop, List.length_take]; rfl)) ?_; (with_reducible refine (bits_bit.calls a0_0 a0_1 x5_1 t216 _ A5.out).mono ?_); rintro e w10 ⟨rfl, hb⟩; refine ⟨_, rfl, ?_⟩; have n0_ := ak (blk_below (g := gb215) (o := .cells #[.string a0_0, .int .i64 a0_1] 27 (0, 0)) (ub BK215.out) hb); have n1_ := ak (below_step (by repeat with_reducible first | exact HB.out | apply b1 | apply b2 | apply b3 | refine b4 ?_ GE215.out) hb); clear BK215; clear HB; have BK215 := n0_; have HB := n1_; clear n0_ n1_; (try clear hb); (try clear hb2); (try clear hk); (try clear hi)))
 go_roundg k1
 case measure => have := HK1.out; omega
 case rel => exact ⟨(wrap64 (x5_1 + 1)), (by first | rfl | (simp; done) | (simp [*]; done)), H', ⟨by have := HK1.out; omega⟩, ⟨ub BK215.out⟩, ⟨by repeat with_reducible first | exact HB.out | apply b1 | apply b2 | apply b3 | refine b4 ?_ GE215.out⟩⟩
end Go.Proofs.Ytnpghcikhpglkaa.Q
namespace Go.Proofs.Ytnpghcikhpglkaa.Q
open Go.RowKit Go.Proofs.YtnpghcikhpglkaaW.PrintWords Go.Proofs.YtnpghcikhpglkaaW.PrintLast Go.Proofs.YtnpghcikhpglkaaW.PrintMore
attribute [local go_sem] max2_int min2_int max_two min_two max_three min_three max_four min_four   -- for this text's walks alone
set_option linter.unusedVariables false
set_option linter.unusedSimpArgs false

/-! ### bits_Zeros: function 35 -/
def bits_Zeros.j0 : Nat → Int → Bool → ByteArray → Int → Option (Int × Int)
  | 0, _, _, _, _ => none
  | k + 1, x1, x19, x218000, x218001 => if x19 = true then (some (0, 1)) else ((bits_Ahead.f k x218000 x218001 x1).bind fun t219 => (if t219 < 0 then (some (0, 9)) else (some (t219, 0))))
def bits_Zeros.f (k : Nat) (a0_0 : ByteArray) (a0_1 : Int) (a1 : Int) : Option (Int × Int) := (bits_May.f a0_0 a0_1).bind fun t218 => (if t218 = true then (if a1 < 0 then (bits_Zeros.j0 k a1 true a0_0 a0_1) else (bits_Zeros.j0 k a1 (decide (a1 > a0_1)) a0_0 a0_1)) else (bits_Zeros.j0 k a1 true a0_0 a0_1))
set_option maxHeartbeats 8000000 in
set_option maxRecDepth 100000 in
theorem bits_Zeros.calls (k : Nat) (a0_0 : ByteArray) (a0_1 : Int) (a1 : Int) (r1 : Int) (r2 : Int) (w : World) (h : bits_Zeros.f k a0_0 a0_1 a1 = some (r1, r2)) :
    Calls Try.prog 35 #[.agg #[.string a0_0, .int .i64 a0_1], .int .i64 a1] w fun e w' => e = .returned (.tuple #[.int .i64 r1, .int .i64 r2]) ∧ Below w.heap.size w w' := by
 have hu27 := Try.underlying27
 have HB := ak (Below.refl w.heap.size w)
 have H : ((bits_May.f a0_0 a0_1).bind fun t218 => (if t218 = true then (if a1 < 0 then (bits_Zeros.j0 k a1 true a0_0 a0_1) else (bits_Zeros.j0 k a1 (decide (a1 > a0_1)) a0_0 a0_1)) else (bits_Zeros.j0 k a1 true a0_0 a0_1))) = some (r1, r2) := h
 clear h
 have HC3 := ak H
 clear H
 go_enter Try.func35, Try.ntmps35
 go_upto_region 1 with (first | ((with_reducible refine gate_dst (N := 2) rfl ?_); refine box_event ?hg (N := 2) ?hd (cs := #[.string a0_0, .int .i64 a0_1]) (t := 27) ?hr ?_; (case hd => rfl); (case hg => rfl); (case hr => first | (go_simp; done) | (go_simp; rfl)); intro gb217 hg w4 hbox hb; have n0_ := ak (below_step (ul HB.out) hb); have n1_ := ak (hbox); have n2_ := ak ((by rw [hg]; exact (below_size (ul HB.out)) : w.heap.size ≤ gb217)); have n3_ := ak ((by rw [hg]; exact (below_size (ul HB.out)) : w.heap.size ≤ gb217)); clear HB; have HB := n0_; have BK217 := n1_; have GW217 := n2_; have GE217 := n3_; clear n0_ n1_ n2_ n3_; clear hb hbox hg))
 (try simp only [Act.put, s1, s2, s3])
 go_cut [19] (fun v19 wc => ∃ (kq : Nat) (x19_2 : Bool), v19 = .bool x19_2 ∧ Aside0 (bits_Zeros.j0 kq a1 x19_2 a0_0 a0_1 = some (r1, r2)) ∧ Aside0 (kq ≤ k) ∧ Aside0 (wc.heap[gb217]? = some (.cells #[.string a0_0, .int .i64 a0_1] 27 (0, 0))) ∧ Aside0 (Below w.heap.size w wc))
 case first =>
  have H := HC3.out
  clear HC3
  replace H := Option.bind_eq_some_iff.mp H
  obtain ⟨t218, A50, H⟩ := H
  try dsimp only at H
  have A5 := ak A50
  clear A50
  by_cases c6 : t218 = true
  rotate_left
  ·
   replace c6 := Bool.eq_false_iff.mpr c6
   subst c6
   rw [if_neg (show ¬ (false = true) by decide)] at H
   have H' := ak H
   clear H
   have hcz13_0 : w4.cell? ⟨gb217, 0, none⟩ = some (.string a0_0) := (blk_cell BK217.out 0).trans rfl
   have hcz13_1 : w4.cell? ⟨gb217, 1, none⟩ = some (.int .i64 a0_1) := (blk_cell BK217.out 1).trans rfl
   have hfz13_0 := blk_frozen BK217.out 0
   have hfz13_1 := blk_frozen BK217.out 1
   go_wp2_with (first | ((with_reducible refine gate_callee (f := 86) rfl ?_); refine goesL_ (some 8) rfl rfl Try.func86 (by kernel_rfl) rfl #[.agg #[.string a0_0, .int .i64 a0_1]] rfl (by (try simp only [List.map_toArray, List.map_cons, List.map_nil]); first | done | rfl | (simp only [List.length_drop, List.length_take]; rfl)) ?_; (with_reducible refine (bits_May.calls a0_0 a0_1 false _ A5.out).mono ?_); rintro e w14 ⟨rfl, hb⟩; refine ⟨_, rfl, ?_⟩; have n0_ := ak (blk_below (g := gb217) (o := .cells #[.string a0_0, .int .i64 a0_1] 27 (0, 0)) (ub BK217.out) hb); have n1_ := ak (below_step (by repeat with_reducible first | exact HB.out | apply b1 | apply b2 | apply b3 | refine b4 ?_ GE217.out) hb); clear BK217; clear HB; have BK217 := n0_; have HB := n1_; clear n0_ n1_; (try clear hb); (try clear hb2); (try clear hk); (try clear hi)))
   go_meet
   case rel => exact ⟨_, (true), (by first | rfl | (simp; done) | (simp [*]; done)), H', ⟨by first | omega | exact Nat.le_refl _⟩, ⟨ub BK217.out⟩, ⟨by repeat with_reducible first | exact HB.out | apply b1 | apply b2 | apply b3 | refine b4 ?_ GE217.out⟩⟩
  subst c6
  rw [if_pos rfl] at H
  by_cases c7 : a1 < 0
  ·
   rw [if_pos c7] at H
   have c7b0 : decide (a1 < 0) = true := decide_eq_true c7
   clear c7
   (first | rw [c7b0] | (simp only [i64_w, i32_w]; rw [c7b0]) | skip)
   have H' := ak H
   clear H
   have hcz8_0 : w4.cell? ⟨gb217, 0, none⟩ = some (.string a0_0) := (blk_cell BK217.out 0).trans rfl
   have hcz8_1 : w4.cell? ⟨gb217, 1, none⟩ = some (.int .i64 a0_1) := (blk_cell BK217.out 1).trans rfl
   have hfz8_0 := blk_frozen BK217.out 0
   have hfz8_1 := blk_frozen BK217.out 1
   go_wp2_with (first | ((with_reducible refine gate_callee (f := 86) rfl ?_); refine goesL_ (some 8) rfl rfl Try.func86 (by kernel_rfl) rfl #[.agg #[.string a0_0, .int .i64 a0_1]] rfl (by (try simp only [List.map_toArray, List.map_cons, List.map_nil]); first | done | rfl | (simp only [List.length_drop, List.length_take]; rfl)) ?_; (with_reducible refine (bits_May.calls a0_0 a0_1 true _ A5.out).mono ?_); rintro e w9 ⟨rfl, hb⟩; refine ⟨_, rfl, ?_⟩; have n0_ := ak (blk_below (g := gb217) (o := .cells #[.string a0_0, .int .i64 a0_1] 27 (0, 0)) (ub BK217.out) hb); have n1_ := ak (below_step (by repeat with_reducible first | exact HB.out | apply b1 | apply b2 | apply b3 | refine b4 ?_ GE217.out) hb); clear BK217; clear HB; have BK217 := n0_; have HB := n1_; clear n0_ n1_; (try clear hb); (try clear hb2); (try clear hk); (try clear hi)))
   go_meet
   case rel => exact ⟨_, (true), (by first | rfl | (simp; done) | (simp [*]; done)), H', ⟨by first | omega | exact Nat.le_refl _⟩, ⟨ub BK217.out⟩, ⟨by repeat with_reducible first | exact HB.out | apply b1 | apply b2 | apply b3 | refine b4 ?_ GE217.out⟩⟩
  rw [if_neg c7] at H
  have c7b0 : decide (a1 < 0) = false := decide_eq_false c7
  clear c7
  (first | rw [c7b0] | (simp only [i64_w, i32_w]; rw [c7b0]) | skip)
  have H' := ak H
  clear H
  have hcz10_0 : w4.cell? ⟨gb217, 0, none⟩ = some (.string a0_0) := (blk_cell BK217.out 0).trans rfl
  have hcz10_1 : w4.cell? ⟨gb217, 1, none⟩ = some (.int .i64 a0_1) := (blk_cell BK217.out 1).trans rfl
  have hfz10_0 := blk_frozen BK217.out 0
  have hfz10_1 := blk_frozen BK217.out 1
  go_wp2_with (first | ((with_reducible refine gate_callee (f := 86) rfl ?_); refine goesL_ (some 8) rfl rfl Try.func86 (by kernel_rfl) rfl #[.agg #[.string a0_0, .int .i64 a0_1]] rfl (by (try simp only [List.map_toArray, List.map_cons, List.map_nil]); first | done | rfl | (simp only [List.length_drop, List.length_take]; rfl)) ?_; (with_reducible refine (bits_May.calls a0_0 a0_1 true _ A5.out).mono ?_); rintro e w11 ⟨rfl, hb⟩; refine ⟨_, rfl, ?_⟩; have n0_ := ak (blk_below (g := gb217) (o := .cells #[.string a0_0, .int .i64 a0_1] 27 (0, 0)) (ub BK217.out) hb); have n1_ := ak (below_step (by repeat with_reducible first | exact HB.out | apply b1 | apply b2 | apply b3 | refine b4 ?_ GE217.out) hb); clear BK217; clear HB; have BK217 := n0_; have HB := n1_; clear n0_ n1_; (try clear hb); (try clear hb2); (try clear hk); (try clear hi); have hcz12_0 : w11.cell? ⟨gb217, 0, none⟩ = some (.string a0_0) := (blk_cell BK217.out 0).trans rfl; have hcz12_1 : w11.cell? ⟨gb217, 1, none⟩ = some (.int .i64 a0_1) := (blk_cell BK217.out 1).trans rfl; have hfz12_0 := blk_frozen BK217.out 0; have hfz12_1 := blk_frozen BK217.out 1))
  go_meet
  case rel => exact ⟨_, (decide (a1 > a0_1)), (by first | rfl | (simp; done) | (simp [*]; done)), H', ⟨by first | omega | exact Nat.le_refl _⟩, ⟨ub BK217.out⟩, ⟨by repeat with_reducible first | exact HB.out | apply b1 | apply b2 | apply b3 | refine b4 ?_ GE217.out⟩⟩
 clear HC3
 obtain ⟨kq, x19_2, rfl, HA, HJ2, BK217, HB⟩ := hcut
 cases kq with
 | zero => exact absurd HA.out (by simp [bits_Zeros.j0])
 | succ kj2 => ?_
 have H := HA.out
 clear HA
 simp only [bits_Zeros.j0] at H
 by_cases c15 : x19_2 = true
 ·
  subst c15
  rw [if_pos rfl] at H
  simp only [Option.some.injEq, Prod.mk.injEq] at H
  obtain ⟨rfl, rfl⟩ := H
  go_wp2
  go_ret2
  exact ⟨by first | rfl | (simp [errW_none, errW_some] <;> rfl) | (simp [*, errW_none, errW_some] <;> rfl), by repeat with_reducible first | exact HB.out | apply b1 | apply b2 | apply b3 | refine b4 ?_ GE217.out⟩
 replace c15 := Bool.eq_false_iff.mpr c15
 subst c15
 rw [if_neg (show ¬ (false = true) by decide)] at H
 replace H := Option.bind_eq_some_iff.mp H
 obtain ⟨t219, A160, H⟩ := H
 try dsimp only at H
 have A16 := ak A160
 clear A160
 by_cases c17 : t219 < 0
 ·
  rw [if_pos c17] at H
  have c17b0 : decide (t219 < 0) = true := decide_eq_true c17
  clear c17
  simp only [Option.some.injEq, Prod.mk.injEq] at H
  obtain ⟨rfl, rfl⟩ := H
  have hcz18_0 : wc.cell? ⟨gb217, 0, none⟩ = some (.string a0_0) := (blk_cell BK217.out 0).trans rfl
  have hcz18_1 : wc.cell? ⟨gb217, 1, none⟩ = some (.int .i64 a0_1) := (blk_cell BK217.out 1).trans rfl
  have hfz18_0 := blk_frozen BK217.out 0
  have hfz18_1 := blk_frozen BK217.out 1
  go_wp2_with (first | ((with_reducible refine gate_callee (f := 96) rfl ?_); refine goesL_ (some 22) rfl rfl Try.func96 (by kernel_rfl) rfl #[.agg #[.string a0_0, .int .i64 a0_1], .int .i64 a1] rfl (by (try simp only [List.map_toArray, List.map_cons, List.map_nil]); first | done | rfl | (simp only [List.length_drop, List.length_take]; rfl)) ?_; (with_reducible refine (bits_Ahead.calls kj2 a0_0 a0_1 a1 t219 _ A16.out).mono ?_); rintro e w19 ⟨rfl, hb⟩; refine ⟨_, rfl, ?_⟩; have n0_ := ak (blk_below (g := gb217) (o := .cells #[.string a0_0, .int .i64 a0_1] 27 (0, 0)) (ub BK217.out) hb); have n1_ := ak (below_step (by repeat with_reducible first | exact HB.out | apply b1 | apply b2 | apply b3 | refine b4 ?_ GE217.out) hb); clear BK217; clear HB; have BK217 := n0_; have HB := n1_; clear n0_ n1_; (try clear hb); (try clear hb2); (try clear hk); (try clear hi)))
  go_ret2
  exact ⟨by first | rfl | (simp [errW_none, errW_some] <;> rfl) | (simp [*, errW_none, errW_some] <;> rfl), by repeat with_reducible first | exact HB.out | apply b1 | apply b2 | apply b3 | refine b4 ?_ GE217.out⟩
 rw [if_neg c17] at H
 have c17b0 : decide (t219 < 0) = false := decide_eq_false c17
 clear c17
 simp only [Option.some.injEq, Prod.mk.injEq] at H
 obtain ⟨rfl, rfl⟩ := H
 have hcz20_0 : wc.cell? ⟨gb217, 0, none⟩ = some (.string a0_0) := (blk_cell BK217.out 0).trans rfl
 have hcz20_1 : wc.cell? ⟨gb217, 1, none⟩ = some (.int .i64 a0_1) := (blk_cell BK217.out 1).trans rfl
 have hfz20_0 := blk_frozen BK217.out 0
 have hfz20_1 := blk_frozen BK217.out 1
 go_wp2_with (first | ((with_reducible refine gate_callee (f := 96) rfl ?_); refine goesL_ (some 22) rfl rfl Try.func96 (by kernel_rfl) rfl #[.agg #[.string a0_0, .int .i64 a0_1], .int .i64 a1] rfl (by (try simp only [List.map_toArray, List.map_cons, List.map_nil]); first | done | rfl | (simp only [List.length_drop, List.length_take]; rfl)) ?_; (with_reducible refine (bits_Ahead.calls kj2 a0_0 a0_1 a1 t219 _ A16.out).mono ?_); rintro e w21 ⟨rfl, hb⟩; refine ⟨_, rfl, ?_⟩; have n0_ := ak (blk_below (g := gb217) (o := .cells #[.string a0_0, .int .i64 a0_1] 27 (0, 0)) (ub BK217.out) hb); have n1_ := ak (below_step (by repeat with_reducible first | exact HB.out | apply b1 | apply b2 | apply b3 | refine b4 ?_ GE217.out) hb); clear BK217; clear HB; have BK217 := n0_; have HB := n1_; clear n0_ n1_; (try clear hb); (try clear hb2); (try clear hk); (try clear hi)))
 go_ret2
 exact ⟨by first | rfl | (simp [errW_none, errW_some] <;> rfl) | (simp [*, errW_none, errW_some] <;> rfl), by repeat with_reducible first | exact HB.out | apply b1 | apply b2 | apply b3 | refine b4 ?_ GE217.out⟩
end Go.Proofs.Ytnpghcikhpglkaa.Q
namespace Go.Proofs.Ytnpghcikhpglkaa.Q
open Go.RowKit Go.Proofs.YtnpghcikhpglkaaW.PrintWords Go.Proofs.YtnpghcikhpglkaaW.PrintLast Go.Proofs.YtnpghcikhpglkaaW.PrintMore
attribute [local go_sem] max2_int min2_int max_two min_two max_three min_three max_four min_four   -- for this text's walks alone
set_option linter.unusedVariables false
set_option linter.unusedSimpArgs false

/-! ### herbariumlaw0_BitsWeight: function 98 -/
def herbariumlaw0_BitsWeight.l0 : Nat → List (S27) → Int → Int → Option (Int)
  | 0, _, _, _ => none
  | k + 1, x0, x3, x4 => if x4 < (x0.length : Int) then (if x3 < 1048576 then (if 0 ≤ x4 then (herbariumlaw0_BitsWeight.l0 k x0 (wrap64 (x3 + (wrap64 ((((rd_T27 x0 x4).f0).size : Int) / 4)))) (wrap64 (x4 + 1))) else (none)) else (some x3)) else (some x3)
def herbariumlaw0_BitsWeight.f (k : Nat) (l0 : List (S27)) : Option (Int) := herbariumlaw0_BitsWeight.l0 k l0 (l0.length : Int) 0
set_option maxHeartbeats 8000000 in
set_option maxRecDepth 100000 in
theorem herbariumlaw0_BitsWeight.calls (k : Nat) (A0 : Option Addr) (c0 : Nat) (l0 : List (S27)) (r : Int) (w : World) (hr0 : Kd.C k27 w A0 l0.length l0) (hc0 : l0.length ≤ c0) (h : herbariumlaw0_BitsWeight.f k l0 = some r) :
    Calls Try.prog 98 #[.slice A0 l0.length c0] w fun e w' => e = .returned (.int .i64 r) ∧ Drawn0 w w' := by
 have HR0 := ak hr0
 have HC0 := ak hc0
 clear hr0 hc0
 have H : (herbariumlaw0_BitsWeight.l0 k l0 (l0.length : Int) 0) = some r := h
 clear h
 have H' := ak H
 clear H
 go_enter Try.func98, Try.ntmps98
 go_wp2
 go_loopg [3, 4] k (fun kq v3 v4 w' => ∃ (x3_1 : Int) (x4_1 : Int), v3 = .int .i64 x3_1 ∧ v4 = .int .i64 x4_1 ∧ Aside0 (herbariumlaw0_BitsWeight.l0 kq l0 x3_1 x4_1 = some r) ∧ Aside0 (kq ≤ k) ∧ Drawn0 w w')
 case atStart => exact ⟨((l0.length : Int)), (0), (by first | rfl | (simp; done) | (simp [*]; done)), (by first | rfl | (simp; done) | (simp [*]; done)), H', ⟨Nat.le_refl _⟩, by repeat (first | exact Drawn0.refl _ | apply Drawn0.step)⟩
 clear H'
 obtain ⟨x3_1, x4_1, rfl, rfl, HA, HK1, ⟨m1, rfl⟩⟩ := hrel
 cases gk with
 | zero => exact absurd HA.out (by simp [herbariumlaw0_BitsWeight.l0])
 | succ k1 => ?_
 have H := HA.out
 clear HA
 simp only [herbariumlaw0_BitsWeight.l0] at H
 by_cases c2 : x4_1 < (l0.length : Int)
 rotate_left
 ·
  rw [if_neg c2] at H
  have c2b0 : decide (x4_1 < (l0.length : Int)) = false := decide_eq_false c2
  clear c2
  obtain rfl := Option.some.inj H
  go_wp2
  go_ret
  exact ⟨by first | rfl | (simp; done) | (simp [*]; done), by repeat (first | exact Drawn0.refl _ | apply Drawn0.step)⟩
 rw [if_pos c2] at H
 have c2b0 : decide (x4_1 < (l0.length : Int)) = true := decide_eq_true c2
 clear c2
 by_cases c3 : x3_1 < 1048576
 rotate_left
 ·
  rw [if_neg c3] at H
  have c3b0 : decide (x3_1 < 1048576) = false := decide_eq_false c3
  clear c3
  obtain rfl := Option.some.inj H
  go_wp2
  go_ret
  exact ⟨by first | rfl | (simp; done) | (simp [*]; done), by repeat (first | exact Drawn0.refl _ | apply Drawn0.step)⟩
 rw [if_pos c3] at H
 have c3b0 : decide (x3_1 < 1048576) = true := decide_eq_true c3
 clear c3
 by_cases c4 : 0 ≤ x4_1
 rotate_left
 ·
  rw [if_neg c4] at H
  exact absurd H (by simp)
 rw [if_pos c4] at H
 have c4b0 : decide (0 ≤ x4_1) = true := decide_eq_true c4
 clear c4
 have H' := ak H
 clear H
 have p220 : 0 ≤ (x4_1 : Int) := of_decide_eq_true (by first | (with_reducible assumption) | assumption)
 have q220 : x4_1 < (l0.length : Int) := of_decide_eq_true (by first | (with_reducible assumption) | assumption)
 obtain ⟨ad220, e220, hx220_0, hx220_1⟩ := at_T27 HR0.out x4_1 p220 q220
 cases e220
 replace p220 := eq_true p220
 replace q220 := eq_true q220
 go_wp2
 go_roundg k1
 case measure => have := HK1.out; omega
 case rel => exact ⟨(wrap64 (x3_1 + (wrap64 ((((rd_T27 l0 x4_1).f0).size : Int) / 4)))), (wrap64 (x4_1 + 1)), (by first | rfl | (simp; done) | (simp [*]; done)), (by first | rfl | (simp; done) | (simp [*]; done)), H', ⟨by have := HK1.out; omega⟩, by repeat (first | exact Drawn0.refl _ | apply Drawn0.step)⟩
end Go.Proofs.Ytnpghcikhpglkaa.Q
namespace Go.Proofs.Ytnpghcikhpglkaa.Q
open Go.RowKit Go.Proofs.YtnpghcikhpglkaaW.PrintWords Go.Proofs.YtnpghcikhpglkaaW.PrintLast Go.Proofs.YtnpghcikhpglkaaW.PrintMore
attribute [local go_sem] max2_int min2_int max_two min_two max_three min_three max_four min_four   -- for this text's walks alone
set_option linter.unusedVariables false
set_option linter.unusedSimpArgs false

/-! ### herbariumlaw1_Heavy: function 39 -/
def herbariumlaw1_Heavy.f (k : Nat) (l0_0 : List (S27)) (l0_1 : List Int) : Option (Bool) := (herbariumlaw0_BitsWeight.f k l0_0).bind fun t222 => (if t222 > 800 then (some true) else (some (decide ((l0_1.length : Int) > 100))))
set_option maxHeartbeats 8000000 in
set_option maxRecDepth 100000 in
theorem herbariumlaw1_Heavy.calls (k : Nat) (A0_0 : Option Addr) (c0_0 : Nat) (l0_0 : List (S27)) (A0_1 : Option Addr) (c0_1 : Nat) (l0_1 : List Int) (r : Bool) (w : World) (hr0_0 : Kd.C k27 w A0_0 l0_0.length l0_0) (hc0_0 : l0_0.length ≤ c0_0) (hr0_1 : Kd.C (Kd.int .i64) w A0_1 l0_1.length l0_1) (hc0_1 : l0_1.length ≤ c0_1) (h : herbariumlaw1_Heavy.f k l0_0 l0_1 = some r) :
    Calls Try.prog 39 #[.agg #[.slice A0_0 l0_0.length c0_0, .slice A0_1 l0_1.length c0_1]] w fun e w' => e = .returned (.bool r) ∧ Below w.heap.size w w' := by
 have hu25 := Try.underlying25
 have HR0_0 := ak hr0_0
 have HC0_0 := ak hc0_0
 clear hr0_0 hc0_0
 have HR0_1 := ak hr0_1
 have HC0_1 := ak hc0_1
 clear hr0_1 hc0_1
 have HB := ak (Below.refl w.heap.size w)
 have H : ((herbariumlaw0_BitsWeight.f k l0_0).bind fun t222 => (if t222 > 800 then (some true) else (some (decide ((l0_1.length : Int) > 100))))) = some r := h
 clear h
 replace H := Option.bind_eq_some_iff.mp H
 obtain ⟨t222, A20, H⟩ := H
 try dsimp only at H
 have A2 := ak A20
 clear A20
 by_cases c3 : t222 > 800
 ·
  rw [if_pos c3] at H
  have c3b0 : decide (800 < t222) = true := decide_eq_true c3
  clear c3
  obtain rfl := Option.some.inj H
  go_enter Try.func39, Try.ntmps39
  go_wp2_with (first | ((with_reducible refine gate_dst (N := 1) rfl ?_); (try (refine gate_guard (by rfl) ?_; dsimp only)); refine box_event ?hg (N := 1) ?hd (cs := #[.slice A0_0 l0_0.length c0_0, .slice A0_1 l0_1.length c0_1]) (t := 25) ?hr ?_; (case hd => rfl); (case hg => rfl); (case hr => first | (go_simp; done) | (go_simp; rfl)); intro gb221 hg w4 hbox hb; have n0_ := ak (below_step (ul HB.out) hb); have n1_ := ak (hbox); have n2_ := ak ((by rw [hg]; exact (below_size (ul HB.out)) : w.heap.size ≤ gb221)); have n3_ := ak ((by rw [hg]; exact (below_size (ul HB.out)) : w.heap.size ≤ gb221)); clear HB; have HB := n0_; have BK221 := n1_; have GW221 := n2_; have GE221 := n3_; clear n0_ n1_ n2_ n3_; clear hb hbox hg; have hcz5_0 : w4.cell? ⟨gb221, 0, none⟩ = some (.slice A0_0 l0_0.length c0_0) := (blk_cell BK221.out 0).trans rfl; have hcz5_1 : w4.cell? ⟨gb221, 1, none⟩ = some (.slice A0_1 l0_1.length c0_1) := (blk_cell BK221.out 1).trans rfl; have hfz5_0 := blk_frozen BK221.out 0; have hfz5_1 := blk_frozen BK221.out 1) | ((with_reducible refine gate_callee (f := 98) rfl ?_); refine goesL_ (some 5) rfl rfl Try.func98 (by kernel_rfl) rfl #[.slice A0_0 l0_0.length c0_0] rfl (by (try simp only [List.map_toArray, List.map_cons, List.map_nil]); first | done | rfl | (simp only [List.length_drop, List.length_take]; rfl)) ?_; (with_reducible refine (herbariumlaw0_BitsWeight.calls k _ _ l0_0 t222 _ ?side1 ?side2 A2.out).mono ?_); (case side1 => exact uc (Kd.C_below HR0_0.out HB.out)); (case side2 => exact HC0_0.out); rintro e w' ⟨rfl, ⟨nd, rfl⟩⟩; refine ⟨_, rfl, ?_⟩))
  go_ret
  exact ⟨by first | rfl | (simp [errW_none, errW_some] <;> rfl) | (simp [*, errW_none, errW_some] <;> rfl), by repeat with_reducible first | exact HB.out | apply b1 | apply b2 | apply b3 | refine b4 ?_ GE221.out⟩
 rw [if_neg c3] at H
 have c3b0 : decide (800 < t222) = false := decide_eq_false c3
 clear c3
 obtain rfl := Option.some.inj H
 go_enter Try.func39, Try.ntmps39
 go_wp2_with (first | ((with_reducible refine gate_dst (N := 1) rfl ?_); (try (refine gate_guard (by rfl) ?_; dsimp only)); refine box_event ?hg (N := 1) ?hd (cs := #[.slice A0_0 l0_0.length c0_0, .slice A0_1 l0_1.length c0_1]) (t := 25) ?hr ?_; (case hd => rfl); (case hg => rfl); (case hr => first | (go_simp; done) | (go_simp; rfl)); intro gb221 hg w6 hbox hb; have n0_ := ak (below_step (ul HB.out) hb); have n1_ := ak (hbox); have n2_ := ak ((by rw [hg]; exact (below_size (ul HB.out)) : w.heap.size ≤ gb221)); have n3_ := ak ((by rw [hg]; exact (below_size (ul HB.out)) : w.heap.size ≤ gb221)); clear HB; have HB := n0_; have BK221 := n1_; have GW221 := n2_; have GE221 := n3_; clear n0_ n1_ n2_ n3_; clear hb hbox hg; have hcz7_0 : w6.cell? ⟨gb221, 0, none⟩ = some (.slice A0_0 l0_0.length c0_0) := (blk_cell BK221.out 0).trans rfl; have hcz7_1 : w6.cell? ⟨gb221, 1, none⟩ = some (.slice A0_1 l0_1.length c0_1) := (blk_cell BK221.out 1).trans rfl; have hfz7_0 := blk_frozen BK221.out 0; have hfz7_1 := blk_frozen BK221.out 1) | ((with_reducible refine gate_callee (f := 98) rfl ?_); refine goesL_ (some 5) rfl rfl Try.func98 (by kernel_rfl) rfl #[.slice A0_0 l0_0.length c0_0] rfl (by (try simp only [List.map_toArray, List.map_cons, List.map_nil]); first | done | rfl | (simp only [List.length_drop, List.length_take]; rfl)) ?_; (with_reducible refine (herbariumlaw0_BitsWeight.calls k _ _ l0_0 t222 _ ?side1 ?side2 A2.out).mono ?_); (case side1 => exact uc (Kd.C_below HR0_0.out HB.out)); (case side2 => exact HC0_0.out); rintro e w' ⟨rfl, ⟨nd, rfl⟩⟩; refine ⟨_, rfl, ?_⟩))
 go_ret
 exact ⟨by first | rfl | (simp [errW_none, errW_some] <;> rfl) | (simp [*, errW_none, errW_some] <;> rfl), by repeat with_reducible first | exact HB.out | apply b1 | apply b2 | apply b3 | refine b4 ?_ GE221.out⟩
end Go.Proofs.Ytnpghcikhpglkaa.Q
namespace Go.Proofs.Ytnpghcikhpglkaa.Q
open Go.RowKit Go.Proofs.YtnpghcikhpglkaaW.PrintWords Go.Proofs.YtnpghcikhpglkaaW.PrintLast Go.Proofs.YtnpghcikhpglkaaW.PrintMore
attribute [local go_sem] max2_int min2_int max_two min_two max_three min_three max_four min_four   -- for this text's walks alone
set_option linter.unusedVariables false
set_option linter.unusedSimpArgs false

/-! ### bits_Check: function 40 -/
def bits_Check.f (a0_0 : ByteArray) (a0_1 : Int) : Option (Int) := (bits_May.f a0_0 a0_1).bind fun t268 => (if t268 = true then (some 0) else (some 1))
set_option maxHeartbeats 8000000 in
set_option maxRecDepth 100000 in
theorem bits_Check.calls (a0_0 : ByteArray) (a0_1 : Int) (r : Int) (w : World) (h : bits_Check.f a0_0 a0_1 = some r) :
    Calls Try.prog 40 #[.agg #[.string a0_0, .int .i64 a0_1]] w fun e w' => e = .returned (.int .i64 r) ∧ Below w.heap.size w w' := by
 have hu27 := Try.underlying27
 have HB := ak (Below.refl w.heap.size w)
 have H : ((bits_May.f a0_0 a0_1).bind fun t268 => (if t268 = true then (some 0) else (some 1))) = some r := h
 clear h
 replace H := Option.bind_eq_some_iff.mp H
 obtain ⟨t268, A20, H⟩ := H
 try dsimp only at H
 have A2 := ak A20
 clear A20
 by_cases c3 : t268 = true
 ·
  subst c3
  rw [if_pos rfl] at H
  obtain rfl := Option.some.inj H
  go_enter Try.func40, Try.ntmps40
  go_wp2_with (first | ((with_reducible refine gate_dst (N := 1) rfl ?_); refine box_event ?hg (N := 1) ?hd (cs := #[.string a0_0, .int .i64 a0_1]) (t := 27) ?hr ?_; (case hd => rfl); (case hg => rfl); (case hr => first | (go_simp; done) | (go_simp; rfl)); intro gb267 hg w4 hbox hb; have n0_ := ak (below_step (ul HB.out) hb); have n1_ := ak (hbox); have n2_ := ak ((by rw [hg]; exact (below_size (ul HB.out)) : w.heap.size ≤ gb267)); have n3_ := ak ((by rw [hg]; exact (below_size (ul HB.out)) : w.heap.size ≤ gb267)); clear HB; have HB := n0_; have BK267 := n1_; have GW267 := n2_; have GE267 := n3_; clear n0_ n1_ n2_ n3_; clear hb hbox hg; have hcz5_0 : w4.cell? ⟨gb267, 0, none⟩ = some (.string a0_0) := (blk_cell BK267.out 0).trans rfl; have hcz5_1 : w4.cell? ⟨gb267, 1, none⟩ = some (.int .i64 a0_1) := (blk_cell BK267.out 1).trans rfl; have hfz5_0 := blk_frozen BK267.out 0; have hfz5_1 := blk_frozen BK267.out 1) | ((with_reducible refine gate_callee (f := 86) rfl ?_); refine goesL_ (some 4) rfl rfl Try.func86 (by kernel_rfl) rfl #[.agg #[.string a0_0, .int .i64 a0_1]] rfl (by (try simp only [List.map_toArray, List.map_cons, List.map_nil]); first | done | rfl | (simp only [List.length_drop, List.length_take]; rfl)) ?_; (with_reducible refine (bits_May.calls a0_0 a0_1 true _ A2.out).mono ?_); rintro e w6 ⟨rfl, hb⟩; refine ⟨_, rfl, ?_⟩; have n0_ := ak (blk_below (g := gb267) (o := .cells #[.string a0_0, .int .i64 a0_1] 27 (0, 0)) (ub BK267.out) hb); have n1_ := ak (below_step (by repeat with_reducible first | exact HB.out | apply b1 | apply b2 | apply b3 | refine b4 ?_ GE267.out) hb); clear BK267; clear HB; have BK267 := n0_; have HB := n1_; clear n0_ n1_; (try clear hb); (try clear hb2); (try clear hk); (try clear hi)))
  go_ret
  exact ⟨by first | rfl | (simp [errW_none, errW_some] <;> rfl) | (simp [*, errW_none, errW_some] <;> rfl), by repeat with_reducible first | exact HB.out | apply b1 | apply b2 | apply b3 | refine b4 ?_ GE267.out⟩
 replace c3 := Bool.eq_false_iff.mpr c3
 subst c3
 rw [if_neg (show ¬ (false = true) by decide)] at H
 obtain rfl := Option.some.inj H
 go_enter Try.func40, Try.ntmps40
 go_wp2_with (first | ((with_reducible refine gate_dst (N := 1) rfl ?_); refine box_event ?hg (N := 1) ?hd (cs := #[.string a0_0, .int .i64 a0_1]) (t := 27) ?hr ?_; (case hd => rfl); (case hg => rfl); (case hr => first | (go_simp; done) | (go_simp; rfl)); intro gb267 hg w7 hbox hb; have n0_ := ak (below_step (ul HB.out) hb); have n1_ := ak (hbox); have n2_ := ak ((by rw [hg]; exact (below_size (ul HB.out)) : w.heap.size ≤ gb267)); have n3_ := ak ((by rw [hg]; exact (below_size (ul HB.out)) : w.heap.size ≤ gb267)); clear HB; have HB := n0_; have BK267 := n1_; have GW267 := n2_; have GE267 := n3_; clear n0_ n1_ n2_ n3_; clear hb hbox hg; have hcz8_0 : w7.cell? ⟨gb267, 0, none⟩ = some (.string a0_0) := (blk_cell BK267.out 0).trans rfl; have hcz8_1 : w7.cell? ⟨gb267, 1, none⟩ = some (.int .i64 a0_1) := (blk_cell BK267.out 1).trans rfl; have hfz8_0 := blk_frozen BK267.out 0; have hfz8_1 := blk_frozen BK267.out 1) | ((with_reducible refine gate_callee (f := 86) rfl ?_); refine goesL_ (some 4) rfl rfl Try.func86 (by kernel_rfl) rfl #[.agg #[.string a0_0, .int .i64 a0_1]] rfl (by (try simp only [List.map_toArray, List.map_cons, List.map_nil]); first | done | rfl | (simp only [List.length_drop, List.length_take]; rfl)) ?_; (with_reducible refine (bits_May.calls a0_0 a0_1 false _ A2.out).mono ?_); rintro e w9 ⟨rfl, hb⟩; refine ⟨_, rfl, ?_⟩; have n0_ := ak (blk_below (g := gb267) (o := .cells #[.string a0_0, .int .i64 a0_1] 27 (0, 0)) (ub BK267.out) hb); have n1_ := ak (below_step (by repeat with_reducible first | exact HB.out | apply b1 | apply b2 | apply b3 | refine b4 ?_ GE267.out) hb); clear BK267; clear HB; have BK267 := n0_; have HB := n1_; clear n0_ n1_; (try clear hb); (try clear hb2); (try clear hk); (try clear hi)))
 go_ret
 exact ⟨by first | rfl | (simp [errW_none, errW_some] <;> rfl) | (simp [*, errW_none, errW_some] <;> rfl), by repeat with_reducible first | exact HB.out | apply b1 | apply b2 | apply b3 | refine b4 ?_ GE267.out⟩
end Go.Proofs.Ytnpghcikhpglkaa.Q
namespace Go.Proofs.Ytnpghcikhpglkaa.Q
open Go.RowKit Go.Proofs.YtnpghcikhpglkaaW.PrintWords Go.Proofs.YtnpghcikhpglkaaW.PrintLast Go.Proofs.YtnpghcikhpglkaaW.PrintMore
attribute [local go_sem] max2_int min2_int max_two min_two max_three min_three max_four min_four   -- for this text's walks alone
set_option linter.unusedVariables false
set_option linter.unusedSimpArgs false

/-! ### herbariumref0_Num: function 53 -/
def herbariumref0_Num.f (a0 : Int) (a1 : Int) : Option (Bool) := if a0 ≥ 0 then (some (decide (a0 ≤ a1))) else (some false)
set_option maxHeartbeats 8000000 in
set_option maxRecDepth 100000 in
theorem herbariumref0_Num.calls (a0 : Int) (a1 : Int) (r : Bool) (w : World) (h : herbariumref0_Num.f a0 a1 = some r) :
    Calls Try.prog 53 #[.int .i64 a0, .int .i64 a1] w fun e w' => e = .returned (.bool r) ∧ Drawn0 w w' := by
 have H : (if a0 ≥ 0 then (some (decide (a0 ≤ a1))) else (some false)) = some r := h
 clear h
 by_cases c3 : a0 ≥ 0
 ·
  rw [if_pos c3] at H
  have c3b0 : decide (0 ≤ a0) = true := decide_eq_true c3
  clear c3
  obtain rfl := Option.some.inj H
  go_enter Try.func53, Try.ntmps53
  go_wp2
  go_ret
  exact ⟨by first | rfl | (simp; done) | (simp [*]; done), by repeat (first | exact Drawn0.refl _ | apply Drawn0.step)⟩
 rw [if_neg c3] at H
 have c3b0 : decide (0 ≤ a0) = false := decide_eq_false c3
 clear c3
 obtain rfl := Option.some.inj H
 go_enter Try.func53, Try.ntmps53
 go_wp2
 go_ret
 exact ⟨by first | rfl | (simp; done) | (simp [*]; done), by repeat (first | exact Drawn0.refl _ | apply Drawn0.step)⟩
end Go.Proofs.Ytnpghcikhpglkaa.Q
namespace Go.Proofs.Ytnpghcikhpglkaa.Q
open Go.RowKit Go.Proofs.YtnpghcikhpglkaaW.PrintWords Go.Proofs.YtnpghcikhpglkaaW.PrintLast Go.Proofs.YtnpghcikhpglkaaW.PrintMore
attribute [local go_sem] max2_int min2_int max_two min_two max_three min_three max_four min_four   -- for this text's walks alone
set_option linter.unusedVariables false
set_option linter.unusedSimpArgs false

/-! ### herbariumref1_bit: function 101 -/
def herbariumref1_bit.f (a0_0 : ByteArray) (a0_1 : Int) (a1 : Int) : Option (Int) := if 0 ≤ (wrap64 (Int.tdiv a1 8)) then (if (wrap64 (Int.tdiv a1 8)) < (a0_0.size : Int) then (if 0 ≤ (wrap64 (7 - (Int.tmod a1 8))) then (some (Go.bits .and .i64 (shr .i64 (wrap64 (bt a0_0 (wrap64 (Int.tdiv a1 8)))) (wrap64 (7 - (Int.tmod a1 8)))) 1)) else (none)) else (none)) else (none)
set_option maxHeartbeats 8000000 in
set_option maxRecDepth 100000 in
theorem herbariumref1_bit.calls (a0_0 : ByteArray) (a0_1 : Int) (a1 : Int) (r : Int) (w : World) (h : herbariumref1_bit.f a0_0 a0_1 a1 = some r) :
    Calls Try.prog 101 #[.agg #[.string a0_0, .int .i64 a0_1], .int .i64 a1] w fun e w' => e = .returned (.int .i64 r) ∧ Below w.heap.size w w' := by
 have hu27 := Try.underlying27
 have HB := ak (Below.refl w.heap.size w)
 have H : (if 0 ≤ (wrap64 (Int.tdiv a1 8)) then (if (wrap64 (Int.tdiv a1 8)) < (a0_0.size : Int) then (if 0 ≤ (wrap64 (7 - (Int.tmod a1 8))) then (some (Go.bits .and .i64 (shr .i64 (wrap64 (bt a0_0 (wrap64 (Int.tdiv a1 8)))) (wrap64 (7 - (Int.tmod a1 8)))) 1)) else (none)) else (none)) else (none)) = some r := h
 clear h
 obtain ⟨ji3, hji3⟩ : ∃ j_ : Int, (wrap64 (Int.tdiv a1 8)) = j_ := ⟨_, rfl⟩
 replace H : (if 0 ≤ (ji3) then (if (ji3) < (a0_0.size : Int) then (if 0 ≤ (wrap64 (7 - (Int.tmod a1 8))) then (some (Go.bits .and .i64 (shr .i64 (wrap64 (bt a0_0 (ji3))) (wrap64 (7 - (Int.tmod a1 8)))) 1)) else (none)) else (none)) else (none)) = some r := by first | (rw [hji3] at H; exact H) | (simp only [hji3] at H ⊢; exact H)
 have hji3w : (IntKind.i64.wrap (Int.tdiv a1 8)) = ji3 := (i64_w _).trans hji3
 by_cases c4 : 0 ≤ (ji3)
 rotate_left
 ·
  rw [if_neg c4] at H
  exact absurd H (by simp)
 rw [if_pos c4] at H
 have c4b0 : decide (0 ≤ (ji3)) = true := decide_eq_true c4
 clear c4
 by_cases c5 : (ji3) < (a0_0.size : Int)
 rotate_left
 ·
  rw [if_neg c5] at H
  exact absurd H (by simp)
 rw [if_pos c5] at H
 have c5b0 : decide ((ji3) < (a0_0.size : Int)) = true := decide_eq_true c5
 clear c5
 obtain ⟨ji7, hji7⟩ : ∃ j_ : Int, (wrap64 (7 - (Int.tmod a1 8))) = j_ := ⟨_, rfl⟩
 replace H : (if 0 ≤ (ji7) then (some (Go.bits .and .i64 (shr .i64 (wrap64 (bt a0_0 (ji3))) (ji7)) 1)) else (none)) = some r := by first | (rw [hji7] at H; exact H) | (simp only [hji7] at H ⊢; exact H)
 have hji7w : (IntKind.i64.wrap (7 - (Int.tmod a1 8))) = ji7 := (i64_w _).trans hji7
 by_cases c8 : 0 ≤ (ji7)
 rotate_left
 ·
  rw [if_neg c8] at H
  exact absurd H (by simp)
 rw [if_pos c8] at H
 have c8b0 := eq_true c8
 have c8b1 : decide (0 ≤ (ji7)) = true := decide_eq_true c8
 clear c8
 obtain ⟨ji9, hji9⟩ : ∃ j_ : Int, (shr .i64 (wrap64 (bt a0_0 (ji3))) (ji7)) = j_ := ⟨_, rfl⟩
 replace H : (some (Go.bits .and .i64 (ji9) 1)) = some r := by first | (rw [hji9] at H; exact H) | (simp only [hji9] at H ⊢; exact H)
 have hji9_ : ((wrap64 (bt a0_0 (ji3))) / 2 ^ min (ji7).toNat 64) = ji9 := hji9
 have hji9z : (ji7) ≤ 64 → ((wrap64 (bt a0_0 (ji3))) / 2 ^ (ji7).toNat) = ji9 := shr_small hji9
 obtain rfl := Option.some.inj H
 go_enter Try.func101, Try.ntmps101
 go_wp2_with (first | ((with_reducible refine gate_dst (N := 2) rfl ?_); refine box_event ?hg (N := 2) ?hd (cs := #[.string a0_0, .int .i64 a0_1]) (t := 27) ?hr ?_; (case hd => rfl); (case hg => rfl); (case hr => first | (go_simp; done) | (go_simp; rfl)); intro gb309 hg w10 hbox hb; have n0_ := ak (below_step (ul HB.out) hb); have n1_ := ak (hbox); have n2_ := ak ((by rw [hg]; exact (below_size (ul HB.out)) : w.heap.size ≤ gb309)); have n3_ := ak ((by rw [hg]; exact (below_size (ul HB.out)) : w.heap.size ≤ gb309)); clear HB; have HB := n0_; have BK309 := n1_; have GW309 := n2_; have GE309 := n3_; clear n0_ n1_ n2_ n3_; clear hb hbox hg; have hcz11_0 : w10.cell? ⟨gb309, 0, none⟩ = some (.string a0_0) := (blk_cell BK309.out 0).trans rfl; have hcz11_1 : w10.cell? ⟨gb309, 1, none⟩ = some (.int .i64 a0_1) := (blk_cell BK309.out 1).trans rfl; have hfz11_0 := blk_frozen BK309.out 0; have hfz11_1 := blk_frozen BK309.out 1; have p6 : 0 ≤ ((ji3) : Int) := of_decide_eq_true (by first | (with_reducible assumption) | assumption); have q6 : (ji3) < (a0_0.size : Int) := of_decide_eq_true (by first | (with_reducible assumption) | assumption); have hx6 := bt_at a0_0 (ji3); replace p6 := eq_true p6; replace q6 := eq_true q6))
 go_ret
 exact ⟨by first | rfl | (simp [errW_none, errW_some] <;> rfl) | (simp only [← hji3, ← hji7, ← hji9]; first | rfl | (simp [errW_none, errW_some] <;> rfl)) | (simp [*, errW_none, errW_some] <;> rfl), by repeat with_reducible first | exact HB.out | apply b1 | apply b2 | apply b3 | refine b4 ?_ GE309.out⟩
end Go.Proofs.Ytnpghcikhpglkaa.Q
namespace Go.Proofs.Ytnpghcikhpglkaa.Q
open Go.RowKit Go.Proofs.YtnpghcikhpglkaaW.PrintWords Go.Proofs.YtnpghcikhpglkaaW.PrintLast Go.Proofs.YtnpghcikhpglkaaW.PrintMore
attribute [local go_sem] max2_int min2_int max_two min_two max_three min_three max_four min_four   -- for this text's walks alone
set_option linter.unusedVariables false
set_option linter.unusedSimpArgs false

/-! ### herbariumref1_Bits: function 50 -/
mutual
def herbariumref1_Bits.j0 : Nat → Bool → ByteArray → Int → Option (Bool)
  | 0, _, _, _ => none
  | k + 1, x17, x311000, x311001 => if x17 = true then (some false) else (herbariumref1_Bits.l0 k x311001 x311000 x311001)
def herbariumref1_Bits.l0 : Nat → Int → ByteArray → Int → Option (Bool)
  | 0, _, _, _ => none
  | k + 1, x3, x311000, x311001 => if x3 < (wrap64 (8 * (x311000.size : Int))) then ((herbariumref1_bit.f x311000 x311001 x3).bind fun t312 => (if t312 = 0 then (herbariumref1_Bits.l0 k (wrap64 (x3 + 1)) x311000 x311001) else (some false))) else (some true)
end
def herbariumref1_Bits.f (k : Nat) (a0_0 : ByteArray) (a0_1 : Int) : Option (Bool) := (herbariumref0_Num.f a0_1 6000).bind fun t311 => (if t311 = true then (herbariumref1_Bits.j0 k ((a0_0.size : Int) != (wrap64 (Int.tdiv (wrap64 (a0_1 + 7)) 8))) a0_0 a0_1) else (herbariumref1_Bits.j0 k true a0_0 a0_1))
set_option maxHeartbeats 8000000 in
set_option maxRecDepth 100000 in
theorem herbariumref1_Bits.calls (k : Nat) (a0_0 : ByteArray) (a0_1 : Int) (r : Bool) (w : World) (h : herbariumref1_Bits.f k a0_0 a0_1 = some r) :
    Calls Try.prog 50 #[.agg #[.string a0_0, .int .i64 a0_1]] w fun e w' => e = .returned (.bool r) ∧ Below w.heap.size w w' := by
 have hu27 := Try.underlying27
 have HB := ak (Below.refl w.heap.size w)
 have H : ((herbariumref0_Num.f a0_1 6000).bind fun t311 => (if t311 = true then (herbariumref1_Bits.j0 k ((a0_0.size : Int) != (wrap64 (Int.tdiv (wrap64 (a0_1 + 7)) 8))) a0_0 a0_1) else (herbariumref1_Bits.j0 k true a0_0 a0_1))) = some r := h
 clear h
 have HC2 := ak H
 clear H
 go_enter Try.func50, Try.ntmps50
 go_upto_region 1 with (first | ((with_reducible refine gate_dst (N := 1) rfl ?_); (try (refine gate_guard (by rfl) ?_; dsimp only)); refine box_event ?hg (N := 1) ?hd (cs := #[.string a0_0, .int .i64 a0_1]) (t := 27) ?hr ?_; (case hd => rfl); (case hg => rfl); (case hr => first | (go_simp; done) | (go_simp; rfl)); intro gb310 hg w3 hbox hb; have n0_ := ak (below_step (ul HB.out) hb); have n1_ := ak (hbox); have n2_ := ak ((by rw [hg]; exact (below_size (ul HB.out)) : w.heap.size ≤ gb310)); have n3_ := ak ((by rw [hg]; exact (below_size (ul HB.out)) : w.heap.size ≤ gb310)); clear HB; have HB := n0_; have BK310 := n1_; have GW310 := n2_; have GE310 := n3_; clear n0_ n1_ n2_ n3_; clear hb hbox hg))
 (try simp only [Act.put, s1, s2, s3])
 go_cut [17] (fun v17 wc => ∃ (kq : Nat) (x17_1 : Bool), v17 = .bool x17_1 ∧ Aside0 (herbariumref1_Bits.j0 kq x17_1 a0_0 a0_1 = some r) ∧ Aside0 (kq ≤ k) ∧ Aside0 (wc.heap[gb310]? = some (.cells #[.string a0_0, .int .i64 a0_1] 27 (0, 0))) ∧ Aside0 (Below w.heap.size w wc))
 case first =>
  have H := HC2.out
  clear HC2
  replace H := Option.bind_eq_some_iff.mp H
  obtain ⟨t311, A40, H⟩ := H
  try dsimp only at H
  have A4 := ak A40
  clear A40
  by_cases c5 : t311 = true
  rotate_left
  ·
   replace c5 := Bool.eq_false_iff.mpr c5
   subst c5
   rw [if_neg (show ¬ (false = true) by decide)] at H
   have H' := ak H
   clear H
   have hcz7_0 : w3.cell? ⟨gb310, 0, none⟩ = some (.string a0_0) := (blk_cell BK310.out 0).trans rfl
   have hcz7_1 : w3.cell? ⟨gb310, 1, none⟩ = some (.int .i64 a0_1) := (blk_cell BK310.out 1).trans rfl
   have hfz7_0 := blk_frozen BK310.out 0
   have hfz7_1 := blk_frozen BK310.out 1
   go_wp2_with (first | ((with_reducible refine gate_callee (f := 53) rfl ?_); refine goesL_ (some 6) rfl rfl Try.func53 (by kernel_rfl) rfl #[.int .i64 a0_1, .int .i64 6000] rfl (by (try simp only [List.map_toArray, List.map_cons, List.map_nil]); first | done | rfl | (simp only [List.length_drop, List.length_take]; rfl)) ?_; (with_reducible refine (herbariumref0_Num.calls a0_1 6000 false _ A4.out).mono ?_); rintro e w' ⟨rfl, ⟨nd, rfl⟩⟩; refine ⟨_, rfl, ?_⟩))
   go_meet
   case rel => exact ⟨_, (true), (by first | rfl | (simp; done) | (simp [*]; done)), H', ⟨by first | omega | exact Nat.le_refl _⟩, ⟨ub BK310.out⟩, ⟨by repeat with_reducible first | exact HB.out | apply b1 | apply b2 | apply b3 | refine b4 ?_ GE310.out⟩⟩
  subst c5
  rw [if_pos rfl] at H
  have H' := ak H
  clear H
  have hcz6_0 : w3.cell? ⟨gb310, 0, none⟩ = some (.string a0_0) := (blk_cell BK310.out 0).trans rfl
  have hcz6_1 : w3.cell? ⟨gb310, 1, none⟩ = some (.int .i64 a0_1) := (blk_cell BK310.out 1).trans rfl
  have hfz6_0 := blk_frozen BK310.out 0
  have hfz6_1 := blk_frozen BK310.out 1
  go_wp2_with (first | ((with_reducible refine gate_callee (f := 53) rfl ?_); refine goesL_ (some 6) rfl rfl Try.func53 (by kernel_rfl) rfl #[.int .i64 a0_1, .int .i64 6000] rfl (by (try simp only [List.map_toArray, List.map_cons, List.map_nil]); first | done | rfl | (simp only [List.length_drop, List.length_take]; rfl)) ?_; (with_reducible refine (herbariumref0_Num.calls a0_1 6000 true _ A4.out).mono ?_); rintro e w' ⟨rfl, ⟨nd, rfl⟩⟩; refine ⟨_, rfl, ?_⟩))
  go_meet
  case rel => exact ⟨_, (((a0_0.size : Int) != (wrap64 (Int.tdiv (wrap64 (a0_1 + 7)) 8)))), (by first | rfl | (simp; done) | (simp [*]; done)), H', ⟨by first | omega | exact Nat.le_refl _⟩, ⟨ub BK310.out⟩, ⟨by repeat with_reducible first | exact HB.out | apply b1 | apply b2 | apply b3 | refine b4 ?_ GE310.out⟩⟩
 clear HC2
 obtain ⟨kq, x17_1, rfl, HA, HJ1, BK310, HB⟩ := hcut
 cases kq with
 | zero => exact absurd HA.out (by simp [herbariumref1_Bits.j0])
 | succ kj1 => ?_
 have H := HA.out
 clear HA
 simp only [herbariumref1_Bits.j0] at H
 by_cases c8 : x17_1 = true
 ·
  subst c8
  rw [if_pos rfl] at H
  obtain rfl := Option.some.inj H
  go_wp2
  go_ret
  exact ⟨by first | rfl | (simp [errW_none, errW_some] <;> rfl) | (simp [*, errW_none, errW_some] <;> rfl), by repeat with_reducible first | exact HB.out | apply b1 | apply b2 | apply b3 | refine b4 ?_ GE310.out⟩
 replace c8 := Bool.eq_false_iff.mpr c8
 subst c8
 rw [if_neg (show ¬ (false = true) by decide)] at H
 have H' := ak H
 clear H
 have hcz9_0 : wc.cell? ⟨gb310, 0, none⟩ = some (.string a0_0) := (blk_cell BK310.out 0).trans rfl
 have hcz9_1 : wc.cell? ⟨gb310, 1, none⟩ = some (.int .i64 a0_1) := (blk_cell BK310.out 1).trans rfl
 have hfz9_0 := blk_frozen BK310.out 0
 have hfz9_1 := blk_frozen BK310.out 1
 go_wp2
 go_loopg [3] kj1 (fun kq v3 w' => ∃ (x3_2 : Int), v3 = .int .i64 x3_2 ∧ Aside0 (herbariumref1_Bits.l0 kq x3_2 a0_0 a0_1 = some r) ∧ Aside0 (kq ≤ kj1) ∧ Aside0 (w'.heap[gb310]? = some (.cells #[.string a0_0, .int .i64 a0_1] 27 (0, 0))) ∧ Aside0 (Below w.heap.size w w'))
 case atStart => exact ⟨(a0_1), (by first | rfl | (simp; done) | (simp [*]; done)), H', ⟨Nat.le_refl _⟩, ⟨ub BK310.out⟩, ⟨by repeat with_reducible first | exact HB.out | apply b1 | apply b2 | apply b3 | refine b4 ?_ GE310.out⟩⟩
 clear H'
 (try clear c8); (try clear hcz9_0); (try clear hcz9_1); (try clear hfz9_0); (try clear hfz9_1)
 obtain ⟨x3_2, rfl, HA, HK2, BK310, HB⟩ := hrel
 cases gk with
 | zero => exact absurd HA.out (by simp [herbariumref1_Bits.l0])
 | succ k2 => ?_
 have H := HA.out
 clear HA
 simp only [herbariumref1_Bits.l0] at H
 by_cases c10 : x3_2 < (wrap64 (8 * (a0_0.size : Int)))
 rotate_left
 ·
  rw [if_neg c10] at H
  have c10b0 : decide (x3_2 < (wrap64 (8 * (a0_0.size : Int)))) = false := decide_eq_false c10
  clear c10
  obtain rfl := Option.some.inj H
  have hcz17_0 : wr.cell? ⟨gb310, 0, none⟩ = some (.string a0_0) := (blk_cell BK310.out 0).trans rfl
  have hcz17_1 : wr.cell? ⟨gb310, 1, none⟩ = some (.int .i64 a0_1) := (blk_cell BK310.out 1).trans rfl
  have hfz17_0 := blk_frozen BK310.out 0
  have hfz17_1 := blk_frozen BK310.out 1
  go_wp2
  go_ret
  exact ⟨by first | rfl | (simp [errW_none, errW_some] <;> rfl) | (simp [*, errW_none, errW_some] <;> rfl), by repeat with_reducible first | exact HB.out | apply b1 | apply b2 | apply b3 | refine b4 ?_ GE310.out⟩
 rw [if_pos c10] at H
 have c10b0 : decide (x3_2 < (wrap64 (8 * (a0_0.size : Int)))) = true := decide_eq_true c10
 clear c10
 replace H := Option.bind_eq_some_iff.mp H
 obtain ⟨t312, A110, H⟩ := H
 try dsimp only at H
 have A11 := ak A110
 clear A110
 by_cases c12 : t312 = 0
 rotate_left
 ·
  rw [if_neg c12] at H
  have c12b0 : (t312 == 0) = false := beq_eq_false_iff_ne.mpr c12
  have c12b1 : (t312 != 0) = true := bne_iff_ne.mpr c12
  obtain rfl := Option.some.inj H
  have hcz15_0 : wr.cell? ⟨gb310, 0, none⟩ = some (.string a0_0) := (blk_cell BK310.out 0).trans rfl
  have hcz15_1 : wr.cell? ⟨gb310, 1, none⟩ = some (.int .i64 a0_1) := (blk_cell BK310.out 1).trans rfl
  have hfz15_0 := blk_frozen BK310.out 0
  have hfz15_1 := blk_frozen BK310.out 1
  go_wp2_with (first | ((with_reducible refine gate_callee (f := 101) rfl ?_); refine goesL_ (some 30) rfl rfl Try.func101 (by kernel_rfl) rfl #[.agg #[.string a0_0, .int .i64 a0_1], .int .i64 x3_2] rfl (by (try simp only [List.map_toArray, List.map_cons, List.map_nil]); first | done | rfl | (simp only [List.length_drop, List.length_take]; rfl)) ?_; (with_reducible refine (herbariumref1_bit.calls a0_0 a0_1 x3_2 t312 _ A11.out).mono ?_); rintro e w16 ⟨rfl, hb⟩; refine ⟨_, rfl, ?_⟩; have n0_ := ak (blk_below (g := gb310) (o := .cells #[.string a0_0, .int .i64 a0_1] 27 (0, 0)) (ub BK310.out) hb); have n1_ := ak (below_step (by repeat with_reducible first | exact HB.out | apply b1 | apply b2 | apply b3 | refine b4 ?_ GE310.out) hb); clear BK310; clear HB; have BK310 := n0_; have HB := n1_; clear n0_ n1_; (try clear hb); (try clear hb2); (try clear hk); (try clear hi)))
  go_ret
  exact ⟨by first | rfl | (simp [errW_none, errW_some] <;> rfl) | (simp [*, errW_none, errW_some] <;> rfl), by repeat with_reducible first | exact HB.out | apply b1 | apply b2 | apply b3 | refine b4 ?_ GE310.out⟩
 rw [if_pos c12] at H
 have c12b0 : (t312 == 0) = true := beq_iff_eq.mpr c12
 have c12b1 : (t312 != 0) = false := bne_eq_false_iff_eq.mpr c12
 clear c12
 have H' := ak H
 clear H
 have hcz13_0 : wr.cell? ⟨gb310, 0, none⟩ = some (.string a0_0) := (blk_cell BK310.out 0).trans rfl
 have hcz13_1 : wr.cell? ⟨gb310, 1, none⟩ = some (.int .i64 a0_1) := (blk_cell BK310.out 1).trans rfl
 have hfz13_0 := blk_frozen BK310.out 0
 have hfz13_1 := blk_frozen BK310.out 1
 go_wp2_with (first | ((with_reducible refine gate_callee (f := 101) rfl ?_); refine goesL_ (some 30) rfl rfl Try.func101 (by kernel_rfl) rfl #[.agg #[.string a0_0, .int .i64 a0_1], .int .i64 x3_2] rfl (by (try simp only [List.map_toArray, List.map_cons, List.map_nil]); first | done | rfl | (simp only [List.length_drop, List.length_take]; rfl)) ?_; (with_reducible refine (herbariumref1_bit.calls a0_0 a0_1 x3_2 t312 _ A11.out).mono ?_); rintro e w14 ⟨rfl, hb⟩; refine ⟨_, rfl, ?_⟩; have n0_ := ak (blk_below (g := gb310) (o := .cells #[.string a0_0, .int .i64 a0_1] 27 (0, 0)) (ub BK310.out) hb); have n1_ := ak (below_step (by repeat with_reducible first | exact HB.out | apply b1 | apply b2 | apply b3 | refine b4 ?_ GE310.out) hb); clear BK310; clear HB; have BK310 := n0_; have HB := n1_; clear n0_ n1_; (try clear hb); (try clear hb2); (try clear hk); (try clear hi)))
 go_roundg k2
 case measure => have := HJ1.out; have := HK2.out; omega
 case rel => exact ⟨(wrap64 (x3_2 + 1)), (by first | rfl | (simp; done) | (simp [*]; done)), H', ⟨by have := HJ1.out; have := HK2.out; omega⟩, ⟨ub BK310.out⟩, ⟨by repeat with_reducible first | exact HB.out | apply b1 | apply b2 | apply b3 | refine b4 ?_ GE310.out⟩⟩
end Go.Proofs.Ytnpghcikhpglkaa.Q
namespace Go.Proofs.Ytnpghcikhpglkaa.Q
open Go.RowKit Go.Proofs.YtnpghcikhpglkaaW.PrintWords Go.Proofs.YtnpghcikhpglkaaW.PrintLast Go.Proofs.YtnpghcikhpglkaaW.PrintMore
attribute [local go_sem] max2_int min2_int max_two min_two max_three min_three max_four min_four   -- for this text's walks alone
set_option linter.unusedVariables false
set_option linter.unusedSimpArgs false

/-! ### herbariumref1_Of: function 52 -/
def herbariumref1_Of.l0 : Nat → List Int → Int → ByteArray → Int → Option (List Int)
  | 0, _, _, _, _ => none
  | k + 1, x3, x4, x371000, x371001 => if x4 < x371001 then ((herbariumref1_bit.f x371000 x371001 x4).bind fun t371 => (if x3.length < 140737488355328 then (herbariumref1_Of.l0 k (x3 ++ [(t371) % 256]) (wrap64 (x4 + 1)) x371000 x371001) else (none))) else (some x3)
def herbariumref1_Of.f (k : Nat) (a0_0 : ByteArray) (a0_1 : Int) : Option (List Int) := herbariumref1_Of.l0 k ([] : List Int) 0 a0_0 a0_1
set_option maxHeartbeats 8000000 in
set_option maxRecDepth 100000 in
theorem herbariumref1_Of.calls (k : Nat) (a0_0 : ByteArray) (a0_1 : Int) (r : List Int) (w : World) (h : herbariumref1_Of.f k a0_0 a0_1 = some r) :
    Calls Try.prog 52 #[.agg #[.string a0_0, .int .i64 a0_1]] w fun e w' => ∃ v0_ : Value, e = .returned (v0_) ∧ Kd.R (Kd.int .u8) 5 w' w.heap.size (fun _ => True) v0_ r ∧ Below w.heap.size w w' := by
 have hu27 := Try.underlying27
 have HB := ak (Below.refl w.heap.size w)
 have H : (herbariumref1_Of.l0 k ([] : List Int) 0 a0_0 a0_1) = some r := h
 clear h
 have H' := ak H
 clear H
 go_enter Try.func52, Try.ntmps52
 go_wp2_with (first | ((with_reducible refine gate_dst (N := 1) rfl ?_); refine box_event ?hg (N := 1) ?hd (cs := #[.string a0_0, .int .i64 a0_1]) (t := 27) ?hr ?_; (case hd => rfl); (case hg => rfl); (case hr => first | (go_simp; done) | (go_simp; rfl)); intro gb370 hg w2 hbox hb; have n0_ := ak (below_step (ul HB.out) hb); have n1_ := ak (hbox); have n2_ := ak ((by rw [hg]; exact (below_size (ul HB.out)) : w.heap.size ≤ gb370)); have n3_ := ak ((by rw [hg]; exact (below_size (ul HB.out)) : w.heap.size ≤ gb370)); clear HB; have HB := n0_; have BK370 := n1_; have GW370 := n2_; have GE370 := n3_; clear n0_ n1_ n2_ n3_; clear hb hbox hg))
 go_loopg [3, 4] k (fun kq v3 v4 w' => ∃ (x3_1 : List Int) (x4_1 : Int), v4 = .int .i64 x4_1 ∧ Aside0 (herbariumref1_Of.l0 kq x3_1 x4_1 a0_0 a0_1 = some r) ∧ Aside0 (kq ≤ k) ∧ Aside0 (Kd.R (Kd.int .u8) 5 w' w.heap.size (fun _ => True) v3 x3_1) ∧ Aside0 (w'.heap[gb370]? = some (.cells #[.string a0_0, .int .i64 a0_1] 27 (0, 0))) ∧ Aside0 (Below w.heap.size w w'))
 case atStart => exact ⟨(([] : List Int)), (0), (by first | rfl | (simp; done) | (simp [*]; done)), H', ⟨Nat.le_refl _⟩, ⟨by first | exact Kd.R_nil _ _ _ _ _ | exact Kd.N_nil _ _ _ _ _ | exact Kd.V_nil _ _ _ _ _ | exact Kd.Q_nil _ _ _ _ _ | exact Kd.S_nil _ _ _ _ _⟩, ⟨ub BK370.out⟩, ⟨by repeat with_reducible first | exact HB.out | apply b1 | apply b2 | apply b3 | refine b4 ?_ GE370.out⟩⟩
 clear H'
 obtain ⟨x3_1, x4_1, rfl, HA, HK1, HO_3, BK370, HB⟩ := hrel
 cases gk with
 | zero => exact absurd HA.out (by simp [herbariumref1_Of.l0])
 | succ k1 => ?_
 have H := HA.out
 clear HA
 simp only [herbariumref1_Of.l0] at H
 by_cases c3 : x4_1 < a0_1
 rotate_left
 ·
  rw [if_neg c3] at H
  have c3b0 : decide (x4_1 < a0_1) = false := decide_eq_false c3
  clear c3
  obtain rfl := Option.some.inj H
  have hcz9_0 : wr.cell? ⟨gb370, 0, none⟩ = some (.string a0_0) := (blk_cell BK370.out 0).trans rfl
  have hcz9_1 : wr.cell? ⟨gb370, 1, none⟩ = some (.int .i64 a0_1) := (blk_cell BK370.out 1).trans rfl
  have hfz9_0 := blk_frozen BK370.out 0
  have hfz9_1 := blk_frozen BK370.out 1
  go_wp2
  go_ret
  exact ⟨_, by first | rfl | (simp [errW_none, errW_some] <;> rfl) | (simp [*, errW_none, errW_some] <;> rfl), ur <| HO_3.out, by repeat with_reducible first | exact HB.out | apply b1 | apply b2 | apply b3 | refine b4 ?_ GE370.out⟩
 rw [if_pos c3] at H
 have c3b0 : decide (x4_1 < a0_1) = true := decide_eq_true c3
 clear c3
 replace H := Option.bind_eq_some_iff.mp H
 obtain ⟨t371, A40, H⟩ := H
 try dsimp only at H
 have A4 := ak A40
 clear A40
 by_cases c5 : x3_1.length < 140737488355328
 rotate_left
 ·
  rw [if_neg c5] at H
  exact absurd H (by simp)
 rw [if_pos c5] at H
 have LMc5 := ak c5
 clear c5
 obtain ⟨y372, hy372⟩ : ∃ y_ : List Int, y_ = (x3_1 ++ [(t371) % 256]) := ⟨_, rfl⟩
 replace H : (herbariumref1_Of.l0 k1 y372 (wrap64 (x4_1 + 1)) a0_0 a0_1) = some r := by first | (rw [hy372]; with_reducible exact H) | (have H2_ := (Option.bind_some _ _).symm.trans H; rw [hy372]; with_reducible exact H2_) | (have H2_ := (Option.bind_some _ _).symm.trans H; with_reducible exact H2_) | with_reducible exact H | (rw [hy372]; exact H) | exact H
 have Ny372 := ak hy372
 clear hy372
 have H' := ak H
 clear H
 have hcz6_0 : wr.cell? ⟨gb370, 0, none⟩ = some (.string a0_0) := (blk_cell BK370.out 0).trans rfl
 have hcz6_1 : wr.cell? ⟨gb370, 1, none⟩ = some (.int .i64 a0_1) := (blk_cell BK370.out 1).trans rfl
 have hfz6_0 := blk_frozen BK370.out 0
 have hfz6_1 := blk_frozen BK370.out 1
 go_wp2_with (first | ((with_reducible refine gate_callee (f := 101) rfl ?_); refine goesL_ (some 14) rfl rfl Try.func101 (by kernel_rfl) rfl #[.agg #[.string a0_0, .int .i64 a0_1], .int .i64 x4_1] rfl (by (try simp only [List.map_toArray, List.map_cons, List.map_nil]); first | done | rfl | (simp only [List.length_drop, List.length_take]; rfl)) ?_; (with_reducible refine (herbariumref1_bit.calls a0_0 a0_1 x4_1 t371 _ A4.out).mono ?_); rintro e w7 ⟨rfl, hb⟩; refine ⟨_, rfl, ?_⟩; have n0_ := ak (Kd.R_below (ur <| HO_3.out) hb); have n1_ := ak (blk_below (g := gb370) (o := .cells #[.string a0_0, .int .i64 a0_1] 27 (0, 0)) (ub BK370.out) hb); have n2_ := ak (below_step (by repeat with_reducible first | exact HB.out | apply b1 | apply b2 | apply b3 | refine b4 ?_ GE370.out) hb); clear HO_3; clear BK370; clear HB; have HO_3 := n0_; have BK370 := n1_; have HB := n2_; clear n0_ n1_ n2_; (try clear hb); (try clear hb2); (try clear hk); (try clear hi)) | ((with_reducible refine gate_builtin (b := .append) (xs := #[.tmp 11, .tmp 16]) rfl ?_); at_builtin; refine Kd.R_append (Kd.int .u8) (w0 := w) w.heap.size rfl (.tmp 11) (.tmp 16) 64 5 (.int .u8 0) 1 rfl Try.underlying64 info5 rfl (by decide) (by omega) u3 x3_1 ((t371) % 256) [.int .u8 ((t371) % 256)] (fun _ => True) (fun _ => False) rfl rfl ?aP (fun _ hk => hk.elim) ?aF ?aO ?aB ?aS ?aL ?_; (case aP => exact rfl); (case aB => exact (by repeat with_reducible first | exact HB.out | apply b1 | apply b2 | apply b3 | refine b4 ?_ GE370.out)); (case aF => exact (fun _ _ => trivial)); (case aO => exact (ur <| HO_3.out)); (case aS => exact (below_size (by repeat with_reducible first | exact HB.out | apply b1 | apply b2 | apply b3 | refine b4 ?_ GE370.out))); (case aL => have := LMc5.out; omega); intro v373 w8 ho hb hg hat; rw [← Ny372.out] at ho; have n0_ := ak (blk_grown (g := gb370) (o := .cells #[.string a0_0, .int .i64 a0_1] 27 (0, 0)) (ub BK370.out) hg (Kd.R_ne HO_3.out BK370.out (by decide))); have n1_ := ak (hb); have n2_ := ak (ho); clear BK370; clear HB; clear HO_3; have BK370 := n0_; have HB := n1_; have HO374 := n2_; clear n0_ n1_ n2_; clear ho hb hg hat))
 go_roundg k1
 case measure => have := HK1.out; omega
 case rel => exact ⟨(y372), (wrap64 (x4_1 + 1)), (by first | rfl | (simp; done) | (simp [*]; done)), H', ⟨by have := HK1.out; omega⟩, ⟨ur <| HO374.out⟩, ⟨ub BK370.out⟩, ⟨by repeat with_reducible first | exact HB.out | apply b1 | apply b2 | apply b3 | refine b4 ?_ GE370.out⟩⟩
end Go.Proofs.Ytnpghcikhpglkaa.Q
namespace Go.Proofs.Ytnpghcikhpglkaa.Q
open Go.RowKit Go.Proofs.YtnpghcikhpglkaaW.PrintWords Go.Proofs.YtnpghcikhpglkaaW.PrintLast Go.Proofs.YtnpghcikhpglkaaW.PrintMore
attribute [local go_sem] max2_int min2_int max_two min_two max_three min_three max_four min_four   -- for this text's walks alone
set_option linter.unusedVariables false
set_option linter.unusedSimpArgs false

/-! ### herbariumref1_List_Zeros: function 54 -/
def herbariumref1_List_Zeros.l0 : Nat → List Int → Int → Int → Option (Int)
  | 0, _, _, _ => none
  | k + 1, x0, x1, x5 => if x5 < (x0.length : Int) then (if 0 ≤ x5 then (if (rd x0 x5) = 1 then (some (wrap64 (x5 - x1))) else (herbariumref1_List_Zeros.l0 k x0 x1 (wrap64 (x5 + 1)))) else (none)) else (some (-1))
def herbariumref1_List_Zeros.f (k : Nat) (l0 : List Int) (a1 : Int) : Option (Int) := herbariumref1_List_Zeros.l0 k l0 a1 a1
set_option maxHeartbeats 8000000 in
set_option maxRecDepth 100000 in
theorem herbariumref1_List_Zeros.calls (k : Nat) (A0 : Option Addr) (c0 : Nat) (l0 : List Int) (a1 : Int) (r : Int) (w : World) (hr0 : Kd.C (Kd.int .u8) w A0 l0.length l0) (hc0 : l0.length ≤ c0) (h : herbariumref1_List_Zeros.f k l0 a1 = some r) :
    Calls Try.prog 54 #[.slice A0 l0.length c0, .int .i64 a1] w fun e w' => e = .returned (.int .i64 r) ∧ Drawn0 w w' := by
 have HR0 := ak hr0
 have HC0 := ak hc0
 clear hr0 hc0
 have H : (herbariumref1_List_Zeros.l0 k l0 a1 a1) = some r := h
 clear h
 have H' := ak H
 clear H
 go_enter Try.func54, Try.ntmps54
 go_wp2
 go_loopg [5] k (fun kq v5 w' => ∃ (x5_1 : Int), v5 = .int .i64 x5_1 ∧ Aside0 (herbariumref1_List_Zeros.l0 kq l0 a1 x5_1 = some r) ∧ Aside0 (kq ≤ k) ∧ Drawn0 w w')
 case atStart => exact ⟨(a1), (by first | rfl | (simp; done) | (simp [*]; done)), H', ⟨Nat.le_refl _⟩, by repeat (first | exact Drawn0.refl _ | apply Drawn0.step)⟩
 clear H'
 obtain ⟨x5_1, rfl, HA, HK1, ⟨m1, rfl⟩⟩ := hrel
 cases gk with
 | zero => exact absurd HA.out (by simp [herbariumref1_List_Zeros.l0])
 | succ k1 => ?_
 have H := HA.out
 clear HA
 simp only [herbariumref1_List_Zeros.l0] at H
 by_cases c3 : x5_1 < (l0.length : Int)
 rotate_left
 ·
  rw [if_neg c3] at H
  have c3b0 : decide (x5_1 < (l0.length : Int)) = false := decide_eq_false c3
  clear c3
  obtain rfl := Option.some.inj H
  go_wp2
  go_ret
  exact ⟨by first | rfl | (simp; done) | (simp [*]; done), by repeat (first | exact Drawn0.refl _ | apply Drawn0.step)⟩
 rw [if_pos c3] at H
 have c3b0 : decide (x5_1 < (l0.length : Int)) = true := decide_eq_true c3
 clear c3
 by_cases c4 : 0 ≤ x5_1
 rotate_left
 ·
  rw [if_neg c4] at H
  exact absurd H (by simp)
 rw [if_pos c4] at H
 have c4b0 : decide (0 ≤ x5_1) = true := decide_eq_true c4
 clear c4
 by_cases c5 : (rd l0 x5_1) = 1
 ·
  rw [if_pos c5] at H
  have c5b0 : ((rd l0 x5_1) == 1) = true := beq_iff_eq.mpr c5
  have c5b1 : ((rd l0 x5_1) != 1) = false := bne_eq_false_iff_eq.mpr c5
  clear c5
  obtain rfl := Option.some.inj H
  have p375 : 0 ≤ (x5_1 : Int) := of_decide_eq_true (by first | (with_reducible assumption) | assumption)
  have q375 : x5_1 < (l0.length : Int) := of_decide_eq_true (by first | (with_reducible assumption) | assumption)
  obtain ⟨ad375, e375, hx375_0⟩ := Kd.at_int HR0.out x5_1 p375 q375
  cases e375
  replace p375 := eq_true p375
  replace q375 := eq_true q375
  go_wp2
  go_ret
  exact ⟨by first | rfl | (simp; done) | (simp [*]; done), by repeat (first | exact Drawn0.refl _ | apply Drawn0.step)⟩
 rw [if_neg c5] at H
 have c5b0 : ((rd l0 x5_1) == 1) = false := beq_eq_false_iff_ne.mpr c5
 have c5b1 : ((rd l0 x5_1) != 1) = true := bne_iff_ne.mpr c5
 have H' := ak H
 clear H
 have p375 : 0 ≤ (x5_1 : Int) := of_decide_eq_true (by first | (with_reducible assumption) | assumption)
 have q375 : x5_1 < (l0.length : Int) := of_decide_eq_true (by first | (with_reducible assumption) | assumption)
 obtain ⟨ad375, e375, hx375_0⟩ := Kd.at_int HR0.out x5_1 p375 q375
 cases e375
 replace p375 := eq_true p375
 replace q375 := eq_true q375
 go_wp2
 go_roundg k1
 case measure => have := HK1.out; omega
 case rel => exact ⟨(wrap64 (x5_1 + 1)), (by first | rfl | (simp; done) | (simp [*]; done)), H', ⟨by have := HK1.out; omega⟩, by repeat (first | exact Drawn0.refl _ | apply Drawn0.step)⟩
end Go.Proofs.Ytnpghcikhpglkaa.Q
namespace Go.Proofs.Ytnpghcikhpglkaa.Q
open Go.RowKit Go.Proofs.YtnpghcikhpglkaaW.PrintWords Go.Proofs.YtnpghcikhpglkaaW.PrintLast Go.Proofs.YtnpghcikhpglkaaW.PrintMore
attribute [local go_sem] max2_int min2_int max_two min_two max_three min_three max_four min_four   -- for this text's walks alone
set_option linter.unusedVariables false
set_option linter.unusedSimpArgs false

/-! ### herbariumref1_List_Put: function 55 -/
def herbariumref1_List_Put.l0 : Nat → List Int → Int → Int → Option (List Int)
  | 0, _, _, _ => none
  | k + 1, x0, x1, x7 => if x7 ≥ 0 then (if 0 ≤ x7 then (if x0.length < 140737488355328 then (herbariumref1_List_Put.l0 k (x0 ++ [(Go.bits .and .i64 (shr .i64 x1 x7) 1) % 256]) x1 (wrap64 (x7 - 1))) else (none)) else (none)) else (some x0)
def herbariumref1_List_Put.f (k : Nat) (l0 : List Int) (a1 : Int) (a2 : Int) : Option (List Int) := herbariumref1_List_Put.l0 k l0 a1 (wrap64 (a2 - 1))
set_option maxHeartbeats 8000000 in
set_option maxRecDepth 100000 in
theorem herbariumref1_List_Put.calls (k : Nat) (P0_ : Nat → Prop) (u9000_ : Value) (l0 : List Int) (a1 : Int) (a2 : Int) (r : List Int) (w0 w : World) (hB : Below w0.heap.size w0 w) (ho0 : Kd.R (Kd.int .u8) 5 w w0.heap.size P0_ u9000_ l0) (h : herbariumref1_List_Put.f k l0 a1 a2 = some r) :
    Calls Try.prog 55 #[u9000_, .int .i64 a1, .int .i64 a2] w fun e w' => ∃ v0_ : Value, e = .returned (v0_) ∧ Kd.R (Kd.int .u8) 5 w' w0.heap.size (fun k_ => (P0_ k_ ∨ w.heap.size ≤ k_)) v0_ r ∧ Below w0.heap.size w0 w' ∧ Kept w w' (fun k_ => P0_ k_) := by
 have HO0 := ak (show Kd.R (Kd.int .u8) 5 w w0.heap.size (fun k_ => (P0_ k_ ∨ w.heap.size ≤ k_)) u9000_ l0 from Kd.R_mono ho0 (fun k_ hk => (.inl hk)))
 have HK := ak (Kept.refl w (fun k_ => P0_ k_))
 have HW0 := ak hB.size
 have HB := ak hB
 clear hB
 have H : (herbariumref1_List_Put.l0 k l0 a1 (wrap64 (a2 - 1))) = some r := h
 clear h
 have H' := ak H
 clear H
 go_enter Try.func55, Try.ntmps55
 go_wp2
 go_loopg [0, 7] k (fun kq v0 v7 w' => ∃ (x0_1 : List Int) (x7_1 : Int), v7 = .int .i64 x7_1 ∧ Aside0 (herbariumref1_List_Put.l0 kq x0_1 a1 x7_1 = some r) ∧ Aside0 (kq ≤ k) ∧ Aside0 (Kd.R (Kd.int .u8) 5 w' w0.heap.size (fun k_ => (P0_ k_ ∨ w.heap.size ≤ k_)) v0 x0_1) ∧ Aside0 (Kept w w' (fun k_ => P0_ k_)) ∧ Aside0 (Below w0.heap.size w0 w'))
 case atStart => exact ⟨(l0), (wrap64 (a2 - 1)), (by first | rfl | (simp; done) | (simp [*]; done)), H', ⟨Nat.le_refl _⟩, ⟨ur <| HO0.out⟩, ⟨by repeat (first | (with_reducible first | exact HK.out | apply Kept.alloc | apply Kept.drewN | apply Kept.drew) | exact HK.out)⟩, ⟨ul HB.out⟩⟩
 clear H'
 obtain ⟨x0_1, x7_1, rfl, HA, HK1, HO_0, HK, HB⟩ := hrel
 cases gk with
 | zero => exact absurd HA.out (by simp [herbariumref1_List_Put.l0])
 | succ k1 => ?_
 have H := HA.out
 clear HA
 simp only [herbariumref1_List_Put.l0] at H
 by_cases c4 : x7_1 ≥ 0
 rotate_left
 ·
  rw [if_neg c4] at H
  have c4b0 : decide (0 ≤ x7_1) = false := decide_eq_false c4
  clear c4
  obtain rfl := Option.some.inj H
  go_wp2
  go_ret
  exact ⟨_, by first | rfl | (simp [errW_none, errW_some] <;> rfl) | (simp [*, errW_none, errW_some] <;> rfl), ur <| HO_0.out, ul HB.out, by repeat (first | (with_reducible first | exact HK.out | apply Kept.alloc | apply Kept.drewN | apply Kept.drew) | exact HK.out)⟩
 rw [if_pos c4] at H
 have c4b0 : decide (0 ≤ x7_1) = true := decide_eq_true c4
 clear c4
 by_cases c5 : 0 ≤ x7_1
 rotate_left
 ·
  rw [if_neg c5] at H
  exact absurd H (by simp)
 rw [if_pos c5] at H
 have c5b0 := eq_true c5
 have c5b1 : decide (0 ≤ x7_1) = true := decide_eq_true c5
 clear c5
 obtain ⟨ji6, hji6⟩ : ∃ j_ : Int, (shr .i64 a1 x7_1) = j_ := ⟨_, rfl⟩
 replace H : (if x0_1.length < 140737488355328 then (herbariumref1_List_Put.l0 k1 (x0_1 ++ [(Go.bits .and .i64 (ji6) 1) % 256]) a1 (wrap64 (x7_1 - 1))) else (none)) = some r := by first | (rw [hji6] at H; exact H) | (simp only [hji6] at H ⊢; exact H)
 have hji6_ : (a1 / 2 ^ min x7_1.toNat 64) = ji6 := hji6
 have hji6z : x7_1 ≤ 64 → (a1 / 2 ^ x7_1.toNat) = ji6 := shr_small hji6
 by_cases c7 : x0_1.length < 140737488355328
 rotate_left
 ·
  rw [if_neg c7] at H
  exact absurd H (by simp)
 rw [if_pos c7] at H
 have LMc7 := ak c7
 clear c7
 obtain ⟨y376, hy376⟩ : ∃ y_ : List Int, y_ = (x0_1 ++ [(Go.bits .and .i64 (ji6) 1) % 256]) := ⟨_, rfl⟩
 replace H : (herbariumref1_List_Put.l0 k1 y376 a1 (wrap64 (x7_1 - 1))) = some r := by first | (rw [hy376]; with_reducible exact H) | (have H2_ := (Option.bind_some _ _).symm.trans H; rw [hy376]; with_reducible exact H2_) | (have H2_ := (Option.bind_some _ _).symm.trans H; with_reducible exact H2_) | with_reducible exact H | (rw [hy376]; exact H) | exact H
 have Ny376 := ak hy376
 clear hy376
 have H' := ak H
 clear H
 go_wp2_with (first | ((with_reducible refine gate_builtin (b := .append) (xs := #[.tmp 14, .tmp 20]) rfl ?_); at_builtin; refine Kd.R_append (Kd.int .u8) (w0 := w0) w0.heap.size rfl (.tmp 14) (.tmp 20) 64 5 (.int .u8 0) 1 rfl Try.underlying64 info5 rfl (by decide) (by omega) u0 x0_1 ((Go.bits .and .i64 (ji6) 1) % 256) [.int .u8 ((Go.bits .and .i64 (ji6) 1) % 256)] (fun k_ => (P0_ k_ ∨ w.heap.size ≤ k_)) (fun _ => False) rfl rfl ?aP (fun _ hk => hk.elim) ?aF ?aO ?aB ?aS ?aL ?_; (case aP => exact rfl); (case aB => exact (ul HB.out)); (case aF => exact (fun k_ hk => (.inr (Nat.le_trans (by first | exact HK.out.1 | exact (show Kept w _ (fun k_ => P0_ k_) from by repeat (first | (with_reducible first | exact HK.out | apply Kept.alloc | apply Kept.drewN | apply Kept.drew) | exact HK.out)).1) hk)))); (case aO => exact (ur <| HO_0.out)); (case aS => exact (below_size (ul HB.out))); (case aL => have := LMc7.out; omega); intro v377 w8 ho hb hg hat; rw [← Ny376.out] at ho; have n0_ := ak (hb); have n1_ := ak (Kept.of_grown (S := (fun k_ => P0_ k_)) hg (by repeat (first | (with_reducible first | exact HK.out | apply Kept.alloc | apply Kept.drewN | apply Kept.drew) | exact HK.out)) (fun k_ e_ => (HO_0.out.1 k_ e_))); have n2_ := ak (ho); clear HB; clear HK; clear HO_0; have HB := n0_; have HK := n1_; have HO378 := n2_; clear n0_ n1_ n2_; clear ho hb hg hat))
 go_roundg k1
 case measure => have := HK1.out; omega
 case rel => exact ⟨(y376), (wrap64 (x7_1 - 1)), (by first | rfl | (simp; done) | (simp [*]; done)), H', ⟨by have := HK1.out; omega⟩, ⟨ur <| HO378.out⟩, ⟨by repeat (first | (with_reducible first | exact HK.out | apply Kept.alloc | apply Kept.drewN | apply Kept.drew) | exact HK.out)⟩, ⟨ul HB.out⟩⟩
end Go.Proofs.Ytnpghcikhpglkaa.Q
namespace Go.Proofs.Ytnpghcikhpglkaa.Q
open Go.RowKit Go.Proofs.YtnpghcikhpglkaaW.PrintWords Go.Proofs.YtnpghcikhpglkaaW.PrintLast Go.Proofs.YtnpghcikhpglkaaW.PrintMore
attribute [local go_sem] max2_int min2_int max_two min_two max_three min_three max_four min_four   -- for this text's walks alone
set_option linter.unusedVariables false
set_option linter.unusedSimpArgs false

/-! ### herbariumref1_List_Pack: function 56 -/
def herbariumref1_List_Pack.l0 : Nat → List Int → List Int → Int → Option (ByteArray × Int)
  | 0, _, _, _ => none
  | k + 1, x0, x3, x4 => if x4 < (x0.length : Int) then (if 0 ≤ (wrap64 (Int.tdiv x4 8)) then (if (wrap64 (Int.tdiv x4 8)) < (x3.length : Int) then (if 0 ≤ x4 then (if 0 ≤ (wrap64 (7 - (Int.tmod x4 8))) then (herbariumref1_List_Pack.l0 k x0 (x3.set ((wrap64 (Int.tdiv x4 8)) : Int).toNat (Go.bits .or .u8 (rd x3 (wrap64 (Int.tdiv x4 8))) (shl .u8 (rd x0 x4) (wrap64 (7 - (Int.tmod x4 8)))))) (wrap64 (x4 + 1))) else (none)) else (none)) else (none)) else (none)) else (some (strOfNums x3, (x0.length : Int)))
def herbariumref1_List_Pack.f (k : Nat) (l0 : List Int) : Option (ByteArray × Int) := if 0 ≤ (wrap64 (Int.tdiv (wrap64 ((l0.length : Int) + 7)) 8)) then (if (wrap64 (Int.tdiv (wrap64 ((l0.length : Int) + 7)) 8) : Int).toNat ≤ 281474976710656 then (herbariumref1_List_Pack.l0 k l0 (List.replicate (wrap64 (Int.tdiv (wrap64 ((l0.length : Int) + 7)) 8) : Int).toNat 0) 0) else (none)) else (none)
def herbariumref1_List_Pack.T5 : Bool × List (List Nat × List Nat) := (true, [([], []), ([], []), ([1], [1]), ([], []), ([], []), ([4], [4]), ([3, 5], [3, 5]), ([6], [6]), ([], []), ([], []), ([8, 9], [8, 9]), ([10], [10]), ([], []), ([12], [12]), ([13], [13]), ([11, 14], [11, 14]), ([7, 15], [7, 15]), ([0, 2, 0, 1, 2, 3, 4, 5, 6, 7, 8, 9, 10, 11, 12, 13, 14, 15, 16], [0, 2]), ([17, 16, 0, 1, 2, 3, 4, 5, 6, 7, 8, 9, 10, 11, 12, 13, 14, 15, 16], [16, 17])])
def herbariumref1_List_Pack.B5 : List Nat := [0, 0, 2, 0, 0, 16, 56, 120, 0, 0, 768, 1792, 0, 4096, 12288, 32512, 65528, 131071, 262143]
theorem herbariumref1_List_Pack.tab5 : rtab .any (opsOf Try.f56 5) = herbariumref1_List_Pack.T5 := by kernel_rfl
theorem herbariumref1_List_Pack.bits5 : waitsOk herbariumref1_List_Pack.T5.2 herbariumref1_List_Pack.B5 = true := by kernel_rfl
set_option maxHeartbeats 8000000 in
set_option maxRecDepth 100000 in
theorem herbariumref1_List_Pack.calls (k : Nat) (A0 : Option Addr) (c0 : Nat) (l0 : List Int) (r1 : ByteArray) (r2 : Int) (w : World) (hr0 : Kd.C (Kd.int .u8) w A0 l0.length l0) (hc0 : l0.length ≤ c0) (h : herbariumref1_List_Pack.f k l0 = some (r1, r2)) :
    Calls Try.prog 56 #[.slice A0 l0.length c0] w fun e w' => e = .returned (.agg #[.string r1, .int .i64 r2]) ∧ Below w.heap.size w w' := by
 have hu27 := Try.underlying27
 have HR0 := ak hr0
 have HC0 := ak hc0
 clear hr0 hc0
 have HB := ak (Below.refl w.heap.size w)
 have H : (if 0 ≤ (wrap64 (Int.tdiv (wrap64 ((l0.length : Int) + 7)) 8)) then (if (wrap64 (Int.tdiv (wrap64 ((l0.length : Int) + 7)) 8) : Int).toNat ≤ 281474976710656 then (herbariumref1_List_Pack.l0 k l0 (List.replicate (wrap64 (Int.tdiv (wrap64 ((l0.length : Int) + 7)) 8) : Int).toNat 0) 0) else (none)) else (none)) = some (r1, r2) := h
 clear h
 obtain ⟨ji2, hji2⟩ : ∃ j_ : Int, (wrap64 (Int.tdiv (wrap64 ((l0.length : Int) + 7)) 8)) = j_ := ⟨_, rfl⟩
 replace H : (if 0 ≤ (ji2) then (if (ji2 : Int).toNat ≤ 281474976710656 then (herbariumref1_List_Pack.l0 k l0 (List.replicate (ji2 : Int).toNat 0) 0) else (none)) else (none)) = some (r1, r2) := by first | (rw [hji2] at H; exact H) | (simp only [hji2] at H ⊢; exact H)
 have hji2w : (IntKind.i64.wrap (Int.tdiv (wrap64 ((l0.length : Int) + 7)) 8)) = ji2 := (i64_w _).trans hji2
 by_cases c3 : 0 ≤ (ji2)
 rotate_left
 ·
  rw [if_neg c3] at H
  exact absurd H (by simp)
 rw [if_pos c3] at H
 have c3b0 := eq_true c3
 have c3b1 : decide (0 ≤ (ji2)) = true := decide_eq_true c3
 clear c3
 by_cases c4 : (ji2 : Int).toNat ≤ 281474976710656
 rotate_left
 ·
  rw [if_neg c4] at H
  exact absurd H (by simp)
 rw [if_pos c4] at H
 have c4b0 := eq_true c4
 have c4b1 : decide ((ji2 : Int).toNat ≤ 281474976710656) = true := decide_eq_true c4
 clear c4
 obtain ⟨y380, hy380⟩ : ∃ y_ : List Int, y_ = (List.replicate (ji2 : Int).toNat 0) := ⟨_, rfl⟩
 replace H : (herbariumref1_List_Pack.l0 k l0 y380 0) = some (r1, r2) := by first | (rw [hy380]; with_reducible exact H) | (have H2_ := (Option.bind_some _ _).symm.trans H; rw [hy380]; with_reducible exact H2_) | (have H2_ := (Option.bind_some _ _).symm.trans H; with_reducible exact H2_) | with_reducible exact H | (rw [hy380]; exact H) | exact H
 have Ny380 := ak hy380
 clear hy380
 have H' := ak H
 clear H
 go_enter Try.func56, Try.ntmps56
 go_wp2_with (first | ((with_reducible refine gate_dst (N := 2) rfl ?_); refine box_event ?hg (N := 2) ?hd (cs := #[.string (⟨#[]⟩ : ByteArray), .int .i64 0]) (t := 27) ?hr ?_; (case hd => rfl); (case hg => rfl); (case hr => first | (go_simp; done) | (go_simp; rfl)); intro gb379 hg w5 hbox hb; have n0_ := ak (below_step (ul HB.out) hb); have n1_ := ak (hbox); have n2_ := ak ((by rw [hg]; exact (below_size (ul HB.out)) : w.heap.size ≤ gb379)); have n3_ := ak ((by rw [hg]; exact (below_size (ul HB.out)) : w.heap.size ≤ gb379)); clear HB; have HB := n0_; have BK379 := n1_; have GW379 := n2_; have GE379 := n3_; clear n0_ n1_ n2_ n3_; clear hb hbox hg) | ((with_reducible refine gate_dst (N := 9) rfl ?_); refine Kd.R_make (Kd.int .u8) _ 5 rfl (N := 9) rfl 63 _ _ rfl ji2 rfl rfl Try.underlying63 (.int .u8 0) 1 info5 rfl (by decide) (by omega) 0 (ok := fun _ => True) (okp := fun _ => True) rfl (fun _ hk => hk) trivial (of_decide_eq_true (by first | (with_reducible assumption) | assumption)) (Nat.le_trans (Nat.mul_le_mul_right _ (of_decide_eq_true (by first | (with_reducible assumption) | assumption) : ji2.toNat ≤ 281474976710656)) (by omega)) (Below.refl _ _) (Nat.le_refl _) ?_; intro v381 w6 ho7 hb hg_ hnew_; clear hg_ hnew_; (first | rw [← Ny380.out] at ho7 | (simp only [Int.reduceToNat] at ho7; rw [← Ny380.out] at ho7)); have n0_ := ak (Kd.R_lower ho7 (below_size (by repeat with_reducible first | exact HB.out | apply b1 | apply b2 | apply b3 | refine b4 ?_ GE379.out))); have n1_ := ak (blk_below (g := gb379) (o := .cells #[.string (⟨#[]⟩ : ByteArray), .int .i64 0] 27 (0, 0)) (ub BK379.out) hb); have n2_ := ak (below_step (by repeat with_reducible first | exact HB.out | apply b1 | apply b2 | apply b3 | refine b4 ?_ GE379.out) hb); clear BK379; clear HB; have HO382 := n0_; have BK379 := n1_; have HB := n2_; clear n0_ n1_ n2_; clear hb ho7))
 go_loopg [4] k (fun kq v4 w' => ∃ (x3_1 : List Int) (x4_1 : Int), v4 = .int .i64 x4_1 ∧ Aside0 (herbariumref1_List_Pack.l0 kq l0 x3_1 x4_1 = some (r1, r2)) ∧ Aside0 (kq ≤ k) ∧ Aside0 (Kd.R (Kd.int .u8) 5 w' w.heap.size (fun _ => True) v381 x3_1) ∧ Aside0 (w'.heap[gb379]? = some (.cells #[.string (⟨#[]⟩ : ByteArray), .int .i64 0] 27 (0, 0))) ∧ Aside0 (Below w.heap.size w w'))
 case atStart => exact ⟨(y380), (0), (by first | rfl | (simp; done) | (simp [*]; done)), H', ⟨Nat.le_refl _⟩, ⟨ur <| HO382.out⟩, ⟨ub BK379.out⟩, ⟨by repeat with_reducible first | exact HB.out | apply b1 | apply b2 | apply b3 | refine b4 ?_ GE379.out⟩⟩
 clear H'
 (try clear c3); (try clear c3b0); (try clear c3b1); (try clear c4); (try clear c4b0); (try clear c4b1)
 obtain ⟨x3_1, x4_1, rfl, HA, HK1, HO_3, BK379, HB⟩ := hrel
 cases gk with
 | zero => exact absurd HA.out (by simp [herbariumref1_List_Pack.l0])
 | succ k1 => ?_
 have H := HA.out
 clear HA
 simp only [herbariumref1_List_Pack.l0] at H
 by_cases c8 : x4_1 < (l0.length : Int)
 rotate_left
 ·
  rw [if_neg c8] at H
  have c8b0 : decide (x4_1 < (l0.length : Int)) = false := decide_eq_false c8
  clear c8
  simp only [Option.some.injEq, Prod.mk.injEq] at H
  obtain ⟨rfl, rfl⟩ := H
  have hcv20 := own_string (P := Try.prog) Try.underlying63 Try.underlying5 Try.underlying9 (Kd.own_of_R HO_3.out)
  have hcz21_0 : wr.cell? ⟨gb379, 0, none⟩ = some (.string (⟨#[]⟩ : ByteArray)) := (blk_cell BK379.out 0).trans rfl
  have hcz21_1 : wr.cell? ⟨gb379, 1, none⟩ = some (.int .i64 0) := (blk_cell BK379.out 1).trans rfl
  have hfz21_0 := blk_frozen BK379.out 0
  have hfz21_1 := blk_frozen BK379.out 1
  go_wp2
  refine bodyPost_ret (results_cell_row rfl _ _ gb379 27 #[.string (strOfNums x3_1), .int .i64 (l0.length : Int)] (0, 0) _ rfl (by (with_reducible repeat (first | refine blk_drewN ?_ _ | refine blk_drew ?_ | refine blk_alloc ?_ _)); refine blk_put (cs := #[.string (strOfNums x3_1), .int .i64 0]) ?_ 1 _ rfl; (with_reducible repeat (first | refine blk_drewN ?_ _ | refine blk_drew ?_ | refine blk_alloc ?_ _)); refine blk_put (cs := #[.string (⟨#[]⟩ : ByteArray), .int .i64 0]) ?_ 0 _ rfl; (with_reducible repeat (first | refine blk_drewN ?_ _ | refine blk_drew ?_ | refine blk_alloc ?_ _)); exact BK379.out) Try.underlying27 rfl (by kernel_rfl)) rfl ?_
  exact ⟨by first | rfl | (simp [errW_none, errW_some] <;> rfl) | (simp only [← hji2]; first | rfl | (simp [errW_none, errW_some] <;> rfl)) | (simp [*, errW_none, errW_some] <;> rfl), by repeat with_reducible first | exact HB.out | apply b1 | apply b2 | apply b3 | refine b4 ?_ GE379.out⟩
 rw [if_pos c8] at H
 have c8b0 : decide (x4_1 < (l0.length : Int)) = true := decide_eq_true c8
 clear c8
 obtain ⟨ji9, hji9⟩ : ∃ j_ : Int, (wrap64 (Int.tdiv x4_1 8)) = j_ := ⟨_, rfl⟩
 replace H : (if 0 ≤ (ji9) then (if (ji9) < (x3_1.length : Int) then (if 0 ≤ x4_1 then (if 0 ≤ (wrap64 (7 - (Int.tmod x4_1 8))) then (herbariumref1_List_Pack.l0 k1 l0 (x3_1.set ((ji9) : Int).toNat (Go.bits .or .u8 (rd x3_1 (ji9)) (shl .u8 (rd l0 x4_1) (wrap64 (7 - (Int.tmod x4_1 8)))))) (wrap64 (x4_1 + 1))) else (none)) else (none)) else (none)) else (none)) = some (r1, r2) := by first | (rw [hji9] at H; exact H) | (simp only [hji9] at H ⊢; exact H)
 have hji9w : (IntKind.i64.wrap (Int.tdiv x4_1 8)) = ji9 := (i64_w _).trans hji9
 by_cases c10 : 0 ≤ (ji9)
 rotate_left
 ·
  rw [if_neg c10] at H
  exact absurd H (by simp)
 rw [if_pos c10] at H
 have c10b0 : decide (0 ≤ (ji9)) = true := decide_eq_true c10
 clear c10
 by_cases c11 : (ji9) < (x3_1.length : Int)
 rotate_left
 ·
  rw [if_neg c11] at H
  exact absurd H (by simp)
 rw [if_pos c11] at H
 have c11b0 : decide ((ji9) < (x3_1.length : Int)) = true := decide_eq_true c11
 clear c11
 by_cases c12 : 0 ≤ x4_1
 rotate_left
 ·
  rw [if_neg c12] at H
  exact absurd H (by simp)
 rw [if_pos c12] at H
 have c12b0 : decide (0 ≤ x4_1) = true := decide_eq_true c12
 clear c12
 obtain ⟨ji13, hji13⟩ : ∃ j_ : Int, (wrap64 (7 - (Int.tmod x4_1 8))) = j_ := ⟨_, rfl⟩
 replace H : (if 0 ≤ (ji13) then (herbariumref1_List_Pack.l0 k1 l0 (x3_1.set ((ji9) : Int).toNat (Go.bits .or .u8 (rd x3_1 (ji9)) (shl .u8 (rd l0 x4_1) (ji13)))) (wrap64 (x4_1 + 1))) else (none)) = some (r1, r2) := by first | (rw [hji13] at H; exact H) | (simp only [hji13] at H ⊢; exact H)
 have hji13w : (IntKind.i64.wrap (7 - (Int.tmod x4_1 8))) = ji13 := (i64_w _).trans hji13
 by_cases c14 : 0 ≤ (ji13)
 rotate_left
 ·
  rw [if_neg c14] at H
  exact absurd H (by simp)
 rw [if_pos c14] at H
 have c14b0 := eq_true c14
 have c14b1 : decide (0 ≤ (ji13)) = true := decide_eq_true c14
 clear c14
 obtain ⟨ji15, hji15⟩ : ∃ j_ : Int, (shl .u8 (rd l0 x4_1) (ji13)) = j_ := ⟨_, rfl⟩
 replace H : (herbariumref1_List_Pack.l0 k1 l0 (x3_1.set ((ji9) : Int).toNat (Go.bits .or .u8 (rd x3_1 (ji9)) (ji15))) (wrap64 (x4_1 + 1))) = some (r1, r2) := by first | (rw [hji15] at H; exact H) | (simp only [hji15] at H ⊢; exact H)
 have hji15_ : (IntKind.u8.wrap ((rd l0 x4_1) * 2 ^ min (ji13).toNat 8)) = ji15 := hji15
 have hji15z : (ji13) ≤ 8 → (IntKind.u8.wrap ((rd l0 x4_1) * 2 ^ (ji13).toNat)) = ji15 := shl_small hji15
 obtain ⟨y385, hy385⟩ : ∃ y_ : List Int, y_ = (x3_1.set ((ji9) : Int).toNat (Go.bits .or .u8 (rd x3_1 (ji9)) (ji15))) := ⟨_, rfl⟩
 replace H : (herbariumref1_List_Pack.l0 k1 l0 y385 (wrap64 (x4_1 + 1))) = some (r1, r2) := by first | (rw [hy385]; with_reducible exact H) | (have H2_ := (Option.bind_some _ _).symm.trans H; rw [hy385]; with_reducible exact H2_) | (have H2_ := (Option.bind_some _ _).symm.trans H; with_reducible exact H2_) | with_reducible exact H | (rw [hy385]; exact H) | exact H
 have Ny385 := ak hy385
 clear hy385
 have H' := ak H
 clear H
 try go_wp2
 have n0_ := ak (Kd.R_drew HO_3.out)
 have n1_ := ak (blk_drew BK379.out)
 have n2_ := ak (below_drew1 HB.out)
 clear HO_3 BK379 HB
 have HO_3 := n0_; have BK379 := n1_; have HB := n2_
 clear n0_ n1_ n2_
 obtain ⟨Ao18, co18, eo18⟩ := Kd.R_slice HO_3.out
 (first | subst eo18 | (injection eo18 with f1_ f2_ f3_; have f4_ := f1_.symm; have f5_ := f3_.symm; clear f1_ f2_ f3_; subst f4_; subst f5_))
 have p383 : 0 ≤ ((ji9) : Int) := of_decide_eq_true (by first | (with_reducible assumption) | assumption)
 have q383 : (ji9) < (x3_1.length : Int) := of_decide_eq_true (by first | (with_reducible assumption) | assumption)
 obtain ⟨ad383, e383, hx383_0⟩ := Kd.at_int (Kd.R_reads' HO_3.out).2.2 (ji9) p383 q383
 cases e383
 replace p383 := eq_true p383
 replace q383 := eq_true q383
 have p384 : 0 ≤ (x4_1 : Int) := of_decide_eq_true (by first | (with_reducible assumption) | assumption)
 have q384 : x4_1 < (l0.length : Int) := of_decide_eq_true (by first | (with_reducible assumption) | assumption)
 obtain ⟨ad384, e384, hx384_0⟩ := Kd.at_int HR0.out x4_1 p384 q384
 have hw384_0 := hx384_0
 cases e384
 replace hx384_0 := (HB.out.cell (World.block_lt_of_cell? w _ hx384_0)).trans hx384_0
 replace p384 := eq_true p384
 replace q384 := eq_true q384
 have p16 : 0 ≤ ((ji9) : Int) := of_decide_eq_true (by first | (with_reducible assumption) | assumption)
 have q16 : ((ji9) : Int) < ((x3_1.length : Int) : Int) := of_decide_eq_true (by first | (with_reducible assumption) | assumption)
 obtain ⟨go16, co16, eo16, gb16, gl16, cl16, HG16⟩ := Kd.R_form HO_3.out (by omega)
 (first | cases eo16 | (injection eo16 with ea_ en_ ec_; (first | subst ea_ | (injection ea_ with ea_; subst ea_)); subst ec_; clear en_))
 have GB16 := ak gb16
 have GG16 := ak HG16
 clear gb16 gl16 HG16
 (first | simp only [add_plain] at hx383_0 | skip)
 obtain ⟨hx16_0, hf16_0⟩ := Kd.R_celln 0 HO_3.out ((ji9) : Int) p16 q16
 replace p16 := eq_true p16
 replace q16 := eq_true q16
 have HP19 := Kd.R_putn HO_3.out ((ji9) : Int) (Go.bits .or .u8 (rd x3_1 (ji9)) (ji15))
 rw [← Ny385.out] at HP19
 have HQ19 := ak HP19
 clear HP19
 refine start_ (n := 19) (S := fun w' => w'.cell? ⟨go16, ((ji9)).toNat, none⟩ = some (.int .u8 (rd x3_1 (ji9))) ∧ w'.cell? (ad384.add (x4_1).toNat) = some (.int .u8 (rd l0 x4_1))) (ds := [18]) #[false, false, false, false, false, false, false, false, false, false, false, false, false, false, false, false, false, false, false] (by kernel_rfl) rfl rfl ⟨hx383_0, ((HB.out.cell (World.block_lt_of_cell? w _ hw384_0)).trans hw384_0)⟩ (fun hHeld => ?_); refine with_tabW herbariumref1_List_Pack.tab5 herbariumref1_List_Pack.bits5 (fun HT_ HW_ => ?_)
 generalize wr.drew = w17 at HO_3 BK379 HB GG16 HQ19 hf16_0 hx16_0 hx383_0 hx384_0 hHeld ⊢
 refine pure_ (i := 0) (N := some 16) (v := ?_) (a' := ?_) #[true, false, false, false, false, false, false, false, false, false, false, false, false, false, false, false, false, false, false] rfl rfl (any_of HT_.out (by kernel_rfl)) (fun _ _ _ h => h) (Or.inl ⟨by rfl, ?_⟩) ?_ ?_
 rotate_left
 ·
  intro w'
  go_simp
  with_reducible rfl
 rotate_left
 ·
  simp only [Act.put, s1, s2, s3, i64_w, i32_w]
  rfl
 refine pure_ (i := 1) (N := some 17) (v := ?_) (a' := ?_) #[true, true, false, false, false, false, false, false, false, false, false, false, false, false, false, false, false, false, false] rfl rfl (any_of HT_.out (by kernel_rfl)) (fun _ _ _ h => h) (Or.inl ⟨by rfl, ?_⟩) ?_ ?_
 rotate_left
 ·
  intro w'
  go_simp
  with_reducible rfl
 rotate_left
 ·
  simp only [Act.put, s1, s2, s3, i64_w, i32_w]
  rfl
 refine pure_ (i := 2) (N := some 18) (v := ?_) (a' := ?_) #[true, true, true, false, false, false, false, false, false, false, false, false, false, false, false, false, false, false, false] rfl rfl (any_of HT_.out (by kernel_rfl)) (fun _ _ _ h => h) (Or.inl ⟨by rfl, ?_⟩) ?_ ?_
 rotate_left
 ·
  intro w'
  go_simp
  with_reducible rfl
 rotate_left
 ·
  simp only [Act.put, s1, s2, s3, i64_w, i32_w]
  rfl
 refine pure_ (i := 3) (N := some 19) (v := ?_) (a' := ?_) #[true, true, true, true, false, false, false, false, false, false, false, false, false, false, false, false, false, false, false] rfl rfl (any_of HT_.out (by kernel_rfl)) (fun _ _ _ h => h) (Or.inl ⟨by rfl, ?_⟩) ?_ ?_
 rotate_left
 ·
  intro w'
  go_simp
  with_reducible rfl
 rotate_left
 ·
  simp only [Act.put, s1, s2, s3, i64_w, i32_w]
  rfl
 refine pure_ (i := 4) (N := some 20) (v := ?_) (a' := ?_) #[true, true, true, true, true, false, false, false, false, false, false, false, false, false, false, false, false, false, false] rfl rfl (any_of HT_.out (by kernel_rfl)) (fun _ _ _ h => h) (Or.inl ⟨by rfl, ?_⟩) ?_ ?_
 rotate_left
 ·
  intro w'
  go_simp
  with_reducible rfl
 rotate_left
 ·
  simp only [Act.put, s1, s2, s3, i64_w, i32_w]
  rfl
 refine pure_ (i := 5) (N := some 21) (v := ?_) (a' := ?_) #[true, true, true, true, true, true, false, false, false, false, false, false, false, false, false, false, false, false, false] rfl rfl (any_of HT_.out (by kernel_rfl)) (fun _ _ _ h => h) (Or.inl ⟨by rfl, ?_⟩) ?_ ?_
 rotate_left
 ·
  intro w'
  go_simp
  with_reducible rfl
 rotate_left
 ·
  simp only [Act.put, s1, s2, s3, i64_w, i32_w]
  rfl
 refine pure_ (i := 6) (N := some 22) (v := ?_) (a' := ?_) #[true, true, true, true, true, true, true, false, false, false, false, false, false, false, false, false, false, false, false] rfl rfl (any_of HT_.out (by kernel_rfl)) (fun _ _ _ h => h) (Or.inl ⟨by rfl, ?_⟩) ?_ ?_
 rotate_left
 ·
  intro w'
  go_simp
  with_reducible rfl
 rotate_left
 ·
  simp only [Act.put, s1, s2, s3, i64_w, i32_w]
  rfl
 refine pure_ (i := 8) (N := some 24) (v := ?_) (a' := ?_) #[true, true, true, true, true, true, true, false, true, false, false, false, false, false, false, false, false, false, false] rfl rfl (any_of HT_.out (by kernel_rfl)) (fun _ _ _ h => h) (Or.inl ⟨by rfl, ?_⟩) ?_ ?_
 rotate_left
 ·
  intro w'
  go_simp
  with_reducible rfl
 rotate_left
 ·
  simp only [Act.put, s1, s2, s3, i64_w, i32_w]
  rfl
 refine pure_ (i := 9) (N := some 25) (v := ?_) (a' := ?_) #[true, true, true, true, true, true, true, false, true, true, false, false, false, false, false, false, false, false, false] rfl rfl (any_of HT_.out (by kernel_rfl)) (fun _ _ _ h => h) (Or.inl ⟨by rfl, ?_⟩) ?_ ?_
 rotate_left
 ·
  intro w'
  go_simp
  with_reducible rfl
 rotate_left
 ·
  simp only [Act.put, s1, s2, s3, i64_w, i32_w]
  rfl
 refine pure_ (i := 10) (N := some 26) (v := ?_) (a' := ?_) #[true, true, true, true, true, true, true, false, true, true, true, false, false, false, false, false, false, false, false] rfl rfl (any_of HT_.out (by kernel_rfl)) (fun _ _ _ h => h) (Or.inl ⟨by rfl, ?_⟩) ?_ ?_
 rotate_left
 ·
  intro w'
  go_simp
  with_reducible rfl
 rotate_left
 ·
  simp only [Act.put, s1, s2, s3, i64_w, i32_w]
  rfl
 refine pure_ (i := 12) (N := some 28) (v := ?_) (a' := ?_) #[true, true, true, true, true, true, true, false, true, true, true, false, true, false, false, false, false, false, false] rfl rfl (any_of HT_.out (by kernel_rfl)) (fun _ _ _ h => h) (Or.inl ⟨by rfl, ?_⟩) ?_ ?_
 rotate_left
 ·
  intro w'
  go_simp
  with_reducible rfl
 rotate_left
 ·
  simp only [Act.put, s1, s2, s3, i64_w, i32_w]
  rfl
 refine pure_ (i := 13) (N := some 29) (v := ?_) (a' := ?_) #[true, true, true, true, true, true, true, false, true, true, true, false, true, true, false, false, false, false, false] rfl rfl (any_of HT_.out (by kernel_rfl)) (fun _ _ _ h => h) (Or.inl ⟨by rfl, ?_⟩) ?_ ?_
 rotate_left
 ·
  intro w'
  go_simp
  with_reducible rfl
 rotate_left
 ·
  simp only [Act.put, s1, s2, s3, i64_w, i32_w]
  rfl
 refine pure_ (i := 14) (N := some 30) (v := ?_) (a' := ?_) #[true, true, true, true, true, true, true, false, true, true, true, false, true, true, true, false, false, false, false] rfl rfl (any_of HT_.out (by kernel_rfl)) (fun _ _ _ h => h) (Or.inl ⟨by rfl, ?_⟩) ?_ ?_
 rotate_left
 ·
  intro w'
  go_simp
  with_reducible rfl
 rotate_left
 ·
  simp only [Act.put, s1, s2, s3, i64_w, i32_w]
  rfl
 refine take_ (i := 7) (N := some 23) (v := ?_) (a' := ?_) #[true, true, true, true, true, true, true, true, true, true, true, false, true, true, true, false, false, false, false] rfl rfl (take_ofW HT_.out HW_.out (by kernel_rfl)) (fun _ _ _ h => h) (Or.inl ⟨by rfl, ?_⟩) hHeld ?_ ?_
 rotate_left
 ·
  rintro w' ⟨s0, s1⟩
  go_simp
  with_reducible rfl
 rotate_left
 ·
  simp only [Act.put, s1, s2, s3, i64_w, i32_w]
  rfl
 refine take_ (i := 11) (N := some 27) (v := ?_) (a' := ?_) #[true, true, true, true, true, true, true, true, true, true, true, true, true, true, true, false, false, false, false] rfl rfl (take_ofW HT_.out HW_.out (by kernel_rfl)) (fun _ _ _ h => h) (Or.inl ⟨by rfl, ?_⟩) hHeld ?_ ?_
 rotate_left
 ·
  rintro w' ⟨s0, s1⟩
  go_simp
  with_reducible rfl
 rotate_left
 ·
  simp only [Act.put, s1, s2, s3, i64_w, i32_w]
  rfl
 refine pure_ (i := 15) (N := some 31) (v := ?_) (a' := ?_) #[true, true, true, true, true, true, true, true, true, true, true, true, true, true, true, true, false, false, false] rfl rfl (any_of HT_.out (by kernel_rfl)) (fun _ _ _ h => h) (Or.inl ⟨by rfl, ?_⟩) ?_ ?_
 rotate_left
 ·
  intro w'
  go_simp
  with_reducible rfl
 rotate_left
 ·
  simp only [Act.put, s1, s2, s3, i64_w, i32_w]
  rfl
 refine pure_ (i := 16) (N := some 32) (v := ?_) (a' := ?_) #[true, true, true, true, true, true, true, true, true, true, true, true, true, true, true, true, true, false, false] rfl rfl (any_of HT_.out (by kernel_rfl)) (fun _ _ _ h => h) (Or.inl ⟨by rfl, ?_⟩) ?_ ?_
 rotate_left
 ·
  intro w'
  go_simp
  with_reducible rfl
 rotate_left
 ·
  simp only [Act.put, s1, s2, s3, i64_w, i32_w]
  rfl
 refine pure_ (i := 17) (N := some 33) (v := ?_) (a' := ?_) #[true, true, true, true, true, true, true, true, true, true, true, true, true, true, true, true, true, true, false] rfl rfl (any_of HT_.out (by kernel_rfl)) (fun _ _ _ h => h) (Or.inl ⟨by rfl, ?_⟩) ?_ ?_
 rotate_left
 ·
  intro w'
  go_simp
  with_reducible rfl
 rotate_left
 ·
  simp only [Act.put, s1, s2, s3, i64_w, i32_w]
  rfl
 refine last_ (i := 18) (N := none) #[true, true, true, true, true, true, true, true, true, true, true, true, true, true, true, true, true, true, true] rfl rfl (one_of HT_.out (by kernel_rfl)) (by decide) (fun K hK => ?_)
 refine skip_ (w1 := ?_) (by rfl) rfl ?_ ?_
 rotate_left
 ·
  go_simp
  rfl
 refine hK.out _ _ ?_
 clear hK K
 refine done_ (done_of HT_.out (by kernel_rfl)) ?_
 try go_wp2
 go_roundg k1
 case measure => have := HK1.out; omega
 case rel => exact ⟨(y385), (wrap64 (x4_1 + 1)), (by first | rfl | (simp; done) | (simp [*]; done)), H', ⟨by have := HK1.out; omega⟩, ⟨ur <| HQ19.out⟩, ⟨by (with_reducible repeat (first | refine blk_drewN ?_ _ | refine blk_drew ?_ | refine blk_alloc ?_ _)); refine blk_far ?_ (by have h_ := Kd.R_ne HO_3.out BK379.out (by decide); intro e_; exact h_ (by rw [e_]; rfl)) _; (with_reducible repeat (first | refine blk_drewN ?_ _ | refine blk_drew ?_ | refine blk_alloc ?_ _)); exact BK379.out⟩, ⟨by repeat (first | (with_reducible first | exact HB.out | apply below_alloc | apply pw_below_drewN | apply below_drew1 | refine below_set ?_ GB16.out | refine below_set ?_ GE379.out) | exact HB.out)⟩⟩
end Go.Proofs.Ytnpghcikhpglkaa.Q
namespace Go.Proofs.Ytnpghcikhpglkaa.Q
open Go.RowKit Go.Proofs.YtnpghcikhpglkaaW.PrintWords Go.Proofs.YtnpghcikhpglkaaW.PrintLast Go.Proofs.YtnpghcikhpglkaaW.PrintMore
attribute [local go_sem] max2_int min2_int max_two min_two max_three min_three max_four min_four   -- for this text's walks alone
set_option linter.unusedVariables false
set_option linter.unusedSimpArgs false

/-! ### herbariumref1_List_Get: function 57 -/
def herbariumref1_List_Get.l0 : Nat → List Int → Int → Int → Int → Int → Option (Int)
  | 0, _, _, _, _, _ => none
  | k + 1, x0, x1, x2, x7, x8 => if x8 < (wrap64 (x1 + x2)) then (if 0 ≤ x8 then (if x8 < (x0.length : Int) then (herbariumref1_List_Get.l0 k x0 x1 x2 (wrap64 ((wrap64 (2 * x7)) + (wrap64 (rd x0 x8)))) (wrap64 (x8 + 1))) else (none)) else (none)) else (some x7)
def herbariumref1_List_Get.f (k : Nat) (l0 : List Int) (a1 : Int) (a2 : Int) : Option (Int) := herbariumref1_List_Get.l0 k l0 a1 a2 0 a1
set_option maxHeartbeats 8000000 in
set_option maxRecDepth 100000 in
theorem herbariumref1_List_Get.calls (k : Nat) (A0 : Option Addr) (c0 : Nat) (l0 : List Int) (a1 : Int) (a2 : Int) (r : Int) (w : World) (hr0 : Kd.C (Kd.int .u8) w A0 l0.length l0) (hc0 : l0.length ≤ c0) (h : herbariumref1_List_Get.f k l0 a1 a2 = some r) :
    Calls Try.prog 57 #[.slice A0 l0.length c0, .int .i64 a1, .int .i64 a2] w fun e w' => e = .returned (.int .i64 r) ∧ Drawn0 w w' := by
 have HR0 := ak hr0
 have HC0 := ak hc0
 clear hr0 hc0
 have H : (herbariumref1_List_Get.l0 k l0 a1 a2 0 a1) = some r := h
 clear h
 have H' := ak H
 clear H
 go_enter Try.func57, Try.ntmps57
 go_wp2
 go_loopg [7, 8] k (fun kq v7 v8 w' => ∃ (x7_1 : Int) (x8_1 : Int), v7 = .int .i64 x7_1 ∧ v8 = .int .i64 x8_1 ∧ Aside0 (herbariumref1_List_Get.l0 kq l0 a1 a2 x7_1 x8_1 = some r) ∧ Aside0 (kq ≤ k) ∧ Drawn0 w w')
 case atStart => exact ⟨(0), (a1), (by first | rfl | (simp; done) | (simp [*]; done)), (by first | rfl | (simp; done) | (simp [*]; done)), H', ⟨Nat.le_refl _⟩, by repeat (first | exact Drawn0.refl _ | apply Drawn0.step)⟩
 clear H'
 obtain ⟨x7_1, x8_1, rfl, rfl, HA, HK1, ⟨m1, rfl⟩⟩ := hrel
 cases gk with
 | zero => exact absurd HA.out (by simp [herbariumref1_List_Get.l0])
 | succ k1 => ?_
 have H := HA.out
 clear HA
 simp only [herbariumref1_List_Get.l0] at H
 by_cases c4 : x8_1 < (wrap64 (a1 + a2))
 rotate_left
 ·
  rw [if_neg c4] at H
  have c4b0 : decide (x8_1 < (wrap64 (a1 + a2))) = false := decide_eq_false c4
  clear c4
  obtain rfl := Option.some.inj H
  go_wp2
  go_ret
  exact ⟨by first | rfl | (simp; done) | (simp [*]; done), by repeat (first | exact Drawn0.refl _ | apply Drawn0.step)⟩
 rw [if_pos c4] at H
 have c4b0 : decide (x8_1 < (wrap64 (a1 + a2))) = true := decide_eq_true c4
 clear c4
 by_cases c5 : 0 ≤ x8_1
 rotate_left
 ·
  rw [if_neg c5] at H
  exact absurd H (by simp)
 rw [if_pos c5] at H
 have c5b0 : decide (0 ≤ x8_1) = true := decide_eq_true c5
 clear c5
 by_cases c6 : x8_1 < (l0.length : Int)
 rotate_left
 ·
  rw [if_neg c6] at H
  exact absurd H (by simp)
 rw [if_pos c6] at H
 have c6b0 : decide (x8_1 < (l0.length : Int)) = true := decide_eq_true c6
 clear c6
 have H' := ak H
 clear H
 have p386 : 0 ≤ (x8_1 : Int) := of_decide_eq_true (by first | (with_reducible assumption) | assumption)
 have q386 : x8_1 < (l0.length : Int) := of_decide_eq_true (by first | (with_reducible assumption) | assumption)
 obtain ⟨ad386, e386, hx386_0⟩ := Kd.at_int HR0.out x8_1 p386 q386
 cases e386
 replace p386 := eq_true p386
 replace q386 := eq_true q386
 go_wp2
 go_roundg k1
 case measure => have := HK1.out; omega
 case rel => exact ⟨(wrap64 ((wrap64 (2 * x7_1)) + (wrap64 (rd l0 x8_1)))), (wrap64 (x8_1 + 1)), (by first | rfl | (simp; done) | (simp [*]; done)), (by first | rfl | (simp; done) | (simp [*]; done)), H', ⟨by have := HK1.out; omega⟩, by repeat (first | exact Drawn0.refl _ | apply Drawn0.step)⟩
end Go.Proofs.Ytnpghcikhpglkaa.Q
namespace Go.Proofs.Ytnpghcikhpglkaa.Q
open Go.RowKit Go.Proofs.YtnpghcikhpglkaaW.PrintWords Go.Proofs.YtnpghcikhpglkaaW.PrintLast Go.Proofs.YtnpghcikhpglkaaW.PrintMore
attribute [local go_sem] max2_int min2_int max_two min_two max_three min_three max_four min_four   -- for this text's walks alone
set_option linter.unusedVariables false
set_option linter.unusedSimpArgs false

/-! ### code_Is: function 102 -/
def code_Is.f (a0 : Int) : Option (Bool) := if a0 ≥ 1 then (some (decide (a0 ≤ 5))) else (some false)
set_option maxHeartbeats 8000000 in
set_option maxRecDepth 100000 in
theorem code_Is.calls (a0 : Int) (r : Bool) (w : World) (h : code_Is.f a0 = some r) :
    Calls Try.prog 102 #[.int .i64 a0] w fun e w' => e = .returned (.bool r) ∧ Drawn0 w w' := by
 have H : (if a0 ≥ 1 then (some (decide (a0 ≤ 5))) else (some false)) = some r := h
 clear h
 by_cases c2 : a0 ≥ 1
 ·
  rw [if_pos c2] at H
  have c2b0 : decide (1 ≤ a0) = true := decide_eq_true c2
  clear c2
  obtain rfl := Option.some.inj H
  go_enter Try.func102, Try.ntmps102
  go_wp2
  go_ret
  exact ⟨by first | rfl | (simp; done) | (simp [*]; done), by repeat (first | exact Drawn0.refl _ | apply Drawn0.step)⟩
 rw [if_neg c2] at H
 have c2b0 : decide (1 ≤ a0) = false := decide_eq_false c2
 clear c2
 obtain rfl := Option.some.inj H
 go_enter Try.func102, Try.ntmps102
 go_wp2
 go_ret
 exact ⟨by first | rfl | (simp; done) | (simp [*]; done), by repeat (first | exact Drawn0.refl _ | apply Drawn0.step)⟩
end Go.Proofs.Ytnpghcikhpglkaa.Q
namespace Go.Proofs.Ytnpghcikhpglkaa.Q
open Go.RowKit Go.Proofs.YtnpghcikhpglkaaW.PrintWords Go.Proofs.YtnpghcikhpglkaaW.PrintLast Go.Proofs.YtnpghcikhpglkaaW.PrintMore
attribute [local go_sem] max2_int min2_int max_two min_two max_three min_three max_four min_four   -- for this text's walks alone
set_option linter.unusedVariables false
set_option linter.unusedSimpArgs false

/-! ### code_number: function 103 -/
def code_number.f (a0 : Int) (a1 : Int) : Option (Bool) := if a0 = 1 then (if a1 ≥ 1 then (some (decide (a1 ≤ 1000))) else (some false)) else (if a1 ≥ 1 then (some (decide (a1 ≤ 1073741824))) else (some false))
set_option maxHeartbeats 8000000 in
set_option maxRecDepth 100000 in
theorem code_number.calls (a0 : Int) (a1 : Int) (r : Bool) (w : World) (h : code_number.f a0 a1 = some r) :
    Calls Try.prog 103 #[.int .i64 a0, .int .i64 a1] w fun e w' => e = .returned (.bool r) ∧ Drawn0 w w' := by
 have H : (if a0 = 1 then (if a1 ≥ 1 then (some (decide (a1 ≤ 1000))) else (some false)) else (if a1 ≥ 1 then (some (decide (a1 ≤ 1073741824))) else (some false))) = some r := h
 clear h
 by_cases c3 : a0 = 1
 rotate_left
 ·
  rw [if_neg c3] at H
  have c3b0 : (a0 == 1) = false := beq_eq_false_iff_ne.mpr c3
  have c3b1 : (a0 != 1) = true := bne_iff_ne.mpr c3
  by_cases c5 : a1 ≥ 1
  ·
   rw [if_pos c5] at H
   have c5b0 : decide (1 ≤ a1) = true := decide_eq_true c5
   clear c5
   obtain rfl := Option.some.inj H
   go_enter Try.func103, Try.ntmps103
   go_wp2
   go_ret
   exact ⟨by first | rfl | (simp; done) | (simp [*]; done), by repeat (first | exact Drawn0.refl _ | apply Drawn0.step)⟩
  rw [if_neg c5] at H
  have c5b0 : decide (1 ≤ a1) = false := decide_eq_false c5
  clear c5
  obtain rfl := Option.some.inj H
  go_enter Try.func103, Try.ntmps103
  go_wp2
  go_ret
  exact ⟨by first | rfl | (simp; done) | (simp [*]; done), by repeat (first | exact Drawn0.refl _ | apply Drawn0.step)⟩
 rw [if_pos c3] at H
 have c3b0 : (a0 == 1) = true := beq_iff_eq.mpr c3
 have c3b1 : (a0 != 1) = false := bne_eq_false_iff_eq.mpr c3
 clear c3
 by_cases c4 : a1 ≥ 1
 ·
  rw [if_pos c4] at H
  have c4b0 : decide (1 ≤ a1) = true := decide_eq_true c4
  clear c4
  obtain rfl := Option.some.inj H
  go_enter Try.func103, Try.ntmps103
  go_wp2
  go_ret
  exact ⟨by first | rfl | (simp; done) | (simp [*]; done), by repeat (first | exact Drawn0.refl _ | apply Drawn0.step)⟩
 rw [if_neg c4] at H
 have c4b0 : decide (1 ≤ a1) = false := decide_eq_false c4
 clear c4
 obtain rfl := Option.some.inj H
 go_enter Try.func103, Try.ntmps103
 go_wp2
 go_ret
 exact ⟨by first | rfl | (simp; done) | (simp [*]; done), by repeat (first | exact Drawn0.refl _ | apply Drawn0.step)⟩
end Go.Proofs.Ytnpghcikhpglkaa.Q
namespace Go.Proofs.Ytnpghcikhpglkaa.Q
open Go.RowKit Go.Proofs.YtnpghcikhpglkaaW.PrintWords Go.Proofs.YtnpghcikhpglkaaW.PrintLast Go.Proofs.YtnpghcikhpglkaaW.PrintMore
attribute [local go_sem] max2_int min2_int max_two min_two max_three min_three max_four min_four   -- for this text's walks alone
set_option linter.unusedVariables false
set_option linter.unusedSimpArgs false

/-! ### code_parts: function 118 -/
def code_parts.f (a0 : Int) : Option (Int) := some (wrap64 ((wrap64 (a0 - 4)) + 2))
set_option maxHeartbeats 8000000 in
set_option maxRecDepth 100000 in
theorem code_parts.calls (a0 : Int) (r : Int) (w : World) (h : code_parts.f a0 = some r) :
    Calls Try.prog 118 #[.int .i64 a0] w fun e w' => e = .returned (.int .i64 r) ∧ Drawn0 w w' := by
 have H : (some (wrap64 ((wrap64 (a0 - 4)) + 2))) = some r := h
 clear h
 obtain rfl := Option.some.inj H
 go_enter Try.func118, Try.ntmps118
 go_wp2
 go_ret
 exact ⟨by first | rfl | (simp; done) | (simp [*]; done), by repeat (first | exact Drawn0.refl _ | apply Drawn0.step)⟩
end Go.Proofs.Ytnpghcikhpglkaa.Q
namespace Go.Proofs.Ytnpghcikhpglkaa.Hand
open Go.RowKit Go.Proofs.YtnpghcikhpglkaaW.PrintWords Go.Proofs.YtnpghcikhpglkaaW.PrintLast Go.Proofs.YtnpghcikhpglkaaW.PrintMore Go.Proofs.Ytnpghcikhpglkaa.Q
set_option linter.unusedVariables false
set_option linter.unusedSimpArgs false
/-- The value v owns the bytes bs (its block's mark covers none of its cells). -/
def OwnB (w : World) (base : Nat) (v : Value) (bs : List Int) : Prop :=
  (v = .slice none 0 0 ∧ bs = []) ∨
  ∃ g cap cur fr, v = .slice (some ⟨g, 0, none⟩) bs.length cap ∧ base ≤ g ∧ w.heap[g]? = some (.cells cur 5 fr) ∧ bs.length ≤ cap ∧ cap ≤ maxLen ∧ cur.size = cap ∧ (fr.2 = 0 ∨ cap ≤ fr.1) ∧ cur.toList.take bs.length = nums .u8 bs
theorem OwnB.nil (w : World) (base : Nat) : OwnB w base (.slice none 0 0) [] := .inl ⟨rfl, rfl⟩
theorem OwnB.of_own {w : World} {base : Nat} {v : Value} {bs : List Int} (h : w.ownsRow base 5 1 v bs.length (nums .u8 bs)) : OwnB w base v bs := by
  rcases h.2 with ⟨rfl, h0⟩ | ⟨g, cap, cur, rfl, hb, hg, hn, hm, hs, ht⟩
  · exact .inl ⟨rfl, List.eq_nil_of_length_eq_zero h0⟩
  · exact .inr ⟨g, cap, cur, _, rfl, hb, hg, hn, hm, by simpa using hs, .inl rfl, by simpa using ht⟩
theorem OwnB.base_le {w : World} {base : Nat} {v : Value} {bs : List Int} (h : OwnB w base v bs) (k : Nat) (hk : v.ownBlock = some k) : base ≤ k ∧ k < w.heap.size := by
  rcases h with ⟨rfl, _⟩ | ⟨g, cap, cur, fr, rfl, hb, hg, _⟩
  · simp [Value.ownBlock] at hk
  · have : g = k := by simpa [Value.ownBlock] using hk
    subst this
    exact ⟨hb, (Array.getElem?_eq_some_iff.1 hg).1⟩
theorem OwnB.form {w : World} {base : Nat} {v : Value} {bs : List Int} (h : OwnB w base v bs) (hp : 0 < bs.length) : ∃ g cap, v = .slice (some ⟨g, 0, none⟩) bs.length cap := by
  rcases h with ⟨_, rfl⟩ | ⟨g, cap, cur, fr, rfl, _⟩
  · simp at hp
  · exact ⟨g, cap, rfl⟩
theorem OwnB.shape {w : World} {base : Nat} {v : Value} {bs : List Int} (h : OwnB w base v bs) : ∃ A c, v = .slice A bs.length c ∧ bs.length ≤ c := by
  rcases h with ⟨rfl, rfl⟩ | ⟨g, cap, cur, fr, rfl, _, _, hn, _⟩
  · exact ⟨none, 0, rfl, Nat.le_refl _⟩
  · exact ⟨_, cap, rfl, hn⟩
/-- What is written is another block. -/
theorem OwnB.kept {w w1 : World} {base : Nat} {v : Value} {bs : List Int} (h : OwnB w base v bs) {row : Option Nat} (hg : w.grownBy w1 row) (hne : v.ownBlock = none ∨ v.ownBlock ≠ row) : OwnB w1 base v bs := by
  rcases h with hn | ⟨g, cap, cur, fr, rfl, hb, hgg, r⟩
  · exact .inl hn
  · refine .inr ⟨g, cap, cur, fr, rfl, hb, ?_, r⟩
    rw [hg.block g (Array.getElem?_eq_some_iff.1 hgg).1 (by simpa [Value.ownBlock] using hne)]
    exact hgg
theorem OwnB.below {w w1 : World} {base : Nat} {v : Value} {bs : List Int} (h : OwnB w base v bs) (hb : Below w.heap.size w w1) : OwnB w1 base v bs :=
  h.kept (grown_of_below hb none) (by cases v.ownBlock <;> simp)
theorem OwnB.alloc {w : World} {base : Nat} {v : Value} {bs : List Int} (h : OwnB w base v bs) (o : Obj) : OwnB (w.alloc o) base v bs :=
  h.kept (World.grownBy_alloc w o none) (by cases v.ownBlock <;> simp)
theorem OwnB.ne {w : World} {base : Nat} {v : Value} {bs : List Int} (h : OwnB w base v bs) {g t : Nat} {cs : Array Value} {fr : Nat × Nat} (hg : w.heap[g]? = some (.cells cs t fr)) (ht : t ≠ 5) : some g ≠ v.ownBlock := by
  intro hk
  rcases h with ⟨rfl, _⟩ | ⟨g', cap, cur, fr', rfl, hb, hgg, r⟩
  · simp [Value.ownBlock] at hk
  · have : g = g' := by simpa [Value.ownBlock] using hk
    subst this
    rw [hg] at hgg
    injection hgg with hgg
    injection hgg with _ h2
    exact ht h2
theorem OwnB.setFar {w : World} {base : Nat} {v : Value} {bs : List Int} (h : OwnB w base v bs) {p : Addr} (hne : some p.block ≠ v.ownBlock) (u : Value) : OwnB (w.setCell p u) base v bs := by
  rcases h with hn | ⟨g, cap, cur, fr, rfl, hb, hgg, r⟩
  · exact .inl hn
  · refine .inr ⟨g, cap, cur, fr, rfl, hb, ?_, r⟩
    rw [Below.heap_setCell w p u g (fun e => hne (by simp [Value.ownBlock, e]))]
    exact hgg
/-- A cell of it. -/
theorem OwnB.at_ {w : World} {base g n cap : Nat} {bs : List Int} (h : OwnB w base (.slice (some ⟨g, 0, none⟩) n cap) bs) (i : Int) (h0 : 0 ≤ i) (h1 : i < (bs.length : Int)) :
    w.cell? ⟨g, i.toNat, none⟩ = some (.int .u8 (rd bs i)) ∧ w.frozen? ⟨g, i.toNat, none⟩ = false := by
  rcases h with ⟨h', _⟩ | ⟨g', cap', cur, fr, h', hb, hg, hn, hm, hs, hf, ht⟩
  · cases h'
  · simp only [Value.slice.injEq, Option.some.injEq, Addr.mk.injEq, and_true, true_and] at h'
    obtain ⟨rfl, rfl, rfl⟩ := h'
    have hi : i.toNat < bs.length := by omega
    constructor
    · rw [cell_of_row w g i.toNat cur 5 fr hg]
      have h3 : (cur.toList.take bs.length)[i.toNat]? = (nums .u8 bs)[i.toNat]? := by rw [ht]
      rw [List.getElem?_take, if_pos hi] at h3
      rw [← Array.getElem?_toList, h3]
      simp [nums, rd, List.getElem?_eq_getElem hi, List.getD_eq_getElem?_getD]
    · simp only [World.frozen?, hg]
      simp only [Bool.and_eq_false_iff, decide_eq_false_iff_not]
      rcases hf with hf | hf <;> omega
theorem OwnB.store {w : World} {base g n cap : Nat} {bs : List Int} (h : OwnB w base (.slice (some ⟨g, 0, none⟩) n cap) bs) (i x : Int) :
    OwnB (w.setCell ⟨g, i.toNat, none⟩ (.int .u8 x)) base (.slice (some ⟨g, 0, none⟩) n cap) (bs.set i.toNat x) := by
  rcases h with ⟨h', _⟩ | ⟨g', cap', cur, fr, h', hb, hg, hn, hm, hs, hf, ht⟩
  · cases h'
  · simp only [Value.slice.injEq, Option.some.injEq, Addr.mk.injEq, and_true, true_and] at h'
    obtain ⟨rfl, rfl, rfl⟩ := h'
    refine .inr ⟨g, cap, cur.setIfInBounds i.toNat (.int .u8 x), fr, by simp, hb, ?_, by simpa using hn, hm, by simpa using hs, hf, ?_⟩
    · simp only [World.setCell, Array.getElem?_modify, hg]
      simp
    · rw [List.length_set, Array.toList_setIfInBounds, List.take_set, ht]
      simp [nums, List.map_set]
/-- The string of it. -/
theorem OwnB.str {w : World} {base : Nat} {v : Value} {bs : List Int} (h : OwnB w base v bs) : (convert 63 9 v).run Try.prog w = .ok (.string (strOfNums bs)) w := by
  rcases h with ⟨rfl, rfl⟩ | ⟨g, cap, cur, fr, rfl, hb, hg, r⟩
  · exact run_convert_bytes_nil w 63 5 Try.underlying63 Try.underlying5 0 0 9 Try.underlying9
  · have hh : OwnB w base (.slice (some ⟨g, 0, none⟩) bs.length cap) bs := .inr ⟨g, cap, cur, fr, rfl, hb, hg, r⟩
    refine run_convert_bytes_arg w 63 5 Try.underlying63 Try.underlying5 g 0 bs.length cap bs rfl (fun i hi => ?_) 9 Try.underlying9
    have := (hh.at_ (i : Int) (by omega) (by omega)).1
    simpa [rd] using this
/-- '[]byte(s)'. -/
def bytesI (s : ByteArray) : List Int := s.data.toList.map fun b => (b.toNat : Int)
theorem bytesI_length (s : ByteArray) : (bytesI s).length = s.size := by simp [bytesI]
theorem own_bytes (w : World) (s : ByteArray) (base : Nat) (hb : base ≤ w.heap.size) (hs : s.size ≤ 1073741824) :
    OwnB (Lib.bytesWorld w 5 s) base (.slice (some ⟨w.heap.size, 0, none⟩) s.size (grownCap w s.size 0 5)) (bytesI s) := by
  have hge := grownCap_ge w s.size 0 5
  have hle : grownCap w s.size 0 5 ≤ maxLen := grownCap_le_maxLen w s.size 0 5 (by unfold maxLen; omega)
  have hcs : (Lib.bytesCells w 5 s).size = grownCap w s.size 0 5 := by
    have hss : s.data.size = s.size := rfl
    simp only [Lib.bytesCells, Array.size_append, Array.size_map, Array.size_replicate, hss]
    omega
  refine .inr ⟨w.heap.size, _, Lib.bytesCells w 5 s, _, by rw [bytesI_length], hb, Lib.bytesWorld_at_new w 5 s, by rw [bytesI_length]; exact hge, hle, hcs, .inr (by rw [hcs]; exact Nat.le_refl _), ?_⟩
  simp [Lib.bytesCells, bytesI, nums, List.map_map, Function.comp_def]
theorem below_bytes {B : Nat} {w0 w : World} (h : Below B w0 w) (hB : B ≤ w.heap.size) (s : ByteArray) : Below B w0 (Lib.bytesWorld w 5 s) := by
  refine h.trans ⟨?_, ?_, ?_, ?_, fun k hk => Lib.bytesWorld_at_old w 5 s k (by omega)⟩
  · simp [Lib.bytesWorld, World.freeze, World.alloc, World.drew, -World.alloc_eq, -World.drew_eq]
  · simp [Lib.bytesWorld, World.freeze, World.alloc, World.drew, -World.alloc_eq, -World.drew_eq]
  · simp [Lib.bytesWorld, World.freeze, World.alloc, World.drew, -World.alloc_eq, -World.drew_eq]
  · rw [Lib.bytesWorld_size]; omega
/-- append of one byte. -/
theorem run_append_b (w : World) (ty : TypeId) (base : Nat) (v : Value) (bs : List Int) (h : OwnB w base v bs) (a : Addr) (x : Int) (c : Nat) (hx : w.cell? a = some (.int .u8 x)) (h63 : bs.length + 1 ≤ 1099511627776) (hbase : base ≤ w.heap.size) :
    ∃ v' w', (Builtin.append_ #[63, 63] ty #[v, .slice (some a) 1 c]).run Try.prog w = .ok v' w' ∧ OwnB w' base v' (bs ++ [x]) ∧ w.grownBy w' v.ownBlock := by
  obtain ⟨i, hi, hzz⟩ := Option.map_eq_some_iff.1 info5
  simp only [Prod.mk.injEq] at hzz
  obtain ⟨hz, hsz, hby⟩ := hzz
  have hnews : ∀ j u, [Value.int .u8 x][j]? = some u → w.cell? (a.add j) = some u := by
    intro j u hu
    match j, hu with
    | 0, hu =>
      obtain rfl : Value.int .u8 x = u := by simpa using hu
      have : a.add 0 = a := by unfold Addr.add; split <;> simp_all
      rw [this]; exact hx
  rcases h with ⟨rfl, rfl⟩ | ⟨g, cap, cur, fr, rfl, hbb, hg, hn, hm, hs, hf, ht⟩
  · obtain ⟨v', w', h1, h2, h3, _⟩ := run_append_own (P := Try.prog) w base 63 ty 5 i (.int .u8 0) 1 1 Try.underlying63 hi hz hsz hby rfl (by decide) (.slice none 0 0) 0 [] (World.ownsRow_nil w base 5 1) a 1 c [.int .u8 x] rfl hnews (by simp [Value.oneCell']) (by unfold maxLen; omega) (by omega) hbase
    exact ⟨v', w', h1, OwnB.of_own (by simpa [nums] using h2), h3⟩
  · by_cases hroom : bs.length + 1 ≤ cap
    · have hcell : w.cell? ⟨g, bs.length, none⟩ = some (cur[bs.length]'(by omega)) := by
        rw [cell_of_row w g bs.length cur 5 fr hg]
        exact Array.getElem?_eq_getElem (by omega)
      have hfro : w.frozen? ⟨g, bs.length, none⟩ = false := by
        simp only [World.frozen?, hg, Bool.and_eq_false_iff, decide_eq_false_iff_not]
        rcases hf with hf | hf <;> omega
      have hst : (store ⟨g, bs.length, none⟩ (.int .u8 x)).run Try.prog w = .ok () (w.setCell ⟨g, bs.length, none⟩ (.int .u8 x)) := by
        rw [run_store Try.prog w _ _ _ (by simp [Value.oneCell']), hcell]
        simp [hfro]
      have hfc := run_firstCells_some (P := Try.prog) w i.size 1 a 1 c [.int .u8 x] (by simp [hsz]) hnews
      rw [hsz] at hfc
      refine ⟨.slice (some ⟨g, 0, none⟩) (bs.length + 1) cap, w.setCell ⟨g, bs.length, none⟩ (.int .u8 x), ?_, ?_, ?_⟩
      · have hsc : (storeCells ⟨g, bs.length, none⟩ [.int .u8 x] 0).run Try.prog w = .ok () (w.setCell ⟨g, bs.length, none⟩ (.int .u8 x)) := by
          have hadd : (⟨g, bs.length, none⟩ : Addr).add 0 = ⟨g, bs.length, none⟩ := by unfold Addr.add; split <;> simp_all
          simp only [storeCells, hadd, Sem.run_bind, hst, Result.andThen_ok]
          rfl
        simp [Builtin.append_, run_underlying Try.underlying63, sizeOf, typeInfo, hi, Builtin.lenOf, hroom, hfc, Addr.add_lit, hsz, hsc]
      · refine .inr ⟨g, cap, cur.setIfInBounds bs.length (.int .u8 x), fr, by simp, hbb, ?_, by simpa using hroom, hm, by simpa using hs, hf, ?_⟩
        · simp only [World.setCell, Array.getElem?_modify, hg]
          simp
        · rw [Array.toList_setIfInBounds, List.length_append, List.length_singleton, List.take_succ_eq_append_getElem (by simp; omega)]
          simp only [List.getElem_set_self]
          rw [List.take_set_of_le (Nat.le_refl _), ht]
          simp [nums]
      · refine ⟨rfl, rfl, rfl, by simp [World.setCell], fun k _ hk => Below.heap_setCell w _ _ k (fun e => hk (by simp [Value.ownBlock, e]))⟩
    · have hh : OwnB w base (.slice (some ⟨g, 0, none⟩) bs.length cap) bs := .inr ⟨g, cap, cur, fr, rfl, hbb, hg, hn, hm, hs, hf, ht⟩
      have holds : ∀ j u, (nums .u8 bs)[j]? = some u → w.cell? ((⟨g, 0, none⟩ : Addr).add j) = some u := by
        intro j u hu
        have hj : j < bs.length := by have := (List.getElem?_eq_some_iff.1 hu).1; simpa [nums] using this
        have := (hh.at_ (j : Int) (by omega) (by omega)).1
        rw [add_plain]
        have h2 : (nums .u8 bs)[j]? = some (.int .u8 (rd bs j)) := by simp [nums, rd, List.getElem?_eq_getElem hj, List.getD_eq_getElem?_getD]
        rw [h2] at hu
        rw [← hu]
        simpa using this
      have hr := run_append_grow (P := Try.prog) w 63 ty 5 i (.int .u8 0) Try.underlying63 hi hz ⟨g, 0, none⟩ bs.length cap (nums .u8 bs) (by simp [nums, hsz]) holds a 1 c [.int .u8 x] (by simp [hsz]) hnews (by omega) (by omega) (growslice_fits (by omega) (by rw [hby]; omega))
      refine ⟨_, _, hr, ?_, ⟨rfl, rfl, rfl, by simp, fun k hk _ => Below.heap_alloc w.drew _ k hk⟩⟩
      have hge := grownCap_ge w (bs.length + 1) cap 5
      have hcm : grownCap w (bs.length + 1) cap 5 ≤ maxLen := grownCap_le_maxLen w (bs.length + 1) cap 5 (by unfold maxLen; omega)
      refine .inr ⟨w.heap.size, _, _, (0, 0), by simp, hbase, heap_alloc_new w.drew _, by simpa using hge, hcm, ?_, .inl rfl, ?_⟩
      · simp only [Array.size_append, List.size_toArray, size_zeroCells, nums, List.length_map, List.length_singleton]
        simp [Value.cells]
        omega
      · simp only [Array.toList_append, List.length_append, List.length_singleton]
        have h1 : (nums .u8 bs ++ [Value.int .u8 x]) = nums .u8 (bs ++ [x]) := by simp [nums]
        rw [show (nums IntKind.u8 bs).toArray.toList ++ [Value.int .u8 x].toArray.toList = nums .u8 (bs ++ [x]) from h1]
        exact List.take_left' (by simp [nums])
theorem wpList_append_b {ops : Array Oper} {rest : List Oper} {o : Oper} {act : Act} {Q : Exit → Act → World → Prop} (w : World) (hgd : o.guard = none) (s x : Operand)
    (ho : o.op = .call { callee := .builtin .append, args := #[s, x], argTypes := #[63, 63] })
    (base : Nat) (v : Value) (bs : List Int) (hs : act.eval s = v) (hown : OwnB w base v bs) (ad : Addr) (c : Nat) (y : Int) (hx : act.eval x = .slice (some ad) 1 c) (hc : w.cell? ad = some (.int .u8 y))
    (h63 : bs.length + 1 ≤ 1099511627776) (hbase : base ≤ w.heap.size)
    (h : ∀ v' w', OwnB w' base v' (bs ++ [y]) → w.grownBy w' v.ownBlock → wpList Try.prog ops Q rest (act.put o.dst v') w') : wpList Try.prog ops Q (o :: rest) act w := by
  refine wpList_plain hgd fun K hK => ?_
  obtain ⟨v', w', hr, h2, h3⟩ := run_append_b w o.type base v bs hown ad y c hc h63 hbase
  unfold Oper.wp execOp
  simp only [ho, resolve, invoke, builtin, Sem.run_bind, Sem.run_pure, Result.andThen_ok, List.map_toArray, List.map_cons, List.map_nil, hs, hx, hr]
  exact hK _ _ (h v' w' h2 h3)
end Go.Proofs.Ytnpghcikhpglkaa.Hand
namespace Go.Proofs.Ytnpghcikhpglkaa.Hand
open Go.RowKit Go.Proofs.YtnpghcikhpglkaaW.PrintWords Go.Proofs.YtnpghcikhpglkaaW.PrintLast Go.Proofs.YtnpghcikhpglkaaW.PrintMore Go.Proofs.Ytnpghcikhpglkaa.Q
set_option linter.unusedVariables false
set_option linter.unusedSimpArgs false
/-- A row behind the pointer p: its bytes, its count. -/
def RowIs (W : World) (base p : Nat) (bs : List Int) (n : Int) : Prop :=
  ∃ sv, W.heap[p]? = some (.cells #[sv, .int .i64 n] 116 (0, 0)) ∧ OwnB W base sv bs ∧ base ≤ p
/-- One bit of a number, at its place in a byte, as the walk has it. -/
def bitAt (v : Int) (k : Nat) (m : Int) : Int := bits BinOp.and IntKind.i64 (v / 2 ^ min k 64) 1 % 256 * 2 ^ m.toNat % 256
def rowByte (x v : Int) (k : Nat) (m : Int) : Int := bits BinOp.or IntKind.u8 x (bitAt v k m)
/-- A bit put behind. -/
def rowBit (s : List Int × Int) (v : Int) (k : Nat) : List Int × Int :=
  let bs := if s.2 % 8 = 0 then s.1 ++ [0] else s.1
  (bs.set (s.2 / 8).toNat (rowByte (rd bs (s.2 / 8)) v k (7 - s.2 % 8)), s.2 + 1)
/-- So many bits put behind, the highest first. -/
def rowPut : Nat → List Int × Int → Int → List Int × Int
  | 0, s, _ => s
  | k + 1, s, v => rowPut k (rowBit s v k) v
theorem rowBit_snd (s : List Int × Int) (v : Int) (k : Nat) : (rowBit s v k).2 = s.2 + 1 := rfl
theorem rowBit_len (s : List Int × Int) (v : Int) (k : Nat) (h0 : 0 ≤ s.2) (hl : (s.1.length : Int) = (s.2 + 7) / 8) : ((rowBit s v k).1.length : Int) = ((rowBit s v k).2 + 7) / 8 := by
  unfold rowBit
  by_cases h : s.2 % 8 = 0
  · simp [h]
    omega
  · simp [h]
    omega
theorem below_drew0 {B : Nat} {w W : World} (h : Below B w W) : Below B w W.drew := ⟨h.os, h.tape, h.output, h.size, h.block⟩
/-- What a round leaves. -/
theorem row_leaves {w0 w : World} {base p g cap : Nat} {bs : List Int} {n x : Int} (hb : Below base w0 w) (hblk : w.heap[p]? = some (.cells #[.slice (some ⟨g, 0, none⟩) bs.length cap, .int .i64 n] 116 (0, 0)))
    (hown : OwnB w base (.slice (some ⟨g, 0, none⟩) bs.length cap) bs) (hp : base ≤ p) (i : Int) :
    RowIs ((w.setCell ⟨g, i.toNat, none⟩ (.int .u8 x)).setCell ⟨p, 1, none⟩ (.int .i64 (n + 1))).drew base p (bs.set i.toNat x) (n + 1) ∧
    Below base w0 ((w.setCell ⟨g, i.toNat, none⟩ (.int .u8 x)).setCell ⟨p, 1, none⟩ (.int .i64 (n + 1))).drew := by
  have hne : some p ≠ (Value.slice (some ⟨g, 0, none⟩) bs.length cap).ownBlock := hown.ne hblk (by decide)
  have hgp : p ≠ g := fun h => hne (by simp [Value.ownBlock, h])
  have hg : base ≤ g := (hown.base_le g (by simp [Value.ownBlock])).1
  have h1 := hown.store i x
  have h3 := h1.setFar (p := ⟨p, 1, none⟩) hne (.int .i64 (n + 1))
  have h4 := blk_set (blk_far hblk (p := ⟨g, i.toNat, none⟩) hgp (.int .u8 x)) 1 (.int .i64 (n + 1))
  refine ⟨⟨.slice (some ⟨g, 0, none⟩) bs.length cap, ?_, ?_, hp⟩, ?_⟩
  · exact h4
  · exact h3
  · exact below_drew0 ((hb.setCell (p := ⟨g, i.toNat, none⟩) hg _).setCell (p := ⟨p, 1, none⟩) hp _)
set_option maxHeartbeats 2000000 in
set_option maxRecDepth 100000 in
theorem row_put (W : World) (base p : Nat) (bs : List Int) (n v : Int) (w : Nat) (hrow : RowIs W base p bs n) (hn : 0 ≤ n) (hlen : (bs.length : Int) = (n + 7) / 8) (hbd : n + w ≤ 1073741824) (hbase : base ≤ W.heap.size) :
    Calls Try.prog 89 #[.pointer (some ⟨p, 0, none⟩), .int .i64 v, .int .i64 w] W fun e w' => e = .returned (.tuple #[]) ∧ RowIs w' base p (rowPut w (bs, n) v).1 (rowPut w (bs, n) v).2 ∧ Below base W w' := by
  have hw : w ≤ 1073741824 := by omega
  have hw0 : (w : Int) ≤ 1073741824 := by omega
  go_enter Try.func89, Try.ntmps89
  go_wp2
  go_loopw [6] (fun i wr => ∃ (k : Nat) (s : List Int × Int), k ≤ w ∧ i = .int .i64 ((k : Int) - 1) ∧ rowPut k s v = rowPut w (bs, n) v ∧ RowIs wr base p s.1 s.2 ∧ 0 ≤ s.2 ∧ s.2 + k ≤ 1073741824 ∧ (s.1.length : Int) = (s.2 + 7) / 8 ∧ Below base W wr)
    (fun i wr => (intOf i + 1).toNat)
  case atStart => exact ⟨w, (bs, n), by omega, by go_num, rfl, hrow, hn, hbd, hlen, Below.refl _ _⟩
  case round =>
    obtain ⟨k, ⟨bs1, n1⟩, hk, rfl, hput, ⟨sv, hblk, hown, hp⟩, hn1, hk1, hlen1, hbel⟩ := hrel
    simp only at hblk hown hn1 hk1 hlen1
    replace hput := Lib.hid hput
    clear hrow
    by_cases h0 : 1 ≤ (k : Int)
    · obtain ⟨k, rfl⟩ : ∃ m, k = m + 1 := ⟨k - 1, by omega⟩
      have hx1 : 0 ≤ n1 / 8 := by omega
      have hx3 : 0 ≤ n1 % 8 := by omega
      have hx4 : n1 % 8 < 8 := by omega
      by_cases hm : n1 % 8 = 0
      · have hmb : (n1 % 8 == 0) = true := by simp [hm]
        have c0 : wr.cell? ⟨p, 0, none⟩ = some sv := blk_cell hblk 0
        have c1 : wr.cell? ⟨p, 1, none⟩ = some (.int .i64 n1) := blk_cell hblk 1
        have f0 := blk_frozen hblk 0
        have f1 := blk_frozen hblk 1
        have hbs : base ≤ wr.heap.size := Nat.le_trans hbase hbel.size
        have HE := Lib.hid (show rowBit (bs1, n1) v k = ((bs1 ++ [0]).set (n1 / 8).toNat (rowByte (rd (bs1 ++ [0]) (n1 / 8)) v k (7 - n1 % 8)), n1 + 1) by simp [rowBit, hm])
        have HOWN := Lib.hid (hown.alloc (.cells #[.int .u8 0] 5))
        have HBLK := Lib.hid (show (wr.alloc (.cells #[.int .u8 0] 5)).heap[p]? = _ from (Below.heap_alloc wr _ p (blk_lt hblk)).trans hblk)
        have HNE := Lib.hid (hown.ne hblk (by decide))
        have HBEL := Lib.hid (hbel.alloc hbs (.cells #[.int .u8 0] 5))
        have HLEN := Lib.hid hlen1
        clear hown hblk hbel hlen1 hm
        go_wp2_with (at_builtin; refine wpList_append_b _ rfl _ _ rfl base sv bs1 rfl HOWN.out ⟨wr.heap.size, 0, none⟩ 1 0 rfl (cell_of_row _ _ 0 _ 5 (0, 0) (heap_alloc_new wr _)) ?c2 ?c1 ?next)
        case c1 => simp; omega
        case c2 => have := HLEN.out; omega
        case next =>
        intro v1 w1 hown1 hgrow
        have hbel1 : Below base W w1 := HBEL.out.grown hgrow (by simp; omega) (fun k hk => (HOWN.out.base_le k hk).1)
        clear c0 c1 f0 f1
        obtain ⟨bs2, HB2⟩ : ∃ b, b = bs1 ++ [0] := ⟨_, rfl⟩
        replace hown1 : OwnB w1 base v1 bs2 := by rw [HB2]; exact hown1
        rw [← HB2] at HE
        have HL1 : (bs2.length : Int) = (n1 + 7) / 8 + 1 := by have := HLEN.out; rw [HB2]; simp; omega
        replace HB2 := Lib.hid HB2
        have hpos : 0 < bs2.length := by omega
        obtain ⟨g, cap, rfl⟩ := hown1.form hpos
        have hblk1 := blk_grown HBLK.out hgrow HNE.out
        have hx2 : n1 / 8 < (bs2.length : Int) := by omega
        have hgp : g ≠ p := fun h => hown1.ne hblk1 (by decide) (by simp [Value.ownBlock, h])
        have hgp2 : p ≠ g := fun h => hgp h.symm
        have hnep : some p ≠ (Value.slice (some ⟨g, 0, none⟩) bs2.length cap).ownBlock := hown1.ne hblk1 (by decide)
        have hown2 := hown1.setFar (p := ⟨p, 0, none⟩) hnep (.slice (some ⟨g, 0, none⟩) bs2.length cap)
        have hblk2 : (w1.setCell ⟨p, 0, none⟩ (.slice (some ⟨g, 0, none⟩) bs2.length cap)).heap[p]? = some (.cells #[.slice (some ⟨g, 0, none⟩) bs2.length cap, .int .i64 n1] 116 (0, 0)) := blk_set hblk1 0 _
        have hbel2 := hbel1.setCell (p := ⟨p, 0, none⟩) hp (.slice (some ⟨g, 0, none⟩) bs2.length cap)
        have HL := Lib.hid (row_leaves (x := rowByte (rd bs2 (n1 / 8)) v k (7 - n1 % 8)) hbel2 hblk2 hown2 hp (n1 / 8))
        obtain ⟨cg, fg⟩ := hown2.at_ (n1 / 8) hx1 hx2
        have c0 : w1.cell? ⟨p, 0, none⟩ = some sv := blk_cell hblk1 0
        have f0 := blk_frozen hblk1 0
        have c1 : w1.cell? ⟨p, 1, none⟩ = some (.int .i64 n1) := blk_cell hblk1 1
        have f1 := blk_frozen hblk1 1
        obtain ⟨cg', fg'⟩ := hown1.at_ (n1 / 8) hx1 hx2
        have c0' : _ = some (Value.slice (some ⟨g, 0, none⟩) bs2.length cap) := blk_cell hblk2 0
        have c1' : _ = some (Value.int .i64 n1) := blk_cell hblk2 1
        have f0' := blk_frozen hblk2 0
        have f1' := blk_frozen hblk2 1
        replace hblk1 := Lib.hid hblk1
        replace hblk2 := Lib.hid hblk2
        replace hown1 := Lib.hid hown1
        replace hown2 := Lib.hid hown2
        clear hbel1 hbel2
        replace HL1 := Lib.hid HL1
        go_wp2
        go_region
        all_goals go_wp2
        all_goals go_roundw
        case rel => exact ⟨k, rowBit (bs1, n1) v k, by omega, by first | rfl | go_num, hput.out, by rw [HE.out]; exact HL.out.1, by simp [rowBit]; omega, by simp [rowBit]; omega, rowBit_len (bs1, n1) v k hn1 HLEN.out, HL.out.2⟩
        case measure => simp [intOf]
      · have hpos : 0 < bs1.length := by omega
        obtain ⟨g, cap, rfl⟩ := hown.form hpos
        have hx2 : n1 / 8 < (bs1.length : Int) := by omega
        obtain ⟨cg, fg⟩ := hown.at_ (n1 / 8) hx1 hx2
        have c0 : wr.cell? ⟨p, 0, none⟩ = some (.slice (some ⟨g, 0, none⟩) bs1.length cap) := blk_cell hblk 0
        have c1 : wr.cell? ⟨p, 1, none⟩ = some (.int .i64 n1) := blk_cell hblk 1
        have f0 := blk_frozen hblk 0
        have f1 := blk_frozen hblk 1
        have hgp : g ≠ p := fun h => hown.ne hblk (by decide) (by simp [Value.ownBlock, h])
        have HE := Lib.hid (show rowBit (bs1, n1) v k = (bs1.set (n1 / 8).toNat (rowByte (rd bs1 (n1 / 8)) v k (7 - n1 % 8)), n1 + 1) by simp [rowBit, hm])
        have HL := Lib.hid (row_leaves (x := rowByte (rd bs1 (n1 / 8)) v k (7 - n1 % 8)) hbel hblk hown hp (n1 / 8))
        replace hblk := Lib.hid hblk
        replace hown := Lib.hid hown
        replace hlen1 := Lib.hid hlen1
        clear hbel
        go_wp2
        go_region
        all_goals go_wp2
        all_goals go_roundw
        case rel => exact ⟨k, rowBit (bs1, n1) v k, by omega, by first | rfl | go_num, hput.out, by rw [HE.out]; exact HL.out.1, by simp [rowBit]; omega, by simp [rowBit]; omega, rowBit_len (bs1, n1) v k hn1 hlen1.out, HL.out.2⟩
        case measure => simp [intOf]
    · go_wp2
      have hk0 : k = 0 := by omega
      subst hk0
      go_end0
      have h1 : (bs1, n1) = rowPut w (bs, n) v := hput.out
      exact ⟨rfl, by rw [← h1]; exact ⟨sv, hblk, hown, hp⟩, hbel⟩
end Go.Proofs.Ytnpghcikhpglkaa.Hand
namespace Go.Proofs.Ytnpghcikhpglkaa.Hand
open Go.RowKit Go.Proofs.YtnpghcikhpglkaaW.PrintWords Go.Proofs.YtnpghcikhpglkaaW.PrintLast Go.Proofs.YtnpghcikhpglkaaW.PrintMore Go.Proofs.Ytnpghcikhpglkaa.Q
set_option linter.unusedVariables false
set_option linter.unusedSimpArgs false
theorem OwnB.drew {w : World} {base : Nat} {v : Value} {bs : List Int} (h : OwnB w base v bs) : OwnB w.drew base v bs := h
theorem RowIs.below {W w' : World} {base p : Nat} {bs : List Int} {n : Int} (h : RowIs W base p bs n) (hb : Below W.heap.size W w') : RowIs w' base p bs n := by
  obtain ⟨sv, h1, h2, h3⟩ := h
  exact ⟨sv, (hb.block p (blk_lt h1)).trans h1, h2.below hb, h3⟩
set_option maxHeartbeats 1000000 in
set_option maxRecDepth 100000 in
theorem from_ (W : World) (s : ByteArray) (n : Int) (hs : s.size ≤ 1073741824) :
    Calls Try.prog 88 #[.agg #[.string s, .int .i64 n]] W fun e w' => ∃ p, e = .returned (.pointer (some ⟨p, 0, none⟩)) ∧ RowIs w' W.heap.size p (bytesI s) n ∧ Below W.heap.size W w' := by
  have hu := Try.underlying27
  have hu2 := Try.underlying116
  have hcv := fun w => Lib.run_convert_string_bytes (P := Try.prog) w 9 63 5 s Try.underlying9 Try.underlying63 Try.underlying5
  have hc1 : (Lib.bytesWorld (W.alloc (.cells #[.string s, .int .i64 n] 27)) 5 s).cell? ⟨W.heap.size, 1, none⟩ = some (.int .i64 n) := by
    rw [Lib.bytesWorld_old _ _ _ _ (by simp)]
    exact cell_of_row _ _ 1 _ 27 (0, 0) (heap_alloc_new W _)
  have hsz := Lib.bytesWorld_size (W.alloc (.cells #[.string s, .int .i64 n] 27)) 5 s
  have HO := Lib.hid (own_bytes (W.alloc (.cells #[.string s, .int .i64 n] 27)) s W.heap.size (by simp) hs)
  have HB := Lib.hid (below_bytes ((Below.refl W.heap.size W).alloc (Nat.le_refl _) (.cells #[.string s, .int .i64 n] 27)) (by simp) s)
  go_enter Try.func88, Try.ntmps88
  go_wp2
  go_ret
  refine ⟨W.heap.size + 2, rfl, ⟨_, ?_, HO.out.alloc _, by omega⟩, ?_⟩
  · have h := heap_alloc_new (Lib.bytesWorld (W.alloc (.cells #[.string s, .int .i64 n] 27)) 5 s) (.cells #[.slice (some ⟨W.heap.size + 1, 0, none⟩) s.size (grownCap (W.alloc (.cells #[.string s, .int .i64 n] 27)) s.size 0 5), .int .i64 n] 116)
    rw [Lib.bytesWorld_size] at h
    simpa using h
  · exact HB.out.alloc (by rw [Lib.bytesWorld_size]; simp; omega) _
set_option maxHeartbeats 1000000 in
set_option maxRecDepth 100000 in
theorem row_bits_yes (W : World) (base p : Nat) (bs : List Int) (n : Int) (hrow : RowIs W base p bs n) (hn : n ≤ 6000) :
    Calls Try.prog 90 #[.pointer (some ⟨p, 0, none⟩)] W fun e w' => e = .returned (.tuple #[.agg #[.string (strOfNums bs), .int .i64 n], .int .i64 0]) ∧ Below W.heap.size W w' := by
  obtain ⟨sv, hblk, hown, hp⟩ := hrow
  have hu := Try.underlying27
  have hu2 := Try.underlying116
  have c0 : W.cell? ⟨p, 0, none⟩ = some sv := blk_cell hblk 0
  have c1 : W.cell? ⟨p, 1, none⟩ = some (.int .i64 n) := blk_cell hblk 1
  have hpl : p < W.heap.size := blk_lt hblk
  have hst := (hown.alloc (.cells #[.string { data := #[] }, .int .i64 0] 27)).drew.str
  replace hblk := Lib.hid hblk
  replace hown := Lib.hid hown
  go_enter Try.func90, Try.ntmps90
  go_wp2
  go_region
  go_wp2
  refine bodyPost_ret (results_list (rs := [.cell 2 27, .tmp 3]) rfl (by simp) (.cell W.heap.size 27 #[.string (strOfNums bs), .int .i64 n] (0, 0) _ rfl ?_ Try.underlying27 rfl (by kernel_rfl) (.tmp .nil))) rfl ⟨rfl, ?_⟩
  · exact heap_alloc_new W _
  · exact below_drew0 ((Below.refl _ W).alloc (Nat.le_refl _) _)
set_option maxHeartbeats 1000000 in
set_option maxRecDepth 100000 in
theorem row_bits_no (W : World) (base p : Nat) (bs : List Int) (n : Int) (hrow : RowIs W base p bs n) (hn : 6000 < n) :
    Calls Try.prog 90 #[.pointer (some ⟨p, 0, none⟩)] W fun e w' => e = .returned (.tuple #[.agg #[.string ⟨#[]⟩, .int .i64 0], .int .i64 2]) ∧ Below W.heap.size W w' := by
  obtain ⟨sv, hblk, hown, hp⟩ := hrow
  have hu := Try.underlying27
  have hu2 := Try.underlying116
  have c1 : W.cell? ⟨p, 1, none⟩ = some (.int .i64 n) := blk_cell hblk 1
  have hpl : p < W.heap.size := blk_lt hblk
  clear hblk hown
  go_enter Try.func90, Try.ntmps90
  go_wp2
  refine bodyPost_ret (results_list (rs := [.cell 2 27, .tmp 3]) rfl (by simp) (.cell W.heap.size 27 #[.string ⟨#[]⟩, .int .i64 0] (0, 0) _ rfl ?_ Try.underlying27 rfl (by kernel_rfl) (.tmp .nil))) rfl ⟨rfl, ?_⟩
  · first | exact heap_alloc_new W _ | exact blk_put (cs := #[.string ⟨#[]⟩, .int .i64 0]) (blk_put (cs := #[.string ⟨#[]⟩, .int .i64 0]) (heap_alloc_new W _) 0 _ rfl) 1 _ rfl
  · first | exact (Below.refl _ W).alloc (Nat.le_refl _) _ | exact (((Below.refl _ W).alloc (Nat.le_refl _) _).setCell (p := ⟨W.heap.size, 0, none⟩) (Nat.le_refl _) _).setCell (p := ⟨W.heap.size, 1, none⟩) (Nat.le_refl _) _
theorem row_size (W : World) (base p : Nat) (bs : List Int) (n : Int) (hrow : RowIs W base p bs n) :
    Calls Try.prog 109 #[.pointer (some ⟨p, 0, none⟩)] W fun e w' => e = .returned (.int .i64 n) ∧ W = w' := by
  obtain ⟨sv, hblk, hown, hp⟩ := hrow
  have hu2 := Try.underlying116
  have c1 : W.cell? ⟨p, 1, none⟩ = some (.int .i64 n) := blk_cell hblk 1
  clear hblk hown
  go_enter Try.func109, Try.ntmps109
  go_wp2
  go_ret
  exact ⟨rfl, rfl⟩
end Go.Proofs.Ytnpghcikhpglkaa.Hand
namespace Go.Proofs.Ytnpghcikhpglkaa.Pu
open Go.RowKit Go.Proofs.YtnpghcikhpglkaaW.PrintWords Go.Proofs.YtnpghcikhpglkaaW.PrintLast Go.Proofs.YtnpghcikhpglkaaW.PrintMore Go.Proofs.Ytnpghcikhpglkaa.Q Go.Proofs.Ytnpghcikhpglkaa.Hand
set_option linter.unusedVariables false
/-! ### the machine's bit operations -/
theorem wraps_i64 (n : Int) (h₀ : 0 ≤ n) (h₁ : n < 2 ^ 63) : IntKind.i64.wrap n = n := by rw [IntKind.wrap_i64]; omega
theorem and_one (x : Int) (h0 : 0 ≤ x) (h1 : x < 2 ^ 63) : bits .and .i64 x 1 = x % 2 :=
  bits_mask .i64 63 (by decide) wraps_i64 1 (by decide) x h0 h1
theorem pow8 (m : Int) (h0 : 0 ≤ m) (h7 : m ≤ 7) : (2 : Int) ^ m.toNat = 1 ∨ (2 : Int) ^ m.toNat = 2 ∨ (2 : Int) ^ m.toNat = 4 ∨ (2 : Int) ^ m.toNat = 8 ∨ (2 : Int) ^ m.toNat = 16 ∨ (2 : Int) ^ m.toNat = 32 ∨ (2 : Int) ^ m.toNat = 64 ∨ (2 : Int) ^ m.toNat = 128 := by
  have : m = 0 ∨ m = 1 ∨ m = 2 ∨ m = 3 ∨ m = 4 ∨ m = 5 ∨ m = 6 ∨ m = 7 := by omega
  rcases this with rfl | rfl | rfl | rfl | rfl | rfl | rfl | rfl <;> simp
theorem div_pow_nonneg (v : Int) (k : Nat) (h : 0 ≤ v) : 0 ≤ v / 2 ^ k := Int.ediv_nonneg h (Int.le_of_lt (Int.pow_pos (by decide)))
theorem div_pow_le (v : Int) (k : Nat) (h : 0 ≤ v) : v / 2 ^ k ≤ v := Int.ediv_le_self _ h
theorem div_min (v : Int) (k : Nat) (hv : 0 ≤ v) (hv2 : v < 2 ^ 62) : v / 2 ^ min k 64 = v / 2 ^ k := by
  rcases Nat.le_total k 64 with hk | hk
  · rw [Nat.min_eq_left hk]
  · rw [Nat.min_eq_right hk]
    have h1 : v < 2 ^ 64 := by omega
    have h2 : (2 : Int) ^ 64 ≤ 2 ^ k := by have := Nat.pow_le_pow_right (n := 2) (by decide) hk; exact_mod_cast this
    rw [Int.ediv_eq_zero_of_lt hv h1, Int.ediv_eq_zero_of_lt hv (Int.lt_of_lt_of_le h1 h2)]
theorem bitAt_eq (v : Int) (k : Nat) (m : Int) (hv : 0 ≤ v) (hv2 : v < 2 ^ 62) (hm0 : 0 ≤ m) (hm7 : m ≤ 7) : bitAt v k m = v / 2 ^ k % 2 * 2 ^ m.toNat := by
  unfold bitAt
  rw [div_min v k hv hv2, and_one _ (div_pow_nonneg v k hv) (by have := div_pow_le v k hv; omega)]
  generalize hb : v / 2 ^ k % 2 = b
  have hb01 : b = 0 ∨ b = 1 := by omega
  have hp := pow8 m hm0 hm7
  rcases hb01 with rfl | rfl
  · simp
  · rcases hp with h | h | h | h | h | h | h | h <;> rw [h] <;> rfl
theorem rowByte_eq (x v : Int) (k : Nat) (m : Int) (hx0 : 0 ≤ x) (hx : x < 256) (hv : 0 ≤ v) (hv2 : v < 2 ^ 62) (hm0 : 0 ≤ m) (hm7 : m ≤ 7) (hd : x % 2 ^ (m.toNat + 1) = 0) :
    rowByte x v k m = x + v / 2 ^ k % 2 * 2 ^ m.toNat := by
  unfold rowByte
  rw [bitAt_eq v k m hv hv2 hm0 hm7]
  generalize hb : v / 2 ^ k % 2 = b
  have hb01 : b = 0 ∨ b = 1 := by omega
  have hpw : (0 : Int) < 2 ^ m.toNat := Int.pow_pos (by decide)
  have hp := pow8 m hm0 hm7
  refine bits_join .u8 8 (by decide) wraps_u8 (m.toNat + 1) x _ hx0 hd (by omega) ?_ ?_ ?_
  · rcases hb01 with rfl | rfl <;> omega
  · rw [Int.pow_succ]; rcases hb01 with rfl | rfl <;> omega
  · rcases hb01 with rfl | rfl
    · simp
    · rcases hp with h | h | h | h | h | h | h | h <;> rw [h] <;> decide
/-! ### lists of bits, packed -/
def IsBits (l : List Int) : Prop := ∀ x ∈ l, x = 0 ∨ x = 1
theorem IsBits.nil : IsBits [] := fun x h => by cases h
theorem IsBits.append {a b : List Int} (ha : IsBits a) (hb : IsBits b) : IsBits (a ++ b) := fun x h => by
  rcases List.mem_append.1 h with h | h
  · exact ha x h
  · exact hb x h
theorem IsBits.getD {l : List Int} (h : IsBits l) (i : Nat) : l.getD i 0 = 0 ∨ l.getD i 0 = 1 := by
  rw [List.getD_eq_getElem?_getD]
  rcases Nat.lt_or_ge i l.length with hi | hi
  · rw [List.getElem?_eq_getElem hi]
    exact h _ (List.getElem_mem hi)
  · rw [List.getElem?_eq_none hi]
    exact .inl rfl
def byteAt (l : List Int) (j : Nat) : Int :=
  l.getD (8 * j) 0 * 128 + l.getD (8 * j + 1) 0 * 64 + l.getD (8 * j + 2) 0 * 32 + l.getD (8 * j + 3) 0 * 16 + l.getD (8 * j + 4) 0 * 8 + l.getD (8 * j + 5) 0 * 4 + l.getD (8 * j + 6) 0 * 2 + l.getD (8 * j + 7) 0
def packL (l : List Int) : List Int := (List.range ((l.length + 7) / 8)).map (byteAt l)
theorem packL_length (l : List Int) : (packL l).length = (l.length + 7) / 8 := by simp [packL]
theorem byteAt_range {l : List Int} (h : IsBits l) (j : Nat) : 0 ≤ byteAt l j ∧ byteAt l j < 256 := by
  unfold byteAt
  have := h.getD (8 * j); have := h.getD (8 * j + 1); have := h.getD (8 * j + 2); have := h.getD (8 * j + 3)
  have := h.getD (8 * j + 4); have := h.getD (8 * j + 5); have := h.getD (8 * j + 6); have := h.getD (8 * j + 7)
  omega
theorem packL_get (l : List Int) (j : Nat) (hj : j < (l.length + 7) / 8) : (packL l)[j]? = some (byteAt l j) := by
  simp [packL, List.getElem?_map, List.getElem?_range hj]
theorem getD_beyond (l : List Int) (i : Nat) (h : l.length ≤ i) : l.getD i 0 = 0 := by
  rw [List.getD_eq_getElem?_getD, List.getElem?_eq_none h]; rfl
theorem getD_snoc_old (l : List Int) (b : Int) (i : Nat) (h : i ≠ l.length) : (l ++ [b]).getD i 0 = l.getD i 0 := by
  rw [List.getD_eq_getElem?_getD, List.getD_eq_getElem?_getD]
  rcases Nat.lt_or_ge i l.length with hi | hi
  · rw [List.getElem?_append_left hi]
  · rw [List.getElem?_eq_none hi, List.getElem?_eq_none (by simp; omega)]
theorem getD_snoc_new (l : List Int) (b : Int) : (l ++ [b]).getD l.length 0 = b := by
  rw [List.getD_eq_getElem?_getD, List.getElem?_append_right (Nat.le_refl _)]; simp
theorem byteAt_snoc_old (l : List Int) (b : Int) (j : Nat) (h : j ≠ l.length / 8) : byteAt (l ++ [b]) j = byteAt l j := by
  unfold byteAt
  rw [getD_snoc_old l b _ (by omega), getD_snoc_old l b _ (by omega), getD_snoc_old l b _ (by omega), getD_snoc_old l b _ (by omega), getD_snoc_old l b _ (by omega), getD_snoc_old l b _ (by omega), getD_snoc_old l b _ (by omega), getD_snoc_old l b _ (by omega)]
/-- The byte in which the next bit comes to stand. -/
theorem byteAt_snoc_new (l : List Int) (b : Int) : byteAt (l ++ [b]) (l.length / 8) = byteAt l (l.length / 8) + b * 2 ^ (7 - l.length % 8) ∧ byteAt l (l.length / 8) % 2 ^ (7 - l.length % 8 + 1) = 0 := by
  obtain ⟨q, r, hr, hl⟩ : ∃ q r, r < 8 ∧ l.length = 8 * q + r := ⟨l.length / 8, l.length % 8, by omega, by omega⟩
  have hq : l.length / 8 = q := by omega
  have hm : l.length % 8 = r := by omega
  rw [hq, hm]
  unfold byteAt
  have hz : ∀ i, r ≤ i → l.getD (8 * q + i) 0 = 0 := fun i hi => getD_beyond l _ (by omega)
  have ho : ∀ i, i ≠ r → (l ++ [b]).getD (8 * q + i) 0 = l.getD (8 * q + i) 0 := fun i hi => getD_snoc_old l b _ (by omega)
  have hn : (l ++ [b]).getD (8 * q + r) 0 = b := by rw [← hl]; exact getD_snoc_new l b
  have h0 := ho 0; have z0 := hz 0
  simp only [Nat.add_zero] at h0 z0
  have hr' : r = 0 ∨ r = 1 ∨ r = 2 ∨ r = 3 ∨ r = 4 ∨ r = 5 ∨ r = 6 ∨ r = 7 := by omega
  rcases hr' with rfl | rfl | rfl | rfl | rfl | rfl | rfl | rfl
  · simp only [Nat.add_zero] at hn
    rw [hn, ho 1 (by omega), ho 2 (by omega), ho 3 (by omega), ho 4 (by omega), ho 5 (by omega), ho 6 (by omega), ho 7 (by omega), z0 (by omega), hz 1 (by omega), hz 2 (by omega), hz 3 (by omega), hz 4 (by omega), hz 5 (by omega), hz 6 (by omega), hz 7 (by omega)]
    constructor <;> simp
  · rw [hn, h0 (by omega), ho 2 (by omega), ho 3 (by omega), ho 4 (by omega), ho 5 (by omega), ho 6 (by omega), ho 7 (by omega), hz 1 (by omega), hz 2 (by omega), hz 3 (by omega), hz 4 (by omega), hz 5 (by omega), hz 6 (by omega), hz 7 (by omega)]
    constructor <;> simp <;> omega
  · rw [hn, h0 (by omega), ho 1 (by omega), ho 3 (by omega), ho 4 (by omega), ho 5 (by omega), ho 6 (by omega), ho 7 (by omega), hz 2 (by omega), hz 3 (by omega), hz 4 (by omega), hz 5 (by omega), hz 6 (by omega), hz 7 (by omega)]
    constructor <;> simp <;> omega
  · rw [hn, h0 (by omega), ho 1 (by omega), ho 2 (by omega), ho 4 (by omega), ho 5 (by omega), ho 6 (by omega), ho 7 (by omega), hz 3 (by omega), hz 4 (by omega), hz 5 (by omega), hz 6 (by omega), hz 7 (by omega)]
    constructor <;> simp <;> omega
  · rw [hn, h0 (by omega), ho 1 (by omega), ho 2 (by omega), ho 3 (by omega), ho 5 (by omega), ho 6 (by omega), ho 7 (by omega), hz 4 (by omega), hz 5 (by omega), hz 6 (by omega), hz 7 (by omega)]
    constructor <;> simp <;> omega
  · rw [hn, h0 (by omega), ho 1 (by omega), ho 2 (by omega), ho 3 (by omega), ho 4 (by omega), ho 6 (by omega), ho 7 (by omega), hz 5 (by omega), hz 6 (by omega), hz 7 (by omega)]
    constructor <;> simp <;> omega
  · rw [hn, h0 (by omega), ho 1 (by omega), ho 2 (by omega), ho 3 (by omega), ho 4 (by omega), ho 5 (by omega), ho 7 (by omega), hz 6 (by omega), hz 7 (by omega)]
    constructor <;> simp <;> omega
  · rw [hn, h0 (by omega), ho 1 (by omega), ho 2 (by omega), ho 3 (by omega), ho 4 (by omega), ho 5 (by omega), ho 6 (by omega), hz 7 (by omega)]
    constructor <;> simp <;> omega
theorem packL_snoc (l : List Int) (b : Int) : packL (l ++ [b]) = (if l.length % 8 = 0 then packL l ++ [0] else packL l).set (l.length / 8) (byteAt (l ++ [b]) (l.length / 8)) := by
  refine List.ext_getElem? fun j => ?_
  have hlen : (if l.length % 8 = 0 then packL l ++ [0] else packL l).length = (l.length + 8) / 8 := by
    split
    · rw [List.length_append, packL_length]; simp; omega
    · rw [packL_length]; omega
  rcases Nat.lt_or_ge j ((l.length + 8) / 8) with hj | hj
  · rw [packL_get _ _ (by simp; omega), List.getElem?_set]
    by_cases h : l.length / 8 = j
    · rw [if_pos h, if_pos (by rw [hlen, h]; exact hj), h]
    · rw [if_neg h, byteAt_snoc_old l b j (fun e => h e.symm)]
      have hj2 : j < (l.length + 7) / 8 := by omega
      split
      · rw [List.getElem?_append_left (by rw [packL_length]; exact hj2), packL_get l j hj2]
      · rw [packL_get l j hj2]
  · rw [List.getElem?_eq_none (by rw [packL_length]; simp; omega), List.getElem?_eq_none (by rw [List.length_set, hlen]; exact hj)]
theorem byteAt_end (l : List Int) (h : l.length % 8 = 0) (j : Nat) (hj : l.length / 8 ≤ j) : byteAt l j = 0 := by
  unfold byteAt
  rw [getD_beyond l _ (by omega), getD_beyond l _ (by omega), getD_beyond l _ (by omega), getD_beyond l _ (by omega), getD_beyond l _ (by omega), getD_beyond l _ (by omega), getD_beyond l _ (by omega), getD_beyond l _ (by omega)]
  rfl
/-- One bit put behind a row is one bit more of the list. -/
theorem rowBit_pack (l : List Int) (hl : IsBits l) (v : Int) (k : Nat) (hv : 0 ≤ v) (hv2 : v < 2 ^ 62) :
    rowBit (packL l, (l.length : Int)) v k = (packL (l ++ [v / 2 ^ k % 2]), ((l ++ [v / 2 ^ k % 2]).length : Int)) := by
  have hdiv : ((l.length : Int) / 8).toNat = l.length / 8 := by omega
  have hm0 : (0 : Int) ≤ 7 - (l.length : Int) % 8 := by omega
  have hm7 : 7 - (l.length : Int) % 8 ≤ 7 := by omega
  have hmn : (7 - (l.length : Int) % 8).toNat = 7 - l.length % 8 := by omega
  have hbs : (if (l.length : Int) % 8 = 0 then packL l ++ [0] else packL l) = (if l.length % 8 = 0 then packL l ++ [0] else packL l) := by
    by_cases h : l.length % 8 = 0
    · rw [if_pos h, if_pos (by omega)]
    · rw [if_neg h, if_neg (by omega)]
  have hrd : rd (if l.length % 8 = 0 then packL l ++ [0] else packL l) ((l.length : Int) / 8) = byteAt l (l.length / 8) := by
    unfold rd
    rw [hdiv, List.getD_eq_getElem?_getD]
    by_cases h : l.length % 8 = 0
    · rw [if_pos h, List.getElem?_append_right (by rw [packL_length]; omega), packL_length, show l.length / 8 - (l.length + 7) / 8 = 0 by omega, byteAt_end l h _ (Nat.le_refl _)]
      rfl
    · rw [if_neg h, packL_get l _ (by omega)]
      rfl
  obtain ⟨h1, h2⟩ := byteAt_snoc_new l (v / 2 ^ k % 2)
  obtain ⟨r0, r1⟩ := byteAt_range hl (l.length / 8)
  unfold rowBit
  simp only [hbs, hrd, hdiv]
  rw [rowByte_eq _ v k _ r0 r1 hv hv2 hm0 hm7 (by rw [hmn]; exact h2), hmn, ← h1, ← packL_snoc]
  simp
/-- A number as so many bits, the highest first. -/
def putL : Nat → Int → List Int
  | 0, _ => []
  | k + 1, v => v / 2 ^ k % 2 :: putL k v
theorem putL_length (w : Nat) (v : Int) : (putL w v).length = w := by
  induction w with
  | zero => rfl
  | succ k ih => simp [putL, ih]
theorem putL_bits (w : Nat) (v : Int) : IsBits (putL w v) := by
  induction w with
  | zero => exact IsBits.nil
  | succ k ih =>
    intro x hx
    rcases List.mem_cons.1 hx with rfl | hx
    · omega
    · exact ih x hx
theorem rowPut_pack (w : Nat) (v : Int) (hv : 0 ≤ v) (hv2 : v < 2 ^ 62) : ∀ (l : List Int), IsBits l → rowPut w (packL l, (l.length : Int)) v = (packL (l ++ putL w v), ((l ++ putL w v).length : Int)) := by
  induction w with
  | zero => intro l hl; simp [rowPut, putL]
  | succ k ih =>
    intro l hl
    rw [rowPut, rowBit_pack l hl v k hv hv2, ih _ (hl.append (fun x hx => by rw [List.mem_singleton.1 hx]; omega))]
    simp [putL]
/-! ### bits that may be -/
/-- A bit of a text. -/
def bitOf (s : ByteArray) (i : Int) : Int := bt s (i / 8) / 2 ^ (7 - i % 8).toNat % 2
def MayP (s : ByteArray) (n : Int) : Prop := 0 ≤ n ∧ n ≤ 6000 ∧ (s.size : Int) = (n + 7) / 8 ∧ (n % 8 = 0 ∨ bt s ((s.size : Int) - 1) % 2 ^ (8 - n % 8).toNat = 0)
instance (s : ByteArray) (n : Int) : Decidable (MayP s n) := by unfold MayP; infer_instance
def ofS (s : ByteArray) (n : Int) : List Int := (List.range n.toNat).map fun i : Nat => bitOf s (i : Int)
def packS (l : List Int) : ByteArray := strOfNums (packL l)
theorem bitOf_bit (s : ByteArray) (i : Int) : bitOf s i = 0 ∨ bitOf s i = 1 := by unfold bitOf; omega
theorem ofS_bits (s : ByteArray) (n : Int) : IsBits (ofS s n) := by
  intro x hx
  obtain ⟨i, _, rfl⟩ := List.mem_map.1 hx
  exact bitOf_bit s _
theorem ofS_length (s : ByteArray) (n : Int) : (ofS s n).length = n.toNat := by simp [ofS]
theorem ofS_getD (s : ByteArray) (n : Int) (i : Nat) (h : i < n.toNat) : (ofS s n).getD i 0 = bitOf s i := by
  simp [ofS, List.getD_eq_getElem?_getD, List.getElem?_map, List.getElem?_range h]
theorem bytesI_get (s : ByteArray) (j : Nat) (h : j < s.size) : (bytesI s)[j]? = some (bt s j) := by
  have h2 : j < s.data.toList.length := h
  simp only [bytesI, List.getElem?_map, List.getElem?_eq_getElem h2, Option.map_some, Option.some.injEq]
  have := bt_at s (j : Int) h
  rw [← this]
  rfl
theorem split8 (x : Int) (h0 : 0 ≤ x) (h1 : x < 256) : x = x / 128 % 2 * 128 + x / 64 % 2 * 64 + x / 32 % 2 * 32 + x / 16 % 2 * 16 + x / 8 % 2 * 8 + x / 4 % 2 * 4 + x / 2 % 2 * 2 + x % 2 := by omega
theorem bitOf_at (s : ByteArray) (j : Nat) (i : Nat) (hi : i < 8) : bitOf s ((8 * j + i : Nat) : Int) = bt s j / 2 ^ (7 - i) % 2 := by
  unfold bitOf
  rw [show ((8 * j + i : Nat) : Int) / 8 = (j : Int) by omega, show (7 - ((8 * j + i : Nat) : Int) % 8).toNat = 7 - i by omega]
/-- Bits that may be, packed, are their text's bytes. -/
theorem pack_ofS (s : ByteArray) (n : Int) (h : MayP s n) : packL (ofS s n) = bytesI s := by
  obtain ⟨h0, h6, hsz, hend⟩ := h
  refine List.ext_getElem? fun j => ?_
  rcases Nat.lt_or_ge j s.size with hj | hj
  · rw [packL_get _ _ (by rw [ofS_length]; omega), bytesI_get s j hj]
    congr 1
    obtain ⟨b0, b1⟩ := bt_range s j
    have hx := split8 (bt s j) b0 (by omega)
    have hbit : ∀ i, i < 8 → (ofS s n).getD (8 * j + i) 0 = bt s j / 2 ^ (7 - i) % 2 := by
      intro i hi
      rcases Nat.lt_or_ge (8 * j + i) n.toNat with hlt | hge
      · rw [ofS_getD s n _ hlt, bitOf_at s j i hi]
      · rw [getD_beyond _ _ (by rw [ofS_length]; exact hge)]
        have hjl : j + 1 = s.size := by omega
        have hn8 : n % 8 ≠ 0 := by omega
        have hz := hend.resolve_left hn8
        rw [show ((s.size : Int) - 1) = (j : Int) by omega] at hz
        have hr : n % 8 ≤ (i : Int) := by omega
        have hcase : ∃ r : Nat, n % 8 = (r : Int) ∧ 1 ≤ r ∧ r ≤ i := ⟨(n % 8).toNat, by omega, by omega, by omega⟩
        obtain ⟨r, hr1, hr2, hr3⟩ := hcase
        rw [hr1, show (8 - (r : Int)).toNat = 8 - r by omega] at hz
        have : i = 1 ∨ i = 2 ∨ i = 3 ∨ i = 4 ∨ i = 5 ∨ i = 6 ∨ i = 7 := by omega
        have hd : (2 : Int) ^ (8 - i) ∣ 2 ^ (8 - r) := ⟨2 ^ (i - r), by rw [← Int.pow_add, show 8 - i + (i - r) = 8 - r by omega]⟩
        have hz2 : bt s j % 2 ^ (8 - i) = 0 := Int.emod_eq_zero_of_dvd (Int.dvd_trans hd (Int.dvd_of_emod_eq_zero hz))
        rcases this with rfl | rfl | rfl | rfl | rfl | rfl | rfl <;> simp at hz2 ⊢ <;> omega
    unfold byteAt
    have e0 := hbit 0 (by omega)
    rw [Nat.add_zero] at e0
    rw [e0, hbit 1 (by omega), hbit 2 (by omega), hbit 3 (by omega), hbit 4 (by omega), hbit 5 (by omega), hbit 6 (by omega), hbit 7 (by omega)]
    simp
    omega
  · rw [List.getElem?_eq_none (by rw [packL_length, ofS_length]; omega), List.getElem?_eq_none (by rw [bytesI_length]; exact hj)]
theorem strOfNums_bytesI (s : ByteArray) : strOfNums (bytesI s) = s := by
  apply ByteArray.ext
  apply Array.ext'
  rw [strOfNums_data, bytesI, List.map_map]
  have : ∀ l : List UInt8, l.map ((fun n : Int => UInt8.ofNat n.toNat) ∘ fun b : UInt8 => (b.toNat : Int)) = l := by
    intro l
    induction l with
    | nil => rfl
    | cons a r ih => simp [ih]
  exact this _
theorem packS_ofS (s : ByteArray) (n : Int) (h : MayP s n) : packS (ofS s n) = s := by rw [packS, pack_ofS s n h, strOfNums_bytesI]
end Go.Proofs.Ytnpghcikhpglkaa.Pu
namespace Go.Proofs.Ytnpghcikhpglkaa.Q
open Go.RowKit Go.Proofs.YtnpghcikhpglkaaW.PrintWords Go.Proofs.YtnpghcikhpglkaaW.PrintLast Go.Proofs.YtnpghcikhpglkaaW.PrintMore
theorem wrap_in (x : Int) (h0 : -9223372036854775808 ≤ x) (h1 : x < 9223372036854775808) : wrap64 x = x := by unfold wrap64; omega
end Go.Proofs.Ytnpghcikhpglkaa.Q
namespace Go.Proofs.Ytnpghcikhpglkaa.Q
open Go.RowKit Go.Proofs.YtnpghcikhpglkaaW.PrintWords Go.Proofs.YtnpghcikhpglkaaW.PrintLast Go.Proofs.YtnpghcikhpglkaaW.PrintMore Go.Proofs.Ytnpghcikhpglkaa.Hand Go.Proofs.Ytnpghcikhpglkaa.Pu
set_option linter.unusedVariables false
set_option linter.unusedSimpArgs false
theorem tdiv8 (x : Int) (h : 0 ≤ x) : Int.tdiv x 8 = x / 8 := Int.tdiv_eq_ediv_of_nonneg h
theorem tmod8 (x : Int) (h : 0 ≤ x) : Int.tmod x 8 = x % 8 := Int.tmod_eq_emod_of_nonneg h
theorem and255 (x : Int) (r : Int) (h0 : 0 ≤ x) (h1 : x < 256) (hr0 : 1 ≤ r) (hr : r < 8) : (Go.bits .and .u8 x (shr .u8 255 r) == 0) = decide (x % 2 ^ (8 - r).toNat = 0) := by
  have hs : shr .u8 255 r = 2 ^ (8 - r).toNat - 1 := by
    have : r = 1 ∨ r = 2 ∨ r = 3 ∨ r = 4 ∨ r = 5 ∨ r = 6 ∨ r = 7 := by omega
    rcases this with rfl | rfl | rfl | rfl | rfl | rfl | rfl <;> decide
  rw [hs, bits_mask .u8 8 (by decide) wraps_u8 (8 - r).toNat (by omega) x h0 (by omega)]
  by_cases h : x % 2 ^ (8 - r).toNat = 0
  · simp [h]
  · simp [h]
theorem may_eq (s : ByteArray) (n : Int) : bits_May.f s n = some (decide (MayP s n)) := by
  unfold bits_May.f
  by_cases h0 : n < 0
  · rw [if_pos h0, decide_eq_false (p := MayP s n) (fun h => by have := h.1; omega)]
  rw [if_neg h0]
  by_cases h1 : n > 6000
  · rw [if_pos h1, decide_eq_false (p := MayP s n) (fun h => by have := h.2.1; omega)]
  rw [if_neg h1]
  have hw : wrap64 (Int.tdiv (wrap64 ((wrap64 (n + 8)) - 1)) 8) = (n + 7) / 8 := by
    rw [wrap_in (n + 8) (by omega) (by omega), wrap_in (n + 8 - 1) (by omega) (by omega), tdiv8 _ (by omega), wrap_in _ (by omega) (by omega)]
    omega
  rw [hw]
  by_cases h2 : (s.size : Int) = (n + 7) / 8
  · rw [if_pos h2, tmod8 n (by omega)]
    by_cases h3 : n % 8 = 0
    · rw [if_pos h3]
      rw [decide_eq_true (p := MayP s n) ⟨by omega, by omega, h2, .inl h3⟩]
    · rw [if_neg h3, wrap_in _ (by omega) (by omega), if_pos (by omega), if_pos (by omega), if_pos (by omega)]
      obtain ⟨b0, b1⟩ := bt_range s ((s.size : Int) - 1)
      rw [and255 _ _ b0 (by omega) (by omega) (by omega)]
      congr 1
      rw [decide_eq_decide]
      constructor
      · intro h; exact ⟨by omega, by omega, h2, .inr h⟩
      · intro h; exact h.2.2.2.resolve_left h3
  · rw [if_neg h2, decide_eq_false (p := MayP s n) (fun h => h2 h.2.2.1)]
theorem bit_some (s : ByteArray) (n i : Int) (h0 : 0 ≤ i) (h1 : i < 8 * s.size) (h2 : i < 1073741824) : bits_bit.f s n i = some (bitOf s i) := by
  unfold bits_bit.f
  have e1 : wrap64 (Int.tdiv i 8) = i / 8 := by rw [tdiv8 i h0, wrap_in _ (by omega) (by omega)]
  have e2 : wrap64 (7 - Int.tmod i 8) = 7 - i % 8 := by rw [tmod8 i h0, wrap_in _ (by omega) (by omega)]
  rw [e1, e2, if_pos (by omega), if_pos (by omega), if_pos (by omega)]
  congr 1
  obtain ⟨b0, b1⟩ := bt_range s (i / 8)
  have hsh : shr .u8 (bt s (i / 8)) (7 - i % 8) = bt s (i / 8) / 2 ^ (7 - i % 8).toNat := by
    unfold shr
    rw [Nat.min_eq_left (by simp [IntKind.bits]; omega)]
  have hn := div_pow_nonneg (bt s (i / 8)) (7 - i % 8).toNat b0
  have hl := div_pow_le (bt s (i / 8)) (7 - i % 8).toNat b0
  rw [hsh, wrap_in _ (by omega) (by omega), and_one _ hn (by omega)]
  rfl
end Go.Proofs.Ytnpghcikhpglkaa.Q
namespace Go.Proofs.Ytnpghcikhpglkaa.Q
open Go.RowKit Go.Proofs.YtnpghcikhpglkaaW.PrintWords Go.Proofs.YtnpghcikhpglkaaW.PrintLast Go.Proofs.YtnpghcikhpglkaaW.PrintMore Go.Proofs.Ytnpghcikhpglkaa.Hand Go.Proofs.Ytnpghcikhpglkaa.Pu
set_option linter.unusedVariables false
set_option linter.unusedSimpArgs false
/-- bits.Put. -/
def bits_Put.f (s : ByteArray) (n v w : Int) : Option (ByteArray × Int × Int) :=
  if MayP s n ∧ 0 ≤ w ∧ w ≤ 30 ∧ 0 ≤ v ∧ v < 2 ^ w.toNat then
    (if n + w ≤ 6000 then some (packS (ofS s n ++ putL w.toNat v), n + w, 0) else some (⟨#[]⟩, 0, 2))
  else some (⟨#[]⟩, 0, 1)
theorem two_cells {w : World} {g t : Nat} {a b : Value} (h : w.heap[g]? = some (.cells #[a, b] t (0, 0))) :
    w.cell? ⟨g, 0, none⟩ = some a ∧ w.cell? ⟨g, 1, none⟩ = some b ∧ w.frozen? ⟨g, 0, none⟩ = false ∧ w.frozen? ⟨g, 1, none⟩ = false :=
  ⟨blk_cell h 0, blk_cell h 1, blk_frozen h 0, blk_frozen h 1⟩
theorem keep2 {w1 w2 : World} {B g : Nat} {o : Obj} (h : w1.heap[g]? = some o) (hb : Below B w1 w2) (hg : g < B) : w2.heap[g]? = some o := (hb.block g hg).trans h
theorem start2 (w : World) (o1 o2 : Obj) : ((w.alloc o1).alloc o2).heap[w.heap.size]? = some o1 ∧ ((w.alloc o1).alloc o2).heap[w.heap.size + 1]? = some o2 ∧ Below w.heap.size w ((w.alloc o1).alloc o2) ∧ w.heap.size + 1 < ((w.alloc o1).alloc o2).heap.size := by
  refine ⟨(Below.heap_alloc _ _ _ (by simp)).trans (heap_alloc_new w o1), ?_, ((Below.refl _ w).alloc (Nat.le_refl _) o1).alloc (by simp) o2, by simp⟩
  have := heap_alloc_new (w.alloc o1) o2
  simpa using this
/-- The result's variable is written whole. -/
theorem put2 {w : World} {g : Nat} {a b c d : Value} (h : w.heap[g]? = some (.cells #[a, b] 27 (0, 0))) : ((w.setCell ⟨g, 0, none⟩ c).setCell ⟨g, 1, none⟩ d).heap[g]? = some (.cells #[c, d] 27 (0, 0)) :=
  blk_put (cs := #[c, b]) (blk_put (cs := #[a, b]) h 0 _ rfl) 1 _ rfl
theorem below_put2 {B : Nat} {w0 w : World} (hb : Below B w0 w) {g : Nat} (hg : B ≤ g) (c d : Value) : Below B w0 ((w.setCell ⟨g, 0, none⟩ c).setCell ⟨g, 1, none⟩ d) :=
  (hb.setCell (p := ⟨g, 0, none⟩) hg c).setCell (p := ⟨g, 1, none⟩) hg d
set_option maxHeartbeats 4000000 in
set_option maxRecDepth 100000 in
theorem put_no (s : ByteArray) (n v k : Int) (w : World) (hm : ¬ MayP s n) :
    Calls Try.prog 24 #[.agg #[.string s, .int .i64 n], .int .i64 v, .int .i64 k] w fun e w' => e = .returned (.tuple #[.agg #[.string ⟨#[]⟩, .int .i64 0], .int .i64 1]) ∧ Below w.heap.size w w' := by
  have hu := Try.underlying27
  have A := Aside0.mk (show bits_May.f s n = some false by rw [may_eq, decide_eq_false hm])
  have HS := Aside0.mk (start2 w (.cells #[.string s, .int .i64 n] 27) (.cells #[.string ⟨#[]⟩, .int .i64 0] 27))
  clear hm
  go_enter Try.func24, Try.ntmps24
  go_wp2_with (first | ((with_reducible refine gate_callee (f := 86) rfl ?_); refine goesL_ (some 10) rfl rfl Try.func86 (by kernel_rfl) rfl #[.agg #[.string s, .int .i64 n]] rfl (by (try simp only [List.map_toArray, List.map_cons, List.map_nil]); first | done | rfl) ?_; (with_reducible refine (bits_May.calls s n false _ A.out).mono ?_); rintro e w1 ⟨rfl, hb⟩; refine ⟨_, rfl, ?_⟩; have HR := Aside0.mk (keep2 HS.out.2.1 hb HS.out.2.2.2); obtain ⟨c0, c1, f0, f1⟩ := two_cells HR.out; have HB := Aside0.mk (below_then HS.out.2.2.1 HS.out.2.2.1.size hb); clear hb))
  refine bodyPost_ret (results_list (rs := [.cell 6 27, .tmp 7]) rfl (by simp) (.cell (w.heap.size + 1) 27 #[.string ⟨#[]⟩, .int .i64 0] (0, 0) _ rfl (put2 HR.out) Try.underlying27 rfl (by kernel_rfl) (.tmp .nil))) rfl ⟨rfl, below_put2 HB.out (by omega) _ _⟩
theorem pow_le30 (k : Int) (h0 : 0 ≤ k) (h1 : k ≤ 30) : (0 : Int) < 2 ^ k.toNat ∧ (2 : Int) ^ k.toNat ≤ 1073741824 := by
  refine ⟨Int.pow_pos (by decide), ?_⟩
  have := Nat.pow_le_pow_right (n := 2) (by decide) (show k.toNat ≤ 30 by omega)
  have h2 : ((2 ^ k.toNat : Nat) : Int) ≤ ((2 ^ 30 : Nat) : Int) := by exact_mod_cast this
  simpa using h2
theorem wrap_pow (k : Int) (h0 : 0 ≤ k) (h1 : k ≤ 30) : wrap64 (2 ^ k.toNat) = 2 ^ k.toNat := by
  have := pow_le30 k h0 h1
  exact wrap_in _ (by omega) (by omega)
theorem rowPut_snd (k : Nat) : ∀ (s : List Int × Int) (v : Int), (rowPut k s v).2 = s.2 + k := by
  induction k with
  | zero => intro s v; simp [rowPut]
  | succ k ih => intro s v; rw [rowPut, ih, rowBit_snd]; omega
/-- Behind the row's making, filling, telling: what lay ahead lies there still. -/
theorem keep4 {w1 w2 w3 w4 : World} {g nd : Nat} {o : Obj} (h : w1.heap[g]? = some o) (hg : g < w1.heap.size) (h2 : Below (w1.drewN nd).heap.size (w1.drewN nd) w2) (h3 : Below (w1.drewN nd).heap.size w2 w3) (h4 : Below w3.heap.size w3 w4) : w4.heap[g]? = some o := by
  have e : (w1.drewN nd).heap[g]? = some o := h
  have hg' : g < (w1.drewN nd).heap.size := hg
  have e2 := keep2 e h2 hg'
  have e3 := keep2 e2 h3 hg'
  exact keep2 e3 h4 (blk_lt e3)
theorem below4 {w w1 w2 w3 w4 : World} {B nd : Nat} (h1 : Below B w w1) (hB : B ≤ w1.heap.size) (h2 : Below (w1.drewN nd).heap.size (w1.drewN nd) w2) (h3 : Below (w1.drewN nd).heap.size w2 w3) (h4 : Below w3.heap.size w3 w4) : Below B w w4 := by
  have hs : (w1.drewN nd).heap.size = w1.heap.size := rfl
  refine (pw_below_drewN h1 nd).trans ((h2.mono (by omega)).trans ((h3.mono (by omega)).trans (h4.mono ?_)))
  exact Nat.le_trans hB (Nat.le_trans (hs ▸ h2.size) h3.size)
theorem width_eq (k : Int) : bits_width.f k = some (decide (0 ≤ k ∧ k ≤ 30)) := by
  unfold bits_width.f
  by_cases h : k ≥ 0
  · rw [if_pos h]; simp; omega
  · rw [if_neg h]; simp; omega
set_option maxHeartbeats 4000000 in
set_option maxRecDepth 100000 in
theorem put_w (s : ByteArray) (n v k : Int) (w : World) (hm : MayP s n) (hk : ¬ (0 ≤ k ∧ k ≤ 30)) :
    Calls Try.prog 24 #[.agg #[.string s, .int .i64 n], .int .i64 v, .int .i64 k] w fun e w' => e = .returned (.tuple #[.agg #[.string ⟨#[]⟩, .int .i64 0], .int .i64 1]) ∧ Below w.heap.size w w' := by
  have hu := Try.underlying27
  have A := Aside0.mk (show bits_May.f s n = some true by rw [may_eq, decide_eq_true hm])
  have HS := Aside0.mk (start2 w (.cells #[.string s, .int .i64 n] 27) (.cells #[.string ⟨#[]⟩, .int .i64 0] 27))
  have WI := Aside0.mk (show bits_width.f k = some false by rw [width_eq, decide_eq_false hk])
  clear hk
  clear hm
  go_enter Try.func24, Try.ntmps24
  go_wp2_with (first | ((with_reducible refine gate_callee (f := 86) rfl ?_); refine goesL_ (some 10) rfl rfl Try.func86 (by kernel_rfl) rfl #[.agg #[.string s, .int .i64 n]] rfl (by (try simp only [List.map_toArray, List.map_cons, List.map_nil]); first | done | rfl) ?_; (with_reducible refine (bits_May.calls s n true _ A.out).mono ?_); rintro e w1 ⟨rfl, hb⟩; refine ⟨_, rfl, ?_⟩; have HA := Aside0.mk (keep2 HS.out.1 hb (Nat.lt_of_succ_lt HS.out.2.2.2)); have HR := Aside0.mk (keep2 HS.out.2.1 hb HS.out.2.2.2); obtain ⟨a0, a1, g0, g1⟩ := two_cells HA.out; obtain ⟨c0, c1, f0, f1⟩ := two_cells HR.out; have HB := Aside0.mk (below_then HS.out.2.2.1 HS.out.2.2.1.size hb); have HZ := Aside0.mk (Nat.lt_of_lt_of_le HS.out.2.2.2 hb.size); clear hb) | (go_at_call 87; (with_reducible refine (bits_width.calls k false _ WI.out).mono ?_); rintro e w' ⟨rfl, ⟨nd, rfl⟩⟩))
  refine bodyPost_ret (results_list (rs := [.cell 6 27, .tmp 7]) rfl (by simp) (.cell (w.heap.size + 1) 27 #[.string ⟨#[]⟩, .int .i64 0] (0, 0) _ rfl (put2 HR.out) Try.underlying27 rfl (by kernel_rfl) (.tmp .nil))) rfl ⟨rfl, below_put2 (pw_below_drewN HB.out _) (by omega) _ _⟩
set_option maxHeartbeats 4000000 in
set_option maxRecDepth 100000 in
theorem put_neg (s : ByteArray) (n v k : Int) (w : World) (hm : MayP s n) (hk : 0 ≤ k ∧ k ≤ 30) (hv : v < 0) :
    Calls Try.prog 24 #[.agg #[.string s, .int .i64 n], .int .i64 v, .int .i64 k] w fun e w' => e = .returned (.tuple #[.agg #[.string ⟨#[]⟩, .int .i64 0], .int .i64 1]) ∧ Below w.heap.size w w' := by
  have hu := Try.underlying27
  have A := Aside0.mk (show bits_May.f s n = some true by rw [may_eq, decide_eq_true hm])
  have HS := Aside0.mk (start2 w (.cells #[.string s, .int .i64 n] 27) (.cells #[.string ⟨#[]⟩, .int .i64 0] 27))
  have WI := Aside0.mk (show bits_width.f k = some true by rw [width_eq, decide_eq_true hk])
  clear hk
  clear hm
  go_enter Try.func24, Try.ntmps24
  go_wp2_with (first | ((with_reducible refine gate_callee (f := 86) rfl ?_); refine goesL_ (some 10) rfl rfl Try.func86 (by kernel_rfl) rfl #[.agg #[.string s, .int .i64 n]] rfl (by (try simp only [List.map_toArray, List.map_cons, List.map_nil]); first | done | rfl) ?_; (with_reducible refine (bits_May.calls s n true _ A.out).mono ?_); rintro e w1 ⟨rfl, hb⟩; refine ⟨_, rfl, ?_⟩; have HA := Aside0.mk (keep2 HS.out.1 hb (Nat.lt_of_succ_lt HS.out.2.2.2)); have HR := Aside0.mk (keep2 HS.out.2.1 hb HS.out.2.2.2); obtain ⟨a0, a1, g0, g1⟩ := two_cells HA.out; obtain ⟨c0, c1, f0, f1⟩ := two_cells HR.out; have HB := Aside0.mk (below_then HS.out.2.2.1 HS.out.2.2.1.size hb); have HZ := Aside0.mk (Nat.lt_of_lt_of_le HS.out.2.2.2 hb.size); clear hb) | (go_at_call 87; (with_reducible refine (bits_width.calls k true _ WI.out).mono ?_); rintro e w' ⟨rfl, ⟨nd, rfl⟩⟩))
  refine bodyPost_ret (results_list (rs := [.cell 6 27, .tmp 7]) rfl (by simp) (.cell (w.heap.size + 1) 27 #[.string ⟨#[]⟩, .int .i64 0] (0, 0) _ rfl (put2 HR.out) Try.underlying27 rfl (by kernel_rfl) (.tmp .nil))) rfl ⟨rfl, below_put2 (pw_below_drewN HB.out _) (by omega) _ _⟩
set_option maxHeartbeats 4000000 in
set_option maxRecDepth 100000 in
theorem put_big (s : ByteArray) (n v k : Int) (w : World) (hm : MayP s n) (hk : 0 ≤ k ∧ k ≤ 30) (hv : 0 ≤ v) (hv2 : 2 ^ k.toNat ≤ v) :
    Calls Try.prog 24 #[.agg #[.string s, .int .i64 n], .int .i64 v, .int .i64 k] w fun e w' => e = .returned (.tuple #[.agg #[.string ⟨#[]⟩, .int .i64 0], .int .i64 1]) ∧ Below w.heap.size w w' := by
  have hu := Try.underlying27
  have A := Aside0.mk (show bits_May.f s n = some true by rw [may_eq, decide_eq_true hm])
  have HS := Aside0.mk (start2 w (.cells #[.string s, .int .i64 n] 27) (.cells #[.string ⟨#[]⟩, .int .i64 0] 27))
  have WI := Aside0.mk (show bits_width.f k = some true by rw [width_eq, decide_eq_true hk])
  obtain ⟨hk0, hk1⟩ := hk
  have hw : wrap64 (2 ^ k.toNat) ≤ v := by rw [wrap_pow k hk0 hk1]; exact hv2
  clear hv2
  clear hm
  go_enter Try.func24, Try.ntmps24
  go_wp2_with (first | ((with_reducible refine gate_callee (f := 86) rfl ?_); refine goesL_ (some 10) rfl rfl Try.func86 (by kernel_rfl) rfl #[.agg #[.string s, .int .i64 n]] rfl (by (try simp only [List.map_toArray, List.map_cons, List.map_nil]); first | done | rfl) ?_; (with_reducible refine (bits_May.calls s n true _ A.out).mono ?_); rintro e w1 ⟨rfl, hb⟩; refine ⟨_, rfl, ?_⟩; have HA := Aside0.mk (keep2 HS.out.1 hb (Nat.lt_of_succ_lt HS.out.2.2.2)); have HR := Aside0.mk (keep2 HS.out.2.1 hb HS.out.2.2.2); obtain ⟨a0, a1, g0, g1⟩ := two_cells HA.out; obtain ⟨c0, c1, f0, f1⟩ := two_cells HR.out; have HB := Aside0.mk (below_then HS.out.2.2.1 HS.out.2.2.1.size hb); have HZ := Aside0.mk (Nat.lt_of_lt_of_le HS.out.2.2.2 hb.size); clear hb) | (go_at_call 87; (with_reducible refine (bits_width.calls k true _ WI.out).mono ?_); rintro e w' ⟨rfl, ⟨nd, rfl⟩⟩))
  refine bodyPost_ret (results_list (rs := [.cell 6 27, .tmp 7]) rfl (by simp) (.cell (w.heap.size + 1) 27 #[.string ⟨#[]⟩, .int .i64 0] (0, 0) _ rfl (put2 HR.out) Try.underlying27 rfl (by kernel_rfl) (.tmp .nil))) rfl ⟨rfl, below_put2 (pw_below_drewN HB.out _) (by omega) _ _⟩
set_option maxHeartbeats 4000000 in
set_option maxRecDepth 100000 in
theorem put_yes (s : ByteArray) (n v : Int) (k : Nat) (w : World) (hm : MayP s n) (hk : k ≤ 30) (hv : 0 ≤ v) (hv2 : v < 2 ^ k) (hn : n + k ≤ 6000) :
    Calls Try.prog 24 #[.agg #[.string s, .int .i64 n], .int .i64 v, .int .i64 k] w fun e w' => e = .returned (.tuple #[.agg #[.string (strOfNums (rowPut k (bytesI s, n) v).1), .int .i64 (n + k)], .int .i64 0]) ∧ Below w.heap.size w w' := by
  have hu := Try.underlying27
  have A := Aside0.mk (show bits_May.f s n = some true by rw [may_eq, decide_eq_true hm])
  have HS := Aside0.mk (start2 w (.cells #[.string s, .int .i64 n] 27) (.cells #[.string ⟨#[]⟩, .int .i64 0] 27))
  have WI := Aside0.mk (show bits_width.f (k : Int) = some true by rw [width_eq, decide_eq_true (by omega)])
  have hw : v < wrap64 (2 ^ k) := by have := wrap_pow (k : Int) (by omega) (by omega); rw [Int.toNat_natCast] at this; rw [this]; exact hv2
  have hk0 : (k : Int) ≤ 30 := by omega
  have hsz : s.size ≤ 1073741824 := by have := hm.2.2.1; have := hm.2.1; omega
  have hn0 : 0 ≤ n := hm.1
  have hn6 : n ≤ 6000 := hm.2.1
  have HSZ := Aside0.mk hm.2.2.1
  have HLE := Aside0.mk (show (rowPut k (bytesI s, n) v).2 ≤ 6000 by rw [rowPut_snd]; exact hn)
  clear hm hv2
  go_enter Try.func24, Try.ntmps24
  go_wp2_with (first | ((with_reducible refine gate_callee (f := 86) rfl ?_); refine goesL_ (some 10) rfl rfl Try.func86 (by kernel_rfl) rfl #[.agg #[.string s, .int .i64 n]] rfl (by (try simp only [List.map_toArray, List.map_cons, List.map_nil]); first | done | rfl) ?_; (with_reducible refine (bits_May.calls s n true _ A.out).mono ?_); rintro e w1 ⟨rfl, hb⟩; refine ⟨_, rfl, ?_⟩; have HA := Aside0.mk (keep2 HS.out.1 hb (Nat.lt_of_succ_lt HS.out.2.2.2)); have HR := Aside0.mk (keep2 HS.out.2.1 hb HS.out.2.2.2); obtain ⟨a0, a1, g0, g1⟩ := two_cells HA.out; obtain ⟨c0, c1, f0, f1⟩ := two_cells HR.out; have HB := Aside0.mk (below_then HS.out.2.2.1 HS.out.2.2.1.size hb); have HZ := Aside0.mk (Nat.lt_of_lt_of_le HS.out.2.2.2 hb.size); clear hb) | (go_at_call 87; (with_reducible refine (bits_width.calls k true _ WI.out).mono ?_); rintro e w' ⟨rfl, ⟨nd, rfl⟩⟩) | (go_at_call 88; ((with_reducible refine (from_ _ s n hsz).mono ?_); rintro e w2 ⟨p, rfl, hrow, hb2⟩); have HROW := Aside0.mk hrow; have HB2 := Aside0.mk hb2; clear hrow hb2) | (go_at_call 89; ((with_reducible refine (row_put _ _ p (bytesI s) n v k HROW.out hn0 (by rw [bytesI_length]; exact HSZ.out) (by omega) HB2.out.size).mono ?_); rintro e w3 ⟨rfl, hrow3, hb3⟩); have HROW3 := Aside0.mk hrow3; have HB3 := Aside0.mk hb3; clear hrow3 hb3))
  go_wp2_with (first | (go_at_call 90; ((with_reducible refine (row_bits_yes _ _ p _ _ HROW3.out HLE.out).mono ?_); rintro e w4 ⟨rfl, hb4⟩); have HR4 := Aside0.mk (keep4 HR.out HZ.out HB2.out HB3.out hb4); obtain ⟨d0, d1, e0, e1⟩ := two_cells HR4.out; have HB4 := Aside0.mk (below4 HB.out (by have := HZ.out; omega) HB2.out HB3.out hb4); clear hb4))
  refine bodyPost_ret (results_list (rs := [.cell 6 27, .tmp 7]) rfl (by simp) (.cell (w.heap.size + 1) 27 #[.string (strOfNums (rowPut k (bytesI s, n) v).1), .int .i64 (rowPut k (bytesI s, n) v).2] (0, 0) _ rfl (put2 HR4.out) Try.underlying27 rfl (by kernel_rfl) (.tmp .nil))) rfl ⟨by rw [rowPut_snd]; rfl, below_put2 HB4.out (by omega) _ _⟩
set_option maxHeartbeats 4000000 in
set_option maxRecDepth 100000 in
theorem put_full (s : ByteArray) (n v : Int) (k : Nat) (w : World) (hm : MayP s n) (hk : k ≤ 30) (hv : 0 ≤ v) (hv2 : v < 2 ^ k) (hn : 6000 < n + k) :
    Calls Try.prog 24 #[.agg #[.string s, .int .i64 n], .int .i64 v, .int .i64 k] w fun e w' => e = .returned (.tuple #[.agg #[.string ⟨#[]⟩, .int .i64 0], .int .i64 2]) ∧ Below w.heap.size w w' := by
  have hu := Try.underlying27
  have A := Aside0.mk (show bits_May.f s n = some true by rw [may_eq, decide_eq_true hm])
  have HS := Aside0.mk (start2 w (.cells #[.string s, .int .i64 n] 27) (.cells #[.string ⟨#[]⟩, .int .i64 0] 27))
  have WI := Aside0.mk (show bits_width.f (k : Int) = some true by rw [width_eq, decide_eq_true (by omega)])
  have hw : v < wrap64 (2 ^ k) := by have := wrap_pow (k : Int) (by omega) (by omega); rw [Int.toNat_natCast] at this; rw [this]; exact hv2
  have hk0 : (k : Int) ≤ 30 := by omega
  have hsz : s.size ≤ 1073741824 := by have := hm.2.2.1; have := hm.2.1; omega
  have hn0 : 0 ≤ n := hm.1
  have hn6 : n ≤ 6000 := hm.2.1
  have HSZ := Aside0.mk hm.2.2.1
  have HLE := Aside0.mk (show 6000 < (rowPut k (bytesI s, n) v).2 by rw [rowPut_snd]; exact hn)
  clear hm hv2
  go_enter Try.func24, Try.ntmps24
  go_wp2_with (first | ((with_reducible refine gate_callee (f := 86) rfl ?_); refine goesL_ (some 10) rfl rfl Try.func86 (by kernel_rfl) rfl #[.agg #[.string s, .int .i64 n]] rfl (by (try simp only [List.map_toArray, List.map_cons, List.map_nil]); first | done | rfl) ?_; (with_reducible refine (bits_May.calls s n true _ A.out).mono ?_); rintro e w1 ⟨rfl, hb⟩; refine ⟨_, rfl, ?_⟩; have HA := Aside0.mk (keep2 HS.out.1 hb (Nat.lt_of_succ_lt HS.out.2.2.2)); have HR := Aside0.mk (keep2 HS.out.2.1 hb HS.out.2.2.2); obtain ⟨a0, a1, g0, g1⟩ := two_cells HA.out; obtain ⟨c0, c1, f0, f1⟩ := two_cells HR.out; have HB := Aside0.mk (below_then HS.out.2.2.1 HS.out.2.2.1.size hb); have HZ := Aside0.mk (Nat.lt_of_lt_of_le HS.out.2.2.2 hb.size); clear hb) | (go_at_call 87; (with_reducible refine (bits_width.calls k true _ WI.out).mono ?_); rintro e w' ⟨rfl, ⟨nd, rfl⟩⟩) | (go_at_call 88; ((with_reducible refine (from_ _ s n hsz).mono ?_); rintro e w2 ⟨p, rfl, hrow, hb2⟩); have HROW := Aside0.mk hrow; have HB2 := Aside0.mk hb2; clear hrow hb2) | (go_at_call 89; ((with_reducible refine (row_put _ _ p (bytesI s) n v k HROW.out hn0 (by rw [bytesI_length]; exact HSZ.out) (by omega) HB2.out.size).mono ?_); rintro e w3 ⟨rfl, hrow3, hb3⟩); have HROW3 := Aside0.mk hrow3; have HB3 := Aside0.mk hb3; clear hrow3 hb3))
  go_wp2_with (first | (go_at_call 90; ((with_reducible refine (row_bits_no _ _ p _ _ HROW3.out HLE.out).mono ?_); rintro e w4 ⟨rfl, hb4⟩); have HR4 := Aside0.mk (keep4 HR.out HZ.out HB2.out HB3.out hb4); obtain ⟨d0, d1, e0, e1⟩ := two_cells HR4.out; have HB4 := Aside0.mk (below4 HB.out (by have := HZ.out; omega) HB2.out HB3.out hb4); clear hb4))
  refine bodyPost_ret (results_list (rs := [.cell 6 27, .tmp 7]) rfl (by simp) (.cell (w.heap.size + 1) 27 #[.string ⟨#[]⟩, .int .i64 0] (0, 0) _ rfl (put2 HR4.out) Try.underlying27 rfl (by kernel_rfl) (.tmp .nil))) rfl ⟨rfl, below_put2 HB4.out (by omega) _ _⟩
set_option maxRecDepth 100000 in
theorem bits_Put.calls (a0_0 : ByteArray) (a0_1 a1 a2 : Int) (r1 : ByteArray) (r2 r3 : Int) (w : World) (h : bits_Put.f a0_0 a0_1 a1 a2 = some (r1, r2, r3)) :
    Calls Try.prog 24 #[.agg #[.string a0_0, .int .i64 a0_1], .int .i64 a1, .int .i64 a2] w fun e w' => e = .returned (.tuple #[.agg #[.string r1, .int .i64 r2], .int .i64 r3]) ∧ Below w.heap.size w w' := by
  unfold bits_Put.f at h
  by_cases hm : MayP a0_0 a0_1
  · by_cases hk : 0 ≤ a2 ∧ a2 ≤ 30
    · by_cases hv : 0 ≤ a1
      · by_cases hv2 : a1 < 2 ^ a2.toNat
        · rw [if_pos ⟨hm, hk.1, hk.2, hv, hv2⟩] at h
          obtain ⟨k, rfl⟩ := Int.eq_ofNat_of_zero_le hk.1
          rw [Int.toNat_natCast] at hv2 h
          by_cases hn : a0_1 + k ≤ 6000
          · rw [if_pos hn] at h
            simp only [Option.some.injEq, Prod.mk.injEq] at h
            obtain ⟨rfl, rfl, rfl⟩ := h
            have e := put_yes a0_0 a0_1 a1 k w hm (by omega) hv hv2 hn
            have hp := rowPut_pack k a1 hv (by have := pow_le30 (k : Int) (by omega) (by omega); rw [Int.toNat_natCast] at this; omega) (ofS a0_0 a0_1) (ofS_bits _ _)
            rw [pack_ofS _ _ hm, ofS_length, Int.toNat_of_nonneg hm.1] at hp
            rw [hp] at e
            exact e
          · rw [if_neg hn] at h
            simp only [Option.some.injEq, Prod.mk.injEq] at h
            obtain ⟨rfl, rfl, rfl⟩ := h
            exact put_full a0_0 a0_1 a1 k w hm (by omega) hv hv2 (by omega)
        · rw [if_neg (fun h => hv2 h.2.2.2.2)] at h
          simp only [Option.some.injEq, Prod.mk.injEq] at h
          obtain ⟨rfl, rfl, rfl⟩ := h
          exact put_big a0_0 a0_1 a1 a2 w hm hk hv (by omega)
      · rw [if_neg (fun h => hv h.2.2.2.1)] at h
        simp only [Option.some.injEq, Prod.mk.injEq] at h
        obtain ⟨rfl, rfl, rfl⟩ := h
        exact put_neg a0_0 a0_1 a1 a2 w hm hk (by omega)
    · rw [if_neg (fun h => hk ⟨h.2.1, h.2.2.1⟩)] at h
      simp only [Option.some.injEq, Prod.mk.injEq] at h
      obtain ⟨rfl, rfl, rfl⟩ := h
      exact put_w a0_0 a0_1 a1 a2 w hm hk
  · rw [if_neg (fun h => hm h.1)] at h
    simp only [Option.some.injEq, Prod.mk.injEq] at h
    obtain ⟨rfl, rfl, rfl⟩ := h
    exact put_no a0_0 a0_1 a1 a2 w hm
end Go.Proofs.Ytnpghcikhpglkaa.Q
namespace Go.Proofs.Ytnpghcikhpglkaa.Q
open Go.RowKit Go.Proofs.YtnpghcikhpglkaaW.PrintWords Go.Proofs.YtnpghcikhpglkaaW.PrintLast Go.Proofs.YtnpghcikhpglkaaW.PrintMore
attribute [local go_sem] max2_int min2_int max_two min_two max_three min_three max_four min_four   -- for this text's walks alone
set_option linter.unusedVariables false
set_option linter.unusedSimpArgs false

attribute [local go_sem high] eqA27
/-! ### herbariumlaw1_wakes: function 27 -/
def herbariumlaw1_wakes.f (k : Nat)  : Option (Bool) := (bits_Put.f (⟨#[]⟩ : ByteArray) 0 5 3).bind fun bt559 => ((bits_Get.f k bt559.1 bt559.2.1 0 3).bind fun bt563 => ((herbariumlaw1_num.f bt559.2.2).bind fun t565 => (if t565 = 0 then ((herbariumlaw1_num.f bt563.2).bind fun t566 => (if t566 = 0 then (if (bt559.1.toList == ([160] : List UInt8) && (bt559.2.1 == 3)) = true then (some (bt563.1 == 5)) else (some false)) else (some false))) else (some false))))
set_option maxHeartbeats 8000000 in
set_option maxRecDepth 100000 in
theorem herbariumlaw1_wakes.calls (k : Nat)  (r : Bool) (w : World) (h : herbariumlaw1_wakes.f k  = some r) :
    Calls Try.prog 27 #[] w fun e w' => e = .returned (.bool r) ∧ Below w.heap.size w w' := by
 have hu27 := Try.underlying27
 have HB := ak (Below.refl w.heap.size w)
 have H : ((bits_Put.f (⟨#[]⟩ : ByteArray) 0 5 3).bind fun bt559 => ((bits_Get.f k bt559.1 bt559.2.1 0 3).bind fun bt563 => ((herbariumlaw1_num.f bt559.2.2).bind fun t565 => (if t565 = 0 then ((herbariumlaw1_num.f bt563.2).bind fun t566 => (if t566 = 0 then (if (bt559.1.toList == ([160] : List UInt8) && (bt559.2.1 == 3)) = true then (some (bt563.1 == 5)) else (some false)) else (some false))) else (some false))))) = some r := h
 clear h
 replace H := Option.bind_eq_some_iff.mp H
 obtain ⟨⟨t559, t560, t561⟩, A10, H⟩ := H
 try dsimp only at H
 have A1 := ak A10
 clear A10
 replace H := Option.bind_eq_some_iff.mp H
 obtain ⟨⟨t563, t564⟩, A20, H⟩ := H
 try dsimp only at H
 have A2 := ak A20
 clear A20
 replace H := Option.bind_eq_some_iff.mp H
 obtain ⟨t565, A30, H⟩ := H
 try dsimp only at H
 have A3 := ak A30
 clear A30
 by_cases c4 : t565 = 0
 rotate_left
 ·
  rw [if_neg c4] at H
  have c4b0 : (t565 == 0) = false := beq_eq_false_iff_ne.mpr c4
  have c4b1 : (t565 != 0) = true := bne_iff_ne.mpr c4
  obtain rfl := Option.some.inj H
  go_enter Try.func27, Try.ntmps27
  go_wp2_with (first | ((with_reducible refine gate_callee (f := 24) rfl ?_); refine goesL_ (some 7) rfl rfl Try.func24 (by kernel_rfl) rfl #[.agg #[.string (⟨#[]⟩ : ByteArray), .int .i64 0], .int .i64 5, .int .i64 3] rfl (by (try simp only [List.map_toArray, List.map_cons, List.map_nil]); first | done | rfl | (simp only [List.length_drop, List.length_take]; rfl)) ?_; (with_reducible refine (bits_Put.calls (⟨#[]⟩ : ByteArray) 0 5 3 t559 t560 t561 _ A1.out).mono ?_); rintro e w22 ⟨rfl, hb⟩; refine ⟨_, rfl, ?_⟩; have n0_ := ak (below_step (ul HB.out) hb); clear HB; have HB := n0_; clear n0_; (try clear hb); (try clear hb2); (try clear hk); (try clear hi)) | ((with_reducible refine gate_dst (N := 1) rfl ?_); refine box_event ?hg (N := 1) ?hd (cs := #[.string (⟨#[]⟩ : ByteArray), .int .i64 0]) (t := 27) ?hr ?_; (case hd => rfl); (case hg => rfl); (case hr => first | (go_simp; done) | (go_simp; rfl)); intro gb562 hg w23 hbox hb; have n0_ := ak (below_step (ul HB.out) hb); have n1_ := ak (hbox); have n2_ := ak ((by rw [hg]; exact (below_size (ul HB.out)) : w.heap.size ≤ gb562)); have n3_ := ak ((by rw [hg]; exact (below_size (ul HB.out)) : w.heap.size ≤ gb562)); clear HB; have HB := n0_; have BK562 := n1_; have GW562 := n2_; have GE562 := n3_; clear n0_ n1_ n2_ n3_; clear hb hbox hg; have hcz24_0 : w23.cell? ⟨gb562, 0, none⟩ = some (.string (⟨#[]⟩ : ByteArray)) := (blk_cell BK562.out 0).trans rfl; have hcz24_1 : w23.cell? ⟨gb562, 1, none⟩ = some (.int .i64 0) := (blk_cell BK562.out 1).trans rfl; have hfz24_0 := blk_frozen BK562.out 0; have hfz24_1 := blk_frozen BK562.out 1) | ((with_reducible refine gate_callee (f := 25) rfl ?_); refine goesL_ (some 12) rfl rfl Try.func25 (by kernel_rfl) rfl #[.agg #[.string t559, .int .i64 t560], .int .i64 0, .int .i64 3] rfl (by (try simp only [List.map_toArray, List.map_cons, List.map_nil]); first | done | rfl | (simp only [List.length_drop, List.length_take]; rfl)) ?_; (with_reducible refine (bits_Get.calls k t559 t560 0 3 t563 t564 _ A2.out).mono ?_); rintro e w25 ⟨rfl, hb⟩; refine ⟨_, rfl, ?_⟩; have n0_ := ak (blk_below (g := gb562) (o := .cells #[.string t559, .int .i64 t560] 27 (0, 0)) (by (with_reducible repeat (first | refine blk_drewN ?_ _ | refine blk_drew ?_ | refine blk_alloc ?_ _)); refine blk_put (cs := #[.string t559, .int .i64 0]) ?_ 1 _ rfl; (with_reducible repeat (first | refine blk_drewN ?_ _ | refine blk_drew ?_ | refine blk_alloc ?_ _)); refine blk_put (cs := #[.string (⟨#[]⟩ : ByteArray), .int .i64 0]) ?_ 0 _ rfl; (with_reducible repeat (first | refine blk_drewN ?_ _ | refine blk_drew ?_ | refine blk_alloc ?_ _)); exact BK562.out) hb); have n1_ := ak (below_step (by repeat with_reducible first | exact HB.out | apply b1 | apply b2 | apply b3 | refine b4 ?_ GE562.out) hb); clear BK562; clear HB; have BK562 := n0_; have HB := n1_; clear n0_ n1_; (try clear hb); (try clear hb2); (try clear hk); (try clear hi)) | ((with_reducible refine gate_callee (f := 26) rfl ?_); refine goesL_ (some 16) rfl rfl Try.func26 (by kernel_rfl) rfl #[.int .i64 t561] rfl (by (try simp only [List.map_toArray, List.map_cons, List.map_nil]); first | done | rfl | (simp only [List.length_drop, List.length_take]; rfl)) ?_; (with_reducible refine (herbariumlaw1_num.calls t561 t565 _ A3.out).mono ?_); rintro e w' ⟨rfl, ⟨nd, rfl⟩⟩; refine ⟨_, rfl, ?_⟩))
  go_ret
  exact ⟨by first | rfl | (simp [errW_none, errW_some] <;> rfl) | (simp [*, errW_none, errW_some] <;> rfl), by repeat with_reducible first | exact HB.out | apply b1 | apply b2 | apply b3 | refine b4 ?_ GE562.out⟩
 rw [if_pos c4] at H
 have c4b0 : (t565 == 0) = true := beq_iff_eq.mpr c4
 have c4b1 : (t565 != 0) = false := bne_eq_false_iff_eq.mpr c4
 clear c4
 replace H := Option.bind_eq_some_iff.mp H
 obtain ⟨t566, A50, H⟩ := H
 try dsimp only at H
 have A5 := ak A50
 clear A50
 by_cases c6 : t566 = 0
 rotate_left
 ·
  rw [if_neg c6] at H
  have c6b0 : (t566 == 0) = false := beq_eq_false_iff_ne.mpr c6
  have c6b1 : (t566 != 0) = true := bne_iff_ne.mpr c6
  obtain rfl := Option.some.inj H
  go_enter Try.func27, Try.ntmps27
  go_wp2_with (first | ((with_reducible refine gate_callee (f := 24) rfl ?_); refine goesL_ (some 7) rfl rfl Try.func24 (by kernel_rfl) rfl #[.agg #[.string (⟨#[]⟩ : ByteArray), .int .i64 0], .int .i64 5, .int .i64 3] rfl (by (try simp only [List.map_toArray, List.map_cons, List.map_nil]); first | done | rfl | (simp only [List.length_drop, List.length_take]; rfl)) ?_; (with_reducible refine (bits_Put.calls (⟨#[]⟩ : ByteArray) 0 5 3 t559 t560 t561 _ A1.out).mono ?_); rintro e w18 ⟨rfl, hb⟩; refine ⟨_, rfl, ?_⟩; have n0_ := ak (below_step (ul HB.out) hb); clear HB; have HB := n0_; clear n0_; (try clear hb); (try clear hb2); (try clear hk); (try clear hi)) | ((with_reducible refine gate_dst (N := 1) rfl ?_); refine box_event ?hg (N := 1) ?hd (cs := #[.string (⟨#[]⟩ : ByteArray), .int .i64 0]) (t := 27) ?hr ?_; (case hd => rfl); (case hg => rfl); (case hr => first | (go_simp; done) | (go_simp; rfl)); intro gb562 hg w19 hbox hb; have n0_ := ak (below_step (ul HB.out) hb); have n1_ := ak (hbox); have n2_ := ak ((by rw [hg]; exact (below_size (ul HB.out)) : w.heap.size ≤ gb562)); have n3_ := ak ((by rw [hg]; exact (below_size (ul HB.out)) : w.heap.size ≤ gb562)); clear HB; have HB := n0_; have BK562 := n1_; have GW562 := n2_; have GE562 := n3_; clear n0_ n1_ n2_ n3_; clear hb hbox hg; have hcz20_0 : w19.cell? ⟨gb562, 0, none⟩ = some (.string (⟨#[]⟩ : ByteArray)) := (blk_cell BK562.out 0).trans rfl; have hcz20_1 : w19.cell? ⟨gb562, 1, none⟩ = some (.int .i64 0) := (blk_cell BK562.out 1).trans rfl; have hfz20_0 := blk_frozen BK562.out 0; have hfz20_1 := blk_frozen BK562.out 1) | ((with_reducible refine gate_callee (f := 25) rfl ?_); refine goesL_ (some 12) rfl rfl Try.func25 (by kernel_rfl) rfl #[.agg #[.string t559, .int .i64 t560], .int .i64 0, .int .i64 3] rfl (by (try simp only [List.map_toArray, List.map_cons, List.map_nil]); first | done | rfl | (simp only [List.length_drop, List.length_take]; rfl)) ?_; (with_reducible refine (bits_Get.calls k t559 t560 0 3 t563 t564 _ A2.out).mono ?_); rintro e w21 ⟨rfl, hb⟩; refine ⟨_, rfl, ?_⟩; have n0_ := ak (blk_below (g := gb562) (o := .cells #[.string t559, .int .i64 t560] 27 (0, 0)) (by (with_reducible repeat (first | refine blk_drewN ?_ _ | refine blk_drew ?_ | refine blk_alloc ?_ _)); refine blk_put (cs := #[.string t559, .int .i64 0]) ?_ 1 _ rfl; (with_reducible repeat (first | refine blk_drewN ?_ _ | refine blk_drew ?_ | refine blk_alloc ?_ _)); refine blk_put (cs := #[.string (⟨#[]⟩ : ByteArray), .int .i64 0]) ?_ 0 _ rfl; (with_reducible repeat (first | refine blk_drewN ?_ _ | refine blk_drew ?_ | refine blk_alloc ?_ _)); exact BK562.out) hb); have n1_ := ak (below_step (by repeat with_reducible first | exact HB.out | apply b1 | apply b2 | apply b3 | refine b4 ?_ GE562.out) hb); clear BK562; clear HB; have BK562 := n0_; have HB := n1_; clear n0_ n1_; (try clear hb); (try clear hb2); (try clear hk); (try clear hi)) | ((with_reducible refine gate_callee (f := 26) rfl ?_); refine goesL_ (some 16) rfl rfl Try.func26 (by kernel_rfl) rfl #[.int .i64 t561] rfl (by (try simp only [List.map_toArray, List.map_cons, List.map_nil]); first | done | rfl | (simp only [List.length_drop, List.length_take]; rfl)) ?_; (with_reducible refine (herbariumlaw1_num.calls t561 t565 _ A3.out).mono ?_); rintro e w' ⟨rfl, ⟨nd, rfl⟩⟩; refine ⟨_, rfl, ?_⟩) | (go_at_call 26; (with_reducible refine (herbariumlaw1_num.calls t564 t566 _ A5.out).mono ?_); rintro e w' ⟨rfl, ⟨nd, rfl⟩⟩))
  go_ret
  exact ⟨by first | rfl | (simp [errW_none, errW_some] <;> rfl) | (simp [*, errW_none, errW_some] <;> rfl), by repeat with_reducible first | exact HB.out | apply b1 | apply b2 | apply b3 | refine b4 ?_ GE562.out⟩
 rw [if_pos c6] at H
 have c6b0 : (t566 == 0) = true := beq_iff_eq.mpr c6
 have c6b1 : (t566 != 0) = false := bne_eq_false_iff_eq.mpr c6
 clear c6
 by_cases c7 : (t559.toList == ([160] : List UInt8) && (t560 == 3)) = true
 ·
  rw [if_pos c7] at H
  have c7b0 : (t559.toList == ([160] : List UInt8) && (t560 == 3)) = true := c7
  (try (have c7b1 : decide (t559.toList = ([160] : List UInt8) && (t560 == 3)) = true := by simpa using c7))
  (try (have c7b2 : (t559.toList == ([160] : List UInt8) && (t560 == 3)) = true := by simpa using c7))
  clear c7
  obtain rfl := Option.some.inj H
  go_enter Try.func27, Try.ntmps27
  go_wp2_with (first | ((with_reducible refine gate_callee (f := 24) rfl ?_); refine goesL_ (some 7) rfl rfl Try.func24 (by kernel_rfl) rfl #[.agg #[.string (⟨#[]⟩ : ByteArray), .int .i64 0], .int .i64 5, .int .i64 3] rfl (by (try simp only [List.map_toArray, List.map_cons, List.map_nil]); first | done | rfl | (simp only [List.length_drop, List.length_take]; rfl)) ?_; (with_reducible refine (bits_Put.calls (⟨#[]⟩ : ByteArray) 0 5 3 t559 t560 t561 _ A1.out).mono ?_); rintro e w8 ⟨rfl, hb⟩; refine ⟨_, rfl, ?_⟩; have n0_ := ak (below_step (ul HB.out) hb); clear HB; have HB := n0_; clear n0_; (try clear hb); (try clear hb2); (try clear hk); (try clear hi)) | ((with_reducible refine gate_dst (N := 1) rfl ?_); refine box_event ?hg (N := 1) ?hd (cs := #[.string (⟨#[]⟩ : ByteArray), .int .i64 0]) (t := 27) ?hr ?_; (case hd => rfl); (case hg => rfl); (case hr => first | (go_simp; done) | (go_simp; rfl)); intro gb562 hg w9 hbox hb; have n0_ := ak (below_step (ul HB.out) hb); have n1_ := ak (hbox); have n2_ := ak ((by rw [hg]; exact (below_size (ul HB.out)) : w.heap.size ≤ gb562)); have n3_ := ak ((by rw [hg]; exact (below_size (ul HB.out)) : w.heap.size ≤ gb562)); clear HB; have HB := n0_; have BK562 := n1_; have GW562 := n2_; have GE562 := n3_; clear n0_ n1_ n2_ n3_; clear hb hbox hg; have hcz10_0 : w9.cell? ⟨gb562, 0, none⟩ = some (.string (⟨#[]⟩ : ByteArray)) := (blk_cell BK562.out 0).trans rfl; have hcz10_1 : w9.cell? ⟨gb562, 1, none⟩ = some (.int .i64 0) := (blk_cell BK562.out 1).trans rfl; have hfz10_0 := blk_frozen BK562.out 0; have hfz10_1 := blk_frozen BK562.out 1) | ((with_reducible refine gate_callee (f := 25) rfl ?_); refine goesL_ (some 12) rfl rfl Try.func25 (by kernel_rfl) rfl #[.agg #[.string t559, .int .i64 t560], .int .i64 0, .int .i64 3] rfl (by (try simp only [List.map_toArray, List.map_cons, List.map_nil]); first | done | rfl | (simp only [List.length_drop, List.length_take]; rfl)) ?_; (with_reducible refine (bits_Get.calls k t559 t560 0 3 t563 t564 _ A2.out).mono ?_); rintro e w11 ⟨rfl, hb⟩; refine ⟨_, rfl, ?_⟩; have n0_ := ak (blk_below (g := gb562) (o := .cells #[.string t559, .int .i64 t560] 27 (0, 0)) (by (with_reducible repeat (first | refine blk_drewN ?_ _ | refine blk_drew ?_ | refine blk_alloc ?_ _)); refine blk_put (cs := #[.string t559, .int .i64 0]) ?_ 1 _ rfl; (with_reducible repeat (first | refine blk_drewN ?_ _ | refine blk_drew ?_ | refine blk_alloc ?_ _)); refine blk_put (cs := #[.string (⟨#[]⟩ : ByteArray), .int .i64 0]) ?_ 0 _ rfl; (with_reducible repeat (first | refine blk_drewN ?_ _ | refine blk_drew ?_ | refine blk_alloc ?_ _)); exact BK562.out) hb); have n1_ := ak (below_step (by repeat with_reducible first | exact HB.out | apply b1 | apply b2 | apply b3 | refine b4 ?_ GE562.out) hb); clear BK562; clear HB; have BK562 := n0_; have HB := n1_; clear n0_ n1_; (try clear hb); (try clear hb2); (try clear hk); (try clear hi)) | ((with_reducible refine gate_callee (f := 26) rfl ?_); refine goesL_ (some 16) rfl rfl Try.func26 (by kernel_rfl) rfl #[.int .i64 t561] rfl (by (try simp only [List.map_toArray, List.map_cons, List.map_nil]); first | done | rfl | (simp only [List.length_drop, List.length_take]; rfl)) ?_; (with_reducible refine (herbariumlaw1_num.calls t561 t565 _ A3.out).mono ?_); rintro e w' ⟨rfl, ⟨nd, rfl⟩⟩; refine ⟨_, rfl, ?_⟩) | (go_at_call 26; (with_reducible refine (herbariumlaw1_num.calls t564 t566 _ A5.out).mono ?_); rintro e w' ⟨rfl, ⟨nd, rfl⟩⟩; have hcz12_0 : w11.cell? ⟨gb562, 0, none⟩ = some (.string t559) := (blk_cell BK562.out 0).trans rfl; have hcz12_1 : w11.cell? ⟨gb562, 1, none⟩ = some (.int .i64 t560) := (blk_cell BK562.out 1).trans rfl; have hfz12_0 := blk_frozen BK562.out 0; have hfz12_1 := blk_frozen BK562.out 1))
  go_ret
  exact ⟨by first | rfl | (simp [errW_none, errW_some] <;> rfl) | (simp [*, errW_none, errW_some] <;> rfl), by repeat with_reducible first | exact HB.out | apply b1 | apply b2 | apply b3 | refine b4 ?_ GE562.out⟩
 rw [if_neg c7] at H
 have c7b0 : (t559.toList == ([160] : List UInt8) && (t560 == 3)) = false := by simpa using c7
 (try (have c7b1 : decide (t559.toList = ([160] : List UInt8) && (t560 == 3)) = false := by simpa using c7))
 (try (have c7b2 : (t559.toList == ([160] : List UInt8) && (t560 == 3)) = false := by simpa using c7))
 (try (have c7b3 : ¬ (t559.toList = ([160] : List UInt8) && (t560 == 3)) := by simpa using c7))
 clear c7
 obtain rfl := Option.some.inj H
 go_enter Try.func27, Try.ntmps27
 go_wp2_with (first | ((with_reducible refine gate_callee (f := 24) rfl ?_); refine goesL_ (some 7) rfl rfl Try.func24 (by kernel_rfl) rfl #[.agg #[.string (⟨#[]⟩ : ByteArray), .int .i64 0], .int .i64 5, .int .i64 3] rfl (by (try simp only [List.map_toArray, List.map_cons, List.map_nil]); first | done | rfl | (simp only [List.length_drop, List.length_take]; rfl)) ?_; (with_reducible refine (bits_Put.calls (⟨#[]⟩ : ByteArray) 0 5 3 t559 t560 t561 _ A1.out).mono ?_); rintro e w13 ⟨rfl, hb⟩; refine ⟨_, rfl, ?_⟩; have n0_ := ak (below_step (ul HB.out) hb); clear HB; have HB := n0_; clear n0_; (try clear hb); (try clear hb2); (try clear hk); (try clear hi)) | ((with_reducible refine gate_dst (N := 1) rfl ?_); refine box_event ?hg (N := 1) ?hd (cs := #[.string (⟨#[]⟩ : ByteArray), .int .i64 0]) (t := 27) ?hr ?_; (case hd => rfl); (case hg => rfl); (case hr => first | (go_simp; done) | (go_simp; rfl)); intro gb562 hg w14 hbox hb; have n0_ := ak (below_step (ul HB.out) hb); have n1_ := ak (hbox); have n2_ := ak ((by rw [hg]; exact (below_size (ul HB.out)) : w.heap.size ≤ gb562)); have n3_ := ak ((by rw [hg]; exact (below_size (ul HB.out)) : w.heap.size ≤ gb562)); clear HB; have HB := n0_; have BK562 := n1_; have GW562 := n2_; have GE562 := n3_; clear n0_ n1_ n2_ n3_; clear hb hbox hg; have hcz15_0 : w14.cell? ⟨gb562, 0, none⟩ = some (.string (⟨#[]⟩ : ByteArray)) := (blk_cell BK562.out 0).trans rfl; have hcz15_1 : w14.cell? ⟨gb562, 1, none⟩ = some (.int .i64 0) := (blk_cell BK562.out 1).trans rfl; have hfz15_0 := blk_frozen BK562.out 0; have hfz15_1 := blk_frozen BK562.out 1) | ((with_reducible refine gate_callee (f := 25) rfl ?_); refine goesL_ (some 12) rfl rfl Try.func25 (by kernel_rfl) rfl #[.agg #[.string t559, .int .i64 t560], .int .i64 0, .int .i64 3] rfl (by (try simp only [List.map_toArray, List.map_cons, List.map_nil]); first | done | rfl | (simp only [List.length_drop, List.length_take]; rfl)) ?_; (with_reducible refine (bits_Get.calls k t559 t560 0 3 t563 t564 _ A2.out).mono ?_); rintro e w16 ⟨rfl, hb⟩; refine ⟨_, rfl, ?_⟩; have n0_ := ak (blk_below (g := gb562) (o := .cells #[.string t559, .int .i64 t560] 27 (0, 0)) (by (with_reducible repeat (first | refine blk_drewN ?_ _ | refine blk_drew ?_ | refine blk_alloc ?_ _)); refine blk_put (cs := #[.string t559, .int .i64 0]) ?_ 1 _ rfl; (with_reducible repeat (first | refine blk_drewN ?_ _ | refine blk_drew ?_ | refine blk_alloc ?_ _)); refine blk_put (cs := #[.string (⟨#[]⟩ : ByteArray), .int .i64 0]) ?_ 0 _ rfl; (with_reducible repeat (first | refine blk_drewN ?_ _ | refine blk_drew ?_ | refine blk_alloc ?_ _)); exact BK562.out) hb); have n1_ := ak (below_step (by repeat with_reducible first | exact HB.out | apply b1 | apply b2 | apply b3 | refine b4 ?_ GE562.out) hb); clear BK562; clear HB; have BK562 := n0_; have HB := n1_; clear n0_ n1_; (try clear hb); (try clear hb2); (try clear hk); (try clear hi)) | ((with_reducible refine gate_callee (f := 26) rfl ?_); refine goesL_ (some 16) rfl rfl Try.func26 (by kernel_rfl) rfl #[.int .i64 t561] rfl (by (try simp only [List.map_toArray, List.map_cons, List.map_nil]); first | done | rfl | (simp only [List.length_drop, List.length_take]; rfl)) ?_; (with_reducible refine (herbariumlaw1_num.calls t561 t565 _ A3.out).mono ?_); rintro e w' ⟨rfl, ⟨nd, rfl⟩⟩; refine ⟨_, rfl, ?_⟩) | (go_at_call 26; (with_reducible refine (herbariumlaw1_num.calls t564 t566 _ A5.out).mono ?_); rintro e w' ⟨rfl, ⟨nd, rfl⟩⟩; have hcz17_0 : w16.cell? ⟨gb562, 0, none⟩ = some (.string t559) := (blk_cell BK562.out 0).trans rfl; have hcz17_1 : w16.cell? ⟨gb562, 1, none⟩ = some (.int .i64 t560) := (blk_cell BK562.out 1).trans rfl; have hfz17_0 := blk_frozen BK562.out 0; have hfz17_1 := blk_frozen BK562.out 1))
 go_ret
 exact ⟨by first | rfl | (simp [errW_none, errW_some] <;> rfl) | (simp [*, errW_none, errW_some] <;> rfl), by repeat with_reducible first | exact HB.out | apply b1 | apply b2 | apply b3 | refine b4 ?_ GE562.out⟩
end Go.Proofs.Ytnpghcikhpglkaa.Q
namespace Go.Proofs.Ytnpghcikhpglkaa.Q
open Go.RowKit Go.Proofs.YtnpghcikhpglkaaW.PrintWords Go.Proofs.YtnpghcikhpglkaaW.PrintLast Go.Proofs.YtnpghcikhpglkaaW.PrintMore Go.Proofs.Ytnpghcikhpglkaa.Hand Go.Proofs.Ytnpghcikhpglkaa.Pu
set_option linter.unusedVariables false
set_option linter.unusedSimpArgs false
/-- Bits of a text, one by one behind a row. -/
def rowSeq (s : ByteArray) : Nat → Int → List Int × Int → List Int × Int
  | 0, _, st => st
  | k + 1, i, st => rowSeq s k (i + 1) (rowPut 1 st (bitOf s i))
theorem row_put1 (W : World) (base p : Nat) (bs : List Int) (n v : Int) (hrow : RowIs W base p bs n) (hn : 0 ≤ n) (hlen : (bs.length : Int) = (n + 7) / 8) (hbd : n + 1 ≤ 1073741824) (hbase : base ≤ W.heap.size) :
    Calls Try.prog 89 #[.pointer (some ⟨p, 0, none⟩), .int .i64 v, .int .i64 1] W fun e w' => e = .returned (.tuple #[]) ∧ RowIs w' base p (rowPut 1 (bs, n) v).1 (rowPut 1 (bs, n) v).2 ∧ Below base W w' :=
  row_put W base p bs n v 1 hrow hn hlen hbd hbase
theorem rowPut1_len (st : List Int × Int) (v : Int) (h0 : 0 ≤ st.2) (hl : (st.1.length : Int) = (st.2 + 7) / 8) : ((rowPut 1 st v).1.length : Int) = ((rowPut 1 st v).2 + 7) / 8 :=
  rowBit_len st v 0 h0 hl
theorem start3 (w : World) (o1 o2 o3 : Obj) : (((w.alloc o1).alloc o2).alloc o3).heap[w.heap.size]? = some o1 ∧ (((w.alloc o1).alloc o2).alloc o3).heap[w.heap.size + 1]? = some o2 ∧ (((w.alloc o1).alloc o2).alloc o3).heap[w.heap.size + 2]? = some o3 ∧
    Below w.heap.size w (((w.alloc o1).alloc o2).alloc o3) ∧ (((w.alloc o1).alloc o2).alloc o3).heap.size = w.heap.size + 3 := by
  obtain ⟨h1, h2, h3, h4⟩ := start2 w o1 o2
  have hs : ((w.alloc o1).alloc o2).heap.size = w.heap.size + 2 := by simp
  refine ⟨(Below.heap_alloc _ _ _ (by omega)).trans h1, (Below.heap_alloc _ _ _ (by omega)).trans h2, ?_, h3.alloc (by omega) o3, by simp⟩
  have := heap_alloc_new ((w.alloc o1).alloc o2) o3
  rw [hs] at this
  exact this
set_option maxHeartbeats 4000000 in
set_option maxRecDepth 100000 in
theorem part_walk (s : ByteArray) (n a b : Int) (w : World) (ha : 0 ≤ a) (hb : b ≤ 8 * s.size) (hb2 : b ≤ 1073741824) :
    Calls Try.prog 99 #[.agg #[.string s, .int .i64 n], .int .i64 a, .int .i64 b] w fun e w' => e = .returned (.agg #[.string (strOfNums (rowSeq s (b - a).toNat a ([], 0)).1), .int .i64 (rowSeq s (b - a).toNat a ([], 0)).2]) ∧ Below w.heap.size w w' := by
  have hu := Try.underlying27
  have hu2 := Try.underlying116
  have HS := Aside0.mk (start3 w (.cells #[.string s, .int .i64 n] 27) (.cells #[.string ⟨#[]⟩, .int .i64 0] 27) (.cells #[.slice none 0 0, .int .i64 0] 116))
  go_enter Try.func99, Try.ntmps99
  go_wp2
  go_loopw [8] (fun i wr => ∃ (c : Nat) (st : List Int × Int), i = .int .i64 (a + c) ∧ Aside0 (rowSeq s ((b - a).toNat - c) (a + c) st = rowSeq s (b - a).toNat a ([], 0)) ∧ Aside0 (RowIs wr (w.heap.size + 2) (w.heap.size + 2) st.1 st.2) ∧ Aside0 (st.2 = c) ∧ Aside0 ((st.1.length : Int) = (st.2 + 7) / 8) ∧ c ≤ (b - a).toNat ∧ Aside0 (wr.heap[w.heap.size]? = some (.cells #[.string s, .int .i64 n] 27 (0, 0))) ∧ Aside0 (wr.heap[w.heap.size + 1]? = some (.cells #[.string ⟨#[]⟩, .int .i64 0] 27 (0, 0))) ∧ Aside0 (Below w.heap.size w wr))
    (fun i wr => (b - intOf i).toNat)
  case atStart => exact ⟨0, ([], 0), by go_num, ⟨by simp⟩, ⟨⟨_, HS.out.2.2.1, OwnB.nil _ _, Nat.le_refl _⟩⟩, ⟨rfl⟩, ⟨rfl⟩, Nat.zero_le _, ⟨HS.out.1⟩, ⟨HS.out.2.1⟩, ⟨HS.out.2.2.2.1⟩⟩
  case round =>
    obtain ⟨c, ⟨bs, m⟩, rfl, HSEQ, HROW, HM, HLEN, hc, HA, HR, HB⟩ := hrel
    have hm : Aside0 (m = c) := HM
    obtain ⟨a0, a1, g0, g1⟩ := two_cells HA.out
    obtain ⟨c0, c1, f0, f1⟩ := two_cells HR.out
    by_cases hlt : a + c < b
    · have HBIT := Aside0.mk (bit_some s n (a + c) (by omega) (by omega) (by omega))
      have hc2 : (c : Int) < 1073741824 := by omega
      go_wp2_with (first | (go_at_call 100; ((with_reducible refine (bits_bit.calls s n (a + c) (bitOf s (a + c)) _ HBIT.out).mono ?_); rintro e w2 ⟨rfl, hb3⟩); have HROW2 := Aside0.mk (HROW.out.below hb3); have HBB := Aside0.mk hb3; clear hb3) | (go_at_call 89; ((with_reducible refine (row_put1 _ (w.heap.size + 2) (w.heap.size + 2) bs m (bitOf s (a + c)) HROW2.out ?e1 ?e2 ?e3 ?e4).mono ?_); (case e1 => rw [hm.out]; omega); (case e2 => exact HLEN.out); (case e3 => rw [hm.out]; omega); (case e4 => exact Nat.le_trans (by have := blk_lt HR.out; omega) HBB.out.size); rintro e w3 ⟨rfl, hrow3, hb3⟩); have HROW3 := Aside0.mk hrow3; have HB3 := Aside0.mk hb3; clear hrow3 hb3))
      go_roundw
      case rel =>
        refine ⟨c + 1, rowPut 1 (bs, m) (bitOf s (a + c)), by go_num, ⟨?_⟩, ⟨HROW3.out⟩, ⟨?_⟩, ⟨rowPut1_len (bs, m) _ (by rw [hm.out]; omega) HLEN.out⟩, by omega, ⟨keep2 (keep2 HA.out HBB.out (blk_lt HA.out)) HB3.out (by omega)⟩, ⟨keep2 (keep2 HR.out HBB.out (blk_lt HR.out)) HB3.out (by omega)⟩, ⟨(HB.out.trans (HBB.out.mono HB.out.size)).trans (HB3.out.mono (by omega))⟩⟩
        · rw [← HSEQ.out, show (b - a).toNat - c = ((b - a).toNat - (c + 1)) + 1 by omega, rowSeq, show a + ((c + 1 : Nat) : Int) = a + c + 1 by omega]
        · rw [rowPut_snd, hm.out]; rfl
      case measure => simp [intOf]; omega
    · have hcc : c = (b - a).toNat := by omega
      have HE : Aside0 ((bs, m) = rowSeq s (b - a).toNat a ([], 0)) := ⟨by
        have := HSEQ.out
        rw [hcc, Nat.sub_self, rowSeq] at this
        exact this⟩
      clear hcc
      obtain ⟨sv, hblk, hown, hp⟩ := HROW.out
      obtain ⟨b0, b1, k0, k1⟩ := two_cells hblk
      have hst := hown.drew.str
      clear hblk hown hp
      go_wp2
      go_region
      go_wp2
      refine bodyPost_ret (results_cell_row rfl _ _ (w.heap.size + 1) 27 #[.string (strOfNums bs), .int .i64 m] (0, 0) _ rfl (put2 HR.out) Try.underlying27 rfl (by kernel_rfl)) rfl ⟨by rw [← HE.out], below_drew0 (below_put2 HB.out (by omega) _ _)⟩
/-- So many bits of a text from a place on. -/
def partK (s : ByteArray) : Nat → Int → List Int
  | 0, _ => []
  | k + 1, i => bitOf s i :: partK s k (i + 1)
theorem partK_length (s : ByteArray) (k : Nat) : ∀ i, (partK s k i).length = k := by
  induction k with
  | zero => intro i; rfl
  | succ k ih => intro i; simp [partK, ih]
theorem putL_one (b : Int) (h : b = 0 ∨ b = 1) : putL 1 b = [b] := by rcases h with rfl | rfl <;> rfl
theorem rowSeq_pack (s : ByteArray) (k : Nat) : ∀ (i : Int) (l : List Int), IsBits l → rowSeq s k i (packL l, (l.length : Int)) = (packL (l ++ partK s k i), ((l ++ partK s k i).length : Int)) := by
  induction k with
  | zero => intro i l _; simp [rowSeq, partK]
  | succ k ih =>
    intro i l hl
    have hb := bitOf_bit s i
    rw [rowSeq, rowPut_pack 1 _ (by omega) (by omega) l hl, putL_one _ hb, ih (i + 1) _ (hl.append (fun x hx => by rw [List.mem_singleton.1 hx]; exact hb))]
    simp [partK]
/-- bits.Part. -/
def bits_Part.f (s : ByteArray) (n a b : Int) : Option (ByteArray × Int) :=
  if 0 ≤ a ∧ b ≤ 8 * s.size ∧ b ≤ 1073741824 then some (packS (partK s (b - a).toNat a), ((b - a).toNat : Int)) else none
theorem bits_Part.calls (a0_0 : ByteArray) (a0_1 a1 a2 : Int) (r1 : ByteArray) (r2 : Int) (w : World) (h : bits_Part.f a0_0 a0_1 a1 a2 = some (r1, r2)) :
    Calls Try.prog 99 #[.agg #[.string a0_0, .int .i64 a0_1], .int .i64 a1, .int .i64 a2] w fun e w' => e = .returned (.agg #[.string r1, .int .i64 r2]) ∧ Below w.heap.size w w' := by
  unfold bits_Part.f at h
  by_cases hc : 0 ≤ a1 ∧ a2 ≤ 8 * a0_0.size ∧ a2 ≤ 1073741824
  · rw [if_pos hc] at h
    simp only [Option.some.injEq, Prod.mk.injEq] at h
    obtain ⟨rfl, rfl⟩ := h
    have e := part_walk a0_0 a0_1 a1 a2 w hc.1 hc.2.1 hc.2.2
    have hp := rowSeq_pack a0_0 (a2 - a1).toNat a1 [] IsBits.nil
    have h0 : packL [] = [] := rfl
    rw [h0] at hp
    simp only [List.length_nil, List.nil_append, partK_length] at hp
    have hp' : rowSeq a0_0 (a2 - a1).toNat a1 ([], 0) = (packL (partK a0_0 (a2 - a1).toNat a1), (((a2 - a1).toNat : Nat) : Int)) := hp
    rw [hp'] at e
    exact e
  · rw [if_neg hc] at h
    cases h
end Go.Proofs.Ytnpghcikhpglkaa.Q
