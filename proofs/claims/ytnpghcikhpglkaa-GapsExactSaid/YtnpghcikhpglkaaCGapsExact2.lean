/- What the row of GapsExact rests on, part 3 of 7: functions, contracts, plain laws. -/
import Derived.Test.YtnpghcikhpglkaaCGapsExact1
import Derived.Below
import Derived.Deep.Draws
import Derived.Deep.AppendLies
import Derived.Maps.AppendAt
import Derived.OwnWalk
import Derived.Laws.BytesArg
import Derived.Laws.MakeOwn
import Derived.Laws.OwnMore
import Derived.Deep.OwnRows
import Derived.Tactics
import Derived.Lib.ConvBytes
import Derived.Laws.Slices
import Derived.WalkKit
import Derived.KernelRfl
import Derived.RowKit3
import Derived.Deep.LoopGhost
import Derived.Deep.QuietTactic
import Derived.BigQuiet
import Derived.WideLaws
import Derived.Deep.DeepCutAuto
import Derived.Deep.CutBlock
import Derived.Deep.RegionHeld3
import Derived.Laws.Rows
import Derived.Lib.AppendStr
import Derived.ArgAppend
import Derived.Laws.IdiomCopy
import Derived.OrdersHeld
import Derived.Laws.BitsLemmas
import Derived.RowKit
import Derived.Deep.Slices
import Derived.Deep.Fields
import Derived.ChangeSame
import Derived.ProofKit
import Derived.OpenShut
import Derived.ShutString
import Derived.ChangeOld
import Derived.SizedLaws
import Derived.ChangeSlices
import Derived.Carry
namespace Go.Proofs.Ytnpghcikhpglkaa.Q
open Go.RowKit Go.Proofs.YtnpghcikhpglkaaW.PrintWords Go.Proofs.YtnpghcikhpglkaaW.PrintLast Go.Proofs.YtnpghcikhpglkaaW.PrintMore
attribute [local go_sem] max2_int min2_int max_two min_two max_three min_three max_four min_four   -- for this text's walks alone
set_option linter.unusedVariables false
set_option linter.unusedSimpArgs false
def errW : Option Int → Value
  | none => .nilIface
  | some c => .iface 0 (.int .i64 c)
theorem errW_none : errW none = .nilIface := rfl
theorem errW_some (c : Int) : errW (some c) = .iface 0 (.int .i64 c) := rfl
theorem info3 : (Try.prog.info? 3).map (fun i => (i.zero, i.size, i.bytes)) = some (some (.int .i64 0), 1, 8) := by kernel_rfl
theorem info5 : (Try.prog.info? 5).map (fun i => (i.zero, i.size, i.bytes)) = some (some (.int .u8 0), 1, 1) := by kernel_rfl
theorem info23 : (Try.prog.info? 23).map (fun i => (i.zero, i.size, i.bytes)) = some (some (.slice none 0 0), 1, 24) := by kernel_rfl
theorem info27 : (Try.prog.info? 27).map (fun i => (i.zero, i.size, i.bytes)) = some (some (.agg #[(.string ⟨#[]⟩), (.int .i64 0)]), 2, 24) := by kernel_rfl
theorem info64 : (Try.prog.info? 64).map (fun i => (i.zero, i.size, i.bytes)) = some (some (.slice none 0 0), 1, 24) := by kernel_rfl
-- the values' own types
/-! #### struct type 41 -/
/-! #### struct type 27 -/
structure S27 where
  f0 : ByteArray
  f1 : Int
def z27 : S27 := ⟨(⟨#[]⟩ : ByteArray), (0 : Int)⟩
def k27 : Kd S27 := Kd.iso (Kd.pair Kd.string (Kd.int .i64)) (fun x : S27 => (x.f0, x.f1))
theorem k27_open {w : World} {x : S27} {cs : List Value} (h : k27.K w x cs) : cs = [.string x.f0, .int .i64 x.f1] := by
  obtain ⟨_, _, rfl, rfl, rfl⟩ := h
  exact rfl
theorem k27_mkM (w : World) (base : Nat) (ok : Nat → Prop) (x : S27)  : k27.M w base ok x [.string x.f0, .int .i64 x.f1] := ⟨[.string x.f0], [.int .i64 x.f1], rfl, rfl, rfl⟩
def rd_T27 (xs : List S27) (i : Int) : S27 := xs.getD i.toNat z27
theorem at_T27 {w : World} {A : Option Addr} {n : Nat} {xs : List S27} (h : Kd.C k27 w A n xs) (i : Int) (h0 : 0 ≤ i) (h1 : i < n) : ∃ ad , A = some ad ∧ w.cell? (ad.add (i.toNat * 2)) = some (.string (rd_T27 xs i).f0) ∧ w.cell? ⟨(ad.add (i.toNat * 2)).block, (ad.add (i.toNat * 2)).off + 1, none⟩ = some (.int .i64 (rd_T27 xs i).f1) := by
  obtain ⟨ad, c, e, _, hK, hc0⟩ := Kd.C_get h z27 i h0 h1
  have hc : ∀ j u, c[j]? = some u → w.cell? (ad.add (i.toNat * 2 + j)) = some u := hc0
  obtain rfl := k27_open hK
  exact ⟨ad, e, hc 0 _ rfl, by rw [← add_field _ _ 1 (by omega)]; exact hc 1 _ rfl⟩
def rd_L7 (xs : List (List Int)) (i : Int) : (List Int) := xs.getD i.toNat ([] : List Int)
theorem at_L7 {w : World} {A : Option Addr} {n : Nat} {xs : List (List Int)} (h : Kd.C (Kd.slice 3 (Kd.int .i64)) w A n xs) (i : Int) (h0 : 0 ≤ i) (h1 : i < n) : ∃ ad A0 c0, A = some ad ∧ w.cell? (ad.add i.toNat) = some (.slice A0 (rd_L7 xs i).length c0) ∧ (rd_L7 xs i).length ≤ c0 ∧ (Kd.int .i64).C w A0 (rd_L7 xs i).length (rd_L7 xs i) := by
  obtain ⟨ad, c, e, _, hK, hc0⟩ := Kd.C_get h ([] : List Int) i h0 h1
  have hc : ∀ j u, c[j]? = some u → w.cell? (ad.add (i.toNat * 1 + j)) = some u := hc0
  obtain ⟨A0, c0, rfl, l0, g0⟩ := hK
  exact ⟨ad, A0, c0, e, by have hq := hc 0 _ rfl; rwa [Nat.mul_one, Nat.add_zero] at hq, l0, g0⟩
def rd_L8 (xs : List (List Int)) (i : Int) : (List Int) := xs.getD i.toNat ([] : List Int)
theorem at_L8 {w : World} {A : Option Addr} {n : Nat} {xs : List (List Int)} (h : Kd.C (Kd.slice 5 (Kd.int .u8)) w A n xs) (i : Int) (h0 : 0 ≤ i) (h1 : i < n) : ∃ ad A0 c0, A = some ad ∧ w.cell? (ad.add i.toNat) = some (.slice A0 (rd_L8 xs i).length c0) ∧ (rd_L8 xs i).length ≤ c0 ∧ (Kd.int .u8).C w A0 (rd_L8 xs i).length (rd_L8 xs i) := by
  obtain ⟨ad, c, e, _, hK, hc0⟩ := Kd.C_get h ([] : List Int) i h0 h1
  have hc : ∀ j u, c[j]? = some u → w.cell? (ad.add (i.toNat * 1 + j)) = some u := hc0
  obtain ⟨A0, c0, rfl, l0, g0⟩ := hK
  exact ⟨ad, A0, c0, e, by have hq := hc 0 _ rfl; rwa [Nat.mul_one, Nat.add_zero] at hq, l0, g0⟩
end Go.Proofs.Ytnpghcikhpglkaa.Q
namespace Go.Proofs.Ytnpghcikhpglkaa.Op
open Go.ChangeShapes Go.WideShapes Go.ChangeAt Go.RowKit Go.Deep Go.Proofs.YtnpghcikhpglkaaW.PrintWords Go.Proofs.Ytnpghcikhpglkaa.Q
set_option linter.unusedVariables false
/-- What can be read at the type t is of the kind d; and, where it weighs no more than the reach, G holds of it. -/
def Opens {α : Type} (P : Program) (t : TypeId) (d : Kd α) (G : α → Prop) : Prop :=
  ∀ (H : Type) (enc : TypeId × Value → H) (w : World) (fuel : Nat) (cs : List Value) (x : DataW H × List MemPlace),
    DataW.trod enc P w 0 (fun _ => true) true fuel t cs = some x → ∃ y, d.K w y cs ∧ ((∀ n ∈ x.1.weights P t, n ≤ reachBytes) → G y)
theorem opens_int {P : Program} {t : TypeId} {k : IntKind} (ht : P.underlying t = some (.int k)) : Opens P t (Kd.int k) (fun n => (Lit.int k n).wf = true) := by
  intro H enc w fuel cs x h
  obtain ⟨n, rfl, _, hw⟩ := DataW.trod_int ht h
  exact ⟨n, rfl, fun _ => hw⟩
theorem opens_string {P : Program} {t : TypeId} (ht : P.underlying t = some .string) : Opens P t Kd.string (fun s => s.size ≤ reachBytes) := by
  intro H enc w fuel cs x h
  obtain ⟨s, rfl, rfl, _⟩ := DataW.trod_string ht h
  refine ⟨s, rfl, fun hw => ?_⟩
  have := hw s.data.toList.length (by simp [DataW.weights])
  simpa using this
theorem mem_weightsAll {H : Type} {P : Program} {e : TypeId} {d : DataW H} {n : Nat} (hn : n ∈ d.weights P e) : ∀ l : List (DataW H), d ∈ l → n ∈ DataW.weightsAll P e l
  | [], h => by cases h
  | x :: r, h => by
    rw [DataW.weightsAll]
    rcases List.mem_cons.1 h with rfl | h
    · exact List.mem_append_left _ hn
    · exact List.mem_append_right _ (mem_weightsAll hn r h)
theorem opens_slice {α : Type} {P : Program} {t e : TypeId} {d : Kd α} {G : α → Prop} {B : Nat} (ht : P.underlying t = some (.slice e)) (hc : P.cellsOf e = d.sz) (hB : P.bytesOf e = B) (he : Opens P e d G) :
    Opens P t (Kd.slice e d) (fun l => l.length * B ≤ reachBytes ∧ ∀ y ∈ l, G y) := by
  intro H enc w fuel cs x h
  rcases open_slice ht h with ⟨rfl, rfl⟩ | ⟨a, len, cap, m, n, D, Pl, rfl, _, hl, hm, hmm, rfl, hi⟩
  · refine ⟨[], ⟨none, 0, rfl, Nat.le_refl _, rfl, by simp, fun h => absurd h (by simp)⟩, fun _ => ⟨by simp, fun y hy => by cases hy⟩⟩
  · have hmc : m = cap := by simpa using hmm
    have hex : ∀ i, i < len → ∃ z : α × List Value, d.K w z.1 z.2 ∧ w.cells? 0 (a.add (i * P.cellsOf e)) (P.cellsOf e) = some z.2 ∧ ((∀ n ∈ (D i).weights P e, n ≤ reachBytes) → G z.1) := by
      intro i hil
      obtain ⟨cs', h1, h2⟩ := hi i (by omega)
      obtain ⟨y, hy, hg⟩ := he H enc w n cs' _ h2
      exact ⟨(y, cs'), hy, h1, hg⟩
    rcases Nat.eq_zero_or_pos len with h0 | h0
    · subst h0
      refine ⟨[], ⟨some a, cap, rfl, Nat.zero_le _, rfl, by simp, fun h => absurd h (by simp)⟩, fun _ => ⟨by simp, fun y hy => by cases hy⟩⟩
    · obtain ⟨z0, _⟩ := hex 0 h0
      haveI : Inhabited (α × List Value) := ⟨z0⟩
      obtain ⟨f, hf⟩ := choose_lt hex
      refine ⟨(List.range len).map fun i => (f i).1, ⟨some a, cap, by simp, by simpa using hl, by simp, by simp only [List.length_map, List.length_range, maxLen] at *; omega, fun _ => ⟨a, rfl, fun j p hj => ?_⟩⟩, fun hw => ⟨?_, fun y hy => ?_⟩⟩
      · have hjl : j < len := by
          have := (List.getElem?_eq_some_iff.1 hj).1
          simpa using this
        obtain ⟨hk, hcl, _⟩ := hf j hjl
        have hp : p = (f j).1 := by
          rw [List.getElem?_map, List.getElem?_range hjl] at hj
          simpa using hj.symm
        subst hp
        obtain ⟨_, hlen, hat⟩ := World.cells?_some hcl
        refine ⟨(f j).2, by rw [hlen, hc], hk, fun i u hu => ?_⟩
        have hil : i < P.cellsOf e := by have := (List.getElem?_eq_some_iff.1 hu).1; omega
        have := hat i hil
        rw [Go.Deep.add_add] at this
        rw [← hc, this, hu]
      · have := hw ((((List.range len).map D).length + ((List.range (m - len)).map fun j => D (len + j)).length) * P.bytesOf e) (by simp [DataW.weights, ht])
        simp only [List.length_map, List.length_range] at this ⊢
        rw [hB] at this
        exact Nat.le_trans (Nat.mul_le_mul_right _ (by omega)) this
      · obtain ⟨i, hil, rfl⟩ := List.mem_map.1 hy
        have hil' : i < len := List.mem_range.1 hil
        obtain ⟨_, _, hg⟩ := hf i hil'
        refine hg fun q hq => hw q ?_
        rw [DataW.weights, ht]
        refine List.mem_cons_of_mem _ (List.mem_append_left _ (mem_weightsAll hq _ (List.mem_map.2 ⟨i, hil, rfl⟩)))
theorem opens_iso {α β : Type} {P : Program} {t : TypeId} {d : Kd α} {G : α → Prop} (f : β → α) (g : α → β) (hfg : ∀ x, f (g x) = x) (h : Opens P t d G) : Opens P t (Kd.iso d f) (fun y => G (f y)) := by
  intro H enc w fuel cs x hx
  obtain ⟨y, hy, hg⟩ := h H enc w fuel cs x hx
  exact ⟨g y, by show d.K w (f (g y)) cs; rw [hfg]; exact hy, fun hw => by show G (f (g y)); rw [hfg]; exact hg hw⟩
theorem opens_two {α β : Type} {P : Program} {t : TypeId} {f0 f1 : Field} {d0 : Kd α} {d1 : Kd β} {G0 : α → Prop} {G1 : β → Prop} (ht : P.underlying t = some (.struct #[f0, f1]))
    (hc : P.cellsOf t = d0.sz + d1.sz) (o0 : f0.offset = 0) (o1 : f1.offset = d0.sz) (c0 : P.cellsOf f0.type = d0.sz) (c1 : P.cellsOf f1.type = d1.sz)
    (h0 : Opens P f0.type d0 G0) (h1 : Opens P f1.type d1 G1) : Opens P t (Kd.pair d0 d1) (fun y => G0 y.1 ∧ G1 y.2) := by
  intro H enc w fuel cs x h
  obtain ⟨xs, n, _, rfl, hlen, hxl, hf⟩ := DataW.trod_struct ht h
  match xs, hxl with
  | [x0, x1], _ =>
    have e0 := hf 0 f0 rfl
    have e1 := hf 1 f1 rfl
    rw [o0, c0] at e0
    rw [o1, c1] at e1
    obtain ⟨y0, k0, g0⟩ := h0 H enc w n _ _ e0
    obtain ⟨y1, k1, g1⟩ := h1 H enc w n _ _ e1
    refine ⟨(y0, y1), ⟨_, _, ?_, k0, k1⟩, fun hw => ⟨g0 fun q hq => hw q ?_, g1 fun q hq => hw q ?_⟩⟩
    · rw [List.drop_zero, List.take_of_length_le (l := cs.drop d0.sz) (by rw [List.length_drop]; omega), List.take_append_drop]
    · simp [DataW.weights, ht, DataW.weightsEach, hq]
    · simp [DataW.weights, ht, DataW.weightsEach, hq]
theorem opens_three {α β γ : Type} {P : Program} {t : TypeId} {f0 f1 f2 : Field} {d0 : Kd α} {d1 : Kd β} {d2 : Kd γ} {G0 : α → Prop} {G1 : β → Prop} {G2 : γ → Prop} (ht : P.underlying t = some (.struct #[f0, f1, f2]))
    (hc : P.cellsOf t = d0.sz + (d1.sz + d2.sz)) (o0 : f0.offset = 0) (o1 : f1.offset = d0.sz) (o2 : f2.offset = d0.sz + d1.sz) (c0 : P.cellsOf f0.type = d0.sz) (c1 : P.cellsOf f1.type = d1.sz) (c2 : P.cellsOf f2.type = d2.sz)
    (h0 : Opens P f0.type d0 G0) (h1 : Opens P f1.type d1 G1) (h2 : Opens P f2.type d2 G2) : Opens P t (Kd.pair d0 (Kd.pair d1 d2)) (fun y => G0 y.1 ∧ G1 y.2.1 ∧ G2 y.2.2) := by
  intro H enc w fuel cs x h
  obtain ⟨xs, n, _, rfl, hlen, hxl, hf⟩ := DataW.trod_struct ht h
  match xs, hxl with
  | [x0, x1, x2], _ =>
    have e0 := hf 0 f0 rfl
    have e1 := hf 1 f1 rfl
    have e2 := hf 2 f2 rfl
    rw [o0, c0] at e0
    rw [o1, c1] at e1
    rw [o2, c2] at e2
    obtain ⟨y0, k0, g0⟩ := h0 H enc w n _ _ e0
    obtain ⟨y1, k1, g1⟩ := h1 H enc w n _ _ e1
    obtain ⟨y2, k2, g2⟩ := h2 H enc w n _ _ e2
    refine ⟨(y0, y1, y2), ⟨_, _, ?_, k0, _, _, rfl, k1, k2⟩, fun hw => ⟨g0 fun q hq => hw q ?_, g1 fun q hq => hw q ?_, g2 fun q hq => hw q ?_⟩⟩
    · rw [List.drop_zero, List.take_of_length_le (l := cs.drop (d0.sz + d1.sz)) (by rw [List.length_drop]; omega), ← List.drop_drop, List.take_append_drop, List.take_append_drop]
    · simp [DataW.weights, ht, DataW.weightsEach, hq]
    · simp [DataW.weights, ht, DataW.weightsEach, hq]
    · simp [DataW.weights, ht, DataW.weightsEach, hq]
/-! ### the three arguments of the laws -/
theorem opens27 : Opens Try.prog 27 k27 (fun b => b.f0.size ≤ reachBytes ∧ (Lit.int .i64 b.f1).wf = true) :=
  opens_iso (fun x : S27 => (x.f0, x.f1)) (fun x => ⟨x.1, x.2⟩) (fun _ => rfl)
    (opens_two Try.underlying27 (by kernel_rfl) rfl rfl (by kernel_rfl) (by kernel_rfl) (opens_string Try.underlying9) (opens_int Try.underlying3))
theorem opens23 : Opens Try.prog 23 (Kd.slice 3 (Kd.int .i64)) (fun l => l.length * 8 ≤ reachBytes ∧ ∀ y ∈ l, (Lit.int .i64 y).wf = true) :=
  opens_slice Try.underlying23 (by kernel_rfl) (by kernel_rfl) (opens_int Try.underlying3)
theorem opens22 : Opens Try.prog 22 (Kd.slice 27 k27) (fun l => l.length * 24 ≤ reachBytes ∧ ∀ y ∈ l, y.f0.size ≤ reachBytes ∧ (Lit.int .i64 y.f1).wf = true) :=
  opens_slice Try.underlying22 (by kernel_rfl) (by kernel_rfl) opens27
/-- What is known of the numbers of an argument; of its bits; of its places; of its lists. -/
def GoodN (l : List Int) : Prop := l.length * 8 ≤ reachBytes ∧ ∀ y ∈ l, (Lit.int .i64 y).wf = true
def GoodB (l : List S27) : Prop := l.length * 24 ≤ reachBytes ∧ ∀ y ∈ l, y.f0.size ≤ reachBytes ∧ (Lit.int .i64 y.f1).wf = true
def GoodI (l : List (List Int)) : Prop := l.length * 24 ≤ reachBytes ∧ ∀ z ∈ l, GoodN z
end Go.Proofs.Ytnpghcikhpglkaa.Op
namespace Go.Proofs.Ytnpghcikhpglkaa.Op
open Go.ChangeShapes Go.WideShapes Go.ChangeAt Go.RowKit Go.Deep Go.Proofs.YtnpghcikhpglkaaW.PrintWords Go.Proofs.Ytnpghcikhpglkaa.Q
set_option linter.unusedVariables false
theorem opens76 : Opens Try.prog 76 (Kd.slice 23 (Kd.slice 3 (Kd.int .i64))) (fun l => l.length * 24 ≤ reachBytes ∧ ∀ z ∈ l, z.length * 8 ≤ reachBytes ∧ ∀ y ∈ z, (Lit.int .i64 y).wf = true) :=
  opens_slice Try.underlying76 (by kernel_rfl) (by kernel_rfl) opens23
theorem opens78 : Opens Try.prog 78 (Kd.pair (Kd.slice 23 (Kd.slice 3 (Kd.int .i64))) (Kd.pair (Kd.slice 27 k27) (Kd.slice 3 (Kd.int .i64)))) (fun y => GoodI y.1 ∧ GoodB y.2.1 ∧ GoodN y.2.2) :=
  opens_three Try.underlying78 (by kernel_rfl) rfl rfl rfl (by kernel_rfl) (by kernel_rfl) (by kernel_rfl) opens76 opens22 opens23
set_option maxRecDepth 100000 in
theorem ask3 {H : Type} {enc : TypeId × Value → H} {w : World} {v : Value} {d : DataW H} {p : List MemPlace} {base : Nat} (hv : Value.okWide Try.prog w .any base 78 v) (h : DataW.Trod enc Try.prog w 0 (fun _ => true) true 78 v d p)
    (hs : ∀ n ∈ d.weights Try.prog 78, n ≤ reachBytes) :
    ∃ (A0 : Option Addr) (c0 : Nat) (l0 : List (List Int)) (A1 : Option Addr) (c1 : Nat) (l1 : List S27) (A2 : Option Addr) (c2 : Nat) (l2 : List Int),
      v = .agg #[.slice A0 l0.length c0, .slice A1 l1.length c1, .slice A2 l2.length c2] ∧
      Kd.C (Kd.slice 3 (Kd.int .i64)) w A0 l0.length l0 ∧ l0.length ≤ c0 ∧ Kd.C k27 w A1 l1.length l1 ∧ l1.length ≤ c1 ∧ Kd.C (Kd.int .i64) w A2 l2.length l2 ∧ l2.length ≤ c2 ∧
      GoodI l0 ∧ GoodB l1 ∧ GoodN l2 := by
  obtain ⟨cs, rfl, hsz⟩ := okWide_struct Try.underlying78 hv
  obtain ⟨fuel, hf⟩ := h
  obtain ⟨⟨l0, l1, l2⟩, ⟨_, _, hc, ⟨A0, c0, rfl, hl0, hr0⟩, _, _, rfl, ⟨A1, c1, rfl, hl1, hr1⟩, ⟨A2, c2, rfl, hl2, hr2⟩⟩, hg⟩ := opens78 H enc w fuel _ _ hf
  obtain ⟨g0, g1, g2⟩ := hg hs
  refine ⟨A0, c0, l0, A1, c1, l1, A2, c2, l2, ?_, hr0, hl0, hr1, hl1, hr2, hl2, g0, g1, g2⟩
  have : cs.toList = [.slice A0 l0.length c0, .slice A1 l1.length c1, .slice A2 l2.length c2] := by simpa [Value.cells] using hc
  rw [← this]
end Go.Proofs.Ytnpghcikhpglkaa.Op
namespace Go.Proofs.Ytnpghcikhpglkaa.Fa
def headCodes : List Nat := [104, 97, 114, 110, 101, 115, 115, 32, 49, 97, 56, 50, 102, 57, 48, 102, 57, 101, 102, 102, 56, 57, 97, 97, 50, 57, 99, 56, 56, 57, 101, 56, 48, 54, 97, 55, 49, 98, 51, 99, 97, 49, 57, 102, 53, 55, 57, 48, 56, 50, 98, 48, 49, 50, 99, 51, 49, 51, 48, 50, 98, 97, 49, 102, 99, 98, 97, 50, 98, 52, 98, 49, 32, 99, 117, 116, 32, 97, 116, 32, 104, 101, 114, 98, 97, 114, 105, 117, 109, 47, 104, 101, 114, 98, 97, 114, 105, 117, 109, 108, 97, 119, 49, 46, 66, 105, 116, 115, 87, 105, 100, 101, 32, 104, 101, 114, 98, 97, 114, 105, 117, 109, 47, 104, 101, 114, 98, 97, 114, 105, 117, 109, 108, 97, 119, 49, 51, 46, 83, 112, 97, 99, 101, 82, 111, 119, 115, 32, 104, 101, 114, 98, 97, 114, 105, 117, 109, 47, 104, 101, 114, 98, 97, 114, 105, 117, 109, 108, 97, 119, 49, 51, 46, 83, 112, 97, 99, 101, 78, 101, 101, 100, 115, 32, 104, 101, 114, 98, 97, 114, 105, 117, 109, 47, 104, 101, 114, 98, 97, 114, 105, 117, 109, 108, 97, 119, 49, 46, 66, 105, 116, 115, 90, 101, 114, 111, 115, 32, 104, 101, 114, 98, 97, 114, 105, 117, 109, 47, 104, 101, 114, 98, 97, 114, 105, 117, 109, 108, 97, 119, 49, 51, 46, 83, 112, 97, 99, 101, 65, 112, 97, 114, 116, 32, 104, 101, 114, 98, 97, 114, 105, 117, 109, 47, 104, 101, 114, 98, 97, 114, 105, 117, 109, 108, 97, 119, 49, 46, 66, 105, 116, 115, 66, 97, 99, 107, 32, 104, 101, 114, 98, 97, 114, 105, 117, 109, 47, 104, 101, 114, 98, 97, 114, 105, 117, 109, 108, 97, 119, 49, 51, 46, 83, 112, 97, 99, 101, 70, 105, 110, 100, 115, 32, 104, 101, 114, 98, 97, 114, 105, 117, 109, 47, 104, 101, 114, 98, 97, 114, 105, 117, 109, 108, 97, 119, 49, 46, 66, 105, 116, 115, 69, 120, 97, 99, 116, 32, 104, 101, 114, 98, 97, 114, 105, 117, 109, 47, 104, 101, 114, 98, 97, 114, 105, 117, 109, 108, 97, 119, 50, 46, 67, 111, 100, 101, 67, 117, 116, 115, 32, 104, 101, 114, 98, 97, 114, 105, 117, 109, 47, 104, 101, 114, 98, 97, 114, 105, 117, 109, 108, 97, 119, 50, 46, 67, 111, 100, 101, 65, 110, 121, 32, 104, 101, 114, 98, 97, 114, 105, 117, 109, 47, 104, 101, 114, 98, 97, 114, 105, 117, 109, 108, 97, 119, 50, 46, 67, 111, 100, 101, 66, 97, 99, 107, 32, 104, 101, 114, 98, 97, 114, 105, 117, 109, 47, 104, 101, 114, 98, 97, 114, 105, 117, 109, 108, 97, 119, 50, 46, 67, 111, 100, 101, 85, 110, 97, 114, 121, 32, 104, 101, 114, 98, 97, 114, 105, 117, 109, 47, 104, 101, 114, 98, 97, 114, 105, 117, 109, 108, 97, 119, 50, 46, 67, 111, 100, 101, 71, 97, 109, 109, 97, 32, 104, 101, 114, 98, 97, 114, 105, 117, 109, 47, 104, 101, 114, 98, 97, 114, 105, 117, 109, 108, 97, 119, 50, 46, 67, 111, 100, 101, 68, 101, 108, 116, 97, 32, 104, 101, 114, 98, 97, 114, 105, 117, 109, 47, 104, 101, 114, 98, 97, 114, 105, 117, 109, 108, 97, 119, 50, 46, 67, 111, 100, 101, 90, 101, 116, 97, 84, 119, 111, 32, 104, 101, 114, 98, 97, 114, 105, 117, 109, 47, 104, 101, 114, 98, 97, 114, 105, 117, 109, 108, 97, 119, 50, 46, 67, 111, 100, 101, 90, 101, 116, 97, 84, 104, 114, 101, 101, 32, 104, 101, 114, 98, 97, 114, 105, 117, 109, 47, 104, 101, 114, 98, 97, 114, 105, 117, 109, 108, 97, 119, 50, 46, 67, 111, 100, 101, 83, 109, 97, 108, 108, 32, 104, 101, 114, 98, 97, 114, 105, 117, 109, 47, 104, 101, 114, 98, 97, 114, 105, 117, 109, 108, 97, 119, 50, 46, 67, 111, 100, 101, 90, 105, 103, 115, 32, 104, 101, 114, 98, 97, 114, 105, 117, 109, 47, 104, 101, 114, 98, 97, 114, 105, 117, 109, 108, 97, 119, 51, 46, 71, 97, 112, 115, 66, 97, 99, 107, 32, 104, 101, 114, 98, 97, 114, 105, 117, 109, 47, 104, 101, 114, 98, 97, 114, 105, 117, 109, 108, 97, 119, 51, 46, 71, 97, 112, 115, 65, 108, 108, 32, 104, 101, 114, 98, 97, 114, 105, 117, 109, 47, 104, 101, 114, 98, 97, 114, 105, 117, 109, 108, 97, 119, 51, 46, 71, 97, 112, 115, 69, 120, 97, 99, 116]
def restCodes : List (List Nat) := [[99, 117, 116], [97, 116], [104, 101, 114, 98, 97, 114, 105, 117, 109, 47, 104, 101, 114, 98, 97, 114, 105, 117, 109, 108, 97, 119, 49, 46, 66, 105, 116, 115, 87, 105, 100, 101], [104, 101, 114, 98, 97, 114, 105, 117, 109, 47, 104, 101, 114, 98, 97, 114, 105, 117, 109, 108, 97, 119, 49, 51, 46, 83, 112, 97, 99, 101, 82, 111, 119, 115], [104, 101, 114, 98, 97, 114, 105, 117, 109, 47, 104, 101, 114, 98, 97, 114, 105, 117, 109, 108, 97, 119, 49, 51, 46, 83, 112, 97, 99, 101, 78, 101, 101, 100, 115], [104, 101, 114, 98, 97, 114, 105, 117, 109, 47, 104, 101, 114, 98, 97, 114, 105, 117, 109, 108, 97, 119, 49, 46, 66, 105, 116, 115, 90, 101, 114, 111, 115], [104, 101, 114, 98, 97, 114, 105, 117, 109, 47, 104, 101, 114, 98, 97, 114, 105, 117, 109, 108, 97, 119, 49, 51, 46, 83, 112, 97, 99, 101, 65, 112, 97, 114, 116], [104, 101, 114, 98, 97, 114, 105, 117, 109, 47, 104, 101, 114, 98, 97, 114, 105, 117, 109, 108, 97, 119, 49, 46, 66, 105, 116, 115, 66, 97, 99, 107], [104, 101, 114, 98, 97, 114, 105, 117, 109, 47, 104, 101, 114, 98, 97, 114, 105, 117, 109, 108, 97, 119, 49, 51, 46, 83, 112, 97, 99, 101, 70, 105, 110, 100, 115], [104, 101, 114, 98, 97, 114, 105, 117, 109, 47, 104, 101, 114, 98, 97, 114, 105, 117, 109, 108, 97, 119, 49, 46, 66, 105, 116, 115, 69, 120, 97, 99, 116], [104, 101, 114, 98, 97, 114, 105, 117, 109, 47, 104, 101, 114, 98, 97, 114, 105, 117, 109, 108, 97, 119, 50, 46, 67, 111, 100, 101, 67, 117, 116, 115], [104, 101, 114, 98, 97, 114, 105, 117, 109, 47, 104, 101, 114, 98, 97, 114, 105, 117, 109, 108, 97, 119, 50, 46, 67, 111, 100, 101, 65, 110, 121], [104, 101, 114, 98, 97, 114, 105, 117, 109, 47, 104, 101, 114, 98, 97, 114, 105, 117, 109, 108, 97, 119, 50, 46, 67, 111, 100, 101, 66, 97, 99, 107], [104, 101, 114, 98, 97, 114, 105, 117, 109, 47, 104, 101, 114, 98, 97, 114, 105, 117, 109, 108, 97, 119, 50, 46, 67, 111, 100, 101, 85, 110, 97, 114, 121], [104, 101, 114, 98, 97, 114, 105, 117, 109, 47, 104, 101, 114, 98, 97, 114, 105, 117, 109, 108, 97, 119, 50, 46, 67, 111, 100, 101, 71, 97, 109, 109, 97], [104, 101, 114, 98, 97, 114, 105, 117, 109, 47, 104, 101, 114, 98, 97, 114, 105, 117, 109, 108, 97, 119, 50, 46, 67, 111, 100, 101, 68, 101, 108, 116, 97], [104, 101, 114, 98, 97, 114, 105, 117, 109, 47, 104, 101, 114, 98, 97, 114, 105, 117, 109, 108, 97, 119, 50, 46, 67, 111, 100, 101, 90, 101, 116, 97, 84, 119, 111], [104, 101, 114, 98, 97, 114, 105, 117, 109, 47, 104, 101, 114, 98, 97, 114, 105, 117, 109, 108, 97, 119, 50, 46, 67, 111, 100, 101, 90, 101, 116, 97, 84, 104, 114, 101, 101], [104, 101, 114, 98, 97, 114, 105, 117, 109, 47, 104, 101, 114, 98, 97, 114, 105, 117, 109, 108, 97, 119, 50, 46, 67, 111, 100, 101, 83, 109, 97, 108, 108], [104, 101, 114, 98, 97, 114, 105, 117, 109, 47, 104, 101, 114, 98, 97, 114, 105, 117, 109, 108, 97, 119, 50, 46, 67, 111, 100, 101, 90, 105, 103, 115], [104, 101, 114, 98, 97, 114, 105, 117, 109, 47, 104, 101, 114, 98, 97, 114, 105, 117, 109, 108, 97, 119, 51, 46, 71, 97, 112, 115, 66, 97, 99, 107], [104, 101, 114, 98, 97, 114, 105, 117, 109, 47, 104, 101, 114, 98, 97, 114, 105, 117, 109, 108, 97, 119, 51, 46, 71, 97, 112, 115, 65, 108, 108], [104, 101, 114, 98, 97, 114, 105, 117, 109, 47, 104, 101, 114, 98, 97, 114, 105, 117, 109, 108, 97, 119, 51, 46, 71, 97, 112, 115, 69, 120, 97, 99, 116]]
theorem head_is : Try.prog.initOrder = String.ofList (headCodes.map Char.ofNat) := by kernel_rfl
theorem head_chars : Try.prog.initOrder.toList = headCodes.map Char.ofNat := (congrArg String.toList head_is).trans String.toList_ofList
theorem head_rest : behindMainWord (wordsSigns (headCodes.map Char.ofNat)) = restCodes.map (fun l => l.map Char.ofNat) := by kernel_rfl
theorem head_words : behindMainWord (wordsSigns Try.prog.initOrder.toList) = restCodes.map (fun l => l.map Char.ofNat) := (congrArg (fun l => behindMainWord (wordsSigns l)) head_chars).trans head_rest
theorem head_cons : restCodes.map (fun l => l.map Char.ofNat) = [99, 117, 116].map Char.ofNat :: restCodes.tail.map (fun l => l.map Char.ofNat) := rfl
theorem make_of {P : Program} {c : List Char} {rest : List (List Char)} (h : behindMainWord (wordsSigns P.initOrder.toList) = c :: rest) (hc : (c == "gc".toList || c == "spec".toList) = false) (h2 : (c == "cut".toList) = true) : P.make = some .cut := by
  unfold Program.make
  rw [h]
  simp only [hc, h2]
  rfl
theorem mayEnter_of {P : Program} {c : List Char} {rest : List (List Char)} (h : behindMainWord (wordsSigns P.initOrder.toList) = c :: rest) (hs : (stripLifts liftWords (c :: rest)).1 = []) (hs2 : ((stripLifts liftWords (c :: rest)).2.head? == some "cut".toList) = true)
    (hl : P.laysLater = false) (hr : P.bearsReflect = false) (hd : P.doorFits [] = true) : P.mayEnter = true := by
  unfold Program.mayEnter
  rw [h]
  simp only [hs, hs2, hl, hr, hd]
  simp
theorem liftsFinal_of {P : Program} {c : List Char} {rest : List (List Char)} (h : behindMainWord (wordsSigns P.initOrder.toList) = c :: rest) (hs : (stripLifts liftWords (c :: rest)).1 = []) (hc : (c == "carried".toList) = false) : P.liftsFinal = false := by
  unfold Program.liftsFinal Program.headLifts
  rw [h]
  simp only [hs, List.head?_cons]
  have : (some c == some "carried".toList) = false := by simpa using hc
  rw [this]
  split <;> simp
theorem strip1 : (stripLifts liftWords (restCodes.map (fun l => l.map Char.ofNat))).1 = [] := by kernel_rfl
theorem strip2 : ((stripLifts liftWords (restCodes.map (fun l => l.map Char.ofNat))).2.head? == some "cut".toList) = true := by kernel_rfl
theorem lays : Try.prog.laysLater = false := by kernel_rfl
theorem refl_ : Try.prog.bearsReflect = false := by kernel_rfl
theorem door : Try.prog.doorFits [] = true := by kernel_rfl
theorem words_ : behindMainWord (wordsSigns Try.prog.initOrder.toList) = [99, 117, 116].map Char.ofNat :: restCodes.tail.map (fun l => l.map Char.ofNat) := head_words.trans head_cons
theorem make : Try.prog.make = some .cut := make_of words_ (by decide) (by decide)
theorem mayEnter : Try.prog.mayEnter = true := mayEnter_of words_ (head_cons ▸ strip1) (head_cons ▸ strip2) lays refl_ door
theorem liftsFinal : Try.prog.liftsFinal = false := liftsFinal_of words_ (head_cons ▸ strip1) (by decide)
end Go.Proofs.Ytnpghcikhpglkaa.Fa
namespace Go.Proofs.Ytnpghcikhpglkaa.Q
open Go.RowKit Go.Proofs.YtnpghcikhpglkaaW.PrintWords Go.Proofs.YtnpghcikhpglkaaW.PrintLast Go.Proofs.YtnpghcikhpglkaaW.PrintMore
attribute [local go_sem] max2_int min2_int max_two min_two max_three min_three max_four min_four   -- for this text's walks alone
set_option linter.unusedVariables false
set_option linter.unusedSimpArgs false
theorem eqA27 (d : Nat) (w : World) (x0 y0 : ByteArray) (x1 y1 : Int) :
    (Op.equalIn (d + 2) 27 (.agg #[.string x0, .int .i64 x1]) (.agg #[.string y0, .int .i64 y1])).run Try.prog w = .ok (x0.toList == y0.toList && (x1 == y1)) w := by
  refine eqA_of Try.underlying27 (by kernel_rfl) ?_
  refine eqf_cons (by rfl) (by go_simp; rfl) (by go_simp; rfl) (by go_simp) ?_
  exact eqf_last (by rfl) (by go_simp; rfl) (by go_simp; rfl) (by go_simp)
end Go.Proofs.Ytnpghcikhpglkaa.Q
namespace Go.Proofs.Ytnpghcikhpglkaa.Q
open Go.RowKit Go.Proofs.YtnpghcikhpglkaaW.PrintWords Go.Proofs.YtnpghcikhpglkaaW.PrintLast Go.Proofs.YtnpghcikhpglkaaW.PrintMore
attribute [local go_sem] max2_int min2_int max_two min_two max_three min_three max_four min_four   -- for this text's walks alone
set_option linter.unusedVariables false
set_option linter.unusedSimpArgs false

/-! ### herbariumref0_Num: function 53 -/
def herbariumref0_Num.f (a0 : Int) (a1 : Int) : Option (Bool) := if a0 ≥ 0 then (some (decide (a0 ≤ a1))) else (some false)
set_option maxHeartbeats 8000000 in
set_option maxRecDepth 100000 in
theorem herbariumref0_Num.calls (a0 : Int) (a1 : Int) (r : Bool) (w : World) (h : herbariumref0_Num.f a0 a1 = some r) :
    Calls Try.prog 53 #[.int .i64 a0, .int .i64 a1] w fun e w' => e = .returned (.bool r) ∧ Drawn0 w w' := by
 have H : (if a0 ≥ 0 then (some (decide (a0 ≤ a1))) else (some false)) = some r := h
 clear h
 by_cases c3 : a0 ≥ 0
 ·
  rw [if_pos c3] at H
  have c3b0 : decide (0 ≤ a0) = true := decide_eq_true c3
  clear c3
  obtain rfl := Option.some.inj H
  go_enter Try.func53, Try.ntmps53
  go_wp2
  go_ret
  exact ⟨by first | rfl | (simp; done) | (simp [*]; done), by repeat (first | exact Drawn0.refl _ | apply Drawn0.step)⟩
 rw [if_neg c3] at H
 have c3b0 : decide (0 ≤ a0) = false := decide_eq_false c3
 clear c3
 obtain rfl := Option.some.inj H
 go_enter Try.func53, Try.ntmps53
 go_wp2
 go_ret
 exact ⟨by first | rfl | (simp; done) | (simp [*]; done), by repeat (first | exact Drawn0.refl _ | apply Drawn0.step)⟩
end Go.Proofs.Ytnpghcikhpglkaa.Q
namespace Go.Proofs.Ytnpghcikhpglkaa.Q
open Go.RowKit Go.Proofs.YtnpghcikhpglkaaW.PrintWords Go.Proofs.YtnpghcikhpglkaaW.PrintLast Go.Proofs.YtnpghcikhpglkaaW.PrintMore
attribute [local go_sem] max2_int min2_int max_two min_two max_three min_three max_four min_four   -- for this text's walks alone
set_option linter.unusedVariables false
set_option linter.unusedSimpArgs false

/-! ### herbariumref1_bit: function 101 -/
def herbariumref1_bit.f (a0_0 : ByteArray) (a0_1 : Int) (a1 : Int) : Option (Int) := if 0 ≤ (wrap64 (Int.tdiv a1 8)) then (if (wrap64 (Int.tdiv a1 8)) < (a0_0.size : Int) then (if 0 ≤ (wrap64 (7 - (Int.tmod a1 8))) then (some (Go.bits .and .i64 (shr .i64 (wrap64 (bt a0_0 (wrap64 (Int.tdiv a1 8)))) (wrap64 (7 - (Int.tmod a1 8)))) 1)) else (none)) else (none)) else (none)
set_option maxHeartbeats 8000000 in
set_option maxRecDepth 100000 in
theorem herbariumref1_bit.calls (a0_0 : ByteArray) (a0_1 : Int) (a1 : Int) (r : Int) (w : World) (h : herbariumref1_bit.f a0_0 a0_1 a1 = some r) :
    Calls Try.prog 101 #[.agg #[.string a0_0, .int .i64 a0_1], .int .i64 a1] w fun e w' => e = .returned (.int .i64 r) ∧ Below w.heap.size w w' := by
 have hu27 := Try.underlying27
 have HB := ak (Below.refl w.heap.size w)
 have H : (if 0 ≤ (wrap64 (Int.tdiv a1 8)) then (if (wrap64 (Int.tdiv a1 8)) < (a0_0.size : Int) then (if 0 ≤ (wrap64 (7 - (Int.tmod a1 8))) then (some (Go.bits .and .i64 (shr .i64 (wrap64 (bt a0_0 (wrap64 (Int.tdiv a1 8)))) (wrap64 (7 - (Int.tmod a1 8)))) 1)) else (none)) else (none)) else (none)) = some r := h
 clear h
 obtain ⟨ji3, hji3⟩ : ∃ j_ : Int, (wrap64 (Int.tdiv a1 8)) = j_ := ⟨_, rfl⟩
 replace H : (if 0 ≤ (ji3) then (if (ji3) < (a0_0.size : Int) then (if 0 ≤ (wrap64 (7 - (Int.tmod a1 8))) then (some (Go.bits .and .i64 (shr .i64 (wrap64 (bt a0_0 (ji3))) (wrap64 (7 - (Int.tmod a1 8)))) 1)) else (none)) else (none)) else (none)) = some r := by first | (rw [hji3] at H; exact H) | (simp only [hji3] at H ⊢; exact H)
 have hji3w : (IntKind.i64.wrap (Int.tdiv a1 8)) = ji3 := (i64_w _).trans hji3
 by_cases c4 : 0 ≤ (ji3)
 rotate_left
 ·
  rw [if_neg c4] at H
  exact absurd H (by simp)
 rw [if_pos c4] at H
 have c4b0 : decide (0 ≤ (ji3)) = true := decide_eq_true c4
 clear c4
 by_cases c5 : (ji3) < (a0_0.size : Int)
 rotate_left
 ·
  rw [if_neg c5] at H
  exact absurd H (by simp)
 rw [if_pos c5] at H
 have c5b0 : decide ((ji3) < (a0_0.size : Int)) = true := decide_eq_true c5
 clear c5
 obtain ⟨ji7, hji7⟩ : ∃ j_ : Int, (wrap64 (7 - (Int.tmod a1 8))) = j_ := ⟨_, rfl⟩
 replace H : (if 0 ≤ (ji7) then (some (Go.bits .and .i64 (shr .i64 (wrap64 (bt a0_0 (ji3))) (ji7)) 1)) else (none)) = some r := by first | (rw [hji7] at H; exact H) | (simp only [hji7] at H ⊢; exact H)
 have hji7w : (IntKind.i64.wrap (7 - (Int.tmod a1 8))) = ji7 := (i64_w _).trans hji7
 by_cases c8 : 0 ≤ (ji7)
 rotate_left
 ·
  rw [if_neg c8] at H
  exact absurd H (by simp)
 rw [if_pos c8] at H
 have c8b0 := eq_true c8
 have c8b1 : decide (0 ≤ (ji7)) = true := decide_eq_true c8
 clear c8
 obtain ⟨ji9, hji9⟩ : ∃ j_ : Int, (shr .i64 (wrap64 (bt a0_0 (ji3))) (ji7)) = j_ := ⟨_, rfl⟩
 replace H : (some (Go.bits .and .i64 (ji9) 1)) = some r := by first | (rw [hji9] at H; exact H) | (simp only [hji9] at H ⊢; exact H)
 have hji9_ : ((wrap64 (bt a0_0 (ji3))) / 2 ^ min (ji7).toNat 64) = ji9 := hji9
 have hji9z : (ji7) ≤ 64 → ((wrap64 (bt a0_0 (ji3))) / 2 ^ (ji7).toNat) = ji9 := shr_small hji9
 obtain rfl := Option.some.inj H
 go_enter Try.func101, Try.ntmps101
 go_wp2_with (first | ((with_reducible refine gate_dst (N := 2) rfl ?_); refine box_event ?hg (N := 2) ?hd (cs := #[.string a0_0, .int .i64 a0_1]) (t := 27) ?hr ?_; (case hd => rfl); (case hg => rfl); (case hr => first | (go_simp; done) | (go_simp; rfl)); intro gb309 hg w10 hbox hb; have n0_ := ak (below_step (ul HB.out) hb); have n1_ := ak (hbox); have n2_ := ak ((by rw [hg]; exact (below_size (ul HB.out)) : w.heap.size ≤ gb309)); have n3_ := ak ((by rw [hg]; exact (below_size (ul HB.out)) : w.heap.size ≤ gb309)); clear HB; have HB := n0_; have BK309 := n1_; have GW309 := n2_; have GE309 := n3_; clear n0_ n1_ n2_ n3_; clear hb hbox hg; have hcz11_0 : w10.cell? ⟨gb309, 0, none⟩ = some (.string a0_0) := (blk_cell BK309.out 0).trans rfl; have hcz11_1 : w10.cell? ⟨gb309, 1, none⟩ = some (.int .i64 a0_1) := (blk_cell BK309.out 1).trans rfl; have hfz11_0 := blk_frozen BK309.out 0; have hfz11_1 := blk_frozen BK309.out 1; have p6 : 0 ≤ ((ji3) : Int) := of_decide_eq_true (by first | (with_reducible assumption) | assumption); have q6 : (ji3) < (a0_0.size : Int) := of_decide_eq_true (by first | (with_reducible assumption) | assumption); have hx6 := bt_at a0_0 (ji3); replace p6 := eq_true p6; replace q6 := eq_true q6))
 go_ret
 exact ⟨by first | rfl | (simp [errW_none, errW_some] <;> rfl) | (simp only [← hji3, ← hji7, ← hji9]; first | rfl | (simp [errW_none, errW_some] <;> rfl)) | (simp [*, errW_none, errW_some] <;> rfl), by repeat with_reducible first | exact HB.out | apply b1 | apply b2 | apply b3 | refine b4 ?_ GE309.out⟩
end Go.Proofs.Ytnpghcikhpglkaa.Q
namespace Go.Proofs.Ytnpghcikhpglkaa.Q
open Go.RowKit Go.Proofs.YtnpghcikhpglkaaW.PrintWords Go.Proofs.YtnpghcikhpglkaaW.PrintLast Go.Proofs.YtnpghcikhpglkaaW.PrintMore
attribute [local go_sem] max2_int min2_int max_two min_two max_three min_three max_four min_four   -- for this text's walks alone
set_option linter.unusedVariables false
set_option linter.unusedSimpArgs false

/-! ### herbariumref1_Bits: function 50 -/
mutual
def herbariumref1_Bits.j0 : Nat → Bool → ByteArray → Int → Option (Bool)
  | 0, _, _, _ => none
  | k + 1, x17, x311000, x311001 => if x17 = true then (some false) else (herbariumref1_Bits.l0 k x311001 x311000 x311001)
def herbariumref1_Bits.l0 : Nat → Int → ByteArray → Int → Option (Bool)
  | 0, _, _, _ => none
  | k + 1, x3, x311000, x311001 => if x3 < (wrap64 (8 * (x311000.size : Int))) then ((herbariumref1_bit.f x311000 x311001 x3).bind fun t312 => (if t312 = 0 then (herbariumref1_Bits.l0 k (wrap64 (x3 + 1)) x311000 x311001) else (some false))) else (some true)
end
def herbariumref1_Bits.f (k : Nat) (a0_0 : ByteArray) (a0_1 : Int) : Option (Bool) := (herbariumref0_Num.f a0_1 6000).bind fun t311 => (if t311 = true then (herbariumref1_Bits.j0 k ((a0_0.size : Int) != (wrap64 (Int.tdiv (wrap64 (a0_1 + 7)) 8))) a0_0 a0_1) else (herbariumref1_Bits.j0 k true a0_0 a0_1))
set_option maxHeartbeats 8000000 in
set_option maxRecDepth 100000 in
theorem herbariumref1_Bits.calls (k : Nat) (a0_0 : ByteArray) (a0_1 : Int) (r : Bool) (w : World) (h : herbariumref1_Bits.f k a0_0 a0_1 = some r) :
    Calls Try.prog 50 #[.agg #[.string a0_0, .int .i64 a0_1]] w fun e w' => e = .returned (.bool r) ∧ Below w.heap.size w w' := by
 have hu27 := Try.underlying27
 have HB := ak (Below.refl w.heap.size w)
 have H : ((herbariumref0_Num.f a0_1 6000).bind fun t311 => (if t311 = true then (herbariumref1_Bits.j0 k ((a0_0.size : Int) != (wrap64 (Int.tdiv (wrap64 (a0_1 + 7)) 8))) a0_0 a0_1) else (herbariumref1_Bits.j0 k true a0_0 a0_1))) = some r := h
 clear h
 have HC2 := ak H
 clear H
 go_enter Try.func50, Try.ntmps50
 go_upto_region 1 with (first | ((with_reducible refine gate_dst (N := 1) rfl ?_); (try (refine gate_guard (by rfl) ?_; dsimp only)); refine box_event ?hg (N := 1) ?hd (cs := #[.string a0_0, .int .i64 a0_1]) (t := 27) ?hr ?_; (case hd => rfl); (case hg => rfl); (case hr => first | (go_simp; done) | (go_simp; rfl)); intro gb310 hg w3 hbox hb; have n0_ := ak (below_step (ul HB.out) hb); have n1_ := ak (hbox); have n2_ := ak ((by rw [hg]; exact (below_size (ul HB.out)) : w.heap.size ≤ gb310)); have n3_ := ak ((by rw [hg]; exact (below_size (ul HB.out)) : w.heap.size ≤ gb310)); clear HB; have HB := n0_; have BK310 := n1_; have GW310 := n2_; have GE310 := n3_; clear n0_ n1_ n2_ n3_; clear hb hbox hg))
 (try simp only [Act.put, s1, s2, s3])
 go_cut [17] (fun v17 wc => ∃ (kq : Nat) (x17_1 : Bool), v17 = .bool x17_1 ∧ Aside0 (herbariumref1_Bits.j0 kq x17_1 a0_0 a0_1 = some r) ∧ Aside0 (kq ≤ k) ∧ Aside0 (wc.heap[gb310]? = some (.cells #[.string a0_0, .int .i64 a0_1] 27 (0, 0))) ∧ Aside0 (Below w.heap.size w wc))
 case first =>
  have H := HC2.out
  clear HC2
  replace H := Option.bind_eq_some_iff.mp H
  obtain ⟨t311, A40, H⟩ := H
  try dsimp only at H
  have A4 := ak A40
  clear A40
  by_cases c5 : t311 = true
  rotate_left
  ·
   replace c5 := Bool.eq_false_iff.mpr c5
   subst c5
   rw [if_neg (show ¬ (false = true) by decide)] at H
   have H' := ak H
   clear H
   have hcz7_0 : w3.cell? ⟨gb310, 0, none⟩ = some (.string a0_0) := (blk_cell BK310.out 0).trans rfl
   have hcz7_1 : w3.cell? ⟨gb310, 1, none⟩ = some (.int .i64 a0_1) := (blk_cell BK310.out 1).trans rfl
   have hfz7_0 := blk_frozen BK310.out 0
   have hfz7_1 := blk_frozen BK310.out 1
   go_wp2_with (first | ((with_reducible refine gate_callee (f := 53) rfl ?_); refine goesL_ (some 6) rfl rfl Try.func53 (by kernel_rfl) rfl #[.int .i64 a0_1, .int .i64 6000] rfl (by (try simp only [List.map_toArray, List.map_cons, List.map_nil]); first | done | rfl | (simp only [List.length_drop, List.length_take]; rfl)) ?_; (with_reducible refine (herbariumref0_Num.calls a0_1 6000 false _ A4.out).mono ?_); rintro e w' ⟨rfl, ⟨nd, rfl⟩⟩; refine ⟨_, rfl, ?_⟩))
   go_meet
   case rel => exact ⟨_, (true), (by first | rfl | (simp; done) | (simp [*]; done)), H', ⟨by first | omega | exact Nat.le_refl _⟩, ⟨ub BK310.out⟩, ⟨by repeat with_reducible first | exact HB.out | apply b1 | apply b2 | apply b3 | refine b4 ?_ GE310.out⟩⟩
  subst c5
  rw [if_pos rfl] at H
  have H' := ak H
  clear H
  have hcz6_0 : w3.cell? ⟨gb310, 0, none⟩ = some (.string a0_0) := (blk_cell BK310.out 0).trans rfl
  have hcz6_1 : w3.cell? ⟨gb310, 1, none⟩ = some (.int .i64 a0_1) := (blk_cell BK310.out 1).trans rfl
  have hfz6_0 := blk_frozen BK310.out 0
  have hfz6_1 := blk_frozen BK310.out 1
  go_wp2_with (first | ((with_reducible refine gate_callee (f := 53) rfl ?_); refine goesL_ (some 6) rfl rfl Try.func53 (by kernel_rfl) rfl #[.int .i64 a0_1, .int .i64 6000] rfl (by (try simp only [List.map_toArray, List.map_cons, List.map_nil]); first | done | rfl | (simp only [List.length_drop, List.length_take]; rfl)) ?_; (with_reducible refine (herbariumref0_Num.calls a0_1 6000 true _ A4.out).mono ?_); rintro e w' ⟨rfl, ⟨nd, rfl⟩⟩; refine ⟨_, rfl, ?_⟩))
  go_meet
  case rel => exact ⟨_, (((a0_0.size : Int) != (wrap64 (Int.tdiv (wrap64 (a0_1 + 7)) 8)))), (by first | rfl | (simp; done) | (simp [*]; done)), H', ⟨by first | omega | exact Nat.le_refl _⟩, ⟨ub BK310.out⟩, ⟨by repeat with_reducible first | exact HB.out | apply b1 | apply b2 | apply b3 | refine b4 ?_ GE310.out⟩⟩
 clear HC2
 obtain ⟨kq, x17_1, rfl, HA, HJ1, BK310, HB⟩ := hcut
 cases kq with
 | zero => exact absurd HA.out (by simp [herbariumref1_Bits.j0])
 | succ kj1 => ?_
 have H := HA.out
 clear HA
 simp only [herbariumref1_Bits.j0] at H
 by_cases c8 : x17_1 = true
 ·
  subst c8
  rw [if_pos rfl] at H
  obtain rfl := Option.some.inj H
  go_wp2
  go_ret
  exact ⟨by first | rfl | (simp [errW_none, errW_some] <;> rfl) | (simp [*, errW_none, errW_some] <;> rfl), by repeat with_reducible first | exact HB.out | apply b1 | apply b2 | apply b3 | refine b4 ?_ GE310.out⟩
 replace c8 := Bool.eq_false_iff.mpr c8
 subst c8
 rw [if_neg (show ¬ (false = true) by decide)] at H
 have H' := ak H
 clear H
 have hcz9_0 : wc.cell? ⟨gb310, 0, none⟩ = some (.string a0_0) := (blk_cell BK310.out 0).trans rfl
 have hcz9_1 : wc.cell? ⟨gb310, 1, none⟩ = some (.int .i64 a0_1) := (blk_cell BK310.out 1).trans rfl
 have hfz9_0 := blk_frozen BK310.out 0
 have hfz9_1 := blk_frozen BK310.out 1
 go_wp2
 go_loopg [3] kj1 (fun kq v3 w' => ∃ (x3_2 : Int), v3 = .int .i64 x3_2 ∧ Aside0 (herbariumref1_Bits.l0 kq x3_2 a0_0 a0_1 = some r) ∧ Aside0 (kq ≤ kj1) ∧ Aside0 (w'.heap[gb310]? = some (.cells #[.string a0_0, .int .i64 a0_1] 27 (0, 0))) ∧ Aside0 (Below w.heap.size w w'))
 case atStart => exact ⟨(a0_1), (by first | rfl | (simp; done) | (simp [*]; done)), H', ⟨Nat.le_refl _⟩, ⟨ub BK310.out⟩, ⟨by repeat with_reducible first | exact HB.out | apply b1 | apply b2 | apply b3 | refine b4 ?_ GE310.out⟩⟩
 clear H'
 (try clear c8); (try clear hcz9_0); (try clear hcz9_1); (try clear hfz9_0); (try clear hfz9_1)
 obtain ⟨x3_2, rfl, HA, HK2, BK310, HB⟩ := hrel
 cases gk with
 | zero => exact absurd HA.out (by simp [herbariumref1_Bits.l0])
 | succ k2 => ?_
 have H := HA.out
 clear HA
 simp only [herbariumref1_Bits.l0] at H
 by_cases c10 : x3_2 < (wrap64 (8 * (a0_0.size : Int)))
 rotate_left
 ·
  rw [if_neg c10] at H
  have c10b0 : decide (x3_2 < (wrap64 (8 * (a0_0.size : Int)))) = false := decide_eq_false c10
  clear c10
  obtain rfl := Option.some.inj H
  have hcz17_0 : wr.cell? ⟨gb310, 0, none⟩ = some (.string a0_0) := (blk_cell BK310.out 0).trans rfl
  have hcz17_1 : wr.cell? ⟨gb310, 1, none⟩ = some (.int .i64 a0_1) := (blk_cell BK310.out 1).trans rfl
  have hfz17_0 := blk_frozen BK310.out 0
  have hfz17_1 := blk_frozen BK310.out 1
  go_wp2
  go_ret
  exact ⟨by first | rfl | (simp [errW_none, errW_some] <;> rfl) | (simp [*, errW_none, errW_some] <;> rfl), by repeat with_reducible first | exact HB.out | apply b1 | apply b2 | apply b3 | refine b4 ?_ GE310.out⟩
 rw [if_pos c10] at H
 have c10b0 : decide (x3_2 < (wrap64 (8 * (a0_0.size : Int)))) = true := decide_eq_true c10
 clear c10
 replace H := Option.bind_eq_some_iff.mp H
 obtain ⟨t312, A110, H⟩ := H
 try dsimp only at H
 have A11 := ak A110
 clear A110
 by_cases c12 : t312 = 0
 rotate_left
 ·
  rw [if_neg c12] at H
  have c12b0 : (t312 == 0) = false := beq_eq_false_iff_ne.mpr c12
  have c12b1 : (t312 != 0) = true := bne_iff_ne.mpr c12
  obtain rfl := Option.some.inj H
  have hcz15_0 : wr.cell? ⟨gb310, 0, none⟩ = some (.string a0_0) := (blk_cell BK310.out 0).trans rfl
  have hcz15_1 : wr.cell? ⟨gb310, 1, none⟩ = some (.int .i64 a0_1) := (blk_cell BK310.out 1).trans rfl
  have hfz15_0 := blk_frozen BK310.out 0
  have hfz15_1 := blk_frozen BK310.out 1
  go_wp2_with (first | ((with_reducible refine gate_callee (f := 101) rfl ?_); refine goesL_ (some 30) rfl rfl Try.func101 (by kernel_rfl) rfl #[.agg #[.string a0_0, .int .i64 a0_1], .int .i64 x3_2] rfl (by (try simp only [List.map_toArray, List.map_cons, List.map_nil]); first | done | rfl | (simp only [List.length_drop, List.length_take]; rfl)) ?_; (with_reducible refine (herbariumref1_bit.calls a0_0 a0_1 x3_2 t312 _ A11.out).mono ?_); rintro e w16 ⟨rfl, hb⟩; refine ⟨_, rfl, ?_⟩; have n0_ := ak (blk_below (g := gb310) (o := .cells #[.string a0_0, .int .i64 a0_1] 27 (0, 0)) (ub BK310.out) hb); have n1_ := ak (below_step (by repeat with_reducible first | exact HB.out | apply b1 | apply b2 | apply b3 | refine b4 ?_ GE310.out) hb); clear BK310; clear HB; have BK310 := n0_; have HB := n1_; clear n0_ n1_; (try clear hb); (try clear hb2); (try clear hk); (try clear hi)))
  go_ret
  exact ⟨by first | rfl | (simp [errW_none, errW_some] <;> rfl) | (simp [*, errW_none, errW_some] <;> rfl), by repeat with_reducible first | exact HB.out | apply b1 | apply b2 | apply b3 | refine b4 ?_ GE310.out⟩
 rw [if_pos c12] at H
 have c12b0 : (t312 == 0) = true := beq_iff_eq.mpr c12
 have c12b1 : (t312 != 0) = false := bne_eq_false_iff_eq.mpr c12
 clear c12
 have H' := ak H
 clear H
 have hcz13_0 : wr.cell? ⟨gb310, 0, none⟩ = some (.string a0_0) := (blk_cell BK310.out 0).trans rfl
 have hcz13_1 : wr.cell? ⟨gb310, 1, none⟩ = some (.int .i64 a0_1) := (blk_cell BK310.out 1).trans rfl
 have hfz13_0 := blk_frozen BK310.out 0
 have hfz13_1 := blk_frozen BK310.out 1
 go_wp2_with (first | ((with_reducible refine gate_callee (f := 101) rfl ?_); refine goesL_ (some 30) rfl rfl Try.func101 (by kernel_rfl) rfl #[.agg #[.string a0_0, .int .i64 a0_1], .int .i64 x3_2] rfl (by (try simp only [List.map_toArray, List.map_cons, List.map_nil]); first | done | rfl | (simp only [List.length_drop, List.length_take]; rfl)) ?_; (with_reducible refine (herbariumref1_bit.calls a0_0 a0_1 x3_2 t312 _ A11.out).mono ?_); rintro e w14 ⟨rfl, hb⟩; refine ⟨_, rfl, ?_⟩; have n0_ := ak (blk_below (g := gb310) (o := .cells #[.string a0_0, .int .i64 a0_1] 27 (0, 0)) (ub BK310.out) hb); have n1_ := ak (below_step (by repeat with_reducible first | exact HB.out | apply b1 | apply b2 | apply b3 | refine b4 ?_ GE310.out) hb); clear BK310; clear HB; have BK310 := n0_; have HB := n1_; clear n0_ n1_; (try clear hb); (try clear hb2); (try clear hk); (try clear hi)))
 go_roundg k2
 case measure => have := HJ1.out; have := HK2.out; omega
 case rel => exact ⟨(wrap64 (x3_2 + 1)), (by first | rfl | (simp; done) | (simp [*]; done)), H', ⟨by have := HJ1.out; have := HK2.out; omega⟩, ⟨ub BK310.out⟩, ⟨by repeat with_reducible first | exact HB.out | apply b1 | apply b2 | apply b3 | refine b4 ?_ GE310.out⟩⟩
end Go.Proofs.Ytnpghcikhpglkaa.Q
namespace Go.Proofs.Ytnpghcikhpglkaa.Q
open Go.RowKit Go.Proofs.YtnpghcikhpglkaaW.PrintWords Go.Proofs.YtnpghcikhpglkaaW.PrintLast Go.Proofs.YtnpghcikhpglkaaW.PrintMore
attribute [local go_sem] max2_int min2_int max_two min_two max_three min_three max_four min_four   -- for this text's walks alone
set_option linter.unusedVariables false
set_option linter.unusedSimpArgs false

/-! ### herbariumref1_Of: function 52 -/
def herbariumref1_Of.l0 : Nat → List Int → Int → ByteArray → Int → Option (List Int)
  | 0, _, _, _, _ => none
  | k + 1, x3, x4, x371000, x371001 => if x4 < x371001 then ((herbariumref1_bit.f x371000 x371001 x4).bind fun t371 => (if x3.length < 140737488355328 then (herbariumref1_Of.l0 k (x3 ++ [(t371) % 256]) (wrap64 (x4 + 1)) x371000 x371001) else (none))) else (some x3)
def herbariumref1_Of.f (k : Nat) (a0_0 : ByteArray) (a0_1 : Int) : Option (List Int) := herbariumref1_Of.l0 k ([] : List Int) 0 a0_0 a0_1
set_option maxHeartbeats 8000000 in
set_option maxRecDepth 100000 in
theorem herbariumref1_Of.calls (k : Nat) (a0_0 : ByteArray) (a0_1 : Int) (r : List Int) (w : World) (h : herbariumref1_Of.f k a0_0 a0_1 = some r) :
    Calls Try.prog 52 #[.agg #[.string a0_0, .int .i64 a0_1]] w fun e w' => ∃ v0_ : Value, e = .returned (v0_) ∧ Kd.R (Kd.int .u8) 5 w' w.heap.size (fun _ => True) v0_ r ∧ Below w.heap.size w w' := by
 have hu27 := Try.underlying27
 have HB := ak (Below.refl w.heap.size w)
 have H : (herbariumref1_Of.l0 k ([] : List Int) 0 a0_0 a0_1) = some r := h
 clear h
 have H' := ak H
 clear H
 go_enter Try.func52, Try.ntmps52
 go_wp2_with (first | ((with_reducible refine gate_dst (N := 1) rfl ?_); refine box_event ?hg (N := 1) ?hd (cs := #[.string a0_0, .int .i64 a0_1]) (t := 27) ?hr ?_; (case hd => rfl); (case hg => rfl); (case hr => first | (go_simp; done) | (go_simp; rfl)); intro gb370 hg w2 hbox hb; have n0_ := ak (below_step (ul HB.out) hb); have n1_ := ak (hbox); have n2_ := ak ((by rw [hg]; exact (below_size (ul HB.out)) : w.heap.size ≤ gb370)); have n3_ := ak ((by rw [hg]; exact (below_size (ul HB.out)) : w.heap.size ≤ gb370)); clear HB; have HB := n0_; have BK370 := n1_; have GW370 := n2_; have GE370 := n3_; clear n0_ n1_ n2_ n3_; clear hb hbox hg))
 go_loopg [3, 4] k (fun kq v3 v4 w' => ∃ (x3_1 : List Int) (x4_1 : Int), v4 = .int .i64 x4_1 ∧ Aside0 (herbariumref1_Of.l0 kq x3_1 x4_1 a0_0 a0_1 = some r) ∧ Aside0 (kq ≤ k) ∧ Aside0 (Kd.R (Kd.int .u8) 5 w' w.heap.size (fun _ => True) v3 x3_1) ∧ Aside0 (w'.heap[gb370]? = some (.cells #[.string a0_0, .int .i64 a0_1] 27 (0, 0))) ∧ Aside0 (Below w.heap.size w w'))
 case atStart => exact ⟨(([] : List Int)), (0), (by first | rfl | (simp; done) | (simp [*]; done)), H', ⟨Nat.le_refl _⟩, ⟨by first | exact Kd.R_nil _ _ _ _ _ | exact Kd.N_nil _ _ _ _ _ | exact Kd.V_nil _ _ _ _ _ | exact Kd.Q_nil _ _ _ _ _ | exact Kd.S_nil _ _ _ _ _⟩, ⟨ub BK370.out⟩, ⟨by repeat with_reducible first | exact HB.out | apply b1 | apply b2 | apply b3 | refine b4 ?_ GE370.out⟩⟩
 clear H'
 obtain ⟨x3_1, x4_1, rfl, HA, HK1, HO_3, BK370, HB⟩ := hrel
 cases gk with
 | zero => exact absurd HA.out (by simp [herbariumref1_Of.l0])
 | succ k1 => ?_
 have H := HA.out
 clear HA
 simp only [herbariumref1_Of.l0] at H
 by_cases c3 : x4_1 < a0_1
 rotate_left
 ·
  rw [if_neg c3] at H
  have c3b0 : decide (x4_1 < a0_1) = false := decide_eq_false c3
  clear c3
  obtain rfl := Option.some.inj H
  have hcz9_0 : wr.cell? ⟨gb370, 0, none⟩ = some (.string a0_0) := (blk_cell BK370.out 0).trans rfl
  have hcz9_1 : wr.cell? ⟨gb370, 1, none⟩ = some (.int .i64 a0_1) := (blk_cell BK370.out 1).trans rfl
  have hfz9_0 := blk_frozen BK370.out 0
  have hfz9_1 := blk_frozen BK370.out 1
  go_wp2
  go_ret
  exact ⟨_, by first | rfl | (simp [errW_none, errW_some] <;> rfl) | (simp [*, errW_none, errW_some] <;> rfl), ur <| HO_3.out, by repeat with_reducible first | exact HB.out | apply b1 | apply b2 | apply b3 | refine b4 ?_ GE370.out⟩
 rw [if_pos c3] at H
 have c3b0 : decide (x4_1 < a0_1) = true := decide_eq_true c3
 clear c3
 replace H := Option.bind_eq_some_iff.mp H
 obtain ⟨t371, A40, H⟩ := H
 try dsimp only at H
 have A4 := ak A40
 clear A40
 by_cases c5 : x3_1.length < 140737488355328
 rotate_left
 ·
  rw [if_neg c5] at H
  exact absurd H (by simp)
 rw [if_pos c5] at H
 have LMc5 := ak c5
 clear c5
 obtain ⟨y372, hy372⟩ : ∃ y_ : List Int, y_ = (x3_1 ++ [(t371) % 256]) := ⟨_, rfl⟩
 replace H : (herbariumref1_Of.l0 k1 y372 (wrap64 (x4_1 + 1)) a0_0 a0_1) = some r := by first | (rw [hy372]; with_reducible exact H) | (have H2_ := (Option.bind_some _ _).symm.trans H; rw [hy372]; with_reducible exact H2_) | (have H2_ := (Option.bind_some _ _).symm.trans H; with_reducible exact H2_) | with_reducible exact H | (rw [hy372]; exact H) | exact H
 have Ny372 := ak hy372
 clear hy372
 have H' := ak H
 clear H
 have hcz6_0 : wr.cell? ⟨gb370, 0, none⟩ = some (.string a0_0) := (blk_cell BK370.out 0).trans rfl
 have hcz6_1 : wr.cell? ⟨gb370, 1, none⟩ = some (.int .i64 a0_1) := (blk_cell BK370.out 1).trans rfl
 have hfz6_0 := blk_frozen BK370.out 0
 have hfz6_1 := blk_frozen BK370.out 1
 go_wp2_with (first | ((with_reducible refine gate_callee (f := 101) rfl ?_); refine goesL_ (some 14) rfl rfl Try.func101 (by kernel_rfl) rfl #[.agg #[.string a0_0, .int .i64 a0_1], .int .i64 x4_1] rfl (by (try simp only [List.map_toArray, List.map_cons, List.map_nil]); first | done | rfl | (simp only [List.length_drop, List.length_take]; rfl)) ?_; (with_reducible refine (herbariumref1_bit.calls a0_0 a0_1 x4_1 t371 _ A4.out).mono ?_); rintro e w7 ⟨rfl, hb⟩; refine ⟨_, rfl, ?_⟩; have n0_ := ak (Kd.R_below (ur <| HO_3.out) hb); have n1_ := ak (blk_below (g := gb370) (o := .cells #[.string a0_0, .int .i64 a0_1] 27 (0, 0)) (ub BK370.out) hb); have n2_ := ak (below_step (by repeat with_reducible first | exact HB.out | apply b1 | apply b2 | apply b3 | refine b4 ?_ GE370.out) hb); clear HO_3; clear BK370; clear HB; have HO_3 := n0_; have BK370 := n1_; have HB := n2_; clear n0_ n1_ n2_; (try clear hb); (try clear hb2); (try clear hk); (try clear hi)) | ((with_reducible refine gate_builtin (b := .append) (xs := #[.tmp 11, .tmp 16]) rfl ?_); at_builtin; refine Kd.R_append (Kd.int .u8) (w0 := w) w.heap.size rfl (.tmp 11) (.tmp 16) 64 5 (.int .u8 0) 1 rfl Try.underlying64 info5 rfl (by decide) (by omega) u3 x3_1 ((t371) % 256) [.int .u8 ((t371) % 256)] (fun _ => True) (fun _ => False) rfl rfl ?aP (fun _ hk => hk.elim) ?aF ?aO ?aB ?aS ?aL ?_; (case aP => exact rfl); (case aB => exact (by repeat with_reducible first | exact HB.out | apply b1 | apply b2 | apply b3 | refine b4 ?_ GE370.out)); (case aF => exact (fun _ _ => trivial)); (case aO => exact (ur <| HO_3.out)); (case aS => exact (below_size (by repeat with_reducible first | exact HB.out | apply b1 | apply b2 | apply b3 | refine b4 ?_ GE370.out))); (case aL => have := LMc5.out; omega); intro v373 w8 ho hb hg hat; rw [← Ny372.out] at ho; have n0_ := ak (blk_grown (g := gb370) (o := .cells #[.string a0_0, .int .i64 a0_1] 27 (0, 0)) (ub BK370.out) hg (Kd.R_ne HO_3.out BK370.out (by decide))); have n1_ := ak (hb); have n2_ := ak (ho); clear BK370; clear HB; clear HO_3; have BK370 := n0_; have HB := n1_; have HO374 := n2_; clear n0_ n1_ n2_; clear ho hb hg hat))
 go_roundg k1
 case measure => have := HK1.out; omega
 case rel => exact ⟨(y372), (wrap64 (x4_1 + 1)), (by first | rfl | (simp; done) | (simp [*]; done)), H', ⟨by have := HK1.out; omega⟩, ⟨ur <| HO374.out⟩, ⟨ub BK370.out⟩, ⟨by repeat with_reducible first | exact HB.out | apply b1 | apply b2 | apply b3 | refine b4 ?_ GE370.out⟩⟩
end Go.Proofs.Ytnpghcikhpglkaa.Q
namespace Go.Proofs.Ytnpghcikhpglkaa.Q
open Go.RowKit Go.Proofs.YtnpghcikhpglkaaW.PrintWords Go.Proofs.YtnpghcikhpglkaaW.PrintLast Go.Proofs.YtnpghcikhpglkaaW.PrintMore
attribute [local go_sem] max2_int min2_int max_two min_two max_three min_three max_four min_four   -- for this text's walks alone
set_option linter.unusedVariables false
set_option linter.unusedSimpArgs false

/-! ### herbariumref1_List_Zeros: function 54 -/
def herbariumref1_List_Zeros.l0 : Nat → List Int → Int → Int → Option (Int)
  | 0, _, _, _ => none
  | k + 1, x0, x1, x5 => if x5 < (x0.length : Int) then (if 0 ≤ x5 then (if (rd x0 x5) = 1 then (some (wrap64 (x5 - x1))) else (herbariumref1_List_Zeros.l0 k x0 x1 (wrap64 (x5 + 1)))) else (none)) else (some (-1))
def herbariumref1_List_Zeros.f (k : Nat) (l0 : List Int) (a1 : Int) : Option (Int) := herbariumref1_List_Zeros.l0 k l0 a1 a1
set_option maxHeartbeats 8000000 in
set_option maxRecDepth 100000 in
theorem herbariumref1_List_Zeros.calls (k : Nat) (A0 : Option Addr) (c0 : Nat) (l0 : List Int) (a1 : Int) (r : Int) (w : World) (hr0 : Kd.C (Kd.int .u8) w A0 l0.length l0) (hc0 : l0.length ≤ c0) (h : herbariumref1_List_Zeros.f k l0 a1 = some r) :
    Calls Try.prog 54 #[.slice A0 l0.length c0, .int .i64 a1] w fun e w' => e = .returned (.int .i64 r) ∧ Drawn0 w w' := by
 have HR0 := ak hr0
 have HC0 := ak hc0
 clear hr0 hc0
 have H : (herbariumref1_List_Zeros.l0 k l0 a1 a1) = some r := h
 clear h
 have H' := ak H
 clear H
 go_enter Try.func54, Try.ntmps54
 go_wp2
 go_loopg [5] k (fun kq v5 w' => ∃ (x5_1 : Int), v5 = .int .i64 x5_1 ∧ Aside0 (herbariumref1_List_Zeros.l0 kq l0 a1 x5_1 = some r) ∧ Aside0 (kq ≤ k) ∧ Drawn0 w w')
 case atStart => exact ⟨(a1), (by first | rfl | (simp; done) | (simp [*]; done)), H', ⟨Nat.le_refl _⟩, by repeat (first | exact Drawn0.refl _ | apply Drawn0.step)⟩
 clear H'
 obtain ⟨x5_1, rfl, HA, HK1, ⟨m1, rfl⟩⟩ := hrel
 cases gk with
 | zero => exact absurd HA.out (by simp [herbariumref1_List_Zeros.l0])
 | succ k1 => ?_
 have H := HA.out
 clear HA
 simp only [herbariumref1_List_Zeros.l0] at H
 by_cases c3 : x5_1 < (l0.length : Int)
 rotate_left
 ·
  rw [if_neg c3] at H
  have c3b0 : decide (x5_1 < (l0.length : Int)) = false := decide_eq_false c3
  clear c3
  obtain rfl := Option.some.inj H
  go_wp2
  go_ret
  exact ⟨by first | rfl | (simp; done) | (simp [*]; done), by repeat (first | exact Drawn0.refl _ | apply Drawn0.step)⟩
 rw [if_pos c3] at H
 have c3b0 : decide (x5_1 < (l0.length : Int)) = true := decide_eq_true c3
 clear c3
 by_cases c4 : 0 ≤ x5_1
 rotate_left
 ·
  rw [if_neg c4] at H
  exact absurd H (by simp)
 rw [if_pos c4] at H
 have c4b0 : decide (0 ≤ x5_1) = true := decide_eq_true c4
 clear c4
 by_cases c5 : (rd l0 x5_1) = 1
 ·
  rw [if_pos c5] at H
  have c5b0 : ((rd l0 x5_1) == 1) = true := beq_iff_eq.mpr c5
  have c5b1 : ((rd l0 x5_1) != 1) = false := bne_eq_false_iff_eq.mpr c5
  clear c5
  obtain rfl := Option.some.inj H
  have p375 : 0 ≤ (x5_1 : Int) := of_decide_eq_true (by first | (with_reducible assumption) | assumption)
  have q375 : x5_1 < (l0.length : Int) := of_decide_eq_true (by first | (with_reducible assumption) | assumption)
  obtain ⟨ad375, e375, hx375_0⟩ := Kd.at_int HR0.out x5_1 p375 q375
  cases e375
  replace p375 := eq_true p375
  replace q375 := eq_true q375
  go_wp2
  go_ret
  exact ⟨by first | rfl | (simp; done) | (simp [*]; done), by repeat (first | exact Drawn0.refl _ | apply Drawn0.step)⟩
 rw [if_neg c5] at H
 have c5b0 : ((rd l0 x5_1) == 1) = false := beq_eq_false_iff_ne.mpr c5
 have c5b1 : ((rd l0 x5_1) != 1) = true := bne_iff_ne.mpr c5
 have H' := ak H
 clear H
 have p375 : 0 ≤ (x5_1 : Int) := of_decide_eq_true (by first | (with_reducible assumption) | assumption)
 have q375 : x5_1 < (l0.length : Int) := of_decide_eq_true (by first | (with_reducible assumption) | assumption)
 obtain ⟨ad375, e375, hx375_0⟩ := Kd.at_int HR0.out x5_1 p375 q375
 cases e375
 replace p375 := eq_true p375
 replace q375 := eq_true q375
 go_wp2
 go_roundg k1
 case measure => have := HK1.out; omega
 case rel => exact ⟨(wrap64 (x5_1 + 1)), (by first | rfl | (simp; done) | (simp [*]; done)), H', ⟨by have := HK1.out; omega⟩, by repeat (first | exact Drawn0.refl _ | apply Drawn0.step)⟩
end Go.Proofs.Ytnpghcikhpglkaa.Q
namespace Go.Proofs.Ytnpghcikhpglkaa.Q
open Go.RowKit Go.Proofs.YtnpghcikhpglkaaW.PrintWords Go.Proofs.YtnpghcikhpglkaaW.PrintLast Go.Proofs.YtnpghcikhpglkaaW.PrintMore
attribute [local go_sem] max2_int min2_int max_two min_two max_three min_three max_four min_four   -- for this text's walks alone
set_option linter.unusedVariables false
set_option linter.unusedSimpArgs false

/-! ### herbariumref1_List_Put: function 55 -/
def herbariumref1_List_Put.l0 : Nat → List Int → Int → Int → Option (List Int)
  | 0, _, _, _ => none
  | k + 1, x0, x1, x7 => if x7 ≥ 0 then (if 0 ≤ x7 then (if x0.length < 140737488355328 then (herbariumref1_List_Put.l0 k (x0 ++ [(Go.bits .and .i64 (shr .i64 x1 x7) 1) % 256]) x1 (wrap64 (x7 - 1))) else (none)) else (none)) else (some x0)
def herbariumref1_List_Put.f (k : Nat) (l0 : List Int) (a1 : Int) (a2 : Int) : Option (List Int) := herbariumref1_List_Put.l0 k l0 a1 (wrap64 (a2 - 1))
set_option maxHeartbeats 8000000 in
set_option maxRecDepth 100000 in
theorem herbariumref1_List_Put.calls (k : Nat) (P0_ : Nat → Prop) (u9000_ : Value) (l0 : List Int) (a1 : Int) (a2 : Int) (r : List Int) (w0 w : World) (hB : Below w0.heap.size w0 w) (ho0 : Kd.R (Kd.int .u8) 5 w w0.heap.size P0_ u9000_ l0) (h : herbariumref1_List_Put.f k l0 a1 a2 = some r) :
    Calls Try.prog 55 #[u9000_, .int .i64 a1, .int .i64 a2] w fun e w' => ∃ v0_ : Value, e = .returned (v0_) ∧ Kd.R (Kd.int .u8) 5 w' w0.heap.size (fun k_ => (P0_ k_ ∨ w.heap.size ≤ k_)) v0_ r ∧ Below w0.heap.size w0 w' ∧ Kept w w' (fun k_ => P0_ k_) := by
 have HO0 := ak (show Kd.R (Kd.int .u8) 5 w w0.heap.size (fun k_ => (P0_ k_ ∨ w.heap.size ≤ k_)) u9000_ l0 from Kd.R_mono ho0 (fun k_ hk => (.inl hk)))
 have HK := ak (Kept.refl w (fun k_ => P0_ k_))
 have HW0 := ak hB.size
 have HB := ak hB
 clear hB
 have H : (herbariumref1_List_Put.l0 k l0 a1 (wrap64 (a2 - 1))) = some r := h
 clear h
 have H' := ak H
 clear H
 go_enter Try.func55, Try.ntmps55
 go_wp2
 go_loopg [0, 7] k (fun kq v0 v7 w' => ∃ (x0_1 : List Int) (x7_1 : Int), v7 = .int .i64 x7_1 ∧ Aside0 (herbariumref1_List_Put.l0 kq x0_1 a1 x7_1 = some r) ∧ Aside0 (kq ≤ k) ∧ Aside0 (Kd.R (Kd.int .u8) 5 w' w0.heap.size (fun k_ => (P0_ k_ ∨ w.heap.size ≤ k_)) v0 x0_1) ∧ Aside0 (Kept w w' (fun k_ => P0_ k_)) ∧ Aside0 (Below w0.heap.size w0 w'))
 case atStart => exact ⟨(l0), (wrap64 (a2 - 1)), (by first | rfl | (simp; done) | (simp [*]; done)), H', ⟨Nat.le_refl _⟩, ⟨ur <| HO0.out⟩, ⟨by repeat (first | (with_reducible first | exact HK.out | apply Kept.alloc | apply Kept.drewN | apply Kept.drew) | exact HK.out)⟩, ⟨ul HB.out⟩⟩
 clear H'
 obtain ⟨x0_1, x7_1, rfl, HA, HK1, HO_0, HK, HB⟩ := hrel
 cases gk with
 | zero => exact absurd HA.out (by simp [herbariumref1_List_Put.l0])
 | succ k1 => ?_
 have H := HA.out
 clear HA
 simp only [herbariumref1_List_Put.l0] at H
 by_cases c4 : x7_1 ≥ 0
 rotate_left
 ·
  rw [if_neg c4] at H
  have c4b0 : decide (0 ≤ x7_1) = false := decide_eq_false c4
  clear c4
  obtain rfl := Option.some.inj H
  go_wp2
  go_ret
  exact ⟨_, by first | rfl | (simp [errW_none, errW_some] <;> rfl) | (simp [*, errW_none, errW_some] <;> rfl), ur <| HO_0.out, ul HB.out, by repeat (first | (with_reducible first | exact HK.out | apply Kept.alloc | apply Kept.drewN | apply Kept.drew) | exact HK.out)⟩
 rw [if_pos c4] at H
 have c4b0 : decide (0 ≤ x7_1) = true := decide_eq_true c4
 clear c4
 by_cases c5 : 0 ≤ x7_1
 rotate_left
 ·
  rw [if_neg c5] at H
  exact absurd H (by simp)
 rw [if_pos c5] at H
 have c5b0 := eq_true c5
 have c5b1 : decide (0 ≤ x7_1) = true := decide_eq_true c5
 clear c5
 obtain ⟨ji6, hji6⟩ : ∃ j_ : Int, (shr .i64 a1 x7_1) = j_ := ⟨_, rfl⟩
 replace H : (if x0_1.length < 140737488355328 then (herbariumref1_List_Put.l0 k1 (x0_1 ++ [(Go.bits .and .i64 (ji6) 1) % 256]) a1 (wrap64 (x7_1 - 1))) else (none)) = some r := by first | (rw [hji6] at H; exact H) | (simp only [hji6] at H ⊢; exact H)
 have hji6_ : (a1 / 2 ^ min x7_1.toNat 64) = ji6 := hji6
 have hji6z : x7_1 ≤ 64 → (a1 / 2 ^ x7_1.toNat) = ji6 := shr_small hji6
 by_cases c7 : x0_1.length < 140737488355328
 rotate_left
 ·
  rw [if_neg c7] at H
  exact absurd H (by simp)
 rw [if_pos c7] at H
 have LMc7 := ak c7
 clear c7
 obtain ⟨y376, hy376⟩ : ∃ y_ : List Int, y_ = (x0_1 ++ [(Go.bits .and .i64 (ji6) 1) % 256]) := ⟨_, rfl⟩
 replace H : (herbariumref1_List_Put.l0 k1 y376 a1 (wrap64 (x7_1 - 1))) = some r := by first | (rw [hy376]; with_reducible exact H) | (have H2_ := (Option.bind_some _ _).symm.trans H; rw [hy376]; with_reducible exact H2_) | (have H2_ := (Option.bind_some _ _).symm.trans H; with_reducible exact H2_) | with_reducible exact H | (rw [hy376]; exact H) | exact H
 have Ny376 := ak hy376
 clear hy376
 have H' := ak H
 clear H
 go_wp2_with (first | ((with_reducible refine gate_builtin (b := .append) (xs := #[.tmp 14, .tmp 20]) rfl ?_); at_builtin; refine Kd.R_append (Kd.int .u8) (w0 := w0) w0.heap.size rfl (.tmp 14) (.tmp 20) 64 5 (.int .u8 0) 1 rfl Try.underlying64 info5 rfl (by decide) (by omega) u0 x0_1 ((Go.bits .and .i64 (ji6) 1) % 256) [.int .u8 ((Go.bits .and .i64 (ji6) 1) % 256)] (fun k_ => (P0_ k_ ∨ w.heap.size ≤ k_)) (fun _ => False) rfl rfl ?aP (fun _ hk => hk.elim) ?aF ?aO ?aB ?aS ?aL ?_; (case aP => exact rfl); (case aB => exact (ul HB.out)); (case aF => exact (fun k_ hk => (.inr (Nat.le_trans (by first | exact HK.out.1 | exact (show Kept w _ (fun k_ => P0_ k_) from by repeat (first | (with_reducible first | exact HK.out | apply Kept.alloc | apply Kept.drewN | apply Kept.drew) | exact HK.out)).1) hk)))); (case aO => exact (ur <| HO_0.out)); (case aS => exact (below_size (ul HB.out))); (case aL => have := LMc7.out; omega); intro v377 w8 ho hb hg hat; rw [← Ny376.out] at ho; have n0_ := ak (hb); have n1_ := ak (Kept.of_grown (S := (fun k_ => P0_ k_)) hg (by repeat (first | (with_reducible first | exact HK.out | apply Kept.alloc | apply Kept.drewN | apply Kept.drew) | exact HK.out)) (fun k_ e_ => (HO_0.out.1 k_ e_))); have n2_ := ak (ho); clear HB; clear HK; clear HO_0; have HB := n0_; have HK := n1_; have HO378 := n2_; clear n0_ n1_ n2_; clear ho hb hg hat))
 go_roundg k1
 case measure => have := HK1.out; omega
 case rel => exact ⟨(y376), (wrap64 (x7_1 - 1)), (by first | rfl | (simp; done) | (simp [*]; done)), H', ⟨by have := HK1.out; omega⟩, ⟨ur <| HO378.out⟩, ⟨by repeat (first | (with_reducible first | exact HK.out | apply Kept.alloc | apply Kept.drewN | apply Kept.drew) | exact HK.out)⟩, ⟨ul HB.out⟩⟩
end Go.Proofs.Ytnpghcikhpglkaa.Q
namespace Go.Proofs.Ytnpghcikhpglkaa.Q
open Go.RowKit Go.Proofs.YtnpghcikhpglkaaW.PrintWords Go.Proofs.YtnpghcikhpglkaaW.PrintLast Go.Proofs.YtnpghcikhpglkaaW.PrintMore
attribute [local go_sem] max2_int min2_int max_two min_two max_three min_three max_four min_four   -- for this text's walks alone
set_option linter.unusedVariables false
set_option linter.unusedSimpArgs false

/-! ### herbariumref1_List_Pack: function 56 -/
def herbariumref1_List_Pack.l0 : Nat → List Int → List Int → Int → Option (ByteArray × Int)
  | 0, _, _, _ => none
  | k + 1, x0, x3, x4 => if x4 < (x0.length : Int) then (if 0 ≤ (wrap64 (Int.tdiv x4 8)) then (if (wrap64 (Int.tdiv x4 8)) < (x3.length : Int) then (if 0 ≤ x4 then (if 0 ≤ (wrap64 (7 - (Int.tmod x4 8))) then (herbariumref1_List_Pack.l0 k x0 (x3.set ((wrap64 (Int.tdiv x4 8)) : Int).toNat (Go.bits .or .u8 (rd x3 (wrap64 (Int.tdiv x4 8))) (shl .u8 (rd x0 x4) (wrap64 (7 - (Int.tmod x4 8)))))) (wrap64 (x4 + 1))) else (none)) else (none)) else (none)) else (none)) else (some (strOfNums x3, (x0.length : Int)))
def herbariumref1_List_Pack.f (k : Nat) (l0 : List Int) : Option (ByteArray × Int) := if 0 ≤ (wrap64 (Int.tdiv (wrap64 ((l0.length : Int) + 7)) 8)) then (if (wrap64 (Int.tdiv (wrap64 ((l0.length : Int) + 7)) 8) : Int).toNat ≤ 281474976710656 then (herbariumref1_List_Pack.l0 k l0 (List.replicate (wrap64 (Int.tdiv (wrap64 ((l0.length : Int) + 7)) 8) : Int).toNat 0) 0) else (none)) else (none)
def herbariumref1_List_Pack.T5 : Bool × List (List Nat × List Nat) := (true, [([], []), ([], []), ([1], [1]), ([], []), ([], []), ([4], [4]), ([3, 5], [3, 5]), ([6], [6]), ([], []), ([], []), ([8, 9], [8, 9]), ([10], [10]), ([], []), ([12], [12]), ([13], [13]), ([11, 14], [11, 14]), ([7, 15], [7, 15]), ([0, 2, 0, 1, 2, 3, 4, 5, 6, 7, 8, 9, 10, 11, 12, 13, 14, 15, 16], [0, 2]), ([17, 16, 0, 1, 2, 3, 4, 5, 6, 7, 8, 9, 10, 11, 12, 13, 14, 15, 16], [16, 17])])
def herbariumref1_List_Pack.B5 : List Nat := [0, 0, 2, 0, 0, 16, 56, 120, 0, 0, 768, 1792, 0, 4096, 12288, 32512, 65528, 131071, 262143]
theorem herbariumref1_List_Pack.tab5 : rtab .any (opsOf Try.f56 5) = herbariumref1_List_Pack.T5 := by kernel_rfl
theorem herbariumref1_List_Pack.bits5 : waitsOk herbariumref1_List_Pack.T5.2 herbariumref1_List_Pack.B5 = true := by kernel_rfl
set_option maxHeartbeats 8000000 in
set_option maxRecDepth 100000 in
theorem herbariumref1_List_Pack.calls (k : Nat) (A0 : Option Addr) (c0 : Nat) (l0 : List Int) (r1 : ByteArray) (r2 : Int) (w : World) (hr0 : Kd.C (Kd.int .u8) w A0 l0.length l0) (hc0 : l0.length ≤ c0) (h : herbariumref1_List_Pack.f k l0 = some (r1, r2)) :
    Calls Try.prog 56 #[.slice A0 l0.length c0] w fun e w' => e = .returned (.agg #[.string r1, .int .i64 r2]) ∧ Below w.heap.size w w' := by
 have hu27 := Try.underlying27
 have HR0 := ak hr0
 have HC0 := ak hc0
 clear hr0 hc0
 have HB := ak (Below.refl w.heap.size w)
 have H : (if 0 ≤ (wrap64 (Int.tdiv (wrap64 ((l0.length : Int) + 7)) 8)) then (if (wrap64 (Int.tdiv (wrap64 ((l0.length : Int) + 7)) 8) : Int).toNat ≤ 281474976710656 then (herbariumref1_List_Pack.l0 k l0 (List.replicate (wrap64 (Int.tdiv (wrap64 ((l0.length : Int) + 7)) 8) : Int).toNat 0) 0) else (none)) else (none)) = some (r1, r2) := h
 clear h
 obtain ⟨ji2, hji2⟩ : ∃ j_ : Int, (wrap64 (Int.tdiv (wrap64 ((l0.length : Int) + 7)) 8)) = j_ := ⟨_, rfl⟩
 replace H : (if 0 ≤ (ji2) then (if (ji2 : Int).toNat ≤ 281474976710656 then (herbariumref1_List_Pack.l0 k l0 (List.replicate (ji2 : Int).toNat 0) 0) else (none)) else (none)) = some (r1, r2) := by first | (rw [hji2] at H; exact H) | (simp only [hji2] at H ⊢; exact H)
 have hji2w : (IntKind.i64.wrap (Int.tdiv (wrap64 ((l0.length : Int) + 7)) 8)) = ji2 := (i64_w _).trans hji2
 by_cases c3 : 0 ≤ (ji2)
 rotate_left
 ·
  rw [if_neg c3] at H
  exact absurd H (by simp)
 rw [if_pos c3] at H
 have c3b0 := eq_true c3
 have c3b1 : decide (0 ≤ (ji2)) = true := decide_eq_true c3
 clear c3
 by_cases c4 : (ji2 : Int).toNat ≤ 281474976710656
 rotate_left
 ·
  rw [if_neg c4] at H
  exact absurd H (by simp)
 rw [if_pos c4] at H
 have c4b0 := eq_true c4
 have c4b1 : decide ((ji2 : Int).toNat ≤ 281474976710656) = true := decide_eq_true c4
 clear c4
 obtain ⟨y380, hy380⟩ : ∃ y_ : List Int, y_ = (List.replicate (ji2 : Int).toNat 0) := ⟨_, rfl⟩
 replace H : (herbariumref1_List_Pack.l0 k l0 y380 0) = some (r1, r2) := by first | (rw [hy380]; with_reducible exact H) | (have H2_ := (Option.bind_some _ _).symm.trans H; rw [hy380]; with_reducible exact H2_) | (have H2_ := (Option.bind_some _ _).symm.trans H; with_reducible exact H2_) | with_reducible exact H | (rw [hy380]; exact H) | exact H
 have Ny380 := ak hy380
 clear hy380
 have H' := ak H
 clear H
 go_enter Try.func56, Try.ntmps56
 go_wp2_with (first | ((with_reducible refine gate_dst (N := 2) rfl ?_); refine box_event ?hg (N := 2) ?hd (cs := #[.string (⟨#[]⟩ : ByteArray), .int .i64 0]) (t := 27) ?hr ?_; (case hd => rfl); (case hg => rfl); (case hr => first | (go_simp; done) | (go_simp; rfl)); intro gb379 hg w5 hbox hb; have n0_ := ak (below_step (ul HB.out) hb); have n1_ := ak (hbox); have n2_ := ak ((by rw [hg]; exact (below_size (ul HB.out)) : w.heap.size ≤ gb379)); have n3_ := ak ((by rw [hg]; exact (below_size (ul HB.out)) : w.heap.size ≤ gb379)); clear HB; have HB := n0_; have BK379 := n1_; have GW379 := n2_; have GE379 := n3_; clear n0_ n1_ n2_ n3_; clear hb hbox hg) | ((with_reducible refine gate_dst (N := 9) rfl ?_); refine Kd.R_make (Kd.int .u8) _ 5 rfl (N := 9) rfl 63 _ _ rfl ji2 rfl rfl Try.underlying63 (.int .u8 0) 1 info5 rfl (by decide) (by omega) 0 (ok := fun _ => True) (okp := fun _ => True) rfl (fun _ hk => hk) trivial (of_decide_eq_true (by first | (with_reducible assumption) | assumption)) (Nat.le_trans (Nat.mul_le_mul_right _ (of_decide_eq_true (by first | (with_reducible assumption) | assumption) : ji2.toNat ≤ 281474976710656)) (by omega)) (Below.refl _ _) (Nat.le_refl _) ?_; intro v381 w6 ho7 hb hg_ hnew_; clear hg_ hnew_; (first | rw [← Ny380.out] at ho7 | (simp only [Int.reduceToNat] at ho7; rw [← Ny380.out] at ho7)); have n0_ := ak (Kd.R_lower ho7 (below_size (by repeat with_reducible first | exact HB.out | apply b1 | apply b2 | apply b3 | refine b4 ?_ GE379.out))); have n1_ := ak (blk_below (g := gb379) (o := .cells #[.string (⟨#[]⟩ : ByteArray), .int .i64 0] 27 (0, 0)) (ub BK379.out) hb); have n2_ := ak (below_step (by repeat with_reducible first | exact HB.out | apply b1 | apply b2 | apply b3 | refine b4 ?_ GE379.out) hb); clear BK379; clear HB; have HO382 := n0_; have BK379 := n1_; have HB := n2_; clear n0_ n1_ n2_; clear hb ho7))
 go_loopg [4] k (fun kq v4 w' => ∃ (x3_1 : List Int) (x4_1 : Int), v4 = .int .i64 x4_1 ∧ Aside0 (herbariumref1_List_Pack.l0 kq l0 x3_1 x4_1 = some (r1, r2)) ∧ Aside0 (kq ≤ k) ∧ Aside0 (Kd.R (Kd.int .u8) 5 w' w.heap.size (fun _ => True) v381 x3_1) ∧ Aside0 (w'.heap[gb379]? = some (.cells #[.string (⟨#[]⟩ : ByteArray), .int .i64 0] 27 (0, 0))) ∧ Aside0 (Below w.heap.size w w'))
 case atStart => exact ⟨(y380), (0), (by first | rfl | (simp; done) | (simp [*]; done)), H', ⟨Nat.le_refl _⟩, ⟨ur <| HO382.out⟩, ⟨ub BK379.out⟩, ⟨by repeat with_reducible first | exact HB.out | apply b1 | apply b2 | apply b3 | refine b4 ?_ GE379.out⟩⟩
 clear H'
 (try clear c3); (try clear c3b0); (try clear c3b1); (try clear c4); (try clear c4b0); (try clear c4b1)
 obtain ⟨x3_1, x4_1, rfl, HA, HK1, HO_3, BK379, HB⟩ := hrel
 cases gk with
 | zero => exact absurd HA.out (by simp [herbariumref1_List_Pack.l0])
 | succ k1 => ?_
 have H := HA.out
 clear HA
 simp only [herbariumref1_List_Pack.l0] at H
 by_cases c8 : x4_1 < (l0.length : Int)
 rotate_left
 ·
  rw [if_neg c8] at H
  have c8b0 : decide (x4_1 < (l0.length : Int)) = false := decide_eq_false c8
  clear c8
  simp only [Option.some.injEq, Prod.mk.injEq] at H
  obtain ⟨rfl, rfl⟩ := H
  have hcv20 := own_string (P := Try.prog) Try.underlying63 Try.underlying5 Try.underlying9 (Kd.own_of_R HO_3.out)
  have hcz21_0 : wr.cell? ⟨gb379, 0, none⟩ = some (.string (⟨#[]⟩ : ByteArray)) := (blk_cell BK379.out 0).trans rfl
  have hcz21_1 : wr.cell? ⟨gb379, 1, none⟩ = some (.int .i64 0) := (blk_cell BK379.out 1).trans rfl
  have hfz21_0 := blk_frozen BK379.out 0
  have hfz21_1 := blk_frozen BK379.out 1
  go_wp2
  refine bodyPost_ret (results_cell_row rfl _ _ gb379 27 #[.string (strOfNums x3_1), .int .i64 (l0.length : Int)] (0, 0) _ rfl (by (with_reducible repeat (first | refine blk_drewN ?_ _ | refine blk_drew ?_ | refine blk_alloc ?_ _)); refine blk_put (cs := #[.string (strOfNums x3_1), .int .i64 0]) ?_ 1 _ rfl; (with_reducible repeat (first | refine blk_drewN ?_ _ | refine blk_drew ?_ | refine blk_alloc ?_ _)); refine blk_put (cs := #[.string (⟨#[]⟩ : ByteArray), .int .i64 0]) ?_ 0 _ rfl; (with_reducible repeat (first | refine blk_drewN ?_ _ | refine blk_drew ?_ | refine blk_alloc ?_ _)); exact BK379.out) Try.underlying27 rfl (by kernel_rfl)) rfl ?_
  exact ⟨by first | rfl | (simp [errW_none, errW_some] <;> rfl) | (simp only [← hji2]; first | rfl | (simp [errW_none, errW_some] <;> rfl)) | (simp [*, errW_none, errW_some] <;> rfl), by repeat with_reducible first | exact HB.out | apply b1 | apply b2 | apply b3 | refine b4 ?_ GE379.out⟩
 rw [if_pos c8] at H
 have c8b0 : decide (x4_1 < (l0.length : Int)) = true := decide_eq_true c8
 clear c8
 obtain ⟨ji9, hji9⟩ : ∃ j_ : Int, (wrap64 (Int.tdiv x4_1 8)) = j_ := ⟨_, rfl⟩
 replace H : (if 0 ≤ (ji9) then (if (ji9) < (x3_1.length : Int) then (if 0 ≤ x4_1 then (if 0 ≤ (wrap64 (7 - (Int.tmod x4_1 8))) then (herbariumref1_List_Pack.l0 k1 l0 (x3_1.set ((ji9) : Int).toNat (Go.bits .or .u8 (rd x3_1 (ji9)) (shl .u8 (rd l0 x4_1) (wrap64 (7 - (Int.tmod x4_1 8)))))) (wrap64 (x4_1 + 1))) else (none)) else (none)) else (none)) else (none)) = some (r1, r2) := by first | (rw [hji9] at H; exact H) | (simp only [hji9] at H ⊢; exact H)
 have hji9w : (IntKind.i64.wrap (Int.tdiv x4_1 8)) = ji9 := (i64_w _).trans hji9
 by_cases c10 : 0 ≤ (ji9)
 rotate_left
 ·
  rw [if_neg c10] at H
  exact absurd H (by simp)
 rw [if_pos c10] at H
 have c10b0 : decide (0 ≤ (ji9)) = true := decide_eq_true c10
 clear c10
 by_cases c11 : (ji9) < (x3_1.length : Int)
 rotate_left
 ·
  rw [if_neg c11] at H
  exact absurd H (by simp)
 rw [if_pos c11] at H
 have c11b0 : decide ((ji9) < (x3_1.length : Int)) = true := decide_eq_true c11
 clear c11
 by_cases c12 : 0 ≤ x4_1
 rotate_left
 ·
  rw [if_neg c12] at H
  exact absurd H (by simp)
 rw [if_pos c12] at H
 have c12b0 : decide (0 ≤ x4_1) = true := decide_eq_true c12
 clear c12
 obtain ⟨ji13, hji13⟩ : ∃ j_ : Int, (wrap64 (7 - (Int.tmod x4_1 8))) = j_ := ⟨_, rfl⟩
 replace H : (if 0 ≤ (ji13) then (herbariumref1_List_Pack.l0 k1 l0 (x3_1.set ((ji9) : Int).toNat (Go.bits .or .u8 (rd x3_1 (ji9)) (shl .u8 (rd l0 x4_1) (ji13)))) (wrap64 (x4_1 + 1))) else (none)) = some (r1, r2) := by first | (rw [hji13] at H; exact H) | (simp only [hji13] at H ⊢; exact H)
 have hji13w : (IntKind.i64.wrap (7 - (Int.tmod x4_1 8))) = ji13 := (i64_w _).trans hji13
 by_cases c14 : 0 ≤ (ji13)
 rotate_left
 ·
  rw [if_neg c14] at H
  exact absurd H (by simp)
 rw [if_pos c14] at H
 have c14b0 := eq_true c14
 have c14b1 : decide (0 ≤ (ji13)) = true := decide_eq_true c14
 clear c14
 obtain ⟨ji15, hji15⟩ : ∃ j_ : Int, (shl .u8 (rd l0 x4_1) (ji13)) = j_ := ⟨_, rfl⟩
 replace H : (herbariumref1_List_Pack.l0 k1 l0 (x3_1.set ((ji9) : Int).toNat (Go.bits .or .u8 (rd x3_1 (ji9)) (ji15))) (wrap64 (x4_1 + 1))) = some (r1, r2) := by first | (rw [hji15] at H; exact H) | (simp only [hji15] at H ⊢; exact H)
 have hji15_ : (IntKind.u8.wrap ((rd l0 x4_1) * 2 ^ min (ji13).toNat 8)) = ji15 := hji15
 have hji15z : (ji13) ≤ 8 → (IntKind.u8.wrap ((rd l0 x4_1) * 2 ^ (ji13).toNat)) = ji15 := shl_small hji15
 obtain ⟨y385, hy385⟩ : ∃ y_ : List Int, y_ = (x3_1.set ((ji9) : Int).toNat (Go.bits .or .u8 (rd x3_1 (ji9)) (ji15))) := ⟨_, rfl⟩
 replace H : (herbariumref1_List_Pack.l0 k1 l0 y385 (wrap64 (x4_1 + 1))) = some (r1, r2) := by first | (rw [hy385]; with_reducible exact H) | (have H2_ := (Option.bind_some _ _).symm.trans H; rw [hy385]; with_reducible exact H2_) | (have H2_ := (Option.bind_some _ _).symm.trans H; with_reducible exact H2_) | with_reducible exact H | (rw [hy385]; exact H) | exact H
 have Ny385 := ak hy385
 clear hy385
 have H' := ak H
 clear H
 try go_wp2
 have n0_ := ak (Kd.R_drew HO_3.out)
 have n1_ := ak (blk_drew BK379.out)
 have n2_ := ak (below_drew1 HB.out)
 clear HO_3 BK379 HB
 have HO_3 := n0_; have BK379 := n1_; have HB := n2_
 clear n0_ n1_ n2_
 obtain ⟨Ao18, co18, eo18⟩ := Kd.R_slice HO_3.out
 (first | subst eo18 | (injection eo18 with f1_ f2_ f3_; have f4_ := f1_.symm; have f5_ := f3_.symm; clear f1_ f2_ f3_; subst f4_; subst f5_))
 have p383 : 0 ≤ ((ji9) : Int) := of_decide_eq_true (by first | (with_reducible assumption) | assumption)
 have q383 : (ji9) < (x3_1.length : Int) := of_decide_eq_true (by first | (with_reducible assumption) | assumption)
 obtain ⟨ad383, e383, hx383_0⟩ := Kd.at_int (Kd.R_reads' HO_3.out).2.2 (ji9) p383 q383
 cases e383
 replace p383 := eq_true p383
 replace q383 := eq_true q383
 have p384 : 0 ≤ (x4_1 : Int) := of_decide_eq_true (by first | (with_reducible assumption) | assumption)
 have q384 : x4_1 < (l0.length : Int) := of_decide_eq_true (by first | (with_reducible assumption) | assumption)
 obtain ⟨ad384, e384, hx384_0⟩ := Kd.at_int HR0.out x4_1 p384 q384
 have hw384_0 := hx384_0
 cases e384
 replace hx384_0 := (HB.out.cell (World.block_lt_of_cell? w _ hx384_0)).trans hx384_0
 replace p384 := eq_true p384
 replace q384 := eq_true q384
 have p16 : 0 ≤ ((ji9) : Int) := of_decide_eq_true (by first | (with_reducible assumption) | assumption)
 have q16 : ((ji9) : Int) < ((x3_1.length : Int) : Int) := of_decide_eq_true (by first | (with_reducible assumption) | assumption)
 obtain ⟨go16, co16, eo16, gb16, gl16, cl16, HG16⟩ := Kd.R_form HO_3.out (by omega)
 (first | cases eo16 | (injection eo16 with ea_ en_ ec_; (first | subst ea_ | (injection ea_ with ea_; subst ea_)); subst ec_; clear en_))
 have GB16 := ak gb16
 have GG16 := ak HG16
 clear gb16 gl16 HG16
 (first | simp only [add_plain] at hx383_0 | skip)
 obtain ⟨hx16_0, hf16_0⟩ := Kd.R_celln 0 HO_3.out ((ji9) : Int) p16 q16
 replace p16 := eq_true p16
 replace q16 := eq_true q16
 have HP19 := Kd.R_putn HO_3.out ((ji9) : Int) (Go.bits .or .u8 (rd x3_1 (ji9)) (ji15))
 rw [← Ny385.out] at HP19
 have HQ19 := ak HP19
 clear HP19
 refine start_ (n := 19) (S := fun w' => w'.cell? ⟨go16, ((ji9)).toNat, none⟩ = some (.int .u8 (rd x3_1 (ji9))) ∧ w'.cell? (ad384.add (x4_1).toNat) = some (.int .u8 (rd l0 x4_1))) (ds := [18]) #[false, false, false, false, false, false, false, false, false, false, false, false, false, false, false, false, false, false, false] (by kernel_rfl) rfl rfl ⟨hx383_0, ((HB.out.cell (World.block_lt_of_cell? w _ hw384_0)).trans hw384_0)⟩ (fun hHeld => ?_); refine with_tabW herbariumref1_List_Pack.tab5 herbariumref1_List_Pack.bits5 (fun HT_ HW_ => ?_)
 generalize wr.drew = w17 at HO_3 BK379 HB GG16 HQ19 hf16_0 hx16_0 hx383_0 hx384_0 hHeld ⊢
 refine pure_ (i := 0) (N := some 16) (v := ?_) (a' := ?_) #[true, false, false, false, false, false, false, false, false, false, false, false, false, false, false, false, false, false, false] rfl rfl (any_of HT_.out (by kernel_rfl)) (fun _ _ _ h => h) (Or.inl ⟨by rfl, ?_⟩) ?_ ?_
 rotate_left
 ·
  intro w'
  go_simp
  with_reducible rfl
 rotate_left
 ·
  simp only [Act.put, s1, s2, s3, i64_w, i32_w]
  rfl
 refine pure_ (i := 1) (N := some 17) (v := ?_) (a' := ?_) #[true, true, false, false, false, false, false, false, false, false, false, false, false, false, false, false, false, false, false] rfl rfl (any_of HT_.out (by kernel_rfl)) (fun _ _ _ h => h) (Or.inl ⟨by rfl, ?_⟩) ?_ ?_
 rotate_left
 ·
  intro w'
  go_simp
  with_reducible rfl
 rotate_left
 ·
  simp only [Act.put, s1, s2, s3, i64_w, i32_w]
  rfl
 refine pure_ (i := 2) (N := some 18) (v := ?_) (a' := ?_) #[true, true, true, false, false, false, false, false, false, false, false, false, false, false, false, false, false, false, false] rfl rfl (any_of HT_.out (by kernel_rfl)) (fun _ _ _ h => h) (Or.inl ⟨by rfl, ?_⟩) ?_ ?_
 rotate_left
 ·
  intro w'
  go_simp
  with_reducible rfl
 rotate_left
 ·
  simp only [Act.put, s1, s2, s3, i64_w, i32_w]
  rfl
 refine pure_ (i := 3) (N := some 19) (v := ?_) (a' := ?_) #[true, true, true, true, false, false, false, false, false, false, false, false, false, false, false, false, false, false, false] rfl rfl (any_of HT_.out (by kernel_rfl)) (fun _ _ _ h => h) (Or.inl ⟨by rfl, ?_⟩) ?_ ?_
 rotate_left
 ·
  intro w'
  go_simp
  with_reducible rfl
 rotate_left
 ·
  simp only [Act.put, s1, s2, s3, i64_w, i32_w]
  rfl
 refine pure_ (i := 4) (N := some 20) (v := ?_) (a' := ?_) #[true, true, true, true, true, false, false, false, false, false, false, false, false, false, false, false, false, false, false] rfl rfl (any_of HT_.out (by kernel_rfl)) (fun _ _ _ h => h) (Or.inl ⟨by rfl, ?_⟩) ?_ ?_
 rotate_left
 ·
  intro w'
  go_simp
  with_reducible rfl
 rotate_left
 ·
  simp only [Act.put, s1, s2, s3, i64_w, i32_w]
  rfl
 refine pure_ (i := 5) (N := some 21) (v := ?_) (a' := ?_) #[true, true, true, true, true, true, false, false, false, false, false, false, false, false, false, false, false, false, false] rfl rfl (any_of HT_.out (by kernel_rfl)) (fun _ _ _ h => h) (Or.inl ⟨by rfl, ?_⟩) ?_ ?_
 rotate_left
 ·
  intro w'
  go_simp
  with_reducible rfl
 rotate_left
 ·
  simp only [Act.put, s1, s2, s3, i64_w, i32_w]
  rfl
 refine pure_ (i := 6) (N := some 22) (v := ?_) (a' := ?_) #[true, true, true, true, true, true, true, false, false, false, false, false, false, false, false, false, false, false, false] rfl rfl (any_of HT_.out (by kernel_rfl)) (fun _ _ _ h => h) (Or.inl ⟨by rfl, ?_⟩) ?_ ?_
 rotate_left
 ·
  intro w'
  go_simp
  with_reducible rfl
 rotate_left
 ·
  simp only [Act.put, s1, s2, s3, i64_w, i32_w]
  rfl
 refine pure_ (i := 8) (N := some 24) (v := ?_) (a' := ?_) #[true, true, true, true, true, true, true, false, true, false, false, false, false, false, false, false, false, false, false] rfl rfl (any_of HT_.out (by kernel_rfl)) (fun _ _ _ h => h) (Or.inl ⟨by rfl, ?_⟩) ?_ ?_
 rotate_left
 ·
  intro w'
  go_simp
  with_reducible rfl
 rotate_left
 ·
  simp only [Act.put, s1, s2, s3, i64_w, i32_w]
  rfl
 refine pure_ (i := 9) (N := some 25) (v := ?_) (a' := ?_) #[true, true, true, true, true, true, true, false, true, true, false, false, false, false, false, false, false, false, false] rfl rfl (any_of HT_.out (by kernel_rfl)) (fun _ _ _ h => h) (Or.inl ⟨by rfl, ?_⟩) ?_ ?_
 rotate_left
 ·
  intro w'
  go_simp
  with_reducible rfl
 rotate_left
 ·
  simp only [Act.put, s1, s2, s3, i64_w, i32_w]
  rfl
 refine pure_ (i := 10) (N := some 26) (v := ?_) (a' := ?_) #[true, true, true, true, true, true, true, false, true, true, true, false, false, false, false, false, false, false, false] rfl rfl (any_of HT_.out (by kernel_rfl)) (fun _ _ _ h => h) (Or.inl ⟨by rfl, ?_⟩) ?_ ?_
 rotate_left
 ·
  intro w'
  go_simp
  with_reducible rfl
 rotate_left
 ·
  simp only [Act.put, s1, s2, s3, i64_w, i32_w]
  rfl
 refine pure_ (i := 12) (N := some 28) (v := ?_) (a' := ?_) #[true, true, true, true, true, true, true, false, true, true, true, false, true, false, false, false, false, false, false] rfl rfl (any_of HT_.out (by kernel_rfl)) (fun _ _ _ h => h) (Or.inl ⟨by rfl, ?_⟩) ?_ ?_
 rotate_left
 ·
  intro w'
  go_simp
  with_reducible rfl
 rotate_left
 ·
  simp only [Act.put, s1, s2, s3, i64_w, i32_w]
  rfl
 refine pure_ (i := 13) (N := some 29) (v := ?_) (a' := ?_) #[true, true, true, true, true, true, true, false, true, true, true, false, true, true, false, false, false, false, false] rfl rfl (any_of HT_.out (by kernel_rfl)) (fun _ _ _ h => h) (Or.inl ⟨by rfl, ?_⟩) ?_ ?_
 rotate_left
 ·
  intro w'
  go_simp
  with_reducible rfl
 rotate_left
 ·
  simp only [Act.put, s1, s2, s3, i64_w, i32_w]
  rfl
 refine pure_ (i := 14) (N := some 30) (v := ?_) (a' := ?_) #[true, true, true, true, true, true, true, false, true, true, true, false, true, true, true, false, false, false, false] rfl rfl (any_of HT_.out (by kernel_rfl)) (fun _ _ _ h => h) (Or.inl ⟨by rfl, ?_⟩) ?_ ?_
 rotate_left
 ·
  intro w'
  go_simp
  with_reducible rfl
 rotate_left
 ·
  simp only [Act.put, s1, s2, s3, i64_w, i32_w]
  rfl
 refine take_ (i := 7) (N := some 23) (v := ?_) (a' := ?_) #[true, true, true, true, true, true, true, true, true, true, true, false, true, true, true, false, false, false, false] rfl rfl (take_ofW HT_.out HW_.out (by kernel_rfl)) (fun _ _ _ h => h) (Or.inl ⟨by rfl, ?_⟩) hHeld ?_ ?_
 rotate_left
 ·
  rintro w' ⟨s0, s1⟩
  go_simp
  with_reducible rfl
 rotate_left
 ·
  simp only [Act.put, s1, s2, s3, i64_w, i32_w]
  rfl
 refine take_ (i := 11) (N := some 27) (v := ?_) (a' := ?_) #[true, true, true, true, true, true, true, true, true, true, true, true, true, true, true, false, false, false, false] rfl rfl (take_ofW HT_.out HW_.out (by kernel_rfl)) (fun _ _ _ h => h) (Or.inl ⟨by rfl, ?_⟩) hHeld ?_ ?_
 rotate_left
 ·
  rintro w' ⟨s0, s1⟩
  go_simp
  with_reducible rfl
 rotate_left
 ·
  simp only [Act.put, s1, s2, s3, i64_w, i32_w]
  rfl
 refine pure_ (i := 15) (N := some 31) (v := ?_) (a' := ?_) #[true, true, true, true, true, true, true, true, true, true, true, true, true, true, true, true, false, false, false] rfl rfl (any_of HT_.out (by kernel_rfl)) (fun _ _ _ h => h) (Or.inl ⟨by rfl, ?_⟩) ?_ ?_
 rotate_left
 ·
  intro w'
  go_simp
  with_reducible rfl
 rotate_left
 ·
  simp only [Act.put, s1, s2, s3, i64_w, i32_w]
  rfl
 refine pure_ (i := 16) (N := some 32) (v := ?_) (a' := ?_) #[true, true, true, true, true, true, true, true, true, true, true, true, true, true, true, true, true, false, false] rfl rfl (any_of HT_.out (by kernel_rfl)) (fun _ _ _ h => h) (Or.inl ⟨by rfl, ?_⟩) ?_ ?_
 rotate_left
 ·
  intro w'
  go_simp
  with_reducible rfl
 rotate_left
 ·
  simp only [Act.put, s1, s2, s3, i64_w, i32_w]
  rfl
 refine pure_ (i := 17) (N := some 33) (v := ?_) (a' := ?_) #[true, true, true, true, true, true, true, true, true, true, true, true, true, true, true, true, true, true, false] rfl rfl (any_of HT_.out (by kernel_rfl)) (fun _ _ _ h => h) (Or.inl ⟨by rfl, ?_⟩) ?_ ?_
 rotate_left
 ·
  intro w'
  go_simp
  with_reducible rfl
 rotate_left
 ·
  simp only [Act.put, s1, s2, s3, i64_w, i32_w]
  rfl
 refine last_ (i := 18) (N := none) #[true, true, true, true, true, true, true, true, true, true, true, true, true, true, true, true, true, true, true] rfl rfl (one_of HT_.out (by kernel_rfl)) (by decide) (fun K hK => ?_)
 refine skip_ (w1 := ?_) (by rfl) rfl ?_ ?_
 rotate_left
 ·
  go_simp
  rfl
 refine hK.out _ _ ?_
 clear hK K
 refine done_ (done_of HT_.out (by kernel_rfl)) ?_
 try go_wp2
 go_roundg k1
 case measure => have := HK1.out; omega
 case rel => exact ⟨(y385), (wrap64 (x4_1 + 1)), (by first | rfl | (simp; done) | (simp [*]; done)), H', ⟨by have := HK1.out; omega⟩, ⟨ur <| HQ19.out⟩, ⟨by (with_reducible repeat (first | refine blk_drewN ?_ _ | refine blk_drew ?_ | refine blk_alloc ?_ _)); refine blk_far ?_ (by have h_ := Kd.R_ne HO_3.out BK379.out (by decide); intro e_; exact h_ (by rw [e_]; rfl)) _; (with_reducible repeat (first | refine blk_drewN ?_ _ | refine blk_drew ?_ | refine blk_alloc ?_ _)); exact BK379.out⟩, ⟨by repeat (first | (with_reducible first | exact HB.out | apply below_alloc | apply pw_below_drewN | apply below_drew1 | refine below_set ?_ GB16.out | refine below_set ?_ GE379.out) | exact HB.out)⟩⟩
end Go.Proofs.Ytnpghcikhpglkaa.Q
namespace Go.Proofs.Ytnpghcikhpglkaa.Q
open Go.RowKit Go.Proofs.YtnpghcikhpglkaaW.PrintWords Go.Proofs.YtnpghcikhpglkaaW.PrintLast Go.Proofs.YtnpghcikhpglkaaW.PrintMore
attribute [local go_sem] max2_int min2_int max_two min_two max_three min_three max_four min_four   -- for this text's walks alone
set_option linter.unusedVariables false
set_option linter.unusedSimpArgs false

/-! ### herbariumref1_List_Get: function 57 -/
def herbariumref1_List_Get.l0 : Nat → List Int → Int → Int → Int → Int → Option (Int)
  | 0, _, _, _, _, _ => none
  | k + 1, x0, x1, x2, x7, x8 => if x8 < (wrap64 (x1 + x2)) then (if 0 ≤ x8 then (if x8 < (x0.length : Int) then (herbariumref1_List_Get.l0 k x0 x1 x2 (wrap64 ((wrap64 (2 * x7)) + (wrap64 (rd x0 x8)))) (wrap64 (x8 + 1))) else (none)) else (none)) else (some x7)
def herbariumref1_List_Get.f (k : Nat) (l0 : List Int) (a1 : Int) (a2 : Int) : Option (Int) := herbariumref1_List_Get.l0 k l0 a1 a2 0 a1
set_option maxHeartbeats 8000000 in
set_option maxRecDepth 100000 in
theorem herbariumref1_List_Get.calls (k : Nat) (A0 : Option Addr) (c0 : Nat) (l0 : List Int) (a1 : Int) (a2 : Int) (r : Int) (w : World) (hr0 : Kd.C (Kd.int .u8) w A0 l0.length l0) (hc0 : l0.length ≤ c0) (h : herbariumref1_List_Get.f k l0 a1 a2 = some r) :
    Calls Try.prog 57 #[.slice A0 l0.length c0, .int .i64 a1, .int .i64 a2] w fun e w' => e = .returned (.int .i64 r) ∧ Drawn0 w w' := by
 have HR0 := ak hr0
 have HC0 := ak hc0
 clear hr0 hc0
 have H : (herbariumref1_List_Get.l0 k l0 a1 a2 0 a1) = some r := h
 clear h
 have H' := ak H
 clear H
 go_enter Try.func57, Try.ntmps57
 go_wp2
 go_loopg [7, 8] k (fun kq v7 v8 w' => ∃ (x7_1 : Int) (x8_1 : Int), v7 = .int .i64 x7_1 ∧ v8 = .int .i64 x8_1 ∧ Aside0 (herbariumref1_List_Get.l0 kq l0 a1 a2 x7_1 x8_1 = some r) ∧ Aside0 (kq ≤ k) ∧ Drawn0 w w')
 case atStart => exact ⟨(0), (a1), (by first | rfl | (simp; done) | (simp [*]; done)), (by first | rfl | (simp; done) | (simp [*]; done)), H', ⟨Nat.le_refl _⟩, by repeat (first | exact Drawn0.refl _ | apply Drawn0.step)⟩
 clear H'
 obtain ⟨x7_1, x8_1, rfl, rfl, HA, HK1, ⟨m1, rfl⟩⟩ := hrel
 cases gk with
 | zero => exact absurd HA.out (by simp [herbariumref1_List_Get.l0])
 | succ k1 => ?_
 have H := HA.out
 clear HA
 simp only [herbariumref1_List_Get.l0] at H
 by_cases c4 : x8_1 < (wrap64 (a1 + a2))
 rotate_left
 ·
  rw [if_neg c4] at H
  have c4b0 : decide (x8_1 < (wrap64 (a1 + a2))) = false := decide_eq_false c4
  clear c4
  obtain rfl := Option.some.inj H
  go_wp2
  go_ret
  exact ⟨by first | rfl | (simp; done) | (simp [*]; done), by repeat (first | exact Drawn0.refl _ | apply Drawn0.step)⟩
 rw [if_pos c4] at H
 have c4b0 : decide (x8_1 < (wrap64 (a1 + a2))) = true := decide_eq_true c4
 clear c4
 by_cases c5 : 0 ≤ x8_1
 rotate_left
 ·
  rw [if_neg c5] at H
  exact absurd H (by simp)
 rw [if_pos c5] at H
 have c5b0 : decide (0 ≤ x8_1) = true := decide_eq_true c5
 clear c5
 by_cases c6 : x8_1 < (l0.length : Int)
 rotate_left
 ·
  rw [if_neg c6] at H
  exact absurd H (by simp)
 rw [if_pos c6] at H
 have c6b0 : decide (x8_1 < (l0.length : Int)) = true := decide_eq_true c6
 clear c6
 have H' := ak H
 clear H
 have p386 : 0 ≤ (x8_1 : Int) := of_decide_eq_true (by first | (with_reducible assumption) | assumption)
 have q386 : x8_1 < (l0.length : Int) := of_decide_eq_true (by first | (with_reducible assumption) | assumption)
 obtain ⟨ad386, e386, hx386_0⟩ := Kd.at_int HR0.out x8_1 p386 q386
 cases e386
 replace p386 := eq_true p386
 replace q386 := eq_true q386
 go_wp2
 go_roundg k1
 case measure => have := HK1.out; omega
 case rel => exact ⟨(wrap64 ((wrap64 (2 * x7_1)) + (wrap64 (rd l0 x8_1)))), (wrap64 (x8_1 + 1)), (by first | rfl | (simp; done) | (simp [*]; done)), (by first | rfl | (simp; done) | (simp [*]; done)), H', ⟨by have := HK1.out; omega⟩, by repeat (first | exact Drawn0.refl _ | apply Drawn0.step)⟩
end Go.Proofs.Ytnpghcikhpglkaa.Q
namespace Go.Proofs.Ytnpghcikhpglkaa.Q
open Go.RowKit Go.Proofs.YtnpghcikhpglkaaW.PrintWords Go.Proofs.YtnpghcikhpglkaaW.PrintLast Go.Proofs.YtnpghcikhpglkaaW.PrintMore
attribute [local go_sem] max2_int min2_int max_two min_two max_three min_three max_four min_four   -- for this text's walks alone
set_option linter.unusedVariables false
set_option linter.unusedSimpArgs false

/-! ### code_Is: function 102 -/
def code_Is.f (a0 : Int) : Option (Bool) := if a0 ≥ 1 then (some (decide (a0 ≤ 5))) else (some false)
set_option maxHeartbeats 8000000 in
set_option maxRecDepth 100000 in
theorem code_Is.calls (a0 : Int) (r : Bool) (w : World) (h : code_Is.f a0 = some r) :
    Calls Try.prog 102 #[.int .i64 a0] w fun e w' => e = .returned (.bool r) ∧ Drawn0 w w' := by
 have H : (if a0 ≥ 1 then (some (decide (a0 ≤ 5))) else (some false)) = some r := h
 clear h
 by_cases c2 : a0 ≥ 1
 ·
  rw [if_pos c2] at H
  have c2b0 : decide (1 ≤ a0) = true := decide_eq_true c2
  clear c2
  obtain rfl := Option.some.inj H
  go_enter Try.func102, Try.ntmps102
  go_wp2
  go_ret
  exact ⟨by first | rfl | (simp; done) | (simp [*]; done), by repeat (first | exact Drawn0.refl _ | apply Drawn0.step)⟩
 rw [if_neg c2] at H
 have c2b0 : decide (1 ≤ a0) = false := decide_eq_false c2
 clear c2
 obtain rfl := Option.some.inj H
 go_enter Try.func102, Try.ntmps102
 go_wp2
 go_ret
 exact ⟨by first | rfl | (simp; done) | (simp [*]; done), by repeat (first | exact Drawn0.refl _ | apply Drawn0.step)⟩
end Go.Proofs.Ytnpghcikhpglkaa.Q
namespace Go.Proofs.Ytnpghcikhpglkaa.Q
open Go.RowKit Go.Proofs.YtnpghcikhpglkaaW.PrintWords Go.Proofs.YtnpghcikhpglkaaW.PrintLast Go.Proofs.YtnpghcikhpglkaaW.PrintMore
attribute [local go_sem] max2_int min2_int max_two min_two max_three min_three max_four min_four   -- for this text's walks alone
set_option linter.unusedVariables false
set_option linter.unusedSimpArgs false

/-! ### code_number: function 103 -/
def code_number.f (a0 : Int) (a1 : Int) : Option (Bool) := if a0 = 1 then (if a1 ≥ 1 then (some (decide (a1 ≤ 1000))) else (some false)) else (if a1 ≥ 1 then (some (decide (a1 ≤ 1073741824))) else (some false))
set_option maxHeartbeats 8000000 in
set_option maxRecDepth 100000 in
theorem code_number.calls (a0 : Int) (a1 : Int) (r : Bool) (w : World) (h : code_number.f a0 a1 = some r) :
    Calls Try.prog 103 #[.int .i64 a0, .int .i64 a1] w fun e w' => e = .returned (.bool r) ∧ Drawn0 w w' := by
 have H : (if a0 = 1 then (if a1 ≥ 1 then (some (decide (a1 ≤ 1000))) else (some false)) else (if a1 ≥ 1 then (some (decide (a1 ≤ 1073741824))) else (some false))) = some r := h
 clear h
 by_cases c3 : a0 = 1
 rotate_left
 ·
  rw [if_neg c3] at H
  have c3b0 : (a0 == 1) = false := beq_eq_false_iff_ne.mpr c3
  have c3b1 : (a0 != 1) = true := bne_iff_ne.mpr c3
  by_cases c5 : a1 ≥ 1
  ·
   rw [if_pos c5] at H
   have c5b0 : decide (1 ≤ a1) = true := decide_eq_true c5
   clear c5
   obtain rfl := Option.some.inj H
   go_enter Try.func103, Try.ntmps103
   go_wp2
   go_ret
   exact ⟨by first | rfl | (simp; done) | (simp [*]; done), by repeat (first | exact Drawn0.refl _ | apply Drawn0.step)⟩
  rw [if_neg c5] at H
  have c5b0 : decide (1 ≤ a1) = false := decide_eq_false c5
  clear c5
  obtain rfl := Option.some.inj H
  go_enter Try.func103, Try.ntmps103
  go_wp2
  go_ret
  exact ⟨by first | rfl | (simp; done) | (simp [*]; done), by repeat (first | exact Drawn0.refl _ | apply Drawn0.step)⟩
 rw [if_pos c3] at H
 have c3b0 : (a0 == 1) = true := beq_iff_eq.mpr c3
 have c3b1 : (a0 != 1) = false := bne_eq_false_iff_eq.mpr c3
 clear c3
 by_cases c4 : a1 ≥ 1
 ·
  rw [if_pos c4] at H
  have c4b0 : decide (1 ≤ a1) = true := decide_eq_true c4
  clear c4
  obtain rfl := Option.some.inj H
  go_enter Try.func103, Try.ntmps103
  go_wp2
  go_ret
  exact ⟨by first | rfl | (simp; done) | (simp [*]; done), by repeat (first | exact Drawn0.refl _ | apply Drawn0.step)⟩
 rw [if_neg c4] at H
 have c4b0 : decide (1 ≤ a1) = false := decide_eq_false c4
 clear c4
 obtain rfl := Option.some.inj H
 go_enter Try.func103, Try.ntmps103
 go_wp2
 go_ret
 exact ⟨by first | rfl | (simp; done) | (simp [*]; done), by repeat (first | exact Drawn0.refl _ | apply Drawn0.step)⟩
end Go.Proofs.Ytnpghcikhpglkaa.Q
namespace Go.Proofs.Ytnpghcikhpglkaa.Q
open Go.RowKit Go.Proofs.YtnpghcikhpglkaaW.PrintWords Go.Proofs.YtnpghcikhpglkaaW.PrintLast Go.Proofs.YtnpghcikhpglkaaW.PrintMore
attribute [local go_sem] max2_int min2_int max_two min_two max_three min_three max_four min_four   -- for this text's walks alone
set_option linter.unusedVariables false
set_option linter.unusedSimpArgs false

/-! ### code_parts: function 118 -/
def code_parts.f (a0 : Int) : Option (Int) := some (wrap64 ((wrap64 (a0 - 4)) + 2))
set_option maxHeartbeats 8000000 in
set_option maxRecDepth 100000 in
theorem code_parts.calls (a0 : Int) (r : Int) (w : World) (h : code_parts.f a0 = some r) :
    Calls Try.prog 118 #[.int .i64 a0] w fun e w' => e = .returned (.int .i64 r) ∧ Drawn0 w w' := by
 have H : (some (wrap64 ((wrap64 (a0 - 4)) + 2))) = some r := h
 clear h
 obtain rfl := Option.some.inj H
 go_enter Try.func118, Try.ntmps118
 go_wp2
 go_ret
 exact ⟨by first | rfl | (simp; done) | (simp [*]; done), by repeat (first | exact Drawn0.refl _ | apply Drawn0.step)⟩
end Go.Proofs.Ytnpghcikhpglkaa.Q
namespace Go.Proofs.Ytnpghcikhpglkaa.Q
open Go.RowKit Go.Proofs.YtnpghcikhpglkaaW.PrintWords Go.Proofs.YtnpghcikhpglkaaW.PrintLast Go.Proofs.YtnpghcikhpglkaaW.PrintMore
attribute [local go_sem] max2_int min2_int max_two min_two max_three min_three max_four min_four   -- for this text's walks alone
set_option linter.unusedVariables false
set_option linter.unusedSimpArgs false

/-! ### bits_May: function 86 -/
def bits_May.f (a0_0 : ByteArray) (a0_1 : Int) : Option (Bool) := if a0_1 < 0 then (some false) else (if a0_1 > 6000 then (some false) else (if (a0_0.size : Int) = (wrap64 (Int.tdiv (wrap64 ((wrap64 (a0_1 + 8)) - 1)) 8)) then (if (Int.tmod a0_1 8) = 0 then (some true) else (if 0 ≤ (wrap64 ((a0_0.size : Int) - 1)) then (if (wrap64 ((a0_0.size : Int) - 1)) < (a0_0.size : Int) then (if 0 ≤ (Int.tmod a0_1 8) then (some ((Go.bits .and .u8 (bt a0_0 (wrap64 ((a0_0.size : Int) - 1))) (shr .u8 255 (Int.tmod a0_1 8))) == 0)) else (none)) else (none)) else (none))) else (some false)))
set_option maxHeartbeats 8000000 in
set_option maxRecDepth 100000 in
theorem bits_May.calls (a0_0 : ByteArray) (a0_1 : Int) (r : Bool) (w : World) (h : bits_May.f a0_0 a0_1 = some r) :
    Calls Try.prog 86 #[.agg #[.string a0_0, .int .i64 a0_1]] w fun e w' => e = .returned (.bool r) ∧ Below w.heap.size w w' := by
 have hu27 := Try.underlying27
 have HB := ak (Below.refl w.heap.size w)
 have H : (if a0_1 < 0 then (some false) else (if a0_1 > 6000 then (some false) else (if (a0_0.size : Int) = (wrap64 (Int.tdiv (wrap64 ((wrap64 (a0_1 + 8)) - 1)) 8)) then (if (Int.tmod a0_1 8) = 0 then (some true) else (if 0 ≤ (wrap64 ((a0_0.size : Int) - 1)) then (if (wrap64 ((a0_0.size : Int) - 1)) < (a0_0.size : Int) then (if 0 ≤ (Int.tmod a0_1 8) then (some ((Go.bits .and .u8 (bt a0_0 (wrap64 ((a0_0.size : Int) - 1))) (shr .u8 255 (Int.tmod a0_1 8))) == 0)) else (none)) else (none)) else (none))) else (some false)))) = some r := h
 clear h
 by_cases c2 : a0_1 < 0
 ·
  rw [if_pos c2] at H
  have c2b0 : decide (a0_1 < 0) = true := decide_eq_true c2
  clear c2
  obtain rfl := Option.some.inj H
  go_enter Try.func86, Try.ntmps86
  go_wp2_with (first | ((with_reducible refine gate_dst (N := 1) rfl ?_); (try (refine gate_guard (by rfl) ?_; dsimp only)); refine box_event ?hg (N := 1) ?hd (cs := #[.string a0_0, .int .i64 a0_1]) (t := 27) ?hr ?_; (case hd => rfl); (case hg => rfl); (case hr => first | (go_simp; done) | (go_simp; rfl)); intro gb101 hg w3 hbox hb; have n0_ := ak (below_step (ul HB.out) hb); have n1_ := ak (hbox); have n2_ := ak ((by rw [hg]; exact (below_size (ul HB.out)) : w.heap.size ≤ gb101)); have n3_ := ak ((by rw [hg]; exact (below_size (ul HB.out)) : w.heap.size ≤ gb101)); clear HB; have HB := n0_; have BK101 := n1_; have GW101 := n2_; have GE101 := n3_; clear n0_ n1_ n2_ n3_; clear hb hbox hg; have hcz4_0 : w3.cell? ⟨gb101, 0, none⟩ = some (.string a0_0) := (blk_cell BK101.out 0).trans rfl; have hcz4_1 : w3.cell? ⟨gb101, 1, none⟩ = some (.int .i64 a0_1) := (blk_cell BK101.out 1).trans rfl; have hfz4_0 := blk_frozen BK101.out 0; have hfz4_1 := blk_frozen BK101.out 1))
  repeat (go_quiet (first | ((with_reducible refine gate_dst (N := 1) rfl ?_); (try (refine gate_guard (by rfl) ?_; dsimp only)); refine box_event ?hg (N := 1) ?hd (cs := #[.string a0_0, .int .i64 a0_1]) (t := 27) ?hr ?_; (case hd => rfl); (case hg => rfl); (case hr => first | (go_simp; done) | (go_simp; rfl)); intro gb101 hg w3 hbox hb; have n0_ := ak (below_step (ul HB.out) hb); have n1_ := ak (hbox); have n2_ := ak ((by rw [hg]; exact (below_size (ul HB.out)) : w.heap.size ≤ gb101)); have n3_ := ak ((by rw [hg]; exact (below_size (ul HB.out)) : w.heap.size ≤ gb101)); clear HB; have HB := n0_; have BK101 := n1_; have GW101 := n2_; have GE101 := n3_; clear n0_ n1_ n2_ n3_; clear hb hbox hg; have hcz4_0 : w3.cell? ⟨gb101, 0, none⟩ = some (.string a0_0) := (blk_cell BK101.out 0).trans rfl; have hcz4_1 : w3.cell? ⟨gb101, 1, none⟩ = some (.int .i64 a0_1) := (blk_cell BK101.out 1).trans rfl; have hfz4_0 := blk_frozen BK101.out 0; have hfz4_1 := blk_frozen BK101.out 1)); try go_wp2_with (first | ((with_reducible refine gate_dst (N := 1) rfl ?_); (try (refine gate_guard (by rfl) ?_; dsimp only)); refine box_event ?hg (N := 1) ?hd (cs := #[.string a0_0, .int .i64 a0_1]) (t := 27) ?hr ?_; (case hd => rfl); (case hg => rfl); (case hr => first | (go_simp; done) | (go_simp; rfl)); intro gb101 hg w3 hbox hb; have n0_ := ak (below_step (ul HB.out) hb); have n1_ := ak (hbox); have n2_ := ak ((by rw [hg]; exact (below_size (ul HB.out)) : w.heap.size ≤ gb101)); have n3_ := ak ((by rw [hg]; exact (below_size (ul HB.out)) : w.heap.size ≤ gb101)); clear HB; have HB := n0_; have BK101 := n1_; have GW101 := n2_; have GE101 := n3_; clear n0_ n1_ n2_ n3_; clear hb hbox hg; have hcz4_0 : w3.cell? ⟨gb101, 0, none⟩ = some (.string a0_0) := (blk_cell BK101.out 0).trans rfl; have hcz4_1 : w3.cell? ⟨gb101, 1, none⟩ = some (.int .i64 a0_1) := (blk_cell BK101.out 1).trans rfl; have hfz4_0 := blk_frozen BK101.out 0; have hfz4_1 := blk_frozen BK101.out 1)))
  go_ret
  exact ⟨by first | rfl | (simp [errW_none, errW_some] <;> rfl) | (simp [*, errW_none, errW_some] <;> rfl), by repeat with_reducible first | exact HB.out | apply b1 | apply b2 | apply b3 | refine b4 ?_ GE101.out⟩
 rw [if_neg c2] at H
 have c2b0 : decide (a0_1 < 0) = false := decide_eq_false c2
 clear c2
 by_cases c5 : a0_1 > 6000
 ·
  rw [if_pos c5] at H
  have c5b0 : decide (6000 < a0_1) = true := decide_eq_true c5
  clear c5
  obtain rfl := Option.some.inj H
  go_enter Try.func86, Try.ntmps86
  go_wp2_with (first | ((with_reducible refine gate_dst (N := 1) rfl ?_); (try (refine gate_guard (by rfl) ?_; dsimp only)); refine box_event ?hg (N := 1) ?hd (cs := #[.string a0_0, .int .i64 a0_1]) (t := 27) ?hr ?_; (case hd => rfl); (case hg => rfl); (case hr => first | (go_simp; done) | (go_simp; rfl)); intro gb101 hg w6 hbox hb; have n0_ := ak (below_step (ul HB.out) hb); have n1_ := ak (hbox); have n2_ := ak ((by rw [hg]; exact (below_size (ul HB.out)) : w.heap.size ≤ gb101)); have n3_ := ak ((by rw [hg]; exact (below_size (ul HB.out)) : w.heap.size ≤ gb101)); clear HB; have HB := n0_; have BK101 := n1_; have GW101 := n2_; have GE101 := n3_; clear n0_ n1_ n2_ n3_; clear hb hbox hg; have hcz7_0 : w6.cell? ⟨gb101, 0, none⟩ = some (.string a0_0) := (blk_cell BK101.out 0).trans rfl; have hcz7_1 : w6.cell? ⟨gb101, 1, none⟩ = some (.int .i64 a0_1) := (blk_cell BK101.out 1).trans rfl; have hfz7_0 := blk_frozen BK101.out 0; have hfz7_1 := blk_frozen BK101.out 1))
  repeat (go_quiet (first | ((with_reducible refine gate_dst (N := 1) rfl ?_); (try (refine gate_guard (by rfl) ?_; dsimp only)); refine box_event ?hg (N := 1) ?hd (cs := #[.string a0_0, .int .i64 a0_1]) (t := 27) ?hr ?_; (case hd => rfl); (case hg => rfl); (case hr => first | (go_simp; done) | (go_simp; rfl)); intro gb101 hg w6 hbox hb; have n0_ := ak (below_step (ul HB.out) hb); have n1_ := ak (hbox); have n2_ := ak ((by rw [hg]; exact (below_size (ul HB.out)) : w.heap.size ≤ gb101)); have n3_ := ak ((by rw [hg]; exact (below_size (ul HB.out)) : w.heap.size ≤ gb101)); clear HB; have HB := n0_; have BK101 := n1_; have GW101 := n2_; have GE101 := n3_; clear n0_ n1_ n2_ n3_; clear hb hbox hg; have hcz7_0 : w6.cell? ⟨gb101, 0, none⟩ = some (.string a0_0) := (blk_cell BK101.out 0).trans rfl; have hcz7_1 : w6.cell? ⟨gb101, 1, none⟩ = some (.int .i64 a0_1) := (blk_cell BK101.out 1).trans rfl; have hfz7_0 := blk_frozen BK101.out 0; have hfz7_1 := blk_frozen BK101.out 1)); try go_wp2_with (first | ((with_reducible refine gate_dst (N := 1) rfl ?_); (try (refine gate_guard (by rfl) ?_; dsimp only)); refine box_event ?hg (N := 1) ?hd (cs := #[.string a0_0, .int .i64 a0_1]) (t := 27) ?hr ?_; (case hd => rfl); (case hg => rfl); (case hr => first | (go_simp; done) | (go_simp; rfl)); intro gb101 hg w6 hbox hb; have n0_ := ak (below_step (ul HB.out) hb); have n1_ := ak (hbox); have n2_ := ak ((by rw [hg]; exact (below_size (ul HB.out)) : w.heap.size ≤ gb101)); have n3_ := ak ((by rw [hg]; exact (below_size (ul HB.out)) : w.heap.size ≤ gb101)); clear HB; have HB := n0_; have BK101 := n1_; have GW101 := n2_; have GE101 := n3_; clear n0_ n1_ n2_ n3_; clear hb hbox hg; have hcz7_0 : w6.cell? ⟨gb101, 0, none⟩ = some (.string a0_0) := (blk_cell BK101.out 0).trans rfl; have hcz7_1 : w6.cell? ⟨gb101, 1, none⟩ = some (.int .i64 a0_1) := (blk_cell BK101.out 1).trans rfl; have hfz7_0 := blk_frozen BK101.out 0; have hfz7_1 := blk_frozen BK101.out 1)))
  go_ret
  exact ⟨by first | rfl | (simp [errW_none, errW_some] <;> rfl) | (simp [*, errW_none, errW_some] <;> rfl), by repeat with_reducible first | exact HB.out | apply b1 | apply b2 | apply b3 | refine b4 ?_ GE101.out⟩
 rw [if_neg c5] at H
 have c5b0 : decide (6000 < a0_1) = false := decide_eq_false c5
 clear c5
 by_cases c8 : (a0_0.size : Int) = (wrap64 (Int.tdiv (wrap64 ((wrap64 (a0_1 + 8)) - 1)) 8))
 rotate_left
 ·
  rw [if_neg c8] at H
  have c8b0 : ((a0_0.size : Int) == (wrap64 (Int.tdiv (wrap64 ((wrap64 (a0_1 + 8)) - 1)) 8))) = false := beq_eq_false_iff_ne.mpr c8
  have c8b1 : ((a0_0.size : Int) != (wrap64 (Int.tdiv (wrap64 ((wrap64 (a0_1 + 8)) - 1)) 8))) = true := bne_iff_ne.mpr c8
  obtain rfl := Option.some.inj H
  go_enter Try.func86, Try.ntmps86
  go_wp2_with (first | ((with_reducible refine gate_dst (N := 1) rfl ?_); (try (refine gate_guard (by rfl) ?_; dsimp only)); refine box_event ?hg (N := 1) ?hd (cs := #[.string a0_0, .int .i64 a0_1]) (t := 27) ?hr ?_; (case hd => rfl); (case hg => rfl); (case hr => first | (go_simp; done) | (go_simp; rfl)); intro gb101 hg w21 hbox hb; have n0_ := ak (below_step (ul HB.out) hb); have n1_ := ak (hbox); have n2_ := ak ((by rw [hg]; exact (below_size (ul HB.out)) : w.heap.size ≤ gb101)); have n3_ := ak ((by rw [hg]; exact (below_size (ul HB.out)) : w.heap.size ≤ gb101)); clear HB; have HB := n0_; have BK101 := n1_; have GW101 := n2_; have GE101 := n3_; clear n0_ n1_ n2_ n3_; clear hb hbox hg; have hcz22_0 : w21.cell? ⟨gb101, 0, none⟩ = some (.string a0_0) := (blk_cell BK101.out 0).trans rfl; have hcz22_1 : w21.cell? ⟨gb101, 1, none⟩ = some (.int .i64 a0_1) := (blk_cell BK101.out 1).trans rfl; have hfz22_0 := blk_frozen BK101.out 0; have hfz22_1 := blk_frozen BK101.out 1))
  repeat (go_quiet (first | ((with_reducible refine gate_dst (N := 1) rfl ?_); (try (refine gate_guard (by rfl) ?_; dsimp only)); refine box_event ?hg (N := 1) ?hd (cs := #[.string a0_0, .int .i64 a0_1]) (t := 27) ?hr ?_; (case hd => rfl); (case hg => rfl); (case hr => first | (go_simp; done) | (go_simp; rfl)); intro gb101 hg w21 hbox hb; have n0_ := ak (below_step (ul HB.out) hb); have n1_ := ak (hbox); have n2_ := ak ((by rw [hg]; exact (below_size (ul HB.out)) : w.heap.size ≤ gb101)); have n3_ := ak ((by rw [hg]; exact (below_size (ul HB.out)) : w.heap.size ≤ gb101)); clear HB; have HB := n0_; have BK101 := n1_; have GW101 := n2_; have GE101 := n3_; clear n0_ n1_ n2_ n3_; clear hb hbox hg; have hcz22_0 : w21.cell? ⟨gb101, 0, none⟩ = some (.string a0_0) := (blk_cell BK101.out 0).trans rfl; have hcz22_1 : w21.cell? ⟨gb101, 1, none⟩ = some (.int .i64 a0_1) := (blk_cell BK101.out 1).trans rfl; have hfz22_0 := blk_frozen BK101.out 0; have hfz22_1 := blk_frozen BK101.out 1)); try go_wp2_with (first | ((with_reducible refine gate_dst (N := 1) rfl ?_); (try (refine gate_guard (by rfl) ?_; dsimp only)); refine box_event ?hg (N := 1) ?hd (cs := #[.string a0_0, .int .i64 a0_1]) (t := 27) ?hr ?_; (case hd => rfl); (case hg => rfl); (case hr => first | (go_simp; done) | (go_simp; rfl)); intro gb101 hg w21 hbox hb; have n0_ := ak (below_step (ul HB.out) hb); have n1_ := ak (hbox); have n2_ := ak ((by rw [hg]; exact (below_size (ul HB.out)) : w.heap.size ≤ gb101)); have n3_ := ak ((by rw [hg]; exact (below_size (ul HB.out)) : w.heap.size ≤ gb101)); clear HB; have HB := n0_; have BK101 := n1_; have GW101 := n2_; have GE101 := n3_; clear n0_ n1_ n2_ n3_; clear hb hbox hg; have hcz22_0 : w21.cell? ⟨gb101, 0, none⟩ = some (.string a0_0) := (blk_cell BK101.out 0).trans rfl; have hcz22_1 : w21.cell? ⟨gb101, 1, none⟩ = some (.int .i64 a0_1) := (blk_cell BK101.out 1).trans rfl; have hfz22_0 := blk_frozen BK101.out 0; have hfz22_1 := blk_frozen BK101.out 1)))
  go_ret
  exact ⟨by first | rfl | (simp [errW_none, errW_some] <;> rfl) | (simp [*, errW_none, errW_some] <;> rfl), by repeat with_reducible first | exact HB.out | apply b1 | apply b2 | apply b3 | refine b4 ?_ GE101.out⟩
 rw [if_pos c8] at H
 have c8b0 : ((a0_0.size : Int) == (wrap64 (Int.tdiv (wrap64 ((wrap64 (a0_1 + 8)) - 1)) 8))) = true := beq_iff_eq.mpr c8
 have c8b1 : ((a0_0.size : Int) != (wrap64 (Int.tdiv (wrap64 ((wrap64 (a0_1 + 8)) - 1)) 8))) = false := bne_eq_false_iff_eq.mpr c8
 clear c8
 by_cases c9 : (Int.tmod a0_1 8) = 0
 ·
  rw [if_pos c9] at H
  have c9b0 : ((Int.tmod a0_1 8) == 0) = true := beq_iff_eq.mpr c9
  have c9b1 : ((Int.tmod a0_1 8) != 0) = false := bne_eq_false_iff_eq.mpr c9
  clear c9
  obtain rfl := Option.some.inj H
  go_enter Try.func86, Try.ntmps86
  go_wp2_with (first | ((with_reducible refine gate_dst (N := 1) rfl ?_); (try (refine gate_guard (by rfl) ?_; dsimp only)); refine box_event ?hg (N := 1) ?hd (cs := #[.string a0_0, .int .i64 a0_1]) (t := 27) ?hr ?_; (case hd => rfl); (case hg => rfl); (case hr => first | (go_simp; done) | (go_simp; rfl)); intro gb101 hg w10 hbox hb; have n0_ := ak (below_step (ul HB.out) hb); have n1_ := ak (hbox); have n2_ := ak ((by rw [hg]; exact (below_size (ul HB.out)) : w.heap.size ≤ gb101)); have n3_ := ak ((by rw [hg]; exact (below_size (ul HB.out)) : w.heap.size ≤ gb101)); clear HB; have HB := n0_; have BK101 := n1_; have GW101 := n2_; have GE101 := n3_; clear n0_ n1_ n2_ n3_; clear hb hbox hg; have hcz11_0 : w10.cell? ⟨gb101, 0, none⟩ = some (.string a0_0) := (blk_cell BK101.out 0).trans rfl; have hcz11_1 : w10.cell? ⟨gb101, 1, none⟩ = some (.int .i64 a0_1) := (blk_cell BK101.out 1).trans rfl; have hfz11_0 := blk_frozen BK101.out 0; have hfz11_1 := blk_frozen BK101.out 1))
  repeat (go_quiet (first | ((with_reducible refine gate_dst (N := 1) rfl ?_); (try (refine gate_guard (by rfl) ?_; dsimp only)); refine box_event ?hg (N := 1) ?hd (cs := #[.string a0_0, .int .i64 a0_1]) (t := 27) ?hr ?_; (case hd => rfl); (case hg => rfl); (case hr => first | (go_simp; done) | (go_simp; rfl)); intro gb101 hg w10 hbox hb; have n0_ := ak (below_step (ul HB.out) hb); have n1_ := ak (hbox); have n2_ := ak ((by rw [hg]; exact (below_size (ul HB.out)) : w.heap.size ≤ gb101)); have n3_ := ak ((by rw [hg]; exact (below_size (ul HB.out)) : w.heap.size ≤ gb101)); clear HB; have HB := n0_; have BK101 := n1_; have GW101 := n2_; have GE101 := n3_; clear n0_ n1_ n2_ n3_; clear hb hbox hg; have hcz11_0 : w10.cell? ⟨gb101, 0, none⟩ = some (.string a0_0) := (blk_cell BK101.out 0).trans rfl; have hcz11_1 : w10.cell? ⟨gb101, 1, none⟩ = some (.int .i64 a0_1) := (blk_cell BK101.out 1).trans rfl; have hfz11_0 := blk_frozen BK101.out 0; have hfz11_1 := blk_frozen BK101.out 1)); try go_wp2_with (first | ((with_reducible refine gate_dst (N := 1) rfl ?_); (try (refine gate_guard (by rfl) ?_; dsimp only)); refine box_event ?hg (N := 1) ?hd (cs := #[.string a0_0, .int .i64 a0_1]) (t := 27) ?hr ?_; (case hd => rfl); (case hg => rfl); (case hr => first | (go_simp; done) | (go_simp; rfl)); intro gb101 hg w10 hbox hb; have n0_ := ak (below_step (ul HB.out) hb); have n1_ := ak (hbox); have n2_ := ak ((by rw [hg]; exact (below_size (ul HB.out)) : w.heap.size ≤ gb101)); have n3_ := ak ((by rw [hg]; exact (below_size (ul HB.out)) : w.heap.size ≤ gb101)); clear HB; have HB := n0_; have BK101 := n1_; have GW101 := n2_; have GE101 := n3_; clear n0_ n1_ n2_ n3_; clear hb hbox hg; have hcz11_0 : w10.cell? ⟨gb101, 0, none⟩ = some (.string a0_0) := (blk_cell BK101.out 0).trans rfl; have hcz11_1 : w10.cell? ⟨gb101, 1, none⟩ = some (.int .i64 a0_1) := (blk_cell BK101.out 1).trans rfl; have hfz11_0 := blk_frozen BK101.out 0; have hfz11_1 := blk_frozen BK101.out 1)))
  go_ret
  exact ⟨by first | rfl | (simp [errW_none, errW_some] <;> rfl) | (simp [*, errW_none, errW_some] <;> rfl), by repeat with_reducible first | exact HB.out | apply b1 | apply b2 | apply b3 | refine b4 ?_ GE101.out⟩
 rw [if_neg c9] at H
 have c9b0 : ((Int.tmod a0_1 8) == 0) = false := beq_eq_false_iff_ne.mpr c9
 have c9b1 : ((Int.tmod a0_1 8) != 0) = true := bne_iff_ne.mpr c9
 obtain ⟨ji12, hji12⟩ : ∃ j_ : Int, (wrap64 ((a0_0.size : Int) - 1)) = j_ := ⟨_, rfl⟩
 replace H : (if 0 ≤ (ji12) then (if (ji12) < (a0_0.size : Int) then (if 0 ≤ (Int.tmod a0_1 8) then (some ((Go.bits .and .u8 (bt a0_0 (ji12)) (shr .u8 255 (Int.tmod a0_1 8))) == 0)) else (none)) else (none)) else (none)) = some r := by first | (rw [hji12] at H; exact H) | (simp only [hji12] at H ⊢; exact H)
 have hji12w : (IntKind.i64.wrap ((a0_0.size : Int) - 1)) = ji12 := (i64_w _).trans hji12
 by_cases c13 : 0 ≤ (ji12)
 rotate_left
 ·
  rw [if_neg c13] at H
  exact absurd H (by simp)
 rw [if_pos c13] at H
 have c13b0 : decide (0 ≤ (ji12)) = true := decide_eq_true c13
 clear c13
 by_cases c14 : (ji12) < (a0_0.size : Int)
 rotate_left
 ·
  rw [if_neg c14] at H
  exact absurd H (by simp)
 rw [if_pos c14] at H
 have c14b0 : decide ((ji12) < (a0_0.size : Int)) = true := decide_eq_true c14
 clear c14
 obtain ⟨ji16, hji16⟩ : ∃ j_ : Int, (Int.tmod a0_1 8) = j_ := ⟨_, rfl⟩
 replace H : (if 0 ≤ (ji16) then (some ((Go.bits .and .u8 (bt a0_0 (ji12)) (shr .u8 255 (ji16))) == 0)) else (none)) = some r := by first | (rw [hji16] at H; exact H) | (simp only [hji16] at H ⊢; exact H)
 (try rw [hji16] at c9b0)
 (try rw [hji16] at c9b1)
 by_cases c17 : 0 ≤ (ji16)
 rotate_left
 ·
  rw [if_neg c17] at H
  exact absurd H (by simp)
 rw [if_pos c17] at H
 have c17b0 := eq_true c17
 have c17b1 : decide (0 ≤ (ji16)) = true := decide_eq_true c17
 clear c17
 obtain ⟨ji18, hji18⟩ : ∃ j_ : Int, (shr .u8 255 (ji16)) = j_ := ⟨_, rfl⟩
 replace H : (some ((Go.bits .and .u8 (bt a0_0 (ji12)) (ji18)) == 0)) = some r := by first | (rw [hji18] at H; exact H) | (simp only [hji18] at H ⊢; exact H)
 have hji18_ : (255 / 2 ^ min (ji16).toNat 8) = ji18 := hji18
 have hji18z : (ji16) ≤ 8 → (255 / 2 ^ (ji16).toNat) = ji18 := shr_small hji18
 obtain rfl := Option.some.inj H
 go_enter Try.func86, Try.ntmps86
 go_wp2_with (first | ((with_reducible refine gate_dst (N := 1) rfl ?_); (try (refine gate_guard (by rfl) ?_; dsimp only)); refine box_event ?hg (N := 1) ?hd (cs := #[.string a0_0, .int .i64 a0_1]) (t := 27) ?hr ?_; (case hd => rfl); (case hg => rfl); (case hr => first | (go_simp; done) | (go_simp; rfl)); intro gb101 hg w19 hbox hb; have n0_ := ak (below_step (ul HB.out) hb); have n1_ := ak (hbox); have n2_ := ak ((by rw [hg]; exact (below_size (ul HB.out)) : w.heap.size ≤ gb101)); have n3_ := ak ((by rw [hg]; exact (below_size (ul HB.out)) : w.heap.size ≤ gb101)); clear HB; have HB := n0_; have BK101 := n1_; have GW101 := n2_; have GE101 := n3_; clear n0_ n1_ n2_ n3_; clear hb hbox hg; have hcz20_0 : w19.cell? ⟨gb101, 0, none⟩ = some (.string a0_0) := (blk_cell BK101.out 0).trans rfl; have hcz20_1 : w19.cell? ⟨gb101, 1, none⟩ = some (.int .i64 a0_1) := (blk_cell BK101.out 1).trans rfl; have hfz20_0 := blk_frozen BK101.out 0; have hfz20_1 := blk_frozen BK101.out 1; have p15 : 0 ≤ ((ji12) : Int) := of_decide_eq_true (by first | (with_reducible assumption) | assumption); have q15 : (ji12) < (a0_0.size : Int) := of_decide_eq_true (by first | (with_reducible assumption) | assumption); have hx15 := bt_at a0_0 (ji12); replace p15 := eq_true p15; replace q15 := eq_true q15))
 repeat (go_quiet (first | ((with_reducible refine gate_dst (N := 1) rfl ?_); (try (refine gate_guard (by rfl) ?_; dsimp only)); refine box_event ?hg (N := 1) ?hd (cs := #[.string a0_0, .int .i64 a0_1]) (t := 27) ?hr ?_; (case hd => rfl); (case hg => rfl); (case hr => first | (go_simp; done) | (go_simp; rfl)); intro gb101 hg w19 hbox hb; have n0_ := ak (below_step (ul HB.out) hb); have n1_ := ak (hbox); have n2_ := ak ((by rw [hg]; exact (below_size (ul HB.out)) : w.heap.size ≤ gb101)); have n3_ := ak ((by rw [hg]; exact (below_size (ul HB.out)) : w.heap.size ≤ gb101)); clear HB; have HB := n0_; have BK101 := n1_; have GW101 := n2_; have GE101 := n3_; clear n0_ n1_ n2_ n3_; clear hb hbox hg; have hcz20_0 : w19.cell? ⟨gb101, 0, none⟩ = some (.string a0_0) := (blk_cell BK101.out 0).trans rfl; have hcz20_1 : w19.cell? ⟨gb101, 1, none⟩ = some (.int .i64 a0_1) := (blk_cell BK101.out 1).trans rfl; have hfz20_0 := blk_frozen BK101.out 0; have hfz20_1 := blk_frozen BK101.out 1; have p15 : 0 ≤ ((ji12) : Int) := of_decide_eq_true (by first | (with_reducible assumption) | assumption); have q15 : (ji12) < (a0_0.size : Int) := of_decide_eq_true (by first | (with_reducible assumption) | assumption); have hx15 := bt_at a0_0 (ji12); replace p15 := eq_true p15; replace q15 := eq_true q15)); try go_wp2_with (first | ((with_reducible refine gate_dst (N := 1) rfl ?_); (try (refine gate_guard (by rfl) ?_; dsimp only)); refine box_event ?hg (N := 1) ?hd (cs := #[.string a0_0, .int .i64 a0_1]) (t := 27) ?hr ?_; (case hd => rfl); (case hg => rfl); (case hr => first | (go_simp; done) | (go_simp; rfl)); intro gb101 hg w19 hbox hb; have n0_ := ak (below_step (ul HB.out) hb); have n1_ := ak (hbox); have n2_ := ak ((by rw [hg]; exact (below_size (ul HB.out)) : w.heap.size ≤ gb101)); have n3_ := ak ((by rw [hg]; exact (below_size (ul HB.out)) : w.heap.size ≤ gb101)); clear HB; have HB := n0_; have BK101 := n1_; have GW101 := n2_; have GE101 := n3_; clear n0_ n1_ n2_ n3_; clear hb hbox hg; have hcz20_0 : w19.cell? ⟨gb101, 0, none⟩ = some (.string a0_0) := (blk_cell BK101.out 0).trans rfl; have hcz20_1 : w19.cell? ⟨gb101, 1, none⟩ = some (.int .i64 a0_1) := (blk_cell BK101.out 1).trans rfl; have hfz20_0 := blk_frozen BK101.out 0; have hfz20_1 := blk_frozen BK101.out 1; have p15 : 0 ≤ ((ji12) : Int) := of_decide_eq_true (by first | (with_reducible assumption) | assumption); have q15 : (ji12) < (a0_0.size : Int) := of_decide_eq_true (by first | (with_reducible assumption) | assumption); have hx15 := bt_at a0_0 (ji12); replace p15 := eq_true p15; replace q15 := eq_true q15)))
 go_ret
 exact ⟨by first | rfl | (simp [errW_none, errW_some] <;> rfl) | (simp only [← hji12, ← hji16, ← hji18]; first | rfl | (simp [errW_none, errW_some] <;> rfl)) | (simp [*, errW_none, errW_some] <;> rfl), by repeat with_reducible first | exact HB.out | apply b1 | apply b2 | apply b3 | refine b4 ?_ GE101.out⟩
end Go.Proofs.Ytnpghcikhpglkaa.Q
namespace Go.Proofs.Ytnpghcikhpglkaa.Q
open Go.RowKit Go.Proofs.YtnpghcikhpglkaaW.PrintWords Go.Proofs.YtnpghcikhpglkaaW.PrintLast Go.Proofs.YtnpghcikhpglkaaW.PrintMore
attribute [local go_sem] max2_int min2_int max_two min_two max_three min_three max_four min_four   -- for this text's walks alone
set_option linter.unusedVariables false
set_option linter.unusedSimpArgs false

/-! ### bits_width: function 87 -/
def bits_width.f (a0 : Int) : Option (Bool) := if a0 ≥ 0 then (some (decide (a0 ≤ 30))) else (some false)
set_option maxHeartbeats 8000000 in
set_option maxRecDepth 100000 in
theorem bits_width.calls (a0 : Int) (r : Bool) (w : World) (h : bits_width.f a0 = some r) :
    Calls Try.prog 87 #[.int .i64 a0] w fun e w' => e = .returned (.bool r) ∧ Drawn0 w w' := by
 have H : (if a0 ≥ 0 then (some (decide (a0 ≤ 30))) else (some false)) = some r := h
 clear h
 by_cases c2 : a0 ≥ 0
 ·
  rw [if_pos c2] at H
  have c2b0 : decide (0 ≤ a0) = true := decide_eq_true c2
  clear c2
  obtain rfl := Option.some.inj H
  go_enter Try.func87, Try.ntmps87
  go_wp2
  go_ret
  exact ⟨by first | rfl | (simp; done) | (simp [*]; done), by repeat (first | exact Drawn0.refl _ | apply Drawn0.step)⟩
 rw [if_neg c2] at H
 have c2b0 : decide (0 ≤ a0) = false := decide_eq_false c2
 clear c2
 obtain rfl := Option.some.inj H
 go_enter Try.func87, Try.ntmps87
 go_wp2
 go_ret
 exact ⟨by first | rfl | (simp; done) | (simp [*]; done), by repeat (first | exact Drawn0.refl _ | apply Drawn0.step)⟩
end Go.Proofs.Ytnpghcikhpglkaa.Q
namespace Go.Proofs.Ytnpghcikhpglkaa.Q
open Go.RowKit Go.Proofs.YtnpghcikhpglkaaW.PrintWords Go.Proofs.YtnpghcikhpglkaaW.PrintLast Go.Proofs.YtnpghcikhpglkaaW.PrintMore
attribute [local go_sem] max2_int min2_int max_two min_two max_three min_three max_four min_four   -- for this text's walks alone
set_option linter.unusedVariables false
set_option linter.unusedSimpArgs false

/-! ### bits_bit: function 100 -/
def bits_bit.f (a0_0 : ByteArray) (a0_1 : Int) (a1 : Int) : Option (Int) := if 0 ≤ (wrap64 (Int.tdiv a1 8)) then (if (wrap64 (Int.tdiv a1 8)) < (a0_0.size : Int) then (if 0 ≤ (wrap64 (7 - (Int.tmod a1 8))) then (some (Go.bits .and .i64 (wrap64 (shr .u8 (bt a0_0 (wrap64 (Int.tdiv a1 8))) (wrap64 (7 - (Int.tmod a1 8))))) 1)) else (none)) else (none)) else (none)
set_option maxHeartbeats 8000000 in
set_option maxRecDepth 100000 in
theorem bits_bit.calls (a0_0 : ByteArray) (a0_1 : Int) (a1 : Int) (r : Int) (w : World) (h : bits_bit.f a0_0 a0_1 a1 = some r) :
    Calls Try.prog 100 #[.agg #[.string a0_0, .int .i64 a0_1], .int .i64 a1] w fun e w' => e = .returned (.int .i64 r) ∧ Below w.heap.size w w' := by
 have hu27 := Try.underlying27
 have HB := ak (Below.refl w.heap.size w)
 have H : (if 0 ≤ (wrap64 (Int.tdiv a1 8)) then (if (wrap64 (Int.tdiv a1 8)) < (a0_0.size : Int) then (if 0 ≤ (wrap64 (7 - (Int.tmod a1 8))) then (some (Go.bits .and .i64 (wrap64 (shr .u8 (bt a0_0 (wrap64 (Int.tdiv a1 8))) (wrap64 (7 - (Int.tmod a1 8))))) 1)) else (none)) else (none)) else (none)) = some r := h
 clear h
 obtain ⟨ji3, hji3⟩ : ∃ j_ : Int, (wrap64 (Int.tdiv a1 8)) = j_ := ⟨_, rfl⟩
 replace H : (if 0 ≤ (ji3) then (if (ji3) < (a0_0.size : Int) then (if 0 ≤ (wrap64 (7 - (Int.tmod a1 8))) then (some (Go.bits .and .i64 (wrap64 (shr .u8 (bt a0_0 (ji3)) (wrap64 (7 - (Int.tmod a1 8))))) 1)) else (none)) else (none)) else (none)) = some r := by first | (rw [hji3] at H; exact H) | (simp only [hji3] at H ⊢; exact H)
 have hji3w : (IntKind.i64.wrap (Int.tdiv a1 8)) = ji3 := (i64_w _).trans hji3
 by_cases c4 : 0 ≤ (ji3)
 rotate_left
 ·
  rw [if_neg c4] at H
  exact absurd H (by simp)
 rw [if_pos c4] at H
 have c4b0 : decide (0 ≤ (ji3)) = true := decide_eq_true c4
 clear c4
 by_cases c5 : (ji3) < (a0_0.size : Int)
 rotate_left
 ·
  rw [if_neg c5] at H
  exact absurd H (by simp)
 rw [if_pos c5] at H
 have c5b0 : decide ((ji3) < (a0_0.size : Int)) = true := decide_eq_true c5
 clear c5
 obtain ⟨ji7, hji7⟩ : ∃ j_ : Int, (wrap64 (7 - (Int.tmod a1 8))) = j_ := ⟨_, rfl⟩
 replace H : (if 0 ≤ (ji7) then (some (Go.bits .and .i64 (wrap64 (shr .u8 (bt a0_0 (ji3)) (ji7))) 1)) else (none)) = some r := by first | (rw [hji7] at H; exact H) | (simp only [hji7] at H ⊢; exact H)
 have hji7w : (IntKind.i64.wrap (7 - (Int.tmod a1 8))) = ji7 := (i64_w _).trans hji7
 by_cases c8 : 0 ≤ (ji7)
 rotate_left
 ·
  rw [if_neg c8] at H
  exact absurd H (by simp)
 rw [if_pos c8] at H
 have c8b0 := eq_true c8
 have c8b1 : decide (0 ≤ (ji7)) = true := decide_eq_true c8
 clear c8
 obtain ⟨ji9, hji9⟩ : ∃ j_ : Int, (shr .u8 (bt a0_0 (ji3)) (ji7)) = j_ := ⟨_, rfl⟩
 replace H : (some (Go.bits .and .i64 (wrap64 (ji9)) 1)) = some r := by first | (rw [hji9] at H; exact H) | (simp only [hji9] at H ⊢; exact H)
 have hji9_ : ((bt a0_0 (ji3)) / 2 ^ min (ji7).toNat 8) = ji9 := hji9
 have hji9z : (ji7) ≤ 8 → ((bt a0_0 (ji3)) / 2 ^ (ji7).toNat) = ji9 := shr_small hji9
 obtain rfl := Option.some.inj H
 go_enter Try.func100, Try.ntmps100
 go_wp2_with (first | ((with_reducible refine gate_dst (N := 2) rfl ?_); refine box_event ?hg (N := 2) ?hd (cs := #[.string a0_0, .int .i64 a0_1]) (t := 27) ?hr ?_; (case hd => rfl); (case hg => rfl); (case hr => first | (go_simp; done) | (go_simp; rfl)); intro gb104 hg w10 hbox hb; have n0_ := ak (below_step (ul HB.out) hb); have n1_ := ak (hbox); have n2_ := ak ((by rw [hg]; exact (below_size (ul HB.out)) : w.heap.size ≤ gb104)); have n3_ := ak ((by rw [hg]; exact (below_size (ul HB.out)) : w.heap.size ≤ gb104)); clear HB; have HB := n0_; have BK104 := n1_; have GW104 := n2_; have GE104 := n3_; clear n0_ n1_ n2_ n3_; clear hb hbox hg; have hcz11_0 : w10.cell? ⟨gb104, 0, none⟩ = some (.string a0_0) := (blk_cell BK104.out 0).trans rfl; have hcz11_1 : w10.cell? ⟨gb104, 1, none⟩ = some (.int .i64 a0_1) := (blk_cell BK104.out 1).trans rfl; have hfz11_0 := blk_frozen BK104.out 0; have hfz11_1 := blk_frozen BK104.out 1; have p6 : 0 ≤ ((ji3) : Int) := of_decide_eq_true (by first | (with_reducible assumption) | assumption); have q6 : (ji3) < (a0_0.size : Int) := of_decide_eq_true (by first | (with_reducible assumption) | assumption); have hx6 := bt_at a0_0 (ji3); replace p6 := eq_true p6; replace q6 := eq_true q6))
 go_ret
 exact ⟨by first | rfl | (simp [errW_none, errW_some] <;> rfl) | (simp only [← hji3, ← hji7, ← hji9]; first | rfl | (simp [errW_none, errW_some] <;> rfl)) | (simp [*, errW_none, errW_some] <;> rfl), by repeat with_reducible first | exact HB.out | apply b1 | apply b2 | apply b3 | refine b4 ?_ GE104.out⟩
end Go.Proofs.Ytnpghcikhpglkaa.Q
namespace Go.Proofs.Ytnpghcikhpglkaa.Q
open Go.RowKit Go.Proofs.YtnpghcikhpglkaaW.PrintWords Go.Proofs.YtnpghcikhpglkaaW.PrintLast Go.Proofs.YtnpghcikhpglkaaW.PrintMore
attribute [local go_sem] max2_int min2_int max_two min_two max_three min_three max_four min_four   -- for this text's walks alone
set_option linter.unusedVariables false
set_option linter.unusedSimpArgs false

/-! ### bits_Look: function 91 -/
mutual
def bits_Look.j0 : Nat → Int → Int → Bool → ByteArray → Int → Option (Int × Bool)
  | 0, _, _, _, _, _ => none
  | k + 1, x1, x2, x21, x106000, x106001 => if x21 = true then (some (0, false)) else (bits_Look.l0 k x1 0 x2 0 x106000 x106001)
def bits_Look.l0 : Nat → Int → Int → Int → Int → ByteArray → Int → Option (Int × Bool)
  | 0, _, _, _, _, _, _ => none
  | k + 1, x1, x8, x22, x23, x106000, x106001 => if x23 < x22 then ((bits_bit.f x106000 x106001 (wrap64 (x1 + x23))).bind fun t106 => (bits_Look.l0 k x1 (Go.bits .or .i64 (wrap64 (x8 * 2)) t106) x22 (wrap64 (x23 + 1)) x106000 x106001)) else (some (x8, true))
end
def bits_Look.f (k : Nat) (a0_0 : ByteArray) (a0_1 : Int) (a1 : Int) (a2 : Int) : Option (Int × Bool) := if a1 > a0_1 then (bits_Look.j0 k a1 a2 true a0_0 a0_1) else (bits_Look.j0 k a1 a2 (decide (a2 > (wrap64 (a0_1 - a1)))) a0_0 a0_1)
set_option maxHeartbeats 8000000 in
set_option maxRecDepth 100000 in
theorem bits_Look.calls (k : Nat) (a0_0 : ByteArray) (a0_1 : Int) (a1 : Int) (a2 : Int) (r1 : Int) (r2 : Bool) (w : World) (h : bits_Look.f k a0_0 a0_1 a1 a2 = some (r1, r2)) :
    Calls Try.prog 91 #[.agg #[.string a0_0, .int .i64 a0_1], .int .i64 a1, .int .i64 a2] w fun e w' => e = .returned (.tuple #[.int .i64 r1, .bool r2]) ∧ Below w.heap.size w w' := by
 have hu27 := Try.underlying27
 have HB := ak (Below.refl w.heap.size w)
 have H : (if a1 > a0_1 then (bits_Look.j0 k a1 a2 true a0_0 a0_1) else (bits_Look.j0 k a1 a2 (decide (a2 > (wrap64 (a0_1 - a1)))) a0_0 a0_1)) = some (r1, r2) := h
 clear h
 have HC4 := ak H
 clear H
 go_enter Try.func91, Try.ntmps91
 go_upto_region 1 with (first | ((with_reducible refine gate_dst (N := 3) rfl ?_); refine box_event ?hg (N := 3) ?hd (cs := #[.string a0_0, .int .i64 a0_1]) (t := 27) ?hr ?_; (case hd => rfl); (case hg => rfl); (case hr => first | (go_simp; done) | (go_simp; rfl)); intro gb105 hg w5 hbox hb; have n0_ := ak (below_step (ul HB.out) hb); have n1_ := ak (hbox); have n2_ := ak ((by rw [hg]; exact (below_size (ul HB.out)) : w.heap.size ≤ gb105)); have n3_ := ak ((by rw [hg]; exact (below_size (ul HB.out)) : w.heap.size ≤ gb105)); clear HB; have HB := n0_; have BK105 := n1_; have GW105 := n2_; have GE105 := n3_; clear n0_ n1_ n2_ n3_; clear hb hbox hg))
 (try simp only [Act.put, s1, s2, s3])
 go_cut [21] (fun v21 wc => ∃ (kq : Nat) (x21_3 : Bool), v21 = .bool x21_3 ∧ Aside0 (bits_Look.j0 kq a1 a2 x21_3 a0_0 a0_1 = some (r1, r2)) ∧ Aside0 (kq ≤ k) ∧ Aside0 (wc.heap[gb105]? = some (.cells #[.string a0_0, .int .i64 a0_1] 27 (0, 0))) ∧ Aside0 (Below w.heap.size w wc))
 case first =>
  have H := HC4.out
  clear HC4
  by_cases c6 : a1 > a0_1
  ·
   rw [if_pos c6] at H
   have c6b0 : decide (a0_1 < a1) = true := decide_eq_true c6
   clear c6
   (first | rw [c6b0] | (simp only [i64_w, i32_w]; rw [c6b0]) | skip)
   have H' := ak H
   clear H
   have hcz7_0 : w5.cell? ⟨gb105, 0, none⟩ = some (.string a0_0) := (blk_cell BK105.out 0).trans rfl
   have hcz7_1 : w5.cell? ⟨gb105, 1, none⟩ = some (.int .i64 a0_1) := (blk_cell BK105.out 1).trans rfl
   have hfz7_0 := blk_frozen BK105.out 0
   have hfz7_1 := blk_frozen BK105.out 1
   go_wp2
   go_meet
   case rel => exact ⟨_, (true), (by first | rfl | (simp; done) | (simp [*]; done)), H', ⟨by first | omega | exact Nat.le_refl _⟩, ⟨ub BK105.out⟩, ⟨by repeat with_reducible first | exact HB.out | apply b1 | apply b2 | apply b3 | refine b4 ?_ GE105.out⟩⟩
  rw [if_neg c6] at H
  have c6b0 : decide (a0_1 < a1) = false := decide_eq_false c6
  clear c6
  (first | rw [c6b0] | (simp only [i64_w, i32_w]; rw [c6b0]) | skip)
  have H' := ak H
  clear H
  have hcz8_0 : w5.cell? ⟨gb105, 0, none⟩ = some (.string a0_0) := (blk_cell BK105.out 0).trans rfl
  have hcz8_1 : w5.cell? ⟨gb105, 1, none⟩ = some (.int .i64 a0_1) := (blk_cell BK105.out 1).trans rfl
  have hfz8_0 := blk_frozen BK105.out 0
  have hfz8_1 := blk_frozen BK105.out 1
  go_wp2
  go_meet
  case rel => exact ⟨_, (decide (a2 > (wrap64 (a0_1 - a1)))), (by first | rfl | (simp; done) | (simp [*]; done)), H', ⟨by first | omega | exact Nat.le_refl _⟩, ⟨ub BK105.out⟩, ⟨by repeat with_reducible first | exact HB.out | apply b1 | apply b2 | apply b3 | refine b4 ?_ GE105.out⟩⟩
 clear HC4
 obtain ⟨kq, x21_3, rfl, HA, HJ3, BK105, HB⟩ := hcut
 cases kq with
 | zero => exact absurd HA.out (by simp [bits_Look.j0])
 | succ kj3 => ?_
 have H := HA.out
 clear HA
 simp only [bits_Look.j0] at H
 by_cases c9 : x21_3 = true
 ·
  subst c9
  rw [if_pos rfl] at H
  simp only [Option.some.injEq, Prod.mk.injEq] at H
  obtain ⟨rfl, rfl⟩ := H
  go_wp2
  go_ret2
  exact ⟨by first | rfl | (simp [errW_none, errW_some] <;> rfl) | (simp [*, errW_none, errW_some] <;> rfl), by repeat with_reducible first | exact HB.out | apply b1 | apply b2 | apply b3 | refine b4 ?_ GE105.out⟩
 replace c9 := Bool.eq_false_iff.mpr c9
 subst c9
 rw [if_neg (show ¬ (false = true) by decide)] at H
 have H' := ak H
 clear H
 go_wp2
 go_loopg [8, 23] kj3 (fun kq v8 v23 w' => ∃ (x8_2 : Int) (x23_2 : Int), v8 = .int .i64 x8_2 ∧ v23 = .int .i64 x23_2 ∧ Aside0 (bits_Look.l0 kq a1 x8_2 a2 x23_2 a0_0 a0_1 = some (r1, r2)) ∧ Aside0 (kq ≤ kj3) ∧ Aside0 (w'.heap[gb105]? = some (.cells #[.string a0_0, .int .i64 a0_1] 27 (0, 0))) ∧ Aside0 (Below w.heap.size w w'))
 case atStart => exact ⟨(0), (0), (by first | rfl | (simp; done) | (simp [*]; done)), (by first | rfl | (simp; done) | (simp [*]; done)), H', ⟨Nat.le_refl _⟩, ⟨ub BK105.out⟩, ⟨by repeat with_reducible first | exact HB.out | apply b1 | apply b2 | apply b3 | refine b4 ?_ GE105.out⟩⟩
 clear H'
 (try clear c9)
 obtain ⟨x8_2, x23_2, rfl, rfl, HA, HK2, BK105, HB⟩ := hrel
 cases gk with
 | zero => exact absurd HA.out (by simp [bits_Look.l0])
 | succ k2 => ?_
 have H := HA.out
 clear HA
 simp only [bits_Look.l0] at H
 by_cases c10 : x23_2 < a2
 rotate_left
 ·
  rw [if_neg c10] at H
  have c10b0 : decide (x23_2 < a2) = false := decide_eq_false c10
  clear c10
  simp only [Option.some.injEq, Prod.mk.injEq] at H
  obtain ⟨rfl, rfl⟩ := H
  go_wp2
  go_ret2
  exact ⟨by first | rfl | (simp [errW_none, errW_some] <;> rfl) | (simp [*, errW_none, errW_some] <;> rfl), by repeat with_reducible first | exact HB.out | apply b1 | apply b2 | apply b3 | refine b4 ?_ GE105.out⟩
 rw [if_pos c10] at H
 have c10b0 : decide (x23_2 < a2) = true := decide_eq_true c10
 clear c10
 replace H := Option.bind_eq_some_iff.mp H
 obtain ⟨t106, A110, H⟩ := H
 try dsimp only at H
 have A11 := ak A110
 clear A110
 have H' := ak H
 clear H
 have hcz12_0 : wr.cell? ⟨gb105, 0, none⟩ = some (.string a0_0) := (blk_cell BK105.out 0).trans rfl
 have hcz12_1 : wr.cell? ⟨gb105, 1, none⟩ = some (.int .i64 a0_1) := (blk_cell BK105.out 1).trans rfl
 have hfz12_0 := blk_frozen BK105.out 0
 have hfz12_1 := blk_frozen BK105.out 1
 go_wp2_with (first | ((with_reducible refine gate_callee (f := 100) rfl ?_); refine goesL_ (some 32) rfl rfl Try.func100 (by kernel_rfl) rfl #[.agg #[.string a0_0, .int .i64 a0_1], .int .i64 (wrap64 (a1 + x23_2))] rfl (by (try simp only [List.map_toArray, List.map_cons, List.map_nil]); first | done | rfl | (simp only [List.length_drop, List.length_take]; rfl)) ?_; (with_reducible refine (bits_bit.calls a0_0 a0_1 (wrap64 (a1 + x23_2)) t106 _ A11.out).mono ?_); rintro e w13 ⟨rfl, hb⟩; refine ⟨_, rfl, ?_⟩; have n0_ := ak (blk_below (g := gb105) (o := .cells #[.string a0_0, .int .i64 a0_1] 27 (0, 0)) (ub BK105.out) hb); have n1_ := ak (below_step (by repeat with_reducible first | exact HB.out | apply b1 | apply b2 | apply b3 | refine b4 ?_ GE105.out) hb); clear BK105; clear HB; have BK105 := n0_; have HB := n1_; clear n0_ n1_; (try clear hb); (try clear hb2); (try clear hk); (try clear hi)))
 go_roundg k2
 case measure => have := HJ3.out; have := HK2.out; omega
 case rel => exact ⟨(Go.bits .or .i64 (wrap64 (x8_2 * 2)) t106), (wrap64 (x23_2 + 1)), (by first | rfl | (simp; done) | (simp [*]; done)), (by first | rfl | (simp; done) | (simp [*]; done)), H', ⟨by have := HJ3.out; have := HK2.out; omega⟩, ⟨ub BK105.out⟩, ⟨by repeat with_reducible first | exact HB.out | apply b1 | apply b2 | apply b3 | refine b4 ?_ GE105.out⟩⟩
end Go.Proofs.Ytnpghcikhpglkaa.Q
namespace Go.Proofs.Ytnpghcikhpglkaa.Q
open Go.RowKit Go.Proofs.YtnpghcikhpglkaaW.PrintWords Go.Proofs.YtnpghcikhpglkaaW.PrintLast Go.Proofs.YtnpghcikhpglkaaW.PrintMore
attribute [local go_sem] max2_int min2_int max_two min_two max_three min_three max_four min_four   -- for this text's walks alone
set_option linter.unusedVariables false
set_option linter.unusedSimpArgs false

/-! ### bits_Ahead: function 96 -/
def bits_Ahead.l0 : Nat → Int → Int → ByteArray → Int → Option (Int)
  | 0, _, _, _, _ => none
  | k + 1, x1, x5, x216000, x216001 => if x5 < x216001 then ((bits_bit.f x216000 x216001 x5).bind fun t216 => (if t216 = 1 then (some (wrap64 (x5 - x1))) else (bits_Ahead.l0 k x1 (wrap64 (x5 + 1)) x216000 x216001))) else (some (-1))
def bits_Ahead.f (k : Nat) (a0_0 : ByteArray) (a0_1 : Int) (a1 : Int) : Option (Int) := bits_Ahead.l0 k a1 a1 a0_0 a0_1
set_option maxHeartbeats 8000000 in
set_option maxRecDepth 100000 in
theorem bits_Ahead.calls (k : Nat) (a0_0 : ByteArray) (a0_1 : Int) (a1 : Int) (r : Int) (w : World) (h : bits_Ahead.f k a0_0 a0_1 a1 = some r) :
    Calls Try.prog 96 #[.agg #[.string a0_0, .int .i64 a0_1], .int .i64 a1] w fun e w' => e = .returned (.int .i64 r) ∧ Below w.heap.size w w' := by
 have hu27 := Try.underlying27
 have HB := ak (Below.refl w.heap.size w)
 have H : (bits_Ahead.l0 k a1 a1 a0_0 a0_1) = some r := h
 clear h
 have H' := ak H
 clear H
 go_enter Try.func96, Try.ntmps96
 go_wp2_with (first | ((with_reducible refine gate_dst (N := 2) rfl ?_); refine box_event ?hg (N := 2) ?hd (cs := #[.string a0_0, .int .i64 a0_1]) (t := 27) ?hr ?_; (case hd => rfl); (case hg => rfl); (case hr => first | (go_simp; done) | (go_simp; rfl)); intro gb215 hg w3 hbox hb; have n0_ := ak (below_step (ul HB.out) hb); have n1_ := ak (hbox); have n2_ := ak ((by rw [hg]; exact (below_size (ul HB.out)) : w.heap.size ≤ gb215)); have n3_ := ak ((by rw [hg]; exact (below_size (ul HB.out)) : w.heap.size ≤ gb215)); clear HB; have HB := n0_; have BK215 := n1_; have GW215 := n2_; have GE215 := n3_; clear n0_ n1_ n2_ n3_; clear hb hbox hg))
 go_loopg [5] k (fun kq v5 w' => ∃ (x5_1 : Int), v5 = .int .i64 x5_1 ∧ Aside0 (bits_Ahead.l0 kq a1 x5_1 a0_0 a0_1 = some r) ∧ Aside0 (kq ≤ k) ∧ Aside0 (w'.heap[gb215]? = some (.cells #[.string a0_0, .int .i64 a0_1] 27 (0, 0))) ∧ Aside0 (Below w.heap.size w w'))
 case atStart => exact ⟨(a1), (by first | rfl | (simp; done) | (simp [*]; done)), H', ⟨Nat.le_refl _⟩, ⟨ub BK215.out⟩, ⟨by repeat with_reducible first | exact HB.out | apply b1 | apply b2 | apply b3 | refine b4 ?_ GE215.out⟩⟩
 clear H'
 obtain ⟨x5_1, rfl, HA, HK1, BK215, HB⟩ := hrel
 cases gk with
 | zero => exact absurd HA.out (by simp [bits_Ahead.l0])
 | succ k1 => ?_
 have H := HA.out
 clear HA
 simp only [bits_Ahead.l0] at H
 by_cases c4 : x5_1 < a0_1
 rotate_left
 ·
  rw [if_neg c4] at H
  have c4b0 : decide (x5_1 < a0_1) = false := decide_eq_false c4
  clear c4
  obtain rfl := Option.some.inj H
  have hcz11_0 : wr.cell? ⟨gb215, 0, none⟩ = some (.string a0_0) := (blk_cell BK215.out 0).trans rfl
  have hcz11_1 : wr.cell? ⟨gb215, 1, none⟩ = some (.int .i64 a0_1) := (blk_cell BK215.out 1).trans rfl
  have hfz11_0 := blk_frozen BK215.out 0
  have hfz11_1 := blk_frozen BK215.out 1
  go_wp2
  go_ret
  exact ⟨by first | rfl | (simp [errW_none, errW_some] <;> rfl) | (simp [*, errW_none, errW_some] <;> rfl), by repeat with_reducible first | exact HB.out | apply b1 | apply b2 | apply b3 | refine b4 ?_ GE215.out⟩
 rw [if_pos c4] at H
 have c4b0 : decide (x5_1 < a0_1) = true := decide_eq_true c4
 clear c4
 replace H := Option.bind_eq_some_iff.mp H
 obtain ⟨t216, A50, H⟩ := H
 try dsimp only at H
 have A5 := ak A50
 clear A50
 by_cases c6 : t216 = 1
 ·
  rw [if_pos c6] at H
  have c6b0 : (t216 == 1) = true := beq_iff_eq.mpr c6
  have c6b1 : (t216 != 1) = false := bne_eq_false_iff_eq.mpr c6
  clear c6
  obtain rfl := Option.some.inj H
  have hcz7_0 : wr.cell? ⟨gb215, 0, none⟩ = some (.string a0_0) := (blk_cell BK215.out 0).trans rfl
  have hcz7_1 : wr.cell? ⟨gb215, 1, none⟩ = some (.int .i64 a0_1) := (blk_cell BK215.out 1).trans rfl
  have hfz7_0 := blk_frozen BK215.out 0
  have hfz7_1 := blk_frozen BK215.out 1
  go_wp2_with (first | ((with_reducible refine gate_callee (f := 100) rfl ?_); refine goesL_ (some 15) rfl rfl Try.func100 (by kernel_rfl) rfl #[.agg #[.string a0_0, .int .i64 a0_1], .int .i64 x5_1] rfl (by (try simp only [List.map_toArray, List.map_cons, List.map_nil]); first | done | rfl | (simp only [List.length_drop, List.length_take]; rfl)) ?_; (with_reducible refine (bits_bit.calls a0_0 a0_1 x5_1 t216 _ A5.out).mono ?_); rintro e w8 ⟨rfl, hb⟩; refine ⟨_, rfl, ?_⟩; have n0_ := ak (blk_below (g := gb215) (o := .cells #[.string a0_0, .int .i64 a0_1] 27 (0, 0)) (ub BK215.out) hb); have n1_ := ak (below_step (by repeat with_reducible first | exact HB.out | apply b1 | apply b2 | apply b3 | refine b4 ?_ GE215.out) hb); clear BK215; clear HB; have BK215 := n0_; have HB := n1_; clear n0_ n1_; (try clear hb); (try clear hb2); (try clear hk); (try clear hi)))
  go_ret
  exact ⟨by first | rfl | (simp [errW_none, errW_some] <;> rfl) | (simp [*, errW_none, errW_some] <;> rfl), by repeat with_reducible first | exact HB.out | apply b1 | apply b2 | apply b3 | refine b4 ?_ GE215.out⟩
 rw [if_neg c6] at H
 have c6b0 : (t216 == 1) = false := beq_eq_false_iff_ne.mpr c6
 have c6b1 : (t216 != 1) = true := bne_iff_ne.mpr c6
 have H' := ak H
 clear H
 have hcz9_0 : wr.cell? ⟨gb215, 0, none⟩ = some (.string a0_0) := (blk_cell BK215.out 0).trans rfl
 have hcz9_1 : wr.cell? ⟨gb215, 1, none⟩ = some (.int .i64 a0_1) := (blk_cell BK215.out 1).trans rfl
 have hfz9_0 := blk_frozen BK215.out 0
 have hfz9_1 := blk_frozen BK215.out 1
 go_wp2_with (first | ((with_reducible refine gate_callee (f := 100) rfl ?_); refine goesL_ (some 15) rfl rfl Try.func100 (by kernel_rfl) rfl #[.agg #[.string a0_0, .int .i64 a0_1], .int .i64 x5_1] rfl (by (try simp only [List.map_toArray, List.map_cons, List.map_nil]); first | done | rfl | (simp only [List.length_drop, List.length_take]; rfl)) ?_; (with_reducible refine (bits_bit.calls a0_0 a0_1 x5_1 t216 _ A5.out).mono ?_); rintro e w10 ⟨rfl, hb⟩; refine ⟨_, rfl, ?_⟩; have n0_ := ak (blk_below (g := gb215) (o := .cells #[.string a0_0, .int .i64 a0_1] 27 (0, 0)) (ub BK215.out) hb); have n1_ := ak (below_step (by repeat with_reducible first | exact HB.out | apply b1 | apply b2 | apply b3 | refine b4 ?_ GE215.out) hb); clear BK215; clear HB; have BK215 := n0_; have HB := n1_; clear n0_ n1_; (try clear hb); (try clear hb2); (try clear hk); (try clear hi)))
 go_roundg k1
 case measure => have := HK1.out; omega
 case rel => exact ⟨(wrap64 (x5_1 + 1)), (by first | rfl | (simp; done) | (simp [*]; done)), H', ⟨by have := HK1.out; omega⟩, ⟨ub BK215.out⟩, ⟨by repeat with_reducible first | exact HB.out | apply b1 | apply b2 | apply b3 | refine b4 ?_ GE215.out⟩⟩
end Go.Proofs.Ytnpghcikhpglkaa.Q
namespace Go.Proofs.Ytnpghcikhpglkaa.Q
open Go.RowKit Go.Proofs.YtnpghcikhpglkaaW.PrintWords Go.Proofs.YtnpghcikhpglkaaW.PrintLast Go.Proofs.YtnpghcikhpglkaaW.PrintMore
attribute [local go_sem] max2_int min2_int max_two min_two max_three min_three max_four min_four   -- for this text's walks alone
set_option linter.unusedVariables false
set_option linter.unusedSimpArgs false

/-! ### herbariumlaw0_BitsWeight: function 98 -/
def herbariumlaw0_BitsWeight.l0 : Nat → List (S27) → Int → Int → Option (Int)
  | 0, _, _, _ => none
  | k + 1, x0, x3, x4 => if x4 < (x0.length : Int) then (if x3 < 1048576 then (if 0 ≤ x4 then (herbariumlaw0_BitsWeight.l0 k x0 (wrap64 (x3 + (wrap64 ((((rd_T27 x0 x4).f0).size : Int) / 4)))) (wrap64 (x4 + 1))) else (none)) else (some x3)) else (some x3)
def herbariumlaw0_BitsWeight.f (k : Nat) (l0 : List (S27)) : Option (Int) := herbariumlaw0_BitsWeight.l0 k l0 (l0.length : Int) 0
set_option maxHeartbeats 8000000 in
set_option maxRecDepth 100000 in
theorem herbariumlaw0_BitsWeight.calls (k : Nat) (A0 : Option Addr) (c0 : Nat) (l0 : List (S27)) (r : Int) (w : World) (hr0 : Kd.C k27 w A0 l0.length l0) (hc0 : l0.length ≤ c0) (h : herbariumlaw0_BitsWeight.f k l0 = some r) :
    Calls Try.prog 98 #[.slice A0 l0.length c0] w fun e w' => e = .returned (.int .i64 r) ∧ Drawn0 w w' := by
 have HR0 := ak hr0
 have HC0 := ak hc0
 clear hr0 hc0
 have H : (herbariumlaw0_BitsWeight.l0 k l0 (l0.length : Int) 0) = some r := h
 clear h
 have H' := ak H
 clear H
 go_enter Try.func98, Try.ntmps98
 go_wp2
 go_loopg [3, 4] k (fun kq v3 v4 w' => ∃ (x3_1 : Int) (x4_1 : Int), v3 = .int .i64 x3_1 ∧ v4 = .int .i64 x4_1 ∧ Aside0 (herbariumlaw0_BitsWeight.l0 kq l0 x3_1 x4_1 = some r) ∧ Aside0 (kq ≤ k) ∧ Drawn0 w w')
 case atStart => exact ⟨((l0.length : Int)), (0), (by first | rfl | (simp; done) | (simp [*]; done)), (by first | rfl | (simp; done) | (simp [*]; done)), H', ⟨Nat.le_refl _⟩, by repeat (first | exact Drawn0.refl _ | apply Drawn0.step)⟩
 clear H'
 obtain ⟨x3_1, x4_1, rfl, rfl, HA, HK1, ⟨m1, rfl⟩⟩ := hrel
 cases gk with
 | zero => exact absurd HA.out (by simp [herbariumlaw0_BitsWeight.l0])
 | succ k1 => ?_
 have H := HA.out
 clear HA
 simp only [herbariumlaw0_BitsWeight.l0] at H
 by_cases c2 : x4_1 < (l0.length : Int)
 rotate_left
 ·
  rw [if_neg c2] at H
  have c2b0 : decide (x4_1 < (l0.length : Int)) = false := decide_eq_false c2
  clear c2
  obtain rfl := Option.some.inj H
  go_wp2
  go_ret
  exact ⟨by first | rfl | (simp; done) | (simp [*]; done), by repeat (first | exact Drawn0.refl _ | apply Drawn0.step)⟩
 rw [if_pos c2] at H
 have c2b0 : decide (x4_1 < (l0.length : Int)) = true := decide_eq_true c2
 clear c2
 by_cases c3 : x3_1 < 1048576
 rotate_left
 ·
  rw [if_neg c3] at H
  have c3b0 : decide (x3_1 < 1048576) = false := decide_eq_false c3
  clear c3
  obtain rfl := Option.some.inj H
  go_wp2
  go_ret
  exact ⟨by first | rfl | (simp; done) | (simp [*]; done), by repeat (first | exact Drawn0.refl _ | apply Drawn0.step)⟩
 rw [if_pos c3] at H
 have c3b0 : decide (x3_1 < 1048576) = true := decide_eq_true c3
 clear c3
 by_cases c4 : 0 ≤ x4_1
 rotate_left
 ·
  rw [if_neg c4] at H
  exact absurd H (by simp)
 rw [if_pos c4] at H
 have c4b0 : decide (0 ≤ x4_1) = true := decide_eq_true c4
 clear c4
 have H' := ak H
 clear H
 have p220 : 0 ≤ (x4_1 : Int) := of_decide_eq_true (by first | (with_reducible assumption) | assumption)
 have q220 : x4_1 < (l0.length : Int) := of_decide_eq_true (by first | (with_reducible assumption) | assumption)
 obtain ⟨ad220, e220, hx220_0, hx220_1⟩ := at_T27 HR0.out x4_1 p220 q220
 cases e220
 replace p220 := eq_true p220
 replace q220 := eq_true q220
 go_wp2
 go_roundg k1
 case measure => have := HK1.out; omega
 case rel => exact ⟨(wrap64 (x3_1 + (wrap64 ((((rd_T27 l0 x4_1).f0).size : Int) / 4)))), (wrap64 (x4_1 + 1)), (by first | rfl | (simp; done) | (simp [*]; done)), (by first | rfl | (simp; done) | (simp [*]; done)), H', ⟨by have := HK1.out; omega⟩, by repeat (first | exact Drawn0.refl _ | apply Drawn0.step)⟩
end Go.Proofs.Ytnpghcikhpglkaa.Q
namespace Go.Proofs.Ytnpghcikhpglkaa.Q
open Go.RowKit Go.Proofs.YtnpghcikhpglkaaW.PrintWords Go.Proofs.YtnpghcikhpglkaaW.PrintLast Go.Proofs.YtnpghcikhpglkaaW.PrintMore
attribute [local go_sem] max2_int min2_int max_two min_two max_three min_three max_four min_four   -- for this text's walks alone
set_option linter.unusedVariables false
set_option linter.unusedSimpArgs false

/-! ### herbariumref1_Zig: function 67 -/
def herbariumref1_Zig.f (a0 : Int) : Option (Int) := if a0 ≥ 0 then (some (wrap64 (2 * a0))) else (some (wrap64 ((wrap64 ((-2) * a0)) - 1)))
set_option maxHeartbeats 8000000 in
set_option maxRecDepth 100000 in
theorem herbariumref1_Zig.calls (a0 : Int) (r : Int) (w : World) (h : herbariumref1_Zig.f a0 = some r) :
    Calls Try.prog 67 #[.int .i64 a0] w fun e w' => e = .returned (.int .i64 r) ∧ Drawn0 w w' := by
 have H : (if a0 ≥ 0 then (some (wrap64 (2 * a0))) else (some (wrap64 ((wrap64 ((-2) * a0)) - 1)))) = some r := h
 clear h
 by_cases c2 : a0 ≥ 0
 ·
  rw [if_pos c2] at H
  have c2b0 : decide (0 ≤ a0) = true := decide_eq_true c2
  clear c2
  obtain rfl := Option.some.inj H
  go_enter Try.func67, Try.ntmps67
  go_wp2
  go_ret
  exact ⟨by first | rfl | (simp; done) | (simp [*]; done), by repeat (first | exact Drawn0.refl _ | apply Drawn0.step)⟩
 rw [if_neg c2] at H
 have c2b0 : decide (0 ≤ a0) = false := decide_eq_false c2
 clear c2
 obtain rfl := Option.some.inj H
 go_enter Try.func67, Try.ntmps67
 go_wp2
 go_ret
 exact ⟨by first | rfl | (simp; done) | (simp [*]; done), by repeat (first | exact Drawn0.refl _ | apply Drawn0.step)⟩
end Go.Proofs.Ytnpghcikhpglkaa.Q
namespace Go.Proofs.Ytnpghcikhpglkaa.Q
open Go.RowKit Go.Proofs.YtnpghcikhpglkaaW.PrintWords Go.Proofs.YtnpghcikhpglkaaW.PrintLast Go.Proofs.YtnpghcikhpglkaaW.PrintMore
attribute [local go_sem] max2_int min2_int max_two min_two max_three min_three max_four min_four   -- for this text's walks alone
set_option linter.unusedVariables false
set_option linter.unusedSimpArgs false

/-! ### herbariumref1_Zag: function 68 -/
def herbariumref1_Zag.f (a0 : Int) : Option (Int) := if (Int.tmod a0 2) = 0 then (some (wrap64 (Int.tdiv a0 2))) else (some (wrap64 (Int.tdiv (wrap64 (-(wrap64 (a0 + 1)))) 2)))
set_option maxHeartbeats 8000000 in
set_option maxRecDepth 100000 in
theorem herbariumref1_Zag.calls (a0 : Int) (r : Int) (w : World) (h : herbariumref1_Zag.f a0 = some r) :
    Calls Try.prog 68 #[.int .i64 a0] w fun e w' => e = .returned (.int .i64 r) ∧ Drawn0 w w' := by
 have H : (if (Int.tmod a0 2) = 0 then (some (wrap64 (Int.tdiv a0 2))) else (some (wrap64 (Int.tdiv (wrap64 (-(wrap64 (a0 + 1)))) 2)))) = some r := h
 clear h
 by_cases c2 : (Int.tmod a0 2) = 0
 rotate_left
 ·
  rw [if_neg c2] at H
  have c2b0 : ((Int.tmod a0 2) == 0) = false := beq_eq_false_iff_ne.mpr c2
  have c2b1 : ((Int.tmod a0 2) != 0) = true := bne_iff_ne.mpr c2
  obtain rfl := Option.some.inj H
  go_enter Try.func68, Try.ntmps68
  go_wp2
  go_ret
  exact ⟨by first | rfl | (simp; done) | (simp [*]; done), by repeat (first | exact Drawn0.refl _ | apply Drawn0.step)⟩
 rw [if_pos c2] at H
 have c2b0 : ((Int.tmod a0 2) == 0) = true := beq_iff_eq.mpr c2
 have c2b1 : ((Int.tmod a0 2) != 0) = false := bne_eq_false_iff_eq.mpr c2
 clear c2
 obtain rfl := Option.some.inj H
 go_enter Try.func68, Try.ntmps68
 go_wp2
 go_ret
 exact ⟨by first | rfl | (simp; done) | (simp [*]; done), by repeat (first | exact Drawn0.refl _ | apply Drawn0.step)⟩
end Go.Proofs.Ytnpghcikhpglkaa.Q
namespace Go.Proofs.Ytnpghcikhpglkaa.Q
open Go.RowKit Go.Proofs.YtnpghcikhpglkaaW.PrintWords Go.Proofs.YtnpghcikhpglkaaW.PrintLast Go.Proofs.YtnpghcikhpglkaaW.PrintMore
attribute [local go_sem] max2_int min2_int max_two min_two max_three min_three max_four min_four   -- for this text's walks alone
set_option linter.unusedVariables false
set_option linter.unusedSimpArgs false

/-! ### herbariumlaw0_Lists: function 112 -/
def herbariumlaw0_Lists.l0 : Nat → List (List Int) → Int → Int → Option (Int)
  | 0, _, _, _ => none
  | k + 1, x0, x3, x4 => if x4 < (x0.length : Int) then (if x3 < 1048576 then (if 0 ≤ x4 then (herbariumlaw0_Lists.l0 k x0 (wrap64 (x3 + ((rd_L7 x0 x4).length : Int))) (wrap64 (x4 + 1))) else (none)) else (some x3)) else (some x3)
def herbariumlaw0_Lists.f (k : Nat) (l0 : List (List Int)) : Option (Int) := herbariumlaw0_Lists.l0 k l0 (l0.length : Int) 0
set_option maxHeartbeats 8000000 in
set_option maxRecDepth 100000 in
theorem herbariumlaw0_Lists.calls (k : Nat) (A0 : Option Addr) (c0 : Nat) (l0 : List (List Int)) (r : Int) (w : World) (hr0 : Kd.C (Kd.slice 3 (Kd.int .i64)) w A0 l0.length l0) (hc0 : l0.length ≤ c0) (h : herbariumlaw0_Lists.f k l0 = some r) :
    Calls Try.prog 112 #[.slice A0 l0.length c0] w fun e w' => e = .returned (.int .i64 r) ∧ Drawn0 w w' := by
 have HR0 := ak hr0
 have HC0 := ak hc0
 clear hr0 hc0
 have H : (herbariumlaw0_Lists.l0 k l0 (l0.length : Int) 0) = some r := h
 clear h
 have H' := ak H
 clear H
 go_enter Try.func112, Try.ntmps112
 go_wp2
 go_loopg [3, 4] k (fun kq v3 v4 w' => ∃ (x3_1 : Int) (x4_1 : Int), v3 = .int .i64 x3_1 ∧ v4 = .int .i64 x4_1 ∧ Aside0 (herbariumlaw0_Lists.l0 kq l0 x3_1 x4_1 = some r) ∧ Aside0 (kq ≤ k) ∧ Drawn0 w w')
 case atStart => exact ⟨((l0.length : Int)), (0), (by first | rfl | (simp; done) | (simp [*]; done)), (by first | rfl | (simp; done) | (simp [*]; done)), H', ⟨Nat.le_refl _⟩, by repeat (first | exact Drawn0.refl _ | apply Drawn0.step)⟩
 clear H'
 obtain ⟨x3_1, x4_1, rfl, rfl, HA, HK1, ⟨m1, rfl⟩⟩ := hrel
 cases gk with
 | zero => exact absurd HA.out (by simp [herbariumlaw0_Lists.l0])
 | succ k1 => ?_
 have H := HA.out
 clear HA
 simp only [herbariumlaw0_Lists.l0] at H
 by_cases c2 : x4_1 < (l0.length : Int)
 rotate_left
 ·
  rw [if_neg c2] at H
  have c2b0 : decide (x4_1 < (l0.length : Int)) = false := decide_eq_false c2
  clear c2
  obtain rfl := Option.some.inj H
  go_wp2
  go_ret
  exact ⟨by first | rfl | (simp; done) | (simp [*]; done), by repeat (first | exact Drawn0.refl _ | apply Drawn0.step)⟩
 rw [if_pos c2] at H
 have c2b0 : decide (x4_1 < (l0.length : Int)) = true := decide_eq_true c2
 clear c2
 by_cases c3 : x3_1 < 1048576
 rotate_left
 ·
  rw [if_neg c3] at H
  have c3b0 : decide (x3_1 < 1048576) = false := decide_eq_false c3
  clear c3
  obtain rfl := Option.some.inj H
  go_wp2
  go_ret
  exact ⟨by first | rfl | (simp; done) | (simp [*]; done), by repeat (first | exact Drawn0.refl _ | apply Drawn0.step)⟩
 rw [if_pos c3] at H
 have c3b0 : decide (x3_1 < 1048576) = true := decide_eq_true c3
 clear c3
 by_cases c4 : 0 ≤ x4_1
 rotate_left
 ·
  rw [if_neg c4] at H
  exact absurd H (by simp)
 rw [if_pos c4] at H
 have c4b0 : decide (0 ≤ x4_1) = true := decide_eq_true c4
 clear c4
 have H' := ak H
 clear H
 have p445 : 0 ≤ (x4_1 : Int) := of_decide_eq_true (by first | (with_reducible assumption) | assumption)
 have q445 : x4_1 < (l0.length : Int) := of_decide_eq_true (by first | (with_reducible assumption) | assumption)
 obtain ⟨ad445, A445_0, c445_0, e445, hx445_0, hl445_0, hi445_0⟩ := at_L7 HR0.out x4_1 p445 q445
 cases e445
 have HR445_0 := ak hi445_0
 have HC445_0 := ak hl445_0
 clear hi445_0 hl445_0
 replace p445 := eq_true p445
 replace q445 := eq_true q445
 go_wp2
 go_roundg k1
 case measure => have := HK1.out; omega
 case rel => exact ⟨(wrap64 (x3_1 + ((rd_L7 l0 x4_1).length : Int))), (wrap64 (x4_1 + 1)), (by first | rfl | (simp; done) | (simp [*]; done)), (by first | rfl | (simp; done) | (simp [*]; done)), H', ⟨by have := HK1.out; omega⟩, by repeat (first | exact Drawn0.refl _ | apply Drawn0.step)⟩
end Go.Proofs.Ytnpghcikhpglkaa.Q
namespace Go.Proofs.Ytnpghcikhpglkaa.Q
open Go.RowKit Go.Proofs.YtnpghcikhpglkaaW.PrintWords Go.Proofs.YtnpghcikhpglkaaW.PrintLast Go.Proofs.YtnpghcikhpglkaaW.PrintMore
attribute [local go_sem] max2_int min2_int max_two min_two max_three min_three max_four min_four   -- for this text's walks alone
set_option linter.unusedVariables false
set_option linter.unusedSimpArgs false

/-! ### herbariumlaw3_Heavy: function 69 -/
def herbariumlaw3_Heavy.f (k : Nat) (l0_0 : List (List Int)) (l0_1 : List (S27)) (l0_2 : List Int) : Option (Bool) := (herbariumlaw0_Lists.f k l0_0).bind fun t447 => ((herbariumlaw0_BitsWeight.f k l0_1).bind fun t448 => (some (decide ((wrap64 ((wrap64 (t447 + t448)) + (l0_2.length : Int))) > 900))))
set_option maxHeartbeats 8000000 in
set_option maxRecDepth 100000 in
theorem herbariumlaw3_Heavy.calls (k : Nat) (A0_0 : Option Addr) (c0_0 : Nat) (l0_0 : List (List Int)) (A0_1 : Option Addr) (c0_1 : Nat) (l0_1 : List (S27)) (A0_2 : Option Addr) (c0_2 : Nat) (l0_2 : List Int) (r : Bool) (w : World) (hr0_0 : Kd.C (Kd.slice 3 (Kd.int .i64)) w A0_0 l0_0.length l0_0) (hc0_0 : l0_0.length ≤ c0_0) (hr0_1 : Kd.C k27 w A0_1 l0_1.length l0_1) (hc0_1 : l0_1.length ≤ c0_1) (hr0_2 : Kd.C (Kd.int .i64) w A0_2 l0_2.length l0_2) (hc0_2 : l0_2.length ≤ c0_2) (h : herbariumlaw3_Heavy.f k l0_0 l0_1 l0_2 = some r) :
    Calls Try.prog 69 #[.agg #[.slice A0_0 l0_0.length c0_0, .slice A0_1 l0_1.length c0_1, .slice A0_2 l0_2.length c0_2]] w fun e w' => e = .returned (.bool r) ∧ Below w.heap.size w w' := by
 have hu78 := Try.underlying78
 have HR0_0 := ak hr0_0
 have HC0_0 := ak hc0_0
 clear hr0_0 hc0_0
 have HR0_1 := ak hr0_1
 have HC0_1 := ak hc0_1
 clear hr0_1 hc0_1
 have HR0_2 := ak hr0_2
 have HC0_2 := ak hc0_2
 clear hr0_2 hc0_2
 have HB := ak (Below.refl w.heap.size w)
 have H : ((herbariumlaw0_Lists.f k l0_0).bind fun t447 => ((herbariumlaw0_BitsWeight.f k l0_1).bind fun t448 => (some (decide ((wrap64 ((wrap64 (t447 + t448)) + (l0_2.length : Int))) > 900))))) = some r := h
 clear h
 replace H := Option.bind_eq_some_iff.mp H
 obtain ⟨t447, A20, H⟩ := H
 try dsimp only at H
 have A2 := ak A20
 clear A20
 replace H := Option.bind_eq_some_iff.mp H
 obtain ⟨t448, A30, H⟩ := H
 try dsimp only at H
 have A3 := ak A30
 clear A30
 obtain rfl := Option.some.inj H
 go_enter Try.func69, Try.ntmps69
 go_wp2_with (first | ((with_reducible refine gate_dst (N := 1) rfl ?_); refine box_event ?hg (N := 1) ?hd (cs := #[.slice A0_0 l0_0.length c0_0, .slice A0_1 l0_1.length c0_1, .slice A0_2 l0_2.length c0_2]) (t := 78) ?hr ?_; (case hd => rfl); (case hg => rfl); (case hr => first | (go_simp; done) | (go_simp; rfl)); intro gb446 hg w4 hbox hb; have n0_ := ak (below_step (ul HB.out) hb); have n1_ := ak (hbox); have n2_ := ak ((by rw [hg]; exact (below_size (ul HB.out)) : w.heap.size ≤ gb446)); have n3_ := ak ((by rw [hg]; exact (below_size (ul HB.out)) : w.heap.size ≤ gb446)); clear HB; have HB := n0_; have BK446 := n1_; have GW446 := n2_; have GE446 := n3_; clear n0_ n1_ n2_ n3_; clear hb hbox hg; have hcz5_0 : w4.cell? ⟨gb446, 0, none⟩ = some (.slice A0_0 l0_0.length c0_0) := (blk_cell BK446.out 0).trans rfl; have hcz5_1 : w4.cell? ⟨gb446, 1, none⟩ = some (.slice A0_1 l0_1.length c0_1) := (blk_cell BK446.out 1).trans rfl; have hcz5_2 : w4.cell? ⟨gb446, 2, none⟩ = some (.slice A0_2 l0_2.length c0_2) := (blk_cell BK446.out 2).trans rfl; have hfz5_0 := blk_frozen BK446.out 0; have hfz5_1 := blk_frozen BK446.out 1; have hfz5_2 := blk_frozen BK446.out 2) | (go_at_call 112; (with_reducible refine (herbariumlaw0_Lists.calls k _ _ l0_0 t447 _ ?side1 ?side2 A2.out).mono ?_); (case side1 => exact uc (Kd.C_below HR0_0.out HB.out)); (case side2 => exact HC0_0.out); rintro e w' ⟨rfl, ⟨nd, rfl⟩⟩; (try first | exact ⟨rfl, _, World.drewN_drewN _ _ _⟩ | exact ⟨rfl, _, Eq.trans (World.drewN_drewN _ _ _) (congrArg (World.drewN _) (Nat.add_assoc _ _ _))⟩)) | (go_at_call 98; (with_reducible refine (herbariumlaw0_BitsWeight.calls k _ _ l0_1 t448 _ ?side1 ?side2 A3.out).mono ?_); (case side1 => exact uc (Kd.C_below HR0_1.out (by repeat with_reducible first | exact HB.out | apply b1 | apply b2 | apply b3 | refine b4 ?_ GE446.out))); (case side2 => exact HC0_1.out); rintro e w' ⟨rfl, ⟨nd, rfl⟩⟩; (try first | exact ⟨rfl, _, World.drewN_drewN _ _ _⟩ | exact ⟨rfl, _, Eq.trans (World.drewN_drewN _ _ _) (congrArg (World.drewN _) (Nat.add_assoc _ _ _))⟩)))
 repeat (go_quiet (first | ((with_reducible refine gate_dst (N := 1) rfl ?_); refine box_event ?hg (N := 1) ?hd (cs := #[.slice A0_0 l0_0.length c0_0, .slice A0_1 l0_1.length c0_1, .slice A0_2 l0_2.length c0_2]) (t := 78) ?hr ?_; (case hd => rfl); (case hg => rfl); (case hr => first | (go_simp; done) | (go_simp; rfl)); intro gb446 hg w4 hbox hb; have n0_ := ak (below_step (ul HB.out) hb); have n1_ := ak (hbox); have n2_ := ak ((by rw [hg]; exact (below_size (ul HB.out)) : w.heap.size ≤ gb446)); have n3_ := ak ((by rw [hg]; exact (below_size (ul HB.out)) : w.heap.size ≤ gb446)); clear HB; have HB := n0_; have BK446 := n1_; have GW446 := n2_; have GE446 := n3_; clear n0_ n1_ n2_ n3_; clear hb hbox hg; have hcz5_0 : w4.cell? ⟨gb446, 0, none⟩ = some (.slice A0_0 l0_0.length c0_0) := (blk_cell BK446.out 0).trans rfl; have hcz5_1 : w4.cell? ⟨gb446, 1, none⟩ = some (.slice A0_1 l0_1.length c0_1) := (blk_cell BK446.out 1).trans rfl; have hcz5_2 : w4.cell? ⟨gb446, 2, none⟩ = some (.slice A0_2 l0_2.length c0_2) := (blk_cell BK446.out 2).trans rfl; have hfz5_0 := blk_frozen BK446.out 0; have hfz5_1 := blk_frozen BK446.out 1; have hfz5_2 := blk_frozen BK446.out 2) | (go_at_call 112; (with_reducible refine (herbariumlaw0_Lists.calls k _ _ l0_0 t447 _ ?side1 ?side2 A2.out).mono ?_); (case side1 => exact uc (Kd.C_below HR0_0.out HB.out)); (case side2 => exact HC0_0.out); rintro e w' ⟨rfl, ⟨nd, rfl⟩⟩; (try first | exact ⟨rfl, _, World.drewN_drewN _ _ _⟩ | exact ⟨rfl, _, Eq.trans (World.drewN_drewN _ _ _) (congrArg (World.drewN _) (Nat.add_assoc _ _ _))⟩)) | (go_at_call 98; (with_reducible refine (herbariumlaw0_BitsWeight.calls k _ _ l0_1 t448 _ ?side1 ?side2 A3.out).mono ?_); (case side1 => exact uc (Kd.C_below HR0_1.out (by repeat with_reducible first | exact HB.out | apply b1 | apply b2 | apply b3 | refine b4 ?_ GE446.out))); (case side2 => exact HC0_1.out); rintro e w' ⟨rfl, ⟨nd, rfl⟩⟩; (try first | exact ⟨rfl, _, World.drewN_drewN _ _ _⟩ | exact ⟨rfl, _, Eq.trans (World.drewN_drewN _ _ _) (congrArg (World.drewN _) (Nat.add_assoc _ _ _))⟩))); try go_wp2_with (first | ((with_reducible refine gate_dst (N := 1) rfl ?_); refine box_event ?hg (N := 1) ?hd (cs := #[.slice A0_0 l0_0.length c0_0, .slice A0_1 l0_1.length c0_1, .slice A0_2 l0_2.length c0_2]) (t := 78) ?hr ?_; (case hd => rfl); (case hg => rfl); (case hr => first | (go_simp; done) | (go_simp; rfl)); intro gb446 hg w4 hbox hb; have n0_ := ak (below_step (ul HB.out) hb); have n1_ := ak (hbox); have n2_ := ak ((by rw [hg]; exact (below_size (ul HB.out)) : w.heap.size ≤ gb446)); have n3_ := ak ((by rw [hg]; exact (below_size (ul HB.out)) : w.heap.size ≤ gb446)); clear HB; have HB := n0_; have BK446 := n1_; have GW446 := n2_; have GE446 := n3_; clear n0_ n1_ n2_ n3_; clear hb hbox hg; have hcz5_0 : w4.cell? ⟨gb446, 0, none⟩ = some (.slice A0_0 l0_0.length c0_0) := (blk_cell BK446.out 0).trans rfl; have hcz5_1 : w4.cell? ⟨gb446, 1, none⟩ = some (.slice A0_1 l0_1.length c0_1) := (blk_cell BK446.out 1).trans rfl; have hcz5_2 : w4.cell? ⟨gb446, 2, none⟩ = some (.slice A0_2 l0_2.length c0_2) := (blk_cell BK446.out 2).trans rfl; have hfz5_0 := blk_frozen BK446.out 0; have hfz5_1 := blk_frozen BK446.out 1; have hfz5_2 := blk_frozen BK446.out 2) | (go_at_call 112; (with_reducible refine (herbariumlaw0_Lists.calls k _ _ l0_0 t447 _ ?side1 ?side2 A2.out).mono ?_); (case side1 => exact uc (Kd.C_below HR0_0.out HB.out)); (case side2 => exact HC0_0.out); rintro e w' ⟨rfl, ⟨nd, rfl⟩⟩; (try first | exact ⟨rfl, _, World.drewN_drewN _ _ _⟩ | exact ⟨rfl, _, Eq.trans (World.drewN_drewN _ _ _) (congrArg (World.drewN _) (Nat.add_assoc _ _ _))⟩)) | (go_at_call 98; (with_reducible refine (herbariumlaw0_BitsWeight.calls k _ _ l0_1 t448 _ ?side1 ?side2 A3.out).mono ?_); (case side1 => exact uc (Kd.C_below HR0_1.out (by repeat with_reducible first | exact HB.out | apply b1 | apply b2 | apply b3 | refine b4 ?_ GE446.out))); (case side2 => exact HC0_1.out); rintro e w' ⟨rfl, ⟨nd, rfl⟩⟩; (try first | exact ⟨rfl, _, World.drewN_drewN _ _ _⟩ | exact ⟨rfl, _, Eq.trans (World.drewN_drewN _ _ _) (congrArg (World.drewN _) (Nat.add_assoc _ _ _))⟩))))
 go_ret
 exact ⟨by first | rfl | (simp [errW_none, errW_some] <;> rfl) | (simp [*, errW_none, errW_some] <;> rfl), by repeat with_reducible first | exact HB.out | apply b1 | apply b2 | apply b3 | refine b4 ?_ GE446.out⟩
end Go.Proofs.Ytnpghcikhpglkaa.Q
namespace Go.Proofs.Ytnpghcikhpglkaa.Q
open Go.RowKit Go.Proofs.YtnpghcikhpglkaaW.PrintWords Go.Proofs.YtnpghcikhpglkaaW.PrintLast Go.Proofs.YtnpghcikhpglkaaW.PrintMore
attribute [local go_sem] max2_int min2_int max_two min_two max_three min_three max_four min_four   -- for this text's walks alone
set_option linter.unusedVariables false
set_option linter.unusedSimpArgs false

/-! ### herbariumlaw3_Lists: function 70 -/
def herbariumlaw3_Lists.f (l0_0 : List (List Int)) (l0_1 : List (S27)) (l0_2 : List Int) : Option ((List (List Int))) := (some (([[], (([0] : List Int)), (([2, 3, 4, 9] : List Int)), (([15] : List Int))] : List (List Int)) : List (List Int))).bind fun y459 => (if y459.length + l0_0.length < 5864062014805 then ((some (y459 ++ l0_0 : List (List Int))).bind fun y462 => (if (y462.length : Int) > 9 then (if 9 ≤ (y462.length : Int) then (some (y462.take (9 : Int).toNat)) else (none)) else (some y462))) else (none))
set_option maxHeartbeats 8000000 in
set_option maxRecDepth 100000 in
theorem herbariumlaw3_Lists.calls (P0_0_ : Nat → Prop) (A0_0 : Option Addr) (c0_0 : Nat) (l0_0 : List (List Int)) (A0_1 : Option Addr) (c0_1 : Nat) (l0_1 : List (S27)) (A0_2 : Option Addr) (c0_2 : Nat) (l0_2 : List Int) (r : List (List Int)) (w : World) (hs0_0 : Kd.V (Kd.slice 3 (Kd.int .i64)) 23 w w.heap.size (fun k_ => P0_0_ k_) (.slice A0_0 l0_0.length c0_0) l0_0) (hr0_1 : Kd.C k27 w A0_1 l0_1.length l0_1) (hc0_1 : l0_1.length ≤ c0_1) (hr0_2 : Kd.C (Kd.int .i64) w A0_2 l0_2.length l0_2) (hc0_2 : l0_2.length ≤ c0_2) (h : herbariumlaw3_Lists.f l0_0 l0_1 l0_2 = some r) :
    Calls Try.prog 70 #[.agg #[.slice A0_0 l0_0.length c0_0, .slice A0_1 l0_1.length c0_1, .slice A0_2 l0_2.length c0_2]] w fun e w' => ∃ v0_ : Value, e = .returned (v0_) ∧ Kd.N (Kd.slice 3 (Kd.int .i64)) 23 w' w.heap.size (fun k_ => (P0_0_ k_ ∨ w.heap.size ≤ k_)) v0_ r ∧ Below w.heap.size w w' := by
 have hu78 := Try.underlying78
 have HO0_0 := ak (show Kd.V (Kd.slice 3 (Kd.int .i64)) 23 w w.heap.size (fun k_ => (P0_0_ k_ ∨ w.heap.size ≤ k_)) (.slice A0_0 l0_0.length c0_0) l0_0 from Kd.V_mono hs0_0 (fun k_ hk => .inl hk))
 have HR0_1 := ak hr0_1
 have HC0_1 := ak hc0_1
 clear hr0_1 hc0_1
 have HR0_2 := ak hr0_2
 have HC0_2 := ak hc0_2
 clear hr0_2 hc0_2
 have HB := ak (Below.refl w.heap.size w)
 have H : ((some (([[], (([0] : List Int)), (([2, 3, 4, 9] : List Int)), (([15] : List Int))] : List (List Int)) : List (List Int))).bind fun y459 => (if y459.length + l0_0.length < 5864062014805 then ((some (y459 ++ l0_0 : List (List Int))).bind fun y462 => (if (y462.length : Int) > 9 then (if 9 ≤ (y462.length : Int) then (some (y462.take (9 : Int).toNat)) else (none)) else (some y462))) else (none))) = some r := h
 clear h
 obtain ⟨y450, hy450⟩ : ∃ y_ : List Int, y_ = (([0] : List Int)) := ⟨_, rfl⟩
 replace H : ((some (([[], y450, (([2, 3, 4, 9] : List Int)), (([15] : List Int))] : List (List Int)) : List (List Int))).bind fun y459 => (if y459.length + l0_0.length < 5864062014805 then ((some (y459 ++ l0_0 : List (List Int))).bind fun y462 => (if (y462.length : Int) > 9 then (if 9 ≤ (y462.length : Int) then (some (y462.take (9 : Int).toNat)) else (none)) else (some y462))) else (none))) = some r := by first | (rw [hy450]; with_reducible exact H) | (have H2_ := (Option.bind_some _ _).symm.trans H; rw [hy450]; with_reducible exact H2_) | (have H2_ := (Option.bind_some _ _).symm.trans H; with_reducible exact H2_) | with_reducible exact H | (rw [hy450]; exact H) | exact H
 have Ny450 := ak hy450
 clear hy450
 obtain ⟨y453, hy453⟩ : ∃ y_ : List Int, y_ = (([2, 3, 4, 9] : List Int)) := ⟨_, rfl⟩
 replace H : ((some (([[], y450, y453, (([15] : List Int))] : List (List Int)) : List (List Int))).bind fun y459 => (if y459.length + l0_0.length < 5864062014805 then ((some (y459 ++ l0_0 : List (List Int))).bind fun y462 => (if (y462.length : Int) > 9 then (if 9 ≤ (y462.length : Int) then (some (y462.take (9 : Int).toNat)) else (none)) else (some y462))) else (none))) = some r := by first | (rw [hy453]; with_reducible exact H) | (have H2_ := (Option.bind_some _ _).symm.trans H; rw [hy453]; with_reducible exact H2_) | (have H2_ := (Option.bind_some _ _).symm.trans H; with_reducible exact H2_) | with_reducible exact H | (rw [hy453]; exact H) | exact H
 have Ny453 := ak hy453
 clear hy453
 obtain ⟨y456, hy456⟩ : ∃ y_ : List Int, y_ = (([15] : List Int)) := ⟨_, rfl⟩
 replace H : ((some (([[], y450, y453, y456] : List (List Int)) : List (List Int))).bind fun y459 => (if y459.length + l0_0.length < 5864062014805 then ((some (y459 ++ l0_0 : List (List Int))).bind fun y462 => (if (y462.length : Int) > 9 then (if 9 ≤ (y462.length : Int) then (some (y462.take (9 : Int).toNat)) else (none)) else (some y462))) else (none))) = some r := by first | (rw [hy456]; with_reducible exact H) | (have H2_ := (Option.bind_some _ _).symm.trans H; rw [hy456]; with_reducible exact H2_) | (have H2_ := (Option.bind_some _ _).symm.trans H; with_reducible exact H2_) | with_reducible exact H | (rw [hy456]; exact H) | exact H
 have Ny456 := ak hy456
 clear hy456
 obtain ⟨y459, hy459⟩ : ∃ y_ : List (List Int), y_ = (([[], y450, y453, y456] : List (List Int))) := ⟨_, rfl⟩
 replace H : (if y459.length + l0_0.length < 5864062014805 then ((some (y459 ++ l0_0 : List (List Int))).bind fun y462 => (if (y462.length : Int) > 9 then (if 9 ≤ (y462.length : Int) then (some (y462.take (9 : Int).toNat)) else (none)) else (some y462))) else (none)) = some r := by first | (rw [hy459]; with_reducible exact H) | (have H2_ := (Option.bind_some _ _).symm.trans H; rw [hy459]; with_reducible exact H2_) | (have H2_ := (Option.bind_some _ _).symm.trans H; with_reducible exact H2_) | with_reducible exact H | (rw [hy459]; exact H) | exact H
 have Ny459 := ak hy459
 clear hy459
 by_cases c2 : y459.length + l0_0.length < 5864062014805
 rotate_left
 ·
  rw [if_neg c2] at H
  exact absurd H (by simp)
 rw [if_pos c2] at H
 have LMc2 := ak c2
 clear c2
 obtain ⟨y462, hy462⟩ : ∃ y_ : List (List Int), y_ = (y459 ++ l0_0) := ⟨_, rfl⟩
 replace H : (if (y462.length : Int) > 9 then (if 9 ≤ (y462.length : Int) then (some (y462.take (9 : Int).toNat)) else (none)) else (some y462)) = some r := by first | (rw [hy462]; with_reducible exact H) | (have H2_ := (Option.bind_some _ _).symm.trans H; rw [hy462]; with_reducible exact H2_) | (have H2_ := (Option.bind_some _ _).symm.trans H; with_reducible exact H2_) | with_reducible exact H | (rw [hy462]; exact H) | exact H
 have Ny462 := ak hy462
 clear hy462
 by_cases c3 : (y462.length : Int) > 9
 rotate_left
 ·
  rw [if_neg c3] at H
  have c3b0 : decide (9 < (y462.length : Int)) = false := decide_eq_false c3
  have c3b1 : decide (9 < y462.length) = false := decide_eq_false (by omega)
  clear c3
  obtain rfl := Option.some.inj H
  go_enter Try.func70, Try.ntmps70
  go_wp2_with (first | ((with_reducible refine gate_dst (N := 1) rfl ?_); refine box_event ?hg (N := 1) ?hd (cs := #[.slice A0_0 l0_0.length c0_0, .slice A0_1 l0_1.length c0_1, .slice A0_2 l0_2.length c0_2]) (t := 78) ?hr ?_; (case hd => rfl); (case hg => rfl); (case hr => first | (go_simp; done) | (go_simp; rfl)); intro gb449 hg w21 hbox hb; have n0_ := ak (Kd.V_below (Kd.V_elderB (uv <| HO0_0.out) gb449 (Nat.le_of_eq hg.symm)) hb); have n1_ := ak (below_step (ul HB.out) hb); have n2_ := ak (hbox); have n3_ := ak ((by rw [hg]; exact (below_size (ul HB.out)) : w.heap.size ≤ gb449)); have n4_ := ak ((by rw [hg]; exact (below_size (ul HB.out)) : w.heap.size ≤ gb449)); clear HO0_0; clear HB; have HO0_0 := n0_; have HB := n1_; have BK449 := n2_; have GW449 := n3_; have GE449 := n4_; clear n0_ n1_ n2_ n3_ n4_; clear hb hbox hg) | ((with_reducible refine gate_dst (N := 4) rfl ?_); refine Kd.R_lit (Kd.int .i64) _ 3 ?hg (N := 4) ?hd (xs := ([0] : List Int)) (inner := [.int .i64 0]) (ok := fun _ => True) (okp := fun _ => True) ?hr ?hp (fun _ hk => hk) trivial (Below.refl _ _) (Nat.le_refl _) (by simp) ?_; (case hd => rfl); (case hg => rfl); (case hr => first | (go_simp; done) | (go_simp; rfl)); (case hp => exact (Reps.one (show Kd.M (Kd.int .i64) _ _ _ 0 [.int .i64 0] from rfl) (Reps.none _ _))); intro v451 w22 ho23 hb hg_ hnew_; clear hg_ hnew_; (first | rw [← Ny450.out] at ho23 | (simp only [Int.reduceToNat] at ho23; rw [← Ny450.out] at ho23)); have n0_ := ak (Kd.V_elder' (uv <| HO0_0.out) (Kd.R_base ho23) hb); have n1_ := ak (Kd.R_lower (Kd.R_newM (M := fun k_ => (w.heap.size ≤ k_)) ho23 (below_size (by repeat with_reducible first | exact HB.out | apply b1 | apply b2 | apply b3 | refine b4 ?_ GE449.out)) (fun k_ h_ => h_)) (below_size (by repeat with_reducible first | exact HB.out | apply b1 | apply b2 | apply b3 | refine b4 ?_ GE449.out))); have n2_ := ak (blk_below (g := gb449) (o := .cells #[.slice A0_0 l0_0.length c0_0, .slice A0_1 l0_1.length c0_1, .slice A0_2 l0_2.length c0_2] 78 (0, 0)) (ub BK449.out) hb); have n3_ := ak (below_step (by repeat with_reducible first | exact HB.out | apply b1 | apply b2 | apply b3 | refine b4 ?_ GE449.out) hb); clear HO0_0; clear BK449; clear HB; have HO0_0 := n0_; have HO452 := n1_; have BK449 := n2_; have HB := n3_; clear n0_ n1_ n2_ n3_; clear hb ho23) | ((with_reducible refine gate_dst (N := 5) rfl ?_); refine Kd.R_lit (Kd.int .i64) _ 3 ?hg (N := 5) ?hd (xs := ([2, 3, 4, 9] : List Int)) (inner := [.int .i64 2, .int .i64 3, .int .i64 4, .int .i64 9]) (ok := fun _ => True) (okp := fun _ => True) ?hr ?hp (fun _ hk => hk) trivial (Below.refl _ _) (Nat.le_refl _) (by simp) ?_; (case hd => rfl); (case hg => rfl); (case hr => first | (go_simp; done) | (go_simp; rfl)); (case hp => exact (Reps.one (show Kd.M (Kd.int .i64) _ _ _ 2 [.int .i64 2] from rfl) (Reps.one (show Kd.M (Kd.int .i64) _ _ _ 3 [.int .i64 3] from rfl) (Reps.one (show Kd.M (Kd.int .i64) _ _ _ 4 [.int .i64 4] from rfl) (Reps.one (show Kd.M (Kd.int .i64) _ _ _ 9 [.int .i64 9] from rfl) (Reps.none _ _)))))); intro v454 w24 ho25 hb hg_ hnew_; clear hg_ hnew_; (first | rw [← Ny453.out] at ho25 | (simp only [Int.reduceToNat] at ho25; rw [← Ny453.out] at ho25)); have n0_ := ak (Kd.V_elder' (uv <| HO0_0.out) (Kd.R_base ho25) hb); have n1_ := ak (Kd.R_elder' (ur <| HO452.out) (Kd.R_base ho25) hb); have n2_ := ak (Kd.R_lower (Kd.R_new' (Kd.R_newM (M := fun k_ => (w.heap.size ≤ k_)) ho25 (below_size (by repeat with_reducible first | exact HB.out | apply b1 | apply b2 | apply b3 | refine b4 ?_ GE449.out)) (fun k_ h_ => h_)) (Kd.R_lt (ur <| HO452.out))) (below_size (by repeat with_reducible first | exact HB.out | apply b1 | apply b2 | apply b3 | refine b4 ?_ GE449.out))); have n3_ := ak (blk_below (g := gb449) (o := .cells #[.slice A0_0 l0_0.length c0_0, .slice A0_1 l0_1.length c0_1, .slice A0_2 l0_2.length c0_2] 78 (0, 0)) (ub BK449.out) hb); have n4_ := ak (below_step (by repeat with_reducible first | exact HB.out | apply b1 | apply b2 | apply b3 | refine b4 ?_ GE449.out) hb); clear HO0_0; clear HO452; clear BK449; clear HB; have HO0_0 := n0_; have HO452 := n1_; have HO455 := n2_; have BK449 := n3_; have HB := n4_; clear n0_ n1_ n2_ n3_ n4_; clear hb ho25) | ((with_reducible refine gate_dst (N := 6) rfl ?_); refine Kd.R_lit (Kd.int .i64) _ 3 ?hg (N := 6) ?hd (xs := ([15] : List Int)) (inner := [.int .i64 15]) (ok := fun _ => True) (okp := fun _ => True) ?hr ?hp (fun _ hk => hk) trivial (Below.refl _ _) (Nat.le_refl _) (by simp) ?_; (case hd => rfl); (case hg => rfl); (case hr => first | (go_simp; done) | (go_simp; rfl)); (case hp => exact (Reps.one (show Kd.M (Kd.int .i64) _ _ _ 15 [.int .i64 15] from rfl) (Reps.none _ _))); intro v457 w26 ho27 hb hg_ hnew_; clear hg_ hnew_; (first | rw [← Ny456.out] at ho27 | (simp only [Int.reduceToNat] at ho27; rw [← Ny456.out] at ho27)); have n0_ := ak (Kd.V_elder' (uv <| HO0_0.out) (Kd.R_base ho27) hb); have n1_ := ak (Kd.R_elder' (ur <| HO452.out) (Kd.R_base ho27) hb); have n2_ := ak (Kd.R_elder' (ur <| HO455.out) (Kd.R_base ho27) hb); have n3_ := ak (Kd.R_lower (Kd.R_new' (Kd.R_new' (Kd.R_newM (M := fun k_ => (w.heap.size ≤ k_)) ho27 (below_size (by repeat with_reducible first | exact HB.out | apply b1 | apply b2 | apply b3 | refine b4 ?_ GE449.out)) (fun k_ h_ => h_)) (Kd.R_lt (ur <| HO452.out))) (Kd.R_lt (ur <| HO455.out))) (below_size (by repeat with_reducible first | exact HB.out | apply b1 | apply b2 | apply b3 | refine b4 ?_ GE449.out))); have n4_ := ak (blk_below (g := gb449) (o := .cells #[.slice A0_0 l0_0.length c0_0, .slice A0_1 l0_1.length c0_1, .slice A0_2 l0_2.length c0_2] 78 (0, 0)) (ub BK449.out) hb); have n5_ := ak (below_step (by repeat with_reducible first | exact HB.out | apply b1 | apply b2 | apply b3 | refine b4 ?_ GE449.out) hb); clear HO0_0; clear HO452; clear HO455; clear BK449; clear HB; have HO0_0 := n0_; have HO452 := n1_; have HO455 := n2_; have HO458 := n3_; have BK449 := n4_; have HB := n5_; clear n0_ n1_ n2_ n3_ n4_ n5_; clear hb ho27; obtain ⟨Ao28, co28, eo28⟩ := Kd.R_slice HO452.out; subst eo28; obtain ⟨Ao29, co29, eo29⟩ := Kd.R_slice HO455.out; subst eo29; obtain ⟨Ao30, co30, eo30⟩ := Kd.R_slice HO458.out; subst eo30) | ((with_reducible refine gate_dst (N := 7) rfl ?_); refine Kd.N_lit (Kd.slice 3 (Kd.int .i64)) _ 23 ?hg (N' := 7) ?hd (xs := ([[], y450, y453, y456] : List (List Int))) (inner := [.slice none 0 0, .slice Ao28 y450.length co28, .slice Ao29 y453.length co29, .slice Ao30 y456.length co30]) (ok := (fun k_ => (P0_0_ k_ ∨ w.heap.size ≤ k_) ∧ k_ ≠ gb449)) (okp := (fun k_ => (P0_0_ k_ ∨ w.heap.size ≤ k_) ∧ k_ ≠ gb449)) ?hr ?hp (fun _ hk => hk) ((show ∀ k_, w26.heap.size ≤ k_ → (fun k_ => (P0_0_ k_ ∨ w.heap.size ≤ k_) ∧ k_ ≠ gb449) k_ from fun k_ hk => ⟨(.inr (Nat.le_trans (below_size (by repeat with_reducible first | exact HB.out | apply b1 | apply b2 | apply b3 | refine b4 ?_ GE449.out)) hk)), Kd.freshB (g := gb449) (o := .cells #[.slice A0_0 l0_0.length c0_0, .slice A0_1 l0_1.length c0_1, .slice A0_2 l0_2.length c0_2] 78 (0, 0)) (ub BK449.out) k_ hk⟩) _ (Nat.le_refl _)) (Below.refl _ _) (Nat.le_refl _) (by simp) ?_; (case hd => rfl); (case hg => rfl); (case hr => first | (go_simp; done) | (go_simp; rfl)); (case hp => exact (Reps.one (show Kd.FK (Kd.slice 3 (Kd.int .i64)) _ _ [] [.slice none 0 0] from (Kd.FK_slice_mk (Nat.le_refl _) (Kd.F_nil _ _ _))) (Reps.one (show Kd.FK (Kd.slice 3 (Kd.int .i64)) _ _ y450 [.slice Ao28 y450.length co28] from (Kd.FK_slice_mk (Kd.R_reads' (Kd.R_mono (ok' := (fun k_ => (P0_0_ k_ ∨ w.heap.size ≤ k_) ∧ k_ ≠ gb449)) (Kd.R_types (HO452.out) BK449.out (by decide)) (fun k_ hk => ⟨(.inr (hk.1.1.1.1)), hk.2⟩))).2.1 (Kd.R_F (Kd.R_mono (ok' := (fun k_ => (P0_0_ k_ ∨ w.heap.size ≤ k_) ∧ k_ ≠ gb449)) (Kd.R_types (HO452.out) BK449.out (by decide)) (fun k_ hk => ⟨(.inr (hk.1.1.1.1)), hk.2⟩))))) (Reps.one (show Kd.FK (Kd.slice 3 (Kd.int .i64)) _ _ y453 [.slice Ao29 y453.length co29] from (Kd.FK_slice_mk (Kd.R_reads' (Kd.R_mono (ok' := (fun k_ => (P0_0_ k_ ∨ w.heap.size ≤ k_) ∧ k_ ≠ gb449)) (Kd.R_types (HO455.out) BK449.out (by decide)) (fun k_ hk => ⟨(.inr (hk.1.1.1.1)), hk.2⟩))).2.1 (Kd.R_F (Kd.R_mono (ok' := (fun k_ => (P0_0_ k_ ∨ w.heap.size ≤ k_) ∧ k_ ≠ gb449)) (Kd.R_types (HO455.out) BK449.out (by decide)) (fun k_ hk => ⟨(.inr (hk.1.1.1.1)), hk.2⟩))))) (Reps.one (show Kd.FK (Kd.slice 3 (Kd.int .i64)) _ _ y456 [.slice Ao30 y456.length co30] from (Kd.FK_slice_mk (Kd.R_reads' (Kd.R_mono (ok' := (fun k_ => (P0_0_ k_ ∨ w.heap.size ≤ k_) ∧ k_ ≠ gb449)) (Kd.R_types (HO458.out) BK449.out (by decide)) (fun k_ hk => ⟨(.inr (hk.1.1.1.1)), hk.2⟩))).2.1 (Kd.R_F (Kd.R_mono (ok' := (fun k_ => (P0_0_ k_ ∨ w.heap.size ≤ k_) ∧ k_ ≠ gb449)) (Kd.R_types (HO458.out) BK449.out (by decide)) (fun k_ hk => ⟨(.inr (hk.1.1.1.1)), hk.2⟩))))) (Reps.none _ _)))))); intro v460 w31 ho32 hb hg_ hnew_; clear hg_ hnew_; (first | rw [← Ny459.out] at ho32 | (simp only [Int.reduceToNat] at ho32; rw [← Ny459.out] at ho32)); have n0_ := ak (Kd.V_elder' (uv <| HO0_0.out) (Kd.N_base ho32) hb); have n1_ := ak (Kd.N_lower ho32 (below_size (by repeat with_reducible first | exact HB.out | apply b1 | apply b2 | apply b3 | refine b4 ?_ GE449.out))); have n2_ := ak (blk_below (g := gb449) (o := .cells #[.slice A0_0 l0_0.length c0_0, .slice A0_1 l0_1.length c0_1, .slice A0_2 l0_2.length c0_2] 78 (0, 0)) (ub BK449.out) hb); have n3_ := ak (below_step (by repeat with_reducible first | exact HB.out | apply b1 | apply b2 | apply b3 | refine b4 ?_ GE449.out) hb); clear HO0_0; clear BK449; clear HB; clear HO452; clear HO455; clear HO458; have HO0_0 := n0_; have HO461 := n1_; have BK449 := n2_; have HB := n3_; clear n0_ n1_ n2_ n3_; clear hb ho32; have hcz33_0 : w31.cell? ⟨gb449, 0, none⟩ = some (.slice A0_0 l0_0.length c0_0) := (blk_cell BK449.out 0).trans rfl; have hcz33_1 : w31.cell? ⟨gb449, 1, none⟩ = some (.slice A0_1 l0_1.length c0_1) := (blk_cell BK449.out 1).trans rfl; have hcz33_2 : w31.cell? ⟨gb449, 2, none⟩ = some (.slice A0_2 l0_2.length c0_2) := (blk_cell BK449.out 2).trans rfl; have hfz33_0 := blk_frozen BK449.out 0; have hfz33_1 := blk_frozen BK449.out 1; have hfz33_2 := blk_frozen BK449.out 2) | ((with_reducible refine gate_builtin (b := .append) (xs := #[.tmp 7, .tmp 9]) rfl ?_); at_builtin; refine Kd.N_append_rows (Kd.slice 3 (Kd.int .i64)) (w0 := w) w.heap.size rfl (.tmp 7) (.tmp 9) 76 23 (.slice none 0 0) 24 rfl Try.underlying76 info23 rfl (by decide) (by omega) v460 y459 l0_0 _ _ _ (fun k_ => (P0_0_ k_ ∨ w.heap.size ≤ k_) ∧ k_ ≠ gb449) (fun k_ => ((fun k_ => (P0_0_ k_ ∨ w.heap.size ≤ k_) ∧ k_ ≠ gb449)) k_ ∧ some k_ ≠ (v460 : Value).ownBlock) rfl rfl ?aO ?aR (fun _ hk => hk) ?aF ?aB ?aS ?aL ?_; (case aR => exact (by skip; exact Kd.V_F (Kd.V_mono (ok' := (fun k_ => ((fun k_ => (P0_0_ k_ ∨ w.heap.size ≤ k_) ∧ k_ ≠ gb449)) k_ ∧ some k_ ≠ (v460 : Value).ownBlock)) (HO0_0.out) (fun k_ hk => ⟨⟨hk.1.1.1.1.1, hk.1.1.1.1.2⟩, hk.2⟩)))); (case aB => exact (by repeat with_reducible first | exact HB.out | apply b1 | apply b2 | apply b3 | refine b4 ?_ GE449.out)); (case aF => exact (fun k_ hk => ⟨(.inr (Nat.le_trans (below_size (by repeat with_reducible first | exact HB.out | apply b1 | apply b2 | apply b3 | refine b4 ?_ GE449.out)) hk)), Kd.freshB (g := gb449) (o := .cells #[.slice A0_0 l0_0.length c0_0, .slice A0_1 l0_1.length c0_1, .slice A0_2 l0_2.length c0_2] 78 (0, 0)) (ub BK449.out) k_ hk⟩)); (case aO => exact (un <| HO461.out)); (case aS => exact (below_size (by repeat with_reducible first | exact HB.out | apply b1 | apply b2 | apply b3 | refine b4 ?_ GE449.out))); (case aL => have := LMc2.out; omega); intro v463 w34 ho hb hg hat; rw [← Ny462.out] at ho; have n0_ := ak (Kd.V_afterv (ok := (fun k_ => (P0_0_ k_ ∨ w.heap.size ≤ k_) ∧ k_ ≠ gb449)) (uv <| Kd.V_mono HO0_0.out (fun _ hk => ⟨⟨hk.1.1.1.1.1, hk.1.1.1.1.2⟩, hk.2⟩)) hg hat); have n1_ := ak (blk_grown (g := gb449) (o := .cells #[.slice A0_0 l0_0.length c0_0, .slice A0_1 l0_1.length c0_1, .slice A0_2 l0_2.length c0_2] 78 (0, 0)) (ub BK449.out) hg (Kd.N_ne HO461.out BK449.out (by decide))); have n2_ := ak (hb); have n3_ := ak (ho); clear HO0_0; clear BK449; clear HB; clear HO461; have HO0_0 := n0_; have BK449 := n1_; have HB := n2_; have HO464 := n3_; clear n0_ n1_ n2_ n3_; clear ho hb hg hat; obtain ⟨Ao35, co35, eo35⟩ := Kd.N_slice HO464.out; subst eo35))
  go_ret
  exact ⟨_, by first | rfl | (simp [errW_none, errW_some] <;> rfl) | (simp [*, errW_none, errW_some] <;> rfl), un <| Kd.N_mono HO464.out (fun _ hk => hk.1), by repeat with_reducible first | exact HB.out | apply b1 | apply b2 | apply b3 | refine b4 ?_ GE449.out⟩
 rw [if_pos c3] at H
 have c3b0 : decide (9 < (y462.length : Int)) = true := decide_eq_true c3
 have c3b1 : decide (9 < y462.length) = true := decide_eq_true (by omega)
 clear c3
 by_cases c4 : 9 ≤ (y462.length : Int)
 rotate_left
 ·
  rw [if_neg c4] at H
  exact absurd H (by simp)
 rw [if_pos c4] at H
 have c4b0 := eq_true c4
 have c4b1 : decide (9 ≤ (y462.length : Int)) = true := decide_eq_true c4
 clear c4
 obtain ⟨y465, hy465⟩ : ∃ y_ : List (List Int), y_ = (y462.take (9 : Int).toNat) := ⟨_, rfl⟩
 replace H : (some y465) = some r := by first | (rw [hy465]; with_reducible exact H) | (have H2_ := (Option.bind_some _ _).symm.trans H; rw [hy465]; with_reducible exact H2_) | (have H2_ := (Option.bind_some _ _).symm.trans H; with_reducible exact H2_) | with_reducible exact H | (rw [hy465]; exact H) | exact H
 have Ny465 := ak hy465
 clear hy465
 obtain rfl := Option.some.inj H
 go_enter Try.func70, Try.ntmps70
 go_wp2_with (first | ((with_reducible refine gate_dst (N := 1) rfl ?_); refine box_event ?hg (N := 1) ?hd (cs := #[.slice A0_0 l0_0.length c0_0, .slice A0_1 l0_1.length c0_1, .slice A0_2 l0_2.length c0_2]) (t := 78) ?hr ?_; (case hd => rfl); (case hg => rfl); (case hr => first | (go_simp; done) | (go_simp; rfl)); intro gb449 hg w5 hbox hb; have n0_ := ak (Kd.V_below (Kd.V_elderB (uv <| HO0_0.out) gb449 (Nat.le_of_eq hg.symm)) hb); have n1_ := ak (below_step (ul HB.out) hb); have n2_ := ak (hbox); have n3_ := ak ((by rw [hg]; exact (below_size (ul HB.out)) : w.heap.size ≤ gb449)); have n4_ := ak ((by rw [hg]; exact (below_size (ul HB.out)) : w.heap.size ≤ gb449)); clear HO0_0; clear HB; have HO0_0 := n0_; have HB := n1_; have BK449 := n2_; have GW449 := n3_; have GE449 := n4_; clear n0_ n1_ n2_ n3_ n4_; clear hb hbox hg) | ((with_reducible refine gate_dst (N := 4) rfl ?_); refine Kd.R_lit (Kd.int .i64) _ 3 ?hg (N := 4) ?hd (xs := ([0] : List Int)) (inner := [.int .i64 0]) (ok := fun _ => True) (okp := fun _ => True) ?hr ?hp (fun _ hk => hk) trivial (Below.refl _ _) (Nat.le_refl _) (by simp) ?_; (case hd => rfl); (case hg => rfl); (case hr => first | (go_simp; done) | (go_simp; rfl)); (case hp => exact (Reps.one (show Kd.M (Kd.int .i64) _ _ _ 0 [.int .i64 0] from rfl) (Reps.none _ _))); intro v451 w6 ho7 hb hg_ hnew_; clear hg_ hnew_; (first | rw [← Ny450.out] at ho7 | (simp only [Int.reduceToNat] at ho7; rw [← Ny450.out] at ho7)); have n0_ := ak (Kd.V_elder' (uv <| HO0_0.out) (Kd.R_base ho7) hb); have n1_ := ak (Kd.R_lower (Kd.R_newM (M := fun k_ => (w.heap.size ≤ k_)) ho7 (below_size (by repeat with_reducible first | exact HB.out | apply b1 | apply b2 | apply b3 | refine b4 ?_ GE449.out)) (fun k_ h_ => h_)) (below_size (by repeat with_reducible first | exact HB.out | apply b1 | apply b2 | apply b3 | refine b4 ?_ GE449.out))); have n2_ := ak (blk_below (g := gb449) (o := .cells #[.slice A0_0 l0_0.length c0_0, .slice A0_1 l0_1.length c0_1, .slice A0_2 l0_2.length c0_2] 78 (0, 0)) (ub BK449.out) hb); have n3_ := ak (below_step (by repeat with_reducible first | exact HB.out | apply b1 | apply b2 | apply b3 | refine b4 ?_ GE449.out) hb); clear HO0_0; clear BK449; clear HB; have HO0_0 := n0_; have HO452 := n1_; have BK449 := n2_; have HB := n3_; clear n0_ n1_ n2_ n3_; clear hb ho7) | ((with_reducible refine gate_dst (N := 5) rfl ?_); refine Kd.R_lit (Kd.int .i64) _ 3 ?hg (N := 5) ?hd (xs := ([2, 3, 4, 9] : List Int)) (inner := [.int .i64 2, .int .i64 3, .int .i64 4, .int .i64 9]) (ok := fun _ => True) (okp := fun _ => True) ?hr ?hp (fun _ hk => hk) trivial (Below.refl _ _) (Nat.le_refl _) (by simp) ?_; (case hd => rfl); (case hg => rfl); (case hr => first | (go_simp; done) | (go_simp; rfl)); (case hp => exact (Reps.one (show Kd.M (Kd.int .i64) _ _ _ 2 [.int .i64 2] from rfl) (Reps.one (show Kd.M (Kd.int .i64) _ _ _ 3 [.int .i64 3] from rfl) (Reps.one (show Kd.M (Kd.int .i64) _ _ _ 4 [.int .i64 4] from rfl) (Reps.one (show Kd.M (Kd.int .i64) _ _ _ 9 [.int .i64 9] from rfl) (Reps.none _ _)))))); intro v454 w8 ho9 hb hg_ hnew_; clear hg_ hnew_; (first | rw [← Ny453.out] at ho9 | (simp only [Int.reduceToNat] at ho9; rw [← Ny453.out] at ho9)); have n0_ := ak (Kd.V_elder' (uv <| HO0_0.out) (Kd.R_base ho9) hb); have n1_ := ak (Kd.R_elder' (ur <| HO452.out) (Kd.R_base ho9) hb); have n2_ := ak (Kd.R_lower (Kd.R_new' (Kd.R_newM (M := fun k_ => (w.heap.size ≤ k_)) ho9 (below_size (by repeat with_reducible first | exact HB.out | apply b1 | apply b2 | apply b3 | refine b4 ?_ GE449.out)) (fun k_ h_ => h_)) (Kd.R_lt (ur <| HO452.out))) (below_size (by repeat with_reducible first | exact HB.out | apply b1 | apply b2 | apply b3 | refine b4 ?_ GE449.out))); have n3_ := ak (blk_below (g := gb449) (o := .cells #[.slice A0_0 l0_0.length c0_0, .slice A0_1 l0_1.length c0_1, .slice A0_2 l0_2.length c0_2] 78 (0, 0)) (ub BK449.out) hb); have n4_ := ak (below_step (by repeat with_reducible first | exact HB.out | apply b1 | apply b2 | apply b3 | refine b4 ?_ GE449.out) hb); clear HO0_0; clear HO452; clear BK449; clear HB; have HO0_0 := n0_; have HO452 := n1_; have HO455 := n2_; have BK449 := n3_; have HB := n4_; clear n0_ n1_ n2_ n3_ n4_; clear hb ho9) | ((with_reducible refine gate_dst (N := 6) rfl ?_); refine Kd.R_lit (Kd.int .i64) _ 3 ?hg (N := 6) ?hd (xs := ([15] : List Int)) (inner := [.int .i64 15]) (ok := fun _ => True) (okp := fun _ => True) ?hr ?hp (fun _ hk => hk) trivial (Below.refl _ _) (Nat.le_refl _) (by simp) ?_; (case hd => rfl); (case hg => rfl); (case hr => first | (go_simp; done) | (go_simp; rfl)); (case hp => exact (Reps.one (show Kd.M (Kd.int .i64) _ _ _ 15 [.int .i64 15] from rfl) (Reps.none _ _))); intro v457 w10 ho11 hb hg_ hnew_; clear hg_ hnew_; (first | rw [← Ny456.out] at ho11 | (simp only [Int.reduceToNat] at ho11; rw [← Ny456.out] at ho11)); have n0_ := ak (Kd.V_elder' (uv <| HO0_0.out) (Kd.R_base ho11) hb); have n1_ := ak (Kd.R_elder' (ur <| HO452.out) (Kd.R_base ho11) hb); have n2_ := ak (Kd.R_elder' (ur <| HO455.out) (Kd.R_base ho11) hb); have n3_ := ak (Kd.R_lower (Kd.R_new' (Kd.R_new' (Kd.R_newM (M := fun k_ => (w.heap.size ≤ k_)) ho11 (below_size (by repeat with_reducible first | exact HB.out | apply b1 | apply b2 | apply b3 | refine b4 ?_ GE449.out)) (fun k_ h_ => h_)) (Kd.R_lt (ur <| HO452.out))) (Kd.R_lt (ur <| HO455.out))) (below_size (by repeat with_reducible first | exact HB.out | apply b1 | apply b2 | apply b3 | refine b4 ?_ GE449.out))); have n4_ := ak (blk_below (g := gb449) (o := .cells #[.slice A0_0 l0_0.length c0_0, .slice A0_1 l0_1.length c0_1, .slice A0_2 l0_2.length c0_2] 78 (0, 0)) (ub BK449.out) hb); have n5_ := ak (below_step (by repeat with_reducible first | exact HB.out | apply b1 | apply b2 | apply b3 | refine b4 ?_ GE449.out) hb); clear HO0_0; clear HO452; clear HO455; clear BK449; clear HB; have HO0_0 := n0_; have HO452 := n1_; have HO455 := n2_; have HO458 := n3_; have BK449 := n4_; have HB := n5_; clear n0_ n1_ n2_ n3_ n4_ n5_; clear hb ho11; obtain ⟨Ao12, co12, eo12⟩ := Kd.R_slice HO452.out; subst eo12; obtain ⟨Ao13, co13, eo13⟩ := Kd.R_slice HO455.out; subst eo13; obtain ⟨Ao14, co14, eo14⟩ := Kd.R_slice HO458.out; subst eo14) | ((with_reducible refine gate_dst (N := 7) rfl ?_); refine Kd.N_lit (Kd.slice 3 (Kd.int .i64)) _ 23 ?hg (N' := 7) ?hd (xs := ([[], y450, y453, y456] : List (List Int))) (inner := [.slice none 0 0, .slice Ao12 y450.length co12, .slice Ao13 y453.length co13, .slice Ao14 y456.length co14]) (ok := (fun k_ => (P0_0_ k_ ∨ w.heap.size ≤ k_) ∧ k_ ≠ gb449)) (okp := (fun k_ => (P0_0_ k_ ∨ w.heap.size ≤ k_) ∧ k_ ≠ gb449)) ?hr ?hp (fun _ hk => hk) ((show ∀ k_, w10.heap.size ≤ k_ → (fun k_ => (P0_0_ k_ ∨ w.heap.size ≤ k_) ∧ k_ ≠ gb449) k_ from fun k_ hk => ⟨(.inr (Nat.le_trans (below_size (by repeat with_reducible first | exact HB.out | apply b1 | apply b2 | apply b3 | refine b4 ?_ GE449.out)) hk)), Kd.freshB (g := gb449) (o := .cells #[.slice A0_0 l0_0.length c0_0, .slice A0_1 l0_1.length c0_1, .slice A0_2 l0_2.length c0_2] 78 (0, 0)) (ub BK449.out) k_ hk⟩) _ (Nat.le_refl _)) (Below.refl _ _) (Nat.le_refl _) (by simp) ?_; (case hd => rfl); (case hg => rfl); (case hr => first | (go_simp; done) | (go_simp; rfl)); (case hp => exact (Reps.one (show Kd.FK (Kd.slice 3 (Kd.int .i64)) _ _ [] [.slice none 0 0] from (Kd.FK_slice_mk (Nat.le_refl _) (Kd.F_nil _ _ _))) (Reps.one (show Kd.FK (Kd.slice 3 (Kd.int .i64)) _ _ y450 [.slice Ao12 y450.length co12] from (Kd.FK_slice_mk (Kd.R_reads' (Kd.R_mono (ok' := (fun k_ => (P0_0_ k_ ∨ w.heap.size ≤ k_) ∧ k_ ≠ gb449)) (Kd.R_types (HO452.out) BK449.out (by decide)) (fun k_ hk => ⟨(.inr (hk.1.1.1.1)), hk.2⟩))).2.1 (Kd.R_F (Kd.R_mono (ok' := (fun k_ => (P0_0_ k_ ∨ w.heap.size ≤ k_) ∧ k_ ≠ gb449)) (Kd.R_types (HO452.out) BK449.out (by decide)) (fun k_ hk => ⟨(.inr (hk.1.1.1.1)), hk.2⟩))))) (Reps.one (show Kd.FK (Kd.slice 3 (Kd.int .i64)) _ _ y453 [.slice Ao13 y453.length co13] from (Kd.FK_slice_mk (Kd.R_reads' (Kd.R_mono (ok' := (fun k_ => (P0_0_ k_ ∨ w.heap.size ≤ k_) ∧ k_ ≠ gb449)) (Kd.R_types (HO455.out) BK449.out (by decide)) (fun k_ hk => ⟨(.inr (hk.1.1.1.1)), hk.2⟩))).2.1 (Kd.R_F (Kd.R_mono (ok' := (fun k_ => (P0_0_ k_ ∨ w.heap.size ≤ k_) ∧ k_ ≠ gb449)) (Kd.R_types (HO455.out) BK449.out (by decide)) (fun k_ hk => ⟨(.inr (hk.1.1.1.1)), hk.2⟩))))) (Reps.one (show Kd.FK (Kd.slice 3 (Kd.int .i64)) _ _ y456 [.slice Ao14 y456.length co14] from (Kd.FK_slice_mk (Kd.R_reads' (Kd.R_mono (ok' := (fun k_ => (P0_0_ k_ ∨ w.heap.size ≤ k_) ∧ k_ ≠ gb449)) (Kd.R_types (HO458.out) BK449.out (by decide)) (fun k_ hk => ⟨(.inr (hk.1.1.1.1)), hk.2⟩))).2.1 (Kd.R_F (Kd.R_mono (ok' := (fun k_ => (P0_0_ k_ ∨ w.heap.size ≤ k_) ∧ k_ ≠ gb449)) (Kd.R_types (HO458.out) BK449.out (by decide)) (fun k_ hk => ⟨(.inr (hk.1.1.1.1)), hk.2⟩))))) (Reps.none _ _)))))); intro v460 w15 ho16 hb hg_ hnew_; clear hg_ hnew_; (first | rw [← Ny459.out] at ho16 | (simp only [Int.reduceToNat] at ho16; rw [← Ny459.out] at ho16)); have n0_ := ak (Kd.V_elder' (uv <| HO0_0.out) (Kd.N_base ho16) hb); have n1_ := ak (Kd.N_lower ho16 (below_size (by repeat with_reducible first | exact HB.out | apply b1 | apply b2 | apply b3 | refine b4 ?_ GE449.out))); have n2_ := ak (blk_below (g := gb449) (o := .cells #[.slice A0_0 l0_0.length c0_0, .slice A0_1 l0_1.length c0_1, .slice A0_2 l0_2.length c0_2] 78 (0, 0)) (ub BK449.out) hb); have n3_ := ak (below_step (by repeat with_reducible first | exact HB.out | apply b1 | apply b2 | apply b3 | refine b4 ?_ GE449.out) hb); clear HO0_0; clear BK449; clear HB; clear HO452; clear HO455; clear HO458; have HO0_0 := n0_; have HO461 := n1_; have BK449 := n2_; have HB := n3_; clear n0_ n1_ n2_ n3_; clear hb ho16; have hcz17_0 : w15.cell? ⟨gb449, 0, none⟩ = some (.slice A0_0 l0_0.length c0_0) := (blk_cell BK449.out 0).trans rfl; have hcz17_1 : w15.cell? ⟨gb449, 1, none⟩ = some (.slice A0_1 l0_1.length c0_1) := (blk_cell BK449.out 1).trans rfl; have hcz17_2 : w15.cell? ⟨gb449, 2, none⟩ = some (.slice A0_2 l0_2.length c0_2) := (blk_cell BK449.out 2).trans rfl; have hfz17_0 := blk_frozen BK449.out 0; have hfz17_1 := blk_frozen BK449.out 1; have hfz17_2 := blk_frozen BK449.out 2) | ((with_reducible refine gate_builtin (b := .append) (xs := #[.tmp 7, .tmp 9]) rfl ?_); at_builtin; refine Kd.N_append_rows (Kd.slice 3 (Kd.int .i64)) (w0 := w) w.heap.size rfl (.tmp 7) (.tmp 9) 76 23 (.slice none 0 0) 24 rfl Try.underlying76 info23 rfl (by decide) (by omega) v460 y459 l0_0 _ _ _ (fun k_ => (P0_0_ k_ ∨ w.heap.size ≤ k_) ∧ k_ ≠ gb449) (fun k_ => ((fun k_ => (P0_0_ k_ ∨ w.heap.size ≤ k_) ∧ k_ ≠ gb449)) k_ ∧ some k_ ≠ (v460 : Value).ownBlock) rfl rfl ?aO ?aR (fun _ hk => hk) ?aF ?aB ?aS ?aL ?_; (case aR => exact (by skip; exact Kd.V_F (Kd.V_mono (ok' := (fun k_ => ((fun k_ => (P0_0_ k_ ∨ w.heap.size ≤ k_) ∧ k_ ≠ gb449)) k_ ∧ some k_ ≠ (v460 : Value).ownBlock)) (HO0_0.out) (fun k_ hk => ⟨⟨hk.1.1.1.1.1, hk.1.1.1.1.2⟩, hk.2⟩)))); (case aB => exact (by repeat with_reducible first | exact HB.out | apply b1 | apply b2 | apply b3 | refine b4 ?_ GE449.out)); (case aF => exact (fun k_ hk => ⟨(.inr (Nat.le_trans (below_size (by repeat with_reducible first | exact HB.out | apply b1 | apply b2 | apply b3 | refine b4 ?_ GE449.out)) hk)), Kd.freshB (g := gb449) (o := .cells #[.slice A0_0 l0_0.length c0_0, .slice A0_1 l0_1.length c0_1, .slice A0_2 l0_2.length c0_2] 78 (0, 0)) (ub BK449.out) k_ hk⟩)); (case aO => exact (un <| HO461.out)); (case aS => exact (below_size (by repeat with_reducible first | exact HB.out | apply b1 | apply b2 | apply b3 | refine b4 ?_ GE449.out))); (case aL => have := LMc2.out; omega); intro v463 w18 ho hb hg hat; rw [← Ny462.out] at ho; have n0_ := ak (Kd.V_afterv (ok := (fun k_ => (P0_0_ k_ ∨ w.heap.size ≤ k_) ∧ k_ ≠ gb449)) (uv <| Kd.V_mono HO0_0.out (fun _ hk => ⟨⟨hk.1.1.1.1.1, hk.1.1.1.1.2⟩, hk.2⟩)) hg hat); have n1_ := ak (blk_grown (g := gb449) (o := .cells #[.slice A0_0 l0_0.length c0_0, .slice A0_1 l0_1.length c0_1, .slice A0_2 l0_2.length c0_2] 78 (0, 0)) (ub BK449.out) hg (Kd.N_ne HO461.out BK449.out (by decide))); have n2_ := ak (hb); have n3_ := ak (ho); clear HO0_0; clear BK449; clear HB; clear HO461; have HO0_0 := n0_; have BK449 := n1_; have HB := n2_; have HO464 := n3_; clear n0_ n1_ n2_ n3_; clear ho hb hg hat; obtain ⟨Ao19, co19, eo19⟩ := Kd.N_slice HO464.out; subst eo19; have q20 : (9 : Int) ≤ ((y462.length : Int) : Int) := of_decide_eq_true (by first | (with_reducible assumption) | assumption); obtain ⟨i020, hi020, _, hsz20, _⟩ := info_parts info23; have hcut20 := cut_to (P := Try.prog) 76 23 .i64 Try.underlying76 hi020 Ao19 y462.length co19 9 (by omega) q20 (Kd.N_reads' HO464.out).2.1; have hr20 := Kd.N_take (m := (9 : Int).toNat) HO464.out (by omega); have hy20 : y465.length = (9 : Int).toNat := (by rw [Ny465.out, List.length_take]; omega); rw [← Ny465.out] at hr20; rw [← hy20] at hr20 hcut20; clear hy20 hi020 hsz20 HO464; have HO467 := ak hr20; clear hr20; replace q20 := eq_true q20))
 go_ret
 exact ⟨_, by first | rfl | (simp [errW_none, errW_some] <;> rfl) | (simp [*, errW_none, errW_some] <;> rfl), un <| Kd.N_mono HO467.out (fun _ hk => hk.1), by repeat with_reducible first | exact HB.out | apply b1 | apply b2 | apply b3 | refine b4 ?_ GE449.out⟩
end Go.Proofs.Ytnpghcikhpglkaa.Q
namespace Go.Proofs.Ytnpghcikhpglkaa.Q
open Go.RowKit Go.Proofs.YtnpghcikhpglkaaW.PrintWords Go.Proofs.YtnpghcikhpglkaaW.PrintLast Go.Proofs.YtnpghcikhpglkaaW.PrintMore
attribute [local go_sem] max2_int min2_int max_two min_two max_three min_three max_four min_four   -- for this text's walks alone
set_option linter.unusedVariables false
set_option linter.unusedSimpArgs false

/-! ### gaps_Is: function 113 -/
def gaps_Is.f (a0 : Int) : Option (Bool) := if a0 ≥ 0 then (some (decide (a0 < 16))) else (some false)
set_option maxHeartbeats 8000000 in
set_option maxRecDepth 100000 in
theorem gaps_Is.calls (a0 : Int) (r : Bool) (w : World) (h : gaps_Is.f a0 = some r) :
    Calls Try.prog 113 #[.int .i64 a0] w fun e w' => e = .returned (.bool r) ∧ Drawn0 w w' := by
 have H : (if a0 ≥ 0 then (some (decide (a0 < 16))) else (some false)) = some r := h
 clear h
 by_cases c2 : a0 ≥ 0
 ·
  rw [if_pos c2] at H
  have c2b0 : decide (0 ≤ a0) = true := decide_eq_true c2
  clear c2
  obtain rfl := Option.some.inj H
  go_enter Try.func113, Try.ntmps113
  go_wp2
  go_ret
  exact ⟨by first | rfl | (simp; done) | (simp [*]; done), by repeat (first | exact Drawn0.refl _ | apply Drawn0.step)⟩
 rw [if_neg c2] at H
 have c2b0 : decide (0 ≤ a0) = false := decide_eq_false c2
 clear c2
 obtain rfl := Option.some.inj H
 go_enter Try.func113, Try.ntmps113
 go_wp2
 go_ret
 exact ⟨by first | rfl | (simp; done) | (simp [*]; done), by repeat (first | exact Drawn0.refl _ | apply Drawn0.step)⟩
end Go.Proofs.Ytnpghcikhpglkaa.Q
namespace Go.Proofs.Ytnpghcikhpglkaa.Q
open Go.RowKit Go.Proofs.YtnpghcikhpglkaaW.PrintWords Go.Proofs.YtnpghcikhpglkaaW.PrintLast Go.Proofs.YtnpghcikhpglkaaW.PrintMore
attribute [local go_sem] max2_int min2_int max_two min_two max_three min_three max_four min_four   -- for this text's walks alone
set_option linter.unusedVariables false
set_option linter.unusedSimpArgs false

/-! ### gaps_May: function 114 -/
def gaps_May.l0 : Nat → List Int → List Int → Int → Int → Option (Bool)
  | 0, _, _, _, _ => none
  | k + 1, x0, x5, x6, x7 => if x7 < x6 then (if 0 ≤ x7 then (if x7 < (x5.length : Int) then ((gaps_Is.f (rd x5 x7)).bind fun t469 => (if t469 = true then (if x7 > 0 then (if 0 ≤ (wrap64 (x7 - 1)) then (if (wrap64 (x7 - 1)) < (x0.length : Int) then (if (rd x5 x7) ≤ (rd x0 (wrap64 (x7 - 1))) then (some false) else (gaps_May.l0 k x0 x5 x6 (wrap64 (x7 + 1)))) else (none)) else (none)) else (gaps_May.l0 k x0 x5 x6 (wrap64 (x7 + 1)))) else (some false))) else (none)) else (none)) else (some true)
def gaps_May.f (k : Nat) (l0 : List Int) : Option (Bool) := gaps_May.l0 k l0 l0 (l0.length : Int) 0
set_option maxHeartbeats 8000000 in
set_option maxRecDepth 100000 in
theorem gaps_May.calls (k : Nat) (A0 : Option Addr) (c0 : Nat) (l0 : List Int) (r : Bool) (w : World) (hr0 : Kd.C (Kd.int .i64) w A0 l0.length l0) (hc0 : l0.length ≤ c0) (h : gaps_May.f k l0 = some r) :
    Calls Try.prog 114 #[.slice A0 l0.length c0] w fun e w' => e = .returned (.bool r) ∧ Drawn0 w w' := by
 have HR0 := ak hr0
 have HC0 := ak hc0
 clear hr0 hc0
 have H : (gaps_May.l0 k l0 l0 (l0.length : Int) 0) = some r := h
 clear h
 have H' := ak H
 clear H
 go_enter Try.func114, Try.ntmps114
 go_wp2
 go_loopg [7] k (fun kq v7 w' => ∃ (x7_1 : Int), v7 = .int .i64 x7_1 ∧ Aside0 (gaps_May.l0 kq l0 l0 (l0.length : Int) x7_1 = some r) ∧ Aside0 (kq ≤ k) ∧ Drawn0 w w')
 case atStart => exact ⟨(0), (by first | rfl | (simp; done) | (simp [*]; done)), H', ⟨Nat.le_refl _⟩, by repeat (first | exact Drawn0.refl _ | apply Drawn0.step)⟩
 clear H'
 obtain ⟨x7_1, rfl, HA, HK1, ⟨m1, rfl⟩⟩ := hrel
 cases gk with
 | zero => exact absurd HA.out (by simp [gaps_May.l0])
 | succ k1 => ?_
 have H := HA.out
 clear HA
 simp only [gaps_May.l0] at H
 by_cases c2 : x7_1 < (l0.length : Int)
 rotate_left
 ·
  rw [if_neg c2] at H
  have c2b0 : decide (x7_1 < (l0.length : Int)) = false := decide_eq_false c2
  clear c2
  obtain rfl := Option.some.inj H
  go_wp2
  go_ret
  exact ⟨by first | rfl | (simp; done) | (simp [*]; done), by repeat (first | exact Drawn0.refl _ | apply Drawn0.step)⟩
 rw [if_pos c2] at H
 have c2b0 : decide (x7_1 < (l0.length : Int)) = true := decide_eq_true c2
 clear c2
 by_cases c3 : 0 ≤ x7_1
 rotate_left
 ·
  rw [if_neg c3] at H
  exact absurd H (by simp)
 rw [if_pos c3] at H
 have c3b0 : decide (0 ≤ x7_1) = true := decide_eq_true c3
 clear c3
 by_cases c4 : x7_1 < (l0.length : Int)
 rotate_left
 ·
  rw [if_neg c4] at H
  exact absurd H (by simp)
 rw [if_pos c4] at H
 have c4b0 : decide (x7_1 < (l0.length : Int)) = true := decide_eq_true c4
 clear c4
 replace H := Option.bind_eq_some_iff.mp H
 obtain ⟨t469, A50, H⟩ := H
 try dsimp only at H
 have A5 := ak A50
 clear A50
 by_cases c6 : t469 = true
 rotate_left
 ·
  replace c6 := Bool.eq_false_iff.mpr c6
  subst c6
  rw [if_neg (show ¬ (false = true) by decide)] at H
  obtain rfl := Option.some.inj H
  have p468 : 0 ≤ (x7_1 : Int) := of_decide_eq_true (by first | (with_reducible assumption) | assumption)
  have q468 : x7_1 < (l0.length : Int) := of_decide_eq_true (by first | (with_reducible assumption) | assumption)
  obtain ⟨ad468, e468, hx468_0⟩ := Kd.at_int HR0.out x7_1 p468 q468
  cases e468
  replace p468 := eq_true p468
  replace q468 := eq_true q468
  go_wp2_with (first | ((with_reducible refine gate_callee (f := 113) rfl ?_); refine goesL_ (some 13) rfl rfl Try.func113 (by kernel_rfl) rfl #[.int .i64 (rd l0 x7_1)] rfl (by (try simp only [List.map_toArray, List.map_cons, List.map_nil]); first | done | rfl | (simp only [List.length_drop, List.length_take]; rfl)) ?_; (with_reducible refine (gaps_Is.calls (rd l0 x7_1) false _ A5.out).mono ?_); rintro e w' ⟨rfl, ⟨nd, rfl⟩⟩; refine ⟨_, rfl, ?_⟩))
  go_ret
  exact ⟨by first | rfl | (simp; done) | (simp [*]; done), by repeat (first | exact Drawn0.refl _ | apply Drawn0.step)⟩
 subst c6
 rw [if_pos rfl] at H
 by_cases c7 : x7_1 > 0
 rotate_left
 ·
  rw [if_neg c7] at H
  have c7b0 : decide (0 < x7_1) = false := decide_eq_false c7
  clear c7
  have H' := ak H
  clear H
  have p468 : 0 ≤ (x7_1 : Int) := of_decide_eq_true (by first | (with_reducible assumption) | assumption)
  have q468 : x7_1 < (l0.length : Int) := of_decide_eq_true (by first | (with_reducible assumption) | assumption)
  obtain ⟨ad468, e468, hx468_0⟩ := Kd.at_int HR0.out x7_1 p468 q468
  cases e468
  replace p468 := eq_true p468
  replace q468 := eq_true q468
  go_wp2_with (first | ((with_reducible refine gate_callee (f := 113) rfl ?_); refine goesL_ (some 13) rfl rfl Try.func113 (by kernel_rfl) rfl #[.int .i64 (rd l0 x7_1)] rfl (by (try simp only [List.map_toArray, List.map_cons, List.map_nil]); first | done | rfl | (simp only [List.length_drop, List.length_take]; rfl)) ?_; (with_reducible refine (gaps_Is.calls (rd l0 x7_1) true _ A5.out).mono ?_); rintro e w' ⟨rfl, ⟨nd, rfl⟩⟩; refine ⟨_, rfl, ?_⟩))
  go_roundg k1
  case measure => have := HK1.out; omega
  case rel => exact ⟨(wrap64 (x7_1 + 1)), (by first | rfl | (simp; done) | (simp [*]; done)), H', ⟨by have := HK1.out; omega⟩, by repeat (first | exact Drawn0.refl _ | apply Drawn0.step)⟩
 rw [if_pos c7] at H
 have c7b0 : decide (0 < x7_1) = true := decide_eq_true c7
 clear c7
 obtain ⟨ji8, hji8⟩ : ∃ j_ : Int, (wrap64 (x7_1 - 1)) = j_ := ⟨_, rfl⟩
 replace H : (if 0 ≤ (ji8) then (if (ji8) < (l0.length : Int) then (if (rd l0 x7_1) ≤ (rd l0 (ji8)) then (some false) else (gaps_May.l0 k1 l0 l0 (l0.length : Int) (wrap64 (x7_1 + 1)))) else (none)) else (none)) = some r := by first | (rw [hji8] at H; exact H) | (simp only [hji8] at H ⊢; exact H)
 (try rw [hji8] at A5)
 have hji8w : (IntKind.i64.wrap (x7_1 - 1)) = ji8 := (i64_w _).trans hji8
 by_cases c9 : 0 ≤ (ji8)
 rotate_left
 ·
  rw [if_neg c9] at H
  exact absurd H (by simp)
 rw [if_pos c9] at H
 have c9b0 : decide (0 ≤ (ji8)) = true := decide_eq_true c9
 clear c9
 by_cases c10 : (ji8) < (l0.length : Int)
 rotate_left
 ·
  rw [if_neg c10] at H
  exact absurd H (by simp)
 rw [if_pos c10] at H
 have c10b0 : decide ((ji8) < (l0.length : Int)) = true := decide_eq_true c10
 clear c10
 by_cases c11 : (rd l0 x7_1) ≤ (rd l0 (ji8))
 ·
  rw [if_pos c11] at H
  have c11b0 : decide ((rd l0 x7_1) ≤ (rd l0 (ji8))) = true := decide_eq_true c11
  clear c11
  obtain rfl := Option.some.inj H
  have p468 : 0 ≤ (x7_1 : Int) := of_decide_eq_true (by first | (with_reducible assumption) | assumption)
  have q468 : x7_1 < (l0.length : Int) := of_decide_eq_true (by first | (with_reducible assumption) | assumption)
  obtain ⟨ad468, e468, hx468_0⟩ := Kd.at_int HR0.out x7_1 p468 q468
  cases e468
  replace p468 := eq_true p468
  replace q468 := eq_true q468
  go_wp2_with (first | ((with_reducible refine gate_callee (f := 113) rfl ?_); refine goesL_ (some 13) rfl rfl Try.func113 (by kernel_rfl) rfl #[.int .i64 (rd l0 x7_1)] rfl (by (try simp only [List.map_toArray, List.map_cons, List.map_nil]); first | done | rfl | (simp only [List.length_drop, List.length_take]; rfl)) ?_; (with_reducible refine (gaps_Is.calls (rd l0 x7_1) true _ A5.out).mono ?_); rintro e w' ⟨rfl, ⟨nd, rfl⟩⟩; refine ⟨_, rfl, ?_⟩; have p470 : 0 ≤ ((ji8) : Int) := of_decide_eq_true (by first | (with_reducible assumption) | assumption); have q470 : (ji8) < (l0.length : Int) := of_decide_eq_true (by first | (with_reducible assumption) | assumption); obtain ⟨ad470, e470, hx470_0⟩ := Kd.at_int HR0.out (ji8) p470 q470; obtain rfl : ad468 = ad470 := (by injection e470); replace p470 := eq_true p470; replace q470 := eq_true q470))
  go_ret
  exact ⟨by first | rfl | (simp; done) | (simp only [← hji8] <;> (first | rfl | simp)) | (simp [*]; done), by repeat (first | exact Drawn0.refl _ | apply Drawn0.step)⟩
 rw [if_neg c11] at H
 have c11b0 : decide ((rd l0 x7_1) ≤ (rd l0 (ji8))) = false := decide_eq_false c11
 clear c11
 have H' := ak H
 clear H
 have p468 : 0 ≤ (x7_1 : Int) := of_decide_eq_true (by first | (with_reducible assumption) | assumption)
 have q468 : x7_1 < (l0.length : Int) := of_decide_eq_true (by first | (with_reducible assumption) | assumption)
 obtain ⟨ad468, e468, hx468_0⟩ := Kd.at_int HR0.out x7_1 p468 q468
 cases e468
 replace p468 := eq_true p468
 replace q468 := eq_true q468
 go_wp2_with (first | ((with_reducible refine gate_callee (f := 113) rfl ?_); refine goesL_ (some 13) rfl rfl Try.func113 (by kernel_rfl) rfl #[.int .i64 (rd l0 x7_1)] rfl (by (try simp only [List.map_toArray, List.map_cons, List.map_nil]); first | done | rfl | (simp only [List.length_drop, List.length_take]; rfl)) ?_; (with_reducible refine (gaps_Is.calls (rd l0 x7_1) true _ A5.out).mono ?_); rintro e w' ⟨rfl, ⟨nd, rfl⟩⟩; refine ⟨_, rfl, ?_⟩; have p470 : 0 ≤ ((ji8) : Int) := of_decide_eq_true (by first | (with_reducible assumption) | assumption); have q470 : (ji8) < (l0.length : Int) := of_decide_eq_true (by first | (with_reducible assumption) | assumption); obtain ⟨ad470, e470, hx470_0⟩ := Kd.at_int HR0.out (ji8) p470 q470; obtain rfl : ad468 = ad470 := (by injection e470); replace p470 := eq_true p470; replace q470 := eq_true q470))
 go_roundg k1
 case measure => have := HK1.out; omega
 case rel => exact ⟨(wrap64 (x7_1 + 1)), (by first | rfl | (simp; done) | (simp [*]; done)), H', ⟨by have := HK1.out; omega⟩, by repeat (first | exact Drawn0.refl _ | apply Drawn0.step)⟩
end Go.Proofs.Ytnpghcikhpglkaa.Q
namespace Go.Proofs.Ytnpghcikhpglkaa.Q
open Go.RowKit Go.Proofs.YtnpghcikhpglkaaW.PrintWords Go.Proofs.YtnpghcikhpglkaaW.PrintLast Go.Proofs.YtnpghcikhpglkaaW.PrintMore
attribute [local go_sem] max2_int min2_int max_two min_two max_three min_three max_four min_four   -- for this text's walks alone
set_option linter.unusedVariables false
set_option linter.unusedSimpArgs false

/-! ### herbariumlaw3_num: function 72 -/
def herbariumlaw3_num.f (a0 : Int) : Option (Int) := some a0
set_option maxHeartbeats 8000000 in
set_option maxRecDepth 100000 in
theorem herbariumlaw3_num.calls (a0 : Int) (r : Int) (w : World) (h : herbariumlaw3_num.f a0 = some r) :
    Calls Try.prog 72 #[.int .i64 a0] w fun e w' => e = .returned (.int .i64 r) ∧ Drawn0 w w' := by
 have H : (some a0) = some r := h
 clear h
 obtain rfl := Option.some.inj H
 go_enter Try.func72, Try.ntmps72
 go_wp2
 go_ret
 exact ⟨by first | rfl | (simp; done) | (simp [*]; done), by repeat (first | exact Drawn0.refl _ | apply Drawn0.step)⟩
end Go.Proofs.Ytnpghcikhpglkaa.Q
namespace Go.Proofs.Ytnpghcikhpglkaa.Q
open Go.RowKit Go.Proofs.YtnpghcikhpglkaaW.PrintWords Go.Proofs.YtnpghcikhpglkaaW.PrintLast Go.Proofs.YtnpghcikhpglkaaW.PrintMore
attribute [local go_sem] max2_int min2_int max_two min_two max_three min_three max_four min_four   -- for this text's walks alone
set_option linter.unusedVariables false
set_option linter.unusedSimpArgs false

/-! ### herbariumref0_EqNumbers: function 75 -/
def herbariumref0_EqNumbers.l0 : Nat → List Int → List Int → Int → Option (Bool)
  | 0, _, _, _ => none
  | k + 1, x0, x1, x5 => if x5 < (x0.length : Int) then (if 0 ≤ x5 then (if x5 < (x1.length : Int) then (if (rd x0 x5) = (rd x1 x5) then (herbariumref0_EqNumbers.l0 k x0 x1 (wrap64 (x5 + 1))) else (some false)) else (none)) else (none)) else (some true)
def herbariumref0_EqNumbers.f (k : Nat) (l0 : List Int) (l1 : List Int) : Option (Bool) := if (l0.length : Int) = (l1.length : Int) then (herbariumref0_EqNumbers.l0 k l0 l1 0) else (some false)
set_option maxHeartbeats 8000000 in
set_option maxRecDepth 100000 in
theorem herbariumref0_EqNumbers.calls (k : Nat) (A0 : Option Addr) (c0 : Nat) (l0 : List Int) (A1 : Option Addr) (c1 : Nat) (l1 : List Int) (r : Bool) (w : World) (hr0 : Kd.C (Kd.int .i64) w A0 l0.length l0) (hc0 : l0.length ≤ c0) (hr1 : Kd.C (Kd.int .i64) w A1 l1.length l1) (hc1 : l1.length ≤ c1) (h : herbariumref0_EqNumbers.f k l0 l1 = some r) :
    Calls Try.prog 75 #[.slice A0 l0.length c0, .slice A1 l1.length c1] w fun e w' => e = .returned (.bool r) ∧ Drawn0 w w' := by
 have HR0 := ak hr0
 have HC0 := ak hc0
 clear hr0 hc0
 have HR1 := ak hr1
 have HC1 := ak hc1
 clear hr1 hc1
 have H : (if (l0.length : Int) = (l1.length : Int) then (herbariumref0_EqNumbers.l0 k l0 l1 0) else (some false)) = some r := h
 clear h
 by_cases c3 : (l0.length : Int) = (l1.length : Int)
 rotate_left
 ·
  rw [if_neg c3] at H
  have c3b0 : ((l0.length : Int) == (l1.length : Int)) = false := beq_eq_false_iff_ne.mpr c3
  have c3b1 : ((l0.length : Int) != (l1.length : Int)) = true := bne_iff_ne.mpr c3
  have c3b2 : (l0.length == l1.length) = false := by first | simpa using c3 | (simp at c3 ⊢; omega)
  obtain rfl := Option.some.inj H
  go_enter Try.func75, Try.ntmps75
  go_wp2
  repeat (go_quiet (fail); try go_wp2)
  go_ret
  exact ⟨by first | rfl | (simp; done) | (simp [*]; done), by repeat (first | exact Drawn0.refl _ | apply Drawn0.step)⟩
 rw [if_pos c3] at H
 have c3b0 : ((l0.length : Int) == (l1.length : Int)) = true := beq_iff_eq.mpr c3
 have c3b1 : ((l0.length : Int) != (l1.length : Int)) = false := bne_eq_false_iff_eq.mpr c3
 have c3b2 : (l0.length == l1.length) = true := by first | simpa using c3 | (simp at c3 ⊢; omega)
 clear c3
 have H' := ak H
 clear H
 go_enter Try.func75, Try.ntmps75
 go_wp2
 repeat (go_quiet (fail); try go_wp2)
 go_loopg [5] k (fun kq v5 w' => ∃ (x5_1 : Int), v5 = .int .i64 x5_1 ∧ Aside0 (herbariumref0_EqNumbers.l0 kq l0 l1 x5_1 = some r) ∧ Aside0 (kq ≤ k) ∧ Drawn0 w w')
 case atStart => exact ⟨(0), (by first | rfl | (simp; done) | (simp [*]; done)), H', ⟨Nat.le_refl _⟩, by repeat (first | exact Drawn0.refl _ | apply Drawn0.step)⟩
 clear H'
 (try clear c3); (try clear c3b0); (try clear c3b1); (try clear c3b2)
 obtain ⟨x5_1, rfl, HA, HK1, ⟨m1, rfl⟩⟩ := hrel
 cases gk with
 | zero => exact absurd HA.out (by simp [herbariumref0_EqNumbers.l0])
 | succ k1 => ?_
 have H := HA.out
 clear HA
 simp only [herbariumref0_EqNumbers.l0] at H
 by_cases c4 : x5_1 < (l0.length : Int)
 rotate_left
 ·
  rw [if_neg c4] at H
  have c4b0 : decide (x5_1 < (l0.length : Int)) = false := decide_eq_false c4
  clear c4
  obtain rfl := Option.some.inj H
  go_wp2
  repeat (go_quiet (fail); try go_wp2)
  go_ret
  exact ⟨by first | rfl | (simp; done) | (simp [*]; done), by repeat (first | exact Drawn0.refl _ | apply Drawn0.step)⟩
 rw [if_pos c4] at H
 have c4b0 : decide (x5_1 < (l0.length : Int)) = true := decide_eq_true c4
 clear c4
 by_cases c5 : 0 ≤ x5_1
 rotate_left
 ·
  rw [if_neg c5] at H
  exact absurd H (by simp)
 rw [if_pos c5] at H
 have c5b0 : decide (0 ≤ x5_1) = true := decide_eq_true c5
 clear c5
 by_cases c6 : x5_1 < (l1.length : Int)
 rotate_left
 ·
  rw [if_neg c6] at H
  exact absurd H (by simp)
 rw [if_pos c6] at H
 have c6b0 : decide (x5_1 < (l1.length : Int)) = true := decide_eq_true c6
 clear c6
 by_cases c7 : (rd l0 x5_1) = (rd l1 x5_1)
 rotate_left
 ·
  rw [if_neg c7] at H
  have c7b0 : ((rd l0 x5_1) == (rd l1 x5_1)) = false := beq_eq_false_iff_ne.mpr c7
  have c7b1 : ((rd l0 x5_1) != (rd l1 x5_1)) = true := bne_iff_ne.mpr c7
  obtain rfl := Option.some.inj H
  have p471 : 0 ≤ (x5_1 : Int) := of_decide_eq_true (by first | (with_reducible assumption) | assumption)
  have q471 : x5_1 < (l0.length : Int) := of_decide_eq_true (by first | (with_reducible assumption) | assumption)
  obtain ⟨ad471, e471, hx471_0⟩ := Kd.at_int HR0.out x5_1 p471 q471
  cases e471
  replace p471 := eq_true p471
  replace q471 := eq_true q471
  have p472 : 0 ≤ (x5_1 : Int) := of_decide_eq_true (by first | (with_reducible assumption) | assumption)
  have q472 : x5_1 < (l1.length : Int) := of_decide_eq_true (by first | (with_reducible assumption) | assumption)
  obtain ⟨ad472, e472, hx472_0⟩ := Kd.at_int HR1.out x5_1 p472 q472
  cases e472
  replace p472 := eq_true p472
  replace q472 := eq_true q472
  go_wp2
  repeat (go_quiet (fail); try go_wp2)
  go_ret
  exact ⟨by first | rfl | (simp; done) | (simp [*]; done), by repeat (first | exact Drawn0.refl _ | apply Drawn0.step)⟩
 rw [if_pos c7] at H
 have c7b0 : ((rd l0 x5_1) == (rd l1 x5_1)) = true := beq_iff_eq.mpr c7
 have c7b1 : ((rd l0 x5_1) != (rd l1 x5_1)) = false := bne_eq_false_iff_eq.mpr c7
 clear c7
 have H' := ak H
 clear H
 have p471 : 0 ≤ (x5_1 : Int) := of_decide_eq_true (by first | (with_reducible assumption) | assumption)
 have q471 : x5_1 < (l0.length : Int) := of_decide_eq_true (by first | (with_reducible assumption) | assumption)
 obtain ⟨ad471, e471, hx471_0⟩ := Kd.at_int HR0.out x5_1 p471 q471
 cases e471
 replace p471 := eq_true p471
 replace q471 := eq_true q471
 have p472 : 0 ≤ (x5_1 : Int) := of_decide_eq_true (by first | (with_reducible assumption) | assumption)
 have q472 : x5_1 < (l1.length : Int) := of_decide_eq_true (by first | (with_reducible assumption) | assumption)
 obtain ⟨ad472, e472, hx472_0⟩ := Kd.at_int HR1.out x5_1 p472 q472
 cases e472
 replace p472 := eq_true p472
 replace q472 := eq_true q472
 go_wp2
 repeat (go_quiet (fail); try go_wp2)
 go_roundg k1
 case measure => have := HK1.out; omega
 case rel => exact ⟨(wrap64 (x5_1 + 1)), (by first | rfl | (simp; done) | (simp [*]; done)), H', ⟨by have := HK1.out; omega⟩, by repeat (first | exact Drawn0.refl _ | apply Drawn0.step)⟩
end Go.Proofs.Ytnpghcikhpglkaa.Q
namespace Go.Proofs.Ytnpghcikhpglkaa.Q
open Go.RowKit Go.Proofs.YtnpghcikhpglkaaW.PrintWords Go.Proofs.YtnpghcikhpglkaaW.PrintLast Go.Proofs.YtnpghcikhpglkaaW.PrintMore
attribute [local go_sem] max2_int min2_int max_two min_two max_three min_three max_four min_four   -- for this text's walks alone
set_option linter.unusedVariables false
set_option linter.unusedSimpArgs false

/-! ### herbariumref3_Origin: function 81 -/
def herbariumref3_Origin.f (a0 : Int) : Option (Bool) := (herbariumref0_Num.f a0 15).bind fun t473 => (some t473)
set_option maxHeartbeats 8000000 in
set_option maxRecDepth 100000 in
theorem herbariumref3_Origin.calls (a0 : Int) (r : Bool) (w : World) (h : herbariumref3_Origin.f a0 = some r) :
    Calls Try.prog 81 #[.int .i64 a0] w fun e w' => e = .returned (.bool r) ∧ Drawn0 w w' := by
 have H : ((herbariumref0_Num.f a0 15).bind fun t473 => (some t473)) = some r := h
 clear h
 replace H := Option.bind_eq_some_iff.mp H
 obtain ⟨t473, A20, H⟩ := H
 try dsimp only at H
 have A2 := ak A20
 clear A20
 obtain rfl := Option.some.inj H
 go_enter Try.func81, Try.ntmps81
 go_wp2_with (first | ((with_reducible refine gate_callee (f := 53) rfl ?_); refine goesL_ (some 4) rfl rfl Try.func53 (by kernel_rfl) rfl #[.int .i64 a0, .int .i64 15] rfl (by (try simp only [List.map_toArray, List.map_cons, List.map_nil]); first | done | rfl | (simp only [List.length_drop, List.length_take]; rfl)) ?_; (with_reducible refine (herbariumref0_Num.calls a0 15 t473 _ A2.out).mono ?_); rintro e w' ⟨rfl, ⟨nd, rfl⟩⟩; refine ⟨_, rfl, ?_⟩))
 go_ret
 exact ⟨by first | rfl | (simp; done) | (simp [*]; done), by repeat (first | exact Drawn0.refl _ | apply Drawn0.step)⟩
end Go.Proofs.Ytnpghcikhpglkaa.Q
namespace Go.Proofs.Ytnpghcikhpglkaa.Q
open Go.RowKit Go.Proofs.YtnpghcikhpglkaaW.PrintWords Go.Proofs.YtnpghcikhpglkaaW.PrintLast Go.Proofs.YtnpghcikhpglkaaW.PrintMore
attribute [local go_sem] max2_int min2_int max_two min_two max_three min_three max_four min_four   -- for this text's walks alone
set_option linter.unusedVariables false
set_option linter.unusedSimpArgs false

/-! ### herbariumlaw0_Within: function 41 -/
def herbariumlaw0_Within.f (a0 : Int) (a1 : Int) : Option (Int) := if (IntKind.u64.wrap (a1)) = 0 then (none) else (some (wrap64 (Int.tmod (IntKind.u64.wrap (a0)) (IntKind.u64.wrap (a1)))))
set_option maxHeartbeats 8000000 in
set_option maxRecDepth 100000 in
theorem herbariumlaw0_Within.calls (a0 : Int) (a1 : Int) (r : Int) (w : World) (h : herbariumlaw0_Within.f a0 a1 = some r) :
    Calls Try.prog 41 #[.int .i64 a0, .int .i64 a1] w fun e w' => e = .returned (.int .i64 r) ∧ Drawn0 w w' := by
 have H : (if (IntKind.u64.wrap (a1)) = 0 then (none) else (some (wrap64 (Int.tmod (IntKind.u64.wrap (a0)) (IntKind.u64.wrap (a1)))))) = some r := h
 clear h
 by_cases c3 : (IntKind.u64.wrap (a1)) = 0
 ·
  rw [if_pos c3] at H
  exact absurd H (by simp)
 rw [if_neg c3] at H
 have c3b0 : ((IntKind.u64.wrap (a1)) == 0) = false := beq_eq_false_iff_ne.mpr c3
 have c3b1 : ((IntKind.u64.wrap (a1)) != 0) = true := bne_iff_ne.mpr c3
 obtain rfl := Option.some.inj H
 go_enter Try.func41, Try.ntmps41
 go_wp2
 go_ret
 exact ⟨by first | rfl | (simp; done) | (simp [*]; done), by repeat (first | exact Drawn0.refl _ | apply Drawn0.step)⟩
end Go.Proofs.Ytnpghcikhpglkaa.Q
namespace Go.Proofs.Ytnpghcikhpglkaa.Q
open Go.RowKit Go.Proofs.YtnpghcikhpglkaaW.PrintWords Go.Proofs.YtnpghcikhpglkaaW.PrintLast Go.Proofs.YtnpghcikhpglkaaW.PrintMore
attribute [local go_sem] max2_int min2_int max_two min_two max_three min_three max_four min_four   -- for this text's walks alone
set_option linter.unusedVariables false
set_option linter.unusedSimpArgs false

/-! ### herbariumref0_Between: function 48 -/
def herbariumref0_Between.f (a0 : Int) (a1 : Int) (a2 : Int) : Option (Bool) := if a0 ≥ a1 then (some (decide (a0 ≤ a2))) else (some false)
set_option maxHeartbeats 8000000 in
set_option maxRecDepth 100000 in
theorem herbariumref0_Between.calls (a0 : Int) (a1 : Int) (a2 : Int) (r : Bool) (w : World) (h : herbariumref0_Between.f a0 a1 a2 = some r) :
    Calls Try.prog 48 #[.int .i64 a0, .int .i64 a1, .int .i64 a2] w fun e w' => e = .returned (.bool r) ∧ Drawn0 w w' := by
 have H : (if a0 ≥ a1 then (some (decide (a0 ≤ a2))) else (some false)) = some r := h
 clear h
 by_cases c4 : a0 ≥ a1
 ·
  rw [if_pos c4] at H
  have c4b0 : decide (a1 ≤ a0) = true := decide_eq_true c4
  clear c4
  obtain rfl := Option.some.inj H
  go_enter Try.func48, Try.ntmps48
  go_wp2
  go_ret
  exact ⟨by first | rfl | (simp; done) | (simp [*]; done), by repeat (first | exact Drawn0.refl _ | apply Drawn0.step)⟩
 rw [if_neg c4] at H
 have c4b0 : decide (a1 ≤ a0) = false := decide_eq_false c4
 clear c4
 obtain rfl := Option.some.inj H
 go_enter Try.func48, Try.ntmps48
 go_wp2
 go_ret
 exact ⟨by first | rfl | (simp; done) | (simp [*]; done), by repeat (first | exact Drawn0.refl _ | apply Drawn0.step)⟩
end Go.Proofs.Ytnpghcikhpglkaa.Q
namespace Go.Proofs.Ytnpghcikhpglkaa.Q
open Go.RowKit Go.Proofs.YtnpghcikhpglkaaW.PrintWords Go.Proofs.YtnpghcikhpglkaaW.PrintLast Go.Proofs.YtnpghcikhpglkaaW.PrintMore
attribute [local go_sem] max2_int min2_int max_two min_two max_three min_three max_four min_four   -- for this text's walks alone
set_option linter.unusedVariables false
set_option linter.unusedSimpArgs false

/-- A state of type 116 at block g of W; what its slices lead to came in by w0. -/
def IsS116 (w0 W : World) (g : Nat) (f0 : List Int) (f1 : Int) : Prop := ∃ A0 c0, W.heap[g]? = some (.cells #[.slice A0 f0.length c0, .int .i64 f1] 116 (0, 0)) ∧ w0.heap.size ≤ g ∧ Kd.C (Kd.int .u8) w0 A0 f0.length f0
theorem IsS116.grown {w0 W : World} {g : Nat} {f0 : List Int} {f1 : Int} {W1 : World} {row : Option Nat} (h : IsS116 w0 W g f0 f1) (hw : W.grownBy W1 row) (hne : some g ≠ row) : IsS116 w0 W1 g f0 f1 := by
  obtain ⟨A0, c0, hb, hg, hr0⟩ := h
  exact ⟨A0, c0, blk_grown hb hw hne, hg, hr0⟩
theorem IsS116.own_neN {w0 W : World} {g : Nat} {f0 : List Int} {f1 : Int} {α : Type} {d : Kd α} {e : Nat} {base : Nat} {ok : Nat → Prop} {v : Value} {xs : List α} (h : IsS116 w0 W g f0 f1) (ho : Kd.N d e W base ok v xs) (ht : e ≠ 116) : some g ≠ v.ownBlock := by
  obtain ⟨A0, c0, hb, hg, hr0⟩ := h
  exact Kd.N_ne ho hb ht
theorem IsS116.fresh {w0 W : World} {g : Nat} {f0 : List Int} {f1 : Int} (h : IsS116 w0 W g f0 f1) : ∀ k, W.heap.size ≤ k → k ≠ g := by
  obtain ⟨A0, c0, hb, hg, hr0⟩ := h
  exact Kd.freshB hb
theorem IsS116.kept {w0 W : World} {g : Nat} {f0 : List Int} {f1 : Int} {W1 : World} {S : Nat → Prop} (h : IsS116 w0 W g f0 f1) (hk : Kept W W1 S) (hne : ¬ S g) : IsS116 w0 W1 g f0 f1 := by
  obtain ⟨A0, c0, hb, hg, hr0⟩ := h
  exact ⟨A0, c0, blk_kept hb hk hne, hg, hr0⟩
theorem IsS116.below {w0 W : World} {g : Nat} {f0 : List Int} {f1 : Int} {W1 : World} (h : IsS116 w0 W g f0 f1) (hw : Below W.heap.size W W1) : IsS116 w0 W1 g f0 f1 := h.grown (grown_of_below hw none) (by simp)
theorem IsS116.alloc {w0 W : World} {g : Nat} {f0 : List Int} {f1 : Int} (h : IsS116 w0 W g f0 f1) (o : Obj) : IsS116 w0 (W.alloc o) g f0 f1 := h.below (below_alloc (Below.refl _ _) o)
theorem IsS116.drewN {w0 W : World} {g : Nat} {f0 : List Int} {f1 : Int} (h : IsS116 w0 W g f0 f1) (m : Nat) : IsS116 w0 (W.drewN m) g f0 f1 := h
theorem IsS116.drew {w0 W : World} {g : Nat} {f0 : List Int} {f1 : Int} (h : IsS116 w0 W g f0 f1) : IsS116 w0 W.drew g f0 f1 := h
theorem IsS116.at_ {w0 W : World} {g : Nat} {f0 : List Int} {f1 : Int} {w' : World} {m : Nat} (hq : W.drewN m = w') (h : IsS116 w0 W g f0 f1) : IsS116 w0 w' g f0 f1 := by subst hq; exact IsS116.drewN h m
theorem IsS116.apart {w0 W : World} {g : Nat} {f0 : List Int} {f1 : Int} {α : Type} {d : Kd α} {e : Nat} {base : Nat} {ok : Nat → Prop} {v : Value} {xs : List α} (h : IsS116 w0 W g f0 f1) (ho : d.R e W base ok v xs) (ht : ∀ q, q ∈ e :: d.E → q ≠ 116) : d.R e W base (fun k => ok k ∧ k ≠ g) v xs := by
  obtain ⟨A0, c0, hb, hg, hr0⟩ := h
  exact Kd.R_types ho hb ht
theorem IsS116.own_ne {w0 W : World} {g : Nat} {f0 : List Int} {f1 : Int} {α : Type} {d : Kd α} {e : Nat} {base : Nat} {ok : Nat → Prop} {v : Value} {xs : List α} (h : IsS116 w0 W g f0 f1) (ho : d.R e W base ok v xs) (ht : e ≠ 116) : some g ≠ v.ownBlock := by
  obtain ⟨A0, c0, hb, hg, hr0⟩ := h
  exact Kd.R_ne ho hb ht
theorem IsS116.apartQ {w0 W : World} {g : Nat} {f0 : List Int} {f1 : Int} {α : Type} {d : Kd α} {e : Nat} {base : Nat} {ok : Nat → Prop} {v : Value} {xs : List α} (h : IsS116 w0 W g f0 f1) (ho : d.Q e W base ok v xs) (ht : ∀ q, q ∈ e :: d.E → q ≠ 116) : d.Q e W base (fun k => ok k ∧ k ≠ g) v xs := by
  obtain ⟨A0, c0, hb, hg, hr0⟩ := h
  exact Kd.Q_types ho hb ht
theorem IsS116.own_neQ {w0 W : World} {g : Nat} {f0 : List Int} {f1 : Int} {α : Type} {d : Kd α} {e : Nat} {base : Nat} {ok : Nat → Prop} {v : Value} {xs : List α} (h : IsS116 w0 W g f0 f1) (ho : d.Q e W base ok v xs) (ht : e ≠ 116) : some g ≠ v.ownBlock := by
  obtain ⟨A0, c0, hb, hg, hr0⟩ := h
  exact Kd.Q_ne ho hb ht
theorem IsS116.apartS {w0 W : World} {g : Nat} {f0 : List Int} {f1 : Int} {α : Type} {d : Kd α} {e : Nat} {base : Nat} {ok : Nat → Prop} {v : Value} {xs : List α} (h : IsS116 w0 W g f0 f1) (ho : d.S e W base ok v xs) (ht : ∀ q, q ∈ e :: d.E → q ≠ 116) : d.S e W base (fun k => ok k ∧ k ≠ g) v xs := by
  obtain ⟨A0, c0, hb, hg, hr0⟩ := h
  exact Kd.S_types ho hb ht
theorem IsS116.own_neS {w0 W : World} {g : Nat} {f0 : List Int} {f1 : Int} {α : Type} {d : Kd α} {e : Nat} {base : Nat} {ok : Nat → Prop} {v : Value} {xs : List α} (h : IsS116 w0 W g f0 f1) (ho : d.S e W base ok v xs) (ht : e ≠ 116) : some g ≠ v.ownBlock := by
  obtain ⟨A0, c0, hb, hg, hr0⟩ := h
  exact Kd.S_ne ho hb ht
theorem IsS116.lt {w0 W : World} {g : Nat} {f0 : List Int} {f1 : Int} (h : IsS116 w0 W g f0 f1) : g < W.heap.size := by
  obtain ⟨A0, c0, hb, hg, hr0⟩ := h
  exact blk_lt hb
theorem IsS116.ge {w0 W : World} {g : Nat} {f0 : List Int} {f1 : Int} (h : IsS116 w0 W g f0 f1) : w0.heap.size ≤ g := by
  obtain ⟨A0, c0, hb, hg, hr0⟩ := h
  exact hg
theorem IsS116.ne_blk {w0 W : World} {g : Nat} {f0 : List Int} {f1 : Int} {a : Nat} {cs : Array Value} {t : TypeId} {fr : Nat × Nat} (h : IsS116 w0 W g f0 f1) (hb2 : W.heap[a]? = some (.cells cs t fr)) (ht : t ≠ 116) : g ≠ a := by
  obtain ⟨A0, c0, hb, hg, hr0⟩ := h
  rintro rfl
  rw [hb] at hb2
  injection hb2 with hb2
  injection hb2 with _ ht2
  exact ht ht2.symm
theorem IsS116.far {w0 W : World} {g : Nat} {f0 : List Int} {f1 : Int} {p : Addr} (h : IsS116 w0 W g f0 f1) (hne : g ≠ p.block) (u : Value) : IsS116 w0 (W.setCell p u) g f0 f1 := by
  obtain ⟨A0, c0, hb, hg, hr0⟩ := h
  exact ⟨A0, c0, blk_far hb hne u, hg, hr0⟩
theorem cellS116_0 {W : World} {g : Nat} {A0 : Option Addr} {c0 : Nat} {f0 : List Int} {f1 : Int} (h : W.heap[g]? = some (.cells #[.slice A0 f0.length c0, .int .i64 f1] 116 (0, 0))) : W.cell? ⟨g, 0, none⟩ = some (.slice A0 f0.length c0) := (blk_cell h 0).trans rfl
theorem cellS116_1 {W : World} {g : Nat} {A0 : Option Addr} {c0 : Nat} {f0 : List Int} {f1 : Int} (h : W.heap[g]? = some (.cells #[.slice A0 f0.length c0, .int .i64 f1] 116 (0, 0))) : W.cell? ⟨g, 1, none⟩ = some (.int .i64 f1) := (blk_cell h 1).trans rfl
theorem IsS116.set_1 {w0 W : World} {g : Nat} {f0 : List Int} {f1 : Int} (h : IsS116 w0 W g f0 f1) (x : Int) : IsS116 w0 (W.setCell ⟨g, 1, none⟩ (.int .i64 x)) g f0 x := by
  obtain ⟨A0, c0, hb, hg, hr0⟩ := h
  exact ⟨A0, c0, by simpa using blk_set hb 1 (.int .i64 x), hg, hr0⟩
theorem IsS116.new (w0 W : World) (A0 : Option Addr) (c0 : Nat) (f0 : List Int) (f1 : Int) (hB : Below w0.heap.size w0 W) (hr0 : Kd.C (Kd.int .u8) w0 A0 f0.length f0) : IsS116 w0 (W.alloc (.cells #[.slice A0 f0.length c0, .int .i64 f1] 116)) W.heap.size f0 f1 := ⟨A0, c0, by simpa using heap_alloc_new W _, hB.size, hr0⟩
end Go.Proofs.Ytnpghcikhpglkaa.Q
namespace Go.Proofs.Ytnpghcikhpglkaa.Q
open Go.RowKit Go.Proofs.YtnpghcikhpglkaaW.PrintWords Go.Proofs.YtnpghcikhpglkaaW.PrintLast Go.Proofs.YtnpghcikhpglkaaW.PrintMore
attribute [local go_sem] max2_int min2_int max_two min_two max_three min_three max_four min_four   -- for this text's walks alone
set_option linter.unusedVariables false
set_option linter.unusedSimpArgs false


/-! ### herbariumref1_Code: function 106 -/
def herbariumref1_Code.f (a0 : Int) (a1 : Int) : Option (Bool) := if a0 = 1 then ((herbariumref0_Between.f a1 1 1000).bind fun t390 => (some t390)) else ((herbariumref0_Between.f a0 2 5).bind fun t391 => (if t391 = true then ((herbariumref0_Between.f a1 1 1073741824).bind fun t392 => (some t392)) else (some false)))
set_option maxHeartbeats 8000000 in
set_option maxRecDepth 100000 in
theorem herbariumref1_Code.calls (a0 : Int) (a1 : Int) (r : Bool) (w : World) (h : herbariumref1_Code.f a0 a1 = some r) :
    Calls Try.prog 106 #[.int .i64 a0, .int .i64 a1] w fun e w' => e = .returned (.bool r) ∧ Drawn0 w w' := by
 have H : (if a0 = 1 then ((herbariumref0_Between.f a1 1 1000).bind fun t390 => (some t390)) else ((herbariumref0_Between.f a0 2 5).bind fun t391 => (if t391 = true then ((herbariumref0_Between.f a1 1 1073741824).bind fun t392 => (some t392)) else (some false)))) = some r := h
 clear h
 by_cases c3 : a0 = 1
 ·
  rw [if_pos c3] at H
  have c3b0 : (a0 == 1) = true := beq_iff_eq.mpr c3
  have c3b1 : (a0 != 1) = false := bne_eq_false_iff_eq.mpr c3
  clear c3
  replace H := Option.bind_eq_some_iff.mp H
  obtain ⟨t390, A40, H⟩ := H
  try dsimp only at H
  have A4 := ak A40
  clear A40
  obtain rfl := Option.some.inj H
  go_enter Try.func106, Try.ntmps106
  go_wp2_with (first | ((with_reducible refine gate_callee (f := 48) rfl ?_); refine goesL_ (some 8) rfl rfl Try.func48 (by kernel_rfl) rfl #[.int .i64 a1, .int .i64 1, .int .i64 1000] rfl (by (try simp only [List.map_toArray, List.map_cons, List.map_nil]); first | done | rfl | (simp only [List.length_drop, List.length_take]; rfl)) ?_; (with_reducible refine (herbariumref0_Between.calls a1 1 1000 t390 _ A4.out).mono ?_); rintro e w' ⟨rfl, ⟨nd, rfl⟩⟩; refine ⟨_, rfl, ?_⟩))
  go_ret
  exact ⟨by first | rfl | (simp; done) | (simp [*]; done), by repeat (first | exact Drawn0.refl _ | apply Drawn0.step)⟩
 rw [if_neg c3] at H
 have c3b0 : (a0 == 1) = false := beq_eq_false_iff_ne.mpr c3
 have c3b1 : (a0 != 1) = true := bne_iff_ne.mpr c3
 replace H := Option.bind_eq_some_iff.mp H
 obtain ⟨t391, A50, H⟩ := H
 try dsimp only at H
 have A5 := ak A50
 clear A50
 by_cases c6 : t391 = true
 rotate_left
 ·
  replace c6 := Bool.eq_false_iff.mpr c6
  subst c6
  rw [if_neg (show ¬ (false = true) by decide)] at H
  obtain rfl := Option.some.inj H
  go_enter Try.func106, Try.ntmps106
  go_wp2_with (first | ((with_reducible refine gate_callee (f := 48) rfl ?_); refine goesL_ (some 10) rfl rfl Try.func48 (by kernel_rfl) rfl #[.int .i64 a0, .int .i64 2, .int .i64 5] rfl (by (try simp only [List.map_toArray, List.map_cons, List.map_nil]); first | done | rfl | (simp only [List.length_drop, List.length_take]; rfl)) ?_; (with_reducible refine (herbariumref0_Between.calls a0 2 5 false _ A5.out).mono ?_); rintro e w' ⟨rfl, ⟨nd, rfl⟩⟩; refine ⟨_, rfl, ?_⟩))
  go_ret
  exact ⟨by first | rfl | (simp; done) | (simp [*]; done), by repeat (first | exact Drawn0.refl _ | apply Drawn0.step)⟩
 subst c6
 rw [if_pos rfl] at H
 replace H := Option.bind_eq_some_iff.mp H
 obtain ⟨t392, A70, H⟩ := H
 try dsimp only at H
 have A7 := ak A70
 clear A70
 obtain rfl := Option.some.inj H
 go_enter Try.func106, Try.ntmps106
 go_wp2_with (first | ((with_reducible refine gate_callee (f := 48) rfl ?_); refine goesL_ (some 10) rfl rfl Try.func48 (by kernel_rfl) rfl #[.int .i64 a0, .int .i64 2, .int .i64 5] rfl (by (try simp only [List.map_toArray, List.map_cons, List.map_nil]); first | done | rfl | (simp only [List.length_drop, List.length_take]; rfl)) ?_; (with_reducible refine (herbariumref0_Between.calls a0 2 5 true _ A5.out).mono ?_); rintro e w' ⟨rfl, ⟨nd, rfl⟩⟩; refine ⟨_, rfl, ?_⟩) | (go_at_call 48; (with_reducible refine (herbariumref0_Between.calls a1 1 1073741824 t392 _ A7.out).mono ?_); rintro e w' ⟨rfl, ⟨nd, rfl⟩⟩))
 go_ret
 exact ⟨by first | rfl | (simp; done) | (simp [*]; done), by repeat (first | exact Drawn0.refl _ | apply Drawn0.step)⟩
end Go.Proofs.Ytnpghcikhpglkaa.Q
namespace Go.Proofs.Ytnpghcikhpglkaa.Q
open Go.RowKit Go.Proofs.YtnpghcikhpglkaaW.PrintWords Go.Proofs.YtnpghcikhpglkaaW.PrintLast Go.Proofs.YtnpghcikhpglkaaW.PrintMore
attribute [local go_sem] max2_int min2_int max_two min_two max_three min_three max_four min_four   -- for this text's walks alone
set_option linter.unusedVariables false
set_option linter.unusedSimpArgs false


/-! ### herbariumref1_log: function 124 -/
def herbariumref1_log.l0 : Nat → Int → Int → Option (Int)
  | 0, _, _ => none
  | k + 1, x0, x3 => if x0 > 1 then (herbariumref1_log.l0 k (x0 / 2) (wrap64 (x3 + 1))) else (some x3)
def herbariumref1_log.f (k : Nat) (a0 : Int) : Option (Int) := herbariumref1_log.l0 k a0 0
set_option maxHeartbeats 8000000 in
set_option maxRecDepth 100000 in
theorem herbariumref1_log.calls (k : Nat) (a0 : Int) (r : Int) (w : World) (h : herbariumref1_log.f k a0 = some r) :
    Calls Try.prog 124 #[.int .i64 a0] w fun e w' => e = .returned (.int .i64 r) ∧ Drawn0 w w' := by
 have H : (herbariumref1_log.l0 k a0 0) = some r := h
 clear h
 have H' := ak H
 clear H
 go_enter Try.func124, Try.ntmps124
 go_wp2
 go_loopg [0, 3] k (fun kq v0 v3 w' => ∃ (x0_1 : Int) (x3_1 : Int), v0 = .int .i64 x0_1 ∧ v3 = .int .i64 x3_1 ∧ Aside0 (herbariumref1_log.l0 kq x0_1 x3_1 = some r) ∧ Aside0 (kq ≤ k) ∧ Drawn0 w w')
 case atStart => exact ⟨(a0), (0), (by first | rfl | (simp; done) | (simp [*]; done)), (by first | rfl | (simp; done) | (simp [*]; done)), H', ⟨Nat.le_refl _⟩, by repeat (first | exact Drawn0.refl _ | apply Drawn0.step)⟩
 clear H'
 obtain ⟨x0_1, x3_1, rfl, rfl, HA, HK1, ⟨m1, rfl⟩⟩ := hrel
 cases gk with
 | zero => exact absurd HA.out (by simp [herbariumref1_log.l0])
 | succ k1 => ?_
 have H := HA.out
 clear HA
 simp only [herbariumref1_log.l0] at H
 by_cases c2 : x0_1 > 1
 rotate_left
 ·
  rw [if_neg c2] at H
  have c2b0 : decide (1 < x0_1) = false := decide_eq_false c2
  clear c2
  obtain rfl := Option.some.inj H
  go_wp2
  go_ret
  exact ⟨by first | rfl | (simp; done) | (simp [*]; done), by repeat (first | exact Drawn0.refl _ | apply Drawn0.step)⟩
 rw [if_pos c2] at H
 have c2b0 : decide (1 < x0_1) = true := decide_eq_true c2
 clear c2
 have H' := ak H
 clear H
 go_wp2
 go_roundg k1
 case measure => have := HK1.out; omega
 case rel => exact ⟨(x0_1 / 2), (wrap64 (x3_1 + 1)), (by first | rfl | (simp; done) | (simp [*]; done)), (by first | rfl | (simp; done) | (simp [*]; done)), H', ⟨by have := HK1.out; omega⟩, by repeat (first | exact Drawn0.refl _ | apply Drawn0.step)⟩
end Go.Proofs.Ytnpghcikhpglkaa.Q
namespace Go.Proofs.Ytnpghcikhpglkaa.Q
open Go.RowKit Go.Proofs.YtnpghcikhpglkaaW.PrintWords Go.Proofs.YtnpghcikhpglkaaW.PrintLast Go.Proofs.YtnpghcikhpglkaaW.PrintMore
attribute [local go_sem] max2_int min2_int max_two min_two max_three min_three max_four min_four   -- for this text's walks alone
set_option linter.unusedVariables false
set_option linter.unusedSimpArgs false

/-! ### herbariumref1_List_Write: function 107 -/
mutual
def herbariumref1_List_Write.l0 : Nat → List Int → Int → Int → Option (List Int)
  | 0, _, _, _ => none
  | k + 1, x0, x2, x7 => if x7 < x2 then (if x0.length < 140737488355328 then (herbariumref1_List_Write.l0 k (x0 ++ [0]) x2 (wrap64 (x7 + 1))) else (none)) else (if x0.length < 140737488355328 then (some (x0 ++ [1])) else (none))
def herbariumref1_List_Write.j1 : Nat → List Int → Int → Int → Option (List Int)
  | 0, _, _, _ => none
  | k + 1, x0, x2, x8 => (herbariumref1_log.f k x2).bind fun t416 => (if x8 = 0 then (none) else ((herbariumref1_List_Put.f k x0 0 (wrap64 (Int.tdiv t416 x8))).bind fun t417 => ((herbariumref1_List_Put.f k t417 1 1).bind fun t420 => (if 0 ≤ (wrap64 ((wrap64 (Int.tdiv t416 x8)) * x8)) then (if 0 ≤ (wrap64 ((wrap64 ((wrap64 (Int.tdiv t416 x8)) + 1)) * x8)) then ((herbariumref1_log.f k (wrap64 ((wrap64 ((shl .i64 1 (wrap64 ((wrap64 ((wrap64 (Int.tdiv t416 x8)) + 1)) * x8))) - (shl .i64 1 (wrap64 ((wrap64 (Int.tdiv t416 x8)) * x8))))) - 1))).bind fun t423 => (if 0 ≤ (wrap64 (t423 + 1)) then (if (wrap64 (x2 - (shl .i64 1 (wrap64 ((wrap64 (Int.tdiv t416 x8)) * x8))))) < (wrap64 ((shl .i64 1 (wrap64 (t423 + 1))) - (wrap64 ((shl .i64 1 (wrap64 ((wrap64 ((wrap64 (Int.tdiv t416 x8)) + 1)) * x8))) - (shl .i64 1 (wrap64 ((wrap64 (Int.tdiv t416 x8)) * x8))))))) then ((herbariumref1_List_Put.f k t420 (wrap64 (x2 - (shl .i64 1 (wrap64 ((wrap64 (Int.tdiv t416 x8)) * x8))))) (wrap64 ((wrap64 (t423 + 1)) - 1))).bind fun t424 => (some t424)) else ((herbariumref1_List_Put.f k t420 (wrap64 ((wrap64 ((wrap64 (x2 - (shl .i64 1 (wrap64 ((wrap64 (Int.tdiv t416 x8)) * x8))))) + (shl .i64 1 (wrap64 (t423 + 1))))) - (wrap64 ((shl .i64 1 (wrap64 ((wrap64 ((wrap64 (Int.tdiv t416 x8)) + 1)) * x8))) - (shl .i64 1 (wrap64 ((wrap64 (Int.tdiv t416 x8)) * x8))))))) (wrap64 (t423 + 1))).bind fun t427 => (some t427))) else (none))) else (none)) else (none)))))
def herbariumref1_List_Write.f : Nat → List Int → Int → Int → Option (List Int)
  | 0, _, _, _ => none
  | k + 1, l0, a1, a2 => if a1 = 1 then (herbariumref1_List_Write.l0 k l0 a2 1) else (if a1 = 2 then ((herbariumref1_log.f k a2).bind fun t399 => ((herbariumref1_List_Put.f k l0 0 t399).bind fun t400 => ((herbariumref1_log.f k a2).bind fun t403 => ((herbariumref1_List_Put.f k t400 a2 (wrap64 (t403 + 1))).bind fun t404 => (some t404))))) else (if a1 = 3 then ((herbariumref1_log.f k a2).bind fun t407 => ((herbariumref1_List_Write.f k l0 2 (wrap64 (t407 + 1))).bind fun t408 => ((herbariumref1_log.f k a2).bind fun t411 => (if 0 ≤ t411 then ((herbariumref1_log.f k a2).bind fun t412 => ((herbariumref1_List_Put.f k t408 (wrap64 (a2 - (shl .i64 1 t411))) t412).bind fun t413 => (some t413))) else (none))))) else (if a1 = 5 then (herbariumref1_List_Write.j1 k l0 a2 3) else (herbariumref1_List_Write.j1 k l0 a2 2))))
end
def herbariumref1_List_Write.T11 : Bool × List (List Nat × List Nat) := (true, [([], []), ([], []), ([1], [1]), ([2], [2]), ([0, 3, 2], [0, 3]), ([], []), ([], []), ([6, 4], [6]), ([7], [7]), ([5, 8], [5, 8]), ([], []), ([10, 7], [10]), ([4, 9, 11, 11], [4, 9, 11]), ([12, 12, 0, 1, 2, 3, 4, 5, 6, 7, 8, 9, 10, 11, 12], [12])])
def herbariumref1_List_Write.B11 : List Nat := [0, 0, 2, 6, 15, 0, 0, 95, 223, 511, 0, 1247, 4095, 8191]
theorem herbariumref1_List_Write.tab11 : rtab .any (opsOf Try.f107 11) = herbariumref1_List_Write.T11 := by kernel_rfl
theorem herbariumref1_List_Write.bits11 : waitsOk herbariumref1_List_Write.T11.2 herbariumref1_List_Write.B11 = true := by kernel_rfl
def herbariumref1_List_Write.T18 : Bool × List (List Nat × List Nat) := (true, [([], []), ([0], [0]), ([], []), ([1, 2], [1, 2]), ([3], [3]), ([], []), ([], []), ([5, 6], [5, 6]), ([7], [7]), ([4, 8], [4, 8]), ([9, 0, 1, 2, 3, 4, 5, 6, 7, 8, 9], [9])])
def herbariumref1_List_Write.B18 : List Nat := [0, 1, 0, 7, 15, 0, 0, 96, 224, 511, 1023]
theorem herbariumref1_List_Write.tab18 : rtab .any (opsOf Try.f107 18) = herbariumref1_List_Write.T18 := by kernel_rfl
theorem herbariumref1_List_Write.bits18 : waitsOk herbariumref1_List_Write.T18.2 herbariumref1_List_Write.B18 = true := by kernel_rfl
set_option maxHeartbeats 8000000 in
set_option maxRecDepth 100000 in
theorem herbariumref1_List_Write.calls (k : Nat) : ∀ (P0_ : Nat → Prop) (u9000_ : Value) (l0 : List Int) (a1 : Int) (a2 : Int) (r : List Int) (w0 w : World) (hB : Below w0.heap.size w0 w) (ho0 : Kd.R (Kd.int .u8) 5 w w0.heap.size P0_ u9000_ l0) (h2 : a1 = 2) (h : herbariumref1_List_Write.f k l0 a1 a2 = some r),
    Calls Try.prog 107 #[u9000_, .int .i64 a1, .int .i64 a2] w fun e w' => ∃ v0_ : Value, e = .returned (v0_) ∧ Kd.R (Kd.int .u8) 5 w' w0.heap.size (fun k_ => (P0_ k_ ∨ w.heap.size ≤ k_)) v0_ r ∧ Below w0.heap.size w0 w' ∧ Kept w w' (fun k_ => P0_ k_) := by
 induction k using Nat.strongRecOn with
 | _ k ih =>
 intro P0_ u9000_ l0 a1 a2 r w0 w hB ho0 h2 h
 have H2 := ak h2
 clear h2
 cases k with
 | zero => exact absurd h (by simp [herbariumref1_List_Write.f])
 | succ k =>
 simp only [herbariumref1_List_Write.f] at h
 have HO0 := ak (show Kd.R (Kd.int .u8) 5 w w0.heap.size (fun k_ => (P0_ k_ ∨ w.heap.size ≤ k_)) u9000_ l0 from Kd.R_mono ho0 (fun k_ hk => (.inl hk)))
 have HK := ak (Kept.refl w (fun k_ => P0_ k_))
 have HW0 := ak hB.size
 have HB := ak hB
 clear hB
 have H : (if a1 = 1 then (herbariumref1_List_Write.l0 k l0 a2 1) else (if a1 = 2 then ((herbariumref1_log.f k a2).bind fun t399 => ((herbariumref1_List_Put.f k l0 0 t399).bind fun t400 => ((herbariumref1_log.f k a2).bind fun t403 => ((herbariumref1_List_Put.f k t400 a2 (wrap64 (t403 + 1))).bind fun t404 => (some t404))))) else (if a1 = 3 then ((herbariumref1_log.f k a2).bind fun t407 => ((herbariumref1_List_Write.f k l0 2 (wrap64 (t407 + 1))).bind fun t408 => ((herbariumref1_log.f k a2).bind fun t411 => (if 0 ≤ t411 then ((herbariumref1_log.f k a2).bind fun t412 => ((herbariumref1_List_Put.f k t408 (wrap64 (a2 - (shl .i64 1 t411))) t412).bind fun t413 => (some t413))) else (none))))) else (if a1 = 5 then (herbariumref1_List_Write.j1 k l0 a2 3) else (herbariumref1_List_Write.j1 k l0 a2 2))))) = some r := h
 clear h
 by_cases c4 : a1 = 1
 ·
  exact absurd (H2.out.symm.trans c4) (by decide)
 rw [if_neg c4] at H
 have c4b0 : (a1 == 1) = false := beq_eq_false_iff_ne.mpr c4
 have c4b1 : (a1 != 1) = true := bne_iff_ne.mpr c4
 by_cases c10 : a1 = 2
 ·
  rw [if_pos c10] at H
  have c10b0 : (a1 == 2) = true := beq_iff_eq.mpr c10
  have c10b1 : (a1 != 2) = false := bne_eq_false_iff_eq.mpr c10
  clear c10
  replace H := Option.bind_eq_some_iff.mp H
  obtain ⟨t399, A110, H⟩ := H
  try dsimp only at H
  have A11 := ak A110
  clear A110
  replace H := Option.bind_eq_some_iff.mp H
  obtain ⟨t400, A120, H⟩ := H
  try dsimp only at H
  have A12 := ak A120
  clear A120
  replace H := Option.bind_eq_some_iff.mp H
  obtain ⟨t403, A130, H⟩ := H
  try dsimp only at H
  have A13 := ak A130
  clear A130
  replace H := Option.bind_eq_some_iff.mp H
  obtain ⟨t404, A140, H⟩ := H
  try dsimp only at H
  have A14 := ak A140
  clear A140
  obtain rfl := Option.some.inj H
  go_enter Try.func107, Try.ntmps107
  go_wp2_with (first | ((with_reducible refine gate_callee (f := 124) rfl ?_); refine goesL_ (some 31) rfl rfl Try.func124 (by kernel_rfl) rfl #[.int .i64 a2] rfl (by (try simp only [List.map_toArray, List.map_cons, List.map_nil]); first | done | rfl | (simp only [List.length_drop, List.length_take]; rfl)) ?_; (with_reducible refine (herbariumref1_log.calls k a2 t399 _ A11.out).mono ?_); rintro e w' ⟨rfl, ⟨nd, rfl⟩⟩; refine ⟨_, rfl, ?_⟩; obtain ⟨Ao15, co15, eo15⟩ := Kd.R_slice HO0.out; subst eo15) | ((with_reducible refine gate_callee (f := 55) rfl ?_); refine goesL_ (some 32) rfl rfl Try.func55 (by kernel_rfl) rfl #[.slice Ao15 l0.length co15, .int .i64 0, .int .i64 t399] rfl (by (try simp only [List.map_toArray, List.map_cons, List.map_nil]); first | done | rfl | (simp only [List.length_drop, List.length_take]; rfl)) ?_; (with_reducible refine (herbariumref1_List_Put.calls k (fun k_ => some k_ = (.slice Ao15 l0.length co15 : Value).ownBlock) (.slice Ao15 l0.length co15) l0 0 t399 t400 w0 _ ?side1 ?side2 A12.out).mono ?_); (case side1 => repeat (first | (with_reducible first | exact HB.out | apply below_alloc | apply pw_below_drewN | apply below_drew1) | exact HB.out)); (case side2 => exact Kd.R_tight rfl HO0.out); rintro e w16 ⟨v401, rfl, ho0, hb, hkp⟩; refine ⟨_, rfl, ?_⟩; have n0_ := ak (Kd.R_mono (ok' := fun k_ => (P0_ k_ ∨ w.heap.size ≤ k_)) ho0 (fun k_ hk_ => Or.elim hk_ (fun hs_ => (HO0.out.1 k_ (hs_).symm)) (fun hn_ => (.inr (Nat.le_trans (by first | exact HK.out.1 | exact (show Kept w _ (fun k_ => P0_ k_) from by repeat (first | (with_reducible first | exact HK.out | apply Kept.alloc | apply Kept.drewN | apply Kept.drew) | exact HK.out)).1) hn_))))); have n1_ := ak (Kept.then_ (S := (fun k_ => P0_ k_)) (by repeat (first | (with_reducible first | exact HK.out | apply Kept.alloc | apply Kept.drewN | apply Kept.drew) | exact HK.out)) hkp (fun k_ hs_ => (fun e_ => (HO0.out.1 k_ e_.symm)) hs_)); have n2_ := ak (hb); clear HK; clear HB; clear HO0; have HO402 := n0_; have HK := n1_; have HB := n2_; clear n0_ n1_ n2_; (try clear hb); (try clear hkp); (try clear ho0)) | ((with_reducible refine gate_callee (f := 124) rfl ?_); refine goesL_ (some 35) rfl rfl Try.func124 (by kernel_rfl) rfl #[.int .i64 a2] rfl (by (try simp only [List.map_toArray, List.map_cons, List.map_nil]); first | done | rfl | (simp only [List.length_drop, List.length_take]; rfl)) ?_; (with_reducible refine (herbariumref1_log.calls k a2 t403 _ A13.out).mono ?_); rintro e w' ⟨rfl, ⟨nd, rfl⟩⟩; refine ⟨_, rfl, ?_⟩; obtain ⟨Ao17, co17, eo17⟩ := Kd.R_slice HO402.out; subst eo17) | ((with_reducible refine gate_callee (f := 55) rfl ?_); refine goesL_ (some 37) rfl rfl Try.func55 (by kernel_rfl) rfl #[.slice Ao17 t400.length co17, .int .i64 a2, .int .i64 (wrap64 (t403 + 1))] rfl (by (try simp only [List.map_toArray, List.map_cons, List.map_nil]); first | done | rfl | (simp only [List.length_drop, List.length_take]; rfl)) ?_; (with_reducible refine (herbariumref1_List_Put.calls k (fun k_ => some k_ = (.slice Ao17 t400.length co17 : Value).ownBlock) (.slice Ao17 t400.length co17) t400 a2 (wrap64 (t403 + 1)) t404 w0 _ ?side1 ?side2 A14.out).mono ?_); (case side1 => repeat (first | (with_reducible first | exact HB.out | apply below_alloc | apply pw_below_drewN | apply below_drew1) | exact HB.out)); (case side2 => exact Kd.R_tight rfl HO402.out); rintro e w18 ⟨v405, rfl, ho0, hb, hkp⟩; refine ⟨_, rfl, ?_⟩; have n0_ := ak (Kd.R_mono (ok' := fun k_ => (P0_ k_ ∨ w.heap.size ≤ k_)) ho0 (fun k_ hk_ => Or.elim hk_ (fun hs_ => (HO402.out.1 k_ (hs_).symm)) (fun hn_ => (.inr (Nat.le_trans (by first | exact HK.out.1 | exact (show Kept w _ (fun k_ => P0_ k_) from by repeat (first | (with_reducible first | exact HK.out | apply Kept.alloc | apply Kept.drewN | apply Kept.drew) | exact HK.out)).1) hn_))))); have n1_ := ak (Kept.then_ (S := (fun k_ => P0_ k_)) (by repeat (first | (with_reducible first | exact HK.out | apply Kept.alloc | apply Kept.drewN | apply Kept.drew) | exact HK.out)) hkp (fun k_ hs_ => (fun e_ => (HO402.out.1 k_ e_.symm)) hs_)); have n2_ := ak (hb); clear HK; clear HB; clear HO402; have HO406 := n0_; have HK := n1_; have HB := n2_; clear n0_ n1_ n2_; (try clear hb); (try clear hkp); (try clear ho0)))
  go_ret
  exact ⟨_, by first | rfl | (simp [errW_none, errW_some] <;> rfl) | (simp [*, errW_none, errW_some] <;> rfl), ur <| HO406.out, ul HB.out, by repeat (first | (with_reducible first | exact HK.out | apply Kept.alloc | apply Kept.drewN | apply Kept.drew) | exact HK.out)⟩
 exact absurd H2.out c10
end Go.Proofs.Ytnpghcikhpglkaa.Q
namespace Go.Proofs.Ytnpghcikhpglkaa.Q
open Go.RowKit Go.Proofs.YtnpghcikhpglkaaW.PrintWords Go.Proofs.YtnpghcikhpglkaaW.PrintLast Go.Proofs.YtnpghcikhpglkaaW.PrintMore
attribute [local go_sem] max2_int min2_int max_two min_two max_three min_three max_four min_four   -- for this text's walks alone
set_option linter.unusedVariables false
set_option linter.unusedSimpArgs false

/-! ### herbariumref3_May: function 78 -/
mutual
def herbariumref3_May.l0 : Nat → List Int → Int → Option (Bool)
  | 0, _, _ => none
  | k + 1, x0, x3 => if x3 < (x0.length : Int) then (herbariumref3_May.j1 k x0 x3 (decide (x3 ≤ 16))) else (herbariumref3_May.j1 k x0 x3 false)
def herbariumref3_May.j1 : Nat → List Int → Int → Bool → Option (Bool)
  | 0, _, _, _ => none
  | k + 1, x0, x3, x11 => if x11 = true then (if 0 ≤ x3 then (if x3 < (x0.length : Int) then ((herbariumref3_Origin.f (rd x0 x3)).bind fun t475 => (if t475 = true then (if x3 > 0 then (if 0 ≤ (wrap64 (x3 - 1)) then (if (wrap64 (x3 - 1)) < (x0.length : Int) then (if (rd x0 (wrap64 (x3 - 1))) ≥ (rd x0 x3) then (some false) else (herbariumref3_May.l0 k x0 (wrap64 (x3 + 1)))) else (none)) else (none)) else (herbariumref3_May.l0 k x0 (wrap64 (x3 + 1)))) else (some false))) else (none)) else (none)) else (some (decide ((x0.length : Int) ≤ 16)))
end
def herbariumref3_May.f (k : Nat) (l0 : List Int) : Option (Bool) := herbariumref3_May.l0 k l0 0
set_option maxHeartbeats 8000000 in
set_option maxRecDepth 100000 in
theorem herbariumref3_May.calls (k : Nat) (A0 : Option Addr) (c0 : Nat) (l0 : List Int) (r : Bool) (w : World) (hr0 : Kd.C (Kd.int .i64) w A0 l0.length l0) (hc0 : l0.length ≤ c0) (h : herbariumref3_May.f k l0 = some r) :
    Calls Try.prog 78 #[.slice A0 l0.length c0] w fun e w' => e = .returned (.bool r) ∧ Drawn0 w w' := by
 have HR0 := ak hr0
 have HC0 := ak hc0
 clear hr0 hc0
 have H : (herbariumref3_May.l0 k l0 0) = some r := h
 clear h
 have H' := ak H
 clear H
 go_enter Try.func78, Try.ntmps78
 go_wp2
 repeat (go_quiet (fail); try go_wp2)
 go_loopg [3] k (fun kq v3 w' => ∃ (x3_1 : Int), v3 = .int .i64 x3_1 ∧ Aside0 (herbariumref3_May.l0 kq l0 x3_1 = some r) ∧ Aside0 (kq ≤ k) ∧ Drawn0 w w')
 case atStart => exact ⟨(0), (by first | rfl | (simp; done) | (simp [*]; done)), H', ⟨Nat.le_refl _⟩, by repeat (first | exact Drawn0.refl _ | apply Drawn0.step)⟩
 clear H'
 obtain ⟨x3_1, rfl, HA, HK1, ⟨m1, rfl⟩⟩ := hrel
 cases gk with
 | zero => exact absurd HA.out (by simp [herbariumref3_May.l0])
 | succ k1 => ?_
 have H := HA.out
 clear HA
 simp only [herbariumref3_May.l0] at H
 have HC2 := ak H
 clear H
 go_upto_region 2 with (fail)
 repeat (go_quiet (fail); go_upto_region 2 with (fail))
 go_cut [11] (fun v11 wc => ∃ (kq : Nat) (x11_1 : Bool), v11 = .bool x11_1 ∧ Aside0 (herbariumref3_May.j1 kq l0 x3_1 x11_1 = some r) ∧ Aside0 (kq ≤ k1) ∧ Drawn0 w wc)
 case first =>
  have H := HC2.out
  clear HC2
  by_cases c3 : x3_1 < (l0.length : Int)
  rotate_left
  ·
   rw [if_neg c3] at H
   have c3b0 : decide (x3_1 < (l0.length : Int)) = false := decide_eq_false c3
   clear c3
   (first | rw [c3b0] | (simp only [i64_w, i32_w]; rw [c3b0]) | skip)
   have H' := ak H
   clear H
   go_wp2
   repeat (go_quiet (fail); try go_wp2)
   go_meet
   case rel => exact ⟨_, (false), (by first | rfl | (simp; done) | (simp [*]; done)), H', ⟨by have := HK1.out; first | omega | exact Nat.le_refl _⟩, by repeat (first | exact Drawn0.refl _ | apply Drawn0.step)⟩
  rw [if_pos c3] at H
  have c3b0 : decide (x3_1 < (l0.length : Int)) = true := decide_eq_true c3
  clear c3
  (first | rw [c3b0] | (simp only [i64_w, i32_w]; rw [c3b0]) | skip)
  have H' := ak H
  clear H
  go_wp2
  repeat (go_quiet (fail); try go_wp2)
  go_meet
  case rel => exact ⟨_, (decide (x3_1 ≤ 16)), (by first | rfl | (simp; done) | (simp [*]; done)), H', ⟨by have := HK1.out; first | omega | exact Nat.le_refl _⟩, by repeat (first | exact Drawn0.refl _ | apply Drawn0.step)⟩
 clear HC2
 obtain ⟨kq, x11_1, rfl, HA, HJ1, ⟨mc1, rfl⟩⟩ := hcut
 cases kq with
 | zero => exact absurd HA.out (by simp [herbariumref3_May.j1])
 | succ kj1 => ?_
 have H := HA.out
 clear HA
 simp only [herbariumref3_May.j1] at H
 by_cases c4 : x11_1 = true
 rotate_left
 ·
  replace c4 := Bool.eq_false_iff.mpr c4
  subst c4
  rw [if_neg (show ¬ (false = true) by decide)] at H
  obtain rfl := Option.some.inj H
  go_wp2
  repeat (go_quiet (fail); try go_wp2)
  go_ret
  exact ⟨by first | rfl | (simp; done) | (simp [*]; done), by repeat (first | exact Drawn0.refl _ | apply Drawn0.step)⟩
 subst c4
 rw [if_pos rfl] at H
 by_cases c5 : 0 ≤ x3_1
 rotate_left
 ·
  rw [if_neg c5] at H
  exact absurd H (by simp)
 rw [if_pos c5] at H
 have c5b0 : decide (0 ≤ x3_1) = true := decide_eq_true c5
 clear c5
 by_cases c6 : x3_1 < (l0.length : Int)
 rotate_left
 ·
  rw [if_neg c6] at H
  exact absurd H (by simp)
 rw [if_pos c6] at H
 have c6b0 : decide (x3_1 < (l0.length : Int)) = true := decide_eq_true c6
 clear c6
 replace H := Option.bind_eq_some_iff.mp H
 obtain ⟨t475, A70, H⟩ := H
 try dsimp only at H
 have A7 := ak A70
 clear A70
 by_cases c8 : t475 = true
 rotate_left
 ·
  replace c8 := Bool.eq_false_iff.mpr c8
  subst c8
  rw [if_neg (show ¬ (false = true) by decide)] at H
  obtain rfl := Option.some.inj H
  have p474 : 0 ≤ (x3_1 : Int) := of_decide_eq_true (by first | (with_reducible assumption) | assumption)
  have q474 : x3_1 < (l0.length : Int) := of_decide_eq_true (by first | (with_reducible assumption) | assumption)
  obtain ⟨ad474, e474, hx474_0⟩ := Kd.at_int HR0.out x3_1 p474 q474
  cases e474
  replace p474 := eq_true p474
  replace q474 := eq_true q474
  go_wp2_with (first | (go_at_call 81; (with_reducible refine (herbariumref3_Origin.calls (rd l0 x3_1) false _ A7.out).mono ?_); rintro e w' ⟨rfl, ⟨nd, rfl⟩⟩; (try first | exact ⟨rfl, _, World.drewN_drewN _ _ _⟩ | exact ⟨rfl, _, Eq.trans (World.drewN_drewN _ _ _) (congrArg (World.drewN _) (Nat.add_assoc _ _ _))⟩)))
  repeat (go_quiet (first | (go_at_call 81; (with_reducible refine (herbariumref3_Origin.calls (rd l0 x3_1) false _ A7.out).mono ?_); rintro e w' ⟨rfl, ⟨nd, rfl⟩⟩; (try first | exact ⟨rfl, _, World.drewN_drewN _ _ _⟩ | exact ⟨rfl, _, Eq.trans (World.drewN_drewN _ _ _) (congrArg (World.drewN _) (Nat.add_assoc _ _ _))⟩))); try go_wp2_with (first | (go_at_call 81; (with_reducible refine (herbariumref3_Origin.calls (rd l0 x3_1) false _ A7.out).mono ?_); rintro e w' ⟨rfl, ⟨nd, rfl⟩⟩; (try first | exact ⟨rfl, _, World.drewN_drewN _ _ _⟩ | exact ⟨rfl, _, Eq.trans (World.drewN_drewN _ _ _) (congrArg (World.drewN _) (Nat.add_assoc _ _ _))⟩))))
  go_ret
  exact ⟨by first | rfl | (simp; done) | (simp [*]; done), by repeat (first | exact Drawn0.refl _ | apply Drawn0.step)⟩
 subst c8
 rw [if_pos rfl] at H
 by_cases c9 : x3_1 > 0
 rotate_left
 ·
  rw [if_neg c9] at H
  have c9b0 : decide (0 < x3_1) = false := decide_eq_false c9
  clear c9
  have H' := ak H
  clear H
  have p474 : 0 ≤ (x3_1 : Int) := of_decide_eq_true (by first | (with_reducible assumption) | assumption)
  have q474 : x3_1 < (l0.length : Int) := of_decide_eq_true (by first | (with_reducible assumption) | assumption)
  obtain ⟨ad474, e474, hx474_0⟩ := Kd.at_int HR0.out x3_1 p474 q474
  cases e474
  replace p474 := eq_true p474
  replace q474 := eq_true q474
  go_wp2_with (first | (go_at_call 81; (with_reducible refine (herbariumref3_Origin.calls (rd l0 x3_1) true _ A7.out).mono ?_); rintro e w' ⟨rfl, ⟨nd, rfl⟩⟩; (try first | exact ⟨rfl, _, World.drewN_drewN _ _ _⟩ | exact ⟨rfl, _, Eq.trans (World.drewN_drewN _ _ _) (congrArg (World.drewN _) (Nat.add_assoc _ _ _))⟩)))
  repeat (go_quiet (first | (go_at_call 81; (with_reducible refine (herbariumref3_Origin.calls (rd l0 x3_1) true _ A7.out).mono ?_); rintro e w' ⟨rfl, ⟨nd, rfl⟩⟩; (try first | exact ⟨rfl, _, World.drewN_drewN _ _ _⟩ | exact ⟨rfl, _, Eq.trans (World.drewN_drewN _ _ _) (congrArg (World.drewN _) (Nat.add_assoc _ _ _))⟩))); try go_wp2_with (first | (go_at_call 81; (with_reducible refine (herbariumref3_Origin.calls (rd l0 x3_1) true _ A7.out).mono ?_); rintro e w' ⟨rfl, ⟨nd, rfl⟩⟩; (try first | exact ⟨rfl, _, World.drewN_drewN _ _ _⟩ | exact ⟨rfl, _, Eq.trans (World.drewN_drewN _ _ _) (congrArg (World.drewN _) (Nat.add_assoc _ _ _))⟩))))
  go_roundg kj1
  case measure => have := HK1.out; have := HJ1.out; omega
  case rel => exact ⟨(wrap64 (x3_1 + 1)), (by first | rfl | (simp; done) | (simp [*]; done)), H', ⟨by have := HK1.out; have := HJ1.out; omega⟩, by repeat (first | exact Drawn0.refl _ | apply Drawn0.step)⟩
 rw [if_pos c9] at H
 have c9b0 : decide (0 < x3_1) = true := decide_eq_true c9
 clear c9
 obtain ⟨ji10, hji10⟩ : ∃ j_ : Int, (wrap64 (x3_1 - 1)) = j_ := ⟨_, rfl⟩
 replace H : (if 0 ≤ (ji10) then (if (ji10) < (l0.length : Int) then (if (rd l0 (ji10)) ≥ (rd l0 x3_1) then (some false) else (herbariumref3_May.l0 kj1 l0 (wrap64 (x3_1 + 1)))) else (none)) else (none)) = some r := by first | (rw [hji10] at H; exact H) | (simp only [hji10] at H ⊢; exact H)
 (try rw [hji10] at A7)
 have hji10w : (IntKind.i64.wrap (x3_1 - 1)) = ji10 := (i64_w _).trans hji10
 by_cases c11 : 0 ≤ (ji10)
 rotate_left
 ·
  rw [if_neg c11] at H
  exact absurd H (by simp)
 rw [if_pos c11] at H
 have c11b0 : decide (0 ≤ (ji10)) = true := decide_eq_true c11
 clear c11
 by_cases c12 : (ji10) < (l0.length : Int)
 rotate_left
 ·
  rw [if_neg c12] at H
  exact absurd H (by simp)
 rw [if_pos c12] at H
 have c12b0 : decide ((ji10) < (l0.length : Int)) = true := decide_eq_true c12
 clear c12
 by_cases c13 : (rd l0 (ji10)) ≥ (rd l0 x3_1)
 ·
  rw [if_pos c13] at H
  have c13b0 : decide ((rd l0 x3_1) ≤ (rd l0 (ji10))) = true := decide_eq_true c13
  clear c13
  obtain rfl := Option.some.inj H
  have p474 : 0 ≤ (x3_1 : Int) := of_decide_eq_true (by first | (with_reducible assumption) | assumption)
  have q474 : x3_1 < (l0.length : Int) := of_decide_eq_true (by first | (with_reducible assumption) | assumption)
  obtain ⟨ad474, e474, hx474_0⟩ := Kd.at_int HR0.out x3_1 p474 q474
  cases e474
  replace p474 := eq_true p474
  replace q474 := eq_true q474
  go_wp2_with (first | (go_at_call 81; (with_reducible refine (herbariumref3_Origin.calls (rd l0 x3_1) true _ A7.out).mono ?_); rintro e w' ⟨rfl, ⟨nd, rfl⟩⟩; (try first | exact ⟨rfl, _, World.drewN_drewN _ _ _⟩ | exact ⟨rfl, _, Eq.trans (World.drewN_drewN _ _ _) (congrArg (World.drewN _) (Nat.add_assoc _ _ _))⟩); have p476 : 0 ≤ ((ji10) : Int) := of_decide_eq_true (by first | (with_reducible assumption) | assumption); have q476 : (ji10) < (l0.length : Int) := of_decide_eq_true (by first | (with_reducible assumption) | assumption); obtain ⟨ad476, e476, hx476_0⟩ := Kd.at_int HR0.out (ji10) p476 q476; obtain rfl : ad474 = ad476 := (by injection e476); replace p476 := eq_true p476; replace q476 := eq_true q476; have p477 : 0 ≤ (x3_1 : Int) := of_decide_eq_true (by first | (with_reducible assumption) | assumption); have q477 : x3_1 < (l0.length : Int) := of_decide_eq_true (by first | (with_reducible assumption) | assumption); obtain ⟨ad477, e477, hx477_0⟩ := Kd.at_int HR0.out x3_1 p477 q477; obtain rfl : ad474 = ad477 := (by injection e477); replace p477 := eq_true p477; replace q477 := eq_true q477))
  repeat (go_quiet (first | (go_at_call 81; (with_reducible refine (herbariumref3_Origin.calls (rd l0 x3_1) true _ A7.out).mono ?_); rintro e w' ⟨rfl, ⟨nd, rfl⟩⟩; (try first | exact ⟨rfl, _, World.drewN_drewN _ _ _⟩ | exact ⟨rfl, _, Eq.trans (World.drewN_drewN _ _ _) (congrArg (World.drewN _) (Nat.add_assoc _ _ _))⟩); have p476 : 0 ≤ ((ji10) : Int) := of_decide_eq_true (by first | (with_reducible assumption) | assumption); have q476 : (ji10) < (l0.length : Int) := of_decide_eq_true (by first | (with_reducible assumption) | assumption); obtain ⟨ad476, e476, hx476_0⟩ := Kd.at_int HR0.out (ji10) p476 q476; obtain rfl : ad474 = ad476 := (by injection e476); replace p476 := eq_true p476; replace q476 := eq_true q476; have p477 : 0 ≤ (x3_1 : Int) := of_decide_eq_true (by first | (with_reducible assumption) | assumption); have q477 : x3_1 < (l0.length : Int) := of_decide_eq_true (by first | (with_reducible assumption) | assumption); obtain ⟨ad477, e477, hx477_0⟩ := Kd.at_int HR0.out x3_1 p477 q477; obtain rfl : ad474 = ad477 := (by injection e477); replace p477 := eq_true p477; replace q477 := eq_true q477)); try go_wp2_with (first | (go_at_call 81; (with_reducible refine (herbariumref3_Origin.calls (rd l0 x3_1) true _ A7.out).mono ?_); rintro e w' ⟨rfl, ⟨nd, rfl⟩⟩; (try first | exact ⟨rfl, _, World.drewN_drewN _ _ _⟩ | exact ⟨rfl, _, Eq.trans (World.drewN_drewN _ _ _) (congrArg (World.drewN _) (Nat.add_assoc _ _ _))⟩); have p476 : 0 ≤ ((ji10) : Int) := of_decide_eq_true (by first | (with_reducible assumption) | assumption); have q476 : (ji10) < (l0.length : Int) := of_decide_eq_true (by first | (with_reducible assumption) | assumption); obtain ⟨ad476, e476, hx476_0⟩ := Kd.at_int HR0.out (ji10) p476 q476; obtain rfl : ad474 = ad476 := (by injection e476); replace p476 := eq_true p476; replace q476 := eq_true q476; have p477 : 0 ≤ (x3_1 : Int) := of_decide_eq_true (by first | (with_reducible assumption) | assumption); have q477 : x3_1 < (l0.length : Int) := of_decide_eq_true (by first | (with_reducible assumption) | assumption); obtain ⟨ad477, e477, hx477_0⟩ := Kd.at_int HR0.out x3_1 p477 q477; obtain rfl : ad474 = ad477 := (by injection e477); replace p477 := eq_true p477; replace q477 := eq_true q477)))
  go_ret
  exact ⟨by first | rfl | (simp; done) | (simp only [← hji10] <;> (first | rfl | simp)) | (simp [*]; done), by repeat (first | exact Drawn0.refl _ | apply Drawn0.step)⟩
 rw [if_neg c13] at H
 have c13b0 : decide ((rd l0 x3_1) ≤ (rd l0 (ji10))) = false := decide_eq_false c13
 clear c13
 have H' := ak H
 clear H
 have p474 : 0 ≤ (x3_1 : Int) := of_decide_eq_true (by first | (with_reducible assumption) | assumption)
 have q474 : x3_1 < (l0.length : Int) := of_decide_eq_true (by first | (with_reducible assumption) | assumption)
 obtain ⟨ad474, e474, hx474_0⟩ := Kd.at_int HR0.out x3_1 p474 q474
 cases e474
 replace p474 := eq_true p474
 replace q474 := eq_true q474
 go_wp2_with (first | (go_at_call 81; (with_reducible refine (herbariumref3_Origin.calls (rd l0 x3_1) true _ A7.out).mono ?_); rintro e w' ⟨rfl, ⟨nd, rfl⟩⟩; (try first | exact ⟨rfl, _, World.drewN_drewN _ _ _⟩ | exact ⟨rfl, _, Eq.trans (World.drewN_drewN _ _ _) (congrArg (World.drewN _) (Nat.add_assoc _ _ _))⟩); have p476 : 0 ≤ ((ji10) : Int) := of_decide_eq_true (by first | (with_reducible assumption) | assumption); have q476 : (ji10) < (l0.length : Int) := of_decide_eq_true (by first | (with_reducible assumption) | assumption); obtain ⟨ad476, e476, hx476_0⟩ := Kd.at_int HR0.out (ji10) p476 q476; obtain rfl : ad474 = ad476 := (by injection e476); replace p476 := eq_true p476; replace q476 := eq_true q476; have p477 : 0 ≤ (x3_1 : Int) := of_decide_eq_true (by first | (with_reducible assumption) | assumption); have q477 : x3_1 < (l0.length : Int) := of_decide_eq_true (by first | (with_reducible assumption) | assumption); obtain ⟨ad477, e477, hx477_0⟩ := Kd.at_int HR0.out x3_1 p477 q477; obtain rfl : ad474 = ad477 := (by injection e477); replace p477 := eq_true p477; replace q477 := eq_true q477))
 repeat (go_quiet (first | (go_at_call 81; (with_reducible refine (herbariumref3_Origin.calls (rd l0 x3_1) true _ A7.out).mono ?_); rintro e w' ⟨rfl, ⟨nd, rfl⟩⟩; (try first | exact ⟨rfl, _, World.drewN_drewN _ _ _⟩ | exact ⟨rfl, _, Eq.trans (World.drewN_drewN _ _ _) (congrArg (World.drewN _) (Nat.add_assoc _ _ _))⟩); have p476 : 0 ≤ ((ji10) : Int) := of_decide_eq_true (by first | (with_reducible assumption) | assumption); have q476 : (ji10) < (l0.length : Int) := of_decide_eq_true (by first | (with_reducible assumption) | assumption); obtain ⟨ad476, e476, hx476_0⟩ := Kd.at_int HR0.out (ji10) p476 q476; obtain rfl : ad474 = ad476 := (by injection e476); replace p476 := eq_true p476; replace q476 := eq_true q476; have p477 : 0 ≤ (x3_1 : Int) := of_decide_eq_true (by first | (with_reducible assumption) | assumption); have q477 : x3_1 < (l0.length : Int) := of_decide_eq_true (by first | (with_reducible assumption) | assumption); obtain ⟨ad477, e477, hx477_0⟩ := Kd.at_int HR0.out x3_1 p477 q477; obtain rfl : ad474 = ad477 := (by injection e477); replace p477 := eq_true p477; replace q477 := eq_true q477)); try go_wp2_with (first | (go_at_call 81; (with_reducible refine (herbariumref3_Origin.calls (rd l0 x3_1) true _ A7.out).mono ?_); rintro e w' ⟨rfl, ⟨nd, rfl⟩⟩; (try first | exact ⟨rfl, _, World.drewN_drewN _ _ _⟩ | exact ⟨rfl, _, Eq.trans (World.drewN_drewN _ _ _) (congrArg (World.drewN _) (Nat.add_assoc _ _ _))⟩); have p476 : 0 ≤ ((ji10) : Int) := of_decide_eq_true (by first | (with_reducible assumption) | assumption); have q476 : (ji10) < (l0.length : Int) := of_decide_eq_true (by first | (with_reducible assumption) | assumption); obtain ⟨ad476, e476, hx476_0⟩ := Kd.at_int HR0.out (ji10) p476 q476; obtain rfl : ad474 = ad476 := (by injection e476); replace p476 := eq_true p476; replace q476 := eq_true q476; have p477 : 0 ≤ (x3_1 : Int) := of_decide_eq_true (by first | (with_reducible assumption) | assumption); have q477 : x3_1 < (l0.length : Int) := of_decide_eq_true (by first | (with_reducible assumption) | assumption); obtain ⟨ad477, e477, hx477_0⟩ := Kd.at_int HR0.out x3_1 p477 q477; obtain rfl : ad474 = ad477 := (by injection e477); replace p477 := eq_true p477; replace q477 := eq_true q477)))
 go_roundg kj1
 case measure => have := HK1.out; have := HJ1.out; omega
 case rel => exact ⟨(wrap64 (x3_1 + 1)), (by first | rfl | (simp; done) | (simp [*]; done)), H', ⟨by have := HK1.out; have := HJ1.out; omega⟩, by repeat (first | exact Drawn0.refl _ | apply Drawn0.step)⟩
end Go.Proofs.Ytnpghcikhpglkaa.Q
namespace Go.Proofs.Ytnpghcikhpglkaa.Q
open Go.RowKit Go.Proofs.YtnpghcikhpglkaaW.PrintWords Go.Proofs.YtnpghcikhpglkaaW.PrintLast Go.Proofs.YtnpghcikhpglkaaW.PrintMore
attribute [local go_sem] max2_int min2_int max_two min_two max_three min_three max_four min_four   -- for this text's walks alone
set_option linter.unusedVariables false
set_option linter.unusedSimpArgs false

/-! ### herbariumref0_CopyNumbers: function 79 -/
def herbariumref0_CopyNumbers.l0 : Nat → List Int → List Int → Int → Option (List Int)
  | 0, _, _, _ => none
  | k + 1, x0, x3, x4 => if x4 < (x0.length : Int) then (if 0 ≤ x4 then (if x3.length < 17592186044416 then (herbariumref0_CopyNumbers.l0 k x0 (x3 ++ [rd x0 x4]) (wrap64 (x4 + 1))) else (none)) else (none)) else (some x3)
def herbariumref0_CopyNumbers.f (k : Nat) (l0 : List Int) : Option (List Int) := herbariumref0_CopyNumbers.l0 k l0 ([] : List Int) 0
set_option maxHeartbeats 8000000 in
set_option maxRecDepth 100000 in
theorem herbariumref0_CopyNumbers.calls (k : Nat) (A0 : Option Addr) (c0 : Nat) (l0 : List Int) (r : List Int) (w : World) (hr0 : Kd.C (Kd.int .i64) w A0 l0.length l0) (hc0 : l0.length ≤ c0) (h : herbariumref0_CopyNumbers.f k l0 = some r) :
    Calls Try.prog 79 #[.slice A0 l0.length c0] w fun e w' => ∃ v0_ : Value, e = .returned (v0_) ∧ Kd.R (Kd.int .i64) 3 w' w.heap.size (fun _ => True) v0_ r ∧ Below w.heap.size w w' := by
 have HR0 := ak hr0
 have HC0 := ak hc0
 clear hr0 hc0
 have HB := ak (Below.refl w.heap.size w)
 have H : (herbariumref0_CopyNumbers.l0 k l0 ([] : List Int) 0) = some r := h
 clear h
 have H' := ak H
 clear H
 go_enter Try.func79, Try.ntmps79
 go_wp2
 go_loopg [3, 4] k (fun kq v3 v4 w' => ∃ (x3_1 : List Int) (x4_1 : Int), v4 = .int .i64 x4_1 ∧ Aside0 (herbariumref0_CopyNumbers.l0 kq l0 x3_1 x4_1 = some r) ∧ Aside0 (kq ≤ k) ∧ Aside0 (Kd.R (Kd.int .i64) 3 w' w.heap.size (fun _ => True) v3 x3_1) ∧ Aside0 (Below w.heap.size w w'))
 case atStart => exact ⟨(([] : List Int)), (0), (by first | rfl | (simp; done) | (simp [*]; done)), H', ⟨Nat.le_refl _⟩, ⟨by first | exact Kd.R_nil _ _ _ _ _ | exact Kd.N_nil _ _ _ _ _ | exact Kd.V_nil _ _ _ _ _ | exact Kd.Q_nil _ _ _ _ _ | exact Kd.S_nil _ _ _ _ _⟩, ⟨ul HB.out⟩⟩
 clear H'
 obtain ⟨x3_1, x4_1, rfl, HA, HK1, HO_3, HB⟩ := hrel
 cases gk with
 | zero => exact absurd HA.out (by simp [herbariumref0_CopyNumbers.l0])
 | succ k1 => ?_
 have H := HA.out
 clear HA
 simp only [herbariumref0_CopyNumbers.l0] at H
 by_cases c2 : x4_1 < (l0.length : Int)
 rotate_left
 ·
  rw [if_neg c2] at H
  have c2b0 : decide (x4_1 < (l0.length : Int)) = false := decide_eq_false c2
  clear c2
  obtain rfl := Option.some.inj H
  go_wp2
  go_ret
  exact ⟨_, by first | rfl | (simp [errW_none, errW_some] <;> rfl) | (simp [*, errW_none, errW_some] <;> rfl), ur <| HO_3.out, ul HB.out⟩
 rw [if_pos c2] at H
 have c2b0 : decide (x4_1 < (l0.length : Int)) = true := decide_eq_true c2
 clear c2
 by_cases c3 : 0 ≤ x4_1
 rotate_left
 ·
  rw [if_neg c3] at H
  exact absurd H (by simp)
 rw [if_pos c3] at H
 have c3b0 : decide (0 ≤ x4_1) = true := decide_eq_true c3
 clear c3
 by_cases c4 : x3_1.length < 17592186044416
 rotate_left
 ·
  rw [if_neg c4] at H
  exact absurd H (by simp)
 rw [if_pos c4] at H
 have LMc4 := ak c4
 clear c4
 obtain ⟨y479, hy479⟩ : ∃ y_ : List Int, y_ = (x3_1 ++ [rd l0 x4_1]) := ⟨_, rfl⟩
 replace H : (herbariumref0_CopyNumbers.l0 k1 l0 y479 (wrap64 (x4_1 + 1))) = some r := by first | (rw [hy479]; with_reducible exact H) | (have H2_ := (Option.bind_some _ _).symm.trans H; rw [hy479]; with_reducible exact H2_) | (have H2_ := (Option.bind_some _ _).symm.trans H; with_reducible exact H2_) | with_reducible exact H | (rw [hy479]; exact H) | exact H
 have Ny479 := ak hy479
 clear hy479
 have H' := ak H
 clear H
 have p478 : 0 ≤ (x4_1 : Int) := of_decide_eq_true (by first | (with_reducible assumption) | assumption)
 have q478 : x4_1 < (l0.length : Int) := of_decide_eq_true (by first | (with_reducible assumption) | assumption)
 obtain ⟨ad478, e478, hx478_0⟩ := Kd.at_int HR0.out x4_1 p478 q478
 cases e478
 replace hx478_0 := (HB.out.cell (World.block_lt_of_cell? w _ hx478_0)).trans hx478_0
 replace p478 := eq_true p478
 replace q478 := eq_true q478
 go_wp2_with (first | ((with_reducible refine gate_builtin (b := .append) (xs := #[.tmp 11, .tmp 16]) rfl ?_); at_builtin; refine Kd.R_append (Kd.int .i64) (w0 := w) w.heap.size rfl (.tmp 11) (.tmp 16) 23 3 (.int .i64 0) 8 rfl Try.underlying23 info3 rfl (by decide) (by omega) u3 x3_1 (rd l0 x4_1) [.int .i64 (rd l0 x4_1)] (fun _ => True) (fun _ => False) rfl rfl ?aP (fun _ hk => hk.elim) ?aF ?aO ?aB ?aS ?aL ?_; (case aP => exact rfl); (case aB => exact (ul HB.out)); (case aF => exact (fun _ _ => trivial)); (case aO => exact (ur <| HO_3.out)); (case aS => exact (below_size (ul HB.out))); (case aL => have := LMc4.out; omega); intro v480 w5 ho hb hg hat; rw [← Ny479.out] at ho; have n0_ := ak (hb); have n1_ := ak (ho); clear HB; clear HO_3; have HB := n0_; have HO481 := n1_; clear n0_ n1_; clear ho hb hg hat))
 go_roundg k1
 case measure => have := HK1.out; omega
 case rel => exact ⟨(y479), (wrap64 (x4_1 + 1)), (by first | rfl | (simp; done) | (simp [*]; done)), H', ⟨by have := HK1.out; omega⟩, ⟨ur <| HO481.out⟩, ⟨ul HB.out⟩⟩
end Go.Proofs.Ytnpghcikhpglkaa.Q
namespace Go.Proofs.Ytnpghcikhpglkaa.Q
open Go.RowKit Go.Proofs.YtnpghcikhpglkaaW.PrintWords Go.Proofs.YtnpghcikhpglkaaW.PrintLast Go.Proofs.YtnpghcikhpglkaaW.PrintMore
attribute [local go_sem] max2_int min2_int max_two min_two max_three min_three max_four min_four   -- for this text's walks alone
set_option linter.unusedVariables false
set_option linter.unusedSimpArgs false

/-! ### gaps_Check: function 80 -/
def gaps_Check.f (k : Nat) (l0 : List Int) : Option (Int) := (gaps_May.f k l0).bind fun t482 => (if t482 = true then (some 0) else (some 1))
set_option maxHeartbeats 8000000 in
set_option maxRecDepth 100000 in
theorem gaps_Check.calls (k : Nat) (A0 : Option Addr) (c0 : Nat) (l0 : List Int) (r : Int) (w : World) (hr0 : Kd.C (Kd.int .i64) w A0 l0.length l0) (hc0 : l0.length ≤ c0) (h : gaps_Check.f k l0 = some r) :
    Calls Try.prog 80 #[.slice A0 l0.length c0] w fun e w' => e = .returned (.int .i64 r) ∧ Drawn0 w w' := by
 have HR0 := ak hr0
 have HC0 := ak hc0
 clear hr0 hc0
 have H : ((gaps_May.f k l0).bind fun t482 => (if t482 = true then (some 0) else (some 1))) = some r := h
 clear h
 replace H := Option.bind_eq_some_iff.mp H
 obtain ⟨t482, A20, H⟩ := H
 try dsimp only at H
 have A2 := ak A20
 clear A20
 by_cases c3 : t482 = true
 ·
  subst c3
  rw [if_pos rfl] at H
  obtain rfl := Option.some.inj H
  go_enter Try.func80, Try.ntmps80
  go_wp2_with (first | ((with_reducible refine gate_callee (f := 114) rfl ?_); refine goesL_ (some 4) rfl rfl Try.func114 (by kernel_rfl) rfl #[.slice A0 l0.length c0] rfl (by (try simp only [List.map_toArray, List.map_cons, List.map_nil]); first | done | rfl | (simp only [List.length_drop, List.length_take]; rfl)) ?_; (with_reducible refine (gaps_May.calls k _ _ l0 true _ ?side1 ?side2 A2.out).mono ?_); (case side1 => exact uc HR0.out); (case side2 => exact HC0.out); rintro e w' ⟨rfl, ⟨nd, rfl⟩⟩; refine ⟨_, rfl, ?_⟩))
  go_ret
  exact ⟨by first | rfl | (simp; done) | (simp [*]; done), by repeat (first | exact Drawn0.refl _ | apply Drawn0.step)⟩
 replace c3 := Bool.eq_false_iff.mpr c3
 subst c3
 rw [if_neg (show ¬ (false = true) by decide)] at H
 obtain rfl := Option.some.inj H
 go_enter Try.func80, Try.ntmps80
 go_wp2_with (first | ((with_reducible refine gate_callee (f := 114) rfl ?_); refine goesL_ (some 4) rfl rfl Try.func114 (by kernel_rfl) rfl #[.slice A0 l0.length c0] rfl (by (try simp only [List.map_toArray, List.map_cons, List.map_nil]); first | done | rfl | (simp only [List.length_drop, List.length_take]; rfl)) ?_; (with_reducible refine (gaps_May.calls k _ _ l0 false _ ?side1 ?side2 A2.out).mono ?_); (case side1 => exact uc HR0.out); (case side2 => exact HC0.out); rintro e w' ⟨rfl, ⟨nd, rfl⟩⟩; refine ⟨_, rfl, ?_⟩))
 go_ret
 exact ⟨by first | rfl | (simp; done) | (simp [*]; done), by repeat (first | exact Drawn0.refl _ | apply Drawn0.step)⟩
end Go.Proofs.Ytnpghcikhpglkaa.Q
namespace Go.Proofs.Ytnpghcikhpglkaa.Q
open Go.RowKit Go.Proofs.YtnpghcikhpglkaaW.PrintWords Go.Proofs.YtnpghcikhpglkaaW.PrintLast Go.Proofs.YtnpghcikhpglkaaW.PrintMore
attribute [local go_sem] max2_int min2_int max_two min_two max_three min_three max_four min_four   -- for this text's walks alone
set_option linter.unusedVariables false
set_option linter.unusedSimpArgs false

/-! ### herbariumref3_Gaps: function 82 -/
def herbariumref3_Gaps.l0 : Nat → List Int → Int → List Int → Int → Option (List Int)
  | 0, _, _, _, _ => none
  | k + 1, x0, x1, x2, x7 => if x7 < (x2.length : Int) then (if x7 = 0 then (if 0 < (x2.length : Int) then ((herbariumref1_Zig.f (wrap64 ((rd x2 0) - x1))).bind fun t487 => ((herbariumref1_List_Write.f k x0 2 (wrap64 (t487 + 1))).bind fun t488 => (herbariumref3_Gaps.l0 k t488 x1 x2 (wrap64 (x7 + 1))))) else (none)) else (if 0 ≤ x7 then (if 0 ≤ (wrap64 (x7 - 1)) then (if (wrap64 (x7 - 1)) < (x2.length : Int) then ((herbariumref1_List_Write.f k x0 2 (wrap64 ((rd x2 x7) - (rd x2 (wrap64 (x7 - 1)))))).bind fun t493 => (herbariumref3_Gaps.l0 k t493 x1 x2 (wrap64 (x7 + 1)))) else (none)) else (none)) else (none))) else (some x0)
def herbariumref3_Gaps.f (k : Nat) (l0 : List Int) (a1 : Int) (l2 : List Int) : Option (List Int) := (herbariumref1_List_Write.f k l0 2 (wrap64 ((l2.length : Int) + 1))).bind fun t483 => (herbariumref3_Gaps.l0 k t483 a1 l2 0)
def herbariumref3_Gaps.T7 : Bool × List (List Nat × List Nat) := (true, [([], []), ([], []), ([], []), ([1, 2], [1, 2]), ([3], [3]), ([], []), ([], []), ([6], [6]), ([5, 7], [5, 7]), ([8], [8]), ([4, 9], [4, 9]), ([0, 10], [0, 10]), ([11, 11, 0, 1, 2, 3, 4, 5, 6, 7, 8, 9, 10, 11], [0, 11])])
def herbariumref3_Gaps.B7 : List Nat := [0, 0, 0, 6, 14, 0, 0, 64, 224, 480, 1022, 2047, 4095]
theorem herbariumref3_Gaps.tab7 : rtab .any (opsOf Try.f82 7) = herbariumref3_Gaps.T7 := by kernel_rfl
theorem herbariumref3_Gaps.bits7 : waitsOk herbariumref3_Gaps.T7.2 herbariumref3_Gaps.B7 = true := by kernel_rfl
set_option maxHeartbeats 8000000 in
set_option maxRecDepth 100000 in
theorem herbariumref3_Gaps.calls (k : Nat) (P0_ : Nat → Prop) (u9000_ : Value) (l0 : List Int) (a1 : Int) (A2 : Option Addr) (c2 : Nat) (l2 : List Int) (r : List Int) (w0 w : World) (hB : Below w0.heap.size w0 w) (ho0 : Kd.R (Kd.int .u8) 5 w w0.heap.size P0_ u9000_ l0) (hr2 : ∀ W_, Kept w W_ (fun k_ => P0_ k_) → Kd.C (Kd.int .i64) W_ A2 l2.length l2) (hc2 : l2.length ≤ c2) (h : herbariumref3_Gaps.f k l0 a1 l2 = some r) :
    Calls Try.prog 82 #[u9000_, .int .i64 a1, .slice A2 l2.length c2] w fun e w' => ∃ v0_ : Value, e = .returned (v0_) ∧ Kd.R (Kd.int .u8) 5 w' w0.heap.size (fun k_ => (P0_ k_ ∨ w.heap.size ≤ k_)) v0_ r ∧ Below w0.heap.size w0 w' ∧ Kept w w' (fun k_ => P0_ k_) := by
 have HO0 := ak (show Kd.R (Kd.int .u8) 5 w w0.heap.size (fun k_ => (P0_ k_ ∨ w.heap.size ≤ k_)) u9000_ l0 from Kd.R_mono ho0 (fun k_ hk => (.inl hk)))
 have HR2 := ak hr2
 have HC2 := ak hc2
 clear hr2 hc2
 have HK := ak (Kept.refl w (fun k_ => P0_ k_))
 have HW0 := ak hB.size
 have HB := ak hB
 clear hB
 have H : ((herbariumref1_List_Write.f k l0 2 (wrap64 ((l2.length : Int) + 1))).bind fun t483 => (herbariumref3_Gaps.l0 k t483 a1 l2 0)) = some r := h
 clear h
 replace H := Option.bind_eq_some_iff.mp H
 obtain ⟨t483, A40, H⟩ := H
 try dsimp only at H
 have A4 := ak A40
 clear A40
 have H' := ak H
 clear H
 obtain ⟨Ao5, co5, eo5⟩ := Kd.R_slice HO0.out
 subst eo5
 go_enter Try.func82, Try.ntmps82
 go_wp2_with (first | ((with_reducible refine gate_callee (f := 107) rfl ?_); refine goesL_ (some 12) rfl rfl Try.func107 (by kernel_rfl) rfl #[.slice Ao5 l0.length co5, .int .i64 2, .int .i64 (wrap64 ((l2.length : Int) + 1))] rfl (by (try simp only [List.map_toArray, List.map_cons, List.map_nil]); first | done | rfl | (simp only [List.length_drop, List.length_take]; rfl)) ?_; (with_reducible refine (herbariumref1_List_Write.calls k (fun k_ => some k_ = (.slice Ao5 l0.length co5 : Value).ownBlock) (.slice Ao5 l0.length co5) l0 2 (wrap64 ((l2.length : Int) + 1)) t483 w0 _ ?side1 ?side2 rfl A4.out).mono ?_); (case side1 => repeat (first | (with_reducible first | exact HB.out | apply below_alloc | apply pw_below_drewN | apply below_drew1) | exact HB.out)); (case side2 => exact Kd.R_tight rfl HO0.out); rintro e w6 ⟨v484, rfl, ho0, hb, hkp⟩; refine ⟨_, rfl, ?_⟩; have n0_ := ak (Kd.R_mono (ok' := fun k_ => (P0_ k_ ∨ w.heap.size ≤ k_)) ho0 (fun k_ hk_ => Or.elim hk_ (fun hs_ => (HO0.out.1 k_ (hs_).symm)) (fun hn_ => (.inr (Nat.le_trans (by first | exact HK.out.1 | exact (show Kept w _ (fun k_ => P0_ k_) from by repeat (first | (with_reducible first | exact HK.out | apply Kept.alloc | apply Kept.drewN | apply Kept.drew) | exact HK.out)).1) hn_))))); have n1_ := ak (Kept.then_ (S := (fun k_ => P0_ k_)) (by repeat (first | (with_reducible first | exact HK.out | apply Kept.alloc | apply Kept.drewN | apply Kept.drew) | exact HK.out)) hkp (fun k_ hs_ => (fun e_ => (HO0.out.1 k_ e_.symm)) hs_)); have n2_ := ak (hb); clear HK; clear HB; clear HO0; have HO485 := n0_; have HK := n1_; have HB := n2_; clear n0_ n1_ n2_; (try clear hb); (try clear hkp); (try clear ho0)))
 go_loopg [0, 7] k (fun kq v0 v7 w' => ∃ (x0_1 : List Int) (x7_1 : Int), v7 = .int .i64 x7_1 ∧ Aside0 (herbariumref3_Gaps.l0 kq x0_1 a1 l2 x7_1 = some r) ∧ Aside0 (kq ≤ k) ∧ Aside0 (Kd.R (Kd.int .u8) 5 w' w0.heap.size (fun k_ => (P0_ k_ ∨ w.heap.size ≤ k_)) v0 x0_1) ∧ Aside0 (Kept w w' (fun k_ => P0_ k_)) ∧ Aside0 (Below w0.heap.size w0 w'))
 case atStart => exact ⟨(t483), (0), (by first | rfl | (simp; done) | (simp [*]; done)), H', ⟨Nat.le_refl _⟩, ⟨ur <| HO485.out⟩, ⟨by repeat (first | (with_reducible first | exact HK.out | apply Kept.alloc | apply Kept.drewN | apply Kept.drew) | exact HK.out)⟩, ⟨ul HB.out⟩⟩
 clear H'
 obtain ⟨x0_1, x7_1, rfl, HA, HK1, HO_0, HK, HB⟩ := hrel
 cases gk with
 | zero => exact absurd HA.out (by simp [herbariumref3_Gaps.l0])
 | succ k1 => ?_
 have H := HA.out
 clear HA
 simp only [herbariumref3_Gaps.l0] at H
 by_cases c7 : x7_1 < (l2.length : Int)
 rotate_left
 ·
  rw [if_neg c7] at H
  have c7b0 : decide (x7_1 < (l2.length : Int)) = false := decide_eq_false c7
  clear c7
  obtain rfl := Option.some.inj H
  go_wp2
  go_ret
  exact ⟨_, by first | rfl | (simp [errW_none, errW_some] <;> rfl) | (simp [*, errW_none, errW_some] <;> rfl), ur <| HO_0.out, ul HB.out, by repeat (first | (with_reducible first | exact HK.out | apply Kept.alloc | apply Kept.drewN | apply Kept.drew) | exact HK.out)⟩
 rw [if_pos c7] at H
 have c7b0 : decide (x7_1 < (l2.length : Int)) = true := decide_eq_true c7
 clear c7
 by_cases c8 : x7_1 = 0
 ·
  rw [if_pos c8] at H
  have c8b0 : (x7_1 == 0) = true := beq_iff_eq.mpr c8
  have c8b1 : (x7_1 != 0) = false := bne_eq_false_iff_eq.mpr c8
  clear c8
  by_cases c9 : 0 < (l2.length : Int)
  rotate_left
  ·
   rw [if_neg c9] at H
   exact absurd H (by simp)
  rw [if_pos c9] at H
  have c9b0 : decide (0 < (l2.length : Int)) = true := decide_eq_true c9
  have c9b1 : decide (0 < l2.length) = true := decide_eq_true (by omega)
  clear c9
  replace H := Option.bind_eq_some_iff.mp H
  obtain ⟨t487, A100, H⟩ := H
  try dsimp only at H
  have A10 := ak A100
  clear A100
  replace H := Option.bind_eq_some_iff.mp H
  obtain ⟨t488, A110, H⟩ := H
  try dsimp only at H
  have A11 := ak A110
  clear A110
  have H' := ak H
  clear H
  have p486 : 0 ≤ (0 : Int) := (by omega)
  have q486 : 0 < (l2.length : Int) := of_decide_eq_true (by first | (with_reducible assumption) | assumption)
  obtain ⟨ad486, e486, hx486_0⟩ := Kd.at_int (Kd.C_kept_now HR2.out HK.out) 0 p486 q486
  cases e486
  have qi486 : (0 < l2.length) = True := eq_true (by omega)
  (try rw [show ((0 : Int)).toNat = 0 from rfl] at hx486_0)
  (try rw [Addr.add_zero'] at hx486_0)
  replace p486 := eq_true p486
  replace q486 := eq_true q486
  go_wp2_with (first | ((with_reducible refine gate_callee (f := 67) rfl ?_); refine goesL_ (some 27) rfl rfl Try.func67 (by kernel_rfl) rfl #[.int .i64 (wrap64 ((rd l2 0) - a1))] rfl (by (try simp only [List.map_toArray, List.map_cons, List.map_nil]); first | done | rfl | (simp only [List.length_drop, List.length_take]; rfl)) ?_; (with_reducible refine (herbariumref1_Zig.calls (wrap64 ((rd l2 0) - a1)) t487 _ A10.out).mono ?_); rintro e w' ⟨rfl, ⟨nd, rfl⟩⟩; refine ⟨_, rfl, ?_⟩; obtain ⟨Ao12, co12, eo12⟩ := Kd.R_slice HO_0.out; subst eo12) | ((with_reducible refine gate_callee (f := 107) rfl ?_); refine goesL_ (some 29) rfl rfl Try.func107 (by kernel_rfl) rfl #[.slice Ao12 x0_1.length co12, .int .i64 2, .int .i64 (wrap64 (t487 + 1))] rfl (by (try simp only [List.map_toArray, List.map_cons, List.map_nil]); first | done | rfl | (simp only [List.length_drop, List.length_take]; rfl)) ?_; (with_reducible refine (herbariumref1_List_Write.calls k1 (fun k_ => some k_ = (.slice Ao12 x0_1.length co12 : Value).ownBlock) (.slice Ao12 x0_1.length co12) x0_1 2 (wrap64 (t487 + 1)) t488 w0 _ ?side1 ?side2 rfl A11.out).mono ?_); (case side1 => repeat (first | (with_reducible first | exact HB.out | apply below_alloc | apply pw_below_drewN | apply below_drew1) | exact HB.out)); (case side2 => exact Kd.R_tight rfl HO_0.out); rintro e w13 ⟨v489, rfl, ho0, hb, hkp⟩; refine ⟨_, rfl, ?_⟩; have n0_ := ak (Kd.R_mono (ok' := fun k_ => (P0_ k_ ∨ w.heap.size ≤ k_)) ho0 (fun k_ hk_ => Or.elim hk_ (fun hs_ => (HO_0.out.1 k_ (hs_).symm)) (fun hn_ => (.inr (Nat.le_trans (by first | exact HK.out.1 | exact (show Kept w _ (fun k_ => P0_ k_) from by repeat (first | (with_reducible first | exact HK.out | apply Kept.alloc | apply Kept.drewN | apply Kept.drew) | exact HK.out)).1) hn_))))); have n1_ := ak (Kept.then_ (S := (fun k_ => P0_ k_)) (by repeat (first | (with_reducible first | exact HK.out | apply Kept.alloc | apply Kept.drewN | apply Kept.drew) | exact HK.out)) hkp (fun k_ hs_ => (fun e_ => (HO_0.out.1 k_ e_.symm)) hs_)); have n2_ := ak (hb); clear HK; clear HB; clear HO_0; have HO490 := n0_; have HK := n1_; have HB := n2_; clear n0_ n1_ n2_; (try clear hb); (try clear hkp); (try clear ho0)))
  go_roundg k1
  case measure => have := HK1.out; omega
  case rel => exact ⟨(t488), (wrap64 (x7_1 + 1)), (by first | rfl | (simp; done) | (simp [*]; done)), H', ⟨by have := HK1.out; omega⟩, ⟨ur <| HO490.out⟩, ⟨by repeat (first | (with_reducible first | exact HK.out | apply Kept.alloc | apply Kept.drewN | apply Kept.drew) | exact HK.out)⟩, ⟨ul HB.out⟩⟩
 rw [if_neg c8] at H
 have c8b0 : (x7_1 == 0) = false := beq_eq_false_iff_ne.mpr c8
 have c8b1 : (x7_1 != 0) = true := bne_iff_ne.mpr c8
 by_cases c14 : 0 ≤ x7_1
 rotate_left
 ·
  rw [if_neg c14] at H
  exact absurd H (by simp)
 rw [if_pos c14] at H
 have c14b0 : decide (0 ≤ x7_1) = true := decide_eq_true c14
 clear c14
 obtain ⟨ji15, hji15⟩ : ∃ j_ : Int, (wrap64 (x7_1 - 1)) = j_ := ⟨_, rfl⟩
 replace H : (if 0 ≤ (ji15) then (if (ji15) < (l2.length : Int) then ((herbariumref1_List_Write.f k1 x0_1 2 (wrap64 ((rd l2 x7_1) - (rd l2 (ji15))))).bind fun t493 => (herbariumref3_Gaps.l0 k1 t493 a1 l2 (wrap64 (x7_1 + 1)))) else (none)) else (none)) = some r := by first | (rw [hji15] at H; exact H) | (simp only [hji15] at H ⊢; exact H)
 have hji15w : (IntKind.i64.wrap (x7_1 - 1)) = ji15 := (i64_w _).trans hji15
 by_cases c16 : 0 ≤ (ji15)
 rotate_left
 ·
  rw [if_neg c16] at H
  exact absurd H (by simp)
 rw [if_pos c16] at H
 have c16b0 : decide (0 ≤ (ji15)) = true := decide_eq_true c16
 clear c16
 by_cases c17 : (ji15) < (l2.length : Int)
 rotate_left
 ·
  rw [if_neg c17] at H
  exact absurd H (by simp)
 rw [if_pos c17] at H
 have c17b0 : decide ((ji15) < (l2.length : Int)) = true := decide_eq_true c17
 clear c17
 replace H := Option.bind_eq_some_iff.mp H
 obtain ⟨t493, A180, H⟩ := H
 try dsimp only at H
 have A18 := ak A180
 clear A180
 have H' := ak H
 clear H
 try go_wp2
 have n0_ := ak (Kd.R_drew HO_0.out)
 have n1_ := ak (Kept.drew HK.out)
 have n2_ := ak (below_drew1 HB.out)
 clear HO_0 HK HB
 have HO_0 := n0_; have HK := n1_; have HB := n2_
 clear n0_ n1_ n2_
 have p491 : 0 ≤ (x7_1 : Int) := of_decide_eq_true (by first | (with_reducible assumption) | assumption)
 have q491 : x7_1 < (l2.length : Int) := of_decide_eq_true (by first | (with_reducible assumption) | assumption)
 obtain ⟨ad491, e491, hx491_0⟩ := Kd.at_int (Kd.C_kept_now HR2.out HK.out) x7_1 p491 q491
 have hw491_0 := hx491_0
 cases e491
 replace p491 := eq_true p491
 replace q491 := eq_true q491
 have p492 : 0 ≤ ((ji15) : Int) := of_decide_eq_true (by first | (with_reducible assumption) | assumption)
 have q492 : (ji15) < (l2.length : Int) := of_decide_eq_true (by first | (with_reducible assumption) | assumption)
 obtain ⟨ad492, e492, hx492_0⟩ := Kd.at_int (Kd.C_kept_now HR2.out HK.out) (ji15) p492 q492
 have hw492_0 := hx492_0
 obtain rfl : ad491 = ad492 := (by injection e492)
 replace p492 := eq_true p492
 replace q492 := eq_true q492
 obtain ⟨Ao20, co20, eo20⟩ := Kd.R_slice HO_0.out
 (first | subst eo20 | (injection eo20 with f1_ f2_ f3_; have f4_ := f1_.symm; have f5_ := f3_.symm; clear f1_ f2_ f3_; subst f4_; subst f5_))
 refine start_ (n := 13) (S := fun w' => w'.cell? (ad491.add (x7_1).toNat) = some (.int .i64 (rd l2 x7_1)) ∧ w'.cell? (ad491.add ((ji15)).toNat) = some (.int .i64 (rd l2 (ji15)))) (ds := []) #[false, false, false, false, false, false, false, false, false, false, false, false, false] (by kernel_rfl) rfl rfl ⟨(Kd.foot_int (HR2.out _ (by repeat (first | exact HK.out | apply Kept.alloc | apply Kept.drewN | apply Kept.drew))) x7_1 (of_eq_true p491) (of_eq_true q491)), (Kd.foot_int (HR2.out _ (by repeat (first | exact HK.out | apply Kept.alloc | apply Kept.drewN | apply Kept.drew))) (ji15) (of_eq_true p492) (of_eq_true q492))⟩ (fun hHeld => ?_); refine with_tabW herbariumref3_Gaps.tab7 herbariumref3_Gaps.bits7 (fun HT_ HW_ => ?_)
 generalize wr.drew = w19 at HO_0 HK HB hx491_0 hx492_0 hHeld ⊢
 refine pure_ (i := 0) (N := some 30) (v := ?_) (a' := ?_) #[true, false, false, false, false, false, false, false, false, false, false, false, false] rfl rfl (any_of HT_.out (by kernel_rfl)) (fun _ _ _ h => h) (Or.inl ⟨by rfl, ?_⟩) ?_ ?_
 rotate_left
 ·
  intro w'
  go_simp
  with_reducible rfl
 rotate_left
 ·
  simp only [Act.put, s1, s2, s3, i64_w, i32_w]
  rfl
 refine pure_ (i := 1) (N := some 31) (v := ?_) (a' := ?_) #[true, true, false, false, false, false, false, false, false, false, false, false, false] rfl rfl (any_of HT_.out (by kernel_rfl)) (fun _ _ _ h => h) (Or.inl ⟨by rfl, ?_⟩) ?_ ?_
 rotate_left
 ·
  intro w'
  go_simp
  with_reducible rfl
 rotate_left
 ·
  simp only [Act.put, s1, s2, s3, i64_w, i32_w]
  rfl
 refine pure_ (i := 2) (N := some 32) (v := ?_) (a' := ?_) #[true, true, true, false, false, false, false, false, false, false, false, false, false] rfl rfl (any_of HT_.out (by kernel_rfl)) (fun _ _ _ h => h) (Or.inl ⟨by rfl, ?_⟩) ?_ ?_
 rotate_left
 ·
  intro w'
  go_simp
  with_reducible rfl
 rotate_left
 ·
  simp only [Act.put, s1, s2, s3, i64_w, i32_w]
  rfl
 refine pure_ (i := 3) (N := some 33) (v := ?_) (a' := ?_) #[true, true, true, true, false, false, false, false, false, false, false, false, false] rfl rfl (any_of HT_.out (by kernel_rfl)) (fun _ _ _ h => h) (Or.inl ⟨by rfl, ?_⟩) ?_ ?_
 rotate_left
 ·
  intro w'
  go_simp
  with_reducible rfl
 rotate_left
 ·
  simp only [Act.put, s1, s2, s3, i64_w, i32_w]
  rfl
 refine pure_ (i := 5) (N := some 35) (v := ?_) (a' := ?_) #[true, true, true, true, false, true, false, false, false, false, false, false, false] rfl rfl (any_of HT_.out (by kernel_rfl)) (fun _ _ _ h => h) (Or.inl ⟨by rfl, ?_⟩) ?_ ?_
 rotate_left
 ·
  intro w'
  go_simp
  with_reducible rfl
 rotate_left
 ·
  simp only [Act.put, s1, s2, s3, i64_w, i32_w]
  rfl
 refine pure_ (i := 6) (N := some 36) (v := ?_) (a' := ?_) #[true, true, true, true, false, true, true, false, false, false, false, false, false] rfl rfl (any_of HT_.out (by kernel_rfl)) (fun _ _ _ h => h) (Or.inl ⟨by rfl, ?_⟩) ?_ ?_
 rotate_left
 ·
  intro w'
  go_simp
  with_reducible rfl
 rotate_left
 ·
  simp only [Act.put, s1, s2, s3, i64_w, i32_w]
  rfl
 refine pure_ (i := 7) (N := some 37) (v := ?_) (a' := ?_) #[true, true, true, true, false, true, true, true, false, false, false, false, false] rfl rfl (any_of HT_.out (by kernel_rfl)) (fun _ _ _ h => h) (Or.inl ⟨by rfl, ?_⟩) ?_ ?_
 rotate_left
 ·
  intro w'
  go_simp
  with_reducible rfl
 rotate_left
 ·
  simp only [Act.put, s1, s2, s3, i64_w, i32_w]
  rfl
 refine pure_ (i := 8) (N := some 38) (v := ?_) (a' := ?_) #[true, true, true, true, false, true, true, true, true, false, false, false, false] rfl rfl (any_of HT_.out (by kernel_rfl)) (fun _ _ _ h => h) (Or.inl ⟨by rfl, ?_⟩) ?_ ?_
 rotate_left
 ·
  intro w'
  go_simp
  with_reducible rfl
 rotate_left
 ·
  simp only [Act.put, s1, s2, s3, i64_w, i32_w]
  rfl
 refine take_ (i := 4) (N := some 34) (v := ?_) (a' := ?_) #[true, true, true, true, true, true, true, true, true, false, false, false, false] rfl rfl (take_ofW HT_.out HW_.out (by kernel_rfl)) (fun _ _ _ h => h) (Or.inl ⟨by rfl, ?_⟩) hHeld ?_ ?_
 rotate_left
 ·
  rintro w' ⟨s0, s1⟩
  go_simp
  with_reducible rfl
 rotate_left
 ·
  simp only [Act.put, s1, s2, s3, i64_w, i32_w]
  rfl
 refine take_ (i := 9) (N := some 39) (v := ?_) (a' := ?_) #[true, true, true, true, true, true, true, true, true, true, false, false, false] rfl rfl (take_ofW HT_.out HW_.out (by kernel_rfl)) (fun _ _ _ h => h) (Or.inl ⟨by rfl, ?_⟩) hHeld ?_ ?_
 rotate_left
 ·
  rintro w' ⟨s0, s1⟩
  go_simp
  with_reducible rfl
 rotate_left
 ·
  simp only [Act.put, s1, s2, s3, i64_w, i32_w]
  rfl
 refine pure_ (i := 10) (N := some 40) (v := ?_) (a' := ?_) #[true, true, true, true, true, true, true, true, true, true, true, false, false] rfl rfl (any_of HT_.out (by kernel_rfl)) (fun _ _ _ h => h) (Or.inl ⟨by rfl, ?_⟩) ?_ ?_
 rotate_left
 ·
  intro w'
  go_simp
  with_reducible rfl
 rotate_left
 ·
  simp only [Act.put, s1, s2, s3, i64_w, i32_w]
  rfl
 refine one_ (i := 11) (N := some 41) #[true, true, true, true, true, true, true, true, true, true, true, true, false] rfl rfl (one_of HT_.out (by kernel_rfl)) (by decide) (fun K hK => ?_)
 refine goes_ Try.func107 (by kernel_rfl) rfl #[.slice Ao20 x0_1.length co20, .int .i64 2, .int .i64 (wrap64 ((rd l2 x7_1) - (rd l2 (ji15))))] (by rfl) rfl rfl (by (try simp only [List.map_toArray, List.map_cons, List.map_nil]); first | done | (simp only [hji15]; rfl) | rfl | (simp only [List.length_drop, List.length_take]; rfl)) ?_
 with_reducible refine (herbariumref1_List_Write.calls k1 (fun k_ => some k_ = (.slice Ao20 x0_1.length co20 : Value).ownBlock) (.slice Ao20 x0_1.length co20) x0_1 2 (wrap64 ((rd l2 x7_1) - (rd l2 (ji15)))) t493 w0 _ ?side1 ?side2 rfl A18.out).mono ?_
 (case side1 => repeat (first | (with_reducible first | exact HB.out | apply below_alloc | apply pw_below_drewN | apply below_drew1) | exact HB.out))
 (case side2 => exact Kd.R_tight rfl HO_0.out)
 rintro e w21 ⟨v494, rfl, ho0, hb, hkp⟩
 refine ⟨_, rfl, ?_⟩
 have n0_ := ak (Kd.R_mono (ok' := fun k_ => (P0_ k_ ∨ w.heap.size ≤ k_)) ho0 (fun k_ hk_ => Or.elim hk_ (fun hs_ => (HO_0.out.1 k_ (hs_).symm)) (fun hn_ => (.inr (Nat.le_trans (by first | exact HK.out.1 | exact (show Kept w _ (fun k_ => P0_ k_) from by repeat (first | (with_reducible first | exact HK.out | apply Kept.alloc | apply Kept.drewN | apply Kept.drew) | exact HK.out)).1) hn_)))))
 have n1_ := ak (Kept.then_ (S := (fun k_ => P0_ k_)) (by repeat (first | (with_reducible first | exact HK.out | apply Kept.alloc | apply Kept.drewN | apply Kept.drew) | exact HK.out)) hkp (fun k_ hs_ => (fun e_ => (HO_0.out.1 k_ e_.symm)) hs_))
 have n2_ := ak (hb)
 clear HK HB HO_0
 have HO495 := n0_; have HK := n1_; have HB := n2_
 clear n0_ n1_ n2_
 (try clear hb); (try clear hkp); (try clear ho0)
 refine hK.out _ _ ⟨(Kd.foot_int (HR2.out _ (by repeat (first | exact HK.out | apply Kept.alloc | apply Kept.drewN | apply Kept.drew))) x7_1 (of_eq_true p491) (of_eq_true q491)), (Kd.foot_int (HR2.out _ (by repeat (first | exact HK.out | apply Kept.alloc | apply Kept.drewN | apply Kept.drew))) (ji15) (of_eq_true p492) (of_eq_true q492))⟩ (fun hHeld => ?_)
 clear hK K
 refine norm_ (a' := ?_) ?_ ?_
 rotate_left
 ·
  show Act.put _ (some 41) _ = _
  simp only [Act.put, s1, s2, s3, i64_w, i32_w]
  rfl
 refine pure_ (i := 12) (N := some 0) (v := ?_) (a' := ?_) #[true, true, true, true, true, true, true, true, true, true, true, true, true] rfl rfl (any_of HT_.out (by kernel_rfl)) (fun _ _ _ h => h) (Or.inl ⟨by rfl, ?_⟩) ?_ ?_
 rotate_left
 ·
  intro w'
  go_simp
  with_reducible rfl
 rotate_left
 ·
  simp only [Act.put, s1, s2, s3, i64_w, i32_w]
  rfl
 refine done_ (done_of HT_.out (by kernel_rfl)) ?_
 try go_wp2
 go_roundg k1
 case measure => have := HK1.out; omega
 case rel => exact ⟨(t493), (wrap64 (x7_1 + 1)), (by first | rfl | (simp; done) | (simp [*]; done)), H', ⟨by have := HK1.out; omega⟩, ⟨ur <| HO495.out⟩, ⟨by repeat (first | (with_reducible first | exact HK.out | apply Kept.alloc | apply Kept.drewN | apply Kept.drew) | exact HK.out)⟩, ⟨ul HB.out⟩⟩
end Go.Proofs.Ytnpghcikhpglkaa.Q
