/- Rows of bytes of the call's own, made by '[]byte(s)' or by append: what is owned, read, stored into, appended to. -/
import Derived.Test.YtnpghcikhpglkaaQ0
import Derived.Lib.Hide
namespace Go.Proofs.Ytnpghcikhpglkaa.Hand
open Go.RowKit Go.Proofs.YtnpghcikhpglkaaW.PrintWords Go.Proofs.YtnpghcikhpglkaaW.PrintLast Go.Proofs.YtnpghcikhpglkaaW.PrintMore Go.Proofs.Ytnpghcikhpglkaa.Q
set_option linter.unusedVariables false
set_option linter.unusedSimpArgs false

/-- The value v owns the bytes bs (its block's mark covers none of its cells). -/
def OwnB (w : World) (base : Nat) (v : Value) (bs : List Int) : Prop :=
  (v = .slice none 0 0 ∧ bs = []) ∨
  ∃ g cap cur fr, v = .slice (some ⟨g, 0, none⟩) bs.length cap ∧ base ≤ g ∧ w.heap[g]? = some (.cells cur 5 fr) ∧ bs.length ≤ cap ∧ cap ≤ maxLen ∧ cur.size = cap ∧ (fr.2 = 0 ∨ cap ≤ fr.1) ∧ cur.toList.take bs.length = nums .u8 bs

theorem OwnB.nil (w : World) (base : Nat) : OwnB w base (.slice none 0 0) [] := .inl ⟨rfl, rfl⟩
theorem OwnB.of_own {w : World} {base : Nat} {v : Value} {bs : List Int} (h : w.ownsRow base 5 1 v bs.length (nums .u8 bs)) : OwnB w base v bs := by
  rcases h.2 with ⟨rfl, h0⟩ | ⟨g, cap, cur, rfl, hb, hg, hn, hm, hs, ht⟩
  · exact .inl ⟨rfl, List.eq_nil_of_length_eq_zero h0⟩
  · exact .inr ⟨g, cap, cur, _, rfl, hb, hg, hn, hm, by simpa using hs, .inl rfl, by simpa using ht⟩

theorem OwnB.base_le {w : World} {base : Nat} {v : Value} {bs : List Int} (h : OwnB w base v bs) (k : Nat) (hk : v.ownBlock = some k) : base ≤ k ∧ k < w.heap.size := by
  rcases h with ⟨rfl, _⟩ | ⟨g, cap, cur, fr, rfl, hb, hg, _⟩
  · simp [Value.ownBlock] at hk
  · have : g = k := by simpa [Value.ownBlock] using hk
    subst this
    exact ⟨hb, (Array.getElem?_eq_some_iff.1 hg).1⟩

theorem OwnB.form {w : World} {base : Nat} {v : Value} {bs : List Int} (h : OwnB w base v bs) (hp : 0 < bs.length) : ∃ g cap, v = .slice (some ⟨g, 0, none⟩) bs.length cap := by
  rcases h with ⟨_, rfl⟩ | ⟨g, cap, cur, fr, rfl, _⟩
  · simp at hp
  · exact ⟨g, cap, rfl⟩

theorem OwnB.shape {w : World} {base : Nat} {v : Value} {bs : List Int} (h : OwnB w base v bs) : ∃ A c, v = .slice A bs.length c ∧ bs.length ≤ c := by
  rcases h with ⟨rfl, rfl⟩ | ⟨g, cap, cur, fr, rfl, _, _, hn, _⟩
  · exact ⟨none, 0, rfl, Nat.le_refl _⟩
  · exact ⟨_, cap, rfl, hn⟩

/-- What is written is another block. -/
theorem OwnB.kept {w w1 : World} {base : Nat} {v : Value} {bs : List Int} (h : OwnB w base v bs) {row : Option Nat} (hg : w.grownBy w1 row) (hne : v.ownBlock = none ∨ v.ownBlock ≠ row) : OwnB w1 base v bs := by
  rcases h with hn | ⟨g, cap, cur, fr, rfl, hb, hgg, r⟩
  · exact .inl hn
  · refine .inr ⟨g, cap, cur, fr, rfl, hb, ?_, r⟩
    rw [hg.block g (Array.getElem?_eq_some_iff.1 hgg).1 (by simpa [Value.ownBlock] using hne)]
    exact hgg
theorem OwnB.below {w w1 : World} {base : Nat} {v : Value} {bs : List Int} (h : OwnB w base v bs) (hb : Below w.heap.size w w1) : OwnB w1 base v bs :=
  h.kept (grown_of_below hb none) (by cases v.ownBlock <;> simp)
theorem OwnB.alloc {w : World} {base : Nat} {v : Value} {bs : List Int} (h : OwnB w base v bs) (o : Obj) : OwnB (w.alloc o) base v bs :=
  h.kept (World.grownBy_alloc w o none) (by cases v.ownBlock <;> simp)
theorem OwnB.weaken {w : World} {base base' : Nat} {v : Value} {bs : List Int} (h : OwnB w base v bs) (hb : base' ≤ base) : OwnB w base' v bs := by
  rcases h with hn | ⟨g, cap, cur, fr, rfl, hbb, r⟩
  · exact .inl hn
  · exact .inr ⟨g, cap, cur, fr, rfl, Nat.le_trans hb hbb, r⟩
theorem OwnB.ne {w : World} {base : Nat} {v : Value} {bs : List Int} (h : OwnB w base v bs) {g t : Nat} {cs : Array Value} {fr : Nat × Nat} (hg : w.heap[g]? = some (.cells cs t fr)) (ht : t ≠ 5) : some g ≠ v.ownBlock := by
  intro hk
  rcases h with ⟨rfl, _⟩ | ⟨g', cap, cur, fr', rfl, hb, hgg, r⟩
  · simp [Value.ownBlock] at hk
  · have : g = g' := by simpa [Value.ownBlock] using hk
    subst this
    rw [hg] at hgg
    injection hgg with hgg
    injection hgg with _ h2
    exact ht h2
theorem OwnB.setFar {w : World} {base : Nat} {v : Value} {bs : List Int} (h : OwnB w base v bs) {p : Addr} (hne : some p.block ≠ v.ownBlock) (u : Value) : OwnB (w.setCell p u) base v bs := by
  rcases h with hn | ⟨g, cap, cur, fr, rfl, hb, hgg, r⟩
  · exact .inl hn
  · refine .inr ⟨g, cap, cur, fr, rfl, hb, ?_, r⟩
    rw [Below.heap_setCell w p u g (fun e => hne (by simp [Value.ownBlock, e]))]
    exact hgg

/-- A cell of it. -/
theorem OwnB.at_ {w : World} {base g n cap : Nat} {bs : List Int} (h : OwnB w base (.slice (some ⟨g, 0, none⟩) n cap) bs) (i : Int) (h0 : 0 ≤ i) (h1 : i < (bs.length : Int)) :
    w.cell? ⟨g, i.toNat, none⟩ = some (.int .u8 (rd bs i)) ∧ w.frozen? ⟨g, i.toNat, none⟩ = false := by
  rcases h with ⟨h', _⟩ | ⟨g', cap', cur, fr, h', hb, hg, hn, hm, hs, hf, ht⟩
  · cases h'
  · simp only [Value.slice.injEq, Option.some.injEq, Addr.mk.injEq, and_true, true_and] at h'
    obtain ⟨rfl, rfl, rfl⟩ := h'
    have hi : i.toNat < bs.length := by omega
    constructor
    · rw [cell_of_row w g i.toNat cur 5 fr hg]
      have h3 : (cur.toList.take bs.length)[i.toNat]? = (nums .u8 bs)[i.toNat]? := by rw [ht]
      rw [List.getElem?_take, if_pos hi] at h3
      rw [← Array.getElem?_toList, h3]
      simp [nums, rd, List.getElem?_eq_getElem hi, List.getD_eq_getElem?_getD]
    · simp only [World.frozen?, hg]
      simp only [Bool.and_eq_false_iff, decide_eq_false_iff_not]
      rcases hf with hf | hf <;> omega

theorem OwnB.store {w : World} {base g n cap : Nat} {bs : List Int} (h : OwnB w base (.slice (some ⟨g, 0, none⟩) n cap) bs) (i x : Int) :
    OwnB (w.setCell ⟨g, i.toNat, none⟩ (.int .u8 x)) base (.slice (some ⟨g, 0, none⟩) n cap) (bs.set i.toNat x) := by
  rcases h with ⟨h', _⟩ | ⟨g', cap', cur, fr, h', hb, hg, hn, hm, hs, hf, ht⟩
  · cases h'
  · simp only [Value.slice.injEq, Option.some.injEq, Addr.mk.injEq, and_true, true_and] at h'
    obtain ⟨rfl, rfl, rfl⟩ := h'
    refine .inr ⟨g, cap, cur.setIfInBounds i.toNat (.int .u8 x), fr, by simp, hb, ?_, by simpa using hn, hm, by simpa using hs, hf, ?_⟩
    · simp only [World.setCell, Array.getElem?_modify, hg]
      simp
    · rw [List.length_set, Array.toList_setIfInBounds, List.take_set, ht]
      simp [nums, List.map_set]

/-- The string of it. -/
theorem OwnB.str {w : World} {base : Nat} {v : Value} {bs : List Int} (h : OwnB w base v bs) : (convert 63 9 v).run Try.prog w = .ok (.string (strOfNums bs)) w := by
  rcases h with ⟨rfl, rfl⟩ | ⟨g, cap, cur, fr, rfl, hb, hg, r⟩
  · exact run_convert_bytes_nil w 63 5 Try.underlying63 Try.underlying5 0 0 9 Try.underlying9
  · have hh : OwnB w base (.slice (some ⟨g, 0, none⟩) bs.length cap) bs := .inr ⟨g, cap, cur, fr, rfl, hb, hg, r⟩
    refine run_convert_bytes_arg w 63 5 Try.underlying63 Try.underlying5 g 0 bs.length cap bs rfl (fun i hi => ?_) 9 Try.underlying9
    have := (hh.at_ (i : Int) (by omega) (by omega)).1
    simpa [rd] using this

/-- '[]byte(s)'. -/
def bytesI (s : ByteArray) : List Int := s.data.toList.map fun b => (b.toNat : Int)
theorem bytesI_length (s : ByteArray) : (bytesI s).length = s.size := by simp [bytesI]
theorem own_bytes (w : World) (s : ByteArray) (base : Nat) (hb : base ≤ w.heap.size) (hs : s.size ≤ 1073741824) :
    OwnB (Lib.bytesWorld w 5 s) base (.slice (some ⟨w.heap.size, 0, none⟩) s.size (grownCap w s.size 0 5)) (bytesI s) := by
  have hge := grownCap_ge w s.size 0 5
  have hle : grownCap w s.size 0 5 ≤ maxLen := grownCap_le_maxLen w s.size 0 5 (by unfold maxLen; omega)
  have hcs : (Lib.bytesCells w 5 s).size = grownCap w s.size 0 5 := by
    have hss : s.data.size = s.size := rfl
    simp only [Lib.bytesCells, Array.size_append, Array.size_map, Array.size_replicate, hss]
    omega
  refine .inr ⟨w.heap.size, _, Lib.bytesCells w 5 s, _, by rw [bytesI_length], hb, Lib.bytesWorld_at_new w 5 s, by rw [bytesI_length]; exact hge, hle, hcs, .inr (by rw [hcs]; exact Nat.le_refl _), ?_⟩
  simp [Lib.bytesCells, bytesI, nums, List.map_map, Function.comp_def]
theorem below_bytes {B : Nat} {w0 w : World} (h : Below B w0 w) (hB : B ≤ w.heap.size) (s : ByteArray) : Below B w0 (Lib.bytesWorld w 5 s) := by
  refine h.trans ⟨?_, ?_, ?_, ?_, fun k hk => Lib.bytesWorld_at_old w 5 s k (by omega)⟩
  · simp [Lib.bytesWorld, World.freeze, World.alloc, World.drew, -World.alloc_eq, -World.drew_eq]
  · simp [Lib.bytesWorld, World.freeze, World.alloc, World.drew, -World.alloc_eq, -World.drew_eq]
  · simp [Lib.bytesWorld, World.freeze, World.alloc, World.drew, -World.alloc_eq, -World.drew_eq]
  · rw [Lib.bytesWorld_size]; omega

/-- append of one byte. -/
theorem run_append_b (w : World) (ty : TypeId) (base : Nat) (v : Value) (bs : List Int) (h : OwnB w base v bs) (a : Addr) (x : Int) (c : Nat) (hx : w.cell? a = some (.int .u8 x)) (h63 : bs.length + 1 ≤ 1099511627776) (hbase : base ≤ w.heap.size) :
    ∃ v' w', (Builtin.append_ #[63, 63] ty #[v, .slice (some a) 1 c]).run Try.prog w = .ok v' w' ∧ OwnB w' base v' (bs ++ [x]) ∧ w.grownBy w' v.ownBlock := by
  obtain ⟨i, hi, hzz⟩ := Option.map_eq_some_iff.1 info5
  simp only [Prod.mk.injEq] at hzz
  obtain ⟨hz, hsz, hby⟩ := hzz
  have hnews : ∀ j u, [Value.int .u8 x][j]? = some u → w.cell? (a.add j) = some u := by
    intro j u hu
    match j, hu with
    | 0, hu =>
      obtain rfl : Value.int .u8 x = u := by simpa using hu
      have : a.add 0 = a := by unfold Addr.add; split <;> simp_all
      rw [this]; exact hx
  rcases h with ⟨rfl, rfl⟩ | ⟨g, cap, cur, fr, rfl, hbb, hg, hn, hm, hs, hf, ht⟩
  · obtain ⟨v', w', h1, h2, h3, _⟩ := run_append_own (P := Try.prog) w base 63 ty 5 i (.int .u8 0) 1 1 Try.underlying63 hi hz hsz hby rfl (by decide) (.slice none 0 0) 0 [] (World.ownsRow_nil w base 5 1) a 1 c [.int .u8 x] rfl hnews (by simp [Value.oneCell']) (by unfold maxLen; omega) (by omega) hbase
    exact ⟨v', w', h1, OwnB.of_own (by simpa [nums] using h2), h3⟩
  · by_cases hroom : bs.length + 1 ≤ cap
    · have hcell : w.cell? ⟨g, bs.length, none⟩ = some (cur[bs.length]'(by omega)) := by
        rw [cell_of_row w g bs.length cur 5 fr hg]
        exact Array.getElem?_eq_getElem (by omega)
      have hfro : w.frozen? ⟨g, bs.length, none⟩ = false := by
        simp only [World.frozen?, hg, Bool.and_eq_false_iff, decide_eq_false_iff_not]
        rcases hf with hf | hf <;> omega
      have hst : (store ⟨g, bs.length, none⟩ (.int .u8 x)).run Try.prog w = .ok () (w.setCell ⟨g, bs.length, none⟩ (.int .u8 x)) := by
        rw [run_store Try.prog w _ _ _ (by simp [Value.oneCell']), hcell]
        simp [hfro]
      have hfc := run_firstCells_some (P := Try.prog) w i.size 1 a 1 c [.int .u8 x] (by simp [hsz]) hnews
      rw [hsz] at hfc
      refine ⟨.slice (some ⟨g, 0, none⟩) (bs.length + 1) cap, w.setCell ⟨g, bs.length, none⟩ (.int .u8 x), ?_, ?_, ?_⟩
      · have hsc : (storeCells ⟨g, bs.length, none⟩ [.int .u8 x] 0).run Try.prog w = .ok () (w.setCell ⟨g, bs.length, none⟩ (.int .u8 x)) := by
          have hadd : (⟨g, bs.length, none⟩ : Addr).add 0 = ⟨g, bs.length, none⟩ := by unfold Addr.add; split <;> simp_all
          simp only [storeCells, hadd, Sem.run_bind, hst, Result.andThen_ok]
          rfl
        simp [Builtin.append_, run_underlying Try.underlying63, sizeOf, typeInfo, hi, Builtin.lenOf, hroom, hfc, Addr.add_lit, hsz, hsc]
      · refine .inr ⟨g, cap, cur.setIfInBounds bs.length (.int .u8 x), fr, by simp, hbb, ?_, by simpa using hroom, hm, by simpa using hs, hf, ?_⟩
        · simp only [World.setCell, Array.getElem?_modify, hg]
          simp
        · rw [Array.toList_setIfInBounds, List.length_append, List.length_singleton, List.take_succ_eq_append_getElem (by simp; omega)]
          simp only [List.getElem_set_self]
          rw [List.take_set_of_le (Nat.le_refl _), ht]
          simp [nums]
      · refine ⟨rfl, rfl, rfl, by simp [World.setCell], fun k _ hk => Below.heap_setCell w _ _ k (fun e => hk (by simp [Value.ownBlock, e]))⟩
    · have hh : OwnB w base (.slice (some ⟨g, 0, none⟩) bs.length cap) bs := .inr ⟨g, cap, cur, fr, rfl, hbb, hg, hn, hm, hs, hf, ht⟩
      have holds : ∀ j u, (nums .u8 bs)[j]? = some u → w.cell? ((⟨g, 0, none⟩ : Addr).add j) = some u := by
        intro j u hu
        have hj : j < bs.length := by have := (List.getElem?_eq_some_iff.1 hu).1; simpa [nums] using this
        have := (hh.at_ (j : Int) (by omega) (by omega)).1
        rw [add_plain]
        have h2 : (nums .u8 bs)[j]? = some (.int .u8 (rd bs j)) := by simp [nums, rd, List.getElem?_eq_getElem hj, List.getD_eq_getElem?_getD]
        rw [h2] at hu
        rw [← hu]
        simpa using this
      have hr := run_append_grow (P := Try.prog) w 63 ty 5 i (.int .u8 0) Try.underlying63 hi hz ⟨g, 0, none⟩ bs.length cap (nums .u8 bs) (by simp [nums, hsz]) holds a 1 c [.int .u8 x] (by simp [hsz]) hnews (by omega) (by omega) (growslice_fits (by omega) (by rw [hby]; omega))
      refine ⟨_, _, hr, ?_, ⟨rfl, rfl, rfl, by simp, fun k hk _ => Below.heap_alloc w.drew _ k hk⟩⟩
      have hge := grownCap_ge w (bs.length + 1) cap 5
      have hcm : grownCap w (bs.length + 1) cap 5 ≤ maxLen := grownCap_le_maxLen w (bs.length + 1) cap 5 (by unfold maxLen; omega)
      refine .inr ⟨w.heap.size, _, _, (0, 0), by simp, hbase, heap_alloc_new w.drew _, by simpa using hge, hcm, ?_, .inl rfl, ?_⟩
      · simp only [Array.size_append, List.size_toArray, size_zeroCells, nums, List.length_map, List.length_singleton]
        simp [Value.cells]
        omega
      · simp only [Array.toList_append, List.length_append, List.length_singleton]
        have h1 : (nums .u8 bs ++ [Value.int .u8 x]) = nums .u8 (bs ++ [x]) := by simp [nums]
        rw [show (nums IntKind.u8 bs).toArray.toList ++ [Value.int .u8 x].toArray.toList = nums .u8 (bs ++ [x]) from h1]
        exact List.take_left' (by simp [nums])

theorem wpList_append_b {ops : Array Oper} {rest : List Oper} {o : Oper} {act : Act} {Q : Exit → Act → World → Prop} (w : World) (hgd : o.guard = none) (s x : Operand)
    (ho : o.op = .call { callee := .builtin .append, args := #[s, x], argTypes := #[63, 63] })
    (base : Nat) (v : Value) (bs : List Int) (hs : act.eval s = v) (hown : OwnB w base v bs) (ad : Addr) (c : Nat) (y : Int) (hx : act.eval x = .slice (some ad) 1 c) (hc : w.cell? ad = some (.int .u8 y))
    (h63 : bs.length + 1 ≤ 1099511627776) (hbase : base ≤ w.heap.size)
    (h : ∀ v' w', OwnB w' base v' (bs ++ [y]) → w.grownBy w' v.ownBlock → wpList Try.prog ops Q rest (act.put o.dst v') w') : wpList Try.prog ops Q (o :: rest) act w := by
  refine wpList_plain hgd fun K hK => ?_
  obtain ⟨v', w', hr, h2, h3⟩ := run_append_b w o.type base v bs hown ad y c hc h63 hbase
  unfold Oper.wp execOp
  simp only [ho, resolve, invoke, builtin, Sem.run_bind, Sem.run_pure, Result.andThen_ok, List.map_toArray, List.map_cons, List.map_nil, hs, hx, hr]
  exact hK _ _ (h v' w' h2 h3)
end Go.Proofs.Ytnpghcikhpglkaa.Hand
