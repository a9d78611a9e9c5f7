/- bits.Part: what it answers, by the row's walk. -/
import Derived.Test.YtnpghcikhpglkaaHa
namespace Go.Proofs.Ytnpghcikhpglkaa.Q
open Go.RowKit Go.Proofs.YtnpghcikhpglkaaW.PrintWords Go.Proofs.YtnpghcikhpglkaaW.PrintLast Go.Proofs.YtnpghcikhpglkaaW.PrintMore Go.Proofs.Ytnpghcikhpglkaa.Hand Go.Proofs.Ytnpghcikhpglkaa.Pu
set_option linter.unusedVariables false
set_option linter.unusedSimpArgs false

/-- Bits of a text, one by one behind a row. -/
def rowSeq (s : ByteArray) : Nat → Int → List Int × Int → List Int × Int
  | 0, _, st => st
  | k + 1, i, st => rowSeq s k (i + 1) (rowPut 1 st (bitOf s i))
theorem row_put1 (W : World) (base p : Nat) (bs : List Int) (n v : Int) (hrow : RowIs W base p bs n) (hn : 0 ≤ n) (hlen : (bs.length : Int) = (n + 7) / 8) (hbd : n + 1 ≤ 1073741824) (hbase : base ≤ W.heap.size) :
    Calls Try.prog 89 #[.pointer (some ⟨p, 0, none⟩), .int .i64 v, .int .i64 1] W fun e w' => e = .returned (.tuple #[]) ∧ RowIs w' base p (rowPut 1 (bs, n) v).1 (rowPut 1 (bs, n) v).2 ∧ Below base W w' :=
  row_put W base p bs n v 1 hrow hn hlen hbd hbase
theorem rowPut1_len (st : List Int × Int) (v : Int) (h0 : 0 ≤ st.2) (hl : (st.1.length : Int) = (st.2 + 7) / 8) : ((rowPut 1 st v).1.length : Int) = ((rowPut 1 st v).2 + 7) / 8 :=
  rowBit_len st v 0 h0 hl
theorem start3 (w : World) (o1 o2 o3 : Obj) : (((w.alloc o1).alloc o2).alloc o3).heap[w.heap.size]? = some o1 ∧ (((w.alloc o1).alloc o2).alloc o3).heap[w.heap.size + 1]? = some o2 ∧ (((w.alloc o1).alloc o2).alloc o3).heap[w.heap.size + 2]? = some o3 ∧
    Below w.heap.size w (((w.alloc o1).alloc o2).alloc o3) ∧ (((w.alloc o1).alloc o2).alloc o3).heap.size = w.heap.size + 3 := by
  obtain ⟨h1, h2, h3, h4⟩ := start2 w o1 o2
  have hs : ((w.alloc o1).alloc o2).heap.size = w.heap.size + 2 := by simp
  refine ⟨(Below.heap_alloc _ _ _ (by omega)).trans h1, (Below.heap_alloc _ _ _ (by omega)).trans h2, ?_, h3.alloc (by omega) o3, by simp⟩
  have := heap_alloc_new ((w.alloc o1).alloc o2) o3
  rw [hs] at this
  exact this

set_option maxHeartbeats 4000000 in
set_option maxRecDepth 100000 in
theorem part_walk (s : ByteArray) (n a b : Int) (w : World) (ha : 0 ≤ a) (hb : b ≤ 8 * s.size) (hb2 : b ≤ 1073741824) :
    Calls Try.prog 99 #[.agg #[.string s, .int .i64 n], .int .i64 a, .int .i64 b] w fun e w' => e = .returned (.agg #[.string (strOfNums (rowSeq s (b - a).toNat a ([], 0)).1), .int .i64 (rowSeq s (b - a).toNat a ([], 0)).2]) ∧ Below w.heap.size w w' := by
  have hu := Try.underlying27
  have hu2 := Try.underlying116
  have HS := Aside0.mk (start3 w (.cells #[.string s, .int .i64 n] 27) (.cells #[.string ⟨#[]⟩, .int .i64 0] 27) (.cells #[.slice none 0 0, .int .i64 0] 116))
  go_enter Try.func99, Try.ntmps99
  go_wp2
  go_loopw [8] (fun i wr => ∃ (c : Nat) (st : List Int × Int), i = .int .i64 (a + c) ∧ Aside0 (rowSeq s ((b - a).toNat - c) (a + c) st = rowSeq s (b - a).toNat a ([], 0)) ∧ Aside0 (RowIs wr (w.heap.size + 2) (w.heap.size + 2) st.1 st.2) ∧ Aside0 (st.2 = c) ∧ Aside0 ((st.1.length : Int) = (st.2 + 7) / 8) ∧ c ≤ (b - a).toNat ∧ Aside0 (wr.heap[w.heap.size]? = some (.cells #[.string s, .int .i64 n] 27 (0, 0))) ∧ Aside0 (wr.heap[w.heap.size + 1]? = some (.cells #[.string ⟨#[]⟩, .int .i64 0] 27 (0, 0))) ∧ Aside0 (Below w.heap.size w wr))
    (fun i wr => (b - intOf i).toNat)
  case atStart => exact ⟨0, ([], 0), by go_num, ⟨by simp⟩, ⟨⟨_, HS.out.2.2.1, OwnB.nil _ _, Nat.le_refl _⟩⟩, ⟨rfl⟩, ⟨rfl⟩, Nat.zero_le _, ⟨HS.out.1⟩, ⟨HS.out.2.1⟩, ⟨HS.out.2.2.2.1⟩⟩
  case round =>
    obtain ⟨c, ⟨bs, m⟩, rfl, HSEQ, HROW, HM, HLEN, hc, HA, HR, HB⟩ := hrel
    have hm : Aside0 (m = c) := HM
    obtain ⟨a0, a1, g0, g1⟩ := two_cells HA.out
    obtain ⟨c0, c1, f0, f1⟩ := two_cells HR.out
    by_cases hlt : a + c < b
    · have HBIT := Aside0.mk (bit_some s n (a + c) (by omega) (by omega) (by omega))
      have hc2 : (c : Int) < 1073741824 := by omega
      go_wp2_with (first | (go_at_call 100; ((with_reducible refine (bits_bit.calls s n (a + c) (bitOf s (a + c)) _ HBIT.out).mono ?_); rintro e w2 ⟨rfl, hb3⟩); have HROW2 := Aside0.mk (HROW.out.below hb3); have HBB := Aside0.mk hb3; clear hb3) | (go_at_call 89; ((with_reducible refine (row_put1 _ (w.heap.size + 2) (w.heap.size + 2) bs m (bitOf s (a + c)) HROW2.out ?e1 ?e2 ?e3 ?e4).mono ?_); (case e1 => rw [hm.out]; omega); (case e2 => exact HLEN.out); (case e3 => rw [hm.out]; omega); (case e4 => exact Nat.le_trans (by have := blk_lt HR.out; omega) HBB.out.size); rintro e w3 ⟨rfl, hrow3, hb3⟩); have HROW3 := Aside0.mk hrow3; have HB3 := Aside0.mk hb3; clear hrow3 hb3))
      go_roundw
      case rel =>
        refine ⟨c + 1, rowPut 1 (bs, m) (bitOf s (a + c)), by go_num, ⟨?_⟩, ⟨HROW3.out⟩, ⟨?_⟩, ⟨rowPut1_len (bs, m) _ (by rw [hm.out]; omega) HLEN.out⟩, by omega, ⟨keep2 (keep2 HA.out HBB.out (blk_lt HA.out)) HB3.out (by omega)⟩, ⟨keep2 (keep2 HR.out HBB.out (blk_lt HR.out)) HB3.out (by omega)⟩, ⟨(HB.out.trans (HBB.out.mono HB.out.size)).trans (HB3.out.mono (by omega))⟩⟩
        · rw [← HSEQ.out, show (b - a).toNat - c = ((b - a).toNat - (c + 1)) + 1 by omega, rowSeq, show a + ((c + 1 : Nat) : Int) = a + c + 1 by omega]
        · rw [rowPut_snd, hm.out]; rfl
      case measure => simp [intOf]; omega
    · have hcc : c = (b - a).toNat := by omega
      have HE : Aside0 ((bs, m) = rowSeq s (b - a).toNat a ([], 0)) := ⟨by
        have := HSEQ.out
        rw [hcc, Nat.sub_self, rowSeq] at this
        exact this⟩
      clear hcc
      obtain ⟨sv, hblk, hown, hp⟩ := HROW.out
      obtain ⟨b0, b1, k0, k1⟩ := two_cells hblk
      have hst := hown.drew.str
      clear hblk hown hp
      go_wp2
      go_region
      go_wp2
      refine bodyPost_ret (results_cell_row rfl _ _ (w.heap.size + 1) 27 #[.string (strOfNums bs), .int .i64 m] (0, 0) _ rfl (put2 HR.out) Try.underlying27 rfl (by kernel_rfl)) rfl ⟨by rw [← HE.out], below_drew0 (below_put2 HB.out (by omega) _ _)⟩

/-- So many bits of a text from a place on. -/
def partK (s : ByteArray) : Nat → Int → List Int
  | 0, _ => []
  | k + 1, i => bitOf s i :: partK s k (i + 1)
theorem partK_length (s : ByteArray) (k : Nat) : ∀ i, (partK s k i).length = k := by
  induction k with
  | zero => intro i; rfl
  | succ k ih => intro i; simp [partK, ih]
theorem partK_bits (s : ByteArray) (k : Nat) : ∀ i, IsBits (partK s k i) := by
  induction k with
  | zero => intro i; exact IsBits.nil
  | succ k ih =>
    intro i x hx
    rcases List.mem_cons.1 hx with rfl | hx
    · exact bitOf_bit s i
    · exact ih _ x hx
theorem putL_one (b : Int) (h : b = 0 ∨ b = 1) : putL 1 b = [b] := by rcases h with rfl | rfl <;> rfl
theorem rowSeq_pack (s : ByteArray) (k : Nat) : ∀ (i : Int) (l : List Int), IsBits l → rowSeq s k i (packL l, (l.length : Int)) = (packL (l ++ partK s k i), ((l ++ partK s k i).length : Int)) := by
  induction k with
  | zero => intro i l _; simp [rowSeq, partK]
  | succ k ih =>
    intro i l hl
    have hb := bitOf_bit s i
    rw [rowSeq, rowPut_pack 1 _ (by omega) (by omega) l hl, putL_one _ hb, ih (i + 1) _ (hl.append (fun x hx => by rw [List.mem_singleton.1 hx]; exact hb))]
    simp [partK]

/-- bits.Part. -/
def bits_Part.f (s : ByteArray) (n a b : Int) : Option (ByteArray × Int) :=
  if 0 ≤ a ∧ b ≤ 8 * s.size ∧ b ≤ 1073741824 then some (packS (partK s (b - a).toNat a), ((b - a).toNat : Int)) else none
theorem bits_Part.calls (a0_0 : ByteArray) (a0_1 a1 a2 : Int) (r1 : ByteArray) (r2 : Int) (w : World) (h : bits_Part.f a0_0 a0_1 a1 a2 = some (r1, r2)) :
    Calls Try.prog 99 #[.agg #[.string a0_0, .int .i64 a0_1], .int .i64 a1, .int .i64 a2] w fun e w' => e = .returned (.agg #[.string r1, .int .i64 r2]) ∧ Below w.heap.size w w' := by
  unfold bits_Part.f at h
  by_cases hc : 0 ≤ a1 ∧ a2 ≤ 8 * a0_0.size ∧ a2 ≤ 1073741824
  · rw [if_pos hc] at h
    simp only [Option.some.injEq, Prod.mk.injEq] at h
    obtain ⟨rfl, rfl⟩ := h
    have e := part_walk a0_0 a0_1 a1 a2 w hc.1 hc.2.1 hc.2.2
    have hp := rowSeq_pack a0_0 (a2 - a1).toNat a1 [] IsBits.nil
    have h0 : packL [] = [] := rfl
    rw [h0] at hp
    simp only [List.length_nil, List.nil_append, partK_length] at hp
    have hp' : rowSeq a0_0 (a2 - a1).toNat a1 ([], 0) = (packL (partK a0_0 (a2 - a1).toNat a1), (((a2 - a1).toNat : Nat) : Int)) := hp
    rw [hp'] at e
    exact e
  · rw [if_neg hc] at h
    cases h
end Go.Proofs.Ytnpghcikhpglkaa.Q
