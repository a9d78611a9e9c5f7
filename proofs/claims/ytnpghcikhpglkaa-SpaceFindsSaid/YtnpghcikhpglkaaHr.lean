/- What the row of bits does when a number is put behind: its walk. -/
import Derived.Test.YtnpghcikhpglkaaHw
import Derived.BigRegion
import Derived.Lib.Hide
namespace Go.Proofs.Ytnpghcikhpglkaa.Hand
open Go.RowKit Go.Proofs.YtnpghcikhpglkaaW.PrintWords Go.Proofs.YtnpghcikhpglkaaW.PrintLast Go.Proofs.YtnpghcikhpglkaaW.PrintMore Go.Proofs.Ytnpghcikhpglkaa.Q
set_option linter.unusedVariables false
set_option linter.unusedSimpArgs false

/-- A row behind the pointer p: its bytes, its count. -/
def RowIs (W : World) (base p : Nat) (bs : List Int) (n : Int) : Prop :=
  ∃ sv, W.heap[p]? = some (.cells #[sv, .int .i64 n] 116 (0, 0)) ∧ OwnB W base sv bs ∧ base ≤ p

/-- One bit of a number, at its place in a byte, as the walk has it. -/
def bitAt (v : Int) (k : Nat) (m : Int) : Int := bits BinOp.and IntKind.i64 (v / 2 ^ min k 64) 1 % 256 * 2 ^ m.toNat % 256
def rowByte (x v : Int) (k : Nat) (m : Int) : Int := bits BinOp.or IntKind.u8 x (bitAt v k m)
/-- A bit put behind. -/
def rowBit (s : List Int × Int) (v : Int) (k : Nat) : List Int × Int :=
  let bs := if s.2 % 8 = 0 then s.1 ++ [0] else s.1
  (bs.set (s.2 / 8).toNat (rowByte (rd bs (s.2 / 8)) v k (7 - s.2 % 8)), s.2 + 1)
/-- So many bits put behind, the highest first. -/
def rowPut : Nat → List Int × Int → Int → List Int × Int
  | 0, s, _ => s
  | k + 1, s, v => rowPut k (rowBit s v k) v

theorem rowBit_snd (s : List Int × Int) (v : Int) (k : Nat) : (rowBit s v k).2 = s.2 + 1 := rfl
theorem rowBit_len (s : List Int × Int) (v : Int) (k : Nat) (h0 : 0 ≤ s.2) (hl : (s.1.length : Int) = (s.2 + 7) / 8) : ((rowBit s v k).1.length : Int) = ((rowBit s v k).2 + 7) / 8 := by
  unfold rowBit
  by_cases h : s.2 % 8 = 0
  · simp [h]
    omega
  · simp [h]
    omega

theorem below_drew0 {B : Nat} {w W : World} (h : Below B w W) : Below B w W.drew := ⟨h.os, h.tape, h.output, h.size, h.block⟩

/-- What a round leaves. -/
theorem row_leaves {w0 w : World} {base p g cap : Nat} {bs : List Int} {n x : Int} (hb : Below base w0 w) (hblk : w.heap[p]? = some (.cells #[.slice (some ⟨g, 0, none⟩) bs.length cap, .int .i64 n] 116 (0, 0)))
    (hown : OwnB w base (.slice (some ⟨g, 0, none⟩) bs.length cap) bs) (hp : base ≤ p) (i : Int) :
    RowIs ((w.setCell ⟨g, i.toNat, none⟩ (.int .u8 x)).setCell ⟨p, 1, none⟩ (.int .i64 (n + 1))).drew base p (bs.set i.toNat x) (n + 1) ∧
    Below base w0 ((w.setCell ⟨g, i.toNat, none⟩ (.int .u8 x)).setCell ⟨p, 1, none⟩ (.int .i64 (n + 1))).drew := by
  have hne : some p ≠ (Value.slice (some ⟨g, 0, none⟩) bs.length cap).ownBlock := hown.ne hblk (by decide)
  have hgp : p ≠ g := fun h => hne (by simp [Value.ownBlock, h])
  have hg : base ≤ g := (hown.base_le g (by simp [Value.ownBlock])).1
  have h1 := hown.store i x
  have h3 := h1.setFar (p := ⟨p, 1, none⟩) hne (.int .i64 (n + 1))
  have h4 := blk_set (blk_far hblk (p := ⟨g, i.toNat, none⟩) hgp (.int .u8 x)) 1 (.int .i64 (n + 1))
  refine ⟨⟨.slice (some ⟨g, 0, none⟩) bs.length cap, ?_, ?_, hp⟩, ?_⟩
  · exact h4
  · exact h3
  · exact below_drew0 ((hb.setCell (p := ⟨g, i.toNat, none⟩) hg _).setCell (p := ⟨p, 1, none⟩) hp _)

set_option maxHeartbeats 2000000 in
set_option maxRecDepth 100000 in
theorem row_put (W : World) (base p : Nat) (bs : List Int) (n v : Int) (w : Nat) (hrow : RowIs W base p bs n) (hn : 0 ≤ n) (hlen : (bs.length : Int) = (n + 7) / 8) (hbd : n + w ≤ 1073741824) (hbase : base ≤ W.heap.size) :
    Calls Try.prog 89 #[.pointer (some ⟨p, 0, none⟩), .int .i64 v, .int .i64 w] W fun e w' => e = .returned (.tuple #[]) ∧ RowIs w' base p (rowPut w (bs, n) v).1 (rowPut w (bs, n) v).2 ∧ Below base W w' := by
  have hw : w ≤ 1073741824 := by omega
  have hw0 : (w : Int) ≤ 1073741824 := by omega
  go_enter Try.func89, Try.ntmps89
  go_wp2
  go_loopw [6] (fun i wr => ∃ (k : Nat) (s : List Int × Int), k ≤ w ∧ i = .int .i64 ((k : Int) - 1) ∧ rowPut k s v = rowPut w (bs, n) v ∧ RowIs wr base p s.1 s.2 ∧ 0 ≤ s.2 ∧ s.2 + k ≤ 1073741824 ∧ (s.1.length : Int) = (s.2 + 7) / 8 ∧ Below base W wr)
    (fun i wr => (intOf i + 1).toNat)
  case atStart => exact ⟨w, (bs, n), by omega, by go_num, rfl, hrow, hn, hbd, hlen, Below.refl _ _⟩
  case round =>
    obtain ⟨k, ⟨bs1, n1⟩, hk, rfl, hput, ⟨sv, hblk, hown, hp⟩, hn1, hk1, hlen1, hbel⟩ := hrel
    simp only at hblk hown hn1 hk1 hlen1
    replace hput := Lib.hid hput
    clear hrow
    by_cases h0 : 1 ≤ (k : Int)
    · obtain ⟨k, rfl⟩ : ∃ m, k = m + 1 := ⟨k - 1, by omega⟩
      have hx1 : 0 ≤ n1 / 8 := by omega
      have hx3 : 0 ≤ n1 % 8 := by omega
      have hx4 : n1 % 8 < 8 := by omega
      by_cases hm : n1 % 8 = 0
      · have hmb : (n1 % 8 == 0) = true := by simp [hm]
        have c0 : wr.cell? ⟨p, 0, none⟩ = some sv := blk_cell hblk 0
        have c1 : wr.cell? ⟨p, 1, none⟩ = some (.int .i64 n1) := blk_cell hblk 1
        have f0 := blk_frozen hblk 0
        have f1 := blk_frozen hblk 1
        have hbs : base ≤ wr.heap.size := Nat.le_trans hbase hbel.size
        have HE := Lib.hid (show rowBit (bs1, n1) v k = ((bs1 ++ [0]).set (n1 / 8).toNat (rowByte (rd (bs1 ++ [0]) (n1 / 8)) v k (7 - n1 % 8)), n1 + 1) by simp [rowBit, hm])
        have HOWN := Lib.hid (hown.alloc (.cells #[.int .u8 0] 5))
        have HBLK := Lib.hid (show (wr.alloc (.cells #[.int .u8 0] 5)).heap[p]? = _ from (Below.heap_alloc wr _ p (blk_lt hblk)).trans hblk)
        have HNE := Lib.hid (hown.ne hblk (by decide))
        have HBEL := Lib.hid (hbel.alloc hbs (.cells #[.int .u8 0] 5))
        have HLEN := Lib.hid hlen1
        clear hown hblk hbel hlen1 hm
        go_wp2_with (at_builtin; refine wpList_append_b _ rfl _ _ rfl base sv bs1 rfl HOWN.out ⟨wr.heap.size, 0, none⟩ 1 0 rfl (cell_of_row _ _ 0 _ 5 (0, 0) (heap_alloc_new wr _)) ?c2 ?c1 ?next)
        case c1 => simp; omega
        case c2 => have := HLEN.out; omega
        case next =>
        intro v1 w1 hown1 hgrow
        have hbel1 : Below base W w1 := HBEL.out.grown hgrow (by simp; omega) (fun k hk => (HOWN.out.base_le k hk).1)
        clear c0 c1 f0 f1
        obtain ⟨bs2, HB2⟩ : ∃ b, b = bs1 ++ [0] := ⟨_, rfl⟩
        replace hown1 : OwnB w1 base v1 bs2 := by rw [HB2]; exact hown1
        rw [← HB2] at HE
        have HL1 : (bs2.length : Int) = (n1 + 7) / 8 + 1 := by have := HLEN.out; rw [HB2]; simp; omega
        replace HB2 := Lib.hid HB2
        have hpos : 0 < bs2.length := by omega
        obtain ⟨g, cap, rfl⟩ := hown1.form hpos
        have hblk1 := blk_grown HBLK.out hgrow HNE.out
        have hx2 : n1 / 8 < (bs2.length : Int) := by omega
        have hgp : g ≠ p := fun h => hown1.ne hblk1 (by decide) (by simp [Value.ownBlock, h])
        have hgp2 : p ≠ g := fun h => hgp h.symm
        have hnep : some p ≠ (Value.slice (some ⟨g, 0, none⟩) bs2.length cap).ownBlock := hown1.ne hblk1 (by decide)
        have hown2 := hown1.setFar (p := ⟨p, 0, none⟩) hnep (.slice (some ⟨g, 0, none⟩) bs2.length cap)
        have hblk2 : (w1.setCell ⟨p, 0, none⟩ (.slice (some ⟨g, 0, none⟩) bs2.length cap)).heap[p]? = some (.cells #[.slice (some ⟨g, 0, none⟩) bs2.length cap, .int .i64 n1] 116 (0, 0)) := blk_set hblk1 0 _
        have hbel2 := hbel1.setCell (p := ⟨p, 0, none⟩) hp (.slice (some ⟨g, 0, none⟩) bs2.length cap)
        have HL := Lib.hid (row_leaves (x := rowByte (rd bs2 (n1 / 8)) v k (7 - n1 % 8)) hbel2 hblk2 hown2 hp (n1 / 8))
        obtain ⟨cg, fg⟩ := hown2.at_ (n1 / 8) hx1 hx2
        have c0 : w1.cell? ⟨p, 0, none⟩ = some sv := blk_cell hblk1 0
        have f0 := blk_frozen hblk1 0
        have c1 : w1.cell? ⟨p, 1, none⟩ = some (.int .i64 n1) := blk_cell hblk1 1
        have f1 := blk_frozen hblk1 1
        obtain ⟨cg', fg'⟩ := hown1.at_ (n1 / 8) hx1 hx2
        have c0' : _ = some (Value.slice (some ⟨g, 0, none⟩) bs2.length cap) := blk_cell hblk2 0
        have c1' : _ = some (Value.int .i64 n1) := blk_cell hblk2 1
        have f0' := blk_frozen hblk2 0
        have f1' := blk_frozen hblk2 1
        replace hblk1 := Lib.hid hblk1
        replace hblk2 := Lib.hid hblk2
        replace hown1 := Lib.hid hown1
        replace hown2 := Lib.hid hown2
        clear hbel1 hbel2
        replace HL1 := Lib.hid HL1
        go_wp2
        go_region
        all_goals go_wp2
        all_goals go_roundw
        case rel => exact ⟨k, rowBit (bs1, n1) v k, by omega, by first | rfl | go_num, hput.out, by rw [HE.out]; exact HL.out.1, by simp [rowBit]; omega, by simp [rowBit]; omega, rowBit_len (bs1, n1) v k hn1 HLEN.out, HL.out.2⟩
        case measure => simp [intOf]
      · have hpos : 0 < bs1.length := by omega
        obtain ⟨g, cap, rfl⟩ := hown.form hpos
        have hx2 : n1 / 8 < (bs1.length : Int) := by omega
        obtain ⟨cg, fg⟩ := hown.at_ (n1 / 8) hx1 hx2
        have c0 : wr.cell? ⟨p, 0, none⟩ = some (.slice (some ⟨g, 0, none⟩) bs1.length cap) := blk_cell hblk 0
        have c1 : wr.cell? ⟨p, 1, none⟩ = some (.int .i64 n1) := blk_cell hblk 1
        have f0 := blk_frozen hblk 0
        have f1 := blk_frozen hblk 1
        have hgp : g ≠ p := fun h => hown.ne hblk (by decide) (by simp [Value.ownBlock, h])
        have HE := Lib.hid (show rowBit (bs1, n1) v k = (bs1.set (n1 / 8).toNat (rowByte (rd bs1 (n1 / 8)) v k (7 - n1 % 8)), n1 + 1) by simp [rowBit, hm])
        have HL := Lib.hid (row_leaves (x := rowByte (rd bs1 (n1 / 8)) v k (7 - n1 % 8)) hbel hblk hown hp (n1 / 8))
        replace hblk := Lib.hid hblk
        replace hown := Lib.hid hown
        replace hlen1 := Lib.hid hlen1
        clear hbel
        go_wp2
        go_region
        all_goals go_wp2
        all_goals go_roundw
        case rel => exact ⟨k, rowBit (bs1, n1) v k, by omega, by first | rfl | go_num, hput.out, by rw [HE.out]; exact HL.out.1, by simp [rowBit]; omega, by simp [rowBit]; omega, rowBit_len (bs1, n1) v k hn1 hlen1.out, HL.out.2⟩
        case measure => simp [intOf]
    · go_wp2
      have hk0 : k = 0 := by omega
      subst hk0
      go_end0
      have h1 : (bs1, n1) = rowPut w (bs, n) v := hput.out
      exact ⟨rfl, by rw [← h1]; exact ⟨sv, hblk, hown, hp⟩, hbel⟩
end Go.Proofs.Ytnpghcikhpglkaa.Hand
