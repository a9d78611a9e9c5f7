/- The row of bits: how it begins, what it tells. -/
import Derived.Test.YtnpghcikhpglkaaHr
namespace Go.Proofs.Ytnpghcikhpglkaa.Hand
open Go.RowKit Go.Proofs.YtnpghcikhpglkaaW.PrintWords Go.Proofs.YtnpghcikhpglkaaW.PrintLast Go.Proofs.YtnpghcikhpglkaaW.PrintMore Go.Proofs.Ytnpghcikhpglkaa.Q
set_option linter.unusedVariables false
set_option linter.unusedSimpArgs false

theorem OwnB.drew {w : World} {base : Nat} {v : Value} {bs : List Int} (h : OwnB w base v bs) : OwnB w.drew base v bs := h
theorem RowIs.below {W w' : World} {base p : Nat} {bs : List Int} {n : Int} (h : RowIs W base p bs n) (hb : Below W.heap.size W w') : RowIs w' base p bs n := by
  obtain ⟨sv, h1, h2, h3⟩ := h
  exact ⟨sv, (hb.block p (blk_lt h1)).trans h1, h2.below hb, h3⟩
theorem RowIs.weaken {W : World} {base base' p : Nat} {bs : List Int} {n : Int} (h : RowIs W base p bs n) (hb : base' ≤ base) : RowIs W base' p bs n := by
  obtain ⟨sv, h1, h2, h3⟩ := h
  exact ⟨sv, h1, h2.weaken hb, Nat.le_trans hb h3⟩

set_option maxHeartbeats 1000000 in
set_option maxRecDepth 100000 in
theorem from_ (W : World) (s : ByteArray) (n : Int) (hs : s.size ≤ 1073741824) :
    Calls Try.prog 88 #[.agg #[.string s, .int .i64 n]] W fun e w' => ∃ p, e = .returned (.pointer (some ⟨p, 0, none⟩)) ∧ RowIs w' W.heap.size p (bytesI s) n ∧ Below W.heap.size W w' := by
  have hu := Try.underlying27
  have hu2 := Try.underlying116
  have hcv := fun w => Lib.run_convert_string_bytes (P := Try.prog) w 9 63 5 s Try.underlying9 Try.underlying63 Try.underlying5
  have hc1 : (Lib.bytesWorld (W.alloc (.cells #[.string s, .int .i64 n] 27)) 5 s).cell? ⟨W.heap.size, 1, none⟩ = some (.int .i64 n) := by
    rw [Lib.bytesWorld_old _ _ _ _ (by simp)]
    exact cell_of_row _ _ 1 _ 27 (0, 0) (heap_alloc_new W _)
  have hsz := Lib.bytesWorld_size (W.alloc (.cells #[.string s, .int .i64 n] 27)) 5 s
  have HO := Lib.hid (own_bytes (W.alloc (.cells #[.string s, .int .i64 n] 27)) s W.heap.size (by simp) hs)
  have HB := Lib.hid (below_bytes ((Below.refl W.heap.size W).alloc (Nat.le_refl _) (.cells #[.string s, .int .i64 n] 27)) (by simp) s)
  go_enter Try.func88, Try.ntmps88
  go_wp2
  go_ret
  refine ⟨W.heap.size + 2, rfl, ⟨_, ?_, HO.out.alloc _, by omega⟩, ?_⟩
  · have h := heap_alloc_new (Lib.bytesWorld (W.alloc (.cells #[.string s, .int .i64 n] 27)) 5 s) (.cells #[.slice (some ⟨W.heap.size + 1, 0, none⟩) s.size (grownCap (W.alloc (.cells #[.string s, .int .i64 n] 27)) s.size 0 5), .int .i64 n] 116)
    rw [Lib.bytesWorld_size] at h
    simpa using h
  · exact HB.out.alloc (by rw [Lib.bytesWorld_size]; simp; omega) _

set_option maxHeartbeats 1000000 in
set_option maxRecDepth 100000 in
theorem row_bits_yes (W : World) (base p : Nat) (bs : List Int) (n : Int) (hrow : RowIs W base p bs n) (hn : n ≤ 6000) :
    Calls Try.prog 90 #[.pointer (some ⟨p, 0, none⟩)] W fun e w' => e = .returned (.tuple #[.agg #[.string (strOfNums bs), .int .i64 n], .int .i64 0]) ∧ Below W.heap.size W w' := by
  obtain ⟨sv, hblk, hown, hp⟩ := hrow
  have hu := Try.underlying27
  have hu2 := Try.underlying116
  have c0 : W.cell? ⟨p, 0, none⟩ = some sv := blk_cell hblk 0
  have c1 : W.cell? ⟨p, 1, none⟩ = some (.int .i64 n) := blk_cell hblk 1
  have hpl : p < W.heap.size := blk_lt hblk
  have hst := (hown.alloc (.cells #[.string { data := #[] }, .int .i64 0] 27)).drew.str
  replace hblk := Lib.hid hblk
  replace hown := Lib.hid hown
  go_enter Try.func90, Try.ntmps90
  go_wp2
  go_region
  go_wp2
  refine bodyPost_ret (results_list (rs := [.cell 2 27, .tmp 3]) rfl (by simp) (.cell W.heap.size 27 #[.string (strOfNums bs), .int .i64 n] (0, 0) _ rfl ?_ Try.underlying27 rfl (by kernel_rfl) (.tmp .nil))) rfl ⟨rfl, ?_⟩
  · exact heap_alloc_new W _
  · exact below_drew0 ((Below.refl _ W).alloc (Nat.le_refl _) _)

set_option maxHeartbeats 1000000 in
set_option maxRecDepth 100000 in
theorem row_bits_no (W : World) (base p : Nat) (bs : List Int) (n : Int) (hrow : RowIs W base p bs n) (hn : 6000 < n) :
    Calls Try.prog 90 #[.pointer (some ⟨p, 0, none⟩)] W fun e w' => e = .returned (.tuple #[.agg #[.string ⟨#[]⟩, .int .i64 0], .int .i64 2]) ∧ Below W.heap.size W w' := by
  obtain ⟨sv, hblk, hown, hp⟩ := hrow
  have hu := Try.underlying27
  have hu2 := Try.underlying116
  have c1 : W.cell? ⟨p, 1, none⟩ = some (.int .i64 n) := blk_cell hblk 1
  have hpl : p < W.heap.size := blk_lt hblk
  clear hblk hown
  go_enter Try.func90, Try.ntmps90
  go_wp2
  refine bodyPost_ret (results_list (rs := [.cell 2 27, .tmp 3]) rfl (by simp) (.cell W.heap.size 27 #[.string ⟨#[]⟩, .int .i64 0] (0, 0) _ rfl ?_ Try.underlying27 rfl (by kernel_rfl) (.tmp .nil))) rfl ⟨rfl, ?_⟩
  · first | exact heap_alloc_new W _ | exact blk_put (cs := #[.string ⟨#[]⟩, .int .i64 0]) (blk_put (cs := #[.string ⟨#[]⟩, .int .i64 0]) (heap_alloc_new W _) 0 _ rfl) 1 _ rfl
  · first | exact (Below.refl _ W).alloc (Nat.le_refl _) _ | exact (((Below.refl _ W).alloc (Nat.le_refl _) _).setCell (p := ⟨W.heap.size, 0, none⟩) (Nat.le_refl _) _).setCell (p := ⟨W.heap.size, 1, none⟩) (Nat.le_refl _) _

theorem row_size (W : World) (base p : Nat) (bs : List Int) (n : Int) (hrow : RowIs W base p bs n) :
    Calls Try.prog 109 #[.pointer (some ⟨p, 0, none⟩)] W fun e w' => e = .returned (.int .i64 n) ∧ W = w' := by
  obtain ⟨sv, hblk, hown, hp⟩ := hrow
  have hu2 := Try.underlying116
  have c1 : W.cell? ⟨p, 1, none⟩ = some (.int .i64 n) := blk_cell hblk 1
  clear hblk hown
  go_enter Try.func109, Try.ntmps109
  go_wp2
  go_ret
  exact ⟨rfl, rfl⟩
end Go.Proofs.Ytnpghcikhpglkaa.Hand
