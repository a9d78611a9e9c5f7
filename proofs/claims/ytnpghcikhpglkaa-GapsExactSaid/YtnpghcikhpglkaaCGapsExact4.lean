/- What the row of GapsExact rests on, part 5 of 7: functions, contracts, plain laws. -/
import Derived.Test.YtnpghcikhpglkaaCGapsExact3
import Derived.Lib.ItoaNum
namespace Go.Proofs.Ytnpghcikhpglkaa.Q
open Go.RowKit Go.Proofs.YtnpghcikhpglkaaW.PrintWords Go.Proofs.YtnpghcikhpglkaaW.PrintLast Go.Proofs.YtnpghcikhpglkaaW.PrintMore Go.Proofs.Ytnpghcikhpglkaa.Hand Go.Proofs.Ytnpghcikhpglkaa.Pu
set_option linter.unusedVariables false
set_option linter.unusedSimpArgs false
theorem read_below {W w3 : World} {p : Nat} {s : ByteArray} {n a : Int} {b : Bool} (h : ReadIs W p s n a b) (hb : Below W.heap.size W w3) : ReadIs w3 p s n a b := keep2 h hb (blk_lt h)
theorem read_drew {W : World} {p : Nat} {s : ByteArray} {n a : Int} {b : Bool} (h : ReadIs W p s n a b) : ReadIs W.drew p s n a b := h
theorem below_dr {W w w4 : World} {base : Nat} (h : Below base W w) (hb : Below base w.drew w4) : Below base W w4 := (show Below base W w.drew from ⟨h.os, h.tape, h.output, h.size, h.block⟩).trans hb
def rd_gamma (k : Nat) (s : ByteArray) (n a : Int) (bad : Bool) : Option (Int × Int × Bool) :=
  (rd_zeros k s n a bad 30).bind fun z => if 0 ≤ z.1 ∧ z.1 ≤ 10000 then rd_look k s n z.2.1 z.2.2 (z.1 + 1) else none
def rd_unary (k : Nat) (s : ByteArray) (n a : Int) (bad : Bool) (most : Int) : Option (Int × Int × Bool) :=
  if 1 ≤ most ∧ most ≤ 10000 then (rd_zeros k s n a bad (most - 1)).bind fun z => if 0 ≤ z.1 ∧ z.1 ≤ 10000 then (rd_look k s n z.2.1 z.2.2 1).bind fun l => some (z.1 + 1, l.2.1, l.2.2) else none else none
theorem rd_gamma.calls (W : World) (base p k : Nat) (s : ByteArray) (n a : Int) (bad : Bool) (r a' : Int) (bad' : Bool) (hrd : ReadIs W p s n a bad) (hbase : base ≤ p) (h : rd_gamma k s n a bad = some (r, a', bad')) :
    Calls Try.prog 121 #[.pointer (some ⟨p, 0, none⟩)] W fun e w' => e = .returned (.int .i64 r) ∧ ReadIs w' p s n a' bad' ∧ Below base W w' := by
  unfold rd_gamma at h
  obtain ⟨⟨z, a1, b1⟩, h1, h2⟩ := Option.bind_eq_some_iff.1 h
  split at h2
  · rename_i hc
    exact gamma_walk W base p k s n a bad z a1 b1 r a' bad' hrd hbase hc.1 hc.2 h1 h2
  · cases h2
theorem rd_unary.calls (W : World) (base p k : Nat) (s : ByteArray) (n a : Int) (bad : Bool) (most r a' : Int) (bad' : Bool) (hrd : ReadIs W p s n a bad) (hbase : base ≤ p) (h : rd_unary k s n a bad most = some (r, a', bad')) :
    Calls Try.prog 120 #[.pointer (some ⟨p, 0, none⟩), .int .i64 most] W fun e w' => e = .returned (.int .i64 r) ∧ ReadIs w' p s n a' bad' ∧ Below base W w' := by
  unfold rd_unary at h
  split at h
  · rename_i hm
    obtain ⟨⟨z, a1, b1⟩, h1, h2⟩ := Option.bind_eq_some_iff.1 h
    split at h2
    · rename_i hc
      obtain ⟨⟨l, a2, b2⟩, h3, h4⟩ := Option.bind_eq_some_iff.1 h2
      simp only [Option.some.injEq, Prod.mk.injEq] at h4
      obtain ⟨rfl, rfl, rfl⟩ := h4
      exact unary_walk W base p k s n a bad most z a1 b1 l a2 b2 hrd hbase hm.1 hm.2 hc.1 hc.2 h1 h3
    · cases h2
  · cases h
set_option maxHeartbeats 4000000 in
set_option maxRecDepth 100000 in
theorem delta_bad1 (W : World) (base p k : Nat) (s : ByteArray) (n a : Int) (bad : Bool) (g a1 : Int) (hrd : ReadIs W p s n a bad) (hbase : base ≤ p) (hg : rd_gamma k s n a bad = some (g, a1, true))  :
    Calls Try.prog 122 #[.pointer (some ⟨p, 0, none⟩)] W fun e w' => e = .returned (.int .i64 0) ∧ ReadIs w' p s n a1 true ∧ Below base W w' := by
  have hu5 := Try.underlying125
  have HRD := Aside0.mk hrd
  have HBASE := Aside0.mk hbase
  have HB := Aside0.mk (Below.refl base W)
  clear hrd hbase
  have HG := Aside0.mk hg
  clear hg
  go_enter Try.func122, Try.ntmps122
  go_wp2_with (first | (go_at_call 121; ((with_reducible refine (rd_gamma.calls _ base p k s n a bad g a1 true HRD.out HBASE.out HG.out).mono ?_); rintro e w3 ⟨rfl, hr3, hb3⟩); have HRD3 := Aside0.mk hr3; have HB3 := Aside0.mk (HB.out.trans hb3); clear hr3 hb3 HRD HB; have HRD := HRD3; have HB := HB3; clear HRD3 HB3; (try clear c0 c1 c2 c3 f0 f1 f2 f3); obtain ⟨c0, c1, c2, c3, f0, f1, f2, f3⟩ := four_cells HRD.out))
  go_ret
  exact ⟨rfl, read_bad HRD.out, HB.out.setCell (p := ⟨p, 3, none⟩) HBASE.out _⟩
set_option maxHeartbeats 4000000 in
set_option maxRecDepth 100000 in
theorem delta_bad2 (W : World) (base p k : Nat) (s : ByteArray) (n a : Int) (bad : Bool) (g a1 : Int) (hrd : ReadIs W p s n a bad) (hbase : base ≤ p) (hg : rd_gamma k s n a bad = some (g, a1, false)) (hg2 : 30 < g - 1) (hg3 : g ≤ 4611686018427387904) :
    Calls Try.prog 122 #[.pointer (some ⟨p, 0, none⟩)] W fun e w' => e = .returned (.int .i64 0) ∧ ReadIs w' p s n a1 true ∧ Below base W w' := by
  have hu5 := Try.underlying125
  have HRD := Aside0.mk hrd
  have HBASE := Aside0.mk hbase
  have HB := Aside0.mk (Below.refl base W)
  clear hrd hbase
  have HG := Aside0.mk hg
  clear hg
  go_enter Try.func122, Try.ntmps122
  go_wp2_with (first | (go_at_call 121; ((with_reducible refine (rd_gamma.calls _ base p k s n a bad g a1 false HRD.out HBASE.out HG.out).mono ?_); rintro e w3 ⟨rfl, hr3, hb3⟩); have HRD3 := Aside0.mk hr3; have HB3 := Aside0.mk (HB.out.trans hb3); clear hr3 hb3 HRD HB; have HRD := HRD3; have HB := HB3; clear HRD3 HB3; (try clear c0 c1 c2 c3 f0 f1 f2 f3); obtain ⟨c0, c1, c2, c3, f0, f1, f2, f3⟩ := four_cells HRD.out))
  go_ret
  exact ⟨rfl, read_bad HRD.out, HB.out.setCell (p := ⟨p, 3, none⟩) HBASE.out _⟩
set_option maxHeartbeats 4000000 in
set_option maxRecDepth 100000 in
theorem delta_ok (W : World) (base p k : Nat) (s : ByteArray) (n a : Int) (bad : Bool) (g a1 : Int) (l a2 : Int) (b2 : Bool) (hrd : ReadIs W p s n a bad) (hbase : base ≤ p) (hg : rd_gamma k s n a bad = some (g, a1, false)) (hg0 : 0 ≤ g - 1) (hg1 : g - 1 ≤ 30)
    (hl : rd_look k s n a1 false (g - 1) = some (l, a2, b2)) :
    Calls Try.prog 122 #[.pointer (some ⟨p, 0, none⟩)] W fun e w' => e = .returned (.int .i64 (Go.bits .or .i64 (IntKind.i64.wrap (2 ^ (g.toNat - 1))) l)) ∧ ReadIs w' p s n a2 b2 ∧ Below base W w' := by
  have hu5 := Try.underlying125
  have HRD := Aside0.mk hrd
  have HBASE := Aside0.mk hbase
  have HB := Aside0.mk (Below.refl base W)
  clear hrd hbase
  have HG := Aside0.mk hg
  have HL := Aside0.mk hl
  clear hg hl
  go_enter Try.func122, Try.ntmps122
  go_wp2_with (first | (go_at_call 121; ((with_reducible refine (rd_gamma.calls _ base p k s n a bad g a1 false HRD.out HBASE.out HG.out).mono ?_); rintro e w3 ⟨rfl, hr3, hb3⟩); have HRD3 := Aside0.mk hr3; have HB3 := Aside0.mk (HB.out.trans hb3); clear hr3 hb3 HRD HB; have HRD := HRD3; have HB := HB3; clear HRD3 HB3; (try clear c0 c1 c2 c3 f0 f1 f2 f3); obtain ⟨c0, c1, c2, c3, f0, f1, f2, f3⟩ := four_cells HRD.out))
  go_region_held3 (fun _ => True) (trivial) (first | (go_at_call 127; ((with_reducible refine (rd_look.calls _ base p k s n a1 false (g - 1) l a2 b2 (read_drew HRD.out) HBASE.out HL.out).mono ?_); rintro e w4 ⟨rfl, hr4, hb4⟩); have HRD4 := Aside0.mk hr4; have HB4 := Aside0.mk (below_dr HB.out hb4); clear hr4 hb4))
  all_goals go_wp2
  all_goals go_ret
  all_goals exact ⟨by first | rfl | simp, HRD4.out, HB4.out⟩
set_option maxHeartbeats 4000000 in
set_option maxRecDepth 100000 in
theorem zeta2_bad (W : World) (base p k : Nat) (s : ByteArray) (n a : Int) (bad : Bool) (h a1 : Int) (hrd : ReadIs W p s n a bad) (hbase : base ≤ p) (hh : rd_unary k s n a bad 16 = some (h, a1, true)) :
    Calls Try.prog 123 #[.pointer (some ⟨p, 0, none⟩), .int .i64 2] W fun e w' => e = .returned (.int .i64 0) ∧ ReadIs w' p s n a1 true ∧ Below base W w' := by
  have hu5 := Try.underlying125
  have HRD := Aside0.mk hrd
  have HBASE := Aside0.mk hbase
  have HB := Aside0.mk (Below.refl base W)
  clear hrd hbase
  have HH := Aside0.mk hh
  clear hh
  go_enter Try.func123, Try.ntmps123
  go_wp2_with (first | (go_at_call 120; ((with_reducible refine (rd_unary.calls _ base p k s n a bad 16 h a1 true HRD.out HBASE.out HH.out).mono ?_); rintro e w3 ⟨rfl, hr3, hb3⟩); have HRD3 := Aside0.mk hr3; have HB3 := Aside0.mk (HB.out.trans hb3); clear hr3 hb3 HRD HB; have HRD := HRD3; have HB := HB3; clear HRD3 HB3; (try clear c0 c1 c2 c3 f0 f1 f2 f3); obtain ⟨c0, c1, c2, c3, f0, f1, f2, f3⟩ := four_cells HRD.out))
  go_ret
  exact ⟨by first | rfl | simp, HRD.out, HB.out⟩
set_option maxHeartbeats 4000000 in
set_option maxRecDepth 100000 in
theorem zeta2_short (W : World) (base p k : Nat) (s : ByteArray) (n a : Int) (bad : Bool) (h a1 low many size short z a2 : Int) (b2 : Bool) (hrd : ReadIs W p s n a bad) (hbase : base ≤ p) (hh : rd_unary k s n a bad 16 = some (h, a1, false)) (hh0 : 1 ≤ h) (hh1 : h ≤ 100)
    (hz : code_zeta.f 2 (h - 1) = some (low, many, size, short)) (hlow0 : 0 ≤ low) (hlow : low ≤ 4294967296) (hs0 : 1 ≤ size) (hs1 : size ≤ 64) (hsh0 : 0 ≤ short) (hsh1 : short ≤ 4294967296) (hl : rd_look k s n a1 false (size - 1) = some (z, a2, b2)) (hz0 : 0 ≤ z) (hz1 : z ≤ 4294967296) (hzs : z < short) :
    Calls Try.prog 123 #[.pointer (some ⟨p, 0, none⟩), .int .i64 2] W fun e w' => e = .returned (.int .i64 (low + z)) ∧ ReadIs w' p s n a2 b2 ∧ Below base W w' := by
  have hu5 := Try.underlying125
  have HRD := Aside0.mk hrd
  have HBASE := Aside0.mk hbase
  have HB := Aside0.mk (Below.refl base W)
  clear hrd hbase
  have HH := Aside0.mk hh
  have HZ := Aside0.mk hz
  have HL := Aside0.mk hl
  clear hh hz hl
  go_enter Try.func123, Try.ntmps123
  go_wp2_with (first | (go_at_call 120; ((with_reducible refine (rd_unary.calls _ base p k s n a bad 16 h a1 false HRD.out HBASE.out HH.out).mono ?_); rintro e w3 ⟨rfl, hr3, hb3⟩); have HRD3 := Aside0.mk hr3; have HB3 := Aside0.mk (HB.out.trans hb3); clear hr3 hb3 HRD HB; have HRD := HRD3; have HB := HB3; clear HRD3 HB3; (try clear c0 c1 c2 c3 f0 f1 f2 f3); obtain ⟨c0, c1, c2, c3, f0, f1, f2, f3⟩ := four_cells HRD.out) | (go_at_call 119; (with_reducible refine (code_zeta.calls 2 (h - 1) low many size short _ HZ.out).mono ?_); rintro e w3 ⟨rfl, hd3⟩; have HRD3 := Aside0.mk (read_below HRD.out hd3.below); have HB3 := Aside0.mk (below_then HB.out (Nat.le_of_lt (Nat.lt_of_le_of_lt HBASE.out (blk_lt HRD.out))) hd3.below); clear hd3 HRD HB; have HRD := HRD3; have HB := HB3; clear HRD3 HB3; (try clear c0 c1 c2 c3 f0 f1 f2 f3); obtain ⟨c0, c1, c2, c3, f0, f1, f2, f3⟩ := four_cells HRD.out) | (go_at_call 127; ((with_reducible refine (rd_look.calls _ base p k s n a1 false (size - 1) z a2 b2 HRD.out HBASE.out HL.out).mono ?_); rintro e w3 ⟨rfl, hr3, hb3⟩); have HRD3 := Aside0.mk hr3; have HB3 := Aside0.mk (HB.out.trans hb3); clear hr3 hb3 HRD HB; have HRD := HRD3; have HB := HB3; clear HRD3 HB3; (try clear c0 c1 c2 c3 f0 f1 f2 f3); obtain ⟨c0, c1, c2, c3, f0, f1, f2, f3⟩ := four_cells HRD.out))
  go_ret
  exact ⟨by first | rfl | simp, HRD.out, HB.out⟩
set_option maxHeartbeats 4000000 in
set_option maxRecDepth 100000 in
theorem zeta2_long (W : World) (base p k : Nat) (s : ByteArray) (n a : Int) (bad : Bool) (h a1 low many size short z a2 : Int) (b2 : Bool) (hrd : ReadIs W p s n a bad) (hbase : base ≤ p) (hh : rd_unary k s n a bad 16 = some (h, a1, false)) (hh0 : 1 ≤ h) (hh1 : h ≤ 100)
    (hz : code_zeta.f 2 (h - 1) = some (low, many, size, short)) (hlow0 : 0 ≤ low) (hlow : low ≤ 4294967296) (hs0 : 1 ≤ size) (hs1 : size ≤ 64) (hsh0 : 0 ≤ short) (hsh1 : short ≤ 4294967296) (hl : rd_look k s n a1 false (size - 1) = some (z, a2, b2)) (hz0 : 0 ≤ z) (hz1 : z ≤ 4294967296) (hzs : short ≤ z) (y a3 : Int) (b3 : Bool) (hy : rd_look k s n a2 b2 1 = some (y, a3, b3)) (hy0 : 0 ≤ y) (hy1 : y ≤ 1) :
    Calls Try.prog 123 #[.pointer (some ⟨p, 0, none⟩), .int .i64 2] W fun e w' => e = .returned (.int .i64 (low + (z * 2 + y - short))) ∧ ReadIs w' p s n a3 b3 ∧ Below base W w' := by
  have hu5 := Try.underlying125
  have HRD := Aside0.mk hrd
  have HBASE := Aside0.mk hbase
  have HB := Aside0.mk (Below.refl base W)
  clear hrd hbase
  have HH := Aside0.mk hh
  have HZ := Aside0.mk hz
  have HL := Aside0.mk hl
  clear hh hz hl
  have HY := Aside0.mk hy
  clear hy
  go_enter Try.func123, Try.ntmps123
  go_wp2_with (first | (go_at_call 120; ((with_reducible refine (rd_unary.calls _ base p k s n a bad 16 h a1 false HRD.out HBASE.out HH.out).mono ?_); rintro e w3 ⟨rfl, hr3, hb3⟩); have HRD3 := Aside0.mk hr3; have HB3 := Aside0.mk (HB.out.trans hb3); clear hr3 hb3 HRD HB; have HRD := HRD3; have HB := HB3; clear HRD3 HB3; (try clear c0 c1 c2 c3 f0 f1 f2 f3); obtain ⟨c0, c1, c2, c3, f0, f1, f2, f3⟩ := four_cells HRD.out) | (go_at_call 119; (with_reducible refine (code_zeta.calls 2 (h - 1) low many size short _ HZ.out).mono ?_); rintro e w3 ⟨rfl, hd3⟩; have HRD3 := Aside0.mk (read_below HRD.out hd3.below); have HB3 := Aside0.mk (below_then HB.out (Nat.le_of_lt (Nat.lt_of_le_of_lt HBASE.out (blk_lt HRD.out))) hd3.below); clear hd3 HRD HB; have HRD := HRD3; have HB := HB3; clear HRD3 HB3; (try clear c0 c1 c2 c3 f0 f1 f2 f3); obtain ⟨c0, c1, c2, c3, f0, f1, f2, f3⟩ := four_cells HRD.out) | (go_at_call 127; ((with_reducible refine (rd_look.calls _ base p k s n a1 false (size - 1) z a2 b2 HRD.out HBASE.out HL.out).mono ?_); rintro e w3 ⟨rfl, hr3, hb3⟩); have HRD3 := Aside0.mk hr3; have HB3 := Aside0.mk (HB.out.trans hb3); clear hr3 hb3 HRD HB; have HRD := HRD3; have HB := HB3; clear HRD3 HB3; (try clear c0 c1 c2 c3 f0 f1 f2 f3); obtain ⟨c0, c1, c2, c3, f0, f1, f2, f3⟩ := four_cells HRD.out) | (go_at_call 127; ((with_reducible refine (rd_look.calls _ base p k s n a2 b2 1 y a3 b3 HRD.out HBASE.out HY.out).mono ?_); rintro e w3 ⟨rfl, hr3, hb3⟩); have HRD3 := Aside0.mk hr3; have HB3 := Aside0.mk (HB.out.trans hb3); clear hr3 hb3 HRD HB; have HRD := HRD3; have HB := HB3; clear HRD3 HB3; (try clear c0 c1 c2 c3 f0 f1 f2 f3); obtain ⟨c0, c1, c2, c3, f0, f1, f2, f3⟩ := four_cells HRD.out))
  go_ret
  exact ⟨by first | rfl | simp, HRD.out, HB.out⟩
set_option maxHeartbeats 4000000 in
set_option maxRecDepth 100000 in
theorem zeta3_bad (W : World) (base p k : Nat) (s : ByteArray) (n a : Int) (bad : Bool) (h a1 : Int) (hrd : ReadIs W p s n a bad) (hbase : base ≤ p) (hh : rd_unary k s n a bad 11 = some (h, a1, true)) :
    Calls Try.prog 123 #[.pointer (some ⟨p, 0, none⟩), .int .i64 3] W fun e w' => e = .returned (.int .i64 0) ∧ ReadIs w' p s n a1 true ∧ Below base W w' := by
  have hu5 := Try.underlying125
  have HRD := Aside0.mk hrd
  have HBASE := Aside0.mk hbase
  have HB := Aside0.mk (Below.refl base W)
  clear hrd hbase
  have HH := Aside0.mk hh
  clear hh
  go_enter Try.func123, Try.ntmps123
  go_wp2_with (first | (go_at_call 120; ((with_reducible refine (rd_unary.calls _ base p k s n a bad 11 h a1 true HRD.out HBASE.out HH.out).mono ?_); rintro e w3 ⟨rfl, hr3, hb3⟩); have HRD3 := Aside0.mk hr3; have HB3 := Aside0.mk (HB.out.trans hb3); clear hr3 hb3 HRD HB; have HRD := HRD3; have HB := HB3; clear HRD3 HB3; (try clear c0 c1 c2 c3 f0 f1 f2 f3); obtain ⟨c0, c1, c2, c3, f0, f1, f2, f3⟩ := four_cells HRD.out))
  go_ret
  exact ⟨by first | rfl | simp, HRD.out, HB.out⟩
set_option maxHeartbeats 4000000 in
set_option maxRecDepth 100000 in
theorem zeta3_short (W : World) (base p k : Nat) (s : ByteArray) (n a : Int) (bad : Bool) (h a1 low many size short z a2 : Int) (b2 : Bool) (hrd : ReadIs W p s n a bad) (hbase : base ≤ p) (hh : rd_unary k s n a bad 11 = some (h, a1, false)) (hh0 : 1 ≤ h) (hh1 : h ≤ 100)
    (hz : code_zeta.f 3 (h - 1) = some (low, many, size, short)) (hlow0 : 0 ≤ low) (hlow : low ≤ 4294967296) (hs0 : 1 ≤ size) (hs1 : size ≤ 64) (hsh0 : 0 ≤ short) (hsh1 : short ≤ 4294967296) (hl : rd_look k s n a1 false (size - 1) = some (z, a2, b2)) (hz0 : 0 ≤ z) (hz1 : z ≤ 4294967296) (hzs : z < short) :
    Calls Try.prog 123 #[.pointer (some ⟨p, 0, none⟩), .int .i64 3] W fun e w' => e = .returned (.int .i64 (low + z)) ∧ ReadIs w' p s n a2 b2 ∧ Below base W w' := by
  have hu5 := Try.underlying125
  have HRD := Aside0.mk hrd
  have HBASE := Aside0.mk hbase
  have HB := Aside0.mk (Below.refl base W)
  clear hrd hbase
  have HH := Aside0.mk hh
  have HZ := Aside0.mk hz
  have HL := Aside0.mk hl
  clear hh hz hl
  go_enter Try.func123, Try.ntmps123
  go_wp2_with (first | (go_at_call 120; ((with_reducible refine (rd_unary.calls _ base p k s n a bad 11 h a1 false HRD.out HBASE.out HH.out).mono ?_); rintro e w3 ⟨rfl, hr3, hb3⟩); have HRD3 := Aside0.mk hr3; have HB3 := Aside0.mk (HB.out.trans hb3); clear hr3 hb3 HRD HB; have HRD := HRD3; have HB := HB3; clear HRD3 HB3; (try clear c0 c1 c2 c3 f0 f1 f2 f3); obtain ⟨c0, c1, c2, c3, f0, f1, f2, f3⟩ := four_cells HRD.out) | (go_at_call 119; (with_reducible refine (code_zeta.calls 3 (h - 1) low many size short _ HZ.out).mono ?_); rintro e w3 ⟨rfl, hd3⟩; have HRD3 := Aside0.mk (read_below HRD.out hd3.below); have HB3 := Aside0.mk (below_then HB.out (Nat.le_of_lt (Nat.lt_of_le_of_lt HBASE.out (blk_lt HRD.out))) hd3.below); clear hd3 HRD HB; have HRD := HRD3; have HB := HB3; clear HRD3 HB3; (try clear c0 c1 c2 c3 f0 f1 f2 f3); obtain ⟨c0, c1, c2, c3, f0, f1, f2, f3⟩ := four_cells HRD.out) | (go_at_call 127; ((with_reducible refine (rd_look.calls _ base p k s n a1 false (size - 1) z a2 b2 HRD.out HBASE.out HL.out).mono ?_); rintro e w3 ⟨rfl, hr3, hb3⟩); have HRD3 := Aside0.mk hr3; have HB3 := Aside0.mk (HB.out.trans hb3); clear hr3 hb3 HRD HB; have HRD := HRD3; have HB := HB3; clear HRD3 HB3; (try clear c0 c1 c2 c3 f0 f1 f2 f3); obtain ⟨c0, c1, c2, c3, f0, f1, f2, f3⟩ := four_cells HRD.out))
  go_ret
  exact ⟨by first | rfl | simp, HRD.out, HB.out⟩
set_option maxHeartbeats 4000000 in
set_option maxRecDepth 100000 in
theorem zeta3_long (W : World) (base p k : Nat) (s : ByteArray) (n a : Int) (bad : Bool) (h a1 low many size short z a2 : Int) (b2 : Bool) (hrd : ReadIs W p s n a bad) (hbase : base ≤ p) (hh : rd_unary k s n a bad 11 = some (h, a1, false)) (hh0 : 1 ≤ h) (hh1 : h ≤ 100)
    (hz : code_zeta.f 3 (h - 1) = some (low, many, size, short)) (hlow0 : 0 ≤ low) (hlow : low ≤ 4294967296) (hs0 : 1 ≤ size) (hs1 : size ≤ 64) (hsh0 : 0 ≤ short) (hsh1 : short ≤ 4294967296) (hl : rd_look k s n a1 false (size - 1) = some (z, a2, b2)) (hz0 : 0 ≤ z) (hz1 : z ≤ 4294967296) (hzs : short ≤ z) (y a3 : Int) (b3 : Bool) (hy : rd_look k s n a2 b2 1 = some (y, a3, b3)) (hy0 : 0 ≤ y) (hy1 : y ≤ 1) :
    Calls Try.prog 123 #[.pointer (some ⟨p, 0, none⟩), .int .i64 3] W fun e w' => e = .returned (.int .i64 (low + (z * 2 + y - short))) ∧ ReadIs w' p s n a3 b3 ∧ Below base W w' := by
  have hu5 := Try.underlying125
  have HRD := Aside0.mk hrd
  have HBASE := Aside0.mk hbase
  have HB := Aside0.mk (Below.refl base W)
  clear hrd hbase
  have HH := Aside0.mk hh
  have HZ := Aside0.mk hz
  have HL := Aside0.mk hl
  clear hh hz hl
  have HY := Aside0.mk hy
  clear hy
  go_enter Try.func123, Try.ntmps123
  go_wp2_with (first | (go_at_call 120; ((with_reducible refine (rd_unary.calls _ base p k s n a bad 11 h a1 false HRD.out HBASE.out HH.out).mono ?_); rintro e w3 ⟨rfl, hr3, hb3⟩); have HRD3 := Aside0.mk hr3; have HB3 := Aside0.mk (HB.out.trans hb3); clear hr3 hb3 HRD HB; have HRD := HRD3; have HB := HB3; clear HRD3 HB3; (try clear c0 c1 c2 c3 f0 f1 f2 f3); obtain ⟨c0, c1, c2, c3, f0, f1, f2, f3⟩ := four_cells HRD.out) | (go_at_call 119; (with_reducible refine (code_zeta.calls 3 (h - 1) low many size short _ HZ.out).mono ?_); rintro e w3 ⟨rfl, hd3⟩; have HRD3 := Aside0.mk (read_below HRD.out hd3.below); have HB3 := Aside0.mk (below_then HB.out (Nat.le_of_lt (Nat.lt_of_le_of_lt HBASE.out (blk_lt HRD.out))) hd3.below); clear hd3 HRD HB; have HRD := HRD3; have HB := HB3; clear HRD3 HB3; (try clear c0 c1 c2 c3 f0 f1 f2 f3); obtain ⟨c0, c1, c2, c3, f0, f1, f2, f3⟩ := four_cells HRD.out) | (go_at_call 127; ((with_reducible refine (rd_look.calls _ base p k s n a1 false (size - 1) z a2 b2 HRD.out HBASE.out HL.out).mono ?_); rintro e w3 ⟨rfl, hr3, hb3⟩); have HRD3 := Aside0.mk hr3; have HB3 := Aside0.mk (HB.out.trans hb3); clear hr3 hb3 HRD HB; have HRD := HRD3; have HB := HB3; clear HRD3 HB3; (try clear c0 c1 c2 c3 f0 f1 f2 f3); obtain ⟨c0, c1, c2, c3, f0, f1, f2, f3⟩ := four_cells HRD.out) | (go_at_call 127; ((with_reducible refine (rd_look.calls _ base p k s n a2 b2 1 y a3 b3 HRD.out HBASE.out HY.out).mono ?_); rintro e w3 ⟨rfl, hr3, hb3⟩); have HRD3 := Aside0.mk hr3; have HB3 := Aside0.mk (HB.out.trans hb3); clear hr3 hb3 HRD HB; have HRD := HRD3; have HB := HB3; clear HRD3 HB3; (try clear c0 c1 c2 c3 f0 f1 f2 f3); obtain ⟨c0, c1, c2, c3, f0, f1, f2, f3⟩ := four_cells HRD.out))
  go_ret
  exact ⟨by first | rfl | simp, HRD.out, HB.out⟩
end Go.Proofs.Ytnpghcikhpglkaa.Q
namespace Go.Proofs.Ytnpghcikhpglkaa.Q
open Go.RowKit Go.Proofs.YtnpghcikhpglkaaW.PrintWords Go.Proofs.YtnpghcikhpglkaaW.PrintLast Go.Proofs.YtnpghcikhpglkaaW.PrintMore Go.Proofs.Ytnpghcikhpglkaa.Hand Go.Proofs.Ytnpghcikhpglkaa.Pu
set_option linter.unusedVariables false
set_option linter.unusedSimpArgs false
def rd_delta (k : Nat) (s : ByteArray) (n a : Int) (bad : Bool) : Option (Int × Int × Bool) :=
  (rd_gamma k s n a bad).bind fun g => if g.2.2 = true then some (0, g.2.1, true) else if 30 < g.1 - 1 then (if g.1 ≤ 4611686018427387904 then some (0, g.2.1, true) else none) else if 0 ≤ g.1 - 1 then
    (rd_look k s n g.2.1 false (g.1 - 1)).bind fun l => some (Go.bits .or .i64 (IntKind.i64.wrap (2 ^ (g.1.toNat - 1))) l.1, l.2.1, l.2.2) else none
def rd_zeta (kk most : Int) (k : Nat) (s : ByteArray) (n a : Int) (bad : Bool) : Option (Int × Int × Bool) :=
  (rd_unary k s n a bad most).bind fun u => if u.2.2 = true then some (0, u.2.1, true) else if 1 ≤ u.1 ∧ u.1 ≤ 100 then
    (code_zeta.f kk (u.1 - 1)).bind fun q => if 0 ≤ q.1 ∧ q.1 ≤ 4294967296 ∧ 1 ≤ q.2.2.1 ∧ q.2.2.1 ≤ 64 ∧ 0 ≤ q.2.2.2 ∧ q.2.2.2 ≤ 4294967296 then
      (rd_look k s n u.2.1 false (q.2.2.1 - 1)).bind fun z => if 0 ≤ z.1 ∧ z.1 ≤ 4294967296 then
        (if z.1 < q.2.2.2 then some (q.1 + z.1, z.2.1, z.2.2) else (rd_look k s n z.2.1 z.2.2 1).bind fun y => if 0 ≤ y.1 ∧ y.1 ≤ 1 then some (q.1 + (z.1 * 2 + y.1 - q.2.2.2), y.2.1, y.2.2) else none) else none
      else none
    else none
theorem rd_delta.calls (W : World) (base p k : Nat) (s : ByteArray) (n a : Int) (bad : Bool) (r a' : Int) (bad' : Bool) (hrd : ReadIs W p s n a bad) (hbase : base ≤ p) (h : rd_delta k s n a bad = some (r, a', bad')) :
    Calls Try.prog 122 #[.pointer (some ⟨p, 0, none⟩)] W fun e w' => e = .returned (.int .i64 r) ∧ ReadIs w' p s n a' bad' ∧ Below base W w' := by
  unfold rd_delta at h
  obtain ⟨⟨g, a1, b1⟩, h1, h2⟩ := Option.bind_eq_some_iff.1 h
  simp only at h2
  cases b1 with
  | true =>
    rw [if_pos rfl] at h2
    simp only [Option.some.injEq, Prod.mk.injEq] at h2
    obtain ⟨rfl, rfl, rfl⟩ := h2
    exact delta_bad1 W base p k s n a bad g a1 hrd hbase h1
  | false =>
    rw [if_neg (by simp)] at h2
    by_cases c1 : 30 < g - 1
    · rw [if_pos c1] at h2
      split at h2
      · rename_i c2
        simp only [Option.some.injEq, Prod.mk.injEq] at h2
        obtain ⟨rfl, rfl, rfl⟩ := h2
        exact delta_bad2 W base p k s n a bad g a1 hrd hbase h1 c1 c2
      · cases h2
    · rw [if_neg c1] at h2
      split at h2
      · rename_i c2
        obtain ⟨⟨l, a2, b2⟩, h3, h4⟩ := Option.bind_eq_some_iff.1 h2
        simp only [Option.some.injEq, Prod.mk.injEq] at h4
        obtain ⟨rfl, rfl, rfl⟩ := h4
        exact delta_ok W base p k s n a bad g a1 l a2 b2 hrd hbase h1 c2 (by omega) h3
      · cases h2
theorem rd_zeta2.calls (W : World) (base p k : Nat) (s : ByteArray) (n a : Int) (bad : Bool) (r a' : Int) (bad' : Bool) (hrd : ReadIs W p s n a bad) (hbase : base ≤ p) (h : rd_zeta 2 16 k s n a bad = some (r, a', bad')) :
    Calls Try.prog 123 #[.pointer (some ⟨p, 0, none⟩), .int .i64 2] W fun e w' => e = .returned (.int .i64 r) ∧ ReadIs w' p s n a' bad' ∧ Below base W w' := by
  unfold rd_zeta at h
  obtain ⟨⟨u, a1, b1⟩, h1, h2⟩ := Option.bind_eq_some_iff.1 h
  simp only at h2
  cases b1 with
  | true =>
    rw [if_pos rfl] at h2
    simp only [Option.some.injEq, Prod.mk.injEq] at h2
    obtain ⟨rfl, rfl, rfl⟩ := h2
    exact zeta2_bad W base p k s n a bad u a1 hrd hbase h1
  | false =>
    rw [if_neg (by simp)] at h2
    split at h2
    · rename_i c1
      obtain ⟨⟨low, many, size, short⟩, h3, h4⟩ := Option.bind_eq_some_iff.1 h2
      simp only at h4
      split at h4
      · rename_i c2
        obtain ⟨⟨z, a2, b2⟩, h5, h6⟩ := Option.bind_eq_some_iff.1 h4
        simp only at h6
        split at h6
        · rename_i c3
          split at h6
          · rename_i c4
            simp only [Option.some.injEq, Prod.mk.injEq] at h6
            obtain ⟨rfl, rfl, rfl⟩ := h6
            exact zeta2_short W base p k s n a bad u a1 low many size short z a2 b2 hrd hbase h1 c1.1 c1.2 h3 c2.1 c2.2.1 c2.2.2.1 c2.2.2.2.1 c2.2.2.2.2.1 c2.2.2.2.2.2 h5 c3.1 c3.2 c4
          · rename_i c4
            obtain ⟨⟨y, a3, b3⟩, h7, h8⟩ := Option.bind_eq_some_iff.1 h6
            simp only at h8
            split at h8
            · rename_i c5
              simp only [Option.some.injEq, Prod.mk.injEq] at h8
              obtain ⟨rfl, rfl, rfl⟩ := h8
              exact zeta2_long W base p k s n a bad u a1 low many size short z a2 b2 hrd hbase h1 c1.1 c1.2 h3 c2.1 c2.2.1 c2.2.2.1 c2.2.2.2.1 c2.2.2.2.2.1 c2.2.2.2.2.2 h5 c3.1 c3.2 (by omega) y a3 b3 h7 c5.1 c5.2
            · cases h8
        · cases h6
      · cases h4
    · cases h2
theorem rd_zeta3.calls (W : World) (base p k : Nat) (s : ByteArray) (n a : Int) (bad : Bool) (r a' : Int) (bad' : Bool) (hrd : ReadIs W p s n a bad) (hbase : base ≤ p) (h : rd_zeta 3 11 k s n a bad = some (r, a', bad')) :
    Calls Try.prog 123 #[.pointer (some ⟨p, 0, none⟩), .int .i64 3] W fun e w' => e = .returned (.int .i64 r) ∧ ReadIs w' p s n a' bad' ∧ Below base W w' := by
  unfold rd_zeta at h
  obtain ⟨⟨u, a1, b1⟩, h1, h2⟩ := Option.bind_eq_some_iff.1 h
  simp only at h2
  cases b1 with
  | true =>
    rw [if_pos rfl] at h2
    simp only [Option.some.injEq, Prod.mk.injEq] at h2
    obtain ⟨rfl, rfl, rfl⟩ := h2
    exact zeta3_bad W base p k s n a bad u a1 hrd hbase h1
  | false =>
    rw [if_neg (by simp)] at h2
    split at h2
    · rename_i c1
      obtain ⟨⟨low, many, size, short⟩, h3, h4⟩ := Option.bind_eq_some_iff.1 h2
      simp only at h4
      split at h4
      · rename_i c2
        obtain ⟨⟨z, a2, b2⟩, h5, h6⟩ := Option.bind_eq_some_iff.1 h4
        simp only at h6
        split at h6
        · rename_i c3
          split at h6
          · rename_i c4
            simp only [Option.some.injEq, Prod.mk.injEq] at h6
            obtain ⟨rfl, rfl, rfl⟩ := h6
            exact zeta3_short W base p k s n a bad u a1 low many size short z a2 b2 hrd hbase h1 c1.1 c1.2 h3 c2.1 c2.2.1 c2.2.2.1 c2.2.2.2.1 c2.2.2.2.2.1 c2.2.2.2.2.2 h5 c3.1 c3.2 c4
          · rename_i c4
            obtain ⟨⟨y, a3, b3⟩, h7, h8⟩ := Option.bind_eq_some_iff.1 h6
            simp only at h8
            split at h8
            · rename_i c5
              simp only [Option.some.injEq, Prod.mk.injEq] at h8
              obtain ⟨rfl, rfl, rfl⟩ := h8
              exact zeta3_long W base p k s n a bad u a1 low many size short z a2 b2 hrd hbase h1 c1.1 c1.2 h3 c2.1 c2.2.1 c2.2.2.1 c2.2.2.2.1 c2.2.2.2.2.1 c2.2.2.2.2.2 h5 c3.1 c3.2 (by omega) y a3 b3 h7 c5.1 c5.2
            · cases h8
        · cases h6
      · cases h4
    · cases h2
theorem rparts4 : code_parts.f 4 = some 2 := by decide +kernel
theorem rparts5 : code_parts.f 5 = some 3 := by decide +kernel
/-- The reader's answer of a kind. -/
def readK (k : Nat) (s : ByteArray) (n a kind : Int) : Option (Int × Int × Bool) :=
  if kind = 1 then rd_unary k s n a false 1000 else if kind = 2 then rd_gamma k s n a false else if kind = 3 then rd_delta k s n a false else if kind = 4 then rd_zeta 2 16 k s n a false else if kind = 5 then rd_zeta 3 11 k s n a false else none
set_option maxHeartbeats 4000000 in
set_option maxRecDepth 100000 in
theorem read1_bad (w : World) (k : Nat) (s : ByteArray) (n a r a' : Int) (hm : rd_unary k s n a false 1000 = some (r, a', true))  :
    Calls Try.prog 105 #[.agg #[.string s, .int .i64 n], .int .i64 a, .int .i64 1] w fun e w' => e = .returned (.tuple #[.int .i64 0, .int .i64 0, .bool false]) ∧ Below w.heap.size w w' := by
  have hu := Try.underlying27
  have hu5 := Try.underlying125
  have HS := Aside0.mk (start2 w (.cells #[.string s, .int .i64 n] 27) (.cells #[.string s, .int .i64 n, .int .i64 a, .bool false] 125))
  have HRD : Aside0 (ReadIs ((w.alloc (.cells #[.string s, .int .i64 n] 27)).alloc (.cells #[.string s, .int .i64 n, .int .i64 a, .bool false] 125)) (w.heap.size + 1) s n a false) := ⟨HS.out.2.1⟩
  have HB := Aside0.mk HS.out.2.2.1
  clear HS
  have HM := Aside0.mk hm
  clear hm
  go_enter Try.func105, Try.ntmps105
  go_wp2_with (first | (go_at_call 120; ((with_reducible refine (rd_unary.calls _ w.heap.size (w.heap.size + 1) k s n a false 1000 r a' true HRD.out (Nat.le_succ _) HM.out).mono ?_); rintro e w3 ⟨rfl, hr3, hb3⟩); have HRD3 := Aside0.mk hr3; have HB3 := Aside0.mk (HB.out.trans hb3); clear hr3 hb3 HRD HB; have HRD := HRD3; have HB := HB3; clear HRD3 HB3; (try clear c0 c1 c2 c3 f0 f1 f2 f3); obtain ⟨c0, c1, c2, c3, f0, f1, f2, f3⟩ := four_cells HRD.out))
  refine bodyPost_ret (results_list (rs := [.tmp 6, .tmp 7, .tmp 8]) rfl (by simp) (.tmp (.tmp (.tmp .nil)))) rfl ⟨rfl, HB.out⟩
set_option maxHeartbeats 4000000 in
set_option maxRecDepth 100000 in
theorem read1_big (w : World) (k : Nat) (s : ByteArray) (n a r a' : Int) (hm : rd_unary k s n a false 1000 = some (r, a', false)) (hr : 1073741824 < r) :
    Calls Try.prog 105 #[.agg #[.string s, .int .i64 n], .int .i64 a, .int .i64 1] w fun e w' => e = .returned (.tuple #[.int .i64 0, .int .i64 0, .bool false]) ∧ Below w.heap.size w w' := by
  have hu := Try.underlying27
  have hu5 := Try.underlying125
  have HS := Aside0.mk (start2 w (.cells #[.string s, .int .i64 n] 27) (.cells #[.string s, .int .i64 n, .int .i64 a, .bool false] 125))
  have HRD : Aside0 (ReadIs ((w.alloc (.cells #[.string s, .int .i64 n] 27)).alloc (.cells #[.string s, .int .i64 n, .int .i64 a, .bool false] 125)) (w.heap.size + 1) s n a false) := ⟨HS.out.2.1⟩
  have HB := Aside0.mk HS.out.2.2.1
  clear HS
  have HM := Aside0.mk hm
  clear hm
  go_enter Try.func105, Try.ntmps105
  go_wp2_with (first | (go_at_call 120; ((with_reducible refine (rd_unary.calls _ w.heap.size (w.heap.size + 1) k s n a false 1000 r a' false HRD.out (Nat.le_succ _) HM.out).mono ?_); rintro e w3 ⟨rfl, hr3, hb3⟩); have HRD3 := Aside0.mk hr3; have HB3 := Aside0.mk (HB.out.trans hb3); clear hr3 hb3 HRD HB; have HRD := HRD3; have HB := HB3; clear HRD3 HB3; (try clear c0 c1 c2 c3 f0 f1 f2 f3); obtain ⟨c0, c1, c2, c3, f0, f1, f2, f3⟩ := four_cells HRD.out))
  refine bodyPost_ret (results_list (rs := [.tmp 6, .tmp 7, .tmp 8]) rfl (by simp) (.tmp (.tmp (.tmp .nil)))) rfl ⟨rfl, HB.out⟩
set_option maxHeartbeats 4000000 in
set_option maxRecDepth 100000 in
theorem read1_ok (w : World) (k : Nat) (s : ByteArray) (n a r a' : Int) (hm : rd_unary k s n a false 1000 = some (r, a', false)) (hr : r ≤ 1073741824) :
    Calls Try.prog 105 #[.agg #[.string s, .int .i64 n], .int .i64 a, .int .i64 1] w fun e w' => e = .returned (.tuple #[.int .i64 r, .int .i64 a', .bool true]) ∧ Below w.heap.size w w' := by
  have hu := Try.underlying27
  have hu5 := Try.underlying125
  have HS := Aside0.mk (start2 w (.cells #[.string s, .int .i64 n] 27) (.cells #[.string s, .int .i64 n, .int .i64 a, .bool false] 125))
  have HRD : Aside0 (ReadIs ((w.alloc (.cells #[.string s, .int .i64 n] 27)).alloc (.cells #[.string s, .int .i64 n, .int .i64 a, .bool false] 125)) (w.heap.size + 1) s n a false) := ⟨HS.out.2.1⟩
  have HB := Aside0.mk HS.out.2.2.1
  clear HS
  have HM := Aside0.mk hm
  clear hm
  go_enter Try.func105, Try.ntmps105
  go_wp2_with (first | (go_at_call 120; ((with_reducible refine (rd_unary.calls _ w.heap.size (w.heap.size + 1) k s n a false 1000 r a' false HRD.out (Nat.le_succ _) HM.out).mono ?_); rintro e w3 ⟨rfl, hr3, hb3⟩); have HRD3 := Aside0.mk hr3; have HB3 := Aside0.mk (HB.out.trans hb3); clear hr3 hb3 HRD HB; have HRD := HRD3; have HB := HB3; clear HRD3 HB3; (try clear c0 c1 c2 c3 f0 f1 f2 f3); obtain ⟨c0, c1, c2, c3, f0, f1, f2, f3⟩ := four_cells HRD.out))
  go_region
  go_wp2
  refine bodyPost_ret (results_list (rs := [.tmp 6, .tmp 7, .tmp 8]) rfl (by simp) (.tmp (.tmp (.tmp .nil)))) rfl ⟨rfl, pw_below_drewN HB.out 1⟩
set_option maxHeartbeats 4000000 in
set_option maxRecDepth 100000 in
theorem read2_bad (w : World) (k : Nat) (s : ByteArray) (n a r a' : Int) (hm : rd_gamma k s n a false = some (r, a', true))  :
    Calls Try.prog 105 #[.agg #[.string s, .int .i64 n], .int .i64 a, .int .i64 2] w fun e w' => e = .returned (.tuple #[.int .i64 0, .int .i64 0, .bool false]) ∧ Below w.heap.size w w' := by
  have hu := Try.underlying27
  have hu5 := Try.underlying125
  have HS := Aside0.mk (start2 w (.cells #[.string s, .int .i64 n] 27) (.cells #[.string s, .int .i64 n, .int .i64 a, .bool false] 125))
  have HRD : Aside0 (ReadIs ((w.alloc (.cells #[.string s, .int .i64 n] 27)).alloc (.cells #[.string s, .int .i64 n, .int .i64 a, .bool false] 125)) (w.heap.size + 1) s n a false) := ⟨HS.out.2.1⟩
  have HB := Aside0.mk HS.out.2.2.1
  clear HS
  have HM := Aside0.mk hm
  clear hm
  go_enter Try.func105, Try.ntmps105
  go_wp2_with (first | (go_at_call 121; ((with_reducible refine (rd_gamma.calls _ w.heap.size (w.heap.size + 1) k s n a false r a' true HRD.out (Nat.le_succ _) HM.out).mono ?_); rintro e w3 ⟨rfl, hr3, hb3⟩); have HRD3 := Aside0.mk hr3; have HB3 := Aside0.mk (HB.out.trans hb3); clear hr3 hb3 HRD HB; have HRD := HRD3; have HB := HB3; clear HRD3 HB3; (try clear c0 c1 c2 c3 f0 f1 f2 f3); obtain ⟨c0, c1, c2, c3, f0, f1, f2, f3⟩ := four_cells HRD.out))
  refine bodyPost_ret (results_list (rs := [.tmp 6, .tmp 7, .tmp 8]) rfl (by simp) (.tmp (.tmp (.tmp .nil)))) rfl ⟨rfl, HB.out⟩
set_option maxHeartbeats 4000000 in
set_option maxRecDepth 100000 in
theorem read2_big (w : World) (k : Nat) (s : ByteArray) (n a r a' : Int) (hm : rd_gamma k s n a false = some (r, a', false)) (hr : 1073741824 < r) :
    Calls Try.prog 105 #[.agg #[.string s, .int .i64 n], .int .i64 a, .int .i64 2] w fun e w' => e = .returned (.tuple #[.int .i64 0, .int .i64 0, .bool false]) ∧ Below w.heap.size w w' := by
  have hu := Try.underlying27
  have hu5 := Try.underlying125
  have HS := Aside0.mk (start2 w (.cells #[.string s, .int .i64 n] 27) (.cells #[.string s, .int .i64 n, .int .i64 a, .bool false] 125))
  have HRD : Aside0 (ReadIs ((w.alloc (.cells #[.string s, .int .i64 n] 27)).alloc (.cells #[.string s, .int .i64 n, .int .i64 a, .bool false] 125)) (w.heap.size + 1) s n a false) := ⟨HS.out.2.1⟩
  have HB := Aside0.mk HS.out.2.2.1
  clear HS
  have HM := Aside0.mk hm
  clear hm
  go_enter Try.func105, Try.ntmps105
  go_wp2_with (first | (go_at_call 121; ((with_reducible refine (rd_gamma.calls _ w.heap.size (w.heap.size + 1) k s n a false r a' false HRD.out (Nat.le_succ _) HM.out).mono ?_); rintro e w3 ⟨rfl, hr3, hb3⟩); have HRD3 := Aside0.mk hr3; have HB3 := Aside0.mk (HB.out.trans hb3); clear hr3 hb3 HRD HB; have HRD := HRD3; have HB := HB3; clear HRD3 HB3; (try clear c0 c1 c2 c3 f0 f1 f2 f3); obtain ⟨c0, c1, c2, c3, f0, f1, f2, f3⟩ := four_cells HRD.out))
  refine bodyPost_ret (results_list (rs := [.tmp 6, .tmp 7, .tmp 8]) rfl (by simp) (.tmp (.tmp (.tmp .nil)))) rfl ⟨rfl, HB.out⟩
set_option maxHeartbeats 4000000 in
set_option maxRecDepth 100000 in
theorem read2_ok (w : World) (k : Nat) (s : ByteArray) (n a r a' : Int) (hm : rd_gamma k s n a false = some (r, a', false)) (hr : r ≤ 1073741824) :
    Calls Try.prog 105 #[.agg #[.string s, .int .i64 n], .int .i64 a, .int .i64 2] w fun e w' => e = .returned (.tuple #[.int .i64 r, .int .i64 a', .bool true]) ∧ Below w.heap.size w w' := by
  have hu := Try.underlying27
  have hu5 := Try.underlying125
  have HS := Aside0.mk (start2 w (.cells #[.string s, .int .i64 n] 27) (.cells #[.string s, .int .i64 n, .int .i64 a, .bool false] 125))
  have HRD : Aside0 (ReadIs ((w.alloc (.cells #[.string s, .int .i64 n] 27)).alloc (.cells #[.string s, .int .i64 n, .int .i64 a, .bool false] 125)) (w.heap.size + 1) s n a false) := ⟨HS.out.2.1⟩
  have HB := Aside0.mk HS.out.2.2.1
  clear HS
  have HM := Aside0.mk hm
  clear hm
  go_enter Try.func105, Try.ntmps105
  go_wp2_with (first | (go_at_call 121; ((with_reducible refine (rd_gamma.calls _ w.heap.size (w.heap.size + 1) k s n a false r a' false HRD.out (Nat.le_succ _) HM.out).mono ?_); rintro e w3 ⟨rfl, hr3, hb3⟩); have HRD3 := Aside0.mk hr3; have HB3 := Aside0.mk (HB.out.trans hb3); clear hr3 hb3 HRD HB; have HRD := HRD3; have HB := HB3; clear HRD3 HB3; (try clear c0 c1 c2 c3 f0 f1 f2 f3); obtain ⟨c0, c1, c2, c3, f0, f1, f2, f3⟩ := four_cells HRD.out))
  go_region
  go_wp2
  refine bodyPost_ret (results_list (rs := [.tmp 6, .tmp 7, .tmp 8]) rfl (by simp) (.tmp (.tmp (.tmp .nil)))) rfl ⟨rfl, pw_below_drewN HB.out 1⟩
set_option maxHeartbeats 4000000 in
set_option maxRecDepth 100000 in
theorem read3_bad (w : World) (k : Nat) (s : ByteArray) (n a r a' : Int) (hm : rd_delta k s n a false = some (r, a', true))  :
    Calls Try.prog 105 #[.agg #[.string s, .int .i64 n], .int .i64 a, .int .i64 3] w fun e w' => e = .returned (.tuple #[.int .i64 0, .int .i64 0, .bool false]) ∧ Below w.heap.size w w' := by
  have hu := Try.underlying27
  have hu5 := Try.underlying125
  have HS := Aside0.mk (start2 w (.cells #[.string s, .int .i64 n] 27) (.cells #[.string s, .int .i64 n, .int .i64 a, .bool false] 125))
  have HRD : Aside0 (ReadIs ((w.alloc (.cells #[.string s, .int .i64 n] 27)).alloc (.cells #[.string s, .int .i64 n, .int .i64 a, .bool false] 125)) (w.heap.size + 1) s n a false) := ⟨HS.out.2.1⟩
  have HB := Aside0.mk HS.out.2.2.1
  clear HS
  have HM := Aside0.mk hm
  clear hm
  go_enter Try.func105, Try.ntmps105
  go_wp2_with (first | (go_at_call 122; ((with_reducible refine (rd_delta.calls _ w.heap.size (w.heap.size + 1) k s n a false r a' true HRD.out (Nat.le_succ _) HM.out).mono ?_); rintro e w3 ⟨rfl, hr3, hb3⟩); have HRD3 := Aside0.mk hr3; have HB3 := Aside0.mk (HB.out.trans hb3); clear hr3 hb3 HRD HB; have HRD := HRD3; have HB := HB3; clear HRD3 HB3; (try clear c0 c1 c2 c3 f0 f1 f2 f3); obtain ⟨c0, c1, c2, c3, f0, f1, f2, f3⟩ := four_cells HRD.out))
  refine bodyPost_ret (results_list (rs := [.tmp 6, .tmp 7, .tmp 8]) rfl (by simp) (.tmp (.tmp (.tmp .nil)))) rfl ⟨rfl, HB.out⟩
set_option maxHeartbeats 4000000 in
set_option maxRecDepth 100000 in
theorem read3_big (w : World) (k : Nat) (s : ByteArray) (n a r a' : Int) (hm : rd_delta k s n a false = some (r, a', false)) (hr : 1073741824 < r) :
    Calls Try.prog 105 #[.agg #[.string s, .int .i64 n], .int .i64 a, .int .i64 3] w fun e w' => e = .returned (.tuple #[.int .i64 0, .int .i64 0, .bool false]) ∧ Below w.heap.size w w' := by
  have hu := Try.underlying27
  have hu5 := Try.underlying125
  have HS := Aside0.mk (start2 w (.cells #[.string s, .int .i64 n] 27) (.cells #[.string s, .int .i64 n, .int .i64 a, .bool false] 125))
  have HRD : Aside0 (ReadIs ((w.alloc (.cells #[.string s, .int .i64 n] 27)).alloc (.cells #[.string s, .int .i64 n, .int .i64 a, .bool false] 125)) (w.heap.size + 1) s n a false) := ⟨HS.out.2.1⟩
  have HB := Aside0.mk HS.out.2.2.1
  clear HS
  have HM := Aside0.mk hm
  clear hm
  go_enter Try.func105, Try.ntmps105
  go_wp2_with (first | (go_at_call 122; ((with_reducible refine (rd_delta.calls _ w.heap.size (w.heap.size + 1) k s n a false r a' false HRD.out (Nat.le_succ _) HM.out).mono ?_); rintro e w3 ⟨rfl, hr3, hb3⟩); have HRD3 := Aside0.mk hr3; have HB3 := Aside0.mk (HB.out.trans hb3); clear hr3 hb3 HRD HB; have HRD := HRD3; have HB := HB3; clear HRD3 HB3; (try clear c0 c1 c2 c3 f0 f1 f2 f3); obtain ⟨c0, c1, c2, c3, f0, f1, f2, f3⟩ := four_cells HRD.out))
  refine bodyPost_ret (results_list (rs := [.tmp 6, .tmp 7, .tmp 8]) rfl (by simp) (.tmp (.tmp (.tmp .nil)))) rfl ⟨rfl, HB.out⟩
set_option maxHeartbeats 4000000 in
set_option maxRecDepth 100000 in
theorem read3_ok (w : World) (k : Nat) (s : ByteArray) (n a r a' : Int) (hm : rd_delta k s n a false = some (r, a', false)) (hr : r ≤ 1073741824) :
    Calls Try.prog 105 #[.agg #[.string s, .int .i64 n], .int .i64 a, .int .i64 3] w fun e w' => e = .returned (.tuple #[.int .i64 r, .int .i64 a', .bool true]) ∧ Below w.heap.size w w' := by
  have hu := Try.underlying27
  have hu5 := Try.underlying125
  have HS := Aside0.mk (start2 w (.cells #[.string s, .int .i64 n] 27) (.cells #[.string s, .int .i64 n, .int .i64 a, .bool false] 125))
  have HRD : Aside0 (ReadIs ((w.alloc (.cells #[.string s, .int .i64 n] 27)).alloc (.cells #[.string s, .int .i64 n, .int .i64 a, .bool false] 125)) (w.heap.size + 1) s n a false) := ⟨HS.out.2.1⟩
  have HB := Aside0.mk HS.out.2.2.1
  clear HS
  have HM := Aside0.mk hm
  clear hm
  go_enter Try.func105, Try.ntmps105
  go_wp2_with (first | (go_at_call 122; ((with_reducible refine (rd_delta.calls _ w.heap.size (w.heap.size + 1) k s n a false r a' false HRD.out (Nat.le_succ _) HM.out).mono ?_); rintro e w3 ⟨rfl, hr3, hb3⟩); have HRD3 := Aside0.mk hr3; have HB3 := Aside0.mk (HB.out.trans hb3); clear hr3 hb3 HRD HB; have HRD := HRD3; have HB := HB3; clear HRD3 HB3; (try clear c0 c1 c2 c3 f0 f1 f2 f3); obtain ⟨c0, c1, c2, c3, f0, f1, f2, f3⟩ := four_cells HRD.out))
  go_region
  go_wp2
  refine bodyPost_ret (results_list (rs := [.tmp 6, .tmp 7, .tmp 8]) rfl (by simp) (.tmp (.tmp (.tmp .nil)))) rfl ⟨rfl, pw_below_drewN HB.out 1⟩
set_option maxHeartbeats 4000000 in
set_option maxRecDepth 100000 in
theorem read4_bad (w : World) (k : Nat) (s : ByteArray) (n a r a' : Int) (hm : rd_zeta 2 16 k s n a false = some (r, a', true))  :
    Calls Try.prog 105 #[.agg #[.string s, .int .i64 n], .int .i64 a, .int .i64 4] w fun e w' => e = .returned (.tuple #[.int .i64 0, .int .i64 0, .bool false]) ∧ Below w.heap.size w w' := by
  have hu := Try.underlying27
  have hu5 := Try.underlying125
  have HS := Aside0.mk (start2 w (.cells #[.string s, .int .i64 n] 27) (.cells #[.string s, .int .i64 n, .int .i64 a, .bool false] 125))
  have HRD : Aside0 (ReadIs ((w.alloc (.cells #[.string s, .int .i64 n] 27)).alloc (.cells #[.string s, .int .i64 n, .int .i64 a, .bool false] 125)) (w.heap.size + 1) s n a false) := ⟨HS.out.2.1⟩
  have HB := Aside0.mk HS.out.2.2.1
  clear HS
  have HM := Aside0.mk hm
  clear hm
  go_enter Try.func105, Try.ntmps105
  go_wp2_with (first | (go_at_call 123; ((with_reducible refine (rd_zeta2.calls _ w.heap.size (w.heap.size + 1) k s n a false r a' true HRD.out (Nat.le_succ _) HM.out).mono ?_); rintro e w3 ⟨rfl, hr3, hb3⟩); have HRD3 := Aside0.mk hr3; have HB3 := Aside0.mk (HB.out.trans hb3); clear hr3 hb3 HRD HB; have HRD := HRD3; have HB := HB3; clear HRD3 HB3; (try clear c0 c1 c2 c3 f0 f1 f2 f3); obtain ⟨c0, c1, c2, c3, f0, f1, f2, f3⟩ := four_cells HRD.out) | (go_at_call 118; (with_reducible refine (code_parts.calls 4 2 _ rparts4).mono ?_); rintro e w3 ⟨rfl, hd3⟩; have HRD3 := Aside0.mk (read_below HRD.out hd3.below); have HB3 := Aside0.mk (below_then HB.out HB.out.size hd3.below); clear hd3 HRD HB; have HRD := HRD3; have HB := HB3; clear HRD3 HB3; (try clear c0 c1 c2 c3 f0 f1 f2 f3); obtain ⟨c0, c1, c2, c3, f0, f1, f2, f3⟩ := four_cells HRD.out))
  refine bodyPost_ret (results_list (rs := [.tmp 6, .tmp 7, .tmp 8]) rfl (by simp) (.tmp (.tmp (.tmp .nil)))) rfl ⟨rfl, HB.out⟩
set_option maxHeartbeats 4000000 in
set_option maxRecDepth 100000 in
theorem read4_big (w : World) (k : Nat) (s : ByteArray) (n a r a' : Int) (hm : rd_zeta 2 16 k s n a false = some (r, a', false)) (hr : 1073741824 < r) :
    Calls Try.prog 105 #[.agg #[.string s, .int .i64 n], .int .i64 a, .int .i64 4] w fun e w' => e = .returned (.tuple #[.int .i64 0, .int .i64 0, .bool false]) ∧ Below w.heap.size w w' := by
  have hu := Try.underlying27
  have hu5 := Try.underlying125
  have HS := Aside0.mk (start2 w (.cells #[.string s, .int .i64 n] 27) (.cells #[.string s, .int .i64 n, .int .i64 a, .bool false] 125))
  have HRD : Aside0 (ReadIs ((w.alloc (.cells #[.string s, .int .i64 n] 27)).alloc (.cells #[.string s, .int .i64 n, .int .i64 a, .bool false] 125)) (w.heap.size + 1) s n a false) := ⟨HS.out.2.1⟩
  have HB := Aside0.mk HS.out.2.2.1
  clear HS
  have HM := Aside0.mk hm
  clear hm
  go_enter Try.func105, Try.ntmps105
  go_wp2_with (first | (go_at_call 123; ((with_reducible refine (rd_zeta2.calls _ w.heap.size (w.heap.size + 1) k s n a false r a' false HRD.out (Nat.le_succ _) HM.out).mono ?_); rintro e w3 ⟨rfl, hr3, hb3⟩); have HRD3 := Aside0.mk hr3; have HB3 := Aside0.mk (HB.out.trans hb3); clear hr3 hb3 HRD HB; have HRD := HRD3; have HB := HB3; clear HRD3 HB3; (try clear c0 c1 c2 c3 f0 f1 f2 f3); obtain ⟨c0, c1, c2, c3, f0, f1, f2, f3⟩ := four_cells HRD.out) | (go_at_call 118; (with_reducible refine (code_parts.calls 4 2 _ rparts4).mono ?_); rintro e w3 ⟨rfl, hd3⟩; have HRD3 := Aside0.mk (read_below HRD.out hd3.below); have HB3 := Aside0.mk (below_then HB.out HB.out.size hd3.below); clear hd3 HRD HB; have HRD := HRD3; have HB := HB3; clear HRD3 HB3; (try clear c0 c1 c2 c3 f0 f1 f2 f3); obtain ⟨c0, c1, c2, c3, f0, f1, f2, f3⟩ := four_cells HRD.out))
  refine bodyPost_ret (results_list (rs := [.tmp 6, .tmp 7, .tmp 8]) rfl (by simp) (.tmp (.tmp (.tmp .nil)))) rfl ⟨rfl, HB.out⟩
set_option maxHeartbeats 4000000 in
set_option maxRecDepth 100000 in
theorem read4_ok (w : World) (k : Nat) (s : ByteArray) (n a r a' : Int) (hm : rd_zeta 2 16 k s n a false = some (r, a', false)) (hr : r ≤ 1073741824) :
    Calls Try.prog 105 #[.agg #[.string s, .int .i64 n], .int .i64 a, .int .i64 4] w fun e w' => e = .returned (.tuple #[.int .i64 r, .int .i64 a', .bool true]) ∧ Below w.heap.size w w' := by
  have hu := Try.underlying27
  have hu5 := Try.underlying125
  have HS := Aside0.mk (start2 w (.cells #[.string s, .int .i64 n] 27) (.cells #[.string s, .int .i64 n, .int .i64 a, .bool false] 125))
  have HRD : Aside0 (ReadIs ((w.alloc (.cells #[.string s, .int .i64 n] 27)).alloc (.cells #[.string s, .int .i64 n, .int .i64 a, .bool false] 125)) (w.heap.size + 1) s n a false) := ⟨HS.out.2.1⟩
  have HB := Aside0.mk HS.out.2.2.1
  clear HS
  have HM := Aside0.mk hm
  clear hm
  go_enter Try.func105, Try.ntmps105
  go_wp2_with (first | (go_at_call 123; ((with_reducible refine (rd_zeta2.calls _ w.heap.size (w.heap.size + 1) k s n a false r a' false HRD.out (Nat.le_succ _) HM.out).mono ?_); rintro e w3 ⟨rfl, hr3, hb3⟩); have HRD3 := Aside0.mk hr3; have HB3 := Aside0.mk (HB.out.trans hb3); clear hr3 hb3 HRD HB; have HRD := HRD3; have HB := HB3; clear HRD3 HB3; (try clear c0 c1 c2 c3 f0 f1 f2 f3); obtain ⟨c0, c1, c2, c3, f0, f1, f2, f3⟩ := four_cells HRD.out) | (go_at_call 118; (with_reducible refine (code_parts.calls 4 2 _ rparts4).mono ?_); rintro e w3 ⟨rfl, hd3⟩; have HRD3 := Aside0.mk (read_below HRD.out hd3.below); have HB3 := Aside0.mk (below_then HB.out HB.out.size hd3.below); clear hd3 HRD HB; have HRD := HRD3; have HB := HB3; clear HRD3 HB3; (try clear c0 c1 c2 c3 f0 f1 f2 f3); obtain ⟨c0, c1, c2, c3, f0, f1, f2, f3⟩ := four_cells HRD.out))
  go_region
  go_wp2
  refine bodyPost_ret (results_list (rs := [.tmp 6, .tmp 7, .tmp 8]) rfl (by simp) (.tmp (.tmp (.tmp .nil)))) rfl ⟨rfl, pw_below_drewN HB.out 1⟩
set_option maxHeartbeats 4000000 in
set_option maxRecDepth 100000 in
theorem read5_bad (w : World) (k : Nat) (s : ByteArray) (n a r a' : Int) (hm : rd_zeta 3 11 k s n a false = some (r, a', true))  :
    Calls Try.prog 105 #[.agg #[.string s, .int .i64 n], .int .i64 a, .int .i64 5] w fun e w' => e = .returned (.tuple #[.int .i64 0, .int .i64 0, .bool false]) ∧ Below w.heap.size w w' := by
  have hu := Try.underlying27
  have hu5 := Try.underlying125
  have HS := Aside0.mk (start2 w (.cells #[.string s, .int .i64 n] 27) (.cells #[.string s, .int .i64 n, .int .i64 a, .bool false] 125))
  have HRD : Aside0 (ReadIs ((w.alloc (.cells #[.string s, .int .i64 n] 27)).alloc (.cells #[.string s, .int .i64 n, .int .i64 a, .bool false] 125)) (w.heap.size + 1) s n a false) := ⟨HS.out.2.1⟩
  have HB := Aside0.mk HS.out.2.2.1
  clear HS
  have HM := Aside0.mk hm
  clear hm
  go_enter Try.func105, Try.ntmps105
  go_wp2_with (first | (go_at_call 123; ((with_reducible refine (rd_zeta3.calls _ w.heap.size (w.heap.size + 1) k s n a false r a' true HRD.out (Nat.le_succ _) HM.out).mono ?_); rintro e w3 ⟨rfl, hr3, hb3⟩); have HRD3 := Aside0.mk hr3; have HB3 := Aside0.mk (HB.out.trans hb3); clear hr3 hb3 HRD HB; have HRD := HRD3; have HB := HB3; clear HRD3 HB3; (try clear c0 c1 c2 c3 f0 f1 f2 f3); obtain ⟨c0, c1, c2, c3, f0, f1, f2, f3⟩ := four_cells HRD.out) | (go_at_call 118; (with_reducible refine (code_parts.calls 5 3 _ rparts5).mono ?_); rintro e w3 ⟨rfl, hd3⟩; have HRD3 := Aside0.mk (read_below HRD.out hd3.below); have HB3 := Aside0.mk (below_then HB.out HB.out.size hd3.below); clear hd3 HRD HB; have HRD := HRD3; have HB := HB3; clear HRD3 HB3; (try clear c0 c1 c2 c3 f0 f1 f2 f3); obtain ⟨c0, c1, c2, c3, f0, f1, f2, f3⟩ := four_cells HRD.out))
  refine bodyPost_ret (results_list (rs := [.tmp 6, .tmp 7, .tmp 8]) rfl (by simp) (.tmp (.tmp (.tmp .nil)))) rfl ⟨rfl, HB.out⟩
set_option maxHeartbeats 4000000 in
set_option maxRecDepth 100000 in
theorem read5_big (w : World) (k : Nat) (s : ByteArray) (n a r a' : Int) (hm : rd_zeta 3 11 k s n a false = some (r, a', false)) (hr : 1073741824 < r) :
    Calls Try.prog 105 #[.agg #[.string s, .int .i64 n], .int .i64 a, .int .i64 5] w fun e w' => e = .returned (.tuple #[.int .i64 0, .int .i64 0, .bool false]) ∧ Below w.heap.size w w' := by
  have hu := Try.underlying27
  have hu5 := Try.underlying125
  have HS := Aside0.mk (start2 w (.cells #[.string s, .int .i64 n] 27) (.cells #[.string s, .int .i64 n, .int .i64 a, .bool false] 125))
  have HRD : Aside0 (ReadIs ((w.alloc (.cells #[.string s, .int .i64 n] 27)).alloc (.cells #[.string s, .int .i64 n, .int .i64 a, .bool false] 125)) (w.heap.size + 1) s n a false) := ⟨HS.out.2.1⟩
  have HB := Aside0.mk HS.out.2.2.1
  clear HS
  have HM := Aside0.mk hm
  clear hm
  go_enter Try.func105, Try.ntmps105
  go_wp2_with (first | (go_at_call 123; ((with_reducible refine (rd_zeta3.calls _ w.heap.size (w.heap.size + 1) k s n a false r a' false HRD.out (Nat.le_succ _) HM.out).mono ?_); rintro e w3 ⟨rfl, hr3, hb3⟩); have HRD3 := Aside0.mk hr3; have HB3 := Aside0.mk (HB.out.trans hb3); clear hr3 hb3 HRD HB; have HRD := HRD3; have HB := HB3; clear HRD3 HB3; (try clear c0 c1 c2 c3 f0 f1 f2 f3); obtain ⟨c0, c1, c2, c3, f0, f1, f2, f3⟩ := four_cells HRD.out) | (go_at_call 118; (with_reducible refine (code_parts.calls 5 3 _ rparts5).mono ?_); rintro e w3 ⟨rfl, hd3⟩; have HRD3 := Aside0.mk (read_below HRD.out hd3.below); have HB3 := Aside0.mk (below_then HB.out HB.out.size hd3.below); clear hd3 HRD HB; have HRD := HRD3; have HB := HB3; clear HRD3 HB3; (try clear c0 c1 c2 c3 f0 f1 f2 f3); obtain ⟨c0, c1, c2, c3, f0, f1, f2, f3⟩ := four_cells HRD.out))
  refine bodyPost_ret (results_list (rs := [.tmp 6, .tmp 7, .tmp 8]) rfl (by simp) (.tmp (.tmp (.tmp .nil)))) rfl ⟨rfl, HB.out⟩
set_option maxHeartbeats 4000000 in
set_option maxRecDepth 100000 in
theorem read5_ok (w : World) (k : Nat) (s : ByteArray) (n a r a' : Int) (hm : rd_zeta 3 11 k s n a false = some (r, a', false)) (hr : r ≤ 1073741824) :
    Calls Try.prog 105 #[.agg #[.string s, .int .i64 n], .int .i64 a, .int .i64 5] w fun e w' => e = .returned (.tuple #[.int .i64 r, .int .i64 a', .bool true]) ∧ Below w.heap.size w w' := by
  have hu := Try.underlying27
  have hu5 := Try.underlying125
  have HS := Aside0.mk (start2 w (.cells #[.string s, .int .i64 n] 27) (.cells #[.string s, .int .i64 n, .int .i64 a, .bool false] 125))
  have HRD : Aside0 (ReadIs ((w.alloc (.cells #[.string s, .int .i64 n] 27)).alloc (.cells #[.string s, .int .i64 n, .int .i64 a, .bool false] 125)) (w.heap.size + 1) s n a false) := ⟨HS.out.2.1⟩
  have HB := Aside0.mk HS.out.2.2.1
  clear HS
  have HM := Aside0.mk hm
  clear hm
  go_enter Try.func105, Try.ntmps105
  go_wp2_with (first | (go_at_call 123; ((with_reducible refine (rd_zeta3.calls _ w.heap.size (w.heap.size + 1) k s n a false r a' false HRD.out (Nat.le_succ _) HM.out).mono ?_); rintro e w3 ⟨rfl, hr3, hb3⟩); have HRD3 := Aside0.mk hr3; have HB3 := Aside0.mk (HB.out.trans hb3); clear hr3 hb3 HRD HB; have HRD := HRD3; have HB := HB3; clear HRD3 HB3; (try clear c0 c1 c2 c3 f0 f1 f2 f3); obtain ⟨c0, c1, c2, c3, f0, f1, f2, f3⟩ := four_cells HRD.out) | (go_at_call 118; (with_reducible refine (code_parts.calls 5 3 _ rparts5).mono ?_); rintro e w3 ⟨rfl, hd3⟩; have HRD3 := Aside0.mk (read_below HRD.out hd3.below); have HB3 := Aside0.mk (below_then HB.out HB.out.size hd3.below); clear hd3 HRD HB; have HRD := HRD3; have HB := HB3; clear HRD3 HB3; (try clear c0 c1 c2 c3 f0 f1 f2 f3); obtain ⟨c0, c1, c2, c3, f0, f1, f2, f3⟩ := four_cells HRD.out))
  go_region
  go_wp2
  refine bodyPost_ret (results_list (rs := [.tmp 6, .tmp 7, .tmp 8]) rfl (by simp) (.tmp (.tmp (.tmp .nil)))) rfl ⟨rfl, pw_below_drewN HB.out 1⟩
end Go.Proofs.Ytnpghcikhpglkaa.Q
namespace Go.Proofs.Ytnpghcikhpglkaa.Q
open Go.RowKit Go.Proofs.YtnpghcikhpglkaaW.PrintWords Go.Proofs.YtnpghcikhpglkaaW.PrintLast Go.Proofs.YtnpghcikhpglkaaW.PrintMore Go.Proofs.Ytnpghcikhpglkaa.Hand Go.Proofs.Ytnpghcikhpglkaa.Pu
set_option linter.unusedVariables false
/-- So many rounds are enough for bits that may be. -/
def rounds : Nat := 20000
/-- code.Read. -/
def code_Read.f (s : ByteArray) (n a kind : Int) : Option (Int × Int × Bool) :=
  (readK rounds s n a kind).bind fun r => if r.2.2 = true then some (0, 0, false) else if 1073741824 < r.1 then some (0, 0, false) else some (r.1, r.2.1, true)
theorem code_Read.calls (s : ByteArray) (n a kind r1 r2 : Int) (r3 : Bool) (w : World) (h : code_Read.f s n a kind = some (r1, r2, r3)) :
    Calls Try.prog 105 #[.agg #[.string s, .int .i64 n], .int .i64 a, .int .i64 kind] w fun e w' => e = .returned (.tuple #[.int .i64 r1, .int .i64 r2, .bool r3]) ∧ Below w.heap.size w w' := by
  unfold code_Read.f at h
  generalize rounds = k at h
  obtain ⟨⟨r, a', b⟩, h1, h2⟩ := Option.bind_eq_some_iff.1 h
  simp only at h2
  unfold readK at h1
  by_cases k1 : kind = 1
  · subst k1
    rw [if_pos rfl] at h1
    cases b with
    | true =>
      rw [if_pos rfl] at h2
      simp only [Option.some.injEq, Prod.mk.injEq] at h2
      obtain ⟨rfl, rfl, rfl⟩ := h2
      exact read1_bad w k s n a r a' h1
    | false =>
      rw [if_neg (by simp)] at h2
      split at h2
      · rename_i hr
        simp only [Option.some.injEq, Prod.mk.injEq] at h2
        obtain ⟨rfl, rfl, rfl⟩ := h2
        exact read1_big w k s n a r a' h1 hr
      · rename_i hr
        simp only [Option.some.injEq, Prod.mk.injEq] at h2
        obtain ⟨rfl, rfl, rfl⟩ := h2
        exact read1_ok w k s n a r a' h1 (by omega)
  by_cases k2 : kind = 2
  · subst k2
    rw [if_neg (by decide), if_pos rfl] at h1
    cases b with
    | true =>
      rw [if_pos rfl] at h2
      simp only [Option.some.injEq, Prod.mk.injEq] at h2
      obtain ⟨rfl, rfl, rfl⟩ := h2
      exact read2_bad w k s n a r a' h1
    | false =>
      rw [if_neg (by simp)] at h2
      split at h2
      · rename_i hr
        simp only [Option.some.injEq, Prod.mk.injEq] at h2
        obtain ⟨rfl, rfl, rfl⟩ := h2
        exact read2_big w k s n a r a' h1 hr
      · rename_i hr
        simp only [Option.some.injEq, Prod.mk.injEq] at h2
        obtain ⟨rfl, rfl, rfl⟩ := h2
        exact read2_ok w k s n a r a' h1 (by omega)
  by_cases k3 : kind = 3
  · subst k3
    rw [if_neg (by decide), if_neg (by decide), if_pos rfl] at h1
    cases b with
    | true =>
      rw [if_pos rfl] at h2
      simp only [Option.some.injEq, Prod.mk.injEq] at h2
      obtain ⟨rfl, rfl, rfl⟩ := h2
      exact read3_bad w k s n a r a' h1
    | false =>
      rw [if_neg (by simp)] at h2
      split at h2
      · rename_i hr
        simp only [Option.some.injEq, Prod.mk.injEq] at h2
        obtain ⟨rfl, rfl, rfl⟩ := h2
        exact read3_big w k s n a r a' h1 hr
      · rename_i hr
        simp only [Option.some.injEq, Prod.mk.injEq] at h2
        obtain ⟨rfl, rfl, rfl⟩ := h2
        exact read3_ok w k s n a r a' h1 (by omega)
  by_cases k4 : kind = 4
  · subst k4
    rw [if_neg (by decide), if_neg (by decide), if_neg (by decide), if_pos rfl] at h1
    cases b with
    | true =>
      rw [if_pos rfl] at h2
      simp only [Option.some.injEq, Prod.mk.injEq] at h2
      obtain ⟨rfl, rfl, rfl⟩ := h2
      exact read4_bad w k s n a r a' h1
    | false =>
      rw [if_neg (by simp)] at h2
      split at h2
      · rename_i hr
        simp only [Option.some.injEq, Prod.mk.injEq] at h2
        obtain ⟨rfl, rfl, rfl⟩ := h2
        exact read4_big w k s n a r a' h1 hr
      · rename_i hr
        simp only [Option.some.injEq, Prod.mk.injEq] at h2
        obtain ⟨rfl, rfl, rfl⟩ := h2
        exact read4_ok w k s n a r a' h1 (by omega)
  by_cases k5 : kind = 5
  · subst k5
    rw [if_neg (by decide), if_neg (by decide), if_neg (by decide), if_neg (by decide), if_pos rfl] at h1
    cases b with
    | true =>
      rw [if_pos rfl] at h2
      simp only [Option.some.injEq, Prod.mk.injEq] at h2
      obtain ⟨rfl, rfl, rfl⟩ := h2
      exact read5_bad w k s n a r a' h1
    | false =>
      rw [if_neg (by simp)] at h2
      split at h2
      · rename_i hr
        simp only [Option.some.injEq, Prod.mk.injEq] at h2
        obtain ⟨rfl, rfl, rfl⟩ := h2
        exact read5_big w k s n a r a' h1 hr
      · rename_i hr
        simp only [Option.some.injEq, Prod.mk.injEq] at h2
        obtain ⟨rfl, rfl, rfl⟩ := h2
        exact read5_ok w k s n a r a' h1 (by omega)
  rw [if_neg k1, if_neg k2, if_neg k3, if_neg k4, if_neg k5] at h1
  cases h1
end Go.Proofs.Ytnpghcikhpglkaa.Q
namespace Go.Proofs.Ytnpghcikhpglkaa.Q
open Go.RowKit Go.Proofs.YtnpghcikhpglkaaW.PrintWords Go.Proofs.YtnpghcikhpglkaaW.PrintLast Go.Proofs.YtnpghcikhpglkaaW.PrintMore
attribute [local go_sem] max2_int min2_int max_two min_two max_three min_three max_four min_four   -- for this text's walks alone
set_option linter.unusedVariables false
set_option linter.unusedSimpArgs false

/-! ### gaps_Read: function 116 -/
mutual
def gaps_Read.j0 : Nat → Int → List Int → Int → Int → Bool → ByteArray → Int → Option (List Int × Int × Bool)
  | 0, _, _, _, _, _, _, _ => none
  | k + 1, x2, x6, x7, x9, x25, x984000, x984001 => if x25 = true then (some (([] : List Int), 0, false)) else (gaps_Read.l0 k x6 x7 x2 (wrap64 (x9 - 1)) 0 x984000 x984001)
def gaps_Read.l0 : Nat → List Int → Int → Int → Int → Int → ByteArray → Int → Option (List Int × Int × Bool)
  | 0, _, _, _, _, _, _, _ => none
  | k + 1, x6, x7, x10, x28, x29, x984000, x984001 => if x29 < x28 then ((code_Read.f x984000 x984001 x7 2).bind fun bt987 => (if bt987.2.2 = true then (if x29 = 0 then ((code_Unfold.f (wrap64 (bt987.1 - 1))).bind fun t990 => ((gaps_Is.f (wrap64 (x10 + t990))).bind fun t991 => (if t991 = true then (if x6.length < 17592186044416 then (gaps_Read.l0 k (x6 ++ [wrap64 (x10 + t990)]) bt987.2.1 (wrap64 (x10 + t990)) x28 (wrap64 (x29 + 1)) x984000 x984001) else (none)) else (some (([] : List Int), 0, false))))) else ((gaps_Is.f (wrap64 (x10 + bt987.1))).bind fun t995 => (if t995 = true then (if x6.length < 17592186044416 then (gaps_Read.l0 k (x6 ++ [wrap64 (x10 + bt987.1)]) bt987.2.1 (wrap64 (x10 + bt987.1)) x28 (wrap64 (x29 + 1)) x984000 x984001) else (none)) else (some (([] : List Int), 0, false))))) else (some (([] : List Int), 0, false)))) else (some (x6, x7, true))
end
def gaps_Read.f (k : Nat) (a0_0 : ByteArray) (a0_1 : Int) (a1 : Int) (a2 : Int) : Option (List Int × Int × Bool) := (code_Read.f a0_0 a0_1 a1 2).bind fun bt984 => (if bt984.2.2 = true then (gaps_Read.j0 k a2 ([] : List Int) bt984.2.1 bt984.1 (decide (bt984.1 > 17)) a0_0 a0_1) else (gaps_Read.j0 k a2 ([] : List Int) bt984.2.1 bt984.1 true a0_0 a0_1))
theorem gaps_Read.mono_l : ∀ k, (∀ y0 y1 y2 y3 y4 y5 y6, LeO (gaps_Read.j0 k y0 y1 y2 y3 y4 y5 y6) (gaps_Read.j0 (k + 1) y0 y1 y2 y3 y4 y5 y6)) ∧ (∀ y0 y1 y2 y3 y4 y5 y6, LeO (gaps_Read.l0 k y0 y1 y2 y3 y4 y5 y6) (gaps_Read.l0 (k + 1) y0 y1 y2 y3 y4 y5 y6))
  | 0 => ⟨fun _ _ _ _ _ _ _ r h => by simp [gaps_Read.j0] at h, fun _ _ _ _ _ _ _ r h => by simp [gaps_Read.l0] at h⟩
  | k + 1 => by
    obtain ⟨ih0, ih1⟩ := gaps_Read.mono_l k
    refine ⟨?_, ?_⟩
    · intro y0 y1 y2 y3 y4 y5 y6
      unfold gaps_Read.j0
      repeat' first
      | (with_reducible exact ih0 _ _ _ _ _ _ _)
      | (with_reducible exact ih1 _ _ _ _ _ _ _)
      | (with_reducible exact LeO.refl _)
      | (with_reducible exact LeO.none _)
      | (with_reducible refine LeO.ite ?_ ?_)
      | (with_reducible refine LeO.bind ?_ (fun _ => ?_))
      | exact ih0 _ _ _ _ _ _ _
      | exact ih1 _ _ _ _ _ _ _
      | exact LeO.none _
      | refine LeO.ite ?_ ?_
      | refine LeO.bind ?_ (fun _ => ?_)
    · intro y0 y1 y2 y3 y4 y5 y6
      unfold gaps_Read.l0
      repeat' first
      | (with_reducible exact ih0 _ _ _ _ _ _ _)
      | (with_reducible exact ih1 _ _ _ _ _ _ _)
      | (with_reducible exact LeO.refl _)
      | (with_reducible exact LeO.none _)
      | (with_reducible refine LeO.ite ?_ ?_)
      | (with_reducible refine LeO.bind ?_ (fun _ => ?_))
      | exact ih0 _ _ _ _ _ _ _
      | exact ih1 _ _ _ _ _ _ _
      | exact LeO.none _
      | refine LeO.ite ?_ ?_
      | refine LeO.bind ?_ (fun _ => ?_)
theorem gaps_Read.mono : ∀ a0 a1 a2 a3 k, LeO (gaps_Read.f k a0 a1 a2 a3) (gaps_Read.f (k + 1) a0 a1 a2 a3) := by
  intro a0 a1 a2 a3 k
  obtain ⟨ih0, ih1⟩ := gaps_Read.mono_l k
  unfold gaps_Read.f
  repeat' first
      | (with_reducible exact ih0 _ _ _ _ _ _ _)
      | (with_reducible exact ih1 _ _ _ _ _ _ _)
      | (with_reducible exact LeO.refl _)
      | (with_reducible exact LeO.none _)
      | (with_reducible refine LeO.ite ?_ ?_)
      | (with_reducible refine LeO.bind ?_ (fun _ => ?_))
      | exact ih0 _ _ _ _ _ _ _
      | exact ih1 _ _ _ _ _ _ _
      | exact LeO.none _
      | refine LeO.ite ?_ ?_
      | refine LeO.bind ?_ (fun _ => ?_)
set_option maxHeartbeats 8000000 in
set_option maxRecDepth 100000 in
theorem gaps_Read.calls (k : Nat) (a0_0 : ByteArray) (a0_1 : Int) (a1 : Int) (a2 : Int) (r1 : List Int) (r2 : Int) (r3 : Bool) (w : World) (h : gaps_Read.f k a0_0 a0_1 a1 a2 = some (r1, r2, r3)) :
    Calls Try.prog 116 #[.agg #[.string a0_0, .int .i64 a0_1], .int .i64 a1, .int .i64 a2] w fun e w' => ∃ v0_ : Value, e = .returned (.tuple #[v0_, .int .i64 r2, .bool r3]) ∧ Kd.R (Kd.int .i64) 3 w' w.heap.size (fun _ => True) v0_ r1 ∧ Below w.heap.size w w' := by
 have hu27 := Try.underlying27
 have HB := ak (Below.refl w.heap.size w)
 have H : ((code_Read.f a0_0 a0_1 a1 2).bind fun bt984 => (if bt984.2.2 = true then (gaps_Read.j0 k a2 ([] : List Int) bt984.2.1 bt984.1 (decide (bt984.1 > 17)) a0_0 a0_1) else (gaps_Read.j0 k a2 ([] : List Int) bt984.2.1 bt984.1 true a0_0 a0_1))) = some (r1, r2, r3) := h
 clear h
 replace H := Option.bind_eq_some_iff.mp H
 obtain ⟨⟨t984, t985, t986⟩, A40, H⟩ := H
 try dsimp only at H
 have A4 := ak A40
 clear A40
 have HC5 := ak H
 clear H
 go_enter Try.func116, Try.ntmps116
 go_upto_region 2 with (first | ((with_reducible refine gate_dst (N := 3) rfl ?_); refine box_event ?hg (N := 3) ?hd (cs := #[.string a0_0, .int .i64 a0_1]) (t := 27) ?hr ?_; (case hd => rfl); (case hg => rfl); (case hr => first | (go_simp; done) | (go_simp; rfl)); intro gb983 hg w6 hbox hb; have n0_ := ak (below_step (ul HB.out) hb); have n1_ := ak (hbox); have n2_ := ak ((by rw [hg]; exact (below_size (ul HB.out)) : w.heap.size ≤ gb983)); have n3_ := ak ((by rw [hg]; exact (below_size (ul HB.out)) : w.heap.size ≤ gb983)); clear HB; have HB := n0_; have BK983 := n1_; have GW983 := n2_; have GE983 := n3_; clear n0_ n1_ n2_ n3_; clear hb hbox hg; have hcz7_0 : w6.cell? ⟨gb983, 0, none⟩ = some (.string a0_0) := (blk_cell BK983.out 0).trans rfl; have hcz7_1 : w6.cell? ⟨gb983, 1, none⟩ = some (.int .i64 a0_1) := (blk_cell BK983.out 1).trans rfl; have hfz7_0 := blk_frozen BK983.out 0; have hfz7_1 := blk_frozen BK983.out 1) | ((with_reducible refine gate_callee (f := 105) rfl ?_); refine goesL_ (some 16) rfl rfl Try.func105 (by kernel_rfl) rfl #[.agg #[.string a0_0, .int .i64 a0_1], .int .i64 a1, .int .i64 2] rfl (by (try simp only [List.map_toArray, List.map_cons, List.map_nil]); first | done | rfl | (simp only [List.length_drop, List.length_take]; rfl)) ?_; (with_reducible refine (code_Read.calls a0_0 a0_1 a1 2 t984 t985 t986 _ A4.out).mono ?_); rintro e w8 ⟨rfl, hb⟩; refine ⟨_, rfl, ?_⟩; have n0_ := ak (blk_below (g := gb983) (o := .cells #[.string a0_0, .int .i64 a0_1] 27 (0, 0)) (ub BK983.out) hb); have n1_ := ak (below_step (by repeat with_reducible first | exact HB.out | apply b1 | apply b2 | apply b3 | refine b4 ?_ GE983.out) hb); clear BK983; clear HB; have BK983 := n0_; have HB := n1_; clear n0_ n1_; (try clear hb); (try clear hb2); (try clear hk); (try clear hi)))
 (try simp only [Act.put, s1, s2, s3])
 go_cut [25] (fun v25 wc => ∃ (kq : Nat) (x25_4 : Bool), v25 = .bool x25_4 ∧ Aside0 (gaps_Read.j0 kq a2 ([] : List Int) t985 t984 x25_4 a0_0 a0_1 = some (r1, r2, r3)) ∧ Aside0 (kq ≤ k) ∧ Aside0 (Kd.R (Kd.int .i64) 3 wc w.heap.size (fun _ => True) (.slice none 0 0) ([] : List Int)) ∧ Aside0 (wc.heap[gb983]? = some (.cells #[.string a0_0, .int .i64 a0_1] 27 (0, 0))) ∧ Aside0 (Below w.heap.size w wc))
 case first =>
  have H := HC5.out
  clear HC5
  by_cases c9 : t986 = true
  ·
   subst c9
   rw [if_pos rfl] at H
   have H' := ak H
   clear H
   go_wp2
   go_meet
   case rel => exact ⟨_, (decide (t984 > 17)), (by first | rfl | (simp; done) | (simp [*]; done)), H', ⟨by first | omega | exact Nat.le_refl _⟩, ⟨by first | exact Kd.R_nil _ _ _ _ _ | exact Kd.N_nil _ _ _ _ _ | exact Kd.V_nil _ _ _ _ _ | exact Kd.Q_nil _ _ _ _ _ | exact Kd.S_nil _ _ _ _ _⟩, ⟨ub BK983.out⟩, ⟨by repeat with_reducible first | exact HB.out | apply b1 | apply b2 | apply b3 | refine b4 ?_ GE983.out⟩⟩
  replace c9 := Bool.eq_false_iff.mpr c9
  subst c9
  rw [if_neg (show ¬ (false = true) by decide)] at H
  have H' := ak H
  clear H
  go_wp2
  go_meet
  case rel => exact ⟨_, (true), (by first | rfl | (simp; done) | (simp [*]; done)), H', ⟨by first | omega | exact Nat.le_refl _⟩, ⟨by first | exact Kd.R_nil _ _ _ _ _ | exact Kd.N_nil _ _ _ _ _ | exact Kd.V_nil _ _ _ _ _ | exact Kd.Q_nil _ _ _ _ _ | exact Kd.S_nil _ _ _ _ _⟩, ⟨ub BK983.out⟩, ⟨by repeat with_reducible first | exact HB.out | apply b1 | apply b2 | apply b3 | refine b4 ?_ GE983.out⟩⟩
 clear HC5
 (try clear hcz7_0); (try clear hcz7_1); (try clear hfz7_0); (try clear hfz7_1)
 obtain ⟨kq, x25_4, rfl, HA, HJ4, HO_6, BK983, HB⟩ := hcut
 cases kq with
 | zero => exact absurd HA.out (by simp [gaps_Read.j0])
 | succ kj4 => ?_
 have H := HA.out
 clear HA
 simp only [gaps_Read.j0] at H
 by_cases c10 : x25_4 = true
 ·
  subst c10
  rw [if_pos rfl] at H
  simp only [Option.some.injEq, Prod.mk.injEq] at H
  obtain ⟨rfl, rfl, rfl⟩ := H
  go_wp2
  go_ret3
  exact ⟨_, by first | rfl | (simp [errW_none, errW_some] <;> rfl) | (simp [*, errW_none, errW_some] <;> rfl), by first | exact Kd.R_nil _ _ _ _ _ | exact Kd.N_nil _ _ _ _ _ | exact Kd.V_nil _ _ _ _ _ | exact Kd.Q_nil _ _ _ _ _ | exact Kd.S_nil _ _ _ _ _, by repeat with_reducible first | exact HB.out | apply b1 | apply b2 | apply b3 | refine b4 ?_ GE983.out⟩
 replace c10 := Bool.eq_false_iff.mpr c10
 subst c10
 rw [if_neg (show ¬ (false = true) by decide)] at H
 have H' := ak H
 clear H
 go_wp2
 go_loopg [6, 7, 10, 29] kj4 (fun kq v6 v7 v10 v29 w' => ∃ (x6_2 : List Int) (x7_2 : Int) (x10_2 : Int) (x29_2 : Int), v7 = .int .i64 x7_2 ∧ v10 = .int .i64 x10_2 ∧ v29 = .int .i64 x29_2 ∧ Aside0 (gaps_Read.l0 kq x6_2 x7_2 x10_2 (wrap64 (t984 - 1)) x29_2 a0_0 a0_1 = some (r1, r2, r3)) ∧ Aside0 (kq ≤ kj4) ∧ Aside0 (Kd.R (Kd.int .i64) 3 w' w.heap.size (fun _ => True) v6 x6_2) ∧ Aside0 (w'.heap[gb983]? = some (.cells #[.string a0_0, .int .i64 a0_1] 27 (0, 0))) ∧ Aside0 (Below w.heap.size w w'))
 case atStart => exact ⟨(([] : List Int)), (t985), (a2), (0), (by first | rfl | (simp; done) | (simp [*]; done)), (by first | rfl | (simp; done) | (simp [*]; done)), (by first | rfl | (simp; done) | (simp [*]; done)), H', ⟨Nat.le_refl _⟩, ⟨ur <| HO_6.out⟩, ⟨ub BK983.out⟩, ⟨by repeat with_reducible first | exact HB.out | apply b1 | apply b2 | apply b3 | refine b4 ?_ GE983.out⟩⟩
 clear H'
 (try clear c10); (try clear hcz7_0); (try clear hcz7_1); (try clear hfz7_0); (try clear hfz7_1)
 obtain ⟨x6_2, x7_2, x10_2, x29_2, rfl, rfl, rfl, HA, HK2, HO_6, BK983, HB⟩ := hrel
 cases gk with
 | zero => exact absurd HA.out (by simp [gaps_Read.l0])
 | succ k2 => ?_
 have H := HA.out
 clear HA
 simp only [gaps_Read.l0] at H
 by_cases c11 : x29_2 < (wrap64 (t984 - 1))
 rotate_left
 ·
  rw [if_neg c11] at H
  have c11b0 : decide (x29_2 < (wrap64 (t984 - 1))) = false := decide_eq_false c11
  clear c11
  simp only [Option.some.injEq, Prod.mk.injEq] at H
  obtain ⟨rfl, rfl, rfl⟩ := H
  go_wp2
  go_ret3
  exact ⟨_, by first | rfl | (simp [errW_none, errW_some] <;> rfl) | (simp [*, errW_none, errW_some] <;> rfl), ur <| HO_6.out, by repeat with_reducible first | exact HB.out | apply b1 | apply b2 | apply b3 | refine b4 ?_ GE983.out⟩
 rw [if_pos c11] at H
 have c11b0 : decide (x29_2 < (wrap64 (t984 - 1))) = true := decide_eq_true c11
 clear c11
 replace H := Option.bind_eq_some_iff.mp H
 obtain ⟨⟨t987, t988, t989⟩, A120, H⟩ := H
 try dsimp only at H
 have A12 := ak A120
 clear A120
 by_cases c13 : t989 = true
 rotate_left
 ·
  replace c13 := Bool.eq_false_iff.mpr c13
  subst c13
  rw [if_neg (show ¬ (false = true) by decide)] at H
  simp only [Option.some.injEq, Prod.mk.injEq] at H
  obtain ⟨rfl, rfl, rfl⟩ := H
  have hcz32_0 : wr.cell? ⟨gb983, 0, none⟩ = some (.string a0_0) := (blk_cell BK983.out 0).trans rfl
  have hcz32_1 : wr.cell? ⟨gb983, 1, none⟩ = some (.int .i64 a0_1) := (blk_cell BK983.out 1).trans rfl
  have hfz32_0 := blk_frozen BK983.out 0
  have hfz32_1 := blk_frozen BK983.out 1
  go_wp2_with (first | ((with_reducible refine gate_callee (f := 105) rfl ?_); refine goesL_ (some 35) rfl rfl Try.func105 (by kernel_rfl) rfl #[.agg #[.string a0_0, .int .i64 a0_1], .int .i64 x7_2, .int .i64 2] rfl (by (try simp only [List.map_toArray, List.map_cons, List.map_nil]); first | done | rfl | (simp only [List.length_drop, List.length_take]; rfl)) ?_; (with_reducible refine (code_Read.calls a0_0 a0_1 x7_2 2 t987 t988 false _ A12.out).mono ?_); rintro e w33 ⟨rfl, hb⟩; refine ⟨_, rfl, ?_⟩; have n0_ := ak (Kd.R_below (ur <| HO_6.out) hb); have n1_ := ak (blk_below (g := gb983) (o := .cells #[.string a0_0, .int .i64 a0_1] 27 (0, 0)) (ub BK983.out) hb); have n2_ := ak (below_step (by repeat with_reducible first | exact HB.out | apply b1 | apply b2 | apply b3 | refine b4 ?_ GE983.out) hb); clear HO_6; clear BK983; clear HB; have HO_6 := n0_; have BK983 := n1_; have HB := n2_; clear n0_ n1_ n2_; (try clear hb); (try clear hb2); (try clear hk); (try clear hi)))
  go_ret3
  exact ⟨_, by first | rfl | (simp [errW_none, errW_some] <;> rfl) | (simp [*, errW_none, errW_some] <;> rfl), by first | exact Kd.R_nil _ _ _ _ _ | exact Kd.N_nil _ _ _ _ _ | exact Kd.V_nil _ _ _ _ _ | exact Kd.Q_nil _ _ _ _ _ | exact Kd.S_nil _ _ _ _ _, by repeat with_reducible first | exact HB.out | apply b1 | apply b2 | apply b3 | refine b4 ?_ GE983.out⟩
 subst c13
 rw [if_pos rfl] at H
 by_cases c14 : x29_2 = 0
 rotate_left
 ·
  rw [if_neg c14] at H
  have c14b0 : (x29_2 == 0) = false := beq_eq_false_iff_ne.mpr c14
  have c14b1 : (x29_2 != 0) = true := bne_iff_ne.mpr c14
  replace H := Option.bind_eq_some_iff.mp H
  obtain ⟨t995, A240, H⟩ := H
  try dsimp only at H
  have A24 := ak A240
  clear A240
  by_cases c25 : t995 = true
  rotate_left
  ·
   replace c25 := Bool.eq_false_iff.mpr c25
   subst c25
   rw [if_neg (show ¬ (false = true) by decide)] at H
   simp only [Option.some.injEq, Prod.mk.injEq] at H
   obtain ⟨rfl, rfl, rfl⟩ := H
   have hcz30_0 : wr.cell? ⟨gb983, 0, none⟩ = some (.string a0_0) := (blk_cell BK983.out 0).trans rfl
   have hcz30_1 : wr.cell? ⟨gb983, 1, none⟩ = some (.int .i64 a0_1) := (blk_cell BK983.out 1).trans rfl
   have hfz30_0 := blk_frozen BK983.out 0
   have hfz30_1 := blk_frozen BK983.out 1
   go_wp2_with (first | ((with_reducible refine gate_callee (f := 105) rfl ?_); refine goesL_ (some 35) rfl rfl Try.func105 (by kernel_rfl) rfl #[.agg #[.string a0_0, .int .i64 a0_1], .int .i64 x7_2, .int .i64 2] rfl (by (try simp only [List.map_toArray, List.map_cons, List.map_nil]); first | done | rfl | (simp only [List.length_drop, List.length_take]; rfl)) ?_; (with_reducible refine (code_Read.calls a0_0 a0_1 x7_2 2 t987 t988 true _ A12.out).mono ?_); rintro e w31 ⟨rfl, hb⟩; refine ⟨_, rfl, ?_⟩; have n0_ := ak (Kd.R_below (ur <| HO_6.out) hb); have n1_ := ak (blk_below (g := gb983) (o := .cells #[.string a0_0, .int .i64 a0_1] 27 (0, 0)) (ub BK983.out) hb); have n2_ := ak (below_step (by repeat with_reducible first | exact HB.out | apply b1 | apply b2 | apply b3 | refine b4 ?_ GE983.out) hb); clear HO_6; clear BK983; clear HB; have HO_6 := n0_; have BK983 := n1_; have HB := n2_; clear n0_ n1_ n2_; (try clear hb); (try clear hb2); (try clear hk); (try clear hi)) | ((with_reducible refine gate_callee (f := 113) rfl ?_); refine goesL_ (some 50) rfl rfl Try.func113 (by kernel_rfl) rfl #[.int .i64 (wrap64 (x10_2 + t987))] rfl (by (try simp only [List.map_toArray, List.map_cons, List.map_nil]); first | done | rfl | (simp only [List.length_drop, List.length_take]; rfl)) ?_; (with_reducible refine (gaps_Is.calls (wrap64 (x10_2 + t987)) false _ A24.out).mono ?_); rintro e w' ⟨rfl, ⟨nd, rfl⟩⟩; refine ⟨_, rfl, ?_⟩))
   go_ret3
   exact ⟨_, by first | rfl | (simp [errW_none, errW_some] <;> rfl) | (simp [*, errW_none, errW_some] <;> rfl), by first | exact Kd.R_nil _ _ _ _ _ | exact Kd.N_nil _ _ _ _ _ | exact Kd.V_nil _ _ _ _ _ | exact Kd.Q_nil _ _ _ _ _ | exact Kd.S_nil _ _ _ _ _, by repeat with_reducible first | exact HB.out | apply b1 | apply b2 | apply b3 | refine b4 ?_ GE983.out⟩
  subst c25
  rw [if_pos rfl] at H
  by_cases c26 : x6_2.length < 17592186044416
  rotate_left
  ·
   rw [if_neg c26] at H
   exact absurd H (by simp)
  rw [if_pos c26] at H
  have LMc26 := ak c26
  clear c26
  obtain ⟨y996, hy996⟩ : ∃ y_ : List Int, y_ = (x6_2 ++ [wrap64 (x10_2 + t987)]) := ⟨_, rfl⟩
  replace H : (gaps_Read.l0 k2 y996 t988 (wrap64 (x10_2 + t987)) (wrap64 (t984 - 1)) (wrap64 (x29_2 + 1)) a0_0 a0_1) = some (r1, r2, r3) := by first | (rw [hy996]; with_reducible exact H) | (have H2_ := (Option.bind_some _ _).symm.trans H; rw [hy996]; with_reducible exact H2_) | (have H2_ := (Option.bind_some _ _).symm.trans H; with_reducible exact H2_) | with_reducible exact H | (rw [hy996]; exact H) | exact H
  have Ny996 := ak hy996
  clear hy996
  have H' := ak H
  clear H
  have hcz27_0 : wr.cell? ⟨gb983, 0, none⟩ = some (.string a0_0) := (blk_cell BK983.out 0).trans rfl
  have hcz27_1 : wr.cell? ⟨gb983, 1, none⟩ = some (.int .i64 a0_1) := (blk_cell BK983.out 1).trans rfl
  have hfz27_0 := blk_frozen BK983.out 0
  have hfz27_1 := blk_frozen BK983.out 1
  go_wp2_with (first | ((with_reducible refine gate_callee (f := 105) rfl ?_); refine goesL_ (some 35) rfl rfl Try.func105 (by kernel_rfl) rfl #[.agg #[.string a0_0, .int .i64 a0_1], .int .i64 x7_2, .int .i64 2] rfl (by (try simp only [List.map_toArray, List.map_cons, List.map_nil]); first | done | rfl | (simp only [List.length_drop, List.length_take]; rfl)) ?_; (with_reducible refine (code_Read.calls a0_0 a0_1 x7_2 2 t987 t988 true _ A12.out).mono ?_); rintro e w28 ⟨rfl, hb⟩; refine ⟨_, rfl, ?_⟩; have n0_ := ak (Kd.R_below (ur <| HO_6.out) hb); have n1_ := ak (blk_below (g := gb983) (o := .cells #[.string a0_0, .int .i64 a0_1] 27 (0, 0)) (ub BK983.out) hb); have n2_ := ak (below_step (by repeat with_reducible first | exact HB.out | apply b1 | apply b2 | apply b3 | refine b4 ?_ GE983.out) hb); clear HO_6; clear BK983; clear HB; have HO_6 := n0_; have BK983 := n1_; have HB := n2_; clear n0_ n1_ n2_; (try clear hb); (try clear hb2); (try clear hk); (try clear hi)) | ((with_reducible refine gate_callee (f := 113) rfl ?_); refine goesL_ (some 50) rfl rfl Try.func113 (by kernel_rfl) rfl #[.int .i64 (wrap64 (x10_2 + t987))] rfl (by (try simp only [List.map_toArray, List.map_cons, List.map_nil]); first | done | rfl | (simp only [List.length_drop, List.length_take]; rfl)) ?_; (with_reducible refine (gaps_Is.calls (wrap64 (x10_2 + t987)) true _ A24.out).mono ?_); rintro e w' ⟨rfl, ⟨nd, rfl⟩⟩; refine ⟨_, rfl, ?_⟩) | ((with_reducible refine gate_builtin (b := .append) (xs := #[.tmp 52, .tmp 54]) rfl ?_); at_builtin; refine Kd.R_append (Kd.int .i64) (w0 := w) w.heap.size rfl (.tmp 52) (.tmp 54) 23 3 (.int .i64 0) 8 rfl Try.underlying23 info3 rfl (by decide) (by omega) u6 x6_2 (wrap64 (x10_2 + t987)) [.int .i64 (wrap64 (x10_2 + t987))] (fun _ => True) (fun _ => False) rfl rfl ?aP (fun _ hk => hk.elim) ?aF ?aO ?aB ?aS ?aL ?_; (case aP => exact rfl); (case aB => exact (by repeat with_reducible first | exact HB.out | apply b1 | apply b2 | apply b3 | refine b4 ?_ GE983.out)); (case aF => exact (fun _ _ => trivial)); (case aO => exact (ur <| HO_6.out)); (case aS => exact (below_size (by repeat with_reducible first | exact HB.out | apply b1 | apply b2 | apply b3 | refine b4 ?_ GE983.out))); (case aL => have := LMc26.out; omega); intro v997 w29 ho hb hg hat; rw [← Ny996.out] at ho; have n0_ := ak (blk_grown (g := gb983) (o := .cells #[.string a0_0, .int .i64 a0_1] 27 (0, 0)) (ub BK983.out) hg (Kd.R_ne HO_6.out BK983.out (by decide))); have n1_ := ak (hb); have n2_ := ak (ho); clear BK983; clear HB; clear HO_6; have BK983 := n0_; have HB := n1_; have HO998 := n2_; clear n0_ n1_ n2_; clear ho hb hg hat))
  go_roundg k2
  case measure => have := HJ4.out; have := HK2.out; omega
  case rel => exact ⟨(y996), (t988), (wrap64 (x10_2 + t987)), (wrap64 (x29_2 + 1)), (by first | rfl | (simp; done) | (simp [*]; done)), (by first | rfl | (simp; done) | (simp [*]; done)), (by first | rfl | (simp; done) | (simp [*]; done)), H', ⟨by have := HJ4.out; have := HK2.out; omega⟩, ⟨ur <| HO998.out⟩, ⟨ub BK983.out⟩, ⟨by repeat with_reducible first | exact HB.out | apply b1 | apply b2 | apply b3 | refine b4 ?_ GE983.out⟩⟩
 rw [if_pos c14] at H
 have c14b0 : (x29_2 == 0) = true := beq_iff_eq.mpr c14
 have c14b1 : (x29_2 != 0) = false := bne_eq_false_iff_eq.mpr c14
 clear c14
 replace H := Option.bind_eq_some_iff.mp H
 obtain ⟨t990, A150, H⟩ := H
 try dsimp only at H
 have A15 := ak A150
 clear A150
 replace H := Option.bind_eq_some_iff.mp H
 obtain ⟨t991, A160, H⟩ := H
 try dsimp only at H
 have A16 := ak A160
 clear A160
 by_cases c17 : t991 = true
 rotate_left
 ·
  replace c17 := Bool.eq_false_iff.mpr c17
  subst c17
  rw [if_neg (show ¬ (false = true) by decide)] at H
  simp only [Option.some.injEq, Prod.mk.injEq] at H
  obtain ⟨rfl, rfl, rfl⟩ := H
  have hcz22_0 : wr.cell? ⟨gb983, 0, none⟩ = some (.string a0_0) := (blk_cell BK983.out 0).trans rfl
  have hcz22_1 : wr.cell? ⟨gb983, 1, none⟩ = some (.int .i64 a0_1) := (blk_cell BK983.out 1).trans rfl
  have hfz22_0 := blk_frozen BK983.out 0
  have hfz22_1 := blk_frozen BK983.out 1
  go_wp2_with (first | ((with_reducible refine gate_callee (f := 105) rfl ?_); refine goesL_ (some 35) rfl rfl Try.func105 (by kernel_rfl) rfl #[.agg #[.string a0_0, .int .i64 a0_1], .int .i64 x7_2, .int .i64 2] rfl (by (try simp only [List.map_toArray, List.map_cons, List.map_nil]); first | done | rfl | (simp only [List.length_drop, List.length_take]; rfl)) ?_; (with_reducible refine (code_Read.calls a0_0 a0_1 x7_2 2 t987 t988 true _ A12.out).mono ?_); rintro e w23 ⟨rfl, hb⟩; refine ⟨_, rfl, ?_⟩; have n0_ := ak (Kd.R_below (ur <| HO_6.out) hb); have n1_ := ak (blk_below (g := gb983) (o := .cells #[.string a0_0, .int .i64 a0_1] 27 (0, 0)) (ub BK983.out) hb); have n2_ := ak (below_step (by repeat with_reducible first | exact HB.out | apply b1 | apply b2 | apply b3 | refine b4 ?_ GE983.out) hb); clear HO_6; clear BK983; clear HB; have HO_6 := n0_; have BK983 := n1_; have HB := n2_; clear n0_ n1_ n2_; (try clear hb); (try clear hb2); (try clear hk); (try clear hi)) | ((with_reducible refine gate_callee (f := 111) rfl ?_); refine goesL_ (some 45) rfl rfl Try.func111 (by kernel_rfl) rfl #[.int .i64 (wrap64 (t987 - 1))] rfl (by (try simp only [List.map_toArray, List.map_cons, List.map_nil]); first | done | rfl | (simp only [List.length_drop, List.length_take]; rfl)) ?_; (with_reducible refine (code_Unfold.calls (wrap64 (t987 - 1)) t990 _ A15.out).mono ?_); rintro e w' ⟨rfl, ⟨nd, rfl⟩⟩; refine ⟨_, rfl, ?_⟩) | ((with_reducible refine gate_callee (f := 113) rfl ?_); refine goesL_ (some 50) rfl rfl Try.func113 (by kernel_rfl) rfl #[.int .i64 (wrap64 (x10_2 + t990))] rfl (by (try simp only [List.map_toArray, List.map_cons, List.map_nil]); first | done | rfl | (simp only [List.length_drop, List.length_take]; rfl)) ?_; (with_reducible refine (gaps_Is.calls (wrap64 (x10_2 + t990)) false _ A16.out).mono ?_); rintro e w' ⟨rfl, ⟨nd, rfl⟩⟩; refine ⟨_, rfl, ?_⟩))
  go_ret3
  exact ⟨_, by first | rfl | (simp [errW_none, errW_some] <;> rfl) | (simp [*, errW_none, errW_some] <;> rfl), by first | exact Kd.R_nil _ _ _ _ _ | exact Kd.N_nil _ _ _ _ _ | exact Kd.V_nil _ _ _ _ _ | exact Kd.Q_nil _ _ _ _ _ | exact Kd.S_nil _ _ _ _ _, by repeat with_reducible first | exact HB.out | apply b1 | apply b2 | apply b3 | refine b4 ?_ GE983.out⟩
 subst c17
 rw [if_pos rfl] at H
 by_cases c18 : x6_2.length < 17592186044416
 rotate_left
 ·
  rw [if_neg c18] at H
  exact absurd H (by simp)
 rw [if_pos c18] at H
 have LMc18 := ak c18
 clear c18
 obtain ⟨y992, hy992⟩ : ∃ y_ : List Int, y_ = (x6_2 ++ [wrap64 (x10_2 + t990)]) := ⟨_, rfl⟩
 replace H : (gaps_Read.l0 k2 y992 t988 (wrap64 (x10_2 + t990)) (wrap64 (t984 - 1)) (wrap64 (x29_2 + 1)) a0_0 a0_1) = some (r1, r2, r3) := by first | (rw [hy992]; with_reducible exact H) | (have H2_ := (Option.bind_some _ _).symm.trans H; rw [hy992]; with_reducible exact H2_) | (have H2_ := (Option.bind_some _ _).symm.trans H; with_reducible exact H2_) | with_reducible exact H | (rw [hy992]; exact H) | exact H
 have Ny992 := ak hy992
 clear hy992
 have H' := ak H
 clear H
 have hcz19_0 : wr.cell? ⟨gb983, 0, none⟩ = some (.string a0_0) := (blk_cell BK983.out 0).trans rfl
 have hcz19_1 : wr.cell? ⟨gb983, 1, none⟩ = some (.int .i64 a0_1) := (blk_cell BK983.out 1).trans rfl
 have hfz19_0 := blk_frozen BK983.out 0
 have hfz19_1 := blk_frozen BK983.out 1
 go_wp2_with (first | ((with_reducible refine gate_callee (f := 105) rfl ?_); refine goesL_ (some 35) rfl rfl Try.func105 (by kernel_rfl) rfl #[.agg #[.string a0_0, .int .i64 a0_1], .int .i64 x7_2, .int .i64 2] rfl (by (try simp only [List.map_toArray, List.map_cons, List.map_nil]); first | done | rfl | (simp only [List.length_drop, List.length_take]; rfl)) ?_; (with_reducible refine (code_Read.calls a0_0 a0_1 x7_2 2 t987 t988 true _ A12.out).mono ?_); rintro e w20 ⟨rfl, hb⟩; refine ⟨_, rfl, ?_⟩; have n0_ := ak (Kd.R_below (ur <| HO_6.out) hb); have n1_ := ak (blk_below (g := gb983) (o := .cells #[.string a0_0, .int .i64 a0_1] 27 (0, 0)) (ub BK983.out) hb); have n2_ := ak (below_step (by repeat with_reducible first | exact HB.out | apply b1 | apply b2 | apply b3 | refine b4 ?_ GE983.out) hb); clear HO_6; clear BK983; clear HB; have HO_6 := n0_; have BK983 := n1_; have HB := n2_; clear n0_ n1_ n2_; (try clear hb); (try clear hb2); (try clear hk); (try clear hi)) | ((with_reducible refine gate_callee (f := 111) rfl ?_); refine goesL_ (some 45) rfl rfl Try.func111 (by kernel_rfl) rfl #[.int .i64 (wrap64 (t987 - 1))] rfl (by (try simp only [List.map_toArray, List.map_cons, List.map_nil]); first | done | rfl | (simp only [List.length_drop, List.length_take]; rfl)) ?_; (with_reducible refine (code_Unfold.calls (wrap64 (t987 - 1)) t990 _ A15.out).mono ?_); rintro e w' ⟨rfl, ⟨nd, rfl⟩⟩; refine ⟨_, rfl, ?_⟩) | ((with_reducible refine gate_callee (f := 113) rfl ?_); refine goesL_ (some 50) rfl rfl Try.func113 (by kernel_rfl) rfl #[.int .i64 (wrap64 (x10_2 + t990))] rfl (by (try simp only [List.map_toArray, List.map_cons, List.map_nil]); first | done | rfl | (simp only [List.length_drop, List.length_take]; rfl)) ?_; (with_reducible refine (gaps_Is.calls (wrap64 (x10_2 + t990)) true _ A16.out).mono ?_); rintro e w' ⟨rfl, ⟨nd, rfl⟩⟩; refine ⟨_, rfl, ?_⟩) | ((with_reducible refine gate_builtin (b := .append) (xs := #[.tmp 52, .tmp 54]) rfl ?_); at_builtin; refine Kd.R_append (Kd.int .i64) (w0 := w) w.heap.size rfl (.tmp 52) (.tmp 54) 23 3 (.int .i64 0) 8 rfl Try.underlying23 info3 rfl (by decide) (by omega) u6 x6_2 (wrap64 (x10_2 + t990)) [.int .i64 (wrap64 (x10_2 + t990))] (fun _ => True) (fun _ => False) rfl rfl ?aP (fun _ hk => hk.elim) ?aF ?aO ?aB ?aS ?aL ?_; (case aP => exact rfl); (case aB => exact (by repeat with_reducible first | exact HB.out | apply b1 | apply b2 | apply b3 | refine b4 ?_ GE983.out)); (case aF => exact (fun _ _ => trivial)); (case aO => exact (ur <| HO_6.out)); (case aS => exact (below_size (by repeat with_reducible first | exact HB.out | apply b1 | apply b2 | apply b3 | refine b4 ?_ GE983.out))); (case aL => have := LMc18.out; omega); intro v993 w21 ho hb hg hat; rw [← Ny992.out] at ho; have n0_ := ak (blk_grown (g := gb983) (o := .cells #[.string a0_0, .int .i64 a0_1] 27 (0, 0)) (ub BK983.out) hg (Kd.R_ne HO_6.out BK983.out (by decide))); have n1_ := ak (hb); have n2_ := ak (ho); clear BK983; clear HB; clear HO_6; have BK983 := n0_; have HB := n1_; have HO994 := n2_; clear n0_ n1_ n2_; clear ho hb hg hat))
 go_roundg k2
 case measure => have := HJ4.out; have := HK2.out; omega
 case rel => exact ⟨(y992), (t988), (wrap64 (x10_2 + t990)), (wrap64 (x29_2 + 1)), (by first | rfl | (simp; done) | (simp [*]; done)), (by first | rfl | (simp; done) | (simp [*]; done)), (by first | rfl | (simp; done) | (simp [*]; done)), H', ⟨by have := HJ4.out; have := HK2.out; omega⟩, ⟨ur <| HO994.out⟩, ⟨ub BK983.out⟩, ⟨by repeat with_reducible first | exact HB.out | apply b1 | apply b2 | apply b3 | refine b4 ?_ GE983.out⟩⟩
end Go.Proofs.Ytnpghcikhpglkaa.Q
namespace Go.Proofs.Ytnpghcikhpglkaa.Q
open Go.RowKit Go.Proofs.YtnpghcikhpglkaaW.PrintWords Go.Proofs.YtnpghcikhpglkaaW.PrintLast Go.Proofs.YtnpghcikhpglkaaW.PrintMore
attribute [local go_sem] max2_int min2_int max_two min_two max_three min_three max_four min_four   -- for this text's walks alone
set_option linter.unusedVariables false
set_option linter.unusedSimpArgs false

/-! ### gaps_Take: function 73 -/
def gaps_Take.j0 : Nat → Int → Int → Bool → ByteArray → Int → Option (List Int × Int × Int)
  | 0, _, _, _, _, _ => none
  | k + 1, x1, x2, x27, x1000000, x1000001 => if x27 = true then (some (([] : List Int), 0, 1)) else ((gaps_Read.f k x1000000 x1000001 x1 x2).bind fun bt1002 => (if bt1002.2.2 = true then (some (bt1002.1, bt1002.2.1, 0)) else (some (([] : List Int), 0, 9))))
def gaps_Take.f (k : Nat) (a0_0 : ByteArray) (a0_1 : Int) (a1 : Int) (a2 : Int) : Option (List Int × Int × Int) := (bits_May.f a0_0 a0_1).bind fun t1000 => (if t1000 = true then ((gaps_Is.f a2).bind fun t1001 => (if t1001 = true then (if a1 < 0 then (gaps_Take.j0 k a1 a2 true a0_0 a0_1) else (gaps_Take.j0 k a1 a2 (decide (a1 > a0_1)) a0_0 a0_1)) else (gaps_Take.j0 k a1 a2 true a0_0 a0_1))) else (gaps_Take.j0 k a1 a2 true a0_0 a0_1))
theorem gaps_Take.mono_l : ∀ k, (∀ y0 y1 y2 y3 y4, LeO (gaps_Take.j0 k y0 y1 y2 y3 y4) (gaps_Take.j0 (k + 1) y0 y1 y2 y3 y4))
  | 0 => fun _ _ _ _ _ r h => by simp [gaps_Take.j0] at h
  | k + 1 => by
    have ih0 := gaps_Take.mono_l k
    · intro y0 y1 y2 y3 y4
      unfold gaps_Take.j0
      repeat' first
      | (with_reducible exact ih0 _ _ _ _ _)
      | (with_reducible exact gaps_Read.mono _ _ _ _ _)
      | (with_reducible exact LeO.refl _)
      | (with_reducible exact LeO.none _)
      | (with_reducible refine LeO.ite ?_ ?_)
      | (with_reducible refine LeO.bind ?_ (fun _ => ?_))
      | exact ih0 _ _ _ _ _
      | exact gaps_Read.mono _ _ _ _ _
      | exact LeO.none _
      | refine LeO.ite ?_ ?_
      | refine LeO.bind ?_ (fun _ => ?_)
theorem gaps_Take.mono : ∀ a0 a1 a2 a3 k, LeO (gaps_Take.f k a0 a1 a2 a3) (gaps_Take.f (k + 1) a0 a1 a2 a3) := by
  intro a0 a1 a2 a3 k
  have ih0 := gaps_Take.mono_l k
  unfold gaps_Take.f
  repeat' first
      | (with_reducible exact ih0 _ _ _ _ _)
      | (with_reducible exact gaps_Read.mono _ _ _ _ _)
      | (with_reducible exact LeO.refl _)
      | (with_reducible exact LeO.none _)
      | (with_reducible refine LeO.ite ?_ ?_)
      | (with_reducible refine LeO.bind ?_ (fun _ => ?_))
      | exact ih0 _ _ _ _ _
      | exact gaps_Read.mono _ _ _ _ _
      | exact LeO.none _
      | refine LeO.ite ?_ ?_
      | refine LeO.bind ?_ (fun _ => ?_)
set_option maxHeartbeats 8000000 in
set_option maxRecDepth 100000 in
theorem gaps_Take.calls (k : Nat) (a0_0 : ByteArray) (a0_1 : Int) (a1 : Int) (a2 : Int) (r1 : List Int) (r2 : Int) (r3 : Int) (w : World) (h : gaps_Take.f k a0_0 a0_1 a1 a2 = some (r1, r2, r3)) :
    Calls Try.prog 73 #[.agg #[.string a0_0, .int .i64 a0_1], .int .i64 a1, .int .i64 a2] w fun e w' => ∃ v0_ : Value, e = .returned (.tuple #[v0_, .int .i64 r2, .int .i64 r3]) ∧ Kd.R (Kd.int .i64) 3 w' w.heap.size (fun _ => True) v0_ r1 ∧ Below w.heap.size w w' := by
 have hu27 := Try.underlying27
 have HB := ak (Below.refl w.heap.size w)
 have H : ((bits_May.f a0_0 a0_1).bind fun t1000 => (if t1000 = true then ((gaps_Is.f a2).bind fun t1001 => (if t1001 = true then (if a1 < 0 then (gaps_Take.j0 k a1 a2 true a0_0 a0_1) else (gaps_Take.j0 k a1 a2 (decide (a1 > a0_1)) a0_0 a0_1)) else (gaps_Take.j0 k a1 a2 true a0_0 a0_1))) else (gaps_Take.j0 k a1 a2 true a0_0 a0_1))) = some (r1, r2, r3) := h
 clear h
 have HC4 := ak H
 clear H
 go_enter Try.func73, Try.ntmps73
 go_upto_region 1 with (first | ((with_reducible refine gate_dst (N := 3) rfl ?_); refine box_event ?hg (N := 3) ?hd (cs := #[.string a0_0, .int .i64 a0_1]) (t := 27) ?hr ?_; (case hd => rfl); (case hg => rfl); (case hr => first | (go_simp; done) | (go_simp; rfl)); intro gb999 hg w5 hbox hb; have n0_ := ak (below_step (ul HB.out) hb); have n1_ := ak (hbox); have n2_ := ak ((by rw [hg]; exact (below_size (ul HB.out)) : w.heap.size ≤ gb999)); have n3_ := ak ((by rw [hg]; exact (below_size (ul HB.out)) : w.heap.size ≤ gb999)); clear HB; have HB := n0_; have BK999 := n1_; have GW999 := n2_; have GE999 := n3_; clear n0_ n1_ n2_ n3_; clear hb hbox hg))
 (try simp only [Act.put, s1, s2, s3])
 go_cut [27] (fun v27 wc => ∃ (kq : Nat) (x27_3 : Bool), v27 = .bool x27_3 ∧ Aside0 (gaps_Take.j0 kq a1 a2 x27_3 a0_0 a0_1 = some (r1, r2, r3)) ∧ Aside0 (kq ≤ k) ∧ Aside0 (wc.heap[gb999]? = some (.cells #[.string a0_0, .int .i64 a0_1] 27 (0, 0))) ∧ Aside0 (Below w.heap.size w wc))
 case first =>
  have H := HC4.out
  clear HC4
  replace H := Option.bind_eq_some_iff.mp H
  obtain ⟨t1000, A60, H⟩ := H
  try dsimp only at H
  have A6 := ak A60
  clear A60
  by_cases c7 : t1000 = true
  rotate_left
  ·
   replace c7 := Bool.eq_false_iff.mpr c7
   subst c7
   rw [if_neg (show ¬ (false = true) by decide)] at H
   have H' := ak H
   clear H
   have hcz18_0 : w5.cell? ⟨gb999, 0, none⟩ = some (.string a0_0) := (blk_cell BK999.out 0).trans rfl
   have hcz18_1 : w5.cell? ⟨gb999, 1, none⟩ = some (.int .i64 a0_1) := (blk_cell BK999.out 1).trans rfl
   have hfz18_0 := blk_frozen BK999.out 0
   have hfz18_1 := blk_frozen BK999.out 1
   go_wp2_with (first | ((with_reducible refine gate_callee (f := 86) rfl ?_); refine goesL_ (some 11) rfl rfl Try.func86 (by kernel_rfl) rfl #[.agg #[.string a0_0, .int .i64 a0_1]] rfl (by (try simp only [List.map_toArray, List.map_cons, List.map_nil]); first | done | rfl | (simp only [List.length_drop, List.length_take]; rfl)) ?_; (with_reducible refine (bits_May.calls a0_0 a0_1 false _ A6.out).mono ?_); rintro e w19 ⟨rfl, hb⟩; refine ⟨_, rfl, ?_⟩; have n0_ := ak (blk_below (g := gb999) (o := .cells #[.string a0_0, .int .i64 a0_1] 27 (0, 0)) (ub BK999.out) hb); have n1_ := ak (below_step (by repeat with_reducible first | exact HB.out | apply b1 | apply b2 | apply b3 | refine b4 ?_ GE999.out) hb); clear BK999; clear HB; have BK999 := n0_; have HB := n1_; clear n0_ n1_; (try clear hb); (try clear hb2); (try clear hk); (try clear hi)))
   go_meet
   case rel => exact ⟨_, (true), (by first | rfl | (simp; done) | (simp [*]; done)), H', ⟨by first | omega | exact Nat.le_refl _⟩, ⟨ub BK999.out⟩, ⟨by repeat with_reducible first | exact HB.out | apply b1 | apply b2 | apply b3 | refine b4 ?_ GE999.out⟩⟩
  subst c7
  rw [if_pos rfl] at H
  replace H := Option.bind_eq_some_iff.mp H
  obtain ⟨t1001, A80, H⟩ := H
  try dsimp only at H
  have A8 := ak A80
  clear A80
  by_cases c9 : t1001 = true
  rotate_left
  ·
   replace c9 := Bool.eq_false_iff.mpr c9
   subst c9
   rw [if_neg (show ¬ (false = true) by decide)] at H
   have H' := ak H
   clear H
   have hcz16_0 : w5.cell? ⟨gb999, 0, none⟩ = some (.string a0_0) := (blk_cell BK999.out 0).trans rfl
   have hcz16_1 : w5.cell? ⟨gb999, 1, none⟩ = some (.int .i64 a0_1) := (blk_cell BK999.out 1).trans rfl
   have hfz16_0 := blk_frozen BK999.out 0
   have hfz16_1 := blk_frozen BK999.out 1
   go_wp2_with (first | ((with_reducible refine gate_callee (f := 86) rfl ?_); refine goesL_ (some 11) rfl rfl Try.func86 (by kernel_rfl) rfl #[.agg #[.string a0_0, .int .i64 a0_1]] rfl (by (try simp only [List.map_toArray, List.map_cons, List.map_nil]); first | done | rfl | (simp only [List.length_drop, List.length_take]; rfl)) ?_; (with_reducible refine (bits_May.calls a0_0 a0_1 true _ A6.out).mono ?_); rintro e w17 ⟨rfl, hb⟩; refine ⟨_, rfl, ?_⟩; have n0_ := ak (blk_below (g := gb999) (o := .cells #[.string a0_0, .int .i64 a0_1] 27 (0, 0)) (ub BK999.out) hb); have n1_ := ak (below_step (by repeat with_reducible first | exact HB.out | apply b1 | apply b2 | apply b3 | refine b4 ?_ GE999.out) hb); clear BK999; clear HB; have BK999 := n0_; have HB := n1_; clear n0_ n1_; (try clear hb); (try clear hb2); (try clear hk); (try clear hi)) | (go_at_call 113; (with_reducible refine (gaps_Is.calls a2 false _ A8.out).mono ?_); rintro e w' ⟨rfl, ⟨nd, rfl⟩⟩))
   go_meet
   case rel => exact ⟨_, (true), (by first | rfl | (simp; done) | (simp [*]; done)), H', ⟨by first | omega | exact Nat.le_refl _⟩, ⟨ub BK999.out⟩, ⟨by repeat with_reducible first | exact HB.out | apply b1 | apply b2 | apply b3 | refine b4 ?_ GE999.out⟩⟩
  subst c9
  rw [if_pos rfl] at H
  by_cases c10 : a1 < 0
  ·
   rw [if_pos c10] at H
   have c10b0 : decide (a1 < 0) = true := decide_eq_true c10
   clear c10
   (first | rw [c10b0] | (simp only [i64_w, i32_w]; rw [c10b0]) | skip)
   have H' := ak H
   clear H
   have hcz11_0 : w5.cell? ⟨gb999, 0, none⟩ = some (.string a0_0) := (blk_cell BK999.out 0).trans rfl
   have hcz11_1 : w5.cell? ⟨gb999, 1, none⟩ = some (.int .i64 a0_1) := (blk_cell BK999.out 1).trans rfl
   have hfz11_0 := blk_frozen BK999.out 0
   have hfz11_1 := blk_frozen BK999.out 1
   go_wp2_with (first | ((with_reducible refine gate_callee (f := 86) rfl ?_); refine goesL_ (some 11) rfl rfl Try.func86 (by kernel_rfl) rfl #[.agg #[.string a0_0, .int .i64 a0_1]] rfl (by (try simp only [List.map_toArray, List.map_cons, List.map_nil]); first | done | rfl | (simp only [List.length_drop, List.length_take]; rfl)) ?_; (with_reducible refine (bits_May.calls a0_0 a0_1 true _ A6.out).mono ?_); rintro e w12 ⟨rfl, hb⟩; refine ⟨_, rfl, ?_⟩; have n0_ := ak (blk_below (g := gb999) (o := .cells #[.string a0_0, .int .i64 a0_1] 27 (0, 0)) (ub BK999.out) hb); have n1_ := ak (below_step (by repeat with_reducible first | exact HB.out | apply b1 | apply b2 | apply b3 | refine b4 ?_ GE999.out) hb); clear BK999; clear HB; have BK999 := n0_; have HB := n1_; clear n0_ n1_; (try clear hb); (try clear hb2); (try clear hk); (try clear hi)) | (go_at_call 113; (with_reducible refine (gaps_Is.calls a2 true _ A8.out).mono ?_); rintro e w' ⟨rfl, ⟨nd, rfl⟩⟩))
   go_meet
   case rel => exact ⟨_, (true), (by first | rfl | (simp; done) | (simp [*]; done)), H', ⟨by first | omega | exact Nat.le_refl _⟩, ⟨ub BK999.out⟩, ⟨by repeat with_reducible first | exact HB.out | apply b1 | apply b2 | apply b3 | refine b4 ?_ GE999.out⟩⟩
  rw [if_neg c10] at H
  have c10b0 : decide (a1 < 0) = false := decide_eq_false c10
  clear c10
  (first | rw [c10b0] | (simp only [i64_w, i32_w]; rw [c10b0]) | skip)
  have H' := ak H
  clear H
  have hcz13_0 : w5.cell? ⟨gb999, 0, none⟩ = some (.string a0_0) := (blk_cell BK999.out 0).trans rfl
  have hcz13_1 : w5.cell? ⟨gb999, 1, none⟩ = some (.int .i64 a0_1) := (blk_cell BK999.out 1).trans rfl
  have hfz13_0 := blk_frozen BK999.out 0
  have hfz13_1 := blk_frozen BK999.out 1
  go_wp2_with (first | ((with_reducible refine gate_callee (f := 86) rfl ?_); refine goesL_ (some 11) rfl rfl Try.func86 (by kernel_rfl) rfl #[.agg #[.string a0_0, .int .i64 a0_1]] rfl (by (try simp only [List.map_toArray, List.map_cons, List.map_nil]); first | done | rfl | (simp only [List.length_drop, List.length_take]; rfl)) ?_; (with_reducible refine (bits_May.calls a0_0 a0_1 true _ A6.out).mono ?_); rintro e w14 ⟨rfl, hb⟩; refine ⟨_, rfl, ?_⟩; have n0_ := ak (blk_below (g := gb999) (o := .cells #[.string a0_0, .int .i64 a0_1] 27 (0, 0)) (ub BK999.out) hb); have n1_ := ak (below_step (by repeat with_reducible first | exact HB.out | apply b1 | apply b2 | apply b3 | refine b4 ?_ GE999.out) hb); clear BK999; clear HB; have BK999 := n0_; have HB := n1_; clear n0_ n1_; (try clear hb); (try clear hb2); (try clear hk); (try clear hi)) | (go_at_call 113; (with_reducible refine (gaps_Is.calls a2 true _ A8.out).mono ?_); rintro e w' ⟨rfl, ⟨nd, rfl⟩⟩; have hcz15_0 : w14.cell? ⟨gb999, 0, none⟩ = some (.string a0_0) := (blk_cell BK999.out 0).trans rfl; have hcz15_1 : w14.cell? ⟨gb999, 1, none⟩ = some (.int .i64 a0_1) := (blk_cell BK999.out 1).trans rfl; have hfz15_0 := blk_frozen BK999.out 0; have hfz15_1 := blk_frozen BK999.out 1))
  go_meet
  case rel => exact ⟨_, (decide (a1 > a0_1)), (by first | rfl | (simp; done) | (simp [*]; done)), H', ⟨by first | omega | exact Nat.le_refl _⟩, ⟨ub BK999.out⟩, ⟨by repeat with_reducible first | exact HB.out | apply b1 | apply b2 | apply b3 | refine b4 ?_ GE999.out⟩⟩
 clear HC4
 obtain ⟨kq, x27_3, rfl, HA, HJ3, BK999, HB⟩ := hcut
 cases kq with
 | zero => exact absurd HA.out (by simp [gaps_Take.j0])
 | succ kj3 => ?_
 have H := HA.out
 clear HA
 simp only [gaps_Take.j0] at H
 by_cases c20 : x27_3 = true
 ·
  subst c20
  rw [if_pos rfl] at H
  simp only [Option.some.injEq, Prod.mk.injEq] at H
  obtain ⟨rfl, rfl, rfl⟩ := H
  go_wp2
  go_ret3
  exact ⟨_, by first | rfl | (simp [errW_none, errW_some] <;> rfl) | (simp [*, errW_none, errW_some] <;> rfl), by first | exact Kd.R_nil _ _ _ _ _ | exact Kd.N_nil _ _ _ _ _ | exact Kd.V_nil _ _ _ _ _ | exact Kd.Q_nil _ _ _ _ _ | exact Kd.S_nil _ _ _ _ _, by repeat with_reducible first | exact HB.out | apply b1 | apply b2 | apply b3 | refine b4 ?_ GE999.out⟩
 replace c20 := Bool.eq_false_iff.mpr c20
 subst c20
 rw [if_neg (show ¬ (false = true) by decide)] at H
 replace H := Option.bind_eq_some_iff.mp H
 obtain ⟨⟨t1002, t1005, t1006⟩, A210, H⟩ := H
 try dsimp only at H
 have A21 := ak A210
 clear A210
 by_cases c22 : t1006 = true
 ·
  subst c22
  rw [if_pos rfl] at H
  simp only [Option.some.injEq, Prod.mk.injEq] at H
  obtain ⟨rfl, rfl, rfl⟩ := H
  have hcz23_0 : wc.cell? ⟨gb999, 0, none⟩ = some (.string a0_0) := (blk_cell BK999.out 0).trans rfl
  have hcz23_1 : wc.cell? ⟨gb999, 1, none⟩ = some (.int .i64 a0_1) := (blk_cell BK999.out 1).trans rfl
  have hfz23_0 := blk_frozen BK999.out 0
  have hfz23_1 := blk_frozen BK999.out 1
  go_wp2_with (first | ((with_reducible refine gate_callee (f := 116) rfl ?_); refine goesL_ (some 32) rfl rfl Try.func116 (by kernel_rfl) rfl #[.agg #[.string a0_0, .int .i64 a0_1], .int .i64 a1, .int .i64 a2] rfl (by (try simp only [List.map_toArray, List.map_cons, List.map_nil]); first | done | rfl | (simp only [List.length_drop, List.length_take]; rfl)) ?_; (with_reducible refine (gaps_Read.calls kj3 a0_0 a0_1 a1 a2 t1002 t1005 true _ A21.out).mono ?_); rintro e w24 ⟨v1003, rfl, ho0, hb⟩; refine ⟨_, rfl, ?_⟩; have n0_ := ak (Kd.R_lower ho0 (below_size (by repeat with_reducible first | exact HB.out | apply b1 | apply b2 | apply b3 | refine b4 ?_ GE999.out))); have n1_ := ak (blk_below (g := gb999) (o := .cells #[.string a0_0, .int .i64 a0_1] 27 (0, 0)) (ub BK999.out) hb); have n2_ := ak (below_step (by repeat with_reducible first | exact HB.out | apply b1 | apply b2 | apply b3 | refine b4 ?_ GE999.out) hb); clear BK999; clear HB; have HO1004 := n0_; have BK999 := n1_; have HB := n2_; clear n0_ n1_ n2_; (try clear hb); (try clear hb2); (try clear hk); (try clear hi); (try clear ho0)))
  go_ret3
  exact ⟨_, by first | rfl | (simp [errW_none, errW_some] <;> rfl) | (simp [*, errW_none, errW_some] <;> rfl), ur <| HO1004.out, by repeat with_reducible first | exact HB.out | apply b1 | apply b2 | apply b3 | refine b4 ?_ GE999.out⟩
 replace c22 := Bool.eq_false_iff.mpr c22
 subst c22
 rw [if_neg (show ¬ (false = true) by decide)] at H
 simp only [Option.some.injEq, Prod.mk.injEq] at H
 obtain ⟨rfl, rfl, rfl⟩ := H
 have hcz25_0 : wc.cell? ⟨gb999, 0, none⟩ = some (.string a0_0) := (blk_cell BK999.out 0).trans rfl
 have hcz25_1 : wc.cell? ⟨gb999, 1, none⟩ = some (.int .i64 a0_1) := (blk_cell BK999.out 1).trans rfl
 have hfz25_0 := blk_frozen BK999.out 0
 have hfz25_1 := blk_frozen BK999.out 1
 go_wp2_with (first | ((with_reducible refine gate_callee (f := 116) rfl ?_); refine goesL_ (some 32) rfl rfl Try.func116 (by kernel_rfl) rfl #[.agg #[.string a0_0, .int .i64 a0_1], .int .i64 a1, .int .i64 a2] rfl (by (try simp only [List.map_toArray, List.map_cons, List.map_nil]); first | done | rfl | (simp only [List.length_drop, List.length_take]; rfl)) ?_; (with_reducible refine (gaps_Read.calls kj3 a0_0 a0_1 a1 a2 t1002 t1005 false _ A21.out).mono ?_); rintro e w26 ⟨v1003, rfl, ho0, hb⟩; refine ⟨_, rfl, ?_⟩; have n0_ := ak (Kd.R_lower ho0 (below_size (by repeat with_reducible first | exact HB.out | apply b1 | apply b2 | apply b3 | refine b4 ?_ GE999.out))); have n1_ := ak (blk_below (g := gb999) (o := .cells #[.string a0_0, .int .i64 a0_1] 27 (0, 0)) (ub BK999.out) hb); have n2_ := ak (below_step (by repeat with_reducible first | exact HB.out | apply b1 | apply b2 | apply b3 | refine b4 ?_ GE999.out) hb); clear BK999; clear HB; have HO1004 := n0_; have BK999 := n1_; have HB := n2_; clear n0_ n1_ n2_; (try clear hb); (try clear hb2); (try clear hk); (try clear hi); (try clear ho0)))
 go_ret3
 exact ⟨_, by first | rfl | (simp [errW_none, errW_some] <;> rfl) | (simp [*, errW_none, errW_some] <;> rfl), by first | exact Kd.R_nil _ _ _ _ _ | exact Kd.N_nil _ _ _ _ _ | exact Kd.V_nil _ _ _ _ _ | exact Kd.Q_nil _ _ _ _ _ | exact Kd.S_nil _ _ _ _ _, by repeat with_reducible first | exact HB.out | apply b1 | apply b2 | apply b3 | refine b4 ?_ GE999.out⟩
end Go.Proofs.Ytnpghcikhpglkaa.Q
namespace Go.Proofs.Ytnpghcikhpglkaa.Q
open Go.RowKit Go.Proofs.YtnpghcikhpglkaaW.PrintWords Go.Proofs.YtnpghcikhpglkaaW.PrintLast Go.Proofs.YtnpghcikhpglkaaW.PrintMore Go.Proofs.Ytnpghcikhpglkaa.Hand Go.Proofs.Ytnpghcikhpglkaa.Pu
set_option linter.unusedVariables false
set_option linter.unusedSimpArgs false
/-- Bits of a text, one by one behind a row. -/
def rowSeq (s : ByteArray) : Nat → Int → List Int × Int → List Int × Int
  | 0, _, st => st
  | k + 1, i, st => rowSeq s k (i + 1) (rowPut 1 st (bitOf s i))
theorem row_put1 (W : World) (base p : Nat) (bs : List Int) (n v : Int) (hrow : RowIs W base p bs n) (hn : 0 ≤ n) (hlen : (bs.length : Int) = (n + 7) / 8) (hbd : n + 1 ≤ 1073741824) (hbase : base ≤ W.heap.size) :
    Calls Try.prog 89 #[.pointer (some ⟨p, 0, none⟩), .int .i64 v, .int .i64 1] W fun e w' => e = .returned (.tuple #[]) ∧ RowIs w' base p (rowPut 1 (bs, n) v).1 (rowPut 1 (bs, n) v).2 ∧ Below base W w' :=
  row_put W base p bs n v 1 hrow hn hlen hbd hbase
theorem rowPut1_len (st : List Int × Int) (v : Int) (h0 : 0 ≤ st.2) (hl : (st.1.length : Int) = (st.2 + 7) / 8) : ((rowPut 1 st v).1.length : Int) = ((rowPut 1 st v).2 + 7) / 8 :=
  rowBit_len st v 0 h0 hl
theorem start3 (w : World) (o1 o2 o3 : Obj) : (((w.alloc o1).alloc o2).alloc o3).heap[w.heap.size]? = some o1 ∧ (((w.alloc o1).alloc o2).alloc o3).heap[w.heap.size + 1]? = some o2 ∧ (((w.alloc o1).alloc o2).alloc o3).heap[w.heap.size + 2]? = some o3 ∧
    Below w.heap.size w (((w.alloc o1).alloc o2).alloc o3) ∧ (((w.alloc o1).alloc o2).alloc o3).heap.size = w.heap.size + 3 := by
  obtain ⟨h1, h2, h3, h4⟩ := start2 w o1 o2
  have hs : ((w.alloc o1).alloc o2).heap.size = w.heap.size + 2 := by simp
  refine ⟨(Below.heap_alloc _ _ _ (by omega)).trans h1, (Below.heap_alloc _ _ _ (by omega)).trans h2, ?_, h3.alloc (by omega) o3, by simp⟩
  have := heap_alloc_new ((w.alloc o1).alloc o2) o3
  rw [hs] at this
  exact this
set_option maxHeartbeats 4000000 in
set_option maxRecDepth 100000 in
theorem part_walk (s : ByteArray) (n a b : Int) (w : World) (ha : 0 ≤ a) (hb : b ≤ 8 * s.size) (hb2 : b ≤ 1073741824) :
    Calls Try.prog 99 #[.agg #[.string s, .int .i64 n], .int .i64 a, .int .i64 b] w fun e w' => e = .returned (.agg #[.string (strOfNums (rowSeq s (b - a).toNat a ([], 0)).1), .int .i64 (rowSeq s (b - a).toNat a ([], 0)).2]) ∧ Below w.heap.size w w' := by
  have hu := Try.underlying27
  have hu2 := Try.underlying116
  have HS := Aside0.mk (start3 w (.cells #[.string s, .int .i64 n] 27) (.cells #[.string ⟨#[]⟩, .int .i64 0] 27) (.cells #[.slice none 0 0, .int .i64 0] 116))
  go_enter Try.func99, Try.ntmps99
  go_wp2
  go_loopw [8] (fun i wr => ∃ (c : Nat) (st : List Int × Int), i = .int .i64 (a + c) ∧ Aside0 (rowSeq s ((b - a).toNat - c) (a + c) st = rowSeq s (b - a).toNat a ([], 0)) ∧ Aside0 (RowIs wr (w.heap.size + 2) (w.heap.size + 2) st.1 st.2) ∧ Aside0 (st.2 = c) ∧ Aside0 ((st.1.length : Int) = (st.2 + 7) / 8) ∧ c ≤ (b - a).toNat ∧ Aside0 (wr.heap[w.heap.size]? = some (.cells #[.string s, .int .i64 n] 27 (0, 0))) ∧ Aside0 (wr.heap[w.heap.size + 1]? = some (.cells #[.string ⟨#[]⟩, .int .i64 0] 27 (0, 0))) ∧ Aside0 (Below w.heap.size w wr))
    (fun i wr => (b - intOf i).toNat)
  case atStart => exact ⟨0, ([], 0), by go_num, ⟨by simp⟩, ⟨⟨_, HS.out.2.2.1, OwnB.nil _ _, Nat.le_refl _⟩⟩, ⟨rfl⟩, ⟨rfl⟩, Nat.zero_le _, ⟨HS.out.1⟩, ⟨HS.out.2.1⟩, ⟨HS.out.2.2.2.1⟩⟩
  case round =>
    obtain ⟨c, ⟨bs, m⟩, rfl, HSEQ, HROW, HM, HLEN, hc, HA, HR, HB⟩ := hrel
    have hm : Aside0 (m = c) := HM
    obtain ⟨a0, a1, g0, g1⟩ := two_cells HA.out
    obtain ⟨c0, c1, f0, f1⟩ := two_cells HR.out
    by_cases hlt : a + c < b
    · have HBIT := Aside0.mk (bit_some s n (a + c) (by omega) (by omega) (by omega))
      have hc2 : (c : Int) < 1073741824 := by omega
      go_wp2_with (first | (go_at_call 100; ((with_reducible refine (bits_bit.calls s n (a + c) (bitOf s (a + c)) _ HBIT.out).mono ?_); rintro e w2 ⟨rfl, hb3⟩); have HROW2 := Aside0.mk (HROW.out.below hb3); have HBB := Aside0.mk hb3; clear hb3) | (go_at_call 89; ((with_reducible refine (row_put1 _ (w.heap.size + 2) (w.heap.size + 2) bs m (bitOf s (a + c)) HROW2.out ?e1 ?e2 ?e3 ?e4).mono ?_); (case e1 => rw [hm.out]; omega); (case e2 => exact HLEN.out); (case e3 => rw [hm.out]; omega); (case e4 => exact Nat.le_trans (by have := blk_lt HR.out; omega) HBB.out.size); rintro e w3 ⟨rfl, hrow3, hb3⟩); have HROW3 := Aside0.mk hrow3; have HB3 := Aside0.mk hb3; clear hrow3 hb3))
      go_roundw
      case rel =>
        refine ⟨c + 1, rowPut 1 (bs, m) (bitOf s (a + c)), by go_num, ⟨?_⟩, ⟨HROW3.out⟩, ⟨?_⟩, ⟨rowPut1_len (bs, m) _ (by rw [hm.out]; omega) HLEN.out⟩, by omega, ⟨keep2 (keep2 HA.out HBB.out (blk_lt HA.out)) HB3.out (by omega)⟩, ⟨keep2 (keep2 HR.out HBB.out (blk_lt HR.out)) HB3.out (by omega)⟩, ⟨(HB.out.trans (HBB.out.mono HB.out.size)).trans (HB3.out.mono (by omega))⟩⟩
        · rw [← HSEQ.out, show (b - a).toNat - c = ((b - a).toNat - (c + 1)) + 1 by omega, rowSeq, show a + ((c + 1 : Nat) : Int) = a + c + 1 by omega]
        · rw [rowPut_snd, hm.out]; rfl
      case measure => simp [intOf]; omega
    · have hcc : c = (b - a).toNat := by omega
      have HE : Aside0 ((bs, m) = rowSeq s (b - a).toNat a ([], 0)) := ⟨by
        have := HSEQ.out
        rw [hcc, Nat.sub_self, rowSeq] at this
        exact this⟩
      clear hcc
      obtain ⟨sv, hblk, hown, hp⟩ := HROW.out
      obtain ⟨b0, b1, k0, k1⟩ := two_cells hblk
      have hst := hown.drew.str
      clear hblk hown hp
      go_wp2
      go_region
      go_wp2
      refine bodyPost_ret (results_cell_row rfl _ _ (w.heap.size + 1) 27 #[.string (strOfNums bs), .int .i64 m] (0, 0) _ rfl (put2 HR.out) Try.underlying27 rfl (by kernel_rfl)) rfl ⟨by rw [← HE.out], below_drew0 (below_put2 HB.out (by omega) _ _)⟩
/-- So many bits of a text from a place on. -/
def partK (s : ByteArray) : Nat → Int → List Int
  | 0, _ => []
  | k + 1, i => bitOf s i :: partK s k (i + 1)
theorem partK_length (s : ByteArray) (k : Nat) : ∀ i, (partK s k i).length = k := by
  induction k with
  | zero => intro i; rfl
  | succ k ih => intro i; simp [partK, ih]
theorem putL_one (b : Int) (h : b = 0 ∨ b = 1) : putL 1 b = [b] := by rcases h with rfl | rfl <;> rfl
theorem rowSeq_pack (s : ByteArray) (k : Nat) : ∀ (i : Int) (l : List Int), IsBits l → rowSeq s k i (packL l, (l.length : Int)) = (packL (l ++ partK s k i), ((l ++ partK s k i).length : Int)) := by
  induction k with
  | zero => intro i l _; simp [rowSeq, partK]
  | succ k ih =>
    intro i l hl
    have hb := bitOf_bit s i
    rw [rowSeq, rowPut_pack 1 _ (by omega) (by omega) l hl, putL_one _ hb, ih (i + 1) _ (hl.append (fun x hx => by rw [List.mem_singleton.1 hx]; exact hb))]
    simp [partK]
/-- bits.Part. -/
def bits_Part.f (s : ByteArray) (n a b : Int) : Option (ByteArray × Int) :=
  if 0 ≤ a ∧ b ≤ 8 * s.size ∧ b ≤ 1073741824 then some (packS (partK s (b - a).toNat a), ((b - a).toNat : Int)) else none
theorem bits_Part.calls (a0_0 : ByteArray) (a0_1 a1 a2 : Int) (r1 : ByteArray) (r2 : Int) (w : World) (h : bits_Part.f a0_0 a0_1 a1 a2 = some (r1, r2)) :
    Calls Try.prog 99 #[.agg #[.string a0_0, .int .i64 a0_1], .int .i64 a1, .int .i64 a2] w fun e w' => e = .returned (.agg #[.string r1, .int .i64 r2]) ∧ Below w.heap.size w w' := by
  unfold bits_Part.f at h
  by_cases hc : 0 ≤ a1 ∧ a2 ≤ 8 * a0_0.size ∧ a2 ≤ 1073741824
  · rw [if_pos hc] at h
    simp only [Option.some.injEq, Prod.mk.injEq] at h
    obtain ⟨rfl, rfl⟩ := h
    have e := part_walk a0_0 a0_1 a1 a2 w hc.1 hc.2.1 hc.2.2
    have hp := rowSeq_pack a0_0 (a2 - a1).toNat a1 [] IsBits.nil
    have h0 : packL [] = [] := rfl
    rw [h0] at hp
    simp only [List.length_nil, List.nil_append, partK_length] at hp
    have hp' : rowSeq a0_0 (a2 - a1).toNat a1 ([], 0) = (packL (partK a0_0 (a2 - a1).toNat a1), (((a2 - a1).toNat : Nat) : Int)) := hp
    rw [hp'] at e
    exact e
  · rw [if_neg hc] at h
    cases h
end Go.Proofs.Ytnpghcikhpglkaa.Q
namespace Go.Proofs.Ytnpghcikhpglkaa.Q
open Go.RowKit Go.Proofs.YtnpghcikhpglkaaW.PrintWords Go.Proofs.YtnpghcikhpglkaaW.PrintLast Go.Proofs.YtnpghcikhpglkaaW.PrintMore
attribute [local go_sem] max2_int min2_int max_two min_two max_three min_three max_four min_four   -- for this text's walks alone
set_option linter.unusedVariables false
set_option linter.unusedSimpArgs false

/-! ### code_log: function 117 -/
def code_log.f (a0 : Int) : Option (Int) := (bits_Len.f (IntKind.u64.wrap (a0))).bind fun t777 => (some (wrap64 (t777 - 1)))
set_option maxHeartbeats 8000000 in
set_option maxRecDepth 100000 in
theorem code_log.calls (a0 : Int) (r : Int) (w : World) (h : code_log.f a0 = some r) :
    Calls Try.prog 117 #[.int .i64 a0] w fun e w' => e = .returned (.int .i64 r) ∧ Drawn0 w w' := by
  have H : ((bits_Len.f (IntKind.u64.wrap (a0))).bind fun t777 => (some (wrap64 (t777 - 1)))) = some r := h
  clear h
  replace H := Option.bind_eq_some_iff.mp H
  obtain ⟨t777, A20, H⟩ := H
  replace H : (some (wrap64 (t777 - 1))) = some r := H
  have A2 := Aside0.mk A20
  clear A20
  obtain rfl := Option.some.inj H
  go_enter Try.func117, Try.ntmps117
  go_wp2_with (first | ((with_reducible refine gate_callee (f := 125) rfl ?_); refine goesL_ (some 5) rfl rfl Try.func125 (by kernel_rfl) rfl #[.int .u64 (IntKind.u64.wrap (a0))] rfl (by (try simp only [List.map_toArray, List.map_cons, List.map_nil]); first | done | rfl | (simp only [List.length_drop, List.length_take]; rfl)) ?_; (with_reducible refine (bits_Len.calls (IntKind.u64.wrap (a0)) t777 _ A2.out).mono ?_); rintro e w' ⟨rfl, ⟨nd, rfl⟩⟩; refine ⟨_, rfl, ?_⟩))
  go_ret
  exact ⟨by first | rfl | (simp; done) | (simp [*]; done), by repeat (first | exact Drawn0.refl _ | apply Drawn0.step)⟩
end Go.Proofs.Ytnpghcikhpglkaa.Q
namespace Go.Proofs.Ytnpghcikhpglkaa.Q
open Go.RowKit Go.Proofs.YtnpghcikhpglkaaW.PrintWords Go.Proofs.YtnpghcikhpglkaaW.PrintLast Go.Proofs.YtnpghcikhpglkaaW.PrintMore Go.Proofs.Ytnpghcikhpglkaa.Hand Go.Proofs.Ytnpghcikhpglkaa.Pu
set_option linter.unusedVariables false
set_option linter.unusedSimpArgs false
/-- A row that holds these bits. -/
structure RowL (W : World) (base p : Nat) (l : List Int) : Prop where mk :: (out : RowIs W base p (packL l) (l.length : Int)) (bits : IsBits l)
theorem put_rowI (W : World) (base p : Nat) (l : List Int) (v k : Int) (hrow : RowL W base p l) (hv : 0 ≤ v) (hv2 : v < 2 ^ 62) (hk : 0 ≤ k) (hbd : (l.length : Int) + k ≤ 1073741824) (hbase : base ≤ W.heap.size) :
    Calls Try.prog 89 #[.pointer (some ⟨p, 0, none⟩), .int .i64 v, .int .i64 k] W fun e w' => e = .returned (.tuple #[]) ∧ RowL w' base p (l ++ putL k.toNat v) ∧ Below base W w' := by
  obtain ⟨k, rfl⟩ := Int.eq_ofNat_of_zero_le hk
  have h := row_put W base p (packL l) (l.length : Int) v k hrow.out (by omega) (by rw [packL_length]; omega) hbd hbase
  rw [rowPut_pack k v hv hv2 l hrow.bits] at h
  refine h.mono fun e w' ⟨h1, h2, h3⟩ => ⟨h1, ⟨h2, hrow.bits.append (putL_bits _ _)⟩, h3⟩
def unaryL (n : Int) : List Int := putL (n - 1).toNat 0 ++ putL 1 1
set_option maxHeartbeats 4000000 in
set_option maxRecDepth 100000 in
theorem lay_unary (W : World) (base p : Nat) (l : List Int) (n : Int) (hrow : RowL W base p l) (hn : 1 ≤ n) (hn2 : n ≤ 1000) (hlen : l.length ≤ 1000000) (hbase : base ≤ W.heap.size) :
    Calls Try.prog 104 #[.pointer (some ⟨p, 0, none⟩), .int .i64 1, .int .i64 n] W fun e w' => e = .returned (.tuple #[]) ∧ RowL w' base p (l ++ unaryL n) ∧ Below base W w' := by
  have HROW := Aside0.mk hrow
  have HB := Aside0.mk (Below.refl base W)
  have HBASE := Aside0.mk hbase
  clear hrow hbase
  go_enter Try.func104, Try.ntmps104
  go_wp2_with (first | (go_at_call 89; ((with_reducible refine (put_rowI _ base p _ _ _ HROW.out ?e1 ?e2 ?e3 ?e4 ?e5).mono ?_); (case e1 => omega); (case e2 => first | decide | omega); (case e3 => omega); (case e4 => first | omega | (simp only [List.length_append, putL_length]; omega)); (case e5 => exact Nat.le_trans HBASE.out HB.out.size); rintro e w3 ⟨rfl, hrow3, hb3⟩); have HB3 := Aside0.mk (HB.out.trans hb3); have HROW3 := Aside0.mk hrow3; clear hrow3 hb3 HROW HB; have HROW := HROW3; have HB := HB3; clear HROW3 HB3))
  go_end0
  exact ⟨rfl, by unfold unaryL; rw [← List.append_assoc]; exact HROW.out, HB.out⟩
theorem rowL_draw {W w' : World} {base p : Nat} {l : List Int} (h : RowL W base p l) (hd : Drawn0 W w') : RowL w' base p l := ⟨h.out.below hd.below, h.bits⟩
theorem below_draw {W W1 w' : World} {base : Nat} (hB : Below base W W1) (hbase : base ≤ W.heap.size) (hd : Drawn0 W1 w') : Below base W w' := hB.trans (hd.below.mono (Nat.le_trans hbase hB.size))
/-- How many bits a number has, less one. -/
def lg (n : Int) : Int := (Lib.bitLen n.toNat : Int) - 1
theorem lg_facts (n : Int) (h0 : 1 ≤ n) (h1 : n ≤ 1073741824) : code_log.f n = some (lg n) ∧ 0 ≤ lg n ∧ lg n ≤ 30 ∧ (2 : Int) ^ (lg n).toNat ≤ n ∧ n < 2 ^ ((lg n).toNat + 1) := by
  obtain ⟨m, rfl⟩ := Int.eq_ofNat_of_zero_le (show 0 ≤ n by omega)
  have hb := Lib.bitLenAux_bounds 64 m (by omega) (by omega)
  have hb1 : 1 ≤ Lib.bitLen m := hb.1
  have hb2 : 2 ^ (Lib.bitLen m - 1) ≤ m := hb.2.1
  have hb3 : m < 2 ^ Lib.bitLen m := hb.2.2
  have hb4 : Lib.bitLen m ≤ 31 := Lib.bitLen_le m 31 (by omega) (by omega)
  have e : lg (m : Int) = ((Lib.bitLen m - 1 : Nat) : Int) := by unfold lg; rw [Int.toNat_natCast]; omega
  refine ⟨?_, by omega, by omega, ?_, ?_⟩
  · unfold code_log.f
    have hw : IntKind.u64.wrap (m : Int) = (m : Int) := by simp [IntKind.wrap, IntKind.bits, IntKind.signed]; omega
    rw [hw]
    unfold bits_Len.f
    rw [if_pos ⟨by omega, by omega⟩, Option.bind_some, Int.toNat_natCast, wrap_in _ (by omega) (by omega)]
    rfl
  · rw [e, Int.toNat_natCast]; exact_mod_cast hb2
  · rw [e, Int.toNat_natCast, show Lib.bitLen m - 1 + 1 = Lib.bitLen m by omega]; exact_mod_cast hb3
def gammaL (n : Int) : List Int := putL (lg n).toNat 0 ++ putL (lg n + 1).toNat n
def deltaL (n : Int) : List Int := gammaL (lg n + 1) ++ putL (lg n).toNat n
theorem gammaL_length (n : Int) : (gammaL n).length = (lg n).toNat + (lg n + 1).toNat := by simp [gammaL, putL_length]
theorem unaryL_length (n : Int) (h : 1 ≤ n) : (unaryL n).length = n.toNat := by simp [unaryL, putL_length]; omega
set_option maxHeartbeats 4000000 in
set_option maxRecDepth 100000 in
theorem lay_gamma (W : World) (base p : Nat) (l : List Int) (n : Int) (hrow : RowL W base p l) (hn : 1 ≤ n) (hn2 : n ≤ 1073741824) (hlen : l.length ≤ 1000000) (hbase : base ≤ W.heap.size) :
    Calls Try.prog 104 #[.pointer (some ⟨p, 0, none⟩), .int .i64 2, .int .i64 n] W fun e w' => e = .returned (.tuple #[]) ∧ RowL w' base p (l ++ gammaL n) ∧ Below base W w' := by
  have HROW := Aside0.mk hrow
  have HB := Aside0.mk (Below.refl base W)
  have HBASE := Aside0.mk hbase
  obtain ⟨hlog, hg0, hg1, _, _⟩ := lg_facts n hn hn2
  have HG : Aside0 (gammaL n = putL (lg n).toNat 0 ++ putL (lg n + 1).toNat n) := ⟨rfl⟩
  generalize lg n = g at *
  have HLOG := Aside0.mk hlog
  clear hrow hbase hlog
  go_enter Try.func104, Try.ntmps104
  go_wp2_with (first | (go_at_call 117; (with_reducible refine (code_log.calls n g _ HLOG.out).mono ?_); rintro e w3 ⟨rfl, hd3⟩; have HROW3 := Aside0.mk (rowL_draw HROW.out hd3); have HB3 := Aside0.mk (below_draw HB.out HBASE.out hd3); clear hd3 HROW HB; have HROW := HROW3; have HB := HB3; clear HROW3 HB3) | (go_at_call 89; ((with_reducible refine (put_rowI _ base p _ _ _ HROW.out ?e1 ?e2 ?e3 ?e4 ?e5).mono ?_); (case e1 => omega); (case e2 => first | decide | omega); (case e3 => omega); (case e4 => first | omega | (simp only [List.length_append, putL_length]; omega)); (case e5 => exact Nat.le_trans HBASE.out HB.out.size); rintro e w3 ⟨rfl, hrow3, hb3⟩); have HB3 := Aside0.mk (HB.out.trans hb3); have HROW3 := Aside0.mk hrow3; clear hrow3 hb3 HROW HB; have HROW := HROW3; have HB := HB3; clear HROW3 HB3))
  go_end0
  exact ⟨rfl, by rw [HG.out, ← List.append_assoc]; exact HROW.out, HB.out⟩
set_option maxHeartbeats 4000000 in
set_option maxRecDepth 100000 in
theorem lay_delta (W : World) (base p : Nat) (l : List Int) (n : Int) (hrow : RowL W base p l) (hn : 1 ≤ n) (hn2 : n ≤ 1073741824) (hlen : l.length ≤ 900000) (hbase : base ≤ W.heap.size) :
    Calls Try.prog 104 #[.pointer (some ⟨p, 0, none⟩), .int .i64 3, .int .i64 n] W fun e w' => e = .returned (.tuple #[]) ∧ RowL w' base p (l ++ deltaL n) ∧ Below base W w' := by
  have HROW := Aside0.mk hrow
  have HB := Aside0.mk (Below.refl base W)
  have HBASE := Aside0.mk hbase
  obtain ⟨hlog, hg0, hg1, _, _⟩ := lg_facts n hn hn2
  have HG : Aside0 (deltaL n = gammaL (lg n + 1) ++ putL (lg n).toNat n) := ⟨rfl⟩
  have HL := gammaL_length (lg n + 1)
  have hgg := (lg_facts (lg n + 1) (by omega) (by omega)).2.2.1
  have hgl : (gammaL (lg n + 1)).length ≤ 100 := by omega
  clear HL hgg
  generalize lg n = g at *
  have HLOG := Aside0.mk hlog
  clear hrow hbase hlog
  go_enter Try.func104, Try.ntmps104
  go_wp2_with (first | (go_at_call 117; (with_reducible refine (code_log.calls n g _ HLOG.out).mono ?_); rintro e w3 ⟨rfl, hd3⟩; have HROW3 := Aside0.mk (rowL_draw HROW.out hd3); have HB3 := Aside0.mk (below_draw HB.out HBASE.out hd3); clear hd3 HROW HB; have HROW := HROW3; have HB := HB3; clear HROW3 HB3) | (go_at_call 104; ((with_reducible refine (lay_gamma _ base p _ _ HROW.out ?e1 ?e2 ?e3 ?e4).mono ?_); (case e1 => omega); (case e2 => omega); (case e3 => first | omega | (simp only [List.length_append, putL_length]; omega)); (case e4 => exact Nat.le_trans HBASE.out HB.out.size); rintro e w3 ⟨rfl, hrow3, hb3⟩); have HB3 := Aside0.mk (HB.out.trans hb3); have HROW3 := Aside0.mk hrow3; clear hrow3 hb3 HROW HB; have HROW := HROW3; have HB := HB3; clear HROW3 HB3) | (go_at_call 89; ((with_reducible refine (put_rowI _ base p _ _ _ HROW.out ?e1 ?e2 ?e3 ?e4 ?e5).mono ?_); (case e1 => omega); (case e2 => first | decide | omega); (case e3 => omega); (case e4 => first | omega | (simp only [List.length_append, putL_length]; omega)); (case e5 => exact Nat.le_trans HBASE.out HB.out.size); rintro e w3 ⟨rfl, hrow3, hb3⟩); have HB3 := Aside0.mk (HB.out.trans hb3); have HROW3 := Aside0.mk hrow3; clear hrow3 hb3 HROW HB; have HROW := HROW3; have HB := HB3; clear HROW3 HB3))
  go_end0
  exact ⟨rfl, by rw [HG.out, ← List.append_assoc]; exact HROW.out, HB.out⟩
theorem parts4 : code_parts.f 4 = some 2 := by decide +kernel
set_option maxHeartbeats 4000000 in
set_option maxRecDepth 100000 in
theorem lay_zeta2 (W : World) (base p : Nat) (l : List Int) (n g low many size short : Int) (c : List Int) (hrow : RowL W base p l) (hn : 1 ≤ n) (hn2 : n ≤ 1073741824) (hlen : l.length ≤ 900000) (hbase : base ≤ W.heap.size)
    (hlog : code_log.f n = some g) (hg0 : 0 ≤ g) (hg1 : g ≤ 30) (hz : code_zeta.f 2 (Int.tdiv g 2) = some (low, many, size, short)) (hlow0 : 0 ≤ low) (hlow : low ≤ n) (hs : 1 ≤ size) (hs2 : size ≤ 64) (hsh0 : 0 ≤ short) (hsh : short ≤ 4611686017353646080)
    (hc : c = unaryL (Int.tdiv g 2 + 1) ++ (if n - low < short then putL (size - 1).toNat (n - low) else putL size.toNat (n - low + short))) :
    Calls Try.prog 104 #[.pointer (some ⟨p, 0, none⟩), .int .i64 4, .int .i64 n] W fun e w' => e = .returned (.tuple #[]) ∧ RowL w' base p (l ++ c) ∧ Below base W w' := by
  have HROW := Aside0.mk hrow
  have HB := Aside0.mk (Below.refl base W)
  have HBASE := Aside0.mk hbase
  have HLOG := Aside0.mk hlog
  have HZ := Aside0.mk hz
  have HC := Aside0.mk hc
  have HP := Aside0.mk parts4
  have hh0 : 0 ≤ Int.tdiv g 2 ∧ Int.tdiv g 2 ≤ 30 := by rw [Int.tdiv_eq_ediv_of_nonneg hg0]; omega
  have hul : (unaryL (Int.tdiv g 2 + 1)).length ≤ 100 := by rw [unaryL_length _ (by omega)]; omega
  clear hrow hbase hlog hz hc
  by_cases hlt : n - low < short
  · have HC2 := Aside0.mk (HC.out.trans (by rw [if_pos hlt]))
    go_enter Try.func104, Try.ntmps104
    go_wp2_with (first | (go_at_call 117; (with_reducible refine (code_log.calls n g _ HLOG.out).mono ?_); rintro e w3 ⟨rfl, hd3⟩; have HROW3 := Aside0.mk (rowL_draw HROW.out hd3); have HB3 := Aside0.mk (below_draw HB.out HBASE.out hd3); clear hd3 HROW HB; have HROW := HROW3; have HB := HB3; clear HROW3 HB3) | (go_at_call 118; (with_reducible refine (code_parts.calls 4 2 _ HP.out).mono ?_); rintro e w3 ⟨rfl, hd3⟩; have HROW3 := Aside0.mk (rowL_draw HROW.out hd3); have HB3 := Aside0.mk (below_draw HB.out HBASE.out hd3); clear hd3 HROW HB; have HROW := HROW3; have HB := HB3; clear HROW3 HB3) | (go_at_call 119; (with_reducible refine (code_zeta.calls 2 (Int.tdiv g 2) low many size short _ HZ.out).mono ?_); rintro e w3 ⟨rfl, hd3⟩; have HROW3 := Aside0.mk (rowL_draw HROW.out hd3); have HB3 := Aside0.mk (below_draw HB.out HBASE.out hd3); clear hd3 HROW HB; have HROW := HROW3; have HB := HB3; clear HROW3 HB3) | (go_at_call 104; ((with_reducible refine (lay_unary _ base p _ _ HROW.out ?e1 ?e2 ?e3 ?e4).mono ?_); (case e1 => omega); (case e2 => omega); (case e3 => first | omega | (simp only [List.length_append, putL_length]; omega)); (case e4 => exact Nat.le_trans HBASE.out HB.out.size); rintro e w3 ⟨rfl, hrow3, hb3⟩); have HB3 := Aside0.mk (HB.out.trans hb3); have HROW3 := Aside0.mk hrow3; clear hrow3 hb3 HROW HB; have HROW := HROW3; have HB := HB3; clear HROW3 HB3) | (go_at_call 89; ((with_reducible refine (put_rowI _ base p _ _ _ HROW.out ?e1 ?e2 ?e3 ?e4 ?e5).mono ?_); (case e1 => omega); (case e2 => first | decide | omega); (case e3 => omega); (case e4 => first | omega | (simp only [List.length_append, putL_length]; omega)); (case e5 => exact Nat.le_trans HBASE.out HB.out.size); rintro e w3 ⟨rfl, hrow3, hb3⟩); have HB3 := Aside0.mk (HB.out.trans hb3); have HROW3 := Aside0.mk hrow3; clear hrow3 hb3 HROW HB; have HROW := HROW3; have HB := HB3; clear HROW3 HB3))
    go_end0
    exact ⟨rfl, by rw [HC2.out, ← List.append_assoc]; exact HROW.out, HB.out⟩
  · have HC2 := Aside0.mk (HC.out.trans (by rw [if_neg hlt]))
    go_enter Try.func104, Try.ntmps104
    go_wp2_with (first | (go_at_call 117; (with_reducible refine (code_log.calls n g _ HLOG.out).mono ?_); rintro e w3 ⟨rfl, hd3⟩; have HROW3 := Aside0.mk (rowL_draw HROW.out hd3); have HB3 := Aside0.mk (below_draw HB.out HBASE.out hd3); clear hd3 HROW HB; have HROW := HROW3; have HB := HB3; clear HROW3 HB3) | (go_at_call 118; (with_reducible refine (code_parts.calls 4 2 _ HP.out).mono ?_); rintro e w3 ⟨rfl, hd3⟩; have HROW3 := Aside0.mk (rowL_draw HROW.out hd3); have HB3 := Aside0.mk (below_draw HB.out HBASE.out hd3); clear hd3 HROW HB; have HROW := HROW3; have HB := HB3; clear HROW3 HB3) | (go_at_call 119; (with_reducible refine (code_zeta.calls 2 (Int.tdiv g 2) low many size short _ HZ.out).mono ?_); rintro e w3 ⟨rfl, hd3⟩; have HROW3 := Aside0.mk (rowL_draw HROW.out hd3); have HB3 := Aside0.mk (below_draw HB.out HBASE.out hd3); clear hd3 HROW HB; have HROW := HROW3; have HB := HB3; clear HROW3 HB3) | (go_at_call 104; ((with_reducible refine (lay_unary _ base p _ _ HROW.out ?e1 ?e2 ?e3 ?e4).mono ?_); (case e1 => omega); (case e2 => omega); (case e3 => first | omega | (simp only [List.length_append, putL_length]; omega)); (case e4 => exact Nat.le_trans HBASE.out HB.out.size); rintro e w3 ⟨rfl, hrow3, hb3⟩); have HB3 := Aside0.mk (HB.out.trans hb3); have HROW3 := Aside0.mk hrow3; clear hrow3 hb3 HROW HB; have HROW := HROW3; have HB := HB3; clear HROW3 HB3) | (go_at_call 89; ((with_reducible refine (put_rowI _ base p _ _ _ HROW.out ?e1 ?e2 ?e3 ?e4 ?e5).mono ?_); (case e1 => omega); (case e2 => first | decide | omega); (case e3 => omega); (case e4 => first | omega | (simp only [List.length_append, putL_length]; omega)); (case e5 => exact Nat.le_trans HBASE.out HB.out.size); rintro e w3 ⟨rfl, hrow3, hb3⟩); have HB3 := Aside0.mk (HB.out.trans hb3); have HROW3 := Aside0.mk hrow3; clear hrow3 hb3 HROW HB; have HROW := HROW3; have HB := HB3; clear HROW3 HB3))
    go_end0
    exact ⟨rfl, by rw [HC2.out, ← List.append_assoc]; exact HROW.out, HB.out⟩
theorem parts5 : code_parts.f 5 = some 3 := by decide +kernel
set_option maxHeartbeats 4000000 in
set_option maxRecDepth 100000 in
theorem lay_zeta3 (W : World) (base p : Nat) (l : List Int) (n g low many size short : Int) (c : List Int) (hrow : RowL W base p l) (hn : 1 ≤ n) (hn2 : n ≤ 1073741824) (hlen : l.length ≤ 900000) (hbase : base ≤ W.heap.size)
    (hlog : code_log.f n = some g) (hg0 : 0 ≤ g) (hg1 : g ≤ 30) (hz : code_zeta.f 3 (Int.tdiv g 3) = some (low, many, size, short)) (hlow0 : 0 ≤ low) (hlow : low ≤ n) (hs : 1 ≤ size) (hs2 : size ≤ 64) (hsh0 : 0 ≤ short) (hsh : short ≤ 4611686017353646080)
    (hc : c = unaryL (Int.tdiv g 3 + 1) ++ (if n - low < short then putL (size - 1).toNat (n - low) else putL size.toNat (n - low + short))) :
    Calls Try.prog 104 #[.pointer (some ⟨p, 0, none⟩), .int .i64 5, .int .i64 n] W fun e w' => e = .returned (.tuple #[]) ∧ RowL w' base p (l ++ c) ∧ Below base W w' := by
  have HROW := Aside0.mk hrow
  have HB := Aside0.mk (Below.refl base W)
  have HBASE := Aside0.mk hbase
  have HLOG := Aside0.mk hlog
  have HZ := Aside0.mk hz
  have HC := Aside0.mk hc
  have HP := Aside0.mk parts5
  have hh0 : 0 ≤ Int.tdiv g 3 ∧ Int.tdiv g 3 ≤ 30 := by rw [Int.tdiv_eq_ediv_of_nonneg hg0]; omega
  have hul : (unaryL (Int.tdiv g 3 + 1)).length ≤ 100 := by rw [unaryL_length _ (by omega)]; omega
  clear hrow hbase hlog hz hc
  by_cases hlt : n - low < short
  · have HC2 := Aside0.mk (HC.out.trans (by rw [if_pos hlt]))
    go_enter Try.func104, Try.ntmps104
    go_wp2_with (first | (go_at_call 117; (with_reducible refine (code_log.calls n g _ HLOG.out).mono ?_); rintro e w3 ⟨rfl, hd3⟩; have HROW3 := Aside0.mk (rowL_draw HROW.out hd3); have HB3 := Aside0.mk (below_draw HB.out HBASE.out hd3); clear hd3 HROW HB; have HROW := HROW3; have HB := HB3; clear HROW3 HB3) | (go_at_call 118; (with_reducible refine (code_parts.calls 5 3 _ HP.out).mono ?_); rintro e w3 ⟨rfl, hd3⟩; have HROW3 := Aside0.mk (rowL_draw HROW.out hd3); have HB3 := Aside0.mk (below_draw HB.out HBASE.out hd3); clear hd3 HROW HB; have HROW := HROW3; have HB := HB3; clear HROW3 HB3) | (go_at_call 119; (with_reducible refine (code_zeta.calls 3 (Int.tdiv g 3) low many size short _ HZ.out).mono ?_); rintro e w3 ⟨rfl, hd3⟩; have HROW3 := Aside0.mk (rowL_draw HROW.out hd3); have HB3 := Aside0.mk (below_draw HB.out HBASE.out hd3); clear hd3 HROW HB; have HROW := HROW3; have HB := HB3; clear HROW3 HB3) | (go_at_call 104; ((with_reducible refine (lay_unary _ base p _ _ HROW.out ?e1 ?e2 ?e3 ?e4).mono ?_); (case e1 => omega); (case e2 => omega); (case e3 => first | omega | (simp only [List.length_append, putL_length]; omega)); (case e4 => exact Nat.le_trans HBASE.out HB.out.size); rintro e w3 ⟨rfl, hrow3, hb3⟩); have HB3 := Aside0.mk (HB.out.trans hb3); have HROW3 := Aside0.mk hrow3; clear hrow3 hb3 HROW HB; have HROW := HROW3; have HB := HB3; clear HROW3 HB3) | (go_at_call 89; ((with_reducible refine (put_rowI _ base p _ _ _ HROW.out ?e1 ?e2 ?e3 ?e4 ?e5).mono ?_); (case e1 => omega); (case e2 => first | decide | omega); (case e3 => omega); (case e4 => first | omega | (simp only [List.length_append, putL_length]; omega)); (case e5 => exact Nat.le_trans HBASE.out HB.out.size); rintro e w3 ⟨rfl, hrow3, hb3⟩); have HB3 := Aside0.mk (HB.out.trans hb3); have HROW3 := Aside0.mk hrow3; clear hrow3 hb3 HROW HB; have HROW := HROW3; have HB := HB3; clear HROW3 HB3))
    go_end0
    exact ⟨rfl, by rw [HC2.out, ← List.append_assoc]; exact HROW.out, HB.out⟩
  · have HC2 := Aside0.mk (HC.out.trans (by rw [if_neg hlt]))
    go_enter Try.func104, Try.ntmps104
    go_wp2_with (first | (go_at_call 117; (with_reducible refine (code_log.calls n g _ HLOG.out).mono ?_); rintro e w3 ⟨rfl, hd3⟩; have HROW3 := Aside0.mk (rowL_draw HROW.out hd3); have HB3 := Aside0.mk (below_draw HB.out HBASE.out hd3); clear hd3 HROW HB; have HROW := HROW3; have HB := HB3; clear HROW3 HB3) | (go_at_call 118; (with_reducible refine (code_parts.calls 5 3 _ HP.out).mono ?_); rintro e w3 ⟨rfl, hd3⟩; have HROW3 := Aside0.mk (rowL_draw HROW.out hd3); have HB3 := Aside0.mk (below_draw HB.out HBASE.out hd3); clear hd3 HROW HB; have HROW := HROW3; have HB := HB3; clear HROW3 HB3) | (go_at_call 119; (with_reducible refine (code_zeta.calls 3 (Int.tdiv g 3) low many size short _ HZ.out).mono ?_); rintro e w3 ⟨rfl, hd3⟩; have HROW3 := Aside0.mk (rowL_draw HROW.out hd3); have HB3 := Aside0.mk (below_draw HB.out HBASE.out hd3); clear hd3 HROW HB; have HROW := HROW3; have HB := HB3; clear HROW3 HB3) | (go_at_call 104; ((with_reducible refine (lay_unary _ base p _ _ HROW.out ?e1 ?e2 ?e3 ?e4).mono ?_); (case e1 => omega); (case e2 => omega); (case e3 => first | omega | (simp only [List.length_append, putL_length]; omega)); (case e4 => exact Nat.le_trans HBASE.out HB.out.size); rintro e w3 ⟨rfl, hrow3, hb3⟩); have HB3 := Aside0.mk (HB.out.trans hb3); have HROW3 := Aside0.mk hrow3; clear hrow3 hb3 HROW HB; have HROW := HROW3; have HB := HB3; clear HROW3 HB3) | (go_at_call 89; ((with_reducible refine (put_rowI _ base p _ _ _ HROW.out ?e1 ?e2 ?e3 ?e4 ?e5).mono ?_); (case e1 => omega); (case e2 => first | decide | omega); (case e3 => omega); (case e4 => first | omega | (simp only [List.length_append, putL_length]; omega)); (case e5 => exact Nat.le_trans HBASE.out HB.out.size); rintro e w3 ⟨rfl, hrow3, hb3⟩); have HB3 := Aside0.mk (HB.out.trans hb3); have HROW3 := Aside0.mk hrow3; clear hrow3 hb3 HROW HB; have HROW := HROW3; have HB := HB3; clear HROW3 HB3))
    go_end0
    exact ⟨rfl, by rw [HC2.out, ← List.append_assoc]; exact HROW.out, HB.out⟩
end Go.Proofs.Ytnpghcikhpglkaa.Q
namespace Go.Proofs.Ytnpghcikhpglkaa.Q
open Go.RowKit Go.Proofs.YtnpghcikhpglkaaW.PrintWords Go.Proofs.YtnpghcikhpglkaaW.PrintLast Go.Proofs.YtnpghcikhpglkaaW.PrintMore Go.Proofs.Ytnpghcikhpglkaa.Hand Go.Proofs.Ytnpghcikhpglkaa.Pu
set_option linter.unusedVariables false
set_option linter.unusedSimpArgs false
/-- A number of any sign as one from 0 on. -/
def foldG (x : Int) : Int := if x < 0 then -2 * x - 1 else 2 * x
theorem foldG_eq (x : Int) (h0 : -1000 ≤ x) (h1 : x ≤ 1000) : code_Fold.f x = some (foldG x) := by
  unfold code_Fold.f foldG
  by_cases h : x < 0
  · rw [if_pos h, if_pos h, wrap_in ((-2) * x) (by omega) (by omega), wrap_in _ (by omega) (by omega)]
  · rw [if_neg h, if_neg h, wrap_in _ (by omega) (by omega)]
theorem foldG_range (x : Int) (h0 : -1000 ≤ x) (h1 : x ≤ 1000) : 0 ≤ foldG x ∧ foldG x ≤ 2000 := by
  unfold foldG; split <;> omega
/-- The number that stands for a list's element. -/
def gnum (v : Int) (l : List Int) (c : Nat) : Int := if c = 0 then foldG (l.getD 0 0 - v) + 1 else l.getD c 0 - l.getD (c - 1) 0
/-- So many elements' bits. -/
def gpieces (v : Int) (l : List Int) : Nat → List Int
  | 0 => []
  | c + 1 => gpieces v l c ++ gammaL (gnum v l c)
/-- A list's bits, by an origin. -/
def gapsL (v : Int) (l : List Int) : List Int := gammaL ((l.length : Int) + 1) ++ gpieces v l l.length
/-- A list that may be. -/
def GMay (l : List Int) : Prop := (∀ i, i < l.length → 0 ≤ l.getD i 0 ∧ l.getD i 0 < 16) ∧ ∀ i, i < l.length - 1 → l.getD i 0 < l.getD (i + 1) 0
theorem gmay_low {l : List Int} (h : GMay l) : ∀ i, i < l.length → (i : Int) ≤ l.getD i 0
  | 0, hi => (h.1 0 hi).1
  | i + 1, hi => by have := gmay_low h i (by omega); have := h.2 i (by omega); omega
theorem gmay_len {l : List Int} (h : GMay l) : l.length ≤ 16 := by
  rcases Nat.eq_zero_or_pos l.length with h0 | h0
  · omega
  · have := gmay_low h (l.length - 1) (by omega)
    have := (h.1 (l.length - 1) (by omega)).2
    omega
theorem gnum_range {v : Int} {l : List Int} (h : GMay l) (hv0 : 0 ≤ v) (hv : v < 16) (c : Nat) (hc : c < l.length) : 1 ≤ gnum v l c ∧ gnum v l c ≤ 2001 := by
  unfold gnum
  by_cases h0 : c = 0
  · subst h0
    have := h.1 0 hc
    have := foldG_range (l.getD 0 0 - v) (by omega) (by omega)
    rw [if_pos rfl]; omega
  · have h1 := h.1 c hc
    have h2 := h.1 (c - 1) (by omega)
    have h3 := h.2 (c - 1) (by omega)
    rw [show c - 1 + 1 = c by omega] at h3
    rw [if_neg h0]; omega
theorem gammaL_le {n : Int} (h1 : 1 ≤ n) (h2 : n ≤ 1073741824) : (gammaL n).length ≤ 61 := by
  have := gammaL_length n
  obtain ⟨_, g0, g1, _⟩ := lg_facts n h1 h2
  omega
theorem gpieces_len {v : Int} {l : List Int} (h : GMay l) (hv0 : 0 ≤ v) (hv : v < 16) : ∀ c, c ≤ l.length → (gpieces v l c).length ≤ 61 * c
  | 0, _ => by simp [gpieces]
  | c + 1, hc => by
    have := gpieces_len h hv0 hv c (by omega)
    have hr := gnum_range h hv0 hv c (by omega)
    have := gammaL_le hr.1 (by omega)
    simp only [gpieces, List.length_append]; omega
set_option maxHeartbeats 4000000 in
set_option maxRecDepth 100000 in
theorem glay (W0 W : World) (base p : Nat) (b : List Int) (v : Int) (A : Option Addr) (cap : Nat) (l : List Int) (hrow : RowL W base p b) (hl : GMay l) (hv0 : 0 ≤ v) (hv : v < 16) (hb : b.length ≤ 6000) (hbase : base ≤ W.heap.size)
    (h0 : W0.heap.size ≤ base) (hB : Below W0.heap.size W0 W) (hr : Kd.C (Kd.int .i64) W0 A l.length l) (hc : l.length ≤ cap) :
    Calls Try.prog 115 #[.pointer (some ⟨p, 0, none⟩), .int .i64 v, .slice A l.length cap] W fun e w' => e = .returned (.tuple #[]) ∧ RowL w' base p (b ++ gapsL v l) ∧ Below base W w' := by
  have HROW := Aside0.mk hrow
  have HB := Aside0.mk (Below.refl base W)
  have HB0 := Aside0.mk hB
  have HBASE := Aside0.mk hbase
  have H0 := Aside0.mk h0
  have hlen := gmay_len hl
  have HR := Aside0.mk hr
  have HGL := Aside0.mk (gammaL_le (n := (l.length : Int) + 1) (by omega) (by omega))
  clear hrow hB hbase h0 hr
  go_enter Try.func115, Try.ntmps115
  go_wp2_with (first | (go_at_call 104; ((with_reducible refine (lay_gamma _ base p _ _ HROW.out ?e1 ?e2 ?e3 ?e4).mono ?_); (case e1 => omega); (case e2 => omega); (case e3 => omega); (case e4 => exact Nat.le_trans HBASE.out HB.out.size); rintro e w3 ⟨rfl, hrow3, hb3⟩); have HB3 := Aside0.mk (HB.out.trans hb3); have HROW3 := Aside0.mk hrow3; clear hrow3 hb3 HROW HB; have HROW := HROW3; have HB := HB3; clear HROW3 HB3))
  go_loopw [15] (fun i wr => ∃ (c : Nat), i = .int .i64 c ∧ c ≤ l.length ∧ Aside0 (RowL wr base p (b ++ gammaL ((l.length : Int) + 1) ++ gpieces v l c)) ∧ Aside0 (Below base W wr))
    (fun i wr => ((l.length : Int) - intOf i).toNat)
  case atStart => exact ⟨0, rfl, Nat.zero_le _, ⟨by simp only [gpieces, List.append_nil]; exact HROW.out⟩, ⟨HB.out⟩⟩
  case round =>
    obtain ⟨c, rfl, hcl, HROWc, HBc⟩ := hrel
    clear HROW HB
    have HB0c := Aside0.mk (HB0.out.trans (HBc.out.mono H0.out))
    have HGP := gpieces_len hl hv0 hv c hcl
    have HLC : Aside0 ((b ++ gammaL ((l.length : Int) + 1) ++ gpieces v l c).length ≤ 1000000) := ⟨by have := HGL.out; simp only [List.length_append]; omega⟩
    clear HGP
    by_cases hlt : c < l.length
    · have hR := hl.1 c hlt
      obtain ⟨ad, ea, hx0⟩ := Kd.at_int HR.out (c : Int) (by omega) (by omega)
      subst ea
      have hx := (HB0c.out.cell (World.block_lt_of_cell? W0 _ hx0)).trans hx0
      have hrd : rd l (c : Int) = l.getD c 0 := by unfold rd; rw [Int.toNat_natCast]
      rw [hrd, Int.toNat_natCast] at hx
      clear hx0 hrd
      have hG := gnum_range hl hv0 hv c hlt
      by_cases hc0 : c = 0
      · subst hc0
        have e0 : ad.add 0 = ad := by unfold Addr.add; split <;> simp_all
        rw [e0] at hx
        clear e0
        have HGN : Aside0 (gnum v l 0 = foldG (l.getD 0 0 - v) + 1) := ⟨by unfold gnum; rw [if_pos rfl]⟩
        rw [HGN.out] at hG
        generalize l.getD 0 0 = x at *
        have HF := Aside0.mk (foldG_eq (x - v) (by omega) (by omega))
        generalize foldG (x - v) = y at *
        go_wp2_with (first | (go_at_call 110; ((with_reducible refine (code_Fold.calls _ y _ HF.out).mono ?_); rintro e w4 ⟨rfl, hd⟩); have HROW4 := Aside0.mk (rowL_draw HROWc.out hd); have HB4 := Aside0.mk (below_draw HBc.out HBASE.out hd); clear hd) | (go_at_call 104; ((with_reducible refine (lay_gamma _ base p _ _ HROW4.out ?e1 ?e2 ?e3 ?e4).mono ?_); (case e1 => omega); (case e2 => omega); (case e3 => exact HLC.out); (case e4 => exact Nat.le_trans HBASE.out HB4.out.size); rintro e w5 ⟨rfl, hrow5, hb5⟩); have HB5 := Aside0.mk (HB4.out.trans hb5); have HROW5 := Aside0.mk hrow5; clear hrow5 hb5))
        go_roundw
        case rel => exact ⟨1, by go_num, by omega, ⟨by rw [gpieces, HGN.out, ← List.append_assoc]; exact HROW5.out⟩, ⟨HB5.out⟩⟩
        case measure => simp [intOf]; omega
      · have h1 := hl.1 (c - 1) (by omega)
        obtain ⟨ad2, ea2, hx1⟩ := Kd.at_int HR.out ((c - 1 : Nat) : Int) (by omega) (by omega)
        cases ea2
        have hy := (HB0c.out.cell (World.block_lt_of_cell? W0 _ hx1)).trans hx1
        have hrd : rd l ((c - 1 : Nat) : Int) = l.getD (c - 1) 0 := by unfold rd; rw [Int.toNat_natCast]
        rw [hrd, Int.toNat_natCast] at hy
        clear hx1 hrd
        have HGN : Aside0 (gnum v l c = l.getD c 0 - l.getD (c - 1) 0) := ⟨by unfold gnum; rw [if_neg hc0]⟩
        rw [HGN.out] at hG
        generalize l.getD c 0 = x at *
        generalize l.getD (c - 1) 0 = y at *
        go_wp2_with (first | (go_at_call 104; ((with_reducible refine (lay_gamma _ base p _ _ HROWc.out ?e1 ?e2 ?e3 ?e4).mono ?_); (case e1 => omega); (case e2 => omega); (case e3 => exact HLC.out); (case e4 => exact Nat.le_trans HBASE.out HBc.out.size); rintro e w5 ⟨rfl, hrow5, hb5⟩); have HB5 := Aside0.mk (HBc.out.trans hb5); have HROW5 := Aside0.mk hrow5; clear hrow5 hb5))
        go_roundw
        case rel => exact ⟨c + 1, by go_num, by omega, ⟨by rw [gpieces, HGN.out, ← List.append_assoc]; exact HROW5.out⟩, ⟨HB5.out⟩⟩
        case measure => simp [intOf]; omega
    · go_wp2
      have hce : c = l.length := by omega
      subst hce
      go_end0
      exact ⟨rfl, by unfold gapsL; rw [← List.append_assoc]; exact HROWc.out, HBc.out⟩
end Go.Proofs.Ytnpghcikhpglkaa.Q
namespace Go.Proofs.Ytnpghcikhpglkaa.Q
open Go.RowKit Go.Proofs.YtnpghcikhpglkaaW.PrintWords Go.Proofs.YtnpghcikhpglkaaW.PrintLast Go.Proofs.YtnpghcikhpglkaaW.PrintMore Go.Proofs.Ytnpghcikhpglkaa.Hand Go.Proofs.Ytnpghcikhpglkaa.Pu
set_option linter.unusedVariables false
set_option linter.unusedSimpArgs false
theorem rowL_from {W : World} {base p : Nat} {s : ByteArray} {n : Int} (hm : MayP s n) (h : RowIs W base p (bytesI s) n) : RowL W base p (ofS s n) := by
  refine ⟨?_, ofS_bits s n⟩
  rw [pack_ofS s n hm, ofS_length, Int.toNat_of_nonneg hm.1]
  exact h
/-- What laying a number's code does. -/
@[reducible] def LayP (kind v : Int) (c : List Int) : Prop := ∀ (W : World) (base p : Nat) (l : List Int), RowL W base p l → l.length ≤ 6000 → base ≤ W.heap.size →
    Calls Try.prog 104 #[.pointer (some ⟨p, 0, none⟩), .int .i64 kind, .int .i64 v] W fun e w' => e = .returned (.tuple #[]) ∧ RowL w' base p (l ++ c) ∧ Below base W w'
set_option maxHeartbeats 4000000 in
set_option maxRecDepth 100000 in
theorem cput_no1 (s : ByteArray) (n kind v : Int) (w : World) (hm : ¬ MayP s n) :
    Calls Try.prog 58 #[.agg #[.string s, .int .i64 n], .int .i64 kind, .int .i64 v] w fun e w' => e = .returned (.tuple #[.agg #[.string ⟨#[]⟩, .int .i64 0], .int .i64 1]) ∧ Below w.heap.size w w' := by
  have hu := Try.underlying27
  have HS := Aside0.mk (start2 w (.cells #[.string s, .int .i64 n] 27) (.cells #[.string ⟨#[]⟩, .int .i64 0] 27))
  have HA := Aside0.mk HS.out.1
  have HR := Aside0.mk HS.out.2.1
  have HB := Aside0.mk HS.out.2.2.1
  clear HS
  have A := Aside0.mk (show bits_May.f s n = some false by rw [may_eq, decide_eq_false hm])
  clear hm
  go_enter Try.func58, Try.ntmps58
  go_wp2_with (first | ((with_reducible refine gate_callee (f := 86) rfl ?_); refine goesL_ (some 10) rfl rfl Try.func86 (by kernel_rfl) rfl #[.agg #[.string s, .int .i64 n]] rfl (by (try simp only [List.map_toArray, List.map_cons, List.map_nil]); first | done | rfl) ?_; (with_reducible refine (bits_May.calls s n false _ A.out).mono ?_); rintro e w3 ⟨rfl, hb3⟩; refine ⟨_, rfl, ?_⟩; have HAA := Aside0.mk (keep2 HA.out hb3 (blk_lt HA.out)); have HRR := Aside0.mk (keep2 HR.out hb3 (blk_lt HR.out)); have HBB := Aside0.mk (below_then HB.out HB.out.size hb3); (try clear a0 a1 g0 g1 c0 c1 f0 f1); clear HA HR HB; have HA := HAA; have HR := HRR; have HB := HBB; clear HAA HRR HBB; obtain ⟨a0, a1, g0, g1⟩ := two_cells HA.out; obtain ⟨c0, c1, f0, f1⟩ := two_cells HR.out; clear hb3))
  refine bodyPost_ret (results_list (rs := [.cell 6 27, .tmp 7]) rfl (by simp) (.cell (w.heap.size + 1) 27 #[.string ⟨#[]⟩, .int .i64 0] (0, 0) _ rfl (put2 HR.out) Try.underlying27 rfl (by kernel_rfl) (.tmp .nil))) rfl ⟨rfl, below_put2 HB.out (by omega) _ _⟩
set_option maxHeartbeats 4000000 in
set_option maxRecDepth 100000 in
theorem cput_no2 (s : ByteArray) (n kind v : Int) (w : World) (hm : MayP s n) (hi : code_Is.f kind = some false) :
    Calls Try.prog 58 #[.agg #[.string s, .int .i64 n], .int .i64 kind, .int .i64 v] w fun e w' => e = .returned (.tuple #[.agg #[.string ⟨#[]⟩, .int .i64 0], .int .i64 1]) ∧ Below w.heap.size w w' := by
  have hu := Try.underlying27
  have HS := Aside0.mk (start2 w (.cells #[.string s, .int .i64 n] 27) (.cells #[.string ⟨#[]⟩, .int .i64 0] 27))
  have HA := Aside0.mk HS.out.1
  have HR := Aside0.mk HS.out.2.1
  have HB := Aside0.mk HS.out.2.2.1
  clear HS
  have A := Aside0.mk (show bits_May.f s n = some true by rw [may_eq, decide_eq_true hm])
  have AI := Aside0.mk hi
  clear hm hi
  go_enter Try.func58, Try.ntmps58
  go_wp2_with (first | ((with_reducible refine gate_callee (f := 86) rfl ?_); refine goesL_ (some 10) rfl rfl Try.func86 (by kernel_rfl) rfl #[.agg #[.string s, .int .i64 n]] rfl (by (try simp only [List.map_toArray, List.map_cons, List.map_nil]); first | done | rfl) ?_; (with_reducible refine (bits_May.calls s n true _ A.out).mono ?_); rintro e w3 ⟨rfl, hb3⟩; refine ⟨_, rfl, ?_⟩; have HAA := Aside0.mk (keep2 HA.out hb3 (blk_lt HA.out)); have HRR := Aside0.mk (keep2 HR.out hb3 (blk_lt HR.out)); have HBB := Aside0.mk (below_then HB.out HB.out.size hb3); (try clear a0 a1 g0 g1 c0 c1 f0 f1); clear HA HR HB; have HA := HAA; have HR := HRR; have HB := HBB; clear HAA HRR HBB; obtain ⟨a0, a1, g0, g1⟩ := two_cells HA.out; obtain ⟨c0, c1, f0, f1⟩ := two_cells HR.out; clear hb3) | (go_at_call 102; ((with_reducible refine (code_Is.calls kind false _ AI.out).mono ?_); rintro e w3 ⟨rfl, hd3⟩); have hb3 := hd3.below; clear hd3; have HAA := Aside0.mk (keep2 HA.out hb3 (blk_lt HA.out)); have HRR := Aside0.mk (keep2 HR.out hb3 (blk_lt HR.out)); have HBB := Aside0.mk (below_then HB.out HB.out.size hb3); (try clear a0 a1 g0 g1 c0 c1 f0 f1); clear HA HR HB; have HA := HAA; have HR := HRR; have HB := HBB; clear HAA HRR HBB; obtain ⟨a0, a1, g0, g1⟩ := two_cells HA.out; obtain ⟨c0, c1, f0, f1⟩ := two_cells HR.out; clear hb3))
  refine bodyPost_ret (results_list (rs := [.cell 6 27, .tmp 7]) rfl (by simp) (.cell (w.heap.size + 1) 27 #[.string ⟨#[]⟩, .int .i64 0] (0, 0) _ rfl (put2 HR.out) Try.underlying27 rfl (by kernel_rfl) (.tmp .nil))) rfl ⟨rfl, below_put2 HB.out (by omega) _ _⟩
set_option maxHeartbeats 4000000 in
set_option maxRecDepth 100000 in
theorem cput_no3 (s : ByteArray) (n kind v : Int) (w : World) (hm : MayP s n) (hi : code_Is.f kind = some true) (hv : code_number.f kind v = some false) :
    Calls Try.prog 58 #[.agg #[.string s, .int .i64 n], .int .i64 kind, .int .i64 v] w fun e w' => e = .returned (.tuple #[.agg #[.string ⟨#[]⟩, .int .i64 0], .int .i64 1]) ∧ Below w.heap.size w w' := by
  have hu := Try.underlying27
  have HS := Aside0.mk (start2 w (.cells #[.string s, .int .i64 n] 27) (.cells #[.string ⟨#[]⟩, .int .i64 0] 27))
  have HA := Aside0.mk HS.out.1
  have HR := Aside0.mk HS.out.2.1
  have HB := Aside0.mk HS.out.2.2.1
  clear HS
  have A := Aside0.mk (show bits_May.f s n = some true by rw [may_eq, decide_eq_true hm])
  have AI := Aside0.mk hi
  have AN := Aside0.mk hv
  clear hm hi hv
  go_enter Try.func58, Try.ntmps58
  go_wp2_with (first | ((with_reducible refine gate_callee (f := 86) rfl ?_); refine goesL_ (some 10) rfl rfl Try.func86 (by kernel_rfl) rfl #[.agg #[.string s, .int .i64 n]] rfl (by (try simp only [List.map_toArray, List.map_cons, List.map_nil]); first | done | rfl) ?_; (with_reducible refine (bits_May.calls s n true _ A.out).mono ?_); rintro e w3 ⟨rfl, hb3⟩; refine ⟨_, rfl, ?_⟩; have HAA := Aside0.mk (keep2 HA.out hb3 (blk_lt HA.out)); have HRR := Aside0.mk (keep2 HR.out hb3 (blk_lt HR.out)); have HBB := Aside0.mk (below_then HB.out HB.out.size hb3); (try clear a0 a1 g0 g1 c0 c1 f0 f1); clear HA HR HB; have HA := HAA; have HR := HRR; have HB := HBB; clear HAA HRR HBB; obtain ⟨a0, a1, g0, g1⟩ := two_cells HA.out; obtain ⟨c0, c1, f0, f1⟩ := two_cells HR.out; clear hb3) | (go_at_call 102; ((with_reducible refine (code_Is.calls kind true _ AI.out).mono ?_); rintro e w3 ⟨rfl, hd3⟩); have hb3 := hd3.below; clear hd3; have HAA := Aside0.mk (keep2 HA.out hb3 (blk_lt HA.out)); have HRR := Aside0.mk (keep2 HR.out hb3 (blk_lt HR.out)); have HBB := Aside0.mk (below_then HB.out HB.out.size hb3); (try clear a0 a1 g0 g1 c0 c1 f0 f1); clear HA HR HB; have HA := HAA; have HR := HRR; have HB := HBB; clear HAA HRR HBB; obtain ⟨a0, a1, g0, g1⟩ := two_cells HA.out; obtain ⟨c0, c1, f0, f1⟩ := two_cells HR.out; clear hb3) | (go_at_call 103; ((with_reducible refine (code_number.calls kind v false _ AN.out).mono ?_); rintro e w3 ⟨rfl, hd3⟩); have hb3 := hd3.below; clear hd3; have HAA := Aside0.mk (keep2 HA.out hb3 (blk_lt HA.out)); have HRR := Aside0.mk (keep2 HR.out hb3 (blk_lt HR.out)); have HBB := Aside0.mk (below_then HB.out HB.out.size hb3); (try clear a0 a1 g0 g1 c0 c1 f0 f1); clear HA HR HB; have HA := HAA; have HR := HRR; have HB := HBB; clear HAA HRR HBB; obtain ⟨a0, a1, g0, g1⟩ := two_cells HA.out; obtain ⟨c0, c1, f0, f1⟩ := two_cells HR.out; clear hb3))
  refine bodyPost_ret (results_list (rs := [.cell 6 27, .tmp 7]) rfl (by simp) (.cell (w.heap.size + 1) 27 #[.string ⟨#[]⟩, .int .i64 0] (0, 0) _ rfl (put2 HR.out) Try.underlying27 rfl (by kernel_rfl) (.tmp .nil))) rfl ⟨rfl, below_put2 HB.out (by omega) _ _⟩
set_option maxHeartbeats 4000000 in
set_option maxRecDepth 100000 in
theorem cput_yes (s : ByteArray) (n kind v : Int) (c : List Int) (m : Int) (w : World) (hmm : ((ofS s n ++ c).length : Int) = m) (hm : MayP s n) (hi : code_Is.f kind = some true) (hv : code_number.f kind v = some true) (hlay : LayP kind v c) (hle : m ≤ 6000) :
    Calls Try.prog 58 #[.agg #[.string s, .int .i64 n], .int .i64 kind, .int .i64 v] w fun e w' => e = .returned (.tuple #[.agg #[.string (packS (ofS s n ++ c)), .int .i64 m], .int .i64 0]) ∧ Below w.heap.size w w' := by
  have hu := Try.underlying27
  have HS := Aside0.mk (start2 w (.cells #[.string s, .int .i64 n] 27) (.cells #[.string ⟨#[]⟩, .int .i64 0] 27))
  have HA := Aside0.mk HS.out.1
  have HR := Aside0.mk HS.out.2.1
  have HB := Aside0.mk HS.out.2.2.1
  clear HS
  have A := Aside0.mk (show bits_May.f s n = some true by rw [may_eq, decide_eq_true hm])
  have AI := Aside0.mk hi
  have AN := Aside0.mk hv
  have HLAY := Aside0.mk hlay
  have HLE := Aside0.mk hle
  have HM := Aside0.mk hm
  have HMM := Aside0.mk hmm
  have HLEN : Aside0 ((ofS s n).length ≤ 6000) := ⟨by rw [ofS_length]; have := hm.2.1; omega⟩
  have hsz : s.size ≤ 1073741824 := by have := hm.2.2.1; have := hm.2.1; omega
  clear hm hi hv hlay hle hmm
  go_enter Try.func58, Try.ntmps58
  go_wp2_with (first | ((with_reducible refine gate_callee (f := 86) rfl ?_); refine goesL_ (some 10) rfl rfl Try.func86 (by kernel_rfl) rfl #[.agg #[.string s, .int .i64 n]] rfl (by (try simp only [List.map_toArray, List.map_cons, List.map_nil]); first | done | rfl) ?_; (with_reducible refine (bits_May.calls s n true _ A.out).mono ?_); rintro e w3 ⟨rfl, hb3⟩; refine ⟨_, rfl, ?_⟩; have HAA := Aside0.mk (keep2 HA.out hb3 (blk_lt HA.out)); have HRR := Aside0.mk (keep2 HR.out hb3 (blk_lt HR.out)); have HBB := Aside0.mk (below_then HB.out HB.out.size hb3); (try clear a0 a1 g0 g1 c0 c1 f0 f1); clear HA HR HB; have HA := HAA; have HR := HRR; have HB := HBB; clear HAA HRR HBB; obtain ⟨a0, a1, g0, g1⟩ := two_cells HA.out; obtain ⟨c0, c1, f0, f1⟩ := two_cells HR.out; clear hb3) | (go_at_call 102; ((with_reducible refine (code_Is.calls kind true _ AI.out).mono ?_); rintro e w3 ⟨rfl, hd3⟩); have hb3 := hd3.below; clear hd3; have HAA := Aside0.mk (keep2 HA.out hb3 (blk_lt HA.out)); have HRR := Aside0.mk (keep2 HR.out hb3 (blk_lt HR.out)); have HBB := Aside0.mk (below_then HB.out HB.out.size hb3); (try clear a0 a1 g0 g1 c0 c1 f0 f1); clear HA HR HB; have HA := HAA; have HR := HRR; have HB := HBB; clear HAA HRR HBB; obtain ⟨a0, a1, g0, g1⟩ := two_cells HA.out; obtain ⟨c0, c1, f0, f1⟩ := two_cells HR.out; clear hb3) | (go_at_call 103; ((with_reducible refine (code_number.calls kind v true _ AN.out).mono ?_); rintro e w3 ⟨rfl, hd3⟩); have hb3 := hd3.below; clear hd3; have HAA := Aside0.mk (keep2 HA.out hb3 (blk_lt HA.out)); have HRR := Aside0.mk (keep2 HR.out hb3 (blk_lt HR.out)); have HBB := Aside0.mk (below_then HB.out HB.out.size hb3); (try clear a0 a1 g0 g1 c0 c1 f0 f1); clear HA HR HB; have HA := HAA; have HR := HRR; have HB := HBB; clear HAA HRR HBB; obtain ⟨a0, a1, g0, g1⟩ := two_cells HA.out; obtain ⟨c0, c1, f0, f1⟩ := two_cells HR.out; clear hb3) | (go_at_call 88; have HBASE := Aside0.mk (blk_lt HR.out); ((with_reducible refine (from_ _ s n hsz).mono ?_); rintro e w3 ⟨p, rfl, hrow, hb3⟩); have HROW := Aside0.mk (rowL_from HM.out hrow); have HZ := Aside0.mk hb3.size; clear hrow; have HAA := Aside0.mk (keep2 HA.out hb3 (blk_lt HA.out)); have HRR := Aside0.mk (keep2 HR.out hb3 (blk_lt HR.out)); have HBB := Aside0.mk (below_then HB.out HB.out.size hb3); (try clear a0 a1 g0 g1 c0 c1 f0 f1); clear HA HR HB; have HA := HAA; have HR := HRR; have HB := HBB; clear HAA HRR HBB; obtain ⟨a0, a1, g0, g1⟩ := two_cells HA.out; obtain ⟨c0, c1, f0, f1⟩ := two_cells HR.out; clear hb3) | (go_at_call 104; ((with_reducible refine (HLAY.out _ _ p _ HROW.out HLEN.out HZ.out).mono ?_); rintro e w3 ⟨rfl, hrow3, hb3⟩); have HROW3 := Aside0.mk hrow3; have HAA := Aside0.mk (keep2 HA.out hb3 (Nat.lt_of_succ_lt HBASE.out)); have HRR := Aside0.mk (keep2 HR.out hb3 HBASE.out); have HBB := Aside0.mk (HB.out.trans (hb3.mono (Nat.le_of_lt (Nat.lt_of_succ_lt HBASE.out)))); clear a0 a1 g0 g1 c0 c1 f0 f1; clear HA HR HB hrow3 hb3 HROW; have HA := HAA; have HR := HRR; have HB := HBB; clear HAA HRR HBB; obtain ⟨a0, a1, g0, g1⟩ := two_cells HA.out; obtain ⟨c0, c1, f0, f1⟩ := two_cells HR.out))
  go_wp2_with (first | (go_at_call 90; ((with_reducible refine (row_bits_yes _ _ p _ m (HMM.out ▸ HROW3.out.out) HLE.out).mono ?_); rintro e w3 ⟨rfl, hb3⟩); have HAA := Aside0.mk (keep2 HA.out hb3 (blk_lt HA.out)); have HRR := Aside0.mk (keep2 HR.out hb3 (blk_lt HR.out)); have HBB := Aside0.mk (below_then HB.out HB.out.size hb3); (try clear a0 a1 g0 g1 c0 c1 f0 f1); clear HA HR HB; have HA := HAA; have HR := HRR; have HB := HBB; clear HAA HRR HBB; obtain ⟨a0, a1, g0, g1⟩ := two_cells HA.out; obtain ⟨c0, c1, f0, f1⟩ := two_cells HR.out; clear hb3))
  refine bodyPost_ret (results_list (rs := [.cell 6 27, .tmp 7]) rfl (by simp) (.cell (w.heap.size + 1) 27 #[.string (strOfNums (packL (ofS s n ++ c))), .int .i64 m] (0, 0) _ rfl (put2 HR.out) Try.underlying27 rfl (by kernel_rfl) (.tmp .nil))) rfl ⟨rfl, below_put2 HB.out (by omega) _ _⟩
set_option maxHeartbeats 4000000 in
set_option maxRecDepth 100000 in
theorem cput_no (s : ByteArray) (n kind v : Int) (c : List Int) (m : Int) (w : World) (hmm : ((ofS s n ++ c).length : Int) = m) (hm : MayP s n) (hi : code_Is.f kind = some true) (hv : code_number.f kind v = some true) (hlay : LayP kind v c) (hle : 6000 < m) :
    Calls Try.prog 58 #[.agg #[.string s, .int .i64 n], .int .i64 kind, .int .i64 v] w fun e w' => e = .returned (.tuple #[.agg #[.string ⟨#[]⟩, .int .i64 0], .int .i64 2]) ∧ Below w.heap.size w w' := by
  have hu := Try.underlying27
  have HS := Aside0.mk (start2 w (.cells #[.string s, .int .i64 n] 27) (.cells #[.string ⟨#[]⟩, .int .i64 0] 27))
  have HA := Aside0.mk HS.out.1
  have HR := Aside0.mk HS.out.2.1
  have HB := Aside0.mk HS.out.2.2.1
  clear HS
  have A := Aside0.mk (show bits_May.f s n = some true by rw [may_eq, decide_eq_true hm])
  have AI := Aside0.mk hi
  have AN := Aside0.mk hv
  have HLAY := Aside0.mk hlay
  have HLE := Aside0.mk hle
  have HM := Aside0.mk hm
  have HMM := Aside0.mk hmm
  have HLEN : Aside0 ((ofS s n).length ≤ 6000) := ⟨by rw [ofS_length]; have := hm.2.1; omega⟩
  have hsz : s.size ≤ 1073741824 := by have := hm.2.2.1; have := hm.2.1; omega
  clear hm hi hv hlay hle hmm
  go_enter Try.func58, Try.ntmps58
  go_wp2_with (first | ((with_reducible refine gate_callee (f := 86) rfl ?_); refine goesL_ (some 10) rfl rfl Try.func86 (by kernel_rfl) rfl #[.agg #[.string s, .int .i64 n]] rfl (by (try simp only [List.map_toArray, List.map_cons, List.map_nil]); first | done | rfl) ?_; (with_reducible refine (bits_May.calls s n true _ A.out).mono ?_); rintro e w3 ⟨rfl, hb3⟩; refine ⟨_, rfl, ?_⟩; have HAA := Aside0.mk (keep2 HA.out hb3 (blk_lt HA.out)); have HRR := Aside0.mk (keep2 HR.out hb3 (blk_lt HR.out)); have HBB := Aside0.mk (below_then HB.out HB.out.size hb3); (try clear a0 a1 g0 g1 c0 c1 f0 f1); clear HA HR HB; have HA := HAA; have HR := HRR; have HB := HBB; clear HAA HRR HBB; obtain ⟨a0, a1, g0, g1⟩ := two_cells HA.out; obtain ⟨c0, c1, f0, f1⟩ := two_cells HR.out; clear hb3) | (go_at_call 102; ((with_reducible refine (code_Is.calls kind true _ AI.out).mono ?_); rintro e w3 ⟨rfl, hd3⟩); have hb3 := hd3.below; clear hd3; have HAA := Aside0.mk (keep2 HA.out hb3 (blk_lt HA.out)); have HRR := Aside0.mk (keep2 HR.out hb3 (blk_lt HR.out)); have HBB := Aside0.mk (below_then HB.out HB.out.size hb3); (try clear a0 a1 g0 g1 c0 c1 f0 f1); clear HA HR HB; have HA := HAA; have HR := HRR; have HB := HBB; clear HAA HRR HBB; obtain ⟨a0, a1, g0, g1⟩ := two_cells HA.out; obtain ⟨c0, c1, f0, f1⟩ := two_cells HR.out; clear hb3) | (go_at_call 103; ((with_reducible refine (code_number.calls kind v true _ AN.out).mono ?_); rintro e w3 ⟨rfl, hd3⟩); have hb3 := hd3.below; clear hd3; have HAA := Aside0.mk (keep2 HA.out hb3 (blk_lt HA.out)); have HRR := Aside0.mk (keep2 HR.out hb3 (blk_lt HR.out)); have HBB := Aside0.mk (below_then HB.out HB.out.size hb3); (try clear a0 a1 g0 g1 c0 c1 f0 f1); clear HA HR HB; have HA := HAA; have HR := HRR; have HB := HBB; clear HAA HRR HBB; obtain ⟨a0, a1, g0, g1⟩ := two_cells HA.out; obtain ⟨c0, c1, f0, f1⟩ := two_cells HR.out; clear hb3) | (go_at_call 88; have HBASE := Aside0.mk (blk_lt HR.out); ((with_reducible refine (from_ _ s n hsz).mono ?_); rintro e w3 ⟨p, rfl, hrow, hb3⟩); have HROW := Aside0.mk (rowL_from HM.out hrow); have HZ := Aside0.mk hb3.size; clear hrow; have HAA := Aside0.mk (keep2 HA.out hb3 (blk_lt HA.out)); have HRR := Aside0.mk (keep2 HR.out hb3 (blk_lt HR.out)); have HBB := Aside0.mk (below_then HB.out HB.out.size hb3); (try clear a0 a1 g0 g1 c0 c1 f0 f1); clear HA HR HB; have HA := HAA; have HR := HRR; have HB := HBB; clear HAA HRR HBB; obtain ⟨a0, a1, g0, g1⟩ := two_cells HA.out; obtain ⟨c0, c1, f0, f1⟩ := two_cells HR.out; clear hb3) | (go_at_call 104; ((with_reducible refine (HLAY.out _ _ p _ HROW.out HLEN.out HZ.out).mono ?_); rintro e w3 ⟨rfl, hrow3, hb3⟩); have HROW3 := Aside0.mk hrow3; have HAA := Aside0.mk (keep2 HA.out hb3 (Nat.lt_of_succ_lt HBASE.out)); have HRR := Aside0.mk (keep2 HR.out hb3 HBASE.out); have HBB := Aside0.mk (HB.out.trans (hb3.mono (Nat.le_of_lt (Nat.lt_of_succ_lt HBASE.out)))); clear a0 a1 g0 g1 c0 c1 f0 f1; clear HA HR HB hrow3 hb3 HROW; have HA := HAA; have HR := HRR; have HB := HBB; clear HAA HRR HBB; obtain ⟨a0, a1, g0, g1⟩ := two_cells HA.out; obtain ⟨c0, c1, f0, f1⟩ := two_cells HR.out))
  go_wp2_with (first | (go_at_call 90; ((with_reducible refine (row_bits_no _ _ p _ m (HMM.out ▸ HROW3.out.out) HLE.out).mono ?_); rintro e w3 ⟨rfl, hb3⟩); have HAA := Aside0.mk (keep2 HA.out hb3 (blk_lt HA.out)); have HRR := Aside0.mk (keep2 HR.out hb3 (blk_lt HR.out)); have HBB := Aside0.mk (below_then HB.out HB.out.size hb3); (try clear a0 a1 g0 g1 c0 c1 f0 f1); clear HA HR HB; have HA := HAA; have HR := HRR; have HB := HBB; clear HAA HRR HBB; obtain ⟨a0, a1, g0, g1⟩ := two_cells HA.out; obtain ⟨c0, c1, f0, f1⟩ := two_cells HR.out; clear hb3))
  refine bodyPost_ret (results_list (rs := [.cell 6 27, .tmp 7]) rfl (by simp) (.cell (w.heap.size + 1) 27 #[.string ⟨#[]⟩, .int .i64 0] (0, 0) _ rfl (put2 HR.out) Try.underlying27 rfl (by kernel_rfl) (.tmp .nil))) rfl ⟨rfl, below_put2 HB.out (by omega) _ _⟩
end Go.Proofs.Ytnpghcikhpglkaa.Q
namespace Go.Proofs.Ytnpghcikhpglkaa.Q
open Go.RowKit Go.Proofs.YtnpghcikhpglkaaW.PrintWords Go.Proofs.YtnpghcikhpglkaaW.PrintLast Go.Proofs.YtnpghcikhpglkaaW.PrintMore Go.Proofs.Ytnpghcikhpglkaa.Hand Go.Proofs.Ytnpghcikhpglkaa.Pu
set_option linter.unusedVariables false
set_option linter.unusedSimpArgs false
theorem rowL_new (W : World) : RowL (W.alloc (.cells #[.slice none 0 0, .int .i64 0] 116)) W.heap.size W.heap.size [] :=
  ⟨⟨_, heap_alloc_new W _, OwnB.nil _ _, Nat.le_refl _⟩, IsBits.nil⟩
set_option maxHeartbeats 4000000 in
set_option maxRecDepth 100000 in
theorem csize_no1 (kind v : Int) (w : World) (hi : code_Is.f kind = some false) :
    Calls Try.prog 64 #[.int .i64 kind, .int .i64 v] w fun e w' => e = .returned (.tuple #[.int .i64 0, .int .i64 1]) ∧ Below w.heap.size w w' := by
  have HB := Aside0.mk (Below.refl w.heap.size w)
  have AI := Aside0.mk hi
  clear hi
  go_enter Try.func64, Try.ntmps64
  go_wp2_with (first | (go_at_call 102; ((with_reducible refine (code_Is.calls kind false _ AI.out).mono ?_); rintro e w3 ⟨rfl, hd3⟩); have hb3 := hd3.below; clear hd3; have HBB := Aside0.mk (below_then HB.out HB.out.size hb3); clear HB; have HB := HBB; clear HBB hb3))
  refine bodyPost_ret (results_list (rs := [.tmp 4, .tmp 5]) rfl (by simp) (.tmp (.tmp .nil))) rfl ⟨rfl, HB.out⟩
set_option maxHeartbeats 4000000 in
set_option maxRecDepth 100000 in
theorem csize_no2 (kind v : Int) (w : World) (hi : code_Is.f kind = some true) (hv : code_number.f kind v = some false) :
    Calls Try.prog 64 #[.int .i64 kind, .int .i64 v] w fun e w' => e = .returned (.tuple #[.int .i64 0, .int .i64 1]) ∧ Below w.heap.size w w' := by
  have HB := Aside0.mk (Below.refl w.heap.size w)
  have AI := Aside0.mk hi
  have AN := Aside0.mk hv
  clear hi hv
  go_enter Try.func64, Try.ntmps64
  go_wp2_with (first | (go_at_call 102; ((with_reducible refine (code_Is.calls kind true _ AI.out).mono ?_); rintro e w3 ⟨rfl, hd3⟩); have hb3 := hd3.below; clear hd3; have HBB := Aside0.mk (below_then HB.out HB.out.size hb3); clear HB; have HB := HBB; clear HBB hb3) | (go_at_call 103; ((with_reducible refine (code_number.calls kind v false _ AN.out).mono ?_); rintro e w4 ⟨rfl, hd3⟩); have hb3 := hd3.below; clear hd3; have HBB := Aside0.mk (below_then HB.out HB.out.size hb3); clear HB; have HB := HBB; clear HBB hb3))
  refine bodyPost_ret (results_list (rs := [.tmp 4, .tmp 5]) rfl (by simp) (.tmp (.tmp .nil))) rfl ⟨rfl, HB.out⟩
set_option maxHeartbeats 4000000 in
set_option maxRecDepth 100000 in
theorem csize_yes (kind v : Int) (c : List Int) (m : Int) (w : World) (hmm : (([] ++ c : List Int).length : Int) = m) (hi : code_Is.f kind = some true) (hv : code_number.f kind v = some true) (hlay : LayP kind v c) :
    Calls Try.prog 64 #[.int .i64 kind, .int .i64 v] w fun e w' => e = .returned (.tuple #[.int .i64 m, .int .i64 0]) ∧ Below w.heap.size w w' := by
  have HB := Aside0.mk (Below.refl w.heap.size w)
  have AI := Aside0.mk hi
  have AN := Aside0.mk hv
  have HLAY := Aside0.mk hlay
  have HMM := Aside0.mk hmm
  clear hi hv hlay hmm
  go_enter Try.func64, Try.ntmps64
  go_wp2_with (first | (go_at_call 102; ((with_reducible refine (code_Is.calls kind true _ AI.out).mono ?_); rintro e w3 ⟨rfl, hd3⟩); have hb3 := hd3.below; clear hd3; have HBB := Aside0.mk (below_then HB.out HB.out.size hb3); clear HB; have HB := HBB; clear HBB hb3) | (go_at_call 103; ((with_reducible refine (code_number.calls kind v true _ AN.out).mono ?_); rintro e w4 ⟨rfl, hd3⟩); have hb3 := hd3.below; clear hd3; have HBB := Aside0.mk (below_then HB.out HB.out.size hb3); clear HB; have HB := HBB; clear HBB hb3) | (go_at_call 104; ((with_reducible refine (HLAY.out _ _ _ [] (rowL_new _) (by simp) (by simp)).mono ?_); rintro e w5 ⟨rfl, hrow3, hb3⟩); have HROW3 := Aside0.mk hrow3; have HBB := Aside0.mk ((HB.out.alloc HB.out.size _).trans (hb3.mono HB.out.size)); clear HB hrow3 hb3; have HB := HBB; clear HBB) | (go_at_call 109; ((with_reducible refine (row_size _ _ _ _ m (HMM.out ▸ HROW3.out.out)).mono ?_); rintro e w6 ⟨rfl, rfl⟩)))
  refine bodyPost_ret (results_list (rs := [.tmp 4, .tmp 5]) rfl (by simp) (.tmp (.tmp .nil))) rfl ⟨rfl, HB.out⟩
end Go.Proofs.Ytnpghcikhpglkaa.Q
namespace Go.Proofs.Ytnpghcikhpglkaa.Q
open Go.RowKit Go.Proofs.YtnpghcikhpglkaaW.PrintWords Go.Proofs.YtnpghcikhpglkaaW.PrintLast Go.Proofs.YtnpghcikhpglkaaW.PrintMore Go.Proofs.Ytnpghcikhpglkaa.Hand Go.Proofs.Ytnpghcikhpglkaa.Pu
set_option linter.unusedVariables false
set_option linter.unusedSimpArgs false
set_option maxHeartbeats 4000000 in
set_option maxRecDepth 100000 in
theorem gput_no1 (s : ByteArray) (n v : Int) (A0 : Option Addr) (cap : Nat) (l : List Int) (K : Nat) (w : World) (hr : Kd.C (Kd.int .i64) w A0 l.length l) (hc : l.length ≤ cap) (hm : ¬ MayP s n) :
    Calls Try.prog 71 #[.agg #[.string s, .int .i64 n], .int .i64 v, .slice A0 l.length cap] w fun e w' => e = .returned (.tuple #[.agg #[.string ⟨#[]⟩, .int .i64 0], .int .i64 1]) ∧ Below w.heap.size w w' := by
  have hu := Try.underlying27
  have HS := Aside0.mk (start2 w (.cells #[.string s, .int .i64 n] 27) (.cells #[.string ⟨#[]⟩, .int .i64 0] 27))
  have HA := Aside0.mk HS.out.1
  have HR := Aside0.mk HS.out.2.1
  have HB := Aside0.mk HS.out.2.2.1
  have HL := Aside0.mk hr
  have HC := Aside0.mk hc
  clear HS hr
  have A := Aside0.mk (show bits_May.f s n = some false by rw [may_eq, decide_eq_false hm])
  clear hm
  go_enter Try.func71, Try.ntmps71
  go_wp2_with (first | ((with_reducible refine gate_callee (f := 86) rfl ?_); refine goesL_ (some 10) rfl rfl Try.func86 (by kernel_rfl) rfl #[.agg #[.string s, .int .i64 n]] rfl (by (try simp only [List.map_toArray, List.map_cons, List.map_nil]); first | done | rfl) ?_; (with_reducible refine (bits_May.calls s n false _ A.out).mono ?_); rintro e w3 ⟨rfl, hb3⟩; refine ⟨_, rfl, ?_⟩; have HAA := Aside0.mk (keep2 HA.out hb3 (blk_lt HA.out)); have HRR := Aside0.mk (keep2 HR.out hb3 (blk_lt HR.out)); have HBB := Aside0.mk (below_then HB.out HB.out.size hb3); (try clear a0 a1 g0 g1 c0 c1 f0 f1); clear HA HR HB; have HA := HAA; have HR := HRR; have HB := HBB; clear HAA HRR HBB; obtain ⟨a0, a1, g0, g1⟩ := two_cells HA.out; obtain ⟨c0, c1, f0, f1⟩ := two_cells HR.out; clear hb3))
  refine bodyPost_ret (results_list (rs := [.cell 6 27, .tmp 7]) rfl (by simp) (.cell (w.heap.size + 1) 27 #[.string ⟨#[]⟩, .int .i64 0] (0, 0) _ rfl (put2 HR.out) Try.underlying27 rfl (by kernel_rfl) (.tmp .nil))) rfl ⟨rfl, below_put2 HB.out (by omega) _ _⟩
set_option maxHeartbeats 4000000 in
set_option maxRecDepth 100000 in
theorem gput_no2 (s : ByteArray) (n v : Int) (A0 : Option Addr) (cap : Nat) (l : List Int) (K : Nat) (w : World) (hr : Kd.C (Kd.int .i64) w A0 l.length l) (hc : l.length ≤ cap) (hm : MayP s n) (hi : gaps_Is.f v = some false) :
    Calls Try.prog 71 #[.agg #[.string s, .int .i64 n], .int .i64 v, .slice A0 l.length cap] w fun e w' => e = .returned (.tuple #[.agg #[.string ⟨#[]⟩, .int .i64 0], .int .i64 1]) ∧ Below w.heap.size w w' := by
  have hu := Try.underlying27
  have HS := Aside0.mk (start2 w (.cells #[.string s, .int .i64 n] 27) (.cells #[.string ⟨#[]⟩, .int .i64 0] 27))
  have HA := Aside0.mk HS.out.1
  have HR := Aside0.mk HS.out.2.1
  have HB := Aside0.mk HS.out.2.2.1
  have HL := Aside0.mk hr
  have HC := Aside0.mk hc
  clear HS hr
  have A := Aside0.mk (show bits_May.f s n = some true by rw [may_eq, decide_eq_true hm])
  have AI := Aside0.mk hi
  clear hm hi
  go_enter Try.func71, Try.ntmps71
  go_wp2_with (first | ((with_reducible refine gate_callee (f := 86) rfl ?_); refine goesL_ (some 10) rfl rfl Try.func86 (by kernel_rfl) rfl #[.agg #[.string s, .int .i64 n]] rfl (by (try simp only [List.map_toArray, List.map_cons, List.map_nil]); first | done | rfl) ?_; (with_reducible refine (bits_May.calls s n true _ A.out).mono ?_); rintro e w3 ⟨rfl, hb3⟩; refine ⟨_, rfl, ?_⟩; have HAA := Aside0.mk (keep2 HA.out hb3 (blk_lt HA.out)); have HRR := Aside0.mk (keep2 HR.out hb3 (blk_lt HR.out)); have HBB := Aside0.mk (below_then HB.out HB.out.size hb3); (try clear a0 a1 g0 g1 c0 c1 f0 f1); clear HA HR HB; have HA := HAA; have HR := HRR; have HB := HBB; clear HAA HRR HBB; obtain ⟨a0, a1, g0, g1⟩ := two_cells HA.out; obtain ⟨c0, c1, f0, f1⟩ := two_cells HR.out; clear hb3) | (go_at_call 113; ((with_reducible refine (gaps_Is.calls v false _ AI.out).mono ?_); rintro e w3 ⟨rfl, hd3⟩); have hb3 := hd3.below; clear hd3; have HAA := Aside0.mk (keep2 HA.out hb3 (blk_lt HA.out)); have HRR := Aside0.mk (keep2 HR.out hb3 (blk_lt HR.out)); have HBB := Aside0.mk (below_then HB.out HB.out.size hb3); (try clear a0 a1 g0 g1 c0 c1 f0 f1); clear HA HR HB; have HA := HAA; have HR := HRR; have HB := HBB; clear HAA HRR HBB; obtain ⟨a0, a1, g0, g1⟩ := two_cells HA.out; obtain ⟨c0, c1, f0, f1⟩ := two_cells HR.out; clear hb3))
  refine bodyPost_ret (results_list (rs := [.cell 6 27, .tmp 7]) rfl (by simp) (.cell (w.heap.size + 1) 27 #[.string ⟨#[]⟩, .int .i64 0] (0, 0) _ rfl (put2 HR.out) Try.underlying27 rfl (by kernel_rfl) (.tmp .nil))) rfl ⟨rfl, below_put2 HB.out (by omega) _ _⟩
set_option maxHeartbeats 4000000 in
set_option maxRecDepth 100000 in
theorem gput_no3 (s : ByteArray) (n v : Int) (A0 : Option Addr) (cap : Nat) (l : List Int) (K : Nat) (w : World) (hr : Kd.C (Kd.int .i64) w A0 l.length l) (hc : l.length ≤ cap) (hm : MayP s n) (hi : gaps_Is.f v = some true) (hv : gaps_May.f K l = some false) :
    Calls Try.prog 71 #[.agg #[.string s, .int .i64 n], .int .i64 v, .slice A0 l.length cap] w fun e w' => e = .returned (.tuple #[.agg #[.string ⟨#[]⟩, .int .i64 0], .int .i64 1]) ∧ Below w.heap.size w w' := by
  have hu := Try.underlying27
  have HS := Aside0.mk (start2 w (.cells #[.string s, .int .i64 n] 27) (.cells #[.string ⟨#[]⟩, .int .i64 0] 27))
  have HA := Aside0.mk HS.out.1
  have HR := Aside0.mk HS.out.2.1
  have HB := Aside0.mk HS.out.2.2.1
  have HL := Aside0.mk hr
  have HC := Aside0.mk hc
  clear HS hr
  have A := Aside0.mk (show bits_May.f s n = some true by rw [may_eq, decide_eq_true hm])
  have AI := Aside0.mk hi
  have AN := Aside0.mk hv
  clear hm hi hv
  go_enter Try.func71, Try.ntmps71
  go_wp2_with (first | ((with_reducible refine gate_callee (f := 86) rfl ?_); refine goesL_ (some 10) rfl rfl Try.func86 (by kernel_rfl) rfl #[.agg #[.string s, .int .i64 n]] rfl (by (try simp only [List.map_toArray, List.map_cons, List.map_nil]); first | done | rfl) ?_; (with_reducible refine (bits_May.calls s n true _ A.out).mono ?_); rintro e w3 ⟨rfl, hb3⟩; refine ⟨_, rfl, ?_⟩; have HAA := Aside0.mk (keep2 HA.out hb3 (blk_lt HA.out)); have HRR := Aside0.mk (keep2 HR.out hb3 (blk_lt HR.out)); have HBB := Aside0.mk (below_then HB.out HB.out.size hb3); (try clear a0 a1 g0 g1 c0 c1 f0 f1); clear HA HR HB; have HA := HAA; have HR := HRR; have HB := HBB; clear HAA HRR HBB; obtain ⟨a0, a1, g0, g1⟩ := two_cells HA.out; obtain ⟨c0, c1, f0, f1⟩ := two_cells HR.out; clear hb3) | (go_at_call 113; ((with_reducible refine (gaps_Is.calls v true _ AI.out).mono ?_); rintro e w3 ⟨rfl, hd3⟩); have hb3 := hd3.below; clear hd3; have HAA := Aside0.mk (keep2 HA.out hb3 (blk_lt HA.out)); have HRR := Aside0.mk (keep2 HR.out hb3 (blk_lt HR.out)); have HBB := Aside0.mk (below_then HB.out HB.out.size hb3); (try clear a0 a1 g0 g1 c0 c1 f0 f1); clear HA HR HB; have HA := HAA; have HR := HRR; have HB := HBB; clear HAA HRR HBB; obtain ⟨a0, a1, g0, g1⟩ := two_cells HA.out; obtain ⟨c0, c1, f0, f1⟩ := two_cells HR.out; clear hb3) | (go_at_call 114; ((with_reducible refine (gaps_May.calls K A0 cap l false _ ?s1 HC.out AN.out).mono ?_); (case s1 => exact Kd.C_below HL.out HB.out); rintro e w3 ⟨rfl, hd3⟩); have hb3 := hd3.below; clear hd3; have HAA := Aside0.mk (keep2 HA.out hb3 (blk_lt HA.out)); have HRR := Aside0.mk (keep2 HR.out hb3 (blk_lt HR.out)); have HBB := Aside0.mk (below_then HB.out HB.out.size hb3); (try clear a0 a1 g0 g1 c0 c1 f0 f1); clear HA HR HB; have HA := HAA; have HR := HRR; have HB := HBB; clear HAA HRR HBB; obtain ⟨a0, a1, g0, g1⟩ := two_cells HA.out; obtain ⟨c0, c1, f0, f1⟩ := two_cells HR.out; clear hb3))
  refine bodyPost_ret (results_list (rs := [.cell 6 27, .tmp 7]) rfl (by simp) (.cell (w.heap.size + 1) 27 #[.string ⟨#[]⟩, .int .i64 0] (0, 0) _ rfl (put2 HR.out) Try.underlying27 rfl (by kernel_rfl) (.tmp .nil))) rfl ⟨rfl, below_put2 HB.out (by omega) _ _⟩
set_option maxHeartbeats 4000000 in
set_option maxRecDepth 100000 in
theorem gput_yes (s : ByteArray) (n v : Int) (A0 : Option Addr) (cap : Nat) (l : List Int) (K : Nat) (w : World) (hr : Kd.C (Kd.int .i64) w A0 l.length l) (hc : l.length ≤ cap) (m : Int) (hmm : ((ofS s n ++ gapsL v l).length : Int) = m) (hm : MayP s n) (hi : gaps_Is.f v = some true) (hv0 : 0 ≤ v) (hv15 : v < 16) (hv : gaps_May.f K l = some true) (hg : GMay l) (hle : m ≤ 6000) :
    Calls Try.prog 71 #[.agg #[.string s, .int .i64 n], .int .i64 v, .slice A0 l.length cap] w fun e w' => e = .returned (.tuple #[.agg #[.string (packS (ofS s n ++ gapsL v l)), .int .i64 m], .int .i64 0]) ∧ Below w.heap.size w w' := by
  have hu := Try.underlying27
  have HS := Aside0.mk (start2 w (.cells #[.string s, .int .i64 n] 27) (.cells #[.string ⟨#[]⟩, .int .i64 0] 27))
  have HA := Aside0.mk HS.out.1
  have HR := Aside0.mk HS.out.2.1
  have HB := Aside0.mk HS.out.2.2.1
  have HL := Aside0.mk hr
  have HC := Aside0.mk hc
  clear HS hr
  have A := Aside0.mk (show bits_May.f s n = some true by rw [may_eq, decide_eq_true hm])
  have AI := Aside0.mk hi
  have AN := Aside0.mk hv
  have HG := Aside0.mk hg
  have HLE := Aside0.mk hle
  have HM := Aside0.mk hm
  have HMM := Aside0.mk hmm
  have HLEN : Aside0 ((ofS s n).length ≤ 6000) := ⟨by rw [ofS_length]; have := hm.2.1; omega⟩
  have hsz : s.size ≤ 1073741824 := by have := hm.2.2.1; have := hm.2.1; omega
  clear hm hi hv hg hle hmm
  go_enter Try.func71, Try.ntmps71
  go_wp2_with (first | ((with_reducible refine gate_callee (f := 86) rfl ?_); refine goesL_ (some 10) rfl rfl Try.func86 (by kernel_rfl) rfl #[.agg #[.string s, .int .i64 n]] rfl (by (try simp only [List.map_toArray, List.map_cons, List.map_nil]); first | done | rfl) ?_; (with_reducible refine (bits_May.calls s n true _ A.out).mono ?_); rintro e w3 ⟨rfl, hb3⟩; refine ⟨_, rfl, ?_⟩; have HAA := Aside0.mk (keep2 HA.out hb3 (blk_lt HA.out)); have HRR := Aside0.mk (keep2 HR.out hb3 (blk_lt HR.out)); have HBB := Aside0.mk (below_then HB.out HB.out.size hb3); (try clear a0 a1 g0 g1 c0 c1 f0 f1); clear HA HR HB; have HA := HAA; have HR := HRR; have HB := HBB; clear HAA HRR HBB; obtain ⟨a0, a1, g0, g1⟩ := two_cells HA.out; obtain ⟨c0, c1, f0, f1⟩ := two_cells HR.out; clear hb3) | (go_at_call 113; ((with_reducible refine (gaps_Is.calls v true _ AI.out).mono ?_); rintro e w3 ⟨rfl, hd3⟩); have hb3 := hd3.below; clear hd3; have HAA := Aside0.mk (keep2 HA.out hb3 (blk_lt HA.out)); have HRR := Aside0.mk (keep2 HR.out hb3 (blk_lt HR.out)); have HBB := Aside0.mk (below_then HB.out HB.out.size hb3); (try clear a0 a1 g0 g1 c0 c1 f0 f1); clear HA HR HB; have HA := HAA; have HR := HRR; have HB := HBB; clear HAA HRR HBB; obtain ⟨a0, a1, g0, g1⟩ := two_cells HA.out; obtain ⟨c0, c1, f0, f1⟩ := two_cells HR.out; clear hb3) | (go_at_call 114; ((with_reducible refine (gaps_May.calls K A0 cap l true _ ?s1 HC.out AN.out).mono ?_); (case s1 => exact Kd.C_below HL.out HB.out); rintro e w3 ⟨rfl, hd3⟩); have hb3 := hd3.below; clear hd3; have HAA := Aside0.mk (keep2 HA.out hb3 (blk_lt HA.out)); have HRR := Aside0.mk (keep2 HR.out hb3 (blk_lt HR.out)); have HBB := Aside0.mk (below_then HB.out HB.out.size hb3); (try clear a0 a1 g0 g1 c0 c1 f0 f1); clear HA HR HB; have HA := HAA; have HR := HRR; have HB := HBB; clear HAA HRR HBB; obtain ⟨a0, a1, g0, g1⟩ := two_cells HA.out; obtain ⟨c0, c1, f0, f1⟩ := two_cells HR.out; clear hb3) | (go_at_call 88; have HBASE := Aside0.mk (blk_lt HR.out); have HBF := Aside0.mk HB.out; ((with_reducible refine (from_ _ s n hsz).mono ?_); rintro e w3 ⟨p, rfl, hrow, hb3⟩); have HROW := Aside0.mk (rowL_from HM.out hrow); have HZ := Aside0.mk hb3.size; clear hrow; have HAA := Aside0.mk (keep2 HA.out hb3 (blk_lt HA.out)); have HRR := Aside0.mk (keep2 HR.out hb3 (blk_lt HR.out)); have HBB := Aside0.mk (below_then HB.out HB.out.size hb3); (try clear a0 a1 g0 g1 c0 c1 f0 f1); clear HA HR HB; have HA := HAA; have HR := HRR; have HB := HBB; clear HAA HRR HBB; obtain ⟨a0, a1, g0, g1⟩ := two_cells HA.out; obtain ⟨c0, c1, f0, f1⟩ := two_cells HR.out; clear hb3) | (go_at_call 115; ((with_reducible refine (glay w _ _ p _ v A0 cap l HROW.out HG.out hv0 hv15 HLEN.out HZ.out HBF.out.size HB.out HL.out HC.out).mono ?_); rintro e w3 ⟨rfl, hrow3, hb3⟩); have HROW3 := Aside0.mk hrow3; have HAA := Aside0.mk (keep2 HA.out hb3 (Nat.lt_of_succ_lt HBASE.out)); have HRR := Aside0.mk (keep2 HR.out hb3 HBASE.out); have HBB := Aside0.mk (HB.out.trans (hb3.mono (Nat.le_of_lt (Nat.lt_of_succ_lt HBASE.out)))); clear a0 a1 g0 g1 c0 c1 f0 f1; clear HA HR HB hrow3 hb3 HROW; have HA := HAA; have HR := HRR; have HB := HBB; clear HAA HRR HBB; obtain ⟨a0, a1, g0, g1⟩ := two_cells HA.out; obtain ⟨c0, c1, f0, f1⟩ := two_cells HR.out))
  go_wp2_with (first | (go_at_call 90; ((with_reducible refine (row_bits_yes _ _ p _ m (HMM.out ▸ HROW3.out.out) HLE.out).mono ?_); rintro e w3 ⟨rfl, hb3⟩); have HAA := Aside0.mk (keep2 HA.out hb3 (blk_lt HA.out)); have HRR := Aside0.mk (keep2 HR.out hb3 (blk_lt HR.out)); have HBB := Aside0.mk (below_then HB.out HB.out.size hb3); (try clear a0 a1 g0 g1 c0 c1 f0 f1); clear HA HR HB; have HA := HAA; have HR := HRR; have HB := HBB; clear HAA HRR HBB; obtain ⟨a0, a1, g0, g1⟩ := two_cells HA.out; obtain ⟨c0, c1, f0, f1⟩ := two_cells HR.out; clear hb3))
  refine bodyPost_ret (results_list (rs := [.cell 6 27, .tmp 7]) rfl (by simp) (.cell (w.heap.size + 1) 27 #[.string (strOfNums (packL (ofS s n ++ gapsL v l))), .int .i64 m] (0, 0) _ rfl (put2 HR.out) Try.underlying27 rfl (by kernel_rfl) (.tmp .nil))) rfl ⟨rfl, below_put2 HB.out (by omega) _ _⟩
set_option maxHeartbeats 4000000 in
set_option maxRecDepth 100000 in
theorem gput_no (s : ByteArray) (n v : Int) (A0 : Option Addr) (cap : Nat) (l : List Int) (K : Nat) (w : World) (hr : Kd.C (Kd.int .i64) w A0 l.length l) (hc : l.length ≤ cap) (m : Int) (hmm : ((ofS s n ++ gapsL v l).length : Int) = m) (hm : MayP s n) (hi : gaps_Is.f v = some true) (hv0 : 0 ≤ v) (hv15 : v < 16) (hv : gaps_May.f K l = some true) (hg : GMay l) (hle : 6000 < m) :
    Calls Try.prog 71 #[.agg #[.string s, .int .i64 n], .int .i64 v, .slice A0 l.length cap] w fun e w' => e = .returned (.tuple #[.agg #[.string ⟨#[]⟩, .int .i64 0], .int .i64 2]) ∧ Below w.heap.size w w' := by
  have hu := Try.underlying27
  have HS := Aside0.mk (start2 w (.cells #[.string s, .int .i64 n] 27) (.cells #[.string ⟨#[]⟩, .int .i64 0] 27))
  have HA := Aside0.mk HS.out.1
  have HR := Aside0.mk HS.out.2.1
  have HB := Aside0.mk HS.out.2.2.1
  have HL := Aside0.mk hr
  have HC := Aside0.mk hc
  clear HS hr
  have A := Aside0.mk (show bits_May.f s n = some true by rw [may_eq, decide_eq_true hm])
  have AI := Aside0.mk hi
  have AN := Aside0.mk hv
  have HG := Aside0.mk hg
  have HLE := Aside0.mk hle
  have HM := Aside0.mk hm
  have HMM := Aside0.mk hmm
  have HLEN : Aside0 ((ofS s n).length ≤ 6000) := ⟨by rw [ofS_length]; have := hm.2.1; omega⟩
  have hsz : s.size ≤ 1073741824 := by have := hm.2.2.1; have := hm.2.1; omega
  clear hm hi hv hg hle hmm
  go_enter Try.func71, Try.ntmps71
  go_wp2_with (first | ((with_reducible refine gate_callee (f := 86) rfl ?_); refine goesL_ (some 10) rfl rfl Try.func86 (by kernel_rfl) rfl #[.agg #[.string s, .int .i64 n]] rfl (by (try simp only [List.map_toArray, List.map_cons, List.map_nil]); first | done | rfl) ?_; (with_reducible refine (bits_May.calls s n true _ A.out).mono ?_); rintro e w3 ⟨rfl, hb3⟩; refine ⟨_, rfl, ?_⟩; have HAA := Aside0.mk (keep2 HA.out hb3 (blk_lt HA.out)); have HRR := Aside0.mk (keep2 HR.out hb3 (blk_lt HR.out)); have HBB := Aside0.mk (below_then HB.out HB.out.size hb3); (try clear a0 a1 g0 g1 c0 c1 f0 f1); clear HA HR HB; have HA := HAA; have HR := HRR; have HB := HBB; clear HAA HRR HBB; obtain ⟨a0, a1, g0, g1⟩ := two_cells HA.out; obtain ⟨c0, c1, f0, f1⟩ := two_cells HR.out; clear hb3) | (go_at_call 113; ((with_reducible refine (gaps_Is.calls v true _ AI.out).mono ?_); rintro e w3 ⟨rfl, hd3⟩); have hb3 := hd3.below; clear hd3; have HAA := Aside0.mk (keep2 HA.out hb3 (blk_lt HA.out)); have HRR := Aside0.mk (keep2 HR.out hb3 (blk_lt HR.out)); have HBB := Aside0.mk (below_then HB.out HB.out.size hb3); (try clear a0 a1 g0 g1 c0 c1 f0 f1); clear HA HR HB; have HA := HAA; have HR := HRR; have HB := HBB; clear HAA HRR HBB; obtain ⟨a0, a1, g0, g1⟩ := two_cells HA.out; obtain ⟨c0, c1, f0, f1⟩ := two_cells HR.out; clear hb3) | (go_at_call 114; ((with_reducible refine (gaps_May.calls K A0 cap l true _ ?s1 HC.out AN.out).mono ?_); (case s1 => exact Kd.C_below HL.out HB.out); rintro e w3 ⟨rfl, hd3⟩); have hb3 := hd3.below; clear hd3; have HAA := Aside0.mk (keep2 HA.out hb3 (blk_lt HA.out)); have HRR := Aside0.mk (keep2 HR.out hb3 (blk_lt HR.out)); have HBB := Aside0.mk (below_then HB.out HB.out.size hb3); (try clear a0 a1 g0 g1 c0 c1 f0 f1); clear HA HR HB; have HA := HAA; have HR := HRR; have HB := HBB; clear HAA HRR HBB; obtain ⟨a0, a1, g0, g1⟩ := two_cells HA.out; obtain ⟨c0, c1, f0, f1⟩ := two_cells HR.out; clear hb3) | (go_at_call 88; have HBASE := Aside0.mk (blk_lt HR.out); have HBF := Aside0.mk HB.out; ((with_reducible refine (from_ _ s n hsz).mono ?_); rintro e w3 ⟨p, rfl, hrow, hb3⟩); have HROW := Aside0.mk (rowL_from HM.out hrow); have HZ := Aside0.mk hb3.size; clear hrow; have HAA := Aside0.mk (keep2 HA.out hb3 (blk_lt HA.out)); have HRR := Aside0.mk (keep2 HR.out hb3 (blk_lt HR.out)); have HBB := Aside0.mk (below_then HB.out HB.out.size hb3); (try clear a0 a1 g0 g1 c0 c1 f0 f1); clear HA HR HB; have HA := HAA; have HR := HRR; have HB := HBB; clear HAA HRR HBB; obtain ⟨a0, a1, g0, g1⟩ := two_cells HA.out; obtain ⟨c0, c1, f0, f1⟩ := two_cells HR.out; clear hb3) | (go_at_call 115; ((with_reducible refine (glay w _ _ p _ v A0 cap l HROW.out HG.out hv0 hv15 HLEN.out HZ.out HBF.out.size HB.out HL.out HC.out).mono ?_); rintro e w3 ⟨rfl, hrow3, hb3⟩); have HROW3 := Aside0.mk hrow3; have HAA := Aside0.mk (keep2 HA.out hb3 (Nat.lt_of_succ_lt HBASE.out)); have HRR := Aside0.mk (keep2 HR.out hb3 HBASE.out); have HBB := Aside0.mk (HB.out.trans (hb3.mono (Nat.le_of_lt (Nat.lt_of_succ_lt HBASE.out)))); clear a0 a1 g0 g1 c0 c1 f0 f1; clear HA HR HB hrow3 hb3 HROW; have HA := HAA; have HR := HRR; have HB := HBB; clear HAA HRR HBB; obtain ⟨a0, a1, g0, g1⟩ := two_cells HA.out; obtain ⟨c0, c1, f0, f1⟩ := two_cells HR.out))
  go_wp2_with (first | (go_at_call 90; ((with_reducible refine (row_bits_no _ _ p _ m (HMM.out ▸ HROW3.out.out) HLE.out).mono ?_); rintro e w3 ⟨rfl, hb3⟩); have HAA := Aside0.mk (keep2 HA.out hb3 (blk_lt HA.out)); have HRR := Aside0.mk (keep2 HR.out hb3 (blk_lt HR.out)); have HBB := Aside0.mk (below_then HB.out HB.out.size hb3); (try clear a0 a1 g0 g1 c0 c1 f0 f1); clear HA HR HB; have HA := HAA; have HR := HRR; have HB := HBB; clear HAA HRR HBB; obtain ⟨a0, a1, g0, g1⟩ := two_cells HA.out; obtain ⟨c0, c1, f0, f1⟩ := two_cells HR.out; clear hb3))
  refine bodyPost_ret (results_list (rs := [.cell 6 27, .tmp 7]) rfl (by simp) (.cell (w.heap.size + 1) 27 #[.string ⟨#[]⟩, .int .i64 0] (0, 0) _ rfl (put2 HR.out) Try.underlying27 rfl (by kernel_rfl) (.tmp .nil))) rfl ⟨rfl, below_put2 HB.out (by omega) _ _⟩
set_option maxHeartbeats 4000000 in
set_option maxRecDepth 100000 in
theorem gsize_no1 (v : Int) (A0 : Option Addr) (cap : Nat) (l : List Int) (K : Nat) (w : World) (hr : Kd.C (Kd.int .i64) w A0 l.length l) (hc : l.length ≤ cap) (hi : gaps_Is.f v = some false) :
    Calls Try.prog 74 #[.int .i64 v, .slice A0 l.length cap] w fun e w' => e = .returned (.tuple #[.int .i64 0, .int .i64 1]) ∧ Below w.heap.size w w' := by
  have HB := Aside0.mk (Below.refl w.heap.size w)
  have HL := Aside0.mk hr
  have HC := Aside0.mk hc
  clear hr
  have AI := Aside0.mk hi
  clear hi
  go_enter Try.func74, Try.ntmps74
  go_wp2_with (first | (go_at_call 113; ((with_reducible refine (gaps_Is.calls v false _ AI.out).mono ?_); rintro e w3 ⟨rfl, hd3⟩); have hb3 := hd3.below; clear hd3; have HBB := Aside0.mk (below_then HB.out HB.out.size hb3); clear HB; have HB := HBB; clear HBB hb3))
  refine bodyPost_ret (results_list (rs := [.tmp 4, .tmp 5]) rfl (by simp) (.tmp (.tmp .nil))) rfl ⟨rfl, HB.out⟩
set_option maxHeartbeats 4000000 in
set_option maxRecDepth 100000 in
theorem gsize_no2 (v : Int) (A0 : Option Addr) (cap : Nat) (l : List Int) (K : Nat) (w : World) (hr : Kd.C (Kd.int .i64) w A0 l.length l) (hc : l.length ≤ cap) (hi : gaps_Is.f v = some true) (hv : gaps_May.f K l = some false) :
    Calls Try.prog 74 #[.int .i64 v, .slice A0 l.length cap] w fun e w' => e = .returned (.tuple #[.int .i64 0, .int .i64 1]) ∧ Below w.heap.size w w' := by
  have HB := Aside0.mk (Below.refl w.heap.size w)
  have HL := Aside0.mk hr
  have HC := Aside0.mk hc
  clear hr
  have AI := Aside0.mk hi
  have AN := Aside0.mk hv
  clear hi hv
  go_enter Try.func74, Try.ntmps74
  go_wp2_with (first | (go_at_call 113; ((with_reducible refine (gaps_Is.calls v true _ AI.out).mono ?_); rintro e w3 ⟨rfl, hd3⟩); have hb3 := hd3.below; clear hd3; have HBB := Aside0.mk (below_then HB.out HB.out.size hb3); clear HB; have HB := HBB; clear HBB hb3) | (go_at_call 114; ((with_reducible refine (gaps_May.calls K A0 cap l false _ ?s1 HC.out AN.out).mono ?_); (case s1 => exact Kd.C_below HL.out HB.out); rintro e w4 ⟨rfl, hd3⟩); have hb3 := hd3.below; clear hd3; have HBB := Aside0.mk (below_then HB.out HB.out.size hb3); clear HB; have HB := HBB; clear HBB hb3))
  refine bodyPost_ret (results_list (rs := [.tmp 4, .tmp 5]) rfl (by simp) (.tmp (.tmp .nil))) rfl ⟨rfl, HB.out⟩
set_option maxHeartbeats 4000000 in
set_option maxRecDepth 100000 in
theorem gsize_yes (v : Int) (A0 : Option Addr) (cap : Nat) (l : List Int) (K : Nat) (w : World) (hr : Kd.C (Kd.int .i64) w A0 l.length l) (hc : l.length ≤ cap) (m : Int) (hmm : (([] ++ gapsL v l : List Int).length : Int) = m) (hi : gaps_Is.f v = some true) (hv0 : 0 ≤ v) (hv15 : v < 16) (hv : gaps_May.f K l = some true) (hg : GMay l) :
    Calls Try.prog 74 #[.int .i64 v, .slice A0 l.length cap] w fun e w' => e = .returned (.tuple #[.int .i64 m, .int .i64 0]) ∧ Below w.heap.size w w' := by
  have HB := Aside0.mk (Below.refl w.heap.size w)
  have HL := Aside0.mk hr
  have HC := Aside0.mk hc
  clear hr
  have AI := Aside0.mk hi
  have AN := Aside0.mk hv
  have HG := Aside0.mk hg
  have HMM := Aside0.mk hmm
  clear hi hv hg hmm
  go_enter Try.func74, Try.ntmps74
  go_wp2_with (first | (go_at_call 113; ((with_reducible refine (gaps_Is.calls v true _ AI.out).mono ?_); rintro e w3 ⟨rfl, hd3⟩); have hb3 := hd3.below; clear hd3; have HBB := Aside0.mk (below_then HB.out HB.out.size hb3); clear HB; have HB := HBB; clear HBB hb3) | (go_at_call 114; ((with_reducible refine (gaps_May.calls K A0 cap l true _ ?s1 HC.out AN.out).mono ?_); (case s1 => exact Kd.C_below HL.out HB.out); rintro e w4 ⟨rfl, hd3⟩); have hb3 := hd3.below; clear hd3; have HBB := Aside0.mk (below_then HB.out HB.out.size hb3); clear HB; have HB := HBB; clear HBB hb3) | (go_at_call 115; have HB2 := Aside0.mk (HB.out.alloc HB.out.size (.cells #[.slice none 0 0, .int .i64 0] 116)); ((with_reducible refine (glay w _ _ _ [] v A0 cap l (rowL_new _) HG.out hv0 hv15 (by simp) (by simp) HB.out.size HB2.out HL.out HC.out).mono ?_); rintro e w5 ⟨rfl, hrow3, hb3⟩); have HROW3 := Aside0.mk hrow3; have HBB := Aside0.mk (HB2.out.trans (hb3.mono HB.out.size)); clear HB HB2 hrow3 hb3; have HB := HBB; clear HBB) | (go_at_call 109; ((with_reducible refine (row_size _ _ _ _ m (HMM.out ▸ HROW3.out.out)).mono ?_); rintro e w6 ⟨rfl, rfl⟩)))
  refine bodyPost_ret (results_list (rs := [.tmp 4, .tmp 5]) rfl (by simp) (.tmp (.tmp .nil))) rfl ⟨rfl, HB.out⟩
/-! ### the contracts -/
theorem gis_eq (v : Int) : gaps_Is.f v = some (decide (0 ≤ v ∧ v < 16)) := by
  unfold gaps_Is.f
  by_cases h : v ≥ 0
  · rw [if_pos h]; congr 1; rw [decide_eq_decide]; omega
  · rw [if_neg h, decide_eq_false (fun h2 => h h2.1)]
instance (l : List Int) : Decidable (GMay l) := by unfold GMay; infer_instance
theorem gmay_loop (l : List Int) (hlen : (l.length : Int) < 9223372036854775807) : ∀ (d i k : Nat), i + d = l.length → d < k →
    ∃ r, gaps_May.l0 k l l (l.length : Int) (i : Int) = some r ∧ (r = true ↔ ((∀ j, i ≤ j → j < l.length → 0 ≤ l.getD j 0 ∧ l.getD j 0 < 16) ∧ ∀ j, i ≤ j + 1 → j + 1 < l.length → l.getD j 0 < l.getD (j + 1) 0))
  | 0, i, k, hi, hk => by
    obtain ⟨k, rfl⟩ : ∃ m, k = m + 1 := ⟨k - 1, by omega⟩
    simp only [gaps_May.l0]
    rw [if_neg (by omega)]
    exact ⟨true, rfl, fun _ => ⟨fun j h1 h2 => by omega, fun j h1 h2 => by omega⟩, fun _ => rfl⟩
  | d + 1, i, k, hi, hk => by
    obtain ⟨k, rfl⟩ : ∃ m, k = m + 1 := ⟨k - 1, by omega⟩
    obtain ⟨r, ih, hr⟩ := gmay_loop l hlen d (i + 1) k (by omega) (by omega)
    have hrd : ∀ j : Nat, rd l (j : Int) = l.getD j 0 := fun j => by unfold rd; rw [Int.toNat_natCast]
    simp only [gaps_May.l0]
    rw [if_pos (by omega), if_pos (by omega), if_pos (by omega), hrd, gis_eq, Option.bind_some]
    by_cases h1 : 0 ≤ l.getD i 0 ∧ l.getD i 0 < 16
    · rw [decide_eq_true h1, if_pos rfl, wrap_in ((i : Int) + 1) (by omega) (by omega)]
      rw [show ((i + 1 : Nat) : Int) = (i : Int) + 1 by omega] at ih
      by_cases h0 : i = 0
      · subst h0
        rw [if_neg (by omega), ih]
        refine ⟨r, rfl, hr.trans ⟨?_, ?_⟩⟩
        · rintro ⟨a, b⟩
          refine ⟨fun j hj hl => ?_, fun j hj hl => b j (by omega) hl⟩
          rcases Nat.eq_zero_or_pos j with e | e
          · subst e; exact h1
          · exact a j (by omega) hl
        · rintro ⟨a, b⟩
          exact ⟨fun j hj hl => a j (by omega) hl, fun j hj hl => b j (by omega) hl⟩
      · have hw : wrap64 ((i : Int) - 1) = ((i - 1 : Nat) : Int) := by rw [wrap_in _ (by omega) (by omega)]; omega
        rw [if_pos (by omega), hw, if_pos (by omega), if_pos (by omega), hrd]
        by_cases h2 : l.getD i 0 ≤ l.getD (i - 1) 0
        · rw [if_pos h2]
          refine ⟨false, rfl, ⟨fun h => absurd h (by decide), ?_⟩⟩
          rintro ⟨a, b⟩
          have := b (i - 1) (by omega) (by omega)
          rw [show i - 1 + 1 = i by omega] at this
          omega
        · rw [if_neg h2, ih]
          refine ⟨r, rfl, hr.trans ⟨?_, ?_⟩⟩
          · rintro ⟨a, b⟩
            refine ⟨fun j hj hl => ?_, fun j hj hl => ?_⟩
            · by_cases e : j = i
              · subst e; exact h1
              · exact a j (by omega) hl
            · by_cases e : j + 1 = i
              · subst e; rw [Nat.add_sub_cancel] at h2; omega
              · exact b j (by omega) hl
          · rintro ⟨a, b⟩
            exact ⟨fun j hj hl => a j (by omega) hl, fun j hj hl => b j (by omega) hl⟩
    · rw [decide_eq_false h1, if_neg (by decide)]
      refine ⟨false, rfl, ⟨fun h => absurd h (by decide), ?_⟩⟩
      rintro ⟨a, b⟩
      exact absurd (a i (Nat.le_refl _) (by omega)) h1
theorem gmay_eq (l : List Int) (hlen : (l.length : Int) < 9223372036854775807) (k : Nat) (hk : l.length < k) : gaps_May.f k l = some (decide (GMay l)) := by
  unfold gaps_May.f
  obtain ⟨r, e, hr⟩ := gmay_loop l hlen l.length 0 k (by omega) hk
  rw [show ((0 : Nat) : Int) = 0 from rfl] at e
  rw [e]
  congr 1
  have hg : r = true ↔ GMay l := by
    refine hr.trans ⟨?_, ?_⟩
    · rintro ⟨a, b⟩; exact ⟨fun j hl => a j (by omega) hl, fun j hl => b j (by omega) (by omega)⟩
    · rintro ⟨a, b⟩; exact ⟨fun j _ hl => a j hl, fun j _ hl => b j (by omega)⟩
  by_cases h : GMay l
  · rw [decide_eq_true h]; exact hg.2 h
  · rw [decide_eq_false h]
    cases r with
    | false => rfl
    | true => exact absurd (hg.1 rfl) h
/-- gaps.Put. -/
def gaps_Put.f (s : ByteArray) (n v : Int) (l : List Int) : Option (ByteArray × Int × Int) :=
  if (l.length : Int) < 9223372036854775807 then
    (if MayP s n ∧ (0 ≤ v ∧ v < 16) ∧ GMay l then
      (if ((ofS s n ++ gapsL v l).length : Int) ≤ 6000 then some (packS (ofS s n ++ gapsL v l), ((ofS s n ++ gapsL v l).length : Int), 0) else some (⟨#[]⟩, 0, 2))
    else some (⟨#[]⟩, 0, 1))
  else none
theorem gaps_Put.calls (s : ByteArray) (n v : Int) (A0 : Option Addr) (cap : Nat) (l : List Int) (r1 : ByteArray) (r2 r3 : Int) (w : World) (hr : Kd.C (Kd.int .i64) w A0 l.length l) (hc : l.length ≤ cap) (h : gaps_Put.f s n v l = some (r1, r2, r3)) :
    Calls Try.prog 71 #[.agg #[.string s, .int .i64 n], .int .i64 v, .slice A0 l.length cap] w fun e w' => e = .returned (.tuple #[.agg #[.string r1, .int .i64 r2], .int .i64 r3]) ∧ Below w.heap.size w w' := by
  unfold gaps_Put.f at h
  split at h
  case isFalse => cases h
  rename_i hlen
  have hk := gmay_eq l hlen (l.length + 1) (by omega)
  have hi := gis_eq v
  split at h
  · rename_i hc3
    obtain ⟨hm, hv, hg⟩ := hc3
    rw [decide_eq_true hg] at hk
    rw [decide_eq_true hv] at hi
    split at h
    · rename_i hle
      simp only [Option.some.injEq, Prod.mk.injEq] at h
      obtain ⟨rfl, rfl, rfl⟩ := h
      exact gput_yes s n v A0 cap l _ w hr hc _ rfl hm hi hv.1 hv.2 hk hg hle
    · rename_i hle
      simp only [Option.some.injEq, Prod.mk.injEq] at h
      obtain ⟨rfl, rfl, rfl⟩ := h
      exact gput_no s n v A0 cap l _ w hr hc _ rfl hm hi hv.1 hv.2 hk hg (by omega)
  · rename_i hc3
    simp only [Option.some.injEq, Prod.mk.injEq] at h
    obtain ⟨rfl, rfl, rfl⟩ := h
    by_cases hm : MayP s n
    · by_cases hv : 0 ≤ v ∧ v < 16
      · rw [decide_eq_false (fun hg => hc3 ⟨hm, hv, hg⟩)] at hk
        rw [decide_eq_true hv] at hi
        exact gput_no3 s n v A0 cap l _ w hr hc hm hi hk
      · rw [decide_eq_false hv] at hi
        exact gput_no2 s n v A0 cap l 0 w hr hc hm hi
    · exact gput_no1 s n v A0 cap l 0 w hr hc hm
/-- gaps.Size. -/
def gaps_Size.f (v : Int) (l : List Int) : Option (Int × Int) :=
  if (l.length : Int) < 9223372036854775807 then (if (0 ≤ v ∧ v < 16) ∧ GMay l then some (((gapsL v l).length : Int), 0) else some (0, 1)) else none
theorem gaps_Size.calls (v : Int) (A0 : Option Addr) (cap : Nat) (l : List Int) (r1 r2 : Int) (w : World) (hr : Kd.C (Kd.int .i64) w A0 l.length l) (hc : l.length ≤ cap) (h : gaps_Size.f v l = some (r1, r2)) :
    Calls Try.prog 74 #[.int .i64 v, .slice A0 l.length cap] w fun e w' => e = .returned (.tuple #[.int .i64 r1, .int .i64 r2]) ∧ Below w.heap.size w w' := by
  unfold gaps_Size.f at h
  split at h
  case isFalse => cases h
  rename_i hlen
  have hk := gmay_eq l hlen (l.length + 1) (by omega)
  have hi := gis_eq v
  split at h
  · rename_i hc3
    obtain ⟨hv, hg⟩ := hc3
    rw [decide_eq_true hg] at hk
    rw [decide_eq_true hv] at hi
    simp only [Option.some.injEq, Prod.mk.injEq] at h
    obtain ⟨rfl, rfl⟩ := h
    exact gsize_yes v A0 cap l _ w hr hc _ (by rw [List.nil_append]) hi hv.1 hv.2 hk hg
  · rename_i hc3
    simp only [Option.some.injEq, Prod.mk.injEq] at h
    obtain ⟨rfl, rfl⟩ := h
    by_cases hv : 0 ≤ v ∧ v < 16
    · rw [decide_eq_false (fun hg => hc3 ⟨hv, hg⟩)] at hk
      rw [decide_eq_true hv] at hi
      exact gsize_no2 v A0 cap l _ w hr hc hi hk
    · rw [decide_eq_false hv] at hi
      exact gsize_no1 v A0 cap l 0 w hr hc hi
end Go.Proofs.Ytnpghcikhpglkaa.Q
namespace Go.Proofs.Ytnpghcikhpglkaa.Q
open Go.RowKit Go.Proofs.YtnpghcikhpglkaaW.PrintWords Go.Proofs.YtnpghcikhpglkaaW.PrintLast Go.Proofs.YtnpghcikhpglkaaW.PrintMore
attribute [local go_sem] max2_int min2_int max_two min_two max_three min_three max_four min_four   -- for this text's walks alone
set_option linter.unusedVariables false
set_option linter.unusedSimpArgs false

/-! ### herbariumlaw3_wakes: function 76 -/
def herbariumlaw3_wakes.f (k : Nat)  : Option (Bool) := (gaps_Put.f (⟨#[]⟩ : ByteArray) 0 0 ([] : List Int)).bind fun bt1007 => ((gaps_Take.f k bt1007.1 bt1007.2.1 0 0).bind fun bt1011 => ((gaps_Size.f 2 (([2, 3] : List Int))).bind fun bt1019 => ((herbariumlaw3_num.f bt1007.2.2).bind fun t1021 => (if t1021 = 0 then ((herbariumlaw3_num.f bt1011.2.2).bind fun t1022 => (if t1022 = 0 then ((herbariumlaw3_num.f bt1019.2).bind fun t1023 => (if t1023 = 0 then (if bt1007.2.1 = 1 then (if (bt1011.1.length : Int) = 0 then (if bt1011.2.1 = 1 then (some (bt1019.1 == 5)) else (some false)) else (some false)) else (some false)) else (some false))) else (some false))) else (some false)))))
theorem herbariumlaw3_wakes.mono : ∀ k, LeO (herbariumlaw3_wakes.f k ) (herbariumlaw3_wakes.f (k + 1) ) := by
  intro  k
  unfold herbariumlaw3_wakes.f
  repeat' first
      | (with_reducible exact gaps_Take.mono _ _ _ _ _)
      | (with_reducible exact LeO.refl _)
      | (with_reducible exact LeO.none _)
      | (with_reducible refine LeO.ite ?_ ?_)
      | (with_reducible refine LeO.bind ?_ (fun _ => ?_))
      | exact gaps_Take.mono _ _ _ _ _
      | exact LeO.none _
      | refine LeO.ite ?_ ?_
      | refine LeO.bind ?_ (fun _ => ?_)
set_option maxHeartbeats 8000000 in
set_option maxRecDepth 100000 in
theorem herbariumlaw3_wakes.calls (k : Nat)  (r : Bool) (w : World) (h : herbariumlaw3_wakes.f k  = some r) :
    Calls Try.prog 76 #[] w fun e w' => e = .returned (.bool r) ∧ Below w.heap.size w w' := by
 have hu27 := Try.underlying27
 have HB := ak (Below.refl w.heap.size w)
 have H : ((gaps_Put.f (⟨#[]⟩ : ByteArray) 0 0 ([] : List Int)).bind fun bt1007 => ((gaps_Take.f k bt1007.1 bt1007.2.1 0 0).bind fun bt1011 => ((gaps_Size.f 2 (([2, 3] : List Int))).bind fun bt1019 => ((herbariumlaw3_num.f bt1007.2.2).bind fun t1021 => (if t1021 = 0 then ((herbariumlaw3_num.f bt1011.2.2).bind fun t1022 => (if t1022 = 0 then ((herbariumlaw3_num.f bt1019.2).bind fun t1023 => (if t1023 = 0 then (if bt1007.2.1 = 1 then (if (bt1011.1.length : Int) = 0 then (if bt1011.2.1 = 1 then (some (bt1019.1 == 5)) else (some false)) else (some false)) else (some false)) else (some false))) else (some false))) else (some false)))))) = some r := h
 clear h
 replace H := Option.bind_eq_some_iff.mp H
 obtain ⟨⟨t1007, t1008, t1009⟩, A10, H⟩ := H
 try dsimp only at H
 have A1 := ak A10
 clear A10
 replace H := Option.bind_eq_some_iff.mp H
 obtain ⟨⟨t1011, t1014, t1015⟩, A20, H⟩ := H
 try dsimp only at H
 have A2 := ak A20
 clear A20
 obtain ⟨y1016, hy1016⟩ : ∃ y_ : List Int, y_ = (([2, 3] : List Int)) := ⟨_, rfl⟩
 replace H : ((gaps_Size.f 2 y1016).bind fun bt1019 => ((herbariumlaw3_num.f t1009).bind fun t1021 => (if t1021 = 0 then ((herbariumlaw3_num.f t1015).bind fun t1022 => (if t1022 = 0 then ((herbariumlaw3_num.f bt1019.2).bind fun t1023 => (if t1023 = 0 then (if t1008 = 1 then (if (t1011.length : Int) = 0 then (if t1014 = 1 then (some (bt1019.1 == 5)) else (some false)) else (some false)) else (some false)) else (some false))) else (some false))) else (some false)))) = some r := by first | (rw [hy1016]; with_reducible exact H) | (have H2_ := (Option.bind_some _ _).symm.trans H; rw [hy1016]; with_reducible exact H2_) | (have H2_ := (Option.bind_some _ _).symm.trans H; with_reducible exact H2_) | with_reducible exact H | (rw [hy1016]; exact H) | exact H
 have Ny1016 := ak hy1016
 clear hy1016
 replace H := Option.bind_eq_some_iff.mp H
 obtain ⟨⟨t1019, t1020⟩, A30, H⟩ := H
 try dsimp only at H
 have A3 := ak A30
 clear A30
 replace H := Option.bind_eq_some_iff.mp H
 obtain ⟨t1021, A40, H⟩ := H
 try dsimp only at H
 have A4 := ak A40
 clear A40
 by_cases c5 : t1021 = 0
 rotate_left
 ·
  rw [if_neg c5] at H
  have c5b0 : (t1021 == 0) = false := beq_eq_false_iff_ne.mpr c5
  have c5b1 : (t1021 != 0) = true := bne_iff_ne.mpr c5
  obtain rfl := Option.some.inj H
  go_enter Try.func76, Try.ntmps76
  go_wp2_with (first | ((with_reducible refine gate_callee (f := 71) rfl ?_); refine goesL_ (some 10) rfl rfl Try.func71 (by kernel_rfl) rfl #[.agg #[.string (⟨#[]⟩ : ByteArray), .int .i64 0], .int .i64 0, .slice none 0 0] rfl (by (try simp only [List.map_toArray, List.map_cons, List.map_nil]); first | done | rfl | (simp only [List.length_drop, List.length_take]; rfl)) ?_; (refine (gaps_Put.calls (⟨#[]⟩ : ByteArray) 0 0 _ _ ([] : List Int) t1007 t1008 t1009 _ ?side1 ?side2 A1.out).mono ?_); (case side1 => exact Kd.C_nil _ _); (case side2 => exact Nat.le_refl _); rintro e w68 ⟨rfl, hb⟩; refine ⟨_, rfl, ?_⟩; have n0_ := ak (below_step (ul HB.out) hb); clear HB; have HB := n0_; clear n0_; (try clear hb); (try clear hb2); (try clear hk); (try clear hi)) | ((with_reducible refine gate_dst (N := 1) rfl ?_); (try (refine gate_guard (by rfl) ?_; dsimp only)); refine box_event ?hg (N := 1) ?hd (cs := #[.string (⟨#[]⟩ : ByteArray), .int .i64 0]) (t := 27) ?hr ?_; (case hd => rfl); (case hg => rfl); (case hr => first | (go_simp; done) | (go_simp; rfl)); intro gb1010 hg w69 hbox hb; have n0_ := ak (below_step (ul HB.out) hb); have n1_ := ak (hbox); have n2_ := ak ((by rw [hg]; exact (below_size (ul HB.out)) : w.heap.size ≤ gb1010)); have n3_ := ak ((by rw [hg]; exact (below_size (ul HB.out)) : w.heap.size ≤ gb1010)); clear HB; have HB := n0_; have BK1010 := n1_; have GW1010 := n2_; have GE1010 := n3_; clear n0_ n1_ n2_ n3_; clear hb hbox hg; have hcz70_0 : w69.cell? ⟨gb1010, 0, none⟩ = some (.string (⟨#[]⟩ : ByteArray)) := (blk_cell BK1010.out 0).trans rfl; have hcz70_1 : w69.cell? ⟨gb1010, 1, none⟩ = some (.int .i64 0) := (blk_cell BK1010.out 1).trans rfl; have hfz70_0 := blk_frozen BK1010.out 0; have hfz70_1 := blk_frozen BK1010.out 1) | ((with_reducible refine gate_callee (f := 73) rfl ?_); refine goesL_ (some 15) rfl rfl Try.func73 (by kernel_rfl) rfl #[.agg #[.string t1007, .int .i64 t1008], .int .i64 0, .int .i64 0] rfl (by (try simp only [List.map_toArray, List.map_cons, List.map_nil]); first | done | rfl | (simp only [List.length_drop, List.length_take]; rfl)) ?_; (with_reducible refine (gaps_Take.calls k t1007 t1008 0 0 t1011 t1014 t1015 _ A2.out).mono ?_); rintro e w71 ⟨v1012, rfl, ho0, hb⟩; refine ⟨_, rfl, ?_⟩; have n0_ := ak (Kd.R_lower ho0 (below_size (by repeat with_reducible first | exact HB.out | apply b1 | apply b2 | apply b3 | refine b4 ?_ GE1010.out))); have n1_ := ak (blk_below (g := gb1010) (o := .cells #[.string t1007, .int .i64 t1008] 27 (0, 0)) (by (with_reducible repeat (first | refine blk_drewN ?_ _ | refine blk_drew ?_ | refine blk_alloc ?_ _)); refine blk_put (cs := #[.string t1007, .int .i64 0]) ?_ 1 _ rfl; (with_reducible repeat (first | refine blk_drewN ?_ _ | refine blk_drew ?_ | refine blk_alloc ?_ _)); refine blk_put (cs := #[.string (⟨#[]⟩ : ByteArray), .int .i64 0]) ?_ 0 _ rfl; (with_reducible repeat (first | refine blk_drewN ?_ _ | refine blk_drew ?_ | refine blk_alloc ?_ _)); exact BK1010.out) hb); have n2_ := ak (below_step (by repeat with_reducible first | exact HB.out | apply b1 | apply b2 | apply b3 | refine b4 ?_ GE1010.out) hb); clear BK1010; clear HB; have HO1013 := n0_; have BK1010 := n1_; have HB := n2_; clear n0_ n1_ n2_; (try clear hb); (try clear hb2); (try clear hk); (try clear hi); (try clear ho0)) | ((with_reducible refine gate_dst (N := 20) rfl ?_); (try (refine gate_guard (by rfl) ?_; dsimp only)); refine Kd.R_lit (Kd.int .i64) _ 3 ?hg (N := 20) ?hd (xs := ([2, 3] : List Int)) (inner := [.int .i64 2, .int .i64 3]) (ok := fun _ => True) (okp := fun _ => True) ?hr ?hp (fun _ hk => hk) trivial (Below.refl _ _) (Nat.le_refl _) (by simp) ?_; (case hd => rfl); (case hg => rfl); (case hr => first | (go_simp; done) | (go_simp; rfl)); (case hp => exact (Reps.one (show Kd.M (Kd.int .i64) _ _ _ 2 [.int .i64 2] from rfl) (Reps.one (show Kd.M (Kd.int .i64) _ _ _ 3 [.int .i64 3] from rfl) (Reps.none _ _)))); intro v1017 w72 ho73 hb hg_ hnew_; clear hg_ hnew_; (first | rw [← Ny1016.out] at ho73 | (simp only [Int.reduceToNat] at ho73; rw [← Ny1016.out] at ho73)); have n0_ := ak (Kd.R_elder' (ur <| HO1013.out) (Kd.R_base ho73) hb); have n1_ := ak (Kd.R_lower (Kd.R_new' ho73 (Kd.R_lt (ur <| HO1013.out))) (below_size (by repeat with_reducible first | exact HB.out | apply b1 | apply b2 | apply b3 | refine b4 ?_ GE1010.out))); have n2_ := ak (blk_below (g := gb1010) (o := .cells #[.string t1007, .int .i64 t1008] 27 (0, 0)) (ub BK1010.out) hb); have n3_ := ak (below_step (by repeat with_reducible first | exact HB.out | apply b1 | apply b2 | apply b3 | refine b4 ?_ GE1010.out) hb); clear HO1013; clear BK1010; clear HB; have HO1013 := n0_; have HO1018 := n1_; have BK1010 := n2_; have HB := n3_; clear n0_ n1_ n2_ n3_; clear hb ho73; obtain ⟨Ao74, co74, eo74⟩ := Kd.R_slice HO1018.out; subst eo74) | ((with_reducible refine gate_callee (f := 74) rfl ?_); refine goesL_ (some 21) rfl rfl Try.func74 (by kernel_rfl) rfl #[.int .i64 2, .slice Ao74 y1016.length co74] rfl (by (try simp only [List.map_toArray, List.map_cons, List.map_nil]); first | done | rfl | (simp only [List.length_drop, List.length_take]; rfl)) ?_; (with_reducible refine (gaps_Size.calls 2 _ _ y1016 t1019 t1020 _ ?side1 ?side2 A3.out).mono ?_); (case side1 => exact uc (Kd.R_reads' HO1018.out).2.2); (case side2 => exact (Kd.R_reads' HO1018.out).2.1); rintro e w75 ⟨rfl, hb⟩; refine ⟨_, rfl, ?_⟩; have n0_ := ak (Kd.R_below (ur <| HO1013.out) hb); have n1_ := ak (Kd.R_below (ur <| HO1018.out) hb); have n2_ := ak (blk_below (g := gb1010) (o := .cells #[.string t1007, .int .i64 t1008] 27 (0, 0)) (ub BK1010.out) hb); have n3_ := ak (below_step (by repeat with_reducible first | exact HB.out | apply b1 | apply b2 | apply b3 | refine b4 ?_ GE1010.out) hb); clear HO1013; clear HO1018; clear BK1010; clear HB; have HO1013 := n0_; have HO1018 := n1_; have BK1010 := n2_; have HB := n3_; clear n0_ n1_ n2_ n3_; (try clear hb); (try clear hb2); (try clear hk); (try clear hi)) | ((with_reducible refine gate_callee (f := 72) rfl ?_); refine goesL_ (some 25) rfl rfl Try.func72 (by kernel_rfl) rfl #[.int .i64 t1009] rfl (by (try simp only [List.map_toArray, List.map_cons, List.map_nil]); first | done | rfl | (simp only [List.length_drop, List.length_take]; rfl)) ?_; (with_reducible refine (herbariumlaw3_num.calls t1009 t1021 _ A4.out).mono ?_); rintro e w' ⟨rfl, ⟨nd, rfl⟩⟩; refine ⟨_, rfl, ?_⟩))
  go_ret
  exact ⟨by first | rfl | (simp [errW_none, errW_some] <;> rfl) | (simp [*, errW_none, errW_some] <;> rfl), by repeat with_reducible first | exact HB.out | apply b1 | apply b2 | apply b3 | refine b4 ?_ GE1010.out⟩
 rw [if_pos c5] at H
 have c5b0 : (t1021 == 0) = true := beq_iff_eq.mpr c5
 have c5b1 : (t1021 != 0) = false := bne_eq_false_iff_eq.mpr c5
 clear c5
 replace H := Option.bind_eq_some_iff.mp H
 obtain ⟨t1022, A60, H⟩ := H
 try dsimp only at H
 have A6 := ak A60
 clear A60
 by_cases c7 : t1022 = 0
 rotate_left
 ·
  rw [if_neg c7] at H
  have c7b0 : (t1022 == 0) = false := beq_eq_false_iff_ne.mpr c7
  have c7b1 : (t1022 != 0) = true := bne_iff_ne.mpr c7
  obtain rfl := Option.some.inj H
  go_enter Try.func76, Try.ntmps76
  go_wp2_with (first | ((with_reducible refine gate_callee (f := 71) rfl ?_); refine goesL_ (some 10) rfl rfl Try.func71 (by kernel_rfl) rfl #[.agg #[.string (⟨#[]⟩ : ByteArray), .int .i64 0], .int .i64 0, .slice none 0 0] rfl (by (try simp only [List.map_toArray, List.map_cons, List.map_nil]); first | done | rfl | (simp only [List.length_drop, List.length_take]; rfl)) ?_; (refine (gaps_Put.calls (⟨#[]⟩ : ByteArray) 0 0 _ _ ([] : List Int) t1007 t1008 t1009 _ ?side1 ?side2 A1.out).mono ?_); (case side1 => exact Kd.C_nil _ _); (case side2 => exact Nat.le_refl _); rintro e w60 ⟨rfl, hb⟩; refine ⟨_, rfl, ?_⟩; have n0_ := ak (below_step (ul HB.out) hb); clear HB; have HB := n0_; clear n0_; (try clear hb); (try clear hb2); (try clear hk); (try clear hi)) | ((with_reducible refine gate_dst (N := 1) rfl ?_); (try (refine gate_guard (by rfl) ?_; dsimp only)); refine box_event ?hg (N := 1) ?hd (cs := #[.string (⟨#[]⟩ : ByteArray), .int .i64 0]) (t := 27) ?hr ?_; (case hd => rfl); (case hg => rfl); (case hr => first | (go_simp; done) | (go_simp; rfl)); intro gb1010 hg w61 hbox hb; have n0_ := ak (below_step (ul HB.out) hb); have n1_ := ak (hbox); have n2_ := ak ((by rw [hg]; exact (below_size (ul HB.out)) : w.heap.size ≤ gb1010)); have n3_ := ak ((by rw [hg]; exact (below_size (ul HB.out)) : w.heap.size ≤ gb1010)); clear HB; have HB := n0_; have BK1010 := n1_; have GW1010 := n2_; have GE1010 := n3_; clear n0_ n1_ n2_ n3_; clear hb hbox hg; have hcz62_0 : w61.cell? ⟨gb1010, 0, none⟩ = some (.string (⟨#[]⟩ : ByteArray)) := (blk_cell BK1010.out 0).trans rfl; have hcz62_1 : w61.cell? ⟨gb1010, 1, none⟩ = some (.int .i64 0) := (blk_cell BK1010.out 1).trans rfl; have hfz62_0 := blk_frozen BK1010.out 0; have hfz62_1 := blk_frozen BK1010.out 1) | ((with_reducible refine gate_callee (f := 73) rfl ?_); refine goesL_ (some 15) rfl rfl Try.func73 (by kernel_rfl) rfl #[.agg #[.string t1007, .int .i64 t1008], .int .i64 0, .int .i64 0] rfl (by (try simp only [List.map_toArray, List.map_cons, List.map_nil]); first | done | rfl | (simp only [List.length_drop, List.length_take]; rfl)) ?_; (with_reducible refine (gaps_Take.calls k t1007 t1008 0 0 t1011 t1014 t1015 _ A2.out).mono ?_); rintro e w63 ⟨v1012, rfl, ho0, hb⟩; refine ⟨_, rfl, ?_⟩; have n0_ := ak (Kd.R_lower ho0 (below_size (by repeat with_reducible first | exact HB.out | apply b1 | apply b2 | apply b3 | refine b4 ?_ GE1010.out))); have n1_ := ak (blk_below (g := gb1010) (o := .cells #[.string t1007, .int .i64 t1008] 27 (0, 0)) (by (with_reducible repeat (first | refine blk_drewN ?_ _ | refine blk_drew ?_ | refine blk_alloc ?_ _)); refine blk_put (cs := #[.string t1007, .int .i64 0]) ?_ 1 _ rfl; (with_reducible repeat (first | refine blk_drewN ?_ _ | refine blk_drew ?_ | refine blk_alloc ?_ _)); refine blk_put (cs := #[.string (⟨#[]⟩ : ByteArray), .int .i64 0]) ?_ 0 _ rfl; (with_reducible repeat (first | refine blk_drewN ?_ _ | refine blk_drew ?_ | refine blk_alloc ?_ _)); exact BK1010.out) hb); have n2_ := ak (below_step (by repeat with_reducible first | exact HB.out | apply b1 | apply b2 | apply b3 | refine b4 ?_ GE1010.out) hb); clear BK1010; clear HB; have HO1013 := n0_; have BK1010 := n1_; have HB := n2_; clear n0_ n1_ n2_; (try clear hb); (try clear hb2); (try clear hk); (try clear hi); (try clear ho0)) | ((with_reducible refine gate_dst (N := 20) rfl ?_); (try (refine gate_guard (by rfl) ?_; dsimp only)); refine Kd.R_lit (Kd.int .i64) _ 3 ?hg (N := 20) ?hd (xs := ([2, 3] : List Int)) (inner := [.int .i64 2, .int .i64 3]) (ok := fun _ => True) (okp := fun _ => True) ?hr ?hp (fun _ hk => hk) trivial (Below.refl _ _) (Nat.le_refl _) (by simp) ?_; (case hd => rfl); (case hg => rfl); (case hr => first | (go_simp; done) | (go_simp; rfl)); (case hp => exact (Reps.one (show Kd.M (Kd.int .i64) _ _ _ 2 [.int .i64 2] from rfl) (Reps.one (show Kd.M (Kd.int .i64) _ _ _ 3 [.int .i64 3] from rfl) (Reps.none _ _)))); intro v1017 w64 ho65 hb hg_ hnew_; clear hg_ hnew_; (first | rw [← Ny1016.out] at ho65 | (simp only [Int.reduceToNat] at ho65; rw [← Ny1016.out] at ho65)); have n0_ := ak (Kd.R_elder' (ur <| HO1013.out) (Kd.R_base ho65) hb); have n1_ := ak (Kd.R_lower (Kd.R_new' ho65 (Kd.R_lt (ur <| HO1013.out))) (below_size (by repeat with_reducible first | exact HB.out | apply b1 | apply b2 | apply b3 | refine b4 ?_ GE1010.out))); have n2_ := ak (blk_below (g := gb1010) (o := .cells #[.string t1007, .int .i64 t1008] 27 (0, 0)) (ub BK1010.out) hb); have n3_ := ak (below_step (by repeat with_reducible first | exact HB.out | apply b1 | apply b2 | apply b3 | refine b4 ?_ GE1010.out) hb); clear HO1013; clear BK1010; clear HB; have HO1013 := n0_; have HO1018 := n1_; have BK1010 := n2_; have HB := n3_; clear n0_ n1_ n2_ n3_; clear hb ho65; obtain ⟨Ao66, co66, eo66⟩ := Kd.R_slice HO1018.out; subst eo66) | ((with_reducible refine gate_callee (f := 74) rfl ?_); refine goesL_ (some 21) rfl rfl Try.func74 (by kernel_rfl) rfl #[.int .i64 2, .slice Ao66 y1016.length co66] rfl (by (try simp only [List.map_toArray, List.map_cons, List.map_nil]); first | done | rfl | (simp only [List.length_drop, List.length_take]; rfl)) ?_; (with_reducible refine (gaps_Size.calls 2 _ _ y1016 t1019 t1020 _ ?side1 ?side2 A3.out).mono ?_); (case side1 => exact uc (Kd.R_reads' HO1018.out).2.2); (case side2 => exact (Kd.R_reads' HO1018.out).2.1); rintro e w67 ⟨rfl, hb⟩; refine ⟨_, rfl, ?_⟩; have n0_ := ak (Kd.R_below (ur <| HO1013.out) hb); have n1_ := ak (Kd.R_below (ur <| HO1018.out) hb); have n2_ := ak (blk_below (g := gb1010) (o := .cells #[.string t1007, .int .i64 t1008] 27 (0, 0)) (ub BK1010.out) hb); have n3_ := ak (below_step (by repeat with_reducible first | exact HB.out | apply b1 | apply b2 | apply b3 | refine b4 ?_ GE1010.out) hb); clear HO1013; clear HO1018; clear BK1010; clear HB; have HO1013 := n0_; have HO1018 := n1_; have BK1010 := n2_; have HB := n3_; clear n0_ n1_ n2_ n3_; (try clear hb); (try clear hb2); (try clear hk); (try clear hi)) | ((with_reducible refine gate_callee (f := 72) rfl ?_); refine goesL_ (some 25) rfl rfl Try.func72 (by kernel_rfl) rfl #[.int .i64 t1009] rfl (by (try simp only [List.map_toArray, List.map_cons, List.map_nil]); first | done | rfl | (simp only [List.length_drop, List.length_take]; rfl)) ?_; (with_reducible refine (herbariumlaw3_num.calls t1009 t1021 _ A4.out).mono ?_); rintro e w' ⟨rfl, ⟨nd, rfl⟩⟩; refine ⟨_, rfl, ?_⟩) | (go_at_call 72; (with_reducible refine (herbariumlaw3_num.calls t1015 t1022 _ A6.out).mono ?_); rintro e w' ⟨rfl, ⟨nd, rfl⟩⟩))
  go_ret
  exact ⟨by first | rfl | (simp [errW_none, errW_some] <;> rfl) | (simp [*, errW_none, errW_some] <;> rfl), by repeat with_reducible first | exact HB.out | apply b1 | apply b2 | apply b3 | refine b4 ?_ GE1010.out⟩
 rw [if_pos c7] at H
 have c7b0 : (t1022 == 0) = true := beq_iff_eq.mpr c7
 have c7b1 : (t1022 != 0) = false := bne_eq_false_iff_eq.mpr c7
 clear c7
 replace H := Option.bind_eq_some_iff.mp H
 obtain ⟨t1023, A80, H⟩ := H
 try dsimp only at H
 have A8 := ak A80
 clear A80
 by_cases c9 : t1023 = 0
 rotate_left
 ·
  rw [if_neg c9] at H
  have c9b0 : (t1023 == 0) = false := beq_eq_false_iff_ne.mpr c9
  have c9b1 : (t1023 != 0) = true := bne_iff_ne.mpr c9
  obtain rfl := Option.some.inj H
  go_enter Try.func76, Try.ntmps76
  go_wp2_with (first | ((with_reducible refine gate_callee (f := 71) rfl ?_); refine goesL_ (some 10) rfl rfl Try.func71 (by kernel_rfl) rfl #[.agg #[.string (⟨#[]⟩ : ByteArray), .int .i64 0], .int .i64 0, .slice none 0 0] rfl (by (try simp only [List.map_toArray, List.map_cons, List.map_nil]); first | done | rfl | (simp only [List.length_drop, List.length_take]; rfl)) ?_; (refine (gaps_Put.calls (⟨#[]⟩ : ByteArray) 0 0 _ _ ([] : List Int) t1007 t1008 t1009 _ ?side1 ?side2 A1.out).mono ?_); (case side1 => exact Kd.C_nil _ _); (case side2 => exact Nat.le_refl _); rintro e w52 ⟨rfl, hb⟩; refine ⟨_, rfl, ?_⟩; have n0_ := ak (below_step (ul HB.out) hb); clear HB; have HB := n0_; clear n0_; (try clear hb); (try clear hb2); (try clear hk); (try clear hi)) | ((with_reducible refine gate_dst (N := 1) rfl ?_); (try (refine gate_guard (by rfl) ?_; dsimp only)); refine box_event ?hg (N := 1) ?hd (cs := #[.string (⟨#[]⟩ : ByteArray), .int .i64 0]) (t := 27) ?hr ?_; (case hd => rfl); (case hg => rfl); (case hr => first | (go_simp; done) | (go_simp; rfl)); intro gb1010 hg w53 hbox hb; have n0_ := ak (below_step (ul HB.out) hb); have n1_ := ak (hbox); have n2_ := ak ((by rw [hg]; exact (below_size (ul HB.out)) : w.heap.size ≤ gb1010)); have n3_ := ak ((by rw [hg]; exact (below_size (ul HB.out)) : w.heap.size ≤ gb1010)); clear HB; have HB := n0_; have BK1010 := n1_; have GW1010 := n2_; have GE1010 := n3_; clear n0_ n1_ n2_ n3_; clear hb hbox hg; have hcz54_0 : w53.cell? ⟨gb1010, 0, none⟩ = some (.string (⟨#[]⟩ : ByteArray)) := (blk_cell BK1010.out 0).trans rfl; have hcz54_1 : w53.cell? ⟨gb1010, 1, none⟩ = some (.int .i64 0) := (blk_cell BK1010.out 1).trans rfl; have hfz54_0 := blk_frozen BK1010.out 0; have hfz54_1 := blk_frozen BK1010.out 1) | ((with_reducible refine gate_callee (f := 73) rfl ?_); refine goesL_ (some 15) rfl rfl Try.func73 (by kernel_rfl) rfl #[.agg #[.string t1007, .int .i64 t1008], .int .i64 0, .int .i64 0] rfl (by (try simp only [List.map_toArray, List.map_cons, List.map_nil]); first | done | rfl | (simp only [List.length_drop, List.length_take]; rfl)) ?_; (with_reducible refine (gaps_Take.calls k t1007 t1008 0 0 t1011 t1014 t1015 _ A2.out).mono ?_); rintro e w55 ⟨v1012, rfl, ho0, hb⟩; refine ⟨_, rfl, ?_⟩; have n0_ := ak (Kd.R_lower ho0 (below_size (by repeat with_reducible first | exact HB.out | apply b1 | apply b2 | apply b3 | refine b4 ?_ GE1010.out))); have n1_ := ak (blk_below (g := gb1010) (o := .cells #[.string t1007, .int .i64 t1008] 27 (0, 0)) (by (with_reducible repeat (first | refine blk_drewN ?_ _ | refine blk_drew ?_ | refine blk_alloc ?_ _)); refine blk_put (cs := #[.string t1007, .int .i64 0]) ?_ 1 _ rfl; (with_reducible repeat (first | refine blk_drewN ?_ _ | refine blk_drew ?_ | refine blk_alloc ?_ _)); refine blk_put (cs := #[.string (⟨#[]⟩ : ByteArray), .int .i64 0]) ?_ 0 _ rfl; (with_reducible repeat (first | refine blk_drewN ?_ _ | refine blk_drew ?_ | refine blk_alloc ?_ _)); exact BK1010.out) hb); have n2_ := ak (below_step (by repeat with_reducible first | exact HB.out | apply b1 | apply b2 | apply b3 | refine b4 ?_ GE1010.out) hb); clear BK1010; clear HB; have HO1013 := n0_; have BK1010 := n1_; have HB := n2_; clear n0_ n1_ n2_; (try clear hb); (try clear hb2); (try clear hk); (try clear hi); (try clear ho0)) | ((with_reducible refine gate_dst (N := 20) rfl ?_); (try (refine gate_guard (by rfl) ?_; dsimp only)); refine Kd.R_lit (Kd.int .i64) _ 3 ?hg (N := 20) ?hd (xs := ([2, 3] : List Int)) (inner := [.int .i64 2, .int .i64 3]) (ok := fun _ => True) (okp := fun _ => True) ?hr ?hp (fun _ hk => hk) trivial (Below.refl _ _) (Nat.le_refl _) (by simp) ?_; (case hd => rfl); (case hg => rfl); (case hr => first | (go_simp; done) | (go_simp; rfl)); (case hp => exact (Reps.one (show Kd.M (Kd.int .i64) _ _ _ 2 [.int .i64 2] from rfl) (Reps.one (show Kd.M (Kd.int .i64) _ _ _ 3 [.int .i64 3] from rfl) (Reps.none _ _)))); intro v1017 w56 ho57 hb hg_ hnew_; clear hg_ hnew_; (first | rw [← Ny1016.out] at ho57 | (simp only [Int.reduceToNat] at ho57; rw [← Ny1016.out] at ho57)); have n0_ := ak (Kd.R_elder' (ur <| HO1013.out) (Kd.R_base ho57) hb); have n1_ := ak (Kd.R_lower (Kd.R_new' ho57 (Kd.R_lt (ur <| HO1013.out))) (below_size (by repeat with_reducible first | exact HB.out | apply b1 | apply b2 | apply b3 | refine b4 ?_ GE1010.out))); have n2_ := ak (blk_below (g := gb1010) (o := .cells #[.string t1007, .int .i64 t1008] 27 (0, 0)) (ub BK1010.out) hb); have n3_ := ak (below_step (by repeat with_reducible first | exact HB.out | apply b1 | apply b2 | apply b3 | refine b4 ?_ GE1010.out) hb); clear HO1013; clear BK1010; clear HB; have HO1013 := n0_; have HO1018 := n1_; have BK1010 := n2_; have HB := n3_; clear n0_ n1_ n2_ n3_; clear hb ho57; obtain ⟨Ao58, co58, eo58⟩ := Kd.R_slice HO1018.out; subst eo58) | ((with_reducible refine gate_callee (f := 74) rfl ?_); refine goesL_ (some 21) rfl rfl Try.func74 (by kernel_rfl) rfl #[.int .i64 2, .slice Ao58 y1016.length co58] rfl (by (try simp only [List.map_toArray, List.map_cons, List.map_nil]); first | done | rfl | (simp only [List.length_drop, List.length_take]; rfl)) ?_; (with_reducible refine (gaps_Size.calls 2 _ _ y1016 t1019 t1020 _ ?side1 ?side2 A3.out).mono ?_); (case side1 => exact uc (Kd.R_reads' HO1018.out).2.2); (case side2 => exact (Kd.R_reads' HO1018.out).2.1); rintro e w59 ⟨rfl, hb⟩; refine ⟨_, rfl, ?_⟩; have n0_ := ak (Kd.R_below (ur <| HO1013.out) hb); have n1_ := ak (Kd.R_below (ur <| HO1018.out) hb); have n2_ := ak (blk_below (g := gb1010) (o := .cells #[.string t1007, .int .i64 t1008] 27 (0, 0)) (ub BK1010.out) hb); have n3_ := ak (below_step (by repeat with_reducible first | exact HB.out | apply b1 | apply b2 | apply b3 | refine b4 ?_ GE1010.out) hb); clear HO1013; clear HO1018; clear BK1010; clear HB; have HO1013 := n0_; have HO1018 := n1_; have BK1010 := n2_; have HB := n3_; clear n0_ n1_ n2_ n3_; (try clear hb); (try clear hb2); (try clear hk); (try clear hi)) | ((with_reducible refine gate_callee (f := 72) rfl ?_); refine goesL_ (some 25) rfl rfl Try.func72 (by kernel_rfl) rfl #[.int .i64 t1009] rfl (by (try simp only [List.map_toArray, List.map_cons, List.map_nil]); first | done | rfl | (simp only [List.length_drop, List.length_take]; rfl)) ?_; (with_reducible refine (herbariumlaw3_num.calls t1009 t1021 _ A4.out).mono ?_); rintro e w' ⟨rfl, ⟨nd, rfl⟩⟩; refine ⟨_, rfl, ?_⟩) | (go_at_call 72; (with_reducible refine (herbariumlaw3_num.calls t1015 t1022 _ A6.out).mono ?_); rintro e w' ⟨rfl, ⟨nd, rfl⟩⟩) | (go_at_call 72; (with_reducible refine (herbariumlaw3_num.calls t1020 t1023 _ A8.out).mono ?_); rintro e w' ⟨rfl, ⟨nd, rfl⟩⟩))
  go_ret
  exact ⟨by first | rfl | (simp [errW_none, errW_some] <;> rfl) | (simp [*, errW_none, errW_some] <;> rfl), by repeat with_reducible first | exact HB.out | apply b1 | apply b2 | apply b3 | refine b4 ?_ GE1010.out⟩
 rw [if_pos c9] at H
 have c9b0 : (t1023 == 0) = true := beq_iff_eq.mpr c9
 have c9b1 : (t1023 != 0) = false := bne_eq_false_iff_eq.mpr c9
 clear c9
 by_cases c10 : t1008 = 1
 rotate_left
 ·
  rw [if_neg c10] at H
  have c10b0 : (t1008 == 1) = false := beq_eq_false_iff_ne.mpr c10
  have c10b1 : (t1008 != 1) = true := bne_iff_ne.mpr c10
  obtain rfl := Option.some.inj H
  go_enter Try.func76, Try.ntmps76
  go_wp2_with (first | ((with_reducible refine gate_callee (f := 71) rfl ?_); refine goesL_ (some 10) rfl rfl Try.func71 (by kernel_rfl) rfl #[.agg #[.string (⟨#[]⟩ : ByteArray), .int .i64 0], .int .i64 0, .slice none 0 0] rfl (by (try simp only [List.map_toArray, List.map_cons, List.map_nil]); first | done | rfl | (simp only [List.length_drop, List.length_take]; rfl)) ?_; (refine (gaps_Put.calls (⟨#[]⟩ : ByteArray) 0 0 _ _ ([] : List Int) t1007 t1008 t1009 _ ?side1 ?side2 A1.out).mono ?_); (case side1 => exact Kd.C_nil _ _); (case side2 => exact Nat.le_refl _); rintro e w43 ⟨rfl, hb⟩; refine ⟨_, rfl, ?_⟩; have n0_ := ak (below_step (ul HB.out) hb); clear HB; have HB := n0_; clear n0_; (try clear hb); (try clear hb2); (try clear hk); (try clear hi)) | ((with_reducible refine gate_dst (N := 1) rfl ?_); (try (refine gate_guard (by rfl) ?_; dsimp only)); refine box_event ?hg (N := 1) ?hd (cs := #[.string (⟨#[]⟩ : ByteArray), .int .i64 0]) (t := 27) ?hr ?_; (case hd => rfl); (case hg => rfl); (case hr => first | (go_simp; done) | (go_simp; rfl)); intro gb1010 hg w44 hbox hb; have n0_ := ak (below_step (ul HB.out) hb); have n1_ := ak (hbox); have n2_ := ak ((by rw [hg]; exact (below_size (ul HB.out)) : w.heap.size ≤ gb1010)); have n3_ := ak ((by rw [hg]; exact (below_size (ul HB.out)) : w.heap.size ≤ gb1010)); clear HB; have HB := n0_; have BK1010 := n1_; have GW1010 := n2_; have GE1010 := n3_; clear n0_ n1_ n2_ n3_; clear hb hbox hg; have hcz45_0 : w44.cell? ⟨gb1010, 0, none⟩ = some (.string (⟨#[]⟩ : ByteArray)) := (blk_cell BK1010.out 0).trans rfl; have hcz45_1 : w44.cell? ⟨gb1010, 1, none⟩ = some (.int .i64 0) := (blk_cell BK1010.out 1).trans rfl; have hfz45_0 := blk_frozen BK1010.out 0; have hfz45_1 := blk_frozen BK1010.out 1) | ((with_reducible refine gate_callee (f := 73) rfl ?_); refine goesL_ (some 15) rfl rfl Try.func73 (by kernel_rfl) rfl #[.agg #[.string t1007, .int .i64 t1008], .int .i64 0, .int .i64 0] rfl (by (try simp only [List.map_toArray, List.map_cons, List.map_nil]); first | done | rfl | (simp only [List.length_drop, List.length_take]; rfl)) ?_; (with_reducible refine (gaps_Take.calls k t1007 t1008 0 0 t1011 t1014 t1015 _ A2.out).mono ?_); rintro e w46 ⟨v1012, rfl, ho0, hb⟩; refine ⟨_, rfl, ?_⟩; have n0_ := ak (Kd.R_lower ho0 (below_size (by repeat with_reducible first | exact HB.out | apply b1 | apply b2 | apply b3 | refine b4 ?_ GE1010.out))); have n1_ := ak (blk_below (g := gb1010) (o := .cells #[.string t1007, .int .i64 t1008] 27 (0, 0)) (by (with_reducible repeat (first | refine blk_drewN ?_ _ | refine blk_drew ?_ | refine blk_alloc ?_ _)); refine blk_put (cs := #[.string t1007, .int .i64 0]) ?_ 1 _ rfl; (with_reducible repeat (first | refine blk_drewN ?_ _ | refine blk_drew ?_ | refine blk_alloc ?_ _)); refine blk_put (cs := #[.string (⟨#[]⟩ : ByteArray), .int .i64 0]) ?_ 0 _ rfl; (with_reducible repeat (first | refine blk_drewN ?_ _ | refine blk_drew ?_ | refine blk_alloc ?_ _)); exact BK1010.out) hb); have n2_ := ak (below_step (by repeat with_reducible first | exact HB.out | apply b1 | apply b2 | apply b3 | refine b4 ?_ GE1010.out) hb); clear BK1010; clear HB; have HO1013 := n0_; have BK1010 := n1_; have HB := n2_; clear n0_ n1_ n2_; (try clear hb); (try clear hb2); (try clear hk); (try clear hi); (try clear ho0)) | ((with_reducible refine gate_dst (N := 20) rfl ?_); (try (refine gate_guard (by rfl) ?_; dsimp only)); refine Kd.R_lit (Kd.int .i64) _ 3 ?hg (N := 20) ?hd (xs := ([2, 3] : List Int)) (inner := [.int .i64 2, .int .i64 3]) (ok := fun _ => True) (okp := fun _ => True) ?hr ?hp (fun _ hk => hk) trivial (Below.refl _ _) (Nat.le_refl _) (by simp) ?_; (case hd => rfl); (case hg => rfl); (case hr => first | (go_simp; done) | (go_simp; rfl)); (case hp => exact (Reps.one (show Kd.M (Kd.int .i64) _ _ _ 2 [.int .i64 2] from rfl) (Reps.one (show Kd.M (Kd.int .i64) _ _ _ 3 [.int .i64 3] from rfl) (Reps.none _ _)))); intro v1017 w47 ho48 hb hg_ hnew_; clear hg_ hnew_; (first | rw [← Ny1016.out] at ho48 | (simp only [Int.reduceToNat] at ho48; rw [← Ny1016.out] at ho48)); have n0_ := ak (Kd.R_elder' (ur <| HO1013.out) (Kd.R_base ho48) hb); have n1_ := ak (Kd.R_lower (Kd.R_new' ho48 (Kd.R_lt (ur <| HO1013.out))) (below_size (by repeat with_reducible first | exact HB.out | apply b1 | apply b2 | apply b3 | refine b4 ?_ GE1010.out))); have n2_ := ak (blk_below (g := gb1010) (o := .cells #[.string t1007, .int .i64 t1008] 27 (0, 0)) (ub BK1010.out) hb); have n3_ := ak (below_step (by repeat with_reducible first | exact HB.out | apply b1 | apply b2 | apply b3 | refine b4 ?_ GE1010.out) hb); clear HO1013; clear BK1010; clear HB; have HO1013 := n0_; have HO1018 := n1_; have BK1010 := n2_; have HB := n3_; clear n0_ n1_ n2_ n3_; clear hb ho48; obtain ⟨Ao49, co49, eo49⟩ := Kd.R_slice HO1018.out; subst eo49) | ((with_reducible refine gate_callee (f := 74) rfl ?_); refine goesL_ (some 21) rfl rfl Try.func74 (by kernel_rfl) rfl #[.int .i64 2, .slice Ao49 y1016.length co49] rfl (by (try simp only [List.map_toArray, List.map_cons, List.map_nil]); first | done | rfl | (simp only [List.length_drop, List.length_take]; rfl)) ?_; (with_reducible refine (gaps_Size.calls 2 _ _ y1016 t1019 t1020 _ ?side1 ?side2 A3.out).mono ?_); (case side1 => exact uc (Kd.R_reads' HO1018.out).2.2); (case side2 => exact (Kd.R_reads' HO1018.out).2.1); rintro e w50 ⟨rfl, hb⟩; refine ⟨_, rfl, ?_⟩; have n0_ := ak (Kd.R_below (ur <| HO1013.out) hb); have n1_ := ak (Kd.R_below (ur <| HO1018.out) hb); have n2_ := ak (blk_below (g := gb1010) (o := .cells #[.string t1007, .int .i64 t1008] 27 (0, 0)) (ub BK1010.out) hb); have n3_ := ak (below_step (by repeat with_reducible first | exact HB.out | apply b1 | apply b2 | apply b3 | refine b4 ?_ GE1010.out) hb); clear HO1013; clear HO1018; clear BK1010; clear HB; have HO1013 := n0_; have HO1018 := n1_; have BK1010 := n2_; have HB := n3_; clear n0_ n1_ n2_ n3_; (try clear hb); (try clear hb2); (try clear hk); (try clear hi)) | ((with_reducible refine gate_callee (f := 72) rfl ?_); refine goesL_ (some 25) rfl rfl Try.func72 (by kernel_rfl) rfl #[.int .i64 t1009] rfl (by (try simp only [List.map_toArray, List.map_cons, List.map_nil]); first | done | rfl | (simp only [List.length_drop, List.length_take]; rfl)) ?_; (with_reducible refine (herbariumlaw3_num.calls t1009 t1021 _ A4.out).mono ?_); rintro e w' ⟨rfl, ⟨nd, rfl⟩⟩; refine ⟨_, rfl, ?_⟩) | (go_at_call 72; (with_reducible refine (herbariumlaw3_num.calls t1015 t1022 _ A6.out).mono ?_); rintro e w' ⟨rfl, ⟨nd, rfl⟩⟩) | (go_at_call 72; (with_reducible refine (herbariumlaw3_num.calls t1020 t1023 _ A8.out).mono ?_); rintro e w' ⟨rfl, ⟨nd, rfl⟩⟩; have hcz51_0 : w50.cell? ⟨gb1010, 0, none⟩ = some (.string t1007) := (blk_cell BK1010.out 0).trans rfl; have hcz51_1 : w50.cell? ⟨gb1010, 1, none⟩ = some (.int .i64 t1008) := (blk_cell BK1010.out 1).trans rfl; have hfz51_0 := blk_frozen BK1010.out 0; have hfz51_1 := blk_frozen BK1010.out 1))
  go_ret
  exact ⟨by first | rfl | (simp [errW_none, errW_some] <;> rfl) | (simp [*, errW_none, errW_some] <;> rfl), by repeat with_reducible first | exact HB.out | apply b1 | apply b2 | apply b3 | refine b4 ?_ GE1010.out⟩
 rw [if_pos c10] at H
 have c10b0 : (t1008 == 1) = true := beq_iff_eq.mpr c10
 have c10b1 : (t1008 != 1) = false := bne_eq_false_iff_eq.mpr c10
 clear c10
 by_cases c11 : (t1011.length : Int) = 0
 rotate_left
 ·
  rw [if_neg c11] at H
  have c11b0 : ((t1011.length : Int) == 0) = false := beq_eq_false_iff_ne.mpr c11
  have c11b1 : ((t1011.length : Int) != 0) = true := bne_iff_ne.mpr c11
  have c11b2 : ¬ (t1011 = []) := fun h_ => c11 (by rw [h_]; rfl)
  obtain rfl := Option.some.inj H
  go_enter Try.func76, Try.ntmps76
  go_wp2_with (first | ((with_reducible refine gate_callee (f := 71) rfl ?_); refine goesL_ (some 10) rfl rfl Try.func71 (by kernel_rfl) rfl #[.agg #[.string (⟨#[]⟩ : ByteArray), .int .i64 0], .int .i64 0, .slice none 0 0] rfl (by (try simp only [List.map_toArray, List.map_cons, List.map_nil]); first | done | rfl | (simp only [List.length_drop, List.length_take]; rfl)) ?_; (refine (gaps_Put.calls (⟨#[]⟩ : ByteArray) 0 0 _ _ ([] : List Int) t1007 t1008 t1009 _ ?side1 ?side2 A1.out).mono ?_); (case side1 => exact Kd.C_nil _ _); (case side2 => exact Nat.le_refl _); rintro e w33 ⟨rfl, hb⟩; refine ⟨_, rfl, ?_⟩; have n0_ := ak (below_step (ul HB.out) hb); clear HB; have HB := n0_; clear n0_; (try clear hb); (try clear hb2); (try clear hk); (try clear hi)) | ((with_reducible refine gate_dst (N := 1) rfl ?_); (try (refine gate_guard (by rfl) ?_; dsimp only)); refine box_event ?hg (N := 1) ?hd (cs := #[.string (⟨#[]⟩ : ByteArray), .int .i64 0]) (t := 27) ?hr ?_; (case hd => rfl); (case hg => rfl); (case hr => first | (go_simp; done) | (go_simp; rfl)); intro gb1010 hg w34 hbox hb; have n0_ := ak (below_step (ul HB.out) hb); have n1_ := ak (hbox); have n2_ := ak ((by rw [hg]; exact (below_size (ul HB.out)) : w.heap.size ≤ gb1010)); have n3_ := ak ((by rw [hg]; exact (below_size (ul HB.out)) : w.heap.size ≤ gb1010)); clear HB; have HB := n0_; have BK1010 := n1_; have GW1010 := n2_; have GE1010 := n3_; clear n0_ n1_ n2_ n3_; clear hb hbox hg; have hcz35_0 : w34.cell? ⟨gb1010, 0, none⟩ = some (.string (⟨#[]⟩ : ByteArray)) := (blk_cell BK1010.out 0).trans rfl; have hcz35_1 : w34.cell? ⟨gb1010, 1, none⟩ = some (.int .i64 0) := (blk_cell BK1010.out 1).trans rfl; have hfz35_0 := blk_frozen BK1010.out 0; have hfz35_1 := blk_frozen BK1010.out 1) | ((with_reducible refine gate_callee (f := 73) rfl ?_); refine goesL_ (some 15) rfl rfl Try.func73 (by kernel_rfl) rfl #[.agg #[.string t1007, .int .i64 t1008], .int .i64 0, .int .i64 0] rfl (by (try simp only [List.map_toArray, List.map_cons, List.map_nil]); first | done | rfl | (simp only [List.length_drop, List.length_take]; rfl)) ?_; (with_reducible refine (gaps_Take.calls k t1007 t1008 0 0 t1011 t1014 t1015 _ A2.out).mono ?_); rintro e w36 ⟨v1012, rfl, ho0, hb⟩; refine ⟨_, rfl, ?_⟩; have n0_ := ak (Kd.R_lower ho0 (below_size (by repeat with_reducible first | exact HB.out | apply b1 | apply b2 | apply b3 | refine b4 ?_ GE1010.out))); have n1_ := ak (blk_below (g := gb1010) (o := .cells #[.string t1007, .int .i64 t1008] 27 (0, 0)) (by (with_reducible repeat (first | refine blk_drewN ?_ _ | refine blk_drew ?_ | refine blk_alloc ?_ _)); refine blk_put (cs := #[.string t1007, .int .i64 0]) ?_ 1 _ rfl; (with_reducible repeat (first | refine blk_drewN ?_ _ | refine blk_drew ?_ | refine blk_alloc ?_ _)); refine blk_put (cs := #[.string (⟨#[]⟩ : ByteArray), .int .i64 0]) ?_ 0 _ rfl; (with_reducible repeat (first | refine blk_drewN ?_ _ | refine blk_drew ?_ | refine blk_alloc ?_ _)); exact BK1010.out) hb); have n2_ := ak (below_step (by repeat with_reducible first | exact HB.out | apply b1 | apply b2 | apply b3 | refine b4 ?_ GE1010.out) hb); clear BK1010; clear HB; have HO1013 := n0_; have BK1010 := n1_; have HB := n2_; clear n0_ n1_ n2_; (try clear hb); (try clear hb2); (try clear hk); (try clear hi); (try clear ho0)) | ((with_reducible refine gate_dst (N := 20) rfl ?_); (try (refine gate_guard (by rfl) ?_; dsimp only)); refine Kd.R_lit (Kd.int .i64) _ 3 ?hg (N := 20) ?hd (xs := ([2, 3] : List Int)) (inner := [.int .i64 2, .int .i64 3]) (ok := fun _ => True) (okp := fun _ => True) ?hr ?hp (fun _ hk => hk) trivial (Below.refl _ _) (Nat.le_refl _) (by simp) ?_; (case hd => rfl); (case hg => rfl); (case hr => first | (go_simp; done) | (go_simp; rfl)); (case hp => exact (Reps.one (show Kd.M (Kd.int .i64) _ _ _ 2 [.int .i64 2] from rfl) (Reps.one (show Kd.M (Kd.int .i64) _ _ _ 3 [.int .i64 3] from rfl) (Reps.none _ _)))); intro v1017 w37 ho38 hb hg_ hnew_; clear hg_ hnew_; (first | rw [← Ny1016.out] at ho38 | (simp only [Int.reduceToNat] at ho38; rw [← Ny1016.out] at ho38)); have n0_ := ak (Kd.R_elder' (ur <| HO1013.out) (Kd.R_base ho38) hb); have n1_ := ak (Kd.R_lower (Kd.R_new' ho38 (Kd.R_lt (ur <| HO1013.out))) (below_size (by repeat with_reducible first | exact HB.out | apply b1 | apply b2 | apply b3 | refine b4 ?_ GE1010.out))); have n2_ := ak (blk_below (g := gb1010) (o := .cells #[.string t1007, .int .i64 t1008] 27 (0, 0)) (ub BK1010.out) hb); have n3_ := ak (below_step (by repeat with_reducible first | exact HB.out | apply b1 | apply b2 | apply b3 | refine b4 ?_ GE1010.out) hb); clear HO1013; clear BK1010; clear HB; have HO1013 := n0_; have HO1018 := n1_; have BK1010 := n2_; have HB := n3_; clear n0_ n1_ n2_ n3_; clear hb ho38; obtain ⟨Ao39, co39, eo39⟩ := Kd.R_slice HO1018.out; subst eo39) | ((with_reducible refine gate_callee (f := 74) rfl ?_); refine goesL_ (some 21) rfl rfl Try.func74 (by kernel_rfl) rfl #[.int .i64 2, .slice Ao39 y1016.length co39] rfl (by (try simp only [List.map_toArray, List.map_cons, List.map_nil]); first | done | rfl | (simp only [List.length_drop, List.length_take]; rfl)) ?_; (with_reducible refine (gaps_Size.calls 2 _ _ y1016 t1019 t1020 _ ?side1 ?side2 A3.out).mono ?_); (case side1 => exact uc (Kd.R_reads' HO1018.out).2.2); (case side2 => exact (Kd.R_reads' HO1018.out).2.1); rintro e w40 ⟨rfl, hb⟩; refine ⟨_, rfl, ?_⟩; have n0_ := ak (Kd.R_below (ur <| HO1013.out) hb); have n1_ := ak (Kd.R_below (ur <| HO1018.out) hb); have n2_ := ak (blk_below (g := gb1010) (o := .cells #[.string t1007, .int .i64 t1008] 27 (0, 0)) (ub BK1010.out) hb); have n3_ := ak (below_step (by repeat with_reducible first | exact HB.out | apply b1 | apply b2 | apply b3 | refine b4 ?_ GE1010.out) hb); clear HO1013; clear HO1018; clear BK1010; clear HB; have HO1013 := n0_; have HO1018 := n1_; have BK1010 := n2_; have HB := n3_; clear n0_ n1_ n2_ n3_; (try clear hb); (try clear hb2); (try clear hk); (try clear hi)) | ((with_reducible refine gate_callee (f := 72) rfl ?_); refine goesL_ (some 25) rfl rfl Try.func72 (by kernel_rfl) rfl #[.int .i64 t1009] rfl (by (try simp only [List.map_toArray, List.map_cons, List.map_nil]); first | done | rfl | (simp only [List.length_drop, List.length_take]; rfl)) ?_; (with_reducible refine (herbariumlaw3_num.calls t1009 t1021 _ A4.out).mono ?_); rintro e w' ⟨rfl, ⟨nd, rfl⟩⟩; refine ⟨_, rfl, ?_⟩) | (go_at_call 72; (with_reducible refine (herbariumlaw3_num.calls t1015 t1022 _ A6.out).mono ?_); rintro e w' ⟨rfl, ⟨nd, rfl⟩⟩) | (go_at_call 72; (with_reducible refine (herbariumlaw3_num.calls t1020 t1023 _ A8.out).mono ?_); rintro e w' ⟨rfl, ⟨nd, rfl⟩⟩; have hcz41_0 : w40.cell? ⟨gb1010, 0, none⟩ = some (.string t1007) := (blk_cell BK1010.out 0).trans rfl; have hcz41_1 : w40.cell? ⟨gb1010, 1, none⟩ = some (.int .i64 t1008) := (blk_cell BK1010.out 1).trans rfl; have hfz41_0 := blk_frozen BK1010.out 0; have hfz41_1 := blk_frozen BK1010.out 1; obtain ⟨Ao42, co42, eo42⟩ := Kd.R_slice HO1013.out; subst eo42))
  go_ret
  exact ⟨by first | rfl | (simp [errW_none, errW_some] <;> rfl) | (simp [*, errW_none, errW_some] <;> rfl), by repeat with_reducible first | exact HB.out | apply b1 | apply b2 | apply b3 | refine b4 ?_ GE1010.out⟩
 rw [if_pos c11] at H
 have c11b0 : ((t1011.length : Int) == 0) = true := beq_iff_eq.mpr c11
 have c11b1 : ((t1011.length : Int) != 0) = false := bne_eq_false_iff_eq.mpr c11
 clear c11
 by_cases c12 : t1014 = 1
 rotate_left
 ·
  rw [if_neg c12] at H
  have c12b0 : (t1014 == 1) = false := beq_eq_false_iff_ne.mpr c12
  have c12b1 : (t1014 != 1) = true := bne_iff_ne.mpr c12
  obtain rfl := Option.some.inj H
  go_enter Try.func76, Try.ntmps76
  go_wp2_with (first | ((with_reducible refine gate_callee (f := 71) rfl ?_); refine goesL_ (some 10) rfl rfl Try.func71 (by kernel_rfl) rfl #[.agg #[.string (⟨#[]⟩ : ByteArray), .int .i64 0], .int .i64 0, .slice none 0 0] rfl (by (try simp only [List.map_toArray, List.map_cons, List.map_nil]); first | done | rfl | (simp only [List.length_drop, List.length_take]; rfl)) ?_; (refine (gaps_Put.calls (⟨#[]⟩ : ByteArray) 0 0 _ _ ([] : List Int) t1007 t1008 t1009 _ ?side1 ?side2 A1.out).mono ?_); (case side1 => exact Kd.C_nil _ _); (case side2 => exact Nat.le_refl _); rintro e w23 ⟨rfl, hb⟩; refine ⟨_, rfl, ?_⟩; have n0_ := ak (below_step (ul HB.out) hb); clear HB; have HB := n0_; clear n0_; (try clear hb); (try clear hb2); (try clear hk); (try clear hi)) | ((with_reducible refine gate_dst (N := 1) rfl ?_); (try (refine gate_guard (by rfl) ?_; dsimp only)); refine box_event ?hg (N := 1) ?hd (cs := #[.string (⟨#[]⟩ : ByteArray), .int .i64 0]) (t := 27) ?hr ?_; (case hd => rfl); (case hg => rfl); (case hr => first | (go_simp; done) | (go_simp; rfl)); intro gb1010 hg w24 hbox hb; have n0_ := ak (below_step (ul HB.out) hb); have n1_ := ak (hbox); have n2_ := ak ((by rw [hg]; exact (below_size (ul HB.out)) : w.heap.size ≤ gb1010)); have n3_ := ak ((by rw [hg]; exact (below_size (ul HB.out)) : w.heap.size ≤ gb1010)); clear HB; have HB := n0_; have BK1010 := n1_; have GW1010 := n2_; have GE1010 := n3_; clear n0_ n1_ n2_ n3_; clear hb hbox hg; have hcz25_0 : w24.cell? ⟨gb1010, 0, none⟩ = some (.string (⟨#[]⟩ : ByteArray)) := (blk_cell BK1010.out 0).trans rfl; have hcz25_1 : w24.cell? ⟨gb1010, 1, none⟩ = some (.int .i64 0) := (blk_cell BK1010.out 1).trans rfl; have hfz25_0 := blk_frozen BK1010.out 0; have hfz25_1 := blk_frozen BK1010.out 1) | ((with_reducible refine gate_callee (f := 73) rfl ?_); refine goesL_ (some 15) rfl rfl Try.func73 (by kernel_rfl) rfl #[.agg #[.string t1007, .int .i64 t1008], .int .i64 0, .int .i64 0] rfl (by (try simp only [List.map_toArray, List.map_cons, List.map_nil]); first | done | rfl | (simp only [List.length_drop, List.length_take]; rfl)) ?_; (with_reducible refine (gaps_Take.calls k t1007 t1008 0 0 t1011 t1014 t1015 _ A2.out).mono ?_); rintro e w26 ⟨v1012, rfl, ho0, hb⟩; refine ⟨_, rfl, ?_⟩; have n0_ := ak (Kd.R_lower ho0 (below_size (by repeat with_reducible first | exact HB.out | apply b1 | apply b2 | apply b3 | refine b4 ?_ GE1010.out))); have n1_ := ak (blk_below (g := gb1010) (o := .cells #[.string t1007, .int .i64 t1008] 27 (0, 0)) (by (with_reducible repeat (first | refine blk_drewN ?_ _ | refine blk_drew ?_ | refine blk_alloc ?_ _)); refine blk_put (cs := #[.string t1007, .int .i64 0]) ?_ 1 _ rfl; (with_reducible repeat (first | refine blk_drewN ?_ _ | refine blk_drew ?_ | refine blk_alloc ?_ _)); refine blk_put (cs := #[.string (⟨#[]⟩ : ByteArray), .int .i64 0]) ?_ 0 _ rfl; (with_reducible repeat (first | refine blk_drewN ?_ _ | refine blk_drew ?_ | refine blk_alloc ?_ _)); exact BK1010.out) hb); have n2_ := ak (below_step (by repeat with_reducible first | exact HB.out | apply b1 | apply b2 | apply b3 | refine b4 ?_ GE1010.out) hb); clear BK1010; clear HB; have HO1013 := n0_; have BK1010 := n1_; have HB := n2_; clear n0_ n1_ n2_; (try clear hb); (try clear hb2); (try clear hk); (try clear hi); (try clear ho0)) | ((with_reducible refine gate_dst (N := 20) rfl ?_); (try (refine gate_guard (by rfl) ?_; dsimp only)); refine Kd.R_lit (Kd.int .i64) _ 3 ?hg (N := 20) ?hd (xs := ([2, 3] : List Int)) (inner := [.int .i64 2, .int .i64 3]) (ok := fun _ => True) (okp := fun _ => True) ?hr ?hp (fun _ hk => hk) trivial (Below.refl _ _) (Nat.le_refl _) (by simp) ?_; (case hd => rfl); (case hg => rfl); (case hr => first | (go_simp; done) | (go_simp; rfl)); (case hp => exact (Reps.one (show Kd.M (Kd.int .i64) _ _ _ 2 [.int .i64 2] from rfl) (Reps.one (show Kd.M (Kd.int .i64) _ _ _ 3 [.int .i64 3] from rfl) (Reps.none _ _)))); intro v1017 w27 ho28 hb hg_ hnew_; clear hg_ hnew_; (first | rw [← Ny1016.out] at ho28 | (simp only [Int.reduceToNat] at ho28; rw [← Ny1016.out] at ho28)); have n0_ := ak (Kd.R_elder' (ur <| HO1013.out) (Kd.R_base ho28) hb); have n1_ := ak (Kd.R_lower (Kd.R_new' ho28 (Kd.R_lt (ur <| HO1013.out))) (below_size (by repeat with_reducible first | exact HB.out | apply b1 | apply b2 | apply b3 | refine b4 ?_ GE1010.out))); have n2_ := ak (blk_below (g := gb1010) (o := .cells #[.string t1007, .int .i64 t1008] 27 (0, 0)) (ub BK1010.out) hb); have n3_ := ak (below_step (by repeat with_reducible first | exact HB.out | apply b1 | apply b2 | apply b3 | refine b4 ?_ GE1010.out) hb); clear HO1013; clear BK1010; clear HB; have HO1013 := n0_; have HO1018 := n1_; have BK1010 := n2_; have HB := n3_; clear n0_ n1_ n2_ n3_; clear hb ho28; obtain ⟨Ao29, co29, eo29⟩ := Kd.R_slice HO1018.out; subst eo29) | ((with_reducible refine gate_callee (f := 74) rfl ?_); refine goesL_ (some 21) rfl rfl Try.func74 (by kernel_rfl) rfl #[.int .i64 2, .slice Ao29 y1016.length co29] rfl (by (try simp only [List.map_toArray, List.map_cons, List.map_nil]); first | done | rfl | (simp only [List.length_drop, List.length_take]; rfl)) ?_; (with_reducible refine (gaps_Size.calls 2 _ _ y1016 t1019 t1020 _ ?side1 ?side2 A3.out).mono ?_); (case side1 => exact uc (Kd.R_reads' HO1018.out).2.2); (case side2 => exact (Kd.R_reads' HO1018.out).2.1); rintro e w30 ⟨rfl, hb⟩; refine ⟨_, rfl, ?_⟩; have n0_ := ak (Kd.R_below (ur <| HO1013.out) hb); have n1_ := ak (Kd.R_below (ur <| HO1018.out) hb); have n2_ := ak (blk_below (g := gb1010) (o := .cells #[.string t1007, .int .i64 t1008] 27 (0, 0)) (ub BK1010.out) hb); have n3_ := ak (below_step (by repeat with_reducible first | exact HB.out | apply b1 | apply b2 | apply b3 | refine b4 ?_ GE1010.out) hb); clear HO1013; clear HO1018; clear BK1010; clear HB; have HO1013 := n0_; have HO1018 := n1_; have BK1010 := n2_; have HB := n3_; clear n0_ n1_ n2_ n3_; (try clear hb); (try clear hb2); (try clear hk); (try clear hi)) | ((with_reducible refine gate_callee (f := 72) rfl ?_); refine goesL_ (some 25) rfl rfl Try.func72 (by kernel_rfl) rfl #[.int .i64 t1009] rfl (by (try simp only [List.map_toArray, List.map_cons, List.map_nil]); first | done | rfl | (simp only [List.length_drop, List.length_take]; rfl)) ?_; (with_reducible refine (herbariumlaw3_num.calls t1009 t1021 _ A4.out).mono ?_); rintro e w' ⟨rfl, ⟨nd, rfl⟩⟩; refine ⟨_, rfl, ?_⟩) | (go_at_call 72; (with_reducible refine (herbariumlaw3_num.calls t1015 t1022 _ A6.out).mono ?_); rintro e w' ⟨rfl, ⟨nd, rfl⟩⟩) | (go_at_call 72; (with_reducible refine (herbariumlaw3_num.calls t1020 t1023 _ A8.out).mono ?_); rintro e w' ⟨rfl, ⟨nd, rfl⟩⟩; have hcz31_0 : w30.cell? ⟨gb1010, 0, none⟩ = some (.string t1007) := (blk_cell BK1010.out 0).trans rfl; have hcz31_1 : w30.cell? ⟨gb1010, 1, none⟩ = some (.int .i64 t1008) := (blk_cell BK1010.out 1).trans rfl; have hfz31_0 := blk_frozen BK1010.out 0; have hfz31_1 := blk_frozen BK1010.out 1; obtain ⟨Ao32, co32, eo32⟩ := Kd.R_slice HO1013.out; subst eo32))
  go_ret
  exact ⟨by first | rfl | (simp [errW_none, errW_some] <;> rfl) | (simp [*, errW_none, errW_some] <;> rfl), by repeat with_reducible first | exact HB.out | apply b1 | apply b2 | apply b3 | refine b4 ?_ GE1010.out⟩
 rw [if_pos c12] at H
 have c12b0 : (t1014 == 1) = true := beq_iff_eq.mpr c12
 have c12b1 : (t1014 != 1) = false := bne_eq_false_iff_eq.mpr c12
 clear c12
 obtain rfl := Option.some.inj H
 go_enter Try.func76, Try.ntmps76
 go_wp2_with (first | ((with_reducible refine gate_callee (f := 71) rfl ?_); refine goesL_ (some 10) rfl rfl Try.func71 (by kernel_rfl) rfl #[.agg #[.string (⟨#[]⟩ : ByteArray), .int .i64 0], .int .i64 0, .slice none 0 0] rfl (by (try simp only [List.map_toArray, List.map_cons, List.map_nil]); first | done | rfl | (simp only [List.length_drop, List.length_take]; rfl)) ?_; (refine (gaps_Put.calls (⟨#[]⟩ : ByteArray) 0 0 _ _ ([] : List Int) t1007 t1008 t1009 _ ?side1 ?side2 A1.out).mono ?_); (case side1 => exact Kd.C_nil _ _); (case side2 => exact Nat.le_refl _); rintro e w13 ⟨rfl, hb⟩; refine ⟨_, rfl, ?_⟩; have n0_ := ak (below_step (ul HB.out) hb); clear HB; have HB := n0_; clear n0_; (try clear hb); (try clear hb2); (try clear hk); (try clear hi)) | ((with_reducible refine gate_dst (N := 1) rfl ?_); (try (refine gate_guard (by rfl) ?_; dsimp only)); refine box_event ?hg (N := 1) ?hd (cs := #[.string (⟨#[]⟩ : ByteArray), .int .i64 0]) (t := 27) ?hr ?_; (case hd => rfl); (case hg => rfl); (case hr => first | (go_simp; done) | (go_simp; rfl)); intro gb1010 hg w14 hbox hb; have n0_ := ak (below_step (ul HB.out) hb); have n1_ := ak (hbox); have n2_ := ak ((by rw [hg]; exact (below_size (ul HB.out)) : w.heap.size ≤ gb1010)); have n3_ := ak ((by rw [hg]; exact (below_size (ul HB.out)) : w.heap.size ≤ gb1010)); clear HB; have HB := n0_; have BK1010 := n1_; have GW1010 := n2_; have GE1010 := n3_; clear n0_ n1_ n2_ n3_; clear hb hbox hg; have hcz15_0 : w14.cell? ⟨gb1010, 0, none⟩ = some (.string (⟨#[]⟩ : ByteArray)) := (blk_cell BK1010.out 0).trans rfl; have hcz15_1 : w14.cell? ⟨gb1010, 1, none⟩ = some (.int .i64 0) := (blk_cell BK1010.out 1).trans rfl; have hfz15_0 := blk_frozen BK1010.out 0; have hfz15_1 := blk_frozen BK1010.out 1) | ((with_reducible refine gate_callee (f := 73) rfl ?_); refine goesL_ (some 15) rfl rfl Try.func73 (by kernel_rfl) rfl #[.agg #[.string t1007, .int .i64 t1008], .int .i64 0, .int .i64 0] rfl (by (try simp only [List.map_toArray, List.map_cons, List.map_nil]); first | done | rfl | (simp only [List.length_drop, List.length_take]; rfl)) ?_; (with_reducible refine (gaps_Take.calls k t1007 t1008 0 0 t1011 t1014 t1015 _ A2.out).mono ?_); rintro e w16 ⟨v1012, rfl, ho0, hb⟩; refine ⟨_, rfl, ?_⟩; have n0_ := ak (Kd.R_lower ho0 (below_size (by repeat with_reducible first | exact HB.out | apply b1 | apply b2 | apply b3 | refine b4 ?_ GE1010.out))); have n1_ := ak (blk_below (g := gb1010) (o := .cells #[.string t1007, .int .i64 t1008] 27 (0, 0)) (by (with_reducible repeat (first | refine blk_drewN ?_ _ | refine blk_drew ?_ | refine blk_alloc ?_ _)); refine blk_put (cs := #[.string t1007, .int .i64 0]) ?_ 1 _ rfl; (with_reducible repeat (first | refine blk_drewN ?_ _ | refine blk_drew ?_ | refine blk_alloc ?_ _)); refine blk_put (cs := #[.string (⟨#[]⟩ : ByteArray), .int .i64 0]) ?_ 0 _ rfl; (with_reducible repeat (first | refine blk_drewN ?_ _ | refine blk_drew ?_ | refine blk_alloc ?_ _)); exact BK1010.out) hb); have n2_ := ak (below_step (by repeat with_reducible first | exact HB.out | apply b1 | apply b2 | apply b3 | refine b4 ?_ GE1010.out) hb); clear BK1010; clear HB; have HO1013 := n0_; have BK1010 := n1_; have HB := n2_; clear n0_ n1_ n2_; (try clear hb); (try clear hb2); (try clear hk); (try clear hi); (try clear ho0)) | ((with_reducible refine gate_dst (N := 20) rfl ?_); (try (refine gate_guard (by rfl) ?_; dsimp only)); refine Kd.R_lit (Kd.int .i64) _ 3 ?hg (N := 20) ?hd (xs := ([2, 3] : List Int)) (inner := [.int .i64 2, .int .i64 3]) (ok := fun _ => True) (okp := fun _ => True) ?hr ?hp (fun _ hk => hk) trivial (Below.refl _ _) (Nat.le_refl _) (by simp) ?_; (case hd => rfl); (case hg => rfl); (case hr => first | (go_simp; done) | (go_simp; rfl)); (case hp => exact (Reps.one (show Kd.M (Kd.int .i64) _ _ _ 2 [.int .i64 2] from rfl) (Reps.one (show Kd.M (Kd.int .i64) _ _ _ 3 [.int .i64 3] from rfl) (Reps.none _ _)))); intro v1017 w17 ho18 hb hg_ hnew_; clear hg_ hnew_; (first | rw [← Ny1016.out] at ho18 | (simp only [Int.reduceToNat] at ho18; rw [← Ny1016.out] at ho18)); have n0_ := ak (Kd.R_elder' (ur <| HO1013.out) (Kd.R_base ho18) hb); have n1_ := ak (Kd.R_lower (Kd.R_new' ho18 (Kd.R_lt (ur <| HO1013.out))) (below_size (by repeat with_reducible first | exact HB.out | apply b1 | apply b2 | apply b3 | refine b4 ?_ GE1010.out))); have n2_ := ak (blk_below (g := gb1010) (o := .cells #[.string t1007, .int .i64 t1008] 27 (0, 0)) (ub BK1010.out) hb); have n3_ := ak (below_step (by repeat with_reducible first | exact HB.out | apply b1 | apply b2 | apply b3 | refine b4 ?_ GE1010.out) hb); clear HO1013; clear BK1010; clear HB; have HO1013 := n0_; have HO1018 := n1_; have BK1010 := n2_; have HB := n3_; clear n0_ n1_ n2_ n3_; clear hb ho18; obtain ⟨Ao19, co19, eo19⟩ := Kd.R_slice HO1018.out; subst eo19) | ((with_reducible refine gate_callee (f := 74) rfl ?_); refine goesL_ (some 21) rfl rfl Try.func74 (by kernel_rfl) rfl #[.int .i64 2, .slice Ao19 y1016.length co19] rfl (by (try simp only [List.map_toArray, List.map_cons, List.map_nil]); first | done | rfl | (simp only [List.length_drop, List.length_take]; rfl)) ?_; (with_reducible refine (gaps_Size.calls 2 _ _ y1016 t1019 t1020 _ ?side1 ?side2 A3.out).mono ?_); (case side1 => exact uc (Kd.R_reads' HO1018.out).2.2); (case side2 => exact (Kd.R_reads' HO1018.out).2.1); rintro e w20 ⟨rfl, hb⟩; refine ⟨_, rfl, ?_⟩; have n0_ := ak (Kd.R_below (ur <| HO1013.out) hb); have n1_ := ak (Kd.R_below (ur <| HO1018.out) hb); have n2_ := ak (blk_below (g := gb1010) (o := .cells #[.string t1007, .int .i64 t1008] 27 (0, 0)) (ub BK1010.out) hb); have n3_ := ak (below_step (by repeat with_reducible first | exact HB.out | apply b1 | apply b2 | apply b3 | refine b4 ?_ GE1010.out) hb); clear HO1013; clear HO1018; clear BK1010; clear HB; have HO1013 := n0_; have HO1018 := n1_; have BK1010 := n2_; have HB := n3_; clear n0_ n1_ n2_ n3_; (try clear hb); (try clear hb2); (try clear hk); (try clear hi)) | ((with_reducible refine gate_callee (f := 72) rfl ?_); refine goesL_ (some 25) rfl rfl Try.func72 (by kernel_rfl) rfl #[.int .i64 t1009] rfl (by (try simp only [List.map_toArray, List.map_cons, List.map_nil]); first | done | rfl | (simp only [List.length_drop, List.length_take]; rfl)) ?_; (with_reducible refine (herbariumlaw3_num.calls t1009 t1021 _ A4.out).mono ?_); rintro e w' ⟨rfl, ⟨nd, rfl⟩⟩; refine ⟨_, rfl, ?_⟩) | (go_at_call 72; (with_reducible refine (herbariumlaw3_num.calls t1015 t1022 _ A6.out).mono ?_); rintro e w' ⟨rfl, ⟨nd, rfl⟩⟩) | (go_at_call 72; (with_reducible refine (herbariumlaw3_num.calls t1020 t1023 _ A8.out).mono ?_); rintro e w' ⟨rfl, ⟨nd, rfl⟩⟩; have hcz21_0 : w20.cell? ⟨gb1010, 0, none⟩ = some (.string t1007) := (blk_cell BK1010.out 0).trans rfl; have hcz21_1 : w20.cell? ⟨gb1010, 1, none⟩ = some (.int .i64 t1008) := (blk_cell BK1010.out 1).trans rfl; have hfz21_0 := blk_frozen BK1010.out 0; have hfz21_1 := blk_frozen BK1010.out 1; obtain ⟨Ao22, co22, eo22⟩ := Kd.R_slice HO1013.out; subst eo22))
 go_ret
 exact ⟨by first | rfl | (simp [errW_none, errW_some] <;> rfl) | (simp [*, errW_none, errW_some] <;> rfl), by repeat with_reducible first | exact HB.out | apply b1 | apply b2 | apply b3 | refine b4 ?_ GE1010.out⟩
end Go.Proofs.Ytnpghcikhpglkaa.Q
