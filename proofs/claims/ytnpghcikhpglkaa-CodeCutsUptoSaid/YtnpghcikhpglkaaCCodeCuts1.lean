/- What the row of CodeCuts rests on, part 2 of 3: functions, contracts, plain laws. -/
import Derived.Test.YtnpghcikhpglkaaCCodeCuts0
namespace Go.Proofs.Ytnpghcikhpglkaa.Q
open Go.RowKit Go.Proofs.YtnpghcikhpglkaaW.PrintWords Go.Proofs.YtnpghcikhpglkaaW.PrintLast Go.Proofs.YtnpghcikhpglkaaW.PrintMore Go.Proofs.Ytnpghcikhpglkaa.Hand Go.Proofs.Ytnpghcikhpglkaa.Pu
set_option linter.unusedVariables false
set_option linter.unusedSimpArgs false

theorem read_below {W w3 : World} {p : Nat} {s : ByteArray} {n a : Int} {b : Bool} (h : ReadIs W p s n a b) (hb : Below W.heap.size W w3) : ReadIs w3 p s n a b := keep2 h hb (blk_lt h)
theorem read_drew {W : World} {p : Nat} {s : ByteArray} {n a : Int} {b : Bool} (h : ReadIs W p s n a b) : ReadIs W.drew p s n a b := h
theorem below_dr {W w w4 : World} {base : Nat} (h : Below base W w) (hb : Below base w.drew w4) : Below base W w4 := (show Below base W w.drew from ⟨h.os, h.tape, h.output, h.size, h.block⟩).trans hb
def rd_gamma (k : Nat) (s : ByteArray) (n a : Int) (bad : Bool) : Option (Int × Int × Bool) :=
  (rd_zeros k s n a bad 30).bind fun z => if 0 ≤ z.1 ∧ z.1 ≤ 10000 then rd_look k s n z.2.1 z.2.2 (z.1 + 1) else none
def rd_unary (k : Nat) (s : ByteArray) (n a : Int) (bad : Bool) (most : Int) : Option (Int × Int × Bool) :=
  if 1 ≤ most ∧ most ≤ 10000 then (rd_zeros k s n a bad (most - 1)).bind fun z => if 0 ≤ z.1 ∧ z.1 ≤ 10000 then (rd_look k s n z.2.1 z.2.2 1).bind fun l => some (z.1 + 1, l.2.1, l.2.2) else none else none
theorem rd_gamma.calls (W : World) (base p k : Nat) (s : ByteArray) (n a : Int) (bad : Bool) (r a' : Int) (bad' : Bool) (hrd : ReadIs W p s n a bad) (hbase : base ≤ p) (h : rd_gamma k s n a bad = some (r, a', bad')) :
    Calls Try.prog 121 #[.pointer (some ⟨p, 0, none⟩)] W fun e w' => e = .returned (.int .i64 r) ∧ ReadIs w' p s n a' bad' ∧ Below base W w' := by
  unfold rd_gamma at h
  obtain ⟨⟨z, a1, b1⟩, h1, h2⟩ := Option.bind_eq_some_iff.1 h
  split at h2
  · rename_i hc
    exact gamma_walk W base p k s n a bad z a1 b1 r a' bad' hrd hbase hc.1 hc.2 h1 h2
  · cases h2
theorem rd_unary.calls (W : World) (base p k : Nat) (s : ByteArray) (n a : Int) (bad : Bool) (most r a' : Int) (bad' : Bool) (hrd : ReadIs W p s n a bad) (hbase : base ≤ p) (h : rd_unary k s n a bad most = some (r, a', bad')) :
    Calls Try.prog 120 #[.pointer (some ⟨p, 0, none⟩), .int .i64 most] W fun e w' => e = .returned (.int .i64 r) ∧ ReadIs w' p s n a' bad' ∧ Below base W w' := by
  unfold rd_unary at h
  split at h
  · rename_i hm
    obtain ⟨⟨z, a1, b1⟩, h1, h2⟩ := Option.bind_eq_some_iff.1 h
    split at h2
    · rename_i hc
      obtain ⟨⟨l, a2, b2⟩, h3, h4⟩ := Option.bind_eq_some_iff.1 h2
      simp only [Option.some.injEq, Prod.mk.injEq] at h4
      obtain ⟨rfl, rfl, rfl⟩ := h4
      exact unary_walk W base p k s n a bad most z a1 b1 l a2 b2 hrd hbase hm.1 hm.2 hc.1 hc.2 h1 h3
    · cases h2
  · cases h
set_option maxHeartbeats 4000000 in
set_option maxRecDepth 100000 in
theorem delta_bad1 (W : World) (base p k : Nat) (s : ByteArray) (n a : Int) (bad : Bool) (g a1 : Int) (hrd : ReadIs W p s n a bad) (hbase : base ≤ p) (hg : rd_gamma k s n a bad = some (g, a1, true))  :
    Calls Try.prog 122 #[.pointer (some ⟨p, 0, none⟩)] W fun e w' => e = .returned (.int .i64 0) ∧ ReadIs w' p s n a1 true ∧ Below base W w' := by
  have hu5 := Try.underlying125
  have HRD := Aside0.mk hrd
  have HBASE := Aside0.mk hbase
  have HB := Aside0.mk (Below.refl base W)
  clear hrd hbase
  have HG := Aside0.mk hg
  clear hg
  go_enter Try.func122, Try.ntmps122
  go_wp2_with (first | (go_at_call 121; ((with_reducible refine (rd_gamma.calls _ base p k s n a bad g a1 true HRD.out HBASE.out HG.out).mono ?_); rintro e w3 ⟨rfl, hr3, hb3⟩); have HRD3 := Aside0.mk hr3; have HB3 := Aside0.mk (HB.out.trans hb3); clear hr3 hb3 HRD HB; have HRD := HRD3; have HB := HB3; clear HRD3 HB3; (try clear c0 c1 c2 c3 f0 f1 f2 f3); obtain ⟨c0, c1, c2, c3, f0, f1, f2, f3⟩ := four_cells HRD.out))
  go_ret
  exact ⟨rfl, read_bad HRD.out, HB.out.setCell (p := ⟨p, 3, none⟩) HBASE.out _⟩
set_option maxHeartbeats 4000000 in
set_option maxRecDepth 100000 in
theorem delta_bad2 (W : World) (base p k : Nat) (s : ByteArray) (n a : Int) (bad : Bool) (g a1 : Int) (hrd : ReadIs W p s n a bad) (hbase : base ≤ p) (hg : rd_gamma k s n a bad = some (g, a1, false)) (hg2 : 30 < g - 1) (hg3 : g ≤ 4611686018427387904) :
    Calls Try.prog 122 #[.pointer (some ⟨p, 0, none⟩)] W fun e w' => e = .returned (.int .i64 0) ∧ ReadIs w' p s n a1 true ∧ Below base W w' := by
  have hu5 := Try.underlying125
  have HRD := Aside0.mk hrd
  have HBASE := Aside0.mk hbase
  have HB := Aside0.mk (Below.refl base W)
  clear hrd hbase
  have HG := Aside0.mk hg
  clear hg
  go_enter Try.func122, Try.ntmps122
  go_wp2_with (first | (go_at_call 121; ((with_reducible refine (rd_gamma.calls _ base p k s n a bad g a1 false HRD.out HBASE.out HG.out).mono ?_); rintro e w3 ⟨rfl, hr3, hb3⟩); have HRD3 := Aside0.mk hr3; have HB3 := Aside0.mk (HB.out.trans hb3); clear hr3 hb3 HRD HB; have HRD := HRD3; have HB := HB3; clear HRD3 HB3; (try clear c0 c1 c2 c3 f0 f1 f2 f3); obtain ⟨c0, c1, c2, c3, f0, f1, f2, f3⟩ := four_cells HRD.out))
  go_ret
  exact ⟨rfl, read_bad HRD.out, HB.out.setCell (p := ⟨p, 3, none⟩) HBASE.out _⟩
set_option maxHeartbeats 4000000 in
set_option maxRecDepth 100000 in
theorem delta_ok (W : World) (base p k : Nat) (s : ByteArray) (n a : Int) (bad : Bool) (g a1 : Int) (l a2 : Int) (b2 : Bool) (hrd : ReadIs W p s n a bad) (hbase : base ≤ p) (hg : rd_gamma k s n a bad = some (g, a1, false)) (hg0 : 0 ≤ g - 1) (hg1 : g - 1 ≤ 30)
    (hl : rd_look k s n a1 false (g - 1) = some (l, a2, b2)) :
    Calls Try.prog 122 #[.pointer (some ⟨p, 0, none⟩)] W fun e w' => e = .returned (.int .i64 (Go.bits .or .i64 (IntKind.i64.wrap (2 ^ (g.toNat - 1))) l)) ∧ ReadIs w' p s n a2 b2 ∧ Below base W w' := by
  have hu5 := Try.underlying125
  have HRD := Aside0.mk hrd
  have HBASE := Aside0.mk hbase
  have HB := Aside0.mk (Below.refl base W)
  clear hrd hbase
  have HG := Aside0.mk hg
  have HL := Aside0.mk hl
  clear hg hl
  go_enter Try.func122, Try.ntmps122
  go_wp2_with (first | (go_at_call 121; ((with_reducible refine (rd_gamma.calls _ base p k s n a bad g a1 false HRD.out HBASE.out HG.out).mono ?_); rintro e w3 ⟨rfl, hr3, hb3⟩); have HRD3 := Aside0.mk hr3; have HB3 := Aside0.mk (HB.out.trans hb3); clear hr3 hb3 HRD HB; have HRD := HRD3; have HB := HB3; clear HRD3 HB3; (try clear c0 c1 c2 c3 f0 f1 f2 f3); obtain ⟨c0, c1, c2, c3, f0, f1, f2, f3⟩ := four_cells HRD.out))
  go_region_held3 (fun _ => True) (trivial) (first | (go_at_call 127; ((with_reducible refine (rd_look.calls _ base p k s n a1 false (g - 1) l a2 b2 (read_drew HRD.out) HBASE.out HL.out).mono ?_); rintro e w4 ⟨rfl, hr4, hb4⟩); have HRD4 := Aside0.mk hr4; have HB4 := Aside0.mk (below_dr HB.out hb4); clear hr4 hb4))
  all_goals go_wp2
  all_goals go_ret
  all_goals exact ⟨by first | rfl | simp, HRD4.out, HB4.out⟩
set_option maxHeartbeats 4000000 in
set_option maxRecDepth 100000 in
theorem zeta2_bad (W : World) (base p k : Nat) (s : ByteArray) (n a : Int) (bad : Bool) (h a1 : Int) (hrd : ReadIs W p s n a bad) (hbase : base ≤ p) (hh : rd_unary k s n a bad 16 = some (h, a1, true)) :
    Calls Try.prog 123 #[.pointer (some ⟨p, 0, none⟩), .int .i64 2] W fun e w' => e = .returned (.int .i64 0) ∧ ReadIs w' p s n a1 true ∧ Below base W w' := by
  have hu5 := Try.underlying125
  have HRD := Aside0.mk hrd
  have HBASE := Aside0.mk hbase
  have HB := Aside0.mk (Below.refl base W)
  clear hrd hbase
  have HH := Aside0.mk hh
  clear hh
  go_enter Try.func123, Try.ntmps123
  go_wp2_with (first | (go_at_call 120; ((with_reducible refine (rd_unary.calls _ base p k s n a bad 16 h a1 true HRD.out HBASE.out HH.out).mono ?_); rintro e w3 ⟨rfl, hr3, hb3⟩); have HRD3 := Aside0.mk hr3; have HB3 := Aside0.mk (HB.out.trans hb3); clear hr3 hb3 HRD HB; have HRD := HRD3; have HB := HB3; clear HRD3 HB3; (try clear c0 c1 c2 c3 f0 f1 f2 f3); obtain ⟨c0, c1, c2, c3, f0, f1, f2, f3⟩ := four_cells HRD.out))
  go_ret
  exact ⟨by first | rfl | simp, HRD.out, HB.out⟩
set_option maxHeartbeats 4000000 in
set_option maxRecDepth 100000 in
theorem zeta2_short (W : World) (base p k : Nat) (s : ByteArray) (n a : Int) (bad : Bool) (h a1 low many size short z a2 : Int) (b2 : Bool) (hrd : ReadIs W p s n a bad) (hbase : base ≤ p) (hh : rd_unary k s n a bad 16 = some (h, a1, false)) (hh0 : 1 ≤ h) (hh1 : h ≤ 100)
    (hz : code_zeta.f 2 (h - 1) = some (low, many, size, short)) (hlow0 : 0 ≤ low) (hlow : low ≤ 4294967296) (hs0 : 1 ≤ size) (hs1 : size ≤ 64) (hsh0 : 0 ≤ short) (hsh1 : short ≤ 4294967296) (hl : rd_look k s n a1 false (size - 1) = some (z, a2, b2)) (hz0 : 0 ≤ z) (hz1 : z ≤ 4294967296) (hzs : z < short) :
    Calls Try.prog 123 #[.pointer (some ⟨p, 0, none⟩), .int .i64 2] W fun e w' => e = .returned (.int .i64 (low + z)) ∧ ReadIs w' p s n a2 b2 ∧ Below base W w' := by
  have hu5 := Try.underlying125
  have HRD := Aside0.mk hrd
  have HBASE := Aside0.mk hbase
  have HB := Aside0.mk (Below.refl base W)
  clear hrd hbase
  have HH := Aside0.mk hh
  have HZ := Aside0.mk hz
  have HL := Aside0.mk hl
  clear hh hz hl
  go_enter Try.func123, Try.ntmps123
  go_wp2_with (first | (go_at_call 120; ((with_reducible refine (rd_unary.calls _ base p k s n a bad 16 h a1 false HRD.out HBASE.out HH.out).mono ?_); rintro e w3 ⟨rfl, hr3, hb3⟩); have HRD3 := Aside0.mk hr3; have HB3 := Aside0.mk (HB.out.trans hb3); clear hr3 hb3 HRD HB; have HRD := HRD3; have HB := HB3; clear HRD3 HB3; (try clear c0 c1 c2 c3 f0 f1 f2 f3); obtain ⟨c0, c1, c2, c3, f0, f1, f2, f3⟩ := four_cells HRD.out) | (go_at_call 119; (with_reducible refine (code_zeta.calls 2 (h - 1) low many size short _ HZ.out).mono ?_); rintro e w3 ⟨rfl, hd3⟩; have HRD3 := Aside0.mk (read_below HRD.out hd3.below); have HB3 := Aside0.mk (below_then HB.out (Nat.le_of_lt (Nat.lt_of_le_of_lt HBASE.out (blk_lt HRD.out))) hd3.below); clear hd3 HRD HB; have HRD := HRD3; have HB := HB3; clear HRD3 HB3; (try clear c0 c1 c2 c3 f0 f1 f2 f3); obtain ⟨c0, c1, c2, c3, f0, f1, f2, f3⟩ := four_cells HRD.out) | (go_at_call 127; ((with_reducible refine (rd_look.calls _ base p k s n a1 false (size - 1) z a2 b2 HRD.out HBASE.out HL.out).mono ?_); rintro e w3 ⟨rfl, hr3, hb3⟩); have HRD3 := Aside0.mk hr3; have HB3 := Aside0.mk (HB.out.trans hb3); clear hr3 hb3 HRD HB; have HRD := HRD3; have HB := HB3; clear HRD3 HB3; (try clear c0 c1 c2 c3 f0 f1 f2 f3); obtain ⟨c0, c1, c2, c3, f0, f1, f2, f3⟩ := four_cells HRD.out))
  go_ret
  exact ⟨by first | rfl | simp, HRD.out, HB.out⟩
set_option maxHeartbeats 4000000 in
set_option maxRecDepth 100000 in
theorem zeta2_long (W : World) (base p k : Nat) (s : ByteArray) (n a : Int) (bad : Bool) (h a1 low many size short z a2 : Int) (b2 : Bool) (hrd : ReadIs W p s n a bad) (hbase : base ≤ p) (hh : rd_unary k s n a bad 16 = some (h, a1, false)) (hh0 : 1 ≤ h) (hh1 : h ≤ 100)
    (hz : code_zeta.f 2 (h - 1) = some (low, many, size, short)) (hlow0 : 0 ≤ low) (hlow : low ≤ 4294967296) (hs0 : 1 ≤ size) (hs1 : size ≤ 64) (hsh0 : 0 ≤ short) (hsh1 : short ≤ 4294967296) (hl : rd_look k s n a1 false (size - 1) = some (z, a2, b2)) (hz0 : 0 ≤ z) (hz1 : z ≤ 4294967296) (hzs : short ≤ z) (y a3 : Int) (b3 : Bool) (hy : rd_look k s n a2 b2 1 = some (y, a3, b3)) (hy0 : 0 ≤ y) (hy1 : y ≤ 1) :
    Calls Try.prog 123 #[.pointer (some ⟨p, 0, none⟩), .int .i64 2] W fun e w' => e = .returned (.int .i64 (low + (z * 2 + y - short))) ∧ ReadIs w' p s n a3 b3 ∧ Below base W w' := by
  have hu5 := Try.underlying125
  have HRD := Aside0.mk hrd
  have HBASE := Aside0.mk hbase
  have HB := Aside0.mk (Below.refl base W)
  clear hrd hbase
  have HH := Aside0.mk hh
  have HZ := Aside0.mk hz
  have HL := Aside0.mk hl
  clear hh hz hl
  have HY := Aside0.mk hy
  clear hy
  go_enter Try.func123, Try.ntmps123
  go_wp2_with (first | (go_at_call 120; ((with_reducible refine (rd_unary.calls _ base p k s n a bad 16 h a1 false HRD.out HBASE.out HH.out).mono ?_); rintro e w3 ⟨rfl, hr3, hb3⟩); have HRD3 := Aside0.mk hr3; have HB3 := Aside0.mk (HB.out.trans hb3); clear hr3 hb3 HRD HB; have HRD := HRD3; have HB := HB3; clear HRD3 HB3; (try clear c0 c1 c2 c3 f0 f1 f2 f3); obtain ⟨c0, c1, c2, c3, f0, f1, f2, f3⟩ := four_cells HRD.out) | (go_at_call 119; (with_reducible refine (code_zeta.calls 2 (h - 1) low many size short _ HZ.out).mono ?_); rintro e w3 ⟨rfl, hd3⟩; have HRD3 := Aside0.mk (read_below HRD.out hd3.below); have HB3 := Aside0.mk (below_then HB.out (Nat.le_of_lt (Nat.lt_of_le_of_lt HBASE.out (blk_lt HRD.out))) hd3.below); clear hd3 HRD HB; have HRD := HRD3; have HB := HB3; clear HRD3 HB3; (try clear c0 c1 c2 c3 f0 f1 f2 f3); obtain ⟨c0, c1, c2, c3, f0, f1, f2, f3⟩ := four_cells HRD.out) | (go_at_call 127; ((with_reducible refine (rd_look.calls _ base p k s n a1 false (size - 1) z a2 b2 HRD.out HBASE.out HL.out).mono ?_); rintro e w3 ⟨rfl, hr3, hb3⟩); have HRD3 := Aside0.mk hr3; have HB3 := Aside0.mk (HB.out.trans hb3); clear hr3 hb3 HRD HB; have HRD := HRD3; have HB := HB3; clear HRD3 HB3; (try clear c0 c1 c2 c3 f0 f1 f2 f3); obtain ⟨c0, c1, c2, c3, f0, f1, f2, f3⟩ := four_cells HRD.out) | (go_at_call 127; ((with_reducible refine (rd_look.calls _ base p k s n a2 b2 1 y a3 b3 HRD.out HBASE.out HY.out).mono ?_); rintro e w3 ⟨rfl, hr3, hb3⟩); have HRD3 := Aside0.mk hr3; have HB3 := Aside0.mk (HB.out.trans hb3); clear hr3 hb3 HRD HB; have HRD := HRD3; have HB := HB3; clear HRD3 HB3; (try clear c0 c1 c2 c3 f0 f1 f2 f3); obtain ⟨c0, c1, c2, c3, f0, f1, f2, f3⟩ := four_cells HRD.out))
  go_ret
  exact ⟨by first | rfl | simp, HRD.out, HB.out⟩
set_option maxHeartbeats 4000000 in
set_option maxRecDepth 100000 in
theorem zeta3_bad (W : World) (base p k : Nat) (s : ByteArray) (n a : Int) (bad : Bool) (h a1 : Int) (hrd : ReadIs W p s n a bad) (hbase : base ≤ p) (hh : rd_unary k s n a bad 11 = some (h, a1, true)) :
    Calls Try.prog 123 #[.pointer (some ⟨p, 0, none⟩), .int .i64 3] W fun e w' => e = .returned (.int .i64 0) ∧ ReadIs w' p s n a1 true ∧ Below base W w' := by
  have hu5 := Try.underlying125
  have HRD := Aside0.mk hrd
  have HBASE := Aside0.mk hbase
  have HB := Aside0.mk (Below.refl base W)
  clear hrd hbase
  have HH := Aside0.mk hh
  clear hh
  go_enter Try.func123, Try.ntmps123
  go_wp2_with (first | (go_at_call 120; ((with_reducible refine (rd_unary.calls _ base p k s n a bad 11 h a1 true HRD.out HBASE.out HH.out).mono ?_); rintro e w3 ⟨rfl, hr3, hb3⟩); have HRD3 := Aside0.mk hr3; have HB3 := Aside0.mk (HB.out.trans hb3); clear hr3 hb3 HRD HB; have HRD := HRD3; have HB := HB3; clear HRD3 HB3; (try clear c0 c1 c2 c3 f0 f1 f2 f3); obtain ⟨c0, c1, c2, c3, f0, f1, f2, f3⟩ := four_cells HRD.out))
  go_ret
  exact ⟨by first | rfl | simp, HRD.out, HB.out⟩
set_option maxHeartbeats 4000000 in
set_option maxRecDepth 100000 in
theorem zeta3_short (W : World) (base p k : Nat) (s : ByteArray) (n a : Int) (bad : Bool) (h a1 low many size short z a2 : Int) (b2 : Bool) (hrd : ReadIs W p s n a bad) (hbase : base ≤ p) (hh : rd_unary k s n a bad 11 = some (h, a1, false)) (hh0 : 1 ≤ h) (hh1 : h ≤ 100)
    (hz : code_zeta.f 3 (h - 1) = some (low, many, size, short)) (hlow0 : 0 ≤ low) (hlow : low ≤ 4294967296) (hs0 : 1 ≤ size) (hs1 : size ≤ 64) (hsh0 : 0 ≤ short) (hsh1 : short ≤ 4294967296) (hl : rd_look k s n a1 false (size - 1) = some (z, a2, b2)) (hz0 : 0 ≤ z) (hz1 : z ≤ 4294967296) (hzs : z < short) :
    Calls Try.prog 123 #[.pointer (some ⟨p, 0, none⟩), .int .i64 3] W fun e w' => e = .returned (.int .i64 (low + z)) ∧ ReadIs w' p s n a2 b2 ∧ Below base W w' := by
  have hu5 := Try.underlying125
  have HRD := Aside0.mk hrd
  have HBASE := Aside0.mk hbase
  have HB := Aside0.mk (Below.refl base W)
  clear hrd hbase
  have HH := Aside0.mk hh
  have HZ := Aside0.mk hz
  have HL := Aside0.mk hl
  clear hh hz hl
  go_enter Try.func123, Try.ntmps123
  go_wp2_with (first | (go_at_call 120; ((with_reducible refine (rd_unary.calls _ base p k s n a bad 11 h a1 false HRD.out HBASE.out HH.out).mono ?_); rintro e w3 ⟨rfl, hr3, hb3⟩); have HRD3 := Aside0.mk hr3; have HB3 := Aside0.mk (HB.out.trans hb3); clear hr3 hb3 HRD HB; have HRD := HRD3; have HB := HB3; clear HRD3 HB3; (try clear c0 c1 c2 c3 f0 f1 f2 f3); obtain ⟨c0, c1, c2, c3, f0, f1, f2, f3⟩ := four_cells HRD.out) | (go_at_call 119; (with_reducible refine (code_zeta.calls 3 (h - 1) low many size short _ HZ.out).mono ?_); rintro e w3 ⟨rfl, hd3⟩; have HRD3 := Aside0.mk (read_below HRD.out hd3.below); have HB3 := Aside0.mk (below_then HB.out (Nat.le_of_lt (Nat.lt_of_le_of_lt HBASE.out (blk_lt HRD.out))) hd3.below); clear hd3 HRD HB; have HRD := HRD3; have HB := HB3; clear HRD3 HB3; (try clear c0 c1 c2 c3 f0 f1 f2 f3); obtain ⟨c0, c1, c2, c3, f0, f1, f2, f3⟩ := four_cells HRD.out) | (go_at_call 127; ((with_reducible refine (rd_look.calls _ base p k s n a1 false (size - 1) z a2 b2 HRD.out HBASE.out HL.out).mono ?_); rintro e w3 ⟨rfl, hr3, hb3⟩); have HRD3 := Aside0.mk hr3; have HB3 := Aside0.mk (HB.out.trans hb3); clear hr3 hb3 HRD HB; have HRD := HRD3; have HB := HB3; clear HRD3 HB3; (try clear c0 c1 c2 c3 f0 f1 f2 f3); obtain ⟨c0, c1, c2, c3, f0, f1, f2, f3⟩ := four_cells HRD.out))
  go_ret
  exact ⟨by first | rfl | simp, HRD.out, HB.out⟩
set_option maxHeartbeats 4000000 in
set_option maxRecDepth 100000 in
theorem zeta3_long (W : World) (base p k : Nat) (s : ByteArray) (n a : Int) (bad : Bool) (h a1 low many size short z a2 : Int) (b2 : Bool) (hrd : ReadIs W p s n a bad) (hbase : base ≤ p) (hh : rd_unary k s n a bad 11 = some (h, a1, false)) (hh0 : 1 ≤ h) (hh1 : h ≤ 100)
    (hz : code_zeta.f 3 (h - 1) = some (low, many, size, short)) (hlow0 : 0 ≤ low) (hlow : low ≤ 4294967296) (hs0 : 1 ≤ size) (hs1 : size ≤ 64) (hsh0 : 0 ≤ short) (hsh1 : short ≤ 4294967296) (hl : rd_look k s n a1 false (size - 1) = some (z, a2, b2)) (hz0 : 0 ≤ z) (hz1 : z ≤ 4294967296) (hzs : short ≤ z) (y a3 : Int) (b3 : Bool) (hy : rd_look k s n a2 b2 1 = some (y, a3, b3)) (hy0 : 0 ≤ y) (hy1 : y ≤ 1) :
    Calls Try.prog 123 #[.pointer (some ⟨p, 0, none⟩), .int .i64 3] W fun e w' => e = .returned (.int .i64 (low + (z * 2 + y - short))) ∧ ReadIs w' p s n a3 b3 ∧ Below base W w' := by
  have hu5 := Try.underlying125
  have HRD := Aside0.mk hrd
  have HBASE := Aside0.mk hbase
  have HB := Aside0.mk (Below.refl base W)
  clear hrd hbase
  have HH := Aside0.mk hh
  have HZ := Aside0.mk hz
  have HL := Aside0.mk hl
  clear hh hz hl
  have HY := Aside0.mk hy
  clear hy
  go_enter Try.func123, Try.ntmps123
  go_wp2_with (first | (go_at_call 120; ((with_reducible refine (rd_unary.calls _ base p k s n a bad 11 h a1 false HRD.out HBASE.out HH.out).mono ?_); rintro e w3 ⟨rfl, hr3, hb3⟩); have HRD3 := Aside0.mk hr3; have HB3 := Aside0.mk (HB.out.trans hb3); clear hr3 hb3 HRD HB; have HRD := HRD3; have HB := HB3; clear HRD3 HB3; (try clear c0 c1 c2 c3 f0 f1 f2 f3); obtain ⟨c0, c1, c2, c3, f0, f1, f2, f3⟩ := four_cells HRD.out) | (go_at_call 119; (with_reducible refine (code_zeta.calls 3 (h - 1) low many size short _ HZ.out).mono ?_); rintro e w3 ⟨rfl, hd3⟩; have HRD3 := Aside0.mk (read_below HRD.out hd3.below); have HB3 := Aside0.mk (below_then HB.out (Nat.le_of_lt (Nat.lt_of_le_of_lt HBASE.out (blk_lt HRD.out))) hd3.below); clear hd3 HRD HB; have HRD := HRD3; have HB := HB3; clear HRD3 HB3; (try clear c0 c1 c2 c3 f0 f1 f2 f3); obtain ⟨c0, c1, c2, c3, f0, f1, f2, f3⟩ := four_cells HRD.out) | (go_at_call 127; ((with_reducible refine (rd_look.calls _ base p k s n a1 false (size - 1) z a2 b2 HRD.out HBASE.out HL.out).mono ?_); rintro e w3 ⟨rfl, hr3, hb3⟩); have HRD3 := Aside0.mk hr3; have HB3 := Aside0.mk (HB.out.trans hb3); clear hr3 hb3 HRD HB; have HRD := HRD3; have HB := HB3; clear HRD3 HB3; (try clear c0 c1 c2 c3 f0 f1 f2 f3); obtain ⟨c0, c1, c2, c3, f0, f1, f2, f3⟩ := four_cells HRD.out) | (go_at_call 127; ((with_reducible refine (rd_look.calls _ base p k s n a2 b2 1 y a3 b3 HRD.out HBASE.out HY.out).mono ?_); rintro e w3 ⟨rfl, hr3, hb3⟩); have HRD3 := Aside0.mk hr3; have HB3 := Aside0.mk (HB.out.trans hb3); clear hr3 hb3 HRD HB; have HRD := HRD3; have HB := HB3; clear HRD3 HB3; (try clear c0 c1 c2 c3 f0 f1 f2 f3); obtain ⟨c0, c1, c2, c3, f0, f1, f2, f3⟩ := four_cells HRD.out))
  go_ret
  exact ⟨by first | rfl | simp, HRD.out, HB.out⟩
end Go.Proofs.Ytnpghcikhpglkaa.Q
namespace Go.Proofs.Ytnpghcikhpglkaa.Q
open Go.RowKit Go.Proofs.YtnpghcikhpglkaaW.PrintWords Go.Proofs.YtnpghcikhpglkaaW.PrintLast Go.Proofs.YtnpghcikhpglkaaW.PrintMore Go.Proofs.Ytnpghcikhpglkaa.Hand Go.Proofs.Ytnpghcikhpglkaa.Pu
set_option linter.unusedVariables false
set_option linter.unusedSimpArgs false

def rd_delta (k : Nat) (s : ByteArray) (n a : Int) (bad : Bool) : Option (Int × Int × Bool) :=
  (rd_gamma k s n a bad).bind fun g => if g.2.2 = true then some (0, g.2.1, true) else if 30 < g.1 - 1 then (if g.1 ≤ 4611686018427387904 then some (0, g.2.1, true) else none) else if 0 ≤ g.1 - 1 then
    (rd_look k s n g.2.1 false (g.1 - 1)).bind fun l => some (Go.bits .or .i64 (IntKind.i64.wrap (2 ^ (g.1.toNat - 1))) l.1, l.2.1, l.2.2) else none
def rd_zeta (kk most : Int) (k : Nat) (s : ByteArray) (n a : Int) (bad : Bool) : Option (Int × Int × Bool) :=
  (rd_unary k s n a bad most).bind fun u => if u.2.2 = true then some (0, u.2.1, true) else if 1 ≤ u.1 ∧ u.1 ≤ 100 then
    (code_zeta.f kk (u.1 - 1)).bind fun q => if 0 ≤ q.1 ∧ q.1 ≤ 4294967296 ∧ 1 ≤ q.2.2.1 ∧ q.2.2.1 ≤ 64 ∧ 0 ≤ q.2.2.2 ∧ q.2.2.2 ≤ 4294967296 then
      (rd_look k s n u.2.1 false (q.2.2.1 - 1)).bind fun z => if 0 ≤ z.1 ∧ z.1 ≤ 4294967296 then
        (if z.1 < q.2.2.2 then some (q.1 + z.1, z.2.1, z.2.2) else (rd_look k s n z.2.1 z.2.2 1).bind fun y => if 0 ≤ y.1 ∧ y.1 ≤ 1 then some (q.1 + (z.1 * 2 + y.1 - q.2.2.2), y.2.1, y.2.2) else none) else none
      else none
    else none
theorem rd_delta.calls (W : World) (base p k : Nat) (s : ByteArray) (n a : Int) (bad : Bool) (r a' : Int) (bad' : Bool) (hrd : ReadIs W p s n a bad) (hbase : base ≤ p) (h : rd_delta k s n a bad = some (r, a', bad')) :
    Calls Try.prog 122 #[.pointer (some ⟨p, 0, none⟩)] W fun e w' => e = .returned (.int .i64 r) ∧ ReadIs w' p s n a' bad' ∧ Below base W w' := by
  unfold rd_delta at h
  obtain ⟨⟨g, a1, b1⟩, h1, h2⟩ := Option.bind_eq_some_iff.1 h
  simp only at h2
  cases b1 with
  | true =>
    rw [if_pos rfl] at h2
    simp only [Option.some.injEq, Prod.mk.injEq] at h2
    obtain ⟨rfl, rfl, rfl⟩ := h2
    exact delta_bad1 W base p k s n a bad g a1 hrd hbase h1
  | false =>
    rw [if_neg (by simp)] at h2
    by_cases c1 : 30 < g - 1
    · rw [if_pos c1] at h2
      split at h2
      · rename_i c2
        simp only [Option.some.injEq, Prod.mk.injEq] at h2
        obtain ⟨rfl, rfl, rfl⟩ := h2
        exact delta_bad2 W base p k s n a bad g a1 hrd hbase h1 c1 c2
      · cases h2
    · rw [if_neg c1] at h2
      split at h2
      · rename_i c2
        obtain ⟨⟨l, a2, b2⟩, h3, h4⟩ := Option.bind_eq_some_iff.1 h2
        simp only [Option.some.injEq, Prod.mk.injEq] at h4
        obtain ⟨rfl, rfl, rfl⟩ := h4
        exact delta_ok W base p k s n a bad g a1 l a2 b2 hrd hbase h1 c2 (by omega) h3
      · cases h2
theorem rd_zeta2.calls (W : World) (base p k : Nat) (s : ByteArray) (n a : Int) (bad : Bool) (r a' : Int) (bad' : Bool) (hrd : ReadIs W p s n a bad) (hbase : base ≤ p) (h : rd_zeta 2 16 k s n a bad = some (r, a', bad')) :
    Calls Try.prog 123 #[.pointer (some ⟨p, 0, none⟩), .int .i64 2] W fun e w' => e = .returned (.int .i64 r) ∧ ReadIs w' p s n a' bad' ∧ Below base W w' := by
  unfold rd_zeta at h
  obtain ⟨⟨u, a1, b1⟩, h1, h2⟩ := Option.bind_eq_some_iff.1 h
  simp only at h2
  cases b1 with
  | true =>
    rw [if_pos rfl] at h2
    simp only [Option.some.injEq, Prod.mk.injEq] at h2
    obtain ⟨rfl, rfl, rfl⟩ := h2
    exact zeta2_bad W base p k s n a bad u a1 hrd hbase h1
  | false =>
    rw [if_neg (by simp)] at h2
    split at h2
    · rename_i c1
      obtain ⟨⟨low, many, size, short⟩, h3, h4⟩ := Option.bind_eq_some_iff.1 h2
      simp only at h4
      split at h4
      · rename_i c2
        obtain ⟨⟨z, a2, b2⟩, h5, h6⟩ := Option.bind_eq_some_iff.1 h4
        simp only at h6
        split at h6
        · rename_i c3
          split at h6
          · rename_i c4
            simp only [Option.some.injEq, Prod.mk.injEq] at h6
            obtain ⟨rfl, rfl, rfl⟩ := h6
            exact zeta2_short W base p k s n a bad u a1 low many size short z a2 b2 hrd hbase h1 c1.1 c1.2 h3 c2.1 c2.2.1 c2.2.2.1 c2.2.2.2.1 c2.2.2.2.2.1 c2.2.2.2.2.2 h5 c3.1 c3.2 c4
          · rename_i c4
            obtain ⟨⟨y, a3, b3⟩, h7, h8⟩ := Option.bind_eq_some_iff.1 h6
            simp only at h8
            split at h8
            · rename_i c5
              simp only [Option.some.injEq, Prod.mk.injEq] at h8
              obtain ⟨rfl, rfl, rfl⟩ := h8
              exact zeta2_long W base p k s n a bad u a1 low many size short z a2 b2 hrd hbase h1 c1.1 c1.2 h3 c2.1 c2.2.1 c2.2.2.1 c2.2.2.2.1 c2.2.2.2.2.1 c2.2.2.2.2.2 h5 c3.1 c3.2 (by omega) y a3 b3 h7 c5.1 c5.2
            · cases h8
        · cases h6
      · cases h4
    · cases h2
theorem rd_zeta3.calls (W : World) (base p k : Nat) (s : ByteArray) (n a : Int) (bad : Bool) (r a' : Int) (bad' : Bool) (hrd : ReadIs W p s n a bad) (hbase : base ≤ p) (h : rd_zeta 3 11 k s n a bad = some (r, a', bad')) :
    Calls Try.prog 123 #[.pointer (some ⟨p, 0, none⟩), .int .i64 3] W fun e w' => e = .returned (.int .i64 r) ∧ ReadIs w' p s n a' bad' ∧ Below base W w' := by
  unfold rd_zeta at h
  obtain ⟨⟨u, a1, b1⟩, h1, h2⟩ := Option.bind_eq_some_iff.1 h
  simp only at h2
  cases b1 with
  | true =>
    rw [if_pos rfl] at h2
    simp only [Option.some.injEq, Prod.mk.injEq] at h2
    obtain ⟨rfl, rfl, rfl⟩ := h2
    exact zeta3_bad W base p k s n a bad u a1 hrd hbase h1
  | false =>
    rw [if_neg (by simp)] at h2
    split at h2
    · rename_i c1
      obtain ⟨⟨low, many, size, short⟩, h3, h4⟩ := Option.bind_eq_some_iff.1 h2
      simp only at h4
      split at h4
      · rename_i c2
        obtain ⟨⟨z, a2, b2⟩, h5, h6⟩ := Option.bind_eq_some_iff.1 h4
        simp only at h6
        split at h6
        · rename_i c3
          split at h6
          · rename_i c4
            simp only [Option.some.injEq, Prod.mk.injEq] at h6
            obtain ⟨rfl, rfl, rfl⟩ := h6
            exact zeta3_short W base p k s n a bad u a1 low many size short z a2 b2 hrd hbase h1 c1.1 c1.2 h3 c2.1 c2.2.1 c2.2.2.1 c2.2.2.2.1 c2.2.2.2.2.1 c2.2.2.2.2.2 h5 c3.1 c3.2 c4
          · rename_i c4
            obtain ⟨⟨y, a3, b3⟩, h7, h8⟩ := Option.bind_eq_some_iff.1 h6
            simp only at h8
            split at h8
            · rename_i c5
              simp only [Option.some.injEq, Prod.mk.injEq] at h8
              obtain ⟨rfl, rfl, rfl⟩ := h8
              exact zeta3_long W base p k s n a bad u a1 low many size short z a2 b2 hrd hbase h1 c1.1 c1.2 h3 c2.1 c2.2.1 c2.2.2.1 c2.2.2.2.1 c2.2.2.2.2.1 c2.2.2.2.2.2 h5 c3.1 c3.2 (by omega) y a3 b3 h7 c5.1 c5.2
            · cases h8
        · cases h6
      · cases h4
    · cases h2
theorem rparts4 : code_parts.f 4 = some 2 := by decide +kernel
theorem rparts5 : code_parts.f 5 = some 3 := by decide +kernel
/-- The reader's answer of a kind. -/
def readK (k : Nat) (s : ByteArray) (n a kind : Int) : Option (Int × Int × Bool) :=
  if kind = 1 then rd_unary k s n a false 1000 else if kind = 2 then rd_gamma k s n a false else if kind = 3 then rd_delta k s n a false else if kind = 4 then rd_zeta 2 16 k s n a false else if kind = 5 then rd_zeta 3 11 k s n a false else none
set_option maxHeartbeats 4000000 in
set_option maxRecDepth 100000 in
theorem read1_bad (w : World) (k : Nat) (s : ByteArray) (n a r a' : Int) (hm : rd_unary k s n a false 1000 = some (r, a', true))  :
    Calls Try.prog 105 #[.agg #[.string s, .int .i64 n], .int .i64 a, .int .i64 1] w fun e w' => e = .returned (.tuple #[.int .i64 0, .int .i64 0, .bool false]) ∧ Below w.heap.size w w' := by
  have hu := Try.underlying27
  have hu5 := Try.underlying125
  have HS := Aside0.mk (start2 w (.cells #[.string s, .int .i64 n] 27) (.cells #[.string s, .int .i64 n, .int .i64 a, .bool false] 125))
  have HRD : Aside0 (ReadIs ((w.alloc (.cells #[.string s, .int .i64 n] 27)).alloc (.cells #[.string s, .int .i64 n, .int .i64 a, .bool false] 125)) (w.heap.size + 1) s n a false) := ⟨HS.out.2.1⟩
  have HB := Aside0.mk HS.out.2.2.1
  clear HS
  have HM := Aside0.mk hm
  clear hm
  go_enter Try.func105, Try.ntmps105
  go_wp2_with (first | (go_at_call 120; ((with_reducible refine (rd_unary.calls _ w.heap.size (w.heap.size + 1) k s n a false 1000 r a' true HRD.out (Nat.le_succ _) HM.out).mono ?_); rintro e w3 ⟨rfl, hr3, hb3⟩); have HRD3 := Aside0.mk hr3; have HB3 := Aside0.mk (HB.out.trans hb3); clear hr3 hb3 HRD HB; have HRD := HRD3; have HB := HB3; clear HRD3 HB3; (try clear c0 c1 c2 c3 f0 f1 f2 f3); obtain ⟨c0, c1, c2, c3, f0, f1, f2, f3⟩ := four_cells HRD.out))
  refine bodyPost_ret (results_list (rs := [.tmp 6, .tmp 7, .tmp 8]) rfl (by simp) (.tmp (.tmp (.tmp .nil)))) rfl ⟨rfl, HB.out⟩
set_option maxHeartbeats 4000000 in
set_option maxRecDepth 100000 in
theorem read1_big (w : World) (k : Nat) (s : ByteArray) (n a r a' : Int) (hm : rd_unary k s n a false 1000 = some (r, a', false)) (hr : 1073741824 < r) :
    Calls Try.prog 105 #[.agg #[.string s, .int .i64 n], .int .i64 a, .int .i64 1] w fun e w' => e = .returned (.tuple #[.int .i64 0, .int .i64 0, .bool false]) ∧ Below w.heap.size w w' := by
  have hu := Try.underlying27
  have hu5 := Try.underlying125
  have HS := Aside0.mk (start2 w (.cells #[.string s, .int .i64 n] 27) (.cells #[.string s, .int .i64 n, .int .i64 a, .bool false] 125))
  have HRD : Aside0 (ReadIs ((w.alloc (.cells #[.string s, .int .i64 n] 27)).alloc (.cells #[.string s, .int .i64 n, .int .i64 a, .bool false] 125)) (w.heap.size + 1) s n a false) := ⟨HS.out.2.1⟩
  have HB := Aside0.mk HS.out.2.2.1
  clear HS
  have HM := Aside0.mk hm
  clear hm
  go_enter Try.func105, Try.ntmps105
  go_wp2_with (first | (go_at_call 120; ((with_reducible refine (rd_unary.calls _ w.heap.size (w.heap.size + 1) k s n a false 1000 r a' false HRD.out (Nat.le_succ _) HM.out).mono ?_); rintro e w3 ⟨rfl, hr3, hb3⟩); have HRD3 := Aside0.mk hr3; have HB3 := Aside0.mk (HB.out.trans hb3); clear hr3 hb3 HRD HB; have HRD := HRD3; have HB := HB3; clear HRD3 HB3; (try clear c0 c1 c2 c3 f0 f1 f2 f3); obtain ⟨c0, c1, c2, c3, f0, f1, f2, f3⟩ := four_cells HRD.out))
  refine bodyPost_ret (results_list (rs := [.tmp 6, .tmp 7, .tmp 8]) rfl (by simp) (.tmp (.tmp (.tmp .nil)))) rfl ⟨rfl, HB.out⟩
set_option maxHeartbeats 4000000 in
set_option maxRecDepth 100000 in
theorem read1_ok (w : World) (k : Nat) (s : ByteArray) (n a r a' : Int) (hm : rd_unary k s n a false 1000 = some (r, a', false)) (hr : r ≤ 1073741824) :
    Calls Try.prog 105 #[.agg #[.string s, .int .i64 n], .int .i64 a, .int .i64 1] w fun e w' => e = .returned (.tuple #[.int .i64 r, .int .i64 a', .bool true]) ∧ Below w.heap.size w w' := by
  have hu := Try.underlying27
  have hu5 := Try.underlying125
  have HS := Aside0.mk (start2 w (.cells #[.string s, .int .i64 n] 27) (.cells #[.string s, .int .i64 n, .int .i64 a, .bool false] 125))
  have HRD : Aside0 (ReadIs ((w.alloc (.cells #[.string s, .int .i64 n] 27)).alloc (.cells #[.string s, .int .i64 n, .int .i64 a, .bool false] 125)) (w.heap.size + 1) s n a false) := ⟨HS.out.2.1⟩
  have HB := Aside0.mk HS.out.2.2.1
  clear HS
  have HM := Aside0.mk hm
  clear hm
  go_enter Try.func105, Try.ntmps105
  go_wp2_with (first | (go_at_call 120; ((with_reducible refine (rd_unary.calls _ w.heap.size (w.heap.size + 1) k s n a false 1000 r a' false HRD.out (Nat.le_succ _) HM.out).mono ?_); rintro e w3 ⟨rfl, hr3, hb3⟩); have HRD3 := Aside0.mk hr3; have HB3 := Aside0.mk (HB.out.trans hb3); clear hr3 hb3 HRD HB; have HRD := HRD3; have HB := HB3; clear HRD3 HB3; (try clear c0 c1 c2 c3 f0 f1 f2 f3); obtain ⟨c0, c1, c2, c3, f0, f1, f2, f3⟩ := four_cells HRD.out))
  go_region
  go_wp2
  refine bodyPost_ret (results_list (rs := [.tmp 6, .tmp 7, .tmp 8]) rfl (by simp) (.tmp (.tmp (.tmp .nil)))) rfl ⟨rfl, pw_below_drewN HB.out 1⟩
set_option maxHeartbeats 4000000 in
set_option maxRecDepth 100000 in
theorem read2_bad (w : World) (k : Nat) (s : ByteArray) (n a r a' : Int) (hm : rd_gamma k s n a false = some (r, a', true))  :
    Calls Try.prog 105 #[.agg #[.string s, .int .i64 n], .int .i64 a, .int .i64 2] w fun e w' => e = .returned (.tuple #[.int .i64 0, .int .i64 0, .bool false]) ∧ Below w.heap.size w w' := by
  have hu := Try.underlying27
  have hu5 := Try.underlying125
  have HS := Aside0.mk (start2 w (.cells #[.string s, .int .i64 n] 27) (.cells #[.string s, .int .i64 n, .int .i64 a, .bool false] 125))
  have HRD : Aside0 (ReadIs ((w.alloc (.cells #[.string s, .int .i64 n] 27)).alloc (.cells #[.string s, .int .i64 n, .int .i64 a, .bool false] 125)) (w.heap.size + 1) s n a false) := ⟨HS.out.2.1⟩
  have HB := Aside0.mk HS.out.2.2.1
  clear HS
  have HM := Aside0.mk hm
  clear hm
  go_enter Try.func105, Try.ntmps105
  go_wp2_with (first | (go_at_call 121; ((with_reducible refine (rd_gamma.calls _ w.heap.size (w.heap.size + 1) k s n a false r a' true HRD.out (Nat.le_succ _) HM.out).mono ?_); rintro e w3 ⟨rfl, hr3, hb3⟩); have HRD3 := Aside0.mk hr3; have HB3 := Aside0.mk (HB.out.trans hb3); clear hr3 hb3 HRD HB; have HRD := HRD3; have HB := HB3; clear HRD3 HB3; (try clear c0 c1 c2 c3 f0 f1 f2 f3); obtain ⟨c0, c1, c2, c3, f0, f1, f2, f3⟩ := four_cells HRD.out))
  refine bodyPost_ret (results_list (rs := [.tmp 6, .tmp 7, .tmp 8]) rfl (by simp) (.tmp (.tmp (.tmp .nil)))) rfl ⟨rfl, HB.out⟩
set_option maxHeartbeats 4000000 in
set_option maxRecDepth 100000 in
theorem read2_big (w : World) (k : Nat) (s : ByteArray) (n a r a' : Int) (hm : rd_gamma k s n a false = some (r, a', false)) (hr : 1073741824 < r) :
    Calls Try.prog 105 #[.agg #[.string s, .int .i64 n], .int .i64 a, .int .i64 2] w fun e w' => e = .returned (.tuple #[.int .i64 0, .int .i64 0, .bool false]) ∧ Below w.heap.size w w' := by
  have hu := Try.underlying27
  have hu5 := Try.underlying125
  have HS := Aside0.mk (start2 w (.cells #[.string s, .int .i64 n] 27) (.cells #[.string s, .int .i64 n, .int .i64 a, .bool false] 125))
  have HRD : Aside0 (ReadIs ((w.alloc (.cells #[.string s, .int .i64 n] 27)).alloc (.cells #[.string s, .int .i64 n, .int .i64 a, .bool false] 125)) (w.heap.size + 1) s n a false) := ⟨HS.out.2.1⟩
  have HB := Aside0.mk HS.out.2.2.1
  clear HS
  have HM := Aside0.mk hm
  clear hm
  go_enter Try.func105, Try.ntmps105
  go_wp2_with (first | (go_at_call 121; ((with_reducible refine (rd_gamma.calls _ w.heap.size (w.heap.size + 1) k s n a false r a' false HRD.out (Nat.le_succ _) HM.out).mono ?_); rintro e w3 ⟨rfl, hr3, hb3⟩); have HRD3 := Aside0.mk hr3; have HB3 := Aside0.mk (HB.out.trans hb3); clear hr3 hb3 HRD HB; have HRD := HRD3; have HB := HB3; clear HRD3 HB3; (try clear c0 c1 c2 c3 f0 f1 f2 f3); obtain ⟨c0, c1, c2, c3, f0, f1, f2, f3⟩ := four_cells HRD.out))
  refine bodyPost_ret (results_list (rs := [.tmp 6, .tmp 7, .tmp 8]) rfl (by simp) (.tmp (.tmp (.tmp .nil)))) rfl ⟨rfl, HB.out⟩
set_option maxHeartbeats 4000000 in
set_option maxRecDepth 100000 in
theorem read2_ok (w : World) (k : Nat) (s : ByteArray) (n a r a' : Int) (hm : rd_gamma k s n a false = some (r, a', false)) (hr : r ≤ 1073741824) :
    Calls Try.prog 105 #[.agg #[.string s, .int .i64 n], .int .i64 a, .int .i64 2] w fun e w' => e = .returned (.tuple #[.int .i64 r, .int .i64 a', .bool true]) ∧ Below w.heap.size w w' := by
  have hu := Try.underlying27
  have hu5 := Try.underlying125
  have HS := Aside0.mk (start2 w (.cells #[.string s, .int .i64 n] 27) (.cells #[.string s, .int .i64 n, .int .i64 a, .bool false] 125))
  have HRD : Aside0 (ReadIs ((w.alloc (.cells #[.string s, .int .i64 n] 27)).alloc (.cells #[.string s, .int .i64 n, .int .i64 a, .bool false] 125)) (w.heap.size + 1) s n a false) := ⟨HS.out.2.1⟩
  have HB := Aside0.mk HS.out.2.2.1
  clear HS
  have HM := Aside0.mk hm
  clear hm
  go_enter Try.func105, Try.ntmps105
  go_wp2_with (first | (go_at_call 121; ((with_reducible refine (rd_gamma.calls _ w.heap.size (w.heap.size + 1) k s n a false r a' false HRD.out (Nat.le_succ _) HM.out).mono ?_); rintro e w3 ⟨rfl, hr3, hb3⟩); have HRD3 := Aside0.mk hr3; have HB3 := Aside0.mk (HB.out.trans hb3); clear hr3 hb3 HRD HB; have HRD := HRD3; have HB := HB3; clear HRD3 HB3; (try clear c0 c1 c2 c3 f0 f1 f2 f3); obtain ⟨c0, c1, c2, c3, f0, f1, f2, f3⟩ := four_cells HRD.out))
  go_region
  go_wp2
  refine bodyPost_ret (results_list (rs := [.tmp 6, .tmp 7, .tmp 8]) rfl (by simp) (.tmp (.tmp (.tmp .nil)))) rfl ⟨rfl, pw_below_drewN HB.out 1⟩
set_option maxHeartbeats 4000000 in
set_option maxRecDepth 100000 in
theorem read3_bad (w : World) (k : Nat) (s : ByteArray) (n a r a' : Int) (hm : rd_delta k s n a false = some (r, a', true))  :
    Calls Try.prog 105 #[.agg #[.string s, .int .i64 n], .int .i64 a, .int .i64 3] w fun e w' => e = .returned (.tuple #[.int .i64 0, .int .i64 0, .bool false]) ∧ Below w.heap.size w w' := by
  have hu := Try.underlying27
  have hu5 := Try.underlying125
  have HS := Aside0.mk (start2 w (.cells #[.string s, .int .i64 n] 27) (.cells #[.string s, .int .i64 n, .int .i64 a, .bool false] 125))
  have HRD : Aside0 (ReadIs ((w.alloc (.cells #[.string s, .int .i64 n] 27)).alloc (.cells #[.string s, .int .i64 n, .int .i64 a, .bool false] 125)) (w.heap.size + 1) s n a false) := ⟨HS.out.2.1⟩
  have HB := Aside0.mk HS.out.2.2.1
  clear HS
  have HM := Aside0.mk hm
  clear hm
  go_enter Try.func105, Try.ntmps105
  go_wp2_with (first | (go_at_call 122; ((with_reducible refine (rd_delta.calls _ w.heap.size (w.heap.size + 1) k s n a false r a' true HRD.out (Nat.le_succ _) HM.out).mono ?_); rintro e w3 ⟨rfl, hr3, hb3⟩); have HRD3 := Aside0.mk hr3; have HB3 := Aside0.mk (HB.out.trans hb3); clear hr3 hb3 HRD HB; have HRD := HRD3; have HB := HB3; clear HRD3 HB3; (try clear c0 c1 c2 c3 f0 f1 f2 f3); obtain ⟨c0, c1, c2, c3, f0, f1, f2, f3⟩ := four_cells HRD.out))
  refine bodyPost_ret (results_list (rs := [.tmp 6, .tmp 7, .tmp 8]) rfl (by simp) (.tmp (.tmp (.tmp .nil)))) rfl ⟨rfl, HB.out⟩
set_option maxHeartbeats 4000000 in
set_option maxRecDepth 100000 in
theorem read3_big (w : World) (k : Nat) (s : ByteArray) (n a r a' : Int) (hm : rd_delta k s n a false = some (r, a', false)) (hr : 1073741824 < r) :
    Calls Try.prog 105 #[.agg #[.string s, .int .i64 n], .int .i64 a, .int .i64 3] w fun e w' => e = .returned (.tuple #[.int .i64 0, .int .i64 0, .bool false]) ∧ Below w.heap.size w w' := by
  have hu := Try.underlying27
  have hu5 := Try.underlying125
  have HS := Aside0.mk (start2 w (.cells #[.string s, .int .i64 n] 27) (.cells #[.string s, .int .i64 n, .int .i64 a, .bool false] 125))
  have HRD : Aside0 (ReadIs ((w.alloc (.cells #[.string s, .int .i64 n] 27)).alloc (.cells #[.string s, .int .i64 n, .int .i64 a, .bool false] 125)) (w.heap.size + 1) s n a false) := ⟨HS.out.2.1⟩
  have HB := Aside0.mk HS.out.2.2.1
  clear HS
  have HM := Aside0.mk hm
  clear hm
  go_enter Try.func105, Try.ntmps105
  go_wp2_with (first | (go_at_call 122; ((with_reducible refine (rd_delta.calls _ w.heap.size (w.heap.size + 1) k s n a false r a' false HRD.out (Nat.le_succ _) HM.out).mono ?_); rintro e w3 ⟨rfl, hr3, hb3⟩); have HRD3 := Aside0.mk hr3; have HB3 := Aside0.mk (HB.out.trans hb3); clear hr3 hb3 HRD HB; have HRD := HRD3; have HB := HB3; clear HRD3 HB3; (try clear c0 c1 c2 c3 f0 f1 f2 f3); obtain ⟨c0, c1, c2, c3, f0, f1, f2, f3⟩ := four_cells HRD.out))
  refine bodyPost_ret (results_list (rs := [.tmp 6, .tmp 7, .tmp 8]) rfl (by simp) (.tmp (.tmp (.tmp .nil)))) rfl ⟨rfl, HB.out⟩
set_option maxHeartbeats 4000000 in
set_option maxRecDepth 100000 in
theorem read3_ok (w : World) (k : Nat) (s : ByteArray) (n a r a' : Int) (hm : rd_delta k s n a false = some (r, a', false)) (hr : r ≤ 1073741824) :
    Calls Try.prog 105 #[.agg #[.string s, .int .i64 n], .int .i64 a, .int .i64 3] w fun e w' => e = .returned (.tuple #[.int .i64 r, .int .i64 a', .bool true]) ∧ Below w.heap.size w w' := by
  have hu := Try.underlying27
  have hu5 := Try.underlying125
  have HS := Aside0.mk (start2 w (.cells #[.string s, .int .i64 n] 27) (.cells #[.string s, .int .i64 n, .int .i64 a, .bool false] 125))
  have HRD : Aside0 (ReadIs ((w.alloc (.cells #[.string s, .int .i64 n] 27)).alloc (.cells #[.string s, .int .i64 n, .int .i64 a, .bool false] 125)) (w.heap.size + 1) s n a false) := ⟨HS.out.2.1⟩
  have HB := Aside0.mk HS.out.2.2.1
  clear HS
  have HM := Aside0.mk hm
  clear hm
  go_enter Try.func105, Try.ntmps105
  go_wp2_with (first | (go_at_call 122; ((with_reducible refine (rd_delta.calls _ w.heap.size (w.heap.size + 1) k s n a false r a' false HRD.out (Nat.le_succ _) HM.out).mono ?_); rintro e w3 ⟨rfl, hr3, hb3⟩); have HRD3 := Aside0.mk hr3; have HB3 := Aside0.mk (HB.out.trans hb3); clear hr3 hb3 HRD HB; have HRD := HRD3; have HB := HB3; clear HRD3 HB3; (try clear c0 c1 c2 c3 f0 f1 f2 f3); obtain ⟨c0, c1, c2, c3, f0, f1, f2, f3⟩ := four_cells HRD.out))
  go_region
  go_wp2
  refine bodyPost_ret (results_list (rs := [.tmp 6, .tmp 7, .tmp 8]) rfl (by simp) (.tmp (.tmp (.tmp .nil)))) rfl ⟨rfl, pw_below_drewN HB.out 1⟩
set_option maxHeartbeats 4000000 in
set_option maxRecDepth 100000 in
theorem read4_bad (w : World) (k : Nat) (s : ByteArray) (n a r a' : Int) (hm : rd_zeta 2 16 k s n a false = some (r, a', true))  :
    Calls Try.prog 105 #[.agg #[.string s, .int .i64 n], .int .i64 a, .int .i64 4] w fun e w' => e = .returned (.tuple #[.int .i64 0, .int .i64 0, .bool false]) ∧ Below w.heap.size w w' := by
  have hu := Try.underlying27
  have hu5 := Try.underlying125
  have HS := Aside0.mk (start2 w (.cells #[.string s, .int .i64 n] 27) (.cells #[.string s, .int .i64 n, .int .i64 a, .bool false] 125))
  have HRD : Aside0 (ReadIs ((w.alloc (.cells #[.string s, .int .i64 n] 27)).alloc (.cells #[.string s, .int .i64 n, .int .i64 a, .bool false] 125)) (w.heap.size + 1) s n a false) := ⟨HS.out.2.1⟩
  have HB := Aside0.mk HS.out.2.2.1
  clear HS
  have HM := Aside0.mk hm
  clear hm
  go_enter Try.func105, Try.ntmps105
  go_wp2_with (first | (go_at_call 123; ((with_reducible refine (rd_zeta2.calls _ w.heap.size (w.heap.size + 1) k s n a false r a' true HRD.out (Nat.le_succ _) HM.out).mono ?_); rintro e w3 ⟨rfl, hr3, hb3⟩); have HRD3 := Aside0.mk hr3; have HB3 := Aside0.mk (HB.out.trans hb3); clear hr3 hb3 HRD HB; have HRD := HRD3; have HB := HB3; clear HRD3 HB3; (try clear c0 c1 c2 c3 f0 f1 f2 f3); obtain ⟨c0, c1, c2, c3, f0, f1, f2, f3⟩ := four_cells HRD.out) | (go_at_call 118; (with_reducible refine (code_parts.calls 4 2 _ rparts4).mono ?_); rintro e w3 ⟨rfl, hd3⟩; have HRD3 := Aside0.mk (read_below HRD.out hd3.below); have HB3 := Aside0.mk (below_then HB.out HB.out.size hd3.below); clear hd3 HRD HB; have HRD := HRD3; have HB := HB3; clear HRD3 HB3; (try clear c0 c1 c2 c3 f0 f1 f2 f3); obtain ⟨c0, c1, c2, c3, f0, f1, f2, f3⟩ := four_cells HRD.out))
  refine bodyPost_ret (results_list (rs := [.tmp 6, .tmp 7, .tmp 8]) rfl (by simp) (.tmp (.tmp (.tmp .nil)))) rfl ⟨rfl, HB.out⟩
set_option maxHeartbeats 4000000 in
set_option maxRecDepth 100000 in
theorem read4_big (w : World) (k : Nat) (s : ByteArray) (n a r a' : Int) (hm : rd_zeta 2 16 k s n a false = some (r, a', false)) (hr : 1073741824 < r) :
    Calls Try.prog 105 #[.agg #[.string s, .int .i64 n], .int .i64 a, .int .i64 4] w fun e w' => e = .returned (.tuple #[.int .i64 0, .int .i64 0, .bool false]) ∧ Below w.heap.size w w' := by
  have hu := Try.underlying27
  have hu5 := Try.underlying125
  have HS := Aside0.mk (start2 w (.cells #[.string s, .int .i64 n] 27) (.cells #[.string s, .int .i64 n, .int .i64 a, .bool false] 125))
  have HRD : Aside0 (ReadIs ((w.alloc (.cells #[.string s, .int .i64 n] 27)).alloc (.cells #[.string s, .int .i64 n, .int .i64 a, .bool false] 125)) (w.heap.size + 1) s n a false) := ⟨HS.out.2.1⟩
  have HB := Aside0.mk HS.out.2.2.1
  clear HS
  have HM := Aside0.mk hm
  clear hm
  go_enter Try.func105, Try.ntmps105
  go_wp2_with (first | (go_at_call 123; ((with_reducible refine (rd_zeta2.calls _ w.heap.size (w.heap.size + 1) k s n a false r a' false HRD.out (Nat.le_succ _) HM.out).mono ?_); rintro e w3 ⟨rfl, hr3, hb3⟩); have HRD3 := Aside0.mk hr3; have HB3 := Aside0.mk (HB.out.trans hb3); clear hr3 hb3 HRD HB; have HRD := HRD3; have HB := HB3; clear HRD3 HB3; (try clear c0 c1 c2 c3 f0 f1 f2 f3); obtain ⟨c0, c1, c2, c3, f0, f1, f2, f3⟩ := four_cells HRD.out) | (go_at_call 118; (with_reducible refine (code_parts.calls 4 2 _ rparts4).mono ?_); rintro e w3 ⟨rfl, hd3⟩; have HRD3 := Aside0.mk (read_below HRD.out hd3.below); have HB3 := Aside0.mk (below_then HB.out HB.out.size hd3.below); clear hd3 HRD HB; have HRD := HRD3; have HB := HB3; clear HRD3 HB3; (try clear c0 c1 c2 c3 f0 f1 f2 f3); obtain ⟨c0, c1, c2, c3, f0, f1, f2, f3⟩ := four_cells HRD.out))
  refine bodyPost_ret (results_list (rs := [.tmp 6, .tmp 7, .tmp 8]) rfl (by simp) (.tmp (.tmp (.tmp .nil)))) rfl ⟨rfl, HB.out⟩
set_option maxHeartbeats 4000000 in
set_option maxRecDepth 100000 in
theorem read4_ok (w : World) (k : Nat) (s : ByteArray) (n a r a' : Int) (hm : rd_zeta 2 16 k s n a false = some (r, a', false)) (hr : r ≤ 1073741824) :
    Calls Try.prog 105 #[.agg #[.string s, .int .i64 n], .int .i64 a, .int .i64 4] w fun e w' => e = .returned (.tuple #[.int .i64 r, .int .i64 a', .bool true]) ∧ Below w.heap.size w w' := by
  have hu := Try.underlying27
  have hu5 := Try.underlying125
  have HS := Aside0.mk (start2 w (.cells #[.string s, .int .i64 n] 27) (.cells #[.string s, .int .i64 n, .int .i64 a, .bool false] 125))
  have HRD : Aside0 (ReadIs ((w.alloc (.cells #[.string s, .int .i64 n] 27)).alloc (.cells #[.string s, .int .i64 n, .int .i64 a, .bool false] 125)) (w.heap.size + 1) s n a false) := ⟨HS.out.2.1⟩
  have HB := Aside0.mk HS.out.2.2.1
  clear HS
  have HM := Aside0.mk hm
  clear hm
  go_enter Try.func105, Try.ntmps105
  go_wp2_with (first | (go_at_call 123; ((with_reducible refine (rd_zeta2.calls _ w.heap.size (w.heap.size + 1) k s n a false r a' false HRD.out (Nat.le_succ _) HM.out).mono ?_); rintro e w3 ⟨rfl, hr3, hb3⟩); have HRD3 := Aside0.mk hr3; have HB3 := Aside0.mk (HB.out.trans hb3); clear hr3 hb3 HRD HB; have HRD := HRD3; have HB := HB3; clear HRD3 HB3; (try clear c0 c1 c2 c3 f0 f1 f2 f3); obtain ⟨c0, c1, c2, c3, f0, f1, f2, f3⟩ := four_cells HRD.out) | (go_at_call 118; (with_reducible refine (code_parts.calls 4 2 _ rparts4).mono ?_); rintro e w3 ⟨rfl, hd3⟩; have HRD3 := Aside0.mk (read_below HRD.out hd3.below); have HB3 := Aside0.mk (below_then HB.out HB.out.size hd3.below); clear hd3 HRD HB; have HRD := HRD3; have HB := HB3; clear HRD3 HB3; (try clear c0 c1 c2 c3 f0 f1 f2 f3); obtain ⟨c0, c1, c2, c3, f0, f1, f2, f3⟩ := four_cells HRD.out))
  go_region
  go_wp2
  refine bodyPost_ret (results_list (rs := [.tmp 6, .tmp 7, .tmp 8]) rfl (by simp) (.tmp (.tmp (.tmp .nil)))) rfl ⟨rfl, pw_below_drewN HB.out 1⟩
set_option maxHeartbeats 4000000 in
set_option maxRecDepth 100000 in
theorem read5_bad (w : World) (k : Nat) (s : ByteArray) (n a r a' : Int) (hm : rd_zeta 3 11 k s n a false = some (r, a', true))  :
    Calls Try.prog 105 #[.agg #[.string s, .int .i64 n], .int .i64 a, .int .i64 5] w fun e w' => e = .returned (.tuple #[.int .i64 0, .int .i64 0, .bool false]) ∧ Below w.heap.size w w' := by
  have hu := Try.underlying27
  have hu5 := Try.underlying125
  have HS := Aside0.mk (start2 w (.cells #[.string s, .int .i64 n] 27) (.cells #[.string s, .int .i64 n, .int .i64 a, .bool false] 125))
  have HRD : Aside0 (ReadIs ((w.alloc (.cells #[.string s, .int .i64 n] 27)).alloc (.cells #[.string s, .int .i64 n, .int .i64 a, .bool false] 125)) (w.heap.size + 1) s n a false) := ⟨HS.out.2.1⟩
  have HB := Aside0.mk HS.out.2.2.1
  clear HS
  have HM := Aside0.mk hm
  clear hm
  go_enter Try.func105, Try.ntmps105
  go_wp2_with (first | (go_at_call 123; ((with_reducible refine (rd_zeta3.calls _ w.heap.size (w.heap.size + 1) k s n a false r a' true HRD.out (Nat.le_succ _) HM.out).mono ?_); rintro e w3 ⟨rfl, hr3, hb3⟩); have HRD3 := Aside0.mk hr3; have HB3 := Aside0.mk (HB.out.trans hb3); clear hr3 hb3 HRD HB; have HRD := HRD3; have HB := HB3; clear HRD3 HB3; (try clear c0 c1 c2 c3 f0 f1 f2 f3); obtain ⟨c0, c1, c2, c3, f0, f1, f2, f3⟩ := four_cells HRD.out) | (go_at_call 118; (with_reducible refine (code_parts.calls 5 3 _ rparts5).mono ?_); rintro e w3 ⟨rfl, hd3⟩; have HRD3 := Aside0.mk (read_below HRD.out hd3.below); have HB3 := Aside0.mk (below_then HB.out HB.out.size hd3.below); clear hd3 HRD HB; have HRD := HRD3; have HB := HB3; clear HRD3 HB3; (try clear c0 c1 c2 c3 f0 f1 f2 f3); obtain ⟨c0, c1, c2, c3, f0, f1, f2, f3⟩ := four_cells HRD.out))
  refine bodyPost_ret (results_list (rs := [.tmp 6, .tmp 7, .tmp 8]) rfl (by simp) (.tmp (.tmp (.tmp .nil)))) rfl ⟨rfl, HB.out⟩
set_option maxHeartbeats 4000000 in
set_option maxRecDepth 100000 in
theorem read5_big (w : World) (k : Nat) (s : ByteArray) (n a r a' : Int) (hm : rd_zeta 3 11 k s n a false = some (r, a', false)) (hr : 1073741824 < r) :
    Calls Try.prog 105 #[.agg #[.string s, .int .i64 n], .int .i64 a, .int .i64 5] w fun e w' => e = .returned (.tuple #[.int .i64 0, .int .i64 0, .bool false]) ∧ Below w.heap.size w w' := by
  have hu := Try.underlying27
  have hu5 := Try.underlying125
  have HS := Aside0.mk (start2 w (.cells #[.string s, .int .i64 n] 27) (.cells #[.string s, .int .i64 n, .int .i64 a, .bool false] 125))
  have HRD : Aside0 (ReadIs ((w.alloc (.cells #[.string s, .int .i64 n] 27)).alloc (.cells #[.string s, .int .i64 n, .int .i64 a, .bool false] 125)) (w.heap.size + 1) s n a false) := ⟨HS.out.2.1⟩
  have HB := Aside0.mk HS.out.2.2.1
  clear HS
  have HM := Aside0.mk hm
  clear hm
  go_enter Try.func105, Try.ntmps105
  go_wp2_with (first | (go_at_call 123; ((with_reducible refine (rd_zeta3.calls _ w.heap.size (w.heap.size + 1) k s n a false r a' false HRD.out (Nat.le_succ _) HM.out).mono ?_); rintro e w3 ⟨rfl, hr3, hb3⟩); have HRD3 := Aside0.mk hr3; have HB3 := Aside0.mk (HB.out.trans hb3); clear hr3 hb3 HRD HB; have HRD := HRD3; have HB := HB3; clear HRD3 HB3; (try clear c0 c1 c2 c3 f0 f1 f2 f3); obtain ⟨c0, c1, c2, c3, f0, f1, f2, f3⟩ := four_cells HRD.out) | (go_at_call 118; (with_reducible refine (code_parts.calls 5 3 _ rparts5).mono ?_); rintro e w3 ⟨rfl, hd3⟩; have HRD3 := Aside0.mk (read_below HRD.out hd3.below); have HB3 := Aside0.mk (below_then HB.out HB.out.size hd3.below); clear hd3 HRD HB; have HRD := HRD3; have HB := HB3; clear HRD3 HB3; (try clear c0 c1 c2 c3 f0 f1 f2 f3); obtain ⟨c0, c1, c2, c3, f0, f1, f2, f3⟩ := four_cells HRD.out))
  refine bodyPost_ret (results_list (rs := [.tmp 6, .tmp 7, .tmp 8]) rfl (by simp) (.tmp (.tmp (.tmp .nil)))) rfl ⟨rfl, HB.out⟩
set_option maxHeartbeats 4000000 in
set_option maxRecDepth 100000 in
theorem read5_ok (w : World) (k : Nat) (s : ByteArray) (n a r a' : Int) (hm : rd_zeta 3 11 k s n a false = some (r, a', false)) (hr : r ≤ 1073741824) :
    Calls Try.prog 105 #[.agg #[.string s, .int .i64 n], .int .i64 a, .int .i64 5] w fun e w' => e = .returned (.tuple #[.int .i64 r, .int .i64 a', .bool true]) ∧ Below w.heap.size w w' := by
  have hu := Try.underlying27
  have hu5 := Try.underlying125
  have HS := Aside0.mk (start2 w (.cells #[.string s, .int .i64 n] 27) (.cells #[.string s, .int .i64 n, .int .i64 a, .bool false] 125))
  have HRD : Aside0 (ReadIs ((w.alloc (.cells #[.string s, .int .i64 n] 27)).alloc (.cells #[.string s, .int .i64 n, .int .i64 a, .bool false] 125)) (w.heap.size + 1) s n a false) := ⟨HS.out.2.1⟩
  have HB := Aside0.mk HS.out.2.2.1
  clear HS
  have HM := Aside0.mk hm
  clear hm
  go_enter Try.func105, Try.ntmps105
  go_wp2_with (first | (go_at_call 123; ((with_reducible refine (rd_zeta3.calls _ w.heap.size (w.heap.size + 1) k s n a false r a' false HRD.out (Nat.le_succ _) HM.out).mono ?_); rintro e w3 ⟨rfl, hr3, hb3⟩); have HRD3 := Aside0.mk hr3; have HB3 := Aside0.mk (HB.out.trans hb3); clear hr3 hb3 HRD HB; have HRD := HRD3; have HB := HB3; clear HRD3 HB3; (try clear c0 c1 c2 c3 f0 f1 f2 f3); obtain ⟨c0, c1, c2, c3, f0, f1, f2, f3⟩ := four_cells HRD.out) | (go_at_call 118; (with_reducible refine (code_parts.calls 5 3 _ rparts5).mono ?_); rintro e w3 ⟨rfl, hd3⟩; have HRD3 := Aside0.mk (read_below HRD.out hd3.below); have HB3 := Aside0.mk (below_then HB.out HB.out.size hd3.below); clear hd3 HRD HB; have HRD := HRD3; have HB := HB3; clear HRD3 HB3; (try clear c0 c1 c2 c3 f0 f1 f2 f3); obtain ⟨c0, c1, c2, c3, f0, f1, f2, f3⟩ := four_cells HRD.out))
  go_region
  go_wp2
  refine bodyPost_ret (results_list (rs := [.tmp 6, .tmp 7, .tmp 8]) rfl (by simp) (.tmp (.tmp (.tmp .nil)))) rfl ⟨rfl, pw_below_drewN HB.out 1⟩
end Go.Proofs.Ytnpghcikhpglkaa.Q
namespace Go.Proofs.Ytnpghcikhpglkaa.Q
open Go.RowKit Go.Proofs.YtnpghcikhpglkaaW.PrintWords Go.Proofs.YtnpghcikhpglkaaW.PrintLast Go.Proofs.YtnpghcikhpglkaaW.PrintMore Go.Proofs.Ytnpghcikhpglkaa.Hand Go.Proofs.Ytnpghcikhpglkaa.Pu
set_option linter.unusedVariables false

/-- So many rounds are enough for bits that may be. -/
def rounds : Nat := 20000
/-- code.Read. -/
def code_Read.f (s : ByteArray) (n a kind : Int) : Option (Int × Int × Bool) :=
  (readK rounds s n a kind).bind fun r => if r.2.2 = true then some (0, 0, false) else if 1073741824 < r.1 then some (0, 0, false) else some (r.1, r.2.1, true)
theorem code_Read.calls (s : ByteArray) (n a kind r1 r2 : Int) (r3 : Bool) (w : World) (h : code_Read.f s n a kind = some (r1, r2, r3)) :
    Calls Try.prog 105 #[.agg #[.string s, .int .i64 n], .int .i64 a, .int .i64 kind] w fun e w' => e = .returned (.tuple #[.int .i64 r1, .int .i64 r2, .bool r3]) ∧ Below w.heap.size w w' := by
  unfold code_Read.f at h
  generalize rounds = k at h
  obtain ⟨⟨r, a', b⟩, h1, h2⟩ := Option.bind_eq_some_iff.1 h
  simp only at h2
  unfold readK at h1
  by_cases k1 : kind = 1
  · subst k1
    rw [if_pos rfl] at h1
    cases b with
    | true =>
      rw [if_pos rfl] at h2
      simp only [Option.some.injEq, Prod.mk.injEq] at h2
      obtain ⟨rfl, rfl, rfl⟩ := h2
      exact read1_bad w k s n a r a' h1
    | false =>
      rw [if_neg (by simp)] at h2
      split at h2
      · rename_i hr
        simp only [Option.some.injEq, Prod.mk.injEq] at h2
        obtain ⟨rfl, rfl, rfl⟩ := h2
        exact read1_big w k s n a r a' h1 hr
      · rename_i hr
        simp only [Option.some.injEq, Prod.mk.injEq] at h2
        obtain ⟨rfl, rfl, rfl⟩ := h2
        exact read1_ok w k s n a r a' h1 (by omega)
  by_cases k2 : kind = 2
  · subst k2
    rw [if_neg (by decide), if_pos rfl] at h1
    cases b with
    | true =>
      rw [if_pos rfl] at h2
      simp only [Option.some.injEq, Prod.mk.injEq] at h2
      obtain ⟨rfl, rfl, rfl⟩ := h2
      exact read2_bad w k s n a r a' h1
    | false =>
      rw [if_neg (by simp)] at h2
      split at h2
      · rename_i hr
        simp only [Option.some.injEq, Prod.mk.injEq] at h2
        obtain ⟨rfl, rfl, rfl⟩ := h2
        exact read2_big w k s n a r a' h1 hr
      · rename_i hr
        simp only [Option.some.injEq, Prod.mk.injEq] at h2
        obtain ⟨rfl, rfl, rfl⟩ := h2
        exact read2_ok w k s n a r a' h1 (by omega)
  by_cases k3 : kind = 3
  · subst k3
    rw [if_neg (by decide), if_neg (by decide), if_pos rfl] at h1
    cases b with
    | true =>
      rw [if_pos rfl] at h2
      simp only [Option.some.injEq, Prod.mk.injEq] at h2
      obtain ⟨rfl, rfl, rfl⟩ := h2
      exact read3_bad w k s n a r a' h1
    | false =>
      rw [if_neg (by simp)] at h2
      split at h2
      · rename_i hr
        simp only [Option.some.injEq, Prod.mk.injEq] at h2
        obtain ⟨rfl, rfl, rfl⟩ := h2
        exact read3_big w k s n a r a' h1 hr
      · rename_i hr
        simp only [Option.some.injEq, Prod.mk.injEq] at h2
        obtain ⟨rfl, rfl, rfl⟩ := h2
        exact read3_ok w k s n a r a' h1 (by omega)
  by_cases k4 : kind = 4
  · subst k4
    rw [if_neg (by decide), if_neg (by decide), if_neg (by decide), if_pos rfl] at h1
    cases b with
    | true =>
      rw [if_pos rfl] at h2
      simp only [Option.some.injEq, Prod.mk.injEq] at h2
      obtain ⟨rfl, rfl, rfl⟩ := h2
      exact read4_bad w k s n a r a' h1
    | false =>
      rw [if_neg (by simp)] at h2
      split at h2
      · rename_i hr
        simp only [Option.some.injEq, Prod.mk.injEq] at h2
        obtain ⟨rfl, rfl, rfl⟩ := h2
        exact read4_big w k s n a r a' h1 hr
      · rename_i hr
        simp only [Option.some.injEq, Prod.mk.injEq] at h2
        obtain ⟨rfl, rfl, rfl⟩ := h2
        exact read4_ok w k s n a r a' h1 (by omega)
  by_cases k5 : kind = 5
  · subst k5
    rw [if_neg (by decide), if_neg (by decide), if_neg (by decide), if_neg (by decide), if_pos rfl] at h1
    cases b with
    | true =>
      rw [if_pos rfl] at h2
      simp only [Option.some.injEq, Prod.mk.injEq] at h2
      obtain ⟨rfl, rfl, rfl⟩ := h2
      exact read5_bad w k s n a r a' h1
    | false =>
      rw [if_neg (by simp)] at h2
      split at h2
      · rename_i hr
        simp only [Option.some.injEq, Prod.mk.injEq] at h2
        obtain ⟨rfl, rfl, rfl⟩ := h2
        exact read5_big w k s n a r a' h1 hr
      · rename_i hr
        simp only [Option.some.injEq, Prod.mk.injEq] at h2
        obtain ⟨rfl, rfl, rfl⟩ := h2
        exact read5_ok w k s n a r a' h1 (by omega)
  rw [if_neg k1, if_neg k2, if_neg k3, if_neg k4, if_neg k5] at h1
  cases h1
end Go.Proofs.Ytnpghcikhpglkaa.Q
namespace Go.Proofs.Ytnpghcikhpglkaa.Q
open Go.RowKit Go.Proofs.YtnpghcikhpglkaaW.PrintWords Go.Proofs.YtnpghcikhpglkaaW.PrintLast Go.Proofs.YtnpghcikhpglkaaW.PrintMore
attribute [local go_sem] max2_int min2_int max_two min_two max_three min_three max_four min_four   -- for this text's walks alone
set_option linter.unusedVariables false
set_option linter.unusedSimpArgs false

/-! ### code_Take: function 61 -/
def code_Take.j0 : Nat → Int → Int → Bool → ByteArray → Int → Option (Int × Int × Int)
  | 0, _, _, _, _, _ => none
  | k + 1, x1, x2, x27, x780000, x780001 => if x27 = true then (some (0, 0, 1)) else ((code_Read.f x780000 x780001 x1 x2).bind fun bt782 => (if bt782.2.2 = true then (some (bt782.1, bt782.2.1, 0)) else (some (0, 0, 9))))
def code_Take.f (k : Nat) (a0_0 : ByteArray) (a0_1 : Int) (a1 : Int) (a2 : Int) : Option (Int × Int × Int) := (bits_May.f a0_0 a0_1).bind fun t780 => (if t780 = true then ((code_Is.f a2).bind fun t781 => (if t781 = true then (if a1 < 0 then (code_Take.j0 k a1 a2 true a0_0 a0_1) else (code_Take.j0 k a1 a2 (decide (a1 > a0_1)) a0_0 a0_1)) else (code_Take.j0 k a1 a2 true a0_0 a0_1))) else (code_Take.j0 k a1 a2 true a0_0 a0_1))
theorem code_Take.mono_l : ∀ k, (∀ y0 y1 y2 y3 y4, LeO (code_Take.j0 k y0 y1 y2 y3 y4) (code_Take.j0 (k + 1) y0 y1 y2 y3 y4))
  | 0 => fun _ _ _ _ _ r h => by simp [code_Take.j0] at h
  | k + 1 => by
    have ih0 := code_Take.mono_l k
    · intro y0 y1 y2 y3 y4
      unfold code_Take.j0
      repeat' first
      | (with_reducible exact ih0 _ _ _ _ _)
      | (with_reducible exact LeO.refl _)
      | (with_reducible exact LeO.none _)
      | (with_reducible refine LeO.ite ?_ ?_)
      | (with_reducible refine LeO.bind ?_ (fun _ => ?_))
      | exact ih0 _ _ _ _ _
      | exact LeO.none _
      | refine LeO.ite ?_ ?_
      | refine LeO.bind ?_ (fun _ => ?_)
theorem code_Take.mono : ∀ a0 a1 a2 a3 k, LeO (code_Take.f k a0 a1 a2 a3) (code_Take.f (k + 1) a0 a1 a2 a3) := by
  intro a0 a1 a2 a3 k
  have ih0 := code_Take.mono_l k
  unfold code_Take.f
  repeat' first
      | (with_reducible exact ih0 _ _ _ _ _)
      | (with_reducible exact LeO.refl _)
      | (with_reducible exact LeO.none _)
      | (with_reducible refine LeO.ite ?_ ?_)
      | (with_reducible refine LeO.bind ?_ (fun _ => ?_))
      | exact ih0 _ _ _ _ _
      | exact LeO.none _
      | refine LeO.ite ?_ ?_
      | refine LeO.bind ?_ (fun _ => ?_)
set_option maxHeartbeats 8000000 in
set_option maxRecDepth 100000 in
theorem code_Take.calls (k : Nat) (a0_0 : ByteArray) (a0_1 : Int) (a1 : Int) (a2 : Int) (r1 : Int) (r2 : Int) (r3 : Int) (w : World) (h : code_Take.f k a0_0 a0_1 a1 a2 = some (r1, r2, r3)) :
    Calls Try.prog 61 #[.agg #[.string a0_0, .int .i64 a0_1], .int .i64 a1, .int .i64 a2] w fun e w' => e = .returned (.tuple #[.int .i64 r1, .int .i64 r2, .int .i64 r3]) ∧ Below w.heap.size w w' := by
  have hu27 := Try.underlying27
  have HB := Aside0.mk (Below.refl w.heap.size w)
  have H : ((bits_May.f a0_0 a0_1).bind fun t780 => (if t780 = true then ((code_Is.f a2).bind fun t781 => (if t781 = true then (if a1 < 0 then (code_Take.j0 k a1 a2 true a0_0 a0_1) else (code_Take.j0 k a1 a2 (decide (a1 > a0_1)) a0_0 a0_1)) else (code_Take.j0 k a1 a2 true a0_0 a0_1))) else (code_Take.j0 k a1 a2 true a0_0 a0_1))) = some (r1, r2, r3) := h
  clear h
  have HC4 := Aside0.mk H
  clear H
  go_enter Try.func61, Try.ntmps61
  go_upto_region 1 with (first | ((with_reducible refine gate_dst (N := 3) rfl ?_); refine box_event ?hg (N := 3) ?hd (cs := #[.string a0_0, .int .i64 a0_1]) (t := 27) ?hr ?_; (case hd => rfl); (case hg => rfl); (case hr => first | (go_simp; done) | (go_simp; rfl)); intro gb779 hg w5 hbox hb; have n0_ := Aside0.mk (below_step (by repeat (first | (with_reducible first | exact HB.out | apply below_alloc | apply pw_below_drewN | apply below_drew1) | exact HB.out)) hb); have n1_ := Aside0.mk (hbox); have n2_ := Aside0.mk ((by rw [hg]; exact (below_size (by repeat (first | (with_reducible first | exact HB.out | apply below_alloc | apply pw_below_drewN | apply below_drew1) | exact HB.out))) : w.heap.size ≤ gb779)); have n3_ := Aside0.mk ((by rw [hg]; exact (below_size (by repeat (first | (with_reducible first | exact HB.out | apply below_alloc | apply pw_below_drewN | apply below_drew1) | exact HB.out))) : w.heap.size ≤ gb779)); clear HB; have HB := n0_; have BK779 := n1_; have GW779 := n2_; have GE779 := n3_; clear n0_ n1_ n2_ n3_; clear hb hbox hg))
  (try simp only [Act.put, List.setIfInBounds_toArray, List.set_cons_zero, List.set_cons_succ])
  go_cut [27] (fun v27 wc => ∃ (kq : Nat) (x27_3 : Bool), v27 = .bool x27_3 ∧ Aside0 (code_Take.j0 kq a1 a2 x27_3 a0_0 a0_1 = some (r1, r2, r3)) ∧ Aside0 (kq ≤ k) ∧ Aside0 (wc.heap[gb779]? = some (.cells #[.string a0_0, .int .i64 a0_1] 27 (0, 0))) ∧ Aside0 (Below w.heap.size w wc))
  case first =>
    have H := HC4.out
    clear HC4
    replace H := Option.bind_eq_some_iff.mp H
    obtain ⟨t780, A60, H⟩ := H
    replace H : (if t780 = true then ((code_Is.f a2).bind fun t781 => (if t781 = true then (if a1 < 0 then (code_Take.j0 k a1 a2 true a0_0 a0_1) else (code_Take.j0 k a1 a2 (decide (a1 > a0_1)) a0_0 a0_1)) else (code_Take.j0 k a1 a2 true a0_0 a0_1))) else (code_Take.j0 k a1 a2 true a0_0 a0_1)) = some (r1, r2, r3) := H
    have A6 := Aside0.mk A60
    clear A60
    by_cases c7 : t780 = true
    · subst c7
      have H1 : ((code_Is.f a2).bind fun t781 => (if t781 = true then (if a1 < 0 then (code_Take.j0 k a1 a2 true a0_0 a0_1) else (code_Take.j0 k a1 a2 (decide (a1 > a0_1)) a0_0 a0_1)) else (code_Take.j0 k a1 a2 true a0_0 a0_1))) = some (r1, r2, r3) := by rw [if_pos rfl] at H; exact H
      clear H
      have H := H1
      clear H1
      replace H := Option.bind_eq_some_iff.mp H
      obtain ⟨t781, A80, H⟩ := H
      replace H : (if t781 = true then (if a1 < 0 then (code_Take.j0 k a1 a2 true a0_0 a0_1) else (code_Take.j0 k a1 a2 (decide (a1 > a0_1)) a0_0 a0_1)) else (code_Take.j0 k a1 a2 true a0_0 a0_1)) = some (r1, r2, r3) := H
      have A8 := Aside0.mk A80
      clear A80
      by_cases c9 : t781 = true
      · subst c9
        have H1 : (if a1 < 0 then (code_Take.j0 k a1 a2 true a0_0 a0_1) else (code_Take.j0 k a1 a2 (decide (a1 > a0_1)) a0_0 a0_1)) = some (r1, r2, r3) := by rw [if_pos rfl] at H; exact H
        clear H
        have H := H1
        clear H1
        by_cases c10 : a1 < 0
        · rw [if_pos c10] at H
          have c10b0 : decide (a1 < 0) = true := decide_eq_true c10
          clear c10
          (first | rw [c10b0] | (simp only [i64_w, i32_w]; rw [c10b0]) | skip)
          have H' := Aside0.mk H
          clear H
          have hcz11_0 : w5.cell? ⟨gb779, 0, none⟩ = some (.string a0_0) := (blk_cell BK779.out 0).trans rfl
          have hcz11_1 : w5.cell? ⟨gb779, 1, none⟩ = some (.int .i64 a0_1) := (blk_cell BK779.out 1).trans rfl
          have hfz11_0 := blk_frozen BK779.out 0
          have hfz11_1 := blk_frozen BK779.out 1
          go_wp2_with (first | ((with_reducible refine gate_callee (f := 86) rfl ?_); refine goesL_ (some 11) rfl rfl Try.func86 (by kernel_rfl) rfl #[.agg #[.string a0_0, .int .i64 a0_1]] rfl (by (try simp only [List.map_toArray, List.map_cons, List.map_nil]); first | done | rfl | (simp only [List.length_drop, List.length_take]; rfl)) ?_; (with_reducible refine (bits_May.calls a0_0 a0_1 true _ A6.out).mono ?_); rintro e w12 ⟨rfl, hb⟩; refine ⟨_, rfl, ?_⟩; have n0_ := Aside0.mk (blk_below (g := gb779) (o := .cells #[.string a0_0, .int .i64 a0_1] 27 (0, 0)) (by (with_reducible repeat (first | refine blk_drewN ?_ _ | refine blk_drew ?_ | refine blk_alloc ?_ _)); exact BK779.out) hb); have n1_ := Aside0.mk (below_step (by repeat (first | (with_reducible first | exact HB.out | apply below_alloc | apply pw_below_drewN | apply below_drew1 | refine below_set ?_ GE779.out) | exact HB.out)) hb); clear BK779; clear HB; have BK779 := n0_; have HB := n1_; clear n0_ n1_; (try clear hb); (try clear hb2); (try clear hk); (try clear hi)) | (go_at_call 102; (with_reducible refine (code_Is.calls a2 true _ A8.out).mono ?_); rintro e w' ⟨rfl, ⟨nd, rfl⟩⟩))
          go_meet
          case rel => exact ⟨_, (true), (by first | rfl | (simp; done) | (simp [*]; done)), H', ⟨by first | omega | exact Nat.le_refl _⟩, ⟨by (with_reducible repeat (first | refine blk_drewN ?_ _ | refine blk_drew ?_ | refine blk_alloc ?_ _)); exact BK779.out⟩, ⟨by repeat (first | (with_reducible first | exact HB.out | apply below_alloc | apply pw_below_drewN | apply below_drew1 | refine below_set ?_ GE779.out) | exact HB.out)⟩⟩
        · rw [if_neg c10] at H
          have c10b0 : decide (a1 < 0) = false := decide_eq_false c10
          clear c10
          (first | rw [c10b0] | (simp only [i64_w, i32_w]; rw [c10b0]) | skip)
          have H' := Aside0.mk H
          clear H
          have hcz13_0 : w5.cell? ⟨gb779, 0, none⟩ = some (.string a0_0) := (blk_cell BK779.out 0).trans rfl
          have hcz13_1 : w5.cell? ⟨gb779, 1, none⟩ = some (.int .i64 a0_1) := (blk_cell BK779.out 1).trans rfl
          have hfz13_0 := blk_frozen BK779.out 0
          have hfz13_1 := blk_frozen BK779.out 1
          go_wp2_with (first | ((with_reducible refine gate_callee (f := 86) rfl ?_); refine goesL_ (some 11) rfl rfl Try.func86 (by kernel_rfl) rfl #[.agg #[.string a0_0, .int .i64 a0_1]] rfl (by (try simp only [List.map_toArray, List.map_cons, List.map_nil]); first | done | rfl | (simp only [List.length_drop, List.length_take]; rfl)) ?_; (with_reducible refine (bits_May.calls a0_0 a0_1 true _ A6.out).mono ?_); rintro e w14 ⟨rfl, hb⟩; refine ⟨_, rfl, ?_⟩; have n0_ := Aside0.mk (blk_below (g := gb779) (o := .cells #[.string a0_0, .int .i64 a0_1] 27 (0, 0)) (by (with_reducible repeat (first | refine blk_drewN ?_ _ | refine blk_drew ?_ | refine blk_alloc ?_ _)); exact BK779.out) hb); have n1_ := Aside0.mk (below_step (by repeat (first | (with_reducible first | exact HB.out | apply below_alloc | apply pw_below_drewN | apply below_drew1 | refine below_set ?_ GE779.out) | exact HB.out)) hb); clear BK779; clear HB; have BK779 := n0_; have HB := n1_; clear n0_ n1_; (try clear hb); (try clear hb2); (try clear hk); (try clear hi)) | (go_at_call 102; (with_reducible refine (code_Is.calls a2 true _ A8.out).mono ?_); rintro e w' ⟨rfl, ⟨nd, rfl⟩⟩; have hcz15_0 : w14.cell? ⟨gb779, 0, none⟩ = some (.string a0_0) := (blk_cell BK779.out 0).trans rfl; have hcz15_1 : w14.cell? ⟨gb779, 1, none⟩ = some (.int .i64 a0_1) := (blk_cell BK779.out 1).trans rfl; have hfz15_0 := blk_frozen BK779.out 0; have hfz15_1 := blk_frozen BK779.out 1))
          go_meet
          case rel => exact ⟨_, (decide (a1 > a0_1)), (by first | rfl | (simp; done) | (simp [*]; done)), H', ⟨by first | omega | exact Nat.le_refl _⟩, ⟨by (with_reducible repeat (first | refine blk_drewN ?_ _ | refine blk_drew ?_ | refine blk_alloc ?_ _)); exact BK779.out⟩, ⟨by repeat (first | (with_reducible first | exact HB.out | apply below_alloc | apply pw_below_drewN | apply below_drew1 | refine below_set ?_ GE779.out) | exact HB.out)⟩⟩
      · replace c9 := Bool.eq_false_iff.mpr c9
        subst c9
        have H1 : (code_Take.j0 k a1 a2 true a0_0 a0_1) = some (r1, r2, r3) := by rw [if_neg (show ¬ (false = true) by decide)] at H; exact H
        clear H
        have H := H1
        clear H1
        have H' := Aside0.mk H
        clear H
        have hcz16_0 : w5.cell? ⟨gb779, 0, none⟩ = some (.string a0_0) := (blk_cell BK779.out 0).trans rfl
        have hcz16_1 : w5.cell? ⟨gb779, 1, none⟩ = some (.int .i64 a0_1) := (blk_cell BK779.out 1).trans rfl
        have hfz16_0 := blk_frozen BK779.out 0
        have hfz16_1 := blk_frozen BK779.out 1
        go_wp2_with (first | ((with_reducible refine gate_callee (f := 86) rfl ?_); refine goesL_ (some 11) rfl rfl Try.func86 (by kernel_rfl) rfl #[.agg #[.string a0_0, .int .i64 a0_1]] rfl (by (try simp only [List.map_toArray, List.map_cons, List.map_nil]); first | done | rfl | (simp only [List.length_drop, List.length_take]; rfl)) ?_; (with_reducible refine (bits_May.calls a0_0 a0_1 true _ A6.out).mono ?_); rintro e w17 ⟨rfl, hb⟩; refine ⟨_, rfl, ?_⟩; have n0_ := Aside0.mk (blk_below (g := gb779) (o := .cells #[.string a0_0, .int .i64 a0_1] 27 (0, 0)) (by (with_reducible repeat (first | refine blk_drewN ?_ _ | refine blk_drew ?_ | refine blk_alloc ?_ _)); exact BK779.out) hb); have n1_ := Aside0.mk (below_step (by repeat (first | (with_reducible first | exact HB.out | apply below_alloc | apply pw_below_drewN | apply below_drew1 | refine below_set ?_ GE779.out) | exact HB.out)) hb); clear BK779; clear HB; have BK779 := n0_; have HB := n1_; clear n0_ n1_; (try clear hb); (try clear hb2); (try clear hk); (try clear hi)) | (go_at_call 102; (with_reducible refine (code_Is.calls a2 false _ A8.out).mono ?_); rintro e w' ⟨rfl, ⟨nd, rfl⟩⟩))
        go_meet
        case rel => exact ⟨_, (true), (by first | rfl | (simp; done) | (simp [*]; done)), H', ⟨by first | omega | exact Nat.le_refl _⟩, ⟨by (with_reducible repeat (first | refine blk_drewN ?_ _ | refine blk_drew ?_ | refine blk_alloc ?_ _)); exact BK779.out⟩, ⟨by repeat (first | (with_reducible first | exact HB.out | apply below_alloc | apply pw_below_drewN | apply below_drew1 | refine below_set ?_ GE779.out) | exact HB.out)⟩⟩
    · replace c7 := Bool.eq_false_iff.mpr c7
      subst c7
      have H1 : (code_Take.j0 k a1 a2 true a0_0 a0_1) = some (r1, r2, r3) := by rw [if_neg (show ¬ (false = true) by decide)] at H; exact H
      clear H
      have H := H1
      clear H1
      have H' := Aside0.mk H
      clear H
      have hcz18_0 : w5.cell? ⟨gb779, 0, none⟩ = some (.string a0_0) := (blk_cell BK779.out 0).trans rfl
      have hcz18_1 : w5.cell? ⟨gb779, 1, none⟩ = some (.int .i64 a0_1) := (blk_cell BK779.out 1).trans rfl
      have hfz18_0 := blk_frozen BK779.out 0
      have hfz18_1 := blk_frozen BK779.out 1
      go_wp2_with (first | ((with_reducible refine gate_callee (f := 86) rfl ?_); refine goesL_ (some 11) rfl rfl Try.func86 (by kernel_rfl) rfl #[.agg #[.string a0_0, .int .i64 a0_1]] rfl (by (try simp only [List.map_toArray, List.map_cons, List.map_nil]); first | done | rfl | (simp only [List.length_drop, List.length_take]; rfl)) ?_; (with_reducible refine (bits_May.calls a0_0 a0_1 false _ A6.out).mono ?_); rintro e w19 ⟨rfl, hb⟩; refine ⟨_, rfl, ?_⟩; have n0_ := Aside0.mk (blk_below (g := gb779) (o := .cells #[.string a0_0, .int .i64 a0_1] 27 (0, 0)) (by (with_reducible repeat (first | refine blk_drewN ?_ _ | refine blk_drew ?_ | refine blk_alloc ?_ _)); exact BK779.out) hb); have n1_ := Aside0.mk (below_step (by repeat (first | (with_reducible first | exact HB.out | apply below_alloc | apply pw_below_drewN | apply below_drew1 | refine below_set ?_ GE779.out) | exact HB.out)) hb); clear BK779; clear HB; have BK779 := n0_; have HB := n1_; clear n0_ n1_; (try clear hb); (try clear hb2); (try clear hk); (try clear hi)))
      go_meet
      case rel => exact ⟨_, (true), (by first | rfl | (simp; done) | (simp [*]; done)), H', ⟨by first | omega | exact Nat.le_refl _⟩, ⟨by (with_reducible repeat (first | refine blk_drewN ?_ _ | refine blk_drew ?_ | refine blk_alloc ?_ _)); exact BK779.out⟩, ⟨by repeat (first | (with_reducible first | exact HB.out | apply below_alloc | apply pw_below_drewN | apply below_drew1 | refine below_set ?_ GE779.out) | exact HB.out)⟩⟩
  case rest =>
    clear HC4
    try clear c1
    try clear p2
    try clear c6
    try clear c7
    try clear c8
    try clear c9
    try clear c10
    try clear c10b0
    try clear hcz11_0
    try clear hcz11_1
    try clear hcz13_0
    try clear hcz13_1
    try clear hcz15_0
    try clear hcz15_1
    try clear hcz16_0
    try clear hcz16_1
    try clear hcz18_0
    try clear hcz18_1
    try clear hfz11_0
    try clear hfz11_1
    try clear hfz13_0
    try clear hfz13_1
    try clear hfz15_0
    try clear hfz15_1
    try clear hfz16_0
    try clear hfz16_1
    try clear hfz18_0
    try clear hfz18_1
    obtain ⟨kq, x27_3, rfl, HA, HJ3, BK779, HB⟩ := hcut
    cases kq with
    | zero => exact absurd HA.out (by simp [code_Take.j0])
    | succ kj3 =>
      have H := HA.out
      clear HA
      simp only [code_Take.j0] at H
      by_cases c20 : x27_3 = true
      · subst c20
        have H1 : (some (0, 0, 1)) = some (r1, r2, r3) := by rw [if_pos rfl] at H; exact H
        clear H
        have H := H1
        clear H1
        simp only [Option.some.injEq, Prod.mk.injEq] at H
        obtain ⟨rfl, rfl, rfl⟩ := H
        go_wp2
        go_ret3
        exact ⟨by first | rfl | (simp [errW_none, errW_some] <;> rfl) | (simp [*, errW_none, errW_some] <;> rfl), by repeat (first | (with_reducible first | exact HB.out | apply below_alloc | apply pw_below_drewN | apply below_drew1 | refine below_set ?_ GE779.out) | exact HB.out)⟩
      · replace c20 := Bool.eq_false_iff.mpr c20
        subst c20
        have H1 : ((code_Read.f a0_0 a0_1 a1 a2).bind fun bt782 => (if bt782.2.2 = true then (some (bt782.1, bt782.2.1, 0)) else (some (0, 0, 9)))) = some (r1, r2, r3) := by rw [if_neg (show ¬ (false = true) by decide)] at H; exact H
        clear H
        have H := H1
        clear H1
        replace H := Option.bind_eq_some_iff.mp H
        obtain ⟨⟨t782, t783, t784⟩, A210, H⟩ := H
        replace H : (if t784 = true then (some (t782, t783, 0)) else (some (0, 0, 9))) = some (r1, r2, r3) := H
        have A21 := Aside0.mk A210
        clear A210
        by_cases c22 : t784 = true
        · subst c22
          have H1 : (some (t782, t783, 0)) = some (r1, r2, r3) := by rw [if_pos rfl] at H; exact H
          clear H
          have H := H1
          clear H1
          simp only [Option.some.injEq, Prod.mk.injEq] at H
          obtain ⟨rfl, rfl, rfl⟩ := H
          have hcz23_0 : wc.cell? ⟨gb779, 0, none⟩ = some (.string a0_0) := (blk_cell BK779.out 0).trans rfl
          have hcz23_1 : wc.cell? ⟨gb779, 1, none⟩ = some (.int .i64 a0_1) := (blk_cell BK779.out 1).trans rfl
          have hfz23_0 := blk_frozen BK779.out 0
          have hfz23_1 := blk_frozen BK779.out 1
          go_wp2_with (first | ((with_reducible refine gate_callee (f := 105) rfl ?_); refine goesL_ (some 32) rfl rfl Try.func105 (by kernel_rfl) rfl #[.agg #[.string a0_0, .int .i64 a0_1], .int .i64 a1, .int .i64 a2] rfl (by (try simp only [List.map_toArray, List.map_cons, List.map_nil]); first | done | rfl | (simp only [List.length_drop, List.length_take]; rfl)) ?_; (with_reducible refine (code_Read.calls a0_0 a0_1 a1 a2 t782 t783 true _ A21.out).mono ?_); rintro e w24 ⟨rfl, hb⟩; refine ⟨_, rfl, ?_⟩; have n0_ := Aside0.mk (blk_below (g := gb779) (o := .cells #[.string a0_0, .int .i64 a0_1] 27 (0, 0)) (by (with_reducible repeat (first | refine blk_drewN ?_ _ | refine blk_drew ?_ | refine blk_alloc ?_ _)); exact BK779.out) hb); have n1_ := Aside0.mk (below_step (by repeat (first | (with_reducible first | exact HB.out | apply below_alloc | apply pw_below_drewN | apply below_drew1 | refine below_set ?_ GE779.out) | exact HB.out)) hb); clear BK779; clear HB; have BK779 := n0_; have HB := n1_; clear n0_ n1_; (try clear hb); (try clear hb2); (try clear hk); (try clear hi)))
          go_ret3
          exact ⟨by first | rfl | (simp [errW_none, errW_some] <;> rfl) | (simp [*, errW_none, errW_some] <;> rfl), by repeat (first | (with_reducible first | exact HB.out | apply below_alloc | apply pw_below_drewN | apply below_drew1 | refine below_set ?_ GE779.out) | exact HB.out)⟩
        · replace c22 := Bool.eq_false_iff.mpr c22
          subst c22
          have H1 : (some (0, 0, 9)) = some (r1, r2, r3) := by rw [if_neg (show ¬ (false = true) by decide)] at H; exact H
          clear H
          have H := H1
          clear H1
          simp only [Option.some.injEq, Prod.mk.injEq] at H
          obtain ⟨rfl, rfl, rfl⟩ := H
          have hcz25_0 : wc.cell? ⟨gb779, 0, none⟩ = some (.string a0_0) := (blk_cell BK779.out 0).trans rfl
          have hcz25_1 : wc.cell? ⟨gb779, 1, none⟩ = some (.int .i64 a0_1) := (blk_cell BK779.out 1).trans rfl
          have hfz25_0 := blk_frozen BK779.out 0
          have hfz25_1 := blk_frozen BK779.out 1
          go_wp2_with (first | ((with_reducible refine gate_callee (f := 105) rfl ?_); refine goesL_ (some 32) rfl rfl Try.func105 (by kernel_rfl) rfl #[.agg #[.string a0_0, .int .i64 a0_1], .int .i64 a1, .int .i64 a2] rfl (by (try simp only [List.map_toArray, List.map_cons, List.map_nil]); first | done | rfl | (simp only [List.length_drop, List.length_take]; rfl)) ?_; (with_reducible refine (code_Read.calls a0_0 a0_1 a1 a2 t782 t783 false _ A21.out).mono ?_); rintro e w26 ⟨rfl, hb⟩; refine ⟨_, rfl, ?_⟩; have n0_ := Aside0.mk (blk_below (g := gb779) (o := .cells #[.string a0_0, .int .i64 a0_1] 27 (0, 0)) (by (with_reducible repeat (first | refine blk_drewN ?_ _ | refine blk_drew ?_ | refine blk_alloc ?_ _)); exact BK779.out) hb); have n1_ := Aside0.mk (below_step (by repeat (first | (with_reducible first | exact HB.out | apply below_alloc | apply pw_below_drewN | apply below_drew1 | refine below_set ?_ GE779.out) | exact HB.out)) hb); clear BK779; clear HB; have BK779 := n0_; have HB := n1_; clear n0_ n1_; (try clear hb); (try clear hb2); (try clear hk); (try clear hi)))
          go_ret3
          exact ⟨by first | rfl | (simp [errW_none, errW_some] <;> rfl) | (simp [*, errW_none, errW_some] <;> rfl), by repeat (first | (with_reducible first | exact HB.out | apply below_alloc | apply pw_below_drewN | apply below_drew1 | refine below_set ?_ GE779.out) | exact HB.out)⟩
end Go.Proofs.Ytnpghcikhpglkaa.Q
namespace Go.Proofs.Ytnpghcikhpglkaa.Q
open Go.RowKit Go.Proofs.YtnpghcikhpglkaaW.PrintWords Go.Proofs.YtnpghcikhpglkaaW.PrintLast Go.Proofs.YtnpghcikhpglkaaW.PrintMore
attribute [local go_sem] max2_int min2_int max_two min_two max_three min_three max_four min_four   -- for this text's walks alone
set_option linter.unusedVariables false
set_option linter.unusedSimpArgs false

theorem eqA27 (d : Nat) (w : World) (x0 y0 : ByteArray) (x1 y1 : Int) :
    (Op.equalIn (d + 2) 27 (.agg #[.string x0, .int .i64 x1]) (.agg #[.string y0, .int .i64 y1])).run Try.prog w = .ok (x0.toList == y0.toList && (x1 == y1)) w := by
  refine eqA_of Try.underlying27 (by kernel_rfl) ?_
  refine eqf_cons (by rfl) (by go_simp; rfl) (by go_simp; rfl) (by go_simp) ?_
  exact eqf_last (by rfl) (by go_simp; rfl) (by go_simp; rfl) (by go_simp)
end Go.Proofs.Ytnpghcikhpglkaa.Q
namespace Go.Proofs.Ytnpghcikhpglkaa.Q
open Go.RowKit Go.Proofs.YtnpghcikhpglkaaW.PrintWords Go.Proofs.YtnpghcikhpglkaaW.PrintLast Go.Proofs.YtnpghcikhpglkaaW.PrintMore Go.Proofs.Ytnpghcikhpglkaa.Hand Go.Proofs.Ytnpghcikhpglkaa.Pu
set_option linter.unusedVariables false
set_option linter.unusedSimpArgs false

/-- Bits of a text, one by one behind a row. -/
def rowSeq (s : ByteArray) : Nat → Int → List Int × Int → List Int × Int
  | 0, _, st => st
  | k + 1, i, st => rowSeq s k (i + 1) (rowPut 1 st (bitOf s i))
theorem row_put1 (W : World) (base p : Nat) (bs : List Int) (n v : Int) (hrow : RowIs W base p bs n) (hn : 0 ≤ n) (hlen : (bs.length : Int) = (n + 7) / 8) (hbd : n + 1 ≤ 1073741824) (hbase : base ≤ W.heap.size) :
    Calls Try.prog 89 #[.pointer (some ⟨p, 0, none⟩), .int .i64 v, .int .i64 1] W fun e w' => e = .returned (.tuple #[]) ∧ RowIs w' base p (rowPut 1 (bs, n) v).1 (rowPut 1 (bs, n) v).2 ∧ Below base W w' :=
  row_put W base p bs n v 1 hrow hn hlen hbd hbase
theorem rowPut1_len (st : List Int × Int) (v : Int) (h0 : 0 ≤ st.2) (hl : (st.1.length : Int) = (st.2 + 7) / 8) : ((rowPut 1 st v).1.length : Int) = ((rowPut 1 st v).2 + 7) / 8 :=
  rowBit_len st v 0 h0 hl
theorem start3 (w : World) (o1 o2 o3 : Obj) : (((w.alloc o1).alloc o2).alloc o3).heap[w.heap.size]? = some o1 ∧ (((w.alloc o1).alloc o2).alloc o3).heap[w.heap.size + 1]? = some o2 ∧ (((w.alloc o1).alloc o2).alloc o3).heap[w.heap.size + 2]? = some o3 ∧
    Below w.heap.size w (((w.alloc o1).alloc o2).alloc o3) ∧ (((w.alloc o1).alloc o2).alloc o3).heap.size = w.heap.size + 3 := by
  obtain ⟨h1, h2, h3, h4⟩ := start2 w o1 o2
  have hs : ((w.alloc o1).alloc o2).heap.size = w.heap.size + 2 := by simp
  refine ⟨(Below.heap_alloc _ _ _ (by omega)).trans h1, (Below.heap_alloc _ _ _ (by omega)).trans h2, ?_, h3.alloc (by omega) o3, by simp⟩
  have := heap_alloc_new ((w.alloc o1).alloc o2) o3
  rw [hs] at this
  exact this

set_option maxHeartbeats 4000000 in
set_option maxRecDepth 100000 in
theorem part_walk (s : ByteArray) (n a b : Int) (w : World) (ha : 0 ≤ a) (hb : b ≤ 8 * s.size) (hb2 : b ≤ 1073741824) :
    Calls Try.prog 99 #[.agg #[.string s, .int .i64 n], .int .i64 a, .int .i64 b] w fun e w' => e = .returned (.agg #[.string (strOfNums (rowSeq s (b - a).toNat a ([], 0)).1), .int .i64 (rowSeq s (b - a).toNat a ([], 0)).2]) ∧ Below w.heap.size w w' := by
  have hu := Try.underlying27
  have hu2 := Try.underlying116
  have HS := Aside0.mk (start3 w (.cells #[.string s, .int .i64 n] 27) (.cells #[.string ⟨#[]⟩, .int .i64 0] 27) (.cells #[.slice none 0 0, .int .i64 0] 116))
  go_enter Try.func99, Try.ntmps99
  go_wp2
  go_loopw [8] (fun i wr => ∃ (c : Nat) (st : List Int × Int), i = .int .i64 (a + c) ∧ Aside0 (rowSeq s ((b - a).toNat - c) (a + c) st = rowSeq s (b - a).toNat a ([], 0)) ∧ Aside0 (RowIs wr (w.heap.size + 2) (w.heap.size + 2) st.1 st.2) ∧ Aside0 (st.2 = c) ∧ Aside0 ((st.1.length : Int) = (st.2 + 7) / 8) ∧ c ≤ (b - a).toNat ∧ Aside0 (wr.heap[w.heap.size]? = some (.cells #[.string s, .int .i64 n] 27 (0, 0))) ∧ Aside0 (wr.heap[w.heap.size + 1]? = some (.cells #[.string ⟨#[]⟩, .int .i64 0] 27 (0, 0))) ∧ Aside0 (Below w.heap.size w wr))
    (fun i wr => (b - intOf i).toNat)
  case atStart => exact ⟨0, ([], 0), by go_num, ⟨by simp⟩, ⟨⟨_, HS.out.2.2.1, OwnB.nil _ _, Nat.le_refl _⟩⟩, ⟨rfl⟩, ⟨rfl⟩, Nat.zero_le _, ⟨HS.out.1⟩, ⟨HS.out.2.1⟩, ⟨HS.out.2.2.2.1⟩⟩
  case round =>
    obtain ⟨c, ⟨bs, m⟩, rfl, HSEQ, HROW, HM, HLEN, hc, HA, HR, HB⟩ := hrel
    have hm : Aside0 (m = c) := HM
    obtain ⟨a0, a1, g0, g1⟩ := two_cells HA.out
    obtain ⟨c0, c1, f0, f1⟩ := two_cells HR.out
    by_cases hlt : a + c < b
    · have HBIT := Aside0.mk (bit_some s n (a + c) (by omega) (by omega) (by omega))
      have hc2 : (c : Int) < 1073741824 := by omega
      go_wp2_with (first | (go_at_call 100; ((with_reducible refine (bits_bit.calls s n (a + c) (bitOf s (a + c)) _ HBIT.out).mono ?_); rintro e w2 ⟨rfl, hb3⟩); have HROW2 := Aside0.mk (HROW.out.below hb3); have HBB := Aside0.mk hb3; clear hb3) | (go_at_call 89; ((with_reducible refine (row_put1 _ (w.heap.size + 2) (w.heap.size + 2) bs m (bitOf s (a + c)) HROW2.out ?e1 ?e2 ?e3 ?e4).mono ?_); (case e1 => rw [hm.out]; omega); (case e2 => exact HLEN.out); (case e3 => rw [hm.out]; omega); (case e4 => exact Nat.le_trans (by have := blk_lt HR.out; omega) HBB.out.size); rintro e w3 ⟨rfl, hrow3, hb3⟩); have HROW3 := Aside0.mk hrow3; have HB3 := Aside0.mk hb3; clear hrow3 hb3))
      go_roundw
      case rel =>
        refine ⟨c + 1, rowPut 1 (bs, m) (bitOf s (a + c)), by go_num, ⟨?_⟩, ⟨HROW3.out⟩, ⟨?_⟩, ⟨rowPut1_len (bs, m) _ (by rw [hm.out]; omega) HLEN.out⟩, by omega, ⟨keep2 (keep2 HA.out HBB.out (blk_lt HA.out)) HB3.out (by omega)⟩, ⟨keep2 (keep2 HR.out HBB.out (blk_lt HR.out)) HB3.out (by omega)⟩, ⟨(HB.out.trans (HBB.out.mono HB.out.size)).trans (HB3.out.mono (by omega))⟩⟩
        · rw [← HSEQ.out, show (b - a).toNat - c = ((b - a).toNat - (c + 1)) + 1 by omega, rowSeq, show a + ((c + 1 : Nat) : Int) = a + c + 1 by omega]
        · rw [rowPut_snd, hm.out]; rfl
      case measure => simp [intOf]; omega
    · have hcc : c = (b - a).toNat := by omega
      have HE : Aside0 ((bs, m) = rowSeq s (b - a).toNat a ([], 0)) := ⟨by
        have := HSEQ.out
        rw [hcc, Nat.sub_self, rowSeq] at this
        exact this⟩
      clear hcc
      obtain ⟨sv, hblk, hown, hp⟩ := HROW.out
      obtain ⟨b0, b1, k0, k1⟩ := two_cells hblk
      have hst := hown.drew.str
      clear hblk hown hp
      go_wp2
      go_region
      go_wp2
      refine bodyPost_ret (results_cell_row rfl _ _ (w.heap.size + 1) 27 #[.string (strOfNums bs), .int .i64 m] (0, 0) _ rfl (put2 HR.out) Try.underlying27 rfl (by kernel_rfl)) rfl ⟨by rw [← HE.out], below_drew0 (below_put2 HB.out (by omega) _ _)⟩

/-- So many bits of a text from a place on. -/
def partK (s : ByteArray) : Nat → Int → List Int
  | 0, _ => []
  | k + 1, i => bitOf s i :: partK s k (i + 1)
theorem partK_length (s : ByteArray) (k : Nat) : ∀ i, (partK s k i).length = k := by
  induction k with
  | zero => intro i; rfl
  | succ k ih => intro i; simp [partK, ih]
theorem partK_bits (s : ByteArray) (k : Nat) : ∀ i, IsBits (partK s k i) := by
  induction k with
  | zero => intro i; exact IsBits.nil
  | succ k ih =>
    intro i x hx
    rcases List.mem_cons.1 hx with rfl | hx
    · exact bitOf_bit s i
    · exact ih _ x hx
theorem putL_one (b : Int) (h : b = 0 ∨ b = 1) : putL 1 b = [b] := by rcases h with rfl | rfl <;> rfl
theorem rowSeq_pack (s : ByteArray) (k : Nat) : ∀ (i : Int) (l : List Int), IsBits l → rowSeq s k i (packL l, (l.length : Int)) = (packL (l ++ partK s k i), ((l ++ partK s k i).length : Int)) := by
  induction k with
  | zero => intro i l _; simp [rowSeq, partK]
  | succ k ih =>
    intro i l hl
    have hb := bitOf_bit s i
    rw [rowSeq, rowPut_pack 1 _ (by omega) (by omega) l hl, putL_one _ hb, ih (i + 1) _ (hl.append (fun x hx => by rw [List.mem_singleton.1 hx]; exact hb))]
    simp [partK]

/-- bits.Part. -/
def bits_Part.f (s : ByteArray) (n a b : Int) : Option (ByteArray × Int) :=
  if 0 ≤ a ∧ b ≤ 8 * s.size ∧ b ≤ 1073741824 then some (packS (partK s (b - a).toNat a), ((b - a).toNat : Int)) else none
theorem bits_Part.calls (a0_0 : ByteArray) (a0_1 a1 a2 : Int) (r1 : ByteArray) (r2 : Int) (w : World) (h : bits_Part.f a0_0 a0_1 a1 a2 = some (r1, r2)) :
    Calls Try.prog 99 #[.agg #[.string a0_0, .int .i64 a0_1], .int .i64 a1, .int .i64 a2] w fun e w' => e = .returned (.agg #[.string r1, .int .i64 r2]) ∧ Below w.heap.size w w' := by
  unfold bits_Part.f at h
  by_cases hc : 0 ≤ a1 ∧ a2 ≤ 8 * a0_0.size ∧ a2 ≤ 1073741824
  · rw [if_pos hc] at h
    simp only [Option.some.injEq, Prod.mk.injEq] at h
    obtain ⟨rfl, rfl⟩ := h
    have e := part_walk a0_0 a0_1 a1 a2 w hc.1 hc.2.1 hc.2.2
    have hp := rowSeq_pack a0_0 (a2 - a1).toNat a1 [] IsBits.nil
    have h0 : packL [] = [] := rfl
    rw [h0] at hp
    simp only [List.length_nil, List.nil_append, partK_length] at hp
    have hp' : rowSeq a0_0 (a2 - a1).toNat a1 ([], 0) = (packL (partK a0_0 (a2 - a1).toNat a1), (((a2 - a1).toNat : Nat) : Int)) := hp
    rw [hp'] at e
    exact e
  · rw [if_neg hc] at h
    cases h
end Go.Proofs.Ytnpghcikhpglkaa.Q
namespace Go.Proofs.Ytnpghcikhpglkaa.Q
open Go.RowKit Go.Proofs.YtnpghcikhpglkaaW.PrintWords Go.Proofs.YtnpghcikhpglkaaW.PrintLast Go.Proofs.YtnpghcikhpglkaaW.PrintMore
attribute [local go_sem] max2_int min2_int max_two min_two max_three min_three max_four min_four   -- for this text's walks alone
set_option linter.unusedVariables false
set_option linter.unusedSimpArgs false

/-! ### code_log: function 117 -/
def code_log.f (a0 : Int) : Option (Int) := (bits_Len.f (IntKind.u64.wrap (a0))).bind fun t777 => (some (wrap64 (t777 - 1)))
set_option maxHeartbeats 8000000 in
set_option maxRecDepth 100000 in
theorem code_log.calls (a0 : Int) (r : Int) (w : World) (h : code_log.f a0 = some r) :
    Calls Try.prog 117 #[.int .i64 a0] w fun e w' => e = .returned (.int .i64 r) ∧ Drawn0 w w' := by
  have H : ((bits_Len.f (IntKind.u64.wrap (a0))).bind fun t777 => (some (wrap64 (t777 - 1)))) = some r := h
  clear h
  replace H := Option.bind_eq_some_iff.mp H
  obtain ⟨t777, A20, H⟩ := H
  replace H : (some (wrap64 (t777 - 1))) = some r := H
  have A2 := Aside0.mk A20
  clear A20
  obtain rfl := Option.some.inj H
  go_enter Try.func117, Try.ntmps117
  go_wp2_with (first | ((with_reducible refine gate_callee (f := 125) rfl ?_); refine goesL_ (some 5) rfl rfl Try.func125 (by kernel_rfl) rfl #[.int .u64 (IntKind.u64.wrap (a0))] rfl (by (try simp only [List.map_toArray, List.map_cons, List.map_nil]); first | done | rfl | (simp only [List.length_drop, List.length_take]; rfl)) ?_; (with_reducible refine (bits_Len.calls (IntKind.u64.wrap (a0)) t777 _ A2.out).mono ?_); rintro e w' ⟨rfl, ⟨nd, rfl⟩⟩; refine ⟨_, rfl, ?_⟩))
  go_ret
  exact ⟨by first | rfl | (simp; done) | (simp [*]; done), by repeat (first | exact Drawn0.refl _ | apply Drawn0.step)⟩
end Go.Proofs.Ytnpghcikhpglkaa.Q
namespace Go.Proofs.Ytnpghcikhpglkaa.Q
open Go.RowKit Go.Proofs.YtnpghcikhpglkaaW.PrintWords Go.Proofs.YtnpghcikhpglkaaW.PrintLast Go.Proofs.YtnpghcikhpglkaaW.PrintMore Go.Proofs.Ytnpghcikhpglkaa.Hand Go.Proofs.Ytnpghcikhpglkaa.Pu
set_option linter.unusedVariables false
set_option linter.unusedSimpArgs false

/-- A row that holds these bits. -/
structure RowL (W : World) (base p : Nat) (l : List Int) : Prop where mk :: (out : RowIs W base p (packL l) (l.length : Int)) (bits : IsBits l)
theorem put_rowI (W : World) (base p : Nat) (l : List Int) (v k : Int) (hrow : RowL W base p l) (hv : 0 ≤ v) (hv2 : v < 2 ^ 62) (hk : 0 ≤ k) (hbd : (l.length : Int) + k ≤ 1073741824) (hbase : base ≤ W.heap.size) :
    Calls Try.prog 89 #[.pointer (some ⟨p, 0, none⟩), .int .i64 v, .int .i64 k] W fun e w' => e = .returned (.tuple #[]) ∧ RowL w' base p (l ++ putL k.toNat v) ∧ Below base W w' := by
  obtain ⟨k, rfl⟩ := Int.eq_ofNat_of_zero_le hk
  have h := row_put W base p (packL l) (l.length : Int) v k hrow.out (by omega) (by rw [packL_length]; omega) hbd hbase
  rw [rowPut_pack k v hv hv2 l hrow.bits] at h
  refine h.mono fun e w' ⟨h1, h2, h3⟩ => ⟨h1, ⟨h2, hrow.bits.append (putL_bits _ _)⟩, h3⟩
def unaryL (n : Int) : List Int := putL (n - 1).toNat 0 ++ putL 1 1
set_option maxHeartbeats 4000000 in
set_option maxRecDepth 100000 in
theorem lay_unary (W : World) (base p : Nat) (l : List Int) (n : Int) (hrow : RowL W base p l) (hn : 1 ≤ n) (hn2 : n ≤ 1000) (hlen : l.length ≤ 1000000) (hbase : base ≤ W.heap.size) :
    Calls Try.prog 104 #[.pointer (some ⟨p, 0, none⟩), .int .i64 1, .int .i64 n] W fun e w' => e = .returned (.tuple #[]) ∧ RowL w' base p (l ++ unaryL n) ∧ Below base W w' := by
  have HROW := Aside0.mk hrow
  have HB := Aside0.mk (Below.refl base W)
  have HBASE := Aside0.mk hbase
  clear hrow hbase
  go_enter Try.func104, Try.ntmps104
  go_wp2_with (first | (go_at_call 89; ((with_reducible refine (put_rowI _ base p _ _ _ HROW.out ?e1 ?e2 ?e3 ?e4 ?e5).mono ?_); (case e1 => omega); (case e2 => first | decide | omega); (case e3 => omega); (case e4 => first | omega | (simp only [List.length_append, putL_length]; omega)); (case e5 => exact Nat.le_trans HBASE.out HB.out.size); rintro e w3 ⟨rfl, hrow3, hb3⟩); have HB3 := Aside0.mk (HB.out.trans hb3); have HROW3 := Aside0.mk hrow3; clear hrow3 hb3 HROW HB; have HROW := HROW3; have HB := HB3; clear HROW3 HB3))
  go_end0
  exact ⟨rfl, by unfold unaryL; rw [← List.append_assoc]; exact HROW.out, HB.out⟩
theorem rowL_draw {W w' : World} {base p : Nat} {l : List Int} (h : RowL W base p l) (hd : Drawn0 W w') : RowL w' base p l := ⟨h.out.below hd.below, h.bits⟩
theorem below_draw {W W1 w' : World} {base : Nat} (hB : Below base W W1) (hbase : base ≤ W.heap.size) (hd : Drawn0 W1 w') : Below base W w' := hB.trans (hd.below.mono (Nat.le_trans hbase hB.size))

/-- How many bits a number has, less one. -/
def lg (n : Int) : Int := (Lib.bitLen n.toNat : Int) - 1
theorem lg_facts (n : Int) (h0 : 1 ≤ n) (h1 : n ≤ 1073741824) : code_log.f n = some (lg n) ∧ 0 ≤ lg n ∧ lg n ≤ 30 ∧ (2 : Int) ^ (lg n).toNat ≤ n ∧ n < 2 ^ ((lg n).toNat + 1) := by
  obtain ⟨m, rfl⟩ := Int.eq_ofNat_of_zero_le (show 0 ≤ n by omega)
  have hb := Lib.bitLenAux_bounds 64 m (by omega) (by omega)
  have hb1 : 1 ≤ Lib.bitLen m := hb.1
  have hb2 : 2 ^ (Lib.bitLen m - 1) ≤ m := hb.2.1
  have hb3 : m < 2 ^ Lib.bitLen m := hb.2.2
  have hb4 : Lib.bitLen m ≤ 31 := Lib.bitLen_le m 31 (by omega) (by omega)
  have e : lg (m : Int) = ((Lib.bitLen m - 1 : Nat) : Int) := by unfold lg; rw [Int.toNat_natCast]; omega
  refine ⟨?_, by omega, by omega, ?_, ?_⟩
  · unfold code_log.f
    have hw : IntKind.u64.wrap (m : Int) = (m : Int) := by simp [IntKind.wrap, IntKind.bits, IntKind.signed]; omega
    rw [hw]
    unfold bits_Len.f
    rw [if_pos ⟨by omega, by omega⟩, Option.bind_some, Int.toNat_natCast, wrap_in _ (by omega) (by omega)]
    rfl
  · rw [e, Int.toNat_natCast]; exact_mod_cast hb2
  · rw [e, Int.toNat_natCast, show Lib.bitLen m - 1 + 1 = Lib.bitLen m by omega]; exact_mod_cast hb3
def gammaL (n : Int) : List Int := putL (lg n).toNat 0 ++ putL (lg n + 1).toNat n
def deltaL (n : Int) : List Int := gammaL (lg n + 1) ++ putL (lg n).toNat n
theorem gammaL_length (n : Int) : (gammaL n).length = (lg n).toNat + (lg n + 1).toNat := by simp [gammaL, putL_length]
theorem unaryL_length (n : Int) (h : 1 ≤ n) : (unaryL n).length = n.toNat := by simp [unaryL, putL_length]; omega
set_option maxHeartbeats 4000000 in
set_option maxRecDepth 100000 in
theorem lay_gamma (W : World) (base p : Nat) (l : List Int) (n : Int) (hrow : RowL W base p l) (hn : 1 ≤ n) (hn2 : n ≤ 1073741824) (hlen : l.length ≤ 1000000) (hbase : base ≤ W.heap.size) :
    Calls Try.prog 104 #[.pointer (some ⟨p, 0, none⟩), .int .i64 2, .int .i64 n] W fun e w' => e = .returned (.tuple #[]) ∧ RowL w' base p (l ++ gammaL n) ∧ Below base W w' := by
  have HROW := Aside0.mk hrow
  have HB := Aside0.mk (Below.refl base W)
  have HBASE := Aside0.mk hbase
  obtain ⟨hlog, hg0, hg1, _, _⟩ := lg_facts n hn hn2
  have HG : Aside0 (gammaL n = putL (lg n).toNat 0 ++ putL (lg n + 1).toNat n) := ⟨rfl⟩
  generalize lg n = g at *
  have HLOG := Aside0.mk hlog
  clear hrow hbase hlog
  go_enter Try.func104, Try.ntmps104
  go_wp2_with (first | (go_at_call 117; (with_reducible refine (code_log.calls n g _ HLOG.out).mono ?_); rintro e w3 ⟨rfl, hd3⟩; have HROW3 := Aside0.mk (rowL_draw HROW.out hd3); have HB3 := Aside0.mk (below_draw HB.out HBASE.out hd3); clear hd3 HROW HB; have HROW := HROW3; have HB := HB3; clear HROW3 HB3) | (go_at_call 89; ((with_reducible refine (put_rowI _ base p _ _ _ HROW.out ?e1 ?e2 ?e3 ?e4 ?e5).mono ?_); (case e1 => omega); (case e2 => first | decide | omega); (case e3 => omega); (case e4 => first | omega | (simp only [List.length_append, putL_length]; omega)); (case e5 => exact Nat.le_trans HBASE.out HB.out.size); rintro e w3 ⟨rfl, hrow3, hb3⟩); have HB3 := Aside0.mk (HB.out.trans hb3); have HROW3 := Aside0.mk hrow3; clear hrow3 hb3 HROW HB; have HROW := HROW3; have HB := HB3; clear HROW3 HB3))
  go_end0
  exact ⟨rfl, by rw [HG.out, ← List.append_assoc]; exact HROW.out, HB.out⟩
set_option maxHeartbeats 4000000 in
set_option maxRecDepth 100000 in
theorem lay_delta (W : World) (base p : Nat) (l : List Int) (n : Int) (hrow : RowL W base p l) (hn : 1 ≤ n) (hn2 : n ≤ 1073741824) (hlen : l.length ≤ 900000) (hbase : base ≤ W.heap.size) :
    Calls Try.prog 104 #[.pointer (some ⟨p, 0, none⟩), .int .i64 3, .int .i64 n] W fun e w' => e = .returned (.tuple #[]) ∧ RowL w' base p (l ++ deltaL n) ∧ Below base W w' := by
  have HROW := Aside0.mk hrow
  have HB := Aside0.mk (Below.refl base W)
  have HBASE := Aside0.mk hbase
  obtain ⟨hlog, hg0, hg1, _, _⟩ := lg_facts n hn hn2
  have HG : Aside0 (deltaL n = gammaL (lg n + 1) ++ putL (lg n).toNat n) := ⟨rfl⟩
  have HL := gammaL_length (lg n + 1)
  have hgg := (lg_facts (lg n + 1) (by omega) (by omega)).2.2.1
  have hgl : (gammaL (lg n + 1)).length ≤ 100 := by omega
  clear HL hgg
  generalize lg n = g at *
  have HLOG := Aside0.mk hlog
  clear hrow hbase hlog
  go_enter Try.func104, Try.ntmps104
  go_wp2_with (first | (go_at_call 117; (with_reducible refine (code_log.calls n g _ HLOG.out).mono ?_); rintro e w3 ⟨rfl, hd3⟩; have HROW3 := Aside0.mk (rowL_draw HROW.out hd3); have HB3 := Aside0.mk (below_draw HB.out HBASE.out hd3); clear hd3 HROW HB; have HROW := HROW3; have HB := HB3; clear HROW3 HB3) | (go_at_call 104; ((with_reducible refine (lay_gamma _ base p _ _ HROW.out ?e1 ?e2 ?e3 ?e4).mono ?_); (case e1 => omega); (case e2 => omega); (case e3 => first | omega | (simp only [List.length_append, putL_length]; omega)); (case e4 => exact Nat.le_trans HBASE.out HB.out.size); rintro e w3 ⟨rfl, hrow3, hb3⟩); have HB3 := Aside0.mk (HB.out.trans hb3); have HROW3 := Aside0.mk hrow3; clear hrow3 hb3 HROW HB; have HROW := HROW3; have HB := HB3; clear HROW3 HB3) | (go_at_call 89; ((with_reducible refine (put_rowI _ base p _ _ _ HROW.out ?e1 ?e2 ?e3 ?e4 ?e5).mono ?_); (case e1 => omega); (case e2 => first | decide | omega); (case e3 => omega); (case e4 => first | omega | (simp only [List.length_append, putL_length]; omega)); (case e5 => exact Nat.le_trans HBASE.out HB.out.size); rintro e w3 ⟨rfl, hrow3, hb3⟩); have HB3 := Aside0.mk (HB.out.trans hb3); have HROW3 := Aside0.mk hrow3; clear hrow3 hb3 HROW HB; have HROW := HROW3; have HB := HB3; clear HROW3 HB3))
  go_end0
  exact ⟨rfl, by rw [HG.out, ← List.append_assoc]; exact HROW.out, HB.out⟩
theorem parts4 : code_parts.f 4 = some 2 := by decide +kernel
set_option maxHeartbeats 4000000 in
set_option maxRecDepth 100000 in
theorem lay_zeta2 (W : World) (base p : Nat) (l : List Int) (n g low many size short : Int) (c : List Int) (hrow : RowL W base p l) (hn : 1 ≤ n) (hn2 : n ≤ 1073741824) (hlen : l.length ≤ 900000) (hbase : base ≤ W.heap.size)
    (hlog : code_log.f n = some g) (hg0 : 0 ≤ g) (hg1 : g ≤ 30) (hz : code_zeta.f 2 (Int.tdiv g 2) = some (low, many, size, short)) (hlow0 : 0 ≤ low) (hlow : low ≤ n) (hs : 1 ≤ size) (hs2 : size ≤ 64) (hsh0 : 0 ≤ short) (hsh : short ≤ 4611686017353646080)
    (hc : c = unaryL (Int.tdiv g 2 + 1) ++ (if n - low < short then putL (size - 1).toNat (n - low) else putL size.toNat (n - low + short))) :
    Calls Try.prog 104 #[.pointer (some ⟨p, 0, none⟩), .int .i64 4, .int .i64 n] W fun e w' => e = .returned (.tuple #[]) ∧ RowL w' base p (l ++ c) ∧ Below base W w' := by
  have HROW := Aside0.mk hrow
  have HB := Aside0.mk (Below.refl base W)
  have HBASE := Aside0.mk hbase
  have HLOG := Aside0.mk hlog
  have HZ := Aside0.mk hz
  have HC := Aside0.mk hc
  have HP := Aside0.mk parts4
  have hh0 : 0 ≤ Int.tdiv g 2 ∧ Int.tdiv g 2 ≤ 30 := by rw [Int.tdiv_eq_ediv_of_nonneg hg0]; omega
  have hul : (unaryL (Int.tdiv g 2 + 1)).length ≤ 100 := by rw [unaryL_length _ (by omega)]; omega
  clear hrow hbase hlog hz hc
  by_cases hlt : n - low < short
  · have HC2 := Aside0.mk (HC.out.trans (by rw [if_pos hlt]))
    go_enter Try.func104, Try.ntmps104
    go_wp2_with (first | (go_at_call 117; (with_reducible refine (code_log.calls n g _ HLOG.out).mono ?_); rintro e w3 ⟨rfl, hd3⟩; have HROW3 := Aside0.mk (rowL_draw HROW.out hd3); have HB3 := Aside0.mk (below_draw HB.out HBASE.out hd3); clear hd3 HROW HB; have HROW := HROW3; have HB := HB3; clear HROW3 HB3) | (go_at_call 118; (with_reducible refine (code_parts.calls 4 2 _ HP.out).mono ?_); rintro e w3 ⟨rfl, hd3⟩; have HROW3 := Aside0.mk (rowL_draw HROW.out hd3); have HB3 := Aside0.mk (below_draw HB.out HBASE.out hd3); clear hd3 HROW HB; have HROW := HROW3; have HB := HB3; clear HROW3 HB3) | (go_at_call 119; (with_reducible refine (code_zeta.calls 2 (Int.tdiv g 2) low many size short _ HZ.out).mono ?_); rintro e w3 ⟨rfl, hd3⟩; have HROW3 := Aside0.mk (rowL_draw HROW.out hd3); have HB3 := Aside0.mk (below_draw HB.out HBASE.out hd3); clear hd3 HROW HB; have HROW := HROW3; have HB := HB3; clear HROW3 HB3) | (go_at_call 104; ((with_reducible refine (lay_unary _ base p _ _ HROW.out ?e1 ?e2 ?e3 ?e4).mono ?_); (case e1 => omega); (case e2 => omega); (case e3 => first | omega | (simp only [List.length_append, putL_length]; omega)); (case e4 => exact Nat.le_trans HBASE.out HB.out.size); rintro e w3 ⟨rfl, hrow3, hb3⟩); have HB3 := Aside0.mk (HB.out.trans hb3); have HROW3 := Aside0.mk hrow3; clear hrow3 hb3 HROW HB; have HROW := HROW3; have HB := HB3; clear HROW3 HB3) | (go_at_call 89; ((with_reducible refine (put_rowI _ base p _ _ _ HROW.out ?e1 ?e2 ?e3 ?e4 ?e5).mono ?_); (case e1 => omega); (case e2 => first | decide | omega); (case e3 => omega); (case e4 => first | omega | (simp only [List.length_append, putL_length]; omega)); (case e5 => exact Nat.le_trans HBASE.out HB.out.size); rintro e w3 ⟨rfl, hrow3, hb3⟩); have HB3 := Aside0.mk (HB.out.trans hb3); have HROW3 := Aside0.mk hrow3; clear hrow3 hb3 HROW HB; have HROW := HROW3; have HB := HB3; clear HROW3 HB3))
    go_end0
    exact ⟨rfl, by rw [HC2.out, ← List.append_assoc]; exact HROW.out, HB.out⟩
  · have HC2 := Aside0.mk (HC.out.trans (by rw [if_neg hlt]))
    go_enter Try.func104, Try.ntmps104
    go_wp2_with (first | (go_at_call 117; (with_reducible refine (code_log.calls n g _ HLOG.out).mono ?_); rintro e w3 ⟨rfl, hd3⟩; have HROW3 := Aside0.mk (rowL_draw HROW.out hd3); have HB3 := Aside0.mk (below_draw HB.out HBASE.out hd3); clear hd3 HROW HB; have HROW := HROW3; have HB := HB3; clear HROW3 HB3) | (go_at_call 118; (with_reducible refine (code_parts.calls 4 2 _ HP.out).mono ?_); rintro e w3 ⟨rfl, hd3⟩; have HROW3 := Aside0.mk (rowL_draw HROW.out hd3); have HB3 := Aside0.mk (below_draw HB.out HBASE.out hd3); clear hd3 HROW HB; have HROW := HROW3; have HB := HB3; clear HROW3 HB3) | (go_at_call 119; (with_reducible refine (code_zeta.calls 2 (Int.tdiv g 2) low many size short _ HZ.out).mono ?_); rintro e w3 ⟨rfl, hd3⟩; have HROW3 := Aside0.mk (rowL_draw HROW.out hd3); have HB3 := Aside0.mk (below_draw HB.out HBASE.out hd3); clear hd3 HROW HB; have HROW := HROW3; have HB := HB3; clear HROW3 HB3) | (go_at_call 104; ((with_reducible refine (lay_unary _ base p _ _ HROW.out ?e1 ?e2 ?e3 ?e4).mono ?_); (case e1 => omega); (case e2 => omega); (case e3 => first | omega | (simp only [List.length_append, putL_length]; omega)); (case e4 => exact Nat.le_trans HBASE.out HB.out.size); rintro e w3 ⟨rfl, hrow3, hb3⟩); have HB3 := Aside0.mk (HB.out.trans hb3); have HROW3 := Aside0.mk hrow3; clear hrow3 hb3 HROW HB; have HROW := HROW3; have HB := HB3; clear HROW3 HB3) | (go_at_call 89; ((with_reducible refine (put_rowI _ base p _ _ _ HROW.out ?e1 ?e2 ?e3 ?e4 ?e5).mono ?_); (case e1 => omega); (case e2 => first | decide | omega); (case e3 => omega); (case e4 => first | omega | (simp only [List.length_append, putL_length]; omega)); (case e5 => exact Nat.le_trans HBASE.out HB.out.size); rintro e w3 ⟨rfl, hrow3, hb3⟩); have HB3 := Aside0.mk (HB.out.trans hb3); have HROW3 := Aside0.mk hrow3; clear hrow3 hb3 HROW HB; have HROW := HROW3; have HB := HB3; clear HROW3 HB3))
    go_end0
    exact ⟨rfl, by rw [HC2.out, ← List.append_assoc]; exact HROW.out, HB.out⟩
theorem parts5 : code_parts.f 5 = some 3 := by decide +kernel
set_option maxHeartbeats 4000000 in
set_option maxRecDepth 100000 in
theorem lay_zeta3 (W : World) (base p : Nat) (l : List Int) (n g low many size short : Int) (c : List Int) (hrow : RowL W base p l) (hn : 1 ≤ n) (hn2 : n ≤ 1073741824) (hlen : l.length ≤ 900000) (hbase : base ≤ W.heap.size)
    (hlog : code_log.f n = some g) (hg0 : 0 ≤ g) (hg1 : g ≤ 30) (hz : code_zeta.f 3 (Int.tdiv g 3) = some (low, many, size, short)) (hlow0 : 0 ≤ low) (hlow : low ≤ n) (hs : 1 ≤ size) (hs2 : size ≤ 64) (hsh0 : 0 ≤ short) (hsh : short ≤ 4611686017353646080)
    (hc : c = unaryL (Int.tdiv g 3 + 1) ++ (if n - low < short then putL (size - 1).toNat (n - low) else putL size.toNat (n - low + short))) :
    Calls Try.prog 104 #[.pointer (some ⟨p, 0, none⟩), .int .i64 5, .int .i64 n] W fun e w' => e = .returned (.tuple #[]) ∧ RowL w' base p (l ++ c) ∧ Below base W w' := by
  have HROW := Aside0.mk hrow
  have HB := Aside0.mk (Below.refl base W)
  have HBASE := Aside0.mk hbase
  have HLOG := Aside0.mk hlog
  have HZ := Aside0.mk hz
  have HC := Aside0.mk hc
  have HP := Aside0.mk parts5
  have hh0 : 0 ≤ Int.tdiv g 3 ∧ Int.tdiv g 3 ≤ 30 := by rw [Int.tdiv_eq_ediv_of_nonneg hg0]; omega
  have hul : (unaryL (Int.tdiv g 3 + 1)).length ≤ 100 := by rw [unaryL_length _ (by omega)]; omega
  clear hrow hbase hlog hz hc
  by_cases hlt : n - low < short
  · have HC2 := Aside0.mk (HC.out.trans (by rw [if_pos hlt]))
    go_enter Try.func104, Try.ntmps104
    go_wp2_with (first | (go_at_call 117; (with_reducible refine (code_log.calls n g _ HLOG.out).mono ?_); rintro e w3 ⟨rfl, hd3⟩; have HROW3 := Aside0.mk (rowL_draw HROW.out hd3); have HB3 := Aside0.mk (below_draw HB.out HBASE.out hd3); clear hd3 HROW HB; have HROW := HROW3; have HB := HB3; clear HROW3 HB3) | (go_at_call 118; (with_reducible refine (code_parts.calls 5 3 _ HP.out).mono ?_); rintro e w3 ⟨rfl, hd3⟩; have HROW3 := Aside0.mk (rowL_draw HROW.out hd3); have HB3 := Aside0.mk (below_draw HB.out HBASE.out hd3); clear hd3 HROW HB; have HROW := HROW3; have HB := HB3; clear HROW3 HB3) | (go_at_call 119; (with_reducible refine (code_zeta.calls 3 (Int.tdiv g 3) low many size short _ HZ.out).mono ?_); rintro e w3 ⟨rfl, hd3⟩; have HROW3 := Aside0.mk (rowL_draw HROW.out hd3); have HB3 := Aside0.mk (below_draw HB.out HBASE.out hd3); clear hd3 HROW HB; have HROW := HROW3; have HB := HB3; clear HROW3 HB3) | (go_at_call 104; ((with_reducible refine (lay_unary _ base p _ _ HROW.out ?e1 ?e2 ?e3 ?e4).mono ?_); (case e1 => omega); (case e2 => omega); (case e3 => first | omega | (simp only [List.length_append, putL_length]; omega)); (case e4 => exact Nat.le_trans HBASE.out HB.out.size); rintro e w3 ⟨rfl, hrow3, hb3⟩); have HB3 := Aside0.mk (HB.out.trans hb3); have HROW3 := Aside0.mk hrow3; clear hrow3 hb3 HROW HB; have HROW := HROW3; have HB := HB3; clear HROW3 HB3) | (go_at_call 89; ((with_reducible refine (put_rowI _ base p _ _ _ HROW.out ?e1 ?e2 ?e3 ?e4 ?e5).mono ?_); (case e1 => omega); (case e2 => first | decide | omega); (case e3 => omega); (case e4 => first | omega | (simp only [List.length_append, putL_length]; omega)); (case e5 => exact Nat.le_trans HBASE.out HB.out.size); rintro e w3 ⟨rfl, hrow3, hb3⟩); have HB3 := Aside0.mk (HB.out.trans hb3); have HROW3 := Aside0.mk hrow3; clear hrow3 hb3 HROW HB; have HROW := HROW3; have HB := HB3; clear HROW3 HB3))
    go_end0
    exact ⟨rfl, by rw [HC2.out, ← List.append_assoc]; exact HROW.out, HB.out⟩
  · have HC2 := Aside0.mk (HC.out.trans (by rw [if_neg hlt]))
    go_enter Try.func104, Try.ntmps104
    go_wp2_with (first | (go_at_call 117; (with_reducible refine (code_log.calls n g _ HLOG.out).mono ?_); rintro e w3 ⟨rfl, hd3⟩; have HROW3 := Aside0.mk (rowL_draw HROW.out hd3); have HB3 := Aside0.mk (below_draw HB.out HBASE.out hd3); clear hd3 HROW HB; have HROW := HROW3; have HB := HB3; clear HROW3 HB3) | (go_at_call 118; (with_reducible refine (code_parts.calls 5 3 _ HP.out).mono ?_); rintro e w3 ⟨rfl, hd3⟩; have HROW3 := Aside0.mk (rowL_draw HROW.out hd3); have HB3 := Aside0.mk (below_draw HB.out HBASE.out hd3); clear hd3 HROW HB; have HROW := HROW3; have HB := HB3; clear HROW3 HB3) | (go_at_call 119; (with_reducible refine (code_zeta.calls 3 (Int.tdiv g 3) low many size short _ HZ.out).mono ?_); rintro e w3 ⟨rfl, hd3⟩; have HROW3 := Aside0.mk (rowL_draw HROW.out hd3); have HB3 := Aside0.mk (below_draw HB.out HBASE.out hd3); clear hd3 HROW HB; have HROW := HROW3; have HB := HB3; clear HROW3 HB3) | (go_at_call 104; ((with_reducible refine (lay_unary _ base p _ _ HROW.out ?e1 ?e2 ?e3 ?e4).mono ?_); (case e1 => omega); (case e2 => omega); (case e3 => first | omega | (simp only [List.length_append, putL_length]; omega)); (case e4 => exact Nat.le_trans HBASE.out HB.out.size); rintro e w3 ⟨rfl, hrow3, hb3⟩); have HB3 := Aside0.mk (HB.out.trans hb3); have HROW3 := Aside0.mk hrow3; clear hrow3 hb3 HROW HB; have HROW := HROW3; have HB := HB3; clear HROW3 HB3) | (go_at_call 89; ((with_reducible refine (put_rowI _ base p _ _ _ HROW.out ?e1 ?e2 ?e3 ?e4 ?e5).mono ?_); (case e1 => omega); (case e2 => first | decide | omega); (case e3 => omega); (case e4 => first | omega | (simp only [List.length_append, putL_length]; omega)); (case e5 => exact Nat.le_trans HBASE.out HB.out.size); rintro e w3 ⟨rfl, hrow3, hb3⟩); have HB3 := Aside0.mk (HB.out.trans hb3); have HROW3 := Aside0.mk hrow3; clear hrow3 hb3 HROW HB; have HROW := HROW3; have HB := HB3; clear HROW3 HB3))
    go_end0
    exact ⟨rfl, by rw [HC2.out, ← List.append_assoc]; exact HROW.out, HB.out⟩
end Go.Proofs.Ytnpghcikhpglkaa.Q
namespace Go.Proofs.Ytnpghcikhpglkaa.Q
open Go.RowKit Go.Proofs.YtnpghcikhpglkaaW.PrintWords Go.Proofs.YtnpghcikhpglkaaW.PrintLast Go.Proofs.YtnpghcikhpglkaaW.PrintMore Go.Proofs.Ytnpghcikhpglkaa.Hand Go.Proofs.Ytnpghcikhpglkaa.Pu
set_option linter.unusedVariables false
set_option linter.unusedSimpArgs false

theorem rowL_from {W : World} {base p : Nat} {s : ByteArray} {n : Int} (hm : MayP s n) (h : RowIs W base p (bytesI s) n) : RowL W base p (ofS s n) := by
  refine ⟨?_, ofS_bits s n⟩
  rw [pack_ofS s n hm, ofS_length, Int.toNat_of_nonneg hm.1]
  exact h
/-- What laying a number's code does. -/
@[reducible] def LayP (kind v : Int) (c : List Int) : Prop := ∀ (W : World) (base p : Nat) (l : List Int), RowL W base p l → l.length ≤ 6000 → base ≤ W.heap.size →
    Calls Try.prog 104 #[.pointer (some ⟨p, 0, none⟩), .int .i64 kind, .int .i64 v] W fun e w' => e = .returned (.tuple #[]) ∧ RowL w' base p (l ++ c) ∧ Below base W w'
set_option maxHeartbeats 4000000 in
set_option maxRecDepth 100000 in
theorem cput_no1 (s : ByteArray) (n kind v : Int) (w : World) (hm : ¬ MayP s n) :
    Calls Try.prog 58 #[.agg #[.string s, .int .i64 n], .int .i64 kind, .int .i64 v] w fun e w' => e = .returned (.tuple #[.agg #[.string ⟨#[]⟩, .int .i64 0], .int .i64 1]) ∧ Below w.heap.size w w' := by
  have hu := Try.underlying27
  have HS := Aside0.mk (start2 w (.cells #[.string s, .int .i64 n] 27) (.cells #[.string ⟨#[]⟩, .int .i64 0] 27))
  have HA := Aside0.mk HS.out.1
  have HR := Aside0.mk HS.out.2.1
  have HB := Aside0.mk HS.out.2.2.1
  clear HS
  have A := Aside0.mk (show bits_May.f s n = some false by rw [may_eq, decide_eq_false hm])
  clear hm
  go_enter Try.func58, Try.ntmps58
  go_wp2_with (first | ((with_reducible refine gate_callee (f := 86) rfl ?_); refine goesL_ (some 10) rfl rfl Try.func86 (by kernel_rfl) rfl #[.agg #[.string s, .int .i64 n]] rfl (by (try simp only [List.map_toArray, List.map_cons, List.map_nil]); first | done | rfl) ?_; (with_reducible refine (bits_May.calls s n false _ A.out).mono ?_); rintro e w3 ⟨rfl, hb3⟩; refine ⟨_, rfl, ?_⟩; have HAA := Aside0.mk (keep2 HA.out hb3 (blk_lt HA.out)); have HRR := Aside0.mk (keep2 HR.out hb3 (blk_lt HR.out)); have HBB := Aside0.mk (below_then HB.out HB.out.size hb3); (try clear a0 a1 g0 g1 c0 c1 f0 f1); clear HA HR HB; have HA := HAA; have HR := HRR; have HB := HBB; clear HAA HRR HBB; obtain ⟨a0, a1, g0, g1⟩ := two_cells HA.out; obtain ⟨c0, c1, f0, f1⟩ := two_cells HR.out; clear hb3))
  refine bodyPost_ret (results_list (rs := [.cell 6 27, .tmp 7]) rfl (by simp) (.cell (w.heap.size + 1) 27 #[.string ⟨#[]⟩, .int .i64 0] (0, 0) _ rfl (put2 HR.out) Try.underlying27 rfl (by kernel_rfl) (.tmp .nil))) rfl ⟨rfl, below_put2 HB.out (by omega) _ _⟩
set_option maxHeartbeats 4000000 in
set_option maxRecDepth 100000 in
theorem cput_no2 (s : ByteArray) (n kind v : Int) (w : World) (hm : MayP s n) (hi : code_Is.f kind = some false) :
    Calls Try.prog 58 #[.agg #[.string s, .int .i64 n], .int .i64 kind, .int .i64 v] w fun e w' => e = .returned (.tuple #[.agg #[.string ⟨#[]⟩, .int .i64 0], .int .i64 1]) ∧ Below w.heap.size w w' := by
  have hu := Try.underlying27
  have HS := Aside0.mk (start2 w (.cells #[.string s, .int .i64 n] 27) (.cells #[.string ⟨#[]⟩, .int .i64 0] 27))
  have HA := Aside0.mk HS.out.1
  have HR := Aside0.mk HS.out.2.1
  have HB := Aside0.mk HS.out.2.2.1
  clear HS
  have A := Aside0.mk (show bits_May.f s n = some true by rw [may_eq, decide_eq_true hm])
  have AI := Aside0.mk hi
  clear hm hi
  go_enter Try.func58, Try.ntmps58
  go_wp2_with (first | ((with_reducible refine gate_callee (f := 86) rfl ?_); refine goesL_ (some 10) rfl rfl Try.func86 (by kernel_rfl) rfl #[.agg #[.string s, .int .i64 n]] rfl (by (try simp only [List.map_toArray, List.map_cons, List.map_nil]); first | done | rfl) ?_; (with_reducible refine (bits_May.calls s n true _ A.out).mono ?_); rintro e w3 ⟨rfl, hb3⟩; refine ⟨_, rfl, ?_⟩; have HAA := Aside0.mk (keep2 HA.out hb3 (blk_lt HA.out)); have HRR := Aside0.mk (keep2 HR.out hb3 (blk_lt HR.out)); have HBB := Aside0.mk (below_then HB.out HB.out.size hb3); (try clear a0 a1 g0 g1 c0 c1 f0 f1); clear HA HR HB; have HA := HAA; have HR := HRR; have HB := HBB; clear HAA HRR HBB; obtain ⟨a0, a1, g0, g1⟩ := two_cells HA.out; obtain ⟨c0, c1, f0, f1⟩ := two_cells HR.out; clear hb3) | (go_at_call 102; ((with_reducible refine (code_Is.calls kind false _ AI.out).mono ?_); rintro e w3 ⟨rfl, hd3⟩); have hb3 := hd3.below; clear hd3; have HAA := Aside0.mk (keep2 HA.out hb3 (blk_lt HA.out)); have HRR := Aside0.mk (keep2 HR.out hb3 (blk_lt HR.out)); have HBB := Aside0.mk (below_then HB.out HB.out.size hb3); (try clear a0 a1 g0 g1 c0 c1 f0 f1); clear HA HR HB; have HA := HAA; have HR := HRR; have HB := HBB; clear HAA HRR HBB; obtain ⟨a0, a1, g0, g1⟩ := two_cells HA.out; obtain ⟨c0, c1, f0, f1⟩ := two_cells HR.out; clear hb3))
  refine bodyPost_ret (results_list (rs := [.cell 6 27, .tmp 7]) rfl (by simp) (.cell (w.heap.size + 1) 27 #[.string ⟨#[]⟩, .int .i64 0] (0, 0) _ rfl (put2 HR.out) Try.underlying27 rfl (by kernel_rfl) (.tmp .nil))) rfl ⟨rfl, below_put2 HB.out (by omega) _ _⟩
set_option maxHeartbeats 4000000 in
set_option maxRecDepth 100000 in
theorem cput_no3 (s : ByteArray) (n kind v : Int) (w : World) (hm : MayP s n) (hi : code_Is.f kind = some true) (hv : code_number.f kind v = some false) :
    Calls Try.prog 58 #[.agg #[.string s, .int .i64 n], .int .i64 kind, .int .i64 v] w fun e w' => e = .returned (.tuple #[.agg #[.string ⟨#[]⟩, .int .i64 0], .int .i64 1]) ∧ Below w.heap.size w w' := by
  have hu := Try.underlying27
  have HS := Aside0.mk (start2 w (.cells #[.string s, .int .i64 n] 27) (.cells #[.string ⟨#[]⟩, .int .i64 0] 27))
  have HA := Aside0.mk HS.out.1
  have HR := Aside0.mk HS.out.2.1
  have HB := Aside0.mk HS.out.2.2.1
  clear HS
  have A := Aside0.mk (show bits_May.f s n = some true by rw [may_eq, decide_eq_true hm])
  have AI := Aside0.mk hi
  have AN := Aside0.mk hv
  clear hm hi hv
  go_enter Try.func58, Try.ntmps58
  go_wp2_with (first | ((with_reducible refine gate_callee (f := 86) rfl ?_); refine goesL_ (some 10) rfl rfl Try.func86 (by kernel_rfl) rfl #[.agg #[.string s, .int .i64 n]] rfl (by (try simp only [List.map_toArray, List.map_cons, List.map_nil]); first | done | rfl) ?_; (with_reducible refine (bits_May.calls s n true _ A.out).mono ?_); rintro e w3 ⟨rfl, hb3⟩; refine ⟨_, rfl, ?_⟩; have HAA := Aside0.mk (keep2 HA.out hb3 (blk_lt HA.out)); have HRR := Aside0.mk (keep2 HR.out hb3 (blk_lt HR.out)); have HBB := Aside0.mk (below_then HB.out HB.out.size hb3); (try clear a0 a1 g0 g1 c0 c1 f0 f1); clear HA HR HB; have HA := HAA; have HR := HRR; have HB := HBB; clear HAA HRR HBB; obtain ⟨a0, a1, g0, g1⟩ := two_cells HA.out; obtain ⟨c0, c1, f0, f1⟩ := two_cells HR.out; clear hb3) | (go_at_call 102; ((with_reducible refine (code_Is.calls kind true _ AI.out).mono ?_); rintro e w3 ⟨rfl, hd3⟩); have hb3 := hd3.below; clear hd3; have HAA := Aside0.mk (keep2 HA.out hb3 (blk_lt HA.out)); have HRR := Aside0.mk (keep2 HR.out hb3 (blk_lt HR.out)); have HBB := Aside0.mk (below_then HB.out HB.out.size hb3); (try clear a0 a1 g0 g1 c0 c1 f0 f1); clear HA HR HB; have HA := HAA; have HR := HRR; have HB := HBB; clear HAA HRR HBB; obtain ⟨a0, a1, g0, g1⟩ := two_cells HA.out; obtain ⟨c0, c1, f0, f1⟩ := two_cells HR.out; clear hb3) | (go_at_call 103; ((with_reducible refine (code_number.calls kind v false _ AN.out).mono ?_); rintro e w3 ⟨rfl, hd3⟩); have hb3 := hd3.below; clear hd3; have HAA := Aside0.mk (keep2 HA.out hb3 (blk_lt HA.out)); have HRR := Aside0.mk (keep2 HR.out hb3 (blk_lt HR.out)); have HBB := Aside0.mk (below_then HB.out HB.out.size hb3); (try clear a0 a1 g0 g1 c0 c1 f0 f1); clear HA HR HB; have HA := HAA; have HR := HRR; have HB := HBB; clear HAA HRR HBB; obtain ⟨a0, a1, g0, g1⟩ := two_cells HA.out; obtain ⟨c0, c1, f0, f1⟩ := two_cells HR.out; clear hb3))
  refine bodyPost_ret (results_list (rs := [.cell 6 27, .tmp 7]) rfl (by simp) (.cell (w.heap.size + 1) 27 #[.string ⟨#[]⟩, .int .i64 0] (0, 0) _ rfl (put2 HR.out) Try.underlying27 rfl (by kernel_rfl) (.tmp .nil))) rfl ⟨rfl, below_put2 HB.out (by omega) _ _⟩
set_option maxHeartbeats 4000000 in
set_option maxRecDepth 100000 in
theorem cput_yes (s : ByteArray) (n kind v : Int) (c : List Int) (m : Int) (w : World) (hmm : ((ofS s n ++ c).length : Int) = m) (hm : MayP s n) (hi : code_Is.f kind = some true) (hv : code_number.f kind v = some true) (hlay : LayP kind v c) (hle : m ≤ 6000) :
    Calls Try.prog 58 #[.agg #[.string s, .int .i64 n], .int .i64 kind, .int .i64 v] w fun e w' => e = .returned (.tuple #[.agg #[.string (packS (ofS s n ++ c)), .int .i64 m], .int .i64 0]) ∧ Below w.heap.size w w' := by
  have hu := Try.underlying27
  have HS := Aside0.mk (start2 w (.cells #[.string s, .int .i64 n] 27) (.cells #[.string ⟨#[]⟩, .int .i64 0] 27))
  have HA := Aside0.mk HS.out.1
  have HR := Aside0.mk HS.out.2.1
  have HB := Aside0.mk HS.out.2.2.1
  clear HS
  have A := Aside0.mk (show bits_May.f s n = some true by rw [may_eq, decide_eq_true hm])
  have AI := Aside0.mk hi
  have AN := Aside0.mk hv
  have HLAY := Aside0.mk hlay
  have HLE := Aside0.mk hle
  have HM := Aside0.mk hm
  have HMM := Aside0.mk hmm
  have HLEN : Aside0 ((ofS s n).length ≤ 6000) := ⟨by rw [ofS_length]; have := hm.2.1; omega⟩
  have hsz : s.size ≤ 1073741824 := by have := hm.2.2.1; have := hm.2.1; omega
  clear hm hi hv hlay hle hmm
  go_enter Try.func58, Try.ntmps58
  go_wp2_with (first | ((with_reducible refine gate_callee (f := 86) rfl ?_); refine goesL_ (some 10) rfl rfl Try.func86 (by kernel_rfl) rfl #[.agg #[.string s, .int .i64 n]] rfl (by (try simp only [List.map_toArray, List.map_cons, List.map_nil]); first | done | rfl) ?_; (with_reducible refine (bits_May.calls s n true _ A.out).mono ?_); rintro e w3 ⟨rfl, hb3⟩; refine ⟨_, rfl, ?_⟩; have HAA := Aside0.mk (keep2 HA.out hb3 (blk_lt HA.out)); have HRR := Aside0.mk (keep2 HR.out hb3 (blk_lt HR.out)); have HBB := Aside0.mk (below_then HB.out HB.out.size hb3); (try clear a0 a1 g0 g1 c0 c1 f0 f1); clear HA HR HB; have HA := HAA; have HR := HRR; have HB := HBB; clear HAA HRR HBB; obtain ⟨a0, a1, g0, g1⟩ := two_cells HA.out; obtain ⟨c0, c1, f0, f1⟩ := two_cells HR.out; clear hb3) | (go_at_call 102; ((with_reducible refine (code_Is.calls kind true _ AI.out).mono ?_); rintro e w3 ⟨rfl, hd3⟩); have hb3 := hd3.below; clear hd3; have HAA := Aside0.mk (keep2 HA.out hb3 (blk_lt HA.out)); have HRR := Aside0.mk (keep2 HR.out hb3 (blk_lt HR.out)); have HBB := Aside0.mk (below_then HB.out HB.out.size hb3); (try clear a0 a1 g0 g1 c0 c1 f0 f1); clear HA HR HB; have HA := HAA; have HR := HRR; have HB := HBB; clear HAA HRR HBB; obtain ⟨a0, a1, g0, g1⟩ := two_cells HA.out; obtain ⟨c0, c1, f0, f1⟩ := two_cells HR.out; clear hb3) | (go_at_call 103; ((with_reducible refine (code_number.calls kind v true _ AN.out).mono ?_); rintro e w3 ⟨rfl, hd3⟩); have hb3 := hd3.below; clear hd3; have HAA := Aside0.mk (keep2 HA.out hb3 (blk_lt HA.out)); have HRR := Aside0.mk (keep2 HR.out hb3 (blk_lt HR.out)); have HBB := Aside0.mk (below_then HB.out HB.out.size hb3); (try clear a0 a1 g0 g1 c0 c1 f0 f1); clear HA HR HB; have HA := HAA; have HR := HRR; have HB := HBB; clear HAA HRR HBB; obtain ⟨a0, a1, g0, g1⟩ := two_cells HA.out; obtain ⟨c0, c1, f0, f1⟩ := two_cells HR.out; clear hb3) | (go_at_call 88; have HBASE := Aside0.mk (blk_lt HR.out); ((with_reducible refine (from_ _ s n hsz).mono ?_); rintro e w3 ⟨p, rfl, hrow, hb3⟩); have HROW := Aside0.mk (rowL_from HM.out hrow); have HZ := Aside0.mk hb3.size; clear hrow; have HAA := Aside0.mk (keep2 HA.out hb3 (blk_lt HA.out)); have HRR := Aside0.mk (keep2 HR.out hb3 (blk_lt HR.out)); have HBB := Aside0.mk (below_then HB.out HB.out.size hb3); (try clear a0 a1 g0 g1 c0 c1 f0 f1); clear HA HR HB; have HA := HAA; have HR := HRR; have HB := HBB; clear HAA HRR HBB; obtain ⟨a0, a1, g0, g1⟩ := two_cells HA.out; obtain ⟨c0, c1, f0, f1⟩ := two_cells HR.out; clear hb3) | (go_at_call 104; ((with_reducible refine (HLAY.out _ _ p _ HROW.out HLEN.out HZ.out).mono ?_); rintro e w3 ⟨rfl, hrow3, hb3⟩); have HROW3 := Aside0.mk hrow3; have HAA := Aside0.mk (keep2 HA.out hb3 (Nat.lt_of_succ_lt HBASE.out)); have HRR := Aside0.mk (keep2 HR.out hb3 HBASE.out); have HBB := Aside0.mk (HB.out.trans (hb3.mono (Nat.le_of_lt (Nat.lt_of_succ_lt HBASE.out)))); clear a0 a1 g0 g1 c0 c1 f0 f1; clear HA HR HB hrow3 hb3 HROW; have HA := HAA; have HR := HRR; have HB := HBB; clear HAA HRR HBB; obtain ⟨a0, a1, g0, g1⟩ := two_cells HA.out; obtain ⟨c0, c1, f0, f1⟩ := two_cells HR.out))
  go_wp2_with (first | (go_at_call 90; ((with_reducible refine (row_bits_yes _ _ p _ m (HMM.out ▸ HROW3.out.out) HLE.out).mono ?_); rintro e w3 ⟨rfl, hb3⟩); have HAA := Aside0.mk (keep2 HA.out hb3 (blk_lt HA.out)); have HRR := Aside0.mk (keep2 HR.out hb3 (blk_lt HR.out)); have HBB := Aside0.mk (below_then HB.out HB.out.size hb3); (try clear a0 a1 g0 g1 c0 c1 f0 f1); clear HA HR HB; have HA := HAA; have HR := HRR; have HB := HBB; clear HAA HRR HBB; obtain ⟨a0, a1, g0, g1⟩ := two_cells HA.out; obtain ⟨c0, c1, f0, f1⟩ := two_cells HR.out; clear hb3))
  refine bodyPost_ret (results_list (rs := [.cell 6 27, .tmp 7]) rfl (by simp) (.cell (w.heap.size + 1) 27 #[.string (strOfNums (packL (ofS s n ++ c))), .int .i64 m] (0, 0) _ rfl (put2 HR.out) Try.underlying27 rfl (by kernel_rfl) (.tmp .nil))) rfl ⟨rfl, below_put2 HB.out (by omega) _ _⟩
set_option maxHeartbeats 4000000 in
set_option maxRecDepth 100000 in
theorem cput_no (s : ByteArray) (n kind v : Int) (c : List Int) (m : Int) (w : World) (hmm : ((ofS s n ++ c).length : Int) = m) (hm : MayP s n) (hi : code_Is.f kind = some true) (hv : code_number.f kind v = some true) (hlay : LayP kind v c) (hle : 6000 < m) :
    Calls Try.prog 58 #[.agg #[.string s, .int .i64 n], .int .i64 kind, .int .i64 v] w fun e w' => e = .returned (.tuple #[.agg #[.string ⟨#[]⟩, .int .i64 0], .int .i64 2]) ∧ Below w.heap.size w w' := by
  have hu := Try.underlying27
  have HS := Aside0.mk (start2 w (.cells #[.string s, .int .i64 n] 27) (.cells #[.string ⟨#[]⟩, .int .i64 0] 27))
  have HA := Aside0.mk HS.out.1
  have HR := Aside0.mk HS.out.2.1
  have HB := Aside0.mk HS.out.2.2.1
  clear HS
  have A := Aside0.mk (show bits_May.f s n = some true by rw [may_eq, decide_eq_true hm])
  have AI := Aside0.mk hi
  have AN := Aside0.mk hv
  have HLAY := Aside0.mk hlay
  have HLE := Aside0.mk hle
  have HM := Aside0.mk hm
  have HMM := Aside0.mk hmm
  have HLEN : Aside0 ((ofS s n).length ≤ 6000) := ⟨by rw [ofS_length]; have := hm.2.1; omega⟩
  have hsz : s.size ≤ 1073741824 := by have := hm.2.2.1; have := hm.2.1; omega
  clear hm hi hv hlay hle hmm
  go_enter Try.func58, Try.ntmps58
  go_wp2_with (first | ((with_reducible refine gate_callee (f := 86) rfl ?_); refine goesL_ (some 10) rfl rfl Try.func86 (by kernel_rfl) rfl #[.agg #[.string s, .int .i64 n]] rfl (by (try simp only [List.map_toArray, List.map_cons, List.map_nil]); first | done | rfl) ?_; (with_reducible refine (bits_May.calls s n true _ A.out).mono ?_); rintro e w3 ⟨rfl, hb3⟩; refine ⟨_, rfl, ?_⟩; have HAA := Aside0.mk (keep2 HA.out hb3 (blk_lt HA.out)); have HRR := Aside0.mk (keep2 HR.out hb3 (blk_lt HR.out)); have HBB := Aside0.mk (below_then HB.out HB.out.size hb3); (try clear a0 a1 g0 g1 c0 c1 f0 f1); clear HA HR HB; have HA := HAA; have HR := HRR; have HB := HBB; clear HAA HRR HBB; obtain ⟨a0, a1, g0, g1⟩ := two_cells HA.out; obtain ⟨c0, c1, f0, f1⟩ := two_cells HR.out; clear hb3) | (go_at_call 102; ((with_reducible refine (code_Is.calls kind true _ AI.out).mono ?_); rintro e w3 ⟨rfl, hd3⟩); have hb3 := hd3.below; clear hd3; have HAA := Aside0.mk (keep2 HA.out hb3 (blk_lt HA.out)); have HRR := Aside0.mk (keep2 HR.out hb3 (blk_lt HR.out)); have HBB := Aside0.mk (below_then HB.out HB.out.size hb3); (try clear a0 a1 g0 g1 c0 c1 f0 f1); clear HA HR HB; have HA := HAA; have HR := HRR; have HB := HBB; clear HAA HRR HBB; obtain ⟨a0, a1, g0, g1⟩ := two_cells HA.out; obtain ⟨c0, c1, f0, f1⟩ := two_cells HR.out; clear hb3) | (go_at_call 103; ((with_reducible refine (code_number.calls kind v true _ AN.out).mono ?_); rintro e w3 ⟨rfl, hd3⟩); have hb3 := hd3.below; clear hd3; have HAA := Aside0.mk (keep2 HA.out hb3 (blk_lt HA.out)); have HRR := Aside0.mk (keep2 HR.out hb3 (blk_lt HR.out)); have HBB := Aside0.mk (below_then HB.out HB.out.size hb3); (try clear a0 a1 g0 g1 c0 c1 f0 f1); clear HA HR HB; have HA := HAA; have HR := HRR; have HB := HBB; clear HAA HRR HBB; obtain ⟨a0, a1, g0, g1⟩ := two_cells HA.out; obtain ⟨c0, c1, f0, f1⟩ := two_cells HR.out; clear hb3) | (go_at_call 88; have HBASE := Aside0.mk (blk_lt HR.out); ((with_reducible refine (from_ _ s n hsz).mono ?_); rintro e w3 ⟨p, rfl, hrow, hb3⟩); have HROW := Aside0.mk (rowL_from HM.out hrow); have HZ := Aside0.mk hb3.size; clear hrow; have HAA := Aside0.mk (keep2 HA.out hb3 (blk_lt HA.out)); have HRR := Aside0.mk (keep2 HR.out hb3 (blk_lt HR.out)); have HBB := Aside0.mk (below_then HB.out HB.out.size hb3); (try clear a0 a1 g0 g1 c0 c1 f0 f1); clear HA HR HB; have HA := HAA; have HR := HRR; have HB := HBB; clear HAA HRR HBB; obtain ⟨a0, a1, g0, g1⟩ := two_cells HA.out; obtain ⟨c0, c1, f0, f1⟩ := two_cells HR.out; clear hb3) | (go_at_call 104; ((with_reducible refine (HLAY.out _ _ p _ HROW.out HLEN.out HZ.out).mono ?_); rintro e w3 ⟨rfl, hrow3, hb3⟩); have HROW3 := Aside0.mk hrow3; have HAA := Aside0.mk (keep2 HA.out hb3 (Nat.lt_of_succ_lt HBASE.out)); have HRR := Aside0.mk (keep2 HR.out hb3 HBASE.out); have HBB := Aside0.mk (HB.out.trans (hb3.mono (Nat.le_of_lt (Nat.lt_of_succ_lt HBASE.out)))); clear a0 a1 g0 g1 c0 c1 f0 f1; clear HA HR HB hrow3 hb3 HROW; have HA := HAA; have HR := HRR; have HB := HBB; clear HAA HRR HBB; obtain ⟨a0, a1, g0, g1⟩ := two_cells HA.out; obtain ⟨c0, c1, f0, f1⟩ := two_cells HR.out))
  go_wp2_with (first | (go_at_call 90; ((with_reducible refine (row_bits_no _ _ p _ m (HMM.out ▸ HROW3.out.out) HLE.out).mono ?_); rintro e w3 ⟨rfl, hb3⟩); have HAA := Aside0.mk (keep2 HA.out hb3 (blk_lt HA.out)); have HRR := Aside0.mk (keep2 HR.out hb3 (blk_lt HR.out)); have HBB := Aside0.mk (below_then HB.out HB.out.size hb3); (try clear a0 a1 g0 g1 c0 c1 f0 f1); clear HA HR HB; have HA := HAA; have HR := HRR; have HB := HBB; clear HAA HRR HBB; obtain ⟨a0, a1, g0, g1⟩ := two_cells HA.out; obtain ⟨c0, c1, f0, f1⟩ := two_cells HR.out; clear hb3))
  refine bodyPost_ret (results_list (rs := [.cell 6 27, .tmp 7]) rfl (by simp) (.cell (w.heap.size + 1) 27 #[.string ⟨#[]⟩, .int .i64 0] (0, 0) _ rfl (put2 HR.out) Try.underlying27 rfl (by kernel_rfl) (.tmp .nil))) rfl ⟨rfl, below_put2 HB.out (by omega) _ _⟩
end Go.Proofs.Ytnpghcikhpglkaa.Q
namespace Go.Proofs.Ytnpghcikhpglkaa.Q
open Go.RowKit Go.Proofs.YtnpghcikhpglkaaW.PrintWords Go.Proofs.YtnpghcikhpglkaaW.PrintLast Go.Proofs.YtnpghcikhpglkaaW.PrintMore Go.Proofs.Ytnpghcikhpglkaa.Hand Go.Proofs.Ytnpghcikhpglkaa.Pu
set_option linter.unusedVariables false
set_option linter.unusedSimpArgs false

theorem rowL_new (W : World) : RowL (W.alloc (.cells #[.slice none 0 0, .int .i64 0] 116)) W.heap.size W.heap.size [] :=
  ⟨⟨_, heap_alloc_new W _, OwnB.nil _ _, Nat.le_refl _⟩, IsBits.nil⟩
set_option maxHeartbeats 4000000 in
set_option maxRecDepth 100000 in
theorem csize_no1 (kind v : Int) (w : World) (hi : code_Is.f kind = some false) :
    Calls Try.prog 64 #[.int .i64 kind, .int .i64 v] w fun e w' => e = .returned (.tuple #[.int .i64 0, .int .i64 1]) ∧ Below w.heap.size w w' := by
  have HB := Aside0.mk (Below.refl w.heap.size w)
  have AI := Aside0.mk hi
  clear hi
  go_enter Try.func64, Try.ntmps64
  go_wp2_with (first | (go_at_call 102; ((with_reducible refine (code_Is.calls kind false _ AI.out).mono ?_); rintro e w3 ⟨rfl, hd3⟩); have hb3 := hd3.below; clear hd3; have HBB := Aside0.mk (below_then HB.out HB.out.size hb3); clear HB; have HB := HBB; clear HBB hb3))
  refine bodyPost_ret (results_list (rs := [.tmp 4, .tmp 5]) rfl (by simp) (.tmp (.tmp .nil))) rfl ⟨rfl, HB.out⟩
set_option maxHeartbeats 4000000 in
set_option maxRecDepth 100000 in
theorem csize_no2 (kind v : Int) (w : World) (hi : code_Is.f kind = some true) (hv : code_number.f kind v = some false) :
    Calls Try.prog 64 #[.int .i64 kind, .int .i64 v] w fun e w' => e = .returned (.tuple #[.int .i64 0, .int .i64 1]) ∧ Below w.heap.size w w' := by
  have HB := Aside0.mk (Below.refl w.heap.size w)
  have AI := Aside0.mk hi
  have AN := Aside0.mk hv
  clear hi hv
  go_enter Try.func64, Try.ntmps64
  go_wp2_with (first | (go_at_call 102; ((with_reducible refine (code_Is.calls kind true _ AI.out).mono ?_); rintro e w3 ⟨rfl, hd3⟩); have hb3 := hd3.below; clear hd3; have HBB := Aside0.mk (below_then HB.out HB.out.size hb3); clear HB; have HB := HBB; clear HBB hb3) | (go_at_call 103; ((with_reducible refine (code_number.calls kind v false _ AN.out).mono ?_); rintro e w4 ⟨rfl, hd3⟩); have hb3 := hd3.below; clear hd3; have HBB := Aside0.mk (below_then HB.out HB.out.size hb3); clear HB; have HB := HBB; clear HBB hb3))
  refine bodyPost_ret (results_list (rs := [.tmp 4, .tmp 5]) rfl (by simp) (.tmp (.tmp .nil))) rfl ⟨rfl, HB.out⟩
set_option maxHeartbeats 4000000 in
set_option maxRecDepth 100000 in
theorem csize_yes (kind v : Int) (c : List Int) (m : Int) (w : World) (hmm : (([] ++ c : List Int).length : Int) = m) (hi : code_Is.f kind = some true) (hv : code_number.f kind v = some true) (hlay : LayP kind v c) :
    Calls Try.prog 64 #[.int .i64 kind, .int .i64 v] w fun e w' => e = .returned (.tuple #[.int .i64 m, .int .i64 0]) ∧ Below w.heap.size w w' := by
  have HB := Aside0.mk (Below.refl w.heap.size w)
  have AI := Aside0.mk hi
  have AN := Aside0.mk hv
  have HLAY := Aside0.mk hlay
  have HMM := Aside0.mk hmm
  clear hi hv hlay hmm
  go_enter Try.func64, Try.ntmps64
  go_wp2_with (first | (go_at_call 102; ((with_reducible refine (code_Is.calls kind true _ AI.out).mono ?_); rintro e w3 ⟨rfl, hd3⟩); have hb3 := hd3.below; clear hd3; have HBB := Aside0.mk (below_then HB.out HB.out.size hb3); clear HB; have HB := HBB; clear HBB hb3) | (go_at_call 103; ((with_reducible refine (code_number.calls kind v true _ AN.out).mono ?_); rintro e w4 ⟨rfl, hd3⟩); have hb3 := hd3.below; clear hd3; have HBB := Aside0.mk (below_then HB.out HB.out.size hb3); clear HB; have HB := HBB; clear HBB hb3) | (go_at_call 104; ((with_reducible refine (HLAY.out _ _ _ [] (rowL_new _) (by simp) (by simp)).mono ?_); rintro e w5 ⟨rfl, hrow3, hb3⟩); have HROW3 := Aside0.mk hrow3; have HBB := Aside0.mk ((HB.out.alloc HB.out.size _).trans (hb3.mono HB.out.size)); clear HB hrow3 hb3; have HB := HBB; clear HBB) | (go_at_call 109; ((with_reducible refine (row_size _ _ _ _ m (HMM.out ▸ HROW3.out.out)).mono ?_); rintro e w6 ⟨rfl, rfl⟩)))
  refine bodyPost_ret (results_list (rs := [.tmp 4, .tmp 5]) rfl (by simp) (.tmp (.tmp .nil))) rfl ⟨rfl, HB.out⟩
end Go.Proofs.Ytnpghcikhpglkaa.Q
namespace Go.Proofs.Ytnpghcikhpglkaa.Q
open Go.RowKit Go.Proofs.YtnpghcikhpglkaaW.PrintWords Go.Proofs.YtnpghcikhpglkaaW.PrintLast Go.Proofs.YtnpghcikhpglkaaW.PrintMore Go.Proofs.Ytnpghcikhpglkaa.Hand Go.Proofs.Ytnpghcikhpglkaa.Pu
set_option linter.unusedVariables false
set_option linter.unusedSimpArgs false

def ztGood (kk h : Nat) (q : Int × Int × Int × Int) : Bool :=
  q.1 == ((2 ^ (h * kk) : Nat) : Int) && (q.2.1 == ((2 ^ (h * kk + kk) : Nat) : Int) - ((2 ^ (h * kk) : Nat) : Int) && (Nat.ble 1 q.2.2.1.toNat && (Nat.ble q.2.2.1.toNat 40 && (q.2.2.1 == (q.2.2.1.toNat : Int) && (q.2.2.2 == ((2 ^ q.2.2.1.toNat : Nat) : Int) - q.2.1 && (q.2.2.2 == (q.2.2.2.toNat : Int) && Nat.ble q.2.2.2.toNat 2147483648))))))
def ztOk (kk : Nat) (h : Nat) : Bool := (code_zeta.f (kk : Int) (h : Int)).any (ztGood kk h)
theorem zt2 : ∀ h : Fin 16, ztOk 2 h.val = true := by decide +kernel
theorem zt3 : ∀ h : Fin 11, ztOk 3 h.val = true := by decide +kernel
theorem zt_facts {kk h : Nat} (ho : ztOk kk h = true) : ∃ low many size short : Int, code_zeta.f (kk : Int) (h : Int) = some (low, many, size, short) ∧ low = ((2 ^ (h * kk) : Nat) : Int) ∧ many = ((2 ^ (h * kk + kk) : Nat) : Int) - ((2 ^ (h * kk) : Nat) : Int) ∧ 1 ≤ size ∧ size ≤ 40 ∧ 0 ≤ short ∧ short = ((2 ^ size.toNat : Nat) : Int) - many ∧ short ≤ 2147483648 := by
  unfold ztOk at ho
  generalize code_zeta.f (kk : Int) (h : Int) = o at ho
  cases o with
  | none => cases ho
  | some q =>
    obtain ⟨low, many, size, short⟩ := q
    refine ⟨low, many, size, short, rfl, ?_⟩
    have hg : ztGood kk h (low, many, size, short) = true := ho
    clear ho
    unfold ztGood at hg
    simp only [Bool.and_eq_true, beq_iff_eq, Nat.ble_eq] at hg
    obtain ⟨h1, h2, h3, h4, h5, h6, h7, h8⟩ := hg
    exact ⟨h1, h2, by omega, by omega, by omega, h6, by omega⟩
def zetaL (kk n : Int) : List Int := match code_zeta.f kk (Int.tdiv (lg n) kk) with
  | some (low, _, size, short) => unaryL (Int.tdiv (lg n) kk + 1) ++ (if n - low < short then putL (size - 1).toNat (n - low) else putL size.toNat (n - low + short))
  | none => []
/-- A number's code. -/
def layL (kind n : Int) : List Int := if kind = 1 then unaryL n else if kind = 2 then gammaL n else if kind = 3 then deltaL n else if kind = 4 then zetaL 2 n else zetaL 3 n
theorem low_le {n : Int} {h kk : Nat} (h0 : 1 ≤ n) (h1 : n ≤ 1073741824) (hh : (h : Int) = lg n / (kk : Int)) (hk : 1 ≤ kk) : ((2 ^ (h * kk) : Nat) : Int) ≤ n := by
  obtain ⟨_, g0, g1, g2, g3⟩ := lg_facts n h0 h1
  obtain ⟨g, hg⟩ := Int.eq_ofNat_of_zero_le g0
  rw [hg] at hh g2
  rw [Int.toNat_natCast] at g2
  have hh' : h = g / kk := by exact_mod_cast hh
  have hle : h * kk ≤ g := by rw [hh']; exact Nat.div_mul_le_self g kk
  have := Nat.pow_le_pow_right (n := 2) (by decide) hle
  have h2 : ((2 ^ (h * kk) : Nat) : Int) ≤ ((2 ^ g : Nat) : Int) := by exact_mod_cast this
  have h3 : (((2 : Nat) ^ g : Nat) : Int) = (2 : Int) ^ g := Int.natCast_pow 2 g
  rw [h3] at h2
  exact Int.le_trans h2 g2
theorem lay_p (kind n : Int) (hk : code_Is.f kind = some true) (hn : code_number.f kind n = some true) : LayP kind n (layL kind n) := by
  have hk1 : 1 ≤ kind ∧ kind ≤ 5 := by
    unfold code_Is.f at hk
    split at hk
    · simp only [Option.some.injEq, decide_eq_true_eq] at hk; omega
    · simp at hk
  have hn1 : 1 ≤ n ∧ n ≤ 1073741824 ∧ (kind = 1 → n ≤ 1000) := by
    unfold code_number.f at hn
    split at hn
    · split at hn
      · simp only [Option.some.injEq, decide_eq_true_eq] at hn; omega
      · simp at hn
    · split at hn
      · simp only [Option.some.injEq, decide_eq_true_eq] at hn; omega
      · simp at hn
  obtain ⟨hn0, hn2, hn3⟩ := hn1
  obtain ⟨hlog, g0, g1, g2, g3⟩ := lg_facts n hn0 hn2
  intro W base p l hrow hl hbase
  have hkk : kind = 1 ∨ kind = 2 ∨ kind = 3 ∨ kind = 4 ∨ kind = 5 := by omega
  rcases hkk with rfl | rfl | rfl | rfl | rfl
  · exact lay_unary W base p l n hrow hn0 (hn3 rfl) (by omega) hbase
  · exact lay_gamma W base p l n hrow hn0 hn2 (by omega) hbase
  · exact lay_delta W base p l n hrow hn0 hn2 (by omega) hbase
  · obtain ⟨h, hh⟩ := Int.eq_ofNat_of_zero_le (show 0 ≤ lg n / 2 by omega)
    have ht : Int.tdiv (lg n) 2 = (h : Int) := by rw [Int.tdiv_eq_ediv_of_nonneg g0]; exact hh
    obtain ⟨low, many, size, short, e, e1, e2, e3, e4, e5, e6, e7⟩ := zt_facts (zt2 ⟨h, by omega⟩)
    simp only at e e1
    have hlow : low ≤ n := by rw [e1]; exact low_le hn0 hn2 hh.symm (by omega)
    have hp : 0 < 2 ^ (h * 2) := Nat.pow_pos (by decide)
    have e' : code_zeta.f 2 (Int.tdiv (lg n) 2) = some (low, many, size, short) := by rw [ht]; exact e
    exact lay_zeta2 W base p l n (lg n) low many size short (layL 4 n) hrow hn0 hn2 (by omega) hbase hlog g0 g1 e' (by omega) hlow e3 (by omega) e5 (by omega) (by unfold layL zetaL; rw [if_neg (by decide), if_neg (by decide), if_neg (by decide), if_pos rfl, e'])
  · obtain ⟨h, hh⟩ := Int.eq_ofNat_of_zero_le (show 0 ≤ lg n / 3 by omega)
    have ht : Int.tdiv (lg n) 3 = (h : Int) := by rw [Int.tdiv_eq_ediv_of_nonneg g0]; exact hh
    obtain ⟨low, many, size, short, e, e1, e2, e3, e4, e5, e6, e7⟩ := zt_facts (zt3 ⟨h, by omega⟩)
    simp only at e e1
    have hlow : low ≤ n := by rw [e1]; exact low_le hn0 hn2 hh.symm (by omega)
    have hp : 0 < 2 ^ (h * 3) := Nat.pow_pos (by decide)
    have e' : code_zeta.f 3 (Int.tdiv (lg n) 3) = some (low, many, size, short) := by rw [ht]; exact e
    exact lay_zeta3 W base p l n (lg n) low many size short (layL 5 n) hrow hn0 hn2 (by omega) hbase hlog g0 g1 e' (by omega) hlow e3 (by omega) e5 (by omega) (by unfold layL zetaL; rw [if_neg (by decide), if_neg (by decide), if_neg (by decide), if_neg (by decide), e'])

/-- code.Put. -/
def code_Put.f (s : ByteArray) (n kind v : Int) : Option (ByteArray × Int × Int) :=
  if MayP s n then (code_Is.f kind).bind fun i => if i = true then (code_number.f kind v).bind fun m => if m = true then
    (if ((ofS s n ++ layL kind v).length : Int) ≤ 6000 then some (packS (ofS s n ++ layL kind v), ((ofS s n ++ layL kind v).length : Int), 0) else some (⟨#[]⟩, 0, 2)) else some (⟨#[]⟩, 0, 1) else some (⟨#[]⟩, 0, 1)
  else some (⟨#[]⟩, 0, 1)
theorem code_Put.calls (s : ByteArray) (n kind v : Int) (r1 : ByteArray) (r2 r3 : Int) (w : World) (h : code_Put.f s n kind v = some (r1, r2, r3)) :
    Calls Try.prog 58 #[.agg #[.string s, .int .i64 n], .int .i64 kind, .int .i64 v] w fun e w' => e = .returned (.tuple #[.agg #[.string r1, .int .i64 r2], .int .i64 r3]) ∧ Below w.heap.size w w' := by
  unfold code_Put.f at h
  split at h
  · rename_i hm
    obtain ⟨i, hi, h⟩ := Option.bind_eq_some_iff.1 h
    cases i with
    | false =>
      rw [if_neg (by simp)] at h
      simp only [Option.some.injEq, Prod.mk.injEq] at h
      obtain ⟨rfl, rfl, rfl⟩ := h
      exact cput_no2 s n kind v w hm hi
    | true =>
      rw [if_pos rfl] at h
      obtain ⟨m, hv, h⟩ := Option.bind_eq_some_iff.1 h
      cases m with
      | false =>
        rw [if_neg (by simp)] at h
        simp only [Option.some.injEq, Prod.mk.injEq] at h
        obtain ⟨rfl, rfl, rfl⟩ := h
        exact cput_no3 s n kind v w hm hi hv
      | true =>
        rw [if_pos rfl] at h
        split at h
        · rename_i hle
          simp only [Option.some.injEq, Prod.mk.injEq] at h
          obtain ⟨rfl, rfl, rfl⟩ := h
          exact cput_yes s n kind v (layL kind v) _ w rfl hm hi hv (lay_p kind v hi hv) hle
        · rename_i hle
          simp only [Option.some.injEq, Prod.mk.injEq] at h
          obtain ⟨rfl, rfl, rfl⟩ := h
          exact cput_no s n kind v (layL kind v) _ w rfl hm hi hv (lay_p kind v hi hv) (by omega)
  · rename_i hm
    simp only [Option.some.injEq, Prod.mk.injEq] at h
    obtain ⟨rfl, rfl, rfl⟩ := h
    exact cput_no1 s n kind v w hm
/-- code.Size. -/
def code_Size.f (kind v : Int) : Option (Int × Int) :=
  (code_Is.f kind).bind fun i => if i = true then (code_number.f kind v).bind fun m => if m = true then some (((layL kind v).length : Int), 0) else some (0, 1) else some (0, 1)
theorem code_Size.calls (kind v r1 r2 : Int) (w : World) (h : code_Size.f kind v = some (r1, r2)) :
    Calls Try.prog 64 #[.int .i64 kind, .int .i64 v] w fun e w' => e = .returned (.tuple #[.int .i64 r1, .int .i64 r2]) ∧ Below w.heap.size w w' := by
  unfold code_Size.f at h
  obtain ⟨i, hi, h⟩ := Option.bind_eq_some_iff.1 h
  cases i with
  | false =>
    rw [if_neg (by simp)] at h
    simp only [Option.some.injEq, Prod.mk.injEq] at h
    obtain ⟨rfl, rfl⟩ := h
    exact csize_no1 kind v w hi
  | true =>
    rw [if_pos rfl] at h
    obtain ⟨m, hv, h⟩ := Option.bind_eq_some_iff.1 h
    cases m with
    | false =>
      rw [if_neg (by simp)] at h
      simp only [Option.some.injEq, Prod.mk.injEq] at h
      obtain ⟨rfl, rfl⟩ := h
      exact csize_no2 kind v w hi hv
    | true =>
      rw [if_pos rfl] at h
      simp only [Option.some.injEq, Prod.mk.injEq] at h
      obtain ⟨rfl, rfl⟩ := h
      exact csize_yes kind v (layL kind v) _ w (by rw [List.nil_append]) hi hv (lay_p kind v hi hv)
end Go.Proofs.Ytnpghcikhpglkaa.Q
namespace Go.Proofs.Ytnpghcikhpglkaa.Q
open Go.RowKit Go.Proofs.YtnpghcikhpglkaaW.PrintWords Go.Proofs.YtnpghcikhpglkaaW.PrintLast Go.Proofs.YtnpghcikhpglkaaW.PrintMore
attribute [local go_sem] max2_int min2_int max_two min_two max_three min_three max_four min_four   -- for this text's walks alone
set_option linter.unusedVariables false
set_option linter.unusedSimpArgs false

attribute [local go_sem high] eqA27
/-! ### herbariumlaw2_wakes: function 62 -/
def herbariumlaw2_wakes.f (k : Nat)  : Option (Bool) := (code_Put.f (⟨#[]⟩ : ByteArray) 0 2 5).bind fun bt785 => ((code_Take.f k bt785.1 bt785.2.1 0 2).bind fun bt789 => ((herbariumlaw2_num.f bt785.2.2).bind fun t792 => (if t792 = 0 then ((herbariumlaw2_num.f bt789.2.2).bind fun t793 => (if t793 = 0 then (if (bt785.1.toList == ([40] : List UInt8) && (bt785.2.1 == 5)) = true then (if bt789.1 = 5 then (some (bt789.2.1 == 5)) else (some false)) else (some false)) else (some false))) else (some false))))
theorem herbariumlaw2_wakes.mono : ∀ k, LeO (herbariumlaw2_wakes.f k ) (herbariumlaw2_wakes.f (k + 1) ) := by
  intro  k
  unfold herbariumlaw2_wakes.f
  repeat' first
      | (with_reducible exact code_Take.mono _ _ _ _ _)
      | (with_reducible exact LeO.refl _)
      | (with_reducible exact LeO.none _)
      | (with_reducible refine LeO.ite ?_ ?_)
      | (with_reducible refine LeO.bind ?_ (fun _ => ?_))
      | exact code_Take.mono _ _ _ _ _
      | exact LeO.none _
      | refine LeO.ite ?_ ?_
      | refine LeO.bind ?_ (fun _ => ?_)
set_option maxHeartbeats 8000000 in
set_option maxRecDepth 100000 in
theorem herbariumlaw2_wakes.calls (k : Nat)  (r : Bool) (w : World) (h : herbariumlaw2_wakes.f k  = some r) :
    Calls Try.prog 62 #[] w fun e w' => e = .returned (.bool r) ∧ Below w.heap.size w w' := by
  have hu27 := Try.underlying27
  have HB := Aside0.mk (Below.refl w.heap.size w)
  have H : ((code_Put.f (⟨#[]⟩ : ByteArray) 0 2 5).bind fun bt785 => ((code_Take.f k bt785.1 bt785.2.1 0 2).bind fun bt789 => ((herbariumlaw2_num.f bt785.2.2).bind fun t792 => (if t792 = 0 then ((herbariumlaw2_num.f bt789.2.2).bind fun t793 => (if t793 = 0 then (if (bt785.1.toList == ([40] : List UInt8) && (bt785.2.1 == 5)) = true then (if bt789.1 = 5 then (some (bt789.2.1 == 5)) else (some false)) else (some false)) else (some false))) else (some false))))) = some r := h
  clear h
  replace H := Option.bind_eq_some_iff.mp H
  obtain ⟨⟨t785, t786, t787⟩, A10, H⟩ := H
  replace H : ((code_Take.f k t785 t786 0 2).bind fun bt789 => ((herbariumlaw2_num.f t787).bind fun t792 => (if t792 = 0 then ((herbariumlaw2_num.f bt789.2.2).bind fun t793 => (if t793 = 0 then (if (t785.toList == ([40] : List UInt8) && (t786 == 5)) = true then (if bt789.1 = 5 then (some (bt789.2.1 == 5)) else (some false)) else (some false)) else (some false))) else (some false)))) = some r := H
  have A1 := Aside0.mk A10
  clear A10
  replace H := Option.bind_eq_some_iff.mp H
  obtain ⟨⟨t789, t790, t791⟩, A20, H⟩ := H
  replace H : ((herbariumlaw2_num.f t787).bind fun t792 => (if t792 = 0 then ((herbariumlaw2_num.f t791).bind fun t793 => (if t793 = 0 then (if (t785.toList == ([40] : List UInt8) && (t786 == 5)) = true then (if t789 = 5 then (some (t790 == 5)) else (some false)) else (some false)) else (some false))) else (some false))) = some r := H
  have A2 := Aside0.mk A20
  clear A20
  replace H := Option.bind_eq_some_iff.mp H
  obtain ⟨t792, A30, H⟩ := H
  replace H : (if t792 = 0 then ((herbariumlaw2_num.f t791).bind fun t793 => (if t793 = 0 then (if (t785.toList == ([40] : List UInt8) && (t786 == 5)) = true then (if t789 = 5 then (some (t790 == 5)) else (some false)) else (some false)) else (some false))) else (some false)) = some r := H
  have A3 := Aside0.mk A30
  clear A30
  by_cases c4 : t792 = 0
  · rw [if_pos c4] at H
    have c4b0 : (t792 == 0) = true := beq_iff_eq.mpr c4
    have c4b1 : (t792 != 0) = false := bne_eq_false_iff_eq.mpr c4
    clear c4
    replace H := Option.bind_eq_some_iff.mp H
    obtain ⟨t793, A50, H⟩ := H
    replace H : (if t793 = 0 then (if (t785.toList == ([40] : List UInt8) && (t786 == 5)) = true then (if t789 = 5 then (some (t790 == 5)) else (some false)) else (some false)) else (some false)) = some r := H
    have A5 := Aside0.mk A50
    clear A50
    by_cases c6 : t793 = 0
    · rw [if_pos c6] at H
      have c6b0 : (t793 == 0) = true := beq_iff_eq.mpr c6
      have c6b1 : (t793 != 0) = false := bne_eq_false_iff_eq.mpr c6
      clear c6
      by_cases c7 : (t785.toList == ([40] : List UInt8) && (t786 == 5)) = true
      · rw [if_pos c7] at H
        have c7b0 : (t785.toList == ([40] : List UInt8) && (t786 == 5)) = true := c7
        (try (have c7b1 : decide (t785.toList = ([40] : List UInt8) && (t786 == 5)) = true := by simpa using c7))
        (try (have c7b2 : (t785.toList == ([40] : List UInt8) && (t786 == 5)) = true := by simpa using c7))
        clear c7
        by_cases c8 : t789 = 5
        · rw [if_pos c8] at H
          have c8b0 : (t789 == 5) = true := beq_iff_eq.mpr c8
          have c8b1 : (t789 != 5) = false := bne_eq_false_iff_eq.mpr c8
          clear c8
          obtain rfl := Option.some.inj H
          go_enter Try.func62, Try.ntmps62
          go_wp2_with (first | ((with_reducible refine gate_callee (f := 58) rfl ?_); refine goesL_ (some 8) rfl rfl Try.func58 (by kernel_rfl) rfl #[.agg #[.string (⟨#[]⟩ : ByteArray), .int .i64 0], .int .i64 2, .int .i64 5] rfl (by (try simp only [List.map_toArray, List.map_cons, List.map_nil]); first | done | rfl | (simp only [List.length_drop, List.length_take]; rfl)) ?_; (with_reducible refine (code_Put.calls (⟨#[]⟩ : ByteArray) 0 2 5 t785 t786 t787 _ A1.out).mono ?_); rintro e w9 ⟨rfl, hb⟩; refine ⟨_, rfl, ?_⟩; have n0_ := Aside0.mk (below_step (by repeat (first | (with_reducible first | exact HB.out | apply below_alloc | apply pw_below_drewN | apply below_drew1) | exact HB.out)) hb); clear HB; have HB := n0_; clear n0_; (try clear hb); (try clear hb2); (try clear hk); (try clear hi)) | ((with_reducible refine gate_dst (N := 1) rfl ?_); refine box_event ?hg (N := 1) ?hd (cs := #[.string (⟨#[]⟩ : ByteArray), .int .i64 0]) (t := 27) ?hr ?_; (case hd => rfl); (case hg => rfl); (case hr => first | (go_simp; done) | (go_simp; rfl)); intro gb788 hg w10 hbox hb; have n0_ := Aside0.mk (below_step (by repeat (first | (with_reducible first | exact HB.out | apply below_alloc | apply pw_below_drewN | apply below_drew1) | exact HB.out)) hb); have n1_ := Aside0.mk (hbox); have n2_ := Aside0.mk ((by rw [hg]; exact (below_size (by repeat (first | (with_reducible first | exact HB.out | apply below_alloc | apply pw_below_drewN | apply below_drew1) | exact HB.out))) : w.heap.size ≤ gb788)); have n3_ := Aside0.mk ((by rw [hg]; exact (below_size (by repeat (first | (with_reducible first | exact HB.out | apply below_alloc | apply pw_below_drewN | apply below_drew1) | exact HB.out))) : w.heap.size ≤ gb788)); clear HB; have HB := n0_; have BK788 := n1_; have GW788 := n2_; have GE788 := n3_; clear n0_ n1_ n2_ n3_; clear hb hbox hg; have hcz11_0 : w10.cell? ⟨gb788, 0, none⟩ = some (.string (⟨#[]⟩ : ByteArray)) := (blk_cell BK788.out 0).trans rfl; have hcz11_1 : w10.cell? ⟨gb788, 1, none⟩ = some (.int .i64 0) := (blk_cell BK788.out 1).trans rfl; have hfz11_0 := blk_frozen BK788.out 0; have hfz11_1 := blk_frozen BK788.out 1) | ((with_reducible refine gate_callee (f := 61) rfl ?_); refine goesL_ (some 13) rfl rfl Try.func61 (by kernel_rfl) rfl #[.agg #[.string t785, .int .i64 t786], .int .i64 0, .int .i64 2] rfl (by (try simp only [List.map_toArray, List.map_cons, List.map_nil]); first | done | rfl | (simp only [List.length_drop, List.length_take]; rfl)) ?_; (with_reducible refine (code_Take.calls k t785 t786 0 2 t789 t790 t791 _ A2.out).mono ?_); rintro e w12 ⟨rfl, hb⟩; refine ⟨_, rfl, ?_⟩; have n0_ := Aside0.mk (blk_below (g := gb788) (o := .cells #[.string t785, .int .i64 t786] 27 (0, 0)) (by (with_reducible repeat (first | refine blk_drewN ?_ _ | refine blk_drew ?_ | refine blk_alloc ?_ _)); refine blk_put (cs := #[.string t785, .int .i64 0]) ?_ 1 _ rfl; (with_reducible repeat (first | refine blk_drewN ?_ _ | refine blk_drew ?_ | refine blk_alloc ?_ _)); refine blk_put (cs := #[.string (⟨#[]⟩ : ByteArray), .int .i64 0]) ?_ 0 _ rfl; (with_reducible repeat (first | refine blk_drewN ?_ _ | refine blk_drew ?_ | refine blk_alloc ?_ _)); exact BK788.out) hb); have n1_ := Aside0.mk (below_step (by repeat (first | (with_reducible first | exact HB.out | apply below_alloc | apply pw_below_drewN | apply below_drew1 | refine below_set ?_ GE788.out) | exact HB.out)) hb); clear BK788; clear HB; have BK788 := n0_; have HB := n1_; clear n0_ n1_; (try clear hb); (try clear hb2); (try clear hk); (try clear hi)) | ((with_reducible refine gate_callee (f := 59) rfl ?_); refine goesL_ (some 18) rfl rfl Try.func59 (by kernel_rfl) rfl #[.int .i64 t787] rfl (by (try simp only [List.map_toArray, List.map_cons, List.map_nil]); first | done | rfl | (simp only [List.length_drop, List.length_take]; rfl)) ?_; (with_reducible refine (herbariumlaw2_num.calls t787 t792 _ A3.out).mono ?_); rintro e w' ⟨rfl, ⟨nd, rfl⟩⟩; refine ⟨_, rfl, ?_⟩) | (go_at_call 59; (with_reducible refine (herbariumlaw2_num.calls t791 t793 _ A5.out).mono ?_); rintro e w' ⟨rfl, ⟨nd, rfl⟩⟩; have hcz13_0 : w12.cell? ⟨gb788, 0, none⟩ = some (.string t785) := (blk_cell BK788.out 0).trans rfl; have hcz13_1 : w12.cell? ⟨gb788, 1, none⟩ = some (.int .i64 t786) := (blk_cell BK788.out 1).trans rfl; have hfz13_0 := blk_frozen BK788.out 0; have hfz13_1 := blk_frozen BK788.out 1))
          go_ret
          exact ⟨by first | rfl | (simp [errW_none, errW_some] <;> rfl) | (simp [*, errW_none, errW_some] <;> rfl), by repeat (first | (with_reducible first | exact HB.out | apply below_alloc | apply pw_below_drewN | apply below_drew1 | refine below_set ?_ GE788.out) | exact HB.out)⟩
        · rw [if_neg c8] at H
          have c8b0 : (t789 == 5) = false := beq_eq_false_iff_ne.mpr c8
          have c8b1 : (t789 != 5) = true := bne_iff_ne.mpr c8
          obtain rfl := Option.some.inj H
          go_enter Try.func62, Try.ntmps62
          go_wp2_with (first | ((with_reducible refine gate_callee (f := 58) rfl ?_); refine goesL_ (some 8) rfl rfl Try.func58 (by kernel_rfl) rfl #[.agg #[.string (⟨#[]⟩ : ByteArray), .int .i64 0], .int .i64 2, .int .i64 5] rfl (by (try simp only [List.map_toArray, List.map_cons, List.map_nil]); first | done | rfl | (simp only [List.length_drop, List.length_take]; rfl)) ?_; (with_reducible refine (code_Put.calls (⟨#[]⟩ : ByteArray) 0 2 5 t785 t786 t787 _ A1.out).mono ?_); rintro e w14 ⟨rfl, hb⟩; refine ⟨_, rfl, ?_⟩; have n0_ := Aside0.mk (below_step (by repeat (first | (with_reducible first | exact HB.out | apply below_alloc | apply pw_below_drewN | apply below_drew1) | exact HB.out)) hb); clear HB; have HB := n0_; clear n0_; (try clear hb); (try clear hb2); (try clear hk); (try clear hi)) | ((with_reducible refine gate_dst (N := 1) rfl ?_); refine box_event ?hg (N := 1) ?hd (cs := #[.string (⟨#[]⟩ : ByteArray), .int .i64 0]) (t := 27) ?hr ?_; (case hd => rfl); (case hg => rfl); (case hr => first | (go_simp; done) | (go_simp; rfl)); intro gb788 hg w15 hbox hb; have n0_ := Aside0.mk (below_step (by repeat (first | (with_reducible first | exact HB.out | apply below_alloc | apply pw_below_drewN | apply below_drew1) | exact HB.out)) hb); have n1_ := Aside0.mk (hbox); have n2_ := Aside0.mk ((by rw [hg]; exact (below_size (by repeat (first | (with_reducible first | exact HB.out | apply below_alloc | apply pw_below_drewN | apply below_drew1) | exact HB.out))) : w.heap.size ≤ gb788)); have n3_ := Aside0.mk ((by rw [hg]; exact (below_size (by repeat (first | (with_reducible first | exact HB.out | apply below_alloc | apply pw_below_drewN | apply below_drew1) | exact HB.out))) : w.heap.size ≤ gb788)); clear HB; have HB := n0_; have BK788 := n1_; have GW788 := n2_; have GE788 := n3_; clear n0_ n1_ n2_ n3_; clear hb hbox hg; have hcz16_0 : w15.cell? ⟨gb788, 0, none⟩ = some (.string (⟨#[]⟩ : ByteArray)) := (blk_cell BK788.out 0).trans rfl; have hcz16_1 : w15.cell? ⟨gb788, 1, none⟩ = some (.int .i64 0) := (blk_cell BK788.out 1).trans rfl; have hfz16_0 := blk_frozen BK788.out 0; have hfz16_1 := blk_frozen BK788.out 1) | ((with_reducible refine gate_callee (f := 61) rfl ?_); refine goesL_ (some 13) rfl rfl Try.func61 (by kernel_rfl) rfl #[.agg #[.string t785, .int .i64 t786], .int .i64 0, .int .i64 2] rfl (by (try simp only [List.map_toArray, List.map_cons, List.map_nil]); first | done | rfl | (simp only [List.length_drop, List.length_take]; rfl)) ?_; (with_reducible refine (code_Take.calls k t785 t786 0 2 t789 t790 t791 _ A2.out).mono ?_); rintro e w17 ⟨rfl, hb⟩; refine ⟨_, rfl, ?_⟩; have n0_ := Aside0.mk (blk_below (g := gb788) (o := .cells #[.string t785, .int .i64 t786] 27 (0, 0)) (by (with_reducible repeat (first | refine blk_drewN ?_ _ | refine blk_drew ?_ | refine blk_alloc ?_ _)); refine blk_put (cs := #[.string t785, .int .i64 0]) ?_ 1 _ rfl; (with_reducible repeat (first | refine blk_drewN ?_ _ | refine blk_drew ?_ | refine blk_alloc ?_ _)); refine blk_put (cs := #[.string (⟨#[]⟩ : ByteArray), .int .i64 0]) ?_ 0 _ rfl; (with_reducible repeat (first | refine blk_drewN ?_ _ | refine blk_drew ?_ | refine blk_alloc ?_ _)); exact BK788.out) hb); have n1_ := Aside0.mk (below_step (by repeat (first | (with_reducible first | exact HB.out | apply below_alloc | apply pw_below_drewN | apply below_drew1 | refine below_set ?_ GE788.out) | exact HB.out)) hb); clear BK788; clear HB; have BK788 := n0_; have HB := n1_; clear n0_ n1_; (try clear hb); (try clear hb2); (try clear hk); (try clear hi)) | ((with_reducible refine gate_callee (f := 59) rfl ?_); refine goesL_ (some 18) rfl rfl Try.func59 (by kernel_rfl) rfl #[.int .i64 t787] rfl (by (try simp only [List.map_toArray, List.map_cons, List.map_nil]); first | done | rfl | (simp only [List.length_drop, List.length_take]; rfl)) ?_; (with_reducible refine (herbariumlaw2_num.calls t787 t792 _ A3.out).mono ?_); rintro e w' ⟨rfl, ⟨nd, rfl⟩⟩; refine ⟨_, rfl, ?_⟩) | (go_at_call 59; (with_reducible refine (herbariumlaw2_num.calls t791 t793 _ A5.out).mono ?_); rintro e w' ⟨rfl, ⟨nd, rfl⟩⟩; have hcz18_0 : w17.cell? ⟨gb788, 0, none⟩ = some (.string t785) := (blk_cell BK788.out 0).trans rfl; have hcz18_1 : w17.cell? ⟨gb788, 1, none⟩ = some (.int .i64 t786) := (blk_cell BK788.out 1).trans rfl; have hfz18_0 := blk_frozen BK788.out 0; have hfz18_1 := blk_frozen BK788.out 1))
          go_ret
          exact ⟨by first | rfl | (simp [errW_none, errW_some] <;> rfl) | (simp [*, errW_none, errW_some] <;> rfl), by repeat (first | (with_reducible first | exact HB.out | apply below_alloc | apply pw_below_drewN | apply below_drew1 | refine below_set ?_ GE788.out) | exact HB.out)⟩
      · rw [if_neg c7] at H
        have c7b0 : (t785.toList == ([40] : List UInt8) && (t786 == 5)) = false := by simpa using c7
        (try (have c7b1 : decide (t785.toList = ([40] : List UInt8) && (t786 == 5)) = false := by simpa using c7))
        (try (have c7b2 : (t785.toList == ([40] : List UInt8) && (t786 == 5)) = false := by simpa using c7))
        (try (have c7b3 : ¬ (t785.toList = ([40] : List UInt8) && (t786 == 5)) := by simpa using c7))
        clear c7
        obtain rfl := Option.some.inj H
        go_enter Try.func62, Try.ntmps62
        go_wp2_with (first | ((with_reducible refine gate_callee (f := 58) rfl ?_); refine goesL_ (some 8) rfl rfl Try.func58 (by kernel_rfl) rfl #[.agg #[.string (⟨#[]⟩ : ByteArray), .int .i64 0], .int .i64 2, .int .i64 5] rfl (by (try simp only [List.map_toArray, List.map_cons, List.map_nil]); first | done | rfl | (simp only [List.length_drop, List.length_take]; rfl)) ?_; (with_reducible refine (code_Put.calls (⟨#[]⟩ : ByteArray) 0 2 5 t785 t786 t787 _ A1.out).mono ?_); rintro e w19 ⟨rfl, hb⟩; refine ⟨_, rfl, ?_⟩; have n0_ := Aside0.mk (below_step (by repeat (first | (with_reducible first | exact HB.out | apply below_alloc | apply pw_below_drewN | apply below_drew1) | exact HB.out)) hb); clear HB; have HB := n0_; clear n0_; (try clear hb); (try clear hb2); (try clear hk); (try clear hi)) | ((with_reducible refine gate_dst (N := 1) rfl ?_); refine box_event ?hg (N := 1) ?hd (cs := #[.string (⟨#[]⟩ : ByteArray), .int .i64 0]) (t := 27) ?hr ?_; (case hd => rfl); (case hg => rfl); (case hr => first | (go_simp; done) | (go_simp; rfl)); intro gb788 hg w20 hbox hb; have n0_ := Aside0.mk (below_step (by repeat (first | (with_reducible first | exact HB.out | apply below_alloc | apply pw_below_drewN | apply below_drew1) | exact HB.out)) hb); have n1_ := Aside0.mk (hbox); have n2_ := Aside0.mk ((by rw [hg]; exact (below_size (by repeat (first | (with_reducible first | exact HB.out | apply below_alloc | apply pw_below_drewN | apply below_drew1) | exact HB.out))) : w.heap.size ≤ gb788)); have n3_ := Aside0.mk ((by rw [hg]; exact (below_size (by repeat (first | (with_reducible first | exact HB.out | apply below_alloc | apply pw_below_drewN | apply below_drew1) | exact HB.out))) : w.heap.size ≤ gb788)); clear HB; have HB := n0_; have BK788 := n1_; have GW788 := n2_; have GE788 := n3_; clear n0_ n1_ n2_ n3_; clear hb hbox hg; have hcz21_0 : w20.cell? ⟨gb788, 0, none⟩ = some (.string (⟨#[]⟩ : ByteArray)) := (blk_cell BK788.out 0).trans rfl; have hcz21_1 : w20.cell? ⟨gb788, 1, none⟩ = some (.int .i64 0) := (blk_cell BK788.out 1).trans rfl; have hfz21_0 := blk_frozen BK788.out 0; have hfz21_1 := blk_frozen BK788.out 1) | ((with_reducible refine gate_callee (f := 61) rfl ?_); refine goesL_ (some 13) rfl rfl Try.func61 (by kernel_rfl) rfl #[.agg #[.string t785, .int .i64 t786], .int .i64 0, .int .i64 2] rfl (by (try simp only [List.map_toArray, List.map_cons, List.map_nil]); first | done | rfl | (simp only [List.length_drop, List.length_take]; rfl)) ?_; (with_reducible refine (code_Take.calls k t785 t786 0 2 t789 t790 t791 _ A2.out).mono ?_); rintro e w22 ⟨rfl, hb⟩; refine ⟨_, rfl, ?_⟩; have n0_ := Aside0.mk (blk_below (g := gb788) (o := .cells #[.string t785, .int .i64 t786] 27 (0, 0)) (by (with_reducible repeat (first | refine blk_drewN ?_ _ | refine blk_drew ?_ | refine blk_alloc ?_ _)); refine blk_put (cs := #[.string t785, .int .i64 0]) ?_ 1 _ rfl; (with_reducible repeat (first | refine blk_drewN ?_ _ | refine blk_drew ?_ | refine blk_alloc ?_ _)); refine blk_put (cs := #[.string (⟨#[]⟩ : ByteArray), .int .i64 0]) ?_ 0 _ rfl; (with_reducible repeat (first | refine blk_drewN ?_ _ | refine blk_drew ?_ | refine blk_alloc ?_ _)); exact BK788.out) hb); have n1_ := Aside0.mk (below_step (by repeat (first | (with_reducible first | exact HB.out | apply below_alloc | apply pw_below_drewN | apply below_drew1 | refine below_set ?_ GE788.out) | exact HB.out)) hb); clear BK788; clear HB; have BK788 := n0_; have HB := n1_; clear n0_ n1_; (try clear hb); (try clear hb2); (try clear hk); (try clear hi)) | ((with_reducible refine gate_callee (f := 59) rfl ?_); refine goesL_ (some 18) rfl rfl Try.func59 (by kernel_rfl) rfl #[.int .i64 t787] rfl (by (try simp only [List.map_toArray, List.map_cons, List.map_nil]); first | done | rfl | (simp only [List.length_drop, List.length_take]; rfl)) ?_; (with_reducible refine (herbariumlaw2_num.calls t787 t792 _ A3.out).mono ?_); rintro e w' ⟨rfl, ⟨nd, rfl⟩⟩; refine ⟨_, rfl, ?_⟩) | (go_at_call 59; (with_reducible refine (herbariumlaw2_num.calls t791 t793 _ A5.out).mono ?_); rintro e w' ⟨rfl, ⟨nd, rfl⟩⟩; have hcz23_0 : w22.cell? ⟨gb788, 0, none⟩ = some (.string t785) := (blk_cell BK788.out 0).trans rfl; have hcz23_1 : w22.cell? ⟨gb788, 1, none⟩ = some (.int .i64 t786) := (blk_cell BK788.out 1).trans rfl; have hfz23_0 := blk_frozen BK788.out 0; have hfz23_1 := blk_frozen BK788.out 1))
        go_ret
        exact ⟨by first | rfl | (simp [errW_none, errW_some] <;> rfl) | (simp [*, errW_none, errW_some] <;> rfl), by repeat (first | (with_reducible first | exact HB.out | apply below_alloc | apply pw_below_drewN | apply below_drew1 | refine below_set ?_ GE788.out) | exact HB.out)⟩
    · rw [if_neg c6] at H
      have c6b0 : (t793 == 0) = false := beq_eq_false_iff_ne.mpr c6
      have c6b1 : (t793 != 0) = true := bne_iff_ne.mpr c6
      obtain rfl := Option.some.inj H
      go_enter Try.func62, Try.ntmps62
      go_wp2_with (first | ((with_reducible refine gate_callee (f := 58) rfl ?_); refine goesL_ (some 8) rfl rfl Try.func58 (by kernel_rfl) rfl #[.agg #[.string (⟨#[]⟩ : ByteArray), .int .i64 0], .int .i64 2, .int .i64 5] rfl (by (try simp only [List.map_toArray, List.map_cons, List.map_nil]); first | done | rfl | (simp only [List.length_drop, List.length_take]; rfl)) ?_; (with_reducible refine (code_Put.calls (⟨#[]⟩ : ByteArray) 0 2 5 t785 t786 t787 _ A1.out).mono ?_); rintro e w24 ⟨rfl, hb⟩; refine ⟨_, rfl, ?_⟩; have n0_ := Aside0.mk (below_step (by repeat (first | (with_reducible first | exact HB.out | apply below_alloc | apply pw_below_drewN | apply below_drew1) | exact HB.out)) hb); clear HB; have HB := n0_; clear n0_; (try clear hb); (try clear hb2); (try clear hk); (try clear hi)) | ((with_reducible refine gate_dst (N := 1) rfl ?_); refine box_event ?hg (N := 1) ?hd (cs := #[.string (⟨#[]⟩ : ByteArray), .int .i64 0]) (t := 27) ?hr ?_; (case hd => rfl); (case hg => rfl); (case hr => first | (go_simp; done) | (go_simp; rfl)); intro gb788 hg w25 hbox hb; have n0_ := Aside0.mk (below_step (by repeat (first | (with_reducible first | exact HB.out | apply below_alloc | apply pw_below_drewN | apply below_drew1) | exact HB.out)) hb); have n1_ := Aside0.mk (hbox); have n2_ := Aside0.mk ((by rw [hg]; exact (below_size (by repeat (first | (with_reducible first | exact HB.out | apply below_alloc | apply pw_below_drewN | apply below_drew1) | exact HB.out))) : w.heap.size ≤ gb788)); have n3_ := Aside0.mk ((by rw [hg]; exact (below_size (by repeat (first | (with_reducible first | exact HB.out | apply below_alloc | apply pw_below_drewN | apply below_drew1) | exact HB.out))) : w.heap.size ≤ gb788)); clear HB; have HB := n0_; have BK788 := n1_; have GW788 := n2_; have GE788 := n3_; clear n0_ n1_ n2_ n3_; clear hb hbox hg; have hcz26_0 : w25.cell? ⟨gb788, 0, none⟩ = some (.string (⟨#[]⟩ : ByteArray)) := (blk_cell BK788.out 0).trans rfl; have hcz26_1 : w25.cell? ⟨gb788, 1, none⟩ = some (.int .i64 0) := (blk_cell BK788.out 1).trans rfl; have hfz26_0 := blk_frozen BK788.out 0; have hfz26_1 := blk_frozen BK788.out 1) | ((with_reducible refine gate_callee (f := 61) rfl ?_); refine goesL_ (some 13) rfl rfl Try.func61 (by kernel_rfl) rfl #[.agg #[.string t785, .int .i64 t786], .int .i64 0, .int .i64 2] rfl (by (try simp only [List.map_toArray, List.map_cons, List.map_nil]); first | done | rfl | (simp only [List.length_drop, List.length_take]; rfl)) ?_; (with_reducible refine (code_Take.calls k t785 t786 0 2 t789 t790 t791 _ A2.out).mono ?_); rintro e w27 ⟨rfl, hb⟩; refine ⟨_, rfl, ?_⟩; have n0_ := Aside0.mk (blk_below (g := gb788) (o := .cells #[.string t785, .int .i64 t786] 27 (0, 0)) (by (with_reducible repeat (first | refine blk_drewN ?_ _ | refine blk_drew ?_ | refine blk_alloc ?_ _)); refine blk_put (cs := #[.string t785, .int .i64 0]) ?_ 1 _ rfl; (with_reducible repeat (first | refine blk_drewN ?_ _ | refine blk_drew ?_ | refine blk_alloc ?_ _)); refine blk_put (cs := #[.string (⟨#[]⟩ : ByteArray), .int .i64 0]) ?_ 0 _ rfl; (with_reducible repeat (first | refine blk_drewN ?_ _ | refine blk_drew ?_ | refine blk_alloc ?_ _)); exact BK788.out) hb); have n1_ := Aside0.mk (below_step (by repeat (first | (with_reducible first | exact HB.out | apply below_alloc | apply pw_below_drewN | apply below_drew1 | refine below_set ?_ GE788.out) | exact HB.out)) hb); clear BK788; clear HB; have BK788 := n0_; have HB := n1_; clear n0_ n1_; (try clear hb); (try clear hb2); (try clear hk); (try clear hi)) | ((with_reducible refine gate_callee (f := 59) rfl ?_); refine goesL_ (some 18) rfl rfl Try.func59 (by kernel_rfl) rfl #[.int .i64 t787] rfl (by (try simp only [List.map_toArray, List.map_cons, List.map_nil]); first | done | rfl | (simp only [List.length_drop, List.length_take]; rfl)) ?_; (with_reducible refine (herbariumlaw2_num.calls t787 t792 _ A3.out).mono ?_); rintro e w' ⟨rfl, ⟨nd, rfl⟩⟩; refine ⟨_, rfl, ?_⟩) | (go_at_call 59; (with_reducible refine (herbariumlaw2_num.calls t791 t793 _ A5.out).mono ?_); rintro e w' ⟨rfl, ⟨nd, rfl⟩⟩))
      go_ret
      exact ⟨by first | rfl | (simp [errW_none, errW_some] <;> rfl) | (simp [*, errW_none, errW_some] <;> rfl), by repeat (first | (with_reducible first | exact HB.out | apply below_alloc | apply pw_below_drewN | apply below_drew1 | refine below_set ?_ GE788.out) | exact HB.out)⟩
  · rw [if_neg c4] at H
    have c4b0 : (t792 == 0) = false := beq_eq_false_iff_ne.mpr c4
    have c4b1 : (t792 != 0) = true := bne_iff_ne.mpr c4
    obtain rfl := Option.some.inj H
    go_enter Try.func62, Try.ntmps62
    go_wp2_with (first | ((with_reducible refine gate_callee (f := 58) rfl ?_); refine goesL_ (some 8) rfl rfl Try.func58 (by kernel_rfl) rfl #[.agg #[.string (⟨#[]⟩ : ByteArray), .int .i64 0], .int .i64 2, .int .i64 5] rfl (by (try simp only [List.map_toArray, List.map_cons, List.map_nil]); first | done | rfl | (simp only [List.length_drop, List.length_take]; rfl)) ?_; (with_reducible refine (code_Put.calls (⟨#[]⟩ : ByteArray) 0 2 5 t785 t786 t787 _ A1.out).mono ?_); rintro e w28 ⟨rfl, hb⟩; refine ⟨_, rfl, ?_⟩; have n0_ := Aside0.mk (below_step (by repeat (first | (with_reducible first | exact HB.out | apply below_alloc | apply pw_below_drewN | apply below_drew1) | exact HB.out)) hb); clear HB; have HB := n0_; clear n0_; (try clear hb); (try clear hb2); (try clear hk); (try clear hi)) | ((with_reducible refine gate_dst (N := 1) rfl ?_); refine box_event ?hg (N := 1) ?hd (cs := #[.string (⟨#[]⟩ : ByteArray), .int .i64 0]) (t := 27) ?hr ?_; (case hd => rfl); (case hg => rfl); (case hr => first | (go_simp; done) | (go_simp; rfl)); intro gb788 hg w29 hbox hb; have n0_ := Aside0.mk (below_step (by repeat (first | (with_reducible first | exact HB.out | apply below_alloc | apply pw_below_drewN | apply below_drew1) | exact HB.out)) hb); have n1_ := Aside0.mk (hbox); have n2_ := Aside0.mk ((by rw [hg]; exact (below_size (by repeat (first | (with_reducible first | exact HB.out | apply below_alloc | apply pw_below_drewN | apply below_drew1) | exact HB.out))) : w.heap.size ≤ gb788)); have n3_ := Aside0.mk ((by rw [hg]; exact (below_size (by repeat (first | (with_reducible first | exact HB.out | apply below_alloc | apply pw_below_drewN | apply below_drew1) | exact HB.out))) : w.heap.size ≤ gb788)); clear HB; have HB := n0_; have BK788 := n1_; have GW788 := n2_; have GE788 := n3_; clear n0_ n1_ n2_ n3_; clear hb hbox hg; have hcz30_0 : w29.cell? ⟨gb788, 0, none⟩ = some (.string (⟨#[]⟩ : ByteArray)) := (blk_cell BK788.out 0).trans rfl; have hcz30_1 : w29.cell? ⟨gb788, 1, none⟩ = some (.int .i64 0) := (blk_cell BK788.out 1).trans rfl; have hfz30_0 := blk_frozen BK788.out 0; have hfz30_1 := blk_frozen BK788.out 1) | ((with_reducible refine gate_callee (f := 61) rfl ?_); refine goesL_ (some 13) rfl rfl Try.func61 (by kernel_rfl) rfl #[.agg #[.string t785, .int .i64 t786], .int .i64 0, .int .i64 2] rfl (by (try simp only [List.map_toArray, List.map_cons, List.map_nil]); first | done | rfl | (simp only [List.length_drop, List.length_take]; rfl)) ?_; (with_reducible refine (code_Take.calls k t785 t786 0 2 t789 t790 t791 _ A2.out).mono ?_); rintro e w31 ⟨rfl, hb⟩; refine ⟨_, rfl, ?_⟩; have n0_ := Aside0.mk (blk_below (g := gb788) (o := .cells #[.string t785, .int .i64 t786] 27 (0, 0)) (by (with_reducible repeat (first | refine blk_drewN ?_ _ | refine blk_drew ?_ | refine blk_alloc ?_ _)); refine blk_put (cs := #[.string t785, .int .i64 0]) ?_ 1 _ rfl; (with_reducible repeat (first | refine blk_drewN ?_ _ | refine blk_drew ?_ | refine blk_alloc ?_ _)); refine blk_put (cs := #[.string (⟨#[]⟩ : ByteArray), .int .i64 0]) ?_ 0 _ rfl; (with_reducible repeat (first | refine blk_drewN ?_ _ | refine blk_drew ?_ | refine blk_alloc ?_ _)); exact BK788.out) hb); have n1_ := Aside0.mk (below_step (by repeat (first | (with_reducible first | exact HB.out | apply below_alloc | apply pw_below_drewN | apply below_drew1 | refine below_set ?_ GE788.out) | exact HB.out)) hb); clear BK788; clear HB; have BK788 := n0_; have HB := n1_; clear n0_ n1_; (try clear hb); (try clear hb2); (try clear hk); (try clear hi)) | ((with_reducible refine gate_callee (f := 59) rfl ?_); refine goesL_ (some 18) rfl rfl Try.func59 (by kernel_rfl) rfl #[.int .i64 t787] rfl (by (try simp only [List.map_toArray, List.map_cons, List.map_nil]); first | done | rfl | (simp only [List.length_drop, List.length_take]; rfl)) ?_; (with_reducible refine (herbariumlaw2_num.calls t787 t792 _ A3.out).mono ?_); rintro e w' ⟨rfl, ⟨nd, rfl⟩⟩; refine ⟨_, rfl, ?_⟩))
    go_ret
    exact ⟨by first | rfl | (simp [errW_none, errW_some] <;> rfl) | (simp [*, errW_none, errW_some] <;> rfl), by repeat (first | (with_reducible first | exact HB.out | apply below_alloc | apply pw_below_drewN | apply below_drew1 | refine below_set ?_ GE788.out) | exact HB.out)⟩
end Go.Proofs.Ytnpghcikhpglkaa.Q
namespace Go.Proofs.Ytnpghcikhpglkaa.Q
open Go.RowKit Go.Proofs.YtnpghcikhpglkaaW.PrintWords Go.Proofs.YtnpghcikhpglkaaW.PrintLast Go.Proofs.YtnpghcikhpglkaaW.PrintMore Go.Proofs.Ytnpghcikhpglkaa.Hand Go.Proofs.Ytnpghcikhpglkaa.Pu
set_option linter.unusedVariables false
set_option linter.unusedSimpArgs false

set_option maxHeartbeats 4000000 in
set_option maxRecDepth 100000 in
theorem cat_no1 (s : ByteArray) (n : Int) (s2 : ByteArray) (n2 : Int) (w : World) (hm : ¬ MayP s n) :
    Calls Try.prog 43 #[.agg #[.string s, .int .i64 n], .agg #[.string s2, .int .i64 n2]] w fun e w' => e = .returned (.tuple #[.agg #[.string ⟨#[]⟩, .int .i64 0], .int .i64 1]) ∧ Below w.heap.size w w' := by
  have hu := Try.underlying27
  have A := Aside0.mk (show bits_May.f s n = some false by rw [may_eq, decide_eq_false hm])
  have HS := Aside0.mk (start3 w (.cells #[.string s, .int .i64 n] 27) (.cells #[.string s2, .int .i64 n2] 27) (.cells #[.string ⟨#[]⟩, .int .i64 0] 27))
  clear hm
  go_enter Try.func43, Try.ntmps43
  go_wp2_with (first | ((with_reducible refine gate_callee (f := 86) rfl ?_); refine goesL_ (some 9) rfl rfl Try.func86 (by kernel_rfl) rfl #[.agg #[.string s, .int .i64 n]] rfl (by (try simp only [List.map_toArray, List.map_cons, List.map_nil]); first | done | rfl) ?_; (with_reducible refine (bits_May.calls s n false _ A.out).mono ?_); rintro e w1 ⟨rfl, hb⟩; refine ⟨_, rfl, ?_⟩; have HA := Aside0.mk (keep2 HS.out.2.1 hb (by have := HS.out.2.2.2.2; omega)); have HR := Aside0.mk (keep2 HS.out.2.2.1 hb (by have := HS.out.2.2.2.2; omega)); obtain ⟨a0, a1, g0, g1⟩ := two_cells HA.out; obtain ⟨c0, c1, f0, f1⟩ := two_cells HR.out; have HB := Aside0.mk (below_then HS.out.2.2.2.1 HS.out.2.2.2.1.size hb); have HA1 := Aside0.mk (keep2 HS.out.1 hb (by have := HS.out.2.2.2.2; omega)); obtain ⟨x0, x1, y0, y1⟩ := two_cells HA1.out; clear hb))
  refine bodyPost_ret (results_list (rs := [.cell 4 27, .tmp 5]) rfl (by simp) (.cell (w.heap.size + 2) 27 #[.string ⟨#[]⟩, .int .i64 0] (0, 0) _ rfl (put2 HR.out) Try.underlying27 rfl (by kernel_rfl) (.tmp .nil))) rfl ⟨rfl, below_put2 HB.out (by omega) _ _⟩
set_option maxHeartbeats 4000000 in
set_option maxRecDepth 100000 in
theorem cat_no2 (s : ByteArray) (n : Int) (s2 : ByteArray) (n2 : Int) (w : World) (hm : MayP s n) (hm2 : ¬ MayP s2 n2) :
    Calls Try.prog 43 #[.agg #[.string s, .int .i64 n], .agg #[.string s2, .int .i64 n2]] w fun e w' => e = .returned (.tuple #[.agg #[.string ⟨#[]⟩, .int .i64 0], .int .i64 1]) ∧ Below w.heap.size w w' := by
  have hu := Try.underlying27
  have A := Aside0.mk (show bits_May.f s n = some true by rw [may_eq, decide_eq_true hm])
  have A2 := Aside0.mk (show bits_May.f s2 n2 = some false by rw [may_eq, decide_eq_false hm2])
  have HS := Aside0.mk (start3 w (.cells #[.string s, .int .i64 n] 27) (.cells #[.string s2, .int .i64 n2] 27) (.cells #[.string ⟨#[]⟩, .int .i64 0] 27))
  clear hm hm2
  go_enter Try.func43, Try.ntmps43
  go_wp2_with (first | ((with_reducible refine gate_callee (f := 86) rfl ?_); refine goesL_ (some 9) rfl rfl Try.func86 (by kernel_rfl) rfl #[.agg #[.string s, .int .i64 n]] rfl (by (try simp only [List.map_toArray, List.map_cons, List.map_nil]); first | done | rfl) ?_; (with_reducible refine (bits_May.calls s n true _ A.out).mono ?_); rintro e w1 ⟨rfl, hb⟩; refine ⟨_, rfl, ?_⟩; have HA := Aside0.mk (keep2 HS.out.2.1 hb (by have := HS.out.2.2.2.2; omega)); have HR := Aside0.mk (keep2 HS.out.2.2.1 hb (by have := HS.out.2.2.2.2; omega)); obtain ⟨a0, a1, g0, g1⟩ := two_cells HA.out; obtain ⟨c0, c1, f0, f1⟩ := two_cells HR.out; have HB := Aside0.mk (below_then HS.out.2.2.2.1 HS.out.2.2.2.1.size hb); have HA1 := Aside0.mk (keep2 HS.out.1 hb (by have := HS.out.2.2.2.2; omega)); obtain ⟨x0, x1, y0, y1⟩ := two_cells HA1.out; clear hb))
  go_wp2_with (first | (go_at_call 86; ((with_reducible refine (bits_May.calls s2 n2 false _ A2.out).mono ?_); rintro e w2 ⟨rfl, hb⟩); have HGG := Aside0.mk (Nat.lt_of_lt_of_le (blk_lt HR.out) hb.size); have HAA := Aside0.mk (keep2 HA.out hb (blk_lt HA.out)); have HRR := Aside0.mk (keep2 HR.out hb (blk_lt HR.out)); have HA11 := Aside0.mk (keep2 HA1.out hb (blk_lt HA1.out)); clear HA HR HA1 x0 x1 y0 y1 a0 a1 g0 g1 c0 c1 f0 f1; have HA := HAA; have HR := HRR; have HA1 := HA11; clear HAA HRR HA11; obtain ⟨a0, a1, g0, g1⟩ := two_cells HA.out; obtain ⟨c0, c1, f0, f1⟩ := two_cells HR.out; obtain ⟨x0, x1, y0, y1⟩ := two_cells HA1.out; have HBB := Aside0.mk (below_then HB.out HB.out.size hb); clear HB; have HB := HBB; clear HBB; clear hb))
  refine bodyPost_ret (results_list (rs := [.cell 4 27, .tmp 5]) rfl (by simp) (.cell (w.heap.size + 2) 27 #[.string ⟨#[]⟩, .int .i64 0] (0, 0) _ rfl (put2 HR.out) Try.underlying27 rfl (by kernel_rfl) (.tmp .nil))) rfl ⟨rfl, below_put2 HB.out (by omega) _ _⟩
set_option maxHeartbeats 4000000 in
set_option maxRecDepth 100000 in
theorem cat_yes (s : ByteArray) (n : Int) (s2 : ByteArray) (n2 : Int) (w : World) (hm : MayP s n) (hm2 : MayP s2 n2) (hn : n + n2 ≤ 6000) :
    Calls Try.prog 43 #[.agg #[.string s, .int .i64 n], .agg #[.string s2, .int .i64 n2]] w fun e w' => e = .returned (.tuple #[.agg #[.string (strOfNums (rowSeq s2 n2.toNat 0 (bytesI s, n)).1), .int .i64 (rowSeq s2 n2.toNat 0 (bytesI s, n)).2], .int .i64 0]) ∧ Below w.heap.size w w' := by
  have hu := Try.underlying27
  have A := Aside0.mk (show bits_May.f s n = some true by rw [may_eq, decide_eq_true hm])
  have A2 := Aside0.mk (show bits_May.f s2 n2 = some true by rw [may_eq, decide_eq_true hm2])
  have HS := Aside0.mk (start3 w (.cells #[.string s, .int .i64 n] 27) (.cells #[.string s2, .int .i64 n2] 27) (.cells #[.string ⟨#[]⟩, .int .i64 0] 27))
  have hsz : s.size ≤ 1073741824 := by have := hm.2.2.1; have := hm.2.1; omega
  have hn0 : 0 ≤ n := hm.1
  have hn6 : n ≤ 6000 := hm.2.1
  have hk0 : 0 ≤ n2 := hm2.1
  have hk6 : n2 ≤ 6000 := hm2.2.1
  have HSZ := Aside0.mk hm.2.2.1
  have HSZ2 := Aside0.mk hm2.2.2.1
  have HLE := Aside0.mk hn
  clear hm hm2 hn
  go_enter Try.func43, Try.ntmps43
  go_wp2_with (first | ((with_reducible refine gate_callee (f := 86) rfl ?_); refine goesL_ (some 9) rfl rfl Try.func86 (by kernel_rfl) rfl #[.agg #[.string s, .int .i64 n]] rfl (by (try simp only [List.map_toArray, List.map_cons, List.map_nil]); first | done | rfl) ?_; (with_reducible refine (bits_May.calls s n true _ A.out).mono ?_); rintro e w1 ⟨rfl, hb⟩; refine ⟨_, rfl, ?_⟩; have HA := Aside0.mk (keep2 HS.out.2.1 hb (by have := HS.out.2.2.2.2; omega)); have HR := Aside0.mk (keep2 HS.out.2.2.1 hb (by have := HS.out.2.2.2.2; omega)); obtain ⟨a0, a1, g0, g1⟩ := two_cells HA.out; obtain ⟨c0, c1, f0, f1⟩ := two_cells HR.out; have HB := Aside0.mk (below_then HS.out.2.2.2.1 HS.out.2.2.2.1.size hb); have HA1 := Aside0.mk (keep2 HS.out.1 hb (by have := HS.out.2.2.2.2; omega)); obtain ⟨x0, x1, y0, y1⟩ := two_cells HA1.out; clear hb))
  go_wp2_with (first | (go_at_call 86; ((with_reducible refine (bits_May.calls s2 n2 true _ A2.out).mono ?_); rintro e w2 ⟨rfl, hb⟩); have HGG := Aside0.mk (Nat.lt_of_lt_of_le (blk_lt HR.out) hb.size); have HAA := Aside0.mk (keep2 HA.out hb (blk_lt HA.out)); have HRR := Aside0.mk (keep2 HR.out hb (blk_lt HR.out)); have HA11 := Aside0.mk (keep2 HA1.out hb (blk_lt HA1.out)); clear HA HR HA1 x0 x1 y0 y1 a0 a1 g0 g1 c0 c1 f0 f1; have HA := HAA; have HR := HRR; have HA1 := HA11; clear HAA HRR HA11; obtain ⟨a0, a1, g0, g1⟩ := two_cells HA.out; obtain ⟨c0, c1, f0, f1⟩ := two_cells HR.out; obtain ⟨x0, x1, y0, y1⟩ := two_cells HA1.out; have HBB := Aside0.mk (below_then HB.out HB.out.size hb); clear HB; have HB := HBB; clear HBB; clear hb) | (go_at_call 88; ((with_reducible refine (from_ _ s n hsz).mono ?_); rintro e w3 ⟨p, rfl, hrow, hb3⟩); have HROW := Aside0.mk hrow; have HB3 := Aside0.mk hb3; have HAA := Aside0.mk (keep2 HA.out hb3 (blk_lt HA.out)); have HRR := Aside0.mk (keep2 HR.out hb3 (blk_lt HR.out)); clear HA HR a0 a1 g0 g1 c0 c1 f0 f1 HA1 x0 x1 y0 y1; have HA := HAA; have HR := HRR; clear HAA HRR; obtain ⟨a0, a1, g0, g1⟩ := two_cells HA.out; obtain ⟨c0, c1, f0, f1⟩ := two_cells HR.out; have HBB := Aside0.mk (below_then HB.out HB.out.size hb3); clear HB; have HB := HBB; clear HBB; clear hrow hb3))
  have HG2 := Aside0.mk (HGG.out)
  have HG1 := Aside0.mk (Nat.lt_of_succ_lt HGG.out)
  go_loopw [21] (fun i wr => ∃ (c : Nat) (st : List Int × Int), i = .int .i64 c ∧ Aside0 (rowSeq s2 (n2.toNat - c) c st = rowSeq s2 n2.toNat 0 (bytesI s, n)) ∧ Aside0 (RowIs wr w2.heap.size p st.1 st.2) ∧ Aside0 (st.2 = n + c) ∧ Aside0 ((st.1.length : Int) = (st.2 + 7) / 8) ∧ c ≤ n2.toNat ∧ Aside0 (wr.heap[w.heap.size + 1]? = some (.cells #[.string s2, .int .i64 n2] 27 (0, 0))) ∧ Aside0 (wr.heap[w.heap.size + 2]? = some (.cells #[.string ⟨#[]⟩, .int .i64 0] 27 (0, 0))) ∧ Aside0 (Below w.heap.size w wr) ∧ Aside0 (w3.heap.size ≤ wr.heap.size))
    (fun i wr => (n2 - intOf i).toNat)
  case atStart => exact ⟨0, (bytesI s, n), rfl, ⟨by simp⟩, ⟨HROW.out⟩, ⟨by simp⟩, ⟨by rw [bytesI_length]; exact HSZ.out⟩, Nat.zero_le _, ⟨HA.out⟩, ⟨HR.out⟩, ⟨HB.out⟩, ⟨Nat.le_refl _⟩⟩
  case round =>
    clear HA HR a0 a1 g0 g1 c0 c1 f0 f1 HB HROW
    obtain ⟨c, ⟨bs, m⟩, rfl, HSEQ, HROW, HM, HLEN, hc, HA, HR, HB, HWR⟩ := hrel
    have hm : Aside0 (m = n + c) := HM
    obtain ⟨a0, a1, g0, g1⟩ := two_cells HA.out
    obtain ⟨c0, c1, f0, f1⟩ := two_cells HR.out
    by_cases hlt : (c : Int) < n2
    · have HBIT := Aside0.mk (bit_some s2 n2 c (by omega) (by have := HSZ2.out; omega) (by omega))
      go_wp2_with (first | (go_at_call 100; ((with_reducible refine (bits_bit.calls s2 n2 c (bitOf s2 c) _ HBIT.out).mono ?_); rintro e w4 ⟨rfl, hb3⟩); have HROW2 := Aside0.mk (HROW.out.below hb3); have HBB := Aside0.mk hb3; clear hb3) | (go_at_call 89; ((with_reducible refine (row_put1 _ w2.heap.size p bs m (bitOf s2 c) HROW2.out ?e1 ?e2 ?e3 ?e4).mono ?_); (case e1 => rw [hm.out]; omega); (case e2 => exact HLEN.out); (case e3 => rw [hm.out]; omega); (case e4 => exact Nat.le_trans (Nat.le_trans HB3.out.size HWR.out) HBB.out.size); rintro e w5 ⟨rfl, hrow3, hb3⟩); have HROW3 := Aside0.mk hrow3; have HB4 := Aside0.mk hb3; clear hrow3 hb3))
      go_roundw
      case rel =>
        refine ⟨c + 1, rowPut 1 (bs, m) (bitOf s2 c), by go_num, ⟨?_⟩, ⟨HROW3.out⟩, ⟨?_⟩, ⟨rowPut1_len (bs, m) _ (by rw [hm.out]; omega) HLEN.out⟩, by omega, ⟨keep2 (keep2 HA.out HBB.out (blk_lt HA.out)) HB4.out (by have := HG1.out; omega)⟩, ⟨keep2 (keep2 HR.out HBB.out (blk_lt HR.out)) HB4.out (by have := HG2.out; omega)⟩, ⟨(HB.out.trans (HBB.out.mono HB.out.size)).trans (HB4.out.mono (by have := HG1.out; omega))⟩, ⟨Nat.le_trans HWR.out (Nat.le_trans HBB.out.size HB4.out.size)⟩⟩
        · rw [← HSEQ.out, show n2.toNat - c = (n2.toNat - (c + 1)) + 1 by omega, rowSeq, show ((c + 1 : Nat) : Int) = (c : Int) + 1 by omega]
        · rw [rowPut_snd, hm.out]; simp only []; omega
      case measure => simp [intOf]; omega
    · have hcc : c = n2.toNat := by omega
      have HE : Aside0 ((bs, m) = rowSeq s2 n2.toNat 0 (bytesI s, n)) := ⟨by
        have := HSEQ.out
        rw [hcc, Nat.sub_self, rowSeq] at this
        exact this⟩
      have HM6 : Aside0 (m ≤ 6000) := ⟨by have := hm.out; have := HLE.out; omega⟩
      clear hcc
      go_wp2_with (first | (go_at_call 90; ((with_reducible refine (row_bits_yes _ _ p bs m HROW.out HM6.out).mono ?_); rintro e w4 ⟨rfl, hb4⟩); have HR4 := Aside0.mk (keep2 HR.out hb4 (blk_lt HR.out)); have HB4 := Aside0.mk (below_then HB.out HB.out.size hb4); clear HR c0 c1 f0 f1; obtain ⟨c0, c1, f0, f1⟩ := two_cells HR4.out; clear hb4))
      refine bodyPost_ret (results_list (rs := [.cell 4 27, .tmp 5]) rfl (by simp) (.cell (w.heap.size + 2) 27 #[.string (strOfNums bs), .int .i64 m] (0, 0) _ rfl (put2 HR4.out) Try.underlying27 rfl (by kernel_rfl) (.tmp .nil))) rfl ⟨by rw [← HE.out] <;> rfl, below_put2 HB4.out (by omega) _ _⟩
set_option maxHeartbeats 4000000 in
set_option maxRecDepth 100000 in
theorem cat_full (s : ByteArray) (n : Int) (s2 : ByteArray) (n2 : Int) (w : World) (hm : MayP s n) (hm2 : MayP s2 n2) (hn : 6000 < n + n2) :
    Calls Try.prog 43 #[.agg #[.string s, .int .i64 n], .agg #[.string s2, .int .i64 n2]] w fun e w' => e = .returned (.tuple #[.agg #[.string ⟨#[]⟩, .int .i64 0], .int .i64 2]) ∧ Below w.heap.size w w' := by
  have hu := Try.underlying27
  have A := Aside0.mk (show bits_May.f s n = some true by rw [may_eq, decide_eq_true hm])
  have A2 := Aside0.mk (show bits_May.f s2 n2 = some true by rw [may_eq, decide_eq_true hm2])
  have HS := Aside0.mk (start3 w (.cells #[.string s, .int .i64 n] 27) (.cells #[.string s2, .int .i64 n2] 27) (.cells #[.string ⟨#[]⟩, .int .i64 0] 27))
  have hsz : s.size ≤ 1073741824 := by have := hm.2.2.1; have := hm.2.1; omega
  have hn0 : 0 ≤ n := hm.1
  have hn6 : n ≤ 6000 := hm.2.1
  have hk0 : 0 ≤ n2 := hm2.1
  have hk6 : n2 ≤ 6000 := hm2.2.1
  have HSZ := Aside0.mk hm.2.2.1
  have HSZ2 := Aside0.mk hm2.2.2.1
  have HLE := Aside0.mk hn
  clear hm hm2 hn
  go_enter Try.func43, Try.ntmps43
  go_wp2_with (first | ((with_reducible refine gate_callee (f := 86) rfl ?_); refine goesL_ (some 9) rfl rfl Try.func86 (by kernel_rfl) rfl #[.agg #[.string s, .int .i64 n]] rfl (by (try simp only [List.map_toArray, List.map_cons, List.map_nil]); first | done | rfl) ?_; (with_reducible refine (bits_May.calls s n true _ A.out).mono ?_); rintro e w1 ⟨rfl, hb⟩; refine ⟨_, rfl, ?_⟩; have HA := Aside0.mk (keep2 HS.out.2.1 hb (by have := HS.out.2.2.2.2; omega)); have HR := Aside0.mk (keep2 HS.out.2.2.1 hb (by have := HS.out.2.2.2.2; omega)); obtain ⟨a0, a1, g0, g1⟩ := two_cells HA.out; obtain ⟨c0, c1, f0, f1⟩ := two_cells HR.out; have HB := Aside0.mk (below_then HS.out.2.2.2.1 HS.out.2.2.2.1.size hb); have HA1 := Aside0.mk (keep2 HS.out.1 hb (by have := HS.out.2.2.2.2; omega)); obtain ⟨x0, x1, y0, y1⟩ := two_cells HA1.out; clear hb))
  go_wp2_with (first | (go_at_call 86; ((with_reducible refine (bits_May.calls s2 n2 true _ A2.out).mono ?_); rintro e w2 ⟨rfl, hb⟩); have HGG := Aside0.mk (Nat.lt_of_lt_of_le (blk_lt HR.out) hb.size); have HAA := Aside0.mk (keep2 HA.out hb (blk_lt HA.out)); have HRR := Aside0.mk (keep2 HR.out hb (blk_lt HR.out)); have HA11 := Aside0.mk (keep2 HA1.out hb (blk_lt HA1.out)); clear HA HR HA1 x0 x1 y0 y1 a0 a1 g0 g1 c0 c1 f0 f1; have HA := HAA; have HR := HRR; have HA1 := HA11; clear HAA HRR HA11; obtain ⟨a0, a1, g0, g1⟩ := two_cells HA.out; obtain ⟨c0, c1, f0, f1⟩ := two_cells HR.out; obtain ⟨x0, x1, y0, y1⟩ := two_cells HA1.out; have HBB := Aside0.mk (below_then HB.out HB.out.size hb); clear HB; have HB := HBB; clear HBB; clear hb) | (go_at_call 88; ((with_reducible refine (from_ _ s n hsz).mono ?_); rintro e w3 ⟨p, rfl, hrow, hb3⟩); have HROW := Aside0.mk hrow; have HB3 := Aside0.mk hb3; have HAA := Aside0.mk (keep2 HA.out hb3 (blk_lt HA.out)); have HRR := Aside0.mk (keep2 HR.out hb3 (blk_lt HR.out)); clear HA HR a0 a1 g0 g1 c0 c1 f0 f1 HA1 x0 x1 y0 y1; have HA := HAA; have HR := HRR; clear HAA HRR; obtain ⟨a0, a1, g0, g1⟩ := two_cells HA.out; obtain ⟨c0, c1, f0, f1⟩ := two_cells HR.out; have HBB := Aside0.mk (below_then HB.out HB.out.size hb3); clear HB; have HB := HBB; clear HBB; clear hrow hb3))
  have HG2 := Aside0.mk (HGG.out)
  have HG1 := Aside0.mk (Nat.lt_of_succ_lt HGG.out)
  go_loopw [21] (fun i wr => ∃ (c : Nat) (st : List Int × Int), i = .int .i64 c ∧ Aside0 (rowSeq s2 (n2.toNat - c) c st = rowSeq s2 n2.toNat 0 (bytesI s, n)) ∧ Aside0 (RowIs wr w2.heap.size p st.1 st.2) ∧ Aside0 (st.2 = n + c) ∧ Aside0 ((st.1.length : Int) = (st.2 + 7) / 8) ∧ c ≤ n2.toNat ∧ Aside0 (wr.heap[w.heap.size + 1]? = some (.cells #[.string s2, .int .i64 n2] 27 (0, 0))) ∧ Aside0 (wr.heap[w.heap.size + 2]? = some (.cells #[.string ⟨#[]⟩, .int .i64 0] 27 (0, 0))) ∧ Aside0 (Below w.heap.size w wr) ∧ Aside0 (w3.heap.size ≤ wr.heap.size))
    (fun i wr => (n2 - intOf i).toNat)
  case atStart => exact ⟨0, (bytesI s, n), rfl, ⟨by simp⟩, ⟨HROW.out⟩, ⟨by simp⟩, ⟨by rw [bytesI_length]; exact HSZ.out⟩, Nat.zero_le _, ⟨HA.out⟩, ⟨HR.out⟩, ⟨HB.out⟩, ⟨Nat.le_refl _⟩⟩
  case round =>
    clear HA HR a0 a1 g0 g1 c0 c1 f0 f1 HB HROW
    obtain ⟨c, ⟨bs, m⟩, rfl, HSEQ, HROW, HM, HLEN, hc, HA, HR, HB, HWR⟩ := hrel
    have hm : Aside0 (m = n + c) := HM
    obtain ⟨a0, a1, g0, g1⟩ := two_cells HA.out
    obtain ⟨c0, c1, f0, f1⟩ := two_cells HR.out
    by_cases hlt : (c : Int) < n2
    · have HBIT := Aside0.mk (bit_some s2 n2 c (by omega) (by have := HSZ2.out; omega) (by omega))
      go_wp2_with (first | (go_at_call 100; ((with_reducible refine (bits_bit.calls s2 n2 c (bitOf s2 c) _ HBIT.out).mono ?_); rintro e w4 ⟨rfl, hb3⟩); have HROW2 := Aside0.mk (HROW.out.below hb3); have HBB := Aside0.mk hb3; clear hb3) | (go_at_call 89; ((with_reducible refine (row_put1 _ w2.heap.size p bs m (bitOf s2 c) HROW2.out ?e1 ?e2 ?e3 ?e4).mono ?_); (case e1 => rw [hm.out]; omega); (case e2 => exact HLEN.out); (case e3 => rw [hm.out]; omega); (case e4 => exact Nat.le_trans (Nat.le_trans HB3.out.size HWR.out) HBB.out.size); rintro e w5 ⟨rfl, hrow3, hb3⟩); have HROW3 := Aside0.mk hrow3; have HB4 := Aside0.mk hb3; clear hrow3 hb3))
      go_roundw
      case rel =>
        refine ⟨c + 1, rowPut 1 (bs, m) (bitOf s2 c), by go_num, ⟨?_⟩, ⟨HROW3.out⟩, ⟨?_⟩, ⟨rowPut1_len (bs, m) _ (by rw [hm.out]; omega) HLEN.out⟩, by omega, ⟨keep2 (keep2 HA.out HBB.out (blk_lt HA.out)) HB4.out (by have := HG1.out; omega)⟩, ⟨keep2 (keep2 HR.out HBB.out (blk_lt HR.out)) HB4.out (by have := HG2.out; omega)⟩, ⟨(HB.out.trans (HBB.out.mono HB.out.size)).trans (HB4.out.mono (by have := HG1.out; omega))⟩, ⟨Nat.le_trans HWR.out (Nat.le_trans HBB.out.size HB4.out.size)⟩⟩
        · rw [← HSEQ.out, show n2.toNat - c = (n2.toNat - (c + 1)) + 1 by omega, rowSeq, show ((c + 1 : Nat) : Int) = (c : Int) + 1 by omega]
        · rw [rowPut_snd, hm.out]; simp only []; omega
      case measure => simp [intOf]; omega
    · have hcc : c = n2.toNat := by omega
      have HE : Aside0 ((bs, m) = rowSeq s2 n2.toNat 0 (bytesI s, n)) := ⟨by
        have := HSEQ.out
        rw [hcc, Nat.sub_self, rowSeq] at this
        exact this⟩
      have HM6 : Aside0 (6000 < m) := ⟨by have := hm.out; have := HLE.out; omega⟩
      clear hcc
      go_wp2_with (first | (go_at_call 90; ((with_reducible refine (row_bits_no _ _ p bs m HROW.out HM6.out).mono ?_); rintro e w4 ⟨rfl, hb4⟩); have HR4 := Aside0.mk (keep2 HR.out hb4 (blk_lt HR.out)); have HB4 := Aside0.mk (below_then HB.out HB.out.size hb4); clear HR c0 c1 f0 f1; obtain ⟨c0, c1, f0, f1⟩ := two_cells HR4.out; clear hb4))
      refine bodyPost_ret (results_list (rs := [.cell 4 27, .tmp 5]) rfl (by simp) (.cell (w.heap.size + 2) 27 #[.string ⟨#[]⟩, .int .i64 0] (0, 0) _ rfl (put2 HR4.out) Try.underlying27 rfl (by kernel_rfl) (.tmp .nil))) rfl ⟨rfl, below_put2 HB4.out (by omega) _ _⟩

/-- bits.Cat. -/
def bits_Cat.f (s : ByteArray) (n : Int) (s2 : ByteArray) (n2 : Int) : Option (ByteArray × Int × Int) :=
  if MayP s n ∧ MayP s2 n2 then (if n + n2 ≤ 6000 then some (packS (ofS s n ++ ofS s2 n2), n + n2, 0) else some (⟨#[]⟩, 0, 2)) else some (⟨#[]⟩, 0, 1)
theorem partK_ofS (s : ByteArray) (k : Nat) : ∀ i : Nat, partK s k (i : Int) = (List.range k).map fun j : Nat => bitOf s ((i + j : Nat) : Int) := by
  induction k with
  | zero => intro i; rfl
  | succ k ih =>
    intro i
    have h := ih (i + 1)
    rw [show (((i + 1 : Nat)) : Int) = (i : Int) + 1 by omega] at h
    rw [partK, List.range_succ_eq_map, List.map_cons, List.map_map, h]
    congr 1
    refine List.map_congr_left fun j _ => ?_
    simp only [Function.comp]
    congr 1
    omega
theorem partK_all (s : ByteArray) (n : Int) : partK s n.toNat 0 = ofS s n := by
  have := partK_ofS s n.toNat 0
  simp only [Nat.zero_add] at this
  exact this
theorem bits_Cat.calls (a0_0 : ByteArray) (a0_1 : Int) (a1_0 : ByteArray) (a1_1 : Int) (r1 : ByteArray) (r2 r3 : Int) (w : World) (h : bits_Cat.f a0_0 a0_1 a1_0 a1_1 = some (r1, r2, r3)) :
    Calls Try.prog 43 #[.agg #[.string a0_0, .int .i64 a0_1], .agg #[.string a1_0, .int .i64 a1_1]] w fun e w' => e = .returned (.tuple #[.agg #[.string r1, .int .i64 r2], .int .i64 r3]) ∧ Below w.heap.size w w' := by
  unfold bits_Cat.f at h
  by_cases hm : MayP a0_0 a0_1
  · by_cases hm2 : MayP a1_0 a1_1
    · rw [if_pos ⟨hm, hm2⟩] at h
      by_cases hn : a0_1 + a1_1 ≤ 6000
      · rw [if_pos hn] at h
        simp only [Option.some.injEq, Prod.mk.injEq] at h
        obtain ⟨rfl, rfl, rfl⟩ := h
        have e := cat_yes a0_0 a0_1 a1_0 a1_1 w hm hm2 hn
        have hp := rowSeq_pack a1_0 a1_1.toNat 0 (ofS a0_0 a0_1) (ofS_bits _ _)
        rw [pack_ofS _ _ hm, partK_all, List.length_append, ofS_length, ofS_length] at hp
        have h1 : ((a0_1.toNat : Nat) : Int) = a0_1 := Int.toNat_of_nonneg hm.1
        have h2 : (((a0_1.toNat + a1_1.toNat : Nat)) : Int) = a0_1 + a1_1 := by have := hm.1; have := hm2.1; omega
        rw [h1, h2] at hp
        rw [hp] at e
        exact e
      · rw [if_neg hn] at h
        simp only [Option.some.injEq, Prod.mk.injEq] at h
        obtain ⟨rfl, rfl, rfl⟩ := h
        exact cat_full a0_0 a0_1 a1_0 a1_1 w hm hm2 (by omega)
    · rw [if_neg (fun h => hm2 h.2)] at h
      simp only [Option.some.injEq, Prod.mk.injEq] at h
      obtain ⟨rfl, rfl, rfl⟩ := h
      exact cat_no2 a0_0 a0_1 a1_0 a1_1 w hm hm2
  · rw [if_neg (fun h => hm h.1)] at h
    simp only [Option.some.injEq, Prod.mk.injEq] at h
    obtain ⟨rfl, rfl, rfl⟩ := h
    exact cat_no1 a0_0 a0_1 a1_0 a1_1 w hm
end Go.Proofs.Ytnpghcikhpglkaa.Q
namespace Go.Proofs.Ytnpghcikhpglkaa.Q
open Go.RowKit Go.Proofs.YtnpghcikhpglkaaW.PrintWords Go.Proofs.YtnpghcikhpglkaaW.PrintLast Go.Proofs.YtnpghcikhpglkaaW.PrintMore Go.Proofs.Ytnpghcikhpglkaa.Hand Go.Proofs.Ytnpghcikhpglkaa.Pu
set_option linter.unusedVariables false
set_option linter.unusedSimpArgs false

/-- A row's first bytes. -/
theorem ownB_first {w : World} {base g n cap : Nat} {bs : List Int} (h : OwnB w base (.slice (some ⟨g, 0, none⟩) n cap) bs) (m : Nat) (hm : m ≤ bs.length) : OwnB w base (.slice (some ⟨g, 0, none⟩) m cap) (bs.take m) := by
  rcases h with ⟨h', _⟩ | ⟨g', cap', cur, fr, h', hb, hg, hn, hmx, hs, hf, ht⟩
  · cases h'
  · simp only [Value.slice.injEq, Option.some.injEq, Addr.mk.injEq, and_true, true_and] at h'
    obtain ⟨rfl, rfl, rfl⟩ := h'
    have hl : (bs.take m).length = m := by rw [List.length_take]; omega
    refine .inr ⟨g, cap, cur, fr, by rw [hl], hb, hg, by omega, hmx, hs, hf, ?_⟩
    rw [hl]
    have := congrArg (List.take m) ht
    rw [List.take_take, Nat.min_eq_left hm] at this
    rw [this]
    simp [nums, List.map_take]
/-- The world behind the argument's box, the result's variable, the bytes. -/
@[reducible] def cutW (w : World) (s : ByteArray) (n : Int) : World := (w.alloc (.cells #[.string s, .int .i64 n] 27)).alloc (.cells #[.string ⟨#[]⟩, .int .i64 0] 27)
theorem cut_facts (w : World) (s : ByteArray) (n : Int) (hs : s.size ≤ 1073741824) (m : Nat) (hms : m ≤ s.size) :
    m ≤ grownCap (cutW w s n) s.size 0 5 ∧ OwnB (Lib.bytesWorld (cutW w s n) 5 s) w.heap.size (.slice (some ⟨w.heap.size + 1 + 1, 0, none⟩) m (grownCap (cutW w s n) s.size 0 5)) ((bytesI s).take m) ∧
    (Lib.bytesWorld (cutW w s n) 5 s).heap[w.heap.size + 1]? = some (.cells #[.string ⟨#[]⟩, .int .i64 0] 27 (0, 0)) ∧ Below w.heap.size w (Lib.bytesWorld (cutW w s n) 5 s) := by
  obtain ⟨h1, h2, h3, h4⟩ := start2 w (.cells #[.string s, .int .i64 n] 27) (.cells #[.string ⟨#[]⟩, .int .i64 0] 27)
  have hge := grownCap_ge (cutW w s n) s.size 0 5
  have hz : (cutW w s n).heap.size = w.heap.size + 1 + 1 := by simp
  refine ⟨by omega, ?_, ?_, below_bytes h3 (Nat.le_of_lt (Nat.lt_of_succ_lt h4)) s⟩
  · have ho := own_bytes (cutW w s n) s w.heap.size (by omega) hs
    rw [hz] at ho
    exact ownB_first ho m (by rw [bytesI_length]; exact hms)
  · exact (Lib.bytesWorld_at_old _ 5 s (w.heap.size + 1) h4).trans h2
set_option maxHeartbeats 4000000 in
set_option maxRecDepth 100000 in
theorem cut_even (s : ByteArray) (n t : Int) (m : Nat) (w : World) (hs : s.size ≤ 1073741824) (h0 : 0 ≤ t) (h1 : t ≤ 1073741824) (hm : (t + 7) / 8 = (m : Int)) (hms : m ≤ s.size) (h8 : t % 8 = 0) :
    Calls Try.prog 60 #[.agg #[.string s, .int .i64 n], .int .i64 t] w fun e w' => e = .returned (.agg #[.string (strOfNums ((bytesI s).take m)), .int .i64 t]) ∧ Below w.heap.size w w' := by
  have hu := Try.underlying27
  have hcv := fun w => Lib.run_convert_string_bytes (P := Try.prog) w 9 63 5 s Try.underlying9 Try.underlying63 Try.underlying5
  have HS := Aside0.mk (start2 w (.cells #[.string s, .int .i64 n] 27) (.cells #[.string ⟨#[]⟩, .int .i64 0] 27))
  have HA := Aside0.mk HS.out.1
  obtain ⟨a0, a1, g0, g1⟩ := two_cells HA.out
  have HF := Aside0.mk (cut_facts w s n hs m hms)
  have hcap := HF.out.1
  have hst := HF.out.2.1.str
  obtain ⟨c0, c1, f0, f1⟩ := two_cells HF.out.2.2.1
  go_enter Try.func60, Try.ntmps60
  go_wp2
  refine bodyPost_ret (results_cell_row rfl _ _ (w.heap.size + 1) 27 #[.string (strOfNums ((bytesI s).take m)), .int .i64 t] (0, 0) _ rfl (put2 HF.out.2.2.1) Try.underlying27 rfl (by kernel_rfl)) rfl ⟨rfl, below_put2 HF.out.2.2.2 (by omega) _ _⟩
/-- The last byte, with what stands behind the bits struck. -/
@[reducible] def cutByte (x t : Int) : Int := bits BinOp.and IntKind.u8 x (255 * 2 ^ (8 - t % 8).toNat % 256)
set_option maxHeartbeats 4000000 in
set_option maxRecDepth 100000 in
theorem cut_odd (s : ByteArray) (n t : Int) (m : Nat) (w : World) (hs : s.size ≤ 1073741824) (h0 : 0 ≤ t) (h1 : t ≤ 1073741824) (hm : (t + 7) / 8 = (m : Int)) (hms : m ≤ s.size) (h8 : ¬ (t % 8 = 0)) :
    Calls Try.prog 60 #[.agg #[.string s, .int .i64 n], .int .i64 t] w fun e w' => e = .returned (.agg #[.string (strOfNums (((bytesI s).take m).set (m - 1) (cutByte (rd ((bytesI s).take m) ((m - 1 : Nat) : Int)) t))), .int .i64 t]) ∧ Below w.heap.size w w' := by
  have hu := Try.underlying27
  have hcv := fun w => Lib.run_convert_string_bytes (P := Try.prog) w 9 63 5 s Try.underlying9 Try.underlying63 Try.underlying5
  have HS := Aside0.mk (start2 w (.cells #[.string s, .int .i64 n] 27) (.cells #[.string ⟨#[]⟩, .int .i64 0] 27))
  have HA := Aside0.mk HS.out.1
  obtain ⟨a0, a1, g0, g1⟩ := two_cells HA.out
  have HF := Aside0.mk (cut_facts w s n hs m hms)
  have hcap := HF.out.1
  have hm1 : 1 ≤ m := by omega
  have hlen : ((bytesI s).take m).length = m := by rw [List.length_take, bytesI_length]; omega
  obtain ⟨cg, fg⟩ := HF.out.2.1.at_ ((m - 1 : Nat) : Int) (by omega) (by omega)
  rw [Int.toNat_natCast] at cg fg
  have HO := Aside0.mk ((HF.out.2.1.store ((m - 1 : Nat) : Int) (cutByte (rd ((bytesI s).take m) ((m - 1 : Nat) : Int)) t)).drew)
  rw [Int.toNat_natCast] at HO
  have hst := HO.out.str
  have HR := Aside0.mk (show (((Lib.bytesWorld (cutW w s n) 5 s).setCell ⟨w.heap.size + 1 + 1, (m - 1), none⟩ (.int .u8 (cutByte (rd ((bytesI s).take m) ((m - 1 : Nat) : Int)) t))).drew).heap[w.heap.size + 1]? = some (.cells #[.string ⟨#[]⟩, .int .i64 0] 27 (0, 0)) from blk_far HF.out.2.2.1 (by simp) _)
  have HB := Aside0.mk (below_drew0 (HF.out.2.2.2.setCell (p := ⟨w.heap.size + 1 + 1, (m - 1), none⟩) (by simp; omega) (.int .u8 (cutByte (rd ((bytesI s).take m) ((m - 1 : Nat) : Int)) t))))
  obtain ⟨c0, c1, f0, f1⟩ := two_cells HR.out
  have HR1 := Aside0.mk (show ((Lib.bytesWorld (cutW w s n) 5 s).setCell ⟨w.heap.size + 1 + 1, (m - 1), none⟩ (.int .u8 (cutByte (rd ((bytesI s).take m) ((m - 1 : Nat) : Int)) t))).heap[w.heap.size + 1]? = some (.cells #[.string ⟨#[]⟩, .int .i64 0] 27 (0, 0)) from HR.out)
  have HB1 := Aside0.mk (HF.out.2.2.2.setCell (p := ⟨w.heap.size + 1 + 1, (m - 1), none⟩) (by simp; omega) (.int .u8 (cutByte (rd ((bytesI s).take m) ((m - 1 : Nat) : Int)) t)))
  obtain ⟨d0, d1, e0, e1⟩ := two_cells HR1.out
  clear hlen
  go_enter Try.func60, Try.ntmps60
  go_wp2
  go_region
  go_wp2
  refine bodyPost_ret (results_cell_row rfl _ _ (w.heap.size + 1) 27 #[.string (strOfNums (((bytesI s).take m).set (m - 1) (cutByte (rd ((bytesI s).take m) ((m - 1 : Nat) : Int)) t))), .int .i64 t] (0, 0) _ rfl (put2 HR1.out) Try.underlying27 rfl (by kernel_rfl)) rfl ⟨rfl, below_drew0 (below_put2 HB1.out (by omega) _ _)⟩

def maskOk (x r : Nat) : Bool := cutByte (x : Int) (r : Int) == (x : Int) - (x : Int) % ((2 ^ (8 - r) : Nat) : Int)
theorem mask_all : ∀ (x : Fin 256) (r : Fin 7), maskOk x.val (r.val + 1) = true := by decide +kernel
theorem mask_eq (x : Int) (r : Nat) (h0 : 0 ≤ x) (h1 : x < 256) (hr : 1 ≤ r ∧ r ≤ 7) : cutByte x (r : Int) = x - x % ((2 ^ (8 - r) : Nat) : Int) := by
  obtain ⟨x, rfl⟩ := Int.eq_ofNat_of_zero_le h0
  have h := mask_all ⟨x, by omega⟩ ⟨r - 1, by omega⟩
  unfold maskOk at h
  simp only at h
  rw [show r - 1 + 1 = r by omega] at h
  exact eq_of_beq h
theorem bits_floor (b0 b1 b2 b3 b4 b5 b6 b7 : Int) (h0 : 0 ≤ b0 ∧ b0 ≤ 1) (h1 : 0 ≤ b1 ∧ b1 ≤ 1) (h2 : 0 ≤ b2 ∧ b2 ≤ 1) (h3 : 0 ≤ b3 ∧ b3 ≤ 1) (h4 : 0 ≤ b4 ∧ b4 ≤ 1) (h5 : 0 ≤ b5 ∧ b5 ≤ 1) (h6 : 0 ≤ b6 ∧ b6 ≤ 1) (h7 : 0 ≤ b7 ∧ b7 ≤ 1) :
    let x := b0 * 128 + b1 * 64 + b2 * 32 + b3 * 16 + b4 * 8 + b5 * 4 + b6 * 2 + b7
    x - x % 128 = b0 * 128 ∧ x - x % 64 = b0 * 128 + b1 * 64 ∧ x - x % 32 = b0 * 128 + b1 * 64 + b2 * 32 ∧ x - x % 16 = b0 * 128 + b1 * 64 + b2 * 32 + b3 * 16 ∧ x - x % 8 = b0 * 128 + b1 * 64 + b2 * 32 + b3 * 16 + b4 * 8 ∧
    x - x % 4 = b0 * 128 + b1 * 64 + b2 * 32 + b3 * 16 + b4 * 8 + b5 * 4 ∧ x - x % 2 = b0 * 128 + b1 * 64 + b2 * 32 + b3 * 16 + b4 * 8 + b5 * 4 + b6 * 2 := by
  intro x
  refine ⟨?_, ?_, ?_, ?_, ?_, ?_, ?_⟩ <;> (simp only [x]; omega)
theorem b01c {x : Int} (h : x = 0 ∨ x = 1) : 0 ≤ x ∧ x ≤ 1 := by omega
theorem mask_byte (l l' : List Int) (q r : Nat) (hr : r = 1 ∨ r = 2 ∨ r = 3 ∨ r = 4 ∨ r = 5 ∨ r = 6 ∨ r = 7) (hb : ∀ i, l.getD i 0 = 0 ∨ l.getD i 0 = 1) (h1 : ∀ i, i < r → l'.getD (8 * q + i) 0 = l.getD (8 * q + i) 0) (h2 : ∀ i, r ≤ i → i < 8 → l'.getD (8 * q + i) 0 = 0) :
    byteAt l q - byteAt l q % ((2 ^ (8 - r) : Nat) : Int) = byteAt l' q := by
  have hf := bits_floor _ _ _ _ _ _ _ _ (b01c (hb (8 * q))) (b01c (hb (8 * q + 1))) (b01c (hb (8 * q + 2))) (b01c (hb (8 * q + 3))) (b01c (hb (8 * q + 4))) (b01c (hb (8 * q + 5))) (b01c (hb (8 * q + 6))) (b01c (hb (8 * q + 7)))
  simp only at hf
  obtain ⟨f1, f2, f3, f4, f5, f6, f7⟩ := hf
  unfold byteAt
  have a0 : l'.getD (8 * q) 0 = l.getD (8 * q) 0 := h1 0 (by omega)
  rw [a0]
  rcases hr with rfl | rfl | rfl | rfl | rfl | rfl | rfl
  · rw [h2 1 (by omega) (by omega), h2 2 (by omega) (by omega), h2 3 (by omega) (by omega), h2 4 (by omega) (by omega), h2 5 (by omega) (by omega), h2 6 (by omega) (by omega), h2 7 (by omega) (by omega)]
    refine f1.trans ?_; omega
  · rw [h1 1 (by omega), h2 2 (by omega) (by omega), h2 3 (by omega) (by omega), h2 4 (by omega) (by omega), h2 5 (by omega) (by omega), h2 6 (by omega) (by omega), h2 7 (by omega) (by omega)]
    refine f2.trans ?_; omega
  · rw [h1 1 (by omega), h1 2 (by omega), h2 3 (by omega) (by omega), h2 4 (by omega) (by omega), h2 5 (by omega) (by omega), h2 6 (by omega) (by omega), h2 7 (by omega) (by omega)]
    refine f3.trans ?_; omega
  · rw [h1 1 (by omega), h1 2 (by omega), h1 3 (by omega), h2 4 (by omega) (by omega), h2 5 (by omega) (by omega), h2 6 (by omega) (by omega), h2 7 (by omega) (by omega)]
    refine f4.trans ?_; omega
  · rw [h1 1 (by omega), h1 2 (by omega), h1 3 (by omega), h1 4 (by omega), h2 5 (by omega) (by omega), h2 6 (by omega) (by omega), h2 7 (by omega) (by omega)]
    refine f5.trans ?_; omega
  · rw [h1 1 (by omega), h1 2 (by omega), h1 3 (by omega), h1 4 (by omega), h1 5 (by omega), h2 6 (by omega) (by omega), h2 7 (by omega) (by omega)]
    refine f6.trans ?_; omega
  · rw [h1 1 (by omega), h1 2 (by omega), h1 3 (by omega), h1 4 (by omega), h1 5 (by omega), h1 6 (by omega), h2 7 (by omega) (by omega)]
    refine f7.trans ?_; omega
theorem cut_pack (s : ByteArray) (n t : Int) (h : MayP s n) (h0 : 0 ≤ t) (h1 : t ≤ n) (m : Nat) (hm : (t + 7) / 8 = (m : Int)) :
    strOfNums (if t % 8 = 0 then (bytesI s).take m else ((bytesI s).take m).set (m - 1) (cutByte (rd ((bytesI s).take m) ((m - 1 : Nat) : Int)) t)) = packS ((ofS s n).take t.toNat) := by
  obtain ⟨t, rfl⟩ := Int.eq_ofNat_of_zero_le h0
  have hn := h.1
  have hl := ofS_length s n
  have hb := ofS_bits s n
  rw [← pack_ofS s n h, Int.toNat_natCast]
  generalize ofS s n = l at *
  have htl : (l.take t).length = t := by rw [List.length_take]; omega
  have hold : ∀ j, 8 * j + 8 ≤ t → byteAt (l.take t) j = byteAt l j := by
    intro j hj
    have hg : ∀ i, i < t → (l.take t).getD i 0 = l.getD i 0 := by
      intro i hi
      rw [List.getD_eq_getElem?_getD, List.getD_eq_getElem?_getD, List.getElem?_take_of_lt hi]
    unfold byteAt
    rw [hg _ (by omega), hg _ (by omega), hg _ (by omega), hg _ (by omega), hg _ (by omega), hg _ (by omega), hg _ (by omega), hg _ (by omega)]
  unfold packS
  congr 1
  by_cases h8 : (t : Int) % 8 = 0
  · rw [if_pos h8]
    refine List.ext_getElem? fun j => ?_
    rcases Nat.lt_or_ge j m with hj | hj
    · rw [List.getElem?_take_of_lt hj, packL_get l j (by omega), packL_get _ j (by omega), hold j (by omega)]
    · rw [List.getElem?_eq_none (by rw [List.length_take]; omega), List.getElem?_eq_none (by rw [packL_length, htl]; omega)]
  · rw [if_neg h8]
    refine List.ext_getElem? fun j => ?_
    rw [List.getElem?_set]
    rcases Nat.lt_or_ge j m with hj | hj
    · by_cases he : m - 1 = j
      · have hrd : rd ((packL l).take m) ((m - 1 : Nat) : Int) = byteAt l (m - 1) := by
          unfold rd
          rw [Int.toNat_natCast, List.getD_eq_getElem?_getD, List.getElem?_take_of_lt (by omega), packL_get l _ (by omega)]
          rfl
        rw [if_pos he, if_pos (by rw [List.length_take, packL_length]; omega), hrd, ← he, packL_get _ (m - 1) (by omega)]
        refine congrArg some ?_
        have hr := byteAt_range hb (m - 1)
        obtain ⟨q, r, hr1, hr7, hq⟩ : ∃ q r, 1 ≤ r ∧ r ≤ 7 ∧ t = 8 * q + r := ⟨t / 8, t % 8, by omega, by omega, by omega⟩
        have hmq : m - 1 = q := by omega
        have hg1 : ∀ i, i < t → (l.take t).getD i 0 = l.getD i 0 := by
          intro i hi
          rw [List.getD_eq_getElem?_getD, List.getD_eq_getElem?_getD, List.getElem?_take_of_lt hi]
        have hg2 : ∀ i, t ≤ i → (l.take t).getD i 0 = 0 := fun i hi => getD_beyond _ _ (by omega)
        have e8 : (t : Int) % 8 = (r : Int) := by omega
        have ec : cutByte (byteAt l (m - 1)) (t : Int) = cutByte (byteAt l (m - 1)) (r : Int) := by
          unfold cutByte; rw [e8, Int.emod_eq_of_lt (a := (r : Int)) (by omega) (by omega)]
        rw [ec, mask_eq _ r hr.1 hr.2 ⟨hr1, hr7⟩, hmq]
        have hr3 : r = 1 ∨ r = 2 ∨ r = 3 ∨ r = 4 ∨ r = 5 ∨ r = 6 ∨ r = 7 := by omega
        exact mask_byte l (l.take t) q r hr3 (fun i => hb.getD i) (fun i hi => hg1 _ (by omega)) (fun i hi h8 => hg2 _ (by omega))
      · rw [if_neg he, List.getElem?_take_of_lt hj, packL_get l j (by omega), packL_get _ j (by omega), hold j (by omega)]
    · rw [if_neg (by omega), List.getElem?_eq_none (by rw [List.length_take]; omega), List.getElem?_eq_none (by rw [packL_length, htl]; omega)]
/-- herbariumlaw2.cut. -/
def herbariumlaw2_cut.f (s : ByteArray) (n t : Int) : Option (ByteArray × Int) := if MayP s n ∧ 0 ≤ t ∧ t ≤ n then some (packS ((ofS s n).take t.toNat), t) else none
theorem herbariumlaw2_cut.calls (s : ByteArray) (n t : Int) (r1 : ByteArray) (r2 : Int) (w : World) (h : herbariumlaw2_cut.f s n t = some (r1, r2)) :
    Calls Try.prog 60 #[.agg #[.string s, .int .i64 n], .int .i64 t] w fun e w' => e = .returned (.agg #[.string r1, .int .i64 r2]) ∧ Below w.heap.size w w' := by
  unfold herbariumlaw2_cut.f at h
  split at h
  · rename_i hc
    simp only [Option.some.injEq, Prod.mk.injEq] at h
    obtain ⟨rfl, rfl⟩ := h
    obtain ⟨hm, h0, h1⟩ := hc
    have hsz := hm.2.2.1
    have hn := hm.2.1
    obtain ⟨m, he⟩ := Int.eq_ofNat_of_zero_le (show 0 ≤ (t + 7) / 8 by omega)
    have hp := cut_pack s n t hm h0 h1 m he
    rw [← hp]
    by_cases h8 : t % 8 = 0
    · rw [if_pos h8]; exact cut_even s n t m w (by omega) h0 (by omega) he (by omega) h8
    · rw [if_neg h8]; exact cut_odd s n t m w (by omega) h0 (by omega) he (by omega) h8
  · cases h
end Go.Proofs.Ytnpghcikhpglkaa.Q
namespace Go.Proofs.Ytnpghcikhpglkaa.Q
open Go.RowKit Go.Proofs.YtnpghcikhpglkaaW.PrintWords Go.Proofs.YtnpghcikhpglkaaW.PrintLast Go.Proofs.YtnpghcikhpglkaaW.PrintMore
attribute [local go_sem] max2_int min2_int max_two min_two max_three min_three max_four min_four   -- for this text's walks alone
set_option linter.unusedVariables false
set_option linter.unusedSimpArgs false

/-! ### herbariumlaw2_CodeCuts: function 11 -/
mutual
def herbariumlaw2_CodeCuts.l0 : Nat → Int → List (S27) → List Int → Option (Bool)
  | 0, _, _, _ => none
  | k + 1, x3, x795000, x795001 => if x3 ≤ 5 then (herbariumlaw2_CodeCuts.l1 k x3 (([2, 5, wrap64 (100 + (x795001.length : Int)), 65535, 1073741824] : List Int)) 0 x795000 x795001) else ((herbariumlaw2_wakes.f k).bind fun t795 => (some t795))
def herbariumlaw2_CodeCuts.l1 : Nat → Int → List Int → Int → List (S27) → List Int → Option (Bool)
  | 0, _, _, _, _, _ => none
  | k + 1, x3, x4, x5, x795000, x795001 => if x5 < (x4.length : Int) then (if 0 ≤ x5 then ((code_Put.f (⟨#[]⟩ : ByteArray) 0 x3 (rd x4 x5)).bind fun bt800 => ((herbariumlaw2_num.f bt800.2.2).bind fun t804 => (if t804 = 0 then ((herbariumref1_Bits.f k bt800.1 bt800.2.1).bind fun t805 => (herbariumlaw2_CodeCuts.j2 k x3 x4 x5 (!t805) x795000 x795001 bt800.1 bt800.2.1)) else (herbariumlaw2_CodeCuts.j2 k x3 x4 x5 true x795000 x795001 bt800.1 bt800.2.1)))) else (none)) else (herbariumlaw2_CodeCuts.l0 k (wrap64 (x3 + 1)) x795000 x795001)
def herbariumlaw2_CodeCuts.j2 : Nat → Int → List Int → Int → Bool → List (S27) → List Int → ByteArray → Int → Option (Bool)
  | 0, _, _, _, _, _, _, _, _ => none
  | k + 1, x3, x4, x5, x47, x795000, x795001, x804000, x804001 => if x47 = true then (some false) else (herbariumlaw2_CodeCuts.l2 k x3 x4 x5 0 x795000 x795001 x804000 x804001)
def herbariumlaw2_CodeCuts.l2 : Nat → Int → List Int → Int → Int → List (S27) → List Int → ByteArray → Int → Option (Bool)
  | 0, _, _, _, _, _, _, _, _ => none
  | k + 1, x3, x4, x5, x8, x795000, x795001, x804000, x804001 => if x8 < x804001 then ((herbariumlaw2_cut.f x804000 x804001 x8).bind fun bt806 => ((code_Take.f k bt806.1 bt806.2 0 x3).bind fun bt809 => ((herbariumlaw2_num.f bt809.2.2).bind fun t812 => (if t812 = 9 then (herbariumlaw2_CodeCuts.l2 k x3 x4 x5 (wrap64 (x8 + 1)) x795000 x795001 x804000 x804001) else (some false))))) else ((code_Put.f (⟨#[]⟩ : ByteArray) 0 x3 1073741825).bind fun bt813 => ((herbariumlaw2_num.f bt813.2.2).bind fun t817 => (if t817 = 1 then (herbariumlaw2_CodeCuts.l1 k x3 x4 (wrap64 (x5 + 1)) x795000 x795001) else (some false))))
end
def herbariumlaw2_CodeCuts.f (k : Nat) (l0_0 : List (S27)) (l0_1 : List Int) : Option (Bool) := herbariumlaw2_CodeCuts.l0 k 2 l0_0 l0_1
theorem herbariumlaw2_CodeCuts.mono_l : ∀ k, (∀ y0 y1 y2, LeO (herbariumlaw2_CodeCuts.l0 k y0 y1 y2) (herbariumlaw2_CodeCuts.l0 (k + 1) y0 y1 y2)) ∧ (∀ y0 y1 y2 y3 y4, LeO (herbariumlaw2_CodeCuts.l1 k y0 y1 y2 y3 y4) (herbariumlaw2_CodeCuts.l1 (k + 1) y0 y1 y2 y3 y4)) ∧ (∀ y0 y1 y2 y3 y4 y5 y6 y7, LeO (herbariumlaw2_CodeCuts.j2 k y0 y1 y2 y3 y4 y5 y6 y7) (herbariumlaw2_CodeCuts.j2 (k + 1) y0 y1 y2 y3 y4 y5 y6 y7)) ∧ (∀ y0 y1 y2 y3 y4 y5 y6 y7, LeO (herbariumlaw2_CodeCuts.l2 k y0 y1 y2 y3 y4 y5 y6 y7) (herbariumlaw2_CodeCuts.l2 (k + 1) y0 y1 y2 y3 y4 y5 y6 y7))
  | 0 => ⟨fun _ _ _ r h => by simp [herbariumlaw2_CodeCuts.l0] at h, fun _ _ _ _ _ r h => by simp [herbariumlaw2_CodeCuts.l1] at h, fun _ _ _ _ _ _ _ _ r h => by simp [herbariumlaw2_CodeCuts.j2] at h, fun _ _ _ _ _ _ _ _ r h => by simp [herbariumlaw2_CodeCuts.l2] at h⟩
  | k + 1 => by
    obtain ⟨ih0, ih1, ih2, ih3⟩ := herbariumlaw2_CodeCuts.mono_l k
    refine ⟨?_, ?_, ?_, ?_⟩
    · intro y0 y1 y2
      unfold herbariumlaw2_CodeCuts.l0
      repeat' first
      | (with_reducible exact ih0 _ _ _)
      | (with_reducible exact ih1 _ _ _ _ _)
      | (with_reducible exact ih2 _ _ _ _ _ _ _ _)
      | (with_reducible exact ih3 _ _ _ _ _ _ _ _)
      | (with_reducible exact code_Take.mono _ _ _ _ _)
      | (with_reducible exact herbariumlaw2_wakes.mono _)
      | (with_reducible exact herbariumref1_Bits.mono _ _ _)
      | (with_reducible exact LeO.refl _)
      | (with_reducible exact LeO.none _)
      | (with_reducible refine LeO.ite ?_ ?_)
      | (with_reducible refine LeO.bind ?_ (fun _ => ?_))
      | exact ih0 _ _ _
      | exact ih1 _ _ _ _ _
      | exact ih2 _ _ _ _ _ _ _ _
      | exact ih3 _ _ _ _ _ _ _ _
      | exact code_Take.mono _ _ _ _ _
      | exact herbariumlaw2_wakes.mono _
      | exact herbariumref1_Bits.mono _ _ _
      | exact LeO.none _
      | refine LeO.ite ?_ ?_
      | refine LeO.bind ?_ (fun _ => ?_)
    · intro y0 y1 y2 y3 y4
      unfold herbariumlaw2_CodeCuts.l1
      repeat' first
      | (with_reducible exact ih0 _ _ _)
      | (with_reducible exact ih1 _ _ _ _ _)
      | (with_reducible exact ih2 _ _ _ _ _ _ _ _)
      | (with_reducible exact ih3 _ _ _ _ _ _ _ _)
      | (with_reducible exact code_Take.mono _ _ _ _ _)
      | (with_reducible exact herbariumlaw2_wakes.mono _)
      | (with_reducible exact herbariumref1_Bits.mono _ _ _)
      | (with_reducible exact LeO.refl _)
      | (with_reducible exact LeO.none _)
      | (with_reducible refine LeO.ite ?_ ?_)
      | (with_reducible refine LeO.bind ?_ (fun _ => ?_))
      | exact ih0 _ _ _
      | exact ih1 _ _ _ _ _
      | exact ih2 _ _ _ _ _ _ _ _
      | exact ih3 _ _ _ _ _ _ _ _
      | exact code_Take.mono _ _ _ _ _
      | exact herbariumlaw2_wakes.mono _
      | exact herbariumref1_Bits.mono _ _ _
      | exact LeO.none _
      | refine LeO.ite ?_ ?_
      | refine LeO.bind ?_ (fun _ => ?_)
    · intro y0 y1 y2 y3 y4 y5 y6 y7
      unfold herbariumlaw2_CodeCuts.j2
      repeat' first
      | (with_reducible exact ih0 _ _ _)
      | (with_reducible exact ih1 _ _ _ _ _)
      | (with_reducible exact ih2 _ _ _ _ _ _ _ _)
      | (with_reducible exact ih3 _ _ _ _ _ _ _ _)
      | (with_reducible exact code_Take.mono _ _ _ _ _)
      | (with_reducible exact herbariumlaw2_wakes.mono _)
      | (with_reducible exact herbariumref1_Bits.mono _ _ _)
      | (with_reducible exact LeO.refl _)
      | (with_reducible exact LeO.none _)
      | (with_reducible refine LeO.ite ?_ ?_)
      | (with_reducible refine LeO.bind ?_ (fun _ => ?_))
      | exact ih0 _ _ _
      | exact ih1 _ _ _ _ _
      | exact ih2 _ _ _ _ _ _ _ _
      | exact ih3 _ _ _ _ _ _ _ _
      | exact code_Take.mono _ _ _ _ _
      | exact herbariumlaw2_wakes.mono _
      | exact herbariumref1_Bits.mono _ _ _
      | exact LeO.none _
      | refine LeO.ite ?_ ?_
      | refine LeO.bind ?_ (fun _ => ?_)
    · intro y0 y1 y2 y3 y4 y5 y6 y7
      unfold herbariumlaw2_CodeCuts.l2
      repeat' first
      | (with_reducible exact ih0 _ _ _)
      | (with_reducible exact ih1 _ _ _ _ _)
      | (with_reducible exact ih2 _ _ _ _ _ _ _ _)
      | (with_reducible exact ih3 _ _ _ _ _ _ _ _)
      | (with_reducible exact code_Take.mono _ _ _ _ _)
      | (with_reducible exact herbariumlaw2_wakes.mono _)
      | (with_reducible exact herbariumref1_Bits.mono _ _ _)
      | (with_reducible exact LeO.refl _)
      | (with_reducible exact LeO.none _)
      | (with_reducible refine LeO.ite ?_ ?_)
      | (with_reducible refine LeO.bind ?_ (fun _ => ?_))
      | exact ih0 _ _ _
      | exact ih1 _ _ _ _ _
      | exact ih2 _ _ _ _ _ _ _ _
      | exact ih3 _ _ _ _ _ _ _ _
      | exact code_Take.mono _ _ _ _ _
      | exact herbariumlaw2_wakes.mono _
      | exact herbariumref1_Bits.mono _ _ _
      | exact LeO.none _
      | refine LeO.ite ?_ ?_
      | refine LeO.bind ?_ (fun _ => ?_)
theorem herbariumlaw2_CodeCuts.mono : ∀ a0 a1 k, LeO (herbariumlaw2_CodeCuts.f k a0 a1) (herbariumlaw2_CodeCuts.f (k + 1) a0 a1) := by
  intro a0 a1 k
  obtain ⟨ih0, ih1, ih2, ih3⟩ := herbariumlaw2_CodeCuts.mono_l k
  unfold herbariumlaw2_CodeCuts.f
  repeat' first
      | (with_reducible exact ih0 _ _ _)
      | (with_reducible exact ih1 _ _ _ _ _)
      | (with_reducible exact ih2 _ _ _ _ _ _ _ _)
      | (with_reducible exact ih3 _ _ _ _ _ _ _ _)
      | (with_reducible exact code_Take.mono _ _ _ _ _)
      | (with_reducible exact herbariumlaw2_wakes.mono _)
      | (with_reducible exact herbariumref1_Bits.mono _ _ _)
      | (with_reducible exact LeO.refl _)
      | (with_reducible exact LeO.none _)
      | (with_reducible refine LeO.ite ?_ ?_)
      | (with_reducible refine LeO.bind ?_ (fun _ => ?_))
      | exact ih0 _ _ _
      | exact ih1 _ _ _ _ _
      | exact ih2 _ _ _ _ _ _ _ _
      | exact ih3 _ _ _ _ _ _ _ _
      | exact code_Take.mono _ _ _ _ _
      | exact herbariumlaw2_wakes.mono _
      | exact herbariumref1_Bits.mono _ _ _
      | exact LeO.none _
      | refine LeO.ite ?_ ?_
      | refine LeO.bind ?_ (fun _ => ?_)
set_option maxHeartbeats 8000000 in
set_option maxRecDepth 100000 in
theorem herbariumlaw2_CodeCuts.calls (k : Nat) (A0_0 : Option Addr) (c0_0 : Nat) (l0_0 : List (S27)) (A0_1 : Option Addr) (c0_1 : Nat) (l0_1 : List Int) (r : Bool) (w : World) (hr0_0 : Kd.C k27 w A0_0 l0_0.length l0_0) (hc0_0 : l0_0.length ≤ c0_0) (hr0_1 : Kd.C (Kd.int .i64) w A0_1 l0_1.length l0_1) (hc0_1 : l0_1.length ≤ c0_1) (h : herbariumlaw2_CodeCuts.f k l0_0 l0_1 = some r) :
    Calls Try.prog 11 #[.agg #[.slice A0_0 l0_0.length c0_0, .slice A0_1 l0_1.length c0_1]] w fun e w' => e = .returned (.bool r) ∧ Below w.heap.size w w' := by
  have hu25 := Try.underlying25
  have hu27 := Try.underlying27
  have HR0_0 := Aside0.mk hr0_0
  have HC0_0 := Aside0.mk hc0_0
  clear hr0_0 hc0_0
  have HR0_1 := Aside0.mk hr0_1
  have HC0_1 := Aside0.mk hc0_1
  clear hr0_1 hc0_1
  have HB := Aside0.mk (Below.refl w.heap.size w)
  have H : (herbariumlaw2_CodeCuts.l0 k 2 l0_0 l0_1) = some r := h
  clear h
  have H' := Aside0.mk H
  clear H
  go_enter Try.func11, Try.ntmps11
  go_wp2_with (first | ((with_reducible refine gate_dst (N := 1) rfl ?_); refine box_event ?hg (N := 1) ?hd (cs := #[.slice A0_0 l0_0.length c0_0, .slice A0_1 l0_1.length c0_1]) (t := 25) ?hr ?_; (case hd => rfl); (case hg => rfl); (case hr => first | (go_simp; done) | (go_simp; rfl)); intro gb794 hg w2 hbox hb; have n0_ := Aside0.mk (below_step (by repeat (first | (with_reducible first | exact HB.out | apply below_alloc | apply pw_below_drewN | apply below_drew1) | exact HB.out)) hb); have n1_ := Aside0.mk (hbox); have n2_ := Aside0.mk ((by rw [hg]; exact (below_size (by repeat (first | (with_reducible first | exact HB.out | apply below_alloc | apply pw_below_drewN | apply below_drew1) | exact HB.out))) : w.heap.size ≤ gb794)); have n3_ := Aside0.mk ((by rw [hg]; exact (below_size (by repeat (first | (with_reducible first | exact HB.out | apply below_alloc | apply pw_below_drewN | apply below_drew1) | exact HB.out))) : w.heap.size ≤ gb794)); clear HB; have HB := n0_; have BK794 := n1_; have GW794 := n2_; have GE794 := n3_; clear n0_ n1_ n2_ n3_; clear hb hbox hg))
  go_loopg [3] k (fun kq v3 w' => ∃ (x3_1 : Int), v3 = .int .i64 x3_1 ∧ Aside0 (herbariumlaw2_CodeCuts.l0 kq x3_1 l0_0 l0_1 = some r) ∧ Aside0 (kq ≤ k) ∧ Aside0 (w'.heap[gb794]? = some (.cells #[(.slice A0_0 l0_0.length c0_0), (.slice A0_1 l0_1.length c0_1)] 25 (0, 0))) ∧ Aside0 (Below w.heap.size w w'))
  case atStart => exact ⟨(2), (by first | rfl | (simp; done) | (simp [*]; done)), H', ⟨Nat.le_refl _⟩, ⟨by (with_reducible repeat (first | refine blk_drewN ?_ _ | refine blk_drew ?_ | refine blk_alloc ?_ _)); exact BK794.out⟩, ⟨by repeat (first | (with_reducible first | exact HB.out | apply below_alloc | apply pw_below_drewN | apply below_drew1 | refine below_set ?_ GE794.out) | exact HB.out)⟩⟩
  case round =>
    clear H'
    try clear c1
    try clear p2
    obtain ⟨x3_1, rfl, HA, HK1, BK794, HB⟩ := hrel
    cases gk with
    | zero => exact absurd HA.out (by simp [herbariumlaw2_CodeCuts.l0])
    | succ k1 =>
      have H := HA.out
      clear HA
      simp only [herbariumlaw2_CodeCuts.l0] at H
      by_cases c3 : x3_1 ≤ 5
      · rw [if_pos c3] at H
        have c3b0 : decide (x3_1 ≤ 5) = true := decide_eq_true c3
        clear c3
        obtain ⟨y796, hy796⟩ : ∃ y_ : List Int, y_ = (([2, 5, wrap64 (100 + (l0_1.length : Int)), 65535, 1073741824] : List Int)) := ⟨_, rfl⟩
        replace H : (herbariumlaw2_CodeCuts.l1 k1 x3_1 y796 0 l0_0 l0_1) = some r := by first | (rw [hy796]; with_reducible exact H) | (have H2_ := (Option.bind_some _ _).symm.trans H; rw [hy796]; with_reducible exact H2_) | (have H2_ := (Option.bind_some _ _).symm.trans H; with_reducible exact H2_) | with_reducible exact H | (rw [hy796]; exact H) | exact H
        have Ny796 := Aside0.mk hy796
        clear hy796
        have H' := Aside0.mk H
        clear H
        have hcz4_0 : wr.cell? ⟨gb794, 0, none⟩ = some (.slice A0_0 l0_0.length c0_0) := (blk_cell BK794.out 0).trans rfl
        have hcz4_1 : wr.cell? ⟨gb794, 1, none⟩ = some (.slice A0_1 l0_1.length c0_1) := (blk_cell BK794.out 1).trans rfl
        have hfz4_0 := blk_frozen BK794.out 0
        have hfz4_1 := blk_frozen BK794.out 1
        go_wp2_with (first | ((with_reducible refine gate_dst (N := 23) rfl ?_); refine Kd.R_lit (Kd.int .i64) _ 3 ?hg (N := 23) ?hd (xs := ([2, 5, wrap64 (100 + (l0_1.length : Int)), 65535, 1073741824] : List Int)) (inner := [.int .i64 2, .int .i64 5, .int .i64 (wrap64 (100 + (l0_1.length : Int))), .int .i64 65535, .int .i64 1073741824]) (ok := fun _ => True) (okp := fun _ => True) ?hr ?hp (fun _ hk => hk) trivial (Below.refl _ _) (Nat.le_refl _) (by simp) ?_; (case hd => rfl); (case hg => rfl); (case hr => first | (go_simp; done) | (go_simp; rfl)); (case hp => exact (Reps.one (show Kd.M (Kd.int .i64) _ _ _ 2 [.int .i64 2] from rfl) (Reps.one (show Kd.M (Kd.int .i64) _ _ _ 5 [.int .i64 5] from rfl) (Reps.one (show Kd.M (Kd.int .i64) _ _ _ (wrap64 (100 + (l0_1.length : Int))) [.int .i64 (wrap64 (100 + (l0_1.length : Int)))] from rfl) (Reps.one (show Kd.M (Kd.int .i64) _ _ _ 65535 [.int .i64 65535] from rfl) (Reps.one (show Kd.M (Kd.int .i64) _ _ _ 1073741824 [.int .i64 1073741824] from rfl) (Reps.none _ _))))))); intro v797 w5 ho6 hb hg_ hnew_; clear hg_ hnew_; (first | rw [← Ny796.out] at ho6 | (simp only [Int.reduceToNat] at ho6; rw [← Ny796.out] at ho6)); have n0_ := Aside0.mk (Kd.R_lower ho6 (below_size (by repeat (first | (with_reducible first | exact HB.out | apply below_alloc | apply pw_below_drewN | apply below_drew1 | refine below_set ?_ GE794.out) | exact HB.out)))); have n1_ := Aside0.mk (blk_below (g := gb794) (o := .cells #[.slice A0_0 l0_0.length c0_0, .slice A0_1 l0_1.length c0_1] 25 (0, 0)) (by (with_reducible repeat (first | refine blk_drewN ?_ _ | refine blk_drew ?_ | refine blk_alloc ?_ _)); exact BK794.out) hb); have n2_ := Aside0.mk (below_step (by repeat (first | (with_reducible first | exact HB.out | apply below_alloc | apply pw_below_drewN | apply below_drew1 | refine below_set ?_ GE794.out) | exact HB.out)) hb); clear BK794; clear HB; have HO798 := n0_; have BK794 := n1_; have HB := n2_; clear n0_ n1_ n2_; clear hb ho6))
        go_loopg [5] k1 (fun kq v5 w' => ∃ (x5_2 : Int), v5 = .int .i64 x5_2 ∧ Aside0 (herbariumlaw2_CodeCuts.l1 kq x3_1 y796 x5_2 l0_0 l0_1 = some r) ∧ Aside0 (kq ≤ k1) ∧ Aside0 (Kd.R (Kd.int .i64) 3 w' w.heap.size (fun _ => True) v797 y796) ∧ Aside0 (w'.heap[gb794]? = some (.cells #[(.slice A0_0 l0_0.length c0_0), (.slice A0_1 l0_1.length c0_1)] 25 (0, 0))) ∧ Aside0 (Below w.heap.size w w'))
        case atStart => exact ⟨(0), (by first | rfl | (simp; done) | (simp [*]; done)), H', ⟨Nat.le_refl _⟩, ⟨by (with_reducible repeat (first | apply Kd.R_alloc | apply Kd.R_drewN | apply Kd.R_drew)); exact HO798.out⟩, ⟨by (with_reducible repeat (first | refine blk_drewN ?_ _ | refine blk_drew ?_ | refine blk_alloc ?_ _)); exact BK794.out⟩, ⟨by repeat (first | (with_reducible first | exact HB.out | apply below_alloc | apply pw_below_drewN | apply below_drew1 | refine below_set ?_ GE794.out) | exact HB.out)⟩⟩
        case round =>
          clear H'
          try clear c1
          try clear p2
          try clear c3
          try clear c3b0
          try clear p6
          try clear hcz4_0
          try clear hcz4_1
          try clear hfz4_0
          try clear hfz4_1
          try clear p2
          obtain ⟨x5_2, rfl, HA, HK2, HO_4, BK794, HB⟩ := hrel
          cases gk with
          | zero => exact absurd HA.out (by simp [herbariumlaw2_CodeCuts.l1])
          | succ k2 =>
            have H := HA.out
            clear HA
            simp only [herbariumlaw2_CodeCuts.l1] at H
            by_cases c7 : x5_2 < (y796.length : Int)
            · rw [if_pos c7] at H
              have c7b0 : decide (x5_2 < (y796.length : Int)) = true := decide_eq_true c7
              clear c7
              by_cases c8 : 0 ≤ x5_2
              · rw [if_pos c8] at H
                have c8b0 : decide (0 ≤ x5_2) = true := decide_eq_true c8
                clear c8
                replace H := Option.bind_eq_some_iff.mp H
                obtain ⟨⟨t800, t801, t802⟩, A90, H⟩ := H
                replace H : ((herbariumlaw2_num.f t802).bind fun t804 => (if t804 = 0 then ((herbariumref1_Bits.f k2 t800 t801).bind fun t805 => (herbariumlaw2_CodeCuts.j2 k2 x3_1 y796 x5_2 (!t805) l0_0 l0_1 t800 t801)) else (herbariumlaw2_CodeCuts.j2 k2 x3_1 y796 x5_2 true l0_0 l0_1 t800 t801))) = some r := H
                have A9 := Aside0.mk A90
                clear A90
                have HC10 := Aside0.mk H
                clear H
                obtain ⟨Ao11, co11, eo11⟩ := Kd.R_slice HO_4.out
                subst eo11
                have p799 : 0 ≤ (x5_2 : Int) := of_decide_eq_true (by first | (with_reducible assumption) | assumption)
                have q799 : x5_2 < (y796.length : Int) := of_decide_eq_true (by first | (with_reducible assumption) | assumption)
                obtain ⟨ad799, e799, hx799_0⟩ := Kd.at_int (Kd.R_reads' HO_4.out).2.2 x5_2 p799 q799
                cases e799
                replace p799 := eq_true p799
                replace q799 := eq_true q799
                go_upto_region 9 with (first | ((with_reducible refine gate_callee (f := 58) rfl ?_); refine goesL_ (some 37) rfl rfl Try.func58 (by kernel_rfl) rfl #[.agg #[.string (⟨#[]⟩ : ByteArray), .int .i64 0], .int .i64 x3_1, .int .i64 (rd y796 x5_2)] rfl (by (try simp only [List.map_toArray, List.map_cons, List.map_nil]); first | done | rfl | (simp only [List.length_drop, List.length_take]; rfl)) ?_; (with_reducible refine (code_Put.calls (⟨#[]⟩ : ByteArray) 0 x3_1 (rd y796 x5_2) t800 t801 t802 _ A9.out).mono ?_); rintro e w12 ⟨rfl, hb⟩; refine ⟨_, rfl, ?_⟩; have n0_ := Aside0.mk (Kd.R_below (by (with_reducible repeat (first | apply Kd.R_alloc | apply Kd.R_drewN | apply Kd.R_drew)); exact HO_4.out) hb); have n1_ := Aside0.mk (blk_below (g := gb794) (o := .cells #[.slice A0_0 l0_0.length c0_0, .slice A0_1 l0_1.length c0_1] 25 (0, 0)) (by (with_reducible repeat (first | refine blk_drewN ?_ _ | refine blk_drew ?_ | refine blk_alloc ?_ _)); exact BK794.out) hb); have n2_ := Aside0.mk (below_step (by repeat (first | (with_reducible first | exact HB.out | apply below_alloc | apply pw_below_drewN | apply below_drew1 | refine below_set ?_ GE794.out) | exact HB.out)) hb); clear HO_4; clear BK794; clear HB; have HO_4 := n0_; have BK794 := n1_; have HB := n2_; clear n0_ n1_ n2_; (try clear hb); (try clear hb2); (try clear hk); (try clear hi)) | ((with_reducible refine gate_dst (N := 6) rfl ?_); refine box_event ?hg (N := 6) ?hd (cs := #[.string (⟨#[]⟩ : ByteArray), .int .i64 0]) (t := 27) ?hr ?_; (case hd => rfl); (case hg => rfl); (case hr => first | (go_simp; done) | (go_simp; rfl)); intro gb803 hg w13 hbox hb; have n0_ := Aside0.mk (Kd.R_below (by (with_reducible repeat (first | apply Kd.R_alloc | apply Kd.R_drewN | apply Kd.R_drew)); exact HO_4.out) hb); have n1_ := Aside0.mk (blk_below (g := gb794) (o := .cells #[.slice A0_0 l0_0.length c0_0, .slice A0_1 l0_1.length c0_1] 25 (0, 0)) (by (with_reducible repeat (first | refine blk_drewN ?_ _ | refine blk_drew ?_ | refine blk_alloc ?_ _)); exact BK794.out) hb); have n2_ := Aside0.mk (below_step (by repeat (first | (with_reducible first | exact HB.out | apply below_alloc | apply pw_below_drewN | apply below_drew1 | refine below_set ?_ GE794.out) | exact HB.out)) hb); have n3_ := Aside0.mk (hbox); have n4_ := Aside0.mk ((by rw [hg]; exact (below_size (by repeat (first | (with_reducible first | exact HB.out | apply below_alloc | apply pw_below_drewN | apply below_drew1 | refine below_set ?_ GE794.out) | exact HB.out))) : w.heap.size ≤ gb803)); have n5_ := Aside0.mk ((by rw [hg]; exact (below_size (by repeat (first | (with_reducible first | exact HB.out | apply below_alloc | apply pw_below_drewN | apply below_drew1 | refine below_set ?_ GE794.out) | exact HB.out))) : w.heap.size ≤ gb803)); have n6_ := Aside0.mk ((by rw [hg]; exact Nat.ne_of_lt (blk_lt (g := gb794) (o := .cells #[.slice A0_0 l0_0.length c0_0, .slice A0_1 l0_1.length c0_1] 25 (0, 0)) (by (with_reducible repeat (first | refine blk_drewN ?_ _ | refine blk_drew ?_ | refine blk_alloc ?_ _)); exact BK794.out)) : gb794 ≠ gb803)); have n7_ := Aside0.mk ((by rw [hg]; exact Nat.ne_of_gt (blk_lt (g := gb794) (o := .cells #[.slice A0_0 l0_0.length c0_0, .slice A0_1 l0_1.length c0_1] 25 (0, 0)) (by (with_reducible repeat (first | refine blk_drewN ?_ _ | refine blk_drew ?_ | refine blk_alloc ?_ _)); exact BK794.out)) : gb803 ≠ gb794)); clear HO_4; clear BK794; clear HB; have HO_4 := n0_; have BK794 := n1_; have HB := n2_; have BK803 := n3_; have GW803 := n4_; have GE803 := n5_; have NB794_803 := n6_; have NB803_794 := n7_; clear n0_ n1_ n2_ n3_ n4_ n5_ n6_ n7_; clear hb hbox hg; have hnb14 := NB803_794.out; have hnc14 := NB794_803.out; have hcz15_0 : w13.cell? ⟨gb803, 0, none⟩ = some (.string (⟨#[]⟩ : ByteArray)) := (blk_cell BK803.out 0).trans rfl; have hcz15_1 : w13.cell? ⟨gb803, 1, none⟩ = some (.int .i64 0) := (blk_cell BK803.out 1).trans rfl; have hfz15_0 := blk_frozen BK803.out 0; have hfz15_1 := blk_frozen BK803.out 1))
                (try simp only [Act.put, List.setIfInBounds_toArray, List.set_cons_zero, List.set_cons_succ])
                go_cut [47] (fun v47 wc => ∃ (kq : Nat) (x47_9 : Bool), v47 = .bool x47_9 ∧ Aside0 (herbariumlaw2_CodeCuts.j2 kq x3_1 y796 x5_2 x47_9 l0_0 l0_1 t800 t801 = some r) ∧ Aside0 (kq ≤ k2) ∧ Aside0 (Kd.R (Kd.int .i64) 3 wc w.heap.size (fun _ => True) (.slice (some ad799) y796.length co11) y796) ∧ Aside0 (wc.heap[gb794]? = some (.cells #[(.slice A0_0 l0_0.length c0_0), (.slice A0_1 l0_1.length c0_1)] 25 (0, 0))) ∧ Aside0 (wc.heap[gb803]? = some (.cells #[.string t800, .int .i64 t801] 27 (0, 0))) ∧ Aside0 (Below w.heap.size w wc))
                case first =>
                  have H := HC10.out
                  clear HC10
                  replace H := Option.bind_eq_some_iff.mp H
                  obtain ⟨t804, A160, H⟩ := H
                  replace H : (if t804 = 0 then ((herbariumref1_Bits.f k2 t800 t801).bind fun t805 => (herbariumlaw2_CodeCuts.j2 k2 x3_1 y796 x5_2 (!t805) l0_0 l0_1 t800 t801)) else (herbariumlaw2_CodeCuts.j2 k2 x3_1 y796 x5_2 true l0_0 l0_1 t800 t801)) = some r := H
                  have A16 := Aside0.mk A160
                  clear A160
                  by_cases c17 : t804 = 0
                  · rw [if_pos c17] at H
                    have c17b0 : (t804 == 0) = true := beq_iff_eq.mpr c17
                    have c17b1 : (t804 != 0) = false := bne_eq_false_iff_eq.mpr c17
                    clear c17
                    (first | rw [c17b0] | (simp only [i64_w, i32_w]; rw [c17b0]) | skip)
                    replace H := Option.bind_eq_some_iff.mp H
                    obtain ⟨t805, A180, H⟩ := H
                    replace H : (herbariumlaw2_CodeCuts.j2 k2 x3_1 y796 x5_2 (!t805) l0_0 l0_1 t800 t801) = some r := H
                    have A18 := Aside0.mk A180
                    clear A180
                    have H' := Aside0.mk H
                    clear H
                    go_wp2_with (first | ((with_reducible refine gate_callee (f := 59) rfl ?_); refine goesL_ (some 41) rfl rfl Try.func59 (by kernel_rfl) rfl #[.int .i64 t802] rfl (by (try simp only [List.map_toArray, List.map_cons, List.map_nil]); first | done | rfl | (simp only [List.length_drop, List.length_take]; rfl)) ?_; (with_reducible refine (herbariumlaw2_num.calls t802 t804 _ A16.out).mono ?_); rintro e w' ⟨rfl, ⟨nd, rfl⟩⟩; refine ⟨_, rfl, ?_⟩; have hnb19 := NB803_794.out; have hnc19 := NB794_803.out; have hcz20_0 : w13.cell? ⟨gb803, 0, none⟩ = some (.string (⟨#[]⟩ : ByteArray)) := (blk_cell BK803.out 0).trans rfl; have hcz20_1 : w13.cell? ⟨gb803, 1, none⟩ = some (.int .i64 0) := (blk_cell BK803.out 1).trans rfl; have hfz20_0 := blk_frozen BK803.out 0; have hfz20_1 := blk_frozen BK803.out 1) | (go_at_call 50; (with_reducible refine (herbariumref1_Bits.calls k2 t800 t801 t805 _ A18.out).mono ?_); rintro e w21 ⟨rfl, hb⟩; have n0_ := Aside0.mk (Kd.R_below (by (with_reducible repeat (first | apply Kd.R_alloc | apply Kd.R_drewN | apply Kd.R_drew)); exact (Kd.R_mono (Kd.R_far (p := ⟨gb803, 1, none⟩) (Kd.R_far (p := ⟨gb803, 0, none⟩) (Kd.R_types HO_4.out BK803.out (by decide)) (fun _ hk => hk.2) (.string t800)) (fun _ hk => hk.2) (.int .i64 t801)) (fun _ h_ => h_.1))) hb); have n1_ := Aside0.mk (blk_below (g := gb794) (o := .cells #[.slice A0_0 l0_0.length c0_0, .slice A0_1 l0_1.length c0_1] 25 (0, 0)) (by (with_reducible repeat (first | refine blk_drewN ?_ _ | refine blk_drew ?_ | refine blk_alloc ?_ _)); refine blk_far ?_ NB794_803.out _; (with_reducible repeat (first | refine blk_drewN ?_ _ | refine blk_drew ?_ | refine blk_alloc ?_ _)); refine blk_far ?_ NB794_803.out _; (with_reducible repeat (first | refine blk_drewN ?_ _ | refine blk_drew ?_ | refine blk_alloc ?_ _)); exact BK794.out) hb); have n2_ := Aside0.mk (blk_below (g := gb803) (o := .cells #[.string t800, .int .i64 t801] 27 (0, 0)) (by (with_reducible repeat (first | refine blk_drewN ?_ _ | refine blk_drew ?_ | refine blk_alloc ?_ _)); refine blk_put (cs := #[.string t800, .int .i64 0]) ?_ 1 _ rfl; (with_reducible repeat (first | refine blk_drewN ?_ _ | refine blk_drew ?_ | refine blk_alloc ?_ _)); refine blk_put (cs := #[.string (⟨#[]⟩ : ByteArray), .int .i64 0]) ?_ 0 _ rfl; (with_reducible repeat (first | refine blk_drewN ?_ _ | refine blk_drew ?_ | refine blk_alloc ?_ _)); exact BK803.out) hb); have n3_ := Aside0.mk (below_step (by repeat (first | (with_reducible first | exact HB.out | apply below_alloc | apply pw_below_drewN | apply below_drew1 | refine below_set ?_ GE794.out | refine below_set ?_ GE803.out) | exact HB.out)) hb); clear HO_4; clear BK794; clear BK803; clear HB; have HO_4 := n0_; have BK794 := n1_; have BK803 := n2_; have HB := n3_; clear n0_ n1_ n2_ n3_; (try clear hb); (try clear hb2); (try clear hk); (try clear hi)))
                    go_meet
                    case rel => exact ⟨_, (!t805), (by first | rfl | (simp; done) | (simp [*]; done)), H', ⟨by have := HK1.out; have := HK2.out; first | omega | exact Nat.le_refl _⟩, ⟨by (with_reducible repeat (first | apply Kd.R_alloc | apply Kd.R_drewN | apply Kd.R_drew)); exact HO_4.out⟩, ⟨by (with_reducible repeat (first | refine blk_drewN ?_ _ | refine blk_drew ?_ | refine blk_alloc ?_ _)); exact BK794.out⟩, ⟨by (with_reducible repeat (first | refine blk_drewN ?_ _ | refine blk_drew ?_ | refine blk_alloc ?_ _)); exact BK803.out⟩, ⟨by repeat (first | (with_reducible first | exact HB.out | apply below_alloc | apply pw_below_drewN | apply below_drew1 | refine below_set ?_ GE794.out | refine below_set ?_ GE803.out) | exact HB.out)⟩⟩
                  · rw [if_neg c17] at H
                    have c17b0 : (t804 == 0) = false := beq_eq_false_iff_ne.mpr c17
                    have c17b1 : (t804 != 0) = true := bne_iff_ne.mpr c17
                    (first | rw [c17b0] | (simp only [i64_w, i32_w]; rw [c17b0]) | skip)
                    have H' := Aside0.mk H
                    clear H
                    go_wp2_with (first | ((with_reducible refine gate_callee (f := 59) rfl ?_); refine goesL_ (some 41) rfl rfl Try.func59 (by kernel_rfl) rfl #[.int .i64 t802] rfl (by (try simp only [List.map_toArray, List.map_cons, List.map_nil]); first | done | rfl | (simp only [List.length_drop, List.length_take]; rfl)) ?_; (with_reducible refine (herbariumlaw2_num.calls t802 t804 _ A16.out).mono ?_); rintro e w' ⟨rfl, ⟨nd, rfl⟩⟩; refine ⟨_, rfl, ?_⟩))
                    go_meet
                    case rel => exact ⟨_, (true), (by first | rfl | (simp; done) | (simp [*]; done)), H', ⟨by have := HK1.out; have := HK2.out; first | omega | exact Nat.le_refl _⟩, ⟨by (with_reducible repeat (first | apply Kd.R_alloc | apply Kd.R_drewN | apply Kd.R_drew)); exact Kd.R_mono (Kd.R_far (p := ⟨gb803, 1, none⟩) (Kd.R_far (p := ⟨gb803, 0, none⟩) (Kd.R_types HO_4.out BK803.out (by decide)) (fun _ hk => hk.2) (.string t800)) (fun _ hk => hk.2) (.int .i64 t801)) (fun _ hk => trivial)⟩, ⟨by (with_reducible repeat (first | refine blk_drewN ?_ _ | refine blk_drew ?_ | refine blk_alloc ?_ _)); refine blk_far ?_ NB794_803.out _; (with_reducible repeat (first | refine blk_drewN ?_ _ | refine blk_drew ?_ | refine blk_alloc ?_ _)); refine blk_far ?_ NB794_803.out _; (with_reducible repeat (first | refine blk_drewN ?_ _ | refine blk_drew ?_ | refine blk_alloc ?_ _)); exact BK794.out⟩, ⟨by (with_reducible repeat (first | refine blk_drewN ?_ _ | refine blk_drew ?_ | refine blk_alloc ?_ _)); refine blk_put (cs := #[.string t800, .int .i64 0]) ?_ 1 _ rfl; (with_reducible repeat (first | refine blk_drewN ?_ _ | refine blk_drew ?_ | refine blk_alloc ?_ _)); refine blk_put (cs := #[.string (⟨#[]⟩ : ByteArray), .int .i64 0]) ?_ 0 _ rfl; (with_reducible repeat (first | refine blk_drewN ?_ _ | refine blk_drew ?_ | refine blk_alloc ?_ _)); exact BK803.out⟩, ⟨by repeat (first | (with_reducible first | exact HB.out | apply below_alloc | apply pw_below_drewN | apply below_drew1 | refine below_set ?_ GE794.out | refine below_set ?_ GE803.out) | exact HB.out)⟩⟩
                case rest =>
                  clear HC10
                  try clear c1
                  try clear p2
                  try clear c3
                  try clear c3b0
                  try clear c5
                  try clear p6
                  try clear c7
                  try clear c7b0
                  try clear p7
                  try clear q7
                  try clear hx7
                  try clear c8
                  try clear c8b0
                  try clear c11
                  try clear c14
                  try clear c17
                  try clear c17b0
                  try clear c17b1
                  try clear c19
                  try clear hcz15_0
                  try clear hcz15_1
                  try clear hcz20_0
                  try clear hcz20_1
                  try clear hcz4_0
                  try clear hcz4_1
                  try clear hfz15_0
                  try clear hfz15_1
                  try clear hfz20_0
                  try clear hfz20_1
                  try clear hfz4_0
                  try clear hfz4_1
                  try clear hx799_0
                  try clear p2
                  try clear p6
                  try clear p799
                  try clear q799
                  obtain ⟨kq, x47_9, rfl, HA, HJ9, HO_4, BK794, BK803, HB⟩ := hcut
                  cases kq with
                  | zero => exact absurd HA.out (by simp [herbariumlaw2_CodeCuts.j2])
                  | succ kj9 =>
                    have H := HA.out
                    clear HA
                    simp only [herbariumlaw2_CodeCuts.j2] at H
                    by_cases c22 : x47_9 = true
                    · subst c22
                      have H1 : (some false) = some r := by rw [if_pos rfl] at H; exact H
                      clear H
                      have H := H1
                      clear H1
                      obtain rfl := Option.some.inj H
                      go_wp2
                      go_ret
                      exact ⟨by first | rfl | (simp [errW_none, errW_some] <;> rfl) | (simp [*, errW_none, errW_some] <;> rfl), by repeat (first | (with_reducible first | exact HB.out | apply below_alloc | apply pw_below_drewN | apply below_drew1 | refine below_set ?_ GE794.out | refine below_set ?_ GE803.out) | exact HB.out)⟩
                    · replace c22 := Bool.eq_false_iff.mpr c22
                      subst c22
                      have H1 : (herbariumlaw2_CodeCuts.l2 kj9 x3_1 y796 x5_2 0 l0_0 l0_1 t800 t801) = some r := by rw [if_neg (show ¬ (false = true) by decide)] at H; exact H
                      clear H
                      have H := H1
                      clear H1
                      have H' := Aside0.mk H
                      clear H
                      go_wp2
                      go_loopg [8] kj9 (fun kq v8 w' => ∃ (x8_4 : Int), v8 = .int .i64 x8_4 ∧ Aside0 (herbariumlaw2_CodeCuts.l2 kq x3_1 y796 x5_2 x8_4 l0_0 l0_1 t800 t801 = some r) ∧ Aside0 (kq ≤ kj9) ∧ Aside0 (Kd.R (Kd.int .i64) 3 w' w.heap.size (fun _ => True) (.slice (some ad799) y796.length co11) y796) ∧ Aside0 (w'.heap[gb794]? = some (.cells #[(.slice A0_0 l0_0.length c0_0), (.slice A0_1 l0_1.length c0_1)] 25 (0, 0))) ∧ Aside0 (w'.heap[gb803]? = some (.cells #[.string t800, .int .i64 t801] 27 (0, 0))) ∧ Aside0 (Below w.heap.size w w'))
                      case atStart => exact ⟨(0), (by first | rfl | (simp; done) | (simp [*]; done)), H', ⟨Nat.le_refl _⟩, ⟨by (with_reducible repeat (first | apply Kd.R_alloc | apply Kd.R_drewN | apply Kd.R_drew)); exact HO_4.out⟩, ⟨by (with_reducible repeat (first | refine blk_drewN ?_ _ | refine blk_drew ?_ | refine blk_alloc ?_ _)); exact BK794.out⟩, ⟨by (with_reducible repeat (first | refine blk_drewN ?_ _ | refine blk_drew ?_ | refine blk_alloc ?_ _)); exact BK803.out⟩, ⟨by repeat (first | (with_reducible first | exact HB.out | apply below_alloc | apply pw_below_drewN | apply below_drew1 | refine below_set ?_ GE794.out | refine below_set ?_ GE803.out) | exact HB.out)⟩⟩
                      case round =>
                        clear H'
                        try clear c1
                        try clear c2
                        try clear p2
                        try clear c3
                        try clear c3b0
                        try clear c5
                        try clear p6
                        try clear c7
                        try clear c7b0
                        try clear p7
                        try clear q7
                        try clear hx7
                        try clear c8
                        try clear c8b0
                        try clear c11
                        try clear c14
                        try clear c17
                        try clear c17b0
                        try clear c17b1
                        try clear c19
                        try clear c22
                        try clear hcz15_0
                        try clear hcz15_1
                        try clear hcz20_0
                        try clear hcz20_1
                        try clear hcz4_0
                        try clear hcz4_1
                        try clear hfz15_0
                        try clear hfz15_1
                        try clear hfz20_0
                        try clear hfz20_1
                        try clear hfz4_0
                        try clear hfz4_1
                        try clear hx799_0
                        try clear p2
                        try clear p6
                        try clear p7
                        try clear p799
                        try clear q7
                        try clear q799
                        obtain ⟨x8_4, rfl, HA, HK4, HO_4, BK794, BK803, HB⟩ := hrel
                        cases gk with
                        | zero => exact absurd HA.out (by simp [herbariumlaw2_CodeCuts.l2])
                        | succ k4 =>
                          have H := HA.out
                          clear HA
                          simp only [herbariumlaw2_CodeCuts.l2] at H
                          by_cases c23 : x8_4 < t801
                          · rw [if_pos c23] at H
                            have c23b0 : decide (x8_4 < t801) = true := decide_eq_true c23
                            clear c23
                            replace H := Option.bind_eq_some_iff.mp H
                            obtain ⟨⟨t806, t807⟩, A240, H⟩ := H
                            replace H : ((code_Take.f k4 t806 t807 0 x3_1).bind fun bt809 => ((herbariumlaw2_num.f bt809.2.2).bind fun t812 => (if t812 = 9 then (herbariumlaw2_CodeCuts.l2 k4 x3_1 y796 x5_2 (wrap64 (x8_4 + 1)) l0_0 l0_1 t800 t801) else (some false)))) = some r := H
                            have A24 := Aside0.mk A240
                            clear A240
                            replace H := Option.bind_eq_some_iff.mp H
                            obtain ⟨⟨t809, t810, t811⟩, A250, H⟩ := H
                            replace H : ((herbariumlaw2_num.f t811).bind fun t812 => (if t812 = 9 then (herbariumlaw2_CodeCuts.l2 k4 x3_1 y796 x5_2 (wrap64 (x8_4 + 1)) l0_0 l0_1 t800 t801) else (some false))) = some r := H
                            have A25 := Aside0.mk A250
                            clear A250
                            replace H := Option.bind_eq_some_iff.mp H
                            obtain ⟨t812, A260, H⟩ := H
                            replace H : (if t812 = 9 then (herbariumlaw2_CodeCuts.l2 k4 x3_1 y796 x5_2 (wrap64 (x8_4 + 1)) l0_0 l0_1 t800 t801) else (some false)) = some r := H
                            have A26 := Aside0.mk A260
                            clear A260
                            by_cases c27 : t812 = 9
                            · rw [if_pos c27] at H
                              have c27b0 : (t812 == 9) = true := beq_iff_eq.mpr c27
                              have c27b1 : (t812 != 9) = false := bne_eq_false_iff_eq.mpr c27
                              clear c27
                              have H' := Aside0.mk H
                              clear H
                              have hnb28 := NB803_794.out
                              have hnc28 := NB794_803.out
                              have hcz29_0 : wr.cell? ⟨gb803, 0, none⟩ = some (.string t800) := (blk_cell BK803.out 0).trans rfl
                              have hcz29_1 : wr.cell? ⟨gb803, 1, none⟩ = some (.int .i64 t801) := (blk_cell BK803.out 1).trans rfl
                              have hfz29_0 := blk_frozen BK803.out 0
                              have hfz29_1 := blk_frozen BK803.out 1
                              go_wp2_with (first | ((with_reducible refine gate_callee (f := 60) rfl ?_); refine goesL_ (some 56) rfl rfl Try.func60 (by kernel_rfl) rfl #[.agg #[.string t800, .int .i64 t801], .int .i64 x8_4] rfl (by (try simp only [List.map_toArray, List.map_cons, List.map_nil]); first | done | rfl | (simp only [List.length_drop, List.length_take]; rfl)) ?_; (with_reducible refine (herbariumlaw2_cut.calls t800 t801 x8_4 t806 t807 _ A24.out).mono ?_); rintro e w30 ⟨rfl, hb⟩; refine ⟨_, rfl, ?_⟩; have n0_ := Aside0.mk (Kd.R_below (by (with_reducible repeat (first | apply Kd.R_alloc | apply Kd.R_drewN | apply Kd.R_drew)); exact HO_4.out) hb); have n1_ := Aside0.mk (blk_below (g := gb794) (o := .cells #[.slice A0_0 l0_0.length c0_0, .slice A0_1 l0_1.length c0_1] 25 (0, 0)) (by (with_reducible repeat (first | refine blk_drewN ?_ _ | refine blk_drew ?_ | refine blk_alloc ?_ _)); exact BK794.out) hb); have n2_ := Aside0.mk (blk_below (g := gb803) (o := .cells #[.string t800, .int .i64 t801] 27 (0, 0)) (by (with_reducible repeat (first | refine blk_drewN ?_ _ | refine blk_drew ?_ | refine blk_alloc ?_ _)); exact BK803.out) hb); have n3_ := Aside0.mk (below_step (by repeat (first | (with_reducible first | exact HB.out | apply below_alloc | apply pw_below_drewN | apply below_drew1 | refine below_set ?_ GE794.out | refine below_set ?_ GE803.out) | exact HB.out)) hb); clear HO_4; clear BK794; clear BK803; clear HB; have HO_4 := n0_; have BK794 := n1_; have BK803 := n2_; have HB := n3_; clear n0_ n1_ n2_ n3_; (try clear hb); (try clear hb2); (try clear hk); (try clear hi)) | ((with_reducible refine gate_dst (N := 9) rfl ?_); refine box_event ?hg (N := 9) ?hd (cs := #[.string (⟨#[]⟩ : ByteArray), .int .i64 0]) (t := 27) ?hr ?_; (case hd => rfl); (case hg => rfl); (case hr => first | (go_simp; done) | (go_simp; rfl)); intro gb808 hg w31 hbox hb; have n0_ := Aside0.mk (Kd.R_below (by (with_reducible repeat (first | apply Kd.R_alloc | apply Kd.R_drewN | apply Kd.R_drew)); exact HO_4.out) hb); have n1_ := Aside0.mk (blk_below (g := gb794) (o := .cells #[.slice A0_0 l0_0.length c0_0, .slice A0_1 l0_1.length c0_1] 25 (0, 0)) (by (with_reducible repeat (first | refine blk_drewN ?_ _ | refine blk_drew ?_ | refine blk_alloc ?_ _)); exact BK794.out) hb); have n2_ := Aside0.mk (blk_below (g := gb803) (o := .cells #[.string t800, .int .i64 t801] 27 (0, 0)) (by (with_reducible repeat (first | refine blk_drewN ?_ _ | refine blk_drew ?_ | refine blk_alloc ?_ _)); exact BK803.out) hb); have n3_ := Aside0.mk (below_step (by repeat (first | (with_reducible first | exact HB.out | apply below_alloc | apply pw_below_drewN | apply below_drew1 | refine below_set ?_ GE794.out | refine below_set ?_ GE803.out) | exact HB.out)) hb); have n4_ := Aside0.mk (hbox); have n5_ := Aside0.mk ((by rw [hg]; exact (below_size (by repeat (first | (with_reducible first | exact HB.out | apply below_alloc | apply pw_below_drewN | apply below_drew1 | refine below_set ?_ GE794.out | refine below_set ?_ GE803.out) | exact HB.out))) : w.heap.size ≤ gb808)); have n6_ := Aside0.mk ((by rw [hg]; exact (below_size (by repeat (first | (with_reducible first | exact HB.out | apply below_alloc | apply pw_below_drewN | apply below_drew1 | refine below_set ?_ GE794.out | refine below_set ?_ GE803.out) | exact HB.out))) : w.heap.size ≤ gb808)); have n7_ := Aside0.mk ((by rw [hg]; exact Nat.ne_of_lt (blk_lt (g := gb794) (o := .cells #[.slice A0_0 l0_0.length c0_0, .slice A0_1 l0_1.length c0_1] 25 (0, 0)) (by (with_reducible repeat (first | refine blk_drewN ?_ _ | refine blk_drew ?_ | refine blk_alloc ?_ _)); exact BK794.out)) : gb794 ≠ gb808)); have n8_ := Aside0.mk ((by rw [hg]; exact Nat.ne_of_gt (blk_lt (g := gb794) (o := .cells #[.slice A0_0 l0_0.length c0_0, .slice A0_1 l0_1.length c0_1] 25 (0, 0)) (by (with_reducible repeat (first | refine blk_drewN ?_ _ | refine blk_drew ?_ | refine blk_alloc ?_ _)); exact BK794.out)) : gb808 ≠ gb794)); have n9_ := Aside0.mk ((by rw [hg]; exact Nat.ne_of_lt (blk_lt (g := gb803) (o := .cells #[.string t800, .int .i64 t801] 27 (0, 0)) (by (with_reducible repeat (first | refine blk_drewN ?_ _ | refine blk_drew ?_ | refine blk_alloc ?_ _)); exact BK803.out)) : gb803 ≠ gb808)); have n10_ := Aside0.mk ((by rw [hg]; exact Nat.ne_of_gt (blk_lt (g := gb803) (o := .cells #[.string t800, .int .i64 t801] 27 (0, 0)) (by (with_reducible repeat (first | refine blk_drewN ?_ _ | refine blk_drew ?_ | refine blk_alloc ?_ _)); exact BK803.out)) : gb808 ≠ gb803)); clear HO_4; clear BK794; clear BK803; clear HB; have HO_4 := n0_; have BK794 := n1_; have BK803 := n2_; have HB := n3_; have BK808 := n4_; have GW808 := n5_; have GE808 := n6_; have NB794_808 := n7_; have NB808_794 := n8_; have NB803_808 := n9_; have NB808_803 := n10_; clear n0_ n1_ n2_ n3_ n4_ n5_ n6_ n7_ n8_ n9_ n10_; clear hb hbox hg; have hnb32 := NB808_794.out; have hnc32 := NB794_808.out; have hnb33 := NB808_803.out; have hnc33 := NB803_808.out; have hcz34_0 : w31.cell? ⟨gb808, 0, none⟩ = some (.string (⟨#[]⟩ : ByteArray)) := (blk_cell BK808.out 0).trans rfl; have hcz34_1 : w31.cell? ⟨gb808, 1, none⟩ = some (.int .i64 0) := (blk_cell BK808.out 1).trans rfl; have hfz34_0 := blk_frozen BK808.out 0; have hfz34_1 := blk_frozen BK808.out 1) | ((with_reducible refine gate_callee (f := 61) rfl ?_); refine goesL_ (some 60) rfl rfl Try.func61 (by kernel_rfl) rfl #[.agg #[.string t806, .int .i64 t807], .int .i64 0, .int .i64 x3_1] rfl (by (try simp only [List.map_toArray, List.map_cons, List.map_nil]); first | done | rfl | (simp only [List.length_drop, List.length_take]; rfl)) ?_; (with_reducible refine (code_Take.calls k4 t806 t807 0 x3_1 t809 t810 t811 _ A25.out).mono ?_); rintro e w35 ⟨rfl, hb⟩; refine ⟨_, rfl, ?_⟩; have n0_ := Aside0.mk (Kd.R_below (by (with_reducible repeat (first | apply Kd.R_alloc | apply Kd.R_drewN | apply Kd.R_drew)); exact (Kd.R_mono (Kd.R_far (p := ⟨gb808, 1, none⟩) (Kd.R_far (p := ⟨gb808, 0, none⟩) (Kd.R_types HO_4.out BK808.out (by decide)) (fun _ hk => hk.2) (.string t806)) (fun _ hk => hk.2) (.int .i64 t807)) (fun _ h_ => h_.1))) hb); have n1_ := Aside0.mk (blk_below (g := gb794) (o := .cells #[.slice A0_0 l0_0.length c0_0, .slice A0_1 l0_1.length c0_1] 25 (0, 0)) (by (with_reducible repeat (first | refine blk_drewN ?_ _ | refine blk_drew ?_ | refine blk_alloc ?_ _)); refine blk_far ?_ NB794_808.out _; (with_reducible repeat (first | refine blk_drewN ?_ _ | refine blk_drew ?_ | refine blk_alloc ?_ _)); refine blk_far ?_ NB794_808.out _; (with_reducible repeat (first | refine blk_drewN ?_ _ | refine blk_drew ?_ | refine blk_alloc ?_ _)); exact BK794.out) hb); have n2_ := Aside0.mk (blk_below (g := gb803) (o := .cells #[.string t800, .int .i64 t801] 27 (0, 0)) (by (with_reducible repeat (first | refine blk_drewN ?_ _ | refine blk_drew ?_ | refine blk_alloc ?_ _)); refine blk_far ?_ NB803_808.out _; (with_reducible repeat (first | refine blk_drewN ?_ _ | refine blk_drew ?_ | refine blk_alloc ?_ _)); refine blk_far ?_ NB803_808.out _; (with_reducible repeat (first | refine blk_drewN ?_ _ | refine blk_drew ?_ | refine blk_alloc ?_ _)); exact BK803.out) hb); have n3_ := Aside0.mk (blk_below (g := gb808) (o := .cells #[.string t806, .int .i64 t807] 27 (0, 0)) (by (with_reducible repeat (first | refine blk_drewN ?_ _ | refine blk_drew ?_ | refine blk_alloc ?_ _)); refine blk_put (cs := #[.string t806, .int .i64 0]) ?_ 1 _ rfl; (with_reducible repeat (first | refine blk_drewN ?_ _ | refine blk_drew ?_ | refine blk_alloc ?_ _)); refine blk_put (cs := #[.string (⟨#[]⟩ : ByteArray), .int .i64 0]) ?_ 0 _ rfl; (with_reducible repeat (first | refine blk_drewN ?_ _ | refine blk_drew ?_ | refine blk_alloc ?_ _)); exact BK808.out) hb); have n4_ := Aside0.mk (below_step (by repeat (first | (with_reducible first | exact HB.out | apply below_alloc | apply pw_below_drewN | apply below_drew1 | refine below_set ?_ GE794.out | refine below_set ?_ GE803.out | refine below_set ?_ GE808.out) | exact HB.out)) hb); clear HO_4; clear BK794; clear BK803; clear BK808; clear HB; have HO_4 := n0_; have BK794 := n1_; have BK803 := n2_; have BK808 := n3_; have HB := n4_; clear n0_ n1_ n2_ n3_ n4_; (try clear hb); (try clear hb2); (try clear hk); (try clear hi)) | ((with_reducible refine gate_callee (f := 59) rfl ?_); refine goesL_ (some 65) rfl rfl Try.func59 (by kernel_rfl) rfl #[.int .i64 t811] rfl (by (try simp only [List.map_toArray, List.map_cons, List.map_nil]); first | done | rfl | (simp only [List.length_drop, List.length_take]; rfl)) ?_; (with_reducible refine (herbariumlaw2_num.calls t811 t812 _ A26.out).mono ?_); rintro e w' ⟨rfl, ⟨nd, rfl⟩⟩; refine ⟨_, rfl, ?_⟩))
                              go_roundg k4
                              case measure => have := HK1.out; have := HK2.out; have := HJ9.out; have := HK4.out; omega
                              case rel => exact ⟨(wrap64 (x8_4 + 1)), (by first | rfl | (simp; done) | (simp [*]; done)), H', ⟨by have := HK1.out; have := HK2.out; have := HJ9.out; have := HK4.out; omega⟩, ⟨by (with_reducible repeat (first | apply Kd.R_alloc | apply Kd.R_drewN | apply Kd.R_drew)); exact HO_4.out⟩, ⟨by (with_reducible repeat (first | refine blk_drewN ?_ _ | refine blk_drew ?_ | refine blk_alloc ?_ _)); exact BK794.out⟩, ⟨by (with_reducible repeat (first | refine blk_drewN ?_ _ | refine blk_drew ?_ | refine blk_alloc ?_ _)); exact BK803.out⟩, ⟨by repeat (first | (with_reducible first | exact HB.out | apply below_alloc | apply pw_below_drewN | apply below_drew1 | refine below_set ?_ GE794.out | refine below_set ?_ GE803.out | refine below_set ?_ GE808.out) | exact HB.out)⟩⟩
                            · rw [if_neg c27] at H
                              have c27b0 : (t812 == 9) = false := beq_eq_false_iff_ne.mpr c27
                              have c27b1 : (t812 != 9) = true := bne_iff_ne.mpr c27
                              obtain rfl := Option.some.inj H
                              have hnb36 := NB803_794.out
                              have hnc36 := NB794_803.out
                              have hcz37_0 : wr.cell? ⟨gb803, 0, none⟩ = some (.string t800) := (blk_cell BK803.out 0).trans rfl
                              have hcz37_1 : wr.cell? ⟨gb803, 1, none⟩ = some (.int .i64 t801) := (blk_cell BK803.out 1).trans rfl
                              have hfz37_0 := blk_frozen BK803.out 0
                              have hfz37_1 := blk_frozen BK803.out 1
                              go_wp2_with (first | ((with_reducible refine gate_callee (f := 60) rfl ?_); refine goesL_ (some 56) rfl rfl Try.func60 (by kernel_rfl) rfl #[.agg #[.string t800, .int .i64 t801], .int .i64 x8_4] rfl (by (try simp only [List.map_toArray, List.map_cons, List.map_nil]); first | done | rfl | (simp only [List.length_drop, List.length_take]; rfl)) ?_; (with_reducible refine (herbariumlaw2_cut.calls t800 t801 x8_4 t806 t807 _ A24.out).mono ?_); rintro e w38 ⟨rfl, hb⟩; refine ⟨_, rfl, ?_⟩; have n0_ := Aside0.mk (Kd.R_below (by (with_reducible repeat (first | apply Kd.R_alloc | apply Kd.R_drewN | apply Kd.R_drew)); exact HO_4.out) hb); have n1_ := Aside0.mk (blk_below (g := gb794) (o := .cells #[.slice A0_0 l0_0.length c0_0, .slice A0_1 l0_1.length c0_1] 25 (0, 0)) (by (with_reducible repeat (first | refine blk_drewN ?_ _ | refine blk_drew ?_ | refine blk_alloc ?_ _)); exact BK794.out) hb); have n2_ := Aside0.mk (blk_below (g := gb803) (o := .cells #[.string t800, .int .i64 t801] 27 (0, 0)) (by (with_reducible repeat (first | refine blk_drewN ?_ _ | refine blk_drew ?_ | refine blk_alloc ?_ _)); exact BK803.out) hb); have n3_ := Aside0.mk (below_step (by repeat (first | (with_reducible first | exact HB.out | apply below_alloc | apply pw_below_drewN | apply below_drew1 | refine below_set ?_ GE794.out | refine below_set ?_ GE803.out) | exact HB.out)) hb); clear HO_4; clear BK794; clear BK803; clear HB; have HO_4 := n0_; have BK794 := n1_; have BK803 := n2_; have HB := n3_; clear n0_ n1_ n2_ n3_; (try clear hb); (try clear hb2); (try clear hk); (try clear hi)) | ((with_reducible refine gate_dst (N := 9) rfl ?_); refine box_event ?hg (N := 9) ?hd (cs := #[.string (⟨#[]⟩ : ByteArray), .int .i64 0]) (t := 27) ?hr ?_; (case hd => rfl); (case hg => rfl); (case hr => first | (go_simp; done) | (go_simp; rfl)); intro gb808 hg w39 hbox hb; have n0_ := Aside0.mk (Kd.R_below (by (with_reducible repeat (first | apply Kd.R_alloc | apply Kd.R_drewN | apply Kd.R_drew)); exact HO_4.out) hb); have n1_ := Aside0.mk (blk_below (g := gb794) (o := .cells #[.slice A0_0 l0_0.length c0_0, .slice A0_1 l0_1.length c0_1] 25 (0, 0)) (by (with_reducible repeat (first | refine blk_drewN ?_ _ | refine blk_drew ?_ | refine blk_alloc ?_ _)); exact BK794.out) hb); have n2_ := Aside0.mk (blk_below (g := gb803) (o := .cells #[.string t800, .int .i64 t801] 27 (0, 0)) (by (with_reducible repeat (first | refine blk_drewN ?_ _ | refine blk_drew ?_ | refine blk_alloc ?_ _)); exact BK803.out) hb); have n3_ := Aside0.mk (below_step (by repeat (first | (with_reducible first | exact HB.out | apply below_alloc | apply pw_below_drewN | apply below_drew1 | refine below_set ?_ GE794.out | refine below_set ?_ GE803.out) | exact HB.out)) hb); have n4_ := Aside0.mk (hbox); have n5_ := Aside0.mk ((by rw [hg]; exact (below_size (by repeat (first | (with_reducible first | exact HB.out | apply below_alloc | apply pw_below_drewN | apply below_drew1 | refine below_set ?_ GE794.out | refine below_set ?_ GE803.out) | exact HB.out))) : w.heap.size ≤ gb808)); have n6_ := Aside0.mk ((by rw [hg]; exact (below_size (by repeat (first | (with_reducible first | exact HB.out | apply below_alloc | apply pw_below_drewN | apply below_drew1 | refine below_set ?_ GE794.out | refine below_set ?_ GE803.out) | exact HB.out))) : w.heap.size ≤ gb808)); have n7_ := Aside0.mk ((by rw [hg]; exact Nat.ne_of_lt (blk_lt (g := gb794) (o := .cells #[.slice A0_0 l0_0.length c0_0, .slice A0_1 l0_1.length c0_1] 25 (0, 0)) (by (with_reducible repeat (first | refine blk_drewN ?_ _ | refine blk_drew ?_ | refine blk_alloc ?_ _)); exact BK794.out)) : gb794 ≠ gb808)); have n8_ := Aside0.mk ((by rw [hg]; exact Nat.ne_of_gt (blk_lt (g := gb794) (o := .cells #[.slice A0_0 l0_0.length c0_0, .slice A0_1 l0_1.length c0_1] 25 (0, 0)) (by (with_reducible repeat (first | refine blk_drewN ?_ _ | refine blk_drew ?_ | refine blk_alloc ?_ _)); exact BK794.out)) : gb808 ≠ gb794)); have n9_ := Aside0.mk ((by rw [hg]; exact Nat.ne_of_lt (blk_lt (g := gb803) (o := .cells #[.string t800, .int .i64 t801] 27 (0, 0)) (by (with_reducible repeat (first | refine blk_drewN ?_ _ | refine blk_drew ?_ | refine blk_alloc ?_ _)); exact BK803.out)) : gb803 ≠ gb808)); have n10_ := Aside0.mk ((by rw [hg]; exact Nat.ne_of_gt (blk_lt (g := gb803) (o := .cells #[.string t800, .int .i64 t801] 27 (0, 0)) (by (with_reducible repeat (first | refine blk_drewN ?_ _ | refine blk_drew ?_ | refine blk_alloc ?_ _)); exact BK803.out)) : gb808 ≠ gb803)); clear HO_4; clear BK794; clear BK803; clear HB; have HO_4 := n0_; have BK794 := n1_; have BK803 := n2_; have HB := n3_; have BK808 := n4_; have GW808 := n5_; have GE808 := n6_; have NB794_808 := n7_; have NB808_794 := n8_; have NB803_808 := n9_; have NB808_803 := n10_; clear n0_ n1_ n2_ n3_ n4_ n5_ n6_ n7_ n8_ n9_ n10_; clear hb hbox hg; have hnb40 := NB808_794.out; have hnc40 := NB794_808.out; have hnb41 := NB808_803.out; have hnc41 := NB803_808.out; have hcz42_0 : w39.cell? ⟨gb808, 0, none⟩ = some (.string (⟨#[]⟩ : ByteArray)) := (blk_cell BK808.out 0).trans rfl; have hcz42_1 : w39.cell? ⟨gb808, 1, none⟩ = some (.int .i64 0) := (blk_cell BK808.out 1).trans rfl; have hfz42_0 := blk_frozen BK808.out 0; have hfz42_1 := blk_frozen BK808.out 1) | ((with_reducible refine gate_callee (f := 61) rfl ?_); refine goesL_ (some 60) rfl rfl Try.func61 (by kernel_rfl) rfl #[.agg #[.string t806, .int .i64 t807], .int .i64 0, .int .i64 x3_1] rfl (by (try simp only [List.map_toArray, List.map_cons, List.map_nil]); first | done | rfl | (simp only [List.length_drop, List.length_take]; rfl)) ?_; (with_reducible refine (code_Take.calls k4 t806 t807 0 x3_1 t809 t810 t811 _ A25.out).mono ?_); rintro e w43 ⟨rfl, hb⟩; refine ⟨_, rfl, ?_⟩; have n0_ := Aside0.mk (Kd.R_below (by (with_reducible repeat (first | apply Kd.R_alloc | apply Kd.R_drewN | apply Kd.R_drew)); exact (Kd.R_mono (Kd.R_far (p := ⟨gb808, 1, none⟩) (Kd.R_far (p := ⟨gb808, 0, none⟩) (Kd.R_types HO_4.out BK808.out (by decide)) (fun _ hk => hk.2) (.string t806)) (fun _ hk => hk.2) (.int .i64 t807)) (fun _ h_ => h_.1))) hb); have n1_ := Aside0.mk (blk_below (g := gb794) (o := .cells #[.slice A0_0 l0_0.length c0_0, .slice A0_1 l0_1.length c0_1] 25 (0, 0)) (by (with_reducible repeat (first | refine blk_drewN ?_ _ | refine blk_drew ?_ | refine blk_alloc ?_ _)); refine blk_far ?_ NB794_808.out _; (with_reducible repeat (first | refine blk_drewN ?_ _ | refine blk_drew ?_ | refine blk_alloc ?_ _)); refine blk_far ?_ NB794_808.out _; (with_reducible repeat (first | refine blk_drewN ?_ _ | refine blk_drew ?_ | refine blk_alloc ?_ _)); exact BK794.out) hb); have n2_ := Aside0.mk (blk_below (g := gb803) (o := .cells #[.string t800, .int .i64 t801] 27 (0, 0)) (by (with_reducible repeat (first | refine blk_drewN ?_ _ | refine blk_drew ?_ | refine blk_alloc ?_ _)); refine blk_far ?_ NB803_808.out _; (with_reducible repeat (first | refine blk_drewN ?_ _ | refine blk_drew ?_ | refine blk_alloc ?_ _)); refine blk_far ?_ NB803_808.out _; (with_reducible repeat (first | refine blk_drewN ?_ _ | refine blk_drew ?_ | refine blk_alloc ?_ _)); exact BK803.out) hb); have n3_ := Aside0.mk (blk_below (g := gb808) (o := .cells #[.string t806, .int .i64 t807] 27 (0, 0)) (by (with_reducible repeat (first | refine blk_drewN ?_ _ | refine blk_drew ?_ | refine blk_alloc ?_ _)); refine blk_put (cs := #[.string t806, .int .i64 0]) ?_ 1 _ rfl; (with_reducible repeat (first | refine blk_drewN ?_ _ | refine blk_drew ?_ | refine blk_alloc ?_ _)); refine blk_put (cs := #[.string (⟨#[]⟩ : ByteArray), .int .i64 0]) ?_ 0 _ rfl; (with_reducible repeat (first | refine blk_drewN ?_ _ | refine blk_drew ?_ | refine blk_alloc ?_ _)); exact BK808.out) hb); have n4_ := Aside0.mk (below_step (by repeat (first | (with_reducible first | exact HB.out | apply below_alloc | apply pw_below_drewN | apply below_drew1 | refine below_set ?_ GE794.out | refine below_set ?_ GE803.out | refine below_set ?_ GE808.out) | exact HB.out)) hb); clear HO_4; clear BK794; clear BK803; clear BK808; clear HB; have HO_4 := n0_; have BK794 := n1_; have BK803 := n2_; have BK808 := n3_; have HB := n4_; clear n0_ n1_ n2_ n3_ n4_; (try clear hb); (try clear hb2); (try clear hk); (try clear hi)) | ((with_reducible refine gate_callee (f := 59) rfl ?_); refine goesL_ (some 65) rfl rfl Try.func59 (by kernel_rfl) rfl #[.int .i64 t811] rfl (by (try simp only [List.map_toArray, List.map_cons, List.map_nil]); first | done | rfl | (simp only [List.length_drop, List.length_take]; rfl)) ?_; (with_reducible refine (herbariumlaw2_num.calls t811 t812 _ A26.out).mono ?_); rintro e w' ⟨rfl, ⟨nd, rfl⟩⟩; refine ⟨_, rfl, ?_⟩))
                              go_ret
                              exact ⟨by first | rfl | (simp [errW_none, errW_some] <;> rfl) | (simp [*, errW_none, errW_some] <;> rfl), by repeat (first | (with_reducible first | exact HB.out | apply below_alloc | apply pw_below_drewN | apply below_drew1 | refine below_set ?_ GE794.out | refine below_set ?_ GE803.out | refine below_set ?_ GE808.out) | exact HB.out)⟩
                          · rw [if_neg c23] at H
                            have c23b0 : decide (x8_4 < t801) = false := decide_eq_false c23
                            clear c23
                            replace H := Option.bind_eq_some_iff.mp H
                            obtain ⟨⟨t813, t814, t815⟩, A440, H⟩ := H
                            replace H : ((herbariumlaw2_num.f t815).bind fun t817 => (if t817 = 1 then (herbariumlaw2_CodeCuts.l1 k4 x3_1 y796 (wrap64 (x5_2 + 1)) l0_0 l0_1) else (some false))) = some r := H
                            have A44 := Aside0.mk A440
                            clear A440
                            replace H := Option.bind_eq_some_iff.mp H
                            obtain ⟨t817, A450, H⟩ := H
                            replace H : (if t817 = 1 then (herbariumlaw2_CodeCuts.l1 k4 x3_1 y796 (wrap64 (x5_2 + 1)) l0_0 l0_1) else (some false)) = some r := H
                            have A45 := Aside0.mk A450
                            clear A450
                            by_cases c46 : t817 = 1
                            · rw [if_pos c46] at H
                              have c46b0 : (t817 == 1) = true := beq_iff_eq.mpr c46
                              have c46b1 : (t817 != 1) = false := bne_eq_false_iff_eq.mpr c46
                              clear c46
                              have H' := Aside0.mk H
                              clear H
                              have hnb47 := NB803_794.out
                              have hnc47 := NB794_803.out
                              have hcz48_0 : wr.cell? ⟨gb803, 0, none⟩ = some (.string t800) := (blk_cell BK803.out 0).trans rfl
                              have hcz48_1 : wr.cell? ⟨gb803, 1, none⟩ = some (.int .i64 t801) := (blk_cell BK803.out 1).trans rfl
                              have hfz48_0 := blk_frozen BK803.out 0
                              have hfz48_1 := blk_frozen BK803.out 1
                              go_wp2_with (first | ((with_reducible refine gate_callee (f := 58) rfl ?_); refine goesL_ (some 70) rfl rfl Try.func58 (by kernel_rfl) rfl #[.agg #[.string (⟨#[]⟩ : ByteArray), .int .i64 0], .int .i64 x3_1, .int .i64 1073741825] rfl (by (try simp only [List.map_toArray, List.map_cons, List.map_nil]); first | done | rfl | (simp only [List.length_drop, List.length_take]; rfl)) ?_; (with_reducible refine (code_Put.calls (⟨#[]⟩ : ByteArray) 0 x3_1 1073741825 t813 t814 t815 _ A44.out).mono ?_); rintro e w49 ⟨rfl, hb⟩; refine ⟨_, rfl, ?_⟩; have n0_ := Aside0.mk (Kd.R_below (by (with_reducible repeat (first | apply Kd.R_alloc | apply Kd.R_drewN | apply Kd.R_drew)); exact HO_4.out) hb); have n1_ := Aside0.mk (blk_below (g := gb794) (o := .cells #[.slice A0_0 l0_0.length c0_0, .slice A0_1 l0_1.length c0_1] 25 (0, 0)) (by (with_reducible repeat (first | refine blk_drewN ?_ _ | refine blk_drew ?_ | refine blk_alloc ?_ _)); exact BK794.out) hb); have n2_ := Aside0.mk (blk_below (g := gb803) (o := .cells #[.string t800, .int .i64 t801] 27 (0, 0)) (by (with_reducible repeat (first | refine blk_drewN ?_ _ | refine blk_drew ?_ | refine blk_alloc ?_ _)); exact BK803.out) hb); have n3_ := Aside0.mk (below_step (by repeat (first | (with_reducible first | exact HB.out | apply below_alloc | apply pw_below_drewN | apply below_drew1 | refine below_set ?_ GE794.out | refine below_set ?_ GE803.out) | exact HB.out)) hb); clear HO_4; clear BK794; clear BK803; clear HB; have HO_4 := n0_; have BK794 := n1_; have BK803 := n2_; have HB := n3_; clear n0_ n1_ n2_ n3_; (try clear hb); (try clear hb2); (try clear hk); (try clear hi)) | ((with_reducible refine gate_dst (N := 13) rfl ?_); refine box_event ?hg (N := 13) ?hd (cs := #[.string (⟨#[]⟩ : ByteArray), .int .i64 0]) (t := 27) ?hr ?_; (case hd => rfl); (case hg => rfl); (case hr => first | (go_simp; done) | (go_simp; rfl)); intro gb816 hg w50 hbox hb; have n0_ := Aside0.mk (Kd.R_below (by (with_reducible repeat (first | apply Kd.R_alloc | apply Kd.R_drewN | apply Kd.R_drew)); exact HO_4.out) hb); have n1_ := Aside0.mk (blk_below (g := gb794) (o := .cells #[.slice A0_0 l0_0.length c0_0, .slice A0_1 l0_1.length c0_1] 25 (0, 0)) (by (with_reducible repeat (first | refine blk_drewN ?_ _ | refine blk_drew ?_ | refine blk_alloc ?_ _)); exact BK794.out) hb); have n2_ := Aside0.mk (blk_below (g := gb803) (o := .cells #[.string t800, .int .i64 t801] 27 (0, 0)) (by (with_reducible repeat (first | refine blk_drewN ?_ _ | refine blk_drew ?_ | refine blk_alloc ?_ _)); exact BK803.out) hb); have n3_ := Aside0.mk (below_step (by repeat (first | (with_reducible first | exact HB.out | apply below_alloc | apply pw_below_drewN | apply below_drew1 | refine below_set ?_ GE794.out | refine below_set ?_ GE803.out) | exact HB.out)) hb); have n4_ := Aside0.mk (hbox); have n5_ := Aside0.mk ((by rw [hg]; exact (below_size (by repeat (first | (with_reducible first | exact HB.out | apply below_alloc | apply pw_below_drewN | apply below_drew1 | refine below_set ?_ GE794.out | refine below_set ?_ GE803.out) | exact HB.out))) : w.heap.size ≤ gb816)); have n6_ := Aside0.mk ((by rw [hg]; exact (below_size (by repeat (first | (with_reducible first | exact HB.out | apply below_alloc | apply pw_below_drewN | apply below_drew1 | refine below_set ?_ GE794.out | refine below_set ?_ GE803.out) | exact HB.out))) : w.heap.size ≤ gb816)); have n7_ := Aside0.mk ((by rw [hg]; exact Nat.ne_of_lt (blk_lt (g := gb794) (o := .cells #[.slice A0_0 l0_0.length c0_0, .slice A0_1 l0_1.length c0_1] 25 (0, 0)) (by (with_reducible repeat (first | refine blk_drewN ?_ _ | refine blk_drew ?_ | refine blk_alloc ?_ _)); exact BK794.out)) : gb794 ≠ gb816)); have n8_ := Aside0.mk ((by rw [hg]; exact Nat.ne_of_gt (blk_lt (g := gb794) (o := .cells #[.slice A0_0 l0_0.length c0_0, .slice A0_1 l0_1.length c0_1] 25 (0, 0)) (by (with_reducible repeat (first | refine blk_drewN ?_ _ | refine blk_drew ?_ | refine blk_alloc ?_ _)); exact BK794.out)) : gb816 ≠ gb794)); have n9_ := Aside0.mk ((by rw [hg]; exact Nat.ne_of_lt (blk_lt (g := gb803) (o := .cells #[.string t800, .int .i64 t801] 27 (0, 0)) (by (with_reducible repeat (first | refine blk_drewN ?_ _ | refine blk_drew ?_ | refine blk_alloc ?_ _)); exact BK803.out)) : gb803 ≠ gb816)); have n10_ := Aside0.mk ((by rw [hg]; exact Nat.ne_of_gt (blk_lt (g := gb803) (o := .cells #[.string t800, .int .i64 t801] 27 (0, 0)) (by (with_reducible repeat (first | refine blk_drewN ?_ _ | refine blk_drew ?_ | refine blk_alloc ?_ _)); exact BK803.out)) : gb816 ≠ gb803)); clear HO_4; clear BK794; clear BK803; clear HB; have HO_4 := n0_; have BK794 := n1_; have BK803 := n2_; have HB := n3_; have BK816 := n4_; have GW816 := n5_; have GE816 := n6_; have NB794_816 := n7_; have NB816_794 := n8_; have NB803_816 := n9_; have NB816_803 := n10_; clear n0_ n1_ n2_ n3_ n4_ n5_ n6_ n7_ n8_ n9_ n10_; clear hb hbox hg; have hnb51 := NB816_794.out; have hnc51 := NB794_816.out; have hnb52 := NB816_803.out; have hnc52 := NB803_816.out; have hcz53_0 : w50.cell? ⟨gb816, 0, none⟩ = some (.string (⟨#[]⟩ : ByteArray)) := (blk_cell BK816.out 0).trans rfl; have hcz53_1 : w50.cell? ⟨gb816, 1, none⟩ = some (.int .i64 0) := (blk_cell BK816.out 1).trans rfl; have hfz53_0 := blk_frozen BK816.out 0; have hfz53_1 := blk_frozen BK816.out 1) | ((with_reducible refine gate_callee (f := 59) rfl ?_); refine goesL_ (some 74) rfl rfl Try.func59 (by kernel_rfl) rfl #[.int .i64 t815] rfl (by (try simp only [List.map_toArray, List.map_cons, List.map_nil]); first | done | rfl | (simp only [List.length_drop, List.length_take]; rfl)) ?_; (with_reducible refine (herbariumlaw2_num.calls t815 t817 _ A45.out).mono ?_); rintro e w' ⟨rfl, ⟨nd, rfl⟩⟩; refine ⟨_, rfl, ?_⟩))
                              go_roundg k4
                              case measure => have := HK1.out; have := HK2.out; have := HJ9.out; have := HK4.out; omega
                              case rel => exact ⟨(wrap64 (x5_2 + 1)), (by first | rfl | (simp; done) | (simp [*]; done)), H', ⟨by have := HK1.out; have := HK2.out; have := HJ9.out; have := HK4.out; omega⟩, ⟨by (with_reducible repeat (first | apply Kd.R_alloc | apply Kd.R_drewN | apply Kd.R_drew)); exact Kd.R_mono (Kd.R_far (p := ⟨gb816, 1, none⟩) (Kd.R_far (p := ⟨gb816, 0, none⟩) (Kd.R_types HO_4.out BK816.out (by decide)) (fun _ hk => hk.2) (.string t813)) (fun _ hk => hk.2) (.int .i64 t814)) (fun _ hk => trivial)⟩, ⟨by (with_reducible repeat (first | refine blk_drewN ?_ _ | refine blk_drew ?_ | refine blk_alloc ?_ _)); refine blk_far ?_ NB794_816.out _; (with_reducible repeat (first | refine blk_drewN ?_ _ | refine blk_drew ?_ | refine blk_alloc ?_ _)); refine blk_far ?_ NB794_816.out _; (with_reducible repeat (first | refine blk_drewN ?_ _ | refine blk_drew ?_ | refine blk_alloc ?_ _)); exact BK794.out⟩, ⟨by repeat (first | (with_reducible first | exact HB.out | apply below_alloc | apply pw_below_drewN | apply below_drew1 | refine below_set ?_ GE794.out | refine below_set ?_ GE803.out | refine below_set ?_ GE816.out) | exact HB.out)⟩⟩
                            · rw [if_neg c46] at H
                              have c46b0 : (t817 == 1) = false := beq_eq_false_iff_ne.mpr c46
                              have c46b1 : (t817 != 1) = true := bne_iff_ne.mpr c46
                              obtain rfl := Option.some.inj H
                              have hnb54 := NB803_794.out
                              have hnc54 := NB794_803.out
                              have hcz55_0 : wr.cell? ⟨gb803, 0, none⟩ = some (.string t800) := (blk_cell BK803.out 0).trans rfl
                              have hcz55_1 : wr.cell? ⟨gb803, 1, none⟩ = some (.int .i64 t801) := (blk_cell BK803.out 1).trans rfl
                              have hfz55_0 := blk_frozen BK803.out 0
                              have hfz55_1 := blk_frozen BK803.out 1
                              go_wp2_with (first | ((with_reducible refine gate_callee (f := 58) rfl ?_); refine goesL_ (some 70) rfl rfl Try.func58 (by kernel_rfl) rfl #[.agg #[.string (⟨#[]⟩ : ByteArray), .int .i64 0], .int .i64 x3_1, .int .i64 1073741825] rfl (by (try simp only [List.map_toArray, List.map_cons, List.map_nil]); first | done | rfl | (simp only [List.length_drop, List.length_take]; rfl)) ?_; (with_reducible refine (code_Put.calls (⟨#[]⟩ : ByteArray) 0 x3_1 1073741825 t813 t814 t815 _ A44.out).mono ?_); rintro e w56 ⟨rfl, hb⟩; refine ⟨_, rfl, ?_⟩; have n0_ := Aside0.mk (Kd.R_below (by (with_reducible repeat (first | apply Kd.R_alloc | apply Kd.R_drewN | apply Kd.R_drew)); exact HO_4.out) hb); have n1_ := Aside0.mk (blk_below (g := gb794) (o := .cells #[.slice A0_0 l0_0.length c0_0, .slice A0_1 l0_1.length c0_1] 25 (0, 0)) (by (with_reducible repeat (first | refine blk_drewN ?_ _ | refine blk_drew ?_ | refine blk_alloc ?_ _)); exact BK794.out) hb); have n2_ := Aside0.mk (blk_below (g := gb803) (o := .cells #[.string t800, .int .i64 t801] 27 (0, 0)) (by (with_reducible repeat (first | refine blk_drewN ?_ _ | refine blk_drew ?_ | refine blk_alloc ?_ _)); exact BK803.out) hb); have n3_ := Aside0.mk (below_step (by repeat (first | (with_reducible first | exact HB.out | apply below_alloc | apply pw_below_drewN | apply below_drew1 | refine below_set ?_ GE794.out | refine below_set ?_ GE803.out) | exact HB.out)) hb); clear HO_4; clear BK794; clear BK803; clear HB; have HO_4 := n0_; have BK794 := n1_; have BK803 := n2_; have HB := n3_; clear n0_ n1_ n2_ n3_; (try clear hb); (try clear hb2); (try clear hk); (try clear hi)) | ((with_reducible refine gate_dst (N := 13) rfl ?_); refine box_event ?hg (N := 13) ?hd (cs := #[.string (⟨#[]⟩ : ByteArray), .int .i64 0]) (t := 27) ?hr ?_; (case hd => rfl); (case hg => rfl); (case hr => first | (go_simp; done) | (go_simp; rfl)); intro gb816 hg w57 hbox hb; have n0_ := Aside0.mk (Kd.R_below (by (with_reducible repeat (first | apply Kd.R_alloc | apply Kd.R_drewN | apply Kd.R_drew)); exact HO_4.out) hb); have n1_ := Aside0.mk (blk_below (g := gb794) (o := .cells #[.slice A0_0 l0_0.length c0_0, .slice A0_1 l0_1.length c0_1] 25 (0, 0)) (by (with_reducible repeat (first | refine blk_drewN ?_ _ | refine blk_drew ?_ | refine blk_alloc ?_ _)); exact BK794.out) hb); have n2_ := Aside0.mk (blk_below (g := gb803) (o := .cells #[.string t800, .int .i64 t801] 27 (0, 0)) (by (with_reducible repeat (first | refine blk_drewN ?_ _ | refine blk_drew ?_ | refine blk_alloc ?_ _)); exact BK803.out) hb); have n3_ := Aside0.mk (below_step (by repeat (first | (with_reducible first | exact HB.out | apply below_alloc | apply pw_below_drewN | apply below_drew1 | refine below_set ?_ GE794.out | refine below_set ?_ GE803.out) | exact HB.out)) hb); have n4_ := Aside0.mk (hbox); have n5_ := Aside0.mk ((by rw [hg]; exact (below_size (by repeat (first | (with_reducible first | exact HB.out | apply below_alloc | apply pw_below_drewN | apply below_drew1 | refine below_set ?_ GE794.out | refine below_set ?_ GE803.out) | exact HB.out))) : w.heap.size ≤ gb816)); have n6_ := Aside0.mk ((by rw [hg]; exact (below_size (by repeat (first | (with_reducible first | exact HB.out | apply below_alloc | apply pw_below_drewN | apply below_drew1 | refine below_set ?_ GE794.out | refine below_set ?_ GE803.out) | exact HB.out))) : w.heap.size ≤ gb816)); have n7_ := Aside0.mk ((by rw [hg]; exact Nat.ne_of_lt (blk_lt (g := gb794) (o := .cells #[.slice A0_0 l0_0.length c0_0, .slice A0_1 l0_1.length c0_1] 25 (0, 0)) (by (with_reducible repeat (first | refine blk_drewN ?_ _ | refine blk_drew ?_ | refine blk_alloc ?_ _)); exact BK794.out)) : gb794 ≠ gb816)); have n8_ := Aside0.mk ((by rw [hg]; exact Nat.ne_of_gt (blk_lt (g := gb794) (o := .cells #[.slice A0_0 l0_0.length c0_0, .slice A0_1 l0_1.length c0_1] 25 (0, 0)) (by (with_reducible repeat (first | refine blk_drewN ?_ _ | refine blk_drew ?_ | refine blk_alloc ?_ _)); exact BK794.out)) : gb816 ≠ gb794)); have n9_ := Aside0.mk ((by rw [hg]; exact Nat.ne_of_lt (blk_lt (g := gb803) (o := .cells #[.string t800, .int .i64 t801] 27 (0, 0)) (by (with_reducible repeat (first | refine blk_drewN ?_ _ | refine blk_drew ?_ | refine blk_alloc ?_ _)); exact BK803.out)) : gb803 ≠ gb816)); have n10_ := Aside0.mk ((by rw [hg]; exact Nat.ne_of_gt (blk_lt (g := gb803) (o := .cells #[.string t800, .int .i64 t801] 27 (0, 0)) (by (with_reducible repeat (first | refine blk_drewN ?_ _ | refine blk_drew ?_ | refine blk_alloc ?_ _)); exact BK803.out)) : gb816 ≠ gb803)); clear HO_4; clear BK794; clear BK803; clear HB; have HO_4 := n0_; have BK794 := n1_; have BK803 := n2_; have HB := n3_; have BK816 := n4_; have GW816 := n5_; have GE816 := n6_; have NB794_816 := n7_; have NB816_794 := n8_; have NB803_816 := n9_; have NB816_803 := n10_; clear n0_ n1_ n2_ n3_ n4_ n5_ n6_ n7_ n8_ n9_ n10_; clear hb hbox hg; have hnb58 := NB816_794.out; have hnc58 := NB794_816.out; have hnb59 := NB816_803.out; have hnc59 := NB803_816.out; have hcz60_0 : w57.cell? ⟨gb816, 0, none⟩ = some (.string (⟨#[]⟩ : ByteArray)) := (blk_cell BK816.out 0).trans rfl; have hcz60_1 : w57.cell? ⟨gb816, 1, none⟩ = some (.int .i64 0) := (blk_cell BK816.out 1).trans rfl; have hfz60_0 := blk_frozen BK816.out 0; have hfz60_1 := blk_frozen BK816.out 1) | ((with_reducible refine gate_callee (f := 59) rfl ?_); refine goesL_ (some 74) rfl rfl Try.func59 (by kernel_rfl) rfl #[.int .i64 t815] rfl (by (try simp only [List.map_toArray, List.map_cons, List.map_nil]); first | done | rfl | (simp only [List.length_drop, List.length_take]; rfl)) ?_; (with_reducible refine (herbariumlaw2_num.calls t815 t817 _ A45.out).mono ?_); rintro e w' ⟨rfl, ⟨nd, rfl⟩⟩; refine ⟨_, rfl, ?_⟩))
                              go_ret
                              exact ⟨by first | rfl | (simp [errW_none, errW_some] <;> rfl) | (simp [*, errW_none, errW_some] <;> rfl), by repeat (first | (with_reducible first | exact HB.out | apply below_alloc | apply pw_below_drewN | apply below_drew1 | refine below_set ?_ GE794.out | refine below_set ?_ GE803.out | refine below_set ?_ GE816.out) | exact HB.out)⟩
              · rw [if_neg c8] at H
                exact absurd H (by simp)
            · rw [if_neg c7] at H
              have c7b0 : decide (x5_2 < (y796.length : Int)) = false := decide_eq_false c7
              clear c7
              have H' := Aside0.mk H
              clear H
              obtain ⟨Ao61, co61, eo61⟩ := Kd.R_slice HO_4.out
              subst eo61
              go_wp2
              go_roundg k2
              case measure => have := HK1.out; have := HK2.out; omega
              case rel => exact ⟨(wrap64 (x3_1 + 1)), (by first | rfl | (simp; done) | (simp [*]; done)), H', ⟨by have := HK1.out; have := HK2.out; omega⟩, ⟨by (with_reducible repeat (first | refine blk_drewN ?_ _ | refine blk_drew ?_ | refine blk_alloc ?_ _)); exact BK794.out⟩, ⟨by repeat (first | (with_reducible first | exact HB.out | apply below_alloc | apply pw_below_drewN | apply below_drew1 | refine below_set ?_ GE794.out) | exact HB.out)⟩⟩
      · rw [if_neg c3] at H
        have c3b0 : decide (x3_1 ≤ 5) = false := decide_eq_false c3
        clear c3
        replace H := Option.bind_eq_some_iff.mp H
        obtain ⟨t795, A620, H⟩ := H
        replace H : (some t795) = some r := H
        have A62 := Aside0.mk A620
        clear A620
        obtain rfl := Option.some.inj H
        go_wp2_with (first | ((with_reducible refine gate_callee (f := 62) rfl ?_); refine goesL_ (some 76) rfl rfl Try.func62 (by kernel_rfl) rfl #[] rfl (by (try simp only [List.map_toArray, List.map_cons, List.map_nil]); first | done | rfl | (simp only [List.length_drop, List.length_take]; rfl)) ?_; (with_reducible refine (herbariumlaw2_wakes.calls k1  t795 _ A62.out).mono ?_); rintro e w63 ⟨rfl, hb⟩; refine ⟨_, rfl, ?_⟩; have n0_ := Aside0.mk (blk_below (g := gb794) (o := .cells #[.slice A0_0 l0_0.length c0_0, .slice A0_1 l0_1.length c0_1] 25 (0, 0)) (by (with_reducible repeat (first | refine blk_drewN ?_ _ | refine blk_drew ?_ | refine blk_alloc ?_ _)); exact BK794.out) hb); have n1_ := Aside0.mk (below_step (by repeat (first | (with_reducible first | exact HB.out | apply below_alloc | apply pw_below_drewN | apply below_drew1 | refine below_set ?_ GE794.out) | exact HB.out)) hb); clear BK794; clear HB; have BK794 := n0_; have HB := n1_; clear n0_ n1_; (try clear hb); (try clear hb2); (try clear hk); (try clear hi)))
        go_ret
        exact ⟨by first | rfl | (simp [errW_none, errW_some] <;> rfl) | (simp [*, errW_none, errW_some] <;> rfl), by repeat (first | (with_reducible first | exact HB.out | apply below_alloc | apply pw_below_drewN | apply below_drew1 | refine below_set ?_ GE794.out) | exact HB.out)⟩
end Go.Proofs.Ytnpghcikhpglkaa.Q
