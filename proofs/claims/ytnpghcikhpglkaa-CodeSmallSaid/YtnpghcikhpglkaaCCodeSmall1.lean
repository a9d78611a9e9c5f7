/- What the row of CodeSmall rests on, part 2 of 3: functions, contracts, plain laws. -/
import Derived.Test.YtnpghcikhpglkaaCCodeSmall0
namespace Go.Proofs.Ytnpghcikhpglkaa.Q
open Go.RowKit Go.Proofs.YtnpghcikhpglkaaW.PrintWords Go.Proofs.YtnpghcikhpglkaaW.PrintLast Go.Proofs.YtnpghcikhpglkaaW.PrintMore Go.Proofs.Ytnpghcikhpglkaa.Hand Go.Proofs.Ytnpghcikhpglkaa.Pu
set_option linter.unusedVariables false
set_option linter.unusedSimpArgs false

def rd_delta (k : Nat) (s : ByteArray) (n a : Int) (bad : Bool) : Option (Int × Int × Bool) :=
  (rd_gamma k s n a bad).bind fun g => if g.2.2 = true then some (0, g.2.1, true) else if 30 < g.1 - 1 then (if g.1 ≤ 4611686018427387904 then some (0, g.2.1, true) else none) else if 0 ≤ g.1 - 1 then
    (rd_look k s n g.2.1 false (g.1 - 1)).bind fun l => some (Go.bits .or .i64 (IntKind.i64.wrap (2 ^ (g.1.toNat - 1))) l.1, l.2.1, l.2.2) else none
def rd_zeta (kk most : Int) (k : Nat) (s : ByteArray) (n a : Int) (bad : Bool) : Option (Int × Int × Bool) :=
  (rd_unary k s n a bad most).bind fun u => if u.2.2 = true then some (0, u.2.1, true) else if 1 ≤ u.1 ∧ u.1 ≤ 100 then
    (code_zeta.f kk (u.1 - 1)).bind fun q => if 0 ≤ q.1 ∧ q.1 ≤ 4294967296 ∧ 1 ≤ q.2.2.1 ∧ q.2.2.1 ≤ 64 ∧ 0 ≤ q.2.2.2 ∧ q.2.2.2 ≤ 4294967296 then
      (rd_look k s n u.2.1 false (q.2.2.1 - 1)).bind fun z => if 0 ≤ z.1 ∧ z.1 ≤ 4294967296 then
        (if z.1 < q.2.2.2 then some (q.1 + z.1, z.2.1, z.2.2) else (rd_look k s n z.2.1 z.2.2 1).bind fun y => if 0 ≤ y.1 ∧ y.1 ≤ 1 then some (q.1 + (z.1 * 2 + y.1 - q.2.2.2), y.2.1, y.2.2) else none) else none
      else none
    else none
theorem rd_delta.calls (W : World) (base p k : Nat) (s : ByteArray) (n a : Int) (bad : Bool) (r a' : Int) (bad' : Bool) (hrd : ReadIs W p s n a bad) (hbase : base ≤ p) (h : rd_delta k s n a bad = some (r, a', bad')) :
    Calls Try.prog 122 #[.pointer (some ⟨p, 0, none⟩)] W fun e w' => e = .returned (.int .i64 r) ∧ ReadIs w' p s n a' bad' ∧ Below base W w' := by
  unfold rd_delta at h
  obtain ⟨⟨g, a1, b1⟩, h1, h2⟩ := Option.bind_eq_some_iff.1 h
  simp only at h2
  cases b1 with
  | true =>
    rw [if_pos rfl] at h2
    simp only [Option.some.injEq, Prod.mk.injEq] at h2
    obtain ⟨rfl, rfl, rfl⟩ := h2
    exact delta_bad1 W base p k s n a bad g a1 hrd hbase h1
  | false =>
    rw [if_neg (by simp)] at h2
    by_cases c1 : 30 < g - 1
    · rw [if_pos c1] at h2
      split at h2
      · rename_i c2
        simp only [Option.some.injEq, Prod.mk.injEq] at h2
        obtain ⟨rfl, rfl, rfl⟩ := h2
        exact delta_bad2 W base p k s n a bad g a1 hrd hbase h1 c1 c2
      · cases h2
    · rw [if_neg c1] at h2
      split at h2
      · rename_i c2
        obtain ⟨⟨l, a2, b2⟩, h3, h4⟩ := Option.bind_eq_some_iff.1 h2
        simp only [Option.some.injEq, Prod.mk.injEq] at h4
        obtain ⟨rfl, rfl, rfl⟩ := h4
        exact delta_ok W base p k s n a bad g a1 l a2 b2 hrd hbase h1 c2 (by omega) h3
      · cases h2
theorem rd_zeta2.calls (W : World) (base p k : Nat) (s : ByteArray) (n a : Int) (bad : Bool) (r a' : Int) (bad' : Bool) (hrd : ReadIs W p s n a bad) (hbase : base ≤ p) (h : rd_zeta 2 16 k s n a bad = some (r, a', bad')) :
    Calls Try.prog 123 #[.pointer (some ⟨p, 0, none⟩), .int .i64 2] W fun e w' => e = .returned (.int .i64 r) ∧ ReadIs w' p s n a' bad' ∧ Below base W w' := by
  unfold rd_zeta at h
  obtain ⟨⟨u, a1, b1⟩, h1, h2⟩ := Option.bind_eq_some_iff.1 h
  simp only at h2
  cases b1 with
  | true =>
    rw [if_pos rfl] at h2
    simp only [Option.some.injEq, Prod.mk.injEq] at h2
    obtain ⟨rfl, rfl, rfl⟩ := h2
    exact zeta2_bad W base p k s n a bad u a1 hrd hbase h1
  | false =>
    rw [if_neg (by simp)] at h2
    split at h2
    · rename_i c1
      obtain ⟨⟨low, many, size, short⟩, h3, h4⟩ := Option.bind_eq_some_iff.1 h2
      simp only at h4
      split at h4
      · rename_i c2
        obtain ⟨⟨z, a2, b2⟩, h5, h6⟩ := Option.bind_eq_some_iff.1 h4
        simp only at h6
        split at h6
        · rename_i c3
          split at h6
          · rename_i c4
            simp only [Option.some.injEq, Prod.mk.injEq] at h6
            obtain ⟨rfl, rfl, rfl⟩ := h6
            exact zeta2_short W base p k s n a bad u a1 low many size short z a2 b2 hrd hbase h1 c1.1 c1.2 h3 c2.1 c2.2.1 c2.2.2.1 c2.2.2.2.1 c2.2.2.2.2.1 c2.2.2.2.2.2 h5 c3.1 c3.2 c4
          · rename_i c4
            obtain ⟨⟨y, a3, b3⟩, h7, h8⟩ := Option.bind_eq_some_iff.1 h6
            simp only at h8
            split at h8
            · rename_i c5
              simp only [Option.some.injEq, Prod.mk.injEq] at h8
              obtain ⟨rfl, rfl, rfl⟩ := h8
              exact zeta2_long W base p k s n a bad u a1 low many size short z a2 b2 hrd hbase h1 c1.1 c1.2 h3 c2.1 c2.2.1 c2.2.2.1 c2.2.2.2.1 c2.2.2.2.2.1 c2.2.2.2.2.2 h5 c3.1 c3.2 (by omega) y a3 b3 h7 c5.1 c5.2
            · cases h8
        · cases h6
      · cases h4
    · cases h2
theorem rd_zeta3.calls (W : World) (base p k : Nat) (s : ByteArray) (n a : Int) (bad : Bool) (r a' : Int) (bad' : Bool) (hrd : ReadIs W p s n a bad) (hbase : base ≤ p) (h : rd_zeta 3 11 k s n a bad = some (r, a', bad')) :
    Calls Try.prog 123 #[.pointer (some ⟨p, 0, none⟩), .int .i64 3] W fun e w' => e = .returned (.int .i64 r) ∧ ReadIs w' p s n a' bad' ∧ Below base W w' := by
  unfold rd_zeta at h
  obtain ⟨⟨u, a1, b1⟩, h1, h2⟩ := Option.bind_eq_some_iff.1 h
  simp only at h2
  cases b1 with
  | true =>
    rw [if_pos rfl] at h2
    simp only [Option.some.injEq, Prod.mk.injEq] at h2
    obtain ⟨rfl, rfl, rfl⟩ := h2
    exact zeta3_bad W base p k s n a bad u a1 hrd hbase h1
  | false =>
    rw [if_neg (by simp)] at h2
    split at h2
    · rename_i c1
      obtain ⟨⟨low, many, size, short⟩, h3, h4⟩ := Option.bind_eq_some_iff.1 h2
      simp only at h4
      split at h4
      · rename_i c2
        obtain ⟨⟨z, a2, b2⟩, h5, h6⟩ := Option.bind_eq_some_iff.1 h4
        simp only at h6
        split at h6
        · rename_i c3
          split at h6
          · rename_i c4
            simp only [Option.some.injEq, Prod.mk.injEq] at h6
            obtain ⟨rfl, rfl, rfl⟩ := h6
            exact zeta3_short W base p k s n a bad u a1 low many size short z a2 b2 hrd hbase h1 c1.1 c1.2 h3 c2.1 c2.2.1 c2.2.2.1 c2.2.2.2.1 c2.2.2.2.2.1 c2.2.2.2.2.2 h5 c3.1 c3.2 c4
          · rename_i c4
            obtain ⟨⟨y, a3, b3⟩, h7, h8⟩ := Option.bind_eq_some_iff.1 h6
            simp only at h8
            split at h8
            · rename_i c5
              simp only [Option.some.injEq, Prod.mk.injEq] at h8
              obtain ⟨rfl, rfl, rfl⟩ := h8
              exact zeta3_long W base p k s n a bad u a1 low many size short z a2 b2 hrd hbase h1 c1.1 c1.2 h3 c2.1 c2.2.1 c2.2.2.1 c2.2.2.2.1 c2.2.2.2.2.1 c2.2.2.2.2.2 h5 c3.1 c3.2 (by omega) y a3 b3 h7 c5.1 c5.2
            · cases h8
        · cases h6
      · cases h4
    · cases h2
theorem rparts4 : code_parts.f 4 = some 2 := by decide +kernel
theorem rparts5 : code_parts.f 5 = some 3 := by decide +kernel
/-- The reader's answer of a kind. -/
def readK (k : Nat) (s : ByteArray) (n a kind : Int) : Option (Int × Int × Bool) :=
  if kind = 1 then rd_unary k s n a false 1000 else if kind = 2 then rd_gamma k s n a false else if kind = 3 then rd_delta k s n a false else if kind = 4 then rd_zeta 2 16 k s n a false else if kind = 5 then rd_zeta 3 11 k s n a false else none
set_option maxHeartbeats 4000000 in
set_option maxRecDepth 100000 in
theorem read1_bad (w : World) (k : Nat) (s : ByteArray) (n a r a' : Int) (hm : rd_unary k s n a false 1000 = some (r, a', true))  :
    Calls Try.prog 105 #[.agg #[.string s, .int .i64 n], .int .i64 a, .int .i64 1] w fun e w' => e = .returned (.tuple #[.int .i64 0, .int .i64 0, .bool false]) ∧ Below w.heap.size w w' := by
  have hu := Try.underlying27
  have hu5 := Try.underlying125
  have HS := Aside0.mk (start2 w (.cells #[.string s, .int .i64 n] 27) (.cells #[.string s, .int .i64 n, .int .i64 a, .bool false] 125))
  have HRD : Aside0 (ReadIs ((w.alloc (.cells #[.string s, .int .i64 n] 27)).alloc (.cells #[.string s, .int .i64 n, .int .i64 a, .bool false] 125)) (w.heap.size + 1) s n a false) := ⟨HS.out.2.1⟩
  have HB := Aside0.mk HS.out.2.2.1
  clear HS
  have HM := Aside0.mk hm
  clear hm
  go_enter Try.func105, Try.ntmps105
  go_wp2_with (first | (go_at_call 120; ((with_reducible refine (rd_unary.calls _ w.heap.size (w.heap.size + 1) k s n a false 1000 r a' true HRD.out (Nat.le_succ _) HM.out).mono ?_); rintro e w3 ⟨rfl, hr3, hb3⟩); have HRD3 := Aside0.mk hr3; have HB3 := Aside0.mk (HB.out.trans hb3); clear hr3 hb3 HRD HB; have HRD := HRD3; have HB := HB3; clear HRD3 HB3; (try clear c0 c1 c2 c3 f0 f1 f2 f3); obtain ⟨c0, c1, c2, c3, f0, f1, f2, f3⟩ := four_cells HRD.out))
  refine bodyPost_ret (results_list (rs := [.tmp 6, .tmp 7, .tmp 8]) rfl (by simp) (.tmp (.tmp (.tmp .nil)))) rfl ⟨rfl, HB.out⟩
set_option maxHeartbeats 4000000 in
set_option maxRecDepth 100000 in
theorem read1_big (w : World) (k : Nat) (s : ByteArray) (n a r a' : Int) (hm : rd_unary k s n a false 1000 = some (r, a', false)) (hr : 1073741824 < r) :
    Calls Try.prog 105 #[.agg #[.string s, .int .i64 n], .int .i64 a, .int .i64 1] w fun e w' => e = .returned (.tuple #[.int .i64 0, .int .i64 0, .bool false]) ∧ Below w.heap.size w w' := by
  have hu := Try.underlying27
  have hu5 := Try.underlying125
  have HS := Aside0.mk (start2 w (.cells #[.string s, .int .i64 n] 27) (.cells #[.string s, .int .i64 n, .int .i64 a, .bool false] 125))
  have HRD : Aside0 (ReadIs ((w.alloc (.cells #[.string s, .int .i64 n] 27)).alloc (.cells #[.string s, .int .i64 n, .int .i64 a, .bool false] 125)) (w.heap.size + 1) s n a false) := ⟨HS.out.2.1⟩
  have HB := Aside0.mk HS.out.2.2.1
  clear HS
  have HM := Aside0.mk hm
  clear hm
  go_enter Try.func105, Try.ntmps105
  go_wp2_with (first | (go_at_call 120; ((with_reducible refine (rd_unary.calls _ w.heap.size (w.heap.size + 1) k s n a false 1000 r a' false HRD.out (Nat.le_succ _) HM.out).mono ?_); rintro e w3 ⟨rfl, hr3, hb3⟩); have HRD3 := Aside0.mk hr3; have HB3 := Aside0.mk (HB.out.trans hb3); clear hr3 hb3 HRD HB; have HRD := HRD3; have HB := HB3; clear HRD3 HB3; (try clear c0 c1 c2 c3 f0 f1 f2 f3); obtain ⟨c0, c1, c2, c3, f0, f1, f2, f3⟩ := four_cells HRD.out))
  refine bodyPost_ret (results_list (rs := [.tmp 6, .tmp 7, .tmp 8]) rfl (by simp) (.tmp (.tmp (.tmp .nil)))) rfl ⟨rfl, HB.out⟩
set_option maxHeartbeats 4000000 in
set_option maxRecDepth 100000 in
theorem read1_ok (w : World) (k : Nat) (s : ByteArray) (n a r a' : Int) (hm : rd_unary k s n a false 1000 = some (r, a', false)) (hr : r ≤ 1073741824) :
    Calls Try.prog 105 #[.agg #[.string s, .int .i64 n], .int .i64 a, .int .i64 1] w fun e w' => e = .returned (.tuple #[.int .i64 r, .int .i64 a', .bool true]) ∧ Below w.heap.size w w' := by
  have hu := Try.underlying27
  have hu5 := Try.underlying125
  have HS := Aside0.mk (start2 w (.cells #[.string s, .int .i64 n] 27) (.cells #[.string s, .int .i64 n, .int .i64 a, .bool false] 125))
  have HRD : Aside0 (ReadIs ((w.alloc (.cells #[.string s, .int .i64 n] 27)).alloc (.cells #[.string s, .int .i64 n, .int .i64 a, .bool false] 125)) (w.heap.size + 1) s n a false) := ⟨HS.out.2.1⟩
  have HB := Aside0.mk HS.out.2.2.1
  clear HS
  have HM := Aside0.mk hm
  clear hm
  go_enter Try.func105, Try.ntmps105
  go_wp2_with (first | (go_at_call 120; ((with_reducible refine (rd_unary.calls _ w.heap.size (w.heap.size + 1) k s n a false 1000 r a' false HRD.out (Nat.le_succ _) HM.out).mono ?_); rintro e w3 ⟨rfl, hr3, hb3⟩); have HRD3 := Aside0.mk hr3; have HB3 := Aside0.mk (HB.out.trans hb3); clear hr3 hb3 HRD HB; have HRD := HRD3; have HB := HB3; clear HRD3 HB3; (try clear c0 c1 c2 c3 f0 f1 f2 f3); obtain ⟨c0, c1, c2, c3, f0, f1, f2, f3⟩ := four_cells HRD.out))
  go_region
  go_wp2
  refine bodyPost_ret (results_list (rs := [.tmp 6, .tmp 7, .tmp 8]) rfl (by simp) (.tmp (.tmp (.tmp .nil)))) rfl ⟨rfl, pw_below_drewN HB.out 1⟩
set_option maxHeartbeats 4000000 in
set_option maxRecDepth 100000 in
theorem read2_bad (w : World) (k : Nat) (s : ByteArray) (n a r a' : Int) (hm : rd_gamma k s n a false = some (r, a', true))  :
    Calls Try.prog 105 #[.agg #[.string s, .int .i64 n], .int .i64 a, .int .i64 2] w fun e w' => e = .returned (.tuple #[.int .i64 0, .int .i64 0, .bool false]) ∧ Below w.heap.size w w' := by
  have hu := Try.underlying27
  have hu5 := Try.underlying125
  have HS := Aside0.mk (start2 w (.cells #[.string s, .int .i64 n] 27) (.cells #[.string s, .int .i64 n, .int .i64 a, .bool false] 125))
  have HRD : Aside0 (ReadIs ((w.alloc (.cells #[.string s, .int .i64 n] 27)).alloc (.cells #[.string s, .int .i64 n, .int .i64 a, .bool false] 125)) (w.heap.size + 1) s n a false) := ⟨HS.out.2.1⟩
  have HB := Aside0.mk HS.out.2.2.1
  clear HS
  have HM := Aside0.mk hm
  clear hm
  go_enter Try.func105, Try.ntmps105
  go_wp2_with (first | (go_at_call 121; ((with_reducible refine (rd_gamma.calls _ w.heap.size (w.heap.size + 1) k s n a false r a' true HRD.out (Nat.le_succ _) HM.out).mono ?_); rintro e w3 ⟨rfl, hr3, hb3⟩); have HRD3 := Aside0.mk hr3; have HB3 := Aside0.mk (HB.out.trans hb3); clear hr3 hb3 HRD HB; have HRD := HRD3; have HB := HB3; clear HRD3 HB3; (try clear c0 c1 c2 c3 f0 f1 f2 f3); obtain ⟨c0, c1, c2, c3, f0, f1, f2, f3⟩ := four_cells HRD.out))
  refine bodyPost_ret (results_list (rs := [.tmp 6, .tmp 7, .tmp 8]) rfl (by simp) (.tmp (.tmp (.tmp .nil)))) rfl ⟨rfl, HB.out⟩
set_option maxHeartbeats 4000000 in
set_option maxRecDepth 100000 in
theorem read2_big (w : World) (k : Nat) (s : ByteArray) (n a r a' : Int) (hm : rd_gamma k s n a false = some (r, a', false)) (hr : 1073741824 < r) :
    Calls Try.prog 105 #[.agg #[.string s, .int .i64 n], .int .i64 a, .int .i64 2] w fun e w' => e = .returned (.tuple #[.int .i64 0, .int .i64 0, .bool false]) ∧ Below w.heap.size w w' := by
  have hu := Try.underlying27
  have hu5 := Try.underlying125
  have HS := Aside0.mk (start2 w (.cells #[.string s, .int .i64 n] 27) (.cells #[.string s, .int .i64 n, .int .i64 a, .bool false] 125))
  have HRD : Aside0 (ReadIs ((w.alloc (.cells #[.string s, .int .i64 n] 27)).alloc (.cells #[.string s, .int .i64 n, .int .i64 a, .bool false] 125)) (w.heap.size + 1) s n a false) := ⟨HS.out.2.1⟩
  have HB := Aside0.mk HS.out.2.2.1
  clear HS
  have HM := Aside0.mk hm
  clear hm
  go_enter Try.func105, Try.ntmps105
  go_wp2_with (first | (go_at_call 121; ((with_reducible refine (rd_gamma.calls _ w.heap.size (w.heap.size + 1) k s n a false r a' false HRD.out (Nat.le_succ _) HM.out).mono ?_); rintro e w3 ⟨rfl, hr3, hb3⟩); have HRD3 := Aside0.mk hr3; have HB3 := Aside0.mk (HB.out.trans hb3); clear hr3 hb3 HRD HB; have HRD := HRD3; have HB := HB3; clear HRD3 HB3; (try clear c0 c1 c2 c3 f0 f1 f2 f3); obtain ⟨c0, c1, c2, c3, f0, f1, f2, f3⟩ := four_cells HRD.out))
  refine bodyPost_ret (results_list (rs := [.tmp 6, .tmp 7, .tmp 8]) rfl (by simp) (.tmp (.tmp (.tmp .nil)))) rfl ⟨rfl, HB.out⟩
set_option maxHeartbeats 4000000 in
set_option maxRecDepth 100000 in
theorem read2_ok (w : World) (k : Nat) (s : ByteArray) (n a r a' : Int) (hm : rd_gamma k s n a false = some (r, a', false)) (hr : r ≤ 1073741824) :
    Calls Try.prog 105 #[.agg #[.string s, .int .i64 n], .int .i64 a, .int .i64 2] w fun e w' => e = .returned (.tuple #[.int .i64 r, .int .i64 a', .bool true]) ∧ Below w.heap.size w w' := by
  have hu := Try.underlying27
  have hu5 := Try.underlying125
  have HS := Aside0.mk (start2 w (.cells #[.string s, .int .i64 n] 27) (.cells #[.string s, .int .i64 n, .int .i64 a, .bool false] 125))
  have HRD : Aside0 (ReadIs ((w.alloc (.cells #[.string s, .int .i64 n] 27)).alloc (.cells #[.string s, .int .i64 n, .int .i64 a, .bool false] 125)) (w.heap.size + 1) s n a false) := ⟨HS.out.2.1⟩
  have HB := Aside0.mk HS.out.2.2.1
  clear HS
  have HM := Aside0.mk hm
  clear hm
  go_enter Try.func105, Try.ntmps105
  go_wp2_with (first | (go_at_call 121; ((with_reducible refine (rd_gamma.calls _ w.heap.size (w.heap.size + 1) k s n a false r a' false HRD.out (Nat.le_succ _) HM.out).mono ?_); rintro e w3 ⟨rfl, hr3, hb3⟩); have HRD3 := Aside0.mk hr3; have HB3 := Aside0.mk (HB.out.trans hb3); clear hr3 hb3 HRD HB; have HRD := HRD3; have HB := HB3; clear HRD3 HB3; (try clear c0 c1 c2 c3 f0 f1 f2 f3); obtain ⟨c0, c1, c2, c3, f0, f1, f2, f3⟩ := four_cells HRD.out))
  go_region
  go_wp2
  refine bodyPost_ret (results_list (rs := [.tmp 6, .tmp 7, .tmp 8]) rfl (by simp) (.tmp (.tmp (.tmp .nil)))) rfl ⟨rfl, pw_below_drewN HB.out 1⟩
set_option maxHeartbeats 4000000 in
set_option maxRecDepth 100000 in
theorem read3_bad (w : World) (k : Nat) (s : ByteArray) (n a r a' : Int) (hm : rd_delta k s n a false = some (r, a', true))  :
    Calls Try.prog 105 #[.agg #[.string s, .int .i64 n], .int .i64 a, .int .i64 3] w fun e w' => e = .returned (.tuple #[.int .i64 0, .int .i64 0, .bool false]) ∧ Below w.heap.size w w' := by
  have hu := Try.underlying27
  have hu5 := Try.underlying125
  have HS := Aside0.mk (start2 w (.cells #[.string s, .int .i64 n] 27) (.cells #[.string s, .int .i64 n, .int .i64 a, .bool false] 125))
  have HRD : Aside0 (ReadIs ((w.alloc (.cells #[.string s, .int .i64 n] 27)).alloc (.cells #[.string s, .int .i64 n, .int .i64 a, .bool false] 125)) (w.heap.size + 1) s n a false) := ⟨HS.out.2.1⟩
  have HB := Aside0.mk HS.out.2.2.1
  clear HS
  have HM := Aside0.mk hm
  clear hm
  go_enter Try.func105, Try.ntmps105
  go_wp2_with (first | (go_at_call 122; ((with_reducible refine (rd_delta.calls _ w.heap.size (w.heap.size + 1) k s n a false r a' true HRD.out (Nat.le_succ _) HM.out).mono ?_); rintro e w3 ⟨rfl, hr3, hb3⟩); have HRD3 := Aside0.mk hr3; have HB3 := Aside0.mk (HB.out.trans hb3); clear hr3 hb3 HRD HB; have HRD := HRD3; have HB := HB3; clear HRD3 HB3; (try clear c0 c1 c2 c3 f0 f1 f2 f3); obtain ⟨c0, c1, c2, c3, f0, f1, f2, f3⟩ := four_cells HRD.out))
  refine bodyPost_ret (results_list (rs := [.tmp 6, .tmp 7, .tmp 8]) rfl (by simp) (.tmp (.tmp (.tmp .nil)))) rfl ⟨rfl, HB.out⟩
set_option maxHeartbeats 4000000 in
set_option maxRecDepth 100000 in
theorem read3_big (w : World) (k : Nat) (s : ByteArray) (n a r a' : Int) (hm : rd_delta k s n a false = some (r, a', false)) (hr : 1073741824 < r) :
    Calls Try.prog 105 #[.agg #[.string s, .int .i64 n], .int .i64 a, .int .i64 3] w fun e w' => e = .returned (.tuple #[.int .i64 0, .int .i64 0, .bool false]) ∧ Below w.heap.size w w' := by
  have hu := Try.underlying27
  have hu5 := Try.underlying125
  have HS := Aside0.mk (start2 w (.cells #[.string s, .int .i64 n] 27) (.cells #[.string s, .int .i64 n, .int .i64 a, .bool false] 125))
  have HRD : Aside0 (ReadIs ((w.alloc (.cells #[.string s, .int .i64 n] 27)).alloc (.cells #[.string s, .int .i64 n, .int .i64 a, .bool false] 125)) (w.heap.size + 1) s n a false) := ⟨HS.out.2.1⟩
  have HB := Aside0.mk HS.out.2.2.1
  clear HS
  have HM := Aside0.mk hm
  clear hm
  go_enter Try.func105, Try.ntmps105
  go_wp2_with (first | (go_at_call 122; ((with_reducible refine (rd_delta.calls _ w.heap.size (w.heap.size + 1) k s n a false r a' false HRD.out (Nat.le_succ _) HM.out).mono ?_); rintro e w3 ⟨rfl, hr3, hb3⟩); have HRD3 := Aside0.mk hr3; have HB3 := Aside0.mk (HB.out.trans hb3); clear hr3 hb3 HRD HB; have HRD := HRD3; have HB := HB3; clear HRD3 HB3; (try clear c0 c1 c2 c3 f0 f1 f2 f3); obtain ⟨c0, c1, c2, c3, f0, f1, f2, f3⟩ := four_cells HRD.out))
  refine bodyPost_ret (results_list (rs := [.tmp 6, .tmp 7, .tmp 8]) rfl (by simp) (.tmp (.tmp (.tmp .nil)))) rfl ⟨rfl, HB.out⟩
set_option maxHeartbeats 4000000 in
set_option maxRecDepth 100000 in
theorem read3_ok (w : World) (k : Nat) (s : ByteArray) (n a r a' : Int) (hm : rd_delta k s n a false = some (r, a', false)) (hr : r ≤ 1073741824) :
    Calls Try.prog 105 #[.agg #[.string s, .int .i64 n], .int .i64 a, .int .i64 3] w fun e w' => e = .returned (.tuple #[.int .i64 r, .int .i64 a', .bool true]) ∧ Below w.heap.size w w' := by
  have hu := Try.underlying27
  have hu5 := Try.underlying125
  have HS := Aside0.mk (start2 w (.cells #[.string s, .int .i64 n] 27) (.cells #[.string s, .int .i64 n, .int .i64 a, .bool false] 125))
  have HRD : Aside0 (ReadIs ((w.alloc (.cells #[.string s, .int .i64 n] 27)).alloc (.cells #[.string s, .int .i64 n, .int .i64 a, .bool false] 125)) (w.heap.size + 1) s n a false) := ⟨HS.out.2.1⟩
  have HB := Aside0.mk HS.out.2.2.1
  clear HS
  have HM := Aside0.mk hm
  clear hm
  go_enter Try.func105, Try.ntmps105
  go_wp2_with (first | (go_at_call 122; ((with_reducible refine (rd_delta.calls _ w.heap.size (w.heap.size + 1) k s n a false r a' false HRD.out (Nat.le_succ _) HM.out).mono ?_); rintro e w3 ⟨rfl, hr3, hb3⟩); have HRD3 := Aside0.mk hr3; have HB3 := Aside0.mk (HB.out.trans hb3); clear hr3 hb3 HRD HB; have HRD := HRD3; have HB := HB3; clear HRD3 HB3; (try clear c0 c1 c2 c3 f0 f1 f2 f3); obtain ⟨c0, c1, c2, c3, f0, f1, f2, f3⟩ := four_cells HRD.out))
  go_region
  go_wp2
  refine bodyPost_ret (results_list (rs := [.tmp 6, .tmp 7, .tmp 8]) rfl (by simp) (.tmp (.tmp (.tmp .nil)))) rfl ⟨rfl, pw_below_drewN HB.out 1⟩
set_option maxHeartbeats 4000000 in
set_option maxRecDepth 100000 in
theorem read4_bad (w : World) (k : Nat) (s : ByteArray) (n a r a' : Int) (hm : rd_zeta 2 16 k s n a false = some (r, a', true))  :
    Calls Try.prog 105 #[.agg #[.string s, .int .i64 n], .int .i64 a, .int .i64 4] w fun e w' => e = .returned (.tuple #[.int .i64 0, .int .i64 0, .bool false]) ∧ Below w.heap.size w w' := by
  have hu := Try.underlying27
  have hu5 := Try.underlying125
  have HS := Aside0.mk (start2 w (.cells #[.string s, .int .i64 n] 27) (.cells #[.string s, .int .i64 n, .int .i64 a, .bool false] 125))
  have HRD : Aside0 (ReadIs ((w.alloc (.cells #[.string s, .int .i64 n] 27)).alloc (.cells #[.string s, .int .i64 n, .int .i64 a, .bool false] 125)) (w.heap.size + 1) s n a false) := ⟨HS.out.2.1⟩
  have HB := Aside0.mk HS.out.2.2.1
  clear HS
  have HM := Aside0.mk hm
  clear hm
  go_enter Try.func105, Try.ntmps105
  go_wp2_with (first | (go_at_call 123; ((with_reducible refine (rd_zeta2.calls _ w.heap.size (w.heap.size + 1) k s n a false r a' true HRD.out (Nat.le_succ _) HM.out).mono ?_); rintro e w3 ⟨rfl, hr3, hb3⟩); have HRD3 := Aside0.mk hr3; have HB3 := Aside0.mk (HB.out.trans hb3); clear hr3 hb3 HRD HB; have HRD := HRD3; have HB := HB3; clear HRD3 HB3; (try clear c0 c1 c2 c3 f0 f1 f2 f3); obtain ⟨c0, c1, c2, c3, f0, f1, f2, f3⟩ := four_cells HRD.out) | (go_at_call 118; (with_reducible refine (code_parts.calls 4 2 _ rparts4).mono ?_); rintro e w3 ⟨rfl, hd3⟩; have HRD3 := Aside0.mk (read_below HRD.out hd3.below); have HB3 := Aside0.mk (below_then HB.out HB.out.size hd3.below); clear hd3 HRD HB; have HRD := HRD3; have HB := HB3; clear HRD3 HB3; (try clear c0 c1 c2 c3 f0 f1 f2 f3); obtain ⟨c0, c1, c2, c3, f0, f1, f2, f3⟩ := four_cells HRD.out))
  refine bodyPost_ret (results_list (rs := [.tmp 6, .tmp 7, .tmp 8]) rfl (by simp) (.tmp (.tmp (.tmp .nil)))) rfl ⟨rfl, HB.out⟩
set_option maxHeartbeats 4000000 in
set_option maxRecDepth 100000 in
theorem read4_big (w : World) (k : Nat) (s : ByteArray) (n a r a' : Int) (hm : rd_zeta 2 16 k s n a false = some (r, a', false)) (hr : 1073741824 < r) :
    Calls Try.prog 105 #[.agg #[.string s, .int .i64 n], .int .i64 a, .int .i64 4] w fun e w' => e = .returned (.tuple #[.int .i64 0, .int .i64 0, .bool false]) ∧ Below w.heap.size w w' := by
  have hu := Try.underlying27
  have hu5 := Try.underlying125
  have HS := Aside0.mk (start2 w (.cells #[.string s, .int .i64 n] 27) (.cells #[.string s, .int .i64 n, .int .i64 a, .bool false] 125))
  have HRD : Aside0 (ReadIs ((w.alloc (.cells #[.string s, .int .i64 n] 27)).alloc (.cells #[.string s, .int .i64 n, .int .i64 a, .bool false] 125)) (w.heap.size + 1) s n a false) := ⟨HS.out.2.1⟩
  have HB := Aside0.mk HS.out.2.2.1
  clear HS
  have HM := Aside0.mk hm
  clear hm
  go_enter Try.func105, Try.ntmps105
  go_wp2_with (first | (go_at_call 123; ((with_reducible refine (rd_zeta2.calls _ w.heap.size (w.heap.size + 1) k s n a false r a' false HRD.out (Nat.le_succ _) HM.out).mono ?_); rintro e w3 ⟨rfl, hr3, hb3⟩); have HRD3 := Aside0.mk hr3; have HB3 := Aside0.mk (HB.out.trans hb3); clear hr3 hb3 HRD HB; have HRD := HRD3; have HB := HB3; clear HRD3 HB3; (try clear c0 c1 c2 c3 f0 f1 f2 f3); obtain ⟨c0, c1, c2, c3, f0, f1, f2, f3⟩ := four_cells HRD.out) | (go_at_call 118; (with_reducible refine (code_parts.calls 4 2 _ rparts4).mono ?_); rintro e w3 ⟨rfl, hd3⟩; have HRD3 := Aside0.mk (read_below HRD.out hd3.below); have HB3 := Aside0.mk (below_then HB.out HB.out.size hd3.below); clear hd3 HRD HB; have HRD := HRD3; have HB := HB3; clear HRD3 HB3; (try clear c0 c1 c2 c3 f0 f1 f2 f3); obtain ⟨c0, c1, c2, c3, f0, f1, f2, f3⟩ := four_cells HRD.out))
  refine bodyPost_ret (results_list (rs := [.tmp 6, .tmp 7, .tmp 8]) rfl (by simp) (.tmp (.tmp (.tmp .nil)))) rfl ⟨rfl, HB.out⟩
set_option maxHeartbeats 4000000 in
set_option maxRecDepth 100000 in
theorem read4_ok (w : World) (k : Nat) (s : ByteArray) (n a r a' : Int) (hm : rd_zeta 2 16 k s n a false = some (r, a', false)) (hr : r ≤ 1073741824) :
    Calls Try.prog 105 #[.agg #[.string s, .int .i64 n], .int .i64 a, .int .i64 4] w fun e w' => e = .returned (.tuple #[.int .i64 r, .int .i64 a', .bool true]) ∧ Below w.heap.size w w' := by
  have hu := Try.underlying27
  have hu5 := Try.underlying125
  have HS := Aside0.mk (start2 w (.cells #[.string s, .int .i64 n] 27) (.cells #[.string s, .int .i64 n, .int .i64 a, .bool false] 125))
  have HRD : Aside0 (ReadIs ((w.alloc (.cells #[.string s, .int .i64 n] 27)).alloc (.cells #[.string s, .int .i64 n, .int .i64 a, .bool false] 125)) (w.heap.size + 1) s n a false) := ⟨HS.out.2.1⟩
  have HB := Aside0.mk HS.out.2.2.1
  clear HS
  have HM := Aside0.mk hm
  clear hm
  go_enter Try.func105, Try.ntmps105
  go_wp2_with (first | (go_at_call 123; ((with_reducible refine (rd_zeta2.calls _ w.heap.size (w.heap.size + 1) k s n a false r a' false HRD.out (Nat.le_succ _) HM.out).mono ?_); rintro e w3 ⟨rfl, hr3, hb3⟩); have HRD3 := Aside0.mk hr3; have HB3 := Aside0.mk (HB.out.trans hb3); clear hr3 hb3 HRD HB; have HRD := HRD3; have HB := HB3; clear HRD3 HB3; (try clear c0 c1 c2 c3 f0 f1 f2 f3); obtain ⟨c0, c1, c2, c3, f0, f1, f2, f3⟩ := four_cells HRD.out) | (go_at_call 118; (with_reducible refine (code_parts.calls 4 2 _ rparts4).mono ?_); rintro e w3 ⟨rfl, hd3⟩; have HRD3 := Aside0.mk (read_below HRD.out hd3.below); have HB3 := Aside0.mk (below_then HB.out HB.out.size hd3.below); clear hd3 HRD HB; have HRD := HRD3; have HB := HB3; clear HRD3 HB3; (try clear c0 c1 c2 c3 f0 f1 f2 f3); obtain ⟨c0, c1, c2, c3, f0, f1, f2, f3⟩ := four_cells HRD.out))
  go_region
  go_wp2
  refine bodyPost_ret (results_list (rs := [.tmp 6, .tmp 7, .tmp 8]) rfl (by simp) (.tmp (.tmp (.tmp .nil)))) rfl ⟨rfl, pw_below_drewN HB.out 1⟩
set_option maxHeartbeats 4000000 in
set_option maxRecDepth 100000 in
theorem read5_bad (w : World) (k : Nat) (s : ByteArray) (n a r a' : Int) (hm : rd_zeta 3 11 k s n a false = some (r, a', true))  :
    Calls Try.prog 105 #[.agg #[.string s, .int .i64 n], .int .i64 a, .int .i64 5] w fun e w' => e = .returned (.tuple #[.int .i64 0, .int .i64 0, .bool false]) ∧ Below w.heap.size w w' := by
  have hu := Try.underlying27
  have hu5 := Try.underlying125
  have HS := Aside0.mk (start2 w (.cells #[.string s, .int .i64 n] 27) (.cells #[.string s, .int .i64 n, .int .i64 a, .bool false] 125))
  have HRD : Aside0 (ReadIs ((w.alloc (.cells #[.string s, .int .i64 n] 27)).alloc (.cells #[.string s, .int .i64 n, .int .i64 a, .bool false] 125)) (w.heap.size + 1) s n a false) := ⟨HS.out.2.1⟩
  have HB := Aside0.mk HS.out.2.2.1
  clear HS
  have HM := Aside0.mk hm
  clear hm
  go_enter Try.func105, Try.ntmps105
  go_wp2_with (first | (go_at_call 123; ((with_reducible refine (rd_zeta3.calls _ w.heap.size (w.heap.size + 1) k s n a false r a' true HRD.out (Nat.le_succ _) HM.out).mono ?_); rintro e w3 ⟨rfl, hr3, hb3⟩); have HRD3 := Aside0.mk hr3; have HB3 := Aside0.mk (HB.out.trans hb3); clear hr3 hb3 HRD HB; have HRD := HRD3; have HB := HB3; clear HRD3 HB3; (try clear c0 c1 c2 c3 f0 f1 f2 f3); obtain ⟨c0, c1, c2, c3, f0, f1, f2, f3⟩ := four_cells HRD.out) | (go_at_call 118; (with_reducible refine (code_parts.calls 5 3 _ rparts5).mono ?_); rintro e w3 ⟨rfl, hd3⟩; have HRD3 := Aside0.mk (read_below HRD.out hd3.below); have HB3 := Aside0.mk (below_then HB.out HB.out.size hd3.below); clear hd3 HRD HB; have HRD := HRD3; have HB := HB3; clear HRD3 HB3; (try clear c0 c1 c2 c3 f0 f1 f2 f3); obtain ⟨c0, c1, c2, c3, f0, f1, f2, f3⟩ := four_cells HRD.out))
  refine bodyPost_ret (results_list (rs := [.tmp 6, .tmp 7, .tmp 8]) rfl (by simp) (.tmp (.tmp (.tmp .nil)))) rfl ⟨rfl, HB.out⟩
set_option maxHeartbeats 4000000 in
set_option maxRecDepth 100000 in
theorem read5_big (w : World) (k : Nat) (s : ByteArray) (n a r a' : Int) (hm : rd_zeta 3 11 k s n a false = some (r, a', false)) (hr : 1073741824 < r) :
    Calls Try.prog 105 #[.agg #[.string s, .int .i64 n], .int .i64 a, .int .i64 5] w fun e w' => e = .returned (.tuple #[.int .i64 0, .int .i64 0, .bool false]) ∧ Below w.heap.size w w' := by
  have hu := Try.underlying27
  have hu5 := Try.underlying125
  have HS := Aside0.mk (start2 w (.cells #[.string s, .int .i64 n] 27) (.cells #[.string s, .int .i64 n, .int .i64 a, .bool false] 125))
  have HRD : Aside0 (ReadIs ((w.alloc (.cells #[.string s, .int .i64 n] 27)).alloc (.cells #[.string s, .int .i64 n, .int .i64 a, .bool false] 125)) (w.heap.size + 1) s n a false) := ⟨HS.out.2.1⟩
  have HB := Aside0.mk HS.out.2.2.1
  clear HS
  have HM := Aside0.mk hm
  clear hm
  go_enter Try.func105, Try.ntmps105
  go_wp2_with (first | (go_at_call 123; ((with_reducible refine (rd_zeta3.calls _ w.heap.size (w.heap.size + 1) k s n a false r a' false HRD.out (Nat.le_succ _) HM.out).mono ?_); rintro e w3 ⟨rfl, hr3, hb3⟩); have HRD3 := Aside0.mk hr3; have HB3 := Aside0.mk (HB.out.trans hb3); clear hr3 hb3 HRD HB; have HRD := HRD3; have HB := HB3; clear HRD3 HB3; (try clear c0 c1 c2 c3 f0 f1 f2 f3); obtain ⟨c0, c1, c2, c3, f0, f1, f2, f3⟩ := four_cells HRD.out) | (go_at_call 118; (with_reducible refine (code_parts.calls 5 3 _ rparts5).mono ?_); rintro e w3 ⟨rfl, hd3⟩; have HRD3 := Aside0.mk (read_below HRD.out hd3.below); have HB3 := Aside0.mk (below_then HB.out HB.out.size hd3.below); clear hd3 HRD HB; have HRD := HRD3; have HB := HB3; clear HRD3 HB3; (try clear c0 c1 c2 c3 f0 f1 f2 f3); obtain ⟨c0, c1, c2, c3, f0, f1, f2, f3⟩ := four_cells HRD.out))
  refine bodyPost_ret (results_list (rs := [.tmp 6, .tmp 7, .tmp 8]) rfl (by simp) (.tmp (.tmp (.tmp .nil)))) rfl ⟨rfl, HB.out⟩
set_option maxHeartbeats 4000000 in
set_option maxRecDepth 100000 in
theorem read5_ok (w : World) (k : Nat) (s : ByteArray) (n a r a' : Int) (hm : rd_zeta 3 11 k s n a false = some (r, a', false)) (hr : r ≤ 1073741824) :
    Calls Try.prog 105 #[.agg #[.string s, .int .i64 n], .int .i64 a, .int .i64 5] w fun e w' => e = .returned (.tuple #[.int .i64 r, .int .i64 a', .bool true]) ∧ Below w.heap.size w w' := by
  have hu := Try.underlying27
  have hu5 := Try.underlying125
  have HS := Aside0.mk (start2 w (.cells #[.string s, .int .i64 n] 27) (.cells #[.string s, .int .i64 n, .int .i64 a, .bool false] 125))
  have HRD : Aside0 (ReadIs ((w.alloc (.cells #[.string s, .int .i64 n] 27)).alloc (.cells #[.string s, .int .i64 n, .int .i64 a, .bool false] 125)) (w.heap.size + 1) s n a false) := ⟨HS.out.2.1⟩
  have HB := Aside0.mk HS.out.2.2.1
  clear HS
  have HM := Aside0.mk hm
  clear hm
  go_enter Try.func105, Try.ntmps105
  go_wp2_with (first | (go_at_call 123; ((with_reducible refine (rd_zeta3.calls _ w.heap.size (w.heap.size + 1) k s n a false r a' false HRD.out (Nat.le_succ _) HM.out).mono ?_); rintro e w3 ⟨rfl, hr3, hb3⟩); have HRD3 := Aside0.mk hr3; have HB3 := Aside0.mk (HB.out.trans hb3); clear hr3 hb3 HRD HB; have HRD := HRD3; have HB := HB3; clear HRD3 HB3; (try clear c0 c1 c2 c3 f0 f1 f2 f3); obtain ⟨c0, c1, c2, c3, f0, f1, f2, f3⟩ := four_cells HRD.out) | (go_at_call 118; (with_reducible refine (code_parts.calls 5 3 _ rparts5).mono ?_); rintro e w3 ⟨rfl, hd3⟩; have HRD3 := Aside0.mk (read_below HRD.out hd3.below); have HB3 := Aside0.mk (below_then HB.out HB.out.size hd3.below); clear hd3 HRD HB; have HRD := HRD3; have HB := HB3; clear HRD3 HB3; (try clear c0 c1 c2 c3 f0 f1 f2 f3); obtain ⟨c0, c1, c2, c3, f0, f1, f2, f3⟩ := four_cells HRD.out))
  go_region
  go_wp2
  refine bodyPost_ret (results_list (rs := [.tmp 6, .tmp 7, .tmp 8]) rfl (by simp) (.tmp (.tmp (.tmp .nil)))) rfl ⟨rfl, pw_below_drewN HB.out 1⟩
end Go.Proofs.Ytnpghcikhpglkaa.Q
namespace Go.Proofs.Ytnpghcikhpglkaa.Q
open Go.RowKit Go.Proofs.YtnpghcikhpglkaaW.PrintWords Go.Proofs.YtnpghcikhpglkaaW.PrintLast Go.Proofs.YtnpghcikhpglkaaW.PrintMore Go.Proofs.Ytnpghcikhpglkaa.Hand Go.Proofs.Ytnpghcikhpglkaa.Pu
set_option linter.unusedVariables false

/-- So many rounds are enough for bits that may be. -/
def rounds : Nat := 20000
/-- code.Read. -/
def code_Read.f (s : ByteArray) (n a kind : Int) : Option (Int × Int × Bool) :=
  (readK rounds s n a kind).bind fun r => if r.2.2 = true then some (0, 0, false) else if 1073741824 < r.1 then some (0, 0, false) else some (r.1, r.2.1, true)
theorem code_Read.calls (s : ByteArray) (n a kind r1 r2 : Int) (r3 : Bool) (w : World) (h : code_Read.f s n a kind = some (r1, r2, r3)) :
    Calls Try.prog 105 #[.agg #[.string s, .int .i64 n], .int .i64 a, .int .i64 kind] w fun e w' => e = .returned (.tuple #[.int .i64 r1, .int .i64 r2, .bool r3]) ∧ Below w.heap.size w w' := by
  unfold code_Read.f at h
  generalize rounds = k at h
  obtain ⟨⟨r, a', b⟩, h1, h2⟩ := Option.bind_eq_some_iff.1 h
  simp only at h2
  unfold readK at h1
  by_cases k1 : kind = 1
  · subst k1
    rw [if_pos rfl] at h1
    cases b with
    | true =>
      rw [if_pos rfl] at h2
      simp only [Option.some.injEq, Prod.mk.injEq] at h2
      obtain ⟨rfl, rfl, rfl⟩ := h2
      exact read1_bad w k s n a r a' h1
    | false =>
      rw [if_neg (by simp)] at h2
      split at h2
      · rename_i hr
        simp only [Option.some.injEq, Prod.mk.injEq] at h2
        obtain ⟨rfl, rfl, rfl⟩ := h2
        exact read1_big w k s n a r a' h1 hr
      · rename_i hr
        simp only [Option.some.injEq, Prod.mk.injEq] at h2
        obtain ⟨rfl, rfl, rfl⟩ := h2
        exact read1_ok w k s n a r a' h1 (by omega)
  by_cases k2 : kind = 2
  · subst k2
    rw [if_neg (by decide), if_pos rfl] at h1
    cases b with
    | true =>
      rw [if_pos rfl] at h2
      simp only [Option.some.injEq, Prod.mk.injEq] at h2
      obtain ⟨rfl, rfl, rfl⟩ := h2
      exact read2_bad w k s n a r a' h1
    | false =>
      rw [if_neg (by simp)] at h2
      split at h2
      · rename_i hr
        simp only [Option.some.injEq, Prod.mk.injEq] at h2
        obtain ⟨rfl, rfl, rfl⟩ := h2
        exact read2_big w k s n a r a' h1 hr
      · rename_i hr
        simp only [Option.some.injEq, Prod.mk.injEq] at h2
        obtain ⟨rfl, rfl, rfl⟩ := h2
        exact read2_ok w k s n a r a' h1 (by omega)
  by_cases k3 : kind = 3
  · subst k3
    rw [if_neg (by decide), if_neg (by decide), if_pos rfl] at h1
    cases b with
    | true =>
      rw [if_pos rfl] at h2
      simp only [Option.some.injEq, Prod.mk.injEq] at h2
      obtain ⟨rfl, rfl, rfl⟩ := h2
      exact read3_bad w k s n a r a' h1
    | false =>
      rw [if_neg (by simp)] at h2
      split at h2
      · rename_i hr
        simp only [Option.some.injEq, Prod.mk.injEq] at h2
        obtain ⟨rfl, rfl, rfl⟩ := h2
        exact read3_big w k s n a r a' h1 hr
      · rename_i hr
        simp only [Option.some.injEq, Prod.mk.injEq] at h2
        obtain ⟨rfl, rfl, rfl⟩ := h2
        exact read3_ok w k s n a r a' h1 (by omega)
  by_cases k4 : kind = 4
  · subst k4
    rw [if_neg (by decide), if_neg (by decide), if_neg (by decide), if_pos rfl] at h1
    cases b with
    | true =>
      rw [if_pos rfl] at h2
      simp only [Option.some.injEq, Prod.mk.injEq] at h2
      obtain ⟨rfl, rfl, rfl⟩ := h2
      exact read4_bad w k s n a r a' h1
    | false =>
      rw [if_neg (by simp)] at h2
      split at h2
      · rename_i hr
        simp only [Option.some.injEq, Prod.mk.injEq] at h2
        obtain ⟨rfl, rfl, rfl⟩ := h2
        exact read4_big w k s n a r a' h1 hr
      · rename_i hr
        simp only [Option.some.injEq, Prod.mk.injEq] at h2
        obtain ⟨rfl, rfl, rfl⟩ := h2
        exact read4_ok w k s n a r a' h1 (by omega)
  by_cases k5 : kind = 5
  · subst k5
    rw [if_neg (by decide), if_neg (by decide), if_neg (by decide), if_neg (by decide), if_pos rfl] at h1
    cases b with
    | true =>
      rw [if_pos rfl] at h2
      simp only [Option.some.injEq, Prod.mk.injEq] at h2
      obtain ⟨rfl, rfl, rfl⟩ := h2
      exact read5_bad w k s n a r a' h1
    | false =>
      rw [if_neg (by simp)] at h2
      split at h2
      · rename_i hr
        simp only [Option.some.injEq, Prod.mk.injEq] at h2
        obtain ⟨rfl, rfl, rfl⟩ := h2
        exact read5_big w k s n a r a' h1 hr
      · rename_i hr
        simp only [Option.some.injEq, Prod.mk.injEq] at h2
        obtain ⟨rfl, rfl, rfl⟩ := h2
        exact read5_ok w k s n a r a' h1 (by omega)
  rw [if_neg k1, if_neg k2, if_neg k3, if_neg k4, if_neg k5] at h1
  cases h1
end Go.Proofs.Ytnpghcikhpglkaa.Q
namespace Go.Proofs.Ytnpghcikhpglkaa.Q
open Go.RowKit Go.Proofs.YtnpghcikhpglkaaW.PrintWords Go.Proofs.YtnpghcikhpglkaaW.PrintLast Go.Proofs.YtnpghcikhpglkaaW.PrintMore
attribute [local go_sem] max2_int min2_int max_two min_two max_three min_three max_four min_four   -- for this text's walks alone
set_option linter.unusedVariables false
set_option linter.unusedSimpArgs false

/-! ### code_Take: function 61 -/
def code_Take.j0 : Nat → Int → Int → Bool → ByteArray → Int → Option (Int × Int × Int)
  | 0, _, _, _, _, _ => none
  | k + 1, x1, x2, x27, x780000, x780001 => if x27 = true then (some (0, 0, 1)) else ((code_Read.f x780000 x780001 x1 x2).bind fun bt782 => (if bt782.2.2 = true then (some (bt782.1, bt782.2.1, 0)) else (some (0, 0, 9))))
def code_Take.f (k : Nat) (a0_0 : ByteArray) (a0_1 : Int) (a1 : Int) (a2 : Int) : Option (Int × Int × Int) := (bits_May.f a0_0 a0_1).bind fun t780 => (if t780 = true then ((code_Is.f a2).bind fun t781 => (if t781 = true then (if a1 < 0 then (code_Take.j0 k a1 a2 true a0_0 a0_1) else (code_Take.j0 k a1 a2 (decide (a1 > a0_1)) a0_0 a0_1)) else (code_Take.j0 k a1 a2 true a0_0 a0_1))) else (code_Take.j0 k a1 a2 true a0_0 a0_1))
theorem code_Take.mono_l : ∀ k, (∀ y0 y1 y2 y3 y4, LeO (code_Take.j0 k y0 y1 y2 y3 y4) (code_Take.j0 (k + 1) y0 y1 y2 y3 y4))
  | 0 => fun _ _ _ _ _ r h => by simp [code_Take.j0] at h
  | k + 1 => by
    have ih0 := code_Take.mono_l k
    · intro y0 y1 y2 y3 y4
      unfold code_Take.j0
      repeat' first
      | (with_reducible exact ih0 _ _ _ _ _)
      | (with_reducible exact LeO.refl _)
      | (with_reducible exact LeO.none _)
      | (with_reducible refine LeO.ite ?_ ?_)
      | (with_reducible refine LeO.bind ?_ (fun _ => ?_))
      | exact ih0 _ _ _ _ _
      | exact LeO.none _
      | refine LeO.ite ?_ ?_
      | refine LeO.bind ?_ (fun _ => ?_)
theorem code_Take.mono : ∀ a0 a1 a2 a3 k, LeO (code_Take.f k a0 a1 a2 a3) (code_Take.f (k + 1) a0 a1 a2 a3) := by
  intro a0 a1 a2 a3 k
  have ih0 := code_Take.mono_l k
  unfold code_Take.f
  repeat' first
      | (with_reducible exact ih0 _ _ _ _ _)
      | (with_reducible exact LeO.refl _)
      | (with_reducible exact LeO.none _)
      | (with_reducible refine LeO.ite ?_ ?_)
      | (with_reducible refine LeO.bind ?_ (fun _ => ?_))
      | exact ih0 _ _ _ _ _
      | exact LeO.none _
      | refine LeO.ite ?_ ?_
      | refine LeO.bind ?_ (fun _ => ?_)
set_option maxHeartbeats 8000000 in
set_option maxRecDepth 100000 in
theorem code_Take.calls (k : Nat) (a0_0 : ByteArray) (a0_1 : Int) (a1 : Int) (a2 : Int) (r1 : Int) (r2 : Int) (r3 : Int) (w : World) (h : code_Take.f k a0_0 a0_1 a1 a2 = some (r1, r2, r3)) :
    Calls Try.prog 61 #[.agg #[.string a0_0, .int .i64 a0_1], .int .i64 a1, .int .i64 a2] w fun e w' => e = .returned (.tuple #[.int .i64 r1, .int .i64 r2, .int .i64 r3]) ∧ Below w.heap.size w w' := by
  have hu27 := Try.underlying27
  have HB := Aside0.mk (Below.refl w.heap.size w)
  have H : ((bits_May.f a0_0 a0_1).bind fun t780 => (if t780 = true then ((code_Is.f a2).bind fun t781 => (if t781 = true then (if a1 < 0 then (code_Take.j0 k a1 a2 true a0_0 a0_1) else (code_Take.j0 k a1 a2 (decide (a1 > a0_1)) a0_0 a0_1)) else (code_Take.j0 k a1 a2 true a0_0 a0_1))) else (code_Take.j0 k a1 a2 true a0_0 a0_1))) = some (r1, r2, r3) := h
  clear h
  have HC4 := Aside0.mk H
  clear H
  go_enter Try.func61, Try.ntmps61
  go_upto_region 1 with (first | ((with_reducible refine gate_dst (N := 3) rfl ?_); refine box_event ?hg (N := 3) ?hd (cs := #[.string a0_0, .int .i64 a0_1]) (t := 27) ?hr ?_; (case hd => rfl); (case hg => rfl); (case hr => first | (go_simp; done) | (go_simp; rfl)); intro gb779 hg w5 hbox hb; have n0_ := Aside0.mk (below_step (by repeat (first | (with_reducible first | exact HB.out | apply below_alloc | apply pw_below_drewN | apply below_drew1) | exact HB.out)) hb); have n1_ := Aside0.mk (hbox); have n2_ := Aside0.mk ((by rw [hg]; exact (below_size (by repeat (first | (with_reducible first | exact HB.out | apply below_alloc | apply pw_below_drewN | apply below_drew1) | exact HB.out))) : w.heap.size ≤ gb779)); have n3_ := Aside0.mk ((by rw [hg]; exact (below_size (by repeat (first | (with_reducible first | exact HB.out | apply below_alloc | apply pw_below_drewN | apply below_drew1) | exact HB.out))) : w.heap.size ≤ gb779)); clear HB; have HB := n0_; have BK779 := n1_; have GW779 := n2_; have GE779 := n3_; clear n0_ n1_ n2_ n3_; clear hb hbox hg))
  (try simp only [Act.put, List.setIfInBounds_toArray, List.set_cons_zero, List.set_cons_succ])
  go_cut [27] (fun v27 wc => ∃ (kq : Nat) (x27_3 : Bool), v27 = .bool x27_3 ∧ Aside0 (code_Take.j0 kq a1 a2 x27_3 a0_0 a0_1 = some (r1, r2, r3)) ∧ Aside0 (kq ≤ k) ∧ Aside0 (wc.heap[gb779]? = some (.cells #[.string a0_0, .int .i64 a0_1] 27 (0, 0))) ∧ Aside0 (Below w.heap.size w wc))
  case first =>
    have H := HC4.out
    clear HC4
    replace H := Option.bind_eq_some_iff.mp H
    obtain ⟨t780, A60, H⟩ := H
    replace H : (if t780 = true then ((code_Is.f a2).bind fun t781 => (if t781 = true then (if a1 < 0 then (code_Take.j0 k a1 a2 true a0_0 a0_1) else (code_Take.j0 k a1 a2 (decide (a1 > a0_1)) a0_0 a0_1)) else (code_Take.j0 k a1 a2 true a0_0 a0_1))) else (code_Take.j0 k a1 a2 true a0_0 a0_1)) = some (r1, r2, r3) := H
    have A6 := Aside0.mk A60
    clear A60
    by_cases c7 : t780 = true
    · subst c7
      have H1 : ((code_Is.f a2).bind fun t781 => (if t781 = true then (if a1 < 0 then (code_Take.j0 k a1 a2 true a0_0 a0_1) else (code_Take.j0 k a1 a2 (decide (a1 > a0_1)) a0_0 a0_1)) else (code_Take.j0 k a1 a2 true a0_0 a0_1))) = some (r1, r2, r3) := by rw [if_pos rfl] at H; exact H
      clear H
      have H := H1
      clear H1
      replace H := Option.bind_eq_some_iff.mp H
      obtain ⟨t781, A80, H⟩ := H
      replace H : (if t781 = true then (if a1 < 0 then (code_Take.j0 k a1 a2 true a0_0 a0_1) else (code_Take.j0 k a1 a2 (decide (a1 > a0_1)) a0_0 a0_1)) else (code_Take.j0 k a1 a2 true a0_0 a0_1)) = some (r1, r2, r3) := H
      have A8 := Aside0.mk A80
      clear A80
      by_cases c9 : t781 = true
      · subst c9
        have H1 : (if a1 < 0 then (code_Take.j0 k a1 a2 true a0_0 a0_1) else (code_Take.j0 k a1 a2 (decide (a1 > a0_1)) a0_0 a0_1)) = some (r1, r2, r3) := by rw [if_pos rfl] at H; exact H
        clear H
        have H := H1
        clear H1
        by_cases c10 : a1 < 0
        · rw [if_pos c10] at H
          have c10b0 : decide (a1 < 0) = true := decide_eq_true c10
          clear c10
          (first | rw [c10b0] | (simp only [i64_w, i32_w]; rw [c10b0]) | skip)
          have H' := Aside0.mk H
          clear H
          have hcz11_0 : w5.cell? ⟨gb779, 0, none⟩ = some (.string a0_0) := (blk_cell BK779.out 0).trans rfl
          have hcz11_1 : w5.cell? ⟨gb779, 1, none⟩ = some (.int .i64 a0_1) := (blk_cell BK779.out 1).trans rfl
          have hfz11_0 := blk_frozen BK779.out 0
          have hfz11_1 := blk_frozen BK779.out 1
          go_wp2_with (first | ((with_reducible refine gate_callee (f := 86) rfl ?_); refine goesL_ (some 11) rfl rfl Try.func86 (by kernel_rfl) rfl #[.agg #[.string a0_0, .int .i64 a0_1]] rfl (by (try simp only [List.map_toArray, List.map_cons, List.map_nil]); first | done | rfl | (simp only [List.length_drop, List.length_take]; rfl)) ?_; (with_reducible refine (bits_May.calls a0_0 a0_1 true _ A6.out).mono ?_); rintro e w12 ⟨rfl, hb⟩; refine ⟨_, rfl, ?_⟩; have n0_ := Aside0.mk (blk_below (g := gb779) (o := .cells #[.string a0_0, .int .i64 a0_1] 27 (0, 0)) (by (with_reducible repeat (first | refine blk_drewN ?_ _ | refine blk_drew ?_ | refine blk_alloc ?_ _)); exact BK779.out) hb); have n1_ := Aside0.mk (below_step (by repeat (first | (with_reducible first | exact HB.out | apply below_alloc | apply pw_below_drewN | apply below_drew1 | refine below_set ?_ GE779.out) | exact HB.out)) hb); clear BK779; clear HB; have BK779 := n0_; have HB := n1_; clear n0_ n1_; (try clear hb); (try clear hb2); (try clear hk); (try clear hi)) | (go_at_call 102; (with_reducible refine (code_Is.calls a2 true _ A8.out).mono ?_); rintro e w' ⟨rfl, ⟨nd, rfl⟩⟩))
          go_meet
          case rel => exact ⟨_, (true), (by first | rfl | (simp; done) | (simp [*]; done)), H', ⟨by first | omega | exact Nat.le_refl _⟩, ⟨by (with_reducible repeat (first | refine blk_drewN ?_ _ | refine blk_drew ?_ | refine blk_alloc ?_ _)); exact BK779.out⟩, ⟨by repeat (first | (with_reducible first | exact HB.out | apply below_alloc | apply pw_below_drewN | apply below_drew1 | refine below_set ?_ GE779.out) | exact HB.out)⟩⟩
        · rw [if_neg c10] at H
          have c10b0 : decide (a1 < 0) = false := decide_eq_false c10
          clear c10
          (first | rw [c10b0] | (simp only [i64_w, i32_w]; rw [c10b0]) | skip)
          have H' := Aside0.mk H
          clear H
          have hcz13_0 : w5.cell? ⟨gb779, 0, none⟩ = some (.string a0_0) := (blk_cell BK779.out 0).trans rfl
          have hcz13_1 : w5.cell? ⟨gb779, 1, none⟩ = some (.int .i64 a0_1) := (blk_cell BK779.out 1).trans rfl
          have hfz13_0 := blk_frozen BK779.out 0
          have hfz13_1 := blk_frozen BK779.out 1
          go_wp2_with (first | ((with_reducible refine gate_callee (f := 86) rfl ?_); refine goesL_ (some 11) rfl rfl Try.func86 (by kernel_rfl) rfl #[.agg #[.string a0_0, .int .i64 a0_1]] rfl (by (try simp only [List.map_toArray, List.map_cons, List.map_nil]); first | done | rfl | (simp only [List.length_drop, List.length_take]; rfl)) ?_; (with_reducible refine (bits_May.calls a0_0 a0_1 true _ A6.out).mono ?_); rintro e w14 ⟨rfl, hb⟩; refine ⟨_, rfl, ?_⟩; have n0_ := Aside0.mk (blk_below (g := gb779) (o := .cells #[.string a0_0, .int .i64 a0_1] 27 (0, 0)) (by (with_reducible repeat (first | refine blk_drewN ?_ _ | refine blk_drew ?_ | refine blk_alloc ?_ _)); exact BK779.out) hb); have n1_ := Aside0.mk (below_step (by repeat (first | (with_reducible first | exact HB.out | apply below_alloc | apply pw_below_drewN | apply below_drew1 | refine below_set ?_ GE779.out) | exact HB.out)) hb); clear BK779; clear HB; have BK779 := n0_; have HB := n1_; clear n0_ n1_; (try clear hb); (try clear hb2); (try clear hk); (try clear hi)) | (go_at_call 102; (with_reducible refine (code_Is.calls a2 true _ A8.out).mono ?_); rintro e w' ⟨rfl, ⟨nd, rfl⟩⟩; have hcz15_0 : w14.cell? ⟨gb779, 0, none⟩ = some (.string a0_0) := (blk_cell BK779.out 0).trans rfl; have hcz15_1 : w14.cell? ⟨gb779, 1, none⟩ = some (.int .i64 a0_1) := (blk_cell BK779.out 1).trans rfl; have hfz15_0 := blk_frozen BK779.out 0; have hfz15_1 := blk_frozen BK779.out 1))
          go_meet
          case rel => exact ⟨_, (decide (a1 > a0_1)), (by first | rfl | (simp; done) | (simp [*]; done)), H', ⟨by first | omega | exact Nat.le_refl _⟩, ⟨by (with_reducible repeat (first | refine blk_drewN ?_ _ | refine blk_drew ?_ | refine blk_alloc ?_ _)); exact BK779.out⟩, ⟨by repeat (first | (with_reducible first | exact HB.out | apply below_alloc | apply pw_below_drewN | apply below_drew1 | refine below_set ?_ GE779.out) | exact HB.out)⟩⟩
      · replace c9 := Bool.eq_false_iff.mpr c9
        subst c9
        have H1 : (code_Take.j0 k a1 a2 true a0_0 a0_1) = some (r1, r2, r3) := by rw [if_neg (show ¬ (false = true) by decide)] at H; exact H
        clear H
        have H := H1
        clear H1
        have H' := Aside0.mk H
        clear H
        have hcz16_0 : w5.cell? ⟨gb779, 0, none⟩ = some (.string a0_0) := (blk_cell BK779.out 0).trans rfl
        have hcz16_1 : w5.cell? ⟨gb779, 1, none⟩ = some (.int .i64 a0_1) := (blk_cell BK779.out 1).trans rfl
        have hfz16_0 := blk_frozen BK779.out 0
        have hfz16_1 := blk_frozen BK779.out 1
        go_wp2_with (first | ((with_reducible refine gate_callee (f := 86) rfl ?_); refine goesL_ (some 11) rfl rfl Try.func86 (by kernel_rfl) rfl #[.agg #[.string a0_0, .int .i64 a0_1]] rfl (by (try simp only [List.map_toArray, List.map_cons, List.map_nil]); first | done | rfl | (simp only [List.length_drop, List.length_take]; rfl)) ?_; (with_reducible refine (bits_May.calls a0_0 a0_1 true _ A6.out).mono ?_); rintro e w17 ⟨rfl, hb⟩; refine ⟨_, rfl, ?_⟩; have n0_ := Aside0.mk (blk_below (g := gb779) (o := .cells #[.string a0_0, .int .i64 a0_1] 27 (0, 0)) (by (with_reducible repeat (first | refine blk_drewN ?_ _ | refine blk_drew ?_ | refine blk_alloc ?_ _)); exact BK779.out) hb); have n1_ := Aside0.mk (below_step (by repeat (first | (with_reducible first | exact HB.out | apply below_alloc | apply pw_below_drewN | apply below_drew1 | refine below_set ?_ GE779.out) | exact HB.out)) hb); clear BK779; clear HB; have BK779 := n0_; have HB := n1_; clear n0_ n1_; (try clear hb); (try clear hb2); (try clear hk); (try clear hi)) | (go_at_call 102; (with_reducible refine (code_Is.calls a2 false _ A8.out).mono ?_); rintro e w' ⟨rfl, ⟨nd, rfl⟩⟩))
        go_meet
        case rel => exact ⟨_, (true), (by first | rfl | (simp; done) | (simp [*]; done)), H', ⟨by first | omega | exact Nat.le_refl _⟩, ⟨by (with_reducible repeat (first | refine blk_drewN ?_ _ | refine blk_drew ?_ | refine blk_alloc ?_ _)); exact BK779.out⟩, ⟨by repeat (first | (with_reducible first | exact HB.out | apply below_alloc | apply pw_below_drewN | apply below_drew1 | refine below_set ?_ GE779.out) | exact HB.out)⟩⟩
    · replace c7 := Bool.eq_false_iff.mpr c7
      subst c7
      have H1 : (code_Take.j0 k a1 a2 true a0_0 a0_1) = some (r1, r2, r3) := by rw [if_neg (show ¬ (false = true) by decide)] at H; exact H
      clear H
      have H := H1
      clear H1
      have H' := Aside0.mk H
      clear H
      have hcz18_0 : w5.cell? ⟨gb779, 0, none⟩ = some (.string a0_0) := (blk_cell BK779.out 0).trans rfl
      have hcz18_1 : w5.cell? ⟨gb779, 1, none⟩ = some (.int .i64 a0_1) := (blk_cell BK779.out 1).trans rfl
      have hfz18_0 := blk_frozen BK779.out 0
      have hfz18_1 := blk_frozen BK779.out 1
      go_wp2_with (first | ((with_reducible refine gate_callee (f := 86) rfl ?_); refine goesL_ (some 11) rfl rfl Try.func86 (by kernel_rfl) rfl #[.agg #[.string a0_0, .int .i64 a0_1]] rfl (by (try simp only [List.map_toArray, List.map_cons, List.map_nil]); first | done | rfl | (simp only [List.length_drop, List.length_take]; rfl)) ?_; (with_reducible refine (bits_May.calls a0_0 a0_1 false _ A6.out).mono ?_); rintro e w19 ⟨rfl, hb⟩; refine ⟨_, rfl, ?_⟩; have n0_ := Aside0.mk (blk_below (g := gb779) (o := .cells #[.string a0_0, .int .i64 a0_1] 27 (0, 0)) (by (with_reducible repeat (first | refine blk_drewN ?_ _ | refine blk_drew ?_ | refine blk_alloc ?_ _)); exact BK779.out) hb); have n1_ := Aside0.mk (below_step (by repeat (first | (with_reducible first | exact HB.out | apply below_alloc | apply pw_below_drewN | apply below_drew1 | refine below_set ?_ GE779.out) | exact HB.out)) hb); clear BK779; clear HB; have BK779 := n0_; have HB := n1_; clear n0_ n1_; (try clear hb); (try clear hb2); (try clear hk); (try clear hi)))
      go_meet
      case rel => exact ⟨_, (true), (by first | rfl | (simp; done) | (simp [*]; done)), H', ⟨by first | omega | exact Nat.le_refl _⟩, ⟨by (with_reducible repeat (first | refine blk_drewN ?_ _ | refine blk_drew ?_ | refine blk_alloc ?_ _)); exact BK779.out⟩, ⟨by repeat (first | (with_reducible first | exact HB.out | apply below_alloc | apply pw_below_drewN | apply below_drew1 | refine below_set ?_ GE779.out) | exact HB.out)⟩⟩
  case rest =>
    clear HC4
    try clear c1
    try clear p2
    try clear c6
    try clear c7
    try clear c8
    try clear c9
    try clear c10
    try clear c10b0
    try clear hcz11_0
    try clear hcz11_1
    try clear hcz13_0
    try clear hcz13_1
    try clear hcz15_0
    try clear hcz15_1
    try clear hcz16_0
    try clear hcz16_1
    try clear hcz18_0
    try clear hcz18_1
    try clear hfz11_0
    try clear hfz11_1
    try clear hfz13_0
    try clear hfz13_1
    try clear hfz15_0
    try clear hfz15_1
    try clear hfz16_0
    try clear hfz16_1
    try clear hfz18_0
    try clear hfz18_1
    obtain ⟨kq, x27_3, rfl, HA, HJ3, BK779, HB⟩ := hcut
    cases kq with
    | zero => exact absurd HA.out (by simp [code_Take.j0])
    | succ kj3 =>
      have H := HA.out
      clear HA
      simp only [code_Take.j0] at H
      by_cases c20 : x27_3 = true
      · subst c20
        have H1 : (some (0, 0, 1)) = some (r1, r2, r3) := by rw [if_pos rfl] at H; exact H
        clear H
        have H := H1
        clear H1
        simp only [Option.some.injEq, Prod.mk.injEq] at H
        obtain ⟨rfl, rfl, rfl⟩ := H
        go_wp2
        go_ret3
        exact ⟨by first | rfl | (simp [errW_none, errW_some] <;> rfl) | (simp [*, errW_none, errW_some] <;> rfl), by repeat (first | (with_reducible first | exact HB.out | apply below_alloc | apply pw_below_drewN | apply below_drew1 | refine below_set ?_ GE779.out) | exact HB.out)⟩
      · replace c20 := Bool.eq_false_iff.mpr c20
        subst c20
        have H1 : ((code_Read.f a0_0 a0_1 a1 a2).bind fun bt782 => (if bt782.2.2 = true then (some (bt782.1, bt782.2.1, 0)) else (some (0, 0, 9)))) = some (r1, r2, r3) := by rw [if_neg (show ¬ (false = true) by decide)] at H; exact H
        clear H
        have H := H1
        clear H1
        replace H := Option.bind_eq_some_iff.mp H
        obtain ⟨⟨t782, t783, t784⟩, A210, H⟩ := H
        replace H : (if t784 = true then (some (t782, t783, 0)) else (some (0, 0, 9))) = some (r1, r2, r3) := H
        have A21 := Aside0.mk A210
        clear A210
        by_cases c22 : t784 = true
        · subst c22
          have H1 : (some (t782, t783, 0)) = some (r1, r2, r3) := by rw [if_pos rfl] at H; exact H
          clear H
          have H := H1
          clear H1
          simp only [Option.some.injEq, Prod.mk.injEq] at H
          obtain ⟨rfl, rfl, rfl⟩ := H
          have hcz23_0 : wc.cell? ⟨gb779, 0, none⟩ = some (.string a0_0) := (blk_cell BK779.out 0).trans rfl
          have hcz23_1 : wc.cell? ⟨gb779, 1, none⟩ = some (.int .i64 a0_1) := (blk_cell BK779.out 1).trans rfl
          have hfz23_0 := blk_frozen BK779.out 0
          have hfz23_1 := blk_frozen BK779.out 1
          go_wp2_with (first | ((with_reducible refine gate_callee (f := 105) rfl ?_); refine goesL_ (some 32) rfl rfl Try.func105 (by kernel_rfl) rfl #[.agg #[.string a0_0, .int .i64 a0_1], .int .i64 a1, .int .i64 a2] rfl (by (try simp only [List.map_toArray, List.map_cons, List.map_nil]); first | done | rfl | (simp only [List.length_drop, List.length_take]; rfl)) ?_; (with_reducible refine (code_Read.calls a0_0 a0_1 a1 a2 t782 t783 true _ A21.out).mono ?_); rintro e w24 ⟨rfl, hb⟩; refine ⟨_, rfl, ?_⟩; have n0_ := Aside0.mk (blk_below (g := gb779) (o := .cells #[.string a0_0, .int .i64 a0_1] 27 (0, 0)) (by (with_reducible repeat (first | refine blk_drewN ?_ _ | refine blk_drew ?_ | refine blk_alloc ?_ _)); exact BK779.out) hb); have n1_ := Aside0.mk (below_step (by repeat (first | (with_reducible first | exact HB.out | apply below_alloc | apply pw_below_drewN | apply below_drew1 | refine below_set ?_ GE779.out) | exact HB.out)) hb); clear BK779; clear HB; have BK779 := n0_; have HB := n1_; clear n0_ n1_; (try clear hb); (try clear hb2); (try clear hk); (try clear hi)))
          go_ret3
          exact ⟨by first | rfl | (simp [errW_none, errW_some] <;> rfl) | (simp [*, errW_none, errW_some] <;> rfl), by repeat (first | (with_reducible first | exact HB.out | apply below_alloc | apply pw_below_drewN | apply below_drew1 | refine below_set ?_ GE779.out) | exact HB.out)⟩
        · replace c22 := Bool.eq_false_iff.mpr c22
          subst c22
          have H1 : (some (0, 0, 9)) = some (r1, r2, r3) := by rw [if_neg (show ¬ (false = true) by decide)] at H; exact H
          clear H
          have H := H1
          clear H1
          simp only [Option.some.injEq, Prod.mk.injEq] at H
          obtain ⟨rfl, rfl, rfl⟩ := H
          have hcz25_0 : wc.cell? ⟨gb779, 0, none⟩ = some (.string a0_0) := (blk_cell BK779.out 0).trans rfl
          have hcz25_1 : wc.cell? ⟨gb779, 1, none⟩ = some (.int .i64 a0_1) := (blk_cell BK779.out 1).trans rfl
          have hfz25_0 := blk_frozen BK779.out 0
          have hfz25_1 := blk_frozen BK779.out 1
          go_wp2_with (first | ((with_reducible refine gate_callee (f := 105) rfl ?_); refine goesL_ (some 32) rfl rfl Try.func105 (by kernel_rfl) rfl #[.agg #[.string a0_0, .int .i64 a0_1], .int .i64 a1, .int .i64 a2] rfl (by (try simp only [List.map_toArray, List.map_cons, List.map_nil]); first | done | rfl | (simp only [List.length_drop, List.length_take]; rfl)) ?_; (with_reducible refine (code_Read.calls a0_0 a0_1 a1 a2 t782 t783 false _ A21.out).mono ?_); rintro e w26 ⟨rfl, hb⟩; refine ⟨_, rfl, ?_⟩; have n0_ := Aside0.mk (blk_below (g := gb779) (o := .cells #[.string a0_0, .int .i64 a0_1] 27 (0, 0)) (by (with_reducible repeat (first | refine blk_drewN ?_ _ | refine blk_drew ?_ | refine blk_alloc ?_ _)); exact BK779.out) hb); have n1_ := Aside0.mk (below_step (by repeat (first | (with_reducible first | exact HB.out | apply below_alloc | apply pw_below_drewN | apply below_drew1 | refine below_set ?_ GE779.out) | exact HB.out)) hb); clear BK779; clear HB; have BK779 := n0_; have HB := n1_; clear n0_ n1_; (try clear hb); (try clear hb2); (try clear hk); (try clear hi)))
          go_ret3
          exact ⟨by first | rfl | (simp [errW_none, errW_some] <;> rfl) | (simp [*, errW_none, errW_some] <;> rfl), by repeat (first | (with_reducible first | exact HB.out | apply below_alloc | apply pw_below_drewN | apply below_drew1 | refine below_set ?_ GE779.out) | exact HB.out)⟩
end Go.Proofs.Ytnpghcikhpglkaa.Q
namespace Go.Proofs.Ytnpghcikhpglkaa.Q
open Go.RowKit Go.Proofs.YtnpghcikhpglkaaW.PrintWords Go.Proofs.YtnpghcikhpglkaaW.PrintLast Go.Proofs.YtnpghcikhpglkaaW.PrintMore
attribute [local go_sem] max2_int min2_int max_two min_two max_three min_three max_four min_four   -- for this text's walks alone
set_option linter.unusedVariables false
set_option linter.unusedSimpArgs false

theorem eqA27 (d : Nat) (w : World) (x0 y0 : ByteArray) (x1 y1 : Int) :
    (Op.equalIn (d + 2) 27 (.agg #[.string x0, .int .i64 x1]) (.agg #[.string y0, .int .i64 y1])).run Try.prog w = .ok (x0.toList == y0.toList && (x1 == y1)) w := by
  refine eqA_of Try.underlying27 (by kernel_rfl) ?_
  refine eqf_cons (by rfl) (by go_simp; rfl) (by go_simp; rfl) (by go_simp) ?_
  exact eqf_last (by rfl) (by go_simp; rfl) (by go_simp; rfl) (by go_simp)
end Go.Proofs.Ytnpghcikhpglkaa.Q
namespace Go.Proofs.Ytnpghcikhpglkaa.Q
open Go.RowKit Go.Proofs.YtnpghcikhpglkaaW.PrintWords Go.Proofs.YtnpghcikhpglkaaW.PrintLast Go.Proofs.YtnpghcikhpglkaaW.PrintMore Go.Proofs.Ytnpghcikhpglkaa.Hand Go.Proofs.Ytnpghcikhpglkaa.Pu
set_option linter.unusedVariables false
set_option linter.unusedSimpArgs false

/-- Bits of a text, one by one behind a row. -/
def rowSeq (s : ByteArray) : Nat → Int → List Int × Int → List Int × Int
  | 0, _, st => st
  | k + 1, i, st => rowSeq s k (i + 1) (rowPut 1 st (bitOf s i))
theorem row_put1 (W : World) (base p : Nat) (bs : List Int) (n v : Int) (hrow : RowIs W base p bs n) (hn : 0 ≤ n) (hlen : (bs.length : Int) = (n + 7) / 8) (hbd : n + 1 ≤ 1073741824) (hbase : base ≤ W.heap.size) :
    Calls Try.prog 89 #[.pointer (some ⟨p, 0, none⟩), .int .i64 v, .int .i64 1] W fun e w' => e = .returned (.tuple #[]) ∧ RowIs w' base p (rowPut 1 (bs, n) v).1 (rowPut 1 (bs, n) v).2 ∧ Below base W w' :=
  row_put W base p bs n v 1 hrow hn hlen hbd hbase
theorem rowPut1_len (st : List Int × Int) (v : Int) (h0 : 0 ≤ st.2) (hl : (st.1.length : Int) = (st.2 + 7) / 8) : ((rowPut 1 st v).1.length : Int) = ((rowPut 1 st v).2 + 7) / 8 :=
  rowBit_len st v 0 h0 hl
theorem start3 (w : World) (o1 o2 o3 : Obj) : (((w.alloc o1).alloc o2).alloc o3).heap[w.heap.size]? = some o1 ∧ (((w.alloc o1).alloc o2).alloc o3).heap[w.heap.size + 1]? = some o2 ∧ (((w.alloc o1).alloc o2).alloc o3).heap[w.heap.size + 2]? = some o3 ∧
    Below w.heap.size w (((w.alloc o1).alloc o2).alloc o3) ∧ (((w.alloc o1).alloc o2).alloc o3).heap.size = w.heap.size + 3 := by
  obtain ⟨h1, h2, h3, h4⟩ := start2 w o1 o2
  have hs : ((w.alloc o1).alloc o2).heap.size = w.heap.size + 2 := by simp
  refine ⟨(Below.heap_alloc _ _ _ (by omega)).trans h1, (Below.heap_alloc _ _ _ (by omega)).trans h2, ?_, h3.alloc (by omega) o3, by simp⟩
  have := heap_alloc_new ((w.alloc o1).alloc o2) o3
  rw [hs] at this
  exact this

set_option maxHeartbeats 4000000 in
set_option maxRecDepth 100000 in
theorem part_walk (s : ByteArray) (n a b : Int) (w : World) (ha : 0 ≤ a) (hb : b ≤ 8 * s.size) (hb2 : b ≤ 1073741824) :
    Calls Try.prog 99 #[.agg #[.string s, .int .i64 n], .int .i64 a, .int .i64 b] w fun e w' => e = .returned (.agg #[.string (strOfNums (rowSeq s (b - a).toNat a ([], 0)).1), .int .i64 (rowSeq s (b - a).toNat a ([], 0)).2]) ∧ Below w.heap.size w w' := by
  have hu := Try.underlying27
  have hu2 := Try.underlying116
  have HS := Aside0.mk (start3 w (.cells #[.string s, .int .i64 n] 27) (.cells #[.string ⟨#[]⟩, .int .i64 0] 27) (.cells #[.slice none 0 0, .int .i64 0] 116))
  go_enter Try.func99, Try.ntmps99
  go_wp2
  go_loopw [8] (fun i wr => ∃ (c : Nat) (st : List Int × Int), i = .int .i64 (a + c) ∧ Aside0 (rowSeq s ((b - a).toNat - c) (a + c) st = rowSeq s (b - a).toNat a ([], 0)) ∧ Aside0 (RowIs wr (w.heap.size + 2) (w.heap.size + 2) st.1 st.2) ∧ Aside0 (st.2 = c) ∧ Aside0 ((st.1.length : Int) = (st.2 + 7) / 8) ∧ c ≤ (b - a).toNat ∧ Aside0 (wr.heap[w.heap.size]? = some (.cells #[.string s, .int .i64 n] 27 (0, 0))) ∧ Aside0 (wr.heap[w.heap.size + 1]? = some (.cells #[.string ⟨#[]⟩, .int .i64 0] 27 (0, 0))) ∧ Aside0 (Below w.heap.size w wr))
    (fun i wr => (b - intOf i).toNat)
  case atStart => exact ⟨0, ([], 0), by go_num, ⟨by simp⟩, ⟨⟨_, HS.out.2.2.1, OwnB.nil _ _, Nat.le_refl _⟩⟩, ⟨rfl⟩, ⟨rfl⟩, Nat.zero_le _, ⟨HS.out.1⟩, ⟨HS.out.2.1⟩, ⟨HS.out.2.2.2.1⟩⟩
  case round =>
    obtain ⟨c, ⟨bs, m⟩, rfl, HSEQ, HROW, HM, HLEN, hc, HA, HR, HB⟩ := hrel
    have hm : Aside0 (m = c) := HM
    obtain ⟨a0, a1, g0, g1⟩ := two_cells HA.out
    obtain ⟨c0, c1, f0, f1⟩ := two_cells HR.out
    by_cases hlt : a + c < b
    · have HBIT := Aside0.mk (bit_some s n (a + c) (by omega) (by omega) (by omega))
      have hc2 : (c : Int) < 1073741824 := by omega
      go_wp2_with (first | (go_at_call 100; ((with_reducible refine (bits_bit.calls s n (a + c) (bitOf s (a + c)) _ HBIT.out).mono ?_); rintro e w2 ⟨rfl, hb3⟩); have HROW2 := Aside0.mk (HROW.out.below hb3); have HBB := Aside0.mk hb3; clear hb3) | (go_at_call 89; ((with_reducible refine (row_put1 _ (w.heap.size + 2) (w.heap.size + 2) bs m (bitOf s (a + c)) HROW2.out ?e1 ?e2 ?e3 ?e4).mono ?_); (case e1 => rw [hm.out]; omega); (case e2 => exact HLEN.out); (case e3 => rw [hm.out]; omega); (case e4 => exact Nat.le_trans (by have := blk_lt HR.out; omega) HBB.out.size); rintro e w3 ⟨rfl, hrow3, hb3⟩); have HROW3 := Aside0.mk hrow3; have HB3 := Aside0.mk hb3; clear hrow3 hb3))
      go_roundw
      case rel =>
        refine ⟨c + 1, rowPut 1 (bs, m) (bitOf s (a + c)), by go_num, ⟨?_⟩, ⟨HROW3.out⟩, ⟨?_⟩, ⟨rowPut1_len (bs, m) _ (by rw [hm.out]; omega) HLEN.out⟩, by omega, ⟨keep2 (keep2 HA.out HBB.out (blk_lt HA.out)) HB3.out (by omega)⟩, ⟨keep2 (keep2 HR.out HBB.out (blk_lt HR.out)) HB3.out (by omega)⟩, ⟨(HB.out.trans (HBB.out.mono HB.out.size)).trans (HB3.out.mono (by omega))⟩⟩
        · rw [← HSEQ.out, show (b - a).toNat - c = ((b - a).toNat - (c + 1)) + 1 by omega, rowSeq, show a + ((c + 1 : Nat) : Int) = a + c + 1 by omega]
        · rw [rowPut_snd, hm.out]; rfl
      case measure => simp [intOf]; omega
    · have hcc : c = (b - a).toNat := by omega
      have HE : Aside0 ((bs, m) = rowSeq s (b - a).toNat a ([], 0)) := ⟨by
        have := HSEQ.out
        rw [hcc, Nat.sub_self, rowSeq] at this
        exact this⟩
      clear hcc
      obtain ⟨sv, hblk, hown, hp⟩ := HROW.out
      obtain ⟨b0, b1, k0, k1⟩ := two_cells hblk
      have hst := hown.drew.str
      clear hblk hown hp
      go_wp2
      go_region
      go_wp2
      refine bodyPost_ret (results_cell_row rfl _ _ (w.heap.size + 1) 27 #[.string (strOfNums bs), .int .i64 m] (0, 0) _ rfl (put2 HR.out) Try.underlying27 rfl (by kernel_rfl)) rfl ⟨by rw [← HE.out], below_drew0 (below_put2 HB.out (by omega) _ _)⟩

/-- So many bits of a text from a place on. -/
def partK (s : ByteArray) : Nat → Int → List Int
  | 0, _ => []
  | k + 1, i => bitOf s i :: partK s k (i + 1)
theorem partK_length (s : ByteArray) (k : Nat) : ∀ i, (partK s k i).length = k := by
  induction k with
  | zero => intro i; rfl
  | succ k ih => intro i; simp [partK, ih]
theorem partK_bits (s : ByteArray) (k : Nat) : ∀ i, IsBits (partK s k i) := by
  induction k with
  | zero => intro i; exact IsBits.nil
  | succ k ih =>
    intro i x hx
    rcases List.mem_cons.1 hx with rfl | hx
    · exact bitOf_bit s i
    · exact ih _ x hx
theorem putL_one (b : Int) (h : b = 0 ∨ b = 1) : putL 1 b = [b] := by rcases h with rfl | rfl <;> rfl
theorem rowSeq_pack (s : ByteArray) (k : Nat) : ∀ (i : Int) (l : List Int), IsBits l → rowSeq s k i (packL l, (l.length : Int)) = (packL (l ++ partK s k i), ((l ++ partK s k i).length : Int)) := by
  induction k with
  | zero => intro i l _; simp [rowSeq, partK]
  | succ k ih =>
    intro i l hl
    have hb := bitOf_bit s i
    rw [rowSeq, rowPut_pack 1 _ (by omega) (by omega) l hl, putL_one _ hb, ih (i + 1) _ (hl.append (fun x hx => by rw [List.mem_singleton.1 hx]; exact hb))]
    simp [partK]

/-- bits.Part. -/
def bits_Part.f (s : ByteArray) (n a b : Int) : Option (ByteArray × Int) :=
  if 0 ≤ a ∧ b ≤ 8 * s.size ∧ b ≤ 1073741824 then some (packS (partK s (b - a).toNat a), ((b - a).toNat : Int)) else none
theorem bits_Part.calls (a0_0 : ByteArray) (a0_1 a1 a2 : Int) (r1 : ByteArray) (r2 : Int) (w : World) (h : bits_Part.f a0_0 a0_1 a1 a2 = some (r1, r2)) :
    Calls Try.prog 99 #[.agg #[.string a0_0, .int .i64 a0_1], .int .i64 a1, .int .i64 a2] w fun e w' => e = .returned (.agg #[.string r1, .int .i64 r2]) ∧ Below w.heap.size w w' := by
  unfold bits_Part.f at h
  by_cases hc : 0 ≤ a1 ∧ a2 ≤ 8 * a0_0.size ∧ a2 ≤ 1073741824
  · rw [if_pos hc] at h
    simp only [Option.some.injEq, Prod.mk.injEq] at h
    obtain ⟨rfl, rfl⟩ := h
    have e := part_walk a0_0 a0_1 a1 a2 w hc.1 hc.2.1 hc.2.2
    have hp := rowSeq_pack a0_0 (a2 - a1).toNat a1 [] IsBits.nil
    have h0 : packL [] = [] := rfl
    rw [h0] at hp
    simp only [List.length_nil, List.nil_append, partK_length] at hp
    have hp' : rowSeq a0_0 (a2 - a1).toNat a1 ([], 0) = (packL (partK a0_0 (a2 - a1).toNat a1), (((a2 - a1).toNat : Nat) : Int)) := hp
    rw [hp'] at e
    exact e
  · rw [if_neg hc] at h
    cases h
end Go.Proofs.Ytnpghcikhpglkaa.Q
namespace Go.Proofs.Ytnpghcikhpglkaa.Q
open Go.RowKit Go.Proofs.YtnpghcikhpglkaaW.PrintWords Go.Proofs.YtnpghcikhpglkaaW.PrintLast Go.Proofs.YtnpghcikhpglkaaW.PrintMore
attribute [local go_sem] max2_int min2_int max_two min_two max_three min_three max_four min_four   -- for this text's walks alone
set_option linter.unusedVariables false
set_option linter.unusedSimpArgs false

/-! ### code_log: function 117 -/
def code_log.f (a0 : Int) : Option (Int) := (bits_Len.f (IntKind.u64.wrap (a0))).bind fun t777 => (some (wrap64 (t777 - 1)))
set_option maxHeartbeats 8000000 in
set_option maxRecDepth 100000 in
theorem code_log.calls (a0 : Int) (r : Int) (w : World) (h : code_log.f a0 = some r) :
    Calls Try.prog 117 #[.int .i64 a0] w fun e w' => e = .returned (.int .i64 r) ∧ Drawn0 w w' := by
  have H : ((bits_Len.f (IntKind.u64.wrap (a0))).bind fun t777 => (some (wrap64 (t777 - 1)))) = some r := h
  clear h
  replace H := Option.bind_eq_some_iff.mp H
  obtain ⟨t777, A20, H⟩ := H
  replace H : (some (wrap64 (t777 - 1))) = some r := H
  have A2 := Aside0.mk A20
  clear A20
  obtain rfl := Option.some.inj H
  go_enter Try.func117, Try.ntmps117
  go_wp2_with (first | ((with_reducible refine gate_callee (f := 125) rfl ?_); refine goesL_ (some 5) rfl rfl Try.func125 (by kernel_rfl) rfl #[.int .u64 (IntKind.u64.wrap (a0))] rfl (by (try simp only [List.map_toArray, List.map_cons, List.map_nil]); first | done | rfl | (simp only [List.length_drop, List.length_take]; rfl)) ?_; (with_reducible refine (bits_Len.calls (IntKind.u64.wrap (a0)) t777 _ A2.out).mono ?_); rintro e w' ⟨rfl, ⟨nd, rfl⟩⟩; refine ⟨_, rfl, ?_⟩))
  go_ret
  exact ⟨by first | rfl | (simp; done) | (simp [*]; done), by repeat (first | exact Drawn0.refl _ | apply Drawn0.step)⟩
end Go.Proofs.Ytnpghcikhpglkaa.Q
namespace Go.Proofs.Ytnpghcikhpglkaa.Q
open Go.RowKit Go.Proofs.YtnpghcikhpglkaaW.PrintWords Go.Proofs.YtnpghcikhpglkaaW.PrintLast Go.Proofs.YtnpghcikhpglkaaW.PrintMore Go.Proofs.Ytnpghcikhpglkaa.Hand Go.Proofs.Ytnpghcikhpglkaa.Pu
set_option linter.unusedVariables false
set_option linter.unusedSimpArgs false

/-- A row that holds these bits. -/
structure RowL (W : World) (base p : Nat) (l : List Int) : Prop where mk :: (out : RowIs W base p (packL l) (l.length : Int)) (bits : IsBits l)
theorem put_rowI (W : World) (base p : Nat) (l : List Int) (v k : Int) (hrow : RowL W base p l) (hv : 0 ≤ v) (hv2 : v < 2 ^ 62) (hk : 0 ≤ k) (hbd : (l.length : Int) + k ≤ 1073741824) (hbase : base ≤ W.heap.size) :
    Calls Try.prog 89 #[.pointer (some ⟨p, 0, none⟩), .int .i64 v, .int .i64 k] W fun e w' => e = .returned (.tuple #[]) ∧ RowL w' base p (l ++ putL k.toNat v) ∧ Below base W w' := by
  obtain ⟨k, rfl⟩ := Int.eq_ofNat_of_zero_le hk
  have h := row_put W base p (packL l) (l.length : Int) v k hrow.out (by omega) (by rw [packL_length]; omega) hbd hbase
  rw [rowPut_pack k v hv hv2 l hrow.bits] at h
  refine h.mono fun e w' ⟨h1, h2, h3⟩ => ⟨h1, ⟨h2, hrow.bits.append (putL_bits _ _)⟩, h3⟩
def unaryL (n : Int) : List Int := putL (n - 1).toNat 0 ++ putL 1 1
set_option maxHeartbeats 4000000 in
set_option maxRecDepth 100000 in
theorem lay_unary (W : World) (base p : Nat) (l : List Int) (n : Int) (hrow : RowL W base p l) (hn : 1 ≤ n) (hn2 : n ≤ 1000) (hlen : l.length ≤ 1000000) (hbase : base ≤ W.heap.size) :
    Calls Try.prog 104 #[.pointer (some ⟨p, 0, none⟩), .int .i64 1, .int .i64 n] W fun e w' => e = .returned (.tuple #[]) ∧ RowL w' base p (l ++ unaryL n) ∧ Below base W w' := by
  have HROW := Aside0.mk hrow
  have HB := Aside0.mk (Below.refl base W)
  have HBASE := Aside0.mk hbase
  clear hrow hbase
  go_enter Try.func104, Try.ntmps104
  go_wp2_with (first | (go_at_call 89; ((with_reducible refine (put_rowI _ base p _ _ _ HROW.out ?e1 ?e2 ?e3 ?e4 ?e5).mono ?_); (case e1 => omega); (case e2 => first | decide | omega); (case e3 => omega); (case e4 => first | omega | (simp only [List.length_append, putL_length]; omega)); (case e5 => exact Nat.le_trans HBASE.out HB.out.size); rintro e w3 ⟨rfl, hrow3, hb3⟩); have HB3 := Aside0.mk (HB.out.trans hb3); have HROW3 := Aside0.mk hrow3; clear hrow3 hb3 HROW HB; have HROW := HROW3; have HB := HB3; clear HROW3 HB3))
  go_end0
  exact ⟨rfl, by unfold unaryL; rw [← List.append_assoc]; exact HROW.out, HB.out⟩
theorem rowL_draw {W w' : World} {base p : Nat} {l : List Int} (h : RowL W base p l) (hd : Drawn0 W w') : RowL w' base p l := ⟨h.out.below hd.below, h.bits⟩
theorem below_draw {W W1 w' : World} {base : Nat} (hB : Below base W W1) (hbase : base ≤ W.heap.size) (hd : Drawn0 W1 w') : Below base W w' := hB.trans (hd.below.mono (Nat.le_trans hbase hB.size))

/-- How many bits a number has, less one. -/
def lg (n : Int) : Int := (Lib.bitLen n.toNat : Int) - 1
theorem lg_facts (n : Int) (h0 : 1 ≤ n) (h1 : n ≤ 1073741824) : code_log.f n = some (lg n) ∧ 0 ≤ lg n ∧ lg n ≤ 30 ∧ (2 : Int) ^ (lg n).toNat ≤ n ∧ n < 2 ^ ((lg n).toNat + 1) := by
  obtain ⟨m, rfl⟩ := Int.eq_ofNat_of_zero_le (show 0 ≤ n by omega)
  have hb := Lib.bitLenAux_bounds 64 m (by omega) (by omega)
  have hb1 : 1 ≤ Lib.bitLen m := hb.1
  have hb2 : 2 ^ (Lib.bitLen m - 1) ≤ m := hb.2.1
  have hb3 : m < 2 ^ Lib.bitLen m := hb.2.2
  have hb4 : Lib.bitLen m ≤ 31 := Lib.bitLen_le m 31 (by omega) (by omega)
  have e : lg (m : Int) = ((Lib.bitLen m - 1 : Nat) : Int) := by unfold lg; rw [Int.toNat_natCast]; omega
  refine ⟨?_, by omega, by omega, ?_, ?_⟩
  · unfold code_log.f
    have hw : IntKind.u64.wrap (m : Int) = (m : Int) := by simp [IntKind.wrap, IntKind.bits, IntKind.signed]; omega
    rw [hw]
    unfold bits_Len.f
    rw [if_pos ⟨by omega, by omega⟩, Option.bind_some, Int.toNat_natCast, wrap_in _ (by omega) (by omega)]
    rfl
  · rw [e, Int.toNat_natCast]; exact_mod_cast hb2
  · rw [e, Int.toNat_natCast, show Lib.bitLen m - 1 + 1 = Lib.bitLen m by omega]; exact_mod_cast hb3
def gammaL (n : Int) : List Int := putL (lg n).toNat 0 ++ putL (lg n + 1).toNat n
def deltaL (n : Int) : List Int := gammaL (lg n + 1) ++ putL (lg n).toNat n
theorem gammaL_length (n : Int) : (gammaL n).length = (lg n).toNat + (lg n + 1).toNat := by simp [gammaL, putL_length]
theorem unaryL_length (n : Int) (h : 1 ≤ n) : (unaryL n).length = n.toNat := by simp [unaryL, putL_length]; omega
set_option maxHeartbeats 4000000 in
set_option maxRecDepth 100000 in
theorem lay_gamma (W : World) (base p : Nat) (l : List Int) (n : Int) (hrow : RowL W base p l) (hn : 1 ≤ n) (hn2 : n ≤ 1073741824) (hlen : l.length ≤ 1000000) (hbase : base ≤ W.heap.size) :
    Calls Try.prog 104 #[.pointer (some ⟨p, 0, none⟩), .int .i64 2, .int .i64 n] W fun e w' => e = .returned (.tuple #[]) ∧ RowL w' base p (l ++ gammaL n) ∧ Below base W w' := by
  have HROW := Aside0.mk hrow
  have HB := Aside0.mk (Below.refl base W)
  have HBASE := Aside0.mk hbase
  obtain ⟨hlog, hg0, hg1, _, _⟩ := lg_facts n hn hn2
  have HG : Aside0 (gammaL n = putL (lg n).toNat 0 ++ putL (lg n + 1).toNat n) := ⟨rfl⟩
  generalize lg n = g at *
  have HLOG := Aside0.mk hlog
  clear hrow hbase hlog
  go_enter Try.func104, Try.ntmps104
  go_wp2_with (first | (go_at_call 117; (with_reducible refine (code_log.calls n g _ HLOG.out).mono ?_); rintro e w3 ⟨rfl, hd3⟩; have HROW3 := Aside0.mk (rowL_draw HROW.out hd3); have HB3 := Aside0.mk (below_draw HB.out HBASE.out hd3); clear hd3 HROW HB; have HROW := HROW3; have HB := HB3; clear HROW3 HB3) | (go_at_call 89; ((with_reducible refine (put_rowI _ base p _ _ _ HROW.out ?e1 ?e2 ?e3 ?e4 ?e5).mono ?_); (case e1 => omega); (case e2 => first | decide | omega); (case e3 => omega); (case e4 => first | omega | (simp only [List.length_append, putL_length]; omega)); (case e5 => exact Nat.le_trans HBASE.out HB.out.size); rintro e w3 ⟨rfl, hrow3, hb3⟩); have HB3 := Aside0.mk (HB.out.trans hb3); have HROW3 := Aside0.mk hrow3; clear hrow3 hb3 HROW HB; have HROW := HROW3; have HB := HB3; clear HROW3 HB3))
  go_end0
  exact ⟨rfl, by rw [HG.out, ← List.append_assoc]; exact HROW.out, HB.out⟩
set_option maxHeartbeats 4000000 in
set_option maxRecDepth 100000 in
theorem lay_delta (W : World) (base p : Nat) (l : List Int) (n : Int) (hrow : RowL W base p l) (hn : 1 ≤ n) (hn2 : n ≤ 1073741824) (hlen : l.length ≤ 900000) (hbase : base ≤ W.heap.size) :
    Calls Try.prog 104 #[.pointer (some ⟨p, 0, none⟩), .int .i64 3, .int .i64 n] W fun e w' => e = .returned (.tuple #[]) ∧ RowL w' base p (l ++ deltaL n) ∧ Below base W w' := by
  have HROW := Aside0.mk hrow
  have HB := Aside0.mk (Below.refl base W)
  have HBASE := Aside0.mk hbase
  obtain ⟨hlog, hg0, hg1, _, _⟩ := lg_facts n hn hn2
  have HG : Aside0 (deltaL n = gammaL (lg n + 1) ++ putL (lg n).toNat n) := ⟨rfl⟩
  have HL := gammaL_length (lg n + 1)
  have hgg := (lg_facts (lg n + 1) (by omega) (by omega)).2.2.1
  have hgl : (gammaL (lg n + 1)).length ≤ 100 := by omega
  clear HL hgg
  generalize lg n = g at *
  have HLOG := Aside0.mk hlog
  clear hrow hbase hlog
  go_enter Try.func104, Try.ntmps104
  go_wp2_with (first | (go_at_call 117; (with_reducible refine (code_log.calls n g _ HLOG.out).mono ?_); rintro e w3 ⟨rfl, hd3⟩; have HROW3 := Aside0.mk (rowL_draw HROW.out hd3); have HB3 := Aside0.mk (below_draw HB.out HBASE.out hd3); clear hd3 HROW HB; have HROW := HROW3; have HB := HB3; clear HROW3 HB3) | (go_at_call 104; ((with_reducible refine (lay_gamma _ base p _ _ HROW.out ?e1 ?e2 ?e3 ?e4).mono ?_); (case e1 => omega); (case e2 => omega); (case e3 => first | omega | (simp only [List.length_append, putL_length]; omega)); (case e4 => exact Nat.le_trans HBASE.out HB.out.size); rintro e w3 ⟨rfl, hrow3, hb3⟩); have HB3 := Aside0.mk (HB.out.trans hb3); have HROW3 := Aside0.mk hrow3; clear hrow3 hb3 HROW HB; have HROW := HROW3; have HB := HB3; clear HROW3 HB3) | (go_at_call 89; ((with_reducible refine (put_rowI _ base p _ _ _ HROW.out ?e1 ?e2 ?e3 ?e4 ?e5).mono ?_); (case e1 => omega); (case e2 => first | decide | omega); (case e3 => omega); (case e4 => first | omega | (simp only [List.length_append, putL_length]; omega)); (case e5 => exact Nat.le_trans HBASE.out HB.out.size); rintro e w3 ⟨rfl, hrow3, hb3⟩); have HB3 := Aside0.mk (HB.out.trans hb3); have HROW3 := Aside0.mk hrow3; clear hrow3 hb3 HROW HB; have HROW := HROW3; have HB := HB3; clear HROW3 HB3))
  go_end0
  exact ⟨rfl, by rw [HG.out, ← List.append_assoc]; exact HROW.out, HB.out⟩
theorem parts4 : code_parts.f 4 = some 2 := by decide +kernel
set_option maxHeartbeats 4000000 in
set_option maxRecDepth 100000 in
theorem lay_zeta2 (W : World) (base p : Nat) (l : List Int) (n g low many size short : Int) (c : List Int) (hrow : RowL W base p l) (hn : 1 ≤ n) (hn2 : n ≤ 1073741824) (hlen : l.length ≤ 900000) (hbase : base ≤ W.heap.size)
    (hlog : code_log.f n = some g) (hg0 : 0 ≤ g) (hg1 : g ≤ 30) (hz : code_zeta.f 2 (Int.tdiv g 2) = some (low, many, size, short)) (hlow0 : 0 ≤ low) (hlow : low ≤ n) (hs : 1 ≤ size) (hs2 : size ≤ 64) (hsh0 : 0 ≤ short) (hsh : short ≤ 4611686017353646080)
    (hc : c = unaryL (Int.tdiv g 2 + 1) ++ (if n - low < short then putL (size - 1).toNat (n - low) else putL size.toNat (n - low + short))) :
    Calls Try.prog 104 #[.pointer (some ⟨p, 0, none⟩), .int .i64 4, .int .i64 n] W fun e w' => e = .returned (.tuple #[]) ∧ RowL w' base p (l ++ c) ∧ Below base W w' := by
  have HROW := Aside0.mk hrow
  have HB := Aside0.mk (Below.refl base W)
  have HBASE := Aside0.mk hbase
  have HLOG := Aside0.mk hlog
  have HZ := Aside0.mk hz
  have HC := Aside0.mk hc
  have HP := Aside0.mk parts4
  have hh0 : 0 ≤ Int.tdiv g 2 ∧ Int.tdiv g 2 ≤ 30 := by rw [Int.tdiv_eq_ediv_of_nonneg hg0]; omega
  have hul : (unaryL (Int.tdiv g 2 + 1)).length ≤ 100 := by rw [unaryL_length _ (by omega)]; omega
  clear hrow hbase hlog hz hc
  by_cases hlt : n - low < short
  · have HC2 := Aside0.mk (HC.out.trans (by rw [if_pos hlt]))
    go_enter Try.func104, Try.ntmps104
    go_wp2_with (first | (go_at_call 117; (with_reducible refine (code_log.calls n g _ HLOG.out).mono ?_); rintro e w3 ⟨rfl, hd3⟩; have HROW3 := Aside0.mk (rowL_draw HROW.out hd3); have HB3 := Aside0.mk (below_draw HB.out HBASE.out hd3); clear hd3 HROW HB; have HROW := HROW3; have HB := HB3; clear HROW3 HB3) | (go_at_call 118; (with_reducible refine (code_parts.calls 4 2 _ HP.out).mono ?_); rintro e w3 ⟨rfl, hd3⟩; have HROW3 := Aside0.mk (rowL_draw HROW.out hd3); have HB3 := Aside0.mk (below_draw HB.out HBASE.out hd3); clear hd3 HROW HB; have HROW := HROW3; have HB := HB3; clear HROW3 HB3) | (go_at_call 119; (with_reducible refine (code_zeta.calls 2 (Int.tdiv g 2) low many size short _ HZ.out).mono ?_); rintro e w3 ⟨rfl, hd3⟩; have HROW3 := Aside0.mk (rowL_draw HROW.out hd3); have HB3 := Aside0.mk (below_draw HB.out HBASE.out hd3); clear hd3 HROW HB; have HROW := HROW3; have HB := HB3; clear HROW3 HB3) | (go_at_call 104; ((with_reducible refine (lay_unary _ base p _ _ HROW.out ?e1 ?e2 ?e3 ?e4).mono ?_); (case e1 => omega); (case e2 => omega); (case e3 => first | omega | (simp only [List.length_append, putL_length]; omega)); (case e4 => exact Nat.le_trans HBASE.out HB.out.size); rintro e w3 ⟨rfl, hrow3, hb3⟩); have HB3 := Aside0.mk (HB.out.trans hb3); have HROW3 := Aside0.mk hrow3; clear hrow3 hb3 HROW HB; have HROW := HROW3; have HB := HB3; clear HROW3 HB3) | (go_at_call 89; ((with_reducible refine (put_rowI _ base p _ _ _ HROW.out ?e1 ?e2 ?e3 ?e4 ?e5).mono ?_); (case e1 => omega); (case e2 => first | decide | omega); (case e3 => omega); (case e4 => first | omega | (simp only [List.length_append, putL_length]; omega)); (case e5 => exact Nat.le_trans HBASE.out HB.out.size); rintro e w3 ⟨rfl, hrow3, hb3⟩); have HB3 := Aside0.mk (HB.out.trans hb3); have HROW3 := Aside0.mk hrow3; clear hrow3 hb3 HROW HB; have HROW := HROW3; have HB := HB3; clear HROW3 HB3))
    go_end0
    exact ⟨rfl, by rw [HC2.out, ← List.append_assoc]; exact HROW.out, HB.out⟩
  · have HC2 := Aside0.mk (HC.out.trans (by rw [if_neg hlt]))
    go_enter Try.func104, Try.ntmps104
    go_wp2_with (first | (go_at_call 117; (with_reducible refine (code_log.calls n g _ HLOG.out).mono ?_); rintro e w3 ⟨rfl, hd3⟩; have HROW3 := Aside0.mk (rowL_draw HROW.out hd3); have HB3 := Aside0.mk (below_draw HB.out HBASE.out hd3); clear hd3 HROW HB; have HROW := HROW3; have HB := HB3; clear HROW3 HB3) | (go_at_call 118; (with_reducible refine (code_parts.calls 4 2 _ HP.out).mono ?_); rintro e w3 ⟨rfl, hd3⟩; have HROW3 := Aside0.mk (rowL_draw HROW.out hd3); have HB3 := Aside0.mk (below_draw HB.out HBASE.out hd3); clear hd3 HROW HB; have HROW := HROW3; have HB := HB3; clear HROW3 HB3) | (go_at_call 119; (with_reducible refine (code_zeta.calls 2 (Int.tdiv g 2) low many size short _ HZ.out).mono ?_); rintro e w3 ⟨rfl, hd3⟩; have HROW3 := Aside0.mk (rowL_draw HROW.out hd3); have HB3 := Aside0.mk (below_draw HB.out HBASE.out hd3); clear hd3 HROW HB; have HROW := HROW3; have HB := HB3; clear HROW3 HB3) | (go_at_call 104; ((with_reducible refine (lay_unary _ base p _ _ HROW.out ?e1 ?e2 ?e3 ?e4).mono ?_); (case e1 => omega); (case e2 => omega); (case e3 => first | omega | (simp only [List.length_append, putL_length]; omega)); (case e4 => exact Nat.le_trans HBASE.out HB.out.size); rintro e w3 ⟨rfl, hrow3, hb3⟩); have HB3 := Aside0.mk (HB.out.trans hb3); have HROW3 := Aside0.mk hrow3; clear hrow3 hb3 HROW HB; have HROW := HROW3; have HB := HB3; clear HROW3 HB3) | (go_at_call 89; ((with_reducible refine (put_rowI _ base p _ _ _ HROW.out ?e1 ?e2 ?e3 ?e4 ?e5).mono ?_); (case e1 => omega); (case e2 => first | decide | omega); (case e3 => omega); (case e4 => first | omega | (simp only [List.length_append, putL_length]; omega)); (case e5 => exact Nat.le_trans HBASE.out HB.out.size); rintro e w3 ⟨rfl, hrow3, hb3⟩); have HB3 := Aside0.mk (HB.out.trans hb3); have HROW3 := Aside0.mk hrow3; clear hrow3 hb3 HROW HB; have HROW := HROW3; have HB := HB3; clear HROW3 HB3))
    go_end0
    exact ⟨rfl, by rw [HC2.out, ← List.append_assoc]; exact HROW.out, HB.out⟩
theorem parts5 : code_parts.f 5 = some 3 := by decide +kernel
set_option maxHeartbeats 4000000 in
set_option maxRecDepth 100000 in
theorem lay_zeta3 (W : World) (base p : Nat) (l : List Int) (n g low many size short : Int) (c : List Int) (hrow : RowL W base p l) (hn : 1 ≤ n) (hn2 : n ≤ 1073741824) (hlen : l.length ≤ 900000) (hbase : base ≤ W.heap.size)
    (hlog : code_log.f n = some g) (hg0 : 0 ≤ g) (hg1 : g ≤ 30) (hz : code_zeta.f 3 (Int.tdiv g 3) = some (low, many, size, short)) (hlow0 : 0 ≤ low) (hlow : low ≤ n) (hs : 1 ≤ size) (hs2 : size ≤ 64) (hsh0 : 0 ≤ short) (hsh : short ≤ 4611686017353646080)
    (hc : c = unaryL (Int.tdiv g 3 + 1) ++ (if n - low < short then putL (size - 1).toNat (n - low) else putL size.toNat (n - low + short))) :
    Calls Try.prog 104 #[.pointer (some ⟨p, 0, none⟩), .int .i64 5, .int .i64 n] W fun e w' => e = .returned (.tuple #[]) ∧ RowL w' base p (l ++ c) ∧ Below base W w' := by
  have HROW := Aside0.mk hrow
  have HB := Aside0.mk (Below.refl base W)
  have HBASE := Aside0.mk hbase
  have HLOG := Aside0.mk hlog
  have HZ := Aside0.mk hz
  have HC := Aside0.mk hc
  have HP := Aside0.mk parts5
  have hh0 : 0 ≤ Int.tdiv g 3 ∧ Int.tdiv g 3 ≤ 30 := by rw [Int.tdiv_eq_ediv_of_nonneg hg0]; omega
  have hul : (unaryL (Int.tdiv g 3 + 1)).length ≤ 100 := by rw [unaryL_length _ (by omega)]; omega
  clear hrow hbase hlog hz hc
  by_cases hlt : n - low < short
  · have HC2 := Aside0.mk (HC.out.trans (by rw [if_pos hlt]))
    go_enter Try.func104, Try.ntmps104
    go_wp2_with (first | (go_at_call 117; (with_reducible refine (code_log.calls n g _ HLOG.out).mono ?_); rintro e w3 ⟨rfl, hd3⟩; have HROW3 := Aside0.mk (rowL_draw HROW.out hd3); have HB3 := Aside0.mk (below_draw HB.out HBASE.out hd3); clear hd3 HROW HB; have HROW := HROW3; have HB := HB3; clear HROW3 HB3) | (go_at_call 118; (with_reducible refine (code_parts.calls 5 3 _ HP.out).mono ?_); rintro e w3 ⟨rfl, hd3⟩; have HROW3 := Aside0.mk (rowL_draw HROW.out hd3); have HB3 := Aside0.mk (below_draw HB.out HBASE.out hd3); clear hd3 HROW HB; have HROW := HROW3; have HB := HB3; clear HROW3 HB3) | (go_at_call 119; (with_reducible refine (code_zeta.calls 3 (Int.tdiv g 3) low many size short _ HZ.out).mono ?_); rintro e w3 ⟨rfl, hd3⟩; have HROW3 := Aside0.mk (rowL_draw HROW.out hd3); have HB3 := Aside0.mk (below_draw HB.out HBASE.out hd3); clear hd3 HROW HB; have HROW := HROW3; have HB := HB3; clear HROW3 HB3) | (go_at_call 104; ((with_reducible refine (lay_unary _ base p _ _ HROW.out ?e1 ?e2 ?e3 ?e4).mono ?_); (case e1 => omega); (case e2 => omega); (case e3 => first | omega | (simp only [List.length_append, putL_length]; omega)); (case e4 => exact Nat.le_trans HBASE.out HB.out.size); rintro e w3 ⟨rfl, hrow3, hb3⟩); have HB3 := Aside0.mk (HB.out.trans hb3); have HROW3 := Aside0.mk hrow3; clear hrow3 hb3 HROW HB; have HROW := HROW3; have HB := HB3; clear HROW3 HB3) | (go_at_call 89; ((with_reducible refine (put_rowI _ base p _ _ _ HROW.out ?e1 ?e2 ?e3 ?e4 ?e5).mono ?_); (case e1 => omega); (case e2 => first | decide | omega); (case e3 => omega); (case e4 => first | omega | (simp only [List.length_append, putL_length]; omega)); (case e5 => exact Nat.le_trans HBASE.out HB.out.size); rintro e w3 ⟨rfl, hrow3, hb3⟩); have HB3 := Aside0.mk (HB.out.trans hb3); have HROW3 := Aside0.mk hrow3; clear hrow3 hb3 HROW HB; have HROW := HROW3; have HB := HB3; clear HROW3 HB3))
    go_end0
    exact ⟨rfl, by rw [HC2.out, ← List.append_assoc]; exact HROW.out, HB.out⟩
  · have HC2 := Aside0.mk (HC.out.trans (by rw [if_neg hlt]))
    go_enter Try.func104, Try.ntmps104
    go_wp2_with (first | (go_at_call 117; (with_reducible refine (code_log.calls n g _ HLOG.out).mono ?_); rintro e w3 ⟨rfl, hd3⟩; have HROW3 := Aside0.mk (rowL_draw HROW.out hd3); have HB3 := Aside0.mk (below_draw HB.out HBASE.out hd3); clear hd3 HROW HB; have HROW := HROW3; have HB := HB3; clear HROW3 HB3) | (go_at_call 118; (with_reducible refine (code_parts.calls 5 3 _ HP.out).mono ?_); rintro e w3 ⟨rfl, hd3⟩; have HROW3 := Aside0.mk (rowL_draw HROW.out hd3); have HB3 := Aside0.mk (below_draw HB.out HBASE.out hd3); clear hd3 HROW HB; have HROW := HROW3; have HB := HB3; clear HROW3 HB3) | (go_at_call 119; (with_reducible refine (code_zeta.calls 3 (Int.tdiv g 3) low many size short _ HZ.out).mono ?_); rintro e w3 ⟨rfl, hd3⟩; have HROW3 := Aside0.mk (rowL_draw HROW.out hd3); have HB3 := Aside0.mk (below_draw HB.out HBASE.out hd3); clear hd3 HROW HB; have HROW := HROW3; have HB := HB3; clear HROW3 HB3) | (go_at_call 104; ((with_reducible refine (lay_unary _ base p _ _ HROW.out ?e1 ?e2 ?e3 ?e4).mono ?_); (case e1 => omega); (case e2 => omega); (case e3 => first | omega | (simp only [List.length_append, putL_length]; omega)); (case e4 => exact Nat.le_trans HBASE.out HB.out.size); rintro e w3 ⟨rfl, hrow3, hb3⟩); have HB3 := Aside0.mk (HB.out.trans hb3); have HROW3 := Aside0.mk hrow3; clear hrow3 hb3 HROW HB; have HROW := HROW3; have HB := HB3; clear HROW3 HB3) | (go_at_call 89; ((with_reducible refine (put_rowI _ base p _ _ _ HROW.out ?e1 ?e2 ?e3 ?e4 ?e5).mono ?_); (case e1 => omega); (case e2 => first | decide | omega); (case e3 => omega); (case e4 => first | omega | (simp only [List.length_append, putL_length]; omega)); (case e5 => exact Nat.le_trans HBASE.out HB.out.size); rintro e w3 ⟨rfl, hrow3, hb3⟩); have HB3 := Aside0.mk (HB.out.trans hb3); have HROW3 := Aside0.mk hrow3; clear hrow3 hb3 HROW HB; have HROW := HROW3; have HB := HB3; clear HROW3 HB3))
    go_end0
    exact ⟨rfl, by rw [HC2.out, ← List.append_assoc]; exact HROW.out, HB.out⟩
end Go.Proofs.Ytnpghcikhpglkaa.Q
namespace Go.Proofs.Ytnpghcikhpglkaa.Q
open Go.RowKit Go.Proofs.YtnpghcikhpglkaaW.PrintWords Go.Proofs.YtnpghcikhpglkaaW.PrintLast Go.Proofs.YtnpghcikhpglkaaW.PrintMore Go.Proofs.Ytnpghcikhpglkaa.Hand Go.Proofs.Ytnpghcikhpglkaa.Pu
set_option linter.unusedVariables false
set_option linter.unusedSimpArgs false

theorem rowL_from {W : World} {base p : Nat} {s : ByteArray} {n : Int} (hm : MayP s n) (h : RowIs W base p (bytesI s) n) : RowL W base p (ofS s n) := by
  refine ⟨?_, ofS_bits s n⟩
  rw [pack_ofS s n hm, ofS_length, Int.toNat_of_nonneg hm.1]
  exact h
/-- What laying a number's code does. -/
@[reducible] def LayP (kind v : Int) (c : List Int) : Prop := ∀ (W : World) (base p : Nat) (l : List Int), RowL W base p l → l.length ≤ 6000 → base ≤ W.heap.size →
    Calls Try.prog 104 #[.pointer (some ⟨p, 0, none⟩), .int .i64 kind, .int .i64 v] W fun e w' => e = .returned (.tuple #[]) ∧ RowL w' base p (l ++ c) ∧ Below base W w'
set_option maxHeartbeats 4000000 in
set_option maxRecDepth 100000 in
theorem cput_no1 (s : ByteArray) (n kind v : Int) (w : World) (hm : ¬ MayP s n) :
    Calls Try.prog 58 #[.agg #[.string s, .int .i64 n], .int .i64 kind, .int .i64 v] w fun e w' => e = .returned (.tuple #[.agg #[.string ⟨#[]⟩, .int .i64 0], .int .i64 1]) ∧ Below w.heap.size w w' := by
  have hu := Try.underlying27
  have HS := Aside0.mk (start2 w (.cells #[.string s, .int .i64 n] 27) (.cells #[.string ⟨#[]⟩, .int .i64 0] 27))
  have HA := Aside0.mk HS.out.1
  have HR := Aside0.mk HS.out.2.1
  have HB := Aside0.mk HS.out.2.2.1
  clear HS
  have A := Aside0.mk (show bits_May.f s n = some false by rw [may_eq, decide_eq_false hm])
  clear hm
  go_enter Try.func58, Try.ntmps58
  go_wp2_with (first | ((with_reducible refine gate_callee (f := 86) rfl ?_); refine goesL_ (some 10) rfl rfl Try.func86 (by kernel_rfl) rfl #[.agg #[.string s, .int .i64 n]] rfl (by (try simp only [List.map_toArray, List.map_cons, List.map_nil]); first | done | rfl) ?_; (with_reducible refine (bits_May.calls s n false _ A.out).mono ?_); rintro e w3 ⟨rfl, hb3⟩; refine ⟨_, rfl, ?_⟩; have HAA := Aside0.mk (keep2 HA.out hb3 (blk_lt HA.out)); have HRR := Aside0.mk (keep2 HR.out hb3 (blk_lt HR.out)); have HBB := Aside0.mk (below_then HB.out HB.out.size hb3); (try clear a0 a1 g0 g1 c0 c1 f0 f1); clear HA HR HB; have HA := HAA; have HR := HRR; have HB := HBB; clear HAA HRR HBB; obtain ⟨a0, a1, g0, g1⟩ := two_cells HA.out; obtain ⟨c0, c1, f0, f1⟩ := two_cells HR.out; clear hb3))
  refine bodyPost_ret (results_list (rs := [.cell 6 27, .tmp 7]) rfl (by simp) (.cell (w.heap.size + 1) 27 #[.string ⟨#[]⟩, .int .i64 0] (0, 0) _ rfl (put2 HR.out) Try.underlying27 rfl (by kernel_rfl) (.tmp .nil))) rfl ⟨rfl, below_put2 HB.out (by omega) _ _⟩
set_option maxHeartbeats 4000000 in
set_option maxRecDepth 100000 in
theorem cput_no2 (s : ByteArray) (n kind v : Int) (w : World) (hm : MayP s n) (hi : code_Is.f kind = some false) :
    Calls Try.prog 58 #[.agg #[.string s, .int .i64 n], .int .i64 kind, .int .i64 v] w fun e w' => e = .returned (.tuple #[.agg #[.string ⟨#[]⟩, .int .i64 0], .int .i64 1]) ∧ Below w.heap.size w w' := by
  have hu := Try.underlying27
  have HS := Aside0.mk (start2 w (.cells #[.string s, .int .i64 n] 27) (.cells #[.string ⟨#[]⟩, .int .i64 0] 27))
  have HA := Aside0.mk HS.out.1
  have HR := Aside0.mk HS.out.2.1
  have HB := Aside0.mk HS.out.2.2.1
  clear HS
  have A := Aside0.mk (show bits_May.f s n = some true by rw [may_eq, decide_eq_true hm])
  have AI := Aside0.mk hi
  clear hm hi
  go_enter Try.func58, Try.ntmps58
  go_wp2_with (first | ((with_reducible refine gate_callee (f := 86) rfl ?_); refine goesL_ (some 10) rfl rfl Try.func86 (by kernel_rfl) rfl #[.agg #[.string s, .int .i64 n]] rfl (by (try simp only [List.map_toArray, List.map_cons, List.map_nil]); first | done | rfl) ?_; (with_reducible refine (bits_May.calls s n true _ A.out).mono ?_); rintro e w3 ⟨rfl, hb3⟩; refine ⟨_, rfl, ?_⟩; have HAA := Aside0.mk (keep2 HA.out hb3 (blk_lt HA.out)); have HRR := Aside0.mk (keep2 HR.out hb3 (blk_lt HR.out)); have HBB := Aside0.mk (below_then HB.out HB.out.size hb3); (try clear a0 a1 g0 g1 c0 c1 f0 f1); clear HA HR HB; have HA := HAA; have HR := HRR; have HB := HBB; clear HAA HRR HBB; obtain ⟨a0, a1, g0, g1⟩ := two_cells HA.out; obtain ⟨c0, c1, f0, f1⟩ := two_cells HR.out; clear hb3) | (go_at_call 102; ((with_reducible refine (code_Is.calls kind false _ AI.out).mono ?_); rintro e w3 ⟨rfl, hd3⟩); have hb3 := hd3.below; clear hd3; have HAA := Aside0.mk (keep2 HA.out hb3 (blk_lt HA.out)); have HRR := Aside0.mk (keep2 HR.out hb3 (blk_lt HR.out)); have HBB := Aside0.mk (below_then HB.out HB.out.size hb3); (try clear a0 a1 g0 g1 c0 c1 f0 f1); clear HA HR HB; have HA := HAA; have HR := HRR; have HB := HBB; clear HAA HRR HBB; obtain ⟨a0, a1, g0, g1⟩ := two_cells HA.out; obtain ⟨c0, c1, f0, f1⟩ := two_cells HR.out; clear hb3))
  refine bodyPost_ret (results_list (rs := [.cell 6 27, .tmp 7]) rfl (by simp) (.cell (w.heap.size + 1) 27 #[.string ⟨#[]⟩, .int .i64 0] (0, 0) _ rfl (put2 HR.out) Try.underlying27 rfl (by kernel_rfl) (.tmp .nil))) rfl ⟨rfl, below_put2 HB.out (by omega) _ _⟩
set_option maxHeartbeats 4000000 in
set_option maxRecDepth 100000 in
theorem cput_no3 (s : ByteArray) (n kind v : Int) (w : World) (hm : MayP s n) (hi : code_Is.f kind = some true) (hv : code_number.f kind v = some false) :
    Calls Try.prog 58 #[.agg #[.string s, .int .i64 n], .int .i64 kind, .int .i64 v] w fun e w' => e = .returned (.tuple #[.agg #[.string ⟨#[]⟩, .int .i64 0], .int .i64 1]) ∧ Below w.heap.size w w' := by
  have hu := Try.underlying27
  have HS := Aside0.mk (start2 w (.cells #[.string s, .int .i64 n] 27) (.cells #[.string ⟨#[]⟩, .int .i64 0] 27))
  have HA := Aside0.mk HS.out.1
  have HR := Aside0.mk HS.out.2.1
  have HB := Aside0.mk HS.out.2.2.1
  clear HS
  have A := Aside0.mk (show bits_May.f s n = some true by rw [may_eq, decide_eq_true hm])
  have AI := Aside0.mk hi
  have AN := Aside0.mk hv
  clear hm hi hv
  go_enter Try.func58, Try.ntmps58
  go_wp2_with (first | ((with_reducible refine gate_callee (f := 86) rfl ?_); refine goesL_ (some 10) rfl rfl Try.func86 (by kernel_rfl) rfl #[.agg #[.string s, .int .i64 n]] rfl (by (try simp only [List.map_toArray, List.map_cons, List.map_nil]); first | done | rfl) ?_; (with_reducible refine (bits_May.calls s n true _ A.out).mono ?_); rintro e w3 ⟨rfl, hb3⟩; refine ⟨_, rfl, ?_⟩; have HAA := Aside0.mk (keep2 HA.out hb3 (blk_lt HA.out)); have HRR := Aside0.mk (keep2 HR.out hb3 (blk_lt HR.out)); have HBB := Aside0.mk (below_then HB.out HB.out.size hb3); (try clear a0 a1 g0 g1 c0 c1 f0 f1); clear HA HR HB; have HA := HAA; have HR := HRR; have HB := HBB; clear HAA HRR HBB; obtain ⟨a0, a1, g0, g1⟩ := two_cells HA.out; obtain ⟨c0, c1, f0, f1⟩ := two_cells HR.out; clear hb3) | (go_at_call 102; ((with_reducible refine (code_Is.calls kind true _ AI.out).mono ?_); rintro e w3 ⟨rfl, hd3⟩); have hb3 := hd3.below; clear hd3; have HAA := Aside0.mk (keep2 HA.out hb3 (blk_lt HA.out)); have HRR := Aside0.mk (keep2 HR.out hb3 (blk_lt HR.out)); have HBB := Aside0.mk (below_then HB.out HB.out.size hb3); (try clear a0 a1 g0 g1 c0 c1 f0 f1); clear HA HR HB; have HA := HAA; have HR := HRR; have HB := HBB; clear HAA HRR HBB; obtain ⟨a0, a1, g0, g1⟩ := two_cells HA.out; obtain ⟨c0, c1, f0, f1⟩ := two_cells HR.out; clear hb3) | (go_at_call 103; ((with_reducible refine (code_number.calls kind v false _ AN.out).mono ?_); rintro e w3 ⟨rfl, hd3⟩); have hb3 := hd3.below; clear hd3; have HAA := Aside0.mk (keep2 HA.out hb3 (blk_lt HA.out)); have HRR := Aside0.mk (keep2 HR.out hb3 (blk_lt HR.out)); have HBB := Aside0.mk (below_then HB.out HB.out.size hb3); (try clear a0 a1 g0 g1 c0 c1 f0 f1); clear HA HR HB; have HA := HAA; have HR := HRR; have HB := HBB; clear HAA HRR HBB; obtain ⟨a0, a1, g0, g1⟩ := two_cells HA.out; obtain ⟨c0, c1, f0, f1⟩ := two_cells HR.out; clear hb3))
  refine bodyPost_ret (results_list (rs := [.cell 6 27, .tmp 7]) rfl (by simp) (.cell (w.heap.size + 1) 27 #[.string ⟨#[]⟩, .int .i64 0] (0, 0) _ rfl (put2 HR.out) Try.underlying27 rfl (by kernel_rfl) (.tmp .nil))) rfl ⟨rfl, below_put2 HB.out (by omega) _ _⟩
set_option maxHeartbeats 4000000 in
set_option maxRecDepth 100000 in
theorem cput_yes (s : ByteArray) (n kind v : Int) (c : List Int) (m : Int) (w : World) (hmm : ((ofS s n ++ c).length : Int) = m) (hm : MayP s n) (hi : code_Is.f kind = some true) (hv : code_number.f kind v = some true) (hlay : LayP kind v c) (hle : m ≤ 6000) :
    Calls Try.prog 58 #[.agg #[.string s, .int .i64 n], .int .i64 kind, .int .i64 v] w fun e w' => e = .returned (.tuple #[.agg #[.string (packS (ofS s n ++ c)), .int .i64 m], .int .i64 0]) ∧ Below w.heap.size w w' := by
  have hu := Try.underlying27
  have HS := Aside0.mk (start2 w (.cells #[.string s, .int .i64 n] 27) (.cells #[.string ⟨#[]⟩, .int .i64 0] 27))
  have HA := Aside0.mk HS.out.1
  have HR := Aside0.mk HS.out.2.1
  have HB := Aside0.mk HS.out.2.2.1
  clear HS
  have A := Aside0.mk (show bits_May.f s n = some true by rw [may_eq, decide_eq_true hm])
  have AI := Aside0.mk hi
  have AN := Aside0.mk hv
  have HLAY := Aside0.mk hlay
  have HLE := Aside0.mk hle
  have HM := Aside0.mk hm
  have HMM := Aside0.mk hmm
  have HLEN : Aside0 ((ofS s n).length ≤ 6000) := ⟨by rw [ofS_length]; have := hm.2.1; omega⟩
  have hsz : s.size ≤ 1073741824 := by have := hm.2.2.1; have := hm.2.1; omega
  clear hm hi hv hlay hle hmm
  go_enter Try.func58, Try.ntmps58
  go_wp2_with (first | ((with_reducible refine gate_callee (f := 86) rfl ?_); refine goesL_ (some 10) rfl rfl Try.func86 (by kernel_rfl) rfl #[.agg #[.string s, .int .i64 n]] rfl (by (try simp only [List.map_toArray, List.map_cons, List.map_nil]); first | done | rfl) ?_; (with_reducible refine (bits_May.calls s n true _ A.out).mono ?_); rintro e w3 ⟨rfl, hb3⟩; refine ⟨_, rfl, ?_⟩; have HAA := Aside0.mk (keep2 HA.out hb3 (blk_lt HA.out)); have HRR := Aside0.mk (keep2 HR.out hb3 (blk_lt HR.out)); have HBB := Aside0.mk (below_then HB.out HB.out.size hb3); (try clear a0 a1 g0 g1 c0 c1 f0 f1); clear HA HR HB; have HA := HAA; have HR := HRR; have HB := HBB; clear HAA HRR HBB; obtain ⟨a0, a1, g0, g1⟩ := two_cells HA.out; obtain ⟨c0, c1, f0, f1⟩ := two_cells HR.out; clear hb3) | (go_at_call 102; ((with_reducible refine (code_Is.calls kind true _ AI.out).mono ?_); rintro e w3 ⟨rfl, hd3⟩); have hb3 := hd3.below; clear hd3; have HAA := Aside0.mk (keep2 HA.out hb3 (blk_lt HA.out)); have HRR := Aside0.mk (keep2 HR.out hb3 (blk_lt HR.out)); have HBB := Aside0.mk (below_then HB.out HB.out.size hb3); (try clear a0 a1 g0 g1 c0 c1 f0 f1); clear HA HR HB; have HA := HAA; have HR := HRR; have HB := HBB; clear HAA HRR HBB; obtain ⟨a0, a1, g0, g1⟩ := two_cells HA.out; obtain ⟨c0, c1, f0, f1⟩ := two_cells HR.out; clear hb3) | (go_at_call 103; ((with_reducible refine (code_number.calls kind v true _ AN.out).mono ?_); rintro e w3 ⟨rfl, hd3⟩); have hb3 := hd3.below; clear hd3; have HAA := Aside0.mk (keep2 HA.out hb3 (blk_lt HA.out)); have HRR := Aside0.mk (keep2 HR.out hb3 (blk_lt HR.out)); have HBB := Aside0.mk (below_then HB.out HB.out.size hb3); (try clear a0 a1 g0 g1 c0 c1 f0 f1); clear HA HR HB; have HA := HAA; have HR := HRR; have HB := HBB; clear HAA HRR HBB; obtain ⟨a0, a1, g0, g1⟩ := two_cells HA.out; obtain ⟨c0, c1, f0, f1⟩ := two_cells HR.out; clear hb3) | (go_at_call 88; have HBASE := Aside0.mk (blk_lt HR.out); ((with_reducible refine (from_ _ s n hsz).mono ?_); rintro e w3 ⟨p, rfl, hrow, hb3⟩); have HROW := Aside0.mk (rowL_from HM.out hrow); have HZ := Aside0.mk hb3.size; clear hrow; have HAA := Aside0.mk (keep2 HA.out hb3 (blk_lt HA.out)); have HRR := Aside0.mk (keep2 HR.out hb3 (blk_lt HR.out)); have HBB := Aside0.mk (below_then HB.out HB.out.size hb3); (try clear a0 a1 g0 g1 c0 c1 f0 f1); clear HA HR HB; have HA := HAA; have HR := HRR; have HB := HBB; clear HAA HRR HBB; obtain ⟨a0, a1, g0, g1⟩ := two_cells HA.out; obtain ⟨c0, c1, f0, f1⟩ := two_cells HR.out; clear hb3) | (go_at_call 104; ((with_reducible refine (HLAY.out _ _ p _ HROW.out HLEN.out HZ.out).mono ?_); rintro e w3 ⟨rfl, hrow3, hb3⟩); have HROW3 := Aside0.mk hrow3; have HAA := Aside0.mk (keep2 HA.out hb3 (Nat.lt_of_succ_lt HBASE.out)); have HRR := Aside0.mk (keep2 HR.out hb3 HBASE.out); have HBB := Aside0.mk (HB.out.trans (hb3.mono (Nat.le_of_lt (Nat.lt_of_succ_lt HBASE.out)))); clear a0 a1 g0 g1 c0 c1 f0 f1; clear HA HR HB hrow3 hb3 HROW; have HA := HAA; have HR := HRR; have HB := HBB; clear HAA HRR HBB; obtain ⟨a0, a1, g0, g1⟩ := two_cells HA.out; obtain ⟨c0, c1, f0, f1⟩ := two_cells HR.out))
  go_wp2_with (first | (go_at_call 90; ((with_reducible refine (row_bits_yes _ _ p _ m (HMM.out ▸ HROW3.out.out) HLE.out).mono ?_); rintro e w3 ⟨rfl, hb3⟩); have HAA := Aside0.mk (keep2 HA.out hb3 (blk_lt HA.out)); have HRR := Aside0.mk (keep2 HR.out hb3 (blk_lt HR.out)); have HBB := Aside0.mk (below_then HB.out HB.out.size hb3); (try clear a0 a1 g0 g1 c0 c1 f0 f1); clear HA HR HB; have HA := HAA; have HR := HRR; have HB := HBB; clear HAA HRR HBB; obtain ⟨a0, a1, g0, g1⟩ := two_cells HA.out; obtain ⟨c0, c1, f0, f1⟩ := two_cells HR.out; clear hb3))
  refine bodyPost_ret (results_list (rs := [.cell 6 27, .tmp 7]) rfl (by simp) (.cell (w.heap.size + 1) 27 #[.string (strOfNums (packL (ofS s n ++ c))), .int .i64 m] (0, 0) _ rfl (put2 HR.out) Try.underlying27 rfl (by kernel_rfl) (.tmp .nil))) rfl ⟨rfl, below_put2 HB.out (by omega) _ _⟩
set_option maxHeartbeats 4000000 in
set_option maxRecDepth 100000 in
theorem cput_no (s : ByteArray) (n kind v : Int) (c : List Int) (m : Int) (w : World) (hmm : ((ofS s n ++ c).length : Int) = m) (hm : MayP s n) (hi : code_Is.f kind = some true) (hv : code_number.f kind v = some true) (hlay : LayP kind v c) (hle : 6000 < m) :
    Calls Try.prog 58 #[.agg #[.string s, .int .i64 n], .int .i64 kind, .int .i64 v] w fun e w' => e = .returned (.tuple #[.agg #[.string ⟨#[]⟩, .int .i64 0], .int .i64 2]) ∧ Below w.heap.size w w' := by
  have hu := Try.underlying27
  have HS := Aside0.mk (start2 w (.cells #[.string s, .int .i64 n] 27) (.cells #[.string ⟨#[]⟩, .int .i64 0] 27))
  have HA := Aside0.mk HS.out.1
  have HR := Aside0.mk HS.out.2.1
  have HB := Aside0.mk HS.out.2.2.1
  clear HS
  have A := Aside0.mk (show bits_May.f s n = some true by rw [may_eq, decide_eq_true hm])
  have AI := Aside0.mk hi
  have AN := Aside0.mk hv
  have HLAY := Aside0.mk hlay
  have HLE := Aside0.mk hle
  have HM := Aside0.mk hm
  have HMM := Aside0.mk hmm
  have HLEN : Aside0 ((ofS s n).length ≤ 6000) := ⟨by rw [ofS_length]; have := hm.2.1; omega⟩
  have hsz : s.size ≤ 1073741824 := by have := hm.2.2.1; have := hm.2.1; omega
  clear hm hi hv hlay hle hmm
  go_enter Try.func58, Try.ntmps58
  go_wp2_with (first | ((with_reducible refine gate_callee (f := 86) rfl ?_); refine goesL_ (some 10) rfl rfl Try.func86 (by kernel_rfl) rfl #[.agg #[.string s, .int .i64 n]] rfl (by (try simp only [List.map_toArray, List.map_cons, List.map_nil]); first | done | rfl) ?_; (with_reducible refine (bits_May.calls s n true _ A.out).mono ?_); rintro e w3 ⟨rfl, hb3⟩; refine ⟨_, rfl, ?_⟩; have HAA := Aside0.mk (keep2 HA.out hb3 (blk_lt HA.out)); have HRR := Aside0.mk (keep2 HR.out hb3 (blk_lt HR.out)); have HBB := Aside0.mk (below_then HB.out HB.out.size hb3); (try clear a0 a1 g0 g1 c0 c1 f0 f1); clear HA HR HB; have HA := HAA; have HR := HRR; have HB := HBB; clear HAA HRR HBB; obtain ⟨a0, a1, g0, g1⟩ := two_cells HA.out; obtain ⟨c0, c1, f0, f1⟩ := two_cells HR.out; clear hb3) | (go_at_call 102; ((with_reducible refine (code_Is.calls kind true _ AI.out).mono ?_); rintro e w3 ⟨rfl, hd3⟩); have hb3 := hd3.below; clear hd3; have HAA := Aside0.mk (keep2 HA.out hb3 (blk_lt HA.out)); have HRR := Aside0.mk (keep2 HR.out hb3 (blk_lt HR.out)); have HBB := Aside0.mk (below_then HB.out HB.out.size hb3); (try clear a0 a1 g0 g1 c0 c1 f0 f1); clear HA HR HB; have HA := HAA; have HR := HRR; have HB := HBB; clear HAA HRR HBB; obtain ⟨a0, a1, g0, g1⟩ := two_cells HA.out; obtain ⟨c0, c1, f0, f1⟩ := two_cells HR.out; clear hb3) | (go_at_call 103; ((with_reducible refine (code_number.calls kind v true _ AN.out).mono ?_); rintro e w3 ⟨rfl, hd3⟩); have hb3 := hd3.below; clear hd3; have HAA := Aside0.mk (keep2 HA.out hb3 (blk_lt HA.out)); have HRR := Aside0.mk (keep2 HR.out hb3 (blk_lt HR.out)); have HBB := Aside0.mk (below_then HB.out HB.out.size hb3); (try clear a0 a1 g0 g1 c0 c1 f0 f1); clear HA HR HB; have HA := HAA; have HR := HRR; have HB := HBB; clear HAA HRR HBB; obtain ⟨a0, a1, g0, g1⟩ := two_cells HA.out; obtain ⟨c0, c1, f0, f1⟩ := two_cells HR.out; clear hb3) | (go_at_call 88; have HBASE := Aside0.mk (blk_lt HR.out); ((with_reducible refine (from_ _ s n hsz).mono ?_); rintro e w3 ⟨p, rfl, hrow, hb3⟩); have HROW := Aside0.mk (rowL_from HM.out hrow); have HZ := Aside0.mk hb3.size; clear hrow; have HAA := Aside0.mk (keep2 HA.out hb3 (blk_lt HA.out)); have HRR := Aside0.mk (keep2 HR.out hb3 (blk_lt HR.out)); have HBB := Aside0.mk (below_then HB.out HB.out.size hb3); (try clear a0 a1 g0 g1 c0 c1 f0 f1); clear HA HR HB; have HA := HAA; have HR := HRR; have HB := HBB; clear HAA HRR HBB; obtain ⟨a0, a1, g0, g1⟩ := two_cells HA.out; obtain ⟨c0, c1, f0, f1⟩ := two_cells HR.out; clear hb3) | (go_at_call 104; ((with_reducible refine (HLAY.out _ _ p _ HROW.out HLEN.out HZ.out).mono ?_); rintro e w3 ⟨rfl, hrow3, hb3⟩); have HROW3 := Aside0.mk hrow3; have HAA := Aside0.mk (keep2 HA.out hb3 (Nat.lt_of_succ_lt HBASE.out)); have HRR := Aside0.mk (keep2 HR.out hb3 HBASE.out); have HBB := Aside0.mk (HB.out.trans (hb3.mono (Nat.le_of_lt (Nat.lt_of_succ_lt HBASE.out)))); clear a0 a1 g0 g1 c0 c1 f0 f1; clear HA HR HB hrow3 hb3 HROW; have HA := HAA; have HR := HRR; have HB := HBB; clear HAA HRR HBB; obtain ⟨a0, a1, g0, g1⟩ := two_cells HA.out; obtain ⟨c0, c1, f0, f1⟩ := two_cells HR.out))
  go_wp2_with (first | (go_at_call 90; ((with_reducible refine (row_bits_no _ _ p _ m (HMM.out ▸ HROW3.out.out) HLE.out).mono ?_); rintro e w3 ⟨rfl, hb3⟩); have HAA := Aside0.mk (keep2 HA.out hb3 (blk_lt HA.out)); have HRR := Aside0.mk (keep2 HR.out hb3 (blk_lt HR.out)); have HBB := Aside0.mk (below_then HB.out HB.out.size hb3); (try clear a0 a1 g0 g1 c0 c1 f0 f1); clear HA HR HB; have HA := HAA; have HR := HRR; have HB := HBB; clear HAA HRR HBB; obtain ⟨a0, a1, g0, g1⟩ := two_cells HA.out; obtain ⟨c0, c1, f0, f1⟩ := two_cells HR.out; clear hb3))
  refine bodyPost_ret (results_list (rs := [.cell 6 27, .tmp 7]) rfl (by simp) (.cell (w.heap.size + 1) 27 #[.string ⟨#[]⟩, .int .i64 0] (0, 0) _ rfl (put2 HR.out) Try.underlying27 rfl (by kernel_rfl) (.tmp .nil))) rfl ⟨rfl, below_put2 HB.out (by omega) _ _⟩
end Go.Proofs.Ytnpghcikhpglkaa.Q
namespace Go.Proofs.Ytnpghcikhpglkaa.Q
open Go.RowKit Go.Proofs.YtnpghcikhpglkaaW.PrintWords Go.Proofs.YtnpghcikhpglkaaW.PrintLast Go.Proofs.YtnpghcikhpglkaaW.PrintMore Go.Proofs.Ytnpghcikhpglkaa.Hand Go.Proofs.Ytnpghcikhpglkaa.Pu
set_option linter.unusedVariables false
set_option linter.unusedSimpArgs false

theorem rowL_new (W : World) : RowL (W.alloc (.cells #[.slice none 0 0, .int .i64 0] 116)) W.heap.size W.heap.size [] :=
  ⟨⟨_, heap_alloc_new W _, OwnB.nil _ _, Nat.le_refl _⟩, IsBits.nil⟩
set_option maxHeartbeats 4000000 in
set_option maxRecDepth 100000 in
theorem csize_no1 (kind v : Int) (w : World) (hi : code_Is.f kind = some false) :
    Calls Try.prog 64 #[.int .i64 kind, .int .i64 v] w fun e w' => e = .returned (.tuple #[.int .i64 0, .int .i64 1]) ∧ Below w.heap.size w w' := by
  have HB := Aside0.mk (Below.refl w.heap.size w)
  have AI := Aside0.mk hi
  clear hi
  go_enter Try.func64, Try.ntmps64
  go_wp2_with (first | (go_at_call 102; ((with_reducible refine (code_Is.calls kind false _ AI.out).mono ?_); rintro e w3 ⟨rfl, hd3⟩); have hb3 := hd3.below; clear hd3; have HBB := Aside0.mk (below_then HB.out HB.out.size hb3); clear HB; have HB := HBB; clear HBB hb3))
  refine bodyPost_ret (results_list (rs := [.tmp 4, .tmp 5]) rfl (by simp) (.tmp (.tmp .nil))) rfl ⟨rfl, HB.out⟩
set_option maxHeartbeats 4000000 in
set_option maxRecDepth 100000 in
theorem csize_no2 (kind v : Int) (w : World) (hi : code_Is.f kind = some true) (hv : code_number.f kind v = some false) :
    Calls Try.prog 64 #[.int .i64 kind, .int .i64 v] w fun e w' => e = .returned (.tuple #[.int .i64 0, .int .i64 1]) ∧ Below w.heap.size w w' := by
  have HB := Aside0.mk (Below.refl w.heap.size w)
  have AI := Aside0.mk hi
  have AN := Aside0.mk hv
  clear hi hv
  go_enter Try.func64, Try.ntmps64
  go_wp2_with (first | (go_at_call 102; ((with_reducible refine (code_Is.calls kind true _ AI.out).mono ?_); rintro e w3 ⟨rfl, hd3⟩); have hb3 := hd3.below; clear hd3; have HBB := Aside0.mk (below_then HB.out HB.out.size hb3); clear HB; have HB := HBB; clear HBB hb3) | (go_at_call 103; ((with_reducible refine (code_number.calls kind v false _ AN.out).mono ?_); rintro e w4 ⟨rfl, hd3⟩); have hb3 := hd3.below; clear hd3; have HBB := Aside0.mk (below_then HB.out HB.out.size hb3); clear HB; have HB := HBB; clear HBB hb3))
  refine bodyPost_ret (results_list (rs := [.tmp 4, .tmp 5]) rfl (by simp) (.tmp (.tmp .nil))) rfl ⟨rfl, HB.out⟩
set_option maxHeartbeats 4000000 in
set_option maxRecDepth 100000 in
theorem csize_yes (kind v : Int) (c : List Int) (m : Int) (w : World) (hmm : (([] ++ c : List Int).length : Int) = m) (hi : code_Is.f kind = some true) (hv : code_number.f kind v = some true) (hlay : LayP kind v c) :
    Calls Try.prog 64 #[.int .i64 kind, .int .i64 v] w fun e w' => e = .returned (.tuple #[.int .i64 m, .int .i64 0]) ∧ Below w.heap.size w w' := by
  have HB := Aside0.mk (Below.refl w.heap.size w)
  have AI := Aside0.mk hi
  have AN := Aside0.mk hv
  have HLAY := Aside0.mk hlay
  have HMM := Aside0.mk hmm
  clear hi hv hlay hmm
  go_enter Try.func64, Try.ntmps64
  go_wp2_with (first | (go_at_call 102; ((with_reducible refine (code_Is.calls kind true _ AI.out).mono ?_); rintro e w3 ⟨rfl, hd3⟩); have hb3 := hd3.below; clear hd3; have HBB := Aside0.mk (below_then HB.out HB.out.size hb3); clear HB; have HB := HBB; clear HBB hb3) | (go_at_call 103; ((with_reducible refine (code_number.calls kind v true _ AN.out).mono ?_); rintro e w4 ⟨rfl, hd3⟩); have hb3 := hd3.below; clear hd3; have HBB := Aside0.mk (below_then HB.out HB.out.size hb3); clear HB; have HB := HBB; clear HBB hb3) | (go_at_call 104; ((with_reducible refine (HLAY.out _ _ _ [] (rowL_new _) (by simp) (by simp)).mono ?_); rintro e w5 ⟨rfl, hrow3, hb3⟩); have HROW3 := Aside0.mk hrow3; have HBB := Aside0.mk ((HB.out.alloc HB.out.size _).trans (hb3.mono HB.out.size)); clear HB hrow3 hb3; have HB := HBB; clear HBB) | (go_at_call 109; ((with_reducible refine (row_size _ _ _ _ m (HMM.out ▸ HROW3.out.out)).mono ?_); rintro e w6 ⟨rfl, rfl⟩)))
  refine bodyPost_ret (results_list (rs := [.tmp 4, .tmp 5]) rfl (by simp) (.tmp (.tmp .nil))) rfl ⟨rfl, HB.out⟩
end Go.Proofs.Ytnpghcikhpglkaa.Q
namespace Go.Proofs.Ytnpghcikhpglkaa.Q
open Go.RowKit Go.Proofs.YtnpghcikhpglkaaW.PrintWords Go.Proofs.YtnpghcikhpglkaaW.PrintLast Go.Proofs.YtnpghcikhpglkaaW.PrintMore Go.Proofs.Ytnpghcikhpglkaa.Hand Go.Proofs.Ytnpghcikhpglkaa.Pu
set_option linter.unusedVariables false
set_option linter.unusedSimpArgs false

def ztGood (kk h : Nat) (q : Int × Int × Int × Int) : Bool :=
  q.1 == ((2 ^ (h * kk) : Nat) : Int) && (q.2.1 == ((2 ^ (h * kk + kk) : Nat) : Int) - ((2 ^ (h * kk) : Nat) : Int) && (Nat.ble 1 q.2.2.1.toNat && (Nat.ble q.2.2.1.toNat 40 && (q.2.2.1 == (q.2.2.1.toNat : Int) && (q.2.2.2 == ((2 ^ q.2.2.1.toNat : Nat) : Int) - q.2.1 && (q.2.2.2 == (q.2.2.2.toNat : Int) && Nat.ble q.2.2.2.toNat 2147483648))))))
def ztOk (kk : Nat) (h : Nat) : Bool := (code_zeta.f (kk : Int) (h : Int)).any (ztGood kk h)
theorem zt2 : ∀ h : Fin 16, ztOk 2 h.val = true := by decide +kernel
theorem zt3 : ∀ h : Fin 11, ztOk 3 h.val = true := by decide +kernel
theorem zt_facts {kk h : Nat} (ho : ztOk kk h = true) : ∃ low many size short : Int, code_zeta.f (kk : Int) (h : Int) = some (low, many, size, short) ∧ low = ((2 ^ (h * kk) : Nat) : Int) ∧ many = ((2 ^ (h * kk + kk) : Nat) : Int) - ((2 ^ (h * kk) : Nat) : Int) ∧ 1 ≤ size ∧ size ≤ 40 ∧ 0 ≤ short ∧ short = ((2 ^ size.toNat : Nat) : Int) - many ∧ short ≤ 2147483648 := by
  unfold ztOk at ho
  generalize code_zeta.f (kk : Int) (h : Int) = o at ho
  cases o with
  | none => cases ho
  | some q =>
    obtain ⟨low, many, size, short⟩ := q
    refine ⟨low, many, size, short, rfl, ?_⟩
    have hg : ztGood kk h (low, many, size, short) = true := ho
    clear ho
    unfold ztGood at hg
    simp only [Bool.and_eq_true, beq_iff_eq, Nat.ble_eq] at hg
    obtain ⟨h1, h2, h3, h4, h5, h6, h7, h8⟩ := hg
    exact ⟨h1, h2, by omega, by omega, by omega, h6, by omega⟩
def zetaL (kk n : Int) : List Int := match code_zeta.f kk (Int.tdiv (lg n) kk) with
  | some (low, _, size, short) => unaryL (Int.tdiv (lg n) kk + 1) ++ (if n - low < short then putL (size - 1).toNat (n - low) else putL size.toNat (n - low + short))
  | none => []
/-- A number's code. -/
def layL (kind n : Int) : List Int := if kind = 1 then unaryL n else if kind = 2 then gammaL n else if kind = 3 then deltaL n else if kind = 4 then zetaL 2 n else zetaL 3 n
theorem low_le {n : Int} {h kk : Nat} (h0 : 1 ≤ n) (h1 : n ≤ 1073741824) (hh : (h : Int) = lg n / (kk : Int)) (hk : 1 ≤ kk) : ((2 ^ (h * kk) : Nat) : Int) ≤ n := by
  obtain ⟨_, g0, g1, g2, g3⟩ := lg_facts n h0 h1
  obtain ⟨g, hg⟩ := Int.eq_ofNat_of_zero_le g0
  rw [hg] at hh g2
  rw [Int.toNat_natCast] at g2
  have hh' : h = g / kk := by exact_mod_cast hh
  have hle : h * kk ≤ g := by rw [hh']; exact Nat.div_mul_le_self g kk
  have := Nat.pow_le_pow_right (n := 2) (by decide) hle
  have h2 : ((2 ^ (h * kk) : Nat) : Int) ≤ ((2 ^ g : Nat) : Int) := by exact_mod_cast this
  have h3 : (((2 : Nat) ^ g : Nat) : Int) = (2 : Int) ^ g := Int.natCast_pow 2 g
  rw [h3] at h2
  exact Int.le_trans h2 g2
theorem lay_p (kind n : Int) (hk : code_Is.f kind = some true) (hn : code_number.f kind n = some true) : LayP kind n (layL kind n) := by
  have hk1 : 1 ≤ kind ∧ kind ≤ 5 := by
    unfold code_Is.f at hk
    split at hk
    · simp only [Option.some.injEq, decide_eq_true_eq] at hk; omega
    · simp at hk
  have hn1 : 1 ≤ n ∧ n ≤ 1073741824 ∧ (kind = 1 → n ≤ 1000) := by
    unfold code_number.f at hn
    split at hn
    · split at hn
      · simp only [Option.some.injEq, decide_eq_true_eq] at hn; omega
      · simp at hn
    · split at hn
      · simp only [Option.some.injEq, decide_eq_true_eq] at hn; omega
      · simp at hn
  obtain ⟨hn0, hn2, hn3⟩ := hn1
  obtain ⟨hlog, g0, g1, g2, g3⟩ := lg_facts n hn0 hn2
  intro W base p l hrow hl hbase
  have hkk : kind = 1 ∨ kind = 2 ∨ kind = 3 ∨ kind = 4 ∨ kind = 5 := by omega
  rcases hkk with rfl | rfl | rfl | rfl | rfl
  · exact lay_unary W base p l n hrow hn0 (hn3 rfl) (by omega) hbase
  · exact lay_gamma W base p l n hrow hn0 hn2 (by omega) hbase
  · exact lay_delta W base p l n hrow hn0 hn2 (by omega) hbase
  · obtain ⟨h, hh⟩ := Int.eq_ofNat_of_zero_le (show 0 ≤ lg n / 2 by omega)
    have ht : Int.tdiv (lg n) 2 = (h : Int) := by rw [Int.tdiv_eq_ediv_of_nonneg g0]; exact hh
    obtain ⟨low, many, size, short, e, e1, e2, e3, e4, e5, e6, e7⟩ := zt_facts (zt2 ⟨h, by omega⟩)
    simp only at e e1
    have hlow : low ≤ n := by rw [e1]; exact low_le hn0 hn2 hh.symm (by omega)
    have hp : 0 < 2 ^ (h * 2) := Nat.pow_pos (by decide)
    have e' : code_zeta.f 2 (Int.tdiv (lg n) 2) = some (low, many, size, short) := by rw [ht]; exact e
    exact lay_zeta2 W base p l n (lg n) low many size short (layL 4 n) hrow hn0 hn2 (by omega) hbase hlog g0 g1 e' (by omega) hlow e3 (by omega) e5 (by omega) (by unfold layL zetaL; rw [if_neg (by decide), if_neg (by decide), if_neg (by decide), if_pos rfl, e'])
  · obtain ⟨h, hh⟩ := Int.eq_ofNat_of_zero_le (show 0 ≤ lg n / 3 by omega)
    have ht : Int.tdiv (lg n) 3 = (h : Int) := by rw [Int.tdiv_eq_ediv_of_nonneg g0]; exact hh
    obtain ⟨low, many, size, short, e, e1, e2, e3, e4, e5, e6, e7⟩ := zt_facts (zt3 ⟨h, by omega⟩)
    simp only at e e1
    have hlow : low ≤ n := by rw [e1]; exact low_le hn0 hn2 hh.symm (by omega)
    have hp : 0 < 2 ^ (h * 3) := Nat.pow_pos (by decide)
    have e' : code_zeta.f 3 (Int.tdiv (lg n) 3) = some (low, many, size, short) := by rw [ht]; exact e
    exact lay_zeta3 W base p l n (lg n) low many size short (layL 5 n) hrow hn0 hn2 (by omega) hbase hlog g0 g1 e' (by omega) hlow e3 (by omega) e5 (by omega) (by unfold layL zetaL; rw [if_neg (by decide), if_neg (by decide), if_neg (by decide), if_neg (by decide), e'])

/-- code.Put. -/
def code_Put.f (s : ByteArray) (n kind v : Int) : Option (ByteArray × Int × Int) :=
  if MayP s n then (code_Is.f kind).bind fun i => if i = true then (code_number.f kind v).bind fun m => if m = true then
    (if ((ofS s n ++ layL kind v).length : Int) ≤ 6000 then some (packS (ofS s n ++ layL kind v), ((ofS s n ++ layL kind v).length : Int), 0) else some (⟨#[]⟩, 0, 2)) else some (⟨#[]⟩, 0, 1) else some (⟨#[]⟩, 0, 1)
  else some (⟨#[]⟩, 0, 1)
theorem code_Put.calls (s : ByteArray) (n kind v : Int) (r1 : ByteArray) (r2 r3 : Int) (w : World) (h : code_Put.f s n kind v = some (r1, r2, r3)) :
    Calls Try.prog 58 #[.agg #[.string s, .int .i64 n], .int .i64 kind, .int .i64 v] w fun e w' => e = .returned (.tuple #[.agg #[.string r1, .int .i64 r2], .int .i64 r3]) ∧ Below w.heap.size w w' := by
  unfold code_Put.f at h
  split at h
  · rename_i hm
    obtain ⟨i, hi, h⟩ := Option.bind_eq_some_iff.1 h
    cases i with
    | false =>
      rw [if_neg (by simp)] at h
      simp only [Option.some.injEq, Prod.mk.injEq] at h
      obtain ⟨rfl, rfl, rfl⟩ := h
      exact cput_no2 s n kind v w hm hi
    | true =>
      rw [if_pos rfl] at h
      obtain ⟨m, hv, h⟩ := Option.bind_eq_some_iff.1 h
      cases m with
      | false =>
        rw [if_neg (by simp)] at h
        simp only [Option.some.injEq, Prod.mk.injEq] at h
        obtain ⟨rfl, rfl, rfl⟩ := h
        exact cput_no3 s n kind v w hm hi hv
      | true =>
        rw [if_pos rfl] at h
        split at h
        · rename_i hle
          simp only [Option.some.injEq, Prod.mk.injEq] at h
          obtain ⟨rfl, rfl, rfl⟩ := h
          exact cput_yes s n kind v (layL kind v) _ w rfl hm hi hv (lay_p kind v hi hv) hle
        · rename_i hle
          simp only [Option.some.injEq, Prod.mk.injEq] at h
          obtain ⟨rfl, rfl, rfl⟩ := h
          exact cput_no s n kind v (layL kind v) _ w rfl hm hi hv (lay_p kind v hi hv) (by omega)
  · rename_i hm
    simp only [Option.some.injEq, Prod.mk.injEq] at h
    obtain ⟨rfl, rfl, rfl⟩ := h
    exact cput_no1 s n kind v w hm
/-- code.Size. -/
def code_Size.f (kind v : Int) : Option (Int × Int) :=
  (code_Is.f kind).bind fun i => if i = true then (code_number.f kind v).bind fun m => if m = true then some (((layL kind v).length : Int), 0) else some (0, 1) else some (0, 1)
theorem code_Size.calls (kind v r1 r2 : Int) (w : World) (h : code_Size.f kind v = some (r1, r2)) :
    Calls Try.prog 64 #[.int .i64 kind, .int .i64 v] w fun e w' => e = .returned (.tuple #[.int .i64 r1, .int .i64 r2]) ∧ Below w.heap.size w w' := by
  unfold code_Size.f at h
  obtain ⟨i, hi, h⟩ := Option.bind_eq_some_iff.1 h
  cases i with
  | false =>
    rw [if_neg (by simp)] at h
    simp only [Option.some.injEq, Prod.mk.injEq] at h
    obtain ⟨rfl, rfl⟩ := h
    exact csize_no1 kind v w hi
  | true =>
    rw [if_pos rfl] at h
    obtain ⟨m, hv, h⟩ := Option.bind_eq_some_iff.1 h
    cases m with
    | false =>
      rw [if_neg (by simp)] at h
      simp only [Option.some.injEq, Prod.mk.injEq] at h
      obtain ⟨rfl, rfl⟩ := h
      exact csize_no2 kind v w hi hv
    | true =>
      rw [if_pos rfl] at h
      simp only [Option.some.injEq, Prod.mk.injEq] at h
      obtain ⟨rfl, rfl⟩ := h
      exact csize_yes kind v (layL kind v) _ w (by rw [List.nil_append]) hi hv (lay_p kind v hi hv)
end Go.Proofs.Ytnpghcikhpglkaa.Q
namespace Go.Proofs.Ytnpghcikhpglkaa.Q
open Go.RowKit Go.Proofs.YtnpghcikhpglkaaW.PrintWords Go.Proofs.YtnpghcikhpglkaaW.PrintLast Go.Proofs.YtnpghcikhpglkaaW.PrintMore
attribute [local go_sem] max2_int min2_int max_two min_two max_three min_three max_four min_four   -- for this text's walks alone
set_option linter.unusedVariables false
set_option linter.unusedSimpArgs false

attribute [local go_sem high] eqA27
/-! ### herbariumlaw2_wakes: function 62 -/
def herbariumlaw2_wakes.f (k : Nat)  : Option (Bool) := (code_Put.f (⟨#[]⟩ : ByteArray) 0 2 5).bind fun bt785 => ((code_Take.f k bt785.1 bt785.2.1 0 2).bind fun bt789 => ((herbariumlaw2_num.f bt785.2.2).bind fun t792 => (if t792 = 0 then ((herbariumlaw2_num.f bt789.2.2).bind fun t793 => (if t793 = 0 then (if (bt785.1.toList == ([40] : List UInt8) && (bt785.2.1 == 5)) = true then (if bt789.1 = 5 then (some (bt789.2.1 == 5)) else (some false)) else (some false)) else (some false))) else (some false))))
theorem herbariumlaw2_wakes.mono : ∀ k, LeO (herbariumlaw2_wakes.f k ) (herbariumlaw2_wakes.f (k + 1) ) := by
  intro  k
  unfold herbariumlaw2_wakes.f
  repeat' first
      | (with_reducible exact code_Take.mono _ _ _ _ _)
      | (with_reducible exact LeO.refl _)
      | (with_reducible exact LeO.none _)
      | (with_reducible refine LeO.ite ?_ ?_)
      | (with_reducible refine LeO.bind ?_ (fun _ => ?_))
      | exact code_Take.mono _ _ _ _ _
      | exact LeO.none _
      | refine LeO.ite ?_ ?_
      | refine LeO.bind ?_ (fun _ => ?_)
set_option maxHeartbeats 8000000 in
set_option maxRecDepth 100000 in
theorem herbariumlaw2_wakes.calls (k : Nat)  (r : Bool) (w : World) (h : herbariumlaw2_wakes.f k  = some r) :
    Calls Try.prog 62 #[] w fun e w' => e = .returned (.bool r) ∧ Below w.heap.size w w' := by
  have hu27 := Try.underlying27
  have HB := Aside0.mk (Below.refl w.heap.size w)
  have H : ((code_Put.f (⟨#[]⟩ : ByteArray) 0 2 5).bind fun bt785 => ((code_Take.f k bt785.1 bt785.2.1 0 2).bind fun bt789 => ((herbariumlaw2_num.f bt785.2.2).bind fun t792 => (if t792 = 0 then ((herbariumlaw2_num.f bt789.2.2).bind fun t793 => (if t793 = 0 then (if (bt785.1.toList == ([40] : List UInt8) && (bt785.2.1 == 5)) = true then (if bt789.1 = 5 then (some (bt789.2.1 == 5)) else (some false)) else (some false)) else (some false))) else (some false))))) = some r := h
  clear h
  replace H := Option.bind_eq_some_iff.mp H
  obtain ⟨⟨t785, t786, t787⟩, A10, H⟩ := H
  replace H : ((code_Take.f k t785 t786 0 2).bind fun bt789 => ((herbariumlaw2_num.f t787).bind fun t792 => (if t792 = 0 then ((herbariumlaw2_num.f bt789.2.2).bind fun t793 => (if t793 = 0 then (if (t785.toList == ([40] : List UInt8) && (t786 == 5)) = true then (if bt789.1 = 5 then (some (bt789.2.1 == 5)) else (some false)) else (some false)) else (some false))) else (some false)))) = some r := H
  have A1 := Aside0.mk A10
  clear A10
  replace H := Option.bind_eq_some_iff.mp H
  obtain ⟨⟨t789, t790, t791⟩, A20, H⟩ := H
  replace H : ((herbariumlaw2_num.f t787).bind fun t792 => (if t792 = 0 then ((herbariumlaw2_num.f t791).bind fun t793 => (if t793 = 0 then (if (t785.toList == ([40] : List UInt8) && (t786 == 5)) = true then (if t789 = 5 then (some (t790 == 5)) else (some false)) else (some false)) else (some false))) else (some false))) = some r := H
  have A2 := Aside0.mk A20
  clear A20
  replace H := Option.bind_eq_some_iff.mp H
  obtain ⟨t792, A30, H⟩ := H
  replace H : (if t792 = 0 then ((herbariumlaw2_num.f t791).bind fun t793 => (if t793 = 0 then (if (t785.toList == ([40] : List UInt8) && (t786 == 5)) = true then (if t789 = 5 then (some (t790 == 5)) else (some false)) else (some false)) else (some false))) else (some false)) = some r := H
  have A3 := Aside0.mk A30
  clear A30
  by_cases c4 : t792 = 0
  · rw [if_pos c4] at H
    have c4b0 : (t792 == 0) = true := beq_iff_eq.mpr c4
    have c4b1 : (t792 != 0) = false := bne_eq_false_iff_eq.mpr c4
    clear c4
    replace H := Option.bind_eq_some_iff.mp H
    obtain ⟨t793, A50, H⟩ := H
    replace H : (if t793 = 0 then (if (t785.toList == ([40] : List UInt8) && (t786 == 5)) = true then (if t789 = 5 then (some (t790 == 5)) else (some false)) else (some false)) else (some false)) = some r := H
    have A5 := Aside0.mk A50
    clear A50
    by_cases c6 : t793 = 0
    · rw [if_pos c6] at H
      have c6b0 : (t793 == 0) = true := beq_iff_eq.mpr c6
      have c6b1 : (t793 != 0) = false := bne_eq_false_iff_eq.mpr c6
      clear c6
      by_cases c7 : (t785.toList == ([40] : List UInt8) && (t786 == 5)) = true
      · rw [if_pos c7] at H
        have c7b0 : (t785.toList == ([40] : List UInt8) && (t786 == 5)) = true := c7
        (try (have c7b1 : decide (t785.toList = ([40] : List UInt8) && (t786 == 5)) = true := by simpa using c7))
        (try (have c7b2 : (t785.toList == ([40] : List UInt8) && (t786 == 5)) = true := by simpa using c7))
        clear c7
        by_cases c8 : t789 = 5
        · rw [if_pos c8] at H
          have c8b0 : (t789 == 5) = true := beq_iff_eq.mpr c8
          have c8b1 : (t789 != 5) = false := bne_eq_false_iff_eq.mpr c8
          clear c8
          obtain rfl := Option.some.inj H
          go_enter Try.func62, Try.ntmps62
          go_wp2_with (first | ((with_reducible refine gate_callee (f := 58) rfl ?_); refine goesL_ (some 8) rfl rfl Try.func58 (by kernel_rfl) rfl #[.agg #[.string (⟨#[]⟩ : ByteArray), .int .i64 0], .int .i64 2, .int .i64 5] rfl (by (try simp only [List.map_toArray, List.map_cons, List.map_nil]); first | done | rfl | (simp only [List.length_drop, List.length_take]; rfl)) ?_; (with_reducible refine (code_Put.calls (⟨#[]⟩ : ByteArray) 0 2 5 t785 t786 t787 _ A1.out).mono ?_); rintro e w9 ⟨rfl, hb⟩; refine ⟨_, rfl, ?_⟩; have n0_ := Aside0.mk (below_step (by repeat (first | (with_reducible first | exact HB.out | apply below_alloc | apply pw_below_drewN | apply below_drew1) | exact HB.out)) hb); clear HB; have HB := n0_; clear n0_; (try clear hb); (try clear hb2); (try clear hk); (try clear hi)) | ((with_reducible refine gate_dst (N := 1) rfl ?_); refine box_event ?hg (N := 1) ?hd (cs := #[.string (⟨#[]⟩ : ByteArray), .int .i64 0]) (t := 27) ?hr ?_; (case hd => rfl); (case hg => rfl); (case hr => first | (go_simp; done) | (go_simp; rfl)); intro gb788 hg w10 hbox hb; have n0_ := Aside0.mk (below_step (by repeat (first | (with_reducible first | exact HB.out | apply below_alloc | apply pw_below_drewN | apply below_drew1) | exact HB.out)) hb); have n1_ := Aside0.mk (hbox); have n2_ := Aside0.mk ((by rw [hg]; exact (below_size (by repeat (first | (with_reducible first | exact HB.out | apply below_alloc | apply pw_below_drewN | apply below_drew1) | exact HB.out))) : w.heap.size ≤ gb788)); have n3_ := Aside0.mk ((by rw [hg]; exact (below_size (by repeat (first | (with_reducible first | exact HB.out | apply below_alloc | apply pw_below_drewN | apply below_drew1) | exact HB.out))) : w.heap.size ≤ gb788)); clear HB; have HB := n0_; have BK788 := n1_; have GW788 := n2_; have GE788 := n3_; clear n0_ n1_ n2_ n3_; clear hb hbox hg; have hcz11_0 : w10.cell? ⟨gb788, 0, none⟩ = some (.string (⟨#[]⟩ : ByteArray)) := (blk_cell BK788.out 0).trans rfl; have hcz11_1 : w10.cell? ⟨gb788, 1, none⟩ = some (.int .i64 0) := (blk_cell BK788.out 1).trans rfl; have hfz11_0 := blk_frozen BK788.out 0; have hfz11_1 := blk_frozen BK788.out 1) | ((with_reducible refine gate_callee (f := 61) rfl ?_); refine goesL_ (some 13) rfl rfl Try.func61 (by kernel_rfl) rfl #[.agg #[.string t785, .int .i64 t786], .int .i64 0, .int .i64 2] rfl (by (try simp only [List.map_toArray, List.map_cons, List.map_nil]); first | done | rfl | (simp only [List.length_drop, List.length_take]; rfl)) ?_; (with_reducible refine (code_Take.calls k t785 t786 0 2 t789 t790 t791 _ A2.out).mono ?_); rintro e w12 ⟨rfl, hb⟩; refine ⟨_, rfl, ?_⟩; have n0_ := Aside0.mk (blk_below (g := gb788) (o := .cells #[.string t785, .int .i64 t786] 27 (0, 0)) (by (with_reducible repeat (first | refine blk_drewN ?_ _ | refine blk_drew ?_ | refine blk_alloc ?_ _)); refine blk_put (cs := #[.string t785, .int .i64 0]) ?_ 1 _ rfl; (with_reducible repeat (first | refine blk_drewN ?_ _ | refine blk_drew ?_ | refine blk_alloc ?_ _)); refine blk_put (cs := #[.string (⟨#[]⟩ : ByteArray), .int .i64 0]) ?_ 0 _ rfl; (with_reducible repeat (first | refine blk_drewN ?_ _ | refine blk_drew ?_ | refine blk_alloc ?_ _)); exact BK788.out) hb); have n1_ := Aside0.mk (below_step (by repeat (first | (with_reducible first | exact HB.out | apply below_alloc | apply pw_below_drewN | apply below_drew1 | refine below_set ?_ GE788.out) | exact HB.out)) hb); clear BK788; clear HB; have BK788 := n0_; have HB := n1_; clear n0_ n1_; (try clear hb); (try clear hb2); (try clear hk); (try clear hi)) | ((with_reducible refine gate_callee (f := 59) rfl ?_); refine goesL_ (some 18) rfl rfl Try.func59 (by kernel_rfl) rfl #[.int .i64 t787] rfl (by (try simp only [List.map_toArray, List.map_cons, List.map_nil]); first | done | rfl | (simp only [List.length_drop, List.length_take]; rfl)) ?_; (with_reducible refine (herbariumlaw2_num.calls t787 t792 _ A3.out).mono ?_); rintro e w' ⟨rfl, ⟨nd, rfl⟩⟩; refine ⟨_, rfl, ?_⟩) | (go_at_call 59; (with_reducible refine (herbariumlaw2_num.calls t791 t793 _ A5.out).mono ?_); rintro e w' ⟨rfl, ⟨nd, rfl⟩⟩; have hcz13_0 : w12.cell? ⟨gb788, 0, none⟩ = some (.string t785) := (blk_cell BK788.out 0).trans rfl; have hcz13_1 : w12.cell? ⟨gb788, 1, none⟩ = some (.int .i64 t786) := (blk_cell BK788.out 1).trans rfl; have hfz13_0 := blk_frozen BK788.out 0; have hfz13_1 := blk_frozen BK788.out 1))
          go_ret
          exact ⟨by first | rfl | (simp [errW_none, errW_some] <;> rfl) | (simp [*, errW_none, errW_some] <;> rfl), by repeat (first | (with_reducible first | exact HB.out | apply below_alloc | apply pw_below_drewN | apply below_drew1 | refine below_set ?_ GE788.out) | exact HB.out)⟩
        · rw [if_neg c8] at H
          have c8b0 : (t789 == 5) = false := beq_eq_false_iff_ne.mpr c8
          have c8b1 : (t789 != 5) = true := bne_iff_ne.mpr c8
          obtain rfl := Option.some.inj H
          go_enter Try.func62, Try.ntmps62
          go_wp2_with (first | ((with_reducible refine gate_callee (f := 58) rfl ?_); refine goesL_ (some 8) rfl rfl Try.func58 (by kernel_rfl) rfl #[.agg #[.string (⟨#[]⟩ : ByteArray), .int .i64 0], .int .i64 2, .int .i64 5] rfl (by (try simp only [List.map_toArray, List.map_cons, List.map_nil]); first | done | rfl | (simp only [List.length_drop, List.length_take]; rfl)) ?_; (with_reducible refine (code_Put.calls (⟨#[]⟩ : ByteArray) 0 2 5 t785 t786 t787 _ A1.out).mono ?_); rintro e w14 ⟨rfl, hb⟩; refine ⟨_, rfl, ?_⟩; have n0_ := Aside0.mk (below_step (by repeat (first | (with_reducible first | exact HB.out | apply below_alloc | apply pw_below_drewN | apply below_drew1) | exact HB.out)) hb); clear HB; have HB := n0_; clear n0_; (try clear hb); (try clear hb2); (try clear hk); (try clear hi)) | ((with_reducible refine gate_dst (N := 1) rfl ?_); refine box_event ?hg (N := 1) ?hd (cs := #[.string (⟨#[]⟩ : ByteArray), .int .i64 0]) (t := 27) ?hr ?_; (case hd => rfl); (case hg => rfl); (case hr => first | (go_simp; done) | (go_simp; rfl)); intro gb788 hg w15 hbox hb; have n0_ := Aside0.mk (below_step (by repeat (first | (with_reducible first | exact HB.out | apply below_alloc | apply pw_below_drewN | apply below_drew1) | exact HB.out)) hb); have n1_ := Aside0.mk (hbox); have n2_ := Aside0.mk ((by rw [hg]; exact (below_size (by repeat (first | (with_reducible first | exact HB.out | apply below_alloc | apply pw_below_drewN | apply below_drew1) | exact HB.out))) : w.heap.size ≤ gb788)); have n3_ := Aside0.mk ((by rw [hg]; exact (below_size (by repeat (first | (with_reducible first | exact HB.out | apply below_alloc | apply pw_below_drewN | apply below_drew1) | exact HB.out))) : w.heap.size ≤ gb788)); clear HB; have HB := n0_; have BK788 := n1_; have GW788 := n2_; have GE788 := n3_; clear n0_ n1_ n2_ n3_; clear hb hbox hg; have hcz16_0 : w15.cell? ⟨gb788, 0, none⟩ = some (.string (⟨#[]⟩ : ByteArray)) := (blk_cell BK788.out 0).trans rfl; have hcz16_1 : w15.cell? ⟨gb788, 1, none⟩ = some (.int .i64 0) := (blk_cell BK788.out 1).trans rfl; have hfz16_0 := blk_frozen BK788.out 0; have hfz16_1 := blk_frozen BK788.out 1) | ((with_reducible refine gate_callee (f := 61) rfl ?_); refine goesL_ (some 13) rfl rfl Try.func61 (by kernel_rfl) rfl #[.agg #[.string t785, .int .i64 t786], .int .i64 0, .int .i64 2] rfl (by (try simp only [List.map_toArray, List.map_cons, List.map_nil]); first | done | rfl | (simp only [List.length_drop, List.length_take]; rfl)) ?_; (with_reducible refine (code_Take.calls k t785 t786 0 2 t789 t790 t791 _ A2.out).mono ?_); rintro e w17 ⟨rfl, hb⟩; refine ⟨_, rfl, ?_⟩; have n0_ := Aside0.mk (blk_below (g := gb788) (o := .cells #[.string t785, .int .i64 t786] 27 (0, 0)) (by (with_reducible repeat (first | refine blk_drewN ?_ _ | refine blk_drew ?_ | refine blk_alloc ?_ _)); refine blk_put (cs := #[.string t785, .int .i64 0]) ?_ 1 _ rfl; (with_reducible repeat (first | refine blk_drewN ?_ _ | refine blk_drew ?_ | refine blk_alloc ?_ _)); refine blk_put (cs := #[.string (⟨#[]⟩ : ByteArray), .int .i64 0]) ?_ 0 _ rfl; (with_reducible repeat (first | refine blk_drewN ?_ _ | refine blk_drew ?_ | refine blk_alloc ?_ _)); exact BK788.out) hb); have n1_ := Aside0.mk (below_step (by repeat (first | (with_reducible first | exact HB.out | apply below_alloc | apply pw_below_drewN | apply below_drew1 | refine below_set ?_ GE788.out) | exact HB.out)) hb); clear BK788; clear HB; have BK788 := n0_; have HB := n1_; clear n0_ n1_; (try clear hb); (try clear hb2); (try clear hk); (try clear hi)) | ((with_reducible refine gate_callee (f := 59) rfl ?_); refine goesL_ (some 18) rfl rfl Try.func59 (by kernel_rfl) rfl #[.int .i64 t787] rfl (by (try simp only [List.map_toArray, List.map_cons, List.map_nil]); first | done | rfl | (simp only [List.length_drop, List.length_take]; rfl)) ?_; (with_reducible refine (herbariumlaw2_num.calls t787 t792 _ A3.out).mono ?_); rintro e w' ⟨rfl, ⟨nd, rfl⟩⟩; refine ⟨_, rfl, ?_⟩) | (go_at_call 59; (with_reducible refine (herbariumlaw2_num.calls t791 t793 _ A5.out).mono ?_); rintro e w' ⟨rfl, ⟨nd, rfl⟩⟩; have hcz18_0 : w17.cell? ⟨gb788, 0, none⟩ = some (.string t785) := (blk_cell BK788.out 0).trans rfl; have hcz18_1 : w17.cell? ⟨gb788, 1, none⟩ = some (.int .i64 t786) := (blk_cell BK788.out 1).trans rfl; have hfz18_0 := blk_frozen BK788.out 0; have hfz18_1 := blk_frozen BK788.out 1))
          go_ret
          exact ⟨by first | rfl | (simp [errW_none, errW_some] <;> rfl) | (simp [*, errW_none, errW_some] <;> rfl), by repeat (first | (with_reducible first | exact HB.out | apply below_alloc | apply pw_below_drewN | apply below_drew1 | refine below_set ?_ GE788.out) | exact HB.out)⟩
      · rw [if_neg c7] at H
        have c7b0 : (t785.toList == ([40] : List UInt8) && (t786 == 5)) = false := by simpa using c7
        (try (have c7b1 : decide (t785.toList = ([40] : List UInt8) && (t786 == 5)) = false := by simpa using c7))
        (try (have c7b2 : (t785.toList == ([40] : List UInt8) && (t786 == 5)) = false := by simpa using c7))
        (try (have c7b3 : ¬ (t785.toList = ([40] : List UInt8) && (t786 == 5)) := by simpa using c7))
        clear c7
        obtain rfl := Option.some.inj H
        go_enter Try.func62, Try.ntmps62
        go_wp2_with (first | ((with_reducible refine gate_callee (f := 58) rfl ?_); refine goesL_ (some 8) rfl rfl Try.func58 (by kernel_rfl) rfl #[.agg #[.string (⟨#[]⟩ : ByteArray), .int .i64 0], .int .i64 2, .int .i64 5] rfl (by (try simp only [List.map_toArray, List.map_cons, List.map_nil]); first | done | rfl | (simp only [List.length_drop, List.length_take]; rfl)) ?_; (with_reducible refine (code_Put.calls (⟨#[]⟩ : ByteArray) 0 2 5 t785 t786 t787 _ A1.out).mono ?_); rintro e w19 ⟨rfl, hb⟩; refine ⟨_, rfl, ?_⟩; have n0_ := Aside0.mk (below_step (by repeat (first | (with_reducible first | exact HB.out | apply below_alloc | apply pw_below_drewN | apply below_drew1) | exact HB.out)) hb); clear HB; have HB := n0_; clear n0_; (try clear hb); (try clear hb2); (try clear hk); (try clear hi)) | ((with_reducible refine gate_dst (N := 1) rfl ?_); refine box_event ?hg (N := 1) ?hd (cs := #[.string (⟨#[]⟩ : ByteArray), .int .i64 0]) (t := 27) ?hr ?_; (case hd => rfl); (case hg => rfl); (case hr => first | (go_simp; done) | (go_simp; rfl)); intro gb788 hg w20 hbox hb; have n0_ := Aside0.mk (below_step (by repeat (first | (with_reducible first | exact HB.out | apply below_alloc | apply pw_below_drewN | apply below_drew1) | exact HB.out)) hb); have n1_ := Aside0.mk (hbox); have n2_ := Aside0.mk ((by rw [hg]; exact (below_size (by repeat (first | (with_reducible first | exact HB.out | apply below_alloc | apply pw_below_drewN | apply below_drew1) | exact HB.out))) : w.heap.size ≤ gb788)); have n3_ := Aside0.mk ((by rw [hg]; exact (below_size (by repeat (first | (with_reducible first | exact HB.out | apply below_alloc | apply pw_below_drewN | apply below_drew1) | exact HB.out))) : w.heap.size ≤ gb788)); clear HB; have HB := n0_; have BK788 := n1_; have GW788 := n2_; have GE788 := n3_; clear n0_ n1_ n2_ n3_; clear hb hbox hg; have hcz21_0 : w20.cell? ⟨gb788, 0, none⟩ = some (.string (⟨#[]⟩ : ByteArray)) := (blk_cell BK788.out 0).trans rfl; have hcz21_1 : w20.cell? ⟨gb788, 1, none⟩ = some (.int .i64 0) := (blk_cell BK788.out 1).trans rfl; have hfz21_0 := blk_frozen BK788.out 0; have hfz21_1 := blk_frozen BK788.out 1) | ((with_reducible refine gate_callee (f := 61) rfl ?_); refine goesL_ (some 13) rfl rfl Try.func61 (by kernel_rfl) rfl #[.agg #[.string t785, .int .i64 t786], .int .i64 0, .int .i64 2] rfl (by (try simp only [List.map_toArray, List.map_cons, List.map_nil]); first | done | rfl | (simp only [List.length_drop, List.length_take]; rfl)) ?_; (with_reducible refine (code_Take.calls k t785 t786 0 2 t789 t790 t791 _ A2.out).mono ?_); rintro e w22 ⟨rfl, hb⟩; refine ⟨_, rfl, ?_⟩; have n0_ := Aside0.mk (blk_below (g := gb788) (o := .cells #[.string t785, .int .i64 t786] 27 (0, 0)) (by (with_reducible repeat (first | refine blk_drewN ?_ _ | refine blk_drew ?_ | refine blk_alloc ?_ _)); refine blk_put (cs := #[.string t785, .int .i64 0]) ?_ 1 _ rfl; (with_reducible repeat (first | refine blk_drewN ?_ _ | refine blk_drew ?_ | refine blk_alloc ?_ _)); refine blk_put (cs := #[.string (⟨#[]⟩ : ByteArray), .int .i64 0]) ?_ 0 _ rfl; (with_reducible repeat (first | refine blk_drewN ?_ _ | refine blk_drew ?_ | refine blk_alloc ?_ _)); exact BK788.out) hb); have n1_ := Aside0.mk (below_step (by repeat (first | (with_reducible first | exact HB.out | apply below_alloc | apply pw_below_drewN | apply below_drew1 | refine below_set ?_ GE788.out) | exact HB.out)) hb); clear BK788; clear HB; have BK788 := n0_; have HB := n1_; clear n0_ n1_; (try clear hb); (try clear hb2); (try clear hk); (try clear hi)) | ((with_reducible refine gate_callee (f := 59) rfl ?_); refine goesL_ (some 18) rfl rfl Try.func59 (by kernel_rfl) rfl #[.int .i64 t787] rfl (by (try simp only [List.map_toArray, List.map_cons, List.map_nil]); first | done | rfl | (simp only [List.length_drop, List.length_take]; rfl)) ?_; (with_reducible refine (herbariumlaw2_num.calls t787 t792 _ A3.out).mono ?_); rintro e w' ⟨rfl, ⟨nd, rfl⟩⟩; refine ⟨_, rfl, ?_⟩) | (go_at_call 59; (with_reducible refine (herbariumlaw2_num.calls t791 t793 _ A5.out).mono ?_); rintro e w' ⟨rfl, ⟨nd, rfl⟩⟩; have hcz23_0 : w22.cell? ⟨gb788, 0, none⟩ = some (.string t785) := (blk_cell BK788.out 0).trans rfl; have hcz23_1 : w22.cell? ⟨gb788, 1, none⟩ = some (.int .i64 t786) := (blk_cell BK788.out 1).trans rfl; have hfz23_0 := blk_frozen BK788.out 0; have hfz23_1 := blk_frozen BK788.out 1))
        go_ret
        exact ⟨by first | rfl | (simp [errW_none, errW_some] <;> rfl) | (simp [*, errW_none, errW_some] <;> rfl), by repeat (first | (with_reducible first | exact HB.out | apply below_alloc | apply pw_below_drewN | apply below_drew1 | refine below_set ?_ GE788.out) | exact HB.out)⟩
    · rw [if_neg c6] at H
      have c6b0 : (t793 == 0) = false := beq_eq_false_iff_ne.mpr c6
      have c6b1 : (t793 != 0) = true := bne_iff_ne.mpr c6
      obtain rfl := Option.some.inj H
      go_enter Try.func62, Try.ntmps62
      go_wp2_with (first | ((with_reducible refine gate_callee (f := 58) rfl ?_); refine goesL_ (some 8) rfl rfl Try.func58 (by kernel_rfl) rfl #[.agg #[.string (⟨#[]⟩ : ByteArray), .int .i64 0], .int .i64 2, .int .i64 5] rfl (by (try simp only [List.map_toArray, List.map_cons, List.map_nil]); first | done | rfl | (simp only [List.length_drop, List.length_take]; rfl)) ?_; (with_reducible refine (code_Put.calls (⟨#[]⟩ : ByteArray) 0 2 5 t785 t786 t787 _ A1.out).mono ?_); rintro e w24 ⟨rfl, hb⟩; refine ⟨_, rfl, ?_⟩; have n0_ := Aside0.mk (below_step (by repeat (first | (with_reducible first | exact HB.out | apply below_alloc | apply pw_below_drewN | apply below_drew1) | exact HB.out)) hb); clear HB; have HB := n0_; clear n0_; (try clear hb); (try clear hb2); (try clear hk); (try clear hi)) | ((with_reducible refine gate_dst (N := 1) rfl ?_); refine box_event ?hg (N := 1) ?hd (cs := #[.string (⟨#[]⟩ : ByteArray), .int .i64 0]) (t := 27) ?hr ?_; (case hd => rfl); (case hg => rfl); (case hr => first | (go_simp; done) | (go_simp; rfl)); intro gb788 hg w25 hbox hb; have n0_ := Aside0.mk (below_step (by repeat (first | (with_reducible first | exact HB.out | apply below_alloc | apply pw_below_drewN | apply below_drew1) | exact HB.out)) hb); have n1_ := Aside0.mk (hbox); have n2_ := Aside0.mk ((by rw [hg]; exact (below_size (by repeat (first | (with_reducible first | exact HB.out | apply below_alloc | apply pw_below_drewN | apply below_drew1) | exact HB.out))) : w.heap.size ≤ gb788)); have n3_ := Aside0.mk ((by rw [hg]; exact (below_size (by repeat (first | (with_reducible first | exact HB.out | apply below_alloc | apply pw_below_drewN | apply below_drew1) | exact HB.out))) : w.heap.size ≤ gb788)); clear HB; have HB := n0_; have BK788 := n1_; have GW788 := n2_; have GE788 := n3_; clear n0_ n1_ n2_ n3_; clear hb hbox hg; have hcz26_0 : w25.cell? ⟨gb788, 0, none⟩ = some (.string (⟨#[]⟩ : ByteArray)) := (blk_cell BK788.out 0).trans rfl; have hcz26_1 : w25.cell? ⟨gb788, 1, none⟩ = some (.int .i64 0) := (blk_cell BK788.out 1).trans rfl; have hfz26_0 := blk_frozen BK788.out 0; have hfz26_1 := blk_frozen BK788.out 1) | ((with_reducible refine gate_callee (f := 61) rfl ?_); refine goesL_ (some 13) rfl rfl Try.func61 (by kernel_rfl) rfl #[.agg #[.string t785, .int .i64 t786], .int .i64 0, .int .i64 2] rfl (by (try simp only [List.map_toArray, List.map_cons, List.map_nil]); first | done | rfl | (simp only [List.length_drop, List.length_take]; rfl)) ?_; (with_reducible refine (code_Take.calls k t785 t786 0 2 t789 t790 t791 _ A2.out).mono ?_); rintro e w27 ⟨rfl, hb⟩; refine ⟨_, rfl, ?_⟩; have n0_ := Aside0.mk (blk_below (g := gb788) (o := .cells #[.string t785, .int .i64 t786] 27 (0, 0)) (by (with_reducible repeat (first | refine blk_drewN ?_ _ | refine blk_drew ?_ | refine blk_alloc ?_ _)); refine blk_put (cs := #[.string t785, .int .i64 0]) ?_ 1 _ rfl; (with_reducible repeat (first | refine blk_drewN ?_ _ | refine blk_drew ?_ | refine blk_alloc ?_ _)); refine blk_put (cs := #[.string (⟨#[]⟩ : ByteArray), .int .i64 0]) ?_ 0 _ rfl; (with_reducible repeat (first | refine blk_drewN ?_ _ | refine blk_drew ?_ | refine blk_alloc ?_ _)); exact BK788.out) hb); have n1_ := Aside0.mk (below_step (by repeat (first | (with_reducible first | exact HB.out | apply below_alloc | apply pw_below_drewN | apply below_drew1 | refine below_set ?_ GE788.out) | exact HB.out)) hb); clear BK788; clear HB; have BK788 := n0_; have HB := n1_; clear n0_ n1_; (try clear hb); (try clear hb2); (try clear hk); (try clear hi)) | ((with_reducible refine gate_callee (f := 59) rfl ?_); refine goesL_ (some 18) rfl rfl Try.func59 (by kernel_rfl) rfl #[.int .i64 t787] rfl (by (try simp only [List.map_toArray, List.map_cons, List.map_nil]); first | done | rfl | (simp only [List.length_drop, List.length_take]; rfl)) ?_; (with_reducible refine (herbariumlaw2_num.calls t787 t792 _ A3.out).mono ?_); rintro e w' ⟨rfl, ⟨nd, rfl⟩⟩; refine ⟨_, rfl, ?_⟩) | (go_at_call 59; (with_reducible refine (herbariumlaw2_num.calls t791 t793 _ A5.out).mono ?_); rintro e w' ⟨rfl, ⟨nd, rfl⟩⟩))
      go_ret
      exact ⟨by first | rfl | (simp [errW_none, errW_some] <;> rfl) | (simp [*, errW_none, errW_some] <;> rfl), by repeat (first | (with_reducible first | exact HB.out | apply below_alloc | apply pw_below_drewN | apply below_drew1 | refine below_set ?_ GE788.out) | exact HB.out)⟩
  · rw [if_neg c4] at H
    have c4b0 : (t792 == 0) = false := beq_eq_false_iff_ne.mpr c4
    have c4b1 : (t792 != 0) = true := bne_iff_ne.mpr c4
    obtain rfl := Option.some.inj H
    go_enter Try.func62, Try.ntmps62
    go_wp2_with (first | ((with_reducible refine gate_callee (f := 58) rfl ?_); refine goesL_ (some 8) rfl rfl Try.func58 (by kernel_rfl) rfl #[.agg #[.string (⟨#[]⟩ : ByteArray), .int .i64 0], .int .i64 2, .int .i64 5] rfl (by (try simp only [List.map_toArray, List.map_cons, List.map_nil]); first | done | rfl | (simp only [List.length_drop, List.length_take]; rfl)) ?_; (with_reducible refine (code_Put.calls (⟨#[]⟩ : ByteArray) 0 2 5 t785 t786 t787 _ A1.out).mono ?_); rintro e w28 ⟨rfl, hb⟩; refine ⟨_, rfl, ?_⟩; have n0_ := Aside0.mk (below_step (by repeat (first | (with_reducible first | exact HB.out | apply below_alloc | apply pw_below_drewN | apply below_drew1) | exact HB.out)) hb); clear HB; have HB := n0_; clear n0_; (try clear hb); (try clear hb2); (try clear hk); (try clear hi)) | ((with_reducible refine gate_dst (N := 1) rfl ?_); refine box_event ?hg (N := 1) ?hd (cs := #[.string (⟨#[]⟩ : ByteArray), .int .i64 0]) (t := 27) ?hr ?_; (case hd => rfl); (case hg => rfl); (case hr => first | (go_simp; done) | (go_simp; rfl)); intro gb788 hg w29 hbox hb; have n0_ := Aside0.mk (below_step (by repeat (first | (with_reducible first | exact HB.out | apply below_alloc | apply pw_below_drewN | apply below_drew1) | exact HB.out)) hb); have n1_ := Aside0.mk (hbox); have n2_ := Aside0.mk ((by rw [hg]; exact (below_size (by repeat (first | (with_reducible first | exact HB.out | apply below_alloc | apply pw_below_drewN | apply below_drew1) | exact HB.out))) : w.heap.size ≤ gb788)); have n3_ := Aside0.mk ((by rw [hg]; exact (below_size (by repeat (first | (with_reducible first | exact HB.out | apply below_alloc | apply pw_below_drewN | apply below_drew1) | exact HB.out))) : w.heap.size ≤ gb788)); clear HB; have HB := n0_; have BK788 := n1_; have GW788 := n2_; have GE788 := n3_; clear n0_ n1_ n2_ n3_; clear hb hbox hg; have hcz30_0 : w29.cell? ⟨gb788, 0, none⟩ = some (.string (⟨#[]⟩ : ByteArray)) := (blk_cell BK788.out 0).trans rfl; have hcz30_1 : w29.cell? ⟨gb788, 1, none⟩ = some (.int .i64 0) := (blk_cell BK788.out 1).trans rfl; have hfz30_0 := blk_frozen BK788.out 0; have hfz30_1 := blk_frozen BK788.out 1) | ((with_reducible refine gate_callee (f := 61) rfl ?_); refine goesL_ (some 13) rfl rfl Try.func61 (by kernel_rfl) rfl #[.agg #[.string t785, .int .i64 t786], .int .i64 0, .int .i64 2] rfl (by (try simp only [List.map_toArray, List.map_cons, List.map_nil]); first | done | rfl | (simp only [List.length_drop, List.length_take]; rfl)) ?_; (with_reducible refine (code_Take.calls k t785 t786 0 2 t789 t790 t791 _ A2.out).mono ?_); rintro e w31 ⟨rfl, hb⟩; refine ⟨_, rfl, ?_⟩; have n0_ := Aside0.mk (blk_below (g := gb788) (o := .cells #[.string t785, .int .i64 t786] 27 (0, 0)) (by (with_reducible repeat (first | refine blk_drewN ?_ _ | refine blk_drew ?_ | refine blk_alloc ?_ _)); refine blk_put (cs := #[.string t785, .int .i64 0]) ?_ 1 _ rfl; (with_reducible repeat (first | refine blk_drewN ?_ _ | refine blk_drew ?_ | refine blk_alloc ?_ _)); refine blk_put (cs := #[.string (⟨#[]⟩ : ByteArray), .int .i64 0]) ?_ 0 _ rfl; (with_reducible repeat (first | refine blk_drewN ?_ _ | refine blk_drew ?_ | refine blk_alloc ?_ _)); exact BK788.out) hb); have n1_ := Aside0.mk (below_step (by repeat (first | (with_reducible first | exact HB.out | apply below_alloc | apply pw_below_drewN | apply below_drew1 | refine below_set ?_ GE788.out) | exact HB.out)) hb); clear BK788; clear HB; have BK788 := n0_; have HB := n1_; clear n0_ n1_; (try clear hb); (try clear hb2); (try clear hk); (try clear hi)) | ((with_reducible refine gate_callee (f := 59) rfl ?_); refine goesL_ (some 18) rfl rfl Try.func59 (by kernel_rfl) rfl #[.int .i64 t787] rfl (by (try simp only [List.map_toArray, List.map_cons, List.map_nil]); first | done | rfl | (simp only [List.length_drop, List.length_take]; rfl)) ?_; (with_reducible refine (herbariumlaw2_num.calls t787 t792 _ A3.out).mono ?_); rintro e w' ⟨rfl, ⟨nd, rfl⟩⟩; refine ⟨_, rfl, ?_⟩))
    go_ret
    exact ⟨by first | rfl | (simp [errW_none, errW_some] <;> rfl) | (simp [*, errW_none, errW_some] <;> rfl), by repeat (first | (with_reducible first | exact HB.out | apply below_alloc | apply pw_below_drewN | apply below_drew1 | refine below_set ?_ GE788.out) | exact HB.out)⟩
end Go.Proofs.Ytnpghcikhpglkaa.Q
namespace Go.Proofs.Ytnpghcikhpglkaa.Q
open Go.RowKit Go.Proofs.YtnpghcikhpglkaaW.PrintWords Go.Proofs.YtnpghcikhpglkaaW.PrintLast Go.Proofs.YtnpghcikhpglkaaW.PrintMore
attribute [local go_sem] max2_int min2_int max_two min_two max_three min_three max_four min_four   -- for this text's walks alone
set_option linter.unusedVariables false
set_option linter.unusedSimpArgs false

/-! ### herbariumlaw2_CodeSmall: function 19 -/
mutual
def herbariumlaw2_CodeSmall.l0 : Nat → Int → List (S27) → List Int → Option (Bool)
  | 0, _, _, _ => none
  | k + 1, x3, x940000, x940001 => if x3 ≤ 5 then (herbariumlaw2_CodeSmall.l1 k x3 1 x940000 x940001 (⟨#[]⟩ : ByteArray) 0) else (if (x940001.length : Int) ≥ 0 then ((herbariumlaw2_wakes.f k).bind fun t940 => (some t940)) else (some false))
def herbariumlaw2_CodeSmall.l1 : Nat → Int → Int → List (S27) → List Int → ByteArray → Int → Option (Bool)
  | 0, _, _, _, _, _, _ => none
  | k + 1, x3, x5, x940000, x940001, x942000, x942001 => if x5 ≤ 40 then ((code_Put.f x942000 x942001 x3 x5).bind fun bt942 => ((code_Size.f x3 x5).bind fun bt946 => ((herbariumlaw2_num.f bt942.2.2).bind fun t948 => (if t948 = 0 then ((herbariumlaw2_num.f bt946.2).bind fun t949 => (if t949 = 0 then (if bt942.2.1 = (wrap64 (x942001 + bt946.1)) then (herbariumlaw2_CodeSmall.l1 k x3 (wrap64 (x5 + 1)) x940000 x940001 bt942.1 bt942.2.1) else (some false)) else (some false))) else (some false))))) else (herbariumlaw2_CodeSmall.l2 k x3 0 1 x940000 x940001 x942000 x942001)
def herbariumlaw2_CodeSmall.l2 : Nat → Int → Int → Int → List (S27) → List Int → ByteArray → Int → Option (Bool)
  | 0, _, _, _, _, _, _, _ => none
  | k + 1, x3, x10, x11, x940000, x940001, x942000, x942001 => if x11 ≤ 40 then ((code_Take.f k x942000 x942001 x10 x3).bind fun bt950 => ((herbariumlaw2_num.f bt950.2.2).bind fun t953 => (if t953 = 0 then (if bt950.1 = x11 then (herbariumlaw2_CodeSmall.l2 k x3 bt950.2.1 (wrap64 (x11 + 1)) x940000 x940001 x942000 x942001) else (some false)) else (some false)))) else (if x10 = x942001 then (herbariumlaw2_CodeSmall.l0 k (wrap64 (x3 + 1)) x940000 x940001) else (some false))
end
def herbariumlaw2_CodeSmall.f (k : Nat) (l0_0 : List (S27)) (l0_1 : List Int) : Option (Bool) := herbariumlaw2_CodeSmall.l0 k 1 l0_0 l0_1
theorem herbariumlaw2_CodeSmall.mono_l : ∀ k, (∀ y0 y1 y2, LeO (herbariumlaw2_CodeSmall.l0 k y0 y1 y2) (herbariumlaw2_CodeSmall.l0 (k + 1) y0 y1 y2)) ∧ (∀ y0 y1 y2 y3 y4 y5, LeO (herbariumlaw2_CodeSmall.l1 k y0 y1 y2 y3 y4 y5) (herbariumlaw2_CodeSmall.l1 (k + 1) y0 y1 y2 y3 y4 y5)) ∧ (∀ y0 y1 y2 y3 y4 y5 y6, LeO (herbariumlaw2_CodeSmall.l2 k y0 y1 y2 y3 y4 y5 y6) (herbariumlaw2_CodeSmall.l2 (k + 1) y0 y1 y2 y3 y4 y5 y6))
  | 0 => ⟨fun _ _ _ r h => by simp [herbariumlaw2_CodeSmall.l0] at h, fun _ _ _ _ _ _ r h => by simp [herbariumlaw2_CodeSmall.l1] at h, fun _ _ _ _ _ _ _ r h => by simp [herbariumlaw2_CodeSmall.l2] at h⟩
  | k + 1 => by
    obtain ⟨ih0, ih1, ih2⟩ := herbariumlaw2_CodeSmall.mono_l k
    refine ⟨?_, ?_, ?_⟩
    · intro y0 y1 y2
      unfold herbariumlaw2_CodeSmall.l0
      repeat' first
      | (with_reducible exact ih0 _ _ _)
      | (with_reducible exact ih1 _ _ _ _ _ _)
      | (with_reducible exact ih2 _ _ _ _ _ _ _)
      | (with_reducible exact code_Take.mono _ _ _ _ _)
      | (with_reducible exact herbariumlaw2_wakes.mono _)
      | (with_reducible exact LeO.refl _)
      | (with_reducible exact LeO.none _)
      | (with_reducible refine LeO.ite ?_ ?_)
      | (with_reducible refine LeO.bind ?_ (fun _ => ?_))
      | exact ih0 _ _ _
      | exact ih1 _ _ _ _ _ _
      | exact ih2 _ _ _ _ _ _ _
      | exact code_Take.mono _ _ _ _ _
      | exact herbariumlaw2_wakes.mono _
      | exact LeO.none _
      | refine LeO.ite ?_ ?_
      | refine LeO.bind ?_ (fun _ => ?_)
    · intro y0 y1 y2 y3 y4 y5
      unfold herbariumlaw2_CodeSmall.l1
      repeat' first
      | (with_reducible exact ih0 _ _ _)
      | (with_reducible exact ih1 _ _ _ _ _ _)
      | (with_reducible exact ih2 _ _ _ _ _ _ _)
      | (with_reducible exact code_Take.mono _ _ _ _ _)
      | (with_reducible exact herbariumlaw2_wakes.mono _)
      | (with_reducible exact LeO.refl _)
      | (with_reducible exact LeO.none _)
      | (with_reducible refine LeO.ite ?_ ?_)
      | (with_reducible refine LeO.bind ?_ (fun _ => ?_))
      | exact ih0 _ _ _
      | exact ih1 _ _ _ _ _ _
      | exact ih2 _ _ _ _ _ _ _
      | exact code_Take.mono _ _ _ _ _
      | exact herbariumlaw2_wakes.mono _
      | exact LeO.none _
      | refine LeO.ite ?_ ?_
      | refine LeO.bind ?_ (fun _ => ?_)
    · intro y0 y1 y2 y3 y4 y5 y6
      unfold herbariumlaw2_CodeSmall.l2
      repeat' first
      | (with_reducible exact ih0 _ _ _)
      | (with_reducible exact ih1 _ _ _ _ _ _)
      | (with_reducible exact ih2 _ _ _ _ _ _ _)
      | (with_reducible exact code_Take.mono _ _ _ _ _)
      | (with_reducible exact herbariumlaw2_wakes.mono _)
      | (with_reducible exact LeO.refl _)
      | (with_reducible exact LeO.none _)
      | (with_reducible refine LeO.ite ?_ ?_)
      | (with_reducible refine LeO.bind ?_ (fun _ => ?_))
      | exact ih0 _ _ _
      | exact ih1 _ _ _ _ _ _
      | exact ih2 _ _ _ _ _ _ _
      | exact code_Take.mono _ _ _ _ _
      | exact herbariumlaw2_wakes.mono _
      | exact LeO.none _
      | refine LeO.ite ?_ ?_
      | refine LeO.bind ?_ (fun _ => ?_)
theorem herbariumlaw2_CodeSmall.mono : ∀ a0 a1 k, LeO (herbariumlaw2_CodeSmall.f k a0 a1) (herbariumlaw2_CodeSmall.f (k + 1) a0 a1) := by
  intro a0 a1 k
  obtain ⟨ih0, ih1, ih2⟩ := herbariumlaw2_CodeSmall.mono_l k
  unfold herbariumlaw2_CodeSmall.f
  repeat' first
      | (with_reducible exact ih0 _ _ _)
      | (with_reducible exact ih1 _ _ _ _ _ _)
      | (with_reducible exact ih2 _ _ _ _ _ _ _)
      | (with_reducible exact code_Take.mono _ _ _ _ _)
      | (with_reducible exact herbariumlaw2_wakes.mono _)
      | (with_reducible exact LeO.refl _)
      | (with_reducible exact LeO.none _)
      | (with_reducible refine LeO.ite ?_ ?_)
      | (with_reducible refine LeO.bind ?_ (fun _ => ?_))
      | exact ih0 _ _ _
      | exact ih1 _ _ _ _ _ _
      | exact ih2 _ _ _ _ _ _ _
      | exact code_Take.mono _ _ _ _ _
      | exact herbariumlaw2_wakes.mono _
      | exact LeO.none _
      | refine LeO.ite ?_ ?_
      | refine LeO.bind ?_ (fun _ => ?_)
set_option maxHeartbeats 8000000 in
set_option maxRecDepth 100000 in
theorem herbariumlaw2_CodeSmall.calls (k : Nat) (A0_0 : Option Addr) (c0_0 : Nat) (l0_0 : List (S27)) (A0_1 : Option Addr) (c0_1 : Nat) (l0_1 : List Int) (r : Bool) (w : World) (hr0_0 : Kd.C k27 w A0_0 l0_0.length l0_0) (hc0_0 : l0_0.length ≤ c0_0) (hr0_1 : Kd.C (Kd.int .i64) w A0_1 l0_1.length l0_1) (hc0_1 : l0_1.length ≤ c0_1) (h : herbariumlaw2_CodeSmall.f k l0_0 l0_1 = some r) :
    Calls Try.prog 19 #[.agg #[.slice A0_0 l0_0.length c0_0, .slice A0_1 l0_1.length c0_1]] w fun e w' => e = .returned (.bool r) ∧ Below w.heap.size w w' := by
  have hu25 := Try.underlying25
  have hu27 := Try.underlying27
  have HR0_0 := Aside0.mk hr0_0
  have HC0_0 := Aside0.mk hc0_0
  clear hr0_0 hc0_0
  have HR0_1 := Aside0.mk hr0_1
  have HC0_1 := Aside0.mk hc0_1
  clear hr0_1 hc0_1
  have HB := Aside0.mk (Below.refl w.heap.size w)
  have H : (herbariumlaw2_CodeSmall.l0 k 1 l0_0 l0_1) = some r := h
  clear h
  have H' := Aside0.mk H
  clear H
  go_enter Try.func19, Try.ntmps19
  go_wp2_with (first | ((with_reducible refine gate_dst (N := 1) rfl ?_); refine box_event ?hg (N := 1) ?hd (cs := #[.slice A0_0 l0_0.length c0_0, .slice A0_1 l0_1.length c0_1]) (t := 25) ?hr ?_; (case hd => rfl); (case hg => rfl); (case hr => first | (go_simp; done) | (go_simp; rfl)); intro gb939 hg w2 hbox hb; have n0_ := Aside0.mk (below_step (by repeat (first | (with_reducible first | exact HB.out | apply below_alloc | apply pw_below_drewN | apply below_drew1) | exact HB.out)) hb); have n1_ := Aside0.mk (hbox); have n2_ := Aside0.mk ((by rw [hg]; exact (below_size (by repeat (first | (with_reducible first | exact HB.out | apply below_alloc | apply pw_below_drewN | apply below_drew1) | exact HB.out))) : w.heap.size ≤ gb939)); have n3_ := Aside0.mk ((by rw [hg]; exact (below_size (by repeat (first | (with_reducible first | exact HB.out | apply below_alloc | apply pw_below_drewN | apply below_drew1) | exact HB.out))) : w.heap.size ≤ gb939)); clear HB; have HB := n0_; have BK939 := n1_; have GW939 := n2_; have GE939 := n3_; clear n0_ n1_ n2_ n3_; clear hb hbox hg))
  go_loopg [3] k (fun kq v3 w' => ∃ (x3_1 : Int), v3 = .int .i64 x3_1 ∧ Aside0 (herbariumlaw2_CodeSmall.l0 kq x3_1 l0_0 l0_1 = some r) ∧ Aside0 (kq ≤ k) ∧ Aside0 (w'.heap[gb939]? = some (.cells #[(.slice A0_0 l0_0.length c0_0), (.slice A0_1 l0_1.length c0_1)] 25 (0, 0))) ∧ Aside0 (Below w.heap.size w w'))
  case atStart => exact ⟨(1), (by first | rfl | (simp; done) | (simp [*]; done)), H', ⟨Nat.le_refl _⟩, ⟨by (with_reducible repeat (first | refine blk_drewN ?_ _ | refine blk_drew ?_ | refine blk_alloc ?_ _)); exact BK939.out⟩, ⟨by repeat (first | (with_reducible first | exact HB.out | apply below_alloc | apply pw_below_drewN | apply below_drew1 | refine below_set ?_ GE939.out) | exact HB.out)⟩⟩
  case round =>
    clear H'
    try clear c1
    try clear p2
    obtain ⟨x3_1, rfl, HA, HK1, BK939, HB⟩ := hrel
    cases gk with
    | zero => exact absurd HA.out (by simp [herbariumlaw2_CodeSmall.l0])
    | succ k1 =>
      have H := HA.out
      clear HA
      simp only [herbariumlaw2_CodeSmall.l0] at H
      by_cases c3 : x3_1 ≤ 5
      · rw [if_pos c3] at H
        have c3b0 : decide (x3_1 ≤ 5) = true := decide_eq_true c3
        clear c3
        have H' := Aside0.mk H
        clear H
        go_wp2_with (first | ((with_reducible refine gate_dst (N := 4) rfl ?_); refine box_event ?hg (N := 4) ?hd (cs := #[.string (⟨#[]⟩ : ByteArray), .int .i64 0]) (t := 27) ?hr ?_; (case hd => rfl); (case hg => rfl); (case hr => first | (go_simp; done) | (go_simp; rfl)); intro gb941 hg w4 hbox hb; have n0_ := Aside0.mk (blk_below (g := gb939) (o := .cells #[.slice A0_0 l0_0.length c0_0, .slice A0_1 l0_1.length c0_1] 25 (0, 0)) (by (with_reducible repeat (first | refine blk_drewN ?_ _ | refine blk_drew ?_ | refine blk_alloc ?_ _)); exact BK939.out) hb); have n1_ := Aside0.mk (below_step (by repeat (first | (with_reducible first | exact HB.out | apply below_alloc | apply pw_below_drewN | apply below_drew1 | refine below_set ?_ GE939.out) | exact HB.out)) hb); have n2_ := Aside0.mk (hbox); have n3_ := Aside0.mk ((by rw [hg]; exact (below_size (by repeat (first | (with_reducible first | exact HB.out | apply below_alloc | apply pw_below_drewN | apply below_drew1 | refine below_set ?_ GE939.out) | exact HB.out))) : w.heap.size ≤ gb941)); have n4_ := Aside0.mk ((by rw [hg]; exact (below_size (by repeat (first | (with_reducible first | exact HB.out | apply below_alloc | apply pw_below_drewN | apply below_drew1 | refine below_set ?_ GE939.out) | exact HB.out))) : w.heap.size ≤ gb941)); have n5_ := Aside0.mk ((by rw [hg]; exact Nat.ne_of_lt (blk_lt (g := gb939) (o := .cells #[.slice A0_0 l0_0.length c0_0, .slice A0_1 l0_1.length c0_1] 25 (0, 0)) (by (with_reducible repeat (first | refine blk_drewN ?_ _ | refine blk_drew ?_ | refine blk_alloc ?_ _)); exact BK939.out)) : gb939 ≠ gb941)); have n6_ := Aside0.mk ((by rw [hg]; exact Nat.ne_of_gt (blk_lt (g := gb939) (o := .cells #[.slice A0_0 l0_0.length c0_0, .slice A0_1 l0_1.length c0_1] 25 (0, 0)) (by (with_reducible repeat (first | refine blk_drewN ?_ _ | refine blk_drew ?_ | refine blk_alloc ?_ _)); exact BK939.out)) : gb941 ≠ gb939)); clear BK939; clear HB; have BK939 := n0_; have HB := n1_; have BK941 := n2_; have GW941 := n3_; have GE941 := n4_; have NB939_941 := n5_; have NB941_939 := n6_; clear n0_ n1_ n2_ n3_ n4_ n5_ n6_; clear hb hbox hg))
        go_loopg [5] k1 (fun kq v5 w' => ∃ (x5_2 : Int) (x942000_2 : ByteArray) (x942001_2 : Int), v5 = .int .i64 x5_2 ∧ Aside0 (herbariumlaw2_CodeSmall.l1 kq x3_1 x5_2 l0_0 l0_1 x942000_2 x942001_2 = some r) ∧ Aside0 (kq ≤ k1) ∧ Aside0 (w'.heap[gb939]? = some (.cells #[(.slice A0_0 l0_0.length c0_0), (.slice A0_1 l0_1.length c0_1)] 25 (0, 0))) ∧ Aside0 (w'.heap[gb941]? = some (.cells #[.string x942000_2, .int .i64 x942001_2] 27 (0, 0))) ∧ Aside0 (Below w.heap.size w w'))
        case atStart => exact ⟨(1), ((⟨#[]⟩ : ByteArray)), (0), (by first | rfl | (simp; done) | (simp [*]; done)), H', ⟨Nat.le_refl _⟩, ⟨by (with_reducible repeat (first | refine blk_drewN ?_ _ | refine blk_drew ?_ | refine blk_alloc ?_ _)); exact BK939.out⟩, ⟨by (with_reducible repeat (first | refine blk_drewN ?_ _ | refine blk_drew ?_ | refine blk_alloc ?_ _)); exact BK941.out⟩, ⟨by repeat (first | (with_reducible first | exact HB.out | apply below_alloc | apply pw_below_drewN | apply below_drew1 | refine below_set ?_ GE939.out | refine below_set ?_ GE941.out) | exact HB.out)⟩⟩
        case round =>
          clear H'
          try clear c1
          try clear p2
          try clear c3
          try clear c3b0
          try clear p2
          obtain ⟨x5_2, x942000_2, x942001_2, rfl, HA, HK2, BK939, BK941, HB⟩ := hrel
          cases gk with
          | zero => exact absurd HA.out (by simp [herbariumlaw2_CodeSmall.l1])
          | succ k2 =>
            have H := HA.out
            clear HA
            simp only [herbariumlaw2_CodeSmall.l1] at H
            by_cases c5 : x5_2 ≤ 40
            · rw [if_pos c5] at H
              have c5b0 : decide (x5_2 ≤ 40) = true := decide_eq_true c5
              clear c5
              replace H := Option.bind_eq_some_iff.mp H
              obtain ⟨⟨t942, t943, t944⟩, A60, H⟩ := H
              replace H : ((code_Size.f x3_1 x5_2).bind fun bt946 => ((herbariumlaw2_num.f t944).bind fun t948 => (if t948 = 0 then ((herbariumlaw2_num.f bt946.2).bind fun t949 => (if t949 = 0 then (if t943 = (wrap64 (x942001_2 + bt946.1)) then (herbariumlaw2_CodeSmall.l1 k2 x3_1 (wrap64 (x5_2 + 1)) l0_0 l0_1 t942 t943) else (some false)) else (some false))) else (some false)))) = some r := H
              have A6 := Aside0.mk A60
              clear A60
              replace H := Option.bind_eq_some_iff.mp H
              obtain ⟨⟨t946, t947⟩, A70, H⟩ := H
              replace H : ((herbariumlaw2_num.f t944).bind fun t948 => (if t948 = 0 then ((herbariumlaw2_num.f t947).bind fun t949 => (if t949 = 0 then (if t943 = (wrap64 (x942001_2 + t946)) then (herbariumlaw2_CodeSmall.l1 k2 x3_1 (wrap64 (x5_2 + 1)) l0_0 l0_1 t942 t943) else (some false)) else (some false))) else (some false))) = some r := H
              have A7 := Aside0.mk A70
              clear A70
              replace H := Option.bind_eq_some_iff.mp H
              obtain ⟨t948, A80, H⟩ := H
              replace H : (if t948 = 0 then ((herbariumlaw2_num.f t947).bind fun t949 => (if t949 = 0 then (if t943 = (wrap64 (x942001_2 + t946)) then (herbariumlaw2_CodeSmall.l1 k2 x3_1 (wrap64 (x5_2 + 1)) l0_0 l0_1 t942 t943) else (some false)) else (some false))) else (some false)) = some r := H
              have A8 := Aside0.mk A80
              clear A80
              by_cases c9 : t948 = 0
              · rw [if_pos c9] at H
                have c9b0 : (t948 == 0) = true := beq_iff_eq.mpr c9
                have c9b1 : (t948 != 0) = false := bne_eq_false_iff_eq.mpr c9
                clear c9
                replace H := Option.bind_eq_some_iff.mp H
                obtain ⟨t949, A100, H⟩ := H
                replace H : (if t949 = 0 then (if t943 = (wrap64 (x942001_2 + t946)) then (herbariumlaw2_CodeSmall.l1 k2 x3_1 (wrap64 (x5_2 + 1)) l0_0 l0_1 t942 t943) else (some false)) else (some false)) = some r := H
                have A10 := Aside0.mk A100
                clear A100
                by_cases c11 : t949 = 0
                · rw [if_pos c11] at H
                  have c11b0 : (t949 == 0) = true := beq_iff_eq.mpr c11
                  have c11b1 : (t949 != 0) = false := bne_eq_false_iff_eq.mpr c11
                  clear c11
                  by_cases c12 : t943 = (wrap64 (x942001_2 + t946))
                  · rw [if_pos c12] at H
                    have c12b0 : (t943 == (wrap64 (x942001_2 + t946))) = true := beq_iff_eq.mpr c12
                    have c12b1 : (t943 != (wrap64 (x942001_2 + t946))) = false := bne_eq_false_iff_eq.mpr c12
                    clear c12
                    have H' := Aside0.mk H
                    clear H
                    have hnb13 := NB941_939.out
                    have hnc13 := NB939_941.out
                    have hcz14_0 : wr.cell? ⟨gb941, 0, none⟩ = some (.string x942000_2) := (blk_cell BK941.out 0).trans rfl
                    have hcz14_1 : wr.cell? ⟨gb941, 1, none⟩ = some (.int .i64 x942001_2) := (blk_cell BK941.out 1).trans rfl
                    have hfz14_0 := blk_frozen BK941.out 0
                    have hfz14_1 := blk_frozen BK941.out 1
                    go_wp2_with (first | ((with_reducible refine gate_callee (f := 58) rfl ?_); refine goesL_ (some 27) rfl rfl Try.func58 (by kernel_rfl) rfl #[.agg #[.string x942000_2, .int .i64 x942001_2], .int .i64 x3_1, .int .i64 x5_2] rfl (by (try simp only [List.map_toArray, List.map_cons, List.map_nil]); first | done | rfl | (simp only [List.length_drop, List.length_take]; rfl)) ?_; (with_reducible refine (code_Put.calls x942000_2 x942001_2 x3_1 x5_2 t942 t943 t944 _ A6.out).mono ?_); rintro e w15 ⟨rfl, hb⟩; refine ⟨_, rfl, ?_⟩; have n0_ := Aside0.mk (blk_below (g := gb939) (o := .cells #[.slice A0_0 l0_0.length c0_0, .slice A0_1 l0_1.length c0_1] 25 (0, 0)) (by (with_reducible repeat (first | refine blk_drewN ?_ _ | refine blk_drew ?_ | refine blk_alloc ?_ _)); exact BK939.out) hb); have n1_ := Aside0.mk (blk_below (g := gb941) (o := .cells #[.string x942000_2, .int .i64 x942001_2] 27 (0, 0)) (by (with_reducible repeat (first | refine blk_drewN ?_ _ | refine blk_drew ?_ | refine blk_alloc ?_ _)); exact BK941.out) hb); have n2_ := Aside0.mk (below_step (by repeat (first | (with_reducible first | exact HB.out | apply below_alloc | apply pw_below_drewN | apply below_drew1 | refine below_set ?_ GE939.out | refine below_set ?_ GE941.out) | exact HB.out)) hb); clear BK939; clear BK941; clear HB; have BK939 := n0_; have BK941 := n1_; have HB := n2_; clear n0_ n1_ n2_; (try clear hb); (try clear hb2); (try clear hk); (try clear hi)) | ((with_reducible refine gate_dst (N := 6) rfl ?_); refine box_event ?hg (N := 6) ?hd (cs := #[.string (⟨#[]⟩ : ByteArray), .int .i64 0]) (t := 27) ?hr ?_; (case hd => rfl); (case hg => rfl); (case hr => first | (go_simp; done) | (go_simp; rfl)); intro gb945 hg w16 hbox hb; have n0_ := Aside0.mk (blk_below (g := gb939) (o := .cells #[.slice A0_0 l0_0.length c0_0, .slice A0_1 l0_1.length c0_1] 25 (0, 0)) (by (with_reducible repeat (first | refine blk_drewN ?_ _ | refine blk_drew ?_ | refine blk_alloc ?_ _)); exact BK939.out) hb); have n1_ := Aside0.mk (blk_below (g := gb941) (o := .cells #[.string x942000_2, .int .i64 x942001_2] 27 (0, 0)) (by (with_reducible repeat (first | refine blk_drewN ?_ _ | refine blk_drew ?_ | refine blk_alloc ?_ _)); exact BK941.out) hb); have n2_ := Aside0.mk (below_step (by repeat (first | (with_reducible first | exact HB.out | apply below_alloc | apply pw_below_drewN | apply below_drew1 | refine below_set ?_ GE939.out | refine below_set ?_ GE941.out) | exact HB.out)) hb); have n3_ := Aside0.mk (hbox); have n4_ := Aside0.mk ((by rw [hg]; exact (below_size (by repeat (first | (with_reducible first | exact HB.out | apply below_alloc | apply pw_below_drewN | apply below_drew1 | refine below_set ?_ GE939.out | refine below_set ?_ GE941.out) | exact HB.out))) : w.heap.size ≤ gb945)); have n5_ := Aside0.mk ((by rw [hg]; exact (below_size (by repeat (first | (with_reducible first | exact HB.out | apply below_alloc | apply pw_below_drewN | apply below_drew1 | refine below_set ?_ GE939.out | refine below_set ?_ GE941.out) | exact HB.out))) : w.heap.size ≤ gb945)); have n6_ := Aside0.mk ((by rw [hg]; exact Nat.ne_of_lt (blk_lt (g := gb939) (o := .cells #[.slice A0_0 l0_0.length c0_0, .slice A0_1 l0_1.length c0_1] 25 (0, 0)) (by (with_reducible repeat (first | refine blk_drewN ?_ _ | refine blk_drew ?_ | refine blk_alloc ?_ _)); exact BK939.out)) : gb939 ≠ gb945)); have n7_ := Aside0.mk ((by rw [hg]; exact Nat.ne_of_gt (blk_lt (g := gb939) (o := .cells #[.slice A0_0 l0_0.length c0_0, .slice A0_1 l0_1.length c0_1] 25 (0, 0)) (by (with_reducible repeat (first | refine blk_drewN ?_ _ | refine blk_drew ?_ | refine blk_alloc ?_ _)); exact BK939.out)) : gb945 ≠ gb939)); have n8_ := Aside0.mk ((by rw [hg]; exact Nat.ne_of_lt (blk_lt (g := gb941) (o := .cells #[.string x942000_2, .int .i64 x942001_2] 27 (0, 0)) (by (with_reducible repeat (first | refine blk_drewN ?_ _ | refine blk_drew ?_ | refine blk_alloc ?_ _)); exact BK941.out)) : gb941 ≠ gb945)); have n9_ := Aside0.mk ((by rw [hg]; exact Nat.ne_of_gt (blk_lt (g := gb941) (o := .cells #[.string x942000_2, .int .i64 x942001_2] 27 (0, 0)) (by (with_reducible repeat (first | refine blk_drewN ?_ _ | refine blk_drew ?_ | refine blk_alloc ?_ _)); exact BK941.out)) : gb945 ≠ gb941)); clear BK939; clear BK941; clear HB; have BK939 := n0_; have BK941 := n1_; have HB := n2_; have BK945 := n3_; have GW945 := n4_; have GE945 := n5_; have NB939_945 := n6_; have NB945_939 := n7_; have NB941_945 := n8_; have NB945_941 := n9_; clear n0_ n1_ n2_ n3_ n4_ n5_ n6_ n7_ n8_ n9_; clear hb hbox hg; have hnb17 := NB945_939.out; have hnc17 := NB939_945.out; have hnb18 := NB945_941.out; have hnc18 := NB941_945.out; have hcz19_0 : w16.cell? ⟨gb945, 0, none⟩ = some (.string (⟨#[]⟩ : ByteArray)) := (blk_cell BK945.out 0).trans rfl; have hcz19_1 : w16.cell? ⟨gb945, 1, none⟩ = some (.int .i64 0) := (blk_cell BK945.out 1).trans rfl; have hfz19_0 := blk_frozen BK945.out 0; have hfz19_1 := blk_frozen BK945.out 1) | ((with_reducible refine gate_callee (f := 64) rfl ?_); refine goesL_ (some 33) rfl rfl Try.func64 (by kernel_rfl) rfl #[.int .i64 x3_1, .int .i64 x5_2] rfl (by (try simp only [List.map_toArray, List.map_cons, List.map_nil]); first | done | rfl | (simp only [List.length_drop, List.length_take]; rfl)) ?_; (with_reducible refine (code_Size.calls x3_1 x5_2 t946 t947 _ A7.out).mono ?_); rintro e w20 ⟨rfl, hb⟩; refine ⟨_, rfl, ?_⟩; have n0_ := Aside0.mk (blk_below (g := gb939) (o := .cells #[.slice A0_0 l0_0.length c0_0, .slice A0_1 l0_1.length c0_1] 25 (0, 0)) (by (with_reducible repeat (first | refine blk_drewN ?_ _ | refine blk_drew ?_ | refine blk_alloc ?_ _)); refine blk_far ?_ NB939_945.out _; (with_reducible repeat (first | refine blk_drewN ?_ _ | refine blk_drew ?_ | refine blk_alloc ?_ _)); refine blk_far ?_ NB939_945.out _; (with_reducible repeat (first | refine blk_drewN ?_ _ | refine blk_drew ?_ | refine blk_alloc ?_ _)); exact BK939.out) hb); have n1_ := Aside0.mk (blk_below (g := gb941) (o := .cells #[.string x942000_2, .int .i64 x942001_2] 27 (0, 0)) (by (with_reducible repeat (first | refine blk_drewN ?_ _ | refine blk_drew ?_ | refine blk_alloc ?_ _)); refine blk_far ?_ NB941_945.out _; (with_reducible repeat (first | refine blk_drewN ?_ _ | refine blk_drew ?_ | refine blk_alloc ?_ _)); refine blk_far ?_ NB941_945.out _; (with_reducible repeat (first | refine blk_drewN ?_ _ | refine blk_drew ?_ | refine blk_alloc ?_ _)); exact BK941.out) hb); have n2_ := Aside0.mk (blk_below (g := gb945) (o := .cells #[.string t942, .int .i64 t943] 27 (0, 0)) (by (with_reducible repeat (first | refine blk_drewN ?_ _ | refine blk_drew ?_ | refine blk_alloc ?_ _)); refine blk_put (cs := #[.string t942, .int .i64 0]) ?_ 1 _ rfl; (with_reducible repeat (first | refine blk_drewN ?_ _ | refine blk_drew ?_ | refine blk_alloc ?_ _)); refine blk_put (cs := #[.string (⟨#[]⟩ : ByteArray), .int .i64 0]) ?_ 0 _ rfl; (with_reducible repeat (first | refine blk_drewN ?_ _ | refine blk_drew ?_ | refine blk_alloc ?_ _)); exact BK945.out) hb); have n3_ := Aside0.mk (below_step (by repeat (first | (with_reducible first | exact HB.out | apply below_alloc | apply pw_below_drewN | apply below_drew1 | refine below_set ?_ GE939.out | refine below_set ?_ GE941.out | refine below_set ?_ GE945.out) | exact HB.out)) hb); clear BK939; clear BK941; clear BK945; clear HB; have BK939 := n0_; have BK941 := n1_; have BK945 := n2_; have HB := n3_; clear n0_ n1_ n2_ n3_; (try clear hb); (try clear hb2); (try clear hk); (try clear hi)) | ((with_reducible refine gate_callee (f := 59) rfl ?_); refine goesL_ (some 37) rfl rfl Try.func59 (by kernel_rfl) rfl #[.int .i64 t944] rfl (by (try simp only [List.map_toArray, List.map_cons, List.map_nil]); first | done | rfl | (simp only [List.length_drop, List.length_take]; rfl)) ?_; (with_reducible refine (herbariumlaw2_num.calls t944 t948 _ A8.out).mono ?_); rintro e w' ⟨rfl, ⟨nd, rfl⟩⟩; refine ⟨_, rfl, ?_⟩; (try (rw [drewN_self w20]; generalize hq_ : World.drewN w20 _ = w20; have n0_ : Aside0 (w20.heap[gb939]? = some (.cells #[.slice A0_0 l0_0.length c0_0, .slice A0_1 l0_1.length c0_1] 25 (0, 0))) := ⟨by rw [← hq_]; exact (by (with_reducible repeat (first | refine blk_drewN ?_ _ | refine blk_drew ?_ | refine blk_alloc ?_ _)); exact BK939.out)⟩; have n1_ : Aside0 (w20.heap[gb941]? = some (.cells #[.string x942000_2, .int .i64 x942001_2] 27 (0, 0))) := ⟨by rw [← hq_]; exact (by (with_reducible repeat (first | refine blk_drewN ?_ _ | refine blk_drew ?_ | refine blk_alloc ?_ _)); exact BK941.out)⟩; have n2_ : Aside0 (w20.heap[gb945]? = some (.cells #[.string t942, .int .i64 t943] 27 (0, 0))) := ⟨by rw [← hq_]; exact (by (with_reducible repeat (first | refine blk_drewN ?_ _ | refine blk_drew ?_ | refine blk_alloc ?_ _)); exact BK945.out)⟩; have n3_ : Aside0 (Below w.heap.size w w20) := ⟨by rw [← hq_]; exact (by repeat (first | (with_reducible first | exact HB.out | apply below_alloc | apply pw_below_drewN | apply below_drew1 | refine below_set ?_ GE939.out | refine below_set ?_ GE941.out | refine below_set ?_ GE945.out) | exact HB.out))⟩; clear BK939 BK941 BK945 HB hq_; have BK939 := n0_; have BK941 := n1_; have BK945 := n2_; have HB := n3_; clear n0_ n1_ n2_ n3_))) | (go_at_call 59; (with_reducible refine (herbariumlaw2_num.calls t947 t949 _ A10.out).mono ?_); rintro e w' ⟨rfl, ⟨nd, rfl⟩⟩; (try (rw [drewN_self w20]; generalize hq_ : World.drewN w20 _ = w20; have n0_ : Aside0 (w20.heap[gb939]? = some (.cells #[.slice A0_0 l0_0.length c0_0, .slice A0_1 l0_1.length c0_1] 25 (0, 0))) := ⟨by rw [← hq_]; exact (by (with_reducible repeat (first | refine blk_drewN ?_ _ | refine blk_drew ?_ | refine blk_alloc ?_ _)); exact BK939.out)⟩; have n1_ : Aside0 (w20.heap[gb941]? = some (.cells #[.string x942000_2, .int .i64 x942001_2] 27 (0, 0))) := ⟨by rw [← hq_]; exact (by (with_reducible repeat (first | refine blk_drewN ?_ _ | refine blk_drew ?_ | refine blk_alloc ?_ _)); exact BK941.out)⟩; have n2_ : Aside0 (w20.heap[gb945]? = some (.cells #[.string t942, .int .i64 t943] 27 (0, 0))) := ⟨by rw [← hq_]; exact (by (with_reducible repeat (first | refine blk_drewN ?_ _ | refine blk_drew ?_ | refine blk_alloc ?_ _)); exact BK945.out)⟩; have n3_ : Aside0 (Below w.heap.size w w20) := ⟨by rw [← hq_]; exact (by repeat (first | (with_reducible first | exact HB.out | apply below_alloc | apply pw_below_drewN | apply below_drew1 | refine below_set ?_ GE939.out | refine below_set ?_ GE941.out | refine below_set ?_ GE945.out) | exact HB.out))⟩; clear BK939 BK941 BK945 HB hq_; have BK939 := n0_; have BK941 := n1_; have BK945 := n2_; have HB := n3_; clear n0_ n1_ n2_ n3_)); have hcz21_0 : w20.cell? ⟨gb945, 0, none⟩ = some (.string t942) := (blk_cell BK945.out 0).trans rfl; have hcz21_1 : w20.cell? ⟨gb945, 1, none⟩ = some (.int .i64 t943) := (blk_cell BK945.out 1).trans rfl; have hfz21_0 := blk_frozen BK945.out 0; have hfz21_1 := blk_frozen BK945.out 1; have hcz22_0 : w20.cell? ⟨gb941, 0, none⟩ = some (.string x942000_2) := (blk_cell BK941.out 0).trans rfl; have hcz22_1 : w20.cell? ⟨gb941, 1, none⟩ = some (.int .i64 x942001_2) := (blk_cell BK941.out 1).trans rfl; have hfz22_0 := blk_frozen BK941.out 0; have hfz22_1 := blk_frozen BK941.out 1))
                    go_roundg k2
                    case measure => have := HK1.out; have := HK2.out; omega
                    case rel => exact ⟨(wrap64 (x5_2 + 1)), (t942), (t943), (by first | rfl | (simp; done) | (simp [*]; done)), H', ⟨by have := HK1.out; have := HK2.out; omega⟩, ⟨by (with_reducible repeat (first | refine blk_drewN ?_ _ | refine blk_drew ?_ | refine blk_alloc ?_ _)); refine blk_far ?_ NB939_941.out _; (with_reducible repeat (first | refine blk_drewN ?_ _ | refine blk_drew ?_ | refine blk_alloc ?_ _)); refine blk_far ?_ NB939_941.out _; (with_reducible repeat (first | refine blk_drewN ?_ _ | refine blk_drew ?_ | refine blk_alloc ?_ _)); exact BK939.out⟩, ⟨by (with_reducible repeat (first | refine blk_drewN ?_ _ | refine blk_drew ?_ | refine blk_alloc ?_ _)); refine blk_put (cs := #[.string t942, .int .i64 x942001_2]) ?_ 1 _ rfl; (with_reducible repeat (first | refine blk_drewN ?_ _ | refine blk_drew ?_ | refine blk_alloc ?_ _)); refine blk_put (cs := #[.string x942000_2, .int .i64 x942001_2]) ?_ 0 _ rfl; (with_reducible repeat (first | refine blk_drewN ?_ _ | refine blk_drew ?_ | refine blk_alloc ?_ _)); exact BK941.out⟩, ⟨by repeat (first | (with_reducible first | exact HB.out | apply below_alloc | apply pw_below_drewN | apply below_drew1 | refine below_set ?_ GE939.out | refine below_set ?_ GE941.out | refine below_set ?_ GE945.out) | exact HB.out)⟩⟩
                  · rw [if_neg c12] at H
                    have c12b0 : (t943 == (wrap64 (x942001_2 + t946))) = false := beq_eq_false_iff_ne.mpr c12
                    have c12b1 : (t943 != (wrap64 (x942001_2 + t946))) = true := bne_iff_ne.mpr c12
                    obtain rfl := Option.some.inj H
                    have hnb23 := NB941_939.out
                    have hnc23 := NB939_941.out
                    have hcz24_0 : wr.cell? ⟨gb941, 0, none⟩ = some (.string x942000_2) := (blk_cell BK941.out 0).trans rfl
                    have hcz24_1 : wr.cell? ⟨gb941, 1, none⟩ = some (.int .i64 x942001_2) := (blk_cell BK941.out 1).trans rfl
                    have hfz24_0 := blk_frozen BK941.out 0
                    have hfz24_1 := blk_frozen BK941.out 1
                    go_wp2_with (first | ((with_reducible refine gate_callee (f := 58) rfl ?_); refine goesL_ (some 27) rfl rfl Try.func58 (by kernel_rfl) rfl #[.agg #[.string x942000_2, .int .i64 x942001_2], .int .i64 x3_1, .int .i64 x5_2] rfl (by (try simp only [List.map_toArray, List.map_cons, List.map_nil]); first | done | rfl | (simp only [List.length_drop, List.length_take]; rfl)) ?_; (with_reducible refine (code_Put.calls x942000_2 x942001_2 x3_1 x5_2 t942 t943 t944 _ A6.out).mono ?_); rintro e w25 ⟨rfl, hb⟩; refine ⟨_, rfl, ?_⟩; have n0_ := Aside0.mk (blk_below (g := gb939) (o := .cells #[.slice A0_0 l0_0.length c0_0, .slice A0_1 l0_1.length c0_1] 25 (0, 0)) (by (with_reducible repeat (first | refine blk_drewN ?_ _ | refine blk_drew ?_ | refine blk_alloc ?_ _)); exact BK939.out) hb); have n1_ := Aside0.mk (blk_below (g := gb941) (o := .cells #[.string x942000_2, .int .i64 x942001_2] 27 (0, 0)) (by (with_reducible repeat (first | refine blk_drewN ?_ _ | refine blk_drew ?_ | refine blk_alloc ?_ _)); exact BK941.out) hb); have n2_ := Aside0.mk (below_step (by repeat (first | (with_reducible first | exact HB.out | apply below_alloc | apply pw_below_drewN | apply below_drew1 | refine below_set ?_ GE939.out | refine below_set ?_ GE941.out) | exact HB.out)) hb); clear BK939; clear BK941; clear HB; have BK939 := n0_; have BK941 := n1_; have HB := n2_; clear n0_ n1_ n2_; (try clear hb); (try clear hb2); (try clear hk); (try clear hi)) | ((with_reducible refine gate_dst (N := 6) rfl ?_); refine box_event ?hg (N := 6) ?hd (cs := #[.string (⟨#[]⟩ : ByteArray), .int .i64 0]) (t := 27) ?hr ?_; (case hd => rfl); (case hg => rfl); (case hr => first | (go_simp; done) | (go_simp; rfl)); intro gb945 hg w26 hbox hb; have n0_ := Aside0.mk (blk_below (g := gb939) (o := .cells #[.slice A0_0 l0_0.length c0_0, .slice A0_1 l0_1.length c0_1] 25 (0, 0)) (by (with_reducible repeat (first | refine blk_drewN ?_ _ | refine blk_drew ?_ | refine blk_alloc ?_ _)); exact BK939.out) hb); have n1_ := Aside0.mk (blk_below (g := gb941) (o := .cells #[.string x942000_2, .int .i64 x942001_2] 27 (0, 0)) (by (with_reducible repeat (first | refine blk_drewN ?_ _ | refine blk_drew ?_ | refine blk_alloc ?_ _)); exact BK941.out) hb); have n2_ := Aside0.mk (below_step (by repeat (first | (with_reducible first | exact HB.out | apply below_alloc | apply pw_below_drewN | apply below_drew1 | refine below_set ?_ GE939.out | refine below_set ?_ GE941.out) | exact HB.out)) hb); have n3_ := Aside0.mk (hbox); have n4_ := Aside0.mk ((by rw [hg]; exact (below_size (by repeat (first | (with_reducible first | exact HB.out | apply below_alloc | apply pw_below_drewN | apply below_drew1 | refine below_set ?_ GE939.out | refine below_set ?_ GE941.out) | exact HB.out))) : w.heap.size ≤ gb945)); have n5_ := Aside0.mk ((by rw [hg]; exact (below_size (by repeat (first | (with_reducible first | exact HB.out | apply below_alloc | apply pw_below_drewN | apply below_drew1 | refine below_set ?_ GE939.out | refine below_set ?_ GE941.out) | exact HB.out))) : w.heap.size ≤ gb945)); have n6_ := Aside0.mk ((by rw [hg]; exact Nat.ne_of_lt (blk_lt (g := gb939) (o := .cells #[.slice A0_0 l0_0.length c0_0, .slice A0_1 l0_1.length c0_1] 25 (0, 0)) (by (with_reducible repeat (first | refine blk_drewN ?_ _ | refine blk_drew ?_ | refine blk_alloc ?_ _)); exact BK939.out)) : gb939 ≠ gb945)); have n7_ := Aside0.mk ((by rw [hg]; exact Nat.ne_of_gt (blk_lt (g := gb939) (o := .cells #[.slice A0_0 l0_0.length c0_0, .slice A0_1 l0_1.length c0_1] 25 (0, 0)) (by (with_reducible repeat (first | refine blk_drewN ?_ _ | refine blk_drew ?_ | refine blk_alloc ?_ _)); exact BK939.out)) : gb945 ≠ gb939)); have n8_ := Aside0.mk ((by rw [hg]; exact Nat.ne_of_lt (blk_lt (g := gb941) (o := .cells #[.string x942000_2, .int .i64 x942001_2] 27 (0, 0)) (by (with_reducible repeat (first | refine blk_drewN ?_ _ | refine blk_drew ?_ | refine blk_alloc ?_ _)); exact BK941.out)) : gb941 ≠ gb945)); have n9_ := Aside0.mk ((by rw [hg]; exact Nat.ne_of_gt (blk_lt (g := gb941) (o := .cells #[.string x942000_2, .int .i64 x942001_2] 27 (0, 0)) (by (with_reducible repeat (first | refine blk_drewN ?_ _ | refine blk_drew ?_ | refine blk_alloc ?_ _)); exact BK941.out)) : gb945 ≠ gb941)); clear BK939; clear BK941; clear HB; have BK939 := n0_; have BK941 := n1_; have HB := n2_; have BK945 := n3_; have GW945 := n4_; have GE945 := n5_; have NB939_945 := n6_; have NB945_939 := n7_; have NB941_945 := n8_; have NB945_941 := n9_; clear n0_ n1_ n2_ n3_ n4_ n5_ n6_ n7_ n8_ n9_; clear hb hbox hg; have hnb27 := NB945_939.out; have hnc27 := NB939_945.out; have hnb28 := NB945_941.out; have hnc28 := NB941_945.out; have hcz29_0 : w26.cell? ⟨gb945, 0, none⟩ = some (.string (⟨#[]⟩ : ByteArray)) := (blk_cell BK945.out 0).trans rfl; have hcz29_1 : w26.cell? ⟨gb945, 1, none⟩ = some (.int .i64 0) := (blk_cell BK945.out 1).trans rfl; have hfz29_0 := blk_frozen BK945.out 0; have hfz29_1 := blk_frozen BK945.out 1) | ((with_reducible refine gate_callee (f := 64) rfl ?_); refine goesL_ (some 33) rfl rfl Try.func64 (by kernel_rfl) rfl #[.int .i64 x3_1, .int .i64 x5_2] rfl (by (try simp only [List.map_toArray, List.map_cons, List.map_nil]); first | done | rfl | (simp only [List.length_drop, List.length_take]; rfl)) ?_; (with_reducible refine (code_Size.calls x3_1 x5_2 t946 t947 _ A7.out).mono ?_); rintro e w30 ⟨rfl, hb⟩; refine ⟨_, rfl, ?_⟩; have n0_ := Aside0.mk (blk_below (g := gb939) (o := .cells #[.slice A0_0 l0_0.length c0_0, .slice A0_1 l0_1.length c0_1] 25 (0, 0)) (by (with_reducible repeat (first | refine blk_drewN ?_ _ | refine blk_drew ?_ | refine blk_alloc ?_ _)); refine blk_far ?_ NB939_945.out _; (with_reducible repeat (first | refine blk_drewN ?_ _ | refine blk_drew ?_ | refine blk_alloc ?_ _)); refine blk_far ?_ NB939_945.out _; (with_reducible repeat (first | refine blk_drewN ?_ _ | refine blk_drew ?_ | refine blk_alloc ?_ _)); exact BK939.out) hb); have n1_ := Aside0.mk (blk_below (g := gb941) (o := .cells #[.string x942000_2, .int .i64 x942001_2] 27 (0, 0)) (by (with_reducible repeat (first | refine blk_drewN ?_ _ | refine blk_drew ?_ | refine blk_alloc ?_ _)); refine blk_far ?_ NB941_945.out _; (with_reducible repeat (first | refine blk_drewN ?_ _ | refine blk_drew ?_ | refine blk_alloc ?_ _)); refine blk_far ?_ NB941_945.out _; (with_reducible repeat (first | refine blk_drewN ?_ _ | refine blk_drew ?_ | refine blk_alloc ?_ _)); exact BK941.out) hb); have n2_ := Aside0.mk (blk_below (g := gb945) (o := .cells #[.string t942, .int .i64 t943] 27 (0, 0)) (by (with_reducible repeat (first | refine blk_drewN ?_ _ | refine blk_drew ?_ | refine blk_alloc ?_ _)); refine blk_put (cs := #[.string t942, .int .i64 0]) ?_ 1 _ rfl; (with_reducible repeat (first | refine blk_drewN ?_ _ | refine blk_drew ?_ | refine blk_alloc ?_ _)); refine blk_put (cs := #[.string (⟨#[]⟩ : ByteArray), .int .i64 0]) ?_ 0 _ rfl; (with_reducible repeat (first | refine blk_drewN ?_ _ | refine blk_drew ?_ | refine blk_alloc ?_ _)); exact BK945.out) hb); have n3_ := Aside0.mk (below_step (by repeat (first | (with_reducible first | exact HB.out | apply below_alloc | apply pw_below_drewN | apply below_drew1 | refine below_set ?_ GE939.out | refine below_set ?_ GE941.out | refine below_set ?_ GE945.out) | exact HB.out)) hb); clear BK939; clear BK941; clear BK945; clear HB; have BK939 := n0_; have BK941 := n1_; have BK945 := n2_; have HB := n3_; clear n0_ n1_ n2_ n3_; (try clear hb); (try clear hb2); (try clear hk); (try clear hi)) | ((with_reducible refine gate_callee (f := 59) rfl ?_); refine goesL_ (some 37) rfl rfl Try.func59 (by kernel_rfl) rfl #[.int .i64 t944] rfl (by (try simp only [List.map_toArray, List.map_cons, List.map_nil]); first | done | rfl | (simp only [List.length_drop, List.length_take]; rfl)) ?_; (with_reducible refine (herbariumlaw2_num.calls t944 t948 _ A8.out).mono ?_); rintro e w' ⟨rfl, ⟨nd, rfl⟩⟩; refine ⟨_, rfl, ?_⟩) | (go_at_call 59; (with_reducible refine (herbariumlaw2_num.calls t947 t949 _ A10.out).mono ?_); rintro e w' ⟨rfl, ⟨nd, rfl⟩⟩; have hcz31_0 : w30.cell? ⟨gb945, 0, none⟩ = some (.string t942) := (blk_cell BK945.out 0).trans rfl; have hcz31_1 : w30.cell? ⟨gb945, 1, none⟩ = some (.int .i64 t943) := (blk_cell BK945.out 1).trans rfl; have hfz31_0 := blk_frozen BK945.out 0; have hfz31_1 := blk_frozen BK945.out 1; have hcz32_0 : w30.cell? ⟨gb941, 0, none⟩ = some (.string x942000_2) := (blk_cell BK941.out 0).trans rfl; have hcz32_1 : w30.cell? ⟨gb941, 1, none⟩ = some (.int .i64 x942001_2) := (blk_cell BK941.out 1).trans rfl; have hfz32_0 := blk_frozen BK941.out 0; have hfz32_1 := blk_frozen BK941.out 1))
                    go_ret
                    exact ⟨by first | rfl | (simp [errW_none, errW_some] <;> rfl) | (simp [*, errW_none, errW_some] <;> rfl), by repeat (first | (with_reducible first | exact HB.out | apply below_alloc | apply pw_below_drewN | apply below_drew1 | refine below_set ?_ GE939.out | refine below_set ?_ GE941.out | refine below_set ?_ GE945.out) | exact HB.out)⟩
                · rw [if_neg c11] at H
                  have c11b0 : (t949 == 0) = false := beq_eq_false_iff_ne.mpr c11
                  have c11b1 : (t949 != 0) = true := bne_iff_ne.mpr c11
                  obtain rfl := Option.some.inj H
                  have hnb33 := NB941_939.out
                  have hnc33 := NB939_941.out
                  have hcz34_0 : wr.cell? ⟨gb941, 0, none⟩ = some (.string x942000_2) := (blk_cell BK941.out 0).trans rfl
                  have hcz34_1 : wr.cell? ⟨gb941, 1, none⟩ = some (.int .i64 x942001_2) := (blk_cell BK941.out 1).trans rfl
                  have hfz34_0 := blk_frozen BK941.out 0
                  have hfz34_1 := blk_frozen BK941.out 1
                  go_wp2_with (first | ((with_reducible refine gate_callee (f := 58) rfl ?_); refine goesL_ (some 27) rfl rfl Try.func58 (by kernel_rfl) rfl #[.agg #[.string x942000_2, .int .i64 x942001_2], .int .i64 x3_1, .int .i64 x5_2] rfl (by (try simp only [List.map_toArray, List.map_cons, List.map_nil]); first | done | rfl | (simp only [List.length_drop, List.length_take]; rfl)) ?_; (with_reducible refine (code_Put.calls x942000_2 x942001_2 x3_1 x5_2 t942 t943 t944 _ A6.out).mono ?_); rintro e w35 ⟨rfl, hb⟩; refine ⟨_, rfl, ?_⟩; have n0_ := Aside0.mk (blk_below (g := gb939) (o := .cells #[.slice A0_0 l0_0.length c0_0, .slice A0_1 l0_1.length c0_1] 25 (0, 0)) (by (with_reducible repeat (first | refine blk_drewN ?_ _ | refine blk_drew ?_ | refine blk_alloc ?_ _)); exact BK939.out) hb); have n1_ := Aside0.mk (blk_below (g := gb941) (o := .cells #[.string x942000_2, .int .i64 x942001_2] 27 (0, 0)) (by (with_reducible repeat (first | refine blk_drewN ?_ _ | refine blk_drew ?_ | refine blk_alloc ?_ _)); exact BK941.out) hb); have n2_ := Aside0.mk (below_step (by repeat (first | (with_reducible first | exact HB.out | apply below_alloc | apply pw_below_drewN | apply below_drew1 | refine below_set ?_ GE939.out | refine below_set ?_ GE941.out) | exact HB.out)) hb); clear BK939; clear BK941; clear HB; have BK939 := n0_; have BK941 := n1_; have HB := n2_; clear n0_ n1_ n2_; (try clear hb); (try clear hb2); (try clear hk); (try clear hi)) | ((with_reducible refine gate_dst (N := 6) rfl ?_); refine box_event ?hg (N := 6) ?hd (cs := #[.string (⟨#[]⟩ : ByteArray), .int .i64 0]) (t := 27) ?hr ?_; (case hd => rfl); (case hg => rfl); (case hr => first | (go_simp; done) | (go_simp; rfl)); intro gb945 hg w36 hbox hb; have n0_ := Aside0.mk (blk_below (g := gb939) (o := .cells #[.slice A0_0 l0_0.length c0_0, .slice A0_1 l0_1.length c0_1] 25 (0, 0)) (by (with_reducible repeat (first | refine blk_drewN ?_ _ | refine blk_drew ?_ | refine blk_alloc ?_ _)); exact BK939.out) hb); have n1_ := Aside0.mk (blk_below (g := gb941) (o := .cells #[.string x942000_2, .int .i64 x942001_2] 27 (0, 0)) (by (with_reducible repeat (first | refine blk_drewN ?_ _ | refine blk_drew ?_ | refine blk_alloc ?_ _)); exact BK941.out) hb); have n2_ := Aside0.mk (below_step (by repeat (first | (with_reducible first | exact HB.out | apply below_alloc | apply pw_below_drewN | apply below_drew1 | refine below_set ?_ GE939.out | refine below_set ?_ GE941.out) | exact HB.out)) hb); have n3_ := Aside0.mk (hbox); have n4_ := Aside0.mk ((by rw [hg]; exact (below_size (by repeat (first | (with_reducible first | exact HB.out | apply below_alloc | apply pw_below_drewN | apply below_drew1 | refine below_set ?_ GE939.out | refine below_set ?_ GE941.out) | exact HB.out))) : w.heap.size ≤ gb945)); have n5_ := Aside0.mk ((by rw [hg]; exact (below_size (by repeat (first | (with_reducible first | exact HB.out | apply below_alloc | apply pw_below_drewN | apply below_drew1 | refine below_set ?_ GE939.out | refine below_set ?_ GE941.out) | exact HB.out))) : w.heap.size ≤ gb945)); have n6_ := Aside0.mk ((by rw [hg]; exact Nat.ne_of_lt (blk_lt (g := gb939) (o := .cells #[.slice A0_0 l0_0.length c0_0, .slice A0_1 l0_1.length c0_1] 25 (0, 0)) (by (with_reducible repeat (first | refine blk_drewN ?_ _ | refine blk_drew ?_ | refine blk_alloc ?_ _)); exact BK939.out)) : gb939 ≠ gb945)); have n7_ := Aside0.mk ((by rw [hg]; exact Nat.ne_of_gt (blk_lt (g := gb939) (o := .cells #[.slice A0_0 l0_0.length c0_0, .slice A0_1 l0_1.length c0_1] 25 (0, 0)) (by (with_reducible repeat (first | refine blk_drewN ?_ _ | refine blk_drew ?_ | refine blk_alloc ?_ _)); exact BK939.out)) : gb945 ≠ gb939)); have n8_ := Aside0.mk ((by rw [hg]; exact Nat.ne_of_lt (blk_lt (g := gb941) (o := .cells #[.string x942000_2, .int .i64 x942001_2] 27 (0, 0)) (by (with_reducible repeat (first | refine blk_drewN ?_ _ | refine blk_drew ?_ | refine blk_alloc ?_ _)); exact BK941.out)) : gb941 ≠ gb945)); have n9_ := Aside0.mk ((by rw [hg]; exact Nat.ne_of_gt (blk_lt (g := gb941) (o := .cells #[.string x942000_2, .int .i64 x942001_2] 27 (0, 0)) (by (with_reducible repeat (first | refine blk_drewN ?_ _ | refine blk_drew ?_ | refine blk_alloc ?_ _)); exact BK941.out)) : gb945 ≠ gb941)); clear BK939; clear BK941; clear HB; have BK939 := n0_; have BK941 := n1_; have HB := n2_; have BK945 := n3_; have GW945 := n4_; have GE945 := n5_; have NB939_945 := n6_; have NB945_939 := n7_; have NB941_945 := n8_; have NB945_941 := n9_; clear n0_ n1_ n2_ n3_ n4_ n5_ n6_ n7_ n8_ n9_; clear hb hbox hg; have hnb37 := NB945_939.out; have hnc37 := NB939_945.out; have hnb38 := NB945_941.out; have hnc38 := NB941_945.out; have hcz39_0 : w36.cell? ⟨gb945, 0, none⟩ = some (.string (⟨#[]⟩ : ByteArray)) := (blk_cell BK945.out 0).trans rfl; have hcz39_1 : w36.cell? ⟨gb945, 1, none⟩ = some (.int .i64 0) := (blk_cell BK945.out 1).trans rfl; have hfz39_0 := blk_frozen BK945.out 0; have hfz39_1 := blk_frozen BK945.out 1) | ((with_reducible refine gate_callee (f := 64) rfl ?_); refine goesL_ (some 33) rfl rfl Try.func64 (by kernel_rfl) rfl #[.int .i64 x3_1, .int .i64 x5_2] rfl (by (try simp only [List.map_toArray, List.map_cons, List.map_nil]); first | done | rfl | (simp only [List.length_drop, List.length_take]; rfl)) ?_; (with_reducible refine (code_Size.calls x3_1 x5_2 t946 t947 _ A7.out).mono ?_); rintro e w40 ⟨rfl, hb⟩; refine ⟨_, rfl, ?_⟩; have n0_ := Aside0.mk (blk_below (g := gb939) (o := .cells #[.slice A0_0 l0_0.length c0_0, .slice A0_1 l0_1.length c0_1] 25 (0, 0)) (by (with_reducible repeat (first | refine blk_drewN ?_ _ | refine blk_drew ?_ | refine blk_alloc ?_ _)); refine blk_far ?_ NB939_945.out _; (with_reducible repeat (first | refine blk_drewN ?_ _ | refine blk_drew ?_ | refine blk_alloc ?_ _)); refine blk_far ?_ NB939_945.out _; (with_reducible repeat (first | refine blk_drewN ?_ _ | refine blk_drew ?_ | refine blk_alloc ?_ _)); exact BK939.out) hb); have n1_ := Aside0.mk (blk_below (g := gb941) (o := .cells #[.string x942000_2, .int .i64 x942001_2] 27 (0, 0)) (by (with_reducible repeat (first | refine blk_drewN ?_ _ | refine blk_drew ?_ | refine blk_alloc ?_ _)); refine blk_far ?_ NB941_945.out _; (with_reducible repeat (first | refine blk_drewN ?_ _ | refine blk_drew ?_ | refine blk_alloc ?_ _)); refine blk_far ?_ NB941_945.out _; (with_reducible repeat (first | refine blk_drewN ?_ _ | refine blk_drew ?_ | refine blk_alloc ?_ _)); exact BK941.out) hb); have n2_ := Aside0.mk (blk_below (g := gb945) (o := .cells #[.string t942, .int .i64 t943] 27 (0, 0)) (by (with_reducible repeat (first | refine blk_drewN ?_ _ | refine blk_drew ?_ | refine blk_alloc ?_ _)); refine blk_put (cs := #[.string t942, .int .i64 0]) ?_ 1 _ rfl; (with_reducible repeat (first | refine blk_drewN ?_ _ | refine blk_drew ?_ | refine blk_alloc ?_ _)); refine blk_put (cs := #[.string (⟨#[]⟩ : ByteArray), .int .i64 0]) ?_ 0 _ rfl; (with_reducible repeat (first | refine blk_drewN ?_ _ | refine blk_drew ?_ | refine blk_alloc ?_ _)); exact BK945.out) hb); have n3_ := Aside0.mk (below_step (by repeat (first | (with_reducible first | exact HB.out | apply below_alloc | apply pw_below_drewN | apply below_drew1 | refine below_set ?_ GE939.out | refine below_set ?_ GE941.out | refine below_set ?_ GE945.out) | exact HB.out)) hb); clear BK939; clear BK941; clear BK945; clear HB; have BK939 := n0_; have BK941 := n1_; have BK945 := n2_; have HB := n3_; clear n0_ n1_ n2_ n3_; (try clear hb); (try clear hb2); (try clear hk); (try clear hi)) | ((with_reducible refine gate_callee (f := 59) rfl ?_); refine goesL_ (some 37) rfl rfl Try.func59 (by kernel_rfl) rfl #[.int .i64 t944] rfl (by (try simp only [List.map_toArray, List.map_cons, List.map_nil]); first | done | rfl | (simp only [List.length_drop, List.length_take]; rfl)) ?_; (with_reducible refine (herbariumlaw2_num.calls t944 t948 _ A8.out).mono ?_); rintro e w' ⟨rfl, ⟨nd, rfl⟩⟩; refine ⟨_, rfl, ?_⟩) | (go_at_call 59; (with_reducible refine (herbariumlaw2_num.calls t947 t949 _ A10.out).mono ?_); rintro e w' ⟨rfl, ⟨nd, rfl⟩⟩))
                  go_ret
                  exact ⟨by first | rfl | (simp [errW_none, errW_some] <;> rfl) | (simp [*, errW_none, errW_some] <;> rfl), by repeat (first | (with_reducible first | exact HB.out | apply below_alloc | apply pw_below_drewN | apply below_drew1 | refine below_set ?_ GE939.out | refine below_set ?_ GE941.out | refine below_set ?_ GE945.out) | exact HB.out)⟩
              · rw [if_neg c9] at H
                have c9b0 : (t948 == 0) = false := beq_eq_false_iff_ne.mpr c9
                have c9b1 : (t948 != 0) = true := bne_iff_ne.mpr c9
                obtain rfl := Option.some.inj H
                have hnb41 := NB941_939.out
                have hnc41 := NB939_941.out
                have hcz42_0 : wr.cell? ⟨gb941, 0, none⟩ = some (.string x942000_2) := (blk_cell BK941.out 0).trans rfl
                have hcz42_1 : wr.cell? ⟨gb941, 1, none⟩ = some (.int .i64 x942001_2) := (blk_cell BK941.out 1).trans rfl
                have hfz42_0 := blk_frozen BK941.out 0
                have hfz42_1 := blk_frozen BK941.out 1
                go_wp2_with (first | ((with_reducible refine gate_callee (f := 58) rfl ?_); refine goesL_ (some 27) rfl rfl Try.func58 (by kernel_rfl) rfl #[.agg #[.string x942000_2, .int .i64 x942001_2], .int .i64 x3_1, .int .i64 x5_2] rfl (by (try simp only [List.map_toArray, List.map_cons, List.map_nil]); first | done | rfl | (simp only [List.length_drop, List.length_take]; rfl)) ?_; (with_reducible refine (code_Put.calls x942000_2 x942001_2 x3_1 x5_2 t942 t943 t944 _ A6.out).mono ?_); rintro e w43 ⟨rfl, hb⟩; refine ⟨_, rfl, ?_⟩; have n0_ := Aside0.mk (blk_below (g := gb939) (o := .cells #[.slice A0_0 l0_0.length c0_0, .slice A0_1 l0_1.length c0_1] 25 (0, 0)) (by (with_reducible repeat (first | refine blk_drewN ?_ _ | refine blk_drew ?_ | refine blk_alloc ?_ _)); exact BK939.out) hb); have n1_ := Aside0.mk (blk_below (g := gb941) (o := .cells #[.string x942000_2, .int .i64 x942001_2] 27 (0, 0)) (by (with_reducible repeat (first | refine blk_drewN ?_ _ | refine blk_drew ?_ | refine blk_alloc ?_ _)); exact BK941.out) hb); have n2_ := Aside0.mk (below_step (by repeat (first | (with_reducible first | exact HB.out | apply below_alloc | apply pw_below_drewN | apply below_drew1 | refine below_set ?_ GE939.out | refine below_set ?_ GE941.out) | exact HB.out)) hb); clear BK939; clear BK941; clear HB; have BK939 := n0_; have BK941 := n1_; have HB := n2_; clear n0_ n1_ n2_; (try clear hb); (try clear hb2); (try clear hk); (try clear hi)) | ((with_reducible refine gate_dst (N := 6) rfl ?_); refine box_event ?hg (N := 6) ?hd (cs := #[.string (⟨#[]⟩ : ByteArray), .int .i64 0]) (t := 27) ?hr ?_; (case hd => rfl); (case hg => rfl); (case hr => first | (go_simp; done) | (go_simp; rfl)); intro gb945 hg w44 hbox hb; have n0_ := Aside0.mk (blk_below (g := gb939) (o := .cells #[.slice A0_0 l0_0.length c0_0, .slice A0_1 l0_1.length c0_1] 25 (0, 0)) (by (with_reducible repeat (first | refine blk_drewN ?_ _ | refine blk_drew ?_ | refine blk_alloc ?_ _)); exact BK939.out) hb); have n1_ := Aside0.mk (blk_below (g := gb941) (o := .cells #[.string x942000_2, .int .i64 x942001_2] 27 (0, 0)) (by (with_reducible repeat (first | refine blk_drewN ?_ _ | refine blk_drew ?_ | refine blk_alloc ?_ _)); exact BK941.out) hb); have n2_ := Aside0.mk (below_step (by repeat (first | (with_reducible first | exact HB.out | apply below_alloc | apply pw_below_drewN | apply below_drew1 | refine below_set ?_ GE939.out | refine below_set ?_ GE941.out) | exact HB.out)) hb); have n3_ := Aside0.mk (hbox); have n4_ := Aside0.mk ((by rw [hg]; exact (below_size (by repeat (first | (with_reducible first | exact HB.out | apply below_alloc | apply pw_below_drewN | apply below_drew1 | refine below_set ?_ GE939.out | refine below_set ?_ GE941.out) | exact HB.out))) : w.heap.size ≤ gb945)); have n5_ := Aside0.mk ((by rw [hg]; exact (below_size (by repeat (first | (with_reducible first | exact HB.out | apply below_alloc | apply pw_below_drewN | apply below_drew1 | refine below_set ?_ GE939.out | refine below_set ?_ GE941.out) | exact HB.out))) : w.heap.size ≤ gb945)); have n6_ := Aside0.mk ((by rw [hg]; exact Nat.ne_of_lt (blk_lt (g := gb939) (o := .cells #[.slice A0_0 l0_0.length c0_0, .slice A0_1 l0_1.length c0_1] 25 (0, 0)) (by (with_reducible repeat (first | refine blk_drewN ?_ _ | refine blk_drew ?_ | refine blk_alloc ?_ _)); exact BK939.out)) : gb939 ≠ gb945)); have n7_ := Aside0.mk ((by rw [hg]; exact Nat.ne_of_gt (blk_lt (g := gb939) (o := .cells #[.slice A0_0 l0_0.length c0_0, .slice A0_1 l0_1.length c0_1] 25 (0, 0)) (by (with_reducible repeat (first | refine blk_drewN ?_ _ | refine blk_drew ?_ | refine blk_alloc ?_ _)); exact BK939.out)) : gb945 ≠ gb939)); have n8_ := Aside0.mk ((by rw [hg]; exact Nat.ne_of_lt (blk_lt (g := gb941) (o := .cells #[.string x942000_2, .int .i64 x942001_2] 27 (0, 0)) (by (with_reducible repeat (first | refine blk_drewN ?_ _ | refine blk_drew ?_ | refine blk_alloc ?_ _)); exact BK941.out)) : gb941 ≠ gb945)); have n9_ := Aside0.mk ((by rw [hg]; exact Nat.ne_of_gt (blk_lt (g := gb941) (o := .cells #[.string x942000_2, .int .i64 x942001_2] 27 (0, 0)) (by (with_reducible repeat (first | refine blk_drewN ?_ _ | refine blk_drew ?_ | refine blk_alloc ?_ _)); exact BK941.out)) : gb945 ≠ gb941)); clear BK939; clear BK941; clear HB; have BK939 := n0_; have BK941 := n1_; have HB := n2_; have BK945 := n3_; have GW945 := n4_; have GE945 := n5_; have NB939_945 := n6_; have NB945_939 := n7_; have NB941_945 := n8_; have NB945_941 := n9_; clear n0_ n1_ n2_ n3_ n4_ n5_ n6_ n7_ n8_ n9_; clear hb hbox hg; have hnb45 := NB945_939.out; have hnc45 := NB939_945.out; have hnb46 := NB945_941.out; have hnc46 := NB941_945.out; have hcz47_0 : w44.cell? ⟨gb945, 0, none⟩ = some (.string (⟨#[]⟩ : ByteArray)) := (blk_cell BK945.out 0).trans rfl; have hcz47_1 : w44.cell? ⟨gb945, 1, none⟩ = some (.int .i64 0) := (blk_cell BK945.out 1).trans rfl; have hfz47_0 := blk_frozen BK945.out 0; have hfz47_1 := blk_frozen BK945.out 1) | ((with_reducible refine gate_callee (f := 64) rfl ?_); refine goesL_ (some 33) rfl rfl Try.func64 (by kernel_rfl) rfl #[.int .i64 x3_1, .int .i64 x5_2] rfl (by (try simp only [List.map_toArray, List.map_cons, List.map_nil]); first | done | rfl | (simp only [List.length_drop, List.length_take]; rfl)) ?_; (with_reducible refine (code_Size.calls x3_1 x5_2 t946 t947 _ A7.out).mono ?_); rintro e w48 ⟨rfl, hb⟩; refine ⟨_, rfl, ?_⟩; have n0_ := Aside0.mk (blk_below (g := gb939) (o := .cells #[.slice A0_0 l0_0.length c0_0, .slice A0_1 l0_1.length c0_1] 25 (0, 0)) (by (with_reducible repeat (first | refine blk_drewN ?_ _ | refine blk_drew ?_ | refine blk_alloc ?_ _)); refine blk_far ?_ NB939_945.out _; (with_reducible repeat (first | refine blk_drewN ?_ _ | refine blk_drew ?_ | refine blk_alloc ?_ _)); refine blk_far ?_ NB939_945.out _; (with_reducible repeat (first | refine blk_drewN ?_ _ | refine blk_drew ?_ | refine blk_alloc ?_ _)); exact BK939.out) hb); have n1_ := Aside0.mk (blk_below (g := gb941) (o := .cells #[.string x942000_2, .int .i64 x942001_2] 27 (0, 0)) (by (with_reducible repeat (first | refine blk_drewN ?_ _ | refine blk_drew ?_ | refine blk_alloc ?_ _)); refine blk_far ?_ NB941_945.out _; (with_reducible repeat (first | refine blk_drewN ?_ _ | refine blk_drew ?_ | refine blk_alloc ?_ _)); refine blk_far ?_ NB941_945.out _; (with_reducible repeat (first | refine blk_drewN ?_ _ | refine blk_drew ?_ | refine blk_alloc ?_ _)); exact BK941.out) hb); have n2_ := Aside0.mk (blk_below (g := gb945) (o := .cells #[.string t942, .int .i64 t943] 27 (0, 0)) (by (with_reducible repeat (first | refine blk_drewN ?_ _ | refine blk_drew ?_ | refine blk_alloc ?_ _)); refine blk_put (cs := #[.string t942, .int .i64 0]) ?_ 1 _ rfl; (with_reducible repeat (first | refine blk_drewN ?_ _ | refine blk_drew ?_ | refine blk_alloc ?_ _)); refine blk_put (cs := #[.string (⟨#[]⟩ : ByteArray), .int .i64 0]) ?_ 0 _ rfl; (with_reducible repeat (first | refine blk_drewN ?_ _ | refine blk_drew ?_ | refine blk_alloc ?_ _)); exact BK945.out) hb); have n3_ := Aside0.mk (below_step (by repeat (first | (with_reducible first | exact HB.out | apply below_alloc | apply pw_below_drewN | apply below_drew1 | refine below_set ?_ GE939.out | refine below_set ?_ GE941.out | refine below_set ?_ GE945.out) | exact HB.out)) hb); clear BK939; clear BK941; clear BK945; clear HB; have BK939 := n0_; have BK941 := n1_; have BK945 := n2_; have HB := n3_; clear n0_ n1_ n2_ n3_; (try clear hb); (try clear hb2); (try clear hk); (try clear hi)) | ((with_reducible refine gate_callee (f := 59) rfl ?_); refine goesL_ (some 37) rfl rfl Try.func59 (by kernel_rfl) rfl #[.int .i64 t944] rfl (by (try simp only [List.map_toArray, List.map_cons, List.map_nil]); first | done | rfl | (simp only [List.length_drop, List.length_take]; rfl)) ?_; (with_reducible refine (herbariumlaw2_num.calls t944 t948 _ A8.out).mono ?_); rintro e w' ⟨rfl, ⟨nd, rfl⟩⟩; refine ⟨_, rfl, ?_⟩))
                go_ret
                exact ⟨by first | rfl | (simp [errW_none, errW_some] <;> rfl) | (simp [*, errW_none, errW_some] <;> rfl), by repeat (first | (with_reducible first | exact HB.out | apply below_alloc | apply pw_below_drewN | apply below_drew1 | refine below_set ?_ GE939.out | refine below_set ?_ GE941.out | refine below_set ?_ GE945.out) | exact HB.out)⟩
            · rw [if_neg c5] at H
              have c5b0 : decide (x5_2 ≤ 40) = false := decide_eq_false c5
              clear c5
              have H' := Aside0.mk H
              clear H
              go_wp2
              go_loopg [10, 11] k2 (fun kq v10 v11 w' => ∃ (x10_3 : Int) (x11_3 : Int), v10 = .int .i64 x10_3 ∧ v11 = .int .i64 x11_3 ∧ Aside0 (herbariumlaw2_CodeSmall.l2 kq x3_1 x10_3 x11_3 l0_0 l0_1 x942000_2 x942001_2 = some r) ∧ Aside0 (kq ≤ k2) ∧ Aside0 (w'.heap[gb939]? = some (.cells #[(.slice A0_0 l0_0.length c0_0), (.slice A0_1 l0_1.length c0_1)] 25 (0, 0))) ∧ Aside0 (w'.heap[gb941]? = some (.cells #[.string x942000_2, .int .i64 x942001_2] 27 (0, 0))) ∧ Aside0 (Below w.heap.size w w'))
              case atStart => exact ⟨(0), (1), (by first | rfl | (simp; done) | (simp [*]; done)), (by first | rfl | (simp; done) | (simp [*]; done)), H', ⟨Nat.le_refl _⟩, ⟨by (with_reducible repeat (first | refine blk_drewN ?_ _ | refine blk_drew ?_ | refine blk_alloc ?_ _)); exact BK939.out⟩, ⟨by (with_reducible repeat (first | refine blk_drewN ?_ _ | refine blk_drew ?_ | refine blk_alloc ?_ _)); exact BK941.out⟩, ⟨by repeat (first | (with_reducible first | exact HB.out | apply below_alloc | apply pw_below_drewN | apply below_drew1 | refine below_set ?_ GE939.out | refine below_set ?_ GE941.out) | exact HB.out)⟩⟩
              case round =>
                clear H'
                try clear c1
                try clear c2
                try clear p2
                try clear c3
                try clear c3b0
                try clear c4
                try clear c5
                try clear c5b0
                try clear c6
                try clear p6
                try clear c9
                try clear c9b0
                try clear c9b1
                try clear c11
                try clear c11b0
                try clear c11b1
                try clear c12
                try clear c12b0
                try clear c12b1
                try clear c13
                try clear c17
                try clear c18
                try clear c19
                try clear c23
                try clear c27
                try clear c28
                try clear c33
                try clear c37
                try clear c38
                try clear c41
                try clear c45
                try clear c46
                try clear hcz14_0
                try clear hcz14_1
                try clear hcz19_0
                try clear hcz19_1
                try clear hcz21_0
                try clear hcz21_1
                try clear hcz22_0
                try clear hcz22_1
                try clear hcz24_0
                try clear hcz24_1
                try clear hcz29_0
                try clear hcz29_1
                try clear hcz31_0
                try clear hcz31_1
                try clear hcz32_0
                try clear hcz32_1
                try clear hcz34_0
                try clear hcz34_1
                try clear hcz39_0
                try clear hcz39_1
                try clear hcz42_0
                try clear hcz42_1
                try clear hcz47_0
                try clear hcz47_1
                try clear hfz14_0
                try clear hfz14_1
                try clear hfz19_0
                try clear hfz19_1
                try clear hfz21_0
                try clear hfz21_1
                try clear hfz22_0
                try clear hfz22_1
                try clear hfz24_0
                try clear hfz24_1
                try clear hfz29_0
                try clear hfz29_1
                try clear hfz31_0
                try clear hfz31_1
                try clear hfz32_0
                try clear hfz32_1
                try clear hfz34_0
                try clear hfz34_1
                try clear hfz39_0
                try clear hfz39_1
                try clear hfz42_0
                try clear hfz42_1
                try clear hfz47_0
                try clear hfz47_1
                try clear p2
                obtain ⟨x10_3, x11_3, rfl, rfl, HA, HK3, BK939, BK941, HB⟩ := hrel
                cases gk with
                | zero => exact absurd HA.out (by simp [herbariumlaw2_CodeSmall.l2])
                | succ k3 =>
                  have H := HA.out
                  clear HA
                  simp only [herbariumlaw2_CodeSmall.l2] at H
                  by_cases c49 : x11_3 ≤ 40
                  · rw [if_pos c49] at H
                    have c49b0 : decide (x11_3 ≤ 40) = true := decide_eq_true c49
                    clear c49
                    replace H := Option.bind_eq_some_iff.mp H
                    obtain ⟨⟨t950, t951, t952⟩, A500, H⟩ := H
                    replace H : ((herbariumlaw2_num.f t952).bind fun t953 => (if t953 = 0 then (if t950 = x11_3 then (herbariumlaw2_CodeSmall.l2 k3 x3_1 t951 (wrap64 (x11_3 + 1)) l0_0 l0_1 x942000_2 x942001_2) else (some false)) else (some false))) = some r := H
                    have A50 := Aside0.mk A500
                    clear A500
                    replace H := Option.bind_eq_some_iff.mp H
                    obtain ⟨t953, A510, H⟩ := H
                    replace H : (if t953 = 0 then (if t950 = x11_3 then (herbariumlaw2_CodeSmall.l2 k3 x3_1 t951 (wrap64 (x11_3 + 1)) l0_0 l0_1 x942000_2 x942001_2) else (some false)) else (some false)) = some r := H
                    have A51 := Aside0.mk A510
                    clear A510
                    by_cases c52 : t953 = 0
                    · rw [if_pos c52] at H
                      have c52b0 : (t953 == 0) = true := beq_iff_eq.mpr c52
                      have c52b1 : (t953 != 0) = false := bne_eq_false_iff_eq.mpr c52
                      clear c52
                      by_cases c53 : t950 = x11_3
                      · rw [if_pos c53] at H
                        have c53b0 : (t950 == x11_3) = true := beq_iff_eq.mpr c53
                        have c53b1 : (t950 != x11_3) = false := bne_eq_false_iff_eq.mpr c53
                        clear c53
                        have H' := Aside0.mk H
                        clear H
                        have hnb54 := NB941_939.out
                        have hnc54 := NB939_941.out
                        have hcz55_0 : wr.cell? ⟨gb941, 0, none⟩ = some (.string x942000_2) := (blk_cell BK941.out 0).trans rfl
                        have hcz55_1 : wr.cell? ⟨gb941, 1, none⟩ = some (.int .i64 x942001_2) := (blk_cell BK941.out 1).trans rfl
                        have hfz55_0 := blk_frozen BK941.out 0
                        have hfz55_1 := blk_frozen BK941.out 1
                        go_wp2_with (first | ((with_reducible refine gate_callee (f := 61) rfl ?_); refine goesL_ (some 62) rfl rfl Try.func61 (by kernel_rfl) rfl #[.agg #[.string x942000_2, .int .i64 x942001_2], .int .i64 x10_3, .int .i64 x3_1] rfl (by (try simp only [List.map_toArray, List.map_cons, List.map_nil]); first | done | rfl | (simp only [List.length_drop, List.length_take]; rfl)) ?_; (with_reducible refine (code_Take.calls k3 x942000_2 x942001_2 x10_3 x3_1 t950 t951 t952 _ A50.out).mono ?_); rintro e w56 ⟨rfl, hb⟩; refine ⟨_, rfl, ?_⟩; have n0_ := Aside0.mk (blk_below (g := gb939) (o := .cells #[.slice A0_0 l0_0.length c0_0, .slice A0_1 l0_1.length c0_1] 25 (0, 0)) (by (with_reducible repeat (first | refine blk_drewN ?_ _ | refine blk_drew ?_ | refine blk_alloc ?_ _)); exact BK939.out) hb); have n1_ := Aside0.mk (blk_below (g := gb941) (o := .cells #[.string x942000_2, .int .i64 x942001_2] 27 (0, 0)) (by (with_reducible repeat (first | refine blk_drewN ?_ _ | refine blk_drew ?_ | refine blk_alloc ?_ _)); exact BK941.out) hb); have n2_ := Aside0.mk (below_step (by repeat (first | (with_reducible first | exact HB.out | apply below_alloc | apply pw_below_drewN | apply below_drew1 | refine below_set ?_ GE939.out | refine below_set ?_ GE941.out) | exact HB.out)) hb); clear BK939; clear BK941; clear HB; have BK939 := n0_; have BK941 := n1_; have HB := n2_; clear n0_ n1_ n2_; (try clear hb); (try clear hb2); (try clear hk); (try clear hi)) | ((with_reducible refine gate_callee (f := 59) rfl ?_); refine goesL_ (some 67) rfl rfl Try.func59 (by kernel_rfl) rfl #[.int .i64 t952] rfl (by (try simp only [List.map_toArray, List.map_cons, List.map_nil]); first | done | rfl | (simp only [List.length_drop, List.length_take]; rfl)) ?_; (with_reducible refine (herbariumlaw2_num.calls t952 t953 _ A51.out).mono ?_); rintro e w' ⟨rfl, ⟨nd, rfl⟩⟩; refine ⟨_, rfl, ?_⟩))
                        go_roundg k3
                        case measure => have := HK1.out; have := HK2.out; have := HK3.out; omega
                        case rel => exact ⟨(t951), (wrap64 (x11_3 + 1)), (by first | rfl | (simp; done) | (simp [*]; done)), (by first | rfl | (simp; done) | (simp [*]; done)), H', ⟨by have := HK1.out; have := HK2.out; have := HK3.out; omega⟩, ⟨by (with_reducible repeat (first | refine blk_drewN ?_ _ | refine blk_drew ?_ | refine blk_alloc ?_ _)); exact BK939.out⟩, ⟨by (with_reducible repeat (first | refine blk_drewN ?_ _ | refine blk_drew ?_ | refine blk_alloc ?_ _)); exact BK941.out⟩, ⟨by repeat (first | (with_reducible first | exact HB.out | apply below_alloc | apply pw_below_drewN | apply below_drew1 | refine below_set ?_ GE939.out | refine below_set ?_ GE941.out) | exact HB.out)⟩⟩
                      · rw [if_neg c53] at H
                        have c53b0 : (t950 == x11_3) = false := beq_eq_false_iff_ne.mpr c53
                        have c53b1 : (t950 != x11_3) = true := bne_iff_ne.mpr c53
                        obtain rfl := Option.some.inj H
                        have hnb57 := NB941_939.out
                        have hnc57 := NB939_941.out
                        have hcz58_0 : wr.cell? ⟨gb941, 0, none⟩ = some (.string x942000_2) := (blk_cell BK941.out 0).trans rfl
                        have hcz58_1 : wr.cell? ⟨gb941, 1, none⟩ = some (.int .i64 x942001_2) := (blk_cell BK941.out 1).trans rfl
                        have hfz58_0 := blk_frozen BK941.out 0
                        have hfz58_1 := blk_frozen BK941.out 1
                        go_wp2_with (first | ((with_reducible refine gate_callee (f := 61) rfl ?_); refine goesL_ (some 62) rfl rfl Try.func61 (by kernel_rfl) rfl #[.agg #[.string x942000_2, .int .i64 x942001_2], .int .i64 x10_3, .int .i64 x3_1] rfl (by (try simp only [List.map_toArray, List.map_cons, List.map_nil]); first | done | rfl | (simp only [List.length_drop, List.length_take]; rfl)) ?_; (with_reducible refine (code_Take.calls k3 x942000_2 x942001_2 x10_3 x3_1 t950 t951 t952 _ A50.out).mono ?_); rintro e w59 ⟨rfl, hb⟩; refine ⟨_, rfl, ?_⟩; have n0_ := Aside0.mk (blk_below (g := gb939) (o := .cells #[.slice A0_0 l0_0.length c0_0, .slice A0_1 l0_1.length c0_1] 25 (0, 0)) (by (with_reducible repeat (first | refine blk_drewN ?_ _ | refine blk_drew ?_ | refine blk_alloc ?_ _)); exact BK939.out) hb); have n1_ := Aside0.mk (blk_below (g := gb941) (o := .cells #[.string x942000_2, .int .i64 x942001_2] 27 (0, 0)) (by (with_reducible repeat (first | refine blk_drewN ?_ _ | refine blk_drew ?_ | refine blk_alloc ?_ _)); exact BK941.out) hb); have n2_ := Aside0.mk (below_step (by repeat (first | (with_reducible first | exact HB.out | apply below_alloc | apply pw_below_drewN | apply below_drew1 | refine below_set ?_ GE939.out | refine below_set ?_ GE941.out) | exact HB.out)) hb); clear BK939; clear BK941; clear HB; have BK939 := n0_; have BK941 := n1_; have HB := n2_; clear n0_ n1_ n2_; (try clear hb); (try clear hb2); (try clear hk); (try clear hi)) | ((with_reducible refine gate_callee (f := 59) rfl ?_); refine goesL_ (some 67) rfl rfl Try.func59 (by kernel_rfl) rfl #[.int .i64 t952] rfl (by (try simp only [List.map_toArray, List.map_cons, List.map_nil]); first | done | rfl | (simp only [List.length_drop, List.length_take]; rfl)) ?_; (with_reducible refine (herbariumlaw2_num.calls t952 t953 _ A51.out).mono ?_); rintro e w' ⟨rfl, ⟨nd, rfl⟩⟩; refine ⟨_, rfl, ?_⟩))
                        go_ret
                        exact ⟨by first | rfl | (simp [errW_none, errW_some] <;> rfl) | (simp [*, errW_none, errW_some] <;> rfl), by repeat (first | (with_reducible first | exact HB.out | apply below_alloc | apply pw_below_drewN | apply below_drew1 | refine below_set ?_ GE939.out | refine below_set ?_ GE941.out) | exact HB.out)⟩
                    · rw [if_neg c52] at H
                      have c52b0 : (t953 == 0) = false := beq_eq_false_iff_ne.mpr c52
                      have c52b1 : (t953 != 0) = true := bne_iff_ne.mpr c52
                      obtain rfl := Option.some.inj H
                      have hnb60 := NB941_939.out
                      have hnc60 := NB939_941.out
                      have hcz61_0 : wr.cell? ⟨gb941, 0, none⟩ = some (.string x942000_2) := (blk_cell BK941.out 0).trans rfl
                      have hcz61_1 : wr.cell? ⟨gb941, 1, none⟩ = some (.int .i64 x942001_2) := (blk_cell BK941.out 1).trans rfl
                      have hfz61_0 := blk_frozen BK941.out 0
                      have hfz61_1 := blk_frozen BK941.out 1
                      go_wp2_with (first | ((with_reducible refine gate_callee (f := 61) rfl ?_); refine goesL_ (some 62) rfl rfl Try.func61 (by kernel_rfl) rfl #[.agg #[.string x942000_2, .int .i64 x942001_2], .int .i64 x10_3, .int .i64 x3_1] rfl (by (try simp only [List.map_toArray, List.map_cons, List.map_nil]); first | done | rfl | (simp only [List.length_drop, List.length_take]; rfl)) ?_; (with_reducible refine (code_Take.calls k3 x942000_2 x942001_2 x10_3 x3_1 t950 t951 t952 _ A50.out).mono ?_); rintro e w62 ⟨rfl, hb⟩; refine ⟨_, rfl, ?_⟩; have n0_ := Aside0.mk (blk_below (g := gb939) (o := .cells #[.slice A0_0 l0_0.length c0_0, .slice A0_1 l0_1.length c0_1] 25 (0, 0)) (by (with_reducible repeat (first | refine blk_drewN ?_ _ | refine blk_drew ?_ | refine blk_alloc ?_ _)); exact BK939.out) hb); have n1_ := Aside0.mk (blk_below (g := gb941) (o := .cells #[.string x942000_2, .int .i64 x942001_2] 27 (0, 0)) (by (with_reducible repeat (first | refine blk_drewN ?_ _ | refine blk_drew ?_ | refine blk_alloc ?_ _)); exact BK941.out) hb); have n2_ := Aside0.mk (below_step (by repeat (first | (with_reducible first | exact HB.out | apply below_alloc | apply pw_below_drewN | apply below_drew1 | refine below_set ?_ GE939.out | refine below_set ?_ GE941.out) | exact HB.out)) hb); clear BK939; clear BK941; clear HB; have BK939 := n0_; have BK941 := n1_; have HB := n2_; clear n0_ n1_ n2_; (try clear hb); (try clear hb2); (try clear hk); (try clear hi)) | ((with_reducible refine gate_callee (f := 59) rfl ?_); refine goesL_ (some 67) rfl rfl Try.func59 (by kernel_rfl) rfl #[.int .i64 t952] rfl (by (try simp only [List.map_toArray, List.map_cons, List.map_nil]); first | done | rfl | (simp only [List.length_drop, List.length_take]; rfl)) ?_; (with_reducible refine (herbariumlaw2_num.calls t952 t953 _ A51.out).mono ?_); rintro e w' ⟨rfl, ⟨nd, rfl⟩⟩; refine ⟨_, rfl, ?_⟩))
                      go_ret
                      exact ⟨by first | rfl | (simp [errW_none, errW_some] <;> rfl) | (simp [*, errW_none, errW_some] <;> rfl), by repeat (first | (with_reducible first | exact HB.out | apply below_alloc | apply pw_below_drewN | apply below_drew1 | refine below_set ?_ GE939.out | refine below_set ?_ GE941.out) | exact HB.out)⟩
                  · rw [if_neg c49] at H
                    have c49b0 : decide (x11_3 ≤ 40) = false := decide_eq_false c49
                    clear c49
                    by_cases c63 : x10_3 = x942001_2
                    · rw [if_pos c63] at H
                      have c63b0 : (x10_3 == x942001_2) = true := beq_iff_eq.mpr c63
                      have c63b1 : (x10_3 != x942001_2) = false := bne_eq_false_iff_eq.mpr c63
                      clear c63
                      have H' := Aside0.mk H
                      clear H
                      have hnb64 := NB941_939.out
                      have hnc64 := NB939_941.out
                      have hcz65_0 : wr.cell? ⟨gb941, 0, none⟩ = some (.string x942000_2) := (blk_cell BK941.out 0).trans rfl
                      have hcz65_1 : wr.cell? ⟨gb941, 1, none⟩ = some (.int .i64 x942001_2) := (blk_cell BK941.out 1).trans rfl
                      have hfz65_0 := blk_frozen BK941.out 0
                      have hfz65_1 := blk_frozen BK941.out 1
                      go_wp2
                      go_roundg k3
                      case measure => have := HK1.out; have := HK2.out; have := HK3.out; omega
                      case rel => exact ⟨(wrap64 (x3_1 + 1)), (by first | rfl | (simp; done) | (simp [*]; done)), H', ⟨by have := HK1.out; have := HK2.out; have := HK3.out; omega⟩, ⟨by (with_reducible repeat (first | refine blk_drewN ?_ _ | refine blk_drew ?_ | refine blk_alloc ?_ _)); exact BK939.out⟩, ⟨by repeat (first | (with_reducible first | exact HB.out | apply below_alloc | apply pw_below_drewN | apply below_drew1 | refine below_set ?_ GE939.out | refine below_set ?_ GE941.out) | exact HB.out)⟩⟩
                    · rw [if_neg c63] at H
                      have c63b0 : (x10_3 == x942001_2) = false := beq_eq_false_iff_ne.mpr c63
                      have c63b1 : (x10_3 != x942001_2) = true := bne_iff_ne.mpr c63
                      obtain rfl := Option.some.inj H
                      have hnb66 := NB941_939.out
                      have hnc66 := NB939_941.out
                      have hcz67_0 : wr.cell? ⟨gb941, 0, none⟩ = some (.string x942000_2) := (blk_cell BK941.out 0).trans rfl
                      have hcz67_1 : wr.cell? ⟨gb941, 1, none⟩ = some (.int .i64 x942001_2) := (blk_cell BK941.out 1).trans rfl
                      have hfz67_0 := blk_frozen BK941.out 0
                      have hfz67_1 := blk_frozen BK941.out 1
                      go_wp2
                      go_ret
                      exact ⟨by first | rfl | (simp [errW_none, errW_some] <;> rfl) | (simp [*, errW_none, errW_some] <;> rfl), by repeat (first | (with_reducible first | exact HB.out | apply below_alloc | apply pw_below_drewN | apply below_drew1 | refine below_set ?_ GE939.out | refine below_set ?_ GE941.out) | exact HB.out)⟩
      · rw [if_neg c3] at H
        have c3b0 : decide (x3_1 ≤ 5) = false := decide_eq_false c3
        clear c3
        by_cases c68 : (l0_1.length : Int) ≥ 0
        · rw [if_pos c68] at H
          have c68b0 : decide (0 ≤ (l0_1.length : Int)) = true := decide_eq_true c68
          have c68b1 : decide (0 ≤ l0_1.length) = true := decide_eq_true (by omega)
          clear c68
          replace H := Option.bind_eq_some_iff.mp H
          obtain ⟨t940, A690, H⟩ := H
          replace H : (some t940) = some r := H
          have A69 := Aside0.mk A690
          clear A690
          obtain rfl := Option.some.inj H
          have hcz70_0 : wr.cell? ⟨gb939, 0, none⟩ = some (.slice A0_0 l0_0.length c0_0) := (blk_cell BK939.out 0).trans rfl
          have hcz70_1 : wr.cell? ⟨gb939, 1, none⟩ = some (.slice A0_1 l0_1.length c0_1) := (blk_cell BK939.out 1).trans rfl
          have hfz70_0 := blk_frozen BK939.out 0
          have hfz70_1 := blk_frozen BK939.out 1
          go_wp2_with (first | (go_at_call 62; (with_reducible refine (herbariumlaw2_wakes.calls k1  t940 _ A69.out).mono ?_); rintro e w71 ⟨rfl, hb⟩; have n0_ := Aside0.mk (blk_below (g := gb939) (o := .cells #[.slice A0_0 l0_0.length c0_0, .slice A0_1 l0_1.length c0_1] 25 (0, 0)) (by (with_reducible repeat (first | refine blk_drewN ?_ _ | refine blk_drew ?_ | refine blk_alloc ?_ _)); exact BK939.out) hb); have n1_ := Aside0.mk (below_step (by repeat (first | (with_reducible first | exact HB.out | apply below_alloc | apply pw_below_drewN | apply below_drew1 | refine below_set ?_ GE939.out) | exact HB.out)) hb); clear BK939; clear HB; have BK939 := n0_; have HB := n1_; clear n0_ n1_; (try clear hb); (try clear hb2); (try clear hk); (try clear hi)))
          go_ret
          exact ⟨by first | rfl | (simp [errW_none, errW_some] <;> rfl) | (simp [*, errW_none, errW_some] <;> rfl), by repeat (first | (with_reducible first | exact HB.out | apply below_alloc | apply pw_below_drewN | apply below_drew1 | refine below_set ?_ GE939.out) | exact HB.out)⟩
        · exact absurd (show _ ≥ _ from Int.natCast_nonneg _) c68
end Go.Proofs.Ytnpghcikhpglkaa.Q
namespace Go.Proofs.Ytnpghcikhpglkaa.Pt
open Go.RowKit Go.Proofs.YtnpghcikhpglkaaW.PrintWords Go.Proofs.YtnpghcikhpglkaaW.PrintLast Go.Proofs.YtnpghcikhpglkaaW.PrintMore Go.Proofs.Ytnpghcikhpglkaa.Q
set_option linter.unusedVariables false

def run1 (kind : Int) : Nat → Int → ByteArray → Int → Option (ByteArray × Int)
  | 0, _, b, m => some (b, m)
  | d + 1, n, b, m => (code_Put.f b m kind n).bind fun r => (code_Size.f kind n).bind fun z => if r.2.2 = 0 then (if z.2 = 0 then (if r.2.1 = wrap64 (m + z.1) then run1 kind d (n + 1) r.1 r.2.1 else none) else none) else none
def run2 (kind : Int) (b : ByteArray) (m : Int) : Nat → Int → Int → Option Int
  | 0, _, a => some a
  | d + 1, n, a => (code_Take.f 1 b m a kind).bind fun r => if r.2.2 = 0 then (if r.1 = n then run2 kind b m d (n + 1) r.2.1 else none) else none
theorem l1_run (kind : Int) (x : List S27) (y : List Int) : ∀ (d : Nat) (n : Int) (b : ByteArray) (m : Int) (b' : ByteArray) (m' : Int) (k : Nat), n + d = 41 → 0 ≤ n → run1 kind d n b m = some (b', m') →
    herbariumlaw2_CodeSmall.l1 (k + d) kind n x y b m = herbariumlaw2_CodeSmall.l1 k kind 41 x y b' m' := by
  intro d
  induction d with
  | zero =>
    intro n b m b' m' k hn h0 h
    simp only [run1, Option.some.injEq, Prod.mk.injEq] at h
    obtain ⟨rfl, rfl⟩ := h
    obtain rfl : n = 41 := by omega
    rfl
  | succ d ih =>
    intro n b m b' m' k hn h0 h
    rw [run1] at h
    obtain ⟨r, h1, h⟩ := Option.bind_eq_some_iff.1 h
    obtain ⟨z, h2, h⟩ := Option.bind_eq_some_iff.1 h
    split at h
    · rename_i c1
      split at h
      · rename_i c2
        split at h
        · rename_i c3
          rw [show k + (d + 1) = (k + d) + 1 by omega, herbariumlaw2_CodeSmall.l1, if_pos (by omega), h1, Option.bind_some, h2, Option.bind_some]
          simp only [herbariumlaw2_num.f, Option.bind_some]
          rw [if_pos c1, if_pos c2, if_pos c3, wrap_in _ (by omega) (by omega)]
          exact ih (n + 1) r.1 r.2.1 b' m' k (by omega) (by omega) h
        · cases h
      · cases h
    · cases h
theorem l2_run (kind : Int) (x : List S27) (y : List Int) (b : ByteArray) (m : Int) : ∀ (d : Nat) (n a a' : Int) (k : Nat), n + d = 41 → 0 ≤ n → 1 ≤ k → run2 kind b m d n a = some a' →
    herbariumlaw2_CodeSmall.l2 (k + d) kind a n x y b m = herbariumlaw2_CodeSmall.l2 k kind a' 41 x y b m := by
  intro d
  induction d with
  | zero =>
    intro n a a' k hn h0 hk h
    simp only [run2, Option.some.injEq] at h
    subst h
    obtain rfl : n = 41 := by omega
    rfl
  | succ d ih =>
    intro n a a' k hn h0 hk h
    rw [run2] at h
    obtain ⟨r, h1, h⟩ := Option.bind_eq_some_iff.1 h
    split at h
    · rename_i c1
      split at h
      · rename_i c2
        have h1' := at_rounds (code_Take.mono _ _ _ _) (show 1 ≤ k + d by omega) h1
        rw [show k + (d + 1) = (k + d) + 1 by omega, herbariumlaw2_CodeSmall.l2, if_pos (by omega), h1', Option.bind_some]
        simp only [herbariumlaw2_num.f, Option.bind_some]
        rw [if_pos c1, if_pos c2, wrap_in _ (by omega) (by omega)]
        exact ih (n + 1) r.2.1 a' k (by omega) (by omega) hk h
      · cases h
    · cases h
theorem kind_step (kind : Int) (hk0 : 0 ≤ kind) (hk5 : kind ≤ 5) (x : List S27) (y : List Int) (b : ByteArray) (m : Int) (h1 : run1 kind 40 1 ⟨#[]⟩ 0 = some (b, m)) (h2 : run2 kind b m 40 1 0 = some m) (k : Nat) (hk : 1 ≤ k) :
    herbariumlaw2_CodeSmall.l0 (k + 1 + 40 + 1 + 40 + 1) kind x y = herbariumlaw2_CodeSmall.l0 k (kind + 1) x y := by
  rw [herbariumlaw2_CodeSmall.l0, if_pos hk5, l1_run kind x y 40 1 ⟨#[]⟩ 0 b m (k + 1 + 40 + 1) (by omega) (by omega) h1, herbariumlaw2_CodeSmall.l1, if_neg (by omega), l2_run kind x y b m 40 1 0 m (k + 1) (by omega) (by omega) (by omega) h2, herbariumlaw2_CodeSmall.l2, if_neg (by omega), if_pos rfl, wrap_in _ (by omega) (by omega)]
end Go.Proofs.Ytnpghcikhpglkaa.Pt
namespace Go.Proofs.Ytnpghcikhpglkaa.Pb
open Go.RowKit Go.Proofs.YtnpghcikhpglkaaW.PrintWords Go.Proofs.YtnpghcikhpglkaaW.PrintLast Go.Proofs.YtnpghcikhpglkaaW.PrintMore Go.Proofs.Ytnpghcikhpglkaa.Hand Go.Proofs.Ytnpghcikhpglkaa.Pu Go.Proofs.Ytnpghcikhpglkaa.Q
set_option linter.unusedVariables false
set_option linter.unusedSimpArgs false

/-! ### a list's text -/
theorem packS_size (l : List Int) : (packS l).size = (l.length + 7) / 8 := by rw [packS, strOfNums_size, packL_length]
theorem bt_strOfNums (xs : List Int) (i : Nat) (hi : i < xs.length) (h : 0 ≤ xs.getD i 0 ∧ xs.getD i 0 < 256) : bt (strOfNums xs) (i : Int) = xs.getD i 0 := by
  have hs : i < (strOfNums xs).size := by rw [strOfNums_size]; exact hi
  rw [← bt_at (strOfNums xs) (i : Int) hs]
  have h2 : i < (strOfNums xs).data.toList.length := hs
  have h3 : (strOfNums xs).data.toList[i]'h2 = UInt8.ofNat (xs[i]'hi).toNat := by simp [strOfNums_data]
  have h4 : (strOfNums xs)[(i : Int).toNat]'hs = UInt8.ofNat (xs[i]'hi).toNat := h3
  rw [h4]
  rw [List.getD_eq_getElem?_getD, List.getElem?_eq_getElem hi] at h ⊢
  simp only [Option.getD_some] at h ⊢
  rw [UInt8.toNat_ofNat']
  omega
theorem bt_packS (l : List Int) (hl : IsBits l) (j : Nat) (hj : j < (l.length + 7) / 8) : bt (packS l) (j : Int) = byteAt l j := by
  have h1 : (packL l).getD j 0 = byteAt l j := by rw [List.getD_eq_getElem?_getD, packL_get l j hj]; rfl
  have := bt_strOfNums (packL l) j (by rw [packL_length]; exact hj) (by rw [h1]; exact byteAt_range hl j)
  rw [packS, this, h1]
theorem b01 {x : Int} (h : x = 0 ∨ x = 1) : 0 ≤ x ∧ x ≤ 1 := by omega
theorem byte8 (x0 x1 x2 x3 x4 x5 x6 x7 : Int) (h0 : 0 ≤ x0 ∧ x0 ≤ 1) (h1 : 0 ≤ x1 ∧ x1 ≤ 1) (h2 : 0 ≤ x2 ∧ x2 ≤ 1) (h3 : 0 ≤ x3 ∧ x3 ≤ 1) (h4 : 0 ≤ x4 ∧ x4 ≤ 1) (h5 : 0 ≤ x5 ∧ x5 ≤ 1) (h6 : 0 ≤ x6 ∧ x6 ≤ 1) (h7 : 0 ≤ x7 ∧ x7 ≤ 1) :
    let b := x0 * 128 + x1 * 64 + x2 * 32 + x3 * 16 + x4 * 8 + x5 * 4 + x6 * 2 + x7
    b / 128 % 2 = x0 ∧ b / 64 % 2 = x1 ∧ b / 32 % 2 = x2 ∧ b / 16 % 2 = x3 ∧ b / 8 % 2 = x4 ∧ b / 4 % 2 = x5 ∧ b / 2 % 2 = x6 ∧ b / 1 % 2 = x7 := by
  refine ⟨?_, ?_, ?_, ?_, ?_, ?_, ?_, ?_⟩ <;> omega
theorem bit_byteAt (l : List Int) (hl : IsBits l) (j i : Nat) (hi : i < 8) : byteAt l j / 2 ^ (7 - i) % 2 = l.getD (8 * j + i) 0 := by
  have h := byte8 _ _ _ _ _ _ _ _ (b01 (hl.getD (8 * j))) (b01 (hl.getD (8 * j + 1))) (b01 (hl.getD (8 * j + 2))) (b01 (hl.getD (8 * j + 3))) (b01 (hl.getD (8 * j + 4))) (b01 (hl.getD (8 * j + 5))) (b01 (hl.getD (8 * j + 6))) (b01 (hl.getD (8 * j + 7)))
  have hi' : i = 0 ∨ i = 1 ∨ i = 2 ∨ i = 3 ∨ i = 4 ∨ i = 5 ∨ i = 6 ∨ i = 7 := by omega
  rcases hi' with rfl | rfl | rfl | rfl | rfl | rfl | rfl | rfl
  · exact h.1
  · exact h.2.1
  · exact h.2.2.1
  · exact h.2.2.2.1
  · exact h.2.2.2.2.1
  · exact h.2.2.2.2.2.1
  · exact h.2.2.2.2.2.2.1
  · exact h.2.2.2.2.2.2.2
theorem bitOf_packS (l : List Int) (hl : IsBits l) (i : Nat) (hi : i < l.length) : bitOf (packS l) (i : Int) = l.getD i 0 := by
  have h := bitOf_at (packS l) (i / 8) (i % 8) (by omega)
  rw [show 8 * (i / 8) + i % 8 = i by omega] at h
  rw [h, bt_packS l hl (i / 8) (by omega), bit_byteAt l hl (i / 8) (i % 8) (by omega), show 8 * (i / 8) + i % 8 = i by omega]
theorem ofS_packS (l : List Int) (hl : IsBits l) : ofS (packS l) (l.length : Int) = l := by
  refine List.ext_getElem? fun i => ?_
  rcases Nat.lt_or_ge i l.length with hi | hi
  · have h := ofS_getD (packS l) (l.length : Int) i (by simpa using hi)
    rw [bitOf_packS l hl i hi] at h
    have hi2 : i < (ofS (packS l) (l.length : Int)).length := by rw [ofS_length]; simpa using hi
    rw [List.getD_eq_getElem?_getD, List.getD_eq_getElem?_getD, List.getElem?_eq_getElem hi2, List.getElem?_eq_getElem hi] at h
    rw [List.getElem?_eq_getElem hi2, List.getElem?_eq_getElem hi]
    simpa using h
  · rw [List.getElem?_eq_none (by rw [ofS_length]; simpa using hi), List.getElem?_eq_none hi]
theorem may_packS (l : List Int) (hl : IsBits l) (h : l.length ≤ 6000) : MayP (packS l) (l.length : Int) := by
  refine ⟨by omega, by omega, by rw [packS_size]; omega, ?_⟩
  rcases Nat.eq_zero_or_pos (l.length % 8) with h8 | h8
  · exact .inl (by omega)
  · refine .inr ?_
    have hj : ((packS l).size : Int) - 1 = ((l.length / 8 : Nat) : Int) := by rw [packS_size]; omega
    rw [hj, bt_packS l hl _ (by omega)]
    have := (byteAt_snoc_new l 0).2
    rw [show (8 - (l.length : Int) % 8).toNat = 7 - l.length % 8 + 1 by omega]
    exact this
/-- Bits that may be are their list's. -/
theorem canon (s : ByteArray) (n : Int) (h : MayP s n) : s = packS (ofS s n) ∧ n = ((ofS s n).length : Int) ∧ IsBits (ofS s n) ∧ (ofS s n).length ≤ 6000 := by
  refine ⟨(packS_ofS s n h).symm, by rw [ofS_length]; have := h.1; omega, ofS_bits s n, by rw [ofS_length]; have := h.2.1; omega⟩

/-! ### numbers out of bits -/
def numL (l : List Int) : Int := l.foldl (fun v b => 2 * v + b) 0
theorem numL_snoc (l : List Int) (b : Int) : numL (l ++ [b]) = 2 * numL l + b := by simp [numL]
theorem numL_from (l : List Int) : ∀ v : Int, l.foldl (fun v b => 2 * v + b) v = v * 2 ^ l.length + numL l := by
  induction l with
  | nil => intro v; simp [numL]
  | cons a r ih =>
    intro v
    have h0 := ih (2 * v + a)
    have h1 : numL (a :: r) = a * 2 ^ r.length + numL r := by
      have := ih a
      simp only [numL, List.foldl_cons] at this ⊢
      simpa using this
    simp only [List.foldl_cons, List.length_cons]
    rw [h0, h1, Int.pow_succ]
    rw [Int.add_mul]
    have e : 2 * v * 2 ^ r.length = v * (2 ^ r.length * 2) := by rw [Int.mul_comm 2 v, Int.mul_assoc, Int.mul_comm 2]
    rw [e]
    omega
theorem numL_cons (a : Int) (r : List Int) : numL (a :: r) = a * 2 ^ r.length + numL r := by
  have := numL_from r a
  simp only [numL, List.foldl_cons] at this ⊢
  simpa using this
theorem numL_range {l : List Int} (h : IsBits l) : 0 ≤ numL l ∧ numL l < 2 ^ l.length := by
  induction l with
  | nil => simp [numL]
  | cons a r ih =>
    have hr := ih (fun x hx => h x (List.mem_cons_of_mem _ hx))
    have ha := h a (List.mem_cons_self)
    have hp : (0 : Int) < 2 ^ r.length := Int.pow_pos (by decide)
    rw [numL_cons, List.length_cons, Int.pow_succ]
    rcases ha with rfl | rfl <;> omega
theorem numL_putL (w : Nat) (v : Int) (h0 : 0 ≤ v) : numL (putL w v) = v % 2 ^ w := by
  induction w with
  | zero => simp [putL, numL]
  | succ k ih =>
    rw [putL, numL_cons, putL_length, ih]
    have hp : (0 : Int) < 2 ^ k := Int.pow_pos (by decide)
    rw [Int.pow_succ]
    generalize (2 : Int) ^ k = p at hp ⊢
    have e1 := Int.mul_ediv_add_emod v p
    have e2 := Int.mul_ediv_add_emod (v / p) 2
    have r0 := Int.emod_nonneg v (show p ≠ 0 by omega)
    have r1 := Int.emod_lt_of_pos v hp
    have hb : v / p % 2 = 0 ∨ v / p % 2 = 1 := by omega
    have hv : v = (p * 2) * (v / p / 2) + (v / p % 2 * p + v % p) := by
      rw [Int.mul_assoc]
      have : p * (2 * (v / p / 2)) + v / p % 2 * p = p * (v / p) := by rw [Int.mul_comm (v / p % 2) p, ← Int.mul_add, e2]
      omega
    have hm : v % (p * 2) = (v / p % 2 * p + v % p) % (p * 2) := by
      conv => lhs; rw [hv]
      rw [Int.mul_add_emod_self_left]
    rw [hm, Int.emod_eq_of_lt (a := v / p % 2 * p + v % p) (b := p * 2)]
    · rcases hb with h | h <;> rw [h] <;> omega
    · rcases hb with h | h <;> rw [h] <;> omega
theorem numL_putL_lt (w : Nat) (v : Int) (h0 : 0 ≤ v) (h1 : v < 2 ^ w) : numL (putL w v) = v := by rw [numL_putL w v h0, Int.emod_eq_of_lt h0 h1]

/-! ### bits.Look, bits.Get -/
theorem or_step (v b : Int) (h0 : 0 ≤ v) (h1 : v < 2 ^ 61) (hb : b = 0 ∨ b = 1) : Go.bits .or .i64 (wrap64 (v * 2)) b = 2 * v + b := by
  rw [wrap_in _ (by omega) (by omega), bits_join .i64 63 (by decide) wraps_i64 1 (v * 2) b (by omega) (by simp) (by omega) (by omega) (by simp; omega) (by omega)]
  omega
theorem look_loop (l : List Int) (hl : IsBits l) (hlen : l.length ≤ 1000000) (n : Int) (a w : Nat) (haw : a + w ≤ l.length) (hw : w ≤ 61) (d : Nat) : ∀ (k i : Nat), i + d = w → d < k →
    bits_Look.l0 k (a : Int) (numL ((l.drop a).take i)) (w : Int) (i : Int) (packS l) n = some (numL ((l.drop a).take w), true) := by
  induction d with
  | zero =>
    intro k i hi hk
    obtain ⟨k, rfl⟩ : ∃ m, k = m + 1 := ⟨k - 1, by omega⟩
    obtain rfl : i = w := by omega
    simp only [bits_Look.l0]
    rw [if_neg (by omega)]
  | succ d ih =>
    intro k i hi hk
    obtain ⟨k, rfl⟩ : ∃ m, k = m + 1 := ⟨k - 1, by omega⟩
    simp only [bits_Look.l0]
    rw [if_pos (by omega)]
    have hw1 : wrap64 ((a : Int) + (i : Int)) = ((a + i : Nat) : Int) := by rw [wrap_in _ (by omega) (by omega)]; omega
    have hsz := packS_size l
    rw [hw1, bit_some _ _ _ (by omega) (by omega) (by omega), bitOf_packS l hl (a + i) (by omega), Option.bind_some]
    have hib : IsBits ((l.drop a).take i) := fun x hx => hl x (List.mem_of_mem_drop (List.mem_of_mem_take hx))
    have hr := numL_range hib
    have hlt : (l.drop a).length = l.length - a := List.length_drop ..
    have hlen2 : ((l.drop a).take i).length = i := by rw [List.length_take, hlt]; omega
    rw [hlen2] at hr
    have hp : (2 : Int) ^ i ≤ 2 ^ 60 := by have := Nat.pow_le_pow_right (n := 2) (by decide) (show i ≤ 60 by omega); exact_mod_cast this
    have h60 : (2 : Int) ^ 60 < 2 ^ 61 := by decide
    have hb := hl.getD (a + i)
    rw [or_step _ _ hr.1 (by omega) hb]
    have hsn : (l.drop a).take (i + 1) = (l.drop a).take i ++ [l.getD (a + i) 0] := by
      rw [List.take_succ_eq_append_getElem (by rw [hlt]; omega), List.getElem_drop, List.getD_eq_getElem?_getD, List.getElem?_eq_getElem (by omega)]
      rfl
    rw [← numL_snoc, ← hsn, wrap_in _ (by omega) (by omega)]
    have := ih k (i + 1) (by omega) (by omega)
    rw [show ((i + 1 : Nat) : Int) = (i : Int) + 1 by omega] at this
    exact this
theorem look_yes (l : List Int) (hl : IsBits l) (hlen : l.length ≤ 1000000) (a w : Nat) (haw : a + w ≤ l.length) (hw : w ≤ 61) (k : Nat) (hk : w + 1 < k) :
    bits_Look.f k (packS l) (l.length : Int) (a : Int) (w : Int) = some (numL ((l.drop a).take w), true) := by
  obtain ⟨k, rfl⟩ : ∃ m, k = m + 1 := ⟨k - 1, by omega⟩
  unfold bits_Look.f
  rw [if_neg (by omega)]
  have hd : decide ((w : Int) > wrap64 ((l.length : Int) - (a : Int))) = false := by
    rw [wrap_in _ (by omega) (by omega)]
    simp
    omega
  rw [hd]
  simp only [bits_Look.j0]
  rw [if_neg (by decide)]
  exact look_loop l hl hlen _ a w haw hw w k 0 (by omega) (by omega)
theorem look_no (s : ByteArray) (n a w : Int) (hn : 0 ≤ n ∧ n ≤ 1000000) (ha : 0 ≤ a) (hw0 : 0 ≤ w) (h : n < a + w) (k : Nat) (hk : 0 < k) : bits_Look.f k s n a w = some (0, false) := by
  obtain ⟨k, rfl⟩ : ∃ m, k = m + 1 := ⟨k - 1, by omega⟩
  unfold bits_Look.f
  by_cases h1 : a > n
  · rw [if_pos h1]
    simp only [bits_Look.j0]
    rw [if_pos trivial]
  · rw [if_neg h1]
    have hd : decide (w > wrap64 (n - a)) = true := by
      rw [wrap_in _ (by omega) (by omega)]
      simp
      omega
    rw [hd]
    simp only [bits_Look.j0]
    rw [if_pos trivial]

/-- bits.Get, of bits that may be. -/
def getR (l : List Int) (a w : Int) : Int × Int :=
  if 0 ≤ a ∧ 0 ≤ w ∧ w ≤ 30 then (if a + w ≤ (l.length : Int) then (numL ((l.drop a.toNat).take w.toNat), 0) else (0, 9)) else (0, 1)
theorem get_eq (l : List Int) (hl : IsBits l) (hlen : l.length ≤ 6000) (a w : Int) (ha : a < 9223372036854775808) (k : Nat) (hk : 40 ≤ k) : bits_Get.f k (packS l) (l.length : Int) a w = some (getR l a w) := by
  obtain ⟨k, rfl⟩ : ∃ m, k = m + 1 := ⟨k - 1, by omega⟩
  unfold bits_Get.f getR
  rw [may_eq, decide_eq_true (may_packS l hl hlen)]
  simp only [Option.bind_some, if_true]
  by_cases h0 : a < 0
  · rw [if_pos h0, if_neg (fun h => by omega)]
    simp only [bits_Get.j0]
    rw [if_pos trivial]
  · rw [if_neg h0, width_eq]
    simp only [Option.bind_some, bits_Get.j0]
    by_cases hw : 0 ≤ w ∧ w ≤ 30
    · rw [decide_eq_true hw, if_neg (by decide), if_pos ⟨by omega, hw⟩]
      by_cases hf : a + w ≤ (l.length : Int)
      · obtain ⟨a', rfl⟩ := Int.eq_ofNat_of_zero_le (show 0 ≤ a by omega)
        obtain ⟨w', rfl⟩ := Int.eq_ofNat_of_zero_le hw.1
        rw [if_pos hf, look_yes l hl (by omega) a' w' (by omega) (by omega) k (by omega), Option.bind_some]
        simp
      · rw [if_neg hf, look_no _ _ a w (by omega) (by omega) hw.1 (by omega) k (by omega), Option.bind_some]
        simp
    · rw [decide_eq_false hw, if_pos (by decide), if_neg (fun h => hw h.2)]

/-! ### bits.Put -/
theorem put_eq (l : List Int) (hl : IsBits l) (hlen : l.length ≤ 6000) (v w : Int) : bits_Put.f (packS l) (l.length : Int) v w =
    if 0 ≤ w ∧ w ≤ 30 ∧ 0 ≤ v ∧ v < 2 ^ w.toNat then (if (l.length : Int) + w ≤ 6000 then some (packS (l ++ putL w.toNat v), ((l ++ putL w.toNat v).length : Int), 0) else some (⟨#[]⟩, 0, 2)) else some (⟨#[]⟩, 0, 1) := by
  unfold bits_Put.f
  rw [ofS_packS l hl]
  by_cases h : 0 ≤ w ∧ w ≤ 30 ∧ 0 ≤ v ∧ v < 2 ^ w.toNat
  · rw [if_pos ⟨may_packS l hl hlen, h⟩, if_pos h]
    have : ((l ++ putL w.toNat v).length : Int) = (l.length : Int) + w := by rw [List.length_append, putL_length]; omega
    rw [this]
  · rw [if_neg (fun hh => h hh.2), if_neg h]
theorem put_some (l : List Int) (hl : IsBits l) (v : Int) (w : Nat) (hw : w ≤ 30) (hv : 0 ≤ v) (hv2 : v < 2 ^ w) (h : l.length + w ≤ 6000) :
    bits_Put.f (packS l) (l.length : Int) v (w : Int) = some (packS (l ++ putL w v), ((l ++ putL w v).length : Int), 0) := by
  rw [put_eq l hl (by omega), if_pos ⟨by omega, by omega, hv, by simpa using hv2⟩, if_pos (by omega)]
  simp
theorem packS_nil : packS [] = ⟨#[]⟩ := rfl
theorem put_nil (v : Int) (w : Nat) (hw : w ≤ 30) (hv : 0 ≤ v) (hv2 : v < 2 ^ w) : bits_Put.f (⟨#[]⟩ : ByteArray) 0 v (w : Int) = some (packS (putL w v), ((putL w v).length : Int), 0) := by
  have := put_some [] IsBits.nil v w hw hv hv2 (by simp; omega)
  simpa [packS_nil] using this

/-! ### slices of lists -/
theorem take_drop_mid (a b c : List Int) : ((a ++ b ++ c).drop a.length).take b.length = b := by
  rw [List.append_assoc, List.drop_left, List.take_left]
end Go.Proofs.Ytnpghcikhpglkaa.Pb
namespace Go.Proofs.Ytnpghcikhpglkaa.Pb
open Go.RowKit Go.Proofs.YtnpghcikhpglkaaW.PrintWords Go.Proofs.YtnpghcikhpglkaaW.PrintLast Go.Proofs.YtnpghcikhpglkaaW.PrintMore Go.Proofs.Ytnpghcikhpglkaa.Hand Go.Proofs.Ytnpghcikhpglkaa.Pu Go.Proofs.Ytnpghcikhpglkaa.Q
set_option linter.unusedVariables false
set_option linter.unusedSimpArgs false

/-- How many bits 0 stand ahead of the first 1; -1: there is no 1. -/
def zerosL : List Int → Int
  | [] => -1
  | b :: r => if b = 1 then 0 else if zerosL r < 0 then -1 else zerosL r + 1
theorem zerosL_range (l : List Int) : -1 ≤ zerosL l ∧ zerosL l < (l.length : Int) := by
  induction l with
  | nil => simp [zerosL]
  | cons b r ih =>
    simp only [zerosL, List.length_cons]
    split
    · omega
    · split <;> omega
theorem zerosL_rep (n : Nat) (r : List Int) : zerosL (List.replicate n 0 ++ 1 :: r) = n := by
  induction n with
  | zero => simp [zerosL]
  | succ n ih =>
    simp only [List.replicate_succ, List.cons_append, zerosL, ih]
    rw [if_neg (by decide), if_neg (by omega)]
    omega
theorem zerosL_none (l : List Int) (h : ∀ x ∈ l, x = 0) : zerosL l = -1 := by
  induction l with
  | nil => rfl
  | cons b r ih =>
    have hb := h b List.mem_cons_self
    simp only [zerosL]
    rw [if_neg (by omega), ih (fun x hx => h x (List.mem_cons_of_mem _ hx)), if_pos (by omega)]
/-- What stands there. -/
theorem zerosL_split (l : List Int) (h : 0 ≤ zerosL l) (hb : IsBits l) : ∃ r, l = List.replicate (zerosL l).toNat 0 ++ 1 :: r := by
  induction l with
  | nil => simp [zerosL] at h
  | cons b r ih =>
    have hbb := hb b List.mem_cons_self
    simp only [zerosL] at h ⊢
    by_cases h1 : b = 1
    · rw [if_pos h1]
      exact ⟨r, by simp [h1]⟩
    · rw [if_neg h1] at h ⊢
      by_cases h2 : zerosL r < 0
      · rw [if_pos h2] at h; omega
      · rw [if_neg h2]
        obtain ⟨q, hq⟩ := ih (by omega) (fun x hx => hb x (List.mem_cons_of_mem _ hx))
        refine ⟨q, ?_⟩
        have hb0 : b = 0 := by omega
        have : (zerosL r + 1).toNat = (zerosL r).toNat + 1 := by omega
        rw [this, List.replicate_succ, List.cons_append, hb0, ← hq]

theorem ahead_loop (l : List Int) (hl : IsBits l) (hlen : l.length ≤ 1000000) (x : Int) (hx : 0 ≤ x) (d : Nat) : ∀ (k i : Nat), i + d = l.length → d < k → x ≤ i →
    bits_Ahead.l0 k x (i : Int) (packS l) (l.length : Int) = some (if zerosL (l.drop i) < 0 then -1 else (i : Int) + zerosL (l.drop i) - x) := by
  induction d with
  | zero =>
    intro k i hi hk hxi
    obtain ⟨k, rfl⟩ : ∃ m, k = m + 1 := ⟨k - 1, by omega⟩
    simp only [bits_Ahead.l0]
    rw [if_neg (by omega), List.drop_eq_nil_of_le (by omega)]
    rfl
  | succ d ih =>
    intro k i hi hk hxi
    obtain ⟨k, rfl⟩ : ∃ m, k = m + 1 := ⟨k - 1, by omega⟩
    have hsz := packS_size l
    have hb := bit_some (packS l) (l.length : Int) (i : Int) (by omega) (by omega) (by omega)
    rw [bitOf_packS l hl i (by omega)] at hb
    have hd : l.drop i = l.getD i 0 :: l.drop (i + 1) := by
      rw [List.drop_eq_getElem_cons (by omega), List.getD_eq_getElem?_getD, List.getElem?_eq_getElem (by omega)]
      rfl
    have hz := zerosL_range (l.drop (i + 1))
    simp only [bits_Ahead.l0]
    rw [if_pos (by omega), hb, Option.bind_some, hd]
    by_cases h1 : l.getD i 0 = 1
    · have hc : zerosL (l.getD i 0 :: l.drop (i + 1)) = 0 := by simp only [zerosL]; rw [if_pos h1]
      rw [if_pos h1, hc, wrap_in _ (by omega) (by omega), if_neg (by omega)]
      simp
    · rw [if_neg h1, wrap_in _ (by omega) (by omega)]
      have := ih k (i + 1) (by omega) (by omega) (by omega)
      rw [show ((i + 1 : Nat) : Int) = (i : Int) + 1 by omega] at this
      rw [this]
      by_cases h2 : zerosL (l.drop (i + 1)) < 0
      · have hc : zerosL (l.getD i 0 :: l.drop (i + 1)) = -1 := by simp only [zerosL]; rw [if_neg h1, if_pos h2]
        rw [if_pos h2, hc, if_pos (by omega)]
      · have hc : zerosL (l.getD i 0 :: l.drop (i + 1)) = zerosL (l.drop (i + 1)) + 1 := by simp only [zerosL]; rw [if_neg h1, if_neg h2]
        rw [if_neg h2, hc, if_neg (by omega)]
        congr 1
        omega
theorem ahead_eq (l : List Int) (hl : IsBits l) (hlen : l.length ≤ 1000000) (a : Nat) (ha : a ≤ l.length) (k : Nat) (hk : l.length < k) : bits_Ahead.f k (packS l) (l.length : Int) (a : Int) = some (zerosL (l.drop a)) := by
  have h := ahead_loop l hl hlen (a : Int) (by omega) (l.length - a) k a (by omega) (by omega) (Int.le_refl _)
  have hz := zerosL_range (l.drop a)
  unfold bits_Ahead.f
  rw [h]
  congr 1
  split <;> omega

/-- bits.Zeros, of bits that may be. -/
def zerosR (l : List Int) (a : Int) : Int × Int :=
  if 0 ≤ a ∧ a ≤ (l.length : Int) then (if zerosL (l.drop a.toNat) < 0 then (0, 9) else (zerosL (l.drop a.toNat), 0)) else (0, 1)
theorem zeros_eq (l : List Int) (hl : IsBits l) (hlen : l.length ≤ 6000) (a : Int) (k : Nat) (hk : l.length + 1 < k) : bits_Zeros.f k (packS l) (l.length : Int) a = some (zerosR l a) := by
  obtain ⟨k, rfl⟩ : ∃ m, k = m + 1 := ⟨k - 1, by omega⟩
  unfold bits_Zeros.f zerosR
  rw [may_eq, decide_eq_true (may_packS l hl hlen)]
  simp only [Option.bind_some, if_true]
  by_cases h0 : a < 0
  · rw [if_pos h0, if_neg (fun h => by omega)]
    simp only [bits_Zeros.j0, if_true]
  · rw [if_neg h0]
    by_cases h1 : a > (l.length : Int)
    · rw [decide_eq_true h1, if_neg (fun h => by omega)]
      simp only [bits_Zeros.j0, if_true]
    · rw [decide_eq_false h1, if_pos ⟨by omega, by omega⟩]
      obtain ⟨a', rfl⟩ := Int.eq_ofNat_of_zero_le (show 0 ≤ a by omega)
      simp only [bits_Zeros.j0]
      rw [if_neg (by decide), ahead_eq l hl (by omega) a' (by omega) k (by omega), Option.bind_some, Int.toNat_natCast]
      have hz := zerosL_range (l.drop a')
      split <;> rfl
theorem putL_1 (n : Nat) : putL (n + 1) 1 = List.replicate n 0 ++ [1] := by
  induction n with
  | zero => rfl
  | succ n ih =>
    have : (1 : Int) / 2 ^ (n + 1) % 2 = 0 := by
      have h : (1 : Int) < 2 ^ (n + 1) := by
        have := Nat.one_lt_two_pow (n := n + 1) (by omega)
        exact_mod_cast this
      rw [Int.ediv_eq_zero_of_lt (by omega) h]
      rfl
    rw [putL, this, ih]
    rfl
end Go.Proofs.Ytnpghcikhpglkaa.Pb
namespace Go.Proofs.Ytnpghcikhpglkaa.Pb
open Go.RowKit Go.Proofs.YtnpghcikhpglkaaW.PrintWords Go.Proofs.YtnpghcikhpglkaaW.PrintLast Go.Proofs.YtnpghcikhpglkaaW.PrintMore Go.Proofs.Ytnpghcikhpglkaa.Hand Go.Proofs.Ytnpghcikhpglkaa.Pu Go.Proofs.Ytnpghcikhpglkaa.Q
set_option linter.unusedVariables false
set_option linter.unusedSimpArgs false

theorem rd_zeros_bad (l : List Int) (hl : IsBits l) (hlen : l.length ≤ 6000) (a : Nat) (ha : a ≤ l.length) (most : Int) (k : Nat) (hk : 7000 ≤ k) : rd_zeros k (packS l) (l.length : Int) (a : Int) true most = some (0, (a : Int), true) := by
  unfold rd_zeros
  rw [ahead_eq l hl (by omega) a ha k (by omega), Option.bind_some, if_pos rfl]
theorem rd_zeros_eq (l : List Int) (hl : IsBits l) (hlen : l.length ≤ 6000) (a : Nat) (ha : a ≤ l.length) (most : Int) (k : Nat) (hk : 7000 ≤ k) : rd_zeros k (packS l) (l.length : Int) (a : Int) false most =
    some (if 0 ≤ zerosL (l.drop a) ∧ zerosL (l.drop a) ≤ most then (zerosL (l.drop a), (a : Int) + zerosL (l.drop a), false) else (0, (a : Int), true)) := by
  have hr := zerosL_range (l.drop a)
  rw [List.length_drop] at hr
  unfold rd_zeros
  rw [ahead_eq l hl (by omega) a ha k (by omega), Option.bind_some, if_neg (by decide)]
  generalize zerosL (l.drop a) = z at *
  by_cases h1 : z < 0
  · rw [if_pos h1, if_neg (fun h => by omega)]
  · rw [if_neg h1]
    by_cases h2 : most < z
    · rw [if_pos h2, if_neg (fun h => by omega)]
    · rw [if_neg h2, if_pos ⟨by omega, by omega⟩, wrap_in _ (by omega) (by omega)]
theorem look_some (l : List Int) (hl : IsBits l) (hlen : l.length ≤ 6000) (a w : Nat) (hw : w ≤ 61) (k : Nat) (hk : 7000 ≤ k) : bits_Look.f k (packS l) (l.length : Int) (a : Int) (w : Int) = if a + w ≤ l.length then some (numL ((l.drop a).take w), true) else some (0, false) := by
  by_cases h : a + w ≤ l.length
  · rw [if_pos h]
    exact look_yes l hl (by omega) a w h hw k (by omega)
  · rw [if_neg h]
    exact look_no (packS l) (l.length : Int) (a : Int) (w : Int) (by omega) (by omega) (by omega) (by omega) k (by omega)
theorem rd_look_bad (l : List Int) (hl : IsBits l) (hlen : l.length ≤ 6000) (a w : Nat) (hw : w ≤ 61) (k : Nat) (hk : 7000 ≤ k) : rd_look k (packS l) (l.length : Int) (a : Int) true (w : Int) = some (0, (a : Int), true) := by
  unfold rd_look
  rw [look_some l hl hlen a w hw k hk]
  split <;> (rw [Option.bind_some, if_pos rfl])
theorem rd_look_eq (l : List Int) (hl : IsBits l) (hlen : l.length ≤ 6000) (a w : Nat) (hw : w ≤ 61) (k : Nat) (hk : 7000 ≤ k) : rd_look k (packS l) (l.length : Int) (a : Int) false (w : Int) =
    some (if a + w ≤ l.length then (numL ((l.drop a).take w), ((a + w : Nat) : Int), false) else (0, (a : Int), true)) := by
  unfold rd_look
  rw [look_some l hl hlen a w hw k hk]
  by_cases h : a + w ≤ l.length
  · rw [if_pos h, if_pos h, Option.bind_some, if_neg (by decide), if_pos rfl, wrap_in _ (by omega) (by omega)]
    rfl
  · rw [if_neg h, if_neg h, Option.bind_some, if_neg (by decide), if_neg (by simp)]

/-- The rest's first code, as a number and how many bits it takes. -/
def unaryR (most : Int) (r : List Int) : Option (Int × Nat) := if 0 ≤ zerosL r ∧ zerosL r ≤ most - 1 then some (zerosL r + 1, (zerosL r).toNat + 1) else none
def gammaR (r : List Int) : Option (Int × Nat) :=
  if 0 ≤ zerosL r ∧ zerosL r ≤ 30 ∧ 2 * (zerosL r).toNat + 1 ≤ r.length then some (numL ((r.drop (zerosL r).toNat).take ((zerosL r).toNat + 1)), 2 * (zerosL r).toNat + 1) else none
/-- What the reader has: good, it stands behind the code; bad. -/
def Got (o : Option (Int × Int × Bool)) (a : Nat) (q : Option (Int × Nat)) : Prop := match q with
  | some (v, c) => o = some (v, ((a + c : Nat) : Int), false)
  | none => ∃ (v : Int) (a' : Nat), o = some (v, (a' : Int), true)
theorem unary_got (l : List Int) (hl : IsBits l) (hlen : l.length ≤ 6000) (a : Nat) (ha : a ≤ l.length) (most : Int) (hm0 : 1 ≤ most) (hm1 : most ≤ 10000) (k : Nat) (hk : 7000 ≤ k) : Got (rd_unary k (packS l) (l.length : Int) (a : Int) false most) a (unaryR most (l.drop a)) := by
  have hr := zerosL_range (l.drop a)
  rw [List.length_drop] at hr
  unfold rd_unary
  rw [if_pos ⟨hm0, hm1⟩, rd_zeros_eq l hl hlen a ha _ k hk, Option.bind_some]
  unfold unaryR
  generalize zerosL (l.drop a) = z at *
  by_cases h : 0 ≤ z ∧ z ≤ most - 1
  · rw [if_pos h, if_pos h]
    simp only [Got]
    obtain ⟨z, rfl⟩ := Int.eq_ofNat_of_zero_le h.1
    have e := rd_look_eq l hl hlen (a + z) 1 (by omega) k hk
    rw [if_pos (by omega)] at e
    have e' : rd_look k (packS l) (l.length : Int) ((a : Int) + (z : Int)) false 1 = _ := e
    rw [if_pos ⟨by omega, by omega⟩, e', Option.bind_some, Int.toNat_natCast]
    rfl
  · rw [if_neg h, if_neg h]
    simp only [Got]
    have e := rd_look_bad l hl hlen a 1 (by omega) k hk
    have e' : rd_look k (packS l) (l.length : Int) (a : Int) true 1 = _ := e
    rw [if_pos ⟨by omega, by omega⟩, e', Option.bind_some]
    exact ⟨_, a, rfl⟩
theorem gamma_got (l : List Int) (hl : IsBits l) (hlen : l.length ≤ 6000) (a : Nat) (ha : a ≤ l.length) (k : Nat) (hk : 7000 ≤ k) : Got (rd_gamma k (packS l) (l.length : Int) (a : Int) false) a (gammaR (l.drop a)) := by
  have hr := zerosL_range (l.drop a)
  unfold rd_gamma
  rw [rd_zeros_eq l hl hlen a ha _ k hk, Option.bind_some]
  unfold gammaR
  have hd : ∀ z : Nat, (l.drop a).drop z = l.drop (a + z) := fun z => by rw [List.drop_drop]
  rw [hd, List.length_drop]
  rw [List.length_drop] at hr
  generalize zerosL (l.drop a) = z at *
  by_cases h : 0 ≤ z ∧ z ≤ 30
  · rw [if_pos h]
    obtain ⟨z, rfl⟩ := Int.eq_ofNat_of_zero_le h.1
    have e := rd_look_eq l hl hlen (a + z) (z + 1) (by omega) k hk
    have e' : rd_look k (packS l) (l.length : Int) ((a : Int) + (z : Int)) false ((z : Int) + 1) = _ := e
    simp only [Int.toNat_natCast]
    rw [if_pos ⟨by omega, by omega⟩, e']
    by_cases h2 : 2 * z + 1 ≤ l.length - a
    · rw [if_pos (show a + z + (z + 1) ≤ l.length by omega), if_pos ⟨h.1, h.2, h2⟩]
      simp only [Got]
      rw [show a + z + (z + 1) = a + (2 * z + 1) by omega]
    · rw [if_neg (show ¬ (a + z + (z + 1) ≤ l.length) by omega), if_neg (fun h => h2 h.2.2)]
      exact ⟨_, a + z, rfl⟩
  · have hn : ¬ (0 ≤ z ∧ z ≤ 30 ∧ 2 * z.toNat + 1 ≤ l.length - a) := fun h2 => h ⟨h2.1, h2.2.1⟩
    rw [if_neg h, if_neg hn]
    have e := rd_look_bad l hl hlen a 1 (by omega) k hk
    have e' : rd_look k (packS l) (l.length : Int) (a : Int) true (0 + 1) = _ := e
    rw [if_pos ⟨by omega, by omega⟩, e']
    exact ⟨_, a, rfl⟩
theorem IsBits.drop' {l : List Int} (h : IsBits l) (n : Nat) : IsBits (l.drop n) := fun x hx => h x (List.mem_of_mem_drop hx)
theorem IsBits.take' {l : List Int} (h : IsBits l) (n : Nat) : IsBits (l.take n) := fun x hx => h x (List.mem_of_mem_take hx)
theorem gamma_facts (r : List Int) (hr : IsBits r) (g : Int) (c : Nat) (h : gammaR r = some (g, c)) : 1 ≤ g ∧ g < 2147483648 ∧ c ≤ r.length := by
  unfold gammaR at h
  split at h
  · rename_i hc
    simp only [Option.some.injEq, Prod.mk.injEq] at h
    obtain ⟨rfl, rfl⟩ := h
    obtain ⟨q, hq⟩ := zerosL_split r hc.1 hr
    generalize hz : (zerosL r).toNat = z at *
    have hz30 : z ≤ 30 := by omega
    have e1 : r.drop z = 1 :: q := by
      rw [hq, List.drop_append_of_le_length (by simp), List.drop_of_length_le (by simp), List.nil_append]
    have hqb : IsBits q := fun x hx => hr x (by rw [hq]; simp [hx])
    rw [e1, List.take_succ_cons, numL_cons]
    have hb := numL_range (IsBits.take' hqb z)
    have hl : (q.take z).length ≤ z := by rw [List.length_take]; omega
    generalize (q.take z).length = m at *
    have hm := Nat.pow_le_pow_right (n := 2) (by decide) (show m ≤ 30 by omega)
    have hm1 : ((2 ^ m : Nat) : Int) ≤ ((2 ^ 30 : Nat) : Int) := by exact_mod_cast hm
    have hm0 : 0 < 2 ^ m := Nat.pow_pos (by decide)
    have hcast : ((2 ^ m : Nat) : Int) = (2 : Int) ^ m := Int.natCast_pow 2 m
    rw [← hcast] at hb ⊢
    refine ⟨by omega, by omega, by omega⟩
  · cases h
def deltaR (r : List Int) : Option (Int × Nat) := (gammaR r).bind fun q =>
  if q.1 - 1 ≤ 30 ∧ q.2 + (q.1 - 1).toNat ≤ r.length then some (2 ^ (q.1 - 1).toNat + numL ((r.drop q.2).take (q.1 - 1).toNat), q.2 + (q.1 - 1).toNat) else none
theorem or_high (m : Nat) (hm : m ≤ 30) (v : Int) (h0 : 0 ≤ v) (h1 : v < 2 ^ m) : Go.bits .or .i64 (IntKind.i64.wrap (2 ^ m)) v = 2 ^ m + v := by
  have hp := pow_le30 (m : Int) (by omega) (by omega)
  rw [Int.toNat_natCast] at hp
  have hw : IntKind.i64.wrap (2 ^ m) = 2 ^ m := wraps_i64 _ (by omega) (by omega)
  rw [hw, bits_join .i64 63 (by decide) wraps_i64 m (2 ^ m) v (by omega) (Int.emod_self) (by omega) h0 h1 (by omega)]
theorem delta_got (l : List Int) (hl : IsBits l) (hlen : l.length ≤ 6000) (a : Nat) (ha : a ≤ l.length) (k : Nat) (hk : 7000 ≤ k) : Got (rd_delta k (packS l) (l.length : Int) (a : Int) false) a (deltaR (l.drop a)) := by
  have hg := gamma_got l hl hlen a ha k hk
  unfold rd_delta deltaR
  cases hgr : gammaR (l.drop a) with
  | none =>
    rw [hgr] at hg
    obtain ⟨v, a', e⟩ := hg
    rw [e, Option.bind_some, if_pos rfl, Option.bind_none]
    exact ⟨_, a', rfl⟩
  | some q =>
    obtain ⟨g, c⟩ := q
    rw [hgr] at hg
    simp only [Got] at hg
    obtain ⟨g1, g2, g3⟩ := gamma_facts _ (IsBits.drop' hl a) g c hgr
    rw [List.length_drop] at g3
    rw [hg, Option.bind_some, if_neg (by simp), Option.bind_some]
    simp only
    by_cases h30 : 30 < g - 1
    · rw [if_pos h30, if_pos (by omega), if_neg (fun h => by omega)]
      exact ⟨_, a + c, rfl⟩
    · rw [if_neg h30, if_pos (by omega)]
      obtain ⟨m, hm⟩ := Int.eq_ofNat_of_zero_le (show 0 ≤ g - 1 by omega)
      have hgn : g.toNat - 1 = m := by omega
      rw [hm, hgn, Int.toNat_natCast, List.drop_drop, List.length_drop]
      have e := rd_look_eq l hl hlen (a + c) m (by omega) k hk
      rw [e, Option.bind_some]
      by_cases h2 : a + c + m ≤ l.length
      · rw [if_pos h2, if_pos ⟨by omega, by omega⟩]
        have hb := numL_range (IsBits.take' (IsBits.drop' hl (a + c)) m)
        rw [List.length_take, List.length_drop, Nat.min_eq_left (by omega)] at hb
        simp only [Got]
        rw [or_high m (by omega) _ hb.1 hb.2, show a + c + m = a + (c + m) by omega]
      · rw [if_neg h2, if_neg (fun h => by omega)]
        exact ⟨_, a + c, rfl⟩
def zetaR (kk most : Int) (r : List Int) : Option (Int × Nat) := (unaryR most r).bind fun u => (code_zeta.f kk (u.1 - 1)).bind fun q =>
  if u.2 + (q.2.2.1 - 1).toNat ≤ r.length then
    (if numL ((r.drop u.2).take (q.2.2.1 - 1).toNat) < q.2.2.2 then some (q.1 + numL ((r.drop u.2).take (q.2.2.1 - 1).toNat), u.2 + (q.2.2.1 - 1).toNat)
    else if u.2 + (q.2.2.1 - 1).toNat + 1 ≤ r.length then some (q.1 + (numL ((r.drop u.2).take (q.2.2.1 - 1).toNat) * 2 + numL ((r.drop (u.2 + (q.2.2.1 - 1).toNat)).take 1) - q.2.2.2), u.2 + (q.2.2.1 - 1).toNat + 1) else none)
  else none
theorem zeta_got (kk : Nat) (most : Int) (hm0 : 1 ≤ most) (hm1 : most ≤ 16) (hz : ∀ h : Nat, (h : Int) ≤ most - 1 → ∃ low many size short : Int, code_zeta.f (kk : Int) (h : Int) = some (low, many, size, short) ∧ 0 ≤ low ∧ low ≤ 4294967296 ∧ 1 ≤ size ∧ size ≤ 33 ∧ 0 ≤ short ∧ short ≤ 4294967296)
    (l : List Int) (hl : IsBits l) (hlen : l.length ≤ 6000) (a : Nat) (ha : a ≤ l.length) (k : Nat) (hk : 7000 ≤ k) : Got (rd_zeta (kk : Int) most k (packS l) (l.length : Int) (a : Int) false) a (zetaR (kk : Int) most (l.drop a)) := by
  have hu := unary_got l hl hlen a ha most hm0 (by omega) k hk
  have hr := zerosL_range (l.drop a)
  rw [List.length_drop] at hr
  unfold rd_zeta zetaR
  cases hur : unaryR most (l.drop a) with
  | none =>
    rw [hur] at hu
    obtain ⟨v, a', e⟩ := hu
    rw [e, Option.bind_some, if_pos rfl, Option.bind_none]
    exact ⟨_, a', rfl⟩
  | some q =>
    obtain ⟨u, c⟩ := q
    rw [hur] at hu
    simp only [Got] at hu
    have hc : 1 ≤ u ∧ u ≤ most ∧ a + c ≤ l.length := by
      unfold unaryR at hur
      split at hur
      · simp only [Option.some.injEq, Prod.mk.injEq] at hur
        omega
      · cases hur
    obtain ⟨h, hh⟩ := Int.eq_ofNat_of_zero_le (show 0 ≤ u - 1 by omega)
    obtain ⟨low, many, size, short, e, z1, z2, z3, z4, z5, z6⟩ := hz h (by omega)
    rw [hu, Option.bind_some, if_neg (by simp), Option.bind_some]
    simp only
    rw [if_pos ⟨by omega, by omega⟩, hh, e, Option.bind_some, Option.bind_some]
    simp only
    rw [if_pos ⟨z1, z2, z3, by omega, z5, z6⟩]
    obtain ⟨m, hm⟩ := Int.eq_ofNat_of_zero_le (show 0 ≤ size - 1 by omega)
    rw [hm, Int.toNat_natCast, List.drop_drop, List.drop_drop, List.length_drop, rd_look_eq l hl hlen (a + c) m (by omega) k hk, Option.bind_some]
    by_cases h2 : a + c + m ≤ l.length
    · rw [if_pos h2, if_pos (show c + m ≤ l.length - a by omega)]
      have hb := numL_range (IsBits.take' (IsBits.drop' hl (a + c)) m)
      rw [List.length_take, List.length_drop, Nat.min_eq_left (by omega)] at hb
      have hpw := Nat.pow_le_pow_right (n := 2) (by decide) (show m ≤ 32 by omega)
      have hpc : ((2 ^ m : Nat) : Int) = (2 : Int) ^ m := Int.natCast_pow 2 m
      rw [← hpc] at hb
      generalize numL ((l.drop (a + c)).take m) = z at *
      simp only
      rw [if_pos ⟨by omega, by omega⟩]
      by_cases h3 : z < short
      · rw [if_pos h3, if_pos h3]
        simp only [Got]
        rw [show a + c + m = a + (c + m) by omega]
      · rw [if_neg h3, if_neg h3]
        have e1 := rd_look_eq l hl hlen (a + c + m) 1 (by omega) k hk
        have e1' : rd_look k (packS l) (l.length : Int) ((a + c + m : Nat) : Int) false 1 = _ := e1
        rw [e1', Option.bind_some]
        by_cases h4 : a + c + m + 1 ≤ l.length
        · rw [if_pos h4, if_pos (show c + m + 1 ≤ l.length - a by omega)]
          have hb1 := numL_range (IsBits.take' (IsBits.drop' hl (a + c + m)) 1)
          rw [List.length_take, List.length_drop, Nat.min_eq_left (by omega)] at hb1
          rw [show a + (c + m) = a + c + m by omega]
          generalize numL ((l.drop (a + c + m)).take 1) = y at *
          simp only [Got]
          rw [if_pos ⟨by omega, by omega⟩, show a + c + m + 1 = a + (c + m + 1) by omega]
        · rw [if_neg h4, if_neg (show ¬ (c + m + 1 ≤ l.length - a) by omega), if_pos ⟨by omega, by omega⟩]
          exact ⟨_, a + c + m, rfl⟩
    · rw [if_neg h2, if_neg (show ¬ (c + m ≤ l.length - a) by omega)]
      have e1 := rd_look_bad l hl hlen (a + c) 1 (by omega) k hk
      have e1' : rd_look k (packS l) (l.length : Int) ((a + c : Nat) : Int) true 1 = _ := e1
      simp only
      rw [if_pos ⟨by omega, by omega⟩, e1', Option.bind_some]
      split
      · exact ⟨_, a + c, rfl⟩
      · rw [if_pos ⟨by omega, by omega⟩]
        exact ⟨_, a + c, rfl⟩
end Go.Proofs.Ytnpghcikhpglkaa.Pb
namespace Go.Proofs.Ytnpghcikhpglkaa.Pb
open Go.RowKit Go.Proofs.YtnpghcikhpglkaaW.PrintWords Go.Proofs.YtnpghcikhpglkaaW.PrintLast Go.Proofs.YtnpghcikhpglkaaW.PrintMore Go.Proofs.Ytnpghcikhpglkaa.Hand Go.Proofs.Ytnpghcikhpglkaa.Pu Go.Proofs.Ytnpghcikhpglkaa.Q
set_option linter.unusedVariables false
set_option linter.unusedSimpArgs false

/-- The rest's first code of a kind. -/
def ReadL (kind : Int) (r : List Int) : Option (Int × Nat) :=
  if kind = 1 then unaryR 1000 r else if kind = 2 then gammaR r else if kind = 3 then deltaR r else if kind = 4 then zetaR 2 16 r else zetaR 3 11 r
theorem zt2' (h : Nat) (hh : (h : Int) ≤ 16 - 1) : ∃ low many size short : Int, code_zeta.f ((2 : Nat) : Int) (h : Int) = some (low, many, size, short) ∧ 0 ≤ low ∧ low ≤ 4294967296 ∧ 1 ≤ size ∧ size ≤ 33 ∧ 0 ≤ short ∧ short ≤ 4294967296 := by
  obtain ⟨low, many, size, short, e, e1, e2, e3, e4, e5, e6, e7⟩ := zt_facts (zt2 ⟨h, by omega⟩)
  have hb : ∀ h : Fin 16, (Option.any (fun q : Int × Int × Int × Int => Nat.ble q.2.2.1.toNat 33) (code_zeta.f ((2 : Nat) : Int) (h.val : Int))) = true := by decide +kernel
  have hb2 := hb ⟨h, by omega⟩
  simp only at e e1 hb2
  rw [e] at hb2
  have hb3 : size.toNat ≤ 33 := Nat.le_of_ble_eq_true hb2
  have hp := Nat.pow_le_pow_right (n := 2) (by decide) (show h * 2 ≤ 32 by omega)
  have hp0 : 0 < 2 ^ (h * 2) := Nat.pow_pos (by decide)
  exact ⟨low, many, size, short, e, by omega, by omega, e3, by omega, e5, by omega⟩
theorem zt3' (h : Nat) (hh : (h : Int) ≤ 11 - 1) : ∃ low many size short : Int, code_zeta.f ((3 : Nat) : Int) (h : Int) = some (low, many, size, short) ∧ 0 ≤ low ∧ low ≤ 4294967296 ∧ 1 ≤ size ∧ size ≤ 33 ∧ 0 ≤ short ∧ short ≤ 4294967296 := by
  obtain ⟨low, many, size, short, e, e1, e2, e3, e4, e5, e6, e7⟩ := zt_facts (zt3 ⟨h, by omega⟩)
  have hb : ∀ h : Fin 11, (Option.any (fun q : Int × Int × Int × Int => Nat.ble q.2.2.1.toNat 33) (code_zeta.f ((3 : Nat) : Int) (h.val : Int))) = true := by decide +kernel
  have hb2 := hb ⟨h, by omega⟩
  simp only at e e1 hb2
  rw [e] at hb2
  have hb3 : size.toNat ≤ 33 := Nat.le_of_ble_eq_true hb2
  have hp := Nat.pow_le_pow_right (n := 2) (by decide) (show h * 3 ≤ 32 by omega)
  have hp0 : 0 < 2 ^ (h * 3) := Nat.pow_pos (by decide)
  exact ⟨low, many, size, short, e, by omega, by omega, e3, by omega, e5, by omega⟩
theorem read_got (l : List Int) (hl : IsBits l) (hlen : l.length ≤ 6000) (a : Nat) (ha : a ≤ l.length) (kind : Int) (hk1 : 1 ≤ kind) (hk5 : kind ≤ 5) (k : Nat) (hk : 7000 ≤ k) : Got (readK k (packS l) (l.length : Int) (a : Int) kind) a (ReadL kind (l.drop a)) := by
  have hkk : kind = 1 ∨ kind = 2 ∨ kind = 3 ∨ kind = 4 ∨ kind = 5 := by omega
  unfold readK ReadL
  rcases hkk with rfl | rfl | rfl | rfl | rfl
  · rw [if_pos rfl, if_pos rfl]; exact unary_got l hl hlen a ha 1000 (by omega) (by omega) k hk
  · rw [if_neg (by decide), if_pos rfl, if_neg (by decide), if_pos rfl]; exact gamma_got l hl hlen a ha k hk
  · rw [if_neg (by decide), if_neg (by decide), if_pos rfl, if_neg (by decide), if_neg (by decide), if_pos rfl]; exact delta_got l hl hlen a ha k hk
  · rw [if_neg (by decide), if_neg (by decide), if_neg (by decide), if_pos rfl, if_neg (by decide), if_neg (by decide), if_neg (by decide), if_pos rfl]
    exact zeta_got 2 16 (by omega) (by omega) zt2' l hl hlen a ha k hk
  · rw [if_neg (by decide), if_neg (by decide), if_neg (by decide), if_neg (by decide), if_pos rfl, if_neg (by decide), if_neg (by decide), if_neg (by decide), if_neg (by decide)]
    exact zeta_got 3 11 (by omega) (by omega) zt3' l hl hlen a ha k hk
/-- code.Read's answer. -/
def readR (kind : Int) (l : List Int) (a : Nat) : Int × Int × Bool := match ReadL kind (l.drop a) with
  | some (v, c) => if 1073741824 < v then (0, 0, false) else (v, ((a + c : Nat) : Int), true)
  | none => (0, 0, false)
theorem read_eq (l : List Int) (hl : IsBits l) (hlen : l.length ≤ 6000) (a : Nat) (ha : a ≤ l.length) (kind : Int) (hk1 : 1 ≤ kind) (hk5 : kind ≤ 5) : code_Read.f (packS l) (l.length : Int) (a : Int) kind = some (readR kind l a) := by
  have hg := read_got l hl hlen a ha kind hk1 hk5 rounds (by unfold rounds; omega)
  unfold code_Read.f readR
  cases hr : ReadL kind (l.drop a) with
  | none =>
    rw [hr] at hg
    obtain ⟨v, a', e⟩ := hg
    rw [e, Option.bind_some, if_pos rfl]
  | some q =>
    obtain ⟨v, c⟩ := q
    rw [hr] at hg
    simp only [Got] at hg
    rw [hg, Option.bind_some, if_neg (by simp)]
    simp only
    split <;> rfl
end Go.Proofs.Ytnpghcikhpglkaa.Pb
namespace Go.Proofs.Ytnpghcikhpglkaa.Pb
open Go.RowKit Go.Proofs.YtnpghcikhpglkaaW.PrintWords Go.Proofs.YtnpghcikhpglkaaW.PrintLast Go.Proofs.YtnpghcikhpglkaaW.PrintMore Go.Proofs.Ytnpghcikhpglkaa.Hand Go.Proofs.Ytnpghcikhpglkaa.Pu Go.Proofs.Ytnpghcikhpglkaa.Q
set_option linter.unusedVariables false
set_option linter.unusedSimpArgs false

theorem unaryL_eq (n : Int) : unaryL n = List.replicate (n - 1).toNat 0 ++ [1] := by
  unfold unaryL; rw [putL_zero]; rfl
theorem unary_read (most n : Int) (h1 : 1 ≤ n) (h2 : n ≤ most) (r : List Int) : unaryR most (unaryL n ++ r) = some (n, (unaryL n).length) := by
  obtain ⟨m, hm⟩ := Int.eq_ofNat_of_zero_le (show 0 ≤ n - 1 by omega)
  rw [unaryL_length n h1, unaryL_eq, hm, Int.toNat_natCast, List.append_assoc, List.singleton_append]
  unfold unaryR
  rw [zerosL_rep, if_pos ⟨by omega, by omega⟩, Int.toNat_natCast, show m + 1 = n.toNat by omega, show (m : Int) + 1 = n by omega]
theorem gamma_read (n : Int) (h1 : 1 ≤ n) (h2 : n ≤ 1073741824) (r : List Int) : gammaR (gammaL n ++ r) = some (n, (gammaL n).length) := by
  obtain ⟨_, g0, g1, g2, g3⟩ := lg_facts n h1 h2
  have hlen := gammaL_length n
  obtain ⟨g, hg⟩ := Int.eq_ofNat_of_zero_le g0
  have e : gammaL n = List.replicate g 0 ++ putL (g + 1) n := by
    unfold gammaL
    rw [hg, putL_zero, Int.toNat_natCast, show ((g : Int) + 1).toNat = g + 1 by omega]
  rw [hg, Int.toNat_natCast] at g2 g3
  rw [hg, Int.toNat_natCast, show ((g : Int) + 1).toNat = g + 1 by omega] at hlen
  have hp : (0 : Int) < 2 ^ g := Int.pow_pos (by decide)
  have hs : (2 : Int) ^ (g + 1) = 2 ^ g * 2 := Int.pow_succ 2 g
  have hd : n / 2 ^ g = 1 := by
    rw [Int.ediv_eq_iff_of_pos hp]
    omega
  have e1 : putL (g + 1) n = 1 :: putL g n := by rw [putL, hd]; rfl
  have e2 : gammaL n ++ r = List.replicate g 0 ++ 1 :: (putL g n ++ r) := by rw [e, e1]; simp
  have hz : zerosL (gammaL n ++ r) = (g : Int) := by rw [e2, zerosL_rep]
  have hdr : ((gammaL n ++ r).drop g).take (g + 1) = putL (g + 1) n := by
    rw [e, List.append_assoc, List.drop_append_of_le_length (by simp), List.drop_of_length_le (by simp), List.nil_append, List.take_append_of_le_length (by rw [putL_length]; omega), List.take_of_length_le (by rw [putL_length]; omega)]
  unfold gammaR
  rw [hz, Int.toNat_natCast, if_pos ⟨by omega, by omega, by rw [List.length_append, hlen]; omega⟩, hdr, numL_putL_lt (g + 1) n (by omega) g3, hlen, show 2 * g + 1 = g + (g + 1) by omega]
theorem delta_read (n : Int) (h1 : 1 ≤ n) (h2 : n ≤ 1073741824) (r : List Int) : deltaR (deltaL n ++ r) = some (n, (deltaL n).length) := by
  obtain ⟨_, g0, g1, g2, g3⟩ := lg_facts n h1 h2
  obtain ⟨g, hg⟩ := Int.eq_ofNat_of_zero_le g0
  have e : deltaL n = gammaL ((g : Int) + 1) ++ putL g n := by unfold deltaL; rw [hg, Int.toNat_natCast]
  rw [hg, Int.toNat_natCast] at g2 g3
  have hp : (0 : Int) < 2 ^ g := Int.pow_pos (by decide)
  have hs : (2 : Int) ^ (g + 1) = 2 ^ g * 2 := Int.pow_succ 2 g
  have hm : n % 2 ^ g = n - 2 ^ g := by
    rw [← Int.emod_eq_of_lt (a := n - 2 ^ g) (b := 2 ^ g) (by omega) (by omega), Int.sub_emod_right]
  unfold deltaR
  rw [e, List.append_assoc, gamma_read ((g : Int) + 1) (by omega) (by omega), Option.bind_some]
  simp only
  have hd : ((gammaL ((g : Int) + 1) ++ (putL g n ++ r)).drop (gammaL ((g : Int) + 1)).length).take g = putL g n := by
    rw [List.drop_left, List.take_append_of_le_length (by rw [putL_length]; omega), List.take_of_length_le (by rw [putL_length]; omega)]
  rw [show (g : Int) + 1 - 1 = (g : Int) by omega, Int.toNat_natCast, hd, if_pos ⟨by omega, by simp only [List.length_append, putL_length]; omega⟩, numL_putL g n (by omega), hm, List.length_append, putL_length, show (2 : Int) ^ g + (n - 2 ^ g) = n by omega]
end Go.Proofs.Ytnpghcikhpglkaa.Pb
namespace Go.Proofs.Ytnpghcikhpglkaa.Pb
open Go.RowKit Go.Proofs.YtnpghcikhpglkaaW.PrintWords Go.Proofs.YtnpghcikhpglkaaW.PrintLast Go.Proofs.YtnpghcikhpglkaaW.PrintMore Go.Proofs.Ytnpghcikhpglkaa.Hand Go.Proofs.Ytnpghcikhpglkaa.Pu Go.Proofs.Ytnpghcikhpglkaa.Q
set_option linter.unusedVariables false
set_option linter.unusedSimpArgs false

theorem putL_last (m : Nat) : ∀ v : Int, putL (m + 1) v = putL m (v / 2) ++ [v % 2] := by
  induction m with
  | zero => intro v; simp [putL]
  | succ m ih =>
    intro v
    have e : v / 2 ^ (m + 1) = v / 2 / 2 ^ m := by
      rw [Int.pow_succ, Int.mul_comm, ← Int.ediv_ediv_of_nonneg (by decide)]
    rw [putL, ih v, putL, e]
    rfl
def manyOk (kk h : Nat) : Bool := Option.any (fun q : Int × Int × Int × Int => Nat.blt (2 ^ (q.2.2.1.toNat - 1)) q.2.1.toNat) (code_zeta.f (kk : Int) (h : Int))
theorem many2 : ∀ h : Fin 16, manyOk 2 h.val = true := by decide +kernel
theorem many3 : ∀ h : Fin 11, manyOk 3 h.val = true := by decide +kernel
theorem zeta_read (kk h : Nat) (most n : Int) (hk : 1 ≤ kk) (h1 : 1 ≤ n) (h2 : n ≤ 1073741824) (hh : Int.tdiv (lg n) (kk : Int) = (h : Int)) (hmost : (h : Int) + 1 ≤ most) (ho : ztOk kk h = true) (hm : manyOk kk h = true) (hhi : n < ((2 ^ (h * kk + kk) : Nat) : Int)) (hlo : ((2 ^ (h * kk) : Nat) : Int) ≤ n) (r : List Int) :
    zetaR (kk : Int) most (zetaL (kk : Int) n ++ r) = some (n, (zetaL (kk : Int) n).length) := by
  obtain ⟨low, many, size, short, e, e1, e2, e3, e4, e5, e6, e7⟩ := zt_facts ho
  unfold manyOk at hm
  rw [e] at hm
  have hm2 : 2 ^ (size.toNat - 1) < many.toNat := by simpa using hm
  obtain ⟨m, hsz⟩ := Int.eq_ofNat_of_zero_le (show 0 ≤ size - 1 by omega)
  have hsz2 : size.toNat = m + 1 := by omega
  rw [hsz2] at e6 hm2
  have hpow : 2 ^ (m + 1) = 2 ^ m * 2 := Nat.pow_succ 2 m
  simp only [Nat.add_sub_cancel] at hm2
  have hc : ((2 ^ m : Nat) : Int) = (2 : Int) ^ m := Int.natCast_pow 2 m
  have hz : zetaL (kk : Int) n = unaryL ((h : Int) + 1) ++ (if n - low < short then putL (size - 1).toNat (n - low) else putL size.toNat (n - low + short)) := by
    unfold zetaL; rw [hh, e]
  rw [hz, hsz, hsz2, Int.toNat_natCast]
  by_cases hx : n - low < short
  · rw [if_pos hx, List.append_assoc]
    unfold zetaR
    rw [unary_read most ((h : Int) + 1) (by omega) hmost, Option.bind_some]
    simp only
    rw [show (h : Int) + 1 - 1 = (h : Int) by omega, e, Option.bind_some]
    simp only
    rw [hsz, Int.toNat_natCast, List.drop_left, List.take_append_of_le_length (by rw [putL_length]; omega), List.take_of_length_le (by rw [putL_length]; omega), if_pos (by simp only [List.length_append, putL_length]; omega), numL_putL_lt m (n - low) (by omega) (by rw [← hc]; omega), if_pos hx, List.length_append, putL_length, show low + (n - low) = n by omega]
  · rw [if_neg hx, List.append_assoc]
    unfold zetaR
    rw [unary_read most ((h : Int) + 1) (by omega) hmost, Option.bind_some]
    simp only
    rw [show (h : Int) + 1 - 1 = (h : Int) by omega, e, Option.bind_some]
    simp only
    rw [putL_last]
    have hv : (n - low + short) / 2 < ((2 ^ m : Nat) : Int) := by omega
    rw [hsz, Int.toNat_natCast, List.drop_left, List.append_assoc, List.take_append_of_le_length (by rw [putL_length]; omega), List.take_of_length_le (by rw [putL_length]; omega), if_pos (by simp only [List.length_append, putL_length]; omega), numL_putL_lt m _ (by omega) (by rw [← hc]; exact hv), if_neg (by omega), if_pos (by simp only [List.length_append, putL_length, List.length_singleton]; omega)]
    have hd : ((unaryL ((h : Int) + 1) ++ (putL m ((n - low + short) / 2) ++ ([(n - low + short) % 2] ++ r))).drop ((unaryL ((h : Int) + 1)).length + m)).take 1 = [(n - low + short) % 2] := by
      rw [← List.drop_drop, List.drop_left]
      have := List.drop_left (l₁ := putL m ((n - low + short) / 2)) (l₂ := [(n - low + short) % 2] ++ r)
      rw [putL_length] at this
      rw [this]; rfl
    rw [hd, List.length_append, List.length_append, putL_length]
    have hn : numL [(n - low + short) % 2] = (n - low + short) % 2 := by simp [numL]
    rw [hn, show low + ((n - low + short) / 2 * 2 + (n - low + short) % 2 - short) = n by omega]
    rfl
theorem lg_high {n : Int} {h kk : Nat} (h0 : 1 ≤ n) (h1 : n ≤ 1073741824) (hh : (h : Int) = lg n / (kk : Int)) (hk : 1 ≤ kk) : n < ((2 ^ (h * kk + kk) : Nat) : Int) := by
  obtain ⟨_, g0, g1, g2, g3⟩ := lg_facts n h0 h1
  obtain ⟨g, hg⟩ := Int.eq_ofNat_of_zero_le g0
  rw [hg] at hh g3
  rw [Int.toNat_natCast] at g3
  have hh' : h = g / kk := by exact_mod_cast hh
  have hle : g + 1 ≤ h * kk + kk := by
    have := Nat.lt_div_mul_add (a := g) (b := kk) (by omega)
    rw [hh']; omega
  have := Nat.pow_le_pow_right (n := 2) (by decide) hle
  have h2 : ((2 ^ (g + 1) : Nat) : Int) ≤ ((2 ^ (h * kk + kk) : Nat) : Int) := by exact_mod_cast this
  have h3 : ((2 ^ (g + 1) : Nat) : Int) = (2 : Int) ^ (g + 1) := Int.natCast_pow 2 (g + 1)
  rw [h3] at h2
  exact Int.lt_of_lt_of_le g3 h2
theorem read_lay (kind n : Int) (hk1 : 1 ≤ kind) (hk5 : kind ≤ 5) (h1 : 1 ≤ n) (h2 : n ≤ 1073741824) (h3 : kind = 1 → n ≤ 1000) (r : List Int) : ReadL kind (layL kind n ++ r) = some (n, (layL kind n).length) := by
  obtain ⟨_, g0, g1, _, _⟩ := lg_facts n h1 h2
  have hkk : kind = 1 ∨ kind = 2 ∨ kind = 3 ∨ kind = 4 ∨ kind = 5 := by omega
  unfold ReadL layL
  rcases hkk with rfl | rfl | rfl | rfl | rfl
  · rw [if_pos rfl, if_pos rfl]; exact unary_read 1000 n h1 (h3 rfl) r
  · rw [if_neg (by decide), if_pos rfl, if_neg (by decide), if_pos rfl]; exact gamma_read n h1 h2 r
  · rw [if_neg (by decide), if_neg (by decide), if_pos rfl, if_neg (by decide), if_neg (by decide), if_pos rfl]; exact delta_read n h1 h2 r
  · rw [if_neg (by decide), if_neg (by decide), if_neg (by decide), if_pos rfl, if_neg (by decide), if_neg (by decide), if_neg (by decide), if_pos rfl]
    obtain ⟨h, hh⟩ := Int.eq_ofNat_of_zero_le (show 0 ≤ lg n / 2 by omega)
    exact zeta_read 2 h 16 n (by omega) h1 h2 (by rw [Int.tdiv_eq_ediv_of_nonneg g0]; exact hh) (by omega) (zt2 ⟨h, by omega⟩) (many2 ⟨h, by omega⟩) (lg_high h1 h2 hh.symm (by omega)) (low_le h1 h2 hh.symm (by omega)) r
  · rw [if_neg (by decide), if_neg (by decide), if_neg (by decide), if_neg (by decide), if_neg (by decide), if_neg (by decide), if_neg (by decide), if_neg (by decide)]
    obtain ⟨h, hh⟩ := Int.eq_ofNat_of_zero_le (show 0 ≤ lg n / 3 by omega)
    exact zeta_read 3 h 11 n (by omega) h1 h2 (by rw [Int.tdiv_eq_ediv_of_nonneg g0]; exact hh) (by omega) (zt3 ⟨h, by omega⟩) (many3 ⟨h, by omega⟩) (lg_high h1 h2 hh.symm (by omega)) (low_le h1 h2 hh.symm (by omega)) r
end Go.Proofs.Ytnpghcikhpglkaa.Pb
