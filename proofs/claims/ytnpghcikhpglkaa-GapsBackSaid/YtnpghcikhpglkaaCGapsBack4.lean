/- What the row of GapsBack rests on, part 5 of 5: functions, contracts, plain laws. -/
import Derived.Test.YtnpghcikhpglkaaCGapsBack3
namespace Go.Proofs.Ytnpghcikhpglkaa.Q
open Go.RowKit Go.Proofs.YtnpghcikhpglkaaW.PrintWords Go.Proofs.YtnpghcikhpglkaaW.PrintLast Go.Proofs.YtnpghcikhpglkaaW.PrintMore Go.Proofs.Ytnpghcikhpglkaa.Hand Go.Proofs.Ytnpghcikhpglkaa.Pu
set_option linter.unusedVariables false
set_option linter.unusedSimpArgs false
set_option maxHeartbeats 4000000 in
set_option maxRecDepth 100000 in
theorem cat_no1 (s : ByteArray) (n : Int) (s2 : ByteArray) (n2 : Int) (w : World) (hm : ¬ MayP s n) :
    Calls Try.prog 43 #[.agg #[.string s, .int .i64 n], .agg #[.string s2, .int .i64 n2]] w fun e w' => e = .returned (.tuple #[.agg #[.string ⟨#[]⟩, .int .i64 0], .int .i64 1]) ∧ Below w.heap.size w w' := by
  have hu := Try.underlying27
  have A := Aside0.mk (show bits_May.f s n = some false by rw [may_eq, decide_eq_false hm])
  have HS := Aside0.mk (start3 w (.cells #[.string s, .int .i64 n] 27) (.cells #[.string s2, .int .i64 n2] 27) (.cells #[.string ⟨#[]⟩, .int .i64 0] 27))
  clear hm
  go_enter Try.func43, Try.ntmps43
  go_wp2_with (first | ((with_reducible refine gate_callee (f := 86) rfl ?_); refine goesL_ (some 9) rfl rfl Try.func86 (by kernel_rfl) rfl #[.agg #[.string s, .int .i64 n]] rfl (by (try simp only [List.map_toArray, List.map_cons, List.map_nil]); first | done | rfl) ?_; (with_reducible refine (bits_May.calls s n false _ A.out).mono ?_); rintro e w1 ⟨rfl, hb⟩; refine ⟨_, rfl, ?_⟩; have HA := Aside0.mk (keep2 HS.out.2.1 hb (by have := HS.out.2.2.2.2; omega)); have HR := Aside0.mk (keep2 HS.out.2.2.1 hb (by have := HS.out.2.2.2.2; omega)); obtain ⟨a0, a1, g0, g1⟩ := two_cells HA.out; obtain ⟨c0, c1, f0, f1⟩ := two_cells HR.out; have HB := Aside0.mk (below_then HS.out.2.2.2.1 HS.out.2.2.2.1.size hb); have HA1 := Aside0.mk (keep2 HS.out.1 hb (by have := HS.out.2.2.2.2; omega)); obtain ⟨x0, x1, y0, y1⟩ := two_cells HA1.out; clear hb))
  refine bodyPost_ret (results_list (rs := [.cell 4 27, .tmp 5]) rfl (by simp) (.cell (w.heap.size + 2) 27 #[.string ⟨#[]⟩, .int .i64 0] (0, 0) _ rfl (put2 HR.out) Try.underlying27 rfl (by kernel_rfl) (.tmp .nil))) rfl ⟨rfl, below_put2 HB.out (by omega) _ _⟩
set_option maxHeartbeats 4000000 in
set_option maxRecDepth 100000 in
theorem cat_no2 (s : ByteArray) (n : Int) (s2 : ByteArray) (n2 : Int) (w : World) (hm : MayP s n) (hm2 : ¬ MayP s2 n2) :
    Calls Try.prog 43 #[.agg #[.string s, .int .i64 n], .agg #[.string s2, .int .i64 n2]] w fun e w' => e = .returned (.tuple #[.agg #[.string ⟨#[]⟩, .int .i64 0], .int .i64 1]) ∧ Below w.heap.size w w' := by
  have hu := Try.underlying27
  have A := Aside0.mk (show bits_May.f s n = some true by rw [may_eq, decide_eq_true hm])
  have A2 := Aside0.mk (show bits_May.f s2 n2 = some false by rw [may_eq, decide_eq_false hm2])
  have HS := Aside0.mk (start3 w (.cells #[.string s, .int .i64 n] 27) (.cells #[.string s2, .int .i64 n2] 27) (.cells #[.string ⟨#[]⟩, .int .i64 0] 27))
  clear hm hm2
  go_enter Try.func43, Try.ntmps43
  go_wp2_with (first | ((with_reducible refine gate_callee (f := 86) rfl ?_); refine goesL_ (some 9) rfl rfl Try.func86 (by kernel_rfl) rfl #[.agg #[.string s, .int .i64 n]] rfl (by (try simp only [List.map_toArray, List.map_cons, List.map_nil]); first | done | rfl) ?_; (with_reducible refine (bits_May.calls s n true _ A.out).mono ?_); rintro e w1 ⟨rfl, hb⟩; refine ⟨_, rfl, ?_⟩; have HA := Aside0.mk (keep2 HS.out.2.1 hb (by have := HS.out.2.2.2.2; omega)); have HR := Aside0.mk (keep2 HS.out.2.2.1 hb (by have := HS.out.2.2.2.2; omega)); obtain ⟨a0, a1, g0, g1⟩ := two_cells HA.out; obtain ⟨c0, c1, f0, f1⟩ := two_cells HR.out; have HB := Aside0.mk (below_then HS.out.2.2.2.1 HS.out.2.2.2.1.size hb); have HA1 := Aside0.mk (keep2 HS.out.1 hb (by have := HS.out.2.2.2.2; omega)); obtain ⟨x0, x1, y0, y1⟩ := two_cells HA1.out; clear hb))
  go_wp2_with (first | (go_at_call 86; ((with_reducible refine (bits_May.calls s2 n2 false _ A2.out).mono ?_); rintro e w2 ⟨rfl, hb⟩); have HGG := Aside0.mk (Nat.lt_of_lt_of_le (blk_lt HR.out) hb.size); have HAA := Aside0.mk (keep2 HA.out hb (blk_lt HA.out)); have HRR := Aside0.mk (keep2 HR.out hb (blk_lt HR.out)); have HA11 := Aside0.mk (keep2 HA1.out hb (blk_lt HA1.out)); clear HA HR HA1 x0 x1 y0 y1 a0 a1 g0 g1 c0 c1 f0 f1; have HA := HAA; have HR := HRR; have HA1 := HA11; clear HAA HRR HA11; obtain ⟨a0, a1, g0, g1⟩ := two_cells HA.out; obtain ⟨c0, c1, f0, f1⟩ := two_cells HR.out; obtain ⟨x0, x1, y0, y1⟩ := two_cells HA1.out; have HBB := Aside0.mk (below_then HB.out HB.out.size hb); clear HB; have HB := HBB; clear HBB; clear hb))
  refine bodyPost_ret (results_list (rs := [.cell 4 27, .tmp 5]) rfl (by simp) (.cell (w.heap.size + 2) 27 #[.string ⟨#[]⟩, .int .i64 0] (0, 0) _ rfl (put2 HR.out) Try.underlying27 rfl (by kernel_rfl) (.tmp .nil))) rfl ⟨rfl, below_put2 HB.out (by omega) _ _⟩
set_option maxHeartbeats 4000000 in
set_option maxRecDepth 100000 in
theorem cat_yes (s : ByteArray) (n : Int) (s2 : ByteArray) (n2 : Int) (w : World) (hm : MayP s n) (hm2 : MayP s2 n2) (hn : n + n2 ≤ 6000) :
    Calls Try.prog 43 #[.agg #[.string s, .int .i64 n], .agg #[.string s2, .int .i64 n2]] w fun e w' => e = .returned (.tuple #[.agg #[.string (strOfNums (rowSeq s2 n2.toNat 0 (bytesI s, n)).1), .int .i64 (rowSeq s2 n2.toNat 0 (bytesI s, n)).2], .int .i64 0]) ∧ Below w.heap.size w w' := by
  have hu := Try.underlying27
  have A := Aside0.mk (show bits_May.f s n = some true by rw [may_eq, decide_eq_true hm])
  have A2 := Aside0.mk (show bits_May.f s2 n2 = some true by rw [may_eq, decide_eq_true hm2])
  have HS := Aside0.mk (start3 w (.cells #[.string s, .int .i64 n] 27) (.cells #[.string s2, .int .i64 n2] 27) (.cells #[.string ⟨#[]⟩, .int .i64 0] 27))
  have hsz : s.size ≤ 1073741824 := by have := hm.2.2.1; have := hm.2.1; omega
  have hn0 : 0 ≤ n := hm.1
  have hn6 : n ≤ 6000 := hm.2.1
  have hk0 : 0 ≤ n2 := hm2.1
  have hk6 : n2 ≤ 6000 := hm2.2.1
  have HSZ := Aside0.mk hm.2.2.1
  have HSZ2 := Aside0.mk hm2.2.2.1
  have HLE := Aside0.mk hn
  clear hm hm2 hn
  go_enter Try.func43, Try.ntmps43
  go_wp2_with (first | ((with_reducible refine gate_callee (f := 86) rfl ?_); refine goesL_ (some 9) rfl rfl Try.func86 (by kernel_rfl) rfl #[.agg #[.string s, .int .i64 n]] rfl (by (try simp only [List.map_toArray, List.map_cons, List.map_nil]); first | done | rfl) ?_; (with_reducible refine (bits_May.calls s n true _ A.out).mono ?_); rintro e w1 ⟨rfl, hb⟩; refine ⟨_, rfl, ?_⟩; have HA := Aside0.mk (keep2 HS.out.2.1 hb (by have := HS.out.2.2.2.2; omega)); have HR := Aside0.mk (keep2 HS.out.2.2.1 hb (by have := HS.out.2.2.2.2; omega)); obtain ⟨a0, a1, g0, g1⟩ := two_cells HA.out; obtain ⟨c0, c1, f0, f1⟩ := two_cells HR.out; have HB := Aside0.mk (below_then HS.out.2.2.2.1 HS.out.2.2.2.1.size hb); have HA1 := Aside0.mk (keep2 HS.out.1 hb (by have := HS.out.2.2.2.2; omega)); obtain ⟨x0, x1, y0, y1⟩ := two_cells HA1.out; clear hb))
  go_wp2_with (first | (go_at_call 86; ((with_reducible refine (bits_May.calls s2 n2 true _ A2.out).mono ?_); rintro e w2 ⟨rfl, hb⟩); have HGG := Aside0.mk (Nat.lt_of_lt_of_le (blk_lt HR.out) hb.size); have HAA := Aside0.mk (keep2 HA.out hb (blk_lt HA.out)); have HRR := Aside0.mk (keep2 HR.out hb (blk_lt HR.out)); have HA11 := Aside0.mk (keep2 HA1.out hb (blk_lt HA1.out)); clear HA HR HA1 x0 x1 y0 y1 a0 a1 g0 g1 c0 c1 f0 f1; have HA := HAA; have HR := HRR; have HA1 := HA11; clear HAA HRR HA11; obtain ⟨a0, a1, g0, g1⟩ := two_cells HA.out; obtain ⟨c0, c1, f0, f1⟩ := two_cells HR.out; obtain ⟨x0, x1, y0, y1⟩ := two_cells HA1.out; have HBB := Aside0.mk (below_then HB.out HB.out.size hb); clear HB; have HB := HBB; clear HBB; clear hb) | (go_at_call 88; ((with_reducible refine (from_ _ s n hsz).mono ?_); rintro e w3 ⟨p, rfl, hrow, hb3⟩); have HROW := Aside0.mk hrow; have HB3 := Aside0.mk hb3; have HAA := Aside0.mk (keep2 HA.out hb3 (blk_lt HA.out)); have HRR := Aside0.mk (keep2 HR.out hb3 (blk_lt HR.out)); clear HA HR a0 a1 g0 g1 c0 c1 f0 f1 HA1 x0 x1 y0 y1; have HA := HAA; have HR := HRR; clear HAA HRR; obtain ⟨a0, a1, g0, g1⟩ := two_cells HA.out; obtain ⟨c0, c1, f0, f1⟩ := two_cells HR.out; have HBB := Aside0.mk (below_then HB.out HB.out.size hb3); clear HB; have HB := HBB; clear HBB; clear hrow hb3))
  have HG2 := Aside0.mk (HGG.out)
  have HG1 := Aside0.mk (Nat.lt_of_succ_lt HGG.out)
  go_loopw [21] (fun i wr => ∃ (c : Nat) (st : List Int × Int), i = .int .i64 c ∧ Aside0 (rowSeq s2 (n2.toNat - c) c st = rowSeq s2 n2.toNat 0 (bytesI s, n)) ∧ Aside0 (RowIs wr w2.heap.size p st.1 st.2) ∧ Aside0 (st.2 = n + c) ∧ Aside0 ((st.1.length : Int) = (st.2 + 7) / 8) ∧ c ≤ n2.toNat ∧ Aside0 (wr.heap[w.heap.size + 1]? = some (.cells #[.string s2, .int .i64 n2] 27 (0, 0))) ∧ Aside0 (wr.heap[w.heap.size + 2]? = some (.cells #[.string ⟨#[]⟩, .int .i64 0] 27 (0, 0))) ∧ Aside0 (Below w.heap.size w wr) ∧ Aside0 (w3.heap.size ≤ wr.heap.size))
    (fun i wr => (n2 - intOf i).toNat)
  case atStart => exact ⟨0, (bytesI s, n), rfl, ⟨by simp⟩, ⟨HROW.out⟩, ⟨by simp⟩, ⟨by rw [bytesI_length]; exact HSZ.out⟩, Nat.zero_le _, ⟨HA.out⟩, ⟨HR.out⟩, ⟨HB.out⟩, ⟨Nat.le_refl _⟩⟩
  case round =>
    clear HA HR a0 a1 g0 g1 c0 c1 f0 f1 HB HROW
    obtain ⟨c, ⟨bs, m⟩, rfl, HSEQ, HROW, HM, HLEN, hc, HA, HR, HB, HWR⟩ := hrel
    have hm : Aside0 (m = n + c) := HM
    obtain ⟨a0, a1, g0, g1⟩ := two_cells HA.out
    obtain ⟨c0, c1, f0, f1⟩ := two_cells HR.out
    by_cases hlt : (c : Int) < n2
    · have HBIT := Aside0.mk (bit_some s2 n2 c (by omega) (by have := HSZ2.out; omega) (by omega))
      go_wp2_with (first | (go_at_call 100; ((with_reducible refine (bits_bit.calls s2 n2 c (bitOf s2 c) _ HBIT.out).mono ?_); rintro e w4 ⟨rfl, hb3⟩); have HROW2 := Aside0.mk (HROW.out.below hb3); have HBB := Aside0.mk hb3; clear hb3) | (go_at_call 89; ((with_reducible refine (row_put1 _ w2.heap.size p bs m (bitOf s2 c) HROW2.out ?e1 ?e2 ?e3 ?e4).mono ?_); (case e1 => rw [hm.out]; omega); (case e2 => exact HLEN.out); (case e3 => rw [hm.out]; omega); (case e4 => exact Nat.le_trans (Nat.le_trans HB3.out.size HWR.out) HBB.out.size); rintro e w5 ⟨rfl, hrow3, hb3⟩); have HROW3 := Aside0.mk hrow3; have HB4 := Aside0.mk hb3; clear hrow3 hb3))
      go_roundw
      case rel =>
        refine ⟨c + 1, rowPut 1 (bs, m) (bitOf s2 c), by go_num, ⟨?_⟩, ⟨HROW3.out⟩, ⟨?_⟩, ⟨rowPut1_len (bs, m) _ (by rw [hm.out]; omega) HLEN.out⟩, by omega, ⟨keep2 (keep2 HA.out HBB.out (blk_lt HA.out)) HB4.out (by have := HG1.out; omega)⟩, ⟨keep2 (keep2 HR.out HBB.out (blk_lt HR.out)) HB4.out (by have := HG2.out; omega)⟩, ⟨(HB.out.trans (HBB.out.mono HB.out.size)).trans (HB4.out.mono (by have := HG1.out; omega))⟩, ⟨Nat.le_trans HWR.out (Nat.le_trans HBB.out.size HB4.out.size)⟩⟩
        · rw [← HSEQ.out, show n2.toNat - c = (n2.toNat - (c + 1)) + 1 by omega, rowSeq, show ((c + 1 : Nat) : Int) = (c : Int) + 1 by omega]
        · rw [rowPut_snd, hm.out]; simp only []; omega
      case measure => simp [intOf]; omega
    · have hcc : c = n2.toNat := by omega
      have HE : Aside0 ((bs, m) = rowSeq s2 n2.toNat 0 (bytesI s, n)) := ⟨by
        have := HSEQ.out
        rw [hcc, Nat.sub_self, rowSeq] at this
        exact this⟩
      have HM6 : Aside0 (m ≤ 6000) := ⟨by have := hm.out; have := HLE.out; omega⟩
      clear hcc
      go_wp2_with (first | (go_at_call 90; ((with_reducible refine (row_bits_yes _ _ p bs m HROW.out HM6.out).mono ?_); rintro e w4 ⟨rfl, hb4⟩); have HR4 := Aside0.mk (keep2 HR.out hb4 (blk_lt HR.out)); have HB4 := Aside0.mk (below_then HB.out HB.out.size hb4); clear HR c0 c1 f0 f1; obtain ⟨c0, c1, f0, f1⟩ := two_cells HR4.out; clear hb4))
      refine bodyPost_ret (results_list (rs := [.cell 4 27, .tmp 5]) rfl (by simp) (.cell (w.heap.size + 2) 27 #[.string (strOfNums bs), .int .i64 m] (0, 0) _ rfl (put2 HR4.out) Try.underlying27 rfl (by kernel_rfl) (.tmp .nil))) rfl ⟨by rw [← HE.out] <;> rfl, below_put2 HB4.out (by omega) _ _⟩
set_option maxHeartbeats 4000000 in
set_option maxRecDepth 100000 in
theorem cat_full (s : ByteArray) (n : Int) (s2 : ByteArray) (n2 : Int) (w : World) (hm : MayP s n) (hm2 : MayP s2 n2) (hn : 6000 < n + n2) :
    Calls Try.prog 43 #[.agg #[.string s, .int .i64 n], .agg #[.string s2, .int .i64 n2]] w fun e w' => e = .returned (.tuple #[.agg #[.string ⟨#[]⟩, .int .i64 0], .int .i64 2]) ∧ Below w.heap.size w w' := by
  have hu := Try.underlying27
  have A := Aside0.mk (show bits_May.f s n = some true by rw [may_eq, decide_eq_true hm])
  have A2 := Aside0.mk (show bits_May.f s2 n2 = some true by rw [may_eq, decide_eq_true hm2])
  have HS := Aside0.mk (start3 w (.cells #[.string s, .int .i64 n] 27) (.cells #[.string s2, .int .i64 n2] 27) (.cells #[.string ⟨#[]⟩, .int .i64 0] 27))
  have hsz : s.size ≤ 1073741824 := by have := hm.2.2.1; have := hm.2.1; omega
  have hn0 : 0 ≤ n := hm.1
  have hn6 : n ≤ 6000 := hm.2.1
  have hk0 : 0 ≤ n2 := hm2.1
  have hk6 : n2 ≤ 6000 := hm2.2.1
  have HSZ := Aside0.mk hm.2.2.1
  have HSZ2 := Aside0.mk hm2.2.2.1
  have HLE := Aside0.mk hn
  clear hm hm2 hn
  go_enter Try.func43, Try.ntmps43
  go_wp2_with (first | ((with_reducible refine gate_callee (f := 86) rfl ?_); refine goesL_ (some 9) rfl rfl Try.func86 (by kernel_rfl) rfl #[.agg #[.string s, .int .i64 n]] rfl (by (try simp only [List.map_toArray, List.map_cons, List.map_nil]); first | done | rfl) ?_; (with_reducible refine (bits_May.calls s n true _ A.out).mono ?_); rintro e w1 ⟨rfl, hb⟩; refine ⟨_, rfl, ?_⟩; have HA := Aside0.mk (keep2 HS.out.2.1 hb (by have := HS.out.2.2.2.2; omega)); have HR := Aside0.mk (keep2 HS.out.2.2.1 hb (by have := HS.out.2.2.2.2; omega)); obtain ⟨a0, a1, g0, g1⟩ := two_cells HA.out; obtain ⟨c0, c1, f0, f1⟩ := two_cells HR.out; have HB := Aside0.mk (below_then HS.out.2.2.2.1 HS.out.2.2.2.1.size hb); have HA1 := Aside0.mk (keep2 HS.out.1 hb (by have := HS.out.2.2.2.2; omega)); obtain ⟨x0, x1, y0, y1⟩ := two_cells HA1.out; clear hb))
  go_wp2_with (first | (go_at_call 86; ((with_reducible refine (bits_May.calls s2 n2 true _ A2.out).mono ?_); rintro e w2 ⟨rfl, hb⟩); have HGG := Aside0.mk (Nat.lt_of_lt_of_le (blk_lt HR.out) hb.size); have HAA := Aside0.mk (keep2 HA.out hb (blk_lt HA.out)); have HRR := Aside0.mk (keep2 HR.out hb (blk_lt HR.out)); have HA11 := Aside0.mk (keep2 HA1.out hb (blk_lt HA1.out)); clear HA HR HA1 x0 x1 y0 y1 a0 a1 g0 g1 c0 c1 f0 f1; have HA := HAA; have HR := HRR; have HA1 := HA11; clear HAA HRR HA11; obtain ⟨a0, a1, g0, g1⟩ := two_cells HA.out; obtain ⟨c0, c1, f0, f1⟩ := two_cells HR.out; obtain ⟨x0, x1, y0, y1⟩ := two_cells HA1.out; have HBB := Aside0.mk (below_then HB.out HB.out.size hb); clear HB; have HB := HBB; clear HBB; clear hb) | (go_at_call 88; ((with_reducible refine (from_ _ s n hsz).mono ?_); rintro e w3 ⟨p, rfl, hrow, hb3⟩); have HROW := Aside0.mk hrow; have HB3 := Aside0.mk hb3; have HAA := Aside0.mk (keep2 HA.out hb3 (blk_lt HA.out)); have HRR := Aside0.mk (keep2 HR.out hb3 (blk_lt HR.out)); clear HA HR a0 a1 g0 g1 c0 c1 f0 f1 HA1 x0 x1 y0 y1; have HA := HAA; have HR := HRR; clear HAA HRR; obtain ⟨a0, a1, g0, g1⟩ := two_cells HA.out; obtain ⟨c0, c1, f0, f1⟩ := two_cells HR.out; have HBB := Aside0.mk (below_then HB.out HB.out.size hb3); clear HB; have HB := HBB; clear HBB; clear hrow hb3))
  have HG2 := Aside0.mk (HGG.out)
  have HG1 := Aside0.mk (Nat.lt_of_succ_lt HGG.out)
  go_loopw [21] (fun i wr => ∃ (c : Nat) (st : List Int × Int), i = .int .i64 c ∧ Aside0 (rowSeq s2 (n2.toNat - c) c st = rowSeq s2 n2.toNat 0 (bytesI s, n)) ∧ Aside0 (RowIs wr w2.heap.size p st.1 st.2) ∧ Aside0 (st.2 = n + c) ∧ Aside0 ((st.1.length : Int) = (st.2 + 7) / 8) ∧ c ≤ n2.toNat ∧ Aside0 (wr.heap[w.heap.size + 1]? = some (.cells #[.string s2, .int .i64 n2] 27 (0, 0))) ∧ Aside0 (wr.heap[w.heap.size + 2]? = some (.cells #[.string ⟨#[]⟩, .int .i64 0] 27 (0, 0))) ∧ Aside0 (Below w.heap.size w wr) ∧ Aside0 (w3.heap.size ≤ wr.heap.size))
    (fun i wr => (n2 - intOf i).toNat)
  case atStart => exact ⟨0, (bytesI s, n), rfl, ⟨by simp⟩, ⟨HROW.out⟩, ⟨by simp⟩, ⟨by rw [bytesI_length]; exact HSZ.out⟩, Nat.zero_le _, ⟨HA.out⟩, ⟨HR.out⟩, ⟨HB.out⟩, ⟨Nat.le_refl _⟩⟩
  case round =>
    clear HA HR a0 a1 g0 g1 c0 c1 f0 f1 HB HROW
    obtain ⟨c, ⟨bs, m⟩, rfl, HSEQ, HROW, HM, HLEN, hc, HA, HR, HB, HWR⟩ := hrel
    have hm : Aside0 (m = n + c) := HM
    obtain ⟨a0, a1, g0, g1⟩ := two_cells HA.out
    obtain ⟨c0, c1, f0, f1⟩ := two_cells HR.out
    by_cases hlt : (c : Int) < n2
    · have HBIT := Aside0.mk (bit_some s2 n2 c (by omega) (by have := HSZ2.out; omega) (by omega))
      go_wp2_with (first | (go_at_call 100; ((with_reducible refine (bits_bit.calls s2 n2 c (bitOf s2 c) _ HBIT.out).mono ?_); rintro e w4 ⟨rfl, hb3⟩); have HROW2 := Aside0.mk (HROW.out.below hb3); have HBB := Aside0.mk hb3; clear hb3) | (go_at_call 89; ((with_reducible refine (row_put1 _ w2.heap.size p bs m (bitOf s2 c) HROW2.out ?e1 ?e2 ?e3 ?e4).mono ?_); (case e1 => rw [hm.out]; omega); (case e2 => exact HLEN.out); (case e3 => rw [hm.out]; omega); (case e4 => exact Nat.le_trans (Nat.le_trans HB3.out.size HWR.out) HBB.out.size); rintro e w5 ⟨rfl, hrow3, hb3⟩); have HROW3 := Aside0.mk hrow3; have HB4 := Aside0.mk hb3; clear hrow3 hb3))
      go_roundw
      case rel =>
        refine ⟨c + 1, rowPut 1 (bs, m) (bitOf s2 c), by go_num, ⟨?_⟩, ⟨HROW3.out⟩, ⟨?_⟩, ⟨rowPut1_len (bs, m) _ (by rw [hm.out]; omega) HLEN.out⟩, by omega, ⟨keep2 (keep2 HA.out HBB.out (blk_lt HA.out)) HB4.out (by have := HG1.out; omega)⟩, ⟨keep2 (keep2 HR.out HBB.out (blk_lt HR.out)) HB4.out (by have := HG2.out; omega)⟩, ⟨(HB.out.trans (HBB.out.mono HB.out.size)).trans (HB4.out.mono (by have := HG1.out; omega))⟩, ⟨Nat.le_trans HWR.out (Nat.le_trans HBB.out.size HB4.out.size)⟩⟩
        · rw [← HSEQ.out, show n2.toNat - c = (n2.toNat - (c + 1)) + 1 by omega, rowSeq, show ((c + 1 : Nat) : Int) = (c : Int) + 1 by omega]
        · rw [rowPut_snd, hm.out]; simp only []; omega
      case measure => simp [intOf]; omega
    · have hcc : c = n2.toNat := by omega
      have HE : Aside0 ((bs, m) = rowSeq s2 n2.toNat 0 (bytesI s, n)) := ⟨by
        have := HSEQ.out
        rw [hcc, Nat.sub_self, rowSeq] at this
        exact this⟩
      have HM6 : Aside0 (6000 < m) := ⟨by have := hm.out; have := HLE.out; omega⟩
      clear hcc
      go_wp2_with (first | (go_at_call 90; ((with_reducible refine (row_bits_no _ _ p bs m HROW.out HM6.out).mono ?_); rintro e w4 ⟨rfl, hb4⟩); have HR4 := Aside0.mk (keep2 HR.out hb4 (blk_lt HR.out)); have HB4 := Aside0.mk (below_then HB.out HB.out.size hb4); clear HR c0 c1 f0 f1; obtain ⟨c0, c1, f0, f1⟩ := two_cells HR4.out; clear hb4))
      refine bodyPost_ret (results_list (rs := [.cell 4 27, .tmp 5]) rfl (by simp) (.cell (w.heap.size + 2) 27 #[.string ⟨#[]⟩, .int .i64 0] (0, 0) _ rfl (put2 HR4.out) Try.underlying27 rfl (by kernel_rfl) (.tmp .nil))) rfl ⟨rfl, below_put2 HB4.out (by omega) _ _⟩
/-- bits.Cat. -/
def bits_Cat.f (s : ByteArray) (n : Int) (s2 : ByteArray) (n2 : Int) : Option (ByteArray × Int × Int) :=
  if MayP s n ∧ MayP s2 n2 then (if n + n2 ≤ 6000 then some (packS (ofS s n ++ ofS s2 n2), n + n2, 0) else some (⟨#[]⟩, 0, 2)) else some (⟨#[]⟩, 0, 1)
theorem partK_ofS (s : ByteArray) (k : Nat) : ∀ i : Nat, partK s k (i : Int) = (List.range k).map fun j : Nat => bitOf s ((i + j : Nat) : Int) := by
  induction k with
  | zero => intro i; rfl
  | succ k ih =>
    intro i
    have h := ih (i + 1)
    rw [show (((i + 1 : Nat)) : Int) = (i : Int) + 1 by omega] at h
    rw [partK, List.range_succ_eq_map, List.map_cons, List.map_map, h]
    congr 1
    refine List.map_congr_left fun j _ => ?_
    simp only [Function.comp]
    congr 1
    omega
theorem partK_all (s : ByteArray) (n : Int) : partK s n.toNat 0 = ofS s n := by
  have := partK_ofS s n.toNat 0
  simp only [Nat.zero_add] at this
  exact this
theorem bits_Cat.calls (a0_0 : ByteArray) (a0_1 : Int) (a1_0 : ByteArray) (a1_1 : Int) (r1 : ByteArray) (r2 r3 : Int) (w : World) (h : bits_Cat.f a0_0 a0_1 a1_0 a1_1 = some (r1, r2, r3)) :
    Calls Try.prog 43 #[.agg #[.string a0_0, .int .i64 a0_1], .agg #[.string a1_0, .int .i64 a1_1]] w fun e w' => e = .returned (.tuple #[.agg #[.string r1, .int .i64 r2], .int .i64 r3]) ∧ Below w.heap.size w w' := by
  unfold bits_Cat.f at h
  by_cases hm : MayP a0_0 a0_1
  · by_cases hm2 : MayP a1_0 a1_1
    · rw [if_pos ⟨hm, hm2⟩] at h
      by_cases hn : a0_1 + a1_1 ≤ 6000
      · rw [if_pos hn] at h
        simp only [Option.some.injEq, Prod.mk.injEq] at h
        obtain ⟨rfl, rfl, rfl⟩ := h
        have e := cat_yes a0_0 a0_1 a1_0 a1_1 w hm hm2 hn
        have hp := rowSeq_pack a1_0 a1_1.toNat 0 (ofS a0_0 a0_1) (ofS_bits _ _)
        rw [pack_ofS _ _ hm, partK_all, List.length_append, ofS_length, ofS_length] at hp
        have h1 : ((a0_1.toNat : Nat) : Int) = a0_1 := Int.toNat_of_nonneg hm.1
        have h2 : (((a0_1.toNat + a1_1.toNat : Nat)) : Int) = a0_1 + a1_1 := by have := hm.1; have := hm2.1; omega
        rw [h1, h2] at hp
        rw [hp] at e
        exact e
      · rw [if_neg hn] at h
        simp only [Option.some.injEq, Prod.mk.injEq] at h
        obtain ⟨rfl, rfl, rfl⟩ := h
        exact cat_full a0_0 a0_1 a1_0 a1_1 w hm hm2 (by omega)
    · rw [if_neg (fun h => hm2 h.2)] at h
      simp only [Option.some.injEq, Prod.mk.injEq] at h
      obtain ⟨rfl, rfl, rfl⟩ := h
      exact cat_no2 a0_0 a0_1 a1_0 a1_1 w hm hm2
  · rw [if_neg (fun h => hm h.1)] at h
    simp only [Option.some.injEq, Prod.mk.injEq] at h
    obtain ⟨rfl, rfl, rfl⟩ := h
    exact cat_no1 a0_0 a0_1 a1_0 a1_1 w hm
end Go.Proofs.Ytnpghcikhpglkaa.Q
namespace Go.Proofs.Ytnpghcikhpglkaa.Pb
open Go.RowKit Go.Proofs.YtnpghcikhpglkaaW.PrintWords Go.Proofs.YtnpghcikhpglkaaW.PrintLast Go.Proofs.YtnpghcikhpglkaaW.PrintMore Go.Proofs.Ytnpghcikhpglkaa.Hand Go.Proofs.Ytnpghcikhpglkaa.Pu Go.Proofs.Ytnpghcikhpglkaa.Q
set_option linter.unusedVariables false
set_option linter.unusedSimpArgs false
theorem weight_some (l : List S27) (hl : (l.length : Int) < 9223372036854775807) (d : Nat) : ∀ (k : Nat) (x i : Int), 0 ≤ i → i + d = l.length → d < k → ∃ t, herbariumlaw0_BitsWeight.l0 k l x i = some t := by
  induction d with
  | zero =>
    intro k x i h0 hi hk
    obtain ⟨k, rfl⟩ : ∃ m, k = m + 1 := ⟨k - 1, by omega⟩
    simp only [herbariumlaw0_BitsWeight.l0]
    rw [if_neg (by omega)]
    exact ⟨_, rfl⟩
  | succ d ih =>
    intro k x i h0 hi hk
    obtain ⟨k, rfl⟩ : ∃ m, k = m + 1 := ⟨k - 1, by omega⟩
    simp only [herbariumlaw0_BitsWeight.l0]
    rw [if_pos (by omega)]
    split
    · rw [wrap_in (i + 1) (by omega) (by omega)]
      exact ih k _ (i + 1) (by omega) (by omega) (by omega)
    · exact ⟨_, rfl⟩
end Go.Proofs.Ytnpghcikhpglkaa.Pb
namespace Go.Proofs.Ytnpghcikhpglkaa.Pure
open Go.RowKit Go.Proofs.YtnpghcikhpglkaaW.PrintWords Go.Proofs.YtnpghcikhpglkaaW.PrintLast Go.Proofs.YtnpghcikhpglkaaW.PrintMore Go.Proofs.Ytnpghcikhpglkaa.Hand Go.Proofs.Ytnpghcikhpglkaa.Q Go.Proofs.Ytnpghcikhpglkaa.Pu Go.Proofs.Ytnpghcikhpglkaa.Pb
set_option linter.unusedVariables false
namespace Back
theorem wakes3 : herbariumlaw3_wakes.f 60 = some true := by decide +kernel
theorem pack3 : packS [0, 1, 0] = ⟨#[64]⟩ := by decide +kernel
theorem bits3 : IsBits [0, 1, 0] := fun x hx => by simp at hx; omega
def may15 : Bool := decide (GMay [1, 5])
theorem may15_ok : GMay [1, 5] := of_decide_eq_true (show may15 = true by decide +kernel)
theorem gnum_take (v : Int) (l : List Int) (m : Nat) (hm : m ≤ l.length) (c : Nat) (hc : c < m) : gnum v (l.take m) c = gnum v l c := by
  have hg : ∀ i, i < m → (l.take m).getD i 0 = l.getD i 0 := by
    intro i hi
    rw [List.getD_eq_getElem?_getD, List.getD_eq_getElem?_getD, List.getElem?_take_of_lt hi]
  unfold gnum
  by_cases h0 : c = 0
  · rw [if_pos h0, if_pos h0, hg 0 (by omega)]
  · rw [if_neg h0, if_neg h0, hg c hc, hg (c - 1) (by omega)]
theorem gpieces_take (v : Int) (l : List Int) (m : Nat) (hm : m ≤ l.length) : ∀ c, c ≤ m → gpieces v (l.take m) c = gpieces v l c
  | 0, _ => rfl
  | c + 1, h => by rw [gpieces, gpieces, gpieces_take v l m hm c (by omega), gnum_take v l m hm c (by omega)]
theorem gmay_take {l : List Int} (h : GMay l) (m : Nat) (hm : m ≤ l.length) : GMay (l.take m) := by
  have hl : (l.take m).length = m := by rw [List.length_take]; omega
  have hg : ∀ i, i < m → (l.take m).getD i 0 = l.getD i 0 := by
    intro i hi
    rw [List.getD_eq_getElem?_getD, List.getD_eq_getElem?_getD, List.getElem?_take_of_lt hi]
  refine ⟨fun i hi => ?_, fun i hi => ?_⟩
  · rw [hl] at hi; rw [hg i hi]; exact h.1 i (by omega)
  · rw [hl] at hi; rw [hg i (by omega), hg (i + 1) (by omega)]; exact h.2 i (by omega)
theorem less (v : Int) (l : List Int) (hl : GMay l) (m : Nat) (hm : m + 1 = l.length) : (gapsL v (l.take m)).length ≤ (gapsL v l).length := by
  have h16 := gmay_len hl
  have hlen : (l.take m).length = m := by rw [List.length_take]; omega
  have hp := gpieces_take v l m (by omega) m (Nat.le_refl _)
  have hg := gammaL_mono ((m : Int) + 1) ((l.length : Int) + 1) (by omega) (by omega) (by omega)
  unfold gapsL
  rw [hlen, List.length_append, List.length_append, hp, ← hm, gpieces, List.length_append]
  rw [← hm] at hg
  omega
set_option maxRecDepth 100000 in
theorem one (ls : List (List Int)) (i : Nat) (hi : i < ls.length) (hi2 : i < 100) (v : Int) (hv0 : 0 ≤ v) (hv : v < 16) (hll : ((rd_L7 ls (i : Int)).length : Int) < 9223372036854775807) (k : Nat) (hk : 100 ≤ k) :
    ∃ k', k ≤ k' ∧ herbariumlaw3_GapsBack.l1 (k + 1 + 1) ls (i : Int) v = herbariumlaw3_GapsBack.l1 k' ls (i : Int) (v + 3) := by
  generalize hL : rd_L7 ls (i : Int) = l at *
  have p1 := gput_eq [0, 1, 0] bits3 (by simp) v l hll
  rw [pack3] at p1
  have p1' : gaps_Put.f (⟨#[64]⟩ : ByteArray) 3 v l = _ := p1
  rw [herbariumlaw3_GapsBack.l1, if_pos hv, if_pos (by omega), if_pos (by omega), hL, p1', Option.bind_some]
  by_cases hg : GMay l
  · have hlen := gapsL_len hg hv0 hv
    have hlen2 := gapsL_len may15_ok (v := 0) (by omega) (by omega)
    have h16 := gmay_len hg
    have hb := gapsL_bits v l
    have hb1 : IsBits ([0, 1, 0] ++ gapsL v l) := IsBits.append bits3 hb
    have hl1 : ([0, 1, 0] ++ gapsL v l).length = 3 + (gapsL v l).length := by rw [List.length_append]; rfl
    have l3 : ([0, 1, 0] : List Int).length = 3 := rfl
    have p2 := gput_eq ([0, 1, 0] ++ gapsL v l) hb1 (by omega) 0 [1, 5] (by simp)
    rw [if_pos ⟨by omega, may15_ok⟩, if_pos (by omega)] at p2
    have p3 := gtake_whole [0, 1, 0] (gapsL 0 [1, 5]) bits3 (gapsL_bits 0 _) v l hg hv0 hv (by rw [List.length_append]; omega) (k + 1) (by omega)
    have p4 := gtake_whole ([0, 1, 0] ++ gapsL v l) [] hb1 IsBits.nil 0 [1, 5] may15_ok (by omega) (by omega) (by rw [List.append_nil, List.length_append]; omega) (k + 1) (by omega)
    rw [List.append_nil] at p4
    have p5 := gsize_eq v l hll
    rw [if_pos ⟨⟨hv0, hv⟩, hg⟩] at p5
    have p3' : gaps_Take.f (k + 1) (packS ([0, 1, 0] ++ gapsL v l ++ gapsL 0 [1, 5])) (([0, 1, 0] ++ gapsL v l ++ gapsL 0 [1, 5]).length : Int) 3 v = _ := p3
    refine ⟨k, Nat.le_refl _, ?_⟩
    rw [if_pos ⟨⟨hv0, hv⟩, hg⟩, if_pos (by rw [l3]; omega)]
    simp only [herbariumlaw3_num.f, Option.bind_some]
    rw [if_pos trivial, p2, Option.bind_some]
    simp only
    rw [p3', Option.bind_some]
    simp only
    rw [p4, Option.bind_some]
    simp only
    rw [p5, Option.bind_some]
    simp only [herbariumlaw3_num.f, Option.bind_some]
    have hz : wrap64 (wrap64 (wrap64 (0 + 0) + 0) + 0) = 0 := by unfold wrap64; omega
    have hne : (((gapsL v l).length : Int) != wrap64 ((([0, 1, 0] ++ gapsL v l).length : Int) - 3)) = false := by
      rw [hl1, wrap_in _ (by omega) (by omega)]
      simp only [bne_eq_false_iff_eq]; omega
    rw [if_pos hz, eqn_refl l (by omega) (k + 1) (by omega), Option.bind_some, if_pos rfl, if_pos trivial, eqn_refl [1, 5] (by simp) (k + 1) (by simp; omega), Option.bind_some, if_pos rfl, if_pos trivial, hne, herbariumlaw3_GapsBack.j2, if_neg (by decide), if_pos (by omega), if_pos (by omega), hL, wrap_in (v + 3) (by omega) (by omega)]
    by_cases h1 : (l.length : Int) > 1
    · have e1 : wrap64 ((l.length : Int) - 1) = ((l.length - 1 : Nat) : Int) := by rw [wrap_in _ (by omega) (by omega)]; omega
      have hle := less v l hg (l.length - 1) (by omega)
      have p6 := gsize_eq v (l.take (l.length - 1)) (by rw [List.length_take]; omega)
      rw [if_pos ⟨⟨hv0, hv⟩, gmay_take hg (l.length - 1) (by omega)⟩] at p6
      rw [if_pos h1, e1, if_pos (by omega), if_pos (by omega), Int.toNat_natCast, p6, Option.bind_some]
      simp only [herbariumlaw3_num.f, Option.bind_some]
      rw [if_pos trivial, if_neg (by omega)]
    · rw [if_neg h1]
  · refine ⟨k + 1, by omega, ?_⟩
    rw [if_neg (fun h => hg h.2)]
    simp only [herbariumlaw3_num.f, Option.bind_some]
    rw [if_neg (by decide), wrap_in (v + 3) (by omega) (by omega)]
theorem row (ls : List (List Int)) (i : Nat) (hi : i < ls.length) (hi2 : i < 100) (hll : ((rd_L7 ls (i : Int)).length : Int) < 9223372036854775807) (K : Nat) (hK : 100 ≤ K) (hnext : ∀ k, K ≤ k → herbariumlaw3_GapsBack.l0 k ls ((i : Int) + 1) = some true) :
    ∀ (d : Nat) (v : Int), 0 ≤ v → v + 3 * d ≥ 16 → v < 1000 → ∀ k, K + 2 * d + 1 ≤ k → herbariumlaw3_GapsBack.l1 k ls (i : Int) v = some true
  | 0, v, h0, hd, hv, k, hk => by
    obtain ⟨k, rfl⟩ : ∃ m, k = m + 1 := ⟨k - 1, by omega⟩
    rw [herbariumlaw3_GapsBack.l1, if_neg (by omega), wrap_in ((i : Int) + 1) (by omega) (by omega)]
    exact hnext k (by omega)
  | d + 1, v, h0, hd, hv, k, hk => by
    by_cases h : v < 16
    · obtain ⟨k, rfl⟩ : ∃ m, k = m + 1 + 1 := ⟨k - 2, by omega⟩
      obtain ⟨k', hk', e⟩ := one ls i hi hi2 v h0 h hll k (by omega)
      rw [e]
      exact row ls i hi hi2 hll K hK hnext d (v + 3) (by omega) (by omega) (by omega) k' (by omega)
    · obtain ⟨k, rfl⟩ : ∃ m, k = m + 1 := ⟨k - 1, by omega⟩
      rw [herbariumlaw3_GapsBack.l1, if_neg (by omega), wrap_in ((i : Int) + 1) (by omega) (by omega)]
      exact hnext k (by omega)
theorem all (ls : List (List Int)) (hlen : ls.length ≤ 9) (hll : ∀ i : Nat, i < ls.length → ((rd_L7 ls (i : Int)).length : Int) < 9223372036854775807) : ∀ (d i : Nat), i + d = ls.length → ∀ k, 200 + 20 * d ≤ k → herbariumlaw3_GapsBack.l0 k ls (i : Int) = some true
  | 0, i, hi, k, hk => by
    obtain ⟨k, rfl⟩ : ∃ m, k = m + 1 := ⟨k - 1, by omega⟩
    rw [herbariumlaw3_GapsBack.l0, if_neg (by omega), at_rounds herbariumlaw3_wakes.mono (show 60 ≤ k by omega) wakes3]
    rfl
  | d + 1, i, hi, k, hk => by
    obtain ⟨k, rfl⟩ : ∃ m, k = m + 1 := ⟨k - 1, by omega⟩
    rw [herbariumlaw3_GapsBack.l0, if_pos (by omega)]
    exact row ls i (by omega) (by omega) (hll i (by omega)) (200 + 20 * d) (by omega) (fun k hk => all ls hlen hll d (i + 1) (by omega) k hk) 6 0 (by omega) (by omega) (by omega) k (by omega)
/-- More than is played, or not: told in any case. -/
theorem lists_some (l : List (List Int)) (hl : (l.length : Int) < 9223372036854775807) : ∀ (d : Nat) (k : Nat) (x i : Int), 0 ≤ i → i + d = l.length → d < k → ∃ t, herbariumlaw0_Lists.l0 k l x i = some t
  | 0, k, x, i, h0, hi, hk => by
    obtain ⟨k, rfl⟩ : ∃ m, k = m + 1 := ⟨k - 1, by omega⟩
    rw [herbariumlaw0_Lists.l0, if_neg (by omega)]
    exact ⟨_, rfl⟩
  | d + 1, k, x, i, h0, hi, hk => by
    obtain ⟨k, rfl⟩ : ∃ m, k = m + 1 := ⟨k - 1, by omega⟩
    rw [herbariumlaw0_Lists.l0, if_pos (by omega)]
    split
    · rw [wrap_in (i + 1) (by omega) (by omega)]
      exact lists_some l hl d k _ (i + 1) (by omega) (by omega) (by omega)
    · exact ⟨_, rfl⟩
theorem heavy3_some (l0 : List (List Int)) (l1 : List S27) (l2 : List Int) (h0 : (l0.length : Int) < 9223372036854775807) (h1 : (l1.length : Int) < 9223372036854775807) (k : Nat) (hk : l0.length < k) (hk1 : l1.length < k) : ∃ b, herbariumlaw3_Heavy.f k l0 l1 l2 = some b := by
  unfold herbariumlaw3_Heavy.f herbariumlaw0_Lists.f herbariumlaw0_BitsWeight.f
  obtain ⟨t, ht⟩ := lists_some l0 h0 l0.length k (l0.length : Int) 0 (by omega) (by omega) hk
  obtain ⟨u, hu⟩ := weight_some l1 h1 l1.length k (l1.length : Int) 0 (by omega) (by omega) hk1
  rw [ht, Option.bind_some, hu, Option.bind_some]
  exact ⟨_, rfl⟩
/-- The lists that are played. -/
theorem lists_eq (l0 : List (List Int)) (l1 : List S27) (l2 : List Int) (h0 : l0.length * 24 ≤ 140737488351232) : ∃ ls, herbariumlaw3_Lists.f l0 l1 l2 = some ls ∧ ls.length ≤ 9 ∧ ∀ z ∈ ls, z.length ≤ 4 ∨ z ∈ l0 := by
  unfold herbariumlaw3_Lists.f
  rw [Option.bind_some, if_pos (by simp; omega), Option.bind_some]
  have hm : ∀ z ∈ (([[], [0], [2, 3, 4, 9], [15]] : List (List Int)) ++ l0), z.length ≤ 4 ∨ z ∈ l0 := by
    intro z hz
    rcases List.mem_append.1 hz with h | h
    · left
      simp only [List.mem_cons, List.not_mem_nil, or_false] at h
      rcases h with rfl | rfl | rfl | rfl <;> simp
    · exact .inr h
  split
  · rename_i h9
    rw [if_pos (by omega)]
    exact ⟨_, rfl, by rw [List.length_take]; omega, fun z hz => hm z (List.mem_of_mem_take hz)⟩
  · rename_i h9
    exact ⟨_, rfl, by omega, hm⟩
end Back
theorem GapsBack : ∀ (l0 : List (List Int)) (l1 : List S27) (l2 : List Int), Op.GoodI l0 → Op.GoodB l1 → Op.GoodN l2 → ∃ k, Q.herbariumlaw3_GapsBack.f k l0 l1 l2 = some true := by
  intro l0 l1 l2 g0 g1 _
  have hr0 := g0.1
  have hr1 := g1.1
  unfold reachBytes at hr0 hr1
  obtain ⟨k, hk⟩ : ∃ k : Nat, 1000 + l0.length + l1.length ≤ k := ⟨_, Nat.le_refl _⟩
  refine ⟨k, ?_⟩
  unfold herbariumlaw3_GapsBack.f
  obtain ⟨b, hb⟩ := Back.heavy3_some l0 l1 l2 (by omega) (by omega) k (by omega) (by omega)
  rw [hb, Option.bind_some]
  cases b with
  | true => rfl
  | false =>
    obtain ⟨ls, e, hl9, hm⟩ := Back.lists_eq l0 l1 l2 (by omega)
    rw [if_neg (by decide), e, Option.bind_some]
    refine Back.all ls hl9 (fun i hi => ?_) ls.length 0 (by omega) k (by omega)
    have hrd : rd_L7 ls (i : Int) ∈ ls := by
      unfold rd_L7
      rw [Int.toNat_natCast, List.getD_eq_getElem?_getD, List.getElem?_eq_getElem hi]
      exact List.getElem_mem hi
    rcases hm _ hrd with h | h
    · omega
    · have := (g0.2 _ h).1
      unfold reachBytes at this
      omega
end Go.Proofs.Ytnpghcikhpglkaa.Pure
