/- bits.Cat: what it answers, by the row's walk. -/
import Derived.Test.YtnpghcikhpglkaaHc
namespace Go.Proofs.Ytnpghcikhpglkaa.Q
open Go.RowKit Go.Proofs.YtnpghcikhpglkaaW.PrintWords Go.Proofs.YtnpghcikhpglkaaW.PrintLast Go.Proofs.YtnpghcikhpglkaaW.PrintMore Go.Proofs.Ytnpghcikhpglkaa.Hand Go.Proofs.Ytnpghcikhpglkaa.Pu
set_option linter.unusedVariables false
set_option linter.unusedSimpArgs false

set_option maxHeartbeats 4000000 in
set_option maxRecDepth 100000 in
theorem cat_no1 (s : ByteArray) (n : Int) (s2 : ByteArray) (n2 : Int) (w : World) (hm : ¬ MayP s n) :
    Calls Try.prog 43 #[.agg #[.string s, .int .i64 n], .agg #[.string s2, .int .i64 n2]] w fun e w' => e = .returned (.tuple #[.agg #[.string ⟨#[]⟩, .int .i64 0], .int .i64 1]) ∧ Below w.heap.size w w' := by
  have hu := Try.underlying27
  have A := Aside0.mk (show bits_May.f s n = some false by rw [may_eq, decide_eq_false hm])
  have HS := Aside0.mk (start3 w (.cells #[.string s, .int .i64 n] 27) (.cells #[.string s2, .int .i64 n2] 27) (.cells #[.string ⟨#[]⟩, .int .i64 0] 27))
  clear hm
  go_enter Try.func43, Try.ntmps43
  go_wp2_with (first | ((with_reducible refine gate_callee (f := 86) rfl ?_); refine goesL_ (some 9) rfl rfl Try.func86 (by kernel_rfl) rfl #[.agg #[.string s, .int .i64 n]] rfl (by (try simp only [List.map_toArray, List.map_cons, List.map_nil]); first | done | rfl) ?_; (with_reducible refine (bits_May.calls s n false _ A.out).mono ?_); rintro e w1 ⟨rfl, hb⟩; refine ⟨_, rfl, ?_⟩; have HA := Aside0.mk (keep2 HS.out.2.1 hb (by have := HS.out.2.2.2.2; omega)); have HR := Aside0.mk (keep2 HS.out.2.2.1 hb (by have := HS.out.2.2.2.2; omega)); obtain ⟨a0, a1, g0, g1⟩ := two_cells HA.out; obtain ⟨c0, c1, f0, f1⟩ := two_cells HR.out; have HB := Aside0.mk (below_then HS.out.2.2.2.1 HS.out.2.2.2.1.size hb); have HA1 := Aside0.mk (keep2 HS.out.1 hb (by have := HS.out.2.2.2.2; omega)); obtain ⟨x0, x1, y0, y1⟩ := two_cells HA1.out; clear hb))
  refine bodyPost_ret (results_list (rs := [.cell 4 27, .tmp 5]) rfl (by simp) (.cell (w.heap.size + 2) 27 #[.string ⟨#[]⟩, .int .i64 0] (0, 0) _ rfl (put2 HR.out) Try.underlying27 rfl (by kernel_rfl) (.tmp .nil))) rfl ⟨rfl, below_put2 HB.out (by omega) _ _⟩
set_option maxHeartbeats 4000000 in
set_option maxRecDepth 100000 in
theorem cat_no2 (s : ByteArray) (n : Int) (s2 : ByteArray) (n2 : Int) (w : World) (hm : MayP s n) (hm2 : ¬ MayP s2 n2) :
    Calls Try.prog 43 #[.agg #[.string s, .int .i64 n], .agg #[.string s2, .int .i64 n2]] w fun e w' => e = .returned (.tuple #[.agg #[.string ⟨#[]⟩, .int .i64 0], .int .i64 1]) ∧ Below w.heap.size w w' := by
  have hu := Try.underlying27
  have A := Aside0.mk (show bits_May.f s n = some true by rw [may_eq, decide_eq_true hm])
  have A2 := Aside0.mk (show bits_May.f s2 n2 = some false by rw [may_eq, decide_eq_false hm2])
  have HS := Aside0.mk (start3 w (.cells #[.string s, .int .i64 n] 27) (.cells #[.string s2, .int .i64 n2] 27) (.cells #[.string ⟨#[]⟩, .int .i64 0] 27))
  clear hm hm2
  go_enter Try.func43, Try.ntmps43
  go_wp2_with (first | ((with_reducible refine gate_callee (f := 86) rfl ?_); refine goesL_ (some 9) rfl rfl Try.func86 (by kernel_rfl) rfl #[.agg #[.string s, .int .i64 n]] rfl (by (try simp only [List.map_toArray, List.map_cons, List.map_nil]); first | done | rfl) ?_; (with_reducible refine (bits_May.calls s n true _ A.out).mono ?_); rintro e w1 ⟨rfl, hb⟩; refine ⟨_, rfl, ?_⟩; have HA := Aside0.mk (keep2 HS.out.2.1 hb (by have := HS.out.2.2.2.2; omega)); have HR := Aside0.mk (keep2 HS.out.2.2.1 hb (by have := HS.out.2.2.2.2; omega)); obtain ⟨a0, a1, g0, g1⟩ := two_cells HA.out; obtain ⟨c0, c1, f0, f1⟩ := two_cells HR.out; have HB := Aside0.mk (below_then HS.out.2.2.2.1 HS.out.2.2.2.1.size hb); have HA1 := Aside0.mk (keep2 HS.out.1 hb (by have := HS.out.2.2.2.2; omega)); obtain ⟨x0, x1, y0, y1⟩ := two_cells HA1.out; clear hb))
  go_wp2_with (first | (go_at_call 86; ((with_reducible refine (bits_May.calls s2 n2 false _ A2.out).mono ?_); rintro e w2 ⟨rfl, hb⟩); have HGG := Aside0.mk (Nat.lt_of_lt_of_le (blk_lt HR.out) hb.size); have HAA := Aside0.mk (keep2 HA.out hb (blk_lt HA.out)); have HRR := Aside0.mk (keep2 HR.out hb (blk_lt HR.out)); have HA11 := Aside0.mk (keep2 HA1.out hb (blk_lt HA1.out)); clear HA HR HA1 x0 x1 y0 y1 a0 a1 g0 g1 c0 c1 f0 f1; have HA := HAA; have HR := HRR; have HA1 := HA11; clear HAA HRR HA11; obtain ⟨a0, a1, g0, g1⟩ := two_cells HA.out; obtain ⟨c0, c1, f0, f1⟩ := two_cells HR.out; obtain ⟨x0, x1, y0, y1⟩ := two_cells HA1.out; have HBB := Aside0.mk (below_then HB.out HB.out.size hb); clear HB; have HB := HBB; clear HBB; clear hb))
  refine bodyPost_ret (results_list (rs := [.cell 4 27, .tmp 5]) rfl (by simp) (.cell (w.heap.size + 2) 27 #[.string ⟨#[]⟩, .int .i64 0] (0, 0) _ rfl (put2 HR.out) Try.underlying27 rfl (by kernel_rfl) (.tmp .nil))) rfl ⟨rfl, below_put2 HB.out (by omega) _ _⟩
set_option maxHeartbeats 4000000 in
set_option maxRecDepth 100000 in
theorem cat_yes (s : ByteArray) (n : Int) (s2 : ByteArray) (n2 : Int) (w : World) (hm : MayP s n) (hm2 : MayP s2 n2) (hn : n + n2 ≤ 6000) :
    Calls Try.prog 43 #[.agg #[.string s, .int .i64 n], .agg #[.string s2, .int .i64 n2]] w fun e w' => e = .returned (.tuple #[.agg #[.string (strOfNums (rowSeq s2 n2.toNat 0 (bytesI s, n)).1), .int .i64 (rowSeq s2 n2.toNat 0 (bytesI s, n)).2], .int .i64 0]) ∧ Below w.heap.size w w' := by
  have hu := Try.underlying27
  have A := Aside0.mk (show bits_May.f s n = some true by rw [may_eq, decide_eq_true hm])
  have A2 := Aside0.mk (show bits_May.f s2 n2 = some true by rw [may_eq, decide_eq_true hm2])
  have HS := Aside0.mk (start3 w (.cells #[.string s, .int .i64 n] 27) (.cells #[.string s2, .int .i64 n2] 27) (.cells #[.string ⟨#[]⟩, .int .i64 0] 27))
  have hsz : s.size ≤ 1073741824 := by have := hm.2.2.1; have := hm.2.1; omega
  have hn0 : 0 ≤ n := hm.1
  have hn6 : n ≤ 6000 := hm.2.1
  have hk0 : 0 ≤ n2 := hm2.1
  have hk6 : n2 ≤ 6000 := hm2.2.1
  have HSZ := Aside0.mk hm.2.2.1
  have HSZ2 := Aside0.mk hm2.2.2.1
  have HLE := Aside0.mk hn
  clear hm hm2 hn
  go_enter Try.func43, Try.ntmps43
  go_wp2_with (first | ((with_reducible refine gate_callee (f := 86) rfl ?_); refine goesL_ (some 9) rfl rfl Try.func86 (by kernel_rfl) rfl #[.agg #[.string s, .int .i64 n]] rfl (by (try simp only [List.map_toArray, List.map_cons, List.map_nil]); first | done | rfl) ?_; (with_reducible refine (bits_May.calls s n true _ A.out).mono ?_); rintro e w1 ⟨rfl, hb⟩; refine ⟨_, rfl, ?_⟩; have HA := Aside0.mk (keep2 HS.out.2.1 hb (by have := HS.out.2.2.2.2; omega)); have HR := Aside0.mk (keep2 HS.out.2.2.1 hb (by have := HS.out.2.2.2.2; omega)); obtain ⟨a0, a1, g0, g1⟩ := two_cells HA.out; obtain ⟨c0, c1, f0, f1⟩ := two_cells HR.out; have HB := Aside0.mk (below_then HS.out.2.2.2.1 HS.out.2.2.2.1.size hb); have HA1 := Aside0.mk (keep2 HS.out.1 hb (by have := HS.out.2.2.2.2; omega)); obtain ⟨x0, x1, y0, y1⟩ := two_cells HA1.out; clear hb))
  go_wp2_with (first | (go_at_call 86; ((with_reducible refine (bits_May.calls s2 n2 true _ A2.out).mono ?_); rintro e w2 ⟨rfl, hb⟩); have HGG := Aside0.mk (Nat.lt_of_lt_of_le (blk_lt HR.out) hb.size); have HAA := Aside0.mk (keep2 HA.out hb (blk_lt HA.out)); have HRR := Aside0.mk (keep2 HR.out hb (blk_lt HR.out)); have HA11 := Aside0.mk (keep2 HA1.out hb (blk_lt HA1.out)); clear HA HR HA1 x0 x1 y0 y1 a0 a1 g0 g1 c0 c1 f0 f1; have HA := HAA; have HR := HRR; have HA1 := HA11; clear HAA HRR HA11; obtain ⟨a0, a1, g0, g1⟩ := two_cells HA.out; obtain ⟨c0, c1, f0, f1⟩ := two_cells HR.out; obtain ⟨x0, x1, y0, y1⟩ := two_cells HA1.out; have HBB := Aside0.mk (below_then HB.out HB.out.size hb); clear HB; have HB := HBB; clear HBB; clear hb) | (go_at_call 88; ((with_reducible refine (from_ _ s n hsz).mono ?_); rintro e w3 ⟨p, rfl, hrow, hb3⟩); have HROW := Aside0.mk hrow; have HB3 := Aside0.mk hb3; have HAA := Aside0.mk (keep2 HA.out hb3 (blk_lt HA.out)); have HRR := Aside0.mk (keep2 HR.out hb3 (blk_lt HR.out)); clear HA HR a0 a1 g0 g1 c0 c1 f0 f1 HA1 x0 x1 y0 y1; have HA := HAA; have HR := HRR; clear HAA HRR; obtain ⟨a0, a1, g0, g1⟩ := two_cells HA.out; obtain ⟨c0, c1, f0, f1⟩ := two_cells HR.out; have HBB := Aside0.mk (below_then HB.out HB.out.size hb3); clear HB; have HB := HBB; clear HBB; clear hrow hb3))
  have HG2 := Aside0.mk (HGG.out)
  have HG1 := Aside0.mk (Nat.lt_of_succ_lt HGG.out)
  go_loopw [21] (fun i wr => ∃ (c : Nat) (st : List Int × Int), i = .int .i64 c ∧ Aside0 (rowSeq s2 (n2.toNat - c) c st = rowSeq s2 n2.toNat 0 (bytesI s, n)) ∧ Aside0 (RowIs wr w2.heap.size p st.1 st.2) ∧ Aside0 (st.2 = n + c) ∧ Aside0 ((st.1.length : Int) = (st.2 + 7) / 8) ∧ c ≤ n2.toNat ∧ Aside0 (wr.heap[w.heap.size + 1]? = some (.cells #[.string s2, .int .i64 n2] 27 (0, 0))) ∧ Aside0 (wr.heap[w.heap.size + 2]? = some (.cells #[.string ⟨#[]⟩, .int .i64 0] 27 (0, 0))) ∧ Aside0 (Below w.heap.size w wr) ∧ Aside0 (w3.heap.size ≤ wr.heap.size))
    (fun i wr => (n2 - intOf i).toNat)
  case atStart => exact ⟨0, (bytesI s, n), rfl, ⟨by simp⟩, ⟨HROW.out⟩, ⟨by simp⟩, ⟨by rw [bytesI_length]; exact HSZ.out⟩, Nat.zero_le _, ⟨HA.out⟩, ⟨HR.out⟩, ⟨HB.out⟩, ⟨Nat.le_refl _⟩⟩
  case round =>
    clear HA HR a0 a1 g0 g1 c0 c1 f0 f1 HB HROW
    obtain ⟨c, ⟨bs, m⟩, rfl, HSEQ, HROW, HM, HLEN, hc, HA, HR, HB, HWR⟩ := hrel
    have hm : Aside0 (m = n + c) := HM
    obtain ⟨a0, a1, g0, g1⟩ := two_cells HA.out
    obtain ⟨c0, c1, f0, f1⟩ := two_cells HR.out
    by_cases hlt : (c : Int) < n2
    · have HBIT := Aside0.mk (bit_some s2 n2 c (by omega) (by have := HSZ2.out; omega) (by omega))
      go_wp2_with (first | (go_at_call 100; ((with_reducible refine (bits_bit.calls s2 n2 c (bitOf s2 c) _ HBIT.out).mono ?_); rintro e w4 ⟨rfl, hb3⟩); have HROW2 := Aside0.mk (HROW.out.below hb3); have HBB := Aside0.mk hb3; clear hb3) | (go_at_call 89; ((with_reducible refine (row_put1 _ w2.heap.size p bs m (bitOf s2 c) HROW2.out ?e1 ?e2 ?e3 ?e4).mono ?_); (case e1 => rw [hm.out]; omega); (case e2 => exact HLEN.out); (case e3 => rw [hm.out]; omega); (case e4 => exact Nat.le_trans (Nat.le_trans HB3.out.size HWR.out) HBB.out.size); rintro e w5 ⟨rfl, hrow3, hb3⟩); have HROW3 := Aside0.mk hrow3; have HB4 := Aside0.mk hb3; clear hrow3 hb3))
      go_roundw
      case rel =>
        refine ⟨c + 1, rowPut 1 (bs, m) (bitOf s2 c), by go_num, ⟨?_⟩, ⟨HROW3.out⟩, ⟨?_⟩, ⟨rowPut1_len (bs, m) _ (by rw [hm.out]; omega) HLEN.out⟩, by omega, ⟨keep2 (keep2 HA.out HBB.out (blk_lt HA.out)) HB4.out (by have := HG1.out; omega)⟩, ⟨keep2 (keep2 HR.out HBB.out (blk_lt HR.out)) HB4.out (by have := HG2.out; omega)⟩, ⟨(HB.out.trans (HBB.out.mono HB.out.size)).trans (HB4.out.mono (by have := HG1.out; omega))⟩, ⟨Nat.le_trans HWR.out (Nat.le_trans HBB.out.size HB4.out.size)⟩⟩
        · rw [← HSEQ.out, show n2.toNat - c = (n2.toNat - (c + 1)) + 1 by omega, rowSeq, show ((c + 1 : Nat) : Int) = (c : Int) + 1 by omega]
        · rw [rowPut_snd, hm.out]; simp only []; omega
      case measure => simp [intOf]; omega
    · have hcc : c = n2.toNat := by omega
      have HE : Aside0 ((bs, m) = rowSeq s2 n2.toNat 0 (bytesI s, n)) := ⟨by
        have := HSEQ.out
        rw [hcc, Nat.sub_self, rowSeq] at this
        exact this⟩
      have HM6 : Aside0 (m ≤ 6000) := ⟨by have := hm.out; have := HLE.out; omega⟩
      clear hcc
      go_wp2_with (first | (go_at_call 90; ((with_reducible refine (row_bits_yes _ _ p bs m HROW.out HM6.out).mono ?_); rintro e w4 ⟨rfl, hb4⟩); have HR4 := Aside0.mk (keep2 HR.out hb4 (blk_lt HR.out)); have HB4 := Aside0.mk (below_then HB.out HB.out.size hb4); clear HR c0 c1 f0 f1; obtain ⟨c0, c1, f0, f1⟩ := two_cells HR4.out; clear hb4))
      refine bodyPost_ret (results_list (rs := [.cell 4 27, .tmp 5]) rfl (by simp) (.cell (w.heap.size + 2) 27 #[.string (strOfNums bs), .int .i64 m] (0, 0) _ rfl (put2 HR4.out) Try.underlying27 rfl (by kernel_rfl) (.tmp .nil))) rfl ⟨by rw [← HE.out] <;> rfl, below_put2 HB4.out (by omega) _ _⟩
set_option maxHeartbeats 4000000 in
set_option maxRecDepth 100000 in
theorem cat_full (s : ByteArray) (n : Int) (s2 : ByteArray) (n2 : Int) (w : World) (hm : MayP s n) (hm2 : MayP s2 n2) (hn : 6000 < n + n2) :
    Calls Try.prog 43 #[.agg #[.string s, .int .i64 n], .agg #[.string s2, .int .i64 n2]] w fun e w' => e = .returned (.tuple #[.agg #[.string ⟨#[]⟩, .int .i64 0], .int .i64 2]) ∧ Below w.heap.size w w' := by
  have hu := Try.underlying27
  have A := Aside0.mk (show bits_May.f s n = some true by rw [may_eq, decide_eq_true hm])
  have A2 := Aside0.mk (show bits_May.f s2 n2 = some true by rw [may_eq, decide_eq_true hm2])
  have HS := Aside0.mk (start3 w (.cells #[.string s, .int .i64 n] 27) (.cells #[.string s2, .int .i64 n2] 27) (.cells #[.string ⟨#[]⟩, .int .i64 0] 27))
  have hsz : s.size ≤ 1073741824 := by have := hm.2.2.1; have := hm.2.1; omega
  have hn0 : 0 ≤ n := hm.1
  have hn6 : n ≤ 6000 := hm.2.1
  have hk0 : 0 ≤ n2 := hm2.1
  have hk6 : n2 ≤ 6000 := hm2.2.1
  have HSZ := Aside0.mk hm.2.2.1
  have HSZ2 := Aside0.mk hm2.2.2.1
  have HLE := Aside0.mk hn
  clear hm hm2 hn
  go_enter Try.func43, Try.ntmps43
  go_wp2_with (first | ((with_reducible refine gate_callee (f := 86) rfl ?_); refine goesL_ (some 9) rfl rfl Try.func86 (by kernel_rfl) rfl #[.agg #[.string s, .int .i64 n]] rfl (by (try simp only [List.map_toArray, List.map_cons, List.map_nil]); first | done | rfl) ?_; (with_reducible refine (bits_May.calls s n true _ A.out).mono ?_); rintro e w1 ⟨rfl, hb⟩; refine ⟨_, rfl, ?_⟩; have HA := Aside0.mk (keep2 HS.out.2.1 hb (by have := HS.out.2.2.2.2; omega)); have HR := Aside0.mk (keep2 HS.out.2.2.1 hb (by have := HS.out.2.2.2.2; omega)); obtain ⟨a0, a1, g0, g1⟩ := two_cells HA.out; obtain ⟨c0, c1, f0, f1⟩ := two_cells HR.out; have HB := Aside0.mk (below_then HS.out.2.2.2.1 HS.out.2.2.2.1.size hb); have HA1 := Aside0.mk (keep2 HS.out.1 hb (by have := HS.out.2.2.2.2; omega)); obtain ⟨x0, x1, y0, y1⟩ := two_cells HA1.out; clear hb))
  go_wp2_with (first | (go_at_call 86; ((with_reducible refine (bits_May.calls s2 n2 true _ A2.out).mono ?_); rintro e w2 ⟨rfl, hb⟩); have HGG := Aside0.mk (Nat.lt_of_lt_of_le (blk_lt HR.out) hb.size); have HAA := Aside0.mk (keep2 HA.out hb (blk_lt HA.out)); have HRR := Aside0.mk (keep2 HR.out hb (blk_lt HR.out)); have HA11 := Aside0.mk (keep2 HA1.out hb (blk_lt HA1.out)); clear HA HR HA1 x0 x1 y0 y1 a0 a1 g0 g1 c0 c1 f0 f1; have HA := HAA; have HR := HRR; have HA1 := HA11; clear HAA HRR HA11; obtain ⟨a0, a1, g0, g1⟩ := two_cells HA.out; obtain ⟨c0, c1, f0, f1⟩ := two_cells HR.out; obtain ⟨x0, x1, y0, y1⟩ := two_cells HA1.out; have HBB := Aside0.mk (below_then HB.out HB.out.size hb); clear HB; have HB := HBB; clear HBB; clear hb) | (go_at_call 88; ((with_reducible refine (from_ _ s n hsz).mono ?_); rintro e w3 ⟨p, rfl, hrow, hb3⟩); have HROW := Aside0.mk hrow; have HB3 := Aside0.mk hb3; have HAA := Aside0.mk (keep2 HA.out hb3 (blk_lt HA.out)); have HRR := Aside0.mk (keep2 HR.out hb3 (blk_lt HR.out)); clear HA HR a0 a1 g0 g1 c0 c1 f0 f1 HA1 x0 x1 y0 y1; have HA := HAA; have HR := HRR; clear HAA HRR; obtain ⟨a0, a1, g0, g1⟩ := two_cells HA.out; obtain ⟨c0, c1, f0, f1⟩ := two_cells HR.out; have HBB := Aside0.mk (below_then HB.out HB.out.size hb3); clear HB; have HB := HBB; clear HBB; clear hrow hb3))
  have HG2 := Aside0.mk (HGG.out)
  have HG1 := Aside0.mk (Nat.lt_of_succ_lt HGG.out)
  go_loopw [21] (fun i wr => ∃ (c : Nat) (st : List Int × Int), i = .int .i64 c ∧ Aside0 (rowSeq s2 (n2.toNat - c) c st = rowSeq s2 n2.toNat 0 (bytesI s, n)) ∧ Aside0 (RowIs wr w2.heap.size p st.1 st.2) ∧ Aside0 (st.2 = n + c) ∧ Aside0 ((st.1.length : Int) = (st.2 + 7) / 8) ∧ c ≤ n2.toNat ∧ Aside0 (wr.heap[w.heap.size + 1]? = some (.cells #[.string s2, .int .i64 n2] 27 (0, 0))) ∧ Aside0 (wr.heap[w.heap.size + 2]? = some (.cells #[.string ⟨#[]⟩, .int .i64 0] 27 (0, 0))) ∧ Aside0 (Below w.heap.size w wr) ∧ Aside0 (w3.heap.size ≤ wr.heap.size))
    (fun i wr => (n2 - intOf i).toNat)
  case atStart => exact ⟨0, (bytesI s, n), rfl, ⟨by simp⟩, ⟨HROW.out⟩, ⟨by simp⟩, ⟨by rw [bytesI_length]; exact HSZ.out⟩, Nat.zero_le _, ⟨HA.out⟩, ⟨HR.out⟩, ⟨HB.out⟩, ⟨Nat.le_refl _⟩⟩
  case round =>
    clear HA HR a0 a1 g0 g1 c0 c1 f0 f1 HB HROW
    obtain ⟨c, ⟨bs, m⟩, rfl, HSEQ, HROW, HM, HLEN, hc, HA, HR, HB, HWR⟩ := hrel
    have hm : Aside0 (m = n + c) := HM
    obtain ⟨a0, a1, g0, g1⟩ := two_cells HA.out
    obtain ⟨c0, c1, f0, f1⟩ := two_cells HR.out
    by_cases hlt : (c : Int) < n2
    · have HBIT := Aside0.mk (bit_some s2 n2 c (by omega) (by have := HSZ2.out; omega) (by omega))
      go_wp2_with (first | (go_at_call 100; ((with_reducible refine (bits_bit.calls s2 n2 c (bitOf s2 c) _ HBIT.out).mono ?_); rintro e w4 ⟨rfl, hb3⟩); have HROW2 := Aside0.mk (HROW.out.below hb3); have HBB := Aside0.mk hb3; clear hb3) | (go_at_call 89; ((with_reducible refine (row_put1 _ w2.heap.size p bs m (bitOf s2 c) HROW2.out ?e1 ?e2 ?e3 ?e4).mono ?_); (case e1 => rw [hm.out]; omega); (case e2 => exact HLEN.out); (case e3 => rw [hm.out]; omega); (case e4 => exact Nat.le_trans (Nat.le_trans HB3.out.size HWR.out) HBB.out.size); rintro e w5 ⟨rfl, hrow3, hb3⟩); have HROW3 := Aside0.mk hrow3; have HB4 := Aside0.mk hb3; clear hrow3 hb3))
      go_roundw
      case rel =>
        refine ⟨c + 1, rowPut 1 (bs, m) (bitOf s2 c), by go_num, ⟨?_⟩, ⟨HROW3.out⟩, ⟨?_⟩, ⟨rowPut1_len (bs, m) _ (by rw [hm.out]; omega) HLEN.out⟩, by omega, ⟨keep2 (keep2 HA.out HBB.out (blk_lt HA.out)) HB4.out (by have := HG1.out; omega)⟩, ⟨keep2 (keep2 HR.out HBB.out (blk_lt HR.out)) HB4.out (by have := HG2.out; omega)⟩, ⟨(HB.out.trans (HBB.out.mono HB.out.size)).trans (HB4.out.mono (by have := HG1.out; omega))⟩, ⟨Nat.le_trans HWR.out (Nat.le_trans HBB.out.size HB4.out.size)⟩⟩
        · rw [← HSEQ.out, show n2.toNat - c = (n2.toNat - (c + 1)) + 1 by omega, rowSeq, show ((c + 1 : Nat) : Int) = (c : Int) + 1 by omega]
        · rw [rowPut_snd, hm.out]; simp only []; omega
      case measure => simp [intOf]; omega
    · have hcc : c = n2.toNat := by omega
      have HE : Aside0 ((bs, m) = rowSeq s2 n2.toNat 0 (bytesI s, n)) := ⟨by
        have := HSEQ.out
        rw [hcc, Nat.sub_self, rowSeq] at this
        exact this⟩
      have HM6 : Aside0 (6000 < m) := ⟨by have := hm.out; have := HLE.out; omega⟩
      clear hcc
      go_wp2_with (first | (go_at_call 90; ((with_reducible refine (row_bits_no _ _ p bs m HROW.out HM6.out).mono ?_); rintro e w4 ⟨rfl, hb4⟩); have HR4 := Aside0.mk (keep2 HR.out hb4 (blk_lt HR.out)); have HB4 := Aside0.mk (below_then HB.out HB.out.size hb4); clear HR c0 c1 f0 f1; obtain ⟨c0, c1, f0, f1⟩ := two_cells HR4.out; clear hb4))
      refine bodyPost_ret (results_list (rs := [.cell 4 27, .tmp 5]) rfl (by simp) (.cell (w.heap.size + 2) 27 #[.string ⟨#[]⟩, .int .i64 0] (0, 0) _ rfl (put2 HR4.out) Try.underlying27 rfl (by kernel_rfl) (.tmp .nil))) rfl ⟨rfl, below_put2 HB4.out (by omega) _ _⟩

/-- bits.Cat. -/
def bits_Cat.f (s : ByteArray) (n : Int) (s2 : ByteArray) (n2 : Int) : Option (ByteArray × Int × Int) :=
  if MayP s n ∧ MayP s2 n2 then (if n + n2 ≤ 6000 then some (packS (ofS s n ++ ofS s2 n2), n + n2, 0) else some (⟨#[]⟩, 0, 2)) else some (⟨#[]⟩, 0, 1)
theorem partK_ofS (s : ByteArray) (k : Nat) : ∀ i : Nat, partK s k (i : Int) = (List.range k).map fun j : Nat => bitOf s ((i + j : Nat) : Int) := by
  induction k with
  | zero => intro i; rfl
  | succ k ih =>
    intro i
    have h := ih (i + 1)
    rw [show (((i + 1 : Nat)) : Int) = (i : Int) + 1 by omega] at h
    rw [partK, List.range_succ_eq_map, List.map_cons, List.map_map, h]
    congr 1
    refine List.map_congr_left fun j _ => ?_
    simp only [Function.comp]
    congr 1
    omega
theorem partK_all (s : ByteArray) (n : Int) : partK s n.toNat 0 = ofS s n := by
  have := partK_ofS s n.toNat 0
  simp only [Nat.zero_add] at this
  exact this
theorem bits_Cat.calls (a0_0 : ByteArray) (a0_1 : Int) (a1_0 : ByteArray) (a1_1 : Int) (r1 : ByteArray) (r2 r3 : Int) (w : World) (h : bits_Cat.f a0_0 a0_1 a1_0 a1_1 = some (r1, r2, r3)) :
    Calls Try.prog 43 #[.agg #[.string a0_0, .int .i64 a0_1], .agg #[.string a1_0, .int .i64 a1_1]] w fun e w' => e = .returned (.tuple #[.agg #[.string r1, .int .i64 r2], .int .i64 r3]) ∧ Below w.heap.size w w' := by
  unfold bits_Cat.f at h
  by_cases hm : MayP a0_0 a0_1
  · by_cases hm2 : MayP a1_0 a1_1
    · rw [if_pos ⟨hm, hm2⟩] at h
      by_cases hn : a0_1 + a1_1 ≤ 6000
      · rw [if_pos hn] at h
        simp only [Option.some.injEq, Prod.mk.injEq] at h
        obtain ⟨rfl, rfl, rfl⟩ := h
        have e := cat_yes a0_0 a0_1 a1_0 a1_1 w hm hm2 hn
        have hp := rowSeq_pack a1_0 a1_1.toNat 0 (ofS a0_0 a0_1) (ofS_bits _ _)
        rw [pack_ofS _ _ hm, partK_all, List.length_append, ofS_length, ofS_length] at hp
        have h1 : ((a0_1.toNat : Nat) : Int) = a0_1 := Int.toNat_of_nonneg hm.1
        have h2 : (((a0_1.toNat + a1_1.toNat : Nat)) : Int) = a0_1 + a1_1 := by have := hm.1; have := hm2.1; omega
        rw [h1, h2] at hp
        rw [hp] at e
        exact e
      · rw [if_neg hn] at h
        simp only [Option.some.injEq, Prod.mk.injEq] at h
        obtain ⟨rfl, rfl, rfl⟩ := h
        exact cat_full a0_0 a0_1 a1_0 a1_1 w hm hm2 (by omega)
    · rw [if_neg (fun h => hm2 h.2)] at h
      simp only [Option.some.injEq, Prod.mk.injEq] at h
      obtain ⟨rfl, rfl, rfl⟩ := h
      exact cat_no2 a0_0 a0_1 a1_0 a1_1 w hm hm2
  · rw [if_neg (fun h => hm h.1)] at h
    simp only [Option.some.injEq, Prod.mk.injEq] at h
    obtain ⟨rfl, rfl, rfl⟩ := h
    exact cat_no1 a0_0 a0_1 a1_0 a1_1 w hm
end Go.Proofs.Ytnpghcikhpglkaa.Q
