/- bits.Put, bits.Part, bits.Cat: what each answers, by the row's walk. -/
import Derived.Test.YtnpghcikhpglkaaHp
import Derived.Test.YtnpghcikhpglkaaPm
import Derived.Test.YtnpghcikhpglkaaQ3
import Derived.Outline
namespace Go.Proofs.Ytnpghcikhpglkaa.Q
open Go.RowKit Go.Proofs.YtnpghcikhpglkaaW.PrintWords Go.Proofs.YtnpghcikhpglkaaW.PrintLast Go.Proofs.YtnpghcikhpglkaaW.PrintMore Go.Proofs.Ytnpghcikhpglkaa.Hand Go.Proofs.Ytnpghcikhpglkaa.Pu
set_option linter.unusedVariables false
set_option linter.unusedSimpArgs false

/-- bits.Put. -/
def bits_Put.f (s : ByteArray) (n v w : Int) : Option (ByteArray × Int × Int) :=
  if MayP s n ∧ 0 ≤ w ∧ w ≤ 30 ∧ 0 ≤ v ∧ v < 2 ^ w.toNat then
    (if n + w ≤ 6000 then some (packS (ofS s n ++ putL w.toNat v), n + w, 0) else some (⟨#[]⟩, 0, 2))
  else some (⟨#[]⟩, 0, 1)

theorem two_cells {w : World} {g t : Nat} {a b : Value} (h : w.heap[g]? = some (.cells #[a, b] t (0, 0))) :
    w.cell? ⟨g, 0, none⟩ = some a ∧ w.cell? ⟨g, 1, none⟩ = some b ∧ w.frozen? ⟨g, 0, none⟩ = false ∧ w.frozen? ⟨g, 1, none⟩ = false :=
  ⟨blk_cell h 0, blk_cell h 1, blk_frozen h 0, blk_frozen h 1⟩
theorem keep2 {w1 w2 : World} {B g : Nat} {o : Obj} (h : w1.heap[g]? = some o) (hb : Below B w1 w2) (hg : g < B) : w2.heap[g]? = some o := (hb.block g hg).trans h
theorem start2 (w : World) (o1 o2 : Obj) : ((w.alloc o1).alloc o2).heap[w.heap.size]? = some o1 ∧ ((w.alloc o1).alloc o2).heap[w.heap.size + 1]? = some o2 ∧ Below w.heap.size w ((w.alloc o1).alloc o2) ∧ w.heap.size + 1 < ((w.alloc o1).alloc o2).heap.size := by
  refine ⟨(Below.heap_alloc _ _ _ (by simp)).trans (heap_alloc_new w o1), ?_, ((Below.refl _ w).alloc (Nat.le_refl _) o1).alloc (by simp) o2, by simp⟩
  have := heap_alloc_new (w.alloc o1) o2
  simpa using this
/-- The result's variable is written whole. -/
theorem put2 {w : World} {g : Nat} {a b c d : Value} (h : w.heap[g]? = some (.cells #[a, b] 27 (0, 0))) : ((w.setCell ⟨g, 0, none⟩ c).setCell ⟨g, 1, none⟩ d).heap[g]? = some (.cells #[c, d] 27 (0, 0)) :=
  blk_put (cs := #[c, b]) (blk_put (cs := #[a, b]) h 0 _ rfl) 1 _ rfl
theorem below_put2 {B : Nat} {w0 w : World} (hb : Below B w0 w) {g : Nat} (hg : B ≤ g) (c d : Value) : Below B w0 ((w.setCell ⟨g, 0, none⟩ c).setCell ⟨g, 1, none⟩ d) :=
  (hb.setCell (p := ⟨g, 0, none⟩) hg c).setCell (p := ⟨g, 1, none⟩) hg d

set_option maxHeartbeats 4000000 in
set_option maxRecDepth 100000 in
theorem put_no (s : ByteArray) (n v k : Int) (w : World) (hm : ¬ MayP s n) :
    Calls Try.prog 24 #[.agg #[.string s, .int .i64 n], .int .i64 v, .int .i64 k] w fun e w' => e = .returned (.tuple #[.agg #[.string ⟨#[]⟩, .int .i64 0], .int .i64 1]) ∧ Below w.heap.size w w' := by
  have hu := Try.underlying27
  have A := Aside0.mk (show bits_May.f s n = some false by rw [may_eq, decide_eq_false hm])
  have HS := Aside0.mk (start2 w (.cells #[.string s, .int .i64 n] 27) (.cells #[.string ⟨#[]⟩, .int .i64 0] 27))
  clear hm
  go_enter Try.func24, Try.ntmps24
  go_wp2_with (first | ((with_reducible refine gate_callee (f := 86) rfl ?_); refine goesL_ (some 10) rfl rfl Try.func86 (by kernel_rfl) rfl #[.agg #[.string s, .int .i64 n]] rfl (by (try simp only [List.map_toArray, List.map_cons, List.map_nil]); first | done | rfl) ?_; (with_reducible refine (bits_May.calls s n false _ A.out).mono ?_); rintro e w1 ⟨rfl, hb⟩; refine ⟨_, rfl, ?_⟩; have HR := Aside0.mk (keep2 HS.out.2.1 hb HS.out.2.2.2); obtain ⟨c0, c1, f0, f1⟩ := two_cells HR.out; have HB := Aside0.mk (below_then HS.out.2.2.1 HS.out.2.2.1.size hb); clear hb))
  refine bodyPost_ret (results_list (rs := [.cell 6 27, .tmp 7]) rfl (by simp) (.cell (w.heap.size + 1) 27 #[.string ⟨#[]⟩, .int .i64 0] (0, 0) _ rfl (put2 HR.out) Try.underlying27 rfl (by kernel_rfl) (.tmp .nil))) rfl ⟨rfl, below_put2 HB.out (by omega) _ _⟩
theorem pow_le30 (k : Int) (h0 : 0 ≤ k) (h1 : k ≤ 30) : (0 : Int) < 2 ^ k.toNat ∧ (2 : Int) ^ k.toNat ≤ 1073741824 := by
  refine ⟨Int.pow_pos (by decide), ?_⟩
  have := Nat.pow_le_pow_right (n := 2) (by decide) (show k.toNat ≤ 30 by omega)
  have h2 : ((2 ^ k.toNat : Nat) : Int) ≤ ((2 ^ 30 : Nat) : Int) := by exact_mod_cast this
  simpa using h2
theorem wrap_pow (k : Int) (h0 : 0 ≤ k) (h1 : k ≤ 30) : wrap64 (2 ^ k.toNat) = 2 ^ k.toNat := by
  have := pow_le30 k h0 h1
  exact wrap_in _ (by omega) (by omega)
theorem rowPut_snd (k : Nat) : ∀ (s : List Int × Int) (v : Int), (rowPut k s v).2 = s.2 + k := by
  induction k with
  | zero => intro s v; simp [rowPut]
  | succ k ih => intro s v; rw [rowPut, ih, rowBit_snd]; omega
/-- Behind the row's making, filling, telling: what lay ahead lies there still. -/
theorem keep4 {w1 w2 w3 w4 : World} {g nd : Nat} {o : Obj} (h : w1.heap[g]? = some o) (hg : g < w1.heap.size) (h2 : Below (w1.drewN nd).heap.size (w1.drewN nd) w2) (h3 : Below (w1.drewN nd).heap.size w2 w3) (h4 : Below w3.heap.size w3 w4) : w4.heap[g]? = some o := by
  have e : (w1.drewN nd).heap[g]? = some o := h
  have hg' : g < (w1.drewN nd).heap.size := hg
  have e2 := keep2 e h2 hg'
  have e3 := keep2 e2 h3 hg'
  exact keep2 e3 h4 (blk_lt e3)
theorem below4 {w w1 w2 w3 w4 : World} {B nd : Nat} (h1 : Below B w w1) (hB : B ≤ w1.heap.size) (h2 : Below (w1.drewN nd).heap.size (w1.drewN nd) w2) (h3 : Below (w1.drewN nd).heap.size w2 w3) (h4 : Below w3.heap.size w3 w4) : Below B w w4 := by
  have hs : (w1.drewN nd).heap.size = w1.heap.size := rfl
  refine (pw_below_drewN h1 nd).trans ((h2.mono (by omega)).trans ((h3.mono (by omega)).trans (h4.mono ?_)))
  exact Nat.le_trans hB (Nat.le_trans (hs ▸ h2.size) h3.size)
theorem width_eq (k : Int) : bits_width.f k = some (decide (0 ≤ k ∧ k ≤ 30)) := by
  unfold bits_width.f
  by_cases h : k ≥ 0
  · rw [if_pos h]; simp; omega
  · rw [if_neg h]; simp; omega
set_option maxHeartbeats 4000000 in
set_option maxRecDepth 100000 in
theorem put_w (s : ByteArray) (n v k : Int) (w : World) (hm : MayP s n) (hk : ¬ (0 ≤ k ∧ k ≤ 30)) :
    Calls Try.prog 24 #[.agg #[.string s, .int .i64 n], .int .i64 v, .int .i64 k] w fun e w' => e = .returned (.tuple #[.agg #[.string ⟨#[]⟩, .int .i64 0], .int .i64 1]) ∧ Below w.heap.size w w' := by
  have hu := Try.underlying27
  have A := Aside0.mk (show bits_May.f s n = some true by rw [may_eq, decide_eq_true hm])
  have HS := Aside0.mk (start2 w (.cells #[.string s, .int .i64 n] 27) (.cells #[.string ⟨#[]⟩, .int .i64 0] 27))
  have WI := Aside0.mk (show bits_width.f k = some false by rw [width_eq, decide_eq_false hk])
  clear hk
  clear hm
  go_enter Try.func24, Try.ntmps24
  go_wp2_with (first | ((with_reducible refine gate_callee (f := 86) rfl ?_); refine goesL_ (some 10) rfl rfl Try.func86 (by kernel_rfl) rfl #[.agg #[.string s, .int .i64 n]] rfl (by (try simp only [List.map_toArray, List.map_cons, List.map_nil]); first | done | rfl) ?_; (with_reducible refine (bits_May.calls s n true _ A.out).mono ?_); rintro e w1 ⟨rfl, hb⟩; refine ⟨_, rfl, ?_⟩; have HA := Aside0.mk (keep2 HS.out.1 hb (Nat.lt_of_succ_lt HS.out.2.2.2)); have HR := Aside0.mk (keep2 HS.out.2.1 hb HS.out.2.2.2); obtain ⟨a0, a1, g0, g1⟩ := two_cells HA.out; obtain ⟨c0, c1, f0, f1⟩ := two_cells HR.out; have HB := Aside0.mk (below_then HS.out.2.2.1 HS.out.2.2.1.size hb); have HZ := Aside0.mk (Nat.lt_of_lt_of_le HS.out.2.2.2 hb.size); clear hb) | (go_at_call 87; (with_reducible refine (bits_width.calls k false _ WI.out).mono ?_); rintro e w' ⟨rfl, ⟨nd, rfl⟩⟩))
  refine bodyPost_ret (results_list (rs := [.cell 6 27, .tmp 7]) rfl (by simp) (.cell (w.heap.size + 1) 27 #[.string ⟨#[]⟩, .int .i64 0] (0, 0) _ rfl (put2 HR.out) Try.underlying27 rfl (by kernel_rfl) (.tmp .nil))) rfl ⟨rfl, below_put2 (pw_below_drewN HB.out _) (by omega) _ _⟩
set_option maxHeartbeats 4000000 in
set_option maxRecDepth 100000 in
theorem put_neg (s : ByteArray) (n v k : Int) (w : World) (hm : MayP s n) (hk : 0 ≤ k ∧ k ≤ 30) (hv : v < 0) :
    Calls Try.prog 24 #[.agg #[.string s, .int .i64 n], .int .i64 v, .int .i64 k] w fun e w' => e = .returned (.tuple #[.agg #[.string ⟨#[]⟩, .int .i64 0], .int .i64 1]) ∧ Below w.heap.size w w' := by
  have hu := Try.underlying27
  have A := Aside0.mk (show bits_May.f s n = some true by rw [may_eq, decide_eq_true hm])
  have HS := Aside0.mk (start2 w (.cells #[.string s, .int .i64 n] 27) (.cells #[.string ⟨#[]⟩, .int .i64 0] 27))
  have WI := Aside0.mk (show bits_width.f k = some true by rw [width_eq, decide_eq_true hk])
  clear hk
  clear hm
  go_enter Try.func24, Try.ntmps24
  go_wp2_with (first | ((with_reducible refine gate_callee (f := 86) rfl ?_); refine goesL_ (some 10) rfl rfl Try.func86 (by kernel_rfl) rfl #[.agg #[.string s, .int .i64 n]] rfl (by (try simp only [List.map_toArray, List.map_cons, List.map_nil]); first | done | rfl) ?_; (with_reducible refine (bits_May.calls s n true _ A.out).mono ?_); rintro e w1 ⟨rfl, hb⟩; refine ⟨_, rfl, ?_⟩; have HA := Aside0.mk (keep2 HS.out.1 hb (Nat.lt_of_succ_lt HS.out.2.2.2)); have HR := Aside0.mk (keep2 HS.out.2.1 hb HS.out.2.2.2); obtain ⟨a0, a1, g0, g1⟩ := two_cells HA.out; obtain ⟨c0, c1, f0, f1⟩ := two_cells HR.out; have HB := Aside0.mk (below_then HS.out.2.2.1 HS.out.2.2.1.size hb); have HZ := Aside0.mk (Nat.lt_of_lt_of_le HS.out.2.2.2 hb.size); clear hb) | (go_at_call 87; (with_reducible refine (bits_width.calls k true _ WI.out).mono ?_); rintro e w' ⟨rfl, ⟨nd, rfl⟩⟩))
  refine bodyPost_ret (results_list (rs := [.cell 6 27, .tmp 7]) rfl (by simp) (.cell (w.heap.size + 1) 27 #[.string ⟨#[]⟩, .int .i64 0] (0, 0) _ rfl (put2 HR.out) Try.underlying27 rfl (by kernel_rfl) (.tmp .nil))) rfl ⟨rfl, below_put2 (pw_below_drewN HB.out _) (by omega) _ _⟩
set_option maxHeartbeats 4000000 in
set_option maxRecDepth 100000 in
theorem put_big (s : ByteArray) (n v k : Int) (w : World) (hm : MayP s n) (hk : 0 ≤ k ∧ k ≤ 30) (hv : 0 ≤ v) (hv2 : 2 ^ k.toNat ≤ v) :
    Calls Try.prog 24 #[.agg #[.string s, .int .i64 n], .int .i64 v, .int .i64 k] w fun e w' => e = .returned (.tuple #[.agg #[.string ⟨#[]⟩, .int .i64 0], .int .i64 1]) ∧ Below w.heap.size w w' := by
  have hu := Try.underlying27
  have A := Aside0.mk (show bits_May.f s n = some true by rw [may_eq, decide_eq_true hm])
  have HS := Aside0.mk (start2 w (.cells #[.string s, .int .i64 n] 27) (.cells #[.string ⟨#[]⟩, .int .i64 0] 27))
  have WI := Aside0.mk (show bits_width.f k = some true by rw [width_eq, decide_eq_true hk])
  obtain ⟨hk0, hk1⟩ := hk
  have hw : wrap64 (2 ^ k.toNat) ≤ v := by rw [wrap_pow k hk0 hk1]; exact hv2
  clear hv2
  clear hm
  go_enter Try.func24, Try.ntmps24
  go_wp2_with (first | ((with_reducible refine gate_callee (f := 86) rfl ?_); refine goesL_ (some 10) rfl rfl Try.func86 (by kernel_rfl) rfl #[.agg #[.string s, .int .i64 n]] rfl (by (try simp only [List.map_toArray, List.map_cons, List.map_nil]); first | done | rfl) ?_; (with_reducible refine (bits_May.calls s n true _ A.out).mono ?_); rintro e w1 ⟨rfl, hb⟩; refine ⟨_, rfl, ?_⟩; have HA := Aside0.mk (keep2 HS.out.1 hb (Nat.lt_of_succ_lt HS.out.2.2.2)); have HR := Aside0.mk (keep2 HS.out.2.1 hb HS.out.2.2.2); obtain ⟨a0, a1, g0, g1⟩ := two_cells HA.out; obtain ⟨c0, c1, f0, f1⟩ := two_cells HR.out; have HB := Aside0.mk (below_then HS.out.2.2.1 HS.out.2.2.1.size hb); have HZ := Aside0.mk (Nat.lt_of_lt_of_le HS.out.2.2.2 hb.size); clear hb) | (go_at_call 87; (with_reducible refine (bits_width.calls k true _ WI.out).mono ?_); rintro e w' ⟨rfl, ⟨nd, rfl⟩⟩))
  refine bodyPost_ret (results_list (rs := [.cell 6 27, .tmp 7]) rfl (by simp) (.cell (w.heap.size + 1) 27 #[.string ⟨#[]⟩, .int .i64 0] (0, 0) _ rfl (put2 HR.out) Try.underlying27 rfl (by kernel_rfl) (.tmp .nil))) rfl ⟨rfl, below_put2 (pw_below_drewN HB.out _) (by omega) _ _⟩
set_option maxHeartbeats 4000000 in
set_option maxRecDepth 100000 in
theorem put_yes (s : ByteArray) (n v : Int) (k : Nat) (w : World) (hm : MayP s n) (hk : k ≤ 30) (hv : 0 ≤ v) (hv2 : v < 2 ^ k) (hn : n + k ≤ 6000) :
    Calls Try.prog 24 #[.agg #[.string s, .int .i64 n], .int .i64 v, .int .i64 k] w fun e w' => e = .returned (.tuple #[.agg #[.string (strOfNums (rowPut k (bytesI s, n) v).1), .int .i64 (n + k)], .int .i64 0]) ∧ Below w.heap.size w w' := by
  have hu := Try.underlying27
  have A := Aside0.mk (show bits_May.f s n = some true by rw [may_eq, decide_eq_true hm])
  have HS := Aside0.mk (start2 w (.cells #[.string s, .int .i64 n] 27) (.cells #[.string ⟨#[]⟩, .int .i64 0] 27))
  have WI := Aside0.mk (show bits_width.f (k : Int) = some true by rw [width_eq, decide_eq_true (by omega)])
  have hw : v < wrap64 (2 ^ k) := by have := wrap_pow (k : Int) (by omega) (by omega); rw [Int.toNat_natCast] at this; rw [this]; exact hv2
  have hk0 : (k : Int) ≤ 30 := by omega
  have hsz : s.size ≤ 1073741824 := by have := hm.2.2.1; have := hm.2.1; omega
  have hn0 : 0 ≤ n := hm.1
  have hn6 : n ≤ 6000 := hm.2.1
  have HSZ := Aside0.mk hm.2.2.1
  have HLE := Aside0.mk (show (rowPut k (bytesI s, n) v).2 ≤ 6000 by rw [rowPut_snd]; exact hn)
  clear hm hv2
  go_enter Try.func24, Try.ntmps24
  go_wp2_with (first | ((with_reducible refine gate_callee (f := 86) rfl ?_); refine goesL_ (some 10) rfl rfl Try.func86 (by kernel_rfl) rfl #[.agg #[.string s, .int .i64 n]] rfl (by (try simp only [List.map_toArray, List.map_cons, List.map_nil]); first | done | rfl) ?_; (with_reducible refine (bits_May.calls s n true _ A.out).mono ?_); rintro e w1 ⟨rfl, hb⟩; refine ⟨_, rfl, ?_⟩; have HA := Aside0.mk (keep2 HS.out.1 hb (Nat.lt_of_succ_lt HS.out.2.2.2)); have HR := Aside0.mk (keep2 HS.out.2.1 hb HS.out.2.2.2); obtain ⟨a0, a1, g0, g1⟩ := two_cells HA.out; obtain ⟨c0, c1, f0, f1⟩ := two_cells HR.out; have HB := Aside0.mk (below_then HS.out.2.2.1 HS.out.2.2.1.size hb); have HZ := Aside0.mk (Nat.lt_of_lt_of_le HS.out.2.2.2 hb.size); clear hb) | (go_at_call 87; (with_reducible refine (bits_width.calls k true _ WI.out).mono ?_); rintro e w' ⟨rfl, ⟨nd, rfl⟩⟩) | (go_at_call 88; ((with_reducible refine (from_ _ s n hsz).mono ?_); rintro e w2 ⟨p, rfl, hrow, hb2⟩); have HROW := Aside0.mk hrow; have HB2 := Aside0.mk hb2; clear hrow hb2) | (go_at_call 89; ((with_reducible refine (row_put _ _ p (bytesI s) n v k HROW.out hn0 (by rw [bytesI_length]; exact HSZ.out) (by omega) HB2.out.size).mono ?_); rintro e w3 ⟨rfl, hrow3, hb3⟩); have HROW3 := Aside0.mk hrow3; have HB3 := Aside0.mk hb3; clear hrow3 hb3))
  go_wp2_with (first | (go_at_call 90; ((with_reducible refine (row_bits_yes _ _ p _ _ HROW3.out HLE.out).mono ?_); rintro e w4 ⟨rfl, hb4⟩); have HR4 := Aside0.mk (keep4 HR.out HZ.out HB2.out HB3.out hb4); obtain ⟨d0, d1, e0, e1⟩ := two_cells HR4.out; have HB4 := Aside0.mk (below4 HB.out (by have := HZ.out; omega) HB2.out HB3.out hb4); clear hb4))
  refine bodyPost_ret (results_list (rs := [.cell 6 27, .tmp 7]) rfl (by simp) (.cell (w.heap.size + 1) 27 #[.string (strOfNums (rowPut k (bytesI s, n) v).1), .int .i64 (rowPut k (bytesI s, n) v).2] (0, 0) _ rfl (put2 HR4.out) Try.underlying27 rfl (by kernel_rfl) (.tmp .nil))) rfl ⟨by rw [rowPut_snd]; rfl, below_put2 HB4.out (by omega) _ _⟩
set_option maxHeartbeats 4000000 in
set_option maxRecDepth 100000 in
theorem put_full (s : ByteArray) (n v : Int) (k : Nat) (w : World) (hm : MayP s n) (hk : k ≤ 30) (hv : 0 ≤ v) (hv2 : v < 2 ^ k) (hn : 6000 < n + k) :
    Calls Try.prog 24 #[.agg #[.string s, .int .i64 n], .int .i64 v, .int .i64 k] w fun e w' => e = .returned (.tuple #[.agg #[.string ⟨#[]⟩, .int .i64 0], .int .i64 2]) ∧ Below w.heap.size w w' := by
  have hu := Try.underlying27
  have A := Aside0.mk (show bits_May.f s n = some true by rw [may_eq, decide_eq_true hm])
  have HS := Aside0.mk (start2 w (.cells #[.string s, .int .i64 n] 27) (.cells #[.string ⟨#[]⟩, .int .i64 0] 27))
  have WI := Aside0.mk (show bits_width.f (k : Int) = some true by rw [width_eq, decide_eq_true (by omega)])
  have hw : v < wrap64 (2 ^ k) := by have := wrap_pow (k : Int) (by omega) (by omega); rw [Int.toNat_natCast] at this; rw [this]; exact hv2
  have hk0 : (k : Int) ≤ 30 := by omega
  have hsz : s.size ≤ 1073741824 := by have := hm.2.2.1; have := hm.2.1; omega
  have hn0 : 0 ≤ n := hm.1
  have hn6 : n ≤ 6000 := hm.2.1
  have HSZ := Aside0.mk hm.2.2.1
  have HLE := Aside0.mk (show 6000 < (rowPut k (bytesI s, n) v).2 by rw [rowPut_snd]; exact hn)
  clear hm hv2
  go_enter Try.func24, Try.ntmps24
  go_wp2_with (first | ((with_reducible refine gate_callee (f := 86) rfl ?_); refine goesL_ (some 10) rfl rfl Try.func86 (by kernel_rfl) rfl #[.agg #[.string s, .int .i64 n]] rfl (by (try simp only [List.map_toArray, List.map_cons, List.map_nil]); first | done | rfl) ?_; (with_reducible refine (bits_May.calls s n true _ A.out).mono ?_); rintro e w1 ⟨rfl, hb⟩; refine ⟨_, rfl, ?_⟩; have HA := Aside0.mk (keep2 HS.out.1 hb (Nat.lt_of_succ_lt HS.out.2.2.2)); have HR := Aside0.mk (keep2 HS.out.2.1 hb HS.out.2.2.2); obtain ⟨a0, a1, g0, g1⟩ := two_cells HA.out; obtain ⟨c0, c1, f0, f1⟩ := two_cells HR.out; have HB := Aside0.mk (below_then HS.out.2.2.1 HS.out.2.2.1.size hb); have HZ := Aside0.mk (Nat.lt_of_lt_of_le HS.out.2.2.2 hb.size); clear hb) | (go_at_call 87; (with_reducible refine (bits_width.calls k true _ WI.out).mono ?_); rintro e w' ⟨rfl, ⟨nd, rfl⟩⟩) | (go_at_call 88; ((with_reducible refine (from_ _ s n hsz).mono ?_); rintro e w2 ⟨p, rfl, hrow, hb2⟩); have HROW := Aside0.mk hrow; have HB2 := Aside0.mk hb2; clear hrow hb2) | (go_at_call 89; ((with_reducible refine (row_put _ _ p (bytesI s) n v k HROW.out hn0 (by rw [bytesI_length]; exact HSZ.out) (by omega) HB2.out.size).mono ?_); rintro e w3 ⟨rfl, hrow3, hb3⟩); have HROW3 := Aside0.mk hrow3; have HB3 := Aside0.mk hb3; clear hrow3 hb3))
  go_wp2_with (first | (go_at_call 90; ((with_reducible refine (row_bits_no _ _ p _ _ HROW3.out HLE.out).mono ?_); rintro e w4 ⟨rfl, hb4⟩); have HR4 := Aside0.mk (keep4 HR.out HZ.out HB2.out HB3.out hb4); obtain ⟨d0, d1, e0, e1⟩ := two_cells HR4.out; have HB4 := Aside0.mk (below4 HB.out (by have := HZ.out; omega) HB2.out HB3.out hb4); clear hb4))
  refine bodyPost_ret (results_list (rs := [.cell 6 27, .tmp 7]) rfl (by simp) (.cell (w.heap.size + 1) 27 #[.string ⟨#[]⟩, .int .i64 0] (0, 0) _ rfl (put2 HR4.out) Try.underlying27 rfl (by kernel_rfl) (.tmp .nil))) rfl ⟨rfl, below_put2 HB4.out (by omega) _ _⟩

set_option maxRecDepth 100000 in
theorem bits_Put.calls (a0_0 : ByteArray) (a0_1 a1 a2 : Int) (r1 : ByteArray) (r2 r3 : Int) (w : World) (h : bits_Put.f a0_0 a0_1 a1 a2 = some (r1, r2, r3)) :
    Calls Try.prog 24 #[.agg #[.string a0_0, .int .i64 a0_1], .int .i64 a1, .int .i64 a2] w fun e w' => e = .returned (.tuple #[.agg #[.string r1, .int .i64 r2], .int .i64 r3]) ∧ Below w.heap.size w w' := by
  unfold bits_Put.f at h
  by_cases hm : MayP a0_0 a0_1
  · by_cases hk : 0 ≤ a2 ∧ a2 ≤ 30
    · by_cases hv : 0 ≤ a1
      · by_cases hv2 : a1 < 2 ^ a2.toNat
        · rw [if_pos ⟨hm, hk.1, hk.2, hv, hv2⟩] at h
          obtain ⟨k, rfl⟩ := Int.eq_ofNat_of_zero_le hk.1
          rw [Int.toNat_natCast] at hv2 h
          by_cases hn : a0_1 + k ≤ 6000
          · rw [if_pos hn] at h
            simp only [Option.some.injEq, Prod.mk.injEq] at h
            obtain ⟨rfl, rfl, rfl⟩ := h
            have e := put_yes a0_0 a0_1 a1 k w hm (by omega) hv hv2 hn
            have hp := rowPut_pack k a1 hv (by have := pow_le30 (k : Int) (by omega) (by omega); rw [Int.toNat_natCast] at this; omega) (ofS a0_0 a0_1) (ofS_bits _ _)
            rw [pack_ofS _ _ hm, ofS_length, Int.toNat_of_nonneg hm.1] at hp
            rw [hp] at e
            exact e
          · rw [if_neg hn] at h
            simp only [Option.some.injEq, Prod.mk.injEq] at h
            obtain ⟨rfl, rfl, rfl⟩ := h
            exact put_full a0_0 a0_1 a1 k w hm (by omega) hv hv2 (by omega)
        · rw [if_neg (fun h => hv2 h.2.2.2.2)] at h
          simp only [Option.some.injEq, Prod.mk.injEq] at h
          obtain ⟨rfl, rfl, rfl⟩ := h
          exact put_big a0_0 a0_1 a1 a2 w hm hk hv (by omega)
      · rw [if_neg (fun h => hv h.2.2.2.1)] at h
        simp only [Option.some.injEq, Prod.mk.injEq] at h
        obtain ⟨rfl, rfl, rfl⟩ := h
        exact put_neg a0_0 a0_1 a1 a2 w hm hk (by omega)
    · rw [if_neg (fun h => hk ⟨h.2.1, h.2.2.1⟩)] at h
      simp only [Option.some.injEq, Prod.mk.injEq] at h
      obtain ⟨rfl, rfl, rfl⟩ := h
      exact put_w a0_0 a0_1 a1 a2 w hm hk
  · rw [if_neg (fun h => hm h.1)] at h
    simp only [Option.some.injEq, Prod.mk.injEq] at h
    obtain ⟨rfl, rfl, rfl⟩ := h
    exact put_no a0_0 a0_1 a1 a2 w hm
end Go.Proofs.Ytnpghcikhpglkaa.Q
