/- CodeCuts: for every input whose bulk is at most 1048576 the law returns true; the input reads behind the call as it read before. Condition: the bulk. -/
import Derived.Test.YtnpghcikhpglkaaRows
import Derived.Test.YtnpghcikhpglkaaCCodeCuts2
import Derived.WalkKit
import Derived.ProofKit
import Derived.OpenShut
import Derived.ShutString
import Derived.ChangeOld
import Derived.Below
import Derived.JoinedCond
namespace Go.Proofs.Ytnpghcikhpglkaa.codeCuts
open Go.ChangeShapes Go.WideShapes Go.ChangeAt Go.RowKit
set_option linter.unusedVariables false
theorem own : ownKnob Try.prog.godebug = none := by kernel_rfl
theorem laidOut : laidOutB Try.prog = true := by kernel_rfl
theorem bound {H : Type} {l : List (DataW H)} (hk : Rows.uptoSmall H l = true) : Rows.uptoBulkAll l ≤ 1048576 := of_decide_eq_true hk
set_option maxRecDepth 100000 in
theorem lifted (os : Os) (started : os.Started) (H : Type) (enc : TypeId × Value → H) (F : Stop.Interp) :
    ReturnsInHanded {} Try.checked os 11 .any ((Rows.OpenSpec.upto Rows.codeCutsSpec).pre6 enc Try.prog Try.f11 Rows.codeCutsUptoRow.domain false) (((Rows.OpenSpec.upto Rows.codeCutsSpec).at F).post enc Try.prog Try.f11 false true false false) := by
  refine returnsInHanded_of_cond (C := Try.checked) (s := Rows.OpenSpec.upto Rows.codeCutsSpec) (k := Rows.uptoSmall) rfl own started (by kernel_rfl) Try.func11
    (OpenSpec.witness (enc := enc) (C := Try.checked) (s := Rows.OpenSpec.upto Rows.codeCutsSpec) (k := Rows.uptoSmall) rfl false ⟨#[], #[.agg #[.slice none 0 0, .slice none 0 0]], []⟩ 8 (by kernel_rfl) (by kernel_rfl) (by kernel_rfl)
      (x := ([.agg [.nil, .nil]], [], [])) (by kernel_rfl) rfl (by kernel_rfl)) ?_
  intro W base args ds gs before hval0 hW _ hk _
  have hval : ∀ (j : Nat) t v, Try.f11.params[j]? = some t → args[j]? = some v → Value.okWide Try.prog W .any base t v := hval0
  have hW' := hW
  obtain ⟨p, q, hA0, hV, rfl, hfz, hnd⟩ := hW
  have hA : DataW.TrodAll enc Try.prog W 0 (fun _ => true) true Try.f11.params.toList args.toList ds p := hA0
  rw [Try.params11] at hA hval
  obtain ⟨v0, vs0, d0, ds0, p0, q0, hargs, rfl, rfl, h0, r0⟩ := trodAll_cons hA
  obtain ⟨rfl, rfl, rfl⟩ := trodAll_nil r0
  obtain rfl : args = #[v0] := by cases args; simp_all
  obtain ⟨rfl, rfl⟩ := trodVars_none hV
  have k0 := h0
  have lt0 : ∀ x ∈ p0, x.block < W.heap.size := by obtain ⟨m, hm⟩ := k0; exact DataW.trod_lt m _ _ _ hm
  have hb0 := bound hk
  have hb : Rows.uptoBulk d0 ≤ 1048576 := Nat.le_trans (Op.bulk_part (List.mem_append_left _ List.mem_cons_self)) hb0
  obtain ⟨A0, c0, l0, A1, c1, l1, rfl, hr0, hc0, hr1, hc1, g0, g1, g2⟩ := Op.ask1u (hval 0 25 v0 rfl rfl) h0 hb
  clear hA0 hval0
  obtain ⟨k, hk⟩ := Pure.CodeCuts l0 l1 g0 g1 g2
  refine (Q.herbariumlaw2_CodeCuts.calls k A0 c0 l0 A1 c1 l1 true W hr0 hc0 hr1 hc1 hk).mono fun e W' ⟨he, bel⟩ => ?_
  subst he
  exact ⟨_, rfl, _, _, _, [], _, [], hW', trodAll_mk1 (shut_bool Try.underlying4 _), (trodAll_cons_mk (Below.trod laidOut (by kernel_rfl) (of_decide_eq_true (by kernel_rfl)) k0 bel lt0) trodAll_mk0), rfl, bel.frame _, fun h => by cases h⟩
theorem closed : joinedFacts Try.prog 11 Try.f11 Rows.codeCutsSpec Rows.codeCutsUptoRow = true := by
  unfold joinedFacts
  rw [Fa.mayEnter, Fa.liftsFinal, Fa.make]
  kernel_rfl
set_option maxRecDepth 100000 in
theorem over : Rows.codeCutsUptoRow.holds Try.pinned (Rows.OpenSpec.upto Rows.codeCutsSpec) :=
  OpenClaim.holds_of_cond 11 Try.f11 rfl rfl rfl rfl rfl rfl rfl ⟨rfl, rfl, rfl, rfl, rfl⟩ rfl rfl rfl rfl rfl (by kernel_rfl) Try.func11 closed
    (of_decide_eq_true (by kernel_rfl)) (by unfold Func.isWrapper; first | (rw [if_pos (by decide +kernel)]; kernel_rfl) | (rw [if_neg (by decide +kernel)]; exact ⟨rfl, rfl⟩))
    (fun os started H enc _ F => lifted os started H enc F)
theorem proved : Rows.CodeCutsUptoSaid := over
#print axioms proved
end Go.Proofs.Ytnpghcikhpglkaa.codeCuts
namespace Go.Proofs.Ytnpghcikhpglkaa
/-- The row, under a short name, for the claim. -/
theorem codeCuts_holds : Rows.CodeCutsUptoSaid := codeCuts.proved
end Go.Proofs.Ytnpghcikhpglkaa
