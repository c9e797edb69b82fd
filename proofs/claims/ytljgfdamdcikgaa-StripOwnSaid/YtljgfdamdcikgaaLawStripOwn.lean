/-
  StripOwnSaid: for any rule and int StripOwn returns true and changes nothing. No condition.
-/
import Derived.Test.YtljgfdamdcikgaaRows
import Derived.Test.YtljgfdamdcikgaaRP3
import Derived.WalkKit
import Derived.ProofKit
import Derived.OpenShut
import Derived.ShutString
import Derived.ChangeOld
import Derived.Below
import Derived.SizedLaws
import Derived.WideKeyPair
namespace Go.Proofs.Ytljgfdamdcikgaa.stripOwn
open Go.ChangeShapes Go.WideShapes Go.ChangeAt Go.RowKit
open Go.ChangeMaps (open_string shut_string)
open Go.AEv
set_option linter.unusedVariables false
theorem own : ownKnob Try.prog.godebug = none := by kernel_rfl

theorem fit {a : Int} (h : (Lit.int .i64 a).wf = true) : a < 9223372036854775808 := by
  simp only [Lit.wf, Bool.and_eq_true, decide_eq_true_eq] at h
  have e : IntKind.i64.max = 9223372036854775807 := by decide
  omega

theorem laidOut : laidOutB Try.prog = true := by kernel_rfl
noncomputable def fA24 : Field := match Try.prog.underlying 24 with | some (.struct #[f, g, l]) => f | _ => default
noncomputable def fB24 : Field := match Try.prog.underlying 24 with | some (.struct #[f, g, l]) => g | _ => default
noncomputable def fC24 : Field := match Try.prog.underlying 24 with | some (.struct #[f, g, l]) => l | _ => default
theorem rule24 : RuleKey Try.prog 24 3 22 fA24 fB24 fC24 := ⟨by kernel_rfl, by kernel_rfl, by kernel_rfl, by kernel_rfl, by kernel_rfl, by kernel_rfl, by kernel_rfl, by kernel_rfl, by kernel_rfl, by kernel_rfl⟩

set_option maxRecDepth 100000 in
theorem lifted (os : Os) (started : os.Started) (H : Type) (enc : TypeId × Value → H) :
    ReturnsInHanded {} Try.checked os 16 .any (Rows.stripOwnSpec.pre6 enc Try.prog Try.f16 Rows.stripOwnRow.domain false) (Rows.stripOwnSpec.post enc Try.prog Try.f16 false true false false) := by
  refine returnsInHanded_of_change_sized (C := Try.checked) own started (by kernel_rfl) Try.func16
    (ChangeSpec.witness6 (enc := enc) (C := Try.checked) false ⟨#[], #[.agg #[.int .i64 0, .slice none 0 0, .slice none 0 0], .int .i64 0], []⟩ 8 (by kernel_rfl) (by kernel_rfl) (by kernel_rfl) (by kernel_rfl)) ?_
  intro W base args ds gs before hval0 hW hcnd hsz0 _
  have hsz : (DataW.weightsEach Try.prog (Try.f16.params.toList ++ Rows.stripOwnSpec.plain.varTypes Try.prog) (ds ++ gs)).all (· ≤ reachBytes) = true := hsz0
  have hval : ∀ (j : Nat) t v, Try.f16.params[j]? = some t → args[j]? = some v → Value.okWide Try.prog W .any base t v := hval0
  have hW' := hW
  obtain ⟨p, q, hA0, hV, rfl, hfz, hnd⟩ := hW
  have hA : DataW.TrodAll enc Try.prog W 0 (fun _ => true) true Try.f16.params.toList args.toList ds p := hA0
  rw [Try.params16] at hA hval hsz
  obtain ⟨v0, vs0, d0, ds0, p0, q0, hargs, rfl, rfl, h0, r0⟩ := trodAll_cons hA
  obtain ⟨v1, vs1, d1, ds1, p1, q1, rfl, rfl, rfl, h1, r1⟩ := trodAll_cons r0
  obtain ⟨rfl, rfl, rfl⟩ := trodAll_nil r1
  obtain rfl : args = #[v0, v1] := by cases args; simp_all
  obtain ⟨rfl, rfl⟩ := trodVars_none hV
  have km0 := h0
  have lt0 : ∀ x ∈ p0, x.block < W.heap.size := by obtain ⟨m, hm⟩ := km0; exact DataW.trod_lt m _ _ _ hm
  obtain ⟨φm1, Hm1, qm1, xm1, ym1, lm1, lk1, om1, rm1, sm1, em1, nm1, pm1, pk1⟩ := rule_lo rfl (e0_hr (CK := ckOf Try.prog) (fun _ => ⟨0, 0, 0⟩) W) rule24 Try.underlying22 Try.underlying54 Try.underlying3 (by kernel_rfl) (hval 0 24 v0 rfl rfl) h0
  obtain ⟨a0, rfl, rfl, rfl, w0⟩ := open_int Try.underlying3 (hval 1 3 v1 rfl rfl) h1
  clear hA0 hval0 hsz0 hsz
  refine (calls_at (vals := [v0, .int .i64 a0]) Ev.follows Ev.ok Ev.t85 (by decide) (Ev.stripOwn_ok Hm1 a0 pm1 pk1) rm1 ⟨_, _, rfl, nm1, _, _, rfl, rfl, rfl⟩).mono fun e W' ⟨he, bel⟩ => ?_
  subst he
  exact ⟨_, rfl, _, _, _, [], _, [], hW', trodAll_mk1 (shut_bool Try.underlying4 _), (trodAll_cons_mk (Below.trod laidOut (by kernel_rfl) (of_decide_eq_true (by kernel_rfl)) km0 bel lt0) (trodAll_cons_mk (shut_int Try.underlying3 w0) trodAll_mk0)), rfl, bel.frame _, fun h => by cases h⟩

theorem over : Rows.stripOwnRow.holds Try.pinned (OpenSpec.ofChange Rows.stripOwnSpec) :=
  OpenClaim.holds_of_wide 16 Try.f16 rfl rfl rfl rfl rfl rfl rfl ⟨rfl, rfl, rfl, rfl, rfl⟩ rfl rfl rfl rfl rfl (by kernel_rfl) Try.func16 (by kernel_rfl)
    (of_decide_eq_true (by kernel_rfl)) (by unfold Func.isWrapper; first | (rw [if_pos (by decide +kernel)]; kernel_rfl) | (rw [if_neg (by decide +kernel)]; exact ⟨rfl, rfl⟩))
    (fun os started H enc _ => lifted os started H enc)
theorem proved : Rows.StripOwnSaid := over
end Go.Proofs.Ytljgfdamdcikgaa.stripOwn
namespace Go.Proofs.Ytljgfdamdcikgaa
/-- The row, under a short name, for the claim. -/
theorem stripOwn_holds : Rows.StripOwnSaid := stripOwn.proved
#print axioms stripOwn_holds
end Go.Proofs.Ytljgfdamdcikgaa
