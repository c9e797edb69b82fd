/-
  StripBestsSaid: for any rule and weights StripBests returns true and changes nothing. No condition.
-/
import Derived.Test.YtljgfdamdcikgaaRows
import Derived.Test.YtljgfdamdcikgaaRP3
import Derived.WalkKit
import Derived.ProofKit
import Derived.OpenShut
import Derived.ShutString
import Derived.ChangeOld
import Derived.Below
import Derived.SizedLaws
import Derived.WideKeyPair
namespace Go.Proofs.Ytljgfdamdcikgaa.stripBests
open Go.ChangeShapes Go.WideShapes Go.ChangeAt Go.RowKit
open Go.ChangeMaps (open_string shut_string)
open Go.AEv
set_option linter.unusedVariables false
theorem own : ownKnob Try.prog.godebug = none := by kernel_rfl

theorem fit {a : Int} (h : (Lit.int .i64 a).wf = true) : a < 9223372036854775808 := by
  simp only [Lit.wf, Bool.and_eq_true, decide_eq_true_eq] at h
  have e : IntKind.i64.max = 9223372036854775807 := by decide
  omega

theorem laidOut : laidOutB Try.prog = true := by kernel_rfl
noncomputable def fA24 : Field := match Try.prog.underlying 24 with | some (.struct #[f, g, l]) => f | _ => default
noncomputable def fB24 : Field := match Try.prog.underlying 24 with | some (.struct #[f, g, l]) => g | _ => default
noncomputable def fC24 : Field := match Try.prog.underlying 24 with | some (.struct #[f, g, l]) => l | _ => default
theorem rule24 : RuleKey Try.prog 24 3 22 fA24 fB24 fC24 := ⟨by kernel_rfl, by kernel_rfl, by kernel_rfl, by kernel_rfl, by kernel_rfl, by kernel_rfl, by kernel_rfl, by kernel_rfl, by kernel_rfl, by kernel_rfl⟩

set_option maxRecDepth 100000 in
theorem lifted (os : Os) (started : os.Started) (H : Type) (enc : TypeId × Value → H) :
    ReturnsInHanded {} Try.checked os 11 .any (Rows.stripBestsSpec.pre6 enc Try.prog Try.f11 Rows.stripBestsRow.domain false) (Rows.stripBestsSpec.post enc Try.prog Try.f11 false true false false) := by
  refine returnsInHanded_of_change_sized (C := Try.checked) own started (by kernel_rfl) Try.func11
    (ChangeSpec.witness6 (enc := enc) (C := Try.checked) false ⟨#[], #[.agg #[.int .i64 0, .slice none 0 0, .slice none 0 0], .slice none 0 0], []⟩ 8 (by kernel_rfl) (by kernel_rfl) (by kernel_rfl) (by kernel_rfl)) ?_
  intro W base args ds gs before hval0 hW hcnd hsz0 _
  have hsz : (DataW.weightsEach Try.prog (Try.f11.params.toList ++ Rows.stripBestsSpec.plain.varTypes Try.prog) (ds ++ gs)).all (· ≤ reachBytes) = true := hsz0
  have hval : ∀ (j : Nat) t v, Try.f11.params[j]? = some t → args[j]? = some v → Value.okWide Try.prog W .any base t v := hval0
  have hW' := hW
  obtain ⟨p, q, hA0, hV, rfl, hfz, hnd⟩ := hW
  have hA : DataW.TrodAll enc Try.prog W 0 (fun _ => true) true Try.f11.params.toList args.toList ds p := hA0
  rw [Try.params11] at hA hval hsz
  obtain ⟨v0, vs0, d0, ds0, p0, q0, hargs, rfl, rfl, h0, r0⟩ := trodAll_cons hA
  obtain ⟨v1, vs1, d1, ds1, p1, q1, rfl, rfl, rfl, h1, r1⟩ := trodAll_cons r0
  obtain ⟨rfl, rfl, rfl⟩ := trodAll_nil r1
  obtain rfl : args = #[v0, v1] := by cases args; simp_all
  obtain ⟨rfl, rfl⟩ := trodVars_none hV
  have km0 := h0
  have lt0 : ∀ x ∈ p0, x.block < W.heap.size := by obtain ⟨m, hm⟩ := km0; exact DataW.trod_lt m _ _ _ hm
  obtain ⟨φm1, Hm1, qm1, xm1, ym1, lm1, lk1, om1, rm1, sm1, em1, nm1, pm1, pk1⟩ := rule_lo rfl (e0_hr (CK := ckOf Try.prog) (fun _ => ⟨0, 0, 0⟩) W) rule24 Try.underlying22 Try.underlying54 Try.underlying3 (by kernel_rfl) (hval 0 24 v0 rfl rfl) h0
  have km1 := h1
  have lt1 : ∀ x ∈ p1, x.block < W.heap.size := by obtain ⟨m, hm⟩ := km1; exact DataW.trod_lt m _ _ _ hm
  obtain ⟨φm2, Hm2, xm2, lm2, om2, rm2, sm2, em2, nm2, pm2⟩ := cube_lo om1 rm1 Try.underlying64 Try.underlying22 Try.underlying54 Try.underlying3 (by kernel_rfl) (by kernel_rfl) (by kernel_rfl) (okWide_slice Try.underlying64 (hval 1 64 v1 rfl rfl)) h1
  clear hA0 hval0 hsz0 hsz
  refine (calls_at (vals := [v0, v1]) Ev.follows Ev.ok Ev.t93 (by decide) (Ev.stripBests_ok Hm2  (Go.AEv.MR.ext em2 pm1) (Go.AEv.MR.ext em2 pk1) pm2) rm2 ⟨_, _, rfl, (VR.step sm2 _ _ nm1), _, _, rfl, nm2, rfl⟩).mono fun e W' ⟨he, bel⟩ => ?_
  subst he
  exact ⟨_, rfl, _, _, _, [], _, [], hW', trodAll_mk1 (shut_bool Try.underlying4 _), (trodAll_cons_mk (Below.trod laidOut (by kernel_rfl) (of_decide_eq_true (by kernel_rfl)) km0 bel lt0) (trodAll_cons_mk (Below.trod laidOut (by kernel_rfl) (of_decide_eq_true (by kernel_rfl)) km1 bel lt1) trodAll_mk0)), rfl, bel.frame _, fun h => by cases h⟩

theorem over : Rows.stripBestsRow.holds Try.pinned (OpenSpec.ofChange Rows.stripBestsSpec) :=
  OpenClaim.holds_of_wide 11 Try.f11 rfl rfl rfl rfl rfl rfl rfl ⟨rfl, rfl, rfl, rfl, rfl⟩ rfl rfl rfl rfl rfl (by kernel_rfl) Try.func11 (by kernel_rfl)
    (of_decide_eq_true (by kernel_rfl)) (by unfold Func.isWrapper; first | (rw [if_pos (by decide +kernel)]; kernel_rfl) | (rw [if_neg (by decide +kernel)]; exact ⟨rfl, rfl⟩))
    (fun os started H enc _ => lifted os started H enc)
theorem proved : Rows.StripBestsSaid := over
end Go.Proofs.Ytljgfdamdcikgaa.stripBests
namespace Go.Proofs.Ytljgfdamdcikgaa
/-- The row, under a short name, for the claim. -/
theorem stripBests_holds : Rows.StripBestsSaid := stripBests.proved
#print axioms stripBests_holds
end Go.Proofs.Ytljgfdamdcikgaa
