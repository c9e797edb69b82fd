/-
  StripWeighedSaid: for any rule, numbers and weights StripWeighed returns true and changes nothing. No condition.
-/
import Derived.Test.YtljgfdamdcikgaaRows
import Derived.Test.YtljgfdamdcikgaaRP4
import Derived.WalkKit
import Derived.ProofKit
import Derived.OpenShut
import Derived.ShutString
import Derived.ChangeOld
import Derived.Below
import Derived.SizedLaws
import Derived.WideKeyPair
namespace Go.Proofs.Ytljgfdamdcikgaa.stripWeighed
open Go.ChangeShapes Go.WideShapes Go.ChangeAt Go.RowKit
open Go.ChangeMaps (open_string shut_string)
open Go.AEv
set_option linter.unusedVariables false
theorem own : ownKnob Try.prog.godebug = none := by kernel_rfl

theorem fit {a : Int} (h : (Lit.int .i64 a).wf = true) : a < 9223372036854775808 := by
  simp only [Lit.wf, Bool.and_eq_true, decide_eq_true_eq] at h
  have e : IntKind.i64.max = 9223372036854775807 := by decide
  omega

theorem laidOut : laidOutB Try.prog = true := by kernel_rfl
noncomputable def fA24 : Field := match Try.prog.underlying 24 with | some (.struct #[f, g, l]) => f | _ => default
noncomputable def fB24 : Field := match Try.prog.underlying 24 with | some (.struct #[f, g, l]) => g | _ => default
noncomputable def fC24 : Field := match Try.prog.underlying 24 with | some (.struct #[f, g, l]) => l | _ => default
theorem rule24 : RuleKey Try.prog 24 3 22 fA24 fB24 fC24 := ⟨by kernel_rfl, by kernel_rfl, by kernel_rfl, by kernel_rfl, by kernel_rfl, by kernel_rfl, by kernel_rfl, by kernel_rfl, by kernel_rfl, by kernel_rfl⟩
theorem arr45 : Go.WideMaps.ArrKey Try.prog 45 3 3 := ⟨by kernel_rfl, by kernel_rfl, by kernel_rfl, by kernel_rfl⟩

set_option maxRecDepth 100000 in
theorem lifted (os : Os) (started : os.Started) (H : Type) (enc : TypeId × Value → H) :
    ReturnsInHanded {} Try.checked os 17 .any (Rows.stripWeighedSpec.pre6 enc Try.prog Try.f17 Rows.stripWeighedRow.domain false) (Rows.stripWeighedSpec.post enc Try.prog Try.f17 false true false false) := by
  refine returnsInHanded_of_change_sized (C := Try.checked) own started (by kernel_rfl) Try.func17
    (ChangeSpec.witness6 (enc := enc) (C := Try.checked) false ⟨#[], #[.agg #[.int .i64 0, .slice none 0 0, .slice none 0 0], .agg #[.int .i64 0, .int .i64 0, .int .i64 0], .slice none 0 0], []⟩ 8 (by kernel_rfl) (by kernel_rfl) (by kernel_rfl) (by kernel_rfl)) ?_
  intro W base args ds gs before hval0 hW hcnd hsz0 _
  have hsz : (DataW.weightsEach Try.prog (Try.f17.params.toList ++ Rows.stripWeighedSpec.plain.varTypes Try.prog) (ds ++ gs)).all (· ≤ reachBytes) = true := hsz0
  have hval : ∀ (j : Nat) t v, Try.f17.params[j]? = some t → args[j]? = some v → Value.okWide Try.prog W .any base t v := hval0
  have hW' := hW
  obtain ⟨p, q, hA0, hV, rfl, hfz, hnd⟩ := hW
  have hA : DataW.TrodAll enc Try.prog W 0 (fun _ => true) true Try.f17.params.toList args.toList ds p := hA0
  rw [Try.params17] at hA hval hsz
  obtain ⟨v0, vs0, d0, ds0, p0, q0, hargs, rfl, rfl, h0, r0⟩ := trodAll_cons hA
  obtain ⟨v1, vs1, d1, ds1, p1, q1, rfl, rfl, rfl, h1, r1⟩ := trodAll_cons r0
  obtain ⟨v2, vs2, d2, ds2, p2, q2, rfl, rfl, rfl, h2, r2⟩ := trodAll_cons r1
  obtain ⟨rfl, rfl, rfl⟩ := trodAll_nil r2
  obtain rfl : args = #[v0, v1, v2] := by cases args; simp_all
  obtain ⟨rfl, rfl⟩ := trodVars_none hV
  have km0 := h0
  have lt0 : ∀ x ∈ p0, x.block < W.heap.size := by obtain ⟨m, hm⟩ := km0; exact DataW.trod_lt m _ _ _ hm
  obtain ⟨φm1, Hm1, qm1, xm1, ym1, lm1, lk1, om1, rm1, sm1, em1, nm1, pm1, pk1⟩ := rule_lo rfl (e0_hr (CK := ckOf Try.prog) (fun _ => ⟨0, 0, 0⟩) W) rule24 Try.underlying22 Try.underlying54 Try.underlying3 (by kernel_rfl) (hval 0 24 v0 rfl rfl) h0
  obtain ⟨a0, a1, a2, rfl, rfl, rfl, w0, w1, w2⟩ := open_three arr45 Try.underlying3 (hval 1 45 v1 rfl rfl) h1
  have km2 := h2
  have lt2 : ∀ x ∈ p2, x.block < W.heap.size := by obtain ⟨m, hm⟩ := km2; exact DataW.trod_lt m _ _ _ hm
  obtain ⟨φm2, Hm2, xm2, lm2, om2, rm2, sm2, em2, nm2, pm2⟩ := ints_lo om1 rm1 Try.underlying54 Try.underlying3 (by kernel_rfl) (okWide_slice Try.underlying54 (hval 2 54 v2 rfl rfl)) h2
  clear hA0 hval0 hsz0 hsz
  refine (calls_at (vals := [v0, .agg #[.int .i64 a0, .int .i64 a1, .int .i64 a2], v2]) Ev.follows Ev.ok Ev.t94 (by decide) (Ev.stripWeighed_ok Hm2 a0 a1 a2 (Go.AEv.MR.ext em2 pm1) (Go.AEv.MR.ext em2 pk1) pm2) rm2 ⟨_, _, rfl, (VR.step sm2 _ _ nm1), _, _, rfl, ⟨_, rfl, ⟨_, _, rfl, rfl, _, _, rfl, rfl, _, _, rfl, rfl, rfl⟩, fun x hx => by
      simp only [List.mem_cons, List.not_mem_nil, or_false] at hx
      rcases hx with rfl | rfl | rfl <;> rfl⟩, _, _, rfl, nm2, rfl⟩).mono fun e W' ⟨he, bel⟩ => ?_
  subst he
  exact ⟨_, rfl, _, _, _, [], _, [], hW', trodAll_mk1 (shut_bool Try.underlying4 _), (trodAll_cons_mk (Below.trod laidOut (by kernel_rfl) (of_decide_eq_true (by kernel_rfl)) km0 bel lt0) (trodAll_cons_mk (shut_three arr45 Try.underlying3 w0 w1 w2) (trodAll_cons_mk (Below.trod laidOut (by kernel_rfl) (of_decide_eq_true (by kernel_rfl)) km2 bel lt2) trodAll_mk0))), rfl, bel.frame _, fun h => by cases h⟩

theorem over : Rows.stripWeighedRow.holds Try.pinned (OpenSpec.ofChange Rows.stripWeighedSpec) :=
  OpenClaim.holds_of_wide 17 Try.f17 rfl rfl rfl rfl rfl rfl rfl ⟨rfl, rfl, rfl, rfl, rfl⟩ rfl rfl rfl rfl rfl (by kernel_rfl) Try.func17 (by kernel_rfl)
    (of_decide_eq_true (by kernel_rfl)) (by unfold Func.isWrapper; first | (rw [if_pos (by decide +kernel)]; kernel_rfl) | (rw [if_neg (by decide +kernel)]; exact ⟨rfl, rfl⟩))
    (fun os started H enc _ => lifted os started H enc)
theorem proved : Rows.StripWeighedSaid := over
end Go.Proofs.Ytljgfdamdcikgaa.stripWeighed
namespace Go.Proofs.Ytljgfdamdcikgaa
/-- The row, under a short name, for the claim. -/
theorem stripWeighed_holds : Rows.StripWeighedSaid := stripWeighed.proved
#print axioms stripWeighed_holds
end Go.Proofs.Ytljgfdamdcikgaa
