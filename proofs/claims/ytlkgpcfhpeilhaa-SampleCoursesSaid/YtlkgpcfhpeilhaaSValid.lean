/-
  What valid answers of a reduced fraction. No condition.
-/
import Derived.Test.YtlkgpcfhpeilhaaSHelp
set_option linter.unusedVariables false
set_option linter.unusedSimpArgs false
namespace Go.Proofs.Ytlkgpcfhpeilhaa.Ev
open Go Go.AEv

attribute [local simp] evFunc initS evOps_c evTrim_c evSkip_c evExit_c evRet_c evSeq_c evCond_c evBlock_c evDraw_c runOps_n runOps_c exec_n exec_g pure1_c act AOpd.ev T.get T.set T.put evBin evUn forceT_eq forceV_eq forceL_eq evRess evRes one keep runFP_n runFP_c app_none AV.flats AV.flat

/-! ### valid -/
def vOk (u v : Int) : Prop := (0 ≤ u ∧ u ≤ 1099511627776) ∧ (1 ≤ v ∧ v ≤ 1099511627776) ∧ Nat.gcd u.toNat v.toNat = 1
instance (a b : Int) : Decidable (vOk a b) := by unfold vOk; infer_instance
def spec26 : SpecV
  | [.agg [.int .i64 u, .int .i64 v]] => if vOk u v then some (.bool true) else none
  | _ => none

theorem c26_ok (J : CallF) (K : Kn J) (hJ : ∀ a h, J 26 a h = none) (u v : Int) (h1 : vOk u v) : CallsTo tbl J 26 [.agg [G u, G v]] e0 (.bool true, [], false) := by
  obtain ⟨⟨a1, a2⟩, ⟨b1, b2⟩, g⟩ := h1
  have e : fr u v = .agg [G u, G v] := by unfold fr; rw [g]; simp
  refine CallsTo.plain (cf := c26) (h' := ⟨e0.get, 0, [.cells 0 2 [G u, G v]]⟩) (by decide) rfl (hJ _ _) rfl rfl ?_
  rw [show frameOf e0 = ⟨e0.get, 0, []⟩ from rfl]
  simp (disch := first | omega | exact getEq rfl) [c26, c26_o0, c26_o1, came_some, goI, List.getElem?_cons_zero, List.getElem?_cons_succ, kn, keep, frameOf, Heap.size, Heap.get, Eff.app, Heap.setOwn, putAt, AV.cells, fillA, loadA, takeA, mk, Eff.isAll, Eff.isNone, Eff.commutes, Eff.spares, okPair, apart, eqAgg, fits, LK.fits, allEq, aveq, eqk, mmA, beqT, wrapI, idxI, tdivI, tmodI, decT, decF, ibT, ibF, inT, inF, evScope_c, if_pos, if_neg, K.k25, e]

end Go.Proofs.Ytlkgpcfhpeilhaa.Ev
