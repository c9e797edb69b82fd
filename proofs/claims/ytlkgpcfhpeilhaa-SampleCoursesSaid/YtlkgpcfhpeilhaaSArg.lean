/-
  Arguments that are structs of two slices of ints, in the caller's memory. No condition.
-/
import Derived.Test.YtlkgpcfhpeilhaaSArr
import Derived.Test.YtlkgpcfhpeilhaaEvAny
set_option linter.unusedVariables false
set_option linter.unusedSimpArgs false
namespace Go.AEv
open Go.ChangeShapes Go.WideShapes

theorem two_lo {CK : CKT} {φ : Nat → Emb} {h : Heap} {w : World} (ho : h.own = []) (hr : HR CK w [] φ h w) {H : Type} {enc : TypeId × Value → H} {P : Program} {k e i : TypeId} {f g : Field} {v : Value} {d : DataW H} {p : List MemPlace} (A : RecKey P k e f g)
    (he : P.underlying e = some (.slice i)) (hi : P.underlying i = some (.int .i64)) (hc : P.cellsOf i = 1) {r : Reach} {b0 : Nat} (hval : Value.okWide P w r b0 k v) (kd : DataW.Trod enc P w 0 (fun _ => true) true k v d p) :
    ∃ φ' h' x y l1 l2, h'.own = [] ∧ HR CK w [] φ' h' w ∧ Stp φ h φ' h' ∧ Ext h h' ∧ VR φ' h' (.agg [x, y]) v ∧ LR h' x l1 ∧ LR h' y l2 := by
  obtain ⟨c0, c1, rfl⟩ := okWide_rec A hval
  obtain ⟨fuel, hf⟩ := kd
  cases fuel with
  | zero => simp [DataW.trod] at hf
  | succ n =>
    rw [DataW.trod_step] at hf
    unfold DataW.trodStep at hf
    simp only [A.hu, Value.cells] at hf
    rw [if_pos (by rw [A.size]; rfl)] at hf
    simp only [Option.map_eq_some_iff] at hf
    obtain ⟨xs, hx, e1⟩ := hf
    rw [List.mapM_cons, List.mapM_cons, List.mapM_nil] at hx
    simp only [bind, Option.bind_eq_some_iff, pure, Option.some.injEq, A.one, A.f1, A.f2, A.o1, A.o2] at hx
    obtain ⟨y0, h0, _, ⟨y1, h1, _, rfl, rfl⟩, rfl⟩ := hx
    have h0' : DataW.trod enc P w 0 (fun _ => true) true n e [c0] = some y0 := h0
    have h1' : DataW.trod enc P w 0 (fun _ => true) true n e [c1] = some y1 := h1
    obtain ⟨φ1, m1, x, l1, o1, r1, s1, x1, v1, p1, q1⟩ := ints_lo0 ho hr he hi hc h0'
    obtain ⟨φ2, m2, y, l2, o2, r2, s2, x2, v2, p2, q2⟩ := ints_lo0 o1 r1 he hi hc h1'
    refine ⟨φ2, m2, x, y, l1, l2, o2, r2, s1.trans s2, x1.trans x2, ?_, p1.ext x2, p2⟩
    simp only [VR, VRs]
    refine ⟨#[c0, c1], rfl, ⟨c0, [c1], rfl, VR.step s2 _ _ v1, c1, [], rfl, v2, rfl⟩, fun z hz => ?_⟩
    simp only [List.mem_cons, List.not_mem_nil, or_false] at hz
    rcases hz with rfl | rfl
    · exact q1
    · exact q2
end Go.AEv
