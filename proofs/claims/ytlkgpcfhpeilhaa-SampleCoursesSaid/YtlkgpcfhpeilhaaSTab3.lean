/-
  What is known of the calls: of list and course too. No condition.
-/
import Derived.Test.YtlkgpcfhpeilhaaSTab2
import Derived.Test.YtlkgpcfhpeilhaaSList
set_option linter.unusedVariables false
set_option linter.unusedSimpArgs false
namespace Go.Proofs.Ytlkgpcfhpeilhaa.Ev
open Go Go.AEv

def Good38 (args : List AV) (h : Heap) (v : AV) (own : List AObj) : Prop := ∀ x y A R, args = [.agg [x, y]] → LR h x A → LR h y R → ∃ A' R', A'.take 37 = A.take 37 ∧ R'.take 37 = R.take 37 ∧ (A ≠ [] → A' ≠ []) ∧ Got38 h v own A' R'
noncomputable def D11 : CallF := addI D10 64 spec64
theorem u11 : Sound Go.Proofs.Try.prog D11 := Sound.add follows ok u10 (by decide) (fun args h x e => spec64_ok D10 (fun _ _ => rfl) args h x e)
theorem y64 : K64 D11 := fun h x A hx => by
  have : D11 64 [x] h = spec64 [x] h := by simp only [D11, addI, if_true]
  rw [this]; exact s64 hx
noncomputable def D12 : CallF := addX tbl D11 38 Good38
theorem u12 : Sound Go.Proofs.Try.prog D12 := Sound.addX follows ok u11 (by decide) Good38
theorem LR.inj {h : Heap} {x : AV} {a b : List Int} (e : LR h x a) (e' : LR h x b) : a = b := by
  rcases e with e | ⟨rfl, rfl⟩ <;> rcases e' with e' | ⟨h1, h2⟩
  · exact listOf_inj e e'
  · subst h1; cases e
  · cases e'
  · exact h2.symm
theorem y38 (h : Heap) (x y : AV) (A R : List Int) (hx : LR h x A) (hy : LR h y R) : ∃ xa xr own, D12 38 [.agg [x, y]] h = some (.agg [xa, xr], own, false) ∧ listOf (h.plus own) xa = some (A.take 37) ∧ listOf (h.plus own) xr = some (R.take 37) ∧ (A ≠ [] → own ≠ []) := by
  obtain ⟨v, own, e, q⟩ := c38_ok D11 y64 (fun _ _ => rfl) h hx hy
  obtain ⟨v', own', e', g⟩ := addX_some (tbl := tbl) (I := D11) (f := 38) (Good := Good38) (args := [.agg [x, y]]) (h := h) ⟨v, own, e, fun x' y' A' R' hargs h1 h2 => by
    simp only [List.cons.injEq, AV.agg.injEq, and_true] at hargs
    obtain ⟨rfl, rfl⟩ := hargs
    obtain rfl := LR.inj hx h1
    obtain rfl := LR.inj hy h2
    exact ⟨_, _, rfl, rfl, id, q⟩⟩
  obtain ⟨A', R', q1, q2, q3, xa, xr, rfl, l1, l2, l3⟩ := g x y A R rfl hx hy
  rw [q1] at l1
  rw [q2] at l2
  exact ⟨xa, xr, own', e', l1, l2, fun hA => l3 (q3 hA)⟩

structure KnB (J : CallF) : Prop extends KnA J where
  k38 : ∀ (h : Heap) (x y : AV) (A R : List Int) (hx : LR h x A) (hy : LR h y R), ∃ xa xr own, J 38 [.agg [x, y]] h = some (.agg [xa, xr], own, false) ∧ listOf (h.plus own) xa = some (A.take 37) ∧ listOf (h.plus own) xr = some (R.take 37) ∧ (A ≠ [] → own ≠ [])
theorem knD12 : Kn D12 := ⟨f67, f68, f59, f52, f60, f54, f58, f57, f56, f25, f18, f20, f30, f29, f31, f24, f22, f28, f23, f55, f27, f55r⟩
theorem knC12 : KnC D12 := ⟨knD12, y26, y32, y33, y33n, y34, y34n⟩
theorem knA12 : KnA D12 := ⟨knC12, y43, y39, y39n⟩
theorem knB12 : KnB D12 := ⟨knA12, y38⟩

end Go.Proofs.Ytlkgpcfhpeilhaa.Ev
