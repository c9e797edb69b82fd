/-
  What is known of the calls: of tame and of Chances too. No condition.
-/
import Derived.Test.YtlkgpcfhpeilhaaSTab
import Derived.Test.YtlkgpcfhpeilhaaSTame
import Derived.Test.YtlkgpcfhpeilhaaSChn
set_option linter.unusedVariables false
set_option linter.unusedSimpArgs false
namespace Go.Proofs.Ytlkgpcfhpeilhaa.Ev
open Go Go.AEv

def Got39 (h : Heap) (v : AV) (own : List AObj) (lot bad : Int) (A R : List Int) : Prop := ∃ ba br, v = .tup [.slice ba 0 A.length (2 * A.length), .slice br 0 A.length (2 * A.length), G 0] ∧ (h.plus own).get ba = .cells 2 (2 * A.length) (fz (yU lot bad (A.getD · 0) (R.getD · 0)) (yV lot bad (A.getD · 0) (R.getD · 0)) A.length) ∧ (h.plus own).get br = .cells 2 (2 * A.length) (fz (nU lot bad (A.getD · 0) (R.getD · 0)) (nV lot bad (A.getD · 0) (R.getD · 0)) A.length) ∧ own ≠ []
def Good39 (args : List AV) (h : Heap) (v : AV) (own : List AObj) : Prop := ∀ lot bad x y A R, args = [G lot, G bad, .agg [x, y]] → listOf h x = some A → listOf h y = some R →
  (lotOk lot bad ∧ crsOk lot A R → Got39 h v own lot bad A R) ∧ (¬ (lotOk lot bad ∧ crsOk lot A R) → v = .tup [.nils, .nils, G 2] ∧ own = [])

noncomputable def D9 : CallF := addX tbl D8 43 Good43
theorem u9 : Sound Go.Proofs.Try.prog D9 := Sound.addX follows ok u8 (by decide) Good43
noncomputable def D10 : CallF := addX tbl D9 39 Good39
theorem u10 : Sound Go.Proofs.Try.prog D10 := Sound.addX follows ok u9 (by decide) Good39

structure KnA (J : CallF) : Prop extends KnC J where
  k43 : ∀ (h : Heap) (lot : Int) (x y : AV) (A R : List Int) (hx : LR h x A) (hy : LR h y R) (hl : 1 ≤ lot ∧ lot ≤ 36), ∃ xa xr own La Lr, J 43 [G lot, x, y] h = some (.agg [xa, xr], own, false) ∧ listOf (h.plus own) xa = some La ∧ listOf (h.plus own) xr = some Lr ∧ crsOk lot La Lr ∧ own ≠ []
  k39 : ∀ (h : Heap) (lot bad : Int) (x y : AV) (A R : List Int) (hx : listOf h x = some A) (hy : listOf h y = some R) (hc : lotOk lot bad ∧ crsOk lot A R), ∃ v own, J 39 [G lot, G bad, .agg [x, y]] h = some (v, own, false) ∧ Got39 h v own lot bad A R
  k39n : ∀ (h : Heap) (lot bad : Int) (x y : AV) (A R : List Int) (hx : listOf h x = some A) (hy : listOf h y = some R) (hc : ¬ (lotOk lot bad ∧ crsOk lot A R)), J 39 [G lot, G bad, .agg [x, y]] h = some (.tup [.nils, .nils, G 2], [], false)
theorem knD10 : Kn D10 := ⟨f67, f68, f59, f52, f60, f54, f58, f57, f56, f25, f18, f20, f30, f29, f31, f24, f22, f28, f23, f55, f27, f55r⟩
theorem knD9 : Kn D9 := ⟨f67, f68, f59, f52, f60, f54, f58, f57, f56, f25, f18, f20, f30, f29, f31, f24, f22, f28, f23, f55, f27, f55r⟩
theorem y43 (h : Heap) (lot : Int) (x y : AV) (A R : List Int) (hx : LR h x A) (hy : LR h y R) (hl : 1 ≤ lot ∧ lot ≤ 36) : ∃ xa xr own La Lr, D10 43 [G lot, x, y] h = some (.agg [xa, xr], own, false) ∧ listOf (h.plus own) xa = some La ∧ listOf (h.plus own) xr = some Lr ∧ crsOk lot La Lr ∧ own ≠ [] := by
  obtain ⟨v, own, e, xa, xr, La, Lr, q1, q2⟩ := c43_ok D8 knD8 (fun _ _ => rfl) h hx hy hl
  obtain ⟨v', own', e', g⟩ := addX_some (tbl := tbl) (I := D8) (f := 43) (Good := Good43) (args := [G lot, x, y]) (h := h) ⟨v, own, e, fun lot' x' y' A' R' hargs h1 h2 h3 h4 => by
    simp only [List.cons.injEq, AV.int.injEq, true_and, and_true] at hargs
    obtain ⟨rfl, rfl, rfl⟩ := hargs
    exact ⟨xa, xr, La, Lr, q1, q2⟩⟩
  obtain ⟨xa', xr', La', Lr', r1, r2⟩ := g lot x y A R rfl hx hy hl.1 hl.2
  have : D9 43 [G lot, x, y] h = some (v', own', false) := e'
  rw [r1] at this
  exact ⟨xa', xr', own', La', Lr', this, r2⟩
theorem listOf_inj {h : Heap} {x : AV} {a b : List Int} (e : listOf h x = some a) (e' : listOf h x = some b) : a = b := by rw [e] at e'; exact Option.some.inj e'
theorem w62 : K62 D9 := y62
theorem w63 : K63 D9 := fun h tb lot bad x y => rfl
theorem y39 (h : Heap) (lot bad : Int) (x y : AV) (A R : List Int) (hx : listOf h x = some A) (hy : listOf h y = some R) (hc : lotOk lot bad ∧ crsOk lot A R) : ∃ v own, D10 39 [G lot, G bad, .agg [x, y]] h = some (v, own, false) ∧ Got39 h v own lot bad A R := by
  have key : ∃ v own, CallsTo tbl D9 39 [G lot, G bad, .agg [x, y]] h (v, own, false) ∧ Got39 h v own lot bad A R := by
    have hc2 := hc.2
    rcases listOf_some hx with ⟨rfl, rfl⟩ | ⟨bA, vA, rfl, gA⟩
    · exact absurd hc2.1.1 (by simp)
    · rcases listOf_some hy with ⟨rfl, rfl⟩ | ⟨bR, vR, rfl, gR⟩
      · have := hc2.1.1; have := hc2.2.1; simp at this; omega
      · rw [hc2.2.1]
        exact c39_good D9 knD9 w62 w63 (fun _ _ => rfl) (fun _ _ => rfl) h gA gR rfl hc.1 hc2
  obtain ⟨v, own, e, q⟩ := key
  obtain ⟨v', own', e', g⟩ := addX_some (tbl := tbl) (I := D9) (f := 39) (Good := Good39) (args := [G lot, G bad, .agg [x, y]]) (h := h) ⟨v, own, e, fun lot' bad' x' y' A' R' hargs h1 h2 => by
    simp only [List.cons.injEq, AV.int.injEq, AV.agg.injEq, true_and, and_true] at hargs
    obtain ⟨rfl, rfl, rfl, rfl⟩ := hargs
    obtain rfl := listOf_inj hx h1
    obtain rfl := listOf_inj hy h2
    exact ⟨fun _ => q, fun hn => absurd hc hn⟩⟩
  exact ⟨v', own', e', (g lot bad x y A R rfl hx hy).1 hc⟩
theorem y39n (h : Heap) (lot bad : Int) (x y : AV) (A R : List Int) (hx : listOf h x = some A) (hy : listOf h y = some R) (hc : ¬ (lotOk lot bad ∧ crsOk lot A R)) : D10 39 [G lot, G bad, .agg [x, y]] h = some (.tup [.nils, .nils, G 2], [], false) := by
  have e := c39_bad D9 knD9 w62 (fun _ _ => rfl) h x y hx hy hc
  obtain ⟨v', own', e', g⟩ := addX_some (tbl := tbl) (I := D9) (f := 39) (Good := Good39) (args := [G lot, G bad, .agg [x, y]]) (h := h) ⟨_, _, e, fun lot' bad' x' y' A' R' hargs h1 h2 => by
    simp only [List.cons.injEq, AV.int.injEq, AV.agg.injEq, true_and, and_true] at hargs
    obtain ⟨rfl, rfl, rfl, rfl⟩ := hargs
    obtain rfl := listOf_inj hx h1
    obtain rfl := listOf_inj hy h2
    exact ⟨fun hn => absurd hn hc, fun _ => ⟨rfl, rfl⟩⟩⟩
  obtain ⟨r1, r2⟩ := (g lot bad x y A R rfl hx hy).2 hc
  have : D10 39 [G lot, G bad, .agg [x, y]] h = some (v', own', false) := e'
  rw [r1, r2] at this
  exact this
theorem knC10 : KnC D10 := ⟨knD10, y26, y32, y33, y33n, y34, y34n⟩
theorem knA10 : KnA D10 := ⟨knC10, y43, y39, y39n⟩

end Go.Proofs.Ytlkgpcfhpeilhaa.Ev
