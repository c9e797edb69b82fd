/-
  What is known of Bounds and the reference's Bounds. No condition.
-/
import Derived.Test.YtjeemgaoonapgaaRBnd2
set_option linter.unusedVariables false
set_option linter.unusedSimpArgs false
namespace Go.Proofs.Ytjeemgaoonapgaa.Ev
open Go Go.AEv

/-! ### What is known -/
def Good20 (args : List AV) (h : Heap) (v : AV) (own : List AObj) : Prop := ∀ y x M X, args = [y, x] → MR h y M → LR h x X → own = [] ∧ (vOk 1 M X → v = .tup [(bdV M X).1, (bdV M X).2, G 0]) ∧ (¬ vOk 1 M X → v = .tup [.agg [G 0, G 0], .agg [G 0, G 0], G 2])
def Good26 (args : List AV) (h : Heap) (v : AV) (own : List AObj) : Prop := ∀ y x M X, args = [y, x] → MR h y M → LR h x X → vOk 1 M X → own = [] ∧ v = .tup [(bdV M X).1, (bdV M X).2]
noncomputable def R20 : CallF := addX tbl R19 20 Good20
theorem s20 : Sound Go.Proofs.Try.prog R20 := Sound.addX follows ok s19 (by decide) Good20
noncomputable def R21 : CallF := addX tbl R20 26 Good26
theorem s21 : Sound Go.Proofs.Try.prog R21 := Sound.addX follows ok s20 (by decide) Good26
abbrev K20 (J : CallF) : Prop := ∀ (h : Heap) (y x : AV) (M : List (List Int)) (X : List Int), MR h y M → LR h x X → vOk 1 M X → J 20 [y, x] h = some (.tup [(bdV M X).1, (bdV M X).2, G 0], [], false)
abbrev K20n (J : CallF) : Prop := ∀ (h : Heap) (y x : AV) (M : List (List Int)) (X : List Int), MR h y M → LR h x X → X.length < 9223372036854775808 → ¬ vOk 1 M X → J 20 [y, x] h = some (.tup [.agg [G 0, G 0], .agg [G 0, G 0], G 2], [], false)
abbrev K26 (J : CallF) : Prop := ∀ (h : Heap) (y x : AV) (M : List (List Int)) (X : List Int), MR h y M → LR h x X → vOk 1 M X → J 26 [y, x] h = some (.tup [(bdV M X).1, (bdV M X).2], [], false)
theorem good20 {h : Heap} {y x : AV} {M : List (List Int)} {X : List Int} {v : AV} {own : List AObj} (hy : MR h y M) (hx : LR h x X) (a : own = [] ∧ (vOk 1 M X → v = .tup [(bdV M X).1, (bdV M X).2, G 0]) ∧ (¬ vOk 1 M X → v = .tup [.agg [G 0, G 0], .agg [G 0, G 0], G 2])) : Good20 [y, x] h v own := fun y' x' M' X' hargs h1 h2 => by
  simp only [List.cons.injEq, and_true] at hargs
  obtain ⟨rfl, rfl⟩ := hargs
  obtain rfl := hy.inj h1
  obtain rfl := LR.inj hx h2
  exact a
theorem addI_ne {I : CallF} {f g : Nat} {spec : SpecF} (hg : g ≠ f) (args : List AV) (h : Heap) : addI I f spec g args h = I g args h := if_neg hg
theorem addV_ne {I : CallF} {f g : Nat} {spec : SpecV} (hg : g ≠ f) (args : List AV) (h : Heap) : addV I f spec g args h = I g args h := if_neg hg
theorem k60_19 : K60 R19 := fun a b h h1 h2 h3 h4 => by
  simp (disch := decide) only [R19, R18, R17, R16, R15, R14, R13, R12, R11, R10, R9, R8, R7, R6, R5, addI_ne, addV_ne, addX_ne]
  exact k60 a b h h1 h2 h3 h4
theorem k61_20 : K61 R20 := fun a b h h1 h2 h3 h4 => by
  simp (disch := decide) only [R20, R19, R18, R17, R16, R15, R14, R13, R12, R11, R10, R9, R8, R7, addI_ne, addV_ne, addX_ne]
  exact k61 a b h h1 h2 h3 h4
theorem k54_19 : K54 R19 := fun h y M hy => by
  simp (disch := decide) only [R19, R18, R17, R16, R15, addI_ne, addX_ne]
  exact k54 h y M hy
theorem k55_19 : K55 R19 := fun f lo hi h x A a b c => by
  simp (disch := decide) only [R19, R18, R17, R16, R15, R14, R13, R12, addI_ne, addX_ne]
  exact k55 f lo hi h x A a b c
theorem k58_19 : K58 R19 := fun h x M X a b => by
  simp (disch := decide) only [R19, R18, addX_ne]
  exact k58 h x M X a b
theorem k25_20 : K25 R20 := fun h y x M X a b c => by
  simp (disch := decide) only [R20, addX_ne]
  exact k25 h y x M X a b c
theorem k20 : K20 R20 := fun h y x M X hy hx hv => by
  have e := c20_good R19 k54_19 k55_19 k58_19 k60_19 (fun _ _ => rfl) h hy hx hv
  obtain ⟨v', own', e', g⟩ := addX_some (tbl := tbl) (I := R19) (f := 20) (Good := Good20) (args := [y, x]) (h := h) ⟨_, _, e, good20 hy hx ⟨rfl, fun _ => rfl, fun q => absurd hv q⟩⟩
  obtain ⟨o1, o2, _⟩ := g y x M X rfl hy hx
  rw [o1, o2 hv] at e'
  exact e'
theorem k20n : K20n R20 := fun h y x M X hy hx hb hv => by
  have e := c20_bad R19 k54_19 k55_19 (fun _ _ => rfl) h hy hx hb hv
  obtain ⟨v', own', e', g⟩ := addX_some (tbl := tbl) (I := R19) (f := 20) (Good := Good20) (args := [y, x]) (h := h) ⟨_, _, e, good20 hy hx ⟨rfl, fun q => absurd q hv, fun _ => rfl⟩⟩
  obtain ⟨o1, _, o2⟩ := g y x M X rfl hy hx
  rw [o1, o2 hv] at e'
  exact e'
theorem k26 : K26 R21 := fun h y x M X hy hx hv => by
  have e := c26_ok R20 k25_20 k61_20 (fun _ _ => rfl) h hy hx hv
  obtain ⟨v', own', e', g⟩ := addX_some (tbl := tbl) (I := R20) (f := 26) (Good := Good26) (args := [y, x]) (h := h) ⟨_, _, e, fun y' x' M' X' hargs h1 h2 h3 => by
    simp only [List.cons.injEq, and_true] at hargs
    obtain ⟨rfl, rfl⟩ := hargs
    obtain rfl := hy.inj h1
    obtain rfl := LR.inj hx h2
    exact ⟨rfl, rfl⟩⟩
  obtain ⟨o1, o2⟩ := g y x M X rfl hy hx hv
  subst o1 o2
  exact e'

end Go.Proofs.Ytjeemgaoonapgaa.Ev
