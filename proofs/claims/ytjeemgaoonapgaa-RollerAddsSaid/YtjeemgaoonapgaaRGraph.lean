/-
  Walks in a matrix: plain laws, no program in sight. No condition.
-/
import Derived.Test.YtjeemgaoonapgaaRWlk3
set_option linter.unusedVariables false
set_option linter.unusedSimpArgs false
namespace Go.Proofs.Ytjeemgaoonapgaa.Ev
open Go Go.AEv

/-- There is a walk of so many steps. -/
def Wk (M : List (List Int)) : Nat → Nat → Nat → Prop
  | 0, i, j => i = j
  | k + 1, i, j => ∃ v, 0 < ent M i v ∧ Wk M k v j
section
variable {M : List (List Int)}
theorem ent_lt (hm : isMat M = true) {i j : Nat} (h : 0 < ent M i j) : i < M.length ∧ j < M.length := by
  refine ⟨?_, ?_⟩ <;> apply Nat.lt_of_not_le <;> intro c
  · rw [ent_out hm (.inl c)] at h; omega
  · rw [ent_out hm (.inr c)] at h; omega
theorem Wk.add : ∀ {a b i v j : Nat}, Wk M a i v → Wk M b v j → Wk M (a + b) i j
  | 0, b, i, v, j, x, y => by
    have e : i = v := x
    subst e
    rw [Nat.zero_add]; exact y
  | a + 1, b, i, v, j, ⟨u, e, x⟩, y => by
    rw [show a + 1 + b = (a + b) + 1 by omega]
    exact ⟨u, e, Wk.add x y⟩
theorem Wk.split : ∀ (a : Nat) {b i j : Nat}, Wk M (a + b) i j → ∃ v, Wk M a i v ∧ Wk M b v j
  | 0, b, i, j, x => ⟨i, rfl, by rwa [Nat.zero_add] at x⟩
  | a + 1, b, i, j, x => by
    rw [show a + 1 + b = (a + b) + 1 by omega] at x
    obtain ⟨u, e, x⟩ := x
    obtain ⟨v, y, z⟩ := Wk.split a x
    exact ⟨v, ⟨u, e, y⟩, z⟩
theorem Wk.one {i j : Nat} (h : 0 < ent M i j) : Wk M 1 i j := ⟨j, h, rfl⟩
theorem Wk.one_iff {i j : Nat} : Wk M 1 i j ↔ 0 < ent M i j := ⟨fun ⟨v, e, x⟩ => by
  have : v = j := x
  subst this; exact e, Wk.one⟩
theorem Wk.snoc {k i j : Nat} : Wk M (k + 1) i j ↔ ∃ v, Wk M k i v ∧ 0 < ent M v j := by
  constructor
  · intro x
    obtain ⟨v, a, b⟩ := Wk.split k x
    exact ⟨v, a, Wk.one_iff.1 b⟩
  · rintro ⟨v, a, b⟩
    exact a.add (Wk.one b)
theorem Wk.lt (hm : isMat M = true) {k i j : Nat} (x : Wk M (k + 1) i j) : i < M.length ∧ j < M.length := by
  obtain ⟨v, e, _⟩ := id x
  obtain ⟨w, _, e'⟩ := Wk.snoc.1 x
  exact ⟨(ent_lt hm e).1, (ent_lt hm e').2⟩
theorem Wk.lt' (hm : isMat M = true) {k i j : Nat} (x : Wk M k i j) (hi : i < M.length) : j < M.length := by
  cases k with
  | zero => have : i = j := x
            omega
  | succ k => exact (x.lt hm).2
/-! ### Powers of the relation -/
def fullB (M : List (List Int)) (k : Nat) : Bool := (List.range M.length).all fun i => (List.range M.length).all fun j => cw M j k i
/-! ### What leads to what -/
def Rc (M : List (List Int)) (i j : Nat) : Prop := ∃ k, Wk M k i j
theorem Rc.refl (i : Nat) : Rc M i i := ⟨0, rfl⟩
theorem Rc.trans {i j k : Nat} (a : Rc M i j) (b : Rc M j k) : Rc M i k := by
  obtain ⟨x, a⟩ := a
  obtain ⟨y, b⟩ := b
  exact ⟨x + y, a.add b⟩
theorem Rc.one {i j : Nat} (h : 0 < ent M i j) : Rc M i j := ⟨1, Wk.one h⟩
theorem Rc.lt (hm : isMat M = true) {i j : Nat} (a : Rc M i j) (hi : i < M.length) : j < M.length := by
  obtain ⟨k, a⟩ := a; exact a.lt' hm hi
/-! ### Classes -/
def Mu (M : List (List Int)) (i j : Nat) : Prop := Rc M i j ∧ Rc M j i
theorem Mu.symm {i j : Nat} (h : Mu M i j) : Mu M j i := ⟨h.2, h.1⟩
theorem Mu.refl (i : Nat) : Mu M i i := ⟨Rc.refl i, Rc.refl i⟩
theorem Mu.trans {i j k : Nat} (h : Mu M i j) (g : Mu M j k) : Mu M i k := ⟨h.1.trans g.1, g.2.trans h.2⟩
end

end Go.Proofs.Ytjeemgaoonapgaa.Ev
