/-
  Walks in a matrix: plain laws, no program in sight. No condition.
-/
import Derived.Test.YtjeemgaoonapgaaRWlk3
set_option linter.unusedVariables false
set_option linter.unusedSimpArgs false
namespace Go.Proofs.Ytjeemgaoonapgaa.Ev
open Go Go.AEv

/-- There is a walk of so many steps. -/
def Wk (M : List (List Int)) : Nat → Nat → Nat → Prop
  | 0, i, j => i = j
  | k + 1, i, j => ∃ v, 0 < ent M i v ∧ Wk M k v j
section
variable {M : List (List Int)}
theorem ent_lt (hm : isMat M = true) {i j : Nat} (h : 0 < ent M i j) : i < M.length ∧ j < M.length := by
  refine ⟨?_, ?_⟩ <;> apply Nat.lt_of_not_le <;> intro c
  · rw [ent_out hm (.inl c)] at h; omega
  · rw [ent_out hm (.inr c)] at h; omega
theorem Wk.add : ∀ {a b i v j : Nat}, Wk M a i v → Wk M b v j → Wk M (a + b) i j
  | 0, b, i, v, j, x, y => by
    have e : i = v := x
    subst e
    rw [Nat.zero_add]; exact y
  | a + 1, b, i, v, j, ⟨u, e, x⟩, y => by
    rw [show a + 1 + b = (a + b) + 1 by omega]
    exact ⟨u, e, Wk.add x y⟩
theorem Wk.split : ∀ (a : Nat) {b i j : Nat}, Wk M (a + b) i j → ∃ v, Wk M a i v ∧ Wk M b v j
  | 0, b, i, j, x => ⟨i, rfl, by rwa [Nat.zero_add] at x⟩
  | a + 1, b, i, j, x => by
    rw [show a + 1 + b = (a + b) + 1 by omega] at x
    obtain ⟨u, e, x⟩ := x
    obtain ⟨v, y, z⟩ := Wk.split a x
    exact ⟨v, ⟨u, e, y⟩, z⟩
theorem Wk.one {i j : Nat} (h : 0 < ent M i j) : Wk M 1 i j := ⟨j, h, rfl⟩
theorem Wk.one_iff {i j : Nat} : Wk M 1 i j ↔ 0 < ent M i j := ⟨fun ⟨v, e, x⟩ => by
  have : v = j := x
  subst this; exact e, Wk.one⟩
theorem Wk.snoc {k i j : Nat} : Wk M (k + 1) i j ↔ ∃ v, Wk M k i v ∧ 0 < ent M v j := by
  constructor
  · intro x
    obtain ⟨v, a, b⟩ := Wk.split k x
    exact ⟨v, a, Wk.one_iff.1 b⟩
  · rintro ⟨v, a, b⟩
    exact a.add (Wk.one b)
theorem Wk.lt (hm : isMat M = true) {k i j : Nat} (x : Wk M (k + 1) i j) : i < M.length ∧ j < M.length := by
  obtain ⟨v, e, _⟩ := id x
  obtain ⟨w, _, e'⟩ := Wk.snoc.1 x
  exact ⟨(ent_lt hm e).1, (ent_lt hm e').2⟩
theorem Wk.lt' (hm : isMat M = true) {k i j : Nat} (x : Wk M k i j) (hi : i < M.length) : j < M.length := by
  cases k with
  | zero => have : i = j := x
            omega
  | succ k => exact (x.lt hm).2
theorem Wk.lt0 (hm : isMat M = true) {k i j : Nat} (x : Wk M k i j) (hj : j < M.length) : i < M.length := by
  cases k with
  | zero => have : i = j := x
            omega
  | succ k => exact (x.lt hm).1
theorem cw_iff (hm : isMat M = true) {j : Nat} : ∀ {k u : Nat}, cw M j k u = true ↔ Wk M k u j
  | 0, u => by
    show decide (u = j) = true ↔ u = j
    rw [decide_eq_true_eq]
  | k + 1, u => by
    show pv M (cw M j k) u M.length = true ↔ ∃ v, 0 < ent M u v ∧ Wk M k v j
    rw [pv_ex]
    constructor
    · rintro ⟨v, _, a, b⟩; exact ⟨v, a, (cw_iff hm).1 b⟩
    · rintro ⟨v, a, b⟩; exact ⟨v, (ent_lt hm a).2, a, (cw_iff hm).2 b⟩

/-! ### Powers of the relation -/
def pw (M : List (List Int)) : Nat → Nat → Bool
  | 0 => stF M
  | k + 1 => tmf (pw M k) (stF M)
theorem pr_ex {r q : Nat → Bool} {i j : Nat} : ∀ {n}, pr r q i j n = true ↔ ∃ k, k < n ∧ r (i * 8 + k) = true ∧ q (k * 8 + j) = true
  | 0 => by simp [pr]
  | n + 1 => by
    show (pr r q i j n || (r (i * 8 + n) && q (n * 8 + j))) = true ↔ _
    rw [Bool.or_eq_true, pr_ex (n := n), Bool.and_eq_true]
    constructor
    · rintro (⟨v, a, b⟩ | b)
      · exact ⟨v, by omega, b⟩
      · exact ⟨n, by omega, b⟩
    · rintro ⟨v, a, b⟩
      by_cases e : v = n
      · subst e; exact .inr b
      · exact .inl ⟨v, by omega, b⟩
theorem pw_iff (hm : isMat M = true) : ∀ {k x : Nat}, pw M k x = true ↔ Wk M (k + 1) (x / 8) (x % 8)
  | 0, x => by
    show decide (0 < ent M (x / 8) (x % 8)) = true ↔ _
    rw [decide_eq_true_eq, Wk.one_iff]
  | k + 1, x => by
    have h8 := isMat_n hm
    show pr (pw M k) (stF M) (x / 8) (x % 8) 8 = true ↔ Wk M (k + 1 + 1) (x / 8) (x % 8)
    rw [pr_ex, Wk.snoc]
    constructor
    · rintro ⟨v, hv, a, b⟩
      have a' := (pw_iff hm).1 a
      rw [show (x / 8 * 8 + v) / 8 = x / 8 by omega, show (x / 8 * 8 + v) % 8 = v by omega] at a'
      refine ⟨v, a', ?_⟩
      unfold stF at b
      rw [decide_eq_true_eq, show (v * 8 + x % 8) / 8 = v by omega, show (v * 8 + x % 8) % 8 = x % 8 by omega] at b
      exact b
    · rintro ⟨v, a, b⟩
      have hv := (ent_lt hm b).1
      refine ⟨v, by omega, (pw_iff hm).2 ?_, ?_⟩
      · rw [show (x / 8 * 8 + v) / 8 = x / 8 by omega, show (x / 8 * 8 + v) % 8 = v by omega]; exact a
      · unfold stF
        rw [decide_eq_true_eq, show (v * 8 + x % 8) / 8 = v by omega, show (v * 8 + x % 8) % 8 = x % 8 by omega]
        exact b
/-- All numbers of a power are positive. -/
def Full (M : List (List Int)) (k : Nat) : Prop := ∀ i, i < M.length → ∀ j, j < M.length → Wk M k i j
def fullB (M : List (List Int)) (k : Nat) : Bool := (List.range M.length).all fun i => (List.range M.length).all fun j => cw M j k i
theorem fullB_iff (hm : isMat M = true) {k : Nat} : fullB M k = true ↔ Full M k := by
  unfold fullB Full
  simp only [List.all_eq_true, List.mem_range, cw_iff hm]

/-! ### What leads to what -/
def Rc (M : List (List Int)) (i j : Nat) : Prop := ∃ k, Wk M k i j
theorem Rc.refl (i : Nat) : Rc M i i := ⟨0, rfl⟩
theorem Rc.trans {i j k : Nat} (a : Rc M i j) (b : Rc M j k) : Rc M i k := by
  obtain ⟨x, a⟩ := a
  obtain ⟨y, b⟩ := b
  exact ⟨x + y, a.add b⟩
theorem Rc.one {i j : Nat} (h : 0 < ent M i j) : Rc M i j := ⟨1, Wk.one h⟩
theorem Rc.lt (hm : isMat M = true) {i j : Nat} (a : Rc M i j) (hi : i < M.length) : j < M.length := by
  obtain ⟨k, a⟩ := a; exact a.lt' hm hi
/-! ### Classes -/
def Mu (M : List (List Int)) (i j : Nat) : Prop := Rc M i j ∧ Rc M j i
theorem Mu.symm {i j : Nat} (h : Mu M i j) : Mu M j i := ⟨h.2, h.1⟩
theorem Mu.refl (i : Nat) : Mu M i i := ⟨Rc.refl i, Rc.refl i⟩
theorem Mu.trans {i j k : Nat} (h : Mu M i j) (g : Mu M j k) : Mu M i k := ⟨h.1.trans g.1, g.2.trans h.2⟩
end

end Go.Proofs.Ytjeemgaoonapgaa.Ev
