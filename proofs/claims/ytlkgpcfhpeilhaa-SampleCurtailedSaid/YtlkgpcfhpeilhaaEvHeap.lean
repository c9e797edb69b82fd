/-
  Memories that are not written out: how they grow, and what stays. No condition.
-/
import Derived.Test.YtlkgpcfhpeilhaaEvTr
set_option linter.unusedVariables false
set_option linter.unusedSimpArgs false
namespace Go.AEv

theorem size_mk (lo : Nat → AObj) (N : Nat) (own : List AObj) : Heap.size ⟨lo, N, own⟩ = N + own.length := rfl
theorem get_mk_lt (lo : Nat → AObj) (N : Nat) (own : List AObj) (b : Nat) (h : b < N) : Heap.get ⟨lo, N, own⟩ b = lo b := by unfold Heap.get; exact if_pos h
theorem get_mk_ge (lo : Nat → AObj) (N : Nat) (own : List AObj) (b : Nat) (h : N ≤ b) : Heap.get ⟨lo, N, own⟩ b = own.getD (b - N) .hole := by unfold Heap.get; exact if_neg (Nat.not_lt.2 h)

theorem nnT (a b : Nat) (h : a ≠ b) : (a != b) = true := by simpa using h

def Heap.plus (h : Heap) (xs : List AObj) : Heap := ⟨h.lo, h.N, h.own ++ xs⟩
theorem plus_N (h : Heap) (xs : List AObj) : (h.plus xs).N = h.N := rfl
theorem plus_size (h : Heap) (xs : List AObj) : (h.plus xs).size = h.size + xs.length := by simp [Heap.plus, Heap.size]; omega
theorem plus_plus (h : Heap) (xs ys : List AObj) : (h.plus xs).plus ys = h.plus (xs ++ ys) := by simp [Heap.plus]
theorem app_growP (h : Heap) (xs : List AObj) : Eff.app (.grow xs) h = some (h.plus xs) := by simp [Eff.app, forceL_eq, Heap.plus]
theorem app_noneP (h : Heap) : Eff.app .none h = some h := rfl
theorem plus_get (h : Heap) (xs : List AObj) (b : Nat) : (h.plus xs).get b = if b < h.size then h.get b else xs.getD (b - h.size) .hole := by
  show (if b < h.N then h.lo b else (h.own ++ xs).getD (b - h.N) .hole) = if b < h.N + h.own.length then (if b < h.N then h.lo b else h.own.getD (b - h.N) .hole) else xs.getD (b - (h.N + h.own.length)) .hole
  by_cases h1 : b < h.N
  · rw [if_pos h1, if_pos (by omega), if_pos h1]
  · rw [if_neg h1]
    by_cases h2 : b < h.N + h.own.length
    · rw [if_pos h2, if_neg h1, List.getD_eq_getElem?_getD, List.getElem?_append_left (by omega), ← List.getD_eq_getElem?_getD]
    · rw [if_neg h2, List.getD_eq_getElem?_getD, List.getElem?_append_right (by omega), ← List.getD_eq_getElem?_getD]; congr 1; omega
theorem plus_lt (h : Heap) (xs : List AObj) (b : Nat) (hb : b < h.size) : (h.plus xs).get b = h.get b := by rw [plus_get, if_pos hb]
theorem plus_ge (h : Heap) (xs : List AObj) (b : Nat) (hb : h.size ≤ b) : (h.plus xs).get b = xs.getD (b - h.size) .hole := by rw [plus_get, if_neg (by omega)]
theorem plus_at0 (h : Heap) (x : AObj) (xs : List AObj) (b : Nat) (hb : h.size = b) : (h.plus (x :: xs)).get b = x := by rw [plus_ge _ _ _ (by omega), hb, Nat.sub_self]; rfl

theorem get_lt {h : Heap} {b : Nat} {x : AObj} (e : h.get b = x) (hx : x ≠ .hole) : b < h.size := by
  unfold Heap.get at e
  by_cases hN : b < h.N
  · unfold Heap.size; omega
  · rw [if_neg hN] at e
    by_cases hb : b < h.size
    · exact hb
    · rw [List.getD_eq_getElem?_getD, List.getElem?_eq_none (by unfold Heap.size at hb; omega)] at e
      exact absurd e.symm hx

theorem plus_keep {h : Heap} {b : Nat} {x : AObj} (xs : List AObj) (e : h.get b = x) (hx : x ≠ .hole) : (h.plus xs).get b = x := by rw [plus_lt _ _ _ (get_lt e hx), e]
theorem put_plus (h : Heap) (xs : List AObj) (i v o g : Nat) (cs vs : List AV) (b : Nat) (hb : h.size + i = b) (hx : xs[i]? = some (.cells g v cs)) (ho : o + vs.length ≤ cs.length) :
    Eff.app (.put b v o vs) (h.plus xs) = some (h.plus (xs.set i (.cells g v (putAt cs o vs)))) := by
  have h1 : ¬ b < h.N := by unfold Heap.size at hb; omega
  have h2 : b - h.N = h.own.length + i := by unfold Heap.size at hb; omega
  simp only [Eff.app, Heap.plus, h1, if_false, h2]
  rw [List.getElem?_append_right (by omega), Nat.add_sub_cancel_left, hx]
  simp only [ho, and_self, if_true, forceL_eq, Heap.setOwn_eq, h2]
  rw [List.set_append_right _ _ (by omega), Nat.add_sub_cancel_left]
theorem put_plus0 (h : Heap) (v o g : Nat) (cs vs : List AV) (xs : List AObj) (b : Nat) (hb : h.size = b) (ho : o + vs.length ≤ cs.length) :
    Eff.app (.put b v o vs) (h.plus (.cells g v cs :: xs)) = some (h.plus (.cells g v (putAt cs o vs) :: xs)) := by
  rw [put_plus h _ 0 v o g cs vs b (by omega) rfl ho]; rfl

/-- One block is written anew. -/
def Heap.upd (h : Heap) (b : Nat) (x : AObj) : Heap := ⟨h.lo, h.N, h.own.set (b - h.N) x⟩
theorem upd_N (h : Heap) (b : Nat) (x : AObj) : (h.upd b x).N = h.N := rfl
theorem upd_size (h : Heap) (b : Nat) (x : AObj) : (h.upd b x).size = h.size := by simp [Heap.upd, Heap.size]
theorem upd_same (h : Heap) (b : Nat) (x : AObj) (h1 : h.N ≤ b) (h2 : b < h.size) : (h.upd b x).get b = x := by
  show (if b < h.N then h.lo b else (h.own.set (b - h.N) x).getD (b - h.N) .hole) = x
  rw [if_neg (by omega), List.getD_eq_getElem?_getD, List.getElem?_set_self (by unfold Heap.size at h2; omega)]; rfl
theorem upd_ne (h : Heap) (b c : Nat) (x : AObj) (h1 : h.N ≤ b) (h2 : b ≠ c) : (h.upd b x).get c = h.get c := by
  show (if c < h.N then h.lo c else (h.own.set (b - h.N) x).getD (c - h.N) .hole) = if c < h.N then h.lo c else h.own.getD (c - h.N) .hole
  by_cases hc : c < h.N
  · rw [if_pos hc, if_pos hc]
  · rw [if_neg hc, if_neg hc, List.getD_eq_getElem?_getD, List.getElem?_set_ne (by omega), ← List.getD_eq_getElem?_getD]
theorem put_gen (h : Heap) (b v o g : Nat) (cs vs : List AV) (h1 : h.N ≤ b) (hg : h.get b = .cells g v cs) (ho : o + vs.length ≤ cs.length) : Eff.app (.put b v o vs) h = some (h.upd b (.cells g v (putAt cs o vs))) := by
  have h2 : ¬ b < h.N := by omega
  unfold Heap.get at hg
  rw [if_neg h2, List.getD_eq_getElem?_getD] at hg
  simp only [Eff.app, h2, if_false]
  cases hx : h.own[b - h.N]? with
  | none => rw [hx] at hg; cases hg
  | some y =>
    rw [hx] at hg
    simp only [Option.getD_some] at hg
    subst hg
    simp only [ho, and_self, if_true, forceL_eq, Heap.setOwn_eq, Heap.upd]

/-! ### Slices of ints -/
def unG : List AV → Option (List Int)
  | [] => some []
  | .int .i64 n :: r => (unG r).map (n :: ·)
  | _ => none
theorem unG_map (l : List Int) : unG (l.map fun n => .int .i64 n) = some l := by
  induction l with
  | nil => rfl
  | cons a l ih => simp [unG, ih]
theorem unG_some : ∀ {cs : List AV} {l : List Int}, unG cs = some l → cs = l.map fun n => .int .i64 n
  | [], l, h => by simp [unG] at h; subst h; rfl
  | .int .i64 n :: r, l, h => by
    simp only [unG, Option.map_eq_some_iff] at h
    obtain ⟨a, h1, rfl⟩ := h
    rw [unG_some h1]; rfl
/-- The ints that a slice holds that is all of its block. -/
def listOf (h : Heap) : AV → Option (List Int)
  | .nils => some []
  | .slice b 0 len v => match h.get b with
    | .cells 1 v' cs => if v' = v ∧ cs.length = len then unG cs else none
    | _ => none
  | _ => none
theorem listOf_some {h : Heap} {x : AV} {l : List Int} (e : listOf h x = some l) : (x = .nils ∧ l = []) ∨ ∃ b v, x = .slice b 0 l.length v ∧ h.get b = .cells 1 v (l.map fun n => .int .i64 n) := by
  unfold listOf at e
  split at e
  · simp only [Option.some.injEq] at e; exact .inl ⟨rfl, e.symm⟩
  · rename_i b len v
    split at e
    · rename_i v' cs hg
      split at e
      · rename_i hh
        obtain ⟨rfl, rfl⟩ := hh
        have := unG_some e
        subst this
        exact .inr ⟨b, v', by simp, hg⟩
      · cases e
    · cases e
  · cases e
theorem listOf_cells {h : Heap} {b v n : Nat} {l : List Int} (hg : h.get b = .cells 1 v (l.map fun n => .int .i64 n)) (hn : l.length = n) : listOf h (.slice b 0 n v) = some l := by
  simp [listOf, hg, unG_map, hn]

end Go.AEv
