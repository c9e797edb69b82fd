/-
  Each operation of the evaluator stands for the model's: part one: the checks, new blocks, operations without memory.
-/
import Derived.Test.YtlkgpcfhpeilhaaEvRel
set_option linter.unusedVariables false
set_option linter.unusedSimpArgs false
namespace Go.AEv

/-! ### Checks: does an operation of the evaluator belong to one of the program's? -/

mutual
def litOk : Value → AV → Bool
  | .bool a, .bool b => a == b
  | .int k n, .int k' m => k == k' && n == m
  | .string s, .str l => s.data.toList == l
  | .pointer none, .nilp => true
  | .slice none 0 0, .nils => true
  | .map none, .nilm => true
  | .nilFunc, .nilf => true
  | .nilIface, .nili => true
  | .agg c, .agg d => litsOk c.toList d && c.toList.all Value.oneCell'
  | .tuple c, .tup d => litsOk c.toList d
  | _, _ => false
def litsOk : List Value → List AV → Bool
  | [], [] => true
  | v :: vs, a :: as => litOk v a && litsOk vs as
  | _, _ => false
end

def opdOk : Operand → AOpd → Bool
  | .tmp t, .s p => p == pathOf t
  | .const v, .c a => litOk v a
  | .func f, .c (.func g []) => f == g
  | _, _ => false

def opdsOk : List Operand → List AOpd → Bool
  | [], [] => true
  | x :: xs, y :: ys => opdOk x y && opdsOk xs ys
  | _, _ => false

def oopdOk : Option Operand → Option AOpd → Bool
  | none, none => true
  | some x, some y => opdOk x y
  | _, _ => false

section
variable {φ : Nat → Emb} {H : Heap}
mutual
theorem VR.ofLit : ∀ (v : Value) (a : AV), litOk v a = true → VR φ H a v
  | .bool a, y, h => by cases y <;> simp_all [litOk, VR]
  | .int k n, y, h => by cases y <;> simp_all [litOk, VR]
  | .string s, y, h => by
    cases y <;> simp only [litOk, Bool.false_eq_true] at h
    rename_i l
    simp only [VR]
    have : s.data.toList = l := by simpa using h
    subst this
    rfl
  | .pointer p, y, h => by cases p <;> cases y <;> simp_all [litOk, VR]
  | .slice a n c, y, h => by
    cases a with
    | some a => cases y <;> simp [litOk] at h
    | none =>
      cases n with
      | succ n => cases y <;> simp [litOk] at h
      | zero =>
        cases c with
        | succ c => cases y <;> simp [litOk] at h
        | zero => cases y <;> simp_all [litOk, VR]
  | .map p, y, h => by cases p <;> cases y <;> simp_all [litOk, VR]
  | .nilFunc, y, h => by cases y <;> simp_all [litOk, VR]
  | .nilIface, y, h => by cases y <;> simp_all [litOk, VR]
  | .agg c, y, h => by
    cases y <;> simp only [litOk, Bool.false_eq_true, Bool.and_eq_true] at h
    rename_i d
    simp only [VR]
    exact ⟨c, rfl, VRs.ofLit c.toList d h.1, fun x hx => (List.all_eq_true.1 h.2) x hx⟩
  | .tuple c, y, h => by
    cases y <;> simp only [litOk, Bool.false_eq_true] at h
    rename_i d
    simp only [VR]
    exact ⟨c, rfl, VRs.ofLit c.toList d h⟩
  | .float k b, y, h => by cases y <;> simp [litOk] at h
  | .complex k a b, y, h => by cases y <;> simp [litOk] at h
  | .chan r, y, h => by cases y <;> simp [litOk] at h
  | .func f a b, y, h => by cases y <;> simp [litOk] at h
  | .iface t v, y, h => by cases y <;> simp [litOk] at h
theorem VRs.ofLit : ∀ (v : List Value) (a : List AV), litsOk v a = true → VRs φ H a v
  | [], y, h => by cases y <;> simp_all [litsOk, VRs]
  | v :: vs, y, h => by
    cases y with
    | nil => simp [litsOk] at h
    | cons a as =>
      simp only [litsOk, Bool.and_eq_true] at h
      simp only [VRs]
      exact ⟨v, vs, rfl, VR.ofLit v a h.1, VRs.ofLit vs as h.2⟩
end
end

/-- The operands stand for the program's. -/
def RhoR (φ : Nat → Emb) (H : Heap) (s : T) (ρ : Operand → Value) : Prop := ∀ x y, opdOk x y = true → VR φ H (y.ev s) (ρ x)

theorem RhoR.list {φ : Nat → Emb} {H : Heap} {s : T} {ρ : Operand → Value} (h : RhoR φ H s ρ) : ∀ {xs : List Operand} {ys : List AOpd}, opdsOk xs ys = true → VRs φ H (ys.map (AOpd.ev s)) (xs.map ρ)
  | [], [], _ => by simp [VRs]
  | x :: xs, y :: ys, e => by
    simp only [opdsOk, Bool.and_eq_true] at e
    simp only [List.map_cons, VRs]
    exact ⟨_, _, rfl, h x y e.1, RhoR.list h e.2⟩
  | [], _ :: _, e => by simp [opdsOk] at e
  | _ :: _, [], e => by simp [opdsOk] at e

theorem RhoR.step {φ φ' : Nat → Emb} {H H' : Heap} {s : T} {ρ : Operand → Value} (hs : Stp φ H φ' H') (h : RhoR φ H s ρ) : RhoR φ' H' s ρ := fun x y e => VR.step hs _ _ (h x y e)

/-- What an operation comes to. -/
def Done (CK : CKT) (P : Program) (w0 : World) (K : List Nat) (φ : Nat → Emb) (H : Heap) (w : World) (sem : Sem Next) (v : AV) (H' : Heap) : Prop :=
  ∃ φ' w' r x, sem.run P w = .ok r w' ∧ (r = .value x ∨ (r = .skip ∧ x = undef)) ∧ HR CK w0 K φ' H' w' ∧ VR φ' H' v x ∧ Stp φ H φ' H'

section
variable {CK : CKT} {P : Program} {w0 : World} {K : List Nat} {φ : Nat → Emb} {H H' : Heap} {w : World} {s : T} {ρ : Operand → Value} {v : AV} {fp : FP} {call : CallF} {h0 : Heap}

theorem Done.pure {sem : Sem Next} {x : Value} (hr : HR CK w0 K φ H w) (h : sem.run P w = .ok (.value x) w) (hv : VR φ H v x) : Done CK P w0 K φ H w sem v H :=
  ⟨φ, w, _, x, h, .inl rfl, hr, hv, Stp.refl φ H⟩

theorem app_none {h : Heap} : Eff.app .none h = some h := rfl

theorem pure1_some {o : Option AV} {v : AV} {fp : FP} (h : pure1 o = some (v, fp)) : o = some v ∧ fp = {} := by
  unfold pure1 at h
  cases o with
  | none => simp at h
  | some x => simp at h; exact ⟨by rw [h.1], h.2.symm⟩

theorem pure1_app {o : Option AV} (h : pure1 o = some (v, fp)) (ha : fp.eff.app H = some H') : o = some v ∧ H' = H := by
  obtain ⟨a, rfl⟩ := pure1_some h
  exact ⟨a, by simpa [Eff.app] using ha.symm⟩

/-! ### New blocks -/

theorem Heap.get_grow (H : Heap) (X : AObj) (j : Nat) : Heap.get { H with own := H.own ++ [X] } j = if j = H.size then X else H.get j := by
  unfold Heap.get Heap.size
  by_cases h : j < H.N
  · have : j ≠ H.N + H.own.length := by omega
    simp [h, this]
  · simp only [h, if_false]
    by_cases e : j = H.N + H.own.length
    · subst e; simp
    · simp only [e, if_false, List.getD_eq_getElem?_getD]
      by_cases l : j - H.N < H.own.length
      · rw [List.getElem?_append_left l]
      · rw [List.getElem?_eq_none (by simp; omega), List.getElem?_eq_none (by omega)]

theorem Heap.get_size (H : Heap) : H.get H.size = .hole := by
  unfold Heap.get Heap.size
  rw [if_neg (by omega)]
  simp

theorem Heap.get_lt {H : Heap} {i : Nat} (h : H.get i ≠ .hole) : i < H.size ∨ i < H.N := by
  unfold Heap.get Heap.size at *
  by_cases h' : i < H.N
  · exact .inr h'
  · simp only [h', if_false] at h
    left
    by_cases l : i - H.N < H.own.length
    · omega
    · exact absurd (by simp [List.getElem?_eq_none (Nat.le_of_not_lt l)]) h

theorem Heap.setOwn_eq (H : Heap) (b : Nat) (x : AObj) : H.setOwn b x = { H with own := H.own.set (b - H.N) x } := by
  unfold Heap.setOwn; rw [forceL_eq]

theorem Heap.get_setOwn (H : Heap) (b : Nat) (x y : AObj) (hb : ¬ b < H.N) (hy : H.own[b - H.N]? = some y) (j : Nat) : (H.setOwn b x).get j = if j = b then x else H.get j := by
  rw [Heap.setOwn_eq]
  unfold Heap.get
  have hl : b - H.N < H.own.length := (List.getElem?_eq_some_iff.1 hy).1
  by_cases h : j < H.N
  · have : j ≠ b := by omega
    simp [h, this]
  · simp only [h, if_false, List.getD_eq_getElem?_getD, List.getElem?_set]
    by_cases e : j = b
    · subst e; simp [hl]
    · have : ¬ b - H.N = j - H.N := by omega
      simp [e, this]

theorem Heap.get_own (H : Heap) (b : Nat) (y : AObj) (hb : ¬ b < H.N) (hy : H.own[b - H.N]? = some y) : H.get b = y := by
  unfold Heap.get; simp [hb, hy]

theorem mk_spec {n0 : Nat} {j : Option Nat} {X : AObj} (h : (mk H n0 j X).2.app H = some H') :
    H.N ≤ (mk H n0 j X).1 ∧ H.get (mk H n0 j X).1 = .hole ∧ H'.N = H.N ∧ ∀ k, H'.get k = if k = (mk H n0 j X).1 then X else H.get k := by
  cases j with
  | none =>
    simp only [mk, Eff.app, forceL_eq, Option.some.injEq] at h ⊢
    subst h
    exact ⟨by simp [Heap.size], Heap.get_size H, rfl, Heap.get_grow H X⟩
  | some j =>
    simp only [mk, Eff.app] at h ⊢
    split at h
    · cases h
    · rename_i hb
      split at h
      · rename_i hy
        cases h
        exact ⟨by omega, Heap.get_own H _ _ hb hy, by rw [Heap.setOwn_eq], Heap.get_setOwn H _ X _ hb hy⟩
      · cases h

theorem Stp.fresh {i : Nat} {X : AObj} {e : Emb} (hh : H.get i = .hole) (hget : ∀ k, H'.get k = if k = i then X else H.get k) : Stp φ H (upd φ i e) H' := fun b => by
  have hb : ∀ o, H.get b = o → o ≠ .hole → H'.get b = o ∧ upd φ i e b = φ b := by
    intro o ho hne
    have : b ≠ i := by intro e; subst e; rw [hh] at ho; exact hne ho.symm
    exact ⟨by rw [hget, if_neg this, ho], by simp [upd, this]⟩
  refine ⟨fun g n cs e => ?_, fun es e => ?_, fun st pend s ps x y e => ?_⟩
  · obtain ⟨h1, h2⟩ := hb _ e (by simp); exact ⟨n, cs, h1, Nat.le_refl _, fun _ => h2⟩
  · obtain ⟨h1, h2⟩ := hb _ e (by simp); exact ⟨es, h1, h2⟩
  · obtain ⟨h1, h2⟩ := hb _ e (by simp); exact ⟨st, pend, s, ps, x, y, h1, h2⟩

theorem heap_push_same {w : World} {o : Obj} (r : Nat) (h : r < w.heap.size) : (w.heap.push o)[r]? = w.heap[r]? := by
  rw [Array.getElem?_push]; split <;> simp_all

/-- A new row of cells. -/
theorem new_cells (hr : HR CK w0 K φ H w) {n0 : Nat} {j : Option Nat} {g n : Nat} {cs : List AV} {c : Array Value} {t : TypeId}
    (hm : (mk H n0 j (.cells g n cs)).2.app H = some H') (hv : VRs φ H cs (c.toList.take cs.length)) (hl : cs.length ≤ c.size) (h1 : ∀ x ∈ c.toList, Value.oneCell' x = true) :
    HR CK w0 K (upd φ (mk H n0 j (.cells g n cs)).1 ⟨w.heap.size, 0, c.size⟩) H' { w with heap := w.heap.push (.cells c t) } ∧
    Stp φ H (upd φ (mk H n0 j (.cells g n cs)).1 ⟨w.heap.size, 0, c.size⟩) H' ∧ H'.get (mk H n0 j (.cells g n cs)).1 = .cells g n cs := by
  obtain ⟨hi, hh, hN, hget⟩ := mk_spec hm
  generalize (mk H n0 j (.cells g n cs)).1 = i at *
  have hs : Stp φ H (upd φ i ⟨w.heap.size, 0, c.size⟩) H' := Stp.fresh hh hget
  refine ⟨HR.upd hr i hi (.cells g n cs) _ hN hget (by simp) (fun r hr' _ => heap_push_same r hr') (.inr (Nat.le_refl _)) rfl hs ?_ ?_, hs, by rw [hget]; simp⟩
  · refine ⟨c, t, (0, 0), by simp, by simp, hl, fun k v hk => ?_⟩
    obtain ⟨x, hx, hvx⟩ := VRs.get hv hk
    have hk' : k < cs.length := (List.getElem?_eq_some_iff.1 hk).1
    rw [List.getElem?_take_of_lt hk'] at hx
    refine ⟨x, by simpa using hx, VR.step hs _ _ hvx, h1 x (List.mem_of_getElem? hx)⟩
  · intro c' t' fr e; simp at e; exact e.2.2.symm

end
end Go.AEv
