/-
  TRIPLES: what a piece of code does from the states where P holds ('Tr'), and how they are put together. No condition.
-/
import Derived.Test.YtlkgpcfhpeilhaaEvWp
set_option linter.unusedVariables false
set_option linter.unusedSimpArgs false
namespace Go.AEv

abbrev SP := T → Heap → Prop

/-- From each state in P the code comes to the exit e, in a state in Q. -/
def Tr (tbl : Nat → Option CFunc) (I : CallF) (c : CCode) (P : SP) (e : AExit) (Q : SP) : Prop := ∀ s h, P s h → ∃ s' h', Runs tbl I c s h (e, s', h') ∧ Q s' h'

section
variable {tbl : Nat → Option CFunc} {I : CallF} {P Q R : SP} {a b c : CCode} {e : AExit} {live : List Path} {id : Nat}

theorem Tr.chunk (k : ∀ s h, P s h → ∃ s' h', evCode (kn I) c s h = some (e, s', h') ∧ Q s' h') : Tr tbl I c P e Q := fun s h hp => by
  obtain ⟨s', h', e1, q⟩ := k s h hp
  exact ⟨s', h', Runs.chunk e1, q⟩
/-- Where code has come to. -/
def Came (x : Option (AExit × T × Heap)) (e : AExit) (Q : SP) : Prop := match x with
  | some (e', s', h') => e' = e ∧ Q s' h'
  | none => False
theorem came_some (e' : AExit) (s' : T) (h' : Heap) : Came (some (e', s', h')) e Q = (e' = e ∧ Q s' h') := rfl
theorem Tr.region (k : ∀ s h, P s h → Came (evCode (kn I) c s h) e Q) : Tr tbl I c P e Q := Tr.chunk fun s h hp => by
  have := k s h hp
  unfold Came at this
  split at this
  · rename_i e' s' h' e1
    obtain ⟨rfl, q⟩ := this
    exact ⟨s', h', e1, q⟩
  · cases this
theorem Tr.seq (x : Tr tbl I a P .normal R) (y : Tr tbl I b R e Q) : Tr tbl I (.seq a b) P e Q := fun s h hp => by
  obtain ⟨s1, h1, r1, q1⟩ := x s h hp
  obtain ⟨s2, h2, r2, q2⟩ := y s1 h1 q1
  exact ⟨s2, h2, Runs.seq r1 r2, q2⟩
theorem Tr.seq_out (x : Tr tbl I a P e Q) (he : e ≠ .normal) : Tr tbl I (.seq a b) P e Q := fun s h hp => by
  obtain ⟨s1, h1, r1, q1⟩ := x s h hp
  exact ⟨s1, h1, Runs.seq_out r1 he, q1⟩
theorem Tr.assoc (x : Tr tbl I (.seq (.seq a b) c) P e Q) : Tr tbl I (.seq a (.seq b c)) P e Q := fun s h hp => by
  obtain ⟨s1, h1, r1, q1⟩ := x s h hp
  exact ⟨s1, h1, Runs.assoc r1, q1⟩
theorem Runs.assoc' {s : T} {h : Heap} {x : AExit × T × Heap} (hx : Runs tbl I (.seq a (.seq b c)) s h x) : Runs tbl I (.seq (.seq a b) c) s h x := by
  obtain ⟨n, e⟩ := hx
  refine ⟨n, ?_⟩
  simp only [evCode] at e ⊢
  cases ha : evCode (evW tbl I n) a s h with
  | none => rw [ha] at e; exact e
  | some q =>
    obtain ⟨e1, s1, h1⟩ := q
    rw [ha] at e
    cases e1 <;> exact e
theorem Tr.assoc' (x : Tr tbl I (.seq a (.seq b c)) P e Q) : Tr tbl I (.seq (.seq a b) c) P e Q := fun s h hp => by
  obtain ⟨s1, h1, r1, q1⟩ := x s h hp
  exact ⟨s1, h1, Runs.assoc' r1, q1⟩
theorem Tr.app2 {d : CCode} (x : Tr tbl I (.seq a b) P .normal R) (y : Tr tbl I d R e Q) : Tr tbl I (.seq a (.seq b d)) P e Q := Tr.assoc (Tr.seq x y)
theorem Tr.app3 {d : CCode} (x : Tr tbl I (.seq a (.seq b c)) P .normal R) (y : Tr tbl I d R e Q) : Tr tbl I (.seq a (.seq b (.seq c d))) P e Q := Tr.assoc (Tr.assoc (Tr.seq (Tr.assoc' x) y))
theorem Tr.app4 {d f : CCode} (x : Tr tbl I (.seq a (.seq b (.seq c d))) P .normal R) (y : Tr tbl I f R e Q) : Tr tbl I (.seq a (.seq b (.seq c (.seq d f)))) P e Q := Tr.assoc (Tr.assoc (Tr.assoc (Tr.seq (Tr.assoc' (Tr.assoc' x)) y)))
theorem Tr.block (x : Tr tbl I c P (.exit id) Q) : Tr tbl I (.block id c) P .normal Q := fun s h hp => by
  obtain ⟨s1, h1, r1, q1⟩ := x s h hp
  exact ⟨s1, h1, Runs.block_exit r1, q1⟩
theorem Tr.block_out (x : Tr tbl I c P e Q) (he : e ≠ .exit id) : Tr tbl I (.block id c) P e Q := fun s h hp => by
  obtain ⟨s1, h1, r1, q1⟩ := x s h hp
  exact ⟨s1, h1, Runs.block_out r1 he, q1⟩
theorem Tr.scope (x : Tr tbl I c P e Q) : Tr tbl I (.scope c) P e Q := x
theorem Tr.trim_seq (x : Tr tbl I (.trim live a) P .normal R) (y : Tr tbl I b R e Q) : Tr tbl I (.trim live (.seq a b)) P e Q := fun s h hp => by
  obtain ⟨s1, h1, r1, q1⟩ := x s h hp
  obtain ⟨s2, h2, r2, q2⟩ := y s1 h1 q1
  exact ⟨s2, h2, Runs.trim (Runs.seq r1 r2), q2⟩
theorem Tr.trim_seq_out (x : Tr tbl I (.trim live a) P e Q) (he : e ≠ .normal) : Tr tbl I (.trim live (.seq a b)) P e Q := fun s h hp => by
  obtain ⟨s1, h1, r1, q1⟩ := x s h hp
  exact ⟨s1, h1, Runs.trim (Runs.seq_out r1 he), q1⟩
theorem Tr.trim_assoc (x : Tr tbl I (.trim live (.seq (.seq a b) c)) P e Q) : Tr tbl I (.trim live (.seq a (.seq b c))) P e Q := fun s h hp => by
  obtain ⟨s1, h1, r1, q1⟩ := x s h hp
  exact ⟨s1, h1, Runs.trim (Runs.assoc r1), q1⟩
theorem Tr.skip : Tr tbl I .skip P .normal P := fun s h hp => ⟨s, h, Runs.chunk rfl, hp⟩
theorem Tr.exit : Tr tbl I (.exit id) P (.exit id) P := fun s h hp => ⟨s, h, Runs.chunk rfl, hp⟩
theorem Tr.ret : Tr tbl I .ret P .ret P := fun s h hp => ⟨s, h, Runs.chunk rfl, hp⟩
theorem Tr.pre {P' : SP} (k : ∀ s h, P' s h → P s h) (x : Tr tbl I c P e Q) : Tr tbl I c P' e Q := fun s h hp => x s h (k s h hp)
theorem Tr.post {Q' : SP} (k : ∀ s h, Q s h → Q' s h) (x : Tr tbl I c P e Q) : Tr tbl I c P e Q' := fun s h hp => by
  obtain ⟨s1, h1, r1, q1⟩ := x s h hp
  exact ⟨s1, h1, r1, k _ _ q1⟩
theorem Tr.cond {x y : CCode} {o : AOpd} (v : Bool) (hc : ∀ s h, P s h → o.ev s = .bool v) (k : Tr tbl I (if v then x else y) P e Q) : Tr tbl I (.cond o x y) P e Q := fun s h hp => by
  obtain ⟨s1, h1, r1, q1⟩ := k s h hp
  exact ⟨s1, h1, Runs.cond (hc s h hp) r1, q1⟩
theorem Tr.next (x : Tr tbl I (.trim live c) P .normal R) (y : Tr tbl I (.loop live c) R e Q) : Tr tbl I (.loop live c) P e Q := fun s h hp => by
  obtain ⟨s1, h1, ⟨n, r1⟩, q1⟩ := x s h hp
  obtain ⟨s2, h2, r2, q2⟩ := y s1 h1 q1
  exact ⟨s2, h2, Runs.loop_next ⟨n, r1⟩ r2, q2⟩
theorem Tr.out (x : Tr tbl I (.trim live c) P e Q) (he : e ≠ .normal) : Tr tbl I (.loop live c) P e Q := fun s h hp => by
  obtain ⟨s1, h1, ⟨n, r1⟩, q1⟩ := x s h hp
  exact ⟨s1, h1, Runs.loop_out ⟨n, r1⟩ he, q1⟩
/-- Rounds from m to M, then out. -/
theorem Tr.rounds {P : Nat → SP} {M : Nat} (step : ∀ m, m < M → Tr tbl I (.trim live c) (P m) .normal (P (m + 1))) (fin : Tr tbl I (.trim live c) (P M) e Q) (he : e ≠ .normal) : ∀ m, m ≤ M → Tr tbl I (.loop live c) (P m) e Q := by
  intro m hm
  obtain ⟨j, hj⟩ : ∃ j, m + j = M := ⟨M - m, by omega⟩
  clear hm
  induction j generalizing m with
  | zero => obtain rfl : m = M := by omega
            exact Tr.out fin he
  | succ j ih => exact Tr.next (step m (by omega)) (ih (m + 1) (by omega))

/-- A function, its value without addresses. -/
theorem Tr.fnv {f : Nat} {cf : CFunc} {args : List AV} {h : Heap} {s : T} {v : AV} (hf : f ≠ 0) (ht : tbl f = some cf) (hi : I f args h = none) (hsh : cf.shared = false) (hs : initS cf.params args .leaf = some s) (hv : v.flat = true)
    (he : ∀ i, e ≠ .exit i) (hb : Tr tbl I cf.body (fun s' h' => s' = s ∧ h' = frameOf h) e (fun s' h' => ∃ vs, evRess h' s' cf.results = some vs ∧ one vs = v)) : CallsTo tbl I f args h (v, [], false) := by
  obtain ⟨s1, h1, r1, vs, q1, rfl⟩ := hb s (frameOf h) ⟨rfl, rfl⟩
  have := CallsTo.fn hf ht hi hsh hs r1 he q1
  rwa [hv] at this
/-- A function that returns addresses. -/
theorem Tr.fnh {f : Nat} {cf : CFunc} {args : List AV} {h : Heap} {s : T} {v : AV} {own : List AObj} (hf : f ≠ 0) (ht : tbl f = some cf) (hi : I f args h = none) (hsh : cf.shared = false) (hs : initS cf.params args .leaf = some s) (hv : v.flat = false)
    (he : ∀ i, e ≠ .exit i) (hb : Tr tbl I cf.body (fun s' h' => s' = s ∧ h' = frameOf h) e (fun s' h' => ∃ vs, evRess h' s' cf.results = some vs ∧ one vs = v ∧ h'.own = own)) : CallsTo tbl I f args h (v, own, false) := by
  obtain ⟨s1, h1, r1, vs, q1, rfl, rfl⟩ := hb s (frameOf h) ⟨rfl, rfl⟩
  have := CallsTo.fn hf ht hi hsh hs r1 he q1
  rwa [hv] at this
end

/-! ### For 'simp (disch := omega)' -/
theorem wrapI (n : Int) (h1 : -9223372036854775808 ≤ n) (h2 : n < 9223372036854775808) : IntKind.i64.wrap n = n := by
  unfold IntKind.wrap IntKind.bits IntKind.signed
  simp; omega
theorem idxI (n : Int) (len : Nat) (h1 : 0 ≤ n) (h2 : n < len) : idx n len = some n.toNat := by unfold idx; rw [if_pos ⟨h1, h2⟩]
theorem decT {p : Prop} [Decidable p] (h : p) : decide p = true := decide_eq_true h
theorem decF {p : Prop} [Decidable p] (h : ¬ p) : decide p = false := decide_eq_false h
theorem tdivI (a b : Int) (h : 0 ≤ a) : a.tdiv b = a / b := Int.tdiv_eq_ediv_of_nonneg h
theorem tmodI (a b : Int) (h : 0 ≤ a) : a.tmod b = a % b := Int.tmod_eq_emod_of_nonneg h
theorem ibT (a b : Int) (h : a = b) : (a == b) = true := by simpa using h
theorem ibF (a b : Int) (h : a ≠ b) : (a == b) = false := by simpa using h
theorem inT (a b : Int) (h : a ≠ b) : (a != b) = true := by simpa using h
theorem inF (a b : Int) (h : a = b) : (a != b) = false := by simpa using h
theorem evScope_c (r : Rec) (c : CCode) (s : T) (h : Heap) : evCode r (.scope c) s h = evCode r c s h := rfl
theorem getEq {h : Heap} {b : Nat} {x : AObj} (e : h.get b = x) : h.get b = x := e
theorem getO0 {lo : Nat → AObj} {N : Nat} {x : AObj} {xs : List AObj} : Heap.get ⟨lo, N, x :: xs⟩ N = x := by simp [Heap.get]
theorem beqT (z : Bool) : (some z == some true) = z := by cases z <;> rfl

end Go.AEv
