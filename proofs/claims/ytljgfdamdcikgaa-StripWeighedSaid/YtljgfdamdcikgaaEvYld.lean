/-
  TRIPLES: what a piece of code does from the states where P holds ('Tr'),and how they are put together. No condition.
  Memories that are not written out: how they grow,and what stays. No condition.
  RANGE OVER A FUNCTION: what the function that yields and the one that takes are to each other. No condition.
-/
import Derived.Test.YtljgfdamdcikgaaEvWp
set_option linter.unusedVariables false
set_option linter.unusedSimpArgs false
namespace Go.AEv

abbrev SP:=T → Heap → Prop

/-- From each state in P the code comes to the exit e,in a state in Q. -/
def Tr (tbl : Nat → Option CFunc) (I : CallF) (c : CCode) (P : SP) (e : AExit) (Q : SP) : Prop:=∀ s h,P s h → ∃ s' h',Runs tbl I c s h (e,s',h') ∧ Q s' h'

section
variable {tbl : Nat → Option CFunc} {I : CallF} {P Q R : SP} {a b c : CCode} {e : AExit} {live : List Path} {id : Nat}

theorem Tr.chunk (k : ∀ s h,P s h → ∃ s' h',evCode (kn I) c s h = some (e,s',h') ∧ Q s' h') : Tr tbl I c P e Q:=fun s h hp => by
 obtain ⟨s',h',e1,q⟩:=k s h hp
 exact ⟨s',h',Runs.chunk e1,q⟩
/-- Where code has come to. -/
def Came (x : Option (AExit × T × Heap)) (e : AExit) (Q : SP) : Prop:=match x with
 | some (e',s',h') => e' = e ∧ Q s' h'
 | none => False
theorem came_some (e' : AExit) (s' : T) (h' : Heap) : Came (some (e',s',h')) e Q = (e' = e ∧ Q s' h'):=rfl
theorem Tr.region (k : ∀ s h,P s h → Came (evCode (kn I) c s h) e Q) : Tr tbl I c P e Q:=Tr.chunk fun s h hp => by
 have:=k s h hp
 unfold Came at this
 split at this
 ·rename_i e' s' h' e1
  obtain ⟨rfl,q⟩:=this
  exact ⟨s',h',e1,q⟩
 ·cases this
theorem Tr.seq (x : Tr tbl I a P .normal R) (y : Tr tbl I b R e Q) : Tr tbl I (.seq a b) P e Q:=fun s h hp => by
 obtain ⟨s1,h1,r1,q1⟩:=x s h hp
 obtain ⟨s2,h2,r2,q2⟩:=y s1 h1 q1
 exact ⟨s2,h2,Runs.seq r1 r2,q2⟩
theorem Tr.seq_out (x : Tr tbl I a P e Q) (he : e ≠ .normal) : Tr tbl I (.seq a b) P e Q:=fun s h hp => by
 obtain ⟨s1,h1,r1,q1⟩:=x s h hp
 exact ⟨s1,h1,Runs.seq_out r1 he,q1⟩
theorem Tr.assoc (x : Tr tbl I (.seq (.seq a b) c) P e Q) : Tr tbl I (.seq a (.seq b c)) P e Q:=fun s h hp => by
 obtain ⟨s1,h1,r1,q1⟩:=x s h hp
 exact ⟨s1,h1,Runs.assoc r1,q1⟩
theorem Runs.assoc' {s : T} {h : Heap} {x : AExit × T × Heap} (hx : Runs tbl I (.seq a (.seq b c)) s h x) : Runs tbl I (.seq (.seq a b) c) s h x:=by
 obtain ⟨n,e⟩:=hx
 refine ⟨n,?_⟩
 simp only [evCode] at e ⊢
 cases ha : evCode (evW tbl I n) a s h with
 | none => rw [ha] at e; exact e
 | some q =>
  obtain ⟨e1,s1,h1⟩:=q
  rw [ha] at e
  cases e1 <;> exact e
theorem Tr.assoc' (x : Tr tbl I (.seq a (.seq b c)) P e Q) : Tr tbl I (.seq (.seq a b) c) P e Q:=fun s h hp => by
 obtain ⟨s1,h1,r1,q1⟩:=x s h hp
 exact ⟨s1,h1,Runs.assoc' r1,q1⟩
theorem Tr.app2 {d : CCode} (x : Tr tbl I (.seq a b) P .normal R) (y : Tr tbl I d R e Q) : Tr tbl I (.seq a (.seq b d)) P e Q:=Tr.assoc (Tr.seq x y)
theorem Tr.app3 {d : CCode} (x : Tr tbl I (.seq a (.seq b c)) P .normal R) (y : Tr tbl I d R e Q) : Tr tbl I (.seq a (.seq b (.seq c d))) P e Q:=Tr.assoc (Tr.assoc (Tr.seq (Tr.assoc' x) y))
theorem Tr.app4 {d f : CCode} (x : Tr tbl I (.seq a (.seq b (.seq c d))) P .normal R) (y : Tr tbl I f R e Q) : Tr tbl I (.seq a (.seq b (.seq c (.seq d f)))) P e Q:=Tr.assoc (Tr.assoc (Tr.assoc (Tr.seq (Tr.assoc' (Tr.assoc' x)) y)))
theorem Tr.block (x : Tr tbl I c P (.exit id) Q) : Tr tbl I (.block id c) P .normal Q:=fun s h hp => by
 obtain ⟨s1,h1,r1,q1⟩:=x s h hp
 exact ⟨s1,h1,Runs.block_exit r1,q1⟩
theorem Tr.block_out (x : Tr tbl I c P e Q) (he : e ≠ .exit id) : Tr tbl I (.block id c) P e Q:=fun s h hp => by
 obtain ⟨s1,h1,r1,q1⟩:=x s h hp
 exact ⟨s1,h1,Runs.block_out r1 he,q1⟩
theorem Tr.scope (x : Tr tbl I c P e Q) : Tr tbl I (.scope c) P e Q:=x
theorem Tr.trim_seq (x : Tr tbl I (.trim live a) P .normal R) (y : Tr tbl I b R e Q) : Tr tbl I (.trim live (.seq a b)) P e Q:=fun s h hp => by
 obtain ⟨s1,h1,r1,q1⟩:=x s h hp
 obtain ⟨s2,h2,r2,q2⟩:=y s1 h1 q1
 exact ⟨s2,h2,Runs.trim (Runs.seq r1 r2),q2⟩
theorem Tr.trim_seq_out (x : Tr tbl I (.trim live a) P e Q) (he : e ≠ .normal) : Tr tbl I (.trim live (.seq a b)) P e Q:=fun s h hp => by
 obtain ⟨s1,h1,r1,q1⟩:=x s h hp
 exact ⟨s1,h1,Runs.trim (Runs.seq_out r1 he),q1⟩
theorem Tr.trim_assoc (x : Tr tbl I (.trim live (.seq (.seq a b) c)) P e Q) : Tr tbl I (.trim live (.seq a (.seq b c))) P e Q:=fun s h hp => by
 obtain ⟨s1,h1,r1,q1⟩:=x s h hp
 exact ⟨s1,h1,Runs.trim (Runs.assoc r1),q1⟩
theorem Tr.skip : Tr tbl I .skip P .normal P:=fun s h hp => ⟨s,h,Runs.chunk rfl,hp⟩
theorem Tr.exit : Tr tbl I (.exit id) P (.exit id) P:=fun s h hp => ⟨s,h,Runs.chunk rfl,hp⟩
theorem Tr.ret : Tr tbl I .ret P .ret P:=fun s h hp => ⟨s,h,Runs.chunk rfl,hp⟩
theorem Tr.pre {P' : SP} (k : ∀ s h,P' s h → P s h) (x : Tr tbl I c P e Q) : Tr tbl I c P' e Q:=fun s h hp => x s h (k s h hp)
theorem Tr.post {Q' : SP} (k : ∀ s h,Q s h → Q' s h) (x : Tr tbl I c P e Q) : Tr tbl I c P e Q':=fun s h hp => by
 obtain ⟨s1,h1,r1,q1⟩:=x s h hp
 exact ⟨s1,h1,r1,k _ _ q1⟩
theorem Tr.cond {x y : CCode} {o : AOpd} (v : Bool) (hc : ∀ s h,P s h → o.ev s = .bool v) (k : Tr tbl I (if v then x else y) P e Q) : Tr tbl I (.cond o x y) P e Q:=fun s h hp => by
 obtain ⟨s1,h1,r1,q1⟩:=k s h hp
 exact ⟨s1,h1,Runs.cond (hc s h hp) r1,q1⟩
theorem Tr.next (x : Tr tbl I (.trim live c) P .normal R) (y : Tr tbl I (.loop live c) R e Q) : Tr tbl I (.loop live c) P e Q:=fun s h hp => by
 obtain ⟨s1,h1,⟨n,r1⟩,q1⟩:=x s h hp
 obtain ⟨s2,h2,r2,q2⟩:=y s1 h1 q1
 exact ⟨s2,h2,Runs.loop_next ⟨n,r1⟩ r2,q2⟩
theorem Tr.out (x : Tr tbl I (.trim live c) P e Q) (he : e ≠ .normal) : Tr tbl I (.loop live c) P e Q:=fun s h hp => by
 obtain ⟨s1,h1,⟨n,r1⟩,q1⟩:=x s h hp
 exact ⟨s1,h1,Runs.loop_out ⟨n,r1⟩ he,q1⟩
/-- Rounds from m to M,then out. -/
theorem Tr.rounds {P : Nat → SP} {M : Nat} (step : ∀ m,m < M → Tr tbl I (.trim live c) (P m) .normal (P (m + 1))) (fin : Tr tbl I (.trim live c) (P M) e Q) (he : e ≠ .normal) : ∀ m,m ≤ M → Tr tbl I (.loop live c) (P m) e Q:=by
 intro m hm
 obtain ⟨j,hj⟩ : ∃ j,m + j = M:=⟨M - m,by omega⟩
 clear hm
 induction j generalizing m with
 | zero => obtain rfl : m = M:=by omega
           exact Tr.out fin he
 | succ j ih => exact Tr.next (step m (by omega)) (ih (m + 1) (by omega))

/-- A function,its value without addresses. -/
theorem Tr.fnv {f : Nat} {cf : CFunc} {args : List AV} {h : Heap} {s : T} {v : AV} (hf : f ≠ 0) (ht : tbl f = some cf) (hi : I f args h = none) (hsh : cf.shared = false) (hs : initS cf.params args .leaf = some s) (hv : v.flat = true)
  (he : ∀ i,e ≠ .exit i) (hb : Tr tbl I cf.body (fun s' h' => s' = s ∧ h' = frameOf h) e (fun s' h' => ∃ vs,evRess h' s' cf.results = some vs ∧ one vs = v)) : CallsTo tbl I f args h (v,[],false):=by
 obtain ⟨s1,h1,r1,vs,q1,rfl⟩:=hb s (frameOf h) ⟨rfl,rfl⟩
 have:=CallsTo.fn hf ht hi hsh hs r1 he q1
 rwa [hv] at this
/-- A function that returns addresses. -/
theorem Tr.fnh {f : Nat} {cf : CFunc} {args : List AV} {h : Heap} {s : T} {v : AV} {own : List AObj} (hf : f ≠ 0) (ht : tbl f = some cf) (hi : I f args h = none) (hsh : cf.shared = false) (hs : initS cf.params args .leaf = some s) (hv : v.flat = false)
  (he : ∀ i,e ≠ .exit i) (hb : Tr tbl I cf.body (fun s' h' => s' = s ∧ h' = frameOf h) e (fun s' h' => ∃ vs,evRess h' s' cf.results = some vs ∧ one vs = v ∧ h'.own = own)) : CallsTo tbl I f args h (v,own,false):=by
 obtain ⟨s1,h1,r1,vs,q1,rfl,rfl⟩:=hb s (frameOf h) ⟨rfl,rfl⟩
 have:=CallsTo.fn hf ht hi hsh hs r1 he q1
 rwa [hv] at this
end

/-! ### For 'simp (disch:=omega)' -/
theorem wrapI (n : Int) (h1 : -9223372036854775808 ≤ n) (h2 : n < 9223372036854775808) : IntKind.i64.wrap n = n:=by
 unfold IntKind.wrap IntKind.bits IntKind.signed
 simp; omega
theorem idxI (n : Int) (len : Nat) (h1 : 0 ≤ n) (h2 : n < len) : idx n len = some n.toNat:=by unfold idx; rw [if_pos ⟨h1,h2⟩]
theorem decT {p : Prop} [Decidable p] (h : p) : decide p = true:=decide_eq_true h
theorem decF {p : Prop} [Decidable p] (h : ¬ p) : decide p = false:=decide_eq_false h
theorem tdivI (a b : Int) (h : 0 ≤ a) : a.tdiv b = a / b:=Int.tdiv_eq_ediv_of_nonneg h
theorem tmodI (a b : Int) (h : 0 ≤ a) : a.tmod b = a % b:=Int.tmod_eq_emod_of_nonneg h
theorem ibT (a b : Int) (h : a = b) : (a == b) = true:=by simpa using h
theorem ibF (a b : Int) (h : a ≠ b) : (a == b) = false:=by simpa using h
theorem inT (a b : Int) (h : a ≠ b) : (a != b) = true:=by simpa using h
theorem inF (a b : Int) (h : a = b) : (a != b) = false:=by simpa using h
theorem evScope_c (r : Rec) (c : CCode) (s : T) (h : Heap) : evCode r (.scope c) s h = evCode r c s h:=rfl
theorem getEq {h : Heap} {b : Nat} {x : AObj} (e : h.get b = x) : h.get b = x:=e
theorem getO0 {lo : Nat → AObj} {N : Nat} {x : AObj} {xs : List AObj} : Heap.get ⟨lo,N,x :: xs⟩ N = x:=by simp [Heap.get]
theorem beqT (z : Bool) : (some z == some true) = z:=by cases z <;> rfl

end Go.AEv

set_option linter.unusedVariables false
set_option linter.unusedSimpArgs false
namespace Go.AEv

theorem size_mk (lo : Nat → AObj) (N : Nat) (own : List AObj) : Heap.size ⟨lo,N,own⟩ = N + own.length:=rfl
theorem get_mk_lt (lo : Nat → AObj) (N : Nat) (own : List AObj) (b : Nat) (h : b < N) : Heap.get ⟨lo,N,own⟩ b = lo b:=by unfold Heap.get; exact if_pos h
theorem get_mk_ge (lo : Nat → AObj) (N : Nat) (own : List AObj) (b : Nat) (h : N ≤ b) : Heap.get ⟨lo,N,own⟩ b = own.getD (b - N) .hole:=by unfold Heap.get; exact if_neg (Nat.not_lt.2 h)

theorem nnT (a b : Nat) (h : a ≠ b) : (a != b) = true:=by simpa using h

def Heap.plus (h : Heap) (xs : List AObj) : Heap:=⟨h.lo,h.N,h.own ++ xs⟩
theorem plus_N (h : Heap) (xs : List AObj) : (h.plus xs).N = h.N:=rfl
theorem plus_size (h : Heap) (xs : List AObj) : (h.plus xs).size = h.size + xs.length:=by simp [Heap.plus,Heap.size]; omega
theorem plus_plus (h : Heap) (xs ys : List AObj) : (h.plus xs).plus ys = h.plus (xs ++ ys):=by simp [Heap.plus]
theorem app_growP (h : Heap) (xs : List AObj) : Eff.app (.grow xs) h = some (h.plus xs):=by simp [Eff.app,forceL_eq,Heap.plus]
theorem app_noneP (h : Heap) : Eff.app .none h = some h:=rfl
theorem plus_get (h : Heap) (xs : List AObj) (b : Nat) : (h.plus xs).get b = if b < h.size then h.get b else xs.getD (b - h.size) .hole:=by
 show (if b < h.N then h.lo b else (h.own ++ xs).getD (b - h.N) .hole) = if b < h.N + h.own.length then (if b < h.N then h.lo b else h.own.getD (b - h.N) .hole) else xs.getD (b - (h.N + h.own.length)) .hole
 by_cases h1 : b < h.N
 ·rw [if_pos h1,if_pos (by omega),if_pos h1]
 ·rw [if_neg h1]
  by_cases h2 : b < h.N + h.own.length
  ·rw [if_pos h2,if_neg h1,List.getD_eq_getElem?_getD,List.getElem?_append_left (by omega),← List.getD_eq_getElem?_getD]
  ·rw [if_neg h2,List.getD_eq_getElem?_getD,List.getElem?_append_right (by omega),← List.getD_eq_getElem?_getD]; congr 1; omega
theorem plus_lt (h : Heap) (xs : List AObj) (b : Nat) (hb : b < h.size) : (h.plus xs).get b = h.get b:=by rw [plus_get,if_pos hb]
theorem plus_ge (h : Heap) (xs : List AObj) (b : Nat) (hb : h.size ≤ b) : (h.plus xs).get b = xs.getD (b - h.size) .hole:=by rw [plus_get,if_neg (by omega)]
theorem plus_at0 (h : Heap) (x : AObj) (xs : List AObj) (b : Nat) (hb : h.size = b) : (h.plus (x :: xs)).get b = x:=by rw [plus_ge _ _ _ (by omega),hb,Nat.sub_self]; rfl

theorem get_lt {h : Heap} {b : Nat} {x : AObj} (e : h.get b = x) (hx : x ≠ .hole) : b < h.size:=by
 unfold Heap.get at e
 by_cases hN : b < h.N
 ·unfold Heap.size; omega
 ·rw [if_neg hN] at e
  by_cases hb : b < h.size
  ·exact hb
  ·rw [List.getD_eq_getElem?_getD,List.getElem?_eq_none (by unfold Heap.size at hb; omega)] at e
   exact absurd e.symm hx

theorem plus_keep {h : Heap} {b : Nat} {x : AObj} (xs : List AObj) (e : h.get b = x) (hx : x ≠ .hole) : (h.plus xs).get b = x:=by rw [plus_lt _ _ _ (get_lt e hx),e]
theorem put_plus (h : Heap) (xs : List AObj) (i v o g : Nat) (cs vs : List AV) (b : Nat) (hb : h.size + i = b) (hx : xs[i]? = some (.cells g v cs)) (ho : o + vs.length ≤ cs.length) :
  Eff.app (.put b v o vs) (h.plus xs) = some (h.plus (xs.set i (.cells g v (putAt cs o vs)))):=by
 have h1 : ¬ b < h.N:=by unfold Heap.size at hb; omega
 have h2 : b - h.N = h.own.length + i:=by unfold Heap.size at hb; omega
 simp only [Eff.app,Heap.plus,h1,if_false,h2]
 rw [List.getElem?_append_right (by omega),Nat.add_sub_cancel_left,hx]
 simp only [ho,and_self,if_true,forceL_eq,Heap.setOwn_eq,h2]
 rw [List.set_append_right _ _ (by omega),Nat.add_sub_cancel_left]
theorem put_plus0 (h : Heap) (v o g : Nat) (cs vs : List AV) (xs : List AObj) (b : Nat) (hb : h.size = b) (ho : o + vs.length ≤ cs.length) :
  Eff.app (.put b v o vs) (h.plus (.cells g v cs :: xs)) = some (h.plus (.cells g v (putAt cs o vs) :: xs)):=by
 rw [put_plus h _ 0 v o g cs vs b (by omega) rfl ho]; rfl

/-- One block is written anew. -/
def Heap.upd (h : Heap) (b : Nat) (x : AObj) : Heap:=⟨h.lo,h.N,h.own.set (b - h.N) x⟩
theorem upd_N (h : Heap) (b : Nat) (x : AObj) : (h.upd b x).N = h.N:=rfl
theorem upd_size (h : Heap) (b : Nat) (x : AObj) : (h.upd b x).size = h.size:=by simp [Heap.upd,Heap.size]
theorem upd_same (h : Heap) (b : Nat) (x : AObj) (h1 : h.N ≤ b) (h2 : b < h.size) : (h.upd b x).get b = x:=by
 show (if b < h.N then h.lo b else (h.own.set (b - h.N) x).getD (b - h.N) .hole) = x
 rw [if_neg (by omega),List.getD_eq_getElem?_getD,List.getElem?_set_self (by unfold Heap.size at h2; omega)]; rfl
theorem upd_ne (h : Heap) (b c : Nat) (x : AObj) (h1 : h.N ≤ b) (h2 : b ≠ c) : (h.upd b x).get c = h.get c:=by
 show (if c < h.N then h.lo c else (h.own.set (b - h.N) x).getD (c - h.N) .hole) = if c < h.N then h.lo c else h.own.getD (c - h.N) .hole
 by_cases hc : c < h.N
 ·rw [if_pos hc,if_pos hc]
 ·rw [if_neg hc,if_neg hc,List.getD_eq_getElem?_getD,List.getElem?_set_ne (by omega),← List.getD_eq_getElem?_getD]
theorem put_gen (h : Heap) (b v o g : Nat) (cs vs : List AV) (h1 : h.N ≤ b) (hg : h.get b = .cells g v cs) (ho : o + vs.length ≤ cs.length) : Eff.app (.put b v o vs) h = some (h.upd b (.cells g v (putAt cs o vs))):=by
 have h2 : ¬ b < h.N:=by omega
 unfold Heap.get at hg
 rw [if_neg h2,List.getD_eq_getElem?_getD] at hg
 simp only [Eff.app,h2,if_false]
 cases hx : h.own[b - h.N]? with
 | none => rw [hx] at hg; cases hg
 | some y =>
  rw [hx] at hg
  simp only [Option.getD_some] at hg
  subst hg
  simp only [ho,and_self,if_true,forceL_eq,Heap.setOwn_eq,Heap.upd]

/-! ### Slices of ints -/
def unG : List AV → Option (List Int)
 | [] => some []
 | .int .i64 n :: r => (unG r).map (n :: ·)
 | _ => none
theorem unG_map (l : List Int) : unG (l.map fun n => .int .i64 n) = some l:=by
 induction l with
 | nil => rfl
 | cons a l ih => simp [unG,ih]
theorem unG_some : ∀ {cs : List AV} {l : List Int},unG cs = some l → cs = l.map fun n => .int .i64 n
 | [],l,h => by simp [unG] at h; subst h; rfl
 | .int .i64 n :: r,l,h => by
  simp only [unG,Option.map_eq_some_iff] at h
  obtain ⟨a,h1,rfl⟩:=h
  rw [unG_some h1]; rfl
/-- The ints that a slice holds that is all of its block. -/
def listOf (h : Heap) : AV → Option (List Int)
 | .nils => some []
 | .slice b 0 len v => match h.get b with
  | .cells 1 v' cs => if v' = v ∧ cs.length = len then unG cs else none
  | _ => none
 | _ => none
theorem listOf_some {h : Heap} {x : AV} {l : List Int} (e : listOf h x = some l) : (x = .nils ∧ l = []) ∨ ∃ b v,x = .slice b 0 l.length v ∧ h.get b = .cells 1 v (l.map fun n => .int .i64 n):=by
 unfold listOf at e
 split at e
 ·simp only [Option.some.injEq] at e; exact .inl ⟨rfl,e.symm⟩
 ·rename_i b len v
  split at e
  ·rename_i v' cs hg
   split at e
   ·rename_i hh
    obtain ⟨rfl,rfl⟩:=hh
    have:=unG_some e
    subst this
    exact .inr ⟨b,v',by simp,hg⟩
   ·cases e
  ·cases e
 ·cases e
theorem listOf_cells {h : Heap} {b v n : Nat} {l : List Int} (hg : h.get b = .cells 1 v (l.map fun n => .int .i64 n)) (hn : l.length = n) : listOf h (.slice b 0 n v) = some l:=by
 simp [listOf,hg,unG_map,hn]

end Go.AEv

set_option linter.unusedVariables false
set_option linter.unusedSimpArgs false
namespace Go.AEv

section
variable {tbl : Nat → Option CFunc} {I : CallF}

theorem get_own {h : Heap} {b : Nat} {x : AObj} (hN : h.N ≤ b) (e : h.get b = x) (hx : x ≠ .hole) : h.own[b - h.N]? = some x:=by
 unfold Heap.get at e
 rw [if_neg (by omega),List.getD_eq_getElem?_getD] at e
 cases hh : h.own[b - h.N]? with
 | none => rw [hh] at e; exact absurd e.symm hx
 | some y => rw [hh] at e; exact congrArg some e
theorem setOwn_upd (h : Heap) (b : Nat) (x : AObj) : h.setOwn b x = h.upd b x:=Heap.setOwn_eq h b x

/-- A function that shares the memory of the one that calls it. -/
theorem CallsTo.shared {f : Nat} {cf : CFunc} {args : List AV} {h : Heap} {s s' : T} {h' : Heap} {e : AExit} {vs : List AV} (hf : f ≠ 0) (ht : tbl f = some cf) (hi : I f args h = none) (hsh : cf.shared = true) (hs : initS cf.params args .leaf = some s)
  (hb : Runs tbl I cf.body s h (e,s',h')) (he : ∀ i,e ≠ .exit i) (hr : evRess h' s' cf.results = some vs) : CallsTo tbl I f args h (one vs,h'.own,true):=by
 obtain ⟨n,hb⟩:=hb
 refine ⟨n + 1,?_⟩
 cases f with
 | zero => exact absurd rfl hf
 | succ f =>
  show (match I (f + 1) args h with | some x => some x | none => callBody tbl (evW tbl I n) (f + 1) args h) = _
  rw [hi]
  simp only [callBody,ht,hsh,if_true,evFunc,hs,hb]
  cases e with
  | exit i => exact absurd rfl (he i)
  | normal => simp [hr,forceV_eq]
  | ret => simp [hr,forceV_eq]

/-- One round. -/
theorem CallsTo.yld {l : Nat} {args : List AV} {h h1 h2 : Heap} {s0 s s1 s2 t1 t2 : T} {ps ps1 ps2 : List Path} {as bs as1 bs1 as2 bs2 : CCode} {p0 p1 p2 : Option AExit}
  (hN : h.N ≤ l) (hl : h.get l = .loop .ready p0 s0 ps as bs) (hs : initS ps args s0 = some s) (ha : Runs tbl I as s h (.normal,s1,h1))
  (hN1 : h1.N ≤ l) (hl1 : h1.get l = .loop .ready p1 t1 ps1 as1 bs1) (hb : Runs tbl I bs s1 (h1.upd l (.loop .busy p1 t1 ps1 as1 bs1)) (.normal,s2,h2))
  (hN2 : h2.N ≤ l) (hl2 : h2.get l = .loop .busy p2 t2 ps2 as2 bs2) : CallsTo tbl I 0 (.yld l :: args) h (.bool true,(h2.upd l (.loop .ready none t2 ps2 as2 bs2)).own,true):=by
 obtain ⟨n,ea⟩:=ha
 obtain ⟨m,eb⟩:=hb
 refine ⟨max n m + 1,?_⟩
 show (match evRound (evW tbl I (max n m)) l args h with | some (v,h') => some (v,h'.own,true) | none => none) = _
 have xa:=evCode_mono (evW_le' (Nat.le_max_left n m)) as ea
 have xb:=evCode_mono (evW_le' (Nat.le_max_right n m)) bs eb
 unfold evRound
 rw [if_neg (by omega),get_own hN hl (by simp)]
 simp only [hs,xa]
 rw [get_own hN1 hl1 (by simp)]
 simp only [setOwn_upd,xb]
 rw [get_own hN2 hl2 (by simp)]

/-- The loop that takes. -/
theorem Runs.range {f : AOpd} {ps ps1 : List Path} {as bs as1 bs1 : CCode} {s t1 : T} {h : Heap} {g : Nat} {cap : List AV} {v : AV} {ow : List AObj} {st : Go.LoopState} {p1 : Option AExit}
  (hf : f.ev s = .func g cap) (hg : g ≠ 0) (hc : CallsTo tbl I g (.yld h.size :: cap) (h.plus [.loop .ready none s ps as bs]) (v,ow,true))
  (hl : Heap.get ⟨h.lo,h.N,ow⟩ h.size = .loop st p1 t1 ps1 as1 bs1) (hst : st ≠ .busy) :
  Runs tbl I (.range f ps as bs) s h (jump p1,s,(⟨h.lo,h.N,ow⟩ : Heap).upd h.size (.loop .exhausted p1 t1 ps1 as1 bs1)):=by
 obtain ⟨n,hc⟩:=hc
 refine ⟨n,?_⟩
 have hc' : (evW tbl I n).call g (.yld h.size :: cap) { h with own:=h.own ++ [.loop .ready none s ps as bs] } = some (v,ow,true):=hc
 simp only [evCode,hf,if_neg hg,hc',hl,if_neg hst,setOwn_upd]

theorem evW_keeps : ∀ n c s h e s' h',(evW tbl I n).code c s h = some (e,s',h') → Keeps h h'
 | 0 => fun _ _ _ _ _ _ e => (by cases e)
 | n + 1 => fun c s h e s' h' he => evCode_keeps (evW_keeps n) c s h e s' h' he
theorem Runs.keeps {c : CCode} {s s' : T} {h h' : Heap} {e : AExit} (x : Runs tbl I c s h (e,s',h')) : h'.lo = h.lo ∧ h'.N = h.N:=by
 obtain ⟨n,hn⟩:=x
 exact evCode_keeps (evW_keeps n) _ _ _ _ _ _ hn
theorem Tr.split {P Q : SP} {a b : CCode} (x : Tr tbl I (.seq a b) P .normal Q) : ∃ R,Tr tbl I a P .normal R ∧ Tr tbl I b R .normal Q:=by
 refine ⟨fun s h => ∃ s' h',Runs tbl I b s h (.normal,s',h') ∧ Q s' h',fun s h hp => ?_,fun s h hp => hp⟩
 obtain ⟨s',h',⟨n,e⟩,q⟩:=x s h hp
 simp only [evCode] at e
 cases ha : evCode (evW tbl I n) a s h with
 | none => rw [ha] at e; cases e
 | some y =>
  obtain ⟨e1,s1,h1⟩:=y
  rw [ha] at e
  cases e1 with
  | normal => exact ⟨s1,h1,⟨n,ha⟩,s',h',⟨n,e⟩,q⟩
  | exit id => simp at e
  | ret => simp at e
theorem Tr.app6 {P Q R : SP} {a b c d f g k : CCode} {e : AExit} (x : Tr tbl I (.seq a (.seq b (.seq c (.seq d (.seq f g))))) P .normal R) (y : Tr tbl I k R e Q) : Tr tbl I (.seq a (.seq b (.seq c (.seq d (.seq f (.seq g k)))))) P e Q:=by
 obtain ⟨_,x1,x⟩:=x.split
 obtain ⟨_,x2,x⟩:=x.split
 obtain ⟨_,x3,x⟩:=x.split
 obtain ⟨_,x4,x⟩:=x.split
 obtain ⟨_,x5,x⟩:=x.split
 exact Tr.seq x1 (Tr.seq x2 (Tr.seq x3 (Tr.seq x4 (Tr.seq x5 (Tr.seq x y)))))
theorem Tr.fuel {P Q : SP} {c : CCode} {e : AExit} (k : ∀ s h,P s h → ∃ n,Came (evCode (evW tbl I n) c s h) e Q) : Tr tbl I c P e Q:=fun s h hp => by
 obtain ⟨n,hk⟩:=k s h hp
 unfold Came at hk
 split at hk
 ·rename_i e' s' h' e1
  obtain ⟨rfl,q⟩:=hk
  exact ⟨s',h',⟨n,e1⟩,q⟩
 ·cases hk
end

/-- h' holds what h holds,but for the blocks in M. -/
structure Kp (M : Nat → Prop) (h h' : Heap) : Prop where
 lo : h'.lo = h.lo
 N : h'.N = h.N
 size : h.size ≤ h'.size
 get : ∀ b,b < h.size → ¬ M b → h'.get b = h.get b
theorem Kp.refl {M : Nat → Prop} (h : Heap) : Kp M h h:=⟨rfl,rfl,Nat.le_refl _,fun _ _ _ => rfl⟩
theorem Kp.trans {M : Nat → Prop} {a b c : Heap} (x : Kp M a b) (y : Kp M b c) : Kp M a c :=
 ⟨y.lo.trans x.lo,y.N.trans x.N,Nat.le_trans x.size y.size,fun i hi hm => by rw [y.get i (Nat.lt_of_lt_of_le hi x.size) hm,x.get i hi hm]⟩
theorem Kp.plus {M : Nat → Prop} (h : Heap) (xs : List AObj) : Kp M h (h.plus xs):=⟨rfl,rfl,by rw [plus_size]; omega,fun b hb _ => plus_lt _ _ _ hb⟩
theorem Kp.upd {M : Nat → Prop} (h : Heap) (b : Nat) (x : AObj) (hN : h.N ≤ b) (hb : M b) : Kp M h (h.upd b x):=⟨rfl,rfl,by rw [upd_size]; exact Nat.le_refl _,fun i _ hm => upd_ne _ _ _ _ hN (fun e => hm (e ▸ hb))⟩
/-- A block that came later may be written. -/
theorem Kp.updn {M : Nat → Prop} {h0 h : Heap} (k : Kp M h0 h) (b : Nat) (x : AObj) (hN : h.N ≤ b) (hb : h0.size ≤ b) : Kp M h0 (h.upd b x):=⟨k.lo,k.N,by rw [upd_size]; exact k.size,fun i hi hm => by rw [upd_ne _ _ _ _ hN (by omega)]; exact k.get i hi hm⟩
theorem Kp.at {M : Nat → Prop} {h h' : Heap} (k : Kp M h h') {b : Nat} {x : AObj} (e : h.get b = x) (hx : x ≠ .hole) (hm : ¬ M b) : h'.get b = x:=by rw [k.get b (get_lt e hx) hm,e]
theorem Kp.mono {M M' : Nat → Prop} {h h' : Heap} (k : Kp M h h') (hM : ∀ b,b < h.size → M b → M' b) : Kp M' h h':=⟨k.lo,k.N,k.size,fun b hb hm => k.get b hb fun q => hm (hM b hb q)⟩
theorem Kp.late {M : Nat → Prop} {h0 h h' : Heap} (x : Kp (fun _ => False) h0 h) (y : Kp M h h') (hm : ∀ q,M q → h0.size ≤ q) : Kp (fun _ => False) h0 h' :=
 ⟨y.lo.trans x.lo,y.N.trans x.N,Nat.le_trans x.size y.size,fun b hb _ => by rw [y.get b (Nat.lt_of_lt_of_le hb x.size) (fun m => by have:=hm b m; omega),x.get b hb id]⟩

end Go.AEv
