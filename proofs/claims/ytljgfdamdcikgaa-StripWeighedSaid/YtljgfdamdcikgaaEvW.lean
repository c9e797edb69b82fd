/-
 WHAT A PIECE OF CODE BRINGS ABOUT,told from its end ('W'): one region after another goes forward by 'simp',no state in between is written down. No condition.
-/
import Derived.Test.YtljgfdamdcikgaaEvAny
set_option linter.unusedVariables false
set_option linter.unusedSimpArgs false
namespace Go.AEv

abbrev PQ:=AExit → T → Heap → Prop
def W (tbl : Nat → Option CFunc) (I : CallF) (c : CCode) (s : T) (h : Heap) (Q : PQ) : Prop:=∃ e s' h',Runs tbl I c s h (e,s',h') ∧ Q e s' h'
/-- What comes after a first part. -/
def thenW (tbl : Nat → Option CFunc) (I : CallF) (b : CCode) (Q : PQ) : PQ
 | .normal,s,h => W tbl I b s h Q
 | .exit i,s,h => Q (.exit i) s h
 | .ret,s,h => Q .ret s h
def blkW (id : Nat) (Q : PQ) : PQ
 | .normal,s,h => Q .normal s h
 | .exit i,s,h => if i = id then Q .normal s h else Q (.exit i) s h
 | .ret,s,h => Q .ret s h
/-- Where a region has come to. -/
def Cm (x : Option (AExit × T × Heap)) (Q : PQ) : Prop:=match x with
 | some (e,s,h) => Q e s h
 | none => False

section
variable {tbl : Nat → Option CFunc} {I : CallF} {P R : SP} {Q : PQ} {a b c : CCode} {e : AExit} {live : List Path} {id : Nat} {s : T} {h : Heap}

theorem Cm_some (e : AExit) (s : T) (h : Heap) (Q : PQ) : Cm (some (e,s,h)) Q = Q e s h:=rfl
theorem thenW_n : thenW tbl I b Q .normal s h = W tbl I b s h Q:=rfl
theorem thenW_e {i : Nat} : thenW tbl I b Q (.exit i) s h = Q (.exit i) s h:=rfl
theorem thenW_r : thenW tbl I b Q .ret s h = Q .ret s h:=rfl
theorem blkW_n : blkW id Q .normal s h = Q .normal s h:=rfl
theorem blkW_e {i : Nat} : blkW id Q (.exit i) s h = if i = id then Q .normal s h else Q (.exit i) s h:=rfl
theorem blkW_r : blkW id Q .ret s h = Q .ret s h:=rfl

theorem W.seq (x : W tbl I a s h (thenW tbl I b Q)) : W tbl I (.seq a b) s h Q:=by
 obtain ⟨e,s1,h1,r,q⟩:=x
 cases e with
 | normal =>
  obtain ⟨e2,s2,h2,r2,q2⟩:=q
  exact ⟨e2,s2,h2,Runs.seq r r2,q2⟩
 | exit i => exact ⟨_,s1,h1,Runs.seq_out r (by simp),q⟩
 | ret => exact ⟨_,s1,h1,Runs.seq_out r (by simp),q⟩
theorem W.assoc {d : CCode} (x : W tbl I (.seq a (.seq b d)) s h Q) : W tbl I (.seq (.seq a b) d) s h Q:=by
 obtain ⟨e,s1,h1,r,q⟩:=x
 exact ⟨e,s1,h1,Runs.assoc' r,q⟩
theorem W.block (x : W tbl I c s h (blkW id Q)) : W tbl I (.block id c) s h Q:=by
 obtain ⟨e,s1,h1,r,q⟩:=x
 cases e with
 | normal => exact ⟨_,s1,h1,Runs.block_out r (by simp),q⟩
 | exit i =>
  by_cases hi : i = id
  ·subst hi
   rw [blkW_e,if_pos rfl] at q
   exact ⟨_,s1,h1,Runs.block_exit r,q⟩
  ·rw [blkW_e,if_neg hi] at q
   exact ⟨_,s1,h1,Runs.block_out r (by simpa using hi),q⟩
 | ret => exact ⟨_,s1,h1,Runs.block_out r (by simp),q⟩
theorem W.trim (x : W tbl I c (keep live s) h Q) : W tbl I (.trim live c) s h Q:=by
 obtain ⟨e,s1,h1,r,q⟩:=x
 exact ⟨e,s1,h1,Runs.trim r,q⟩
theorem W.scope (x : W tbl I c s h Q) : W tbl I (.scope c) s h Q:=by
 obtain ⟨e,s1,h1,r,q⟩:=x
 exact ⟨e,s1,h1,Runs.scope r,q⟩
theorem W.chunk (x : Cm (evCode (kn I) c s h) Q) : W tbl I c s h Q:=by
 unfold Cm at x
 split at x
 ·rename_i e' s' h' e1
  exact ⟨e',s',h',Runs.chunk e1,x⟩
 ·cases x
theorem W.cond {x y : CCode} {o : AOpd} {v : Bool} (hc : o.ev s = .bool v) (k : W tbl I (if v then x else y) s h Q) : W tbl I (.cond o x y) s h Q:=by
 obtain ⟨e,s1,h1,r,q⟩:=k
 exact ⟨e,s1,h1,Runs.cond hc r,q⟩
theorem W.use (t : Tr tbl I c P e R) (hp : P s h) (k : ∀ s' h',R s' h' → Q e s' h') : W tbl I c s h Q:=by
 obtain ⟨s1,h1,r,q⟩:=t s h hp
 exact ⟨e,s1,h1,r,k _ _ q⟩
/-- Code that is known,and goes on. -/
theorem W.useN (t : Tr tbl I a P .normal R) (hp : P s h) (k : ∀ s' h',R s' h' → W tbl I b s' h' Q) : W tbl I (.seq a b) s h Q:=W.seq (W.use t hp k)
theorem W.useB {i : Nat} (t : Tr tbl I a P (.exit i) R) (hp : P s h) (k : ∀ s' h',R s' h' → W tbl I b s' h' Q) : W tbl I (.seq (.block i a) b) s h Q:=W.useN (Tr.block t) hp k
theorem W.skip (x : Q .normal s h) : W tbl I .skip s h Q:=⟨_,_,_,Runs.chunk rfl,x⟩
theorem W.ret (x : Q .ret s h) : W tbl I .ret s h Q:=⟨_,_,_,Runs.chunk rfl,x⟩
theorem W.exit {i : Nat} (x : Q (.exit i) s h) : W tbl I (.exit i) s h Q:=⟨_,_,_,Runs.chunk rfl,x⟩
theorem W.mono {Q' : PQ} (x : W tbl I c s h Q) (k : ∀ e s' h',Q e s' h' → Q' e s' h') : W tbl I c s h Q':=by
 obtain ⟨e,s1,h1,r,q⟩:=x
 exact ⟨e,s1,h1,r,k _ _ _ q⟩

theorem Tr.w (k : ∀ s h,P s h → ∀ Q : PQ,(∀ s' h',R s' h' → Q e s' h') → W tbl I c s h Q) : Tr tbl I c P e R:=fun s h hp => by
 obtain ⟨e',s1,h1,r,he,q⟩:=k s h hp (fun e' s' h' => e' = e ∧ R s' h') (fun s' h' q => ⟨rfl,q⟩)
 subst he
 exact ⟨s1,h1,r,q⟩
theorem Tr.of_w (k : ∀ s h,P s h → W tbl I c s h (fun e' s' h' => e' = e ∧ R s' h')) : Tr tbl I c P e R:=fun s h hp => by
 obtain ⟨e',s1,h1,r,he,q⟩:=k s h hp
 subst he
 exact ⟨s1,h1,r,q⟩
/-- Rounds from m to M,whatever comes of the last one. -/
theorem W.rounds {P : Nat → SP} {M : Nat} (m : Nat) (hm : m ≤ M) (hp : P m s h) (step : ∀ m,m < M → Tr tbl I (.trim live c) (P m) .normal (P (m + 1))) (fin : Tr tbl I (.trim live c) (P M) e R) (he : e ≠ .normal) (k : ∀ s' h',R s' h' → Q e s' h') : W tbl I (.loop live c) s h Q :=
 W.use (Tr.rounds step fin he m hm) hp k

/-! ### What is known grows,by what is asked and what is told -/
theorem CallsTo.det {f : Nat} {args : List AV} {h : Heap} {x y : AV × List AObj × Bool} (e1 : CallsTo tbl I f args h x) (e2 : CallsTo tbl I f args h y) : x = y:=by
 obtain ⟨n,e1⟩:=e1
 obtain ⟨m,e2⟩:=e2
 have a:=(evW_le' (tbl:=tbl) (I:=I) (Nat.le_max_left n m)).call f args h x e1
 have b:=(evW_le' (tbl:=tbl) (I:=I) (Nat.le_max_right n m)).call f args h y e2
 exact Option.some.inj (a.symm.trans b)
noncomputable def addK {α : Type} (tbl : Nat → Option CFunc) (I : CallF) (f : Nat) (Pre : α → List AV → Heap → Prop) (Post : α → Heap → AV → List AObj → Prop) : CallF :=
 addX tbl I f fun args h v own => ∀ a,Pre a args h → Post a h v own
theorem Sound.addK {α : Type} {P : Program} (hm : P.follows .mixedOrders = true) (htbl : ∀ f cf,tbl f = some cf → funcOk P f cf = true) (hI : Sound P I) {f : Nat} (hf : f ≠ 0) (Pre : α → List AV → Heap → Prop) (Post : α → Heap → AV → List AObj → Prop) : Sound P (addK tbl I f Pre Post):=Sound.addX hm htbl hI hf _
theorem addK_ne {α : Type} {f g : Nat} {Pre : α → List AV → Heap → Prop} {Post : α → Heap → AV → List AObj → Prop} (hg : g ≠ f) (args : List AV) (h : Heap) : addK tbl I f Pre Post g args h = I g args h:=addX_ne hg args h
theorem addK_some {α : Type} {f : Nat} {Pre : α → List AV → Heap → Prop} {Post : α → Heap → AV → List AObj → Prop} (ok : ∀ a args h,Pre a args h → ∃ v own,CallsTo tbl I f args h (v,own,false) ∧ Post a h v own) (a : α) (args : List AV) (h : Heap) (hp : Pre a args h) :
  ∃ v own,addK tbl I f Pre Post f args h = some (v,own,false) ∧ Post a h v own:=by
 obtain ⟨v,own,e,q⟩:=ok a args h hp
 obtain ⟨v1,own1,e1,g⟩:=addX_some (tbl:=tbl) (I:=I) (f:=f) (Good:=fun args h v own => ∀ a,Pre a args h → Post a h v own) ⟨v,own,e,fun a' hp' => by
  obtain ⟨v',own',e',q'⟩:=ok a' args h hp'
  have:=CallsTo.det e e'
  simp only [Prod.mk.injEq,and_true] at this
  obtain ⟨rfl,rfl⟩:=this
  exact q'⟩
 exact ⟨v1,own1,e1,g a hp⟩
end

theorem put_plus1 (h : Heap) (v o g : Nat) (cs : List AV) (x : AV) (xs : List AObj) (b : Nat) (hb : h.size = b) (ho : o < cs.length) : Eff.app (.put b v o [x]) (h.plus (.cells g v cs :: xs)) = some (h.plus (.cells g v (cs.set o x) :: xs)):=by
 rw [put_plus0 _ _ _ _ _ _ _ _ hb (by simp; omega)]; rfl
/-! ### New slices,of elements of any size -/
def mkSlG (h : Heap) (g bytes : Nat) (z : List AV) (n : Int) : Option (AV × FP):=if 0 ≤ n ∧ n * bytes ≤ 1099511627776 ∧ z.length = g then some (.slice h.size 0 n.toNat (n.toNat * g),{ eff:=.grow [.cells g (n.toNat * g) (repl n.toNat z)] }) else none
/-- With 'minus act'. -/
theorem act_mkG (call : CallF) (h0 : Heap) (s : T) (h : Heap) (g bytes : Nat) (z : List AV) (x : AOpd) : act call h0 s h (.makeSlice none g bytes z x) = match x.ev s with
  | .int _ n => mkSlG h g bytes z n
  | _ => none:=by
 simp only [act]
 cases x.ev s <;> rfl
theorem mkSlG_ok (h : Heap) (g bytes : Nat) (z : List AV) (n : Nat) (N : Int) (hN : N = n) (hb : n * bytes ≤ 1099511627776) (hz : z.length = g) : mkSlG h g bytes z N = some (.slice h.size 0 n (n * g),{ eff:=.grow [.cells g (n * g) (repl n z)] }):=by
 subst hN
 unfold mkSlG
 rw [if_pos ⟨by omega,by rw [← Int.natCast_mul]; omega,hz⟩,Int.toNat_natCast]

end Go.AEv
