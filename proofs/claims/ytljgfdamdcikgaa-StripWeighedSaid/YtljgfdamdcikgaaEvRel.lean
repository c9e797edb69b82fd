/-
 How the evaluator's memory stands to the model's: 'VR' (a value),'OR' (a block),'HR' (all of it); how it is kept when one block changes ('HR.upd'). No condition.
-/
import Derived.Test.YtljgfdamdcikgaaEv
import Derived.Laws.CopyRow
import Derived.Laws.Cells
import Derived.Laws.Entries
import Derived.OrdersIn
import Derived.RangeFuncLeaves
set_option linter.unusedVariables false
set_option linter.unusedSimpArgs false
namespace Go.AEv

def pathF : Nat → Nat → Path
 | 0,_ => []
 | _ + 1,0 => []
 | k + 1,n + 1 => (n % 2 == 1) :: pathF k (n / 2)
def pathOf (n : Nat) : Path:=pathF n n

theorem pathF_inj : ∀ (k n l m : Nat),n ≤ k → m ≤ l → pathF k n = pathF l m → n = m:=by
 intro k
 induction k with
 | zero =>
  intro n l m hn hm h
  obtain rfl : n = 0:=by omega
  cases l with
  | zero => omega
  | succ l => cases m with
   | zero => rfl
   | succ m => simp [pathF] at h
 | succ k ih =>
  intro n l m hn hm h
  cases n with
  | zero =>
   cases l with
   | zero => omega
   | succ l => cases m with
    | zero => rfl
    | succ m => simp [pathF] at h
  | succ n =>
   cases l with
   | zero =>
    obtain rfl : m = 0:=by omega
    simp [pathF] at h
   | succ l =>
    cases m with
    | zero => simp [pathF] at h
    | succ m =>
     simp only [pathF,List.cons.injEq] at h
     have h2:=ih (n / 2) l (m / 2) (by omega) (by omega) h.2
     have h1 : (n % 2 == 1) = (m % 2 == 1):=h.1
     have : n % 2 = m % 2:=by
      have a:=Nat.mod_lt n (by decide : 0 < 2)
      have b:=Nat.mod_lt m (by decide : 0 < 2)
      by_cases x : n % 2 = 1
      ·simp [x] at h1; omega
      ·by_cases y : m % 2 = 1
       ·simp [y] at h1; omega
       ·omega
     omega
theorem pathOf_inj (n m : Nat) (h : pathOf n = pathOf m) : n = m:=pathF_inj n n m m (Nat.le_refl _) (Nat.le_refl _) h

theorem T.get_leaf (p : Path) : T.get .leaf p = .undef:=by cases p <;> rfl

theorem T.get_set (t : T) (p q : Path) (x : AV) : (t.set p x).get q = if p = q then x else t.get q:=by
 induction p generalizing t q with
 | nil => cases t <;> cases q <;> simp [T.set,T.get,T.get_leaf] <;> rename_i b _ <;> cases b <;> simp [T.get,T.get_leaf]
 | cons b p ih =>
  cases t <;> cases b <;> cases q <;> (try rename_i c q; cases c) <;> simp [T.set,T.get,T.get_leaf,ih]

theorem T.get_put (t : T) (p : Option Path) (q : Path) (x : AV) : (t.put p x).get q = if p = some q then x else t.get q:=by
 cases p with
 | none => simp [T.put]
 | some p => simp [T.put,T.get_set]

structure Emb where
 blk : Nat
 off : Nat
 ext : Nat

mutual
/-- What a value of the evaluator stands for. -/
def VR (φ : Nat → Emb) (H : Heap) : AV → Value → Prop
 | .undef,_ => True
 | .bool b,v => v = .bool b
 | .int k n,v => v = .int k n
 | .str s,v => v = .string ⟨s.toArray⟩
 | .ptr b o ver,v => ∃ a g n cs,v = .pointer (some a) ∧ H.get b = .cells g n cs ∧ ver ≤ n ∧ (ver = n → a = ⟨(φ b).blk,(φ b).off + o,none⟩)
 | .nilp,v => v = .pointer none
 | .slice b o len ver,v => ∃ a c g n cs,v = .slice (some a) len c ∧ len ≤ c ∧ H.get b = .cells g n cs ∧ ver ≤ n ∧
   (ver = n → a = ⟨(φ b).blk,(φ b).off + o,none⟩ ∧ (g ≠ 0 → o = 0 → c * g ≤ (φ b).ext))
 | .slice0,v => ∃ a c,v = .slice (some a) 0 c
 | .nils,v => v = .slice none 0 0
 | .map b,v => ∃ es,v = .map (some (φ b).blk) ∧ H.get b = .map es
 | .nilm,v => v = .map none
 | .func f cap,v => ∃ vs,v = .func (.func f) #[] vs ∧ VRs φ H cap vs.toList
 | .itr b,v => ∃ c pos,v = .pointer (some ⟨(φ b).blk,0,none⟩) ∧ H.get b = .iter c pos
 | .yld l,v => ∃ st pend s ps x y,v = .func (.yield (φ l).blk) #[] #[] ∧ H.get l = .loop st pend s ps x y
 | .nilf,v => v = .nilFunc
 | .iface t x,v => ∃ y,v = .iface t y ∧ VR φ H x y
 | .nili,v => v = .nilIface
 | .agg c,v => ∃ vs,v = .agg vs ∧ VRs φ H c vs.toList ∧ ∀ x ∈ vs.toList,Value.oneCell' x = true
 | .tup c,v => ∃ vs,v = .tuple vs ∧ VRs φ H c vs.toList
def VRs (φ : Nat → Emb) (H : Heap) : List AV → List Value → Prop
 | [],vs => vs = []
 | a :: as,vs => ∃ v vs',vs = v :: vs' ∧ VR φ H a v ∧ VRs φ H as vs'
end

/-- From one memory to a later one: what stood,stands; a block whose cells have not grown lies where it lay. -/
def Stp (φ : Nat → Emb) (H : Heap) (φ' : Nat → Emb) (H' : Heap) : Prop:=∀ b,
 (∀ g n cs,H.get b = .cells g n cs → ∃ n' cs',H'.get b = .cells g n' cs' ∧ n ≤ n' ∧ (n' = n → φ' b = φ b)) ∧
 (∀ es,H.get b = .map es → ∃ es',H'.get b = .map es' ∧ φ' b = φ b) ∧
 (∀ st pend s ps x y,H.get b = .loop st pend s ps x y → ∃ st' pend' s' ps' x' y',H'.get b = .loop st' pend' s' ps' x' y' ∧ φ' b = φ b) ∧
 (∀ c pos,H.get b = .iter c pos → ∃ c' pos',H'.get b = .iter c' pos' ∧ φ' b = φ b)

theorem Stp.refl (φ : Nat → Emb) (H : Heap) : Stp φ H φ H:=fun b =>
 ⟨fun g n cs h => ⟨n,cs,h,Nat.le_refl _,fun _ => rfl⟩,fun es h => ⟨es,h,rfl⟩,fun st pend s ps x y h => ⟨st,pend,s,ps,x,y,h,rfl⟩,fun c pos h => ⟨c,pos,h,rfl⟩⟩

theorem Stp.trans {φ φ' φ'' : Nat → Emb} {H H' H'' : Heap} (h : Stp φ H φ' H') (h' : Stp φ' H' φ'' H'') : Stp φ H φ'' H'':=fun b => by
 refine ⟨fun g n cs e => ?_,fun es e => ?_,fun st pend s ps x y e => ?_,fun c pos e => ?_⟩
 ·obtain ⟨n',cs',e',l,k⟩:=(h b).1 g n cs e
  obtain ⟨n'',cs'',e'',l',k'⟩:=(h' b).1 g n' cs' e'
  exact ⟨n'',cs'',e'',Nat.le_trans l l',fun q => by rw [k' (by omega),k (by omega)]⟩
 ·obtain ⟨es',e',k⟩:=(h b).2.1 es e
  obtain ⟨es'',e'',k'⟩:=(h' b).2.1 es' e'
  exact ⟨es'',e'',k'.trans k⟩
 ·obtain ⟨a1,a2,a3,a4,a5,a6,e',k⟩:=(h b).2.2.1 st pend s ps x y e
  obtain ⟨b1,b2,b3,b4,b5,b6,e'',k'⟩:=(h' b).2.2.1 _ _ _ _ _ _ e'
  exact ⟨b1,b2,b3,b4,b5,b6,e'',k'.trans k⟩
 ·obtain ⟨c',pos',e',k⟩:=(h b).2.2.2 c pos e
  obtain ⟨c'',pos'',e'',k'⟩:=(h' b).2.2.2 c' pos' e'
  exact ⟨c'',pos'',e'',k'.trans k⟩

section
variable {φ φ' : Nat → Emb} {H H' : Heap}
mutual
theorem VR.step (hs : Stp φ H φ' H') : ∀ (v : AV) (x : Value),VR φ H v x → VR φ' H' v x
 | .ptr b o ver,x,h => by
  simp only [VR] at h ⊢
  obtain ⟨a,g,n,cs,e,hg,hv,ha⟩:=h
  obtain ⟨n',cs',hg',hn,hφ⟩:=(hs b).1 g n cs hg
  refine ⟨a,g,n',cs',e,hg',by omega,fun q => ?_⟩
  rw [hφ (by omega)]
  exact ha (by omega)
 | .slice b o len ver,x,h => by
  simp only [VR] at h ⊢
  obtain ⟨a,c,g,n,cs,e,hl,hg,hv,ha⟩:=h
  obtain ⟨n',cs',hg',hn,hφ⟩:=(hs b).1 g n cs hg
  refine ⟨a,c,g,n',cs',e,hl,hg',by omega,fun q => ?_⟩
  rw [hφ (by omega)]
  exact ha (by omega)
 | .map b,x,h => by
  simp only [VR] at h ⊢
  obtain ⟨es,e,hg⟩:=h
  obtain ⟨es',hg',hφ⟩:=(hs b).2.1 es hg
  exact ⟨es',by rw [hφ]; exact e,hg'⟩
 | .yld l,x,h => by
  simp only [VR] at h ⊢
  obtain ⟨a1,a2,a3,a4,a5,a6,e,hg⟩:=h
  obtain ⟨b1,b2,b3,b4,b5,b6,hg',hφ⟩:=(hs l).2.2.1 _ _ _ _ _ _ hg
  exact ⟨b1,b2,b3,b4,b5,b6,by rw [hφ]; exact e,hg'⟩
 | .itr b,x,h => by
  simp only [VR] at h ⊢
  obtain ⟨c,pos,e,hg⟩:=h
  obtain ⟨c',pos',hg',hφ⟩:=(hs b).2.2.2 c pos hg
  exact ⟨c',pos',by rw [hφ]; exact e,hg'⟩
 | .func f cap,x,h => by
  simp only [VR] at h ⊢
  obtain ⟨vs,e,h⟩:=h
  exact ⟨vs,e,VRs.step hs cap _ h⟩
 | .iface t y,x,h => by
  simp only [VR] at h ⊢
  obtain ⟨z,e,h⟩:=h
  exact ⟨z,e,VR.step hs y z h⟩
 | .agg c,x,h => by
  simp only [VR] at h ⊢
  obtain ⟨vs,e,h,hc⟩:=h
  exact ⟨vs,e,VRs.step hs c _ h,hc⟩
 | .tup c,x,h => by
  simp only [VR] at h ⊢
  obtain ⟨vs,e,h⟩:=h
  exact ⟨vs,e,VRs.step hs c _ h⟩
 | .undef,x,h => by simp [VR]
 | .bool b,x,h => by simpa only [VR] using h
 | .int k n,x,h => by simpa only [VR] using h
 | .str s,x,h => by simpa only [VR] using h
 | .nilp,x,h => by simpa only [VR] using h
 | .slice0,x,h => by simpa only [VR] using h
 | .nils,x,h => by simpa only [VR] using h
 | .nilm,x,h => by simpa only [VR] using h
 | .nilf,x,h => by simpa only [VR] using h
 | .nili,x,h => by simpa only [VR] using h
theorem VRs.step (hs : Stp φ H φ' H') : ∀ (v : List AV) (x : List Value),VRs φ H v x → VRs φ' H' v x
 | [],x,h => by simpa only [VRs] using h
 | v :: vs,x,h => by
  simp only [VRs] at h ⊢
  obtain ⟨y,ys,e,h1,h2⟩:=h
  exact ⟨y,ys,e,VR.step hs v y h1,VRs.step hs vs ys h2⟩
end
mutual
/-- A value without addresses stands for the same in each memory. -/
theorem VR.ofFlat : ∀ (v : AV) (x : Value),v.flat = true → VR φ H v x → VR φ' H' v x
 | .ptr b o ver,x,f,h => by simp [AV.flat] at f
 | .slice b o len ver,x,f,h => by simp [AV.flat] at f
 | .map b,x,f,h => by simp [AV.flat] at f
 | .yld l,x,f,h => by simp [AV.flat] at f
 | .func g cap,x,f,h => by simp [AV.flat] at f
 | .iface t y,x,f,h => by
  simp only [VR] at h ⊢
  simp only [AV.flat] at f
  obtain ⟨z,e,h⟩:=h
  exact ⟨z,e,VR.ofFlat y z f h⟩
 | .agg c,x,f,h => by
  simp only [VR] at h ⊢
  simp only [AV.flat] at f
  obtain ⟨vs,e,h,hc⟩:=h
  exact ⟨vs,e,VRs.ofFlat c _ f h,hc⟩
 | .tup c,x,f,h => by
  simp only [VR] at h ⊢
  simp only [AV.flat] at f
  obtain ⟨vs,e,h⟩:=h
  exact ⟨vs,e,VRs.ofFlat c _ f h⟩
 | .undef,x,f,h => by simp [VR]
 | .bool b,x,f,h => by simpa only [VR] using h
 | .int k n,x,f,h => by simpa only [VR] using h
 | .str s,x,f,h => by simpa only [VR] using h
 | .nilp,x,f,h => by simpa only [VR] using h
 | .slice0,x,f,h => by simpa only [VR] using h
 | .nils,x,f,h => by simpa only [VR] using h
 | .nilm,x,f,h => by simpa only [VR] using h
 | .nilf,x,f,h => by simpa only [VR] using h
 | .nili,x,f,h => by simpa only [VR] using h
theorem VRs.ofFlat : ∀ (v : List AV) (x : List Value),AV.flats v = true → VRs φ H v x → VRs φ' H' v x
 | [],x,f,h => by simpa only [VRs] using h
 | v :: vs,x,f,h => by
  simp only [VRs] at h ⊢
  simp only [AV.flats,Bool.and_eq_true] at f
  obtain ⟨y,ys,e,h1,h2⟩:=h
  exact ⟨y,ys,e,VR.ofFlat v y f.1 h1,VRs.ofFlat vs ys f.2 h2⟩
end

theorem VRs.length : ∀ {vs : List AV} {xs : List Value},VRs φ H vs xs → xs.length = vs.length
 | [],xs,h => by simp only [VRs] at h; simp [h]
 | v :: vs,xs,h => by
  simp only [VRs] at h
  obtain ⟨y,ys,rfl,_,h2⟩:=h
  simp [VRs.length h2]

theorem VRs.get : ∀ {vs : List AV} {xs : List Value} {i : Nat} {v : AV},VRs φ H vs xs → vs[i]? = some v → ∃ x,xs[i]? = some x ∧ VR φ H v x
 | [],xs,i,v,h,e => by simp at e
 | a :: vs,xs,i,v,h,e => by
  simp only [VRs] at h
  obtain ⟨y,ys,rfl,h1,h2⟩:=h
  cases i with
  | zero => simp at e; subst e; exact ⟨y,by simp,h1⟩
  | succ i =>
   simp at e
   obtain ⟨x,hx,hv⟩:=VRs.get h2 e
   exact ⟨x,by simpa using hx,hv⟩

theorem VRs.ofGet : ∀ {vs : List AV} {xs : List Value},xs.length = vs.length → (∀ (i : Nat) v x,vs[i]? = some v → xs[i]? = some x → VR φ H v x) → VRs φ H vs xs
 | [],xs,hl,h => by simp only [VRs]; exact List.eq_nil_of_length_eq_zero hl
 | v :: vs,[],hl,h => by simp at hl
 | v :: vs,x :: xs,hl,h => by
  simp only [VRs]
  exact ⟨x,xs,rfl,h 0 v x (by simp) (by simp),VRs.ofGet (by simpa using hl) fun i a b ha hb => h (i + 1) a b (by simpa using ha) (by simpa using hb)⟩

theorem VRs.append {as bs : List AV} {xs ys : List Value} (h : VRs φ H as xs) (h' : VRs φ H bs ys) : VRs φ H (as ++ bs) (xs ++ ys):=by
 induction as generalizing xs with
 | nil => simp only [VRs] at h; subst h; simpa using h'
 | cons a as ih =>
  simp only [VRs] at h
  obtain ⟨y,zs,rfl,h1,h2⟩:=h
  simp only [List.cons_append,VRs]
  exact ⟨y,zs ++ ys,rfl,h1,ih h2⟩
end

/-- Pairs of a map. -/
def ER (φ : Nat → Emb) (H : Heap) : List (AV × AV) → List MapEntry → Prop
 | [],xs => xs = []
 | e :: es,xs => ∃ x xs',xs = x :: xs' ∧ VR φ H e.1 x.key ∧ VR φ H e.2 x.val ∧ ER φ H es xs'

theorem ER.step {φ φ' : Nat → Emb} {H H' : Heap} (hs : Stp φ H φ' H') : ∀ {es : List (AV × AV)} {xs : List MapEntry},ER φ H es xs → ER φ' H' es xs
 | [],xs,h => by simpa only [ER] using h
 | e :: es,xs,h => by
  simp only [ER] at h ⊢
  obtain ⟨x,xs',e1,h1,h2,h3⟩:=h
  exact ⟨x,xs',e1,VR.step hs _ _ h1,VR.step hs _ _ h2,ER.step hs h3⟩

/-- The slots. -/
def SR (φ : Nat → Emb) (H : Heap) (s : T) (tmps : Array Value) : Prop:=∀ (i : Nat),VR φ H (s.get (pathOf i)) (tmps.getD i undef)

theorem SR.step {φ φ' : Nat → Emb} {H H' : Heap} (hs : Stp φ H φ' H') {s : T} {tmps : Array Value} (h : SR φ H s tmps) : SR φ' H' s tmps :=
 fun i => VR.step hs _ _ (h i)

def exitC : AExit → Option Code
 | .normal => none
 | .exit id => some (.exit id)
 | .ret => some .ret

abbrev CKT:=Nat → Code → CCode → Prop

/-- A block. -/
def OR (CK : CKT) (φ : Nat → Emb) (H : Heap) (w : World) (e : Emb) : AObj → Prop
 | .hole => True
 | .cells _ _ cs => ∃ c t fr,w.heap[e.blk]? = some (.cells c t fr) ∧ e.off + e.ext ≤ c.size ∧ cs.length ≤ e.ext ∧
   ∀ (j : Nat) v,cs[j]? = some v → ∃ x,c[e.off + j]? = some x ∧ VR φ H v x ∧ Value.oneCell' x = true
 | .map es => ∃ xs clock,w.heap[e.blk]? = some (.map xs clock) ∧ ER φ H es xs.toList
 | .iter c pos => w.heap[e.blk]? = some (.stringIter ⟨c.toArray⟩ pos)
 | .loop st pend s ps x y => ∃ L,w.heap[e.blk]? = some (.loop L) ∧ L.state = st ∧ (L.pending = match pend with | none => none | some e => exitC e) ∧ SR φ H s L.tmps ∧
   ps = L.params.toList.map pathOf ∧ (∀ t ∈ L.params.toList,t < L.tmps.size) ∧ CK L.tmps.size L.assign x ∧ CK L.tmps.size L.body y

theorem OR.step {CK : CKT} {φ φ' : Nat → Emb} {H H' : Heap} {w w' : World} {e : Emb} {X : AObj} (hs : Stp φ H φ' H') (hw : X ≠ .hole → w'.heap[e.blk]? = w.heap[e.blk]?) (h : OR CK φ H w e X) : OR CK φ' H' w' e X:=by
 cases X with
 | hole => trivial
 | cells g n cs =>
  simp only [OR] at h ⊢
  obtain ⟨c,t,fr,h1,h2,h3,h4⟩:=h
  refine ⟨c,t,fr,by rw [hw (by simp)]; exact h1,h2,h3,fun j v hv => ?_⟩
  obtain ⟨x,hx,hr,hc⟩:=h4 j v hv
  exact ⟨x,hx,VR.step hs _ _ hr,hc⟩
 | map es =>
  simp only [OR] at h ⊢
  obtain ⟨xs,clock,h1,h2⟩:=h
  exact ⟨xs,clock,by rw [hw (by simp)]; exact h1,ER.step hs h2⟩
 | iter c pos =>
  simp only [OR] at h ⊢
  rw [hw (by simp)]; exact h
 | loop st pend s ps x y =>
  simp only [OR] at h ⊢
  obtain ⟨L,h1,h2,h3,h4,h5⟩:=h
  exact ⟨L,by rw [hw (by simp)]; exact h1,h2,h3,SR.step hs h4,h5⟩

theorem OR.lt {CK : CKT} {φ : Nat → Emb} {H : Heap} {w : World} {e : Emb} {X : AObj} (h : OR CK φ H w e X) (hX : X ≠ .hole) : e.blk < w.heap.size:=by
 have : ∃ o,w.heap[e.blk]? = some o:=by
  cases X with
  | hole => exact absurd rfl hX
  | cells g n cs => obtain ⟨c,t,fr,h1,_⟩:=h; exact ⟨_,h1⟩
  | map es => obtain ⟨xs,clock,h1,_⟩:=h; exact ⟨_,h1⟩
  | iter c pos => exact ⟨_,h⟩
  | loop st pend s ps x y => obtain ⟨L,h1,_⟩:=h; exact ⟨_,h1⟩
 obtain ⟨o,ho⟩:=this
 exact (Array.getElem?_eq_some_iff.1 ho).1

/-- What a world holds beside its memory. -/
def Env (w w' : World) : Prop:=w'.os = w.os ∧ w'.tape = w.tape ∧ w'.output = w.output
theorem Env.refl (w : World) : Env w w:=⟨rfl,rfl,rfl⟩
theorem Env.trans {a b c : World} (x : Env a b) (y : Env b c) : Env a c:=⟨y.1.trans x.1,y.2.1.trans x.2.1,y.2.2.trans x.2.2⟩

/-- All of the memory: 'w0' is the world in which the frame began; 'K' are records that are to stay. -/
structure HR (CK : CKT) (w0 : World) (K : List Nat) (φ : Nat → Emb) (H : Heap) (w : World) : Prop where
 size : w0.heap.size ≤ w.heap.size
 old : ∀ b,b < w0.heap.size → w.heap[b]? = w0.heap[b]?
 obj : ∀ i,OR CK φ H w (φ i) (H.get i)
 own : ∀ i,H.N ≤ i → H.get i ≠ .hole → w0.heap.size ≤ (φ i).blk ∧ (φ i).off = 0 ∧ ∀ c t fr,w.heap[(φ i).blk]? = some (.cells c t fr) → fr = (0,0)
 sep : ∀ i j,H.N ≤ j → H.get i ≠ .hole → H.get j ≠ .hole → i ≠ j → (φ i).blk ≠ (φ j).blk
 keep : ∀ r ∈ K,w0.heap.size ≤ r ∧ w.heap[r]? = some (.deferred (some []))
 nodup : K.Nodup
 env : Env w0 w

theorem HR.ofHeap {CK : CKT} {w0 : World} {K : List Nat} {φ : Nat → Emb} {H : Heap} {w w' : World} (h : HR CK w0 K φ H w) (e : w'.heap = w.heap) (hE : Env w w':=by exact ⟨rfl,rfl,rfl⟩) : HR CK w0 K φ H w' where
 size:=by rw [e]; exact h.size
 old:=by rw [e]; exact h.old
 obj i:=OR.step (Stp.refl φ H) (fun _ => by rw [e]) (h.obj i)
 own:=by rw [e]; exact h.own
 sep:=h.sep
 keep:=by rw [e]; exact h.keep
 nodup:=h.nodup
 env:=h.env.trans hE

def upd (φ : Nat → Emb) (i : Nat) (e : Emb) : Nat → Emb:=fun j => if j = i then e else φ j

/-- ONE BLOCK CHANGES,or is made. -/
theorem HR.upd {CK : CKT} {w0 : World} {K : List Nat} {φ : Nat → Emb} {H H' : Heap} {w w' : World} (h : HR CK w0 K φ H w) (i : Nat) (hi : H.N ≤ i) (X : AObj) (e : Emb)
  (hN : H'.N = H.N) (hget : ∀ j,H'.get j = if j = i then X else H.get j)
  (hsz : w.heap.size ≤ w'.heap.size) (hsame : ∀ r,r < w.heap.size → r ≠ e.blk → w'.heap[r]? = w.heap[r]?)
  (he : (e.blk = (φ i).blk ∧ H.get i ≠ .hole) ∨ w.heap.size ≤ e.blk) (hoff : e.off = 0)
  (hs : Stp φ H (AEv.upd φ i e) H') (hX : OR CK (AEv.upd φ i e) H' w' e X) (hfr : ∀ c t fr,w'.heap[e.blk]? = some (.cells c t fr) → fr = (0,0)) (hE : Env w w':=by exact ⟨rfl,rfl,rfl⟩) :
  HR CK w0 K (AEv.upd φ i e) H' w':=by
 have hlow : w0.heap.size ≤ e.blk:=by
  rcases he with ⟨he,hh⟩ | he
  ·rw [he]; exact (h.own i hi hh).1
  ·exact Nat.le_trans h.size he
 have hne : ∀ j,j ≠ i → H.get j ≠ .hole → (φ j).blk ≠ e.blk:=by
  intro j hj hh
  rcases he with ⟨he,hi'⟩ | he
  ·rw [he]; exact h.sep j i hi hh hi' hj
  ·have:=OR.lt (h.obj j) hh; omega
 refine ⟨Nat.le_trans h.size hsz,fun b hb => ?_,fun j => ?_,fun j hj hh => ?_,fun j k hk hh hh' hjk => ?_,fun r hr => ?_,h.nodup,h.env.trans hE⟩
 ·rw [hsame b (by have:=h.size; omega) (by omega)]; exact h.old b hb
 ·by_cases hj : j = i
  ·subst hj; simp only [hget,AEv.upd,if_true]; exact hX
  ·have hg : H'.get j = H.get j:=by rw [hget,if_neg hj]
   have hp : AEv.upd φ i e j = φ j:=by simp [AEv.upd,hj]
   rw [hg,hp]
   exact OR.step hs (fun hh => hsame _ (OR.lt (h.obj j) hh) (hne j hj hh)) (h.obj j)
 ·by_cases hj' : j = i
  ·subst hj'; simp only [AEv.upd,if_true]; exact ⟨hlow,hoff,hfr⟩
  ·have hg : H'.get j = H.get j:=by rw [hget,if_neg hj']
   have hp : AEv.upd φ i e j = φ j:=by simp [AEv.upd,hj']
   rw [hg] at hh; rw [hp]
   obtain ⟨a,b,c⟩:=h.own j (by omega) hh
   refine ⟨a,b,?_⟩
   rw [hsame _ (OR.lt (h.obj j) hh) (hne j hj' hh)]; exact c
 ·have hg : ∀ j,j ≠ i → H'.get j = H.get j:=fun j hj => by rw [hget,if_neg hj]
  by_cases hj' : j = i
  ·subst hj'
   have hk' : k ≠ j:=fun e => hjk e.symm
   rw [hg k hk'] at hh'
   simp only [AEv.upd,if_true,if_neg hk']
   exact fun e' => hne k hk' hh' e'.symm
  ·by_cases hk' : k = i
   ·subst hk'
    rw [hg j hj'] at hh
    simp only [AEv.upd,if_true,if_neg hj']
    exact hne j hj' hh
   ·rw [hg j hj'] at hh; rw [hg k hk'] at hh'
    simp only [AEv.upd,if_neg hj',if_neg hk']
    exact h.sep j k (by omega) hh hh' hjk
 ·obtain ⟨hr0,hr'⟩:=h.keep r hr
  have hlt : r < w.heap.size:=(Array.getElem?_eq_some_iff.1 hr').1
  have hre : r ≠ e.blk:=by
   rcases he with ⟨he,hi'⟩ | he
   ·intro q
    have ho:=h.obj i
    rw [q,he] at hr'
    cases hX' : H.get i with
    | hole => exact hi' hX'
    | cells g n cs => rw [hX'] at ho; obtain ⟨c,t,fr,h1,_⟩:=ho; rw [h1] at hr'; cases hr'
    | map es => rw [hX'] at ho; obtain ⟨xs,clock,h1,_⟩:=ho; rw [h1] at hr'; cases hr'
    | iter c pos => rw [hX'] at ho; simp only [OR] at ho; rw [ho] at hr'; cases hr'
    | loop st pend s ps x y => rw [hX'] at ho; obtain ⟨L,h1,_⟩:=ho; rw [h1] at hr'; cases hr'
   ·omega
  rw [hsame r hlt hre]; exact ⟨hr0,hr'⟩

/-- A value that is stored,or read,cell by cell. -/
theorem VR.cells {φ : Nat → Emb} {H : Heap} {v : AV} {x : Value} {c : List AV} (h : VR φ H v x) (hc : v.cells = some c) :
  VRs φ H c x.cells.toList ∧ ∀ y ∈ x.cells.toList,Value.oneCell' y = true:=by
 cases v <;> simp only [AV.cells,Option.some.injEq,reduceCtorEq] at hc <;> subst hc <;> simp only [VR] at h
 case agg c =>
  obtain ⟨vs,rfl,h1,h2⟩:=h
  exact ⟨by simpa [Value.cells] using h1,by simpa [Value.cells] using h2⟩
 case ptr b o ver =>
  obtain ⟨a,g,n,cs,rfl,h⟩:=h
  refine ⟨?_,by simp [Value.cells,Value.oneCell']⟩
  simp only [Value.cells,VRs,VR]
  exact ⟨_,_,rfl,⟨a,g,n,cs,rfl,h⟩,rfl⟩
 case slice b o len ver =>
  obtain ⟨a,c,g,n,cs,rfl,h⟩:=h
  refine ⟨?_,by simp [Value.cells,Value.oneCell']⟩
  simp only [Value.cells,VRs,VR]
  exact ⟨_,_,rfl,⟨a,c,g,n,cs,rfl,h⟩,rfl⟩
 case slice0 =>
  obtain ⟨a,c,rfl⟩:=h
  refine ⟨?_,by simp [Value.cells,Value.oneCell']⟩
  simp only [Value.cells,VRs,VR]
  exact ⟨_,_,rfl,⟨a,c,rfl⟩,rfl⟩
 case map b =>
  obtain ⟨es,rfl,h⟩:=h
  refine ⟨?_,by simp [Value.cells,Value.oneCell']⟩
  simp only [Value.cells,VRs,VR]
  exact ⟨_,_,rfl,⟨es,rfl,h⟩,rfl⟩
 case itr b =>
  obtain ⟨c0,pos,rfl,h⟩:=h
  refine ⟨?_,by simp [Value.cells,Value.oneCell']⟩
  simp only [Value.cells,VRs,VR]
  exact ⟨_,_,rfl,⟨c0,pos,rfl,h⟩,rfl⟩
 case func f cap =>
  obtain ⟨vs,rfl,h⟩:=h
  refine ⟨?_,by simp [Value.cells,Value.oneCell']⟩
  simp only [Value.cells,VRs,VR]
  exact ⟨_,_,rfl,⟨vs,rfl,h⟩,rfl⟩
 case yld l =>
  obtain ⟨a1,a2,a3,a4,a5,a6,rfl,h⟩:=h
  refine ⟨?_,by simp [Value.cells,Value.oneCell']⟩
  simp only [Value.cells,VRs,VR]
  exact ⟨_,_,rfl,⟨a1,a2,a3,a4,a5,a6,rfl,h⟩,rfl⟩
 case iface t y =>
  obtain ⟨z,rfl,h⟩:=h
  refine ⟨?_,by simp [Value.cells,Value.oneCell']⟩
  simp only [Value.cells,VRs,VR]
  exact ⟨_,_,rfl,⟨z,rfl,h⟩,rfl⟩
 all_goals
  subst h
  refine ⟨?_,by simp [Value.cells,Value.oneCell']⟩
  simp only [Value.cells,VRs,VR]
  exact ⟨_,_,rfl,rfl,rfl⟩

end Go.AEv
