/-
 Contracts that tell of what is returned without naming it ('addX'); arguments that lie in the caller's memory ('lo_add','calls_at','ints_lo'). No condition.
-/
import Derived.Test.YtljgfdamdcikgaaEvYld
import Derived.OpenShut
set_option linter.unusedVariables false
set_option linter.unusedSimpArgs false
namespace Go.AEv

theorem fr_get (h : Heap) (own : List AObj) (b : Nat) : Heap.get ⟨h.get,h.size,own⟩ b = (h.plus own).get b:=by
 rw [plus_get]
 by_cases hb : b < h.size
 ·rw [get_mk_lt _ _ _ _ hb,if_pos hb]
 ·rw [get_mk_ge _ _ _ _ (by omega),if_neg hb]
theorem listOf_congr {h h' : Heap} (e : ∀ b,h.get b = h'.get b) (x : AV) : listOf h x = listOf h' x:=by
 cases x <;> try rfl
 rename_i b o len v
 cases o with
 | zero => simp only [listOf,e]
 | succ o => rfl
theorem listOf_fr {h : Heap} {own : List AObj} {x : AV} {l : List Int} (e : listOf ⟨h.get,h.size,own⟩ x = some l) : listOf (h.plus own) x = some l:=by
 rw [← listOf_congr (fr_get h own)]; exact e
/-- Where a function has not written what its caller holds. -/
theorem Kp.own {M : Nat → Prop} {h h' : Heap} (k : Kp M (frameOf h) h') : h' = ⟨h.get,h.size,h'.own⟩:=by
 obtain ⟨lo,N,own⟩:=h'
 have h1:=k.lo
 have h2:=k.N
 simp only [frameOf] at h1 h2
 subst h1 h2; rfl

section
variable {tbl : Nat → Option CFunc} {I : CallF}
open Classical in
noncomputable def specX (tbl : Nat → Option CFunc) (I : CallF) (f : Nat) (Good : List AV → Heap → AV → List AObj → Prop) : SpecF:=fun args h =>
 if hx : ∃ x : AV × List AObj,CallsTo tbl I f args h (x.1,x.2,false) ∧ Good args h x.1 x.2 then some ((Classical.choose hx).1,(Classical.choose hx).2,false) else none
noncomputable def addX (tbl : Nat → Option CFunc) (I : CallF) (f : Nat) (Good : List AV → Heap → AV → List AObj → Prop) : CallF:=addI I f (specX tbl I f Good)
theorem Sound.addX {P : Program} (hm : P.follows .mixedOrders = true) (htbl : ∀ f cf,tbl f = some cf → funcOk P f cf = true) (hI : Sound P I) {f : Nat} (hf : f ≠ 0) (Good : List AV → Heap → AV → List AObj → Prop) : Sound P (addX tbl I f Good) :=
 Sound.add hm htbl hI hf fun args h x e => by
  unfold specX at e
  split at e
  ·rename_i hx
   simp only [Option.some.injEq] at e; subst e
   exact (Classical.choose_spec hx).1
  ·cases e
theorem addX_some {f : Nat} {Good : List AV → Heap → AV → List AObj → Prop} {args : List AV} {h : Heap} (hx : ∃ v own,CallsTo tbl I f args h (v,own,false) ∧ Good args h v own) :
  ∃ v own,addX tbl I f Good f args h = some (v,own,false) ∧ Good args h v own:=by
 have hx' : ∃ x : AV × List AObj,CallsTo tbl I f args h (x.1,x.2,false) ∧ Good args h x.1 x.2:=by
  obtain ⟨v,own,h1,h2⟩:=hx; exact ⟨(v,own),h1,h2⟩
 refine ⟨_,_,?_,(Classical.choose_spec hx').2⟩
 rw [show addX tbl I f Good f args h = specX tbl I f Good args h from if_pos rfl]
 unfold specX
 exact dif_pos hx'
theorem addX_ne {f g : Nat} {Good : List AV → Heap → AV → List AObj → Prop} (hg : g ≠ f) (args : List AV) (h : Heap) : addX tbl I f Good g args h = I g args h:=if_neg hg

/-- A function that returns addresses; what is said of the end,is said of the value and of the memory. -/
theorem Tr.fnx {f : Nat} {cf : CFunc} {args : List AV} {h : Heap} {s : T} {e : AExit} {Good : AV → List AObj → Prop} (hf : f ≠ 0) (ht : tbl f = some cf) (hi : I f args h = none) (hsh : cf.shared = false) (hs : initS cf.params args .leaf = some s)
  (he : ∀ i,e ≠ .exit i) (hb : Tr tbl I cf.body (fun s' h' => s' = s ∧ h' = frameOf h) e (fun s' h' => ∃ vs,evRess h' s' cf.results = some vs ∧ (one vs).flat = false ∧ Good (one vs) h'.own)) : ∃ v own,CallsTo tbl I f args h (v,own,false) ∧ Good v own:=by
 obtain ⟨s1,h1,r1,vs,q1,q2,q3⟩:=hb s (frameOf h) ⟨rfl,rfl⟩
 have:=CallsTo.fn hf ht hi hsh hs r1 he q1
 rw [q2] at this
 exact ⟨_,_,this,q3⟩
end

theorem evDraw_0 (r : Rec) (os : List COper) (ps : List (Nat × Nat)) (anc : List (List Nat)) (s : T) (h : Heap) : evCode r (.draw 0 os ps anc) s h = match runFP r.call h os s h with
  | some (s',h',fps) => if ps.all (fun p => okPair h.size (fps.getD p.1 {}) (fps.getD p.2 {})) && (fps.all (fun f => !f.eff.isAll) || bars anc fps) then some (.normal,s',h') else none
  | none => none:=by
 rw [evDraw_c,show ({ h with own:=h.own ++ List.replicate 0 .hole } : Heap) = h by simp]; rfl

/-! ### New slices of a length that is reckoned -/
theorem repl_one (v : AV) (n : Nat) : repl n [v] = List.replicate n v:=rfl
theorem act_move (call : CallF) (h0 : Heap) (s : T) (h : Heap) (x : AOpd) : act call h0 s h (.move x) = pure1 (some (x.ev s)):=rfl
theorem act_bin (call : CallF) (h0 : Heap) (s : T) (h : Heap) (op : BinOp) (x y : AOpd) : act call h0 s h (.bin op x y) = pure1 (evBin op (x.ev s) (y.ev s)):=rfl
def mkSl (h : Heap) (bytes : Nat) (z : AV) (n : Int) : Option (AV × FP):=if 0 ≤ n ∧ n * bytes ≤ 1099511627776 ∧ [z].length = 1 then some (.slice h.size 0 n.toNat (n.toNat * 1),{ eff:=.grow [.cells 1 (n.toNat * 1) (repl n.toNat [z])] }) else none
/-- With 'minus act': the kernel falls where 'act' itself is opened at a 'makeSlice'. -/
theorem act_mkSl (call : CallF) (h0 : Heap) (s : T) (h : Heap) (bytes : Nat) (z : AV) (x : AOpd) : act call h0 s h (.makeSlice none 1 bytes [z] x) = match x.ev s with
  | .int _ n => mkSl h bytes z n
  | _ => none:=by
 simp only [act]
 cases x.ev s <;> rfl
theorem mkSl_ok (h : Heap) (bytes : Nat) (z : AV) (n : Nat) (N : Int) (hN : N = n) (hb : n * bytes ≤ 1099511627776) : mkSl h bytes z N = some (.slice h.size 0 n n,{ eff:=.grow [.cells 1 n (List.replicate n z)] }):=by
 subst hN
 unfold mkSl
 rw [if_pos ⟨by omega,by rw [← Int.natCast_mul]; omega,rfl⟩,Int.toNat_natCast,Nat.mul_one]
 rfl

/-! ### Arguments in the caller's memory -/
/-- A CALL,ITS ARGUMENTS IN MEMORY,in the model's words. -/
theorem calls_at {P : Program} {tbl : Nat → Option CFunc} (hm : P.follows .mixedOrders = true) (htbl : ∀ f cf,tbl f = some cf → funcOk P f cf = true) {I : CallF} (hI : Sound P I) {f : Nat} (hf : f ≠ 0) {args : List AV} {H : Heap} {φ : Nat → Emb}
  (hc : CallsTo tbl I f args H (.bool true,[],false)) {w : World} {vals : List Value} (hr : HR (ckOf P) w [] φ H w) (hv : VRs φ H args vals) : Calls P f vals.toArray w fun e w' => e = .returned (.bool true) ∧ Go.RowKit.Below w.heap.size w w':=by
 obtain ⟨_,h⟩:=Sound.calls hm htbl hI hf hc
 have h1:=h w [] φ w vals hr hv
 refine (CallsIn.calls (CallsIn.mono h1 ?_) (fun k d hd => by simp [fenceR] at hd))
 rintro e w' ⟨φ',x,rfl,q1,q2,q3⟩
 simp only [VR] at q1
 exact ⟨by rw [q1],⟨q2.env.1,q2.env.2.1,q2.env.2.2,q2.size,q2.old⟩⟩

/-- A memory of the caller's blocks alone,and one block more. -/
def Heap.more (h : Heap) (X : AObj) : Heap:=⟨fun i => if i = h.N then X else h.get i,h.N + 1,[]⟩
def Ext (h h' : Heap) : Prop:=∀ b x,h.get b = x → x ≠ .hole → h'.get b = x
theorem Ext.refl (h : Heap) : Ext h h:=fun b x e _ => e
theorem Ext.trans {a b c : Heap} (x : Ext a b) (y : Ext b c) : Ext a c:=fun i o e hx => y i o (x i o e hx) hx
theorem more_at (h : Heap) (X : AObj) : (h.more X).get h.N = X:=by
 show (if h.N < h.N + 1 then (if h.N = h.N then X else h.get h.N) else _) = X
 rw [if_pos (by omega),if_pos rfl]
theorem more_lt (h : Heap) (X : AObj) {b : Nat} (hb : b < h.N) : (h.more X).get b = h.get b:=by
 show (if b < h.N + 1 then (if b = h.N then X else h.get b) else _) = _
 rw [if_pos (by omega),if_neg (by omega)]
theorem get_past {h : Heap} (ho : h.own = []) {b : Nat} (hb : h.N ≤ b) : h.get b = .hole:=by
 unfold Heap.get; rw [if_neg (by omega),ho]; rfl
theorem more_ext (h : Heap) (ho : h.own = []) (X : AObj) : Ext h (h.more X):=fun b x e hx => by
 by_cases hb : b < h.N
 ·rw [more_lt h X hb,e]
 ·rw [get_past ho (by omega)] at e; exact absurd e.symm hx
theorem lo_stp {φ : Nat → Emb} {h : Heap} (ho : h.own = []) (X : AObj) (e : Emb) : Stp φ h (AEv.upd φ h.N e) (h.more X):=fun b => by
 have key : ∀ x,h.get b = x → x ≠ .hole → (h.more X).get b = x ∧ AEv.upd φ h.N e b = φ b:=fun x hx hn => by
  have hb : b < h.N:=by
   apply Nat.lt_of_not_le
   intro hb; rw [get_past ho hb] at hx; exact hn hx.symm
  exact ⟨more_ext h ho X b x hx hn,by simp [AEv.upd,Nat.ne_of_lt hb]⟩
 refine ⟨fun g n cs hx => ?_,fun es hx => ?_,fun st pend s ps x y hx => ?_,fun c pos hx => ?_⟩
 ·obtain ⟨k1,k2⟩:=key _ hx (by simp); exact ⟨n,cs,k1,Nat.le_refl _,fun _ => k2⟩
 ·obtain ⟨k1,k2⟩:=key _ hx (by simp); exact ⟨es,k1,k2⟩
 ·obtain ⟨k1,k2⟩:=key _ hx (by simp); exact ⟨_,_,_,_,_,_,k1,k2⟩
 ·obtain ⟨k1,k2⟩:=key _ hx (by simp); exact ⟨_,_,k1,k2⟩
theorem lo_add {CK : CKT} {φ : Nat → Emb} {h : Heap} {w : World} (ho : h.own = []) (hr : HR CK w [] φ h w) (e : Emb) (X : AObj) (hX : OR CK (AEv.upd φ h.N e) (h.more X) w e X) : HR CK w [] (AEv.upd φ h.N e) (h.more X) w:=by
 have hge : ∀ i,h.N + 1 ≤ i → (h.more X).get i = .hole:=fun i hi => get_past (h:=h.more X) rfl hi
 refine ⟨Nat.le_refl _,fun _ _ => rfl,fun i => ?_,fun i hi hh => absurd (hge i hi) hh,fun i j hj _ hh _ => absurd (hge j hj) hh,by simp,by simp,Env.refl w⟩
 by_cases hi : i = h.N
 ·subst hi; rw [more_at]; simp only [AEv.upd,if_true]; exact hX
 ·by_cases hb : i < h.N
  ·rw [more_lt h X hb]
   have : AEv.upd φ h.N e i = φ i:=by simp [AEv.upd,hi]
   rw [this]
   exact OR.step (lo_stp ho X e) (fun _ => rfl) (hr.obj i)
  ·rw [hge i (by omega)]; trivial

/-- What is told of a slice of ints: its numbers,or that it is empty. -/
def LR (h : Heap) (x : AV) (l : List Int) : Prop:=listOf h x = some l ∨ (x = .slice0 ∧ l = [])
theorem LR.ext {h h' : Heap} (e : Ext h h') {x : AV} {l : List Int} (hl : LR h x l) : LR h' x l:=by
 rcases hl with hl | hl
 ·rcases listOf_some hl with ⟨rfl,rfl⟩ | ⟨b,v,rfl,g⟩
  ·exact .inl rfl
  ·exact .inl (listOf_cells (e _ _ g (by simp)) rfl)
 ·exact .inr hl
theorem listOf_at {h : Heap} {x : AV} {l : List Int} (hx : listOf h x = some l) (own : List AObj) : listOf ⟨h.get,h.size,own⟩ x = some l:=by
 rcases listOf_some hx with ⟨rfl,rfl⟩ | ⟨b,v,rfl,g⟩
 ·rfl
 ·exact listOf_cells (by rw [get_mk_lt _ _ _ _ (get_lt g (by simp))]; exact g) rfl
theorem LR.cases {h : Heap} {x : AV} {l : List Int} (e : LR h x l) : (x = .nils ∧ l = []) ∨ (x = .slice0 ∧ l = []) ∨ ∃ b v,x = .slice b 0 l.length v ∧ h.get b = .cells 1 v (l.map fun n => AV.int .i64 n):=by
 rcases e with e | ⟨rfl,rfl⟩
 ·rcases listOf_some e with ⟨rfl,rfl⟩ | ⟨b,v,rfl,g⟩
  ·exact .inl ⟨rfl,rfl⟩
  ·exact .inr (.inr ⟨b,v,rfl,g⟩)
 ·exact .inr (.inl ⟨rfl,rfl⟩)
theorem LR.kp {h h' : Heap} (k : Kp (fun _ => False) h h') {x : AV} {l : List Int} (e : LR h x l) : LR h' x l:=by
 rcases e.cases with ⟨rfl,rfl⟩ | ⟨rfl,rfl⟩ | ⟨b,v,rfl,g⟩
 ·exact .inl rfl
 ·exact .inr ⟨rfl,rfl⟩
 ·exact .inl (listOf_cells (k.at g (by simp) id) rfl)
theorem LR.lo {h : Heap} {x : AV} {l : List Int} (e : LR h x l) (own : List AObj) : LR ⟨h.get,h.size,own⟩ x l:=by
 rcases e with e | e
 ·exact .inl (listOf_at e own)
 ·exact .inr e

theorem cell_obj {w : World} {b off : Nat} {v : Value} (h : w.cell? ⟨b,off,none⟩ = some v) : ∃ c t fr,w.heap[b]? = some (.cells c t fr) ∧ c[off]? = some v:=by
 simp only [World.cell?] at h
 split at h
 ·rename_i c t fr hb
  refine ⟨c,t,fr,hb,?_⟩
  simpa using h
 all_goals simp at h

/-- A slice of ints that is an argument. -/
theorem ints_lo0 {CK : CKT} {φ : Nat → Emb} {h : Heap} {w : World} (ho : h.own = []) (hr : HR CK w [] φ h w) {H : Type} {enc : TypeId × Value → H} {P : Program} {t e : TypeId} {v : Value} {fuel : Nat} {z : DataW H × List MemPlace}
  (ht : P.underlying t = some (.slice e)) (he : P.underlying e = some (.int .i64)) (hc : P.cellsOf e = 1) (hf : DataW.trod enc P w 0 (fun _ => true) true fuel t [v] = some z) :
  ∃ φ' h' x l,h'.own = [] ∧ HR CK w [] φ' h' w ∧ Stp φ h φ' h' ∧ Ext h h' ∧ VR φ' h' x v ∧ LR h' x l ∧ Value.oneCell' v = true:=by
 rcases Go.ChangeShapes.open_ints ht he hc hf with ⟨hcs,_⟩ | ⟨a',len,cap,zs,hcs,_,hl,hm,hz,_,hcell,hwz⟩
 ·simp only [List.cons.injEq,and_true] at hcs
  subst hcs
  exact ⟨φ,h,.nils,[],ho,hr,Stp.refl φ h,Ext.refl h,by simp [VR],.inl rfl,rfl⟩
 ·simp only [List.cons.injEq,and_true] at hcs
  subst hcs
  simp only [if_true] at hz
  by_cases h0 : len = 0
  ·subst h0
   exact ⟨φ,h,.slice0,[],ho,hr,Stp.refl φ h,Ext.refl h,by simp [VR],.inr ⟨rfl,rfl⟩,rfl⟩
  ·have hlen : zs.length = cap:=hz
   obtain ⟨b,off,rfl,hc'⟩:=ints_at hcell (by omega)
   obtain ⟨c,ty,fr,hb,hc0⟩:=cell_obj (hc' 0 (by omega))
   have hcj : ∀ j,j < cap → c[off + j]? = some (.int .i64 (zs.getD j 0)):=fun j hj => by
    obtain ⟨c',ty',fr',hb',hcj⟩:=cell_obj (hc' j (by omega))
    rw [hb] at hb'
    simp only [Option.some.injEq,Obj.cells.injEq] at hb'
    obtain ⟨rfl,_⟩:=hb'
    exact hcj
   have hsize : off + cap ≤ c.size:=by
    have:=(Array.getElem?_eq_some_iff.1 (hcj (cap - 1) (by omega))).1
    omega
   have hl' : (zs.take len).length = len:=by rw [List.length_take]; omega
   refine ⟨AEv.upd φ h.N ⟨b,off,cap⟩,h.more (.cells 1 len ((zs.take len).map fun n => .int .i64 n)),.slice h.N 0 len len,zs.take len,rfl,lo_add ho hr _ _ ?_,lo_stp ho _ _,more_ext h ho _,?_,.inl (listOf_cells (more_at _ _) hl'),rfl⟩
   ·refine ⟨c,ty,fr,hb,hsize,by simp; omega,fun j x hx => ?_⟩
    simp only [List.getElem?_map,Option.map_eq_some_iff] at hx
    obtain ⟨n,hn,rfl⟩:=hx
    have hj : j < len:=by have:=(List.getElem?_eq_some_iff.1 hn).1; omega
    rw [List.getElem?_take,if_pos hj] at hn
    refine ⟨_,hcj j (by omega),?_,rfl⟩
    rw [List.getD_eq_getElem?_getD,hn]
    simp [VR]
   ·simp only [VR]
    exact ⟨_,cap,1,len,_,rfl,hl,more_at _ _,Nat.le_refl _,fun _ => ⟨by simp [AEv.upd],fun _ _ => by simp [AEv.upd]⟩⟩

theorem ints_lo {CK : CKT} {φ : Nat → Emb} {h : Heap} {w : World} (ho : h.own = []) (hr : HR CK w [] φ h w) {H : Type} {enc : TypeId × Value → H} {P : Program} {t e : TypeId} {v : Value} {d : DataW H} {p : List MemPlace}
  (ht : P.underlying t = some (.slice e)) (he : P.underlying e = some (.int .i64)) (hc : P.cellsOf e = 1) (hcs : ∃ a len cap,v = .slice a len cap) (k : DataW.Trod enc P w 0 (fun _ => true) true t v d p) :
  ∃ φ' h' x l,h'.own = [] ∧ HR CK w [] φ' h' w ∧ Stp φ h φ' h' ∧ Ext h h' ∧ VR φ' h' x v ∧ LR h' x l:=by
 obtain ⟨a,len,cap,rfl⟩:=hcs
 obtain ⟨fuel,hf⟩:=k
 obtain ⟨φ',h',x,l,q1,q2,q3,q4,q5,q6,_⟩:=ints_lo0 ho hr ht he hc hf
 exact ⟨φ',h',x,l,q1,q2,q3,q4,q5,q6⟩

end Go.AEv
