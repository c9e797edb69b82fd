/-
 Regions of the evaluator stand for the model's,in whatever order: calls by what is known of them ('SimC').
-/
import Derived.Test.YtljgfdamdcikgaaEvOp
import Derived.Test.YtljgfdamdcikgaaEvDraw
set_option linter.unusedVariables false
set_option linter.unusedSimpArgs false
namespace Go.AEv

def fenceR (r : Option Nat) : Fence:={ fn:=fun _ => True,depth:=none,alive:=false,round:=r }

def mrg (h : Heap) (own : List AObj) (sh : Bool) : Heap:={ h with own:=if sh then own else h.own ++ own }

/-- What a call comes to. -/
def RetP (CK : CKT) (w0 : World) (K : List Nat) (φ : Nat → Emb) (h : Heap) (v : AV) (h' : Heap) : Ending → World → Prop:=fun e w' =>
 ∃ φ' x,e = .returned x ∧ VR φ' h' v x ∧ HR CK w0 K φ' h' w' ∧ Stp φ h φ' h'

def Enterable (P : Program) (g : Nat) : Prop:=∃ f,P.funcs[g]? = some f ∧ f.body.isNone = false ∧ (f.name == "runtime.NumGoroutine") = false

/-- What is known of calls. -/
structure SimC (CK : CKT) (P : Program) (call : CallF) : Prop where
 fn : ∀ g args h v own sh,g ≠ 0 → call g args h = some (v,own,sh) → Enterable P g ∧
  ∀ w0 K φ w vals,HR CK w0 K φ h w → VRs φ h args vals → CallsIn (fenceR none) 0 P g vals.toArray w (RetP CK w0 K φ h v (mrg h own sh))
 yl : ∀ l args h v own sh,call 0 (.yld l :: args) h = some (v,own,sh) → ∀ w0 K φ w vals,HR CK w0 K φ h w → VRs φ h args vals →
  ∃ L,w.heap[(φ l).blk]? = some (.loop L) ∧ L.params.size = vals.length ∧
   RoundIn (fenceR none) 0 P (φ l).blk L.fn ((L.params.zip vals.toArray).foldl (fun tmps (t,a) => tmps.setIfInBounds t a) L.tmps) L.assign L.body w (RetP CK w0 K φ h v (mrg h own sh))

/-- Nothing is known of a memory but how many blocks there are. -/
theorem holes_hr {CK : CKT} (φ : Nat → Emb) (w : World) (n : Nat) : HR CK w [] φ ⟨fun _ => .hole,n,[]⟩ w:=by
 have hge : ∀ i,Heap.get ⟨fun _ => .hole,n,[]⟩ i = .hole:=fun i => by unfold Heap.get; split <;> simp
 exact ⟨Nat.le_refl _,fun _ _ => rfl,fun i => by rw [hge]; trivial,fun i _ hh => absurd (hge i) hh,fun i j _ hh _ _ => absurd (hge i) hh,by simp,by simp,Env.refl w⟩
def joinE (n : Nat) (φ φ' : Nat → Emb) : Nat → Emb:=fun i => if i < n then φ i else φ' i
/-- What was known of a memory,and what a call that was told nothing of it has made. -/
theorem join_hr {CK : CKT} {w0 : World} {K : List Nat} {φ φ' : Nat → Emb} {H : Heap} {own : List AObj} {w w' : World} (hr : HR CK w0 K φ H w) (q3 : HR CK w [] φ' (mrg ⟨fun _ => .hole,H.size,[]⟩ own false) w') :
  HR CK w0 K (joinE H.size φ φ') { H with own:=H.own ++ own } w' ∧ Stp φ H (joinE H.size φ φ') { H with own:=H.own ++ own } ∧ Stp φ' (mrg ⟨fun _ => .hole,H.size,[]⟩ own false) (joinE H.size φ φ') { H with own:=H.own ++ own }:=by
 have hN : H.N ≤ H.size:=by unfold Heap.size; omega
 have glt : ∀ i,i < H.size → Heap.get { H with own:=H.own ++ own } i = H.get i:=fun i hi => by
  unfold Heap.get
  simp only
  by_cases h1 : i < H.N
  ·simp [h1]
  ·simp only [h1,if_false,List.getD_eq_getElem?_getD]
   rw [List.getElem?_append_left (by unfold Heap.size at hi; omega)]
 have gge : ∀ i,H.size ≤ i → Heap.get { H with own:=H.own ++ own } i = Heap.get (mrg ⟨fun _ => .hole,H.size,[]⟩ own false) i:=fun i hi => by
  have h1 : ¬ i < H.N:=by omega
  have h2 : ¬ i < H.size:=by omega
  unfold Heap.get mrg
  simp only [h1,h2,if_false,List.getD_eq_getElem?_getD,Bool.false_eq_true,List.nil_append]
  rw [List.getElem?_append_right (by unfold Heap.size at hi; omega)]
  congr 2
  unfold Heap.size; omega
 have hlo : ∀ i,i < H.size → Heap.get (mrg ⟨fun _ => .hole,H.size,[]⟩ own false) i = .hole:=fun i hi => by
  unfold Heap.get mrg; simp [hi]
 have past : ∀ i,H.get i ≠ .hole → i < H.size:=fun i hh => by
  apply Nat.lt_of_not_le
  intro hi
  apply hh
  unfold Heap.get
  rw [if_neg (by omega),List.getD_eq_getElem?_getD,List.getElem?_eq_none (by unfold Heap.size at hi; omega)]; rfl
 have jlt : ∀ i,i < H.size → joinE H.size φ φ' i = φ i:=fun i hi => if_pos hi
 have jge : ∀ i,H.size ≤ i → joinE H.size φ φ' i = φ' i:=fun i hi => if_neg (by omega)
 have s1 : Stp φ H (joinE H.size φ φ') { H with own:=H.own ++ own }:=fun b => by
  have key : H.get b ≠ .hole → Heap.get { H with own:=H.own ++ own } b = H.get b ∧ joinE H.size φ φ' b = φ b:=fun hh => ⟨glt b (past b hh),jlt b (past b hh)⟩
  refine ⟨fun g n cs e => ?_,fun es e => ?_,fun st pend s ps x y e => ?_,fun c pos e => ?_⟩
  ·obtain ⟨k1,k2⟩:=key (by rw [e]; simp); exact ⟨n,cs,by rw [k1,e],Nat.le_refl _,fun _ => k2⟩
  ·obtain ⟨k1,k2⟩:=key (by rw [e]; simp); exact ⟨es,by rw [k1,e],k2⟩
  ·obtain ⟨k1,k2⟩:=key (by rw [e]; simp); exact ⟨_,_,_,_,_,_,by rw [k1,e],k2⟩
  ·obtain ⟨k1,k2⟩:=key (by rw [e]; simp); exact ⟨_,_,by rw [k1,e],k2⟩
 have s2 : Stp φ' (mrg ⟨fun _ => .hole,H.size,[]⟩ own false) (joinE H.size φ φ') { H with own:=H.own ++ own }:=fun b => by
  have key : Heap.get (mrg ⟨fun _ => .hole,H.size,[]⟩ own false) b ≠ .hole → Heap.get { H with own:=H.own ++ own } b = Heap.get (mrg ⟨fun _ => .hole,H.size,[]⟩ own false) b ∧ joinE H.size φ φ' b = φ' b:=fun hh => by
   have hb : H.size ≤ b:=by
    apply Nat.le_of_not_lt
    intro hb; exact hh (hlo b hb)
   exact ⟨gge b hb,jge b hb⟩
  refine ⟨fun g n cs e => ?_,fun es e => ?_,fun st pend s ps x y e => ?_,fun c pos e => ?_⟩
  ·obtain ⟨k1,k2⟩:=key (by rw [e]; simp); exact ⟨n,cs,by rw [k1,e],Nat.le_refl _,fun _ => k2⟩
  ·obtain ⟨k1,k2⟩:=key (by rw [e]; simp); exact ⟨es,by rw [k1,e],k2⟩
  ·obtain ⟨k1,k2⟩:=key (by rw [e]; simp); exact ⟨_,_,_,_,_,_,by rw [k1,e],k2⟩
  ·obtain ⟨k1,k2⟩:=key (by rw [e]; simp); exact ⟨_,_,by rw [k1,e],k2⟩
 have hsame : ∀ b,b < w.heap.size → w'.heap[b]? = w.heap[b]?:=q3.old
 refine ⟨⟨Nat.le_trans hr.size q3.size,fun b hb => ?_,fun i => ?_,fun i hi hh => ?_,fun i j hj hh hh' hij => ?_,fun k hk => ?_,hr.nodup,hr.env.trans q3.env⟩,s1,s2⟩
 ·rw [hsame b (by have:=hr.size; omega)]; exact hr.old b hb
 ·by_cases hi : i < H.size
  ·rw [glt i hi,jlt i hi]
   exact OR.step s1 (fun hh => hsame _ (OR.lt (hr.obj i) hh)) (hr.obj i)
  ·rw [gge i (by omega),jge i (by omega)]
   exact OR.step s2 (fun _ => rfl) (q3.obj i)
 ·by_cases hi' : i < H.size
  ·rw [glt i hi'] at hh
   rw [jlt i hi',hsame _ (OR.lt (hr.obj i) hh)]; exact hr.own i hi hh
  ·rw [gge i (by omega)] at hh
   rw [jge i (by omega)]
   obtain ⟨k1,k2,k3⟩:=q3.own i (by show H.size ≤ i; omega) hh
   exact ⟨Nat.le_trans hr.size k1,k2,k3⟩
 ·by_cases h1 : i < H.size
  ·rw [glt i h1] at hh
   rw [jlt i h1]
   by_cases h2 : j < H.size
   ·rw [glt j h2] at hh'
    rw [jlt j h2]; exact hr.sep i j hj hh hh' hij
   ·rw [gge j (by omega)] at hh'
    rw [jge j (by omega)]
    have k1:=(q3.own j (by show H.size ≤ j; omega) hh').1
    have k2:=OR.lt (hr.obj i) hh
    omega
  ·rw [gge i (by omega)] at hh
   rw [jge i (by omega)]
   by_cases h2 : j < H.size
   ·rw [glt j h2] at hh'
    rw [jlt j h2]
    have k1:=(q3.own i (by show H.size ≤ i; omega) hh).1
    have k2:=OR.lt (hr.obj j) hh'
    omega
   ·rw [gge j (by omega)] at hh'
    rw [jge j (by omega)]
    exact q3.sep i j (by show H.size ≤ j; omega) hh hh' hij
 ·obtain ⟨k1,k2⟩:=hr.keep k hk
  rw [hsame k (Array.getElem?_eq_some_iff.1 k2).1]; exact ⟨k1,k2⟩

def callOk : Op → COp → Bool
 | .call { callee:=.value f,args,.. },.call _ f' args' => opdOk f f' && opdsOk args.toList args'
 | _,_ => false

def dstOk (n : Nat) : Option Tmp → Option Path → Bool
 | none,none => true
 | some d,some p => decide (d < n) && p == pathOf d
 | _,_ => false
def guardOk (n : Nat) (ops : Array Oper) : Option (Nat × Bool) → Option (Path × Bool) → Bool
 | none,none => true
 | some (j,want),some (p,want') => want == want' && (match (ops[j]?).bind (·.dst) with | some d => decide (d < n) && p == pathOf d | none => false)
 | _,_ => false
def operOk (P : Program) (n : Nat) (ops : Array Oper) (o : Oper) (c : COper) : Bool :=
 dstOk n o.dst c.dst && guardOk n ops o.guard c.guard && (opOk P o.op c.op || callOk o.op c.op)

section
variable {CK : CKT} {P : Program} {w0 : World} {K : List Nat} {φ : Nat → Emb} {H H' : Heap} {w : World} {s s' : T} {v : AV} {fp : FP} {call : CallF} {h0 : Heap} {a : Act} {n : Nat} {ops : Array Oper} {o : Oper} {c : COper} {r : Option Nat}

theorem HR.ofGet (hr : HR CK w0 K φ H w) (hg : ∀ i,H'.get i = H.get i) (hN : H'.N = H.N) : HR CK w0 K φ H' w ∧ Stp φ H φ H':=by
 have hs : Stp φ H φ H':=fun b => ⟨fun g n cs e => ⟨n,cs,by rw [hg,e],Nat.le_refl _,fun _ => rfl⟩,fun es e => ⟨es,by rw [hg,e],rfl⟩,fun st pend s ps x y e => ⟨st,pend,s,ps,x,y,by rw [hg,e],rfl⟩,fun c pos e => ⟨c,pos,by rw [hg,e],rfl⟩⟩
 exact ⟨⟨hr.size,hr.old,fun i => by rw [hg]; exact OR.step hs (fun _ => rfl) (hr.obj i),fun i hi hh => by rw [hg] at hh; exact hr.own i (by omega) hh,
  fun i j hj h1 h2 hij => by rw [hg] at h1 h2; exact hr.sep i j (by omega) h1 h2 hij,hr.keep,hr.nodup,hr.env⟩,hs⟩

theorem SR.rho (hs : SR φ H s a.tmps) : RhoR φ H s a.eval:=by
 intro x y h
 cases x <;> cases y <;> (try simp only [opdOk,Bool.false_eq_true] at h)
 case tmp.s t p =>
  have : p = pathOf t:=by simpa using h
  subst this
  exact hs t
 case const.c v b => exact VR.ofLit _ _ h
 case func.c f b =>
  cases b <;> (try simp only [opdOk,Bool.false_eq_true] at h)
  rename_i g cap
  cases cap <;> (try simp only [opdOk,Bool.false_eq_true] at h)
  have : f = g:=by simpa using h
  subst this
  simp only [AOpd.ev,Act.eval,VR]
  exact ⟨#[],rfl,by simp [VRs]⟩

theorem SR.put {x : Value} {dst : Option Tmp} {p : Option Path} (hs : SR φ H s a.tmps) (hn : n ≤ a.tmps.size) (hd : dstOk n dst p = true) (hv : VR φ H v x) : SR φ H (s.put p v) (a.put dst x).tmps:=by
 intro i
 cases dst <;> cases p <;> simp only [dstOk,Bool.false_eq_true] at hd
 ·exact hs i
 ·rename_i d p
  simp only [Bool.and_eq_true,decide_eq_true_eq,beq_iff_eq] at hd
  obtain ⟨hd,rfl⟩:=hd
  have hd' : @LT.lt Nat _ d n:=hd
  simp only [T.get_put,Act.put,Option.some.injEq]
  by_cases hi : i = d
  ·subst hi
   simp only [if_true,Array.getD_eq_getD_getElem?,Array.getElem?_setIfInBounds]
   have : i < a.tmps.size:=by omega
   simpa [this] using hv
  ·have hne : ¬ pathOf d = pathOf i:=fun e => hi (pathOf_inj _ _ e).symm
   simp only [hne,if_false,Array.getD_eq_getD_getElem?,Array.getElem?_setIfInBounds]
   have : ¬ d = i:=fun e => hi e.symm
   simp only [this,if_false]
   have:=hs i
   simpa [Array.getD_eq_getD_getElem?] using this

theorem put_size (a : Act) (d : Option Tmp) (x : Value) : (a.put d x).tmps.size = a.tmps.size:=by cases d <;> simp [Act.put]
theorem put_defers (a : Act) (d : Option Tmp) (x : Value) : (a.put d x).defers = a.defers:=by cases d <;> simp [Act.put]

theorem wanted_sim (hs : SR φ H s a.tmps) (hn : n ≤ a.tmps.size) (hg : guardOk n ops o.guard c.guard = true) {t : Bool} (h : wantedA c s = some t) : Region.wanted o (yielded ops a.tmps) = t:=by
 unfold wantedA at h
 unfold Region.wanted
 cases ho : o.guard with
 | none =>
  cases hc : c.guard with
  | none => rw [hc] at h; simpa using h
  | some q => rw [ho,hc] at hg; simp [guardOk] at hg
 | some jw =>
  obtain ⟨j,want⟩:=jw
  cases hc : c.guard with
  | none => rw [ho,hc] at hg; simp [guardOk] at hg
  | some q =>
   obtain ⟨p,want'⟩:=q
   rw [ho,hc] at hg
   simp only [guardOk,Bool.and_eq_true,beq_iff_eq] at hg
   obtain ⟨rfl,hg⟩:=hg
   split at hg
   ·rename_i d hd
    simp only [Bool.and_eq_true,decide_eq_true_eq,beq_iff_eq] at hg
    obtain ⟨hdn,rfl⟩:=hg
    have hdn' : @LT.lt Nat _ d n:=hdn
    rw [hc] at h
    simp only at h
    split at h
    ·rename_i b hb
     have hv:=hs d
     rw [hb] at hv
     simp only [VR] at hv
     have hlt : @LT.lt Nat _ d a.tmps.size:=by omega
     have hx : a.tmps[d]? = some (.bool b):=by
      rw [Array.getD_eq_getD_getElem?] at hv
      simp only [hlt,getElem?_pos,Option.getD_some] at hv ⊢
      rw [hv]
     simp only [yielded,hd,Option.bind_some,hx]
     simp only [Option.some.injEq] at h
     rw [← h]
     cases b <;> cases want <;> rfl
    ·rename_i hb
     have hv:=hs d
     rw [hb] at hv
     simp only [VR,VRs] at hv
     obtain ⟨vs,hv,hvs⟩:=hv
     have hx : ∀ y,a.tmps[d]? = some y → y = .tuple vs:=fun y hy => by
      rw [Array.getD_eq_getD_getElem?,hy] at hv
      exact hv
     simp only [Option.some.injEq] at h
     subst h
     simp only [yielded,hd,Option.bind_some]
     split
     ·rename_i b hb2
      cases hx _ hb2
     ·rfl
    ·cases h
   ·cases hg

def AfterCall (next : Act → World → Prop) (Q : Exit → Act → World → Prop) (a : Act) (dst : Option Tmp) : Ending → World → Prop
 | .returned v,w => next (a.put dst v) w
 | .panicked chain,w => Q (.panic chain) a w
 | .outgrown,_ => LetsOut Q

/-- One operation,in a frame or in a round. -/
theorem exec_sim (hC : SimC CK P call) (hr : HR CK w0 K φ H w) (hs : SR φ H s a.tmps) (hn : n ≤ a.tmps.size) (ho : operOk P n ops o c = true) (he : exec call h0 c s H = some (s',H',fp))
  {next : Act → World → Prop} {Q : Exit → Act → World → Prop} (hnext : ∀ φ' a' w',HR CK w0 K φ' H' w' → SR φ' H' s' a'.tmps → Stp φ H φ' H' → a'.defers = a.defers → a'.tmps.size = a.tmps.size → next a' w') :
  if Region.wanted o (yielded ops a.tmps) then o.wpIn (fenceR r) 0 P a w next Q else (∀ f,o.about P w a.eval = some f → (fenceR r).fn f) ∧ next (a.put o.dst undef) w:=by
 simp only [operOk,Bool.and_eq_true,Bool.or_eq_true] at ho
 obtain ⟨⟨hd,hg⟩,hop⟩:=ho
 rw [exec_eq] at he
 cases hw : wantedA c s with
 | none => rw [hw] at he; cases he
 | some t =>
  rw [hw] at he
  rw [wanted_sim hs hn hg hw]
  cases t with
  | false =>
   simp only [Option.some.injEq,Prod.mk.injEq] at he
   obtain ⟨rfl,rfl,rfl⟩:=he
   simp only [Bool.false_eq_true,if_false]
   exact ⟨fun _ _ => trivial,hnext φ _ w hr (SR.put hs hn hd ⟨#[],rfl,rfl⟩) (Stp.refl φ H) (put_defers a _ _) (put_size a _ _)⟩
  | true =>
   simp only [Option.bind_eq_some_iff,Option.map_eq_some_iff,Prod.mk.injEq] at he
   obtain ⟨⟨v,f⟩,h1,h',h2,rfl,rfl,rfl⟩:=he
   simp only [if_true]
   refine ⟨fun _ _ => trivial,?_⟩
   have hρ:=hs.rho
   have hnd : ∀ q,o.op ≠ .defer q:=by
    intro q e
    rcases hop with hop | hop
    ·rw [e] at hop; simp [opOk] at hop
    ·rw [e] at hop; simp [callOk] at hop
   rw [Oper.semAt_eq _ _ _ hnd]
   rcases hop with hop | hop
   ·obtain ⟨φ',w',rr,x,q1,q2,q3,q4,q5⟩:=op_sim hr hρ o c.op hop h1 h2
    rw [q1]
    have key : next (a.put o.dst x) w':=hnext φ' _ w' q3 (SR.put (hs.step q5) hn hd q4) q5 (put_defers a _ _) (put_size a _ _)
    rcases q2 with rfl | ⟨rfl,rfl⟩
    ·exact key
    ·exact key
   ·-- a call
    cases hoo : o.op <;> rw [hoo] at hop <;> (try simp only [callOk,Bool.false_eq_true] at hop)
    rename_i cl
    obtain ⟨callee,cargs,ctys⟩:=cl
    cases callee <;> (try simp only [Bool.false_eq_true] at hop)
    rename_i fo
    cases hco : c.op <;> rw [hco] at hop h1 <;> (try simp only [Bool.false_eq_true] at hop)
    rename_i early fa args
    simp only [Bool.and_eq_true] at hop
    have hf:=hρ fo fa hop.1
    have hargs:=hρ.list hop.2
    have hrun : (execOp a.eval o).run P w = ((do let d ← Deferred.ofValue (a.eval fo) (cargs.map a.eval); invoke d.target d.args : Sem Next)).run P w:=by
     unfold execOp; rw [hoo]; rfl
    rw [hrun]
    -- what follows a call that has come back
    have after : ∀ (h2' : Heap) (e : Ending) (w' : World),RetP CK w0 K φ H v h2' e w' → h2' = h' → AfterCall next Q a o.dst e w':=by
     rintro h2' e w' ⟨φ',x,rfl,q4,q3,q5⟩ rfl
     exact hnext φ' _ w' q3 (SR.put (hs.step q5) hn hd q4) q5 (put_defers a _ _) (put_size a _ _)
    have enter : ∀ (g : Nat) (vals : List Value) (R : Ending → World → Prop),Enterable P g → CallsIn (fenceR none) 0 P g vals.toArray w R → (∀ e w',R e w' → AfterCall next Q a o.dst e w') → o.uponIn (fenceR r) 0 P a next Q ((callFunc g vals.toArray).run P w):=by
     intro g vals R hent hcall hRR
     obtain ⟨fn,hfn,hbody,hname⟩:=hent
     have : (callFunc g vals.toArray).run P w = .ok (.enter g vals.toArray) w:=by
      simp only [callFunc,Sem.run_bind,run_program,Result.andThen_ok,hfn,hname,hbody,Bool.false_eq_true,if_false,Sem.run_pure]
     rw [this]
     refine ⟨by simp [fenceR],?_⟩
     refine CallsIn.mono (R:=R) hcall ?_
     intro e w' hR
     have:=hRR e w' hR
     cases e <;> exact this
    simp only [act] at h1
    cases hfa : fa.ev s <;> rw [hfa] at h1 hf <;> (try simp only [reduceCtorEq] at h1)
    case func g cap =>
     simp only [VR] at hf
     obtain ⟨vs,hfe,hcap⟩:=hf
     have hall : VRs φ H (args.map (AOpd.ev s) ++ cap) (cargs.toList.map a.eval ++ vs.toList):=VRs.append hargs hcap
     have hr2 : ((do let d ← Deferred.ofValue (a.eval fo) (cargs.map a.eval); invoke d.target d.args : Sem Next)).run P w = (callFunc g (cargs.toList.map a.eval ++ vs.toList).toArray).run P w:=by
      rw [hfe]
      simp only [Deferred.ofValue,Sem.run_bind,Sem.run_pure,Result.andThen_ok,invoke]
      congr 2
      apply Array.ext'
      simp
     rw [hr2]
     split at h1
     ·cases h1
     ·rename_i hg0
      split at h1
      ·-- an early one: no address goes in or out
       split at h1
       ·rename_i hfl
        split at h1
        ·rename_i v' hcall
         split at h1
         ·rename_i hvf
          simp only [Option.some.injEq,Prod.mk.injEq] at h1
          obtain ⟨rfl,rfl⟩:=h1
          simp only [Eff.app,Option.some.injEq] at h2; subst h2
          obtain ⟨hent,hc⟩:=hC.fn g _ _ _ _ _ hg0 hcall
          have hE : HR CK w [] φ ⟨fun _ => .hole,0,[]⟩ w:=by
           have hge : ∀ i,Heap.get ⟨fun _ => .hole,0,[]⟩ i = .hole:=fun i => by unfold Heap.get; split <;> simp
           exact ⟨Nat.le_refl _,fun _ _ => rfl,fun i => by rw [hge]; trivial,fun i _ hh => absurd (hge i) hh,fun i j _ hh _ _ => absurd (hge i) hh,by simp,by simp,Env.refl w⟩
          refine enter g _ _ hent (hc w [] φ w _ hE (VRs.ofFlat _ _ hfl hall)) ?_
          rintro e w' ⟨φ',x,rfl,q4,q3,q5⟩
          have hsame : ∀ b,b < w.heap.size → w'.heap[b]? = w.heap[b]?:=q3.old
          have hHR : HR CK w0 K φ H w':=by
           refine ⟨Nat.le_trans hr.size q3.size,fun b hb => ?_,fun i => ?_,fun i hi hh => ?_,hr.sep,fun k hk => ?_,hr.nodup,hr.env.trans q3.env⟩
           ·rw [hsame b (by have:=hr.size; omega)]; exact hr.old b hb
           ·exact OR.step (Stp.refl φ H) (fun hh => hsame _ (OR.lt (hr.obj i) hh)) (hr.obj i)
           ·rw [hsame _ (OR.lt (hr.obj i) hh)]; exact hr.own i hi hh
           ·obtain ⟨k1,k2⟩:=hr.keep k hk
            rw [hsame k (Array.getElem?_eq_some_iff.1 k2).1]; exact ⟨k1,k2⟩
          exact hnext φ _ w' hHR (SR.put hs hn hd (VR.ofFlat _ _ hvf q4)) (Stp.refl φ H) (put_defers a _ _) (put_size a _ _)
         ·cases h1
        ·-- an early one that makes blocks
         rename_i v1 x1 xs1 hcall1
         split at h1
         ·rename_i v' own hcall
          simp only [Option.some.injEq,Prod.mk.injEq] at h1
          obtain ⟨rfl,rfl⟩:=h1
          simp only [Eff.app,forceL_eq,Option.some.injEq] at h2; subst h2
          obtain ⟨hent,hc⟩:=hC.fn g _ _ _ _ _ hg0 hcall
          refine enter g _ _ hent (hc w [] φ w _ (holes_hr φ w H.size) (VRs.ofFlat _ _ hfl hall)) ?_
          rintro e w' ⟨φ',x,rfl,q4,q3,q5⟩
          obtain ⟨g1,g2,g3⟩:=join_hr hr q3
          exact hnext _ _ w' g1 (SR.put (hs.step g2) hn hd (VR.step g3 _ _ q4)) g2 (put_defers a _ _) (put_size a _ _)
         ·cases h1
        ·cases h1
       ·cases h1
      ·split at h1
       ·rename_i v' own hcall
        simp only [Option.some.injEq,Prod.mk.injEq] at h1
        obtain ⟨rfl,rfl⟩:=h1
        obtain ⟨hent,hc⟩:=hC.fn g _ _ _ _ _ hg0 hcall
        refine enter g _ _ hent (hc w0 K φ w _ hr hall) (fun e w' hR => after _ e w' hR ?_)
        simp only at h2
        cases own with
        | nil => simp only [List.isEmpty_nil,if_true,Eff.app,Option.some.injEq] at h2; subst h2; simp [mrg]
        | cons x xs => simp only [List.isEmpty_cons,Bool.false_eq_true,if_false,Eff.app,forceL_eq,Option.some.injEq] at h2; subst h2; simp [mrg]
       ·rename_i v' own hcall
        simp only [Option.some.injEq,Prod.mk.injEq] at h1
        obtain ⟨rfl,rfl⟩:=h1
        obtain ⟨hent,hc⟩:=hC.fn g _ _ _ _ _ hg0 hcall
        refine enter g _ _ hent (hc w0 K φ w _ hr hall) (fun e w' hR => after _ e w' hR ?_)
        simp only [Eff.app,Option.some.injEq] at h2; subst h2; simp [mrg]
       ·cases h1
    case yld l =>
     simp only [VR] at hf
     obtain ⟨a1,a2,a3,a4,a5,a6,hfe,_⟩:=hf
     split at h1
     ·cases h1
     ·split at h1
      ·rename_i v' own hcall
       simp only [Option.some.injEq,Prod.mk.injEq] at h1
       obtain ⟨rfl,rfl⟩:=h1
       obtain ⟨L,hL,hps,hround⟩:=hC.yl l _ _ _ _ _ hcall w0 K φ w _ hr hargs
       have hy : ((do let d ← Deferred.ofValue (a.eval fo) (cargs.map a.eval); invoke d.target d.args : Sem Next)).run P w =
         .ok (.round (φ l).blk L.fn ((L.params.zip (cargs.toList.map a.eval).toArray).foldl (fun tmps (t,a) => tmps.setIfInBounds t a) L.tmps) L.assign L.body) w:=by
        rw [hfe]
        have hsz : (cargs.map a.eval).size = L.params.size:=by simp [hps]
        have hcm : (cargs.toList.map a.eval).toArray = cargs.map a.eval:=by apply Array.ext'; simp
        simp only [Deferred.ofValue,Sem.run_bind,Sem.run_pure,Result.andThen_ok,invoke,Instr.yield,Instr.getLoop,getObj,Sem.run,hL,Array.empty_append,ne_eq,hsz,not_true_eq_false,if_false,hcm]
       rw [hy]
       refine ⟨by simp [fenceR],?_⟩
       refine RoundIn.mono (R:=RetP CK w0 K φ H v' (mrg H own true)) hround ?_
       intro e w' hR
       have:=after _ e w' hR (by simp only [Eff.app,Option.some.injEq] at h2; subst h2; simp [mrg])
       cases e <;> exact this
      ·cases h1

end
end Go.AEv
