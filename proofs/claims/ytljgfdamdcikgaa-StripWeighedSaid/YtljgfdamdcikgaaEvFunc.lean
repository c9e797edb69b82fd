/-
 FUNCTIONS,rounds,and the evaluator as a whole.
-/
import Derived.Test.YtljgfdamdcikgaaEvCode
set_option linter.unusedVariables false
set_option linter.unusedSimpArgs false
namespace Go.AEv

/-! ### What came in stays -/

def Keeps (h h' : Heap) : Prop:=h'.lo = h.lo ∧ h'.N = h.N
theorem Keeps.refl (h : Heap) : Keeps h h:=⟨rfl,rfl⟩
theorem Keeps.trans {a b c : Heap} (x : Keeps a b) (y : Keeps b c) : Keeps a c:=⟨y.1.trans x.1,y.2.trans x.2⟩

theorem setOwn_keeps (h : Heap) (b : Nat) (x : AObj) : Keeps h (h.setOwn b x):=by rw [Heap.setOwn_eq]; exact ⟨rfl,rfl⟩

theorem app_keeps {e : Eff} {h h' : Heap} (ha : e.app h = some h') : Keeps h h':=by
 cases e with
 | none => simp only [Eff.app,Option.some.injEq] at ha; subst ha; exact Keeps.refl _
 | put b v o vs => obtain ⟨_,_,_,_,_,rfl⟩:=app_put ha; exact setOwn_keeps _ _ _
 | fill i x => obtain ⟨_,_,rfl⟩:=app_fill ha; exact setOwn_keeps _ _ _
 | grow xs => simp only [Eff.app,forceL_eq,Option.some.injEq] at ha; subst ha; exact ⟨rfl,rfl⟩
 | ext b v g vs =>
  simp only [Eff.app,forceL_eq] at ha
  split at ha
  ·cases ha
  ·split at ha
   ·split at ha
    ·simp only [Option.some.injEq] at ha; subst ha; exact setOwn_keeps _ _ _
    ·cases ha
   ·cases ha
 | mput b es =>
  simp only [Eff.app] at ha
  split at ha
  ·cases ha
  ·split at ha
   ·simp only [Option.some.injEq] at ha; subst ha; exact setOwn_keeps _ _ _
   ·cases ha
 | inext b pos =>
  simp only [Eff.app] at ha
  split at ha
  ·cases ha
  ·split at ha
   ·simp only [Option.some.injEq] at ha; subst ha; exact setOwn_keeps _ _ _
   ·cases ha
 | all own => simp only [Eff.app,Option.some.injEq] at ha; subst ha; exact ⟨rfl,rfl⟩

theorem exec_keeps {call : CallF} {h0 h h1 : Heap} {o : COper} {s s1 : T} {fp : FP} (e : exec call h0 o s h = some (s1,h1,fp)) : Keeps h h1:=by
 rw [exec_eq] at e
 cases hw : wantedA o s with
 | none => rw [hw] at e; cases e
 | some t =>
  rw [hw] at e
  cases t with
  | false => simp only [Option.some.injEq,Prod.mk.injEq] at e; obtain ⟨rfl,rfl,rfl⟩:=e; exact Keeps.refl _
  | true =>
   simp only [Option.bind_eq_some_iff,Option.map_eq_some_iff,Prod.mk.injEq] at e
   obtain ⟨⟨v,f⟩,_,h',e2,rfl,rfl,rfl⟩:=e
   exact app_keeps e2

theorem runL_keeps {call : CallF} {h0 : Heap} : ∀ {os : List COper} {s : T} {h : Heap} {s1 : T} {h1 : Heap} {fps : List FP},runL call h0 os s h = some (s1,h1,fps) → Keeps h h1
 | [],s,h,s1,h1,fps,e => by simp only [runL,Option.some.injEq,Prod.mk.injEq] at e; obtain ⟨rfl,rfl,rfl⟩:=e; exact Keeps.refl _
 | o :: os,s,h,s1,h1,fps,e => by
  simp only [runL,Option.bind_eq_some_iff,Option.map_eq_some_iff,Prod.mk.injEq] at e
  obtain ⟨⟨s2,h2,f2⟩,e1,⟨s3,h3,f3⟩,e2,rfl,rfl,rfl⟩:=e
  exact (exec_keeps e1).trans (runL_keeps e2)

theorem evCode_keeps {r : Rec} (hk : ∀ c s h e s' h',r.code c s h = some (e,s',h') → Keeps h h') : ∀ (c : CCode) (s : T) (h : Heap) (e : AExit) (s' : T) (h' : Heap),evCode r c s h = some (e,s',h') → Keeps h h':=by
 intro c
 induction c with
 | skip => intro s h e s' h' he; simp only [evCode,Option.some.injEq,Prod.mk.injEq] at he; obtain ⟨rfl,rfl,rfl⟩:=he; exact Keeps.refl _
 | exit id => intro s h e s' h' he; simp only [evCode,Option.some.injEq,Prod.mk.injEq] at he; obtain ⟨rfl,rfl,rfl⟩:=he; exact Keeps.refl _
 | ret => intro s h e s' h' he; simp only [evCode,Option.some.injEq,Prod.mk.injEq] at he; obtain ⟨rfl,rfl,rfl⟩:=he; exact Keeps.refl _
 | ops os =>
  intro s h e s' h' he
  simp only [evCode,runOps_eq,Option.map_map,Option.map_eq_some_iff,Function.comp] at he
  obtain ⟨⟨s1,h1,fps⟩,e1,e2⟩:=he
  simp only [Prod.mk.injEq] at e2
  obtain ⟨rfl,rfl,rfl⟩:=e2
  exact runL_keeps e1
 | draw k cs ps anc =>
  intro s h e s' h' he
  simp only [evCode,runFP_eq] at he
  split at he
  ·rename_i s1 h1 fps e1
   split at he
   ·simp only [Option.some.injEq,Prod.mk.injEq] at he
    obtain ⟨rfl,rfl,rfl⟩:=he
    have:=runL_keeps e1
    exact ⟨this.1,this.2⟩
   ·cases he
  ·cases he
 | seq x y ihx ihy =>
  intro s h e s' h' he
  simp only [evCode] at he
  cases hx : evCode r x s h with
  | none => rw [hx] at he; cases he
  | some q =>
   obtain ⟨e1,s1,h1⟩:=q
   rw [hx] at he
   cases e1 with
   | normal => exact (ihx _ _ _ _ _ hx).trans (ihy _ _ _ _ _ he)
   | exit id => simp only [Option.some.injEq,Prod.mk.injEq] at he; obtain ⟨rfl,rfl,rfl⟩:=he; exact ihx _ _ _ _ _ hx
   | ret => simp only [Option.some.injEq,Prod.mk.injEq] at he; obtain ⟨rfl,rfl,rfl⟩:=he; exact ihx _ _ _ _ _ hx
 | cond co x y ihx ihy =>
  intro s h e s' h' he
  simp only [evCode] at he
  split at he
  ·split at he
   ·exact ihx _ _ _ _ _ he
   ·exact ihy _ _ _ _ _ he
  ·cases he
 | block id x ih =>
  intro s h e s' h' he
  simp only [evCode] at he
  cases hx : evCode r x s h with
  | none => rw [hx] at he; cases he
  | some q =>
   obtain ⟨e1,s1,h1⟩:=q
   rw [hx] at he
   have:=ih _ _ _ _ _ hx
   cases e1 with
   | normal => simp only [Option.some.injEq,Prod.mk.injEq] at he; obtain ⟨rfl,rfl,rfl⟩:=he; exact this
   | ret => simp only [Option.some.injEq,Prod.mk.injEq] at he; obtain ⟨rfl,rfl,rfl⟩:=he; exact this
   | exit id =>
    simp only at he
    split at he
    ·simp only [Option.some.injEq,Prod.mk.injEq] at he; obtain ⟨rfl,rfl,rfl⟩:=he; exact this
    ·simp only [Option.some.injEq,Prod.mk.injEq] at he; obtain ⟨rfl,rfl,rfl⟩:=he; exact this
 | trim live x ih =>
  intro s h e s' h' he
  simp only [evCode] at he
  exact ih _ _ _ _ _ he
 | scope x ih =>
  intro s h e s' h' he
  simp only [evCode] at he
  exact ih _ _ _ _ _ he
 | loop live x ih =>
  intro s h e s' h' he
  simp only [evCode,forceT_eq] at he
  cases hx : evCode r x (keep live s) h with
  | none => rw [hx] at he; cases he
  | some q =>
   obtain ⟨e1,s1,h1⟩:=q
   rw [hx] at he
   have:=ih _ _ _ _ _ hx
   cases e1 with
   | normal => exact this.trans (hk _ _ _ _ _ _ he)
   | ret => simp only [Option.some.injEq,Prod.mk.injEq] at he; obtain ⟨rfl,rfl,rfl⟩:=he; exact this
   | exit id => simp only [Option.some.injEq,Prod.mk.injEq] at he; obtain ⟨rfl,rfl,rfl⟩:=he; exact this
 | range f ps x y ihx ihy =>
  intro s h e s' h' he
  simp only [evCode] at he
  split at he
  ·split at he
   ·cases he
   ·split at he
    ·split at he
     ·split at he
      ·cases he
      ·simp only [Option.some.injEq,Prod.mk.injEq] at he; obtain ⟨rfl,rfl,rfl⟩:=he
       exact (Keeps.trans (b:={ h with own:=_ }) ⟨rfl,rfl⟩ (setOwn_keeps _ _ _))
     ·cases he
    ·cases he
  ·cases he

/-! ### Frames -/

def initP : List Nat → List AV → T → Option T
 | [],[],t => some t
 | p :: ps,v :: vs,t => initP ps vs (t.set (pathOf p) v)
 | _,_,_ => none

theorem initS_eq : ∀ (ps : List Nat) (vs : List AV) (t : T),initS (ps.map pathOf) vs t = initP ps vs t
 | [],[],t => rfl
 | p :: ps,v :: vs,t => by simp only [List.map_cons,initS,initP]; exact initS_eq ps vs _
 | [],_ :: _,t => rfl
 | _ :: _,[],t => rfl

theorem init_sim {φ : Nat → Emb} {h : Heap} : ∀ {ps : List Nat} {vs : List AV} {t s : T} {tmps : Array Value} {xs : List Value},initP ps vs t = some s → (∀ p ∈ ps,p < tmps.size) → SR φ h t tmps → VRs φ h vs xs →
  xs.length = ps.length ∧ SR φ h s ((ps.zip xs).foldl (fun tmps (t,a) => tmps.setIfInBounds t a) tmps) ∧ ((ps.zip xs).foldl (fun tmps (t,a) => tmps.setIfInBounds t a) tmps).size = tmps.size
 | [],[],t,s,tmps,xs,e,hp,hs,hv => by
  simp only [initP,Option.some.injEq] at e; subst e
  simp only [VRs] at hv; subst hv
  exact ⟨rfl,hs,rfl⟩
 | p :: ps,v :: vs,t,s,tmps,xs,e,hp,hs,hv => by
  simp only [initP] at e
  obtain ⟨x,xs',rfl,h1,h2⟩:=hv
  have hs' : SR φ h (t.set (pathOf p) v) (tmps.setIfInBounds p x):=by
   intro i
   rw [T.get_set]
   rw [Array.getD_eq_getD_getElem?,Array.getElem?_setIfInBounds]
   split
   ·rename_i hpi
    have:=pathOf_inj _ _ hpi
    subst this
    rw [if_pos rfl,if_pos (hp p (by simp))]
    exact h1
   ·rename_i hpi
    have hne : ¬ p = i:=fun e => hpi (by rw [e])
    rw [if_neg hne,← Array.getD_eq_getD_getElem?]
    exact hs i
  obtain ⟨a1,a2,a3⟩:=init_sim e (fun q hq => by rw [Array.size_setIfInBounds]; exact hp q (by simp [hq])) hs' h2
  refine ⟨by simp [a1],a2,?_⟩
  rw [Array.size_setIfInBounds] at a3
  exact a3
 | [],_ :: _,t,s,tmps,xs,e,hp,hs,hv => by simp [initP] at e
 | _ :: _,[],t,s,tmps,xs,e,hp,hs,hv => by simp [initP] at e


/-! ### Results -/

def resOk (P : Program) : List ResultVar → List CRes → Bool
 | [],[] => true
 | .tmp t :: rs,.slot p :: cs => p == pathOf t && resOk P rs cs
 | .cell a t :: rs,.cell p k :: cs => p == pathOf a && kOk P t k && resOk P rs cs
 | _,_ => false

def resSem (tmps : Array Value) (v : ResultVar) : Sem Value :=
 match v with
 | .tmp t => pure (tmps.getD t undef)
 | .cell a t => do loadVar t (← asAddr (tmps.getD a undef))

section
variable {CK : CKT} {P : Program} {w0 : World} {K : List Nat} {φ : Nat → Emb} {H : Heap} {w : World} {s : T} {tmps : Array Value}

theorem ress_sim (hr : HR CK w0 K φ H w) (hs : SR φ H s tmps) : ∀ {rs : List ResultVar} {cs : List CRes} {vs : List AV},resOk P rs cs = true → evRess H s cs = some vs →
  ∃ xs,(rs.mapM (resSem tmps)).run P w = .ok xs w ∧ VRs φ H vs xs
 | [],[],vs,hk,he => by
  simp only [evRess,Option.some.injEq] at he; subst he
  exact ⟨[],rfl,rfl⟩
 | .tmp t :: rs,.slot p :: cs,vs,hk,he => by
  simp only [resOk,Bool.and_eq_true,beq_iff_eq] at hk
  simp only [evRess,evRes] at he
  split at he
  ·rename_i v vs' e1 e2
   simp only [Option.some.injEq] at he e1
   subst he; subst e1
   obtain ⟨xs,g1,g2⟩:=ress_sim hr hs hk.2 e2
   refine ⟨tmps.getD t undef :: xs,?_,_,_,rfl,?_,g2⟩
   ·simp only [List.mapM_cons,Sem.run_bind,resSem,Sem.run_pure,Result.andThen_ok,g1]
   ·rw [hk.1]; exact hs t
  ·cases he
 | .cell a t :: rs,.cell p k :: cs,vs,hk,he => by
  simp only [resOk,Bool.and_eq_true,beq_iff_eq] at hk
  simp only [evRess,evRes] at he
  split at he
  ·rename_i v vs' e1 e2
   simp only [Option.some.injEq] at he
   subst he
   obtain ⟨xs,g1,g2⟩:=ress_sim hr hs hk.2 e2
   have ha:=hs a
   rw [← hk.1.1] at ha
   obtain ⟨ad,y,hx,hl,hy⟩:=loadA_sim hr hk.1.2 ha e1
   refine ⟨y :: xs,?_,_,_,rfl,hy,g2⟩
   have : (asAddr (tmps.getD a undef)).run P w = .ok ad w:=by rw [hx]; rfl
   simp only [List.mapM_cons,Sem.run_bind,resSem,this,hl,Sem.run_pure,Result.andThen_ok,g1]
  ·cases he
 | [],_ :: _,_,hk,_ => by simp [resOk] at hk
 | .tmp _ :: _,[],_,hk,_ => by simp [resOk] at hk
 | .cell _ _ :: _,[],_,hk,_ => by simp [resOk] at hk
 | .tmp _ :: _,.cell _ _ :: _,_,hk,_ => by simp [resOk] at hk
 | .cell _ _ :: _,.slot _ :: _,_,hk,_ => by simp [resOk] at hk

theorem results_sim (hr : HR CK w0 K φ H w) (hs : SR φ H s tmps) {fn : Func} {cs : List CRes} {vs : List AV} (hk : resOk P fn.results.toList cs = true) (he : evRess H s cs = some vs) :
  ∃ x,(results fn tmps).run P w = .ok x w ∧ VR φ H (one vs) x:=by
 obtain ⟨xs,g1,g2⟩:=ress_sim hr hs hk he
 have hrun : (fn.results.mapM (resSem tmps)).run P w = .ok xs.toArray w:=by
  rw [Array.mapM_eq_mapM_toList,map_eq_pure_bind]
  simp only [Sem.run_bind,g1,Result.andThen_ok,Sem.run_pure]
 have : (results fn tmps).run P w = .ok (if h : xs.toArray.size = 1 then xs.toArray[0] else .tuple xs.toArray) w:=by
  have hh : results fn tmps = (do let vs ← fn.results.mapM (resSem tmps); pure (if h : vs.size = 1 then vs[0] else .tuple vs)):=by
   unfold results
   congr 1
  rw [hh]
  simp only [Sem.run_bind,hrun,Result.andThen_ok,Sem.run_pure]
 refine ⟨_,this,?_⟩
 cases vs with
 | nil =>
  simp only [VRs] at g2; subst g2
  simp [one,VR,VRs]
 | cons v vs =>
  obtain ⟨x,xs',rfl,h1,h2⟩:=g2
  cases vs with
  | nil => simp only [VRs] at h2; subst h2; simpa [one] using h1
  | cons v' vs =>
   obtain ⟨x',xs'',rfl,h3,h4⟩:=h2
   simp only [one,VR]
   refine ⟨(x :: x' :: xs'').toArray,by simp,?_⟩
   exact ⟨x,_,rfl,h1,x',_,rfl,h3,h4⟩

/-- The marks are come to. -/
theorem leaves_marks {fn : Func} {R : Ending → World → Prop} {v : Value} : ∀ (K2 : List Nat) {w : World},HR CK w0 (K2 ++ K) φ H w →
  (∀ w',HR CK w0 K φ H w' → ∃ v,(results fn tmps).run P w' = .ok v w' ∧ R (.returned v) w') → LeavesInM (fenceR none) 0 P fn tmps R (K2.map mark) .returning w
 | [],w,hr,h => h w hr
 | k :: K2,w,hr,h => by
  refine ⟨by simp,.inl ⟨k,_,rfl,run_takeDeferred (hr.keep k (by simp)).2,?_⟩⟩
  exact leaves_marks (v:=v) K2 (HR.drop hr) h
end

def funcOk (P : Program) (g : Nat) (cf : CFunc) : Bool :=
 match P.funcs[g]? with
 | some fn => match fn.body with
  | some c => codeOk P fn.ntmps c cf.body false && (cf.params == (List.range cf.params.length).map pathOf) && resOk P fn.results.toList cf.results && !(fn.name == "runtime.NumGoroutine")
  | none => false
 | none => false

theorem funcOk_enter {P : Program} {g : Nat} {cf : CFunc} (h : funcOk P g cf = true) : Enterable P g:=by
 unfold funcOk at h
 split at h
 ·rename_i fn hfn
  split at h
  ·rename_i c hc
   simp only [Bool.and_eq_true,Bool.not_eq_true'] at h
   exact ⟨fn,hfn,by rw [hc]; rfl,h.2⟩
  ·cases h
 ·cases h

section
variable {P : Program} {r : Rec} {m : Nat}

theorem initP_range : ∀ (k j : Nat) (args : List AV) (t s : T),initP (List.range' j k) args t = some s → args.length = k ∧ ∀ i,s.get (pathOf i) = if j ≤ i ∧ i < j + k then args.getD (i - j) .undef else t.get (pathOf i)
 | 0,j,[],t,s,e => by
  simp only [List.range'_zero,initP,Option.some.injEq] at e; subst e
  exact ⟨rfl,fun i => by rw [if_neg (by omega)]⟩
 | 0,j,_ :: _,t,s,e => by simp [initP] at e
 | k + 1,j,[],t,s,e => by simp [List.range'_succ,initP] at e
 | k + 1,j,a :: args,t,s,e => by
  rw [List.range'_succ] at e
  simp only [initP] at e
  obtain ⟨h1,h2⟩:=initP_range k (j + 1) args _ s e
  refine ⟨by simp [h1],fun i => ?_⟩
  rw [h2 i,T.get_set]
  by_cases hij : i = j
  ·subst hij
   rw [if_neg (by omega),if_pos rfl,if_pos (by omega)]
   simp
  ·have hne : ¬ pathOf j = pathOf i:=fun e => hij (pathOf_inj _ _ e).symm
   rw [if_neg hne]
   by_cases hin : j ≤ i ∧ i < j + (k + 1)
   ·rw [if_pos hin,if_pos (by omega)]
    have : i - j = (i - (j + 1)) + 1:=by omega
    rw [this,List.getD_cons_succ]
   ·rw [if_neg hin,if_neg (by omega)]

/-- A function's frame,from a heap 'h'. -/
theorem func_sim (hm : P.follows .mixedOrders = true) (hC : SimC (ckOf P) P r.call) (hK : SimK P m r.code) {g : Nat} {cf : CFunc} (hok : funcOk P g cf = true) {args : List AV} {h h' : Heap} {v : AV} (he : evFunc r cf args h = some (v,h'))
  {w0 : World} {K : List Nat} {φ : Nat → Emb} {w : World} {vals : List Value} (hr : HR (ckOf P) w0 K φ h w) (hv : VRs φ h args vals) : CallsIn (fenceR none) 0 P g vals.toArray w (RetP (ckOf P) w0 K φ h v h'):=by
 unfold funcOk at hok
 split at hok
 ·rename_i fn hfn
  split at hok
  ·rename_i c hc
   simp only [Bool.and_eq_true,Bool.not_eq_true',beq_iff_eq] at hok
   obtain ⟨⟨⟨hck,h2⟩,h3⟩,h4⟩:=hok
   unfold evFunc at he
   rw [h2] at he
   split at he
   ·rename_i s hs
    rw [initS_eq] at hs
    refine callsIn_of_wp_marks hfn hc trivial ?_
    -- the frame's slots
    have hsr : SR φ h s (vals.toArray ++ Array.replicate (fn.ntmps - vals.toArray.size) undef):=by
     rw [List.range_eq_range'] at hs
     obtain ⟨g1,g2⟩:=initP_range _ _ _ _ _ hs
     have hvl:=hv.length
     intro i
     rw [g2 i]
     by_cases hi : i < cf.params.length
     ·rw [if_pos (by omega)]
      have hi' : i < args.length:=by omega
      obtain ⟨x,hx,hxr⟩:=VRs.get hv (List.getElem?_eq_getElem hi')
      have hg : (vals.toArray ++ Array.replicate (fn.ntmps - vals.toArray.size) undef).getD i undef = x:=by
       rw [Array.getD_eq_getD_getElem?,Array.getElem?_append_left (by simp; omega)]
       simp only [List.getElem?_toArray,hx,Option.getD_some]
      rw [hg,Nat.sub_zero,List.getD_eq_getElem?_getD,List.getElem?_eq_getElem hi']
      exact hxr
     ·rw [if_neg (by omega),T.get_leaf]; simp [VR]
    have hsz : fn.ntmps ≤ (vals.toArray ++ Array.replicate (fn.ntmps - vals.toArray.size) undef).size:=by simp; omega
    have body : ∀ e s1 h1,evCode r cf.body s h = some (e,s1,h1) → (match e with | .exit _ => False | _ => ∃ vs,evRess h1 s1 cf.results = some vs ∧ v = one vs ∧ h' = h1) →
      Code.wpIn (fenceR none) 0 P c (bodyPostM (fenceR none) 0 P fn (RetP (ckOf P) w0 K φ h v h')) { tmps:=vals.toArray ++ Array.replicate (fn.ntmps - vals.toArray.size) undef,defers:=[] } w:=by
     intro e s1 h1 hcode hres
     refine evCode_sim hm hC hK cf.body fn.ntmps c false s h e s1 h1 hck hcode none w0 K φ w _ (by simp) hr hsr hsz _ ?_
     intro φ1 a1 w1 K2 q1 q2 q3 q4 q5 q6
     have key : (∃ vs,evRess h1 s1 cf.results = some vs ∧ v = one vs ∧ h' = h1) → LeavesInM (fenceR none) 0 P fn a1.tmps (RetP (ckOf P) w0 K φ h v h') a1.defers .returning w1:=by
      rintro ⟨vs,e1,rfl,rfl⟩
      have hd : a1.defers = K2.map mark:=by rw [q4]; simp
      rw [hd]
      refine leaves_marks (v:=undef) K2 q1 (fun w' hw' => ?_)
      obtain ⟨x,g1,g2⟩:=results_sim hw' q2 h3 e1
      exact ⟨x,g1,φ1,x,rfl,g2,hw',q3⟩
     cases e with
     | normal => exact key hres
     | ret => exact key hres
     | exit id => exact hres.elim
    split at he
    ·cases he
    ·rename_i e s1 h1 hne hcode
     simp only [Option.bind_eq_some_iff,forceV_eq,Option.some.injEq,Prod.mk.injEq] at he
     obtain ⟨vs,e1,rfl,rfl⟩:=he
     refine body e s1 h1 hcode ?_
     cases e with
     | normal => exact ⟨vs,e1,rfl,rfl⟩
     | ret => exact ⟨vs,e1,rfl,rfl⟩
     | exit id => exact (hne _ rfl).elim
    ·cases he
   ·cases he
  ·cases hok
 ·cases hok


theorem own_some {h : Heap} {l : Nat} {y : AObj} (h1 : h.own[l - h.N]? = some y) (hl : ¬ l < h.N) : h.get l = y:=Heap.get_own h l y hl h1

/-- One round. -/
theorem round_sim (hm : P.follows .mixedOrders = true) (hC : SimC (ckOf P) P r.call) (hK : SimK P m r.code) (hk : ∀ c s h e s' h',r.code c s h = some (e,s',h') → Keeps h h') {l : Nat} {args : List AV} {h h' : Heap} {v : AV}
  (he : evRound r l args h = some (v,h')) {w0 : World} {K : List Nat} {φ : Nat → Emb} {w : World} {vals : List Value} (hr : HR (ckOf P) w0 K φ h w) (hv : VRs φ h args vals) :
  ∃ L,w.heap[(φ l).blk]? = some (.loop L) ∧ L.params.size = vals.length ∧
   RoundIn (fenceR none) 0 P (φ l).blk L.fn ((L.params.zip vals.toArray).foldl (fun tmps (t,a) => tmps.setIfInBounds t a) L.tmps) L.assign L.body w (RetP (ckOf P) w0 K φ h v h'):=by
 unfold evRound at he
 split at he
 ·cases he
 rename_i hl
 split at he
 ·rename_i pend s0 ps as bs hown
  split at he
  ·rename_i s hs
   split at he
   ·rename_i s1 h1 hassign
    split at he
    ·rename_i p1 t1 ps1 as1 b1 hown1
     split at he
     ·rename_i e s2 h2 hbody
      split at he
      ·rename_i p2 t2 ps2 as2 b2 hown2
       have ho:=hr.obj l
       rw [own_some hown hl] at ho
       obtain ⟨L,g1,g2,g3,g4,g5,g6,⟨na,hna,hca⟩,⟨nb,hnb,hcb⟩⟩:=ho
       rw [g5,initS_eq] at hs
       obtain ⟨i1,i2,i3⟩:=init_sim hs g6 g4 hv
       have hfold : (L.params.zip vals.toArray).foldl (fun tmps (t,a) => tmps.setIfInBounds t a) L.tmps = (L.params.toList.zip vals).foldl (fun tmps (t,a) => tmps.setIfInBounds t a) L.tmps:=by
        rw [← Array.foldl_toList]; simp
       refine ⟨L,g1,by simpa using i1.symm,?_⟩
       rw [hfold]
       refine roundIn_of_wpIn trivial ?_
       have hF : (fenceR none).inRound (φ l).blk = fenceR (some (φ l).blk):=rfl
       rw [hF]
       have k1 : Keeps h h1:=evCode_keeps hk _ _ _ _ _ _ hassign
       have k2 : Keeps h1 h2:=(setOwn_keeps _ _ _).trans (evCode_keeps hk _ _ _ _ _ _ hbody)
       have hl1 : ¬ l < h1.N:=by rw [k1.2]; exact hl
       have hl2 : ¬ l < h2.N:=by rw [k2.2,k1.2]; exact hl
       refine evCode_sim hm hC hK as na L.assign true s h .normal s1 h1 hca hassign (some (φ l).blk) w0 K φ w _ (fun _ => rfl) hr i2 (by rw [i3]; exact hna) _ ?_
       intro φ1 a1 w1 K2 q1 q2 q3 q4 q5 q6
       have hK2:=q6 rfl
       subst hK2
       simp only [List.nil_append] at q1
       -- the record,ready yet
       obtain ⟨_,_,_,_,_,_,_,hφ1⟩:=(q3 l).2.2.1 _ _ _ _ _ _ (own_some hown hl)
       have ho1:=q1.obj l
       rw [own_some hown1 hl1] at ho1
       obtain ⟨L1,f1,f2,f3,f4,f5,f6,f7⟩:=ho1
       obtain ⟨hr2,hst2⟩:=loop_put q1 hl1 hown1 f1 (st':=.busy) (pend':=p1) (j:=L1.pending) f3
       have hb1 : (φ1 l).blk = (φ l).blk:=by rw [hφ1]
       rw [hb1] at f1 hr2
       refine ⟨_,run_beginRound f1 f2,?_⟩
       refine evCode_sim hm hC hK bs nb L.body true s1 _ e s2 h2 hcb hbody (some (φ l).blk) w0 K φ1 _ a1 (fun _ => rfl) hr2 (SR.step hst2 q2) (by rw [q5,i3]; exact hnb) _ ?_
       intro φ3 a3 w3 K3 p1' p2' p3' p4' p5' p6'
       have hK3:=p6' rfl
       subst hK3
       simp only [List.nil_append] at p1'
       obtain ⟨_,_,_,_,_,_,_,hφ3⟩:=((hst2.trans p3') l).2.2.1 _ _ _ _ _ _ (own_some hown1 hl1)
       have ho3:=p1'.obj l
       rw [own_some hown2 hl2] at ho3
       obtain ⟨L3,d1,d2,d3,d4,d5,d6,d7⟩:=ho3
       have hb3 : (φ3 l).blk = (φ l).blk:=by rw [hφ3,hb1]
       have fin : ∀ (jump : Option Code) (pj : Option AExit),(jump = match pj with | none => none | some e => exitC e) → v = .bool jump.isNone → h' = h2.setOwn l (.loop (if jump.isNone then .ready else .done) pj t2 ps2 as2 b2) →
         ∃ v' w',(Instr.endRound (φ l).blk jump).run P w3 = .ok v' w' ∧ RetP (ckOf P) w0 K φ h v h' (.returned v') w':=by
        intro jump pj hj hv' hh'
        obtain ⟨hr4,hst4⟩:=loop_put p1' hl2 hown2 d1 (st':=if jump.isNone then .ready else .done) (pend':=pj) (j:=jump) hj
        rw [hb3] at d1 hr4
        refine ⟨_,_,run_endRound jump d1,φ3,_,rfl,?_,?_,?_⟩
        ·rw [hv']; simp [VR]
        ·rw [hh']; exact hr4
        ·rw [hh']; exact q3.trans (hst2.trans (p3'.trans hst4))
       cases e with
       | normal =>
        simp only [Option.some.injEq,Prod.mk.injEq] at he
        obtain ⟨rfl,rfl⟩:=he
        exact fin none none rfl rfl rfl
       | ret =>
        simp only [Option.some.injEq,Prod.mk.injEq] at he
        obtain ⟨rfl,rfl⟩:=he
        exact fin (some .ret) (some .ret) rfl rfl rfl
       | exit id =>
        simp only [Option.some.injEq,Prod.mk.injEq] at he
        obtain ⟨rfl,rfl⟩:=he
        exact fin (some (.exit id)) (some (.exit id)) rfl rfl rfl
      ·cases he
     ·cases he
    ·cases he
   ·cases he
  ·cases he
 ·cases he

theorem evFunc_keeps (hk : ∀ c s h e s' h',r.code c s h = some (e,s',h') → Keeps h h') {cf : CFunc} {args : List AV} {h h' : Heap} {v : AV} (he : evFunc r cf args h = some (v,h')) : Keeps h h':=by
 unfold evFunc at he
 split at he
 ·split at he
  ·cases he
  ·rename_i hcode
   simp only [Option.bind_eq_some_iff,forceV_eq,Option.some.injEq,Prod.mk.injEq] at he
   obtain ⟨vs,e1,rfl,rfl⟩:=he
   exact evCode_keeps hk _ _ _ _ _ _ hcode
  ·cases he
 ·cases he

theorem evRound_keeps (hk : ∀ c s h e s' h',r.code c s h = some (e,s',h') → Keeps h h') {l : Nat} {args : List AV} {h h' : Heap} {v : AV} (he : evRound r l args h = some (v,h')) : Keeps h h':=by
 unfold evRound at he
 split at he
 ·cases he
 split at he
 ·split at he
  ·split at he
   ·rename_i s1 h1 hassign
    split at he
    ·split at he
     ·rename_i e s2 h2 hbody
      split at he
      ·have k1 : Keeps h h1:=evCode_keeps hk _ _ _ _ _ _ hassign
       have k2 : Keeps h1 h2:=(setOwn_keeps _ _ _).trans (evCode_keeps hk _ _ _ _ _ _ hbody)
       cases e with
       | normal =>
        simp only [Option.some.injEq,Prod.mk.injEq] at he
        obtain ⟨rfl,rfl⟩:=he
        exact k1.trans (k2.trans (setOwn_keeps _ _ _))
       | ret =>
        simp only [Option.some.injEq,Prod.mk.injEq] at he
        obtain ⟨rfl,rfl⟩:=he
        exact k1.trans (k2.trans (setOwn_keeps _ _ _))
       | exit id =>
        simp only [Option.some.injEq,Prod.mk.injEq] at he
        obtain ⟨rfl,rfl⟩:=he
        exact k1.trans (k2.trans (setOwn_keeps _ _ _))
      ·cases he
     ·cases he
    ·cases he
   ·cases he
  ·cases he
 ·cases he

/-- A frame of its own,whose memory is read alone. -/
def frameOf (h : Heap) : Heap:=⟨h.get,h.size,[]⟩

theorem frame_get (h : Heap) (i : Nat) : (frameOf h).get i = h.get i:=by
 unfold frameOf Heap.get
 simp only
 split
 ·rfl
 ·rename_i hi
  simp only [Heap.size] at hi
  rw [if_neg (by omega)]
  simp only [List.getD_nil]
  rw [List.getD_eq_getElem?_getD,List.getElem?_eq_none (by omega)]
  rfl

theorem frame_hr {CK : CKT} {w0 : World} {K : List Nat} {φ : Nat → Emb} {h : Heap} {w : World} (hr : HR CK w0 K φ h w) : HR CK w [] φ (frameOf h) w ∧ Stp φ h φ (frameOf h):=by
 have hs : Stp φ h φ (frameOf h):=fun b => by rw [frame_get]; exact Stp.refl φ h b
 have hge : ∀ i,h.size ≤ i → h.get i = .hole:=by
  intro i hi
  cases hq : h.get i with
  | hole => rfl
  | _ => have:=Heap.get_lt (H:=h) (i:=i) (by rw [hq]; simp); simp only [Heap.size] at this hi; omega
 refine ⟨⟨Nat.le_refl _,fun _ _ => rfl,fun i => by rw [frame_get]; exact OR.step hs (fun _ => rfl) (hr.obj i),fun i hi hh => ?_,fun i j hj _ hh _ => ?_,by simp,by simp,Env.refl w⟩,hs⟩
 ·rw [frame_get,hge i hi] at hh; exact absurd rfl hh
 ·rw [frame_get,hge j hj] at hh; exact absurd rfl hh

theorem frame_back {CK : CKT} {w0 : World} {K : List Nat} {φ φ' : Nat → Emb} {h h' : Heap} {w w' : World} (hr : HR CK w0 K φ h w) (hr' : HR CK w [] φ' h' w') (hs : Stp φ (frameOf h) φ' h') (hk : Keeps (frameOf h) h') :
  HR CK w0 K φ h w' ∧ HR CK w0 K φ' { h with own:=h.own ++ h'.own } w' ∧ Stp φ' h' φ' { h with own:=h.own ++ h'.own }:=by
 have hsame : ∀ b,b < w.heap.size → w'.heap[b]? = w.heap[b]?:=hr'.old
 have hN : h'.N = h.size:=hk.2
 have hlo : h'.lo = h.get:=hk.1
 have hlow : ∀ i,i < h.size → h'.get i = h.get i:=fun i hi => by
  unfold Heap.get; rw [if_pos (by omega),hlo]; unfold Heap.get; rfl
 have hget : ∀ i,Heap.get { h with own:=h.own ++ h'.own } i = h'.get i:=fun i => by
  by_cases hi : i < h.size
  ·rw [hlow i hi]
   unfold Heap.get
   simp only
   split
   ·rfl
   ·simp only [Heap.size] at hi
    rw [List.getD_eq_getElem?_getD,List.getD_eq_getElem?_getD,List.getElem?_append_left (by omega)]
  ·unfold Heap.get
   have hi':=hi
   simp only [Heap.size] at hi'
   rw [if_neg (by show ¬ i < h.N; omega),if_neg (by omega)]
   show (h.own ++ h'.own).getD (i - h.N) _ = _
   rw [List.getD_eq_getElem?_getD,List.getD_eq_getElem?_getD,List.getElem?_append_right (by omega)]
   congr 2
   simp only [Heap.size] at hN
   omega
 have hφ : ∀ i,i < h.size → h.get i ≠ .hole → φ' i = φ i:=fun i hi hh => by
  have:=hs i
  rw [frame_get] at this
  cases hq : h.get i with
  | hole => exact absurd hq hh
  | cells g n cs =>
   obtain ⟨n',cs',e1,e2,e3⟩:=this.1 g n cs hq
   rw [hlow i hi,hq] at e1
   simp only [AObj.cells.injEq] at e1
   exact e3 e1.2.1.symm
  | map es => obtain ⟨_,_,e3⟩:=this.2.1 es hq; exact e3
  | loop st pend s ps x y => obtain ⟨_,_,_,_,_,_,_,e3⟩:=this.2.2.1 _ _ _ _ _ _ hq; exact e3
  | iter c pos => obtain ⟨_,_,_,e3⟩:=this.2.2.2 _ _ hq; exact e3
 have hge : ∀ i,h.get i ≠ .hole → i < h.size:=by
  intro i hh
  have:=Heap.get_lt (H:=h) (i:=i) hh
  simp only [Heap.size] at this ⊢; omega
 have hold : HR CK w0 K φ h w':=by
  refine ⟨Nat.le_trans hr.size hr'.size,fun b hb => ?_,fun i => ?_,fun i hi hh => ?_,hr.sep,fun k hk => ?_,hr.nodup,hr.env.trans hr'.env⟩
  ·rw [hsame b (by have:=hr.size; omega)]; exact hr.old b hb
  ·exact OR.step (Stp.refl φ h) (fun hh => hsame _ (OR.lt (hr.obj i) hh)) (hr.obj i)
  ·rw [hsame _ (OR.lt (hr.obj i) hh)]; exact hr.own i hi hh
  ·obtain ⟨k1,k2⟩:=hr.keep k hk
   rw [hsame k (Array.getElem?_eq_some_iff.1 k2).1]; exact ⟨k1,k2⟩
 have hst : Stp φ' h' φ' { h with own:=h.own ++ h'.own }:=fun b => by rw [hget]; exact Stp.refl φ' h' b
 refine ⟨hold,⟨hold.size,hold.old,fun i => by rw [hget]; exact OR.step hst (fun _ => rfl) (hr'.obj i),fun i hi hh => ?_,fun i j hj hh1 hh2 hij => ?_,hold.keep,hold.nodup,hold.env⟩,hst⟩
 ·rw [hget] at hh
  by_cases hlt : i < h.size
  ·rw [hlow i hlt] at hh
   rw [hφ i hlt hh]
   exact hold.own i hi hh
  ·obtain ⟨a1,a2,a3⟩:=hr'.own i (by rw [hN]; omega) hh
   exact ⟨Nat.le_trans hr.size a1,a2,a3⟩
 ·rw [hget] at hh1 hh2
  by_cases hjl : j < h.size
  ·by_cases hil : i < h.size
   ·rw [hlow i hil] at hh1; rw [hlow j hjl] at hh2
    rw [hφ i hil hh1,hφ j hjl hh2]
    exact hr.sep i j hj hh1 hh2 hij
   ·exact fun e => hr'.sep j i (by rw [hN]; omega) hh2 hh1 (fun e => hij e.symm) e.symm
  ·exact hr'.sep i j (by rw [hN]; omega) hh1 hh2 hij

/-- A call of a function of the table. -/
theorem call_sim (hm : P.follows .mixedOrders = true) (hC : SimC (ckOf P) P r.call) (hK : SimK P m r.code) (hk : ∀ c s h e s' h',r.code c s h = some (e,s',h') → Keeps h h') {tbl : Nat → Option CFunc} (htbl : ∀ f cf,tbl f = some cf → funcOk P f cf = true)
  {g : Nat} {args : List AV} {h : Heap} {v : AV} {own : List AObj} {sh : Bool} (he : callBody tbl r g args h = some (v,own,sh)) : Enterable P g ∧
  ∀ w0 K φ w vals,HR (ckOf P) w0 K φ h w → VRs φ h args vals → CallsIn (fenceR none) 0 P g vals.toArray w (RetP (ckOf P) w0 K φ h v (mrg h own sh)):=by
 unfold callBody at he
 split at he
 ·rename_i cf hcf
  have hok:=htbl g cf hcf
  refine ⟨funcOk_enter hok,fun w0 K φ w vals hr hv => ?_⟩
  split at he
  ·split at he
   ·rename_i v' h' hf
    simp only [Option.some.injEq,Prod.mk.injEq] at he
    obtain ⟨rfl,rfl,rfl⟩:=he
    have hkp:=evFunc_keeps hk hf
    have hmr : mrg h h'.own true = h':=by
     obtain ⟨lo,N,own⟩:=h
     obtain ⟨lo',N',own'⟩:=h'
     simp only [Keeps] at hkp
     obtain ⟨rfl,rfl⟩:=hkp
     rfl
    rw [hmr]
    exact func_sim hm hC hK hok hf hr hv
   ·cases he
  ·simp only [forceN_eq] at he
   split at he
   ·rename_i v' h' hf
    simp only [Option.some.injEq,Prod.mk.injEq] at he
    obtain ⟨rfl,rfl,rfl⟩:=he
    obtain ⟨hr1,hs1⟩:=frame_hr hr
    have hkp:=evFunc_keeps hk hf
    refine CallsIn.mono (func_sim hm hC hK hok (h:=frameOf h) hf hr1 (VRs.step hs1 _ _ hv)) ?_
    rintro e w' ⟨φ',x,rfl,q1,q2,q3⟩
    obtain ⟨b1,b2,b3⟩:=frame_back hr q2 q3 hkp
    split
    ·rename_i hfl
     have hm0 : mrg h [] false = h:=by simp [mrg]
     rw [hm0]
     exact ⟨φ,x,rfl,VR.ofFlat _ _ hfl q1,b1,Stp.refl φ h⟩
    ·have hm0 : mrg h h'.own false = { h with own:=h.own ++ h'.own }:=by simp [mrg]
     rw [hm0]
     exact ⟨φ',x,rfl,VR.step b3 _ _ q1,b2,hs1.trans (q3.trans b3)⟩
   ·cases he
 ·cases he

/-- THE EVALUATOR IS SOUND. -/
theorem ev_sound (hm : P.follows .mixedOrders = true) {tbl : Nat → Option CFunc} (htbl : ∀ f cf,tbl f = some cf → funcOk P f cf = true) {intr : CallF}
  (hI : ∀ g args h v own sh,intr g args h = some (v,own,sh) → Enterable P g ∧ ∀ w0 K φ w vals,HR (ckOf P) w0 K φ h w → VRs φ h args vals → CallsIn (fenceR none) 0 P g vals.toArray w (RetP (ckOf P) w0 K φ h v (mrg h own sh))) :
  ∀ n,SimC (ckOf P) P (evW tbl intr n).call ∧ SimK P n (evW tbl intr n).code ∧ ∀ c s h e s' h',(evW tbl intr n).code c s h = some (e,s',h') → Keeps h h':=by
 intro n
 induction n with
 | zero =>
  refine ⟨⟨fun _ _ _ _ _ _ _ h => (by simp [evW] at h),fun _ _ _ _ _ _ h => (by simp [evW] at h)⟩,?_,fun _ _ _ _ _ _ h => (by simp [evW] at h)⟩
  intro _ _ _ _ _ _ _ _ _ _ _ h
  simp [evW] at h
 | succ n ih =>
  obtain ⟨hC,hK,hk⟩:=ih
  refine ⟨⟨?_,?_⟩,?_,?_⟩
  ·intro g args h v own sh hg he
   cases g with
   | zero => exact absurd rfl hg
   | succ g =>
    cases hi : intr (g + 1) args h with
    | some x =>
     have he' : (evW tbl intr (n + 1)).call (g + 1) args h = some x:=by
      show (match intr (g + 1) args h with | some x => some x | none => callBody tbl (evW tbl intr n) (g + 1) args h) = some x
      rw [hi]
     rw [he'] at he
     simp only [Option.some.injEq] at he
     subst he
     exact hI _ _ _ _ _ _ hi
    | none =>
     have he' : (evW tbl intr (n + 1)).call (g + 1) args h = callBody tbl (evW tbl intr n) (g + 1) args h:=by
      show (match intr (g + 1) args h with | some x => some x | none => callBody tbl (evW tbl intr n) (g + 1) args h) = _
      rw [hi]
     rw [he'] at he
     exact call_sim hm hC hK hk htbl he
  ·intro l args h v own sh he w0 K φ w vals hr hv
   simp only [evW,stepRec] at he
   split at he
   ·rename_i v' h' hround
    simp only [Option.some.injEq,Prod.mk.injEq] at he
    obtain ⟨rfl,rfl,rfl⟩:=he
    have hkp:=evRound_keeps hk hround
    have hmr : mrg h h'.own true = h':=by
     obtain ⟨lo,N,own⟩:=h
     obtain ⟨lo',N',own'⟩:=h'
     simp only [Keeps] at hkp
     obtain ⟨rfl,rfl⟩:=hkp
     rfl
    rw [hmr]
    exact round_sim hm hC hK hk hround hr hv
   ·cases he
  ·intro n' c live cc rg s h e s' h' hok he r w0 K φ w a hro hr hs hn Q hQ
   have he' : evCode (evW tbl intr n) (.loop live cc) s h = some (e,s',h'):=he
   simp only [evCode,forceT_eq] at he'
   rw [roundsIn_succ]
   cases hx : evCode (evW tbl intr n) cc (keep live s) h with
   | none => rw [hx] at he'; cases he'
   | some q =>
    obtain ⟨e1,s1,h1⟩:=q
    rw [hx] at he'
    refine evCode_sim hm hC hK cc n' _ rg (keep live s) h e1 s1 h1 hok hx r w0 K φ w a hro hr (keep_sr live hs) hn _ ?_
    intro φ1 a1 w1 K2 q1 q2 q3 q4 q5 q6
    cases e1 with
    | normal =>
     refine hK n' _ live cc rg s1 h1 e s' h' hok he' r w0 (K2 ++ K) φ1 w1 a1 hro q1 q2 (by omega) Q ?_
     intro φ2 a2 w2 K3 p1 p2 p3 p4 p5 p6
     exact hQ φ2 a2 w2 (K3 ++ K2) (by rw [List.append_assoc]; exact p1) p2 (q3.trans p3) (by rw [p4,q4,List.map_append,List.append_assoc]) (by omega) (fun e => by rw [p6 e,q6 e]; rfl)
    | exit id =>
     simp only [Option.some.injEq,Prod.mk.injEq] at he'
     obtain ⟨rfl,rfl,rfl⟩:=he'
     exact hQ φ1 a1 w1 K2 q1 q2 q3 q4 q5 q6
    | ret =>
     simp only [Option.some.injEq,Prod.mk.injEq] at he'
     obtain ⟨rfl,rfl,rfl⟩:=he'
     exact hQ φ1 a1 w1 K2 q1 q2 q3 q4 q5 q6
  ·intro c s h e s' h' he
   exact evCode_keeps hk c s h e s' h' he

end
end Go.AEv
