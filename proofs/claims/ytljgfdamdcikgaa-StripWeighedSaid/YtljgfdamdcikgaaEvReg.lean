/-
 Regions of the evaluator stand for the model's: in the text's order,and in whatever order a region draws.
-/
import Derived.Test.YtljgfdamdcikgaaEvRun
set_option linter.unusedVariables false
set_option linter.unusedSimpArgs false
namespace Go.AEv

def opsOk (P : Program) (n : Nat) (ops : Array Oper) : List Oper → List COper → Bool
 | [],[] => true
 | o :: os,c :: cs => operOk P n ops o c && opsOk P n ops os cs
 | _,_ => false

def plainE (e : Edge) : Bool:=Region.binds .any e

/-- An operation that neither reads nor writes memory,nor calls. -/
def COp.calm : COp → Bool
 | .move _ | .pick _ _ _ | .build _ _ | .nilCheck _ | .bin _ _ _ | .eqv _ _ _ _ | .eqa _ _ _ _ | .un _ _ | .conv _ _ | .same _ | .fieldAddr _ _ | .field _ _ _ | .idxArr _ _ _ _ | .idxSl _ _ _ | .idxVal _ _ _ _ _ | .idxStr _ _
 | .slSl _ _ _ _ | .slStr _ _ _ | .lenC _ | .minmax _ _ _ | .makeFunc _ _ | .extract _ _ | .iface _ _ | .runeStr _ | .fail => true
 | .len k _ => k != 2
 | _ => false

def getC (cs : List COper) (i : Nat) : COper:=cs.getD i default
def getA (anc : List (List Nat)) (i : Nat) : List Nat:=anc.getD i []

/-- The checks of a region that draws: 'anc' tells which operations come before each. -/
def drawOk (P : Program) (n : Nat) (ops : Array Oper) (cs : List COper) (pairs : List (Nat × Nat)) (anc : List (List Nat)) : Bool :=
 opsOk P n ops ops.toList cs && cs.all (·.op.holed) &&
 (List.range cs.length).all (fun i => match ops[i]? with
  | some o => o.after.toList.all (fun e => !plainE e || decide (e.on < i)) &&
    (getA anc i).all (fun x => o.after.toList.any (fun e => plainE e && (e.on == x || (getA anc e.on).contains x)))
  | none => false) &&
 (List.range cs.length).all (fun j => (List.range j).all (fun i => (getA anc j).contains i ||
  (slotsApart (getC cs i) (getC cs j) && (pairs.contains (i,j) || (getC cs i).op.calm || (getC cs j).op.calm))))

section
variable {CK : CKT} {P : Program} {w0 : World} {K : List Nat} {φ : Nat → Emb} {H H' : Heap} {w : World} {s s' : T} {call : CallF} {h0 : Heap} {a : Act} {n : Nat} {ops : Array Oper} {r : Option Nat} {fps : List FP}

theorem act_calm {c : COp} {v : AV} {fp : FP} (hc : c.calm = true) (h : act call h0 s H c = some (v,fp)) : fp = {}:=by
 cases c <;> simp only [COp.calm,Bool.false_eq_true] at hc <;> simp only [act] at h
 case len k x =>
  split at h
  ·exact (pure1_some h).2
  ·exact (pure1_some h).2
  ·exact (pure1_some h).2
  ·exact (pure1_some h).2
  ·exact (pure1_some h).2
  ·simp at hc
  ·cases h
 case fail => cases h
 all_goals exact (pure1_some h).2

theorem exec_calm {c : COper} {s1 : T} {h1 : Heap} {fp : FP} (hc : c.op.calm = true) (h : exec call h0 c s H = some (s1,h1,fp)) : fp = {}:=by
 rw [exec_eq] at h
 cases hw : wantedA c s with
 | none => rw [hw] at h; cases h
 | some t =>
  rw [hw] at h
  cases t with
  | false => simp only [Option.some.injEq,Prod.mk.injEq] at h; exact h.2.2.symm
  | true =>
   simp only [Option.bind_eq_some_iff,Option.map_eq_some_iff,Prod.mk.injEq] at h
   obtain ⟨⟨v,f⟩,e1,h',e2,rfl,rfl,rfl⟩:=h
   exact act_calm hc e1

/-- In a given order. -/
theorem ops_sim (hC : SimC CK P call) (cOf : Nat → COper) : ∀ (l : List Nat) {φ : Nat → Emb} {H : Heap} {w : World} {s : T} {a : Act} {fps : List FP} {s' : T} {H' : Heap},
  (∀ i ∈ l,∃ o,ops[i]? = some o ∧ operOk P n ops o (cOf i) = true) → HR CK w0 K φ H w → SR φ H s a.tmps → n ≤ a.tmps.size → runL call h0 (l.map cOf) s H = some (s',H',fps) →
  ∀ {Q : Exit → Act → World → Prop},(∀ φ' a' w',HR CK w0 K φ' H' w' → SR φ' H' s' a'.tmps → Stp φ H φ' H' → a'.defers = a.defers → a'.tmps.size = a.tmps.size → Q .normal a' w') →
  wpOpsIn (fenceR r) 0 P ops Q l a w
 | [],φ,H,w,s,a,fps,s',H',hok,hr,hs,hn,he,Q,hQ => by
  simp only [List.map_nil,runL,Option.some.injEq,Prod.mk.injEq] at he
  obtain ⟨rfl,rfl,rfl⟩:=he
  exact hQ φ a w hr hs (Stp.refl φ H) rfl rfl
 | i :: l,φ,H,w,s,a,fps,s',H',hok,hr,hs,hn,he,Q,hQ => by
  simp only [List.map_cons,runL,Option.bind_eq_some_iff,Option.map_eq_some_iff,Prod.mk.injEq] at he
  obtain ⟨⟨s1,h1,f1⟩,e1,⟨s2,h2,f2⟩,e2,rfl,rfl,rfl⟩:=he
  obtain ⟨o,ho,hok1⟩:=hok i (by simp)
  rw [wpOpsIn_cons]
  unfold wpOpIn
  rw [ho]
  exact exec_sim hC hr hs hn hok1 e1 (fun φ1 a1 w1 q1 q2 q3 q4 q5 => ops_sim hC cOf l (fun j hj => hok j (by simp [hj])) q1 q2 (by omega) e2
   (fun φ' a' w' p1 p2 p3 p4 p5 => hQ φ' a' w' p1 p2 (q3.trans p3) (p4.trans q4) (p5.trans q5)))

theorem opsOk_get : ∀ {os : List Oper} {cs : List COper},opsOk P n ops os cs = true → os.length = cs.length ∧ ∀ (i : Nat) o,os[i]? = some o → operOk P n ops o (getC cs i) = true
 | [],[],_ => ⟨rfl,by simp⟩
 | o :: os,c :: cs,h => by
  simp only [opsOk,Bool.and_eq_true] at h
  obtain ⟨h1,h2⟩:=opsOk_get h.2
  refine ⟨by simp [h1],fun i q hq => ?_⟩
  cases i with
  | zero => simp at hq; subst hq; exact h.1
  | succ i => simp at hq; exact h2 i q hq
 | [],_ :: _,h => by simp [opsOk] at h
 | _ :: _,[],h => by simp [opsOk] at h

theorem map_getC (cs : List COper) : (List.range cs.length).map (getC cs) = cs:=by
 apply List.ext_getElem?
 intro i
 by_cases hi : i < cs.length
 ·simp [hi,getC]
 ·simp [hi]

/-- A region in the text's order. -/
theorem region_sim (hC : SimC CK P call) {id : Nat} {cs : List COper} (hok : opsOk P n ops ops.toList cs = true) (hr : HR CK w0 K φ H w) (hs : SR φ H s a.tmps) (hn : n ≤ a.tmps.size) (he : runL call h0 cs s H = some (s',H',fps))
  {Q : Exit → Act → World → Prop} (hQ : ∀ φ' a' w',HR CK w0 K φ' H' w' → SR φ' H' s' a'.tmps → Stp φ H φ' H' → a'.defers = a.defers → a'.tmps.size = a.tmps.size → Q .normal a' w') :
  (Code.region id ops false).wpIn (fenceR r) 0 P Q a w:=by
 obtain ⟨h1,h2⟩:=opsOk_get hok
 refine wpIn_region (ops_sim (h0:=h0) (fps:=fps) hC (getC cs) _ (fun i hi => ?_) hr hs hn ?_ hQ)
 ·have hlt : i < ops.size:=by simpa using hi
  exact ⟨ops[i],by simp [hlt],h2 i _ (by simp [hlt])⟩
 ·have : ops.size = cs.length:=by simpa using h1
  rw [this,map_getC]; exact he

theorem fps_length : ∀ {cs : List COper} {s : T} {H : Heap} {fps : List FP} {s' : T} {H' : Heap},runL call h0 cs s H = some (s',H',fps) → fps.length = cs.length
 | [],s,H,fps,s',H',h => by simp only [runL,Option.some.injEq,Prod.mk.injEq] at h; simp [← h.2.2]
 | c :: cs,s,H,fps,s',H',h => by
  simp only [runL,Option.bind_eq_some_iff,Option.map_eq_some_iff,Prod.mk.injEq] at h
  obtain ⟨⟨s1,h1,f1⟩,e1,⟨s2,h2,f2⟩,e2,rfl,rfl,rfl⟩:=h
  simp [fps_length e2]

theorem fps_calm : ∀ {cs : List COper} {s : T} {H : Heap} {fps : List FP} {s' : T} {H' : Heap},runL call h0 cs s H = some (s',H',fps) → ∀ i,i < cs.length → (getC cs i).op.calm = true → fps.getD i {} = {}
 | [],s,H,fps,s',H',h,i,hi,_ => by simp at hi
 | c :: cs,s,H,fps,s',H',h,i,hi,hc => by
  simp only [runL,Option.bind_eq_some_iff,Option.map_eq_some_iff,Prod.mk.injEq] at h
  obtain ⟨⟨s1,h1,f1⟩,e1,⟨s2,h2,f2⟩,e2,rfl,rfl,rfl⟩:=h
  cases i with
  | zero => simpa using exec_calm (by simpa [getC] using hc) e1
  | succ i =>
   have:=fps_calm e2 i (by simpa using hi) (by simpa [getC] using hc)
   simpa using this

theorem range_split {L : List Nat} {i : Nat} (hp : L.Pairwise (· < ·)) (hi : i ∈ L) : ∃ l1 l2,L = l1 ++ i :: l2 ∧ (∀ x ∈ l1,x < i):=by
 obtain ⟨l1,l2,rfl⟩:=List.append_of_mem hi
 refine ⟨l1,l2,rfl,fun x hx => ?_⟩
 rw [List.pairwise_append] at hp
 exact hp.2.2 x hx i (by simp)

/-- IN WHATEVER ORDER. -/
theorem any_sim (hC : SimC CK P call) {cs : List COper} {pairs : List (Nat × Nat)} {anc : List (List Nat)} (hok : drawOk P n ops cs pairs anc = true) (fpOf : Nat → FP)
  (hpairs : ∀ i j,i < j → j < cs.length → (pairs.contains (i,j) = true → okPair h0.size (fpOf i) (fpOf j) = true)) (hcalm : ∀ i,i < cs.length → (getC cs i).op.calm = true → fpOf i = {}) (hall : ∀ i,(fpOf i).eff.isAll = false ∨ ∀ j,i ≤ j → j < cs.length → ∀ k,k < j → k ∈ getA anc j)
  {Q : Exit → Act → World → Prop} : ∀ (fuel : Nat) (listed : Array Bool) (L : List Nat) {φ : Nat → Emb} {H : Heap} {w : World} {s : T} {a : Act},
  listed.size = ops.size → L.Pairwise (· < ·) → (∀ i,i ∈ L ↔ i < ops.size ∧ listed.getD i true = false) → (∀ j,j < ops.size → listed.getD j true = true → ∀ x ∈ getA anc j,listed.getD x true = true) → L.length ≤ fuel →
  HR CK w0 K φ H w → SR φ H s a.tmps → n ≤ a.tmps.size → (h0.size ≤ H.size ∨ ∀ j ∈ L,∀ k,k < j → k ∈ getA anc j) → runL call h0 (L.map (getC cs)) s H = some (s',H',L.map fpOf) →
  (∀ φ' a' w',HR CK w0 K φ' H' w' → SR φ' H' s' a'.tmps → Stp φ H φ' H' → a'.defers = a.defers → a'.tmps.size = a.tmps.size → Q .normal a' w') →
  wpAnyIn (fenceR r) 0 P .any ops Q fuel listed a w:=by
 simp only [drawOk,Bool.and_eq_true,List.all_eq_true] at hok
 obtain ⟨⟨⟨hops,hholed⟩,hedges⟩,happ⟩:=hok
 obtain ⟨hlen,hoper⟩:=opsOk_get hops
 have hlen : ops.size = cs.length:=by simpa using hlen
 have hholed' : ∀ i,i < cs.length → (getC cs i).op.holed = true:=fun i hi => hholed _ (by simp [getC,hi])
 -- where nothing is left,it is done; where something is,something may come up
 have empty : ∀ (listed : Array Bool) (L : List Nat),listed.size = ops.size → (∀ i,i ∈ L ↔ i < ops.size ∧ listed.getD i true = false) → L.Pairwise (· < ·) → Region.ready .any ops listed = [] → L = []:=by
  intro listed L hsz hL hp hready
  cases L with
  | nil => rfl
  | cons i L =>
   exfalso
   obtain ⟨hi,hli⟩:=(hL i).1 (by simp)
   have hmin : ∀ x,x ∈ L → i < x:=fun x hx => (List.pairwise_cons.1 hp).1 x hx
   have hed:=hedges i (by simp; omega)
   have hoi : ops[i]? = some ops[i]:=by simp [hi]
   rw [hoi] at hed
   simp only [Bool.and_eq_true,List.all_eq_true,Bool.or_eq_true,Bool.not_eq_true',decide_eq_true_eq] at hed
   have : i ∈ Region.ready .any ops listed:=by
    unfold Region.ready
    rw [List.mem_filter]
    refine ⟨by simpa using hi,?_⟩
    simp only [hli,Bool.not_false,Bool.true_and,hoi,Option.map_some,Option.getD_some,Array.all_eq_true_iff_forall_mem]
    intro e he
    rcases hed.1 e (by simpa using he) with h | h
    ·simp only [plainE] at h; simp [h]
    ·cases hq : listed.getD e.on true with
     | true =>
      have : listed.getD e.on false = true:=by
       rw [Array.getD_eq_getD_getElem?] at hq ⊢
       have hlt : e.on < listed.size:=by rw [hsz]; omega
       simp [hlt] at hq ⊢; exact hq
      simp [this]
     | false =>
      have hm:=(hL e.on).2 ⟨by omega,hq⟩
      rcases List.mem_cons.1 hm with h' | h'
      ·omega
      ·have:=hmin _ h'; omega
   rw [hready] at this
   cases this
 -- what may come up has all of its forerunners behind it
 have behind : ∀ (listed : Array Bool),(∀ j,j < ops.size → listed.getD j true = true → ∀ x ∈ getA anc j,listed.getD x true = true) → ∀ i,i < ops.size → i ∈ Region.ready .any ops listed → listed.getD i true = false ∧ ∀ x ∈ getA anc i,listed.getD x true = true:=by
  intro listed hcl i hi hir
  unfold Region.ready at hir
  rw [List.mem_filter] at hir
  have hoi : ops[i]? = some ops[i]:=by simp [hi]
  have hed:=hedges i (by simp; omega)
  rw [hoi] at hed
  simp only [Bool.and_eq_true,List.all_eq_true,List.any_eq_true,Bool.or_eq_true,beq_iff_eq,List.contains_iff_mem] at hed
  have hir2:=hir.2
  simp only [hoi,Option.map_some,Option.getD_some,Bool.and_eq_true,Bool.not_eq_true',Array.all_eq_true_iff_forall_mem] at hir2
  refine ⟨hir2.1,fun x hx => ?_⟩
  obtain ⟨e,he,hp,hxe⟩:=hed.2 x hx
  have hl:=hir2.2 e (by simpa using he)
  have hp' : Region.binds .any e = true:=hp
  rw [hp'] at hl
  simp only [Bool.not_true,Bool.false_or] at hl
  have hlt : e.on < listed.size:=by
   by_cases hlt : e.on < listed.size
   ·exact hlt
   ·rw [Array.getD_eq_getD_getElem?,Array.getElem?_eq_none (by omega)] at hl; cases hl
  have hl' : listed.getD e.on true = true:=by
   rw [Array.getD_eq_getD_getElem?] at hl ⊢
   simp [hlt] at hl ⊢; exact hl
  rcases hxe with rfl | hxe
  ·exact hl'
  ·rcases hed.1 e he with h | h
   ·rw [hp] at h; cases h
   ·have h' : e.on < i:=by simpa using h
    exact hcl e.on (by omega) hl' x hxe
 intro fuel
 induction fuel with
 | zero =>
  intro listed L φ H w s a hsz hp hL hcl hlen0 hr hs hn h0le he hQ
  have hLn : L = []:=by cases L with | nil => rfl | cons _ _ => simp at hlen0
  subst hLn
  simp only [List.map_nil,runL,Option.some.injEq,Prod.mk.injEq] at he
  obtain ⟨rfl,rfl,_⟩:=he
  refine ⟨?_,hQ φ a w hr hs (Stp.refl φ H) rfl rfl⟩
  unfold Region.ready
  rw [List.filter_eq_nil_iff]
  intro i hi hh
  simp only [Bool.and_eq_true,Bool.not_eq_true'] at hh
  have:=(hL i).2 ⟨by simpa using hi,hh.1⟩
  cases this
 | succ fuel ih =>
  intro listed L φ H w s a hsz hp hL hcl hlen0 hr hs hn h0le he hQ
  refine ⟨fun hready => ?_,fun i hir => ?_⟩
  ·have hLn:=empty listed L hsz hL hp hready
   subst hLn
   simp only [List.map_nil,runL,Option.some.injEq,Prod.mk.injEq] at he
   obtain ⟨rfl,rfl,_⟩:=he
   exact hQ φ a w hr hs (Stp.refl φ H) rfl rfl
  ·have hi : i < ops.size:=by
    unfold Region.ready at hir
    rw [List.mem_filter] at hir
    simpa using hir.1
   obtain ⟨hli,hanc⟩:=behind listed hcl i hi hir
   have hiL : i ∈ L:=(hL i).2 ⟨hi,hli⟩
   obtain ⟨l1,l2,rfl,hl1⟩:=range_split hp hiL
   have hap : ∀ x ∈ l1,slotsApart (getC cs x) (getC cs i) = true ∧ okPair h0.size (fpOf x) (fpOf i) = true:=by
    intro x hx
    have hxi:=hl1 x hx
    have hxL:=(hL x).1 (by simp [hx])
    have hna : x ∉ getA anc i:=fun h => by have:=hanc x h; rw [hxL.2] at this; cases this
    have:=happ i (by simp; omega) x (by simpa using hxi)
    simp only [Bool.or_eq_true,Bool.and_eq_true,List.contains_iff_mem] at this
    rcases this with h | ⟨h1,h2⟩
    ·exact absurd h hna
    ·refine ⟨h1,?_⟩
     rcases h2 with (h2 | h2) | h2
     ·exact hpairs x i hxi (by omega) (by simpa using h2)
     ·rw [hcalm x (by omega) h2]; exact okPair_empty_left _ _
     ·rw [hcalm i (by omega) h2]; exact okPair_empty_right _ _
   have hmem1 : ∀ a ∈ l1.map (getC cs),∃ x ∈ l1,getC cs x = a:=by simp
   rw [List.map_append,List.map_cons,List.map_append,List.map_cons] at he
   have hbub : ∃ s1 h1 fb fps',exec call h0 (getC cs i) s H = some (s1,h1,fb) ∧ runL call h0 (l1.map (getC cs) ++ l2.map (getC cs)) s1 h1 = some (s',H',fps') ∧ fb = (l1.map fpOf ++ fpOf i :: l2.map fpOf).getD (l1.map (getC cs)).length {} ∧ fps' = (l1.map fpOf ++ fpOf i :: l2.map fpOf).take (l1.map (getC cs)).length ++ (l1.map fpOf ++ fpOf i :: l2.map fpOf).drop ((l1.map (getC cs)).length + 1):=by
    rcases h0le with h0le | hch
    ·exact bubble (l1.map (getC cs)) he (hholed' i (by omega)) (fun a ha => by
      obtain ⟨x,hx,rfl⟩:=hmem1 a ha
      exact hholed' x (by have:=((hL x).1 (by simp [hx])).1; omega))
      (fun a ha => by obtain ⟨x,hx,rfl⟩:=hmem1 a ha; exact (hap x hx).1) h0le
      (fun k hk => by
       have hk' : k < l1.length:=by simpa using hk
       have g1 : (l1.map fpOf ++ fpOf i :: l2.map fpOf).getD k {} = fpOf l1[k]:=by simp [List.getElem?_append,hk']
       have g2 : (l1.map fpOf ++ fpOf i :: l2.map fpOf).getD (l1.map (getC cs)).length {} = fpOf i:=by simp
       rw [g1,g2]
       exact (hap _ (List.getElem_mem hk')).2)
      (fun f hf => by
       rw [List.take_append_of_le_length (by simp)] at hf
       have:=List.mem_of_mem_take hf
       simp only [List.mem_map] at this
       obtain ⟨x,hx,rfl⟩:=this
       rcases hall x with h | h
       ·exact h
       ·have hxL:=(hL x).1 (by simp [hx])
        have:=hanc x (h i (Nat.le_of_lt (hl1 x hx)) (by omega) x (hl1 x hx))
        rw [hxL.2] at this; cases this)
    ·have hl0 : l1 = []:=by
      cases l1 with
      | nil => rfl
      | cons x l1 =>
       exfalso
       have hxL:=(hL x).1 (by simp)
       have:=hanc x (hch i (by simp) x (hl1 x (by simp)))
       rw [hxL.2] at this; cases this
     subst hl0
     exact bubble0 he
   obtain ⟨s1,h1,fb,fps',e1,e2,e3,e4⟩:=hbub
   have g2 : (l1.map fpOf ++ fpOf i :: l2.map fpOf).getD (l1.map (getC cs)).length {} = fpOf i:=by simp
   rw [g2] at e3
   have g3 : fps' = (l1 ++ l2).map fpOf:=by
    rw [e4,List.map_append]
    congr 1
    ·rw [List.take_append_of_le_length (by simp)]; simp [List.take_of_length_le]
    ·simp [List.drop_append]
   rw [g3,← List.map_append] at e2
   subst e3
   have hoi : ops[i]? = some ops[i]:=by simp [hi]
   have hok1:=hoper i ops[i] (by simp [hi])
   unfold wpOpIn
   rw [hoi]
   refine exec_sim hC hr hs hn hok1 e1 (fun φ1 a1 w1 q1 q2 q3 q4 q5 => ?_)
   have hp':=List.pairwise_append.1 hp
   have hp2:=List.pairwise_cons.1 hp'.2.1
   have hnxt : h0.size ≤ h1.size ∨ ∀ j ∈ l1 ++ l2,∀ k,k < j → k ∈ getA anc j:=by
    rcases h0le with h0le | hch
    ·rcases hall i with h | h
     ·exact .inl (Nat.le_trans h0le (exec_size e1 h).1)
     ·right
      intro j hj k hk
      have hjL:=(hL j).1 (by rcases List.mem_append.1 hj with h' | h' <;> simp [h'])
      rcases List.mem_append.1 hj with h' | h'
      ·have:=hanc j (h i (Nat.le_refl _) (by omega) j (hl1 j h'))
       rw [hjL.2] at this; cases this
      ·exact h j (Nat.le_of_lt (hp2.1 j h')) (by omega) k hk
    ·exact .inr fun j hj k hk => hch j (by rcases List.mem_append.1 hj with h' | h' <;> simp [h']) k hk
   have hmem : ∀ x,x ∈ l1 ++ l2 ↔ x ∈ l1 ++ i :: l2 ∧ x ≠ i:=by
    intro x
    simp only [List.mem_append,List.mem_cons]
    constructor
    ·rintro (h | h)
     ·exact ⟨.inl h,by have:=hl1 x h; omega⟩
     ·exact ⟨.inr (.inr h),by have:=hp2.1 x h; omega⟩
    ·rintro ⟨h | h | h,hne⟩
     ·exact .inl h
     ·exact absurd h hne
     ·exact .inr h
   have hset : ∀ x,(listed.setIfInBounds i true).getD x true = if x = i then true else listed.getD x true:=by
    intro x
    rw [Array.getD_eq_getD_getElem?,Array.getElem?_setIfInBounds,Array.getD_eq_getD_getElem?]
    by_cases hx : i = x
    ·subst hx; simp only [if_true]; split <;> simp
    ·have : ¬ x = i:=fun h => hx h.symm
     simp [hx,this]
   refine ih _ (l1 ++ l2) (by simp [hsz]) ?_ ?_ ?_ ?_ q1 q2 (by omega) hnxt e2 (fun φ' a' w' p1 p2 p3 p4 p5 => hQ φ' a' w' p1 p2 (q3.trans p3) (p4.trans q4) (p5.trans q5))
   ·rw [List.pairwise_append]
    exact ⟨hp'.1,hp2.2,fun x hx y hy => hp'.2.2 x hx y (by simp [hy])⟩
   ·intro x
    rw [hmem,hL,hset]
    by_cases hx : x = i
    ·simp [hx]
    ·simp [hx]
   ·intro j hj hlj x hx
    rw [hset] at hlj ⊢
    split
    ·rfl
    ·by_cases hji : j = i
     ·subst hji; exact hanc x hx
     ·simp only [hji,if_false] at hlj
      exact hcl j hj hlj x hx
   ·simp only [List.length_append,List.length_cons] at hlen0 ⊢; omega

def noAll (fps : List FP) : Bool:=fps.all (fun f => !f.eff.isAll)

/-- A REGION THAT DRAWS,with 'k' holes ahead of it. -/
theorem draw_sim (hm : P.follows .mixedOrders = true) (hC : SimC CK P call) {id : Nat} {cs : List COper} {k : Nat} {pairs : List (Nat × Nat)} {anc : List (List Nat)} (hok : drawOk P n ops cs pairs anc = true)
  (hr : HR CK w0 K φ h0 w) (hs : SR φ h0 s a.tmps) (hn : n ≤ a.tmps.size) (he : runL call h0 cs s { h0 with own:=h0.own ++ List.replicate k .hole } = some (s',H',fps))
  (hpairs : pairs.all (fun p => okPair h0.size (fps.getD p.1 {}) (fps.getD p.2 {})) = true) (hall : (fps.all (fun f => !f.eff.isAll) || bars anc fps) = true)
  {Q : Exit → Act → World → Prop} (hQ : ∀ φ' a' w',HR CK w0 K φ' H' w' → SR φ' H' s' a'.tmps → Stp φ h0 φ' H' → a'.defers = a.defers → a'.tmps.size = a.tmps.size → Q .normal a' w') :
  (Code.region id ops true).wpIn (fenceR r) 0 P Q a w:=by
 have hr1:=HR.ofHeap hr (w':={ w with drawn:=w.drawn + 1 }) rfl
 obtain ⟨hr2,hst⟩:=HR.ofGet (H':={ h0 with own:=h0.own ++ List.replicate k .hole }) hr1 (fun i => by
  unfold Heap.get
  split
  ·rfl
  ·show (h0.own ++ List.replicate k AObj.hole).getD (i - h0.N) AObj.hole = h0.own.getD (i - h0.N) AObj.hole
   rw [List.getD_eq_getElem?_getD,List.getD_eq_getElem?_getD,List.getElem?_append]
   split
   ·rfl
   ·rename_i h1 h2
    rw [List.getElem?_eq_none (by omega : h0.own.length ≤ i - h0.N),List.getElem?_replicate]
    split <;> rfl) rfl
 have hlen : ops.size = cs.length:=by
  have:=hok
  simp only [drawOk,Bool.and_eq_true] at this
  simpa using (opsOk_get this.1.1.1).1
 have hfl:=fps_length he
 have hmapF : (List.range cs.length).map (fun i => fps.getD i {}) = fps:=by
  apply List.ext_getElem?
  intro i
  by_cases hi : i < cs.length
  ·simp [hi,hfl]
  ·simp [hi,hfl]
 refine wpIn_region_any hm (any_sim (h0:=h0) (H':=H') (s':=s') hC hok (fun i => fps.getD i {}) ?_ ?_ ?_ ops.size (Array.replicate ops.size false) (List.range cs.length) (by simp) List.pairwise_lt_range ?_ ?_ (by simp [hlen]) hr2 (SR.step hst hs) hn ?_ ?_ ?_)
 ·intro i j hij hj hp
  rw [List.all_eq_true] at hpairs
  exact hpairs (i,j) (by simpa using hp)
 ·intro i hi hc
  exact fps_calm he i hi hc
 ·intro i
  rw [Bool.or_eq_true] at hall
  by_cases hi : i < fps.length
  ·rcases hall with hall | hall
   ·rw [List.all_eq_true] at hall
    have:=hall fps[i] (List.getElem_mem hi)
    left
    simpa [hi] using this
   ·unfold bars at hall
    rw [List.all_eq_true] at hall
    have h1:=hall i (by simpa using hi)
    simp only [Bool.or_eq_true,Bool.not_eq_true',List.all_eq_true,decide_eq_true_eq,List.contains_iff_mem,List.mem_range] at h1
    rcases h1 with h1 | h1
    ·exact .inl h1
    ·right
     intro j hij hj k hk
     rcases h1 j (by omega) with h2 | h2
     ·omega
     ·exact h2 k hk
  ·left
   simp [List.getD_eq_getElem?_getD,List.getElem?_eq_none (by omega : fps.length ≤ i)]; rfl
 ·intro i
  rw [Array.getD_eq_getD_getElem?,Array.getElem?_replicate]
  by_cases hi : i < ops.size
  ·simp [hi,← hlen]
  ·simp [hi,← hlen]
 ·intro j hj hl
  rw [Array.getD_eq_getD_getElem?,Array.getElem?_replicate] at hl
  simp [hj] at hl
 ·left; simp [Heap.size]
 ·rw [map_getC,hmapF]; exact he
 ·intro φ' a' w' p1 p2 p3 p4 p5
  exact hQ φ' a' w' p1 p2 (hst.trans p3) p4 p5

end
end Go.AEv
