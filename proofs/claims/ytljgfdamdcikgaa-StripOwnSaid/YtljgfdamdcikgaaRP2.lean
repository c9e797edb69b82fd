/-
 Of the functions that this law reaches,part 2: what they answer. No condition.
-/
import Derived.Test.YtljgfdamdcikgaaRP1
set_option linter.unusedVariables false
set_option linter.unusedSimpArgs false
namespace Go.Proofs.Ytljgfdamdcikgaa.Ev
open Go Go.AEv
attribute [local simp] evFunc initS evOps_c evTrim_c evSkip_c evExit_c evRet_c evSeq_c evCond_c evBlock_c evDraw_c runOps_n runOps_c exec_n exec_g pure1_c act AOpd.ev T.get T.set T.put evBin evUn forceT_eq forceV_eq forceL_eq evRess evRes one keep runFP_n runFP_c app_none AV.flats AV.flat came_some List.getElem?_cons_zero List.getElem?_cons_succ beqT wrapI idxI tdivI tmodI decT decF ibT ibF inT inF evScope_c if_pos if_neg Cm_some thenW_n thenW_e thenW_r blkW_n blkW_e blkW_r goI kn putAt AV.cells fillA loadA takeA mk Eff.isAll Eff.isNone Eff.commutes Eff.spares okPair apart eqAgg fits LK.fits allEq aveq eqk mmA
def mdZ (x n : Int) : Int:=(x % 18446744073709551616) % n
theorem mdZ_bd (x : Int) {n : Int} (h : 0 < n) : 0 ≤ mdZ x n ∧ mdZ x n < n:=⟨Int.emod_nonneg _ (by omega),Int.emod_lt_of_pos _ h⟩
def spec19 : SpecV
 | [.int .i64 x,.int .i64 n] => if 0 < n ∧ n < 9223372036854775808 then some (G (mdZ x n)) else none
 | _ => none
theorem wrap_u64 (n : Int) : IntKind.u64.wrap n = n % 18446744073709551616:=by
 unfold IntKind.wrap IntKind.bits IntKind.signed
 simp
theorem c19_ok (J : CallF) (hJ : ∀ a h,J 19 a h = none) (x n : Int) (h1 : 0 < n) (h2 : n < 9223372036854775808) : CallsTo tbl J 19 [G x,G n] e0 (G (mdZ x n),[],false):=by
 unfold mdZ
 refine CallsTo.plain (cf:=c19) (h':=frameOf e0) (by decide) rfl (hJ _ _) rfl rfl ?_
 have w : n % 18446744073709551616 = n:=Int.emod_eq_of_lt (by omega) (by omega)
 have hz : ¬ n = 0:=by omega
 have hm : (x % 18446744073709551616).tmod n = (x % 18446744073709551616) % n:=Int.tmod_eq_emod_of_nonneg (Int.emod_nonneg _ (by decide))
 have a1:=Int.emod_nonneg (x % 18446744073709551616) hz
 have a2:=Int.emod_lt_of_pos (x % 18446744073709551616) h1
 simp [c19,c19_o0,c19_o1,wrap_u64,w,hz,hm,wrapI ((x % 18446744073709551616) % n) (by omega) (by omega)]
noncomputable def T47 : CallF:=addV T46 19 spec19
theorem t47 : Sound Go.Proofs.Try.prog T47:=Sound.addV follows ok t46 (by decide) (fun args v h => by
 unfold spec19 at h
 split at h
 ·split at h
  ·rename_i hn
   simp only [Option.some.injEq] at h; subst h
   exact c19_ok T46 (fun _ _ => by simp (disch:=decide) only [T1,T2,T3,T4,T5,T6,T7,T8,T9,T10,T11,T12,T13,T14,T15,T16,T17,T18,T19,T20,T21,T22,T23,T24,T25,T26,T27,T28,T29,T30,T31,T32,T33,T34,T35,T36,T37,T38,T39,T40,T41,T42,T43,T44,T45,T46,addI_ne,addX_ne,addV_ne,addK_ne]; rfl) _ _ hn.1 hn.2
  ·cases h
 ·cases h)
abbrev K19 (J : CallF) : Prop:=∀ (x n : Int) (h : Heap),0 < n → n < 9223372036854775808 → J 19 [G x,G n] h = some (G (mdZ x n),[],false)
theorem k19 : K19 T47:=fun x n h h1 h2 => by simp [T47,addV,spec19,h1,h2]
def btZ (a : Int) : Int:=((BitVec.ofInt 64 a &&& BitVec.ofInt 64 1).toNat : Int)
theorem btZ_bd (a : Int) : 0 ≤ btZ a ∧ btZ a ≤ 1:=by
 unfold btZ
 rw [BitVec.toNat_and]
 have e : (BitVec.ofInt 64 1).toNat = 1:=rfl
 rw [e,Nat.and_one_is_mod]
 omega
theorem c56_ok (J : CallF) (hJ : ∀ a h,J 56 a h = none) (h : Heap) {x : AV} {M : List (List Int)} (mr : MR h x M) {i k : Nat} (hi : i ≤ 1000) (hk : k ≤ 1000) : ∃ v own,CallsTo tbl J 56 [x,G i,G k] h (v,own,false) ∧ (∃ b : Int,v = G b ∧ 0 ≤ b ∧ b ≤ 1) ∧ own = []:=by
 refine Tr.fny (Good:=fun v own => (∃ b : Int,v = G b ∧ 0 ≤ b ∧ b ≤ 1) ∧ own = []) (cf:=c56) (e:=.ret) (s:=T.set (T.set (T.set .leaf [] x) [false] (G i)) [true] (G k)) (by decide) rfl (hJ _ _) rfl rfl (by simp) ?_
 refine Tr.post (Q:=fun s h => ∃ b : Int,s.get [true,true] = G b ∧ 0 ≤ b ∧ b ≤ 1) (fun s h' q => by
  obtain ⟨b,e,q1,q2⟩:=q
  exact ⟨[G b],by simp [c56,evRess,evRes,e],⟨b,rfl,q1,q2⟩,rfl⟩) ?_
 have mf : MR (frameOf h) x M:=mr.lo []
 by_cases c : i < M.length
 ·obtain ⟨b,v,cs,r,rfl,g,e,lr⟩:=mf.row c
  have e':=getI e
  have hcs : i < cs.length:=(List.getElem?_eq_some_iff.1 e).1
  rcases lr.cases with ⟨rfl,_⟩ | ⟨rfl,_⟩ | ⟨rb,rv,rfl,gr⟩
  ·clear mf mr
   generalize M.length = n at *
   refine Tr.w fun s1 H1 hp _ kR => ?_
   obtain ⟨rfl,rfl⟩:=hp
   have q : True:=trivial
   refine zCh ?_
   simp (disch:=first|omega|exact zE rfl|exact zO|exact zL rfl) [c56_o0,zG,q]
   refine W.assoc ?_
   refine zCh ?_
   simp (disch:=first|omega|exact zE rfl|exact zO|exact zL rfl) [c56_o1,zG,q,g,e,e']
   refine zCh ?_
   simp (disch:=first|omega|exact zE rfl|exact zO|exact zL rfl) [c56_o2,zG,q]
   refine zCh ?_
   simp (disch:=first|omega|exact zE rfl|exact zO|exact zL rfl) [c56_o3,zG,q]
   refine W.ret ?_
   try simp only [zW,if_true]
   exact kR _ _ ⟨1,by simp [T.get],by omega,by omega⟩
  ·clear mf mr
   generalize M.length = n at *
   refine Tr.w fun s1 H1 hp _ kR => ?_
   obtain ⟨rfl,rfl⟩:=hp
   have q : True:=trivial
   refine zCh ?_
   simp (disch:=first|omega|exact zE rfl|exact zO|exact zL rfl) [c56_o0,zG,q]
   refine W.assoc ?_
   refine zCh ?_
   simp (disch:=first|omega|exact zE rfl|exact zO|exact zL rfl) [c56_o1,zG,q,g,e,e']
   refine zCh ?_
   simp (disch:=first|omega|exact zE rfl|exact zO|exact zL rfl) [c56_o2,zG,q]
   refine zCh ?_
   simp (disch:=first|omega|exact zE rfl|exact zO|exact zL rfl) [c56_o3,zG,q]
   refine W.ret ?_
   try simp only [zW,if_true]
   exact kR _ _ ⟨1,by simp [T.get],by omega,by omega⟩
  ·obtain ⟨A,hA⟩ : ∃ A,M.getD i [] = A:=⟨_,rfl⟩
   rw [hA] at e e' gr lr
   have lg : (gs A).length = A.length:=by simp
   have gr : (frameOf h).get rb = .cells 1 rv (gs A):=gr
   clear mf mr hA lr
   by_cases d : k < A.length
   ·have ek : (gs A)[k]? = some (G (A.getD k 0)):=by
     rw [List.getElem?_map,List.getD_eq_getElem?_getD,List.getElem?_eq_getElem d]; rfl
    have ek':=getI ek
    have bd:=btZ_bd (A.getD k 0)
    have hbt : IntKind.i64.wrap ((BitVec.ofInt IntKind.i64.bits (A.getD k 0) &&& BitVec.ofInt IntKind.i64.bits 1).toNat : Int) = btZ (A.getD k 0):=wrapI (btZ (A.getD k 0)) (by omega) (by omega)
    have hb : evBin .and (G (A.getD k 0)) (G 1) = some (G (btZ (A.getD k 0))):=by
     show some (AV.int .i64 (IntKind.i64.wrap ((BitVec.ofInt IntKind.i64.bits (A.getD k 0) &&& BitVec.ofInt IntKind.i64.bits 1).toNat : Int))) = _
     rw [hbt]
    clear hbt
    generalize btZ (A.getD k 0) = bt at *
    generalize A.getD k 0 = z at *
    generalize gs A = cA at *
    generalize A.length = l at *
    generalize M.length = n at *
    refine Tr.w fun s1 H1 hp _ kR => ?_
    obtain ⟨rfl,rfl⟩:=hp
    have q : True:=trivial
    refine zCh ?_
    simp (disch:=first|omega|exact zE rfl|exact zO|exact zL rfl) [c56_o0,zG,q]
    refine W.assoc ?_
    refine zCh ?_
    simp (disch:=first|omega|exact zE rfl|exact zO|exact zL rfl) [c56_o1,zG,q,g,e,e']
    refine W.seq (W.cond (v:=true) (by simp (disch:=first|omega|exact zE rfl|exact zO|exact zL rfl) [zG,q]) ?_)
    simp only [if_true,if_false,Bool.false_eq_true]
    refine zCh ?_
    simp (disch:=first|omega|exact zE rfl|exact zO|exact zL rfl) [-evBin,c56_o2,zG,q,g,e,e',gr,ek,ek',hb]
    refine W.ret ?_
    try simp only [zW,if_true]
    exact kR _ _ ⟨bt,by simp [T.get],by omega,by omega⟩
   ·generalize gs A = cA at *
    generalize A.length = l at *
    generalize M.length = n at *
    refine Tr.w fun s1 H1 hp _ kR => ?_
    obtain ⟨rfl,rfl⟩:=hp
    have q : True:=trivial
    refine zCh ?_
    simp (disch:=first|omega|exact zE rfl|exact zO|exact zL rfl) [c56_o0,zG,q]
    refine W.assoc ?_
    refine zCh ?_
    simp (disch:=first|omega|exact zE rfl|exact zO|exact zL rfl) [c56_o1,zG,q,g,e,e']
    refine zCh ?_
    simp (disch:=first|omega|exact zE rfl|exact zO|exact zL rfl) [c56_o2,zG,q]
    refine zCh ?_
    simp (disch:=first|omega|exact zE rfl|exact zO|exact zL rfl) [c56_o3,zG,q]
    refine W.ret ?_
    try simp only [zW,if_true]
    exact kR _ _ ⟨1,by simp [T.get],by omega,by omega⟩
 ·have sl:=mf.sl
  clear mf mr
  generalize M.length = n at *
  rcases sl with ⟨rfl,rfl⟩ | ⟨rfl,rfl⟩ | ⟨b,v,rfl⟩
  all_goals
   refine Tr.w fun s1 H1 hp _ kR => ?_
   obtain ⟨rfl,rfl⟩:=hp
   have q : True:=trivial
   refine zCh ?_
   simp (disch:=first|omega|exact zE rfl|exact zO|exact zL rfl) [c56_o0,zG,q]
   refine W.assoc ?_
   refine zCh ?_
   simp (disch:=first|omega|exact zE rfl|exact zO|exact zL rfl) [c56_o1,zG,q]
   refine zCh ?_
   simp (disch:=first|omega|exact zE rfl|exact zO|exact zL rfl) [c56_o2,zG,q]
   refine zCh ?_
   simp (disch:=first|omega|exact zE rfl|exact zO|exact zL rfl) [c56_o3,zG,q]
   refine W.ret ?_
   try simp only [zW,if_true]
   exact kR _ _ ⟨1,by simp [T.get],by omega,by omega⟩
structure A56 where
 x : AV
 M : List (List Int)
 i : Nat
 k : Nat
def Pre56 (b : A56) (args : List AV) (h : Heap) : Prop:=(MR h b.x b.M ∧ b.i ≤ 1000 ∧ b.k ≤ 1000) ∧ args = [b.x,G b.i,G b.k]
def Post56 (b : A56) (h : Heap) (v : AV) (own : List AObj) : Prop:=(∃ b : Int,v = G b ∧ 0 ≤ b ∧ b ≤ 1) ∧ own = []
noncomputable def T48 : CallF:=addK tbl T47 56 Pre56 Post56
theorem t48 : Sound Go.Proofs.Try.prog T48:=Sound.addK follows ok t47 (by decide) _ _
abbrev K56 (J : CallF) : Prop:=∀ (h : Heap) (x : AV) (M : List (List Int)) (i k : Nat),MR h x M → i ≤ 1000 → k ≤ 1000 → ∃ b : Int,J 56 [x,G i,G k] h = some (G b,[],false) ∧ 0 ≤ b ∧ b ≤ 1
theorem k56 : K56 T48:=fun h x M i k h1 h2 h3 => by
 obtain ⟨v,own,e,⟨b,rfl,q1,q2⟩,rfl⟩:=addK_some (Pre:=Pre56) (Post:=Post56) (fun b args h hp => by
  obtain ⟨⟨h1,h2,h3⟩,rfl⟩:=hp
  exact c56_ok T47 (fun _ _ => by simp (disch:=decide) only [T1,T2,T3,T4,T5,T6,T7,T8,T9,T10,T11,T12,T13,T14,T15,T16,T17,T18,T19,T20,T21,T22,T23,T24,T25,T26,T27,T28,T29,T30,T31,T32,T33,T34,T35,T36,T37,T38,T39,T40,T41,T42,T43,T44,T45,T46,T47,addI_ne,addX_ne,addV_ne,addK_ne]; rfl) h h1 h2 h3) ⟨x,M,i,k⟩ _ h ⟨⟨h1,h2,h3⟩,rfl⟩
 exact ⟨b,e,q1,q2⟩
theorem k19_48 : K19 T48:=fun x n h h1 h2 => by
 rw [show T48 19 [G x,G n] h = T47 19 [G x,G n] h from by simp (disch:=decide) only [T48,addK_ne]]
 exact k19 x n h h1 h2
end Go.Proofs.Ytljgfdamdcikgaa.Ev
set_option linter.unusedVariables false
set_option linter.unusedSimpArgs false
namespace Go.Proofs.Ytljgfdamdcikgaa.Ev
open Go Go.AEv
structure N2 (H0 h : Heap) (xa xb : AV) (La Lb : List Int) : Prop where
 k : Kp (fun _ => False) H0 h
 a0 : ∀ q,blk xa = some q → H0.size ≤ q
 b0 : ∀ q,blk xb = some q → H0.size ≤ q
 la : LV h xa (gs La)
 lb : LV h xb (gs Lb)
 d : ∀ q,blk xa = some q → blk xb ≠ some q
theorem N2.nil (H0 : Heap) : N2 H0 H0 .nils .nils [] []:=⟨Kp.refl _,fun _ e => (by cases e),fun _ e => (by cases e),LV.nil _,LV.nil _,fun _ e => (by cases e)⟩
theorem N2.swap {H0 h : Heap} {xa xb : AV} {La Lb : List Int} (t : N2 H0 h xa xb La Lb) : N2 H0 h xb xa Lb La:=⟨t.k,t.b0,t.a0,t.lb,t.la,fun q e1 e2 => t.d q e2 e1⟩
theorem N2.app {H0 h : Heap} (h0 : Nat) {xa xb : AV} {La Lb : List Int} (t : N2 H0 h xa xb La Lb) (z : Int) (hn : La.length ≤ 1000000) :
  ∃ x1 e h2,appA (h.plus [.cells 1 1 [G z]]) h0 none 1 8 1 [G z] xa = some (x1,e) ∧ Eff.app e (h.plus [.cells 1 1 [G z]]) = some h2 ∧ N2 H0 h2 x1 xb (La ++ [z]) Lb:=by
 have k1 : Kp (fun _ => False) h (h.plus [.cells 1 1 [G z]]):=Kp.plus _ _
 obtain ⟨x1,e,h2,q1,q2,q3,q4,q5,q6⟩:=app_v (h.plus [.cells 1 1 [G z]]) h0 8 (G z) (t.la.kp k1 (fun _ _ => id)) (by simp; omega)
 have hsz : (h.plus [.cells 1 1 [G z]]).size = h.size + 1:=by rw [plus_size]; rfl
 refine ⟨x1,e,h2,q1,q2,⟨(t.k.trans k1).late q4 t.a0,fun q hq => ?_,t.b0,by simpa using q3,(t.lb.kp k1 (fun _ _ => id)).kp q4 (fun q e1 e2 => t.d q e2 e1),fun q hq e => ?_⟩⟩
 ·rcases q5 with h' | ⟨_,h'⟩
  ·rw [h'] at hq; exact t.a0 q hq
  ·rw [h'] at hq; cases hq; have:=t.k.size; omega
 ·rcases q5 with h' | ⟨_,h'⟩
  ·rw [h'] at hq; exact t.d q hq e
  ·rw [h'] at hq; cases hq; have:=t.lb.lt e; omega
def TR (H0 h : Heap) (xb xw : AV) (M : List (List AV)) : Prop:=∃ rs,LV h xb rs ∧ rs.length = M.length ∧ ∀ (i : Nat) r,rs[i]? = some r → ∃ cs b,M[i]? = some cs ∧ r = .slice b 0 cs.length cs.length ∧ h.get b = .cells 1 cs.length cs ∧ blk xb ≠ some b ∧ blk xw ≠ some b ∧ H0.size ≤ b
structure T2t (H0 h : Heap) (s3 : Nat) (xb xw : AV) (M N : List (List AV)) : Prop where
 k : Kp (· = s3) H0 h
 b0 : ∀ c,blk xb = some c → H0.size ≤ c
 w0 : ∀ c,blk xw = some c → H0.size ≤ c
 rb : TR H0 h xb xw M
 rw' : TR H0 h xw xb N
 d : ∀ c,blk xb = some c → blk xw ≠ some c
theorem T2t.nil (H0 : Heap) (s3 : Nat) : T2t H0 H0 s3 .nils .nils [] []:=⟨Kp.refl _,fun _ e => (by cases e),fun _ e => (by cases e),⟨[],LV.nil _,rfl,fun i r e => by simp at e⟩,⟨[],LV.nil _,rfl,fun i r e => by simp at e⟩,fun _ e => (by cases e)⟩
theorem T2t.swap {H0 h : Heap} {s3 : Nat} {xb xw : AV} {M N : List (List AV)} (t : T2t H0 h s3 xb xw M N) : T2t H0 h s3 xw xb N M:=⟨t.k,t.w0,t.b0,t.rw',t.rb,fun c e1 e2 => t.d c e2 e1⟩
theorem TR.kp {X : Nat → Prop} {H0 h h' : Heap} {xb xw : AV} {M : List (List AV)} (t : TR H0 h xb xw M) (k : Kp X h h') (h1 : ∀ b,blk xb = some b → ¬ X b) (h2 : ∀ b,H0.size ≤ b → blk xw ≠ some b → ¬ X b) : TR H0 h' xb xw M:=by
 obtain ⟨rs,lv,hl,hr⟩:=t
 refine ⟨rs,lv.kp k h1,hl,fun i r e => ?_⟩
 obtain ⟨cs,b,e1,e2,e3,e4,e5,e6⟩:=hr i r e
 exact ⟨cs,b,e1,e2,k.at e3 (by simp) (h2 b e6 e5),e4,e5,e6⟩
theorem T2t.kp {H0 h h' : Heap} {s3 : Nat} {xb xw : AV} {M N : List (List AV)} (t : T2t H0 h s3 xb xw M N) (k : Kp (fun _ => False) h h') : T2t H0 h' s3 xb xw M N :=
 ⟨t.k.trans (k.mono fun _ _ e => e.elim),t.b0,t.w0,t.rb.kp k (fun _ _ => id) (fun _ _ _ => id),t.rw'.kp k (fun _ _ => id) (fun _ _ _ => id),t.d⟩
theorem T2t.upd {H0 h : Heap} {s3 : Nat} {xb xw : AV} {M N : List (List AV)} (t : T2t H0 h s3 xb xw M N) (X : AObj) (hN : h.N ≤ s3) (hs : s3 < H0.size) : T2t H0 (h.upd s3 X) s3 xb xw M N:=by
 have k : Kp (· = s3) h (h.upd s3 X):=Kp.upd _ _ _ hN rfl
 exact ⟨t.k.trans k,t.b0,t.w0,t.rb.kp k (fun b e q => by have:=t.b0 b e; omega) (fun b e _ q => by omega),t.rw'.kp k (fun b e q => by have:=t.w0 b e; omega) (fun b e _ q => by omega),t.d⟩
theorem T2t.app {H0 h : Heap} (h0 : Nat) {s3 : Nat} {xb xw : AV} {M N : List (List AV)} {b : Nat} {cs : List AV} (t : T2t H0 h s3 xb xw M N) (hs : s3 < H0.size) (hv : h.get b = .cells 1 cs.length cs) (hb : blk xb ≠ some b ∧ blk xw ≠ some b ∧ H0.size ≤ b) (hn : M.length ≤ 1000000) :
  ∃ x1 e h2,appA (h.plus [.cells 1 1 [.slice b 0 cs.length cs.length]]) h0 none 1 24 1 [.slice b 0 cs.length cs.length] xb = some (x1,e) ∧ Eff.app e (h.plus [.cells 1 1 [.slice b 0 cs.length cs.length]]) = some h2 ∧ T2t H0 h2 s3 x1 xw (M ++ [cs]) N ∧ Kp (fun c => blk xb = some c) h h2 ∧ (∀ c,c < h.size → blk xb ≠ some c → blk x1 ≠ some c):=by
 obtain ⟨rs,lv,hl,hr⟩:=t.rb
 generalize hvv : AV.slice b 0 cs.length cs.length = v
 have k1 : Kp (fun _ => False) h (h.plus [.cells 1 1 [v]]):=Kp.plus _ _
 obtain ⟨x1,e,h2,q1,q2,q3,q4,q5,q6⟩:=app_v (h.plus [.cells 1 1 [v]]) h0 24 v (lv.kp k1 (fun _ _ => id)) (by omega)
 have hsz : (h.plus [.cells 1 1 [v]]).size = h.size + 1:=by rw [plus_size]; rfl
 have hx1 : ∀ q,q < h.size → blk xb ≠ some q → blk x1 ≠ some q:=fun q hq hne hx1 => by
  rcases q5 with h' | ⟨_,h'⟩
  ·rw [h'] at hx1; exact hne hx1
  ·rw [h'] at hx1; cases hx1; omega
 have kk : Kp (fun c => blk xb = some c) h h2:=(k1.mono fun _ _ e => e.elim).trans q4
 have hxn : ∀ c,blk x1 = some c → blk xw ≠ some c ∧ H0.size ≤ c:=fun c hc => by
  rcases q5 with h' | ⟨_,h'⟩
  ·rw [h'] at hc; exact ⟨t.d c hc,t.b0 c hc⟩
  ·rw [h'] at hc; cases hc
   refine ⟨fun e => ?_,by have:=t.k.size; omega⟩
   obtain ⟨rs',lv',_⟩:=t.rw'
   have:=lv'.lt e; omega
 refine ⟨x1,e,h2,q1,q2,⟨?_,fun c hc => (hxn c hc).2,t.w0,⟨rs ++ [v],q3,by simp [hl],fun i r hi => ?_⟩,?_,fun c hc => (hxn c hc).1⟩,kk,hx1⟩
 ·refine ⟨by rw [kk.lo,t.k.lo],by rw [kk.N,t.k.N],Nat.le_trans t.k.size kk.size,fun c hc hm => ?_⟩
  rw [kk.get c (Nat.lt_of_lt_of_le hc t.k.size) (fun e => by have:=t.b0 c e; omega),t.k.get c hc hm]
 ·by_cases hi' : i < rs.length
  ·rw [List.getElem?_append_left hi'] at hi
   obtain ⟨l',b',h1,h2',h3,h4,h5,h6⟩:=hr i r hi
   have hlt:=get_lt h3 (by simp)
   exact ⟨l',b',by rw [List.getElem?_append_left (by omega)]; exact h1,h2',kk.at h3 (by simp) (fun q => h4 q),hx1 b' hlt h4,h5,h6⟩
  ·rw [List.getElem?_append_right (by omega)] at hi
   have hi0 : i - rs.length = 0:=by
    rcases Nat.eq_zero_or_pos (i - rs.length) with e | e
    ·exact e
    ·rw [List.getElem?_eq_none (by simp; omega)] at hi; cases hi
   rw [hi0] at hi
   simp only [List.getElem?_cons_zero,Option.some.injEq] at hi
   subst hi
   exact ⟨cs,b,by rw [List.getElem?_append_right (by omega),← hl,hi0]; rfl,hvv.symm,kk.at hv (by simp) (fun q => hb.1 q),hx1 b (get_lt hv (by simp)) hb.1,hb.2.1,hb.2.2⟩
 ·obtain ⟨rs',lv',hl',hr'⟩:=t.rw'
  refine ⟨rs',lv'.kp kk (fun c e1 e2 => t.d c e2 e1),hl',fun i r hi => ?_⟩
  obtain ⟨l',b',h1,h2',h3,h4,h5,h6⟩:=hr' i r hi
  exact ⟨l',b',h1,h2',kk.at h3 (by simp) (fun q => h5 q),h4,hx1 b' (get_lt h3 (by simp)) h5,h6⟩
theorem T2t.sh {H0 h : Heap} {s3 : Nat} {xb xw : AV} {M N : List (List AV)} {cs : List AV} (t : T2t H0 h s3 xb xw (M ++ [cs]) N) : ∃ c m,xb = .slice c 0 m m:=by
 obtain ⟨rs,lv,hl,_⟩:=t.rb
 obtain ⟨c,e,_⟩:=lv.sl (by intro e; rw [e] at hl; simp at hl)
 exact ⟨c,_,e⟩
theorem T2t.tb {H0 h : Heap} {s3 : Nat} {xb xw : AV} {M N : List (List AV)} (t : T2t H0 h s3 xb xw M N) {Hb : Heap} (k0 : Kp (fun _ => False) Hb h) (hs : Hb.size ≤ H0.size) : TB Hb h xb M:=by
 obtain ⟨rs,lv,hl,hr⟩:=t.rb
 exact ⟨k0,fun q hq => Nat.le_trans hs (t.b0 q hq),rs,lv,hl,fun i r hi => by
  obtain ⟨cs,b,h1,h2,h3,h4,h5,h6⟩:=hr i r hi
  exact ⟨cs,b,h1,h2,h3,h4,Nat.le_trans hs h6⟩⟩
end Go.Proofs.Ytljgfdamdcikgaa.Ev
set_option linter.unusedVariables false
set_option linter.unusedSimpArgs false
namespace Go.Proofs.Ytljgfdamdcikgaa.Ev
open Go Go.AEv
attribute [local simp] evFunc initS evOps_c evTrim_c evSkip_c evExit_c evRet_c evSeq_c evCond_c evBlock_c evDraw_c runOps_n runOps_c exec_n exec_g pure1_c act AOpd.ev T.get T.set T.put evBin evUn forceT_eq forceV_eq forceL_eq evRess evRes one keep runFP_n runFP_c app_none AV.flats AV.flat came_some List.getElem?_cons_zero List.getElem?_cons_succ beqT wrapI idxI tdivI tmodI decT decF ibT ibF inT inF evScope_c if_pos if_neg Cm_some thenW_n thenW_e thenW_r blkW_n blkW_e blkW_r goI kn putAt AV.cells fillA loadA takeA mk Eff.isAll Eff.isNone Eff.commutes Eff.spares okPair apart eqAgg fits LK.fits allEq aveq eqk mmA
def b01 (L : List Int) : Prop:=∀ z ∈ L,0 ≤ z ∧ z ≤ 1
theorem b01_app {L : List Int} {z : Int} (h : b01 L) (h0 : 0 ≤ z) (h1 : z ≤ 1) : b01 (L ++ [z]):=fun u hu => by
 rcases List.mem_append.1 hu with hu | hu
 ·exact h u hu
 ·rw [List.mem_singleton.1 hu]; exact ⟨h0,h1⟩
def r01 (n : Nat) (B : List (List Int)) : Prop:=∀ l ∈ B,l.length = n ∧ b01 l
theorem r01_app {n : Nat} {B : List (List Int)} {l : List Int} (h : r01 n B) (hl : l.length = n) (hb : b01 l) : r01 n (B ++ [l]):=fun u hu => by
 rcases List.mem_append.1 hu with hu | hu
 ·exact h u hu
 ·rw [List.mem_singleton.1 hu]; exact ⟨hl,hb⟩
theorem r01_tab {n : Nat} {B : List (List Int)} (h : r01 n B) (hl : B.length = n) : tabQ n B = true:=by
 unfold tabQ
 rw [hl]
 simp only [decide_true,Bool.true_and,List.all_eq_true]
 intro l hl
 obtain ⟨h1,h2⟩:=h l hl
 unfold rowQ
 rw [h1]
 simp only [decide_true,Bool.true_and,List.all_eq_true,decide_eq_true_eq]
 exact h2
section
variable {X Y : List (List Int)} {x y : AV} {nq S : Nat}
structure RD (S nq : Nat) (nz : Int) (x y : AV) (X Y : List (List Int)) (h : Heap) : Prop where
 gS : h.get S = .cells 0 3 [G nz,x,y]
 g3 : ∃ xb xw,h.get (S + 2) = .cells 0 3 [G nq,xb,xw]
 mx : MR h x X
 my : MR h y Y
theorem RD.kp {nz : Int} {h h' : Heap} (r : RD S nq nz x y X Y h) (k : Kp (fun _ => False) h h') : RD S nq nz x y X Y h':=by
 obtain ⟨xb,xw,g⟩:=r.g3
 exact ⟨k.at r.gS (by simp) id,⟨xb,xw,k.at g (by simp) id⟩,r.mx.kp k,r.my.kp k⟩
abbrev F18 (S i : Nat) (s : T) : Prop:=s.get [false] = .ptr S 0 3 ∧ s.get [true] = .ptr (S + 1) 0 3 ∧ s.get [false,false] = .ptr (S + 2) 0 3 ∧ s.get [true,false] = G i
abbrev T0P (S i k : Nat) (Hi : Heap) : SP:=fun s h => ∃ xa xb La Lb,(N2 Hi h xa xb La Lb ∧ (La.length = k ∧ b01 La) ∧ Lb.length = k ∧ b01 Lb) ∧ F18 S i s ∧ s.get [false,true] = xa ∧ s.get [true,true] = xb ∧ s.get [false,false,false] = G k
theorem c18_l0_ok (J : CallF) (k56 : K56 J) {nz : Int} {Hi : Heap} (rd : RD S nq nz x y X Y Hi) (q3 : nq ≤ 3) {i : Nat} (hi : i ≤ 3) :
  Tr tbl J c18_l0 (T0P S i 0 Hi) (.exit 2) (fun s h => ∃ xa xb La Lb,(N2 Hi h xa xb La Lb ∧ (La.length = nq ∧ b01 La) ∧ Lb.length = nq ∧ b01 Lb) ∧ F18 S i s ∧ s.get [false,true] = xa ∧ s.get [true,true] = xb):=by
 refine Tr.rounds (e:=.exit 2) (P:=fun k => T0P S i k Hi) (M:=nq) (fun k hk => ?_) ?_ (by simp) 0 (by omega)
 ·unfold T0P F18
  refine Tr.w fun s1 H1 hp _ kR => W.trim ?_
  obtain ⟨xa,xb,La,Lb,⟨n2,⟨l1,b1⟩,l2,b2⟩,q⟩:=hp
  obtain ⟨gS,⟨ub,uw,g3⟩,mx,my⟩:=rd.kp n2.k
  obtain ⟨z1,e1,z10,z11⟩:=k56 H1 x X i k mx (by omega) (by omega)
  obtain ⟨x1,e,H2,p1,p2,n3⟩:=n2.app H1.size z1 (by omega)
  obtain ⟨gS2,⟨ub2,uw2,g32⟩,mx2,my2⟩:=rd.kp n3.k
  obtain ⟨z2,e2,z20,z21⟩:=k56 H2 y Y i k my2 (by omega) (by omega)
  obtain ⟨x2,e',H3,p3,p4,n4⟩:=n3.swap.app H2.size z2 (by omega)
  have fin : N2 Hi H3 x1 x2 (La ++ [z1]) (Lb ++ [z2]) ∧ ((La ++ [z1]).length = k + 1 ∧ b01 (La ++ [z1])) ∧ (Lb ++ [z2]).length = k + 1 ∧ b01 (Lb ++ [z2]):=⟨n4.swap,⟨by simp [l1],b01_app b1 z10 z11⟩,by simp [l2],b01_app b2 z20 z21⟩
  clear n2 n3 n4 rd mx my mx2 my2
  refine W.assoc ?_
  refine zCh ?_
  simp (disch:=first|omega|exact zE rfl|exact zO|exact zL rfl) [c18_o6,zG,q,g3]
  refine zCh ?_
  simp (disch:=first|omega|exact zE rfl|exact zO|exact zL rfl) [zG,q]
  refine W.seq (W.block ?_)
  refine zCh ?_
  simp (disch:=first|omega|exact zE rfl|exact zO|exact zL rfl) [c18_o7,zG,q,gS,e1,p1,p2,app1_at,elems,rdOf]
  refine W.chunk ?_
  simp (disch:=first|omega|exact zE rfl|exact zO|exact zL rfl) [c18_o8,zG,q,gS2,e2,p3,p4,app1_at,elems,rdOf]
  refine W.chunk ?_
  simp (disch:=first|omega|exact zE rfl|exact zO|exact zL rfl) [c18_o9,zG,q]
  exact kR _ _ ⟨_,_,_,_,fin,by simp [T.get,q]⟩
 ·unfold T0P F18
  refine Tr.w fun s1 H1 hp _ kR => W.trim ?_
  obtain ⟨xa,xb,La,Lb,⟨n2,⟨l1,b1⟩,l2,b2⟩,q⟩:=hp
  obtain ⟨gS,⟨ub,uw,g3⟩,mx,my⟩:=rd.kp n2.k
  clear rd mx my
  refine W.assoc ?_
  refine zCh ?_
  simp (disch:=first|omega|exact zE rfl|exact zO|exact zL rfl) [c18_o6,zG,q,g3]
  refine zCh ?_
  simp (disch:=first|omega|exact zE rfl|exact zO|exact zL rfl) [zG,q]
  exact kR _ _ ⟨_,_,_,_,⟨n2,⟨l1,b1⟩,l2,b2⟩,by simp [T.get,q]⟩
abbrev T1P (S nq i : Nat) (H0 : Heap) : SP:=fun s h => ∃ xb xw B W,(T2t H0 h (S + 2) xb xw (B.map gs) (W.map gs) ∧ h.get (S + 2) = .cells 0 3 [G nq,xb,xw] ∧ (B.length = i ∧ r01 nq B) ∧ W.length = i ∧ r01 nq W) ∧ F18 S i s
theorem c18_b1_ok (J : CallF) (k56 : K56 J) {nz : Int} {H0 : Heap} (gS0 : H0.get S = .cells 0 3 [G nz,x,y]) (base : ∀ h,Kp (· = S + 2) H0 h → MR h x X ∧ MR h y Y) (hN : H0.N ≤ S + 2) (hs : S + 2 < H0.size) (q1 : 1 ≤ nq) (q3 : nq ≤ 3) {i : Nat} (hi : i < nq) :
  Tr tbl J (.trim [[false],[true],[false,false],[true,false]] c18_b1) (T1P S nq i H0) .normal (T1P S nq (i + 1) H0):=by
 unfold T1P
 refine Tr.w fun s1 H1 hp _ kR => W.trim ?_
 obtain ⟨xb,xw,B,Y0,⟨tt,g3,⟨lB,rB⟩,lW,rW⟩,q⟩:=hp
 obtain ⟨mx,my⟩:=base H1 tt.k
 have rd : RD S nq nz x y X Y H1:=⟨tt.k.at gS0 (by simp) (by omega),⟨xb,xw,g3⟩,mx,my⟩
 have l0:=c18_l0_ok J k56 rd q3 (i:=i) (by omega)
 have n0 : N2 H1 H1 .nils .nils [] []:=N2.nil H1
 have b00 : b01 []:=fun z hz => by cases hz
 have step : ∀ h xa xc La Lb,N2 H1 h xa xc La Lb → La.length = nq → b01 La → Lb.length = nq → b01 Lb → ∃ ba bc,xa = .slice ba 0 nq nq ∧ xc = .slice bc 0 nq nq ∧ h.get (S + 2) = .cells 0 3 [G nq,xb,xw] ∧
   ∃ x1 e h2 h3,appA (h.plus [.cells 1 1 [.slice ba 0 nq nq]]) h.size none 1 24 1 [.slice ba 0 nq nq] xb = some (x1,e) ∧ Eff.app e (h.plus [.cells 1 1 [.slice ba 0 nq nq]]) = some h2 ∧ Eff.app (.put (S + 2) 3 1 [x1]) h2 = some h3 ∧ h3.get (S + 2) = .cells 0 3 [G nq,x1,xw] ∧ (∃ c m,x1 = .slice c 0 m m) ∧
   ∃ x2 e' h4 h5,appA (h3.plus [.cells 1 1 [.slice bc 0 nq nq]]) h3.size none 1 24 1 [.slice bc 0 nq nq] xw = some (x2,e') ∧ Eff.app e' (h3.plus [.cells 1 1 [.slice bc 0 nq nq]]) = some h4 ∧ Eff.app (.put (S + 2) 3 2 [x2]) h4 = some h5 ∧ (∃ c m,x2 = .slice c 0 m m) ∧
   T2t H0 h5 (S + 2) x1 x2 ((B ++ [La]).map gs) ((Y0 ++ [Lb]).map gs) ∧ h5.get (S + 2) = .cells 0 3 [G nq,x1,x2] ∧ ((B ++ [La]).length = i + 1 ∧ r01 nq (B ++ [La])) ∧ (Y0 ++ [Lb]).length = i + 1 ∧ r01 nq (Y0 ++ [Lb]):=fun h xa xc La Lb n2 e1 e2 e3 e4 => by
  have ga : (gs La).length = nq:=by simp [e1]
  have gc : (gs Lb).length = nq:=by simp [e3]
  obtain ⟨ba,rfl,ha⟩:=n2.la.sl (by intro e; rw [e] at ga; simp at ga; omega)
  obtain ⟨bc,rfl,hc⟩:=n2.lb.sl (by intro e; rw [e] at gc; simp at gc; omega)
  have a0:=n2.a0 ba rfl
  have c0:=n2.b0 bc rfl
  have dd : ba ≠ bc:=fun e => n2.d ba rfl (by rw [e]; rfl)
  rw [ga] at ha ⊢
  rw [gc] at hc ⊢
  have t1:=tt.kp n2.k
  have lxb : ∀ c,blk xb = some c → c < H1.size:=fun c e => by obtain ⟨rs,lv,_⟩:=tt.rb; exact lv.lt e
  have lxw : ∀ c,blk xw = some c → c < H1.size:=fun c e => by obtain ⟨rs,lv,_⟩:=tt.rw'; exact lv.lt e
  have szH:=tt.k.size
  obtain ⟨x1,e,h2,p1,p2,t2,k2,f2⟩:=t1.app h.size (b:=ba) (cs:=gs La) hs (by rw [ga]; exact ha) ⟨fun e => by have:=lxb _ e; omega,fun e => by have:=lxw _ e; omega,by omega⟩ (by rw [List.length_map]; omega)
  rw [ga] at p1 p2
  have g3h:=n2.k.at g3 (by simp) id
  have g32:=k2.at g3h (by simp) (fun e => by have:=tt.b0 _ e; omega)
  have N2' : h2.N ≤ S + 2:=by rw [t2.k.N]; exact hN
  have t3:=t2.upd (.cells 0 3 [G nq,x1,xw]) N2' hs
  have hc2:=k2.at hc (by simp) (fun e => by have:=lxb _ e; omega)
  have hc3 : (h2.upd (S + 2) (.cells 0 3 [G nq,x1,xw])).get bc = .cells 1 nq (gs Lb):=by rw [upd_ne _ _ _ _ N2' (by omega)]; exact hc2
  have g33 : (h2.upd (S + 2) (.cells 0 3 [G nq,x1,xw])).get (S + 2) = .cells 0 3 [G nq,x1,xw]:=upd_same _ _ _ N2' (get_lt g32 (by simp))
  have bch:=get_lt hc (by simp)
  obtain ⟨x2,e',h4,p3,p4,t4,k4,f4⟩:=t3.swap.app (h2.upd (S + 2) (.cells 0 3 [G nq,x1,xw])).size (b:=bc) (cs:=gs Lb) hs (by rw [gc]; exact hc3) ⟨fun e => by have:=lxw _ e; omega,f2 bc bch (fun e => by have:=lxb _ e; omega),by omega⟩ (by rw [List.length_map]; omega)
  rw [gc] at p3 p4
  have g34:=k4.at g33 (by simp) (fun e => by have:=tt.w0 _ e; omega)
  have N4 : h4.N ≤ S + 2:=by rw [t4.k.N]; exact hN
  refine ⟨ba,bc,rfl,rfl,g3h,x1,e,h2,_,p1,p2,?_,g33,t2.sh,x2,e',h4,_,p3,p4,?_,t4.sh,?_,upd_same _ _ _ N4 (get_lt g34 (by simp)),⟨by simp [lB],r01_app rB e1 e2⟩,by simp [lW],r01_app rW e3 e4⟩
  ·rw [put_gen _ _ _ _ _ _ _ N2' g32 (by simp)]; rfl
  ·rw [put_gen _ _ _ _ _ _ _ N4 g34 (by simp)]; rfl
  ·have:=t4.swap.upd (.cells 0 3 [G nq,x1,x2]) N4 hs
   rw [List.map_append,List.map_append]
   exact this
 have l0 : Tr tbl J c18_l0 (fun s h => h = H1 ∧ s.get [false] = .ptr S 0 3 ∧ s.get [true] = .ptr (S + 1) 0 3 ∧ s.get [false,false] = .ptr (S + 2) 0 3 ∧ s.get [true,false] = G i ∧ s.get [false,true] = .nils ∧ s.get [true,true] = .nils ∧ s.get [false,false,false] = G ((0 : Nat) : Int)) (.exit 2) _:=Tr.pre (fun s h hp => (by
  obtain ⟨rfl,a1,a2,a3,a4,a5,a6,a7⟩:=hp
  exact ⟨.nils,.nils,[],[],⟨n0,⟨rfl,b00⟩,rfl,b00⟩,⟨a1,a2,a3,a4⟩,a5,a6,a7⟩ : T0P S i 0 H1 s h)) l0
 unfold F18 at q kR l0
 clear tt rd mx my rB rW lB lW
 refine W.assoc ?_
 refine zCh ?_
 simp (disch:=first|omega|exact zE rfl|exact zO|exact zL rfl) [c18_o3,zG,q,g3]
 refine zCh ?_
 simp (disch:=first|omega|exact zE rfl|exact zO|exact zL rfl) [zG,q]
 refine W.seq (W.block ?_)
 refine zCh ?_
 simp (disch:=first|omega|exact zE rfl|exact zO|exact zL rfl) [c18_o4,zG,q]
 refine W.assoc ?_
 refine zCh ?_
 simp (disch:=first|omega|exact zE rfl|exact zO|exact zL rfl) [c18_o5,zG,q]
 refine W.seq (W.block ?_)
 refine W.use (l0) (by simp (disch:=first|omega|exact zE rfl|exact zO|exact zL rfl) [zG,q]) fun s1 H1 hp => ?_
 obtain ⟨xa,xc,La,Lb,⟨n2,⟨e1,e2⟩,e3,e4⟩,q⟩:=hp
 try simp only [zW,if_true]
 obtain ⟨ba,bc,rfl,rfl,g3h,x1,e,h2,h3,p1,p2,p3,g33,⟨c1,m1,rfl⟩,x2,e',h4,h5,p4,p5,p6,⟨c2,m2,rfl⟩,fin⟩:=step _ _ _ _ _ n2 e1 e2 e3 e4
 refine zCh ?_
 simp (disch:=first|omega|exact zE rfl|exact zO|exact zL rfl) [c18_o10,zG,q,g3h,p1,p2,p3,app1_at,elems,rdOf]
 refine W.chunk ?_
 simp (disch:=first|omega|exact zE rfl|exact zO|exact zL rfl) [c18_o11,zG,q,g33,p4,p5,p6,app1_at,elems,rdOf]
 refine W.chunk ?_
 simp (disch:=first|omega|exact zE rfl|exact zO|exact zL rfl) [c18_o12,zG,q]
 exact kR _ _ ⟨_,_,_,_,fin,by simp [T.get,q]⟩
theorem c18_ok (J : CallF) (k19 : K19 J) (k56 : K56 J) (hJ : ∀ a h,J 18 a h = none) (h : Heap) {qz : Int} (mx : MR h x X) (my : MR h y Y) :
  ∃ v own,CallsTo tbl J 18 [.agg [G qz,x,y]] h (v,own,false) ∧ ∃ n x' y' B W,v = .agg [G (n : Nat),x',y'] ∧ (1 ≤ n ∧ n ≤ 3) ∧ (TB h (h.plus own) x' (B.map gs) ∧ tabQ n B = true) ∧ TB h (h.plus own) y' (W.map gs) ∧ tabQ n W = true:=by
 refine Tr.fny (cf:=c18) (e:=.ret) (s:=T.set .leaf [] (.agg [G qz,x,y])) (by decide) rfl (hJ _ _) rfl rfl (by simp) ?_
 have mb:=mdZ_bd (IntKind.i64.wrap (qz - 1)) (n:=3) (by omega)
 have kk:=k19 (IntKind.i64.wrap (qz - 1)) 3 ⟨h.get,h.size,[.cells 0 3 [G qz,x,y],.cells 0 3 [G 0,.nils,.nils]]⟩ (by omega) (by omega)
 generalize mdZ (IntKind.i64.wrap (qz - 1)) 3 = z at *
 obtain ⟨n,hn⟩ : ∃ n : Nat,(n : Int) = 1 + z:=⟨(1 + z).toNat,by omega⟩
 obtain ⟨H0,hH0⟩ : ∃ H,(⟨h.get,h.size,[.cells 0 3 [G qz,x,y],.cells 0 3 [G 0,.nils,.nils],.cells 0 3 [G (1 + z),.nils,.nils]]⟩ : Heap) = H:=⟨_,rfl⟩
 obtain ⟨S,hS⟩ : ∃ S,h.size = S:=⟨_,rfl⟩
 have hs : H0.size = S + 3:=by rw [← hH0,← hS]; rfl
 have hN : H0.N = S:=by rw [← hH0,← hS]
 have gS0 : H0.get S = .cells 0 3 [G qz,x,y]:=by rw [← hH0,← hS,get_mk_ge _ _ _ _ (Nat.le_refl _),Nat.sub_self]; rfl
 have g1 : H0.get (S + 1) = .cells 0 3 [G 0,.nils,.nils]:=by rw [← hH0,← hS,get_mk_ge _ _ _ _ (by omega),Nat.add_sub_cancel_left]; rfl
 have g3 : H0.get (S + 2) = .cells 0 3 [G n,.nils,.nils]:=by rw [← hH0,← hS,get_mk_ge _ _ _ _ (by omega),Nat.add_sub_cancel_left,hn]; rfl
 have low : ∀ h',Kp (· = S + 2) H0 h' → Kp (fun _ => False) (frameOf h) h':=fun h' k => Kp.low (by rw [k.lo,← hH0]) (by rw [k.N,hN,hS])
 have base : ∀ h',Kp (· = S + 2) H0 h' → MR h' x X ∧ MR h' y Y:=fun h' k => ⟨MR.kp (mx.lo []) (low h' k),MR.kp (my.lo []) (low h' k)⟩
 have l1 : Tr tbl J c18_l1 (fun s h' => h' = H0 ∧ s.get [false] = .ptr S 0 3 ∧ s.get [true] = .ptr (S + 1) 0 3 ∧ s.get [false,false] = .ptr (S + 2) 0 3 ∧ s.get [true,false] = G ((0 : Nat) : Int)) (.exit 0) (fun s h => ∃ xb xw B W,(T2t H0 h (S + 2) xb xw (B.map gs) (W.map gs) ∧ h.get (S + 2) = .cells 0 3 [G n,xb,xw] ∧ (B.length = n ∧ r01 n B) ∧ W.length = n ∧ r01 n W) ∧ s.get [true] = .ptr (S + 1) 0 3 ∧ s.get [false,false] = .ptr (S + 2) 0 3):=by
  refine Tr.pre (P:=T1P S n 0 H0) (fun s h' hp => by
   obtain ⟨rfl,a1,a2,a3,a4⟩:=hp
   exact ⟨.nils,.nils,[],[],⟨T2t.nil _ _,g3,⟨rfl,fun l hl => by cases hl⟩,rfl,fun l hl => by cases hl⟩,a1,a2,a3,a4⟩) ?_
  refine Tr.rounds (e:=.exit 0) (P:=fun i => T1P S n i H0) (M:=n) (fun i hi => c18_b1_ok J k56 gS0 base (by omega) (by omega) (by omega) (by omega) hi) ?_ (by simp) 0 (by omega)
  unfold T1P F18
  refine Tr.w fun s1 H1 hp _ kR => W.trim ?_
  obtain ⟨xb,xw,B,Y0,⟨tt,g3,c1,c2⟩,q⟩:=hp
  clear base low
  refine W.assoc ?_
  refine zCh ?_
  simp (disch:=first|omega|exact zE rfl|exact zO|exact zL rfl) [c18_o3,zG,q,g3]
  refine zCh ?_
  simp (disch:=first|omega|exact zE rfl|exact zO|exact zL rfl) [zG,q]
  exact kR _ _ ⟨_,_,_,_,⟨tt,g3,c1,c2⟩,by simp [T.get,q]⟩
 have fin : ∀ h' xb xw B W,T2t H0 h' (S + 2) xb xw (B.map gs) (W.map gs) → h'.get (S + 2) = .cells 0 3 [G n,xb,xw] → (B.length = n ∧ r01 n B) → (W.length = n ∧ r01 n W) → ∃ h2,Eff.app (.put (S + 1) 3 0 [G n,xb,xw]) h' = some h2 ∧ h2.get (S + 1) = .cells 0 3 [G n,xb,xw] ∧
   (if (one [AV.agg [G n,xb,xw]]).flat then [] else h2.own) = h2.own ∧ (∃ c m,xb = .slice c 0 m m) ∧ (∃ c m,xw = .slice c 0 m m) ∧ (TB h (h.plus h2.own) xb (B.map gs) ∧ tabQ n B = true) ∧ TB h (h.plus h2.own) xw (W.map gs) ∧ tabQ n W = true:=fun h' xb xw B Y0 tt g ⟨b1,b2⟩ ⟨w1,w2⟩ => by
  have N' : h'.N = S:=by rw [tt.k.N,hN]
  have g1':=tt.k.at g1 (by simp) (by omega)
  have kU : Kp (· = S + 1) h' (h'.upd (S + 1) (.cells 0 3 [G n,xb,xw])):=Kp.upd _ _ _ (by omega) rfl
  have lowU : Kp (fun _ => False) (frameOf h) (h'.upd (S + 1) (.cells 0 3 [G n,xb,xw])):=Kp.low (by show h'.lo = _; rw [tt.k.lo,← hH0]) (by show h'.N = _; rw [N',hS])
  have lowh:=low h' tt.k
  have fs : (frameOf h).size ≤ H0.size:=by show h.size + 0 ≤ _; omega
  have tb1:=tt.tb lowh fs
  have tb2:=tt.swap.tb lowh fs
  have tb1' : TB (frameOf h) (h'.upd (S + 1) (.cells 0 3 [G n,xb,xw])) xb (B.map gs):=by
   have t0 : TB H0 h' xb (B.map gs) → TB (frameOf h) (h'.upd (S + 1) (.cells 0 3 [G n,xb,xw])) xb (B.map gs):=fun t => TB.kpm t kU (fun b e => by omega) lowU fs
   obtain ⟨rs,lv,hl,hr⟩:=tt.rb
   refine ⟨lowU,fun q hq => Nat.le_trans fs (tt.b0 q hq),rs,lv.kp kU (fun b e q => by have:=tt.b0 b e; omega),hl,fun i r hi => ?_⟩
   obtain ⟨cs,b,h1,h2,h3,h4,h5,h6⟩:=hr i r hi
   exact ⟨cs,b,h1,h2,kU.at h3 (by simp) (by omega),h4,by omega⟩
  have tb2' : TB (frameOf h) (h'.upd (S + 1) (.cells 0 3 [G n,xb,xw])) xw (Y0.map gs):=by
   obtain ⟨rs,lv,hl,hr⟩:=tt.rw'
   refine ⟨lowU,fun q hq => Nat.le_trans fs (tt.w0 q hq),rs,lv.kp kU (fun b e q => by have:=tt.w0 b e; omega),hl,fun i r hi => ?_⟩
   obtain ⟨cs,b,h1,h2,h3,h4,h5,h6⟩:=hr i r hi
   exact ⟨cs,b,h1,h2,kU.at h3 (by simp) (by omega),h4,by omega⟩
  obtain ⟨c1,r1,e1,_⟩:=tb1.sl (i:=0) (by rw [List.length_map]; omega)
  obtain ⟨c2,r2,e2,_⟩:=tb2.sl (i:=0) (by rw [List.length_map]; omega)
  refine ⟨_,?_,upd_same _ _ _ (by omega) (get_lt g1' (by simp)),?_,⟨c1,_,e1⟩,⟨c2,_,e2⟩,⟨tb1'.fr,r01_tab b2 b1⟩,tb2'.fr,r01_tab w2 w1⟩
  ·rw [put_gen _ _ _ _ _ _ _ (by omega) g1' (by simp)]; rfl
  ·rw [if_neg (by rw [e1]; simp [one,AV.flat,AV.flats])]
 rw [hS] at kk hH0
 clear base low mx my k56
 have hn3 : 1 ≤ n ∧ n ≤ 3:=by omega
 refine Tr.w fun s1 H1 hp _ kR => ?_
 obtain ⟨rfl,rfl⟩:=hp
 have q : True:=trivial
 refine zCh ?_
 simp (disch:=first|omega|exact zE rfl|exact zO|exact zL rfl) [c18_o0,size_mk,get_mk_lt,get_mk_ge,frameOf,Eff.app,Heap.setOwn,q,hS]
 refine zCh ?_
 simp (disch:=first|omega|exact zE rfl|exact zO|exact zL rfl) [c18_o1,size_mk,get_mk_lt,get_mk_ge,frameOf,Eff.app,Heap.setOwn,q,kk,hS,hH0]
 refine W.assoc ?_
 refine zCh ?_
 simp (disch:=first|omega|exact zE rfl|exact zO|exact zL rfl) [c18_o2,size_mk,get_mk_lt,get_mk_ge,frameOf,Eff.app,Heap.setOwn,q,hH0]
 refine W.seq (W.block ?_)
 refine W.use (l1) (by simp (disch:=first|omega|exact zE rfl|exact zO|exact zL rfl) [size_mk,get_mk_lt,get_mk_ge,frameOf,Eff.app,Heap.setOwn,q]) fun s1 H1 hp => ?_
 obtain ⟨xb,xw,B,Y0,⟨tt,g,c1,c2⟩,q⟩:=hp
 try simp only [zW,if_true]
 obtain ⟨h2,p1,gU,f1,⟨d1,m1,rfl⟩,⟨d2,m2,rfl⟩,f2,f3⟩:=fin _ _ _ _ _ tt g c1 c2
 refine zCh ?_
 simp (disch:=first|omega|exact zE rfl|exact zO|exact zL rfl) [c18_o13,zG,q,g,p1]
 refine W.ret ?_
 try simp only [zW,if_true]
 refine kR _ _ ?_
 refine ⟨[.agg [G n,.slice d1 0 m1 m1,.slice d2 0 m2 m2]],by simp [T.get,c18,evRess,evRes,loadA,gU,takeA,q],n,_,_,B,Y0,rfl,hn3,?_,?_⟩
 ·rw [f1]; exact f2
 ·rw [f1]; exact f3
end
def Pre18 (a : ATs) (args : List AV) (h : Heap) : Prop:=Ok24 a h ∧ args = [.agg [G a.q,a.x,a.y]]
def Post18 (a : ATs) (h : Heap) (v : AV) (own : List AObj) : Prop:=∃ n x' y' B W,v = .agg [G (n : Nat),x',y'] ∧ (1 ≤ n ∧ n ≤ 3) ∧ (TB h (h.plus own) x' (B.map gs) ∧ tabQ n B = true) ∧ TB h (h.plus own) y' (W.map gs) ∧ tabQ n W = true
noncomputable def T49 : CallF:=addK tbl T48 18 Pre18 Post18
theorem t49 : Sound Go.Proofs.Try.prog T49:=Sound.addK follows ok t48 (by decide) _ _
abbrev K18 (J : CallF) : Prop:=∀ (h : Heap) (a : ATs),Ok24 a h → ∃ v own,J 18 [.agg [G a.q,a.x,a.y]] h = some (v,own,false) ∧ Post18 a h v own
theorem k18 : K18 T49:=fun h a o => by
 obtain ⟨v,own,e,l⟩:=addK_some (Pre:=Pre18) (Post:=Post18) (fun a args h hp => by
  obtain ⟨o,rfl⟩:=hp
  exact c18_ok T48 k19_48 k56 (fun _ _ => by simp (disch:=decide) only [T1,T2,T3,T4,T5,T6,T7,T8,T9,T10,T11,T12,T13,T14,T15,T16,T17,T18,T19,T20,T21,T22,T23,T24,T25,T26,T27,T28,T29,T30,T31,T32,T33,T34,T35,T36,T37,T38,T39,T40,T41,T42,T43,T44,T45,T46,T47,T48,addI_ne,addX_ne,addV_ne,addK_ne]; rfl) h o.1 o.2) a _ h ⟨o,rfl⟩
 exact ⟨v,own,e,l⟩
end Go.Proofs.Ytljgfdamdcikgaa.Ev
set_option linter.unusedVariables false
set_option linter.unusedSimpArgs false
namespace Go.Proofs.Ytljgfdamdcikgaa.Ev
open Go Go.AEv
def fd (p : Nat → Bool) (w : Nat → Nat) : Nat → Nat → Nat → Nat × Nat
 | 0,i,k => (i,k)
 | d + 1,i,k => if p i = true then (if k < w i then (i,k) else fd p w d (i + 1) (k - w i)) else fd p w d (i + 1) k
def ft (p : Nat → Bool) (w : Nat → Nat) : Nat → Nat → Nat
 | 0,_ => 0
 | d + 1,i => (if p i = true then w i else 0) + ft p w d (i + 1)
def pk (w : Nat → Nat) : List Nat → Nat → Nat × Nat
 | [],k => (0,k)
 | c :: L,k => if k < w c then (c,k) else pk w L (k - w c)
theorem ft_sum (p : Nat → Bool) (w : Nat → Nat) : ∀ d i,ft p w d i = (((List.range' i d).filter p).map w).sum
 | 0,i => rfl
 | d + 1,i => by
  unfold ft
  rw [List.range'_succ,List.filter_cons,ft_sum p w d (i + 1)]
  cases p i <;> simp
def itm (S : List (List Nat)) : Nat → List Nat → Nat → List Nat
 | 0,_,_ => []
 | j + 1,L,k => (pk (cnt S j) L k).1 :: itm S j (S.getD (pk (cnt S j) L k).1 []) (pk (cnt S j) L k).2
def pN (S : List (List Nat)) (now : Int) (i : Nat) : Bool:=decide (now < 0) || decide (i ∈ S.getD now.toNat [])
def Srt (S : List (List Nat)) : Prop:=∀ c,S.getD c [] = (List.range S.length).filter fun i => decide (i ∈ S.getD c [])
theorem srt_st (W : List (List Int)) (R : List (List Nat)) : Srt (stL W R):=fun c => by
 have hl : (stL W R).length = R.length:=by simp [stL]
 rw [hl]
 rw [List.getD_eq_getElem?_getD]
 unfold stL
 rw [List.getElem?_map]
 cases R[c]? with
 | none => simp
 | some r =>
  show nxL W R r = (List.range R.length).filter fun i => decide (i ∈ nxL W R r)
  conv => lhs; unfold nxL
  refine List.filter_congr fun i hi => ?_
  unfold nxL
  rw [Bool.eq_iff_iff,decide_eq_true_iff,List.mem_filter]
  exact ⟨fun h => ⟨hi,h⟩,fun h => h.2⟩
def nwL (S : List (List Nat)) (now : Int) : List Nat:=if now < 0 then List.range S.length else S.getD now.toNat []
theorem nw_filter {S : List (List Nat)} (hs : Srt S) (now : Int) : (List.range' 0 S.length).filter (pN S now) = nwL S now:=by
 unfold nwL pN
 rw [← List.range_eq_range']
 by_cases h : now < 0
 ·rw [if_pos h]; simp [h]
 ·rw [if_neg h]
  have : (fun i => decide (now < 0) || decide (i ∈ S.getD now.toNat [])) = fun i => decide (i ∈ S.getD now.toNat []):=by
   funext i; rw [decide_eq_false h,Bool.false_or]
  rw [this]; exact (hs _).symm
end Go.Proofs.Ytljgfdamdcikgaa.Ev
set_option linter.unusedVariables false
set_option linter.unusedSimpArgs false
namespace Go.Proofs.Ytljgfdamdcikgaa.Ev
open Go Go.AEv
attribute [local simp] evFunc initS evOps_c evTrim_c evSkip_c evExit_c evRet_c evSeq_c evCond_c evBlock_c evDraw_c runOps_n runOps_c exec_n exec_g pure1_c act AOpd.ev T.get T.set T.put evBin evUn forceT_eq forceV_eq forceL_eq evRess evRes one keep runFP_n runFP_c app_none AV.flats AV.flat came_some List.getElem?_cons_zero List.getElem?_cons_succ beqT wrapI idxI tdivI tmodI decT decF ibT ibF inT inF evScope_c if_pos if_neg Cm_some thenW_n thenW_e thenW_r blkW_n blkW_e blkW_r goI kn putAt AV.cells fillA loadA takeA mk Eff.isAll Eff.isNone Eff.commutes Eff.spares okPair apart eqAgg fits LK.fits allEq aveq eqk mmA
def AR.itR (a : AR) (m : Int) (n k : Nat) : List (List Nat):=(itm (a.steps m) n (List.range (a.steps m).length) k).map fun c => (a.rows m).getD c []
def Post32 (a : AR) (m n k : Int) (h : Heap) (v : AV) (own : List AObj) : Prop :=
 (a.gd m n 0 = false → v = .tup [.nils,G 2] ∧ own = []) ∧
 (a.gd m n 0 = true → okC (a.steps m) n.toNat = false → v = .tup [.nils,G 5] ∧ own = []) ∧
 (a.gd m n 0 = true → okC (a.steps m) n.toNat = true → ¬ (0 ≤ k ∧ k < a.cn m n.toNat) → v = .tup [.nils,G 2] ∧ own = []) ∧
 (a.gd m n 0 = true → okC (a.steps m) n.toNat = true → (0 ≤ k ∧ k < a.cn m n.toNat) → ∃ x,v = .tup [x,G 0] ∧ RV (h.plus own) x (wsL (a.itR m n.toNat k.toNat)))
section
variable {a : AR} {m n k : Int}
end
structure ARk where
 a : AR
 m : Int
 n : Int
 k : Int
def Pre32 (b : ARk) (args : List AV) (h : Heap) : Prop:=OkR b.a h ∧ args = [b.a.v,G b.m,G b.n,G b.k]
def Po32 (b : ARk) (h : Heap) (v : AV) (own : List AObj) : Prop:=Post32 b.a b.m b.n b.k h v own
noncomputable def T50 : CallF:=addK tbl T49 32 Pre32 Po32
theorem t50 : Sound Go.Proofs.Try.prog T50:=Sound.addK follows ok t49 (by decide) _ _
structure ARq where
 a : AR
 m : Int
 n : Int
 k : Nat
def Pre34 (b : ARq) (args : List AV) (h : Heap) : Prop:=(OkR b.a h ∧ b.a.gd b.m b.n 0 = true ∧ okC (b.a.steps b.m) b.n.toNat = true ∧ b.k < b.a.cn b.m b.n.toNat) ∧ args = [b.a.v,G b.m,G b.n,G b.k]
def Post34 (b : ARq) (h : Heap) (v : AV) (own : List AObj) : Prop:=RV (h.plus own) v (wsL (b.a.itR b.m b.n.toNat b.k))
noncomputable def T51 : CallF:=addK tbl T50 34 Pre34 Post34
theorem t51 : Sound Go.Proofs.Try.prog T51:=Sound.addK follows ok t50 (by decide) _ _
theorem k30_50 : K30 T50:=fun h a m o m5 => by
 obtain ⟨v,own,e,l⟩:=k30 h a m o m5
 exact ⟨v,own,by rw [show T50 30 [a.v,G m] h = T24 30 [a.v,G m] h from by simp (disch:=decide) only [T25,T26,T27,T28,T29,T30,T31,T32,T33,T34,T35,T36,T37,T38,T39,T40,T41,T42,T43,T44,T45,T46,T47,T48,T49,T50,addI_ne,addX_ne,addV_ne,addK_ne]]; exact e,l⟩
section
variable {nq m nn k : Int} {X Y : List (List Int)}
end
section
variable {S : List (List Nat)} {p bM bm bL bF : Nat}
theorem LS.ex (os : OkS S) : ∃ z,LS S z:=by
 by_cases c : ∃ i,i < S.length ∧ al S S.length i = true
 ·exact ⟨-1,.inl ⟨rfl,c⟩⟩
 ·have : ∀ L : List Nat,(∀ i ∈ L,i < S.length) → ∃ m,MX S L.reverse m:=fun L => by
   induction L with
   | nil => exact fun _ => ⟨0,MX.nil⟩
   | cons i L ih =>
    intro h
    obtain ⟨m,hm⟩:=ih fun j hj => h j (by simp [hj])
    have hi : al S S.length i = false:=by
     cases e : al S S.length i
     ·rfl
     ·exact absurd ⟨i,h i (by simp),e⟩ c
    obtain ⟨z,hz⟩:=LG.ex hi
    exact ⟨max m z,by rw [List.reverse_cons]; exact hm.snoc hz⟩
  obtain ⟨m,hm⟩:=this (List.range S.length).reverse fun i hi => List.mem_range.1 (List.mem_reverse.1 hi)
  rw [List.reverse_reverse] at hm
  exact ⟨m,hm.ls⟩
open Classical in
noncomputable def lsV (S : List (List Nat)) : Int:=if h : ∃ z,LS S z then Classical.choose h else 0
end
noncomputable def AR.lgV (a : AR) (m : Int) : AV:=if a.rm m then .tup [G (lsV (a.steps m)),G 0] else .tup [G 0,G 2]
section
variable {a : AR} {m : Int}
end
def Post35 (b : ARm) (h : Heap) (v : AV) (own : List AObj) : Prop:=v = b.a.lgV b.m ∧ own = []
noncomputable def T52 : CallF:=addK tbl T51 35 PreRm Post35
theorem t52 : Sound Go.Proofs.Try.prog T52:=Sound.addK follows ok t51 (by decide) _ _
end Go.Proofs.Ytljgfdamdcikgaa.Ev
set_option linter.unusedVariables false
set_option linter.unusedSimpArgs false
namespace Go.Proofs.Ytljgfdamdcikgaa.Ev
open Go Go.AEv
section
variable {S : List (List Nat)}
structure BQ (S : List (List Nat)) (f : Nat) (d : Nat → Nat) (Q : List Nat) (k t : Nat) : Prop where
 q0 : Q[0]? = some f
 f0 : d f = 0
 nd : Q.Nodup
 lt : ∀ z ∈ Q,z < S.length
 wk : ∀ z ∈ Q,Rw S (d z) f z
 so : ∀ (i j u w : Nat),i ≤ j → Q[i]? = some u → Q[j]? = some w → d u ≤ d w
 la : ∀ (j u w : Nat),Q[k]? = some u → Q[j]? = some w → d w ≤ d u + 1
 dl : ∀ (j w : Nat),Q[j]? = some w → d w ≤ j
 ch : ∀ (i u : Nat),i < k → Q[i]? = some u → ∀ c ∈ S.getD u [],c ∈ Q ∧ d c ≤ d u + 1
 ct : ∀ u,Q[k]? = some u → ∀ c ∈ (S.getD u []).take t,c ∈ Q ∧ d c ≤ d u + 1
theorem nd_cap {n : Nat} : ∀ {Q : List Nat},Q.Nodup → (∀ z ∈ Q,z < n) → Q.length ≤ n:=fun {Q} nd lt => by
 apply Decidable.byContradiction
 intro hc
 obtain ⟨i,j,h1,h2,h3⟩:=pigeon n (fun i => Q.getD i 0) (fun i hi => by
  have hl : i < Q.length:=by omega
  simp only [List.getD_eq_getElem?_getD,List.getElem?_eq_getElem hl,Option.getD_some]
  exact lt _ (List.getElem_mem hl))
 have hj : j < Q.length:=by omega
 have hi : i < Q.length:=by omega
 simp only [List.getD_eq_getElem?_getD,List.getElem?_eq_getElem hi,List.getElem?_eq_getElem hj,Option.getD_some] at h3
 have:=(List.pairwise_iff_getElem.1 nd) i j hi hj h1
 exact this h3
variable {f k t u : Nat} {d : Nat → Nat} {Q : List Nat}
theorem BQ.len (b : BQ S f d Q k t) : Q.length ≤ S.length:=nd_cap b.nd b.lt
theorem BQ.fQ (b : BQ S f d Q k t) : f ∈ Q:=List.mem_iff_getElem?.2 ⟨0,b.q0⟩
theorem BQ.uQ (b : BQ S f d Q k t) (hu : Q[k]? = some u) : u ∈ Q:=List.mem_iff_getElem?.2 ⟨k,hu⟩
theorem take_s {L : List Nat} {t c : Nat} (h : L[t]? = some c) : L.take (t + 1) = L.take t ++ [c]:=by
 rw [List.take_add_one,h]; rfl
theorem BQ.old (b : BQ S f d Q k t) (hu : Q[k]? = some u) {c : Nat} (hc : (S.getD u [])[t]? = some c) (hQ : c ∈ Q) : BQ S f d Q k (t + 1) :=
 ⟨b.q0,b.f0,b.nd,b.lt,b.wk,b.so,b.la,b.dl,b.ch,fun u' hu' x hx => by
  rw [hu] at hu'; cases hu'
  rw [take_s hc] at hx
  rcases List.mem_append.1 hx with a | a
  ·exact b.ct u hu x a
  ·rw [List.mem_singleton.1 a]
   obtain ⟨j,hj⟩:=List.mem_iff_getElem?.1 hQ
   exact ⟨hQ,b.la j u c hu hj⟩⟩
theorem BQ.new (lt : ∀ i,∀ j ∈ S.getD i [],j < S.length) (b : BQ S f d Q k t) (hu : Q[k]? = some u) {c : Nat} (hc : (S.getD u [])[t]? = some c) (hQ : c ∉ Q) : BQ S f (fun z => if z = c then d u + 1 else d z) (Q ++ [c]) k (t + 1):=by
 have old : ∀ z,z ∈ Q → (if z = c then d u + 1 else d z) = d z:=fun z hz => if_neg fun e => hQ (by rw [← e]; exact hz)
 have cS : c ∈ S.getD u []:=List.mem_iff_getElem?.2 ⟨t,hc⟩
 have uQ:=b.uQ hu
 have hk:=(List.getElem?_eq_some_iff.1 hu).1
 have app : ∀ {j w : Nat},(Q ++ [c])[j]? = some w → Q[j]? = some w ∨ (j = Q.length ∧ w = c):=fun {j w} h => by
  by_cases hj : j < Q.length
  ·left; rwa [List.getElem?_append_left hj] at h
  ·right
   have h3:=(List.getElem?_eq_some_iff.1 h).1
   simp only [List.length_append,List.length_singleton] at h3
   have e : j = Q.length:=by omega
   subst e
   rw [List.getElem?_append_right (Nat.le_refl _),Nat.sub_self] at h
   exact ⟨rfl,(Option.some.inj h).symm⟩
 have mem : ∀ {j w : Nat},Q[j]? = some w → w ∈ Q:=fun h => List.mem_iff_getElem?.2 ⟨_,h⟩
 have hu' : (Q ++ [c])[k]? = some u:=by rw [List.getElem?_append_left hk]; exact hu
 constructor
 ·have : 0 < Q.length:=(List.getElem?_eq_some_iff.1 b.q0).1
  rw [List.getElem?_append_left this]; exact b.q0
 ·show (if f = c then d u + 1 else d f) = 0
  rw [old f b.fQ,b.f0]
 ·rw [List.nodup_append]
  exact ⟨b.nd,by simp,fun x hx y hy e => hQ (by rw [← List.mem_singleton.1 hy,← e]; exact hx)⟩
 ·intro z hz
  rcases List.mem_append.1 hz with a | a
  ·exact b.lt z a
  ·rw [List.mem_singleton.1 a]; exact lt _ _ cS
 ·intro z hz
  rcases List.mem_append.1 hz with a | a
  ·show Rw S (if z = c then d u + 1 else d z) f z
   rw [old z a]; exact b.wk z a
  ·rw [List.mem_singleton.1 a]
   show Rw S (if c = c then d u + 1 else d c) f c
   rw [if_pos rfl]
   exact (b.wk u uQ).snoc cS
 ·intro i j x w hij hx hw
  show (if x = c then d u + 1 else d x) ≤ (if w = c then d u + 1 else d w)
  rcases app hx with a | ⟨a,rfl⟩
  ·rw [old x (mem a)]
   rcases app hw with a' | ⟨a',rfl⟩
   ·rw [old w (mem a')]; exact b.so i j x w hij a a'
   ·rw [if_pos rfl]; exact b.la i u x hu a
  ·rcases app hw with a' | ⟨a',rfl⟩
   ·have:=(List.getElem?_eq_some_iff.1 a').1
    omega
   ·rw [if_pos rfl]; exact Nat.le_refl _
 ·intro j x w hx hw
  rw [hu'] at hx; cases hx
  show (if w = c then d u + 1 else d w) ≤ (if u = c then d u + 1 else d u) + 1
  rw [old u uQ]
  rcases app hw with a' | ⟨a',rfl⟩
  ·rw [old w (mem a')]; exact b.la j u w hu a'
  ·rw [if_pos rfl]; exact Nat.le_refl _
 ·intro j w hw
  show (if w = c then d u + 1 else d w) ≤ j
  rcases app hw with a' | ⟨a',rfl⟩
  ·rw [old w (mem a')]; exact b.dl j w a'
  ·rw [if_pos rfl]
   have:=b.dl k u hu
   omega
 ·intro i x hi hx y hy
  rcases app hx with a | ⟨a,rfl⟩
  ·obtain ⟨h1,h2⟩:=b.ch i x hi a y hy
   refine ⟨List.mem_append_left _ h1,?_⟩
   show (if y = c then d u + 1 else d y) ≤ (if x = c then d u + 1 else d x) + 1
   rw [old y h1,old x (mem a)]; exact h2
  ·omega
 ·intro x hx y hy
  rw [hu'] at hx; cases hx
  rw [take_s hc] at hy
  show y ∈ Q ++ [c] ∧ (if y = c then d u + 1 else d y) ≤ (if u = c then d u + 1 else d u) + 1
  rw [old u uQ]
  rcases List.mem_append.1 hy with a | a
  ·obtain ⟨h1,h2⟩:=b.ct u hu y a
   rw [old y h1]
   exact ⟨List.mem_append_left _ h1,h2⟩
  ·rw [List.mem_singleton.1 a,if_pos rfl]
   exact ⟨by simp,Nat.le_refl _⟩
theorem BQ.next (b : BQ S f d Q k t) (hu : Q[k]? = some u) (ht : t = (S.getD u []).length) : BQ S f d Q (k + 1) 0 where
 q0:=b.q0
 f0:=b.f0
 nd:=b.nd
 lt:=b.lt
 wk:=b.wk
 so:=b.so
 la:=fun j x w hx hw => by
  have h1:=b.la j u w hu hw
  have h2:=b.so k (k + 1) u x (by omega) hu hx
  omega
 dl:=b.dl
 ch:=fun i x hi hx c hc => by
  by_cases e : i = k
  ·subst e
   rw [hu] at hx; cases hx
   exact b.ct u hu c (by rw [ht,List.take_length]; exact hc)
  ·exact b.ch i x (by omega) hx c hc
 ct:=fun u hu c hc => by simp at hc
def NF (S : List (List Nat)) (f : Nat) (Q : List Nat) (k t : Nat) : Prop:=(∀ (i u : Nat),i < k → Q[i]? = some u → f ∉ S.getD u []) ∧ ∀ u,Q[k]? = some u → f ∉ (S.getD u []).take t
theorem BQ.reach (b : BQ S f d Q k t) {s D : Nat} (hD : ∀ u,Q[k]? = some u → D ≤ d u) (hk : k ≤ Q.length) (hs : s < D ∨ Q.length = k) (nf : ∀ (i u : Nat),i < k → Q[i]? = some u → f ∉ S.getD u []) (w : Rw S (s + 1) f f) : False:=by
 have key : ∀ r z,Rw S r f z → r ≤ s → z ∈ Q ∧ d z ≤ r:=fun r => by
  induction r with
  | zero =>
   intro z hz _
   have e : f = z:=hz
   rw [← e]; exact ⟨b.fQ,by rw [b.f0]; exact Nat.le_refl _⟩
  | succ r ih =>
   intro z hz hr
   obtain ⟨y,h1,h2⟩:=hz.last
   obtain ⟨h3,h4⟩:=ih y h1 (by omega)
   obtain ⟨j,hj⟩:=List.mem_iff_getElem?.1 h3
   have hjl:=(List.getElem?_eq_some_iff.1 hj).1
   have : j < k:=by
    apply Decidable.byContradiction
    intro c
    have hkl : k < Q.length:=by omega
    have hkk:=List.getElem?_eq_getElem hkl
    have h5:=b.so k j _ y (by omega) hkk hj
    have h6:=hD _ hkk
    omega
   obtain ⟨h5,h6⟩:=b.ch j y this hj z h2
   exact ⟨h5,by omega⟩
 obtain ⟨y,h1,h2⟩:=w.last
 obtain ⟨h3,h4⟩:=key s y h1 (Nat.le_refl _)
 obtain ⟨j,hj⟩:=List.mem_iff_getElem?.1 h3
 have hjl:=(List.getElem?_eq_some_iff.1 hj).1
 have : j < k:=by
  apply Decidable.byContradiction
  intro c
  have hkl : k < Q.length:=by omega
  have hkk:=List.getElem?_eq_getElem hkl
  have h5:=b.so k j _ y (by omega) hkk hj
  have h6:=hD _ hkk
  omega
 exact nf j y this hj h2
def CY (S : List (List Nat)) (f m : Nat) : Prop:=Rw S (m + 1) f f ∧ ∀ s,Rw S (s + 1) f f → m ≤ s
theorem BQ.none (b : BQ S f d Q Q.length 0) (nf : NF S f Q Q.length 0) : ∀ s,¬ Rw S (s + 1) f f:=fun s w =>
 b.reach (D:=0) (fun u hu => Nat.zero_le _) (Nat.le_refl _) (.inr rfl) nf.1 w
theorem NF.skip (n : NF S f Q k t) (hu : Q[k]? = some u) {c : Nat} (hc : (S.getD u [])[t]? = some c) (hn : c ≠ f) : NF S f Q k (t + 1) :=
 ⟨n.1,fun u' hu' => by
  rw [hu] at hu'; cases hu'
  rw [take_s hc]
  intro hx
  rcases List.mem_append.1 hx with a | a
  ·exact n.2 u hu a
  ·exact hn (List.mem_singleton.1 a).symm⟩
theorem NF.push (n : NF S f Q k t) (hk : k < Q.length) (c : Nat) : NF S f (Q ++ [c]) k t :=
 ⟨fun i u hi hu => n.1 i u hi (by rwa [List.getElem?_append_left (by omega)] at hu),fun u hu => n.2 u (by rwa [List.getElem?_append_left hk] at hu)⟩
theorem NF.next (n : NF S f Q k t) (hu : Q[k]? = some u) (ht : t = (S.getD u []).length) : NF S f Q (k + 1) 0 :=
 ⟨fun i x hi hx => by
  by_cases e : i = k
  ·subst e
   rw [hu] at hx; cases hx
   have:=n.2 u hu
   rwa [ht,List.take_length] at this
  ·exact n.1 i x (by omega) hx,fun x hx => by simp⟩
def PRT (S : List (List Nat)) (f : Nat) (d : Nat → Nat) (Q : List Nat) (E : List (Nat × Int)) : Prop :=
 fm f E = none ∧ ∀ z,z ≠ f → (z ∉ Q → fm z E = none) ∧ (z ∈ Q → ∃ p : Nat,fm z E = some (p : Int) ∧ p ∈ Q ∧ z ∈ S.getD p [] ∧ d z = d p + 1)
theorem PRT.new {E : List (Nat × Int)} (p : PRT S f d Q E) (uQ : u ∈ Q) (fQ : f ∈ Q) {c : Nat} (hc : c ∈ S.getD u []) (hQ : c ∉ Q) : PRT S f (fun z => if z = c then d u + 1 else d z) (Q ++ [c]) (pm c (u : Int) E):=by
 have cf : ¬ f = c:=fun e => hQ (by rw [← e]; exact fQ)
 have old : ∀ z,z ∈ Q → (if z = c then d u + 1 else d z) = d z:=fun z hz => if_neg fun e => hQ (by rw [← e]; exact hz)
 refine ⟨by rw [fm_pm,if_neg cf]; exact p.1,fun z hz => ⟨fun h => ?_,fun h => ?_⟩⟩
 ·rw [fm_pm,if_neg (fun e => h (by rw [e]; simp))]
  exact (p.2 z hz).1 fun e => h (List.mem_append_left _ e)
 ·by_cases e : z = c
  ·subst e
   refine ⟨u,by rw [fm_pm,if_pos rfl],List.mem_append_left _ uQ,hc,?_⟩
   show (if z = z then d u + 1 else d z) = (if u = z then d u + 1 else d u) + 1
   rw [if_pos rfl,old u uQ]
  ·have hzQ : z ∈ Q:=by
    rcases List.mem_append.1 h with a | a
    ·exact a
    ·exact absurd (List.mem_singleton.1 a) e
   obtain ⟨q,h1,h2,h3,h4⟩:=(p.2 z hz).2 hzQ
   refine ⟨q,by rw [fm_pm,if_neg e]; exact h1,List.mem_append_left _ h2,h3,?_⟩
   show (if z = c then d u + 1 else d z) = (if q = c then d u + 1 else d q) + 1
   rw [old z hzQ,old q h2]; exact h4
def par (E : List (Nat × Int)) (i : Nat) : Nat:=match fm i E with | some z => z.toNat | none => 0
def itp (E : List (Nat × Int)) : Nat → Nat → Nat
 | 0,i => i
 | s + 1,i => itp E s (par E i)
theorem itp_succ (E : List (Nat × Int)) : ∀ s i,itp E (s + 1) i = par E (itp E s i)
 | 0,i => rfl
 | s + 1,i => itp_succ E s (par E i)
theorem PRT.step {E : List (Nat × Int)} (p : PRT S f d Q E) {z : Nat} (hz : z ∈ Q) (hn : z ≠ f) : fm z E = some (par E z : Int) ∧ par E z ∈ Q ∧ z ∈ S.getD (par E z) [] ∧ d z = d (par E z) + 1:=by
 obtain ⟨q,h1,h2,h3,h4⟩:=(p.2 z hn).2 hz
 have e : par E z = q:=by unfold par; rw [h1]; simp
 rw [e]
 exact ⟨h1,h2,h3,h4⟩
theorem PRT.back {E : List (Nat × Int)} (b : BQ S f d Q k t) (p : PRT S f d Q E) (hu : u ∈ Q) : ∀ {s},s ≤ d u → itp E s u ∈ Q ∧ d (itp E s u) + s = d u
 | 0,_ => ⟨hu,rfl⟩
 | s + 1,h => by
  obtain ⟨h1,h2⟩:=PRT.back b p hu (s:=s) (by omega)
  have hn : itp E s u ≠ f:=fun e => by rw [e,b.f0] at h2; omega
  obtain ⟨_,h3,_,h4⟩:=p.step h1 hn
  rw [itp_succ]
  exact ⟨h3,by omega⟩
def RG (S : List (List Nat)) (L : List Nat) : Prop:=(∀ c ∈ L,c < S.length) ∧ (∀ (t a b : Nat),L[t]? = some a → L[t + 1]? = some b → b ∈ S.getD a []) ∧ ∀ a b : Nat,L[0]? = some a → L[L.length - 1]? = some b → a ∈ S.getD b []
def MC (S : List (List Nat)) (n : Nat) (m : Nat) : Prop:=(m = 0 ∧ ∀ f s,f < n → ¬ Rw S (s + 1) f f) ∨ ∃ r,m = r + 1 ∧ (∃ f,f < n ∧ Rw S (r + 1) f f) ∧ ∀ f s,f < n → Rw S (s + 1) f f → r ≤ s
theorem MC.nil : MC S 0 0:=.inl ⟨rfl,fun f s h => absurd h (by omega)⟩
theorem MC.skip {n m : Nat} (h : MC S n m) (g : ∀ s,¬ Rw S (s + 1) n n) : MC S (n + 1) m:=by
 have sp : ∀ {P : Nat → Prop},(∀ f,f < n → P f) → P n → ∀ f,f < n + 1 → P f:=fun h1 h2 f hf => by
  by_cases e : f = n
  ·rw [e]; exact h2
  ·exact h1 f (by omega)
 rcases h with ⟨rfl,h⟩ | ⟨r,rfl,⟨f,h1,h2⟩,h3⟩
 ·exact .inl ⟨rfl,fun f s hf => sp (P:=fun f => ¬ Rw S (s + 1) f f) (fun f hf => h f s hf) (g s) f hf⟩
 ·exact .inr ⟨r,rfl,⟨f,by omega,h2⟩,fun f s hf => sp (P:=fun f => Rw S (s + 1) f f → r ≤ s) (fun f hf => h3 f s hf) (fun w => absurd w (g s)) f hf⟩
theorem MC.put {n m r : Nat} (h : MC S n m) (g : CY S n r) : MC S (n + 1) (if m = 0 ∨ r + 1 < m then r + 1 else m):=by
 have sp : ∀ {P : Nat → Prop},(∀ f,f < n → P f) → P n → ∀ f,f < n + 1 → P f:=fun h1 h2 f hf => by
  by_cases e : f = n
  ·rw [e]; exact h2
  ·exact h1 f (by omega)
 rcases h with ⟨rfl,h⟩ | ⟨q,rfl,⟨f,h1,h2⟩,h3⟩
 ·rw [if_pos (.inl rfl)]
  exact .inr ⟨r,rfl,⟨n,by omega,g.1⟩,fun f s hf => sp (P:=fun f => Rw S (s + 1) f f → r ≤ s) (fun f hf w => absurd w (h f s hf)) (g.2 s) f hf⟩
 ·by_cases c : r + 1 < q + 1
  ·rw [if_pos (.inr c)]
   exact .inr ⟨r,rfl,⟨n,by omega,g.1⟩,fun f s hf => sp (P:=fun f => Rw S (s + 1) f f → r ≤ s) (fun f hf w => Nat.le_trans (by omega) (h3 f s hf w)) (g.2 s) f hf⟩
  ·rw [if_neg (by omega)]
   exact .inr ⟨q,rfl,⟨f,by omega,h2⟩,fun f s hf => sp (P:=fun f => Rw S (s + 1) f f → q ≤ s) (fun f hf => h3 f s hf) (fun w => Nat.le_trans (by omega) (g.2 s w)) f hf⟩
end
end Go.Proofs.Ytljgfdamdcikgaa.Ev
set_option linter.unusedVariables false
set_option linter.unusedSimpArgs false
namespace Go.Proofs.Ytljgfdamdcikgaa.Ev
open Go Go.AEv
attribute [local simp] evFunc initS evOps_c evTrim_c evSkip_c evExit_c evRet_c evSeq_c evCond_c evBlock_c evDraw_c runOps_n runOps_c exec_n exec_g pure1_c act AOpd.ev T.get T.set T.put evBin evUn forceT_eq forceV_eq forceL_eq evRess evRes one keep runFP_n runFP_c app_none AV.flats AV.flat came_some List.getElem?_cons_zero List.getElem?_cons_succ beqT wrapI idxI tdivI tmodI decT decF ibT ibF inT inF evScope_c if_pos if_neg Cm_some thenW_n thenW_e thenW_r blkW_n blkW_e blkW_r goI kn putAt AV.cells fillA loadA takeA mk Eff.isAll Eff.isNone Eff.commutes Eff.spares okPair apart eqAgg fits LK.fits allEq aveq eqk mmA
theorem W.loop {tbl : Nat → Option CFunc} {I : CallF} {live : List Path} {c : CCode} {s : T} {h : Heap} {Q : PQ} (x : W tbl I (.trim live c) s h (thenW tbl I (.loop live c) Q)) : W tbl I (.loop live c) s h Q:=by
 obtain ⟨e,s1,h1,⟨n,r⟩,q⟩:=x
 cases e with
 | normal =>
  obtain ⟨e2,s2,h2,r2,q2⟩:=q
  exact ⟨e2,s2,h2,Runs.loop_next ⟨n,r⟩ r2,q2⟩
 | exit i => exact ⟨_,s1,h1,Runs.loop_out ⟨n,r⟩ (by simp),q⟩
 | ret => exact ⟨_,s1,h1,Runs.loop_out ⟨n,r⟩ (by simp),q⟩
theorem gD_some {L : List Nat} {t : Nat} (h : t < L.length) : L[t]? = some (L.getD t 0):=by
 rw [List.getD_eq_getElem?_getD,List.getElem?_eq_getElem h]; rfl
theorem gn_app (L : List Nat) (c : Nat) : gn (L ++ [c]) = gn L ++ [G c]:=by simp [gn]
section
variable {S : List (List Nat)} {p f : Nat}
structure RM (h0 : Heap) (E : List (Nat × Int)) (xq : AV) (U : List Nat) (h : Heap) : Prop where
 kf : Kp (fun _ => False) (frameOf h0) h
 gm : h.get h0.size = .map (mv E)
 lq : ∃ b,xq = .slice b 0 U.length U.length ∧ h.get b = .cells 1 U.length (gn U) ∧ h0.size < b
theorem frS (h : Heap) : (frameOf h).size = h.size:=by simp [frameOf,Heap.size]
theorem RM.put {h0 h : Heap} {E : List (Nat × Int)} {xq : AV} {U : List Nat} (r : RM h0 E xq U h) (c : Nat) (z : Int) : ∃ H,Eff.app (.mput h0.size (mv (pm c z E))) h = some H ∧ RM h0 (pm c z E) xq U H:=by
 have hN : h.N = h0.size:=r.kf.N
 have blt:=get_lt r.gm (by simp)
 refine ⟨_,mput_gen h h0.size _ _ (by omega) r.gm,r.kf.updn _ _ (by omega) (by rw [frS]; omega),upd_same _ _ _ (by omega) blt,?_⟩
 obtain ⟨b,e1,e2,e3⟩:=r.lq
 exact ⟨b,e1,by rw [upd_ne _ _ _ _ (by omega) (by omega)]; exact e2,e3⟩
theorem RM.push {h0 h : Heap} {E : List (Nat × Int)} {xq : AV} {U : List Nat} (k0 : Nat) (r : RM h0 E xq U h) (c : Nat) (hn : U.length ≤ 1000) :
  ∃ x1 e H,appA (h.plus [.cells 1 1 [G c]]) k0 none 1 8 1 [G c] xq = some (x1,e) ∧ Eff.app e (h.plus [.cells 1 1 [G c]]) = some H ∧ RM h0 E x1 (U ++ [c]) H:=by
 have hN : h.N = h0.size:=r.kf.N
 obtain ⟨b,rfl,e2,e3⟩:=r.lq
 have g2:=plus_keep [.cells 1 1 [G (c : Int)]] e2 (by simp)
 have hN' : (h.plus [.cells 1 1 [G (c : Int)]]).N ≤ b:=by rw [plus_N]; omega
 have x:=ext_gen (h.plus [.cells 1 1 [G (c : Int)]]) b U.length 1 (gn U) [G c] hN' g2 (gn_len U)
 have blt:=get_lt e2 (by simp)
 refine ⟨.slice b 0 (U.length + 1) (U.length + 1),.ext b U.length 1 [G c],_,?_,x,(r.kf.trans (Kp.plus _ _)).updn _ _ hN' (by rw [frS]; omega),?_,b,by simp,?_,e3⟩
 ·simp only [appA,Nat.mul_one,Nat.one_mul]
  rw [if_neg (by decide),if_pos ⟨trivial,by simp,by omega⟩]
 ·rw [upd_ne _ _ _ _ hN' (by omega)]; exact plus_keep _ r.gm (by simp)
 ·rw [upd_same _ _ _ hN' (by rw [plus_size]; omega),gn_app]
  simp [gn_len]
structure RB7 (S : List (List Nat)) (f : Nat) (h0 : Heap) (k t : Nat) (E : List (Nat × Int)) (xq : AV) (U : List Nat) (d : Nat → Nat) (h : Heap) : Prop where
 bq : BQ S f d U k t
 nf : NF S f U k t
 pr : PRT S f d U E
 rm : RM h0 E xq U h
end
section
variable {S : List (List Nat)} {p f : Nat}
def OR (S : List (List Nat)) (p f : Nat) (h0 : Heap) (k : Nat) : SP:=fun s h => ∃ E xq U d,RB7 S f h0 k 0 E xq U d h ∧ k ≤ U.length ∧ s.get [] = .ptr p 0 3 ∧ s.get [false] = G f ∧ s.get [false,true] = .map h0.size ∧ s.get [true,true] = xq ∧ s.get [false,false,false] = G k
def Post74 (S : List (List Nat)) (f : Nat) (h : Heap) (v : AV) (own : List AObj) : Prop:=((∀ s,¬ Rw S (s + 1) f f) → v = .nils ∧ own = []) ∧ ((∃ s,Rw S (s + 1) f f) → ∃ L m,CY S f m ∧ RG S L ∧ L.length = m + 1 ∧ RV (h.plus own) v (gn L))
end
structure A74 where
 p : Nat
 f : Nat
 S : List (List Nat)
def Ok74 (b : A74) (h : Heap) : Prop:=OkS b.S ∧ LF h b.p b.S ∧ b.f < b.S.length
def Pre74 (b : A74) (args : List AV) (h : Heap) : Prop:=Ok74 b h ∧ args = [.ptr b.p 0 3,G b.f]
def Po74 (b : A74) (h : Heap) (v : AV) (own : List AObj) : Prop:=Post74 b.S b.f h v own
noncomputable def T53 : CallF:=addK tbl T52 74 Pre74 Po74
theorem t53 : Sound Go.Proofs.Try.prog T53:=Sound.addK follows ok t52 (by decide) _ _
section
variable {S R : List (List Nat)} {p : Nat}
def rT2 (R : List (List Nat)) (L : List Nat) : List (List Nat):=L.map fun c => R.getD c []
end
def Post36 (a : AR) (m : Int) (h : Heap) (v : AV) (own : List AObj) : Prop :=
 (a.rm m = false → v = .tup [.nils,G 2] ∧ own = []) ∧
 (a.rm m = true → MC (a.steps m) (a.steps m).length 0 → v = .tup [.nils,G 6] ∧ own = []) ∧
 (a.rm m = true → ¬ MC (a.steps m) (a.steps m).length 0 → ∃ x L,v = .tup [x,G 0] ∧ L ≠ [] ∧ MC (a.steps m) (a.steps m).length L.length ∧ RG (a.steps m) L ∧ RV (h.plus own) x (wsL (rT2 (a.rows m) L)))
section
variable {a : AR} {m : Int}
end
def Po36 (b : ARm) (h : Heap) (v : AV) (own : List AObj) : Prop:=Post36 b.a b.m h v own
noncomputable def T54 : CallF:=addK tbl T53 36 PreRm Po36
theorem t54 : Sound Go.Proofs.Try.prog T54:=Sound.addK follows ok t53 (by decide) _ _
def bb (p : Nat → Bool) (n : Nat) : List AV:=(List.range n).map fun i => .bool (p i)
theorem bb_len (p : Nat → Bool) (n : Nat) : (bb p n).length = n:=by simp [bb]
theorem bb_at (p : Nat → Bool) {n i : Nat} (h : i < n) : (bb p n)[i]? = some (.bool (p i)):=by
 unfold bb
 rw [List.getElem?_map,List.getElem?_range h]; rfl
theorem bb_ext {p r : Nat → Bool} {n : Nat} (h : ∀ t,t < n → p t = r t) : bb p n = bb r n:=by
 unfold bb
 apply List.map_congr_left
 intro t ht
 rw [h t (List.mem_range.1 ht)]
theorem bb_set (p : Nat → Bool) {n i : Nat} (h : i < n) (v : Bool) : (bb p n).set i (.bool v) = bb (fun t => if t = i then v else p t) n:=by
 apply List.ext_getElem?
 intro j
 by_cases hj : j < n
 ·rw [bb_at _ hj]
  by_cases e : i = j
  ·subst e
   rw [List.getElem?_set_self (by rw [bb_len]; exact h),if_pos rfl]
  ·rw [List.getElem?_set_ne e,bb_at _ hj,if_neg (fun h => e h.symm)]
 ·rw [List.getElem?_eq_none (by rw [List.length_set,bb_len]; omega),List.getElem?_eq_none (by rw [bb_len]; omega)]
structure BB (Hk h : Heap) (b n : Nat) (p : Nat → Bool) : Prop where
 kp : Kp (fun _ => False) Hk h
 g : h.get b = .cells 1 n (bb p n)
theorem BB.put {Hk h : Heap} {b n : Nat} {p : Nat → Bool} (t : BB Hk h b n p) (hb : Hk.size ≤ b) (hN : Hk.N ≤ b) {i : Nat} (hi : i < n) (v : Bool) : ∃ H,Eff.app (.put b n i [.bool v]) h = some H ∧ BB Hk H b n (fun t => if t = i then v else p t):=by
 have hNh : h.N ≤ b:=by rw [t.kp.N]; exact hN
 refine ⟨_,put_gen h b n i 1 _ _ hNh t.g (by rw [bb_len]; show i + 1 ≤ n; omega),t.kp.updn b _ hNh hb,?_⟩
 rw [upd_same _ _ _ hNh (get_lt t.g (by simp))]
 simp only [putAt]
 rw [bb_set _ hi]
theorem BB.ext {Hk h : Heap} {b n : Nat} {p r : Nat → Bool} (t : BB Hk h b n p) (e : ∀ u,u < n → p u = r u) : BB Hk h b n r:=⟨t.kp,by rw [← bb_ext e]; exact t.g⟩
section
variable {S : List (List Nat)}
def nq (S : List (List Nat)) (p : Nat → Bool) (i t u : Nat) : Bool:=if u < i then (S.getD u []).any p else if u = i then ((S.getD i []).take t).any p else false
end
section
variable {S : List (List Nat)}
end
section
variable {a : AR} {m : Int}
end
def Pre37 (b : ARm) (args : List AV) (h : Heap) : Prop:=(OkR b.a h ∧ b.a.rm b.m = true) ∧ args = [b.a.v,G b.m]
def Post37 (b : ARm) (h : Heap) (v : AV) (own : List AObj) : Prop:=v = G (lsV (b.a.steps b.m)) ∧ own = []
noncomputable def T55 : CallF:=addK tbl T54 37 Pre37 Post37
theorem t55 : Sound Go.Proofs.Try.prog T55:=Sound.addK follows ok t54 (by decide) _ _
end Go.Proofs.Ytljgfdamdcikgaa.Ev
set_option linter.unusedVariables false
set_option linter.unusedSimpArgs false
namespace Go.Proofs.Ytljgfdamdcikgaa.Ev
open Go Go.AEv
section
variable {S : List (List Nat)} {f k t u : Nat} {d : Nat → Nat} {U : List Nat}
theorem cy_ex : (∃ s,Rw S (s + 1) f f) → ∃ m,CY S f m:=by
 rintro ⟨s,w⟩
 induction s using Nat.strongRecOn with
 | _ s ih =>
  by_cases c : ∃ r,r < s ∧ Rw S (r + 1) f f
  ·obtain ⟨r,h1,h2⟩:=c
   exact ih r h1 h2
  ·refine ⟨s,w,fun r hr => ?_⟩
   apply Decidable.byContradiction
   intro h
   exact c ⟨r,by omega,hr⟩
structure O8 (S : List (List Nat)) (f : Nat) (d : Nat → Nat) (U : List Nat) (k t M o : Nat) : Prop where
 v : o = M ∨ ∃ i,i ∈ U ∧ o = d i + 1 ∧ f ∈ S.getD i []
 c : ∀ (j i : Nat),j < k → U[j]? = some i → f ∈ S.getD i [] → o ≠ 0 ∧ o ≤ d i + 1
 n : ∀ i,U[k]? = some i → f ∈ (S.getD i []).take t → o ≠ 0 ∧ o ≤ d i + 1
 m : M ≠ 0 → o ≠ 0 ∧ o ≤ M
theorem O8.skip {M o c : Nat} (l : O8 S f d U k t M o) (hu : U[k]? = some u) (hc : (S.getD u [])[t]? = some c) (hn : c ≠ f) : O8 S f d U k (t + 1) M o :=
 ⟨l.v,l.c,fun i hi h => by
  rw [hu] at hi; cases hi
  rw [take_s hc] at h
  rcases List.mem_append.1 h with a | a
  ·exact l.n u hu a
  ·exact absurd (List.mem_singleton.1 a).symm hn,l.m⟩
theorem O8.push {M o c : Nat} (l : O8 S f d U k t M o) (hk : k < U.length) (hc : c ∉ U) (w : Nat) : O8 S f (fun z => if z = c then w else d z) (U ++ [c]) k t M o:=by
 have old : ∀ z,z ∈ U → (if z = c then w else d z) = d z:=fun z hz => if_neg fun e => hc (by rw [← e]; exact hz)
 have mem : ∀ {j z : Nat},U[j]? = some z → z ∈ U:=fun h => List.mem_iff_getElem?.2 ⟨_,h⟩
 refine ⟨?_,fun j i hj hi hf => ?_,fun i hi hf => ?_,l.m⟩
 ·rcases l.v with h | ⟨i,h1,h2,h3⟩
  ·exact .inl h
  ·refine .inr ⟨i,List.mem_append_left _ h1,?_,h3⟩
   show o = (if i = c then w else d i) + 1
   rw [old i h1]; exact h2
 ·rw [List.getElem?_append_left (by omega)] at hi
  show o ≠ 0 ∧ o ≤ (if i = c then w else d i) + 1
  rw [old i (mem hi)]
  exact l.c j i hj hi hf
 ·rw [List.getElem?_append_left hk] at hi
  show o ≠ 0 ∧ o ≤ (if i = c then w else d i) + 1
  rw [old i (mem hi)]
  exact l.n i hi hf
theorem O8.next {M o : Nat} (l : O8 S f d U k t M o) (hu : U[k]? = some u) (ht : t = (S.getD u []).length) : O8 S f d U (k + 1) 0 M o :=
 ⟨l.v,fun j i hj hi hf => by
  by_cases e : j = k
  ·subst e
   rw [hu] at hi; cases hi
   exact l.n u hu (by rw [ht,List.take_length]; exact hf)
  ·exact l.c j i (by omega) hi hf,fun i _ h => by simp at h,l.m⟩
theorem BQ.key (b : BQ S f d U U.length 0) : ∀ r z,Rw S r f z → z ∈ U ∧ d z ≤ r:=fun r => by
 induction r with
 | zero =>
  intro z hz
  have e : f = z:=hz
  rw [← e]; exact ⟨b.fQ,by rw [b.f0]; exact Nat.le_refl _⟩
 | succ r ih =>
  intro z hz
  obtain ⟨y,h1,h2⟩:=hz.last
  obtain ⟨h3,h4⟩:=ih y h1
  obtain ⟨j,hj⟩:=List.mem_iff_getElem?.1 h3
  have hjl:=(List.getElem?_eq_some_iff.1 hj).1
  obtain ⟨h5,h6⟩:=b.ch j y hjl hj z h2
  exact ⟨h5,by omega⟩
theorem O8.done {M o : Nat} (b : BQ S f d U U.length 0) (l : O8 S f d U U.length 0 M o) (mc : MC S f M) : MC S (f + 1) o:=by
 by_cases c : ∃ s,Rw S (s + 1) f f
 ·obtain ⟨m,cy⟩:=cy_ex c
  have:=mc.put cy
  obtain ⟨y,h1,h2⟩:=cy.1.last
  obtain ⟨h3,h4⟩:=b.key m y h1
  obtain ⟨j,hj⟩:=List.mem_iff_getElem?.1 h3
  have h5:=l.c j y (List.getElem?_eq_some_iff.1 hj).1 hj h2
  have h6:=l.m
  have e : (if M = 0 ∨ m + 1 < M then m + 1 else M) = o:=by
   rcases l.v with h | ⟨i,a1,a2,a3⟩
   ·rw [if_neg (by omega)]; exact h.symm
   ·have:=cy.2 _ ((b.wk i a1).snoc a3)
    by_cases c2 : M = 0 ∨ m + 1 < M
    ·rw [if_pos c2]; omega
    ·rw [if_neg c2]
     have:=h6 (by omega)
     omega
  rw [e] at this
  exact this
 ·have nc : ∀ s,¬ Rw S (s + 1) f f:=fun s w => c ⟨s,w⟩
  rcases l.v with h | ⟨i,a1,a2,a3⟩
  ·rw [h]; exact mc.skip nc
  ·exact absurd ((b.wk i a1).snoc a3) (nc _)
end
end Go.Proofs.Ytljgfdamdcikgaa.Ev
set_option linter.unusedVariables false
set_option linter.unusedSimpArgs false
namespace Go.Proofs.Ytljgfdamdcikgaa.Ev
open Go Go.AEv
attribute [local simp] evFunc initS evOps_c evTrim_c evSkip_c evExit_c evRet_c evSeq_c evCond_c evBlock_c evDraw_c runOps_n runOps_c exec_n exec_g pure1_c act AOpd.ev T.get T.set T.put evBin evUn forceT_eq forceV_eq forceL_eq evRess evRes one keep runFP_n runFP_c app_none AV.flats AV.flat came_some List.getElem?_cons_zero List.getElem?_cons_succ beqT wrapI idxI tdivI tmodI decT decF ibT ibF inT inF evScope_c if_pos if_neg Cm_some thenW_n thenW_e thenW_r blkW_n blkW_e blkW_r goI kn putAt AV.cells fillA loadA takeA mk Eff.isAll Eff.isNone Eff.commutes Eff.spares okPair apart eqAgg fits LK.fits allEq aveq eqk mmA
section
variable {S : List (List Nat)} {f : Nat}
structure M8 (Hk : Heap) (n : Nat) (b : Nat) (far : Nat → Nat) (xq : AV) (U : List Nat) (h : Heap) : Prop where
 kf : Kp (fun _ => False) Hk h
 gf : h.get b = .cells 1 n (gn (lN far n))
 lq : ∃ bq,xq = .slice bq 0 U.length U.length ∧ h.get bq = .cells 1 U.length (gn U) ∧ Hk.size ≤ bq ∧ bq ≠ b
theorem M8.set {Hk h : Heap} {n b : Nat} {far : Nat → Nat} {xq : AV} {U : List Nat} (r : M8 Hk n b far xq U h) (hb : Hk.size ≤ b) (hN : Hk.N ≤ b) {c : Nat} (hc : c < n) (v : Nat) : ∃ H,Eff.app (.put b n c [G v]) h = some H ∧ M8 Hk n b (fun z => if z = c then v else far z) xq U H:=by
 have hNh : h.N ≤ b:=by rw [r.kf.N]; exact hN
 obtain ⟨bq,e1,e2,e3,e4⟩:=r.lq
 refine ⟨_,put_gen h b n c 1 _ _ hNh r.gf (by rw [lN_len]; show c + 1 ≤ n; omega),r.kf.updn b _ hNh hb,?_,bq,e1,?_,e3,e4⟩
 ·rw [upd_same _ _ _ hNh (get_lt r.gf (by simp))]
  simp only [putAt]
  rw [lN_set _ hc]
 ·rw [upd_ne _ _ _ _ hNh e4.symm]; exact e2
theorem M8.push {Hk h : Heap} {n b : Nat} {far : Nat → Nat} {xq : AV} {U : List Nat} (k0 : Nat) (r : M8 Hk n b far xq U h) (hkN : Hk.N ≤ Hk.size) (c : Nat) (hn : U.length ≤ 1000) :
  ∃ x1 e H,appA (h.plus [.cells 1 1 [G c]]) k0 none 1 8 1 [G c] xq = some (x1,e) ∧ Eff.app e (h.plus [.cells 1 1 [G c]]) = some H ∧ M8 Hk n b far x1 (U ++ [c]) H:=by
 obtain ⟨bq,rfl,e2,e3,e4⟩:=r.lq
 have g2:=plus_keep [.cells 1 1 [G (c : Int)]] e2 (by simp)
 have hN' : (h.plus [.cells 1 1 [G (c : Int)]]).N ≤ bq:=by rw [plus_N,r.kf.N]; omega
 have x:=ext_gen (h.plus [.cells 1 1 [G (c : Int)]]) bq U.length 1 (gn U) [G c] hN' g2 (gn_len U)
 have blt:=get_lt e2 (by simp)
 refine ⟨.slice bq 0 (U.length + 1) (U.length + 1),.ext bq U.length 1 [G c],_,?_,x,(r.kf.trans (Kp.plus _ _)).updn _ _ hN' e3,?_,bq,by simp,?_,e3,e4⟩
 ·simp only [appA,Nat.mul_one,Nat.one_mul]
  rw [if_neg (by decide),if_pos ⟨trivial,by simp,by omega⟩]
 ·rw [upd_ne _ _ _ _ hN' e4]; exact plus_keep _ r.gf (by simp)
 ·rw [upd_same _ _ _ hN' (by rw [plus_size]; omega),gn_app]
  simp [gn_len]
end
section
variable {S : List (List Nat)} {f : Nat}
end
section
variable {a : AR} {m : Int}
end
def Post38 (b : ARm) (h : Heap) (v : AV) (own : List AObj) : Prop:=∃ z : Nat,v = G z ∧ own = [] ∧ MC (b.a.steps b.m) (b.a.steps b.m).length z
noncomputable def T56 : CallF:=addK tbl T55 38 Pre37 Post38
theorem t56 : Sound Go.Proofs.Try.prog T56:=Sound.addK follows ok t55 (by decide) _ _
structure KS (a : AG) (m : Nat) (L : List (List Nat)) : Prop where
 w : ∀ w ∈ L,w.length = m ∧ (∀ c ∈ w,c < a.q) ∧ bsd a.B w = true
 n : ∀ i,i + 1 < L.length → blw a.W (L.getD i []) (L.getD (i + 1) []) = true
 l : L.length ≤ 1000
 m1 : 1 ≤ m
 m5 : m ≤ 5
section
variable {a : AG} {m : Nat} {L : List (List Nat)} {b v : Nat}
theorem KS.at {i : Nat} (k : KS a m L) (hi : i < L.length) : (L.getD i []).length = m ∧ (∀ c ∈ L.getD i [],c < a.q) ∧ bsd a.B (L.getD i []) = true:=k.w _ (by
 rw [List.getD_eq_getElem?_getD,List.getElem?_eq_getElem hi]
 exact List.getElem_mem _)
end
section
variable {a : AG} {w : List Nat} {b v i : Nat} {ws : List AV}
end
structure AK where
 a : AG
 m : Nat
 L : List (List Nat)
 b : Nat
 v : Nat
def Ok46 (b : AK) (h : Heap) : Prop:=OkG b.a h ∧ KS b.a b.m b.L ∧ h.get b.b = .cells 1 b.v (wsL b.L)
def Pre46 (b : AK) (args : List AV) (h : Heap) : Prop:=Ok46 b h ∧ args = [b.a.v,.slice b.b 0 b.L.length b.v]
def PostT (v : AV) (own : List AObj) : Prop:=v = .bool true ∧ own = []
noncomputable def T57 : CallF:=addK tbl T56 46 Pre46 (fun _ _ v own => PostT v own)
theorem t57 : Sound Go.Proofs.Try.prog T57:=Sound.addK follows ok t56 (by decide) _ _
def Ok40 (b : AK) (h : Heap) : Prop:=Ok46 b h ∧ b.L ≠ [] ∧ blw b.a.W (b.L.getD (b.L.length - 1) []) (b.L.getD 0 []) = true
def Pre40 (b : AK) (args : List AV) (h : Heap) : Prop:=Ok40 b h ∧ args = [b.a.v,.slice b.b 0 b.L.length b.v]
noncomputable def T58 : CallF:=addK tbl T57 40 Pre40 (fun _ _ v own => PostT v own)
theorem t58 : Sound Go.Proofs.Try.prog T58:=Sound.addK follows ok t57 (by decide) _ _
structure A39 where
 a : AG
 w : List Nat
 ws : List AV
 b : Nat
 v : Nat
 i : Nat
def Ok39 (b : A39) (h : Heap) : Prop:=b.a.q ≤ 3 ∧ (∀ c ∈ b.w,c < b.a.q) ∧ 1 ≤ b.w.length ∧ b.w.length ≤ 5 ∧ h.get b.b = .cells 1 b.v b.ws ∧ b.ws[b.i]? = some (.str (stW b.w))
def Pre39 (b : A39) (args : List AV) (h : Heap) : Prop:=Ok39 b h ∧ args = [b.a.v,.slice b.b b.i 1 b.v]
noncomputable def T59 : CallF:=addK tbl T58 39 Pre39 (fun _ _ v own => PostT v own)
theorem t59 : Sound Go.Proofs.Try.prog T59:=Sound.addK follows ok t58 (by decide) _ _
theorem rT2_at {L : List Nat} {R : List (List Nat)} {i : Nat} (hi : i < L.length) : (rT2 R L).getD i [] = R.getD (L.getD i 0) []:=by
 unfold rT2
 rw [List.getD_eq_getElem?_getD,List.getElem?_map,gD_some hi]; rfl
section
variable {nq m : Int} {X Y : List (List Int)}
end
theorem ba_get {c : List UInt8} {i : Nat} {u : UInt8} (h : c[i]? = some u) : (⟨c.toArray⟩ : ByteArray).get! i = u:=by
 show c.toArray[i]! = u
 simp [Array.getElem!_eq_getD,h]
theorem dec_lo {c : List UInt8} {pos : Nat} {u : UInt8} (h : c[pos]? = some u) (hu : u.toNat < 128) : Utf8.decode ⟨c.toArray⟩ pos = (u.toNat,1):=by
 unfold Utf8.decode
 simp only [Nat.add_zero,ba_get h]
 rw [if_pos hu]
theorem dec_hi {c : List UInt8} {pos : Nat} {u : UInt8} (h : c[pos]? = some u) (hu : 128 ≤ u.toNat) : 128 ≤ (Utf8.decode ⟨c.toArray⟩ pos).1 ∧ (Utf8.decode ⟨c.toArray⟩ pos).1 ≤ 1114111:=by
 unfold Utf8.decode
 simp only [Nat.add_zero,ba_get h]
 rw [if_neg (by omega)]
 have re : Utf8.runeError = 65533:=rfl
 have vd : ∀ r : Nat,Utf8.valid (r : Int) = true → r ≤ 1114111:=fun r hr => by
  unfold Utf8.valid at hr
  simp only [Bool.or_eq_true,Bool.and_eq_true,decide_eq_true_eq] at hr
  omega
 split
 ·split
  ·simp only
   omega
  ·simp only [re]; omega
 ·split
  ·split
   ·rename_i h1
    simp only [Bool.and_eq_true,decide_eq_true_eq] at h1
    have:=vd _ h1.2
    simp only
    omega
   ·simp only [re]; omega
  ·split
   ·split
    ·rename_i h1
     simp only [Bool.and_eq_true,decide_eq_true_eq] at h1
     have:=vd _ h1.2
     simp only
     omega
    ·simp only [re]; omega
   ·simp only [re]; omega
def goodB (q : Nat) (u : UInt8) : Bool:=decide (48 ≤ u.toNat ∧ u.toNat < 48 + q)
def goodS (q : Nat) (s : List UInt8) : Bool:=s.all (goodB q)
theorem inext0 (h : Heap) (c : List UInt8) (p p' : Nat) (b : Nat) (hb : h.size = b) : Eff.app (.inext b p') (h.plus [.iter c p]) = some (h.plus [.iter c p']):=by
 subst hb
 have hn : h.N ≤ h.size:=by unfold Heap.size; omega
 have e1 : (h.plus [.iter c p]).own[h.size - h.N]? = some (.iter c p):=by
  show (h.own ++ [.iter c p])[h.size - h.N]? = _
  rw [show h.size - h.N = h.own.length by unfold Heap.size; omega]
  simp
 simp only [Eff.app]
 rw [if_neg (by rw [plus_N]; omega),plus_N,e1]
 simp only [Heap.setOwn,forceL_eq,plus_N]
 congr 1
 unfold Heap.plus
 congr 1
 rw [show h.size - h.N = h.own.length by unfold Heap.size; omega]
 simp
def spec98 : SpecF:=fun args h => match args with
 | [.int .i32 c,.ptr b 0 3] => match h.get b with
  | .cells 0 3 [.int .i64 q,x,y] => if 0 ≤ c ∧ c ≤ 1114111 ∧ 0 ≤ q ∧ q ≤ 1000 then some (.bool (!decide (0 ≤ c - 48 ∧ c - 48 ≤ q - 1)),h.own,true) else none
  | _ => none
 | _ => none
theorem c98_ok (J : CallF) (k60 : K60 J) (hJ : ∀ a h,J 98 a h = none) (h : Heap) {b : Nat} {qq c : Int} {x y : AV} (gb : h.get b = .cells 0 3 [G qq,x,y]) (hc : 0 ≤ c ∧ c ≤ 1114111) (hq : 0 ≤ qq ∧ qq ≤ 1000) : CallsTo tbl J 98 [.int .i32 c,.ptr b 0 3] h (.bool (!decide (0 ≤ c - 48 ∧ c - 48 ≤ qq - 1)),h.own,true):=by
 refine Tr.sh (cf:=c98) (e:=.ret) (s:=T.set (T.set .leaf [] (.int .i32 c)) [false] (.ptr b 0 3)) (by decide) rfl (hJ _ _) rfl rfl (by simp) ?_
 have kk:=k60 (c - 48) 0 (qq - 1) h
 generalize decide (0 ≤ c - 48 ∧ c - 48 ≤ qq - 1) = z at *
 refine Tr.w fun s1 H1 hp R kR => ?_
 obtain ⟨rfl,rfl⟩:=hp
 have q : True:=trivial
 refine zCh ?_
 simp (disch:=first|omega|exact zE rfl|exact zO|exact zL rfl) [c98_o0,zG,q]
 refine zCh ?_
 simp (disch:=first|omega|exact zE rfl|exact zO|exact zL rfl) [c98_o1,zG,q,gb,kk,app_if,app_if']
 refine W.ret ?_
 try simp only [zW,if_true]
 exact kR _ _ ⟨⟨[.bool (!z)],by simp [T.get,c98,evRess,evRes],rfl⟩,rfl⟩
noncomputable def T60 : CallF:=addI T59 98 spec98
theorem k60_59 : K60 T59:=fun n lo hi h => by
 simp (disch:=decide) only [T1,T2,T3,T4,T5,T6,T7,T8,T9,T10,T11,T12,T13,T14,T15,T16,T17,T18,T19,T20,T21,T22,T23,T24,T25,T26,T27,T28,T29,T30,T31,T32,T33,T34,T35,T36,T37,T38,T39,T40,T41,T42,T43,T44,T45,T46,T47,T48,T49,T50,T51,T52,T53,T54,T55,T56,T57,T58,T59,addI_ne,addX_ne,addV_ne,addK_ne]
 exact k60 n lo hi h
theorem t60 : Sound Go.Proofs.Try.prog T60:=Sound.add follows ok t59 (by decide) (fun args h x e => by
 unfold spec98 at e
 split at e
 ·split at e
  ·rename_i g1
   split at e
   ·rename_i hn
    simp only [Option.some.injEq] at e; subst e
    exact c98_ok T59 k60_59 (fun _ _ => by simp (disch:=decide) only [T1,T2,T3,T4,T5,T6,T7,T8,T9,T10,T11,T12,T13,T14,T15,T16,T17,T18,T19,T20,T21,T22,T23,T24,T25,T26,T27,T28,T29,T30,T31,T32,T33,T34,T35,T36,T37,T38,T39,T40,T41,T42,T43,T44,T45,T46,T47,T48,T49,T50,T51,T52,T53,T54,T55,T56,T57,T58,T59,addI_ne,addX_ne,addV_ne,addK_ne]; rfl) h g1 ⟨hn.1,hn.2.1⟩ hn.2.2
   ·cases e
  ·cases e
 ·cases e)
abbrev K98 (J : CallF) : Prop:=∀ (h : Heap) (b : Nat) (q c : Int) (x y : AV),h.get b = .cells 0 3 [G q,x,y] → 0 ≤ c → c ≤ 1114111 → 0 ≤ q → q ≤ 1000 → J 98 [.int .i32 c,.ptr b 0 3] h = some (.bool (!decide (0 ≤ c - 48 ∧ c - 48 ≤ q - 1)),h.own,true)
theorem k98 : K98 T60:=fun h b q c x y g h1 h2 h3 h4 => by simp only [T60,addI,if_true,spec98,g]; rw [if_pos ⟨h1,h2,h3,h4⟩]
section
variable {b : Nat} {qq : Nat} {x y : AV} {c : List UInt8}
def ixS (qq : Nat) : List UInt8 → Nat → Int
 | [],_ => -1
 | u :: c,i => if goodB qq u then ixS qq c (i + 1) else i
theorem ixS_iff (qq : Nat) : ∀ (c : List UInt8) (i : Nat),(ixS qq c i = -1 ∨ 0 ≤ ixS qq c i) ∧ (decide (0 ≤ ixS qq c i) = !goodS qq c)
 | [],i => ⟨.inl rfl,rfl⟩
 | u :: c,i => by
  have ih:=ixS_iff qq c (i + 1)
  unfold ixS goodS
  rw [List.all_cons]
  cases h : goodB qq u
  ·rw [if_neg (by simp)]
   exact ⟨.inr (by omega),by simp⟩
  ·rw [if_pos rfl]
   exact ⟨ih.1,by rw [ih.2]; rfl⟩
set_option maxHeartbeats 1000000 in
theorem c112_l0_ok (J : CallF) (k98 : K98 J) {H0 : Heap} (gb : H0.get b = .cells 0 3 [G qq,x,y]) (q3 : qq ≤ 3) (hc : c.length ≤ 1000000) : ∀ (r : List UInt8) (i : Nat),c = c.take i ++ r → i + r.length = c.length →
  ∀ (s1 : T) (R : PQ),(s1.get [false] = .func 98 [.ptr b 0 3] ∧ s1.get [true] = .bool true ∧ s1.get [true,true,false] = .itr H0.size) → (ixS qq r i = -1 → ∀ s' h',True → R (.exit 0) s' h') → (ixS qq r i ≠ -1 → ∀ s' h',s'.get [true,true] = G (ixS qq r i) → R .ret s' h') → W tbl J c112_l0 s1 (H0.plus [.iter c i]) R:=by
 intro r
 induction r with
 | nil =>
  intro i e1 e2 s1 R q0 kA kB
  have kR:=kA rfl
  obtain rfl : i = c.length:=by simpa using e2
  have gI : (H0.plus [.iter c c.length]).get H0.size = .iter c c.length:=plus_at0 _ _ _ _ rfl
  have q:=q0
  clear kA kB e1 e2 gb q0
  generalize H0.plus [.iter c c.length] = H1 at *
  generalize hl : c.length = l at *
  refine W.loop (W.trim ?_)
  refine zCh ?_
  simp (disch:=first|omega|exact zE rfl|exact zO|exact zL rfl) [c112_o2,zG,q,gI,hl]
  refine zCh ?_
  simp (disch:=first|omega|exact zE rfl|exact zO|exact zL rfl) [zG,q]
  exact kR _ _ trivial
 | cons u r ih =>
  intro i e1 e2 s1 R q0 kA kB
  have hlt : i < c.length:=by simp at e2; omega
  have hu : c[i]? = some u:=by
   rw [e1,List.getElem?_append_right (by rw [List.length_take]; omega),List.length_take,Nat.min_eq_left (by omega),Nat.sub_self]; rfl
  have gI : (H0.plus [.iter c i]).get H0.size = .iter c i:=plus_at0 _ _ _ _ rfl
  have gbI : (H0.plus [.iter c i]).get b = .cells 0 3 [G qq,x,y]:=plus_keep _ gb (by simp)
  replace ih:=ih (i + 1) (by
   rw [List.take_add_one,hu]
   show c = c.take i ++ [u] ++ r
   rw [List.append_assoc]; exact e1) (by simp at e2; omega)
  have p1:=fun w => inext0 H0 c i (i + w) H0.size rfl
  have gb2 : ∀ w,(H0.plus [.iter c (i + w)]).get b = .cells 0 3 [G qq,x,y]:=fun w => plus_keep _ gb (by simp)
  have un : (ixS qq (u :: r) i) = if goodB qq u then ixS qq r (i + 1) else (i : Int):=rfl
  rw [un] at kA kB
  have q:=q0
  by_cases hhi : 128 ≤ u.toNat
  ·obtain ⟨d1,d2⟩:=dec_hi hu hhi
   have ng : goodB qq u = false:=by
    unfold goodB
    exact decide_eq_false (by omega)
   rw [if_neg (by rw [ng]; simp)] at kB
   have kR:=kB (by omega)
   obtain ⟨rn,w,hd⟩ : ∃ rn w,Utf8.decode ⟨c.toArray⟩ i = (rn,w):=⟨_,_,rfl⟩
   rw [hd] at d1 d2
   simp only at d1 d2
   have k:=k98 (H0.plus [.iter c (i + w)]) b qq rn x y (gb2 w) (by omega) (by omega) (by omega) (by omega)
   rw [decide_eq_false (by omega)] at k
   have p1:=p1 w
   have ow : (⟨(H0.plus [.iter c (i + w)]).lo,(H0.plus [.iter c (i + w)]).N,(H0.plus [.iter c (i + w)]).own⟩ : Heap) = H0.plus [.iter c (i + w)]:=rfl
   clear kA kB ih e1 e2 gb gb2 un q0 hu ng
   generalize H0.plus [.iter c (i + w)] = H2 at *
   generalize H0.plus [.iter c i] = H1 at *
   generalize hl : c.length = l at *
   refine W.loop (W.trim ?_)
   refine zCh ?_
   simp (disch:=first|omega|exact zE rfl|exact zO|exact zL rfl) [c112_o2,zG,q,gI,hl,hd,p1]
   refine zCh ?_
   simp (disch:=first|omega|exact zE rfl|exact zO|exact zL rfl) [zG,q]
   refine W.block ?_
   refine zCh ?_
   simp (disch:=first|omega|exact zE rfl|exact zO|exact zL rfl) [c112_o3,zG,q]
   refine zCh ?_
   simp (disch:=first|omega|exact zE rfl|exact zO|exact zL rfl) [c112_o4,zG,q,k,ow]
   refine W.chunk ?_
   simp (disch:=first|omega|exact zE rfl|exact zO|exact zL rfl) [c112_o5,zG,q]
   exact kR _ _ (by simp [T.get,q])
  ·have hd:=dec_lo hu (by omega)
   have k:=k98 (H0.plus [.iter c (i + 1)]) b qq u.toNat x y (gb2 1) (by omega) (by omega) (by omega) (by omega)
   have p1:=p1 1
   have ow : (⟨(H0.plus [.iter c (i + 1)]).lo,(H0.plus [.iter c (i + 1)]).N,(H0.plus [.iter c (i + 1)]).own⟩ : Heap) = H0.plus [.iter c (i + 1)]:=rfl
   have gd : goodB qq u = decide (48 ≤ u.toNat ∧ u.toNat < 48 + qq):=rfl
   by_cases hg : 48 ≤ u.toNat ∧ u.toNat < 48 + qq
   ·rw [decide_eq_true hg] at gd
    rw [if_pos gd] at kA kB
    rw [decide_eq_true (by omega)] at k
    replace ih:=fun s' h2 => ih s' R h2 kA kB
    have i1 : ((i + 1 : Nat) : Int) = (i : Int) + 1:=by omega
    clear kA kB e1 e2 gb gb2 un q0 hu gd
    generalize H0.plus [.iter c (i + 1)] = H2 at *
    generalize H0.plus [.iter c i] = H1 at *
    generalize hl : c.length = l at *
    generalize u.toNat = un at *
    refine W.loop (W.trim ?_)
    refine zCh ?_
    simp (disch:=first|omega|exact zE rfl|exact zO|exact zL rfl) [c112_o2,zG,q,gI,hl,hd,p1]
    refine zCh ?_
    simp (disch:=first|omega|exact zE rfl|exact zO|exact zL rfl) [zG,q]
    refine W.block ?_
    refine zCh ?_
    simp (disch:=first|omega|exact zE rfl|exact zO|exact zL rfl) [c112_o3,zG,q]
    refine zCh ?_
    simp (disch:=first|omega|exact zE rfl|exact zO|exact zL rfl) [c112_o4,zG,q,k,ow]
    refine W.chunk ?_
    simp (disch:=first|omega|exact zE rfl|exact zO|exact zL rfl) [c112_o5,zG,q]
    refine ih _ ?_
    simp [T.get,q]
   ·rw [decide_eq_false hg] at gd
    rw [if_neg (by rw [gd]; simp)] at kB
    have kR:=kB (by omega)
    rw [decide_eq_false (by omega)] at k
    clear kA kB ih e1 e2 gb gb2 un q0 hu gd
    generalize H0.plus [.iter c (i + 1)] = H2 at *
    generalize H0.plus [.iter c i] = H1 at *
    generalize hl : c.length = l at *
    generalize u.toNat = un at *
    refine W.loop (W.trim ?_)
    refine zCh ?_
    simp (disch:=first|omega|exact zE rfl|exact zO|exact zL rfl) [c112_o2,zG,q,gI,hl,hd,p1]
    refine zCh ?_
    simp (disch:=first|omega|exact zE rfl|exact zO|exact zL rfl) [zG,q]
    refine W.block ?_
    refine zCh ?_
    simp (disch:=first|omega|exact zE rfl|exact zO|exact zL rfl) [c112_o3,zG,q]
    refine zCh ?_
    simp (disch:=first|omega|exact zE rfl|exact zO|exact zL rfl) [c112_o4,zG,q,k,ow]
    refine W.chunk ?_
    simp (disch:=first|omega|exact zE rfl|exact zO|exact zL rfl) [c112_o5,zG,q]
    exact kR _ _ (by simp [T.get,q])
end
section
variable {b qq : Nat} {x y : AV} {c : List UInt8}
theorem c112_ok (J : CallF) (k98 : K98 J) (hJ : ∀ a h,J 112 a h = none) (h : Heap) (gb : h.get b = .cells 0 3 [G qq,x,y]) (q3 : qq ≤ 3) (hc : c.length ≤ 1000000) : CallsTo tbl J 112 [.str c,.func 98 [.ptr b 0 3],.bool true] h (G (ixS qq c 0),[],false):=by
 refine Tr.fnv (cf:=c112) (e:=.ret) (s:=T.set (T.set (T.set .leaf [] (.str c)) [false] (.func 98 [.ptr b 0 3])) [true] (.bool true)) (by decide) rfl (hJ _ _) rfl rfl rfl (by simp) ?_
 refine Tr.post (Q:=(fun s h => s.get [true,true] = G (ixS qq c 0))) (fun s h q => by simp [c112,q]) ?_
 have gF : (frameOf h).get b = .cells 0 3 [G qq,x,y]:=by
  unfold frameOf
  rw [get_mk_lt _ _ _ _ (get_lt gb (by simp))]; exact gb
 generalize frameOf h = H0 at *
 have lw:=c112_l0_ok J k98 gF q3 hc c 0 (by simp) (by simp)
 by_cases e : ixS qq c 0 = -1
 ·have l0 : Tr tbl J c112_l0 (fun s h => h = H0.plus [.iter c 0] ∧ s.get [false] = .func 98 [.ptr b 0 3] ∧ s.get [true] = .bool true ∧ s.get [true,true,false] = .itr H0.size) (.exit 0) (fun s h => True):=by
   refine Tr.w fun s1 H1 hp R kR => ?_
   obtain ⟨rfl,q⟩:=hp
   exact lw s1 R q (fun _ => kR) (fun e' => absurd e e')
  rw [e]
  clear lw gF gb
  refine Tr.w fun s1 H1 hp _ kR => ?_
  obtain ⟨rfl,rfl⟩:=hp
  have q : True:=trivial
  refine zCh ?_
  simp (disch:=first|omega|exact zE rfl|exact zO|exact zL rfl) [c112_o0,zG,q]
  refine W.assoc ?_
  refine zCh ?_
  simp (disch:=first|omega|exact zE rfl|exact zO|exact zL rfl) [c112_o1,zG,q]
  refine W.seq (W.block ?_)
  refine W.use (l0) (by simp (disch:=first|omega|exact zE rfl|exact zO|exact zL rfl) [zG,q]) fun s1 H1 hp => ?_
  obtain _:=hp
  try simp only [zW,if_true]
  refine zCh ?_
  simp (disch:=first|omega|exact zE rfl|exact zO|exact zL rfl) [c112_o6,zG,q]
  refine W.ret ?_
  try simp only [zW,if_true]
  exact kR _ _ (by simp [T.get])
 ·have l0 : Tr tbl J c112_l0 (fun s h => h = H0.plus [.iter c 0] ∧ s.get [false] = .func 98 [.ptr b 0 3] ∧ s.get [true] = .bool true ∧ s.get [true,true,false] = .itr H0.size) .ret (fun s h => s.get [true,true] = G (ixS qq c 0)):=by
   refine Tr.w fun s1 H1 hp R kR => ?_
   obtain ⟨rfl,q⟩:=hp
   exact lw s1 R q (fun e' => absurd e' e) (fun _ => kR)
  clear lw gF gb
  generalize ixS qq c 0 = z at *
  refine Tr.w fun s1 H1 hp _ kR => ?_
  obtain ⟨rfl,rfl⟩:=hp
  have q : True:=trivial
  refine zCh ?_
  simp (disch:=first|omega|exact zE rfl|exact zO|exact zL rfl) [c112_o0,zG,q]
  refine W.assoc ?_
  refine zCh ?_
  simp (disch:=first|omega|exact zE rfl|exact zO|exact zL rfl) [c112_o1,zG,q]
  refine W.seq (W.block ?_)
  refine W.use (l0) (by simp (disch:=first|omega|exact zE rfl|exact zO|exact zL rfl) [zG,q]) fun s1 H1 hp => ?_
  try simp only [zW,if_true]
  exact kR _ _ hp
theorem c108_ok (J : CallF) (hJ : ∀ a h,J 108 a h = none) (k112 : ∀ h : Heap,h.get b = .cells 0 3 [G qq,x,y] → J 112 [.str c,.func 98 [.ptr b 0 3],.bool true] h = some (G (ixS qq c 0),[],false)) (h : Heap) (gb : h.get b = .cells 0 3 [G qq,x,y]) : CallsTo tbl J 108 [.str c,.func 98 [.ptr b 0 3]] h (G (ixS qq c 0),[],false):=by
 refine Tr.fnv (cf:=c108) (e:=.ret) (s:=T.set (T.set .leaf [] (.str c)) [false] (.func 98 [.ptr b 0 3])) (by decide) rfl (hJ _ _) rfl rfl rfl (by simp) ?_
 refine Tr.post (Q:=(fun s h => s.get [true,false] = G (ixS qq c 0))) (fun s h q => by simp [c108,q]) ?_
 have gF : (frameOf h).get b = .cells 0 3 [G qq,x,y]:=by
  unfold frameOf
  rw [get_mk_lt _ _ _ _ (get_lt gb (by simp))]; exact gb
 generalize frameOf h = H0 at *
 have k:=k112 H0 gF
 clear k112 gF gb
 generalize ixS qq c 0 = z at *
 refine Tr.w fun s1 H1 hp _ kR => ?_
 obtain ⟨rfl,rfl⟩:=hp
 have q : True:=trivial
 refine zCh ?_
 simp (disch:=first|omega|exact zE rfl|exact zO|exact zL rfl) [c108_o0,zG,q]
 refine zCh ?_
 simp (disch:=first|omega|exact zE rfl|exact zO|exact zL rfl) [c108_o1,zG,q,k]
 refine W.ret ?_
 try simp only [zW,if_true]
 exact kR _ _ (by simp [T.get])
theorem c97_ok (J : CallF) (hJ : ∀ a h,J 97 a h = none) (k108 : ∀ h : Heap,h.get b = .cells 0 3 [G qq,x,y] → J 108 [.str c,.func 98 [.ptr b 0 3]] h = some (G (ixS qq c 0),[],false)) (h : Heap) (gb : h.get b = .cells 0 3 [G qq,x,y]) : CallsTo tbl J 97 [.str c,.func 98 [.ptr b 0 3]] h (.bool (!goodS qq c),[],false):=by
 refine Tr.fnv (cf:=c97) (e:=.ret) (s:=T.set (T.set .leaf [] (.str c)) [false] (.func 98 [.ptr b 0 3])) (by decide) rfl (hJ _ _) rfl rfl rfl (by simp) ?_
 refine Tr.post (Q:=(fun s h => s.get [true,false] = .bool (!goodS qq c))) (fun s h q => by simp [c97,q]) ?_
 have gF : (frameOf h).get b = .cells 0 3 [G qq,x,y]:=by
  unfold frameOf
  rw [get_mk_lt _ _ _ _ (get_lt gb (by simp))]; exact gb
 generalize frameOf h = H0 at *
 have k:=k108 H0 gF
 have e:=(ixS_iff qq c 0).2
 rw [← e]
 clear k108 gF gb e
 generalize ixS qq c 0 = z at *
 refine Tr.w fun s1 H1 hp _ kR => ?_
 obtain ⟨rfl,rfl⟩:=hp
 have q : True:=trivial
 refine zCh ?_
 simp (disch:=first|omega|exact zE rfl|exact zO|exact zL rfl) [c97_o0,zG,q]
 refine zCh ?_
 simp (disch:=first|omega|exact zE rfl|exact zO|exact zL rfl) [c97_o1,zG,q,k]
 refine W.ret ?_
 try simp only [zW,if_true]
 exact kR _ _ (by simp [T.get])
end
structure A112 where
 c : List UInt8
 b : Nat
 qq : Nat
 x : AV
 y : AV
def Ok112 (a : A112) (h : Heap) : Prop:=h.get a.b = .cells 0 3 [G a.qq,a.x,a.y] ∧ a.qq ≤ 3 ∧ a.c.length ≤ 1000000
def Pre112 (a : A112) (args : List AV) (h : Heap) : Prop:=Ok112 a h ∧ args = [.str a.c,.func 98 [.ptr a.b 0 3],.bool true]
def Post112 (a : A112) (h : Heap) (v : AV) (own : List AObj) : Prop:=v = G (ixS a.qq a.c 0) ∧ own = []
noncomputable def T61 : CallF:=addK tbl T60 112 Pre112 Post112
theorem t61 : Sound Go.Proofs.Try.prog T61:=Sound.addK follows ok t60 (by decide) _ _
theorem k112 (h : Heap) (a : A112) (o : Ok112 a h) : T61 112 [.str a.c,.func 98 [.ptr a.b 0 3],.bool true] h = some (G (ixS a.qq a.c 0),[],false):=by
 obtain ⟨v,own,e,rfl,rfl⟩:=addK_some (Pre:=Pre112) (Post:=Post112) (fun a args h hp => by
  obtain ⟨⟨h1,h2,h3⟩,rfl⟩:=hp
  exact ⟨_,_,c112_ok T60 k98 (fun _ _ => by simp (disch:=decide) only [T1,T2,T3,T4,T5,T6,T7,T8,T9,T10,T11,T12,T13,T14,T15,T16,T17,T18,T19,T20,T21,T22,T23,T24,T25,T26,T27,T28,T29,T30,T31,T32,T33,T34,T35,T36,T37,T38,T39,T40,T41,T42,T43,T44,T45,T46,T47,T48,T49,T50,T51,T52,T53,T54,T55,T56,T57,T58,T59,T60,addI_ne,addX_ne,addV_ne,addK_ne]; rfl) h h1 h2 h3,rfl,rfl⟩) a _ h ⟨o,rfl⟩
 exact e
def Pre108 (a : A112) (args : List AV) (h : Heap) : Prop:=Ok112 a h ∧ args = [.str a.c,.func 98 [.ptr a.b 0 3]]
noncomputable def T62 : CallF:=addK tbl T61 108 Pre108 Post112
theorem t62 : Sound Go.Proofs.Try.prog T62:=Sound.addK follows ok t61 (by decide) _ _
theorem k108 (h : Heap) (a : A112) (o : Ok112 a h) : T62 108 [.str a.c,.func 98 [.ptr a.b 0 3]] h = some (G (ixS a.qq a.c 0),[],false):=by
 obtain ⟨v,own,e,rfl,rfl⟩:=addK_some (Pre:=Pre108) (Post:=Post112) (fun a args h hp => by
  obtain ⟨⟨h1,h2,h3⟩,rfl⟩:=hp
  exact ⟨_,_,c108_ok T61 (fun _ _ => by simp (disch:=decide) only [T1,T2,T3,T4,T5,T6,T7,T8,T9,T10,T11,T12,T13,T14,T15,T16,T17,T18,T19,T20,T21,T22,T23,T24,T25,T26,T27,T28,T29,T30,T31,T32,T33,T34,T35,T36,T37,T38,T39,T40,T41,T42,T43,T44,T45,T46,T47,T48,T49,T50,T51,T52,T53,T54,T55,T56,T57,T58,T59,T60,T61,addI_ne,addX_ne,addV_ne,addK_ne]; rfl) (fun h g => k112 h ⟨a.c,a.b,a.qq,a.x,a.y⟩ ⟨g,h2,h3⟩) h h1,rfl,rfl⟩) a _ h ⟨o,rfl⟩
 exact e
def Post97 (a : A112) (h : Heap) (v : AV) (own : List AObj) : Prop:=v = .bool (!goodS a.qq a.c) ∧ own = []
noncomputable def T63 : CallF:=addK tbl T62 97 Pre108 Post97
theorem t63 : Sound Go.Proofs.Try.prog T63:=Sound.addK follows ok t62 (by decide) _ _
theorem k97 (h : Heap) (a : A112) (o : Ok112 a h) : T63 97 [.str a.c,.func 98 [.ptr a.b 0 3]] h = some (.bool (!goodS a.qq a.c),[],false):=by
 obtain ⟨v,own,e,rfl,rfl⟩:=addK_some (Pre:=Pre108) (Post:=Post97) (fun a args h hp => by
  obtain ⟨⟨h1,h2,h3⟩,rfl⟩:=hp
  exact ⟨_,_,c97_ok T62 (fun _ _ => by simp (disch:=decide) only [T1,T2,T3,T4,T5,T6,T7,T8,T9,T10,T11,T12,T13,T14,T15,T16,T17,T18,T19,T20,T21,T22,T23,T24,T25,T26,T27,T28,T29,T30,T31,T32,T33,T34,T35,T36,T37,T38,T39,T40,T41,T42,T43,T44,T45,T46,T47,T48,T49,T50,T51,T52,T53,T54,T55,T56,T57,T58,T59,T60,T61,T62,addI_ne,addX_ne,addV_ne,addK_ne]; rfl) (fun h g => k108 h ⟨a.c,a.b,a.qq,a.x,a.y⟩ ⟨g,h2,h3⟩) h h1,rfl,rfl⟩) a _ h ⟨o,rfl⟩
 exact e
section
open Classical in
noncomputable def specS (tbl : Nat → Option CFunc) (I : CallF) (f : Nat) : SpecF:=fun args h => if hx : ∃ v,CallsTo tbl I f args h (v,h.own,true) then some (Classical.choose hx,h.own,true) else none
theorem specS_at {tbl : Nat → Option CFunc} {I : CallF} {f : Nat} {args : List AV} {h : Heap} {v : AV} (c : CallsTo tbl I f args h (v,h.own,true)) : specS tbl I f args h = some (v,h.own,true):=by
 have hx : ∃ v,CallsTo tbl I f args h (v,h.own,true):=⟨v,c⟩
 unfold specS
 rw [dif_pos hx]
 have:=CallsTo.det (Classical.choose_spec hx) c
 rw [(Prod.mk.inj this).1]
theorem specS_ok {tbl : Nat → Option CFunc} {I : CallF} {f : Nat} (args : List AV) (h : Heap) (x : AV × List AObj × Bool) (e : specS tbl I f args h = some x) : CallsTo tbl I f args h x:=by
 unfold specS at e
 split at e
 ·rename_i hx
  simp only [Option.some.injEq] at e
  subst e
  exact Classical.choose_spec hx
 ·cases e
end
theorem c96_ok (J : CallF) (hJ : ∀ a h,J 96 a h = none) (k97 : ∀ (h : Heap) (a : A112),Ok112 a h → J 97 [.str a.c,.func 98 [.ptr a.b 0 3]] h = some (.bool (!goodS a.qq a.c),[],false)) (h : Heap) {su tu : List UInt8} {b3 b2 bs n v qq : Nat} {x y : AV} {cs : List AV}
  (g3 : h.get b3 = .cells 0 1 [.slice bs 0 n v]) (g2 : h.get b2 = .cells 0 3 [G qq,x,y]) (gs0 : h.get bs = .cells 1 v cs) (ht : cs[0]? = some (.str tu)) (hn : 0 < n) (q3 : qq ≤ 3) (l1 : su.length ≤ 1000000) (l2 : tu.length ≤ 1000000) :
  CallsTo tbl J 96 [.str su,.ptr b3 0 1,.ptr b2 0 3] h (.bool (decide (su.length ≠ tu.length) || !goodS qq su),h.own,true):=by
 refine Tr.sh (cf:=c96) (e:=.ret) (s:=T.set (T.set (T.set .leaf [] (.str su)) [false] (.ptr b3 0 1)) [true] (.ptr b2 0 3)) (by decide) rfl (hJ _ _) rfl rfl (by simp) ?_
 have kk:=k97 h ⟨su,b2,qq,x,y⟩ ⟨g2,q3,l1⟩
 simp only at kk
 have ht':=getI ht
 have lcs:=(List.getElem?_eq_some_iff.1 ht).1
 clear k97
 generalize goodS qq su = z at *
 refine Tr.w fun s1 H1 hp R kR => ?_
 obtain ⟨rfl,rfl⟩:=hp
 have q : True:=trivial
 by_cases e : su.length = tu.length
 ·rw [decide_eq_false (by simp [e])] at kR
  rw [Bool.false_or] at kR
  generalize hl : su.length = n1 at *
  generalize hl2 : tu.length = n2 at *
  subst e
  refine zCh ?_
  simp (disch:=first|omega|exact zE rfl|exact zO|exact zL rfl) [c96_o0,zG,q]
  refine zCh ?_
  simp (disch:=first|omega|exact zE rfl|exact zO|exact zL rfl) [c96_o1,zG,q,g3,gs0,ht,ht',hl,hl2,kk,app_if,app_if']
  refine W.ret ?_
  try simp only [zW,if_true]
  exact kR _ _ ⟨⟨[.bool (!z)],by simp [T.get,c96,evRess,evRes],rfl⟩,rfl⟩
 ·rw [decide_eq_true e,Bool.true_or] at kR
  generalize hl : su.length = n1 at *
  generalize hl2 : tu.length = n2 at *
  have e' : ¬ (n1 : Int) = n2:=by omega
  refine zCh ?_
  simp (disch:=first|omega|exact zE rfl|exact zO|exact zL rfl) [c96_o0,zG,q]
  refine zCh ?_
  simp (disch:=first|omega|exact zE rfl|exact zO|exact zL rfl) [c96_o1,zG,q,g3,gs0,ht,ht',hl,hl2,e,e']
  refine W.ret ?_
  try simp only [zW,if_true]
  exact kR _ _ ⟨⟨[.bool true],by simp [T.get,c96,evRess,evRes],rfl⟩,rfl⟩
noncomputable def T64 : CallF:=addI T63 96 (specS tbl T63 96)
theorem t64 : Sound Go.Proofs.Try.prog T64:=Sound.add follows ok t63 (by decide) specS_ok
theorem k96 {h : Heap} {su tu : List UInt8} {b3 b2 bs n v qq : Nat} {x y : AV} {cs : List AV} (g3 : h.get b3 = .cells 0 1 [.slice bs 0 n v]) (g2 : h.get b2 = .cells 0 3 [G qq,x,y]) (gs0 : h.get bs = .cells 1 v cs) (ht : cs[0]? = some (.str tu)) (hn : 0 < n) (q3 : qq ≤ 3) (l1 : su.length ≤ 1000000) (l2 : tu.length ≤ 1000000) :
  T64 96 [.str su,.ptr b3 0 1,.ptr b2 0 3] h = some (.bool (decide (su.length ≠ tu.length) || !goodS qq su),h.own,true):=by
 have e : T64 96 [.str su,.ptr b3 0 1,.ptr b2 0 3] h = specS tbl T63 96 [.str su,.ptr b3 0 1,.ptr b2 0 3] h:=by simp only [T64,addI,if_true]
 rw [e]
 exact specS_at (c96_ok T63 (fun _ _ => by simp (disch:=decide) only [T1,T2,T3,T4,T5,T6,T7,T8,T9,T10,T11,T12,T13,T14,T15,T16,T17,T18,T19,T20,T21,T22,T23,T24,T25,T26,T27,T28,T29,T30,T31,T32,T33,T34,T35,T36,T37,T38,T39,T40,T41,T42,T43,T44,T45,T46,T47,T48,T49,T50,T51,T52,T53,T54,T55,T56,T57,T58,T59,T60,T61,T62,T63,addI_ne,addX_ne,addV_ne,addK_ne]; rfl) k97 h g3 g2 gs0 ht hn q3 l1 l2)
section
variable {f : Nat} {cap cs : List AV} {p : Nat → Bool} {b v n : Nat}
theorem c107_loop (J : CallF) (hf0 : f ≠ 0) (h : Heap) (ha : h.get b = .cells 1 v cs) (la : cs.length = n) (hn : n < 9223372036854775808) (kp : FindP J f cap p cs h) :
  ∀ j i,i + j = n → (fi p i j = -1 → Tr tbl J c107_l0 (fun s h' => s.get [] = .slice b 0 n v ∧ s.get [false] = .func f cap ∧ s.get [false,false,false] = G n ∧ s.get [true,false,false] = G i ∧ h' = ⟨h.get,h.size,[]⟩) (.exit 0) (fun s h => True)) ∧
   (fi p i j ≠ -1 → Tr tbl J c107_l0 (fun s h' => s.get [] = .slice b 0 n v ∧ s.get [false] = .func f cap ∧ s.get [false,false,false] = G n ∧ s.get [true,false,false] = G i ∧ h' = ⟨h.get,h.size,[]⟩) .ret (fun s h => s.get [true,false] = G (fi p i j))):=by
 have h1:=get_lt ha (by simp)
 intro j
 induction j with
 | zero =>
  intro i hi'
  obtain rfl : i = n:=by omega
  refine ⟨fun _ => ?_,fun hne => absurd rfl hne⟩
  have t : Tr tbl J ((.trim [[],[false],[false,false,false],[true,false,false]] c107_b0)) (fun s h' => s.get [] = .slice b 0 i v ∧ s.get [false] = .func f cap ∧ s.get [false,false,false] = G i ∧ s.get [true,false,false] = G i ∧ h' = ⟨h.get,h.size,[]⟩) (.exit 0) (fun s h => True):=Tr.region fun s h hp => by
   obtain ⟨g0,g1,g2,g3,rfl⟩:=hp
   simp (disch:=first|omega|exact zE rfl|exact zO|exact zL rfl) [c107_b0,c107_o2,size_mk,get_mk_lt,get_mk_ge,frameOf,Eff.app,Heap.setOwn,g0,g1,g2,g3]
  exact Tr.out t (by simp)
 | succ j ih =>
  intro i hi'
  have xa : cs[i]? = some cs[i]:=List.getElem?_eq_getElem (by omega)
  have kk:=kp i _ xa
  have xa':=getI xa
  generalize cs[i]'(by omega) = c at *
  have ih':=ih (i + 1) (by omega)
  show ((if p i then (i : Int) else fi p (i + 1) j) = -1 → _) ∧ ((if p i then (i : Int) else fi p (i + 1) j) ≠ -1 → Tr tbl J c107_l0 _ .ret (fun s h => s.get [true,false] = G (if p i then (i : Int) else fi p (i + 1) j)))
  cases hp : p i
  ·rw [hp] at kk
   have t : Tr tbl J ((.trim [[],[false],[false,false,false],[true,false,false]] c107_b0)) (fun s h' => s.get [] = .slice b 0 n v ∧ s.get [false] = .func f cap ∧ s.get [false,false,false] = G n ∧ s.get [true,false,false] = G i ∧ h' = ⟨h.get,h.size,[]⟩) .normal (fun s h' => s.get [] = .slice b 0 n v ∧ s.get [false] = .func f cap ∧ s.get [false,false,false] = G n ∧ s.get [true,false,false] = G ((i + 1 : Nat) : Int) ∧ h' = ⟨h.get,h.size,[]⟩):=Tr.region fun s h hp => by
    obtain ⟨g0,g1,g2,g3,rfl⟩:=hp
    simp (disch:=first|omega|exact zE rfl|exact zO|exact zL rfl) [c107_b0,c107_o2,c107_o3,c107_o4,c107_o6,size_mk,get_mk_lt,get_mk_ge,frameOf,Eff.app,Heap.setOwn,g0,g1,g2,g3,ha,xa,xa',kk,hf0]
   rw [if_neg (by simp)]
   exact ⟨fun e => Tr.next t (ih'.1 e),fun e => Tr.next t (ih'.2 e)⟩
  ·rw [hp] at kk
   rw [if_pos rfl]
   refine ⟨fun e => absurd e (by omega),fun _ => ?_⟩
   have t : Tr tbl J ((.trim [[],[false],[false,false,false],[true,false,false]] c107_b0)) (fun s h' => s.get [] = .slice b 0 n v ∧ s.get [false] = .func f cap ∧ s.get [false,false,false] = G n ∧ s.get [true,false,false] = G i ∧ h' = ⟨h.get,h.size,[]⟩) .ret (fun s h => s.get [true,false] = G i):=Tr.region fun s h hp => by
    obtain ⟨g0,g1,g2,g3,rfl⟩:=hp
    simp (disch:=first|omega|exact zE rfl|exact zO|exact zL rfl) [c107_b0,c107_o2,c107_o3,c107_o4,c107_o5,size_mk,get_mk_lt,get_mk_ge,frameOf,Eff.app,Heap.setOwn,g0,g1,g2,g3,ha,xa,xa',kk,hf0]
   exact Tr.out t (by simp)
theorem c107_ok (J : CallF) (hJ : ∀ a h,J 107 a h = none) (hf0 : f ≠ 0) (h : Heap) {x : AV} (hx : EL h x cs) (hn : cs.length < 9223372036854775808) (kp : FindP J f cap p cs h) : CallsTo tbl J 107 [x,.func f cap] h (G (fi p 0 cs.length),[],false):=by
 refine Tr.fnv (cf:=c107) (e:=.ret) (s:=T.set (T.set .leaf [] x) [false] (.func f cap)) (by decide) rfl (hJ _ _) rfl rfl rfl (by simp) ?_
 have t0 : Tr tbl J (c107_o0) (fun s h' => s = T.set (T.set .leaf [] x) [false] (.func f cap) ∧ h' = frameOf h) .normal (fun s h' => s.get [] = x ∧ s.get [false] = .func f cap ∧ h' = ⟨h.get,h.size,[]⟩):=Tr.region fun s h hp => by
  obtain ⟨rfl,rfl⟩:=hp
  simp (disch:=first|omega|exact zE rfl|exact zO|exact zL rfl) [c107_o0,frameOf,Heap.size,Heap.get,Eff.app,Heap.setOwn]
 have t3 : Tr tbl J ((.seq c107_o7 .ret)) (fun s h => True) .ret (fun s h => s.get [true,false] = G (-1)):=Tr.region fun s h hp => by
  simp (disch:=first|omega|exact zE rfl|exact zO|exact zL rfl) [c107_o7,frameOf,Heap.size,Heap.get,Eff.app,Heap.setOwn]
 have nil : ∀ y,(y = .nils ∨ y = .slice0) → x = y → Tr tbl J (.seq c107_o1 (.block 0 c107_l0)) (fun s h' => s.get [] = x ∧ s.get [false] = .func f cap ∧ h' = ⟨h.get,h.size,[]⟩) .normal (fun s h => True):=fun y hy e => by
  subst e
  have t1 : Tr tbl J (c107_o1) (fun s h' => s.get [] = x ∧ s.get [false] = .func f cap ∧ h' = ⟨h.get,h.size,[]⟩) .normal (fun s h' => s.get [] = x ∧ s.get [false] = .func f cap ∧ s.get [false,false,false] = G ((0 : Nat) : Int) ∧ s.get [true,false,false] = G ((0 : Nat) : Int) ∧ h' = ⟨h.get,h.size,[]⟩):=Tr.region fun s h hp => by
   obtain ⟨g0,g1,rfl⟩:=hp
   rcases hy with rfl | rfl <;> simp (disch:=first|omega|exact zE rfl|exact zO|exact zL rfl) [c107_o1,size_mk,get_mk_lt,get_mk_ge,frameOf,Eff.app,Heap.setOwn,g0,g1]
  have t2 : Tr tbl J ((.trim [[],[false],[false,false,false],[true,false,false]] c107_b0)) (fun s h' => s.get [] = x ∧ s.get [false] = .func f cap ∧ s.get [false,false,false] = G ((0 : Nat) : Int) ∧ s.get [true,false,false] = G ((0 : Nat) : Int) ∧ h' = ⟨h.get,h.size,[]⟩) (.exit 0) (fun s h => True):=Tr.region fun s h hp => by
   obtain ⟨g0,g1,g2,g3,rfl⟩:=hp
   simp (disch:=first|omega|exact zE rfl|exact zO|exact zL rfl) [c107_b0,c107_o2,size_mk,get_mk_lt,get_mk_ge,frameOf,Eff.app,Heap.setOwn,g0,g1,g2,g3]
  exact Tr.seq t1 (Tr.block (Tr.out t2 (by simp)))
 rcases hx with ⟨e,rfl⟩ | ⟨b,v,rfl,g⟩
 ·have t1:=nil x e rfl
  exact Tr.post (fun s h q => by simp [c107,q,fi]) (Tr.seq t0 (Tr.seq t1 t3))
 ·
  have t1 : Tr tbl J (c107_o1) (fun s h' => s.get [] = .slice b 0 cs.length v ∧ s.get [false] = .func f cap ∧ h' = ⟨h.get,h.size,[]⟩) .normal (fun s h' => s.get [] = .slice b 0 cs.length v ∧ s.get [false] = .func f cap ∧ s.get [false,false,false] = G cs.length ∧ s.get [true,false,false] = G ((0 : Nat) : Int) ∧ h' = ⟨h.get,h.size,[]⟩):=Tr.region fun s h hp => by
   obtain ⟨g0,g1,rfl⟩:=hp
   simp (disch:=first|omega|exact zE rfl|exact zO|exact zL rfl) [c107_o1,size_mk,get_mk_lt,get_mk_ge,frameOf,Eff.app,Heap.setOwn,g0,g1]
  obtain ⟨l1,l2⟩:=c107_loop J hf0 h g rfl hn kp cs.length 0 (by omega)
  by_cases e : fi p 0 cs.length = -1
  ·rw [e]
   exact Tr.post (fun s h q => by simp [c107,q]) (Tr.seq t0 (Tr.seq (Tr.seq t1 (Tr.block (l1 e))) t3))
  ·exact Tr.post (fun s h q => by simp [c107,q]) (Tr.seq t0 (Tr.seq_out (Tr.seq t1 (Tr.block_out (l2 e) (by simp))) (by simp)))
end
def Pre107 (a : A111) (args : List AV) (h : Heap) : Prop:=Ok111 T64 a h ∧ args = [a.x,.func a.f a.cap]
noncomputable def T65 : CallF:=addK tbl T64 107 Pre107 Post111
theorem t65 : Sound Go.Proofs.Try.prog T65:=Sound.addK follows ok t64 (by decide) _ _
abbrev K107 (J0 J : CallF) : Prop:=∀ (h : Heap) (a : A111),Ok111 J0 a h → J 107 [a.x,.func a.f a.cap] h = some (G (fi a.p 0 a.cs.length),[],false)
theorem k107 : K107 T64 T65:=fun h a ha => by
 obtain ⟨v,own,e,rfl,rfl⟩:=addK_some (Pre:=Pre107) (Post:=Post111) (fun a args h hp => by
  obtain ⟨⟨h1,h2,h3,h4⟩,rfl⟩:=hp
  exact ⟨_,_,c107_ok T64 (fun _ _ => by simp (disch:=decide) only [T1,T2,T3,T4,T5,T6,T7,T8,T9,T10,T11,T12,T13,T14,T15,T16,T17,T18,T19,T20,T21,T22,T23,T24,T25,T26,T27,T28,T29,T30,T31,T32,T33,T34,T35,T36,T37,T38,T39,T40,T41,T42,T43,T44,T45,T46,T47,T48,T49,T50,T51,T52,T53,T54,T55,T56,T57,T58,T59,T60,T61,T62,T63,T64,addI_ne,addX_ne,addV_ne,addK_ne]; rfl) h1 h h2 h3 h4,rfl,rfl⟩) a _ h ⟨ha,rfl⟩
 exact e
theorem c95_ok (J J0 : CallF) (hJ : ∀ a h,J 95 a h = none) (k : K107 J0 J) (h : Heap) (a : A111) (ha : Ok111 J0 a h) : CallsTo tbl J 95 [a.x,.func a.f a.cap] h (.bool ((List.range a.cs.length).any a.p),[],false):=by
 refine Tr.fnv (cf:=c95) (e:=.ret) (s:=T.set (T.set .leaf [] a.x) [false] (.func a.f a.cap)) (by decide) rfl (hJ _ _) rfl rfl rfl (by simp) ?_
 have kk:=k ⟨h.get,h.size,[]⟩ a ⟨ha.1,ha.2.1.lo [],ha.2.2.1,ha.2.2.2.lo⟩
 have hb:=fi_any a.p a.cs.length
 rw [← hb]
 generalize fi a.p 0 a.cs.length = z at *
 generalize a.x = x at *
 generalize a.f = f at *
 generalize a.cap = cap at *
 have t : Tr tbl J ((.seq c95_o0 (.seq c95_o1 .ret))) (fun s h' => s = T.set (T.set .leaf [] x) [false] (.func f cap) ∧ h' = frameOf h) .ret (fun s h => s.get [true,false] = .bool (decide (0 ≤ z))):=Tr.region fun s h hp => by
  obtain ⟨rfl,rfl⟩:=hp
  simp (disch:=first|omega|exact zE rfl|exact zO|exact zL rfl) [c95_o0,c95_o1,frameOf,size_mk,get_mk_lt,get_mk_ge,frameOf,Eff.app,Heap.setOwn,kk]
 exact Tr.post (fun s h q => by simp [c95,q]) t
noncomputable def T66 : CallF:=addK tbl T65 95 Pre107 Post102
theorem t66 : Sound Go.Proofs.Try.prog T66:=Sound.addK follows ok t65 (by decide) _ _
theorem k95 (h : Heap) (a : A111) (ha : Ok111 T64 a h) : T66 95 [a.x,.func a.f a.cap] h = some (.bool ((List.range a.cs.length).any a.p),[],false):=by
 obtain ⟨v,own,e,rfl,rfl⟩:=addK_some (Pre:=Pre107) (Post:=Post102) (fun a args h hp => by
  obtain ⟨h1,rfl⟩:=hp
  exact ⟨_,_,c95_ok T65 T64 (fun _ _ => by simp (disch:=decide) only [T1,T2,T3,T4,T5,T6,T7,T8,T9,T10,T11,T12,T13,T14,T15,T16,T17,T18,T19,T20,T21,T22,T23,T24,T25,T26,T27,T28,T29,T30,T31,T32,T33,T34,T35,T36,T37,T38,T39,T40,T41,T42,T43,T44,T45,T46,T47,T48,T49,T50,T51,T52,T53,T54,T55,T56,T57,T58,T59,T60,T61,T62,T63,T64,T65,addI_ne,addX_ne,addV_ne,addK_ne]; rfl) k107 h a h1,rfl,rfl⟩) a _ h ⟨ha,rfl⟩
 exact e
def rowOkS (qq : Nat) (L : List (List UInt8)) (s : List UInt8) : Bool:=decide (s.length = (L.getD 0 []).length) && goodS qq s
def isS (qq : Nat) (L : List (List UInt8)) : Bool:=decide (1 ≤ L.length ∧ L.length ≤ 40) && decide (1 ≤ (L.getD 0 []).length ∧ (L.getD 0 []).length ≤ 5) && L.all (rowOkS qq L)
def pS (qq : Nat) (L : List (List UInt8)) (i : Nat) : Bool:=decide ((L.getD i []).length ≠ (L.getD 0 []).length) || !goodS qq (L.getD i [])
theorem pS_any (qq : Nat) (L : List (List UInt8)) : (List.range L.length).any (pS qq L) = !L.all (rowOkS qq L):=by
 rw [← any_not_all L []]
 congr 1
 funext i
 unfold pS rowOkS
 rw [Bool.not_and]
 congr 1
 rw [Bool.eq_iff_iff]
 simp
section
variable {a : AR} {x : AV} {L : List (List UInt8)}
set_option maxHeartbeats 1000000 in
theorem c77_ok (J : CallF) (k60 : K60 J) (k95 : ∀ (h : Heap) (b : A111),Ok111 T64 b h → J 95 [b.x,.func b.f b.cap] h = some (.bool ((List.range b.cs.length).any b.p),[],false)) (hJ : ∀ a h,J 77 a h = none) (h : Heap) (r : a.ru = true) (hx : EL h x (ss L)) (lL : L.length ≤ 1000000) (ls : ∀ s ∈ L,s.length ≤ 1000000) :
  CallsTo tbl J 77 [a.v,x] h (.bool (isS a.q.toNat L),[],false):=by
 refine Tr.fnv (cf:=c77) (e:=.ret) (s:=T.set (T.set .leaf [] a.v) [false] x) (by decide) rfl (hJ _ _) rfl rfl rfl (by simp) ?_
 refine Tr.post (Q:=(fun s h => s.get [true,false] = .bool (isS a.q.toNat L))) (fun s h q => by simp [c77,q]) ?_
 have q3:=a.q3 r
 obtain ⟨qq,hq⟩ : ∃ qq : Nat,a.q = qq:=⟨a.q.toNat,by omega⟩
 have hqt : a.q.toNat = qq:=by omega
 rw [hqt]
 have hxF : EL (frameOf h) x (ss L):=hx.lo []
 generalize frameOf h = H0 at *
 obtain ⟨H1,hH1⟩ : ∃ H,H0.plus [.cells 0 3 [G a.q,a.x,a.y]] = H:=⟨_,rfl⟩
 obtain ⟨H2,hH2⟩ : ∃ H,H1.plus [.cells 0 1 [x]] = H:=⟨_,rfl⟩
 have k1 : Kp (fun _ => False) H0 H1:=by rw [← hH1]; exact Kp.plus _ _
 have k2 : Kp (fun _ => False) H1 H2:=by rw [← hH2]; exact Kp.plus _ _
 have g2 : H1.get H0.size = .cells 0 3 [G a.q,a.x,a.y]:=by rw [← hH1]; exact plus_at0 _ _ _ _ rfl
 have g2':=k2.at g2 (by simp) id
 have g3 : H2.get H1.size = .cells 0 1 [x]:=by rw [← hH2]; exact plus_at0 _ _ _ _ rfl
 have e60:=k60 L.length 1 40 H2
 have lss : (ss L).length = L.length:=by simp
 have es : isS qq L = (decide (1 ≤ L.length ∧ L.length ≤ 40) && decide (1 ≤ (L.getD 0 []).length ∧ (L.getD 0 []).length ≤ 5) && L.all (rowOkS qq L)):=rfl
 have cn : ∀ n : Nat,decide ((1 : Int) ≤ (n : Int) ∧ (n : Int) ≤ 40) = decide (1 ≤ n ∧ n ≤ 40):=fun n => by
  rw [Bool.eq_iff_iff,decide_eq_true_eq,decide_eq_true_eq]; omega
 rw [cn] at e60
 by_cases h1 : 1 ≤ L.length ∧ L.length ≤ 40
 ·rw [decide_eq_true h1] at e60 es
  have e60':=k60 (L.getD 0 []).length 1 5 H2
  have cn5 : decide ((1 : Int) ≤ ((L.getD 0 []).length : Int) ∧ ((L.getD 0 []).length : Int) ≤ 5) = decide (1 ≤ (L.getD 0 []).length ∧ (L.getD 0 []).length ≤ 5):=by
   rw [Bool.eq_iff_iff,decide_eq_true_eq,decide_eq_true_eq]; omega
  rw [cn5] at e60'
  have s0:=ss_at (L:=L) (i:=0) (by omega)
  have s0':=getI s0
  obtain ⟨_,e⟩ | ⟨b,v,e,g⟩:=hxF
  ·have : L.length = 0:=by rw [← lss,e]; rfl
   omega
  rw [lss] at e
  subst e
  have gH:=(k1.trans k2).at g (by simp) id
  by_cases h2 : 1 ≤ (L.getD 0 []).length ∧ (L.getD 0 []).length ≤ 5
  ·rw [decide_eq_true h2] at e60' es
   have ok95 : Ok111 T64 ⟨.slice b 0 L.length v,96,[.ptr H1.size 0 1,.ptr H0.size 0 3],ss L,pS qq L⟩ H2:=by
    refine ⟨show (96 : Nat) ≠ 0 by decide,.inr ⟨b,v,by rw [lss],gH⟩,by show (ss L).length < _; rw [lss]; omega,fun i c hi => ?_⟩
    have hlt : i < L.length:=by
     have:=(List.getElem?_eq_some_iff.1 hi).1
     rw [lss] at this; exact this
    rw [ss_at hlt] at hi
    cases hi
    have gl : ∀ b X,H2.get b = X → X ≠ .hole → (⟨H2.get,H2.size,[]⟩ : Heap).get b = X:=fun b X e hX => by rw [get_mk_lt _ _ _ _ (get_lt e hX)]; exact e
    have gi : L.getD i [] ∈ L:=by
     rw [List.getD_eq_getElem?_getD,List.getElem?_eq_getElem hlt]; exact List.getElem_mem _
    have g0 : L.getD 0 [] ∈ L:=by
     rw [List.getD_eq_getElem?_getD,List.getElem?_eq_getElem (by omega)]; exact List.getElem_mem _
    rw [hq] at g2'
    exact k96 (gl _ _ g3 (by simp)) (gl _ _ g2' (by simp)) (gl _ _ gH (by simp)) s0 (by omega) (by omega) (ls _ gi) (ls _ g0)
   have e95:=k95 H2 _ ok95
   simp only at e95
   rw [lss,pS_any] at e95
   rw [es]
   clear es ok95 k95 hx g k1 k2 ls e60' cn
   generalize L.all (rowOkS qq L) = z at *
   have lw:=(L.getD 0 []).length
   generalize hl0 : (L.getD 0 []).length = n0 at *
   have e60':=k60 n0 1 5 H2
   rw [decide_eq_true (by omega)] at e60'
   generalize hu0 : L.getD 0 [] = u0 at *
   generalize ss L = cs at *
   generalize hll : L.length = n at *
   clear k60
   refine Tr.w fun s1 H1 hp _ kR => ?_
   obtain ⟨rfl,rfl⟩:=hp
   have q : True:=trivial
   refine zCh ?_
   simp (disch:=first|omega|exact zE rfl|exact zO|exact zL rfl) [c77_o0,zG,q,hH1,hH2]
   refine W.assoc ?_
   refine zCh ?_
   simp (disch:=first|omega|exact zE rfl|exact zO|exact zL rfl) [c77_o1,zG,q,g3,e60,gH,s0,s0',lss,hl0,e60']
   refine zCh ?_
   simp (disch:=first|omega|exact zE rfl|exact zO|exact zL rfl) [c77_o2,zG,q]
   refine zCh ?_
   simp (disch:=first|omega|exact zE rfl|exact zO|exact zL rfl) [c77_o3,zG,q,g3,e95]
   refine W.ret ?_
   try simp only [zW,if_true]
   exact kR _ _ (by simp [T.get])
  ·rw [decide_eq_false h2] at e60' es
   rw [es]
   clear es k95 hx g k1 k2 ls cn k60 cn5
   generalize hl0 : (L.getD 0 []).length = n0 at *
   generalize hu0 : L.getD 0 [] = u0 at *
   generalize ss L = cs at *
   generalize hll : L.length = n at *
   refine Tr.w fun s1 H1 hp _ kR => ?_
   obtain ⟨rfl,rfl⟩:=hp
   have q : True:=trivial
   refine zCh ?_
   simp (disch:=first|omega|exact zE rfl|exact zO|exact zL rfl) [c77_o0,zG,q,hH1,hH2]
   refine W.assoc ?_
   refine zCh ?_
   simp (disch:=first|omega|exact zE rfl|exact zO|exact zL rfl) [c77_o1,zG,q,g3,e60,gH,s0,s0',lss,hl0,e60']
   refine zCh ?_
   simp (disch:=first|omega|exact zE rfl|exact zO|exact zL rfl) [c77_o2,zG,q]
   exact kR _ _ (by simp [T.get])
 ·rw [decide_eq_false h1] at e60 es
  rw [es]
  have sx : (x = .nils ∧ L.length = 0) ∨ (x = .slice0 ∧ L.length = 0) ∨ ∃ b v,x = .slice b 0 L.length v:=by
   rcases hxF with ⟨e | e,e2⟩ | ⟨b,v,e,_⟩
   ·exact .inl ⟨e,by rw [← lss,e2]; rfl⟩
   ·exact .inr (.inl ⟨e,by rw [← lss,e2]; rfl⟩)
   ·exact .inr (.inr ⟨b,v,by rw [e,lss]⟩)
  clear es k95 hx k1 k2 ls cn hxF k60
  generalize hll : L.length = n at *
  rcases sx with ⟨rfl,rfl⟩ | ⟨rfl,rfl⟩ | ⟨b,v,rfl⟩
  all_goals
   try rw [show ((0 : Nat) : Int) = 0 from rfl] at e60
   refine Tr.w fun s1 H1 hp _ kR => ?_
   obtain ⟨rfl,rfl⟩:=hp
   have q : True:=trivial
   refine zCh ?_
   simp (disch:=first|omega|exact zE rfl|exact zO|exact zL rfl) [c77_o0,zG,q,hH1,hH2]
   refine W.assoc ?_
   refine zCh ?_
   simp (disch:=first|omega|exact zE rfl|exact zO|exact zL rfl) [c77_o1,zG,q,g3,e60]
   refine zCh ?_
   simp (disch:=first|omega|exact zE rfl|exact zO|exact zL rfl) [c77_o2,zG,q]
   exact kR _ _ (by simp [T.get])
end
structure AS where
 a : AR
 x : AV
 L : List (List UInt8)
def OkAS (b : AS) (h : Heap) : Prop:=b.a.ru = true ∧ EL h b.x (ss b.L) ∧ b.L.length ≤ 1000000 ∧ ∀ s ∈ b.L,s.length ≤ 1000000
def Pre77 (b : AS) (args : List AV) (h : Heap) : Prop:=OkAS b h ∧ args = [b.a.v,b.x]
def Post77 (b : AS) (h : Heap) (v : AV) (own : List AObj) : Prop:=v = .bool (isS b.a.q.toNat b.L) ∧ own = []
noncomputable def T67 : CallF:=addK tbl T66 77 Pre77 Post77
theorem t67 : Sound Go.Proofs.Try.prog T67:=Sound.addK follows ok t66 (by decide) _ _
theorem k60_66 : K60 T66:=fun n lo hi h => by
 simp (disch:=decide) only [T1,T2,T3,T4,T5,T6,T7,T8,T9,T10,T11,T12,T13,T14,T15,T16,T17,T18,T19,T20,T21,T22,T23,T24,T25,T26,T27,T28,T29,T30,T31,T32,T33,T34,T35,T36,T37,T38,T39,T40,T41,T42,T43,T44,T45,T46,T47,T48,T49,T50,T51,T52,T53,T54,T55,T56,T57,T58,T59,T60,T61,T62,T63,T64,T65,T66,addI_ne,addX_ne,addV_ne,addK_ne]
 exact k60 n lo hi h
abbrev K77 (J : CallF) : Prop:=∀ (h : Heap) (b : AS),OkAS b h → J 77 [b.a.v,b.x] h = some (.bool (isS b.a.q.toNat b.L),[],false)
theorem k77 : K77 T67:=fun h b o => by
 obtain ⟨v,own,e,rfl,rfl⟩:=addK_some (Pre:=Pre77) (Post:=Post77) (fun b args h hp => by
  obtain ⟨⟨h1,h2,h3,h4⟩,rfl⟩:=hp
  exact ⟨_,_,c77_ok T66 k60_66 k95 (fun _ _ => by simp (disch:=decide) only [T1,T2,T3,T4,T5,T6,T7,T8,T9,T10,T11,T12,T13,T14,T15,T16,T17,T18,T19,T20,T21,T22,T23,T24,T25,T26,T27,T28,T29,T30,T31,T32,T33,T34,T35,T36,T37,T38,T39,T40,T41,T42,T43,T44,T45,T46,T47,T48,T49,T50,T51,T52,T53,T54,T55,T56,T57,T58,T59,T60,T61,T62,T63,T64,T65,T66,addI_ne,addX_ne,addV_ne,addK_ne]; rfl) h h1 h2 h3 h4,rfl,rfl⟩) b _ h ⟨o,rfl⟩
 exact e
def kpB (a : AG) (R : List (List Nat)) (i : Nat) : Bool:=bsd a.B (R.getD i []) && (decide (i = 0) || blw a.W (R.getD (i - 1) []) (R.getD i []))
def kpS (a : AG) (R : List (List Nat)) : Bool:=af (kpB a R) 0 R.length
structure WS (a : AG) (m : Nat) (R : List (List Nat)) : Prop where
 w : ∀ w ∈ R,w.length = m ∧ ∀ c ∈ w,c < a.q
 l : R.length ≤ 1000
 m5 : m ≤ 1000
section
variable {a : AG} {m : Nat} {R : List (List Nat)} {b v : Nat}
theorem WS.at {i : Nat} (k : WS a m R) (hi : i < R.length) : (R.getD i []).length = m ∧ ∀ c ∈ R.getD i [],c < a.q:=k.w _ (by
 rw [List.getD_eq_getElem?_getD,List.getElem?_eq_getElem hi]
 exact List.getElem_mem _)
set_option maxHeartbeats 1000000 in
theorem c78_b0_ok (J : CallF) (k89 : KW 89 J) (k90 : KB 90 J) {H : Heap} {p : Nat} (o : OkG a H) (k : WS a m R) (gS : H.get p = .cells 0 3 [G a.q,a.x,a.y]) (gH : H.get b = .cells 1 v (wsL R)) {i : Nat} (hi : i < R.length) :
  (kpB a R i = true → Tr tbl J (.trim [[false],[true],[false,false,false],[true,false,false],[false,true,false]] c78_b0) (fun s h => h = H ∧ s.get [false] = .slice b 0 R.length v ∧ s.get [true] = .ptr p 0 3 ∧ s.get [false,false,false] = .slice b 0 R.length v ∧ s.get [true,false,false] = G R.length ∧ s.get [false,true,false] = G (i : Nat)) .normal (fun s h => h = H ∧ s.get [false] = .slice b 0 R.length v ∧ s.get [true] = .ptr p 0 3 ∧ s.get [false,false,false] = .slice b 0 R.length v ∧ s.get [true,false,false] = G R.length ∧ s.get [false,true,false] = G ((i + 1 : Nat) : Int))) ∧
  (kpB a R i = false → Tr tbl J (.trim [[false],[true],[false,false,false],[true,false,false],[false,true,false]] c78_b0) (fun s h => h = H ∧ s.get [false] = .slice b 0 R.length v ∧ s.get [true] = .ptr p 0 3 ∧ s.get [false,false,false] = .slice b 0 R.length v ∧ s.get [true,false,false] = G R.length ∧ s.get [false,true,false] = G (i : Nat)) .ret (fun s h => s.get [true,false] = .bool false)):=by
 have ki:=k.at hi
 have m5:=k.m5
 have e68:=k89 H a _ o ki.2 (by omega)
 have wi:=wsL_at (R:=R) hi
 have wi':=getI wi
 have lw:=wsL_len R
 have l1:=k.l
 have kb : kpB a R i = (bsd a.B (R.getD i []) && (decide (i = 0) || blw a.W (R.getD (i - 1) []) (R.getD i []))):=rfl
 rw [kb]
 have main : ∀ (s1 : T) (H1 : Heap) (Q : PQ),((fun s h => h = H ∧ s.get [false] = .slice b 0 R.length v ∧ s.get [true] = .ptr p 0 3 ∧ s.get [false,false,false] = .slice b 0 R.length v ∧ s.get [true,false,false] = G R.length ∧ s.get [false,true,false] = G (i : Nat)) : SP) s1 H1 →
   ((bsd a.B (R.getD i []) && (decide (i = 0) || blw a.W (R.getD (i - 1) []) (R.getD i []))) = true → ∀ s' h',((fun s h => h = H ∧ s.get [false] = .slice b 0 R.length v ∧ s.get [true] = .ptr p 0 3 ∧ s.get [false,false,false] = .slice b 0 R.length v ∧ s.get [true,false,false] = G R.length ∧ s.get [false,true,false] = G ((i + 1 : Nat) : Int)) : SP) s' h' → Q .normal s' h') →
   ((bsd a.B (R.getD i []) && (decide (i = 0) || blw a.W (R.getD (i - 1) []) (R.getD i []))) = false → ∀ s' h',((fun s h => s.get [true,false] = .bool false) : SP) s' h' → Q .ret s' h') → W tbl J (.trim [[false],[true],[false,false,false],[true,false,false],[false,true,false]] c78_b0) s1 H1 Q:=fun s1 H1 Q hp kA kB => by
  obtain ⟨rfl,q⟩:=hp
  cases i with
  | zero =>
   rw [decide_eq_true rfl,Bool.true_or,Bool.and_true] at kA kB
   clear o k ki kb k90
   generalize bsd a.B (R.getD 0 []) = z at *
   generalize stW (R.getD 0 []) = w0 at *
   generalize wsL R = ws at *
   generalize R.length = n at *
   cases z
   ·have kR:=kB rfl
    clear kA kB
    refine W.trim ?_
    refine zCh ?_
    simp (disch:=first|omega|exact zE rfl|exact zO|exact zL rfl) [c78_o2,zG,q]
    refine zCh ?_
    simp (disch:=first|omega|exact zE rfl|exact zO|exact zL rfl) [zG,q]
    refine W.seq (W.block ?_)
    refine zCh ?_
    simp (disch:=first|omega|exact zE rfl|exact zO|exact zL rfl) [c78_o3,zG,q,gH,wi,wi',lw]
    refine zCh ?_
    simp (disch:=first|omega|exact zE rfl|exact zO|exact zL rfl) [-evDraw_c,c78_o4,zG,q,evDraw_0,gS,gH,wi,wi',lw,e68,app_if,app_if']
    refine W.chunk ?_
    simp (disch:=first|omega|exact zE rfl|exact zO|exact zL rfl) [c78_o5,zG,q]
    exact kR _ _ (by simp [T.get])
   ·have kR:=kA rfl
    clear kA kB
    refine W.trim ?_
    refine zCh ?_
    simp (disch:=first|omega|exact zE rfl|exact zO|exact zL rfl) [c78_o2,zG,q]
    refine zCh ?_
    simp (disch:=first|omega|exact zE rfl|exact zO|exact zL rfl) [zG,q]
    refine W.seq (W.block ?_)
    refine zCh ?_
    simp (disch:=first|omega|exact zE rfl|exact zO|exact zL rfl) [c78_o3,zG,q,gH,wi,wi',lw]
    refine zCh ?_
    simp (disch:=first|omega|exact zE rfl|exact zO|exact zL rfl) [-evDraw_c,c78_o4,zG,q,evDraw_0,gS,gH,wi,wi',lw,e68,app_if,app_if']
    refine W.chunk ?_
    simp (disch:=first|omega|exact zE rfl|exact zO|exact zL rfl) [c78_o5,zG,q]
    refine W.chunk ?_
    simp (disch:=first|omega|exact zE rfl|exact zO|exact zL rfl) [c78_o6,zG,q]
    exact kR _ _ (by simp [T.get,q])
  | succ i =>
   have kj:=k.at (i:=i) (by omega)
   have e69:=k90 H1 a (R.getD i []) (R.getD (i + 1) []) o kj.2 ki.2 (by omega) (by rw [ki.1,kj.1])
   rw [decide_eq_false (by omega),Bool.false_or,Nat.add_sub_cancel] at kA kB
   have wj:=wsL_at (R:=R) (i:=i) (by omega)
   have wj':=getI wj
   have n1 : ((i + 1 : Nat) : Int) = (i : Int) + 1:=by omega
   clear o k ki kj kb k90
   generalize bsd a.B (R.getD (i + 1) []) = z at *
   generalize blw a.W (R.getD i []) (R.getD (i + 1) []) = y at *
   generalize stW (R.getD (i + 1) []) = w1 at *
   generalize stW (R.getD i []) = w0 at *
   generalize wsL R = ws at *
   generalize R.length = n at *
   cases z
   ·have kR:=kB rfl
    clear kA kB
    refine W.trim ?_
    refine zCh ?_
    simp (disch:=first|omega|exact zE rfl|exact zO|exact zL rfl) [c78_o2,zG,q]
    refine zCh ?_
    simp (disch:=first|omega|exact zE rfl|exact zO|exact zL rfl) [zG,q]
    refine W.seq (W.block ?_)
    refine zCh ?_
    simp (disch:=first|omega|exact zE rfl|exact zO|exact zL rfl) [c78_o3,zG,q,gH,wi,wi',lw]
    refine zCh ?_
    simp (disch:=first|omega|exact zE rfl|exact zO|exact zL rfl) [-evDraw_c,c78_o4,zG,q,evDraw_0,gS,gH,wi,wi',wj,wj',lw,e68,e69,app_if,app_if']
    refine W.chunk ?_
    simp (disch:=first|omega|exact zE rfl|exact zO|exact zL rfl) [c78_o5,zG,q]
    exact kR _ _ (by simp [T.get])
   ·cases y
    ·have kR:=kB rfl
     clear kA kB
     refine W.trim ?_
     refine zCh ?_
     simp (disch:=first|omega|exact zE rfl|exact zO|exact zL rfl) [c78_o2,zG,q]
     refine zCh ?_
     simp (disch:=first|omega|exact zE rfl|exact zO|exact zL rfl) [zG,q]
     refine W.seq (W.block ?_)
     refine zCh ?_
     simp (disch:=first|omega|exact zE rfl|exact zO|exact zL rfl) [c78_o3,zG,q,gH,wi,wi',lw]
     refine zCh ?_
     simp (disch:=first|omega|exact zE rfl|exact zO|exact zL rfl) [-evDraw_c,c78_o4,zG,q,evDraw_0,gS,gH,wi,wi',wj,wj',lw,e68,e69,app_if,app_if']
     refine W.chunk ?_
     simp (disch:=first|omega|exact zE rfl|exact zO|exact zL rfl) [c78_o5,zG,q]
     exact kR _ _ (by simp [T.get])
    ·have kR:=kA rfl
     clear kA kB
     refine W.trim ?_
     refine zCh ?_
     simp (disch:=first|omega|exact zE rfl|exact zO|exact zL rfl) [c78_o2,zG,q]
     refine zCh ?_
     simp (disch:=first|omega|exact zE rfl|exact zO|exact zL rfl) [zG,q]
     refine W.seq (W.block ?_)
     refine zCh ?_
     simp (disch:=first|omega|exact zE rfl|exact zO|exact zL rfl) [c78_o3,zG,q,gH,wi,wi',lw]
     refine zCh ?_
     simp (disch:=first|omega|exact zE rfl|exact zO|exact zL rfl) [-evDraw_c,c78_o4,zG,q,evDraw_0,gS,gH,wi,wi',wj,wj',lw,e68,e69,app_if,app_if']
     refine W.chunk ?_
     simp (disch:=first|omega|exact zE rfl|exact zO|exact zL rfl) [c78_o5,zG,q]
     refine W.chunk ?_
     simp (disch:=first|omega|exact zE rfl|exact zO|exact zL rfl) [c78_o6,zG,q]
     exact kR _ _ (by simp [T.get,q])
 exact ⟨fun hs => Tr.w fun s1 H1 hp Q kR => main s1 H1 Q hp (fun _ => kR) (fun h => by rw [hs] at h; cases h),fun hs => Tr.w fun s1 H1 hp Q kR => main s1 H1 Q hp (fun h => by rw [hs] at h; cases h) (fun _ => kR)⟩
theorem c78_ok (J : CallF) (k89 : KW 89 J) (k90 : KB 90 J) (hJ : ∀ a h,J 78 a h = none) (h : Heap) (o : OkG a h) (k : WS a m R) (g : h.get b = .cells 1 v (wsL R)) : CallsTo tbl J 78 [a.v,.slice b 0 R.length v] h (.bool (kpS a R),[],false):=by
 refine Tr.fnv (cf:=c78) (e:=.ret) (s:=T.set (T.set .leaf [] a.v) [false] (.slice b 0 R.length v)) (by decide) rfl (hJ _ _) rfl rfl rfl (by simp) ?_
 refine Tr.post (Q:=(fun s h => s.get [true,false] = .bool (kpS a R))) (fun s h q => by simp [c78,q]) ?_
 have oF:=o.fr
 have gF : (frameOf h).get b = .cells 1 v (wsL R):=by
  unfold frameOf
  rw [get_mk_lt _ _ _ _ (get_lt g (by simp))]; exact g
 generalize frameOf h = H0 at *
 obtain ⟨H,hH⟩ : ∃ H,H0.plus [.cells 0 3 [G a.q,a.x,a.y]] = H:=⟨_,rfl⟩
 have kH : Kp (fun _ => False) H0 H:=by rw [← hH]; exact Kp.plus _ _
 have gS : H.get H0.size = .cells 0 3 [G a.q,a.x,a.y]:=by rw [← hH]; exact plus_at0 _ _ _ _ rfl
 have gH:=kH.at gF (by simp) id
 have b0:=fun {i} hi => c78_b0_ok J k89 k90 (oF.kp kH) k gS gH (i:=i) hi
 have l1:=k.l
 cases hk : kpS a R
 ·have l0 : Tr tbl J c78_l0 (fun s h => h = H ∧ s.get [false] = .slice b 0 R.length v ∧ s.get [true] = .ptr H0.size 0 3 ∧ s.get [false,false,false] = .slice b 0 R.length v ∧ s.get [true,false,false] = G R.length ∧ s.get [false,true,false] = G ((0 : Nat) : Int)) .ret (fun s h => s.get [true,false] = .bool false) :=
   Tr.allF (P:=fun i => (fun s h => h = H ∧ s.get [false] = .slice b 0 R.length v ∧ s.get [true] = .ptr H0.size 0 3 ∧ s.get [false,false,false] = .slice b 0 R.length v ∧ s.get [true,false,false] = G R.length ∧ s.get [false,true,false] = G (i : Nat))) (p:=kpB a R) R.length (fun i hi hp => (b0 hi).1 hp) (fun i hi hp => (b0 hi).2 hp) (by simp) _ 0 (by omega) hk
  clear oF k gF o kH gH g b0 hk
  generalize R.length = n at *
  refine Tr.w fun s1 H1 hp _ kR => ?_
  obtain ⟨rfl,rfl⟩:=hp
  have q : True:=trivial
  refine zCh ?_
  simp (disch:=first|omega|exact zE rfl|exact zO|exact zL rfl) [c78_o0,zG,q,hH]
  refine W.assoc ?_
  refine zCh ?_
  simp (disch:=first|omega|exact zE rfl|exact zO|exact zL rfl) [c78_o1,zG,q]
  refine W.seq (W.block ?_)
  refine W.use (l0) (by simp (disch:=first|omega|exact zE rfl|exact zO|exact zL rfl) [zG,q]) fun s1 H1 hp => ?_
  try simp only [zW,if_true]
  exact kR _ _ hp
 ·have fin : Tr tbl J (.trim [[false],[true],[false,false,false],[true,false,false],[false,true,false]] c78_b0) (fun s h => h = H ∧ s.get [false] = .slice b 0 R.length v ∧ s.get [true] = .ptr H0.size 0 3 ∧ s.get [false,false,false] = .slice b 0 R.length v ∧ s.get [true,false,false] = G R.length ∧ s.get [false,true,false] = G (R.length : Nat)) (.exit 0) (fun s h => h = H):=by
   clear b0 gS gH
   generalize R.length = n at *
   refine Tr.w fun s1 H1 hp _ kR => W.trim ?_
   obtain ⟨rfl,q⟩:=hp
   refine zCh ?_
   simp (disch:=first|omega|exact zE rfl|exact zO|exact zL rfl) [c78_o2,zG,q]
   refine zCh ?_
   simp (disch:=first|omega|exact zE rfl|exact zO|exact zL rfl) [zG,q]
   exact kR _ _ rfl
  have l0 : Tr tbl J c78_l0 (fun s h => h = H ∧ s.get [false] = .slice b 0 R.length v ∧ s.get [true] = .ptr H0.size 0 3 ∧ s.get [false,false,false] = .slice b 0 R.length v ∧ s.get [true,false,false] = G R.length ∧ s.get [false,true,false] = G ((0 : Nat) : Int)) (.exit 0) (fun s h => h = H) :=
   Tr.allT (P:=fun i => (fun s h => h = H ∧ s.get [false] = .slice b 0 R.length v ∧ s.get [true] = .ptr H0.size 0 3 ∧ s.get [false,false,false] = .slice b 0 R.length v ∧ s.get [true,false,false] = G R.length ∧ s.get [false,true,false] = G (i : Nat))) (p:=kpB a R) R.length (fun i hi hp => (b0 hi).1 hp) fin (by simp) _ 0 (by omega) hk
  clear oF k gF o kH gH g b0 hk fin
  generalize R.length = n at *
  refine Tr.w fun s1 H1 hp _ kR => ?_
  obtain ⟨rfl,rfl⟩:=hp
  have q : True:=trivial
  refine zCh ?_
  simp (disch:=first|omega|exact zE rfl|exact zO|exact zL rfl) [c78_o0,zG,q,hH]
  refine W.assoc ?_
  refine zCh ?_
  simp (disch:=first|omega|exact zE rfl|exact zO|exact zL rfl) [c78_o1,zG,q]
  refine W.seq (W.block ?_)
  refine W.use (l0) (by simp (disch:=first|omega|exact zE rfl|exact zO|exact zL rfl) [zG,q]) fun s1 H1 hp => ?_
  obtain rfl:=hp
  try simp only [zW,if_true]
  refine zCh ?_
  simp (disch:=first|omega|exact zE rfl|exact zO|exact zL rfl) [c78_o7,zG,q]
  refine W.ret ?_
  try simp only [zW,if_true]
  exact kR _ _ (by simp [T.get])
end
structure AWS where
 a : AG
 m : Nat
 R : List (List Nat)
 b : Nat
 v : Nat
def Ok78 (b : AWS) (h : Heap) : Prop:=OkG b.a h ∧ WS b.a b.m b.R ∧ h.get b.b = .cells 1 b.v (wsL b.R)
def Pre78 (b : AWS) (args : List AV) (h : Heap) : Prop:=Ok78 b h ∧ args = [b.a.v,.slice b.b 0 b.R.length b.v]
def Post78 (b : AWS) (h : Heap) (v : AV) (own : List AObj) : Prop:=v = .bool (kpS b.a b.R) ∧ own = []
noncomputable def T68 : CallF:=addK tbl T67 78 Pre78 Post78
theorem t68 : Sound Go.Proofs.Try.prog T68:=Sound.addK follows ok t67 (by decide) _ _
theorem k89_67 : KW 89 T67:=fun h a w o hw lw => by
 rw [show T67 89 [a.v,.str (stW w)] h = T13 89 [a.v,.str (stW w)] h from by simp (disch:=decide) only [T14,T15,T16,T17,T18,T19,T20,T21,T22,T23,T24,T25,T26,T27,T28,T29,T30,T31,T32,T33,T34,T35,T36,T37,T38,T39,T40,T41,T42,T43,T44,T45,T46,T47,T48,T49,T50,T51,T52,T53,T54,T55,T56,T57,T58,T59,T60,T61,T62,T63,T64,T65,T66,T67,addI_ne,addX_ne,addV_ne,addK_ne]]; exact k89 h a w o hw lw
theorem k90_67 : KB 90 T67:=fun h a s t o hs ht ls lt => by
 rw [show T67 90 [a.v,.str (stW s),.str (stW t)] h = T15 90 [a.v,.str (stW s),.str (stW t)] h from by simp (disch:=decide) only [T16,T17,T18,T19,T20,T21,T22,T23,T24,T25,T26,T27,T28,T29,T30,T31,T32,T33,T34,T35,T36,T37,T38,T39,T40,T41,T42,T43,T44,T45,T46,T47,T48,T49,T50,T51,T52,T53,T54,T55,T56,T57,T58,T59,T60,T61,T62,T63,T64,T65,T66,T67,addI_ne,addX_ne,addV_ne,addK_ne]]; exact k90 h a s t o hs ht ls lt
abbrev K78 (J : CallF) : Prop:=∀ (h : Heap) (a : AG) (m : Nat) (R : List (List Nat)) (b v : Nat),OkG a h → WS a m R → h.get b = .cells 1 v (wsL R) → J 78 [a.v,.slice b 0 R.length v] h = some (.bool (kpS a R),[],false)
theorem k78 : K78 T68:=fun h a m R b v o k g => by
 obtain ⟨v,own,e,rfl,rfl⟩:=addK_some (Pre:=Pre78) (Post:=Post78) (fun b args h hp => by
  obtain ⟨⟨o,k,g⟩,rfl⟩:=hp
  exact ⟨_,_,c78_ok T67 k89_67 k90_67 (fun _ _ => by simp (disch:=decide) only [T1,T2,T3,T4,T5,T6,T7,T8,T9,T10,T11,T12,T13,T14,T15,T16,T17,T18,T19,T20,T21,T22,T23,T24,T25,T26,T27,T28,T29,T30,T31,T32,T33,T34,T35,T36,T37,T38,T39,T40,T41,T42,T43,T44,T45,T46,T47,T48,T49,T50,T51,T52,T53,T54,T55,T56,T57,T58,T59,T60,T61,T62,T63,T64,T65,T66,T67,addI_ne,addX_ne,addV_ne,addK_ne]; rfl) h o k g,rfl,rfl⟩) ⟨a,m,R,b,v⟩ _ h ⟨⟨o,k,g⟩,rfl⟩
 exact e
theorem goodB_of {qq : Nat} {u : UInt8} (q3 : qq ≤ 3) (h : goodB qq u = true) : ∃ c,c < qq ∧ UInt8.ofNat (48 + c) = u:=by
 unfold goodB at h
 rw [decide_eq_true_eq] at h
 refine ⟨u.toNat - 48,by omega,?_⟩
 rw [show 48 + (u.toNat - 48) = u.toNat by omega]
 exact UInt8.ofNat_toNat
theorem goodS_of {qq : Nat} (q3 : qq ≤ 3) : ∀ {s : List UInt8},goodS qq s = true → ∃ w,stW w = s ∧ ∀ c ∈ w,c < qq
 | [],_ => ⟨[],rfl,fun c h => (by cases h)⟩
 | u :: s,h => by
  unfold goodS at h
  rw [List.all_cons,Bool.and_eq_true] at h
  obtain ⟨c,h1,h2⟩:=goodB_of q3 h.1
  obtain ⟨w,h3,h4⟩:=goodS_of q3 (s:=s) h.2
  refine ⟨c :: w,?_,fun d hd => ?_⟩
  ·show UInt8.ofNat (48 + c) :: stW w = u :: s
   rw [h2,h3]
  ·rcases List.mem_cons.1 hd with rfl | hd
   ·exact h1
   ·exact h4 d hd
theorem words_all {qq m : Nat} (q3 : qq ≤ 3) : ∀ {L : List (List UInt8)},(∀ s ∈ L,s.length = m ∧ goodS qq s = true) → ∃ R : List (List Nat),L = R.map stW ∧ ∀ w ∈ R,w.length = m ∧ ∀ c ∈ w,c < qq
 | [],_ => ⟨[],rfl,fun w h => (by cases h)⟩
 | s :: L,h => by
  obtain ⟨h1,h2⟩:=h s (by simp)
  obtain ⟨w,h3,h4⟩:=goodS_of q3 h2
  obtain ⟨R,h5,h6⟩:=words_all q3 (L:=L) fun t ht => h t (by simp [ht])
  refine ⟨w :: R,by rw [h5,List.map_cons,h3],fun v hv => ?_⟩
  rcases List.mem_cons.1 hv with rfl | hv
  ·exact ⟨by rw [← h1,← h3,stW_len],h4⟩
  ·exact h6 v hv
theorem isS_words {qq : Nat} (q3 : qq ≤ 3) {L : List (List UInt8)} (h : isS qq L = true) : ∃ (m : Nat) (R : List (List Nat)),L = R.map stW ∧ (∀ w ∈ R,w.length = m ∧ ∀ c ∈ w,c < qq) ∧ 1 ≤ m ∧ m ≤ 5 ∧ 1 ≤ R.length ∧ R.length ≤ 40 ∧ (L.getD 0 []).length = m:=by
 unfold isS at h
 simp only [Bool.and_eq_true,decide_eq_true_eq] at h
 obtain ⟨⟨h1,h2⟩,h3⟩:=h
 obtain ⟨R,h4,h5⟩:=words_all (m:=(L.getD 0 []).length) q3 fun s hs => by
  have:=List.all_eq_true.1 h3 s hs
  unfold rowOkS at this
  simpa only [Bool.and_eq_true,decide_eq_true_eq] using this
 have hl : R.length = L.length:=by rw [h4,List.length_map]
 exact ⟨_,R,h4,h5,h2.1,h2.2,by omega,by omega,rfl⟩
def Post45 (a : AR) (L : List (List UInt8)) (v : AV) (own : List AObj) : Prop:=own = [] ∧ ((a.ru && isS a.q.toNat L) = false → v = .tup [.bool false,G 2]) ∧ ((a.ru && isS a.q.toNat L) = true → ∀ R : List (List Nat),L = R.map stW → (∀ w ∈ R,∀ c ∈ w,c < a.q.toNat) → v = .tup [.bool (kpS a.g R),G 0])
section
variable {a : AR} {x : AV} {L : List (List UInt8)}
theorem stW_map_inj {R R' : List (List Nat)} (h : ∀ w ∈ R,∀ c ∈ w,c < 3) (h' : ∀ w ∈ R',∀ c ∈ w,c < 3) (e : R.map stW = R'.map stW) : R = R':=by
 induction R generalizing R' with
 | nil =>
  cases R' with
  | nil => rfl
  | cons b R' => simp at e
 | cons b R ih =>
  cases R' with
  | nil => simp at e
  | cons b' R' =>
   simp only [List.map_cons,List.cons.injEq] at e
   rw [stW_inj (h b (by simp)) (h' b' (by simp)) e.1,ih (fun w hw => h w (by simp [hw])) (fun w hw => h' w (by simp [hw])) e.2]
end
structure A45 where
 a : AR
 x : AV
 L : List (List UInt8)
def Ok45 (b : A45) (h : Heap) : Prop:=OkR b.a h ∧ EL h b.x (ss b.L) ∧ b.L.length ≤ 1000000 ∧ ∀ s ∈ b.L,s.length ≤ 1000000
def Pre45 (b : A45) (args : List AV) (h : Heap) : Prop:=Ok45 b h ∧ args = [b.a.v,b.x]
noncomputable def T69 : CallF:=addK tbl T68 45 Pre45 (fun b _ v own => Post45 b.a b.L v own)
theorem t69 : Sound Go.Proofs.Try.prog T69:=Sound.addK follows ok t68 (by decide) _ _
end Go.Proofs.Ytljgfdamdcikgaa.Ev
set_option linter.unusedVariables false
set_option linter.unusedSimpArgs false
namespace Go.Proofs.Ytljgfdamdcikgaa.Ev
open Go Go.AEv
def ge (g : List (List Nat)) (i j : Nat) : Nat:=(g.getD i []).getD j 0
def pf (f : Nat → Nat) (a : Nat) : Nat:=((List.range a).map f).sum
section
variable {S : List (List Nat)}
def eS (S : List (List Nat)) (a b : Nat) : Nat:=(S.getD a []).getD b 0
def lS (S : List (List Nat)) (a : Nat) : Nat:=(S.getD a []).length
def w2 (S : List (List Nat)) (a b : Nat) : Nat:=pf (fun b => lS S (eS S a b)) b
def w3 (S : List (List Nat)) (a b : Nat) : Nat:=pf (fun b => if eS S a b = a then 1 else 0) b
variable (nd : ∀ i,(S.getD i []).Nodup)
include nd
omit nd in
end
structure BdS (S : List (List Nat)) : Prop where
 l : ∀ a,lS S a ≤ 1000
 n : S.length ≤ 1000
section
variable {S : List (List Nat)} (o : BdS S)
include o
omit o in
omit o in
end
section
variable {S : List (List Nat)}
def wl (S : List (List Nat)) : Nat → Nat → List (List Nat)
 | 0,i => [[i]]
 | k + 1,i => (S.getD i []).flatMap fun c => (wl S k c).map (i :: ·)
end
theorem ft_end (p : Nat → Bool) (w : Nat → Nat) : ∀ d i,ft p w (d + 1) i = ft p w d i + if p (i + d) = true then w (i + d) else 0
 | 0,i => by simp [ft]
 | d + 1,i => by
  show (if p i = true then w i else 0) + ft p w (d + 1) (i + 1) = ((if p i = true then w i else 0) + ft p w d (i + 1)) + _
  rw [ft_end p w d (i + 1),show i + 1 + d = i + (d + 1) by omega]
  omega
theorem ft_mono (p : Nat → Bool) (w : Nat → Nat) : ∀ e d i,ft p w d i ≤ ft p w (d + e) i
 | 0,d,i => Nat.le_refl _
 | e + 1,d,i => by
  rw [show d + (e + 1) = (d + e) + 1 by omega,ft_end]
  exact Nat.le_trans (ft_mono p w e d i) (Nat.le_add_right _ _)
def ix (S : List (List Nat)) : Int → List Nat → Nat
 | _,[] => 0
 | now,c :: L => ft (pN S now) (cnt S L.length) c 0 + ix S (c : Int) L
def VC (S : List (List Nat)) : Int → List Nat → Prop
 | _,[] => True
 | now,c :: L => c < S.length ∧ pN S now c = true ∧ VC S (c : Int) L
section
variable {S : List (List Nat)}
theorem ft_nw (hs : Srt S) (now : Int) (w : Nat → Nat) : ft (pN S now) w S.length 0 = ((nwL S now).map w).sum:=by
 rw [ft_sum,nw_filter hs]
theorem nw_cnt (c k : Nat) : ((nwL S (c : Int)).map (cnt S k)).sum = cnt S (k + 1) c:=by
 unfold nwL
 rw [if_neg (by omega),Int.toNat_natCast]; rfl
theorem ix_lt (hs : Srt S) : ∀ {L : List Nat} {c : Nat} {now : Int},VC S now (c :: L) → ix S now (c :: L) < ft (pN S now) (cnt S L.length) S.length 0
 | [],c,now,h => by
  obtain ⟨h1,h2,_⟩:=h
  show ft (pN S now) (cnt S 0) c 0 + 0 < _
  have e:=ft_end (pN S now) (cnt S 0) c 0
  rw [Nat.zero_add,if_pos h2] at e
  have:=ft_mono (pN S now) (cnt S 0) (S.length - (c + 1)) (c + 1) 0
  rw [show c + 1 + (S.length - (c + 1)) = S.length by omega] at this
  have o : cnt S 0 c = 1:=rfl
  have l0 : ([] : List Nat).length = 0:=rfl
  rw [l0]
  omega
 | d :: L,c,now,h => by
  obtain ⟨h1,h2,h3⟩:=h
  have ih:=ix_lt hs h3
  rw [ft_nw hs,nw_cnt] at ih
  have e:=ft_end (pN S now) (cnt S (L.length + 1)) c 0
  rw [Nat.zero_add,if_pos h2] at e
  have:=ft_mono (pN S now) (cnt S (L.length + 1)) (S.length - (c + 1)) (c + 1) 0
  rw [show c + 1 + (S.length - (c + 1)) = S.length by omega] at this
  show ft (pN S now) (cnt S (L.length + 1)) c 0 + ix S (c : Int) (d :: L) < ft (pN S now) (cnt S (L.length + 1)) S.length 0
  omega
end
end Go.Proofs.Ytljgfdamdcikgaa.Ev
set_option linter.unusedVariables false
set_option linter.unusedSimpArgs false
namespace Go.Proofs.Ytljgfdamdcikgaa.Ev
open Go Go.AEv
attribute [local simp] evFunc initS evOps_c evTrim_c evSkip_c evExit_c evRet_c evSeq_c evCond_c evBlock_c evDraw_c runOps_n runOps_c exec_n exec_g pure1_c act AOpd.ev T.get T.set T.put evBin evUn forceT_eq forceV_eq forceL_eq evRess evRes one keep runFP_n runFP_c app_none AV.flats AV.flat came_some List.getElem?_cons_zero List.getElem?_cons_succ beqT wrapI idxI tdivI tmodI decT decF ibT ibF inT inF evScope_c if_pos if_neg Cm_some thenW_n thenW_e thenW_r blkW_n blkW_e blkW_r goI kn putAt AV.cells fillA loadA takeA mk Eff.isAll Eff.isNone Eff.commutes Eff.spares okPair apart eqAgg fits LK.fits allEq aveq eqk mmA
section
variable {S : List (List Nat)} {p N : Nat}
set_option maxHeartbeats 1000000 in
theorem c44_l0_ok (J : CallF) (k70 : K70 J) {H : Heap} (lf : LF H p S) (os : OkS S) {bo br bs v k i : Nat} {ros : List AV} (g1 : H.get bo = .cells 1 N ros) (lo : ros.length = N) (hk : k + 1 + i = N) (er : ros[k]? = some (.slice br 0 S.length S.length)) (gr : H.get br = .cells 1 S.length (gn (rowC S k))) (h40 : N ≤ 40) {now : Int} (hw : now = -1 ∨ ∃ c : Nat,now = c ∧ c < S.length) {c o : Nat} (hc : c < S.length) (bd : o + ft (pN S now) (cnt S k) c 0 ≤ 1152921504606846976) :
  Tr tbl J c44_l0 (fun s h => h = H ∧ s.get [false] = .slice bs 0 N v ∧ s.get [true,true] = .ptr p 0 3 ∧ s.get [false,false,false] = .slice bo 0 N N ∧ s.get [false,true,false] = G (o + ft (pN S now) (cnt S k) 0 0 : Nat) ∧ s.get [true,true,false] = G now ∧ s.get [false,false,true] = G (i : Nat) ∧ s.get [false,true,true] = G (c : Nat) ∧ s.get [false,false,true,true,false] = .slice bs 0 N v ∧ s.get [true,false,true,true,false] = G N ∧ s.get [false,true,true,true,false] = G (i : Nat) ∧ s.get [true,false,false,true,true] = G (c : Nat) ∧ s.get [false,true,false,true,true] = G ((0 : Nat) : Int)) (.exit 2)
   (fun s h => h = H ∧ s.get [false] = .slice bs 0 N v ∧ s.get [true,true] = .ptr p 0 3 ∧ s.get [false,false,false] = .slice bo 0 N N ∧ s.get [false,true,false] = G (o + ft (pN S now) (cnt S k) c 0 : Nat) ∧ s.get [false,true,true] = G (c : Nat) ∧ s.get [false,false,true,true,false] = .slice bs 0 N v ∧ s.get [true,false,true,true,false] = G N ∧ s.get [false,true,true,true,false] = G (i : Nat)):=by
 have n2:=os.n
 refine Tr.rounds (P:=fun j => (fun s h => h = H ∧ s.get [false] = .slice bs 0 N v ∧ s.get [true,true] = .ptr p 0 3 ∧ s.get [false,false,false] = .slice bo 0 N N ∧ s.get [false,true,false] = G (o + ft (pN S now) (cnt S k) j 0 : Nat) ∧ s.get [true,true,false] = G now ∧ s.get [false,false,true] = G (i : Nat) ∧ s.get [false,true,true] = G (c : Nat) ∧ s.get [false,false,true,true,false] = .slice bs 0 N v ∧ s.get [true,false,true,true,false] = G N ∧ s.get [false,true,true,true,false] = G (i : Nat) ∧ s.get [true,false,false,true,true] = G (c : Nat) ∧ s.get [false,true,false,true,true] = G (j : Nat))) (M:=c) (fun j hj => ?_) ?_ (by simp) 0 (by omega)
 ·have hjS : j < S.length:=by omega
  have er':=getI er
  have e1:=gn_at (L:=rowC S k) (i:=j) (by rw [rowC_len]; exact hjS)
  rw [rowC_at S k hjS] at e1
  have e1':=getI e1
  have l1 : (gn (rowC S k)).length = S.length:=by rw [gn_len,rowC_len]
  have tst : (now = -1 ∧ pN S now j = true) ∨ ∃ (c : Nat) (x : AV) (mb nb : Nat) (rs : List AV) (y : AV),now = c ∧ c < S.length ∧ H.get p = .cells 0 3 [x,.map mb,.slice nb 0 S.length S.length] ∧ H.get nb = .cells 1 S.length rs ∧ rs[c]? = some y ∧ J 70 [y,G j] H = some (.bool (pN S now j),[],false):=by
   rcases hw with rfl | ⟨c,rfl,hc⟩
   ·exact .inl ⟨rfl,rfl⟩
   ·obtain ⟨x,mb,nb,rs,f1,_,f3,f4⟩:=lf
    obtain ⟨y,ey,rv⟩:=f4 c hc
    refine .inr ⟨c,x,mb,nb,rs,y,rfl,hc,f1,f3,ey,?_⟩
    rw [k70 H y j (S.getD c []) rv (by have:=os.len c; omega)]
    have e : pN S (c : Int) j = decide (j ∈ S.getD c []):=by
     unfold pN
     rw [show decide ((c : Int) < 0) = false from decide_eq_false (by omega),Bool.false_or,Int.toNat_natCast]
    rw [e]
  have fe:=ft_end (pN S now) (cnt S k) j 0
  rw [Nat.zero_add] at fe
  have mo:=ft_mono (pN S now) (cnt S k) (c - (j + 1)) (j + 1) 0
  rw [show j + 1 + (c - (j + 1)) = c by omega] at mo
  rw [fe] at mo ⊢
  have i1 : ((i : Nat) : Int) = i:=rfl
  have kk : ((N : Int) - 1 - (i : Int)) = (k : Int):=by omega
  clear lf os hw fe
  generalize ft (pN S now) (cnt S k) c 0 = fc at *
  generalize ft (pN S now) (cnt S k) j 0 = fj at *
  generalize pN S now j = pp at *
  generalize cnt S k j = w at *
  generalize gn (rowC S k) = cs at *
  cases pp
  ·rw [if_neg (by simp),Nat.add_zero] at mo ⊢
   obtain ⟨d,x,mb,nb,rs,y,rfl,hd,f1,f3,ey,k7⟩:=tst.resolve_left (fun e => by cases e.2)
   have ey':=getI ey
   have lrs : d < rs.length:=(List.getElem?_eq_some_iff.1 ey).1
   clear tst
   generalize S.length = n at *
   refine Tr.w fun s1 H1 hp _ kR => W.trim ?_
   obtain ⟨rfl,q⟩:=hp
   refine zCh ?_
   simp (disch:=first|omega|exact zE rfl|exact zO|exact zL rfl) [c44_o15,zG,q]
   refine zCh ?_
   simp (disch:=first|omega|exact zE rfl|exact zO|exact zL rfl) [zG,q]
   refine W.seq (W.block ?_)
   refine zCh ?_
   simp (disch:=first|omega|exact zE rfl|exact zO|exact zL rfl) [c44_o16,zG,q]
   refine zCh ?_
   simp (disch:=first|omega|exact zE rfl|exact zO|exact zL rfl) [c44_o17,zG,q,f1,f3,ey,ey',k7]
   refine W.chunk ?_
   simp (disch:=first|omega|exact zE rfl|exact zO|exact zL rfl) [c44_o18,zG,q]
   refine W.chunk ?_
   simp (disch:=first|omega|exact zE rfl|exact zO|exact zL rfl) [c44_o19,zG,q]
   exact kR _ _ (by simp [T.get,q])
  ·rw [if_pos rfl] at mo ⊢
   have nn : ((o + (fj + w) : Nat) : Int) = ((o + fj : Nat) : Int) + w:=by omega
   rcases tst with ⟨rfl,_⟩ | ⟨d,x,mb,nb,rs,y,rfl,hd,f1,f3,ey,k7⟩
   ·generalize S.length = n at *
    rw [nn]
    generalize o + fj = of at *
    refine Tr.w fun s1 H1 hp _ kR => W.trim ?_
    obtain ⟨rfl,q⟩:=hp
    refine zCh ?_
    simp (disch:=first|omega|exact zE rfl|exact zO|exact zL rfl) [c44_o15,zG,q]
    refine zCh ?_
    simp (disch:=first|omega|exact zE rfl|exact zO|exact zL rfl) [zG,q]
    refine W.seq (W.block ?_)
    refine zCh ?_
    simp (disch:=first|omega|exact zE rfl|exact zO|exact zL rfl) [c44_o16,zG,q]
    refine zCh ?_
    simp (disch:=first|omega|exact zE rfl|exact zO|exact zL rfl) [c44_o17,zG,q]
    refine W.chunk ?_
    simp (disch:=first|omega|exact zE rfl|exact zO|exact zL rfl) [c44_o18,zG,q,g1,lo,er,er',gr,e1,e1',l1,kk]
    refine W.chunk ?_
    simp (disch:=first|omega|exact zE rfl|exact zO|exact zL rfl) [c44_o19,zG,q]
    exact kR _ _ (by simp [T.get,q])
   ·have ey':=getI ey
    have lrs : d < rs.length:=(List.getElem?_eq_some_iff.1 ey).1
    generalize S.length = n at *
    rw [nn]
    generalize o + fj = of at *
    refine Tr.w fun s1 H1 hp _ kR => W.trim ?_
    obtain ⟨rfl,q⟩:=hp
    refine zCh ?_
    simp (disch:=first|omega|exact zE rfl|exact zO|exact zL rfl) [c44_o15,zG,q]
    refine zCh ?_
    simp (disch:=first|omega|exact zE rfl|exact zO|exact zL rfl) [zG,q]
    refine W.seq (W.block ?_)
    refine zCh ?_
    simp (disch:=first|omega|exact zE rfl|exact zO|exact zL rfl) [c44_o16,zG,q]
    refine zCh ?_
    simp (disch:=first|omega|exact zE rfl|exact zO|exact zL rfl) [c44_o17,zG,q,f1,f3,ey,ey',k7]
    refine W.chunk ?_
    simp (disch:=first|omega|exact zE rfl|exact zO|exact zL rfl) [c44_o18,zG,q,g1,lo,er,er',gr,e1,e1',l1,kk]
    refine W.chunk ?_
    simp (disch:=first|omega|exact zE rfl|exact zO|exact zL rfl) [c44_o19,zG,q]
    exact kR _ _ (by simp [T.get,q])
 ·clear lf os hw
  generalize o + ft (pN S now) (cnt S k) c 0 = of at *
  generalize S.length = n at *
  refine Tr.w fun s1 H1 hp _ kR => W.trim ?_
  obtain ⟨rfl,q⟩:=hp
  refine zCh ?_
  simp (disch:=first|omega|exact zE rfl|exact zO|exact zL rfl) [c44_o15,zG,q]
  refine zCh ?_
  simp (disch:=first|omega|exact zE rfl|exact zO|exact zL rfl) [zG,q]
  exact kR _ _ (by simp [T.get,q])
structure XI (S : List (List Nat)) (P : List Nat) (T i : Nat) (o : Nat) (now : Int) : Prop where
 e : o + ix S now (P.drop i) = T
 v : VC S now (P.drop i)
 w : now = -1 ∨ ∃ c : Nat,now = c ∧ c < S.length
set_option maxHeartbeats 1000000 in
theorem c44_l1_ok (J : CallF) (k70 : K70 J) {H : Heap} {R : List (List Nat)} (lf : LF H p S) (lm : LMm H p R) (hR : R.length = S.length) (os : OkS S) {bo bs v : Nat} {ros : List AV} {P : List Nat} (hP : P.length = N) (g1 : H.get bo = .cells 1 N ros) (lo : ros.length = N) (tbl' : ∀ j,j < N → ∃ br,ros[j]? = some (.slice br 0 S.length S.length) ∧ H.get br = .cells 1 S.length (gn (rowC S j))) (h40 : N ≤ 40) (gs0 : H.get bs = .cells 1 v (wsL (rT2 R P))) (vc : VC S (-1) P) (bd : ix S (-1) P ≤ 1152921504606846976) :
  Tr tbl J c44_l1 (fun s h => h = H ∧ s.get [false] = .slice bs 0 N v ∧ s.get [true,true] = .ptr p 0 3 ∧ s.get [false,false,false] = .slice bo 0 N N ∧ s.get [false,true,false] = G 0 ∧ s.get [true,true,false] = G (-1) ∧ s.get [false,false,true,true,false] = .slice bs 0 N v ∧ s.get [true,false,true,true,false] = G N ∧ s.get [false,true,true,true,false] = G ((0 : Nat) : Int)) (.exit 0) (fun s h => h = H ∧ s.get [false,true,false] = G (ix S (-1) P)):=by
 have pre : ∀ s h,((fun s h => h = H ∧ s.get [false] = .slice bs 0 N v ∧ s.get [true,true] = .ptr p 0 3 ∧ s.get [false,false,false] = .slice bo 0 N N ∧ s.get [false,true,false] = G 0 ∧ s.get [true,true,false] = G (-1) ∧ s.get [false,false,true,true,false] = .slice bs 0 N v ∧ s.get [true,false,true,true,false] = G N ∧ s.get [false,true,true,true,false] = G ((0 : Nat) : Int)) : SP) s h →
   (h = H ∧ ∃ o now,XI S P (ix S (-1) P) 0 o now ∧ s.get [false] = .slice bs 0 N v ∧ s.get [true,true] = .ptr p 0 3 ∧ s.get [false,false,false] = .slice bo 0 N N ∧ s.get [false,true,false] = G (o : Nat) ∧ s.get [true,true,false] = G now ∧ s.get [false,false,true,true,false] = .slice bs 0 N v ∧ s.get [true,false,true,true,false] = G N ∧ s.get [false,true,true,true,false] = G ((0 : Nat) : Int)):=fun s h ⟨h0,h1,h2,h3,h4,h5,h6,h7,h8⟩ =>
  ⟨h0,0,-1,⟨by rw [List.drop_zero,Nat.zero_add],vc,.inl rfl⟩,h1,h2,h3,h4,h5,h6,h7,h8⟩
 refine Tr.pre pre ?_
 refine Tr.rounds (P:=fun i s h => h = H ∧ ∃ o now,XI S P (ix S (-1) P) i o now ∧ s.get [false] = .slice bs 0 N v ∧ s.get [true,true] = .ptr p 0 3 ∧ s.get [false,false,false] = .slice bo 0 N N ∧ s.get [false,true,false] = G (o : Nat) ∧ s.get [true,true,false] = G now ∧ s.get [false,false,true,true,false] = .slice bs 0 N v ∧ s.get [true,false,true,true,false] = G N ∧ s.get [false,true,true,true,false] = G (i : Nat)) (M:=N) (fun i hi => ?_) ?_ (by simp) 0 (by omega)
 ·refine Tr.w fun s1 H1 hp Q kR => W.trim ?_
  obtain ⟨rfl,o,now,xi,q⟩:=hp
  have hiP : i < P.length:=by omega
  have dr : P.drop i = P.getD i 0 :: P.drop (i + 1):=by
   rw [List.drop_eq_getElem_cons hiP,List.getD_eq_getElem?_getD,List.getElem?_eq_getElem hiP]; rfl
  obtain ⟨xe,xv,xw⟩:=xi
  rw [dr] at xe xv
  obtain ⟨v1,v2,v3⟩:=xv
  obtain ⟨k,hk⟩ : ∃ k,k + 1 + i = N:=⟨N - 1 - i,by omega⟩
  have dl : (P.drop (i + 1)).length = k:=by rw [List.length_drop]; omega
  have xe' : o + (ft (pN S now) (cnt S (P.drop (i + 1)).length) (P.getD i 0) 0 + ix S (P.getD i 0 : Nat) (P.drop (i + 1))) = ix S (-1) P:=xe
  rw [dl] at xe'
  obtain ⟨br,er,gr⟩:=tbl' k (by omega)
  have l0:=c44_l0_ok (bs:=bs) (v:=v) (i:=i) J k70 lf os g1 lo hk er gr h40 xw v1 (show o + _ ≤ _ by omega)
  have f0 : ft (pN S now) (cnt S k) 0 0 = 0:=rfl
  rw [f0,Nat.add_zero] at l0
  obtain ⟨x,mb,nx,es,m1,m2,m3⟩:=lm
  have hw0:=m3 (P.getD i 0) (by omega)
  have wi:=wsL_at (R:=rT2 R P) (i:=i) (by unfold rT2; rw [List.length_map]; exact hiP)
  rw [rT2_at hiP] at wi
  have wi':=getI wi
  have lw : (wsL (rT2 R P)).length = N:=by rw [wsL_len]; unfold rT2; rw [List.length_map,hP]
  have ma:=mapA_at m2
  have xi2 : XI S P (ix S (-1) P) (i + 1) (o + ft (pN S now) (cnt S k) (P.getD i 0) 0) (P.getD i 0 : Nat):=⟨by omega,v3,.inr ⟨_,rfl,v1⟩⟩
  clear xe xe' v2 v3 xw tbl' lf m3 er gr dr vc pre m2
  generalize ix S (-1) P = tot at *
  generalize ft (pN S now) (cnt S k) (P.getD i 0) 0 = fc at *
  generalize P.getD i 0 = c at *
  generalize stW (R.getD c []) = w at *
  generalize wsL (rT2 R P) = ws at *
  refine zCh ?_
  simp (disch:=first|omega|exact zE rfl|exact zO|exact zL rfl) [c44_o11,zG,q]
  refine zCh ?_
  simp (disch:=first|omega|exact zE rfl|exact zO|exact zL rfl) [zG,q]
  refine W.seq (W.block ?_)
  refine zCh ?_
  simp (disch:=first|omega|exact zE rfl|exact zO|exact zL rfl) [c44_o12,zG,q,gs0,wi,wi',lw]
  refine zCh ?_
  simp (disch:=first|omega|exact zE rfl|exact zO|exact zL rfl) [c44_o13,zG,q,m1,ma,hw0]
  refine W.assoc ?_
  refine zCh ?_
  simp (disch:=first|omega|exact zE rfl|exact zO|exact zL rfl) [c44_o14,zG,q]
  refine W.seq (W.block ?_)
  refine W.use (l0) (by simp (disch:=first|omega|exact zE rfl|exact zO|exact zL rfl) [zG,q]) fun s1 H1 hp => ?_
  obtain ⟨rfl,q⟩:=hp
  try simp only [zW,if_true]
  refine W.chunk ?_
  simp (disch:=first|omega|exact zE rfl|exact zO|exact zL rfl) [c44_o20,zG,q]
  refine W.chunk ?_
  simp (disch:=first|omega|exact zE rfl|exact zO|exact zL rfl) [c44_o21,zG,q]
  exact kR _ _ ⟨rfl,_,_,xi2,by simp [T.get,q]⟩
 ·refine Tr.w fun s1 H1 hp Q kR => W.trim ?_
  obtain ⟨rfl,o,now,xi,q⟩:=hp
  have xe:=xi.e
  rw [List.drop_of_length_le (by omega)] at xe
  have xe : o = ix S (-1) P:=by
   rw [← xe]; rfl
  subst xe
  clear xi tbl' lf lm vc pre
  generalize ix S (-1) P = tot at *
  refine zCh ?_
  simp (disch:=first|omega|exact zE rfl|exact zO|exact zL rfl) [c44_o11,zG,q]
  refine zCh ?_
  simp (disch:=first|omega|exact zE rfl|exact zO|exact zL rfl) [zG,q]
  exact kR _ _ ⟨rfl,by simp [T.get,q]⟩
end
theorem own_all (own : List AObj) : Eff.isAll (if own = [] then Eff.none else Eff.grow own) = false:=by
 split <;> rfl
theorem isAll_none : Eff.isAll Eff.none = false:=rfl
theorem pos_of {W : List (List Int)} {rows : List (List Nat)} : ∀ (R : List (List Nat)) (now : Int),(now = -1 ∨ ∃ c : Nat,now = c ∧ c < rows.length ∧ (∀ w,R[0]? = some w → blw W (rows.getD c []) w = true)) → (∀ w ∈ R,w ∈ rows) → (∀ i,i + 1 < R.length → blw W (R.getD i []) (R.getD (i + 1) []) = true) → ∃ P,R = rT2 rows P ∧ VC (stL W rows) now P
 | [],now,_,_,_ => ⟨[],rfl,trivial⟩
 | w :: R,now,h1,h2,h3 => by
  obtain ⟨c,hc,e⟩:=List.mem_iff_getElem.1 (h2 w (by simp))
  have ew : rows.getD c [] = w:=by rw [List.getD_eq_getElem?_getD,List.getElem?_eq_getElem hc]; exact e
  have sl : (stL W rows).length = rows.length:=by simp [stL]
  obtain ⟨P,e1,e2⟩:=pos_of R (c : Int) (.inr ⟨c,rfl,hc,fun w' hw' => by
   have hl:=(List.getElem?_eq_some_iff.1 hw').1
   have:=h3 0 (by rw [List.length_cons]; omega)
   rw [ew]
   have e0 : (w :: R).getD 1 [] = w':=by
    rw [List.getD_eq_getElem?_getD]
    show (R[0]?).getD [] = w'
    rw [hw']; rfl
   have e1 : (w :: R).getD 0 [] = w:=rfl
   rw [e1,e0] at this
   exact this⟩) (fun v hv => h2 v (by simp [hv])) (fun i hi => h3 (i + 1) (by rw [List.length_cons]; omega))
  refine ⟨c :: P,?_,by rw [sl]; exact hc,?_,e2⟩
  ·show w :: R = rows.getD c [] :: rT2 rows P
   rw [ew,e1]
  ·unfold pN
   rcases h1 with rfl | ⟨d,rfl,hd,hb⟩
   ·rfl
   ·rw [Int.toNat_natCast,stL_mem hd hc,ew,hb w rfl,Bool.or_true]
theorem rT2_inj {rows : List (List Nat)} (nd : rows.Nodup) : ∀ {P Q : List Nat},(∀ c ∈ P,c < rows.length) → (∀ c ∈ Q,c < rows.length) → rT2 rows P = rT2 rows Q → P = Q
 | [],[],_,_,_ => rfl
 | [],_ :: _,_,_,e => by simp [rT2] at e
 | _ :: _,[],_,_,e => by simp [rT2] at e
 | c :: P,d :: Q,h1,h2,e => by
  simp only [rT2,List.map_cons,List.cons.injEq] at e
  have hc:=h1 c (by simp)
  have hd:=h2 d (by simp)
  have e1:=e.1
  rw [List.getD_eq_getElem?_getD,List.getD_eq_getElem?_getD,List.getElem?_eq_getElem hc,List.getElem?_eq_getElem hd] at e1
  have : c = d:=by
   rcases Nat.lt_trichotomy c d with l | l | l
   ·exact absurd e1 ((List.pairwise_iff_getElem.1 nd) c d hc hd l)
   ·exact l
   ·exact absurd e1.symm ((List.pairwise_iff_getElem.1 nd) d c hd hc l)
  subst this
  rw [rT2_inj nd (fun x hx => h1 x (by simp [hx])) (fun x hx => h2 x (by simp [hx])) e.2]
theorem VC.lt {S : List (List Nat)} : ∀ {P : List Nat} {now : Int},VC S now P → ∀ c ∈ P,c < S.length
 | [],_,_,c,h => by cases h
 | d :: P,now,⟨h1,_,h3⟩,c,h => by
  rcases List.mem_cons.1 h with rfl | h
  ·exact h1
  ·exact h3.lt c h
theorem rows_nd (q : Nat) (B : List (List Int)) (m : Nat) : (rwL q B m).Nodup:=List.Nodup.sublist List.filter_sublist (exL_nd m [])
theorem kpS_iff {a : AG} {R : List (List Nat)} : kpS a R = true ↔ ∀ i,i < R.length → bsd a.B (R.getD i []) = true ∧ (i = 0 ∨ blw a.W (R.getD (i - 1) []) (R.getD i []) = true):=by
 unfold kpS
 rw [af_iff]
 constructor
 ·intro h i hi
  have:=h i (Nat.zero_le _) (by omega)
  unfold kpB at this
  simpa only [Bool.and_eq_true,Bool.or_eq_true,decide_eq_true_eq] using this
 ·intro h i _ hi
  have:=h i (by omega)
  unfold kpB
  simpa only [Bool.and_eq_true,Bool.or_eq_true,decide_eq_true_eq] using this
theorem pos_ex {a : AG} {m : Nat} {R : List (List Nat)} (ws : WS a m R) (k : kpS a R = true) : ∃ P,R = rT2 (rwL a.q a.B m) P ∧ VC (stL a.W (rwL a.q a.B m)) (-1) P:=by
 have kk:=kpS_iff.1 k
 refine pos_of R (-1) (.inl rfl) (fun w hw => ?_) (fun i hi => ?_)
 ·obtain ⟨i,hi,rfl⟩:=List.mem_iff_getElem.1 hw
  obtain ⟨h1,h2⟩:=ws.w _ hw
  have hb:=(kk i hi).1
  have e : R.getD i [] = R[i]:=by rw [List.getD_eq_getElem?_getD,List.getElem?_eq_getElem hi]; rfl
  rw [e] at hb
  have:=exL_of (q:=a.q) m [] R[i] h1 h2
  rw [List.nil_append] at this
  exact List.mem_filter.2 ⟨this,hb⟩
 ·have:=(kk (i + 1) hi).2
  rw [Nat.add_sub_cancel] at this
  exact this.resolve_left (by omega)
def Post44 (a : AR) (L : List (List UInt8)) (v : AV) (own : List AObj) : Prop:=own = [] ∧
 ((a.ru && isS a.q.toNat L) = false → v = .tup [G 0,G 2]) ∧
 ((a.ru && isS a.q.toNat L) = true → okC (a.steps (L.getD 0 []).length) L.length = false → v = .tup [G 0,G 5]) ∧
 ((a.ru && isS a.q.toNat L) = true → okC (a.steps (L.getD 0 []).length) L.length = true → ∀ R : List (List Nat),L = R.map stW → (∀ w ∈ R,∀ c ∈ w,c < a.q.toNat) → (kpS a.g R = false → v = .tup [G 0,G 6]) ∧
  ∀ P : List Nat,kpS a.g R = true → R = rT2 (a.rows (L.getD 0 []).length) P → VC (a.steps (L.getD 0 []).length) (-1) P → v = .tup [G (ix (a.steps (L.getD 0 []).length) (-1) P),G 0])
section
variable {a : AR} {x : AV} {L : List (List UInt8)}
set_option maxHeartbeats 2000000 in
theorem c44_ok (J : CallF) (k57 : KR 57 J) (k61 : K61m J) (k62 : K62 J) (k70 : K70 J) (k77 : K77 J) (k78 : K78 J) (hJ : ∀ a h,J 44 a h = none) (h : Heap) (o : OkR a h) (hx : EL h x (ss L)) (lL : L.length ≤ 1000000) (ls : ∀ s ∈ L,s.length ≤ 1000000) :
  ∃ v own,CallsTo tbl J 44 [a.v,x] h (v,own,false) ∧ Post44 a L v own:=by
 obtain ⟨Hs,hHs⟩ : ∃ H,(frameOf h).plus [.cells 0 3 [G a.q,a.x,a.y]] = H:=⟨_,rfl⟩
 have kHs : Kp (fun _ => False) (frameOf h) Hs:=by rw [← hHs]; exact Kp.plus _ _
 have oH : OkR a Hs:=OkR.kp (o.lo []) kHs
 have gS : Hs.get h.size = .cells 0 3 [G a.q,a.x,a.y]:=by rw [← hHs]; exact plus_at0 _ _ _ _ (frS h)
 have e57:=k57 Hs a oH
 have er : ruQ a.q a.B a.W = a.ru:=rfl
 rw [er] at e57
 have hxF : EL (frameOf h) x (ss L):=hx.lo []
 have hxH : EL Hs x (ss L):=by
  rcases hxF with h | ⟨b,v,e,g⟩
  ·exact .inl h
  ·exact .inr ⟨b,v,e,kHs.at g (by simp) id⟩
 have fz:=frS h
 have av : a.v = .agg [G a.q,a.x,a.y]:=rfl
 cases r : a.ru
 ·have : CallsTo tbl J 44 [a.v,x] h (.tup [G 0,G 2],[],false):=by
   refine Tr.fnv (cf:=c44) (e:=.ret) (s:=T.set (T.set .leaf [] a.v) [false] x) (by decide) rfl (hJ _ _) rfl rfl rfl (by simp) ?_
   refine Tr.post (Q:=(fun s h => s.get [true,false] = G 0 ∧ s.get [false,true] = G 2)) (fun s h q => by simp [c44,q]) ?_
   rw [r] at e57
   clear oH o hx hxF hxH ls kHs
   refine Tr.w fun s1 H1 hp _ kR => ?_
   obtain ⟨rfl,rfl⟩:=hp
   have q : True:=trivial
   refine zCh ?_
   simp (disch:=first|omega|exact zE rfl|exact zO|exact zL rfl) [c44_o0,zG,q,hHs]
   refine W.assoc ?_
   refine zCh ?_
   simp (disch:=first|omega|exact zE rfl|exact zO|exact zL rfl) [c44_o1,zG,q,fz,gS,e57]
   refine zCh ?_
   simp (disch:=first|omega|exact zE rfl|exact zO|exact zL rfl) [c44_o2,zG,q]
   exact kR _ _ (by simp [T.get])
  exact ⟨_,_,this,rfl,fun _ => rfl,fun e => (by rw [r] at e; simp at e),fun e => (by rw [r] at e; simp at e)⟩
 ·rw [r] at e57
  have e77:=k77 Hs ⟨a,x,L⟩ ⟨r,hxH,lL,ls⟩
  simp only at e77
  cases i : isS a.q.toNat L
  ·have : CallsTo tbl J 44 [a.v,x] h (.tup [G 0,G 2],[],false):=by
    refine Tr.fnv (cf:=c44) (e:=.ret) (s:=T.set (T.set .leaf [] a.v) [false] x) (by decide) rfl (hJ _ _) rfl rfl rfl (by simp) ?_
    refine Tr.post (Q:=(fun s h => s.get [true,false] = G 0 ∧ s.get [false,true] = G 2)) (fun s h q => by simp [c44,q]) ?_
    rw [i] at e77
    clear oH o hx hxF hxH ls kHs
    refine Tr.w fun s1 H1 hp _ kR => ?_
    obtain ⟨rfl,rfl⟩:=hp
    have q : True:=trivial
    refine zCh ?_
    simp (disch:=first|omega|exact zE rfl|exact zO|exact zL rfl) [c44_o0,zG,q,hHs]
    refine W.assoc ?_
    refine zCh ?_
    simp (disch:=first|omega|exact zE rfl|exact zO|exact zL rfl) [c44_o1,zG,q,fz,gS,e57,e77]
    refine zCh ?_
    simp (disch:=first|omega|exact zE rfl|exact zO|exact zL rfl) [c44_o2,zG,q]
    exact kR _ _ (by simp [T.get])
   exact ⟨_,_,this,rfl,fun _ => rfl,fun e => (by rw [i] at e; simp at e),fun e => (by rw [i] at e; simp at e)⟩
  ·have q3:=a.q3 r
   obtain ⟨m,R,rfl,hw,m1,m5,n1,n40,hm⟩:=isS_words (by omega) i
   rw [i] at e77
   have ws : WS a.g m R:=⟨hw,by omega,by omega⟩
   have lw:=wsL_len R
   obtain ⟨_,e⟩ | ⟨b,v,rfl,g⟩:=hxH
   ·rw [← ws_ss] at e
    have : (wsL R).length = 0:=by rw [e]; rfl
    omega
   rw [← ws_ss] at g
   have ls' : (ss (R.map stW)).length = R.length:=by simp
   rw [ls'] at e77 hx ⊢
   have rm : a.rm (m : Nat) = true:=by
    unfold AR.rm
    rw [r,decide_eq_true (by omega)]; rfl
   obtain ⟨os,s243,sr⟩:=AR.steps_ok rm
   obtain ⟨p,own,e61,lm,lmm⟩:=k61 Hs a.g m (oH.g r) m5
   rw [a.gv r] at e61
   obtain ⟨Z,hZ⟩ : ∃ Z,Hs.plus own = Z:=⟨_,rfl⟩
   have kZ : Kp (fun _ => False) Hs Z:=by rw [← hZ]; exact Kp.plus _ _
   rw [hZ] at lm lmm
   have lf : LF Z p (a.steps (m : Nat)):=lm.lf
   obtain ⟨v62,own2,e62,l62⟩:=k62 Z ⟨p,R.length,a.steps (m : Nat)⟩ ⟨os,s243,lf,n40⟩
   simp only at e62
   have w0:=wsL_at (R:=R) (i:=0) (by omega)
   have w0':=getI w0
   have lw0:=stW_len (R.getD 0 [])
   rw [(ws.at (i:=0) (by omega)).1] at lw0
   have gZ:=kZ.at g (by simp) id
   have gSZ:=kZ.at gS (by simp) id
   have lR : (R.map stW).length = R.length:=by rw [List.length_map]
   unfold Post44
   rw [hm,lR]
   rw [av] at e77
   cases hc : okC (a.steps (m : Nat)) R.length
   ·obtain ⟨rfl,rfl⟩:=l62.2 hc
    have : CallsTo tbl J 44 [a.v,.slice b 0 R.length v] h (.tup [G 0,G 5],[],false):=by
     refine Tr.fnv (cf:=c44) (e:=.ret) (s:=T.set (T.set .leaf [] a.v) [false] (.slice b 0 R.length v)) (by decide) rfl (hJ _ _) rfl rfl rfl (by simp) ?_
     refine Tr.post (Q:=(fun s h => s.get [true,false] = G 0 ∧ s.get [false,true] = G 5)) (fun s h q => by simp [c44,q]) ?_
     clear oH o hx hxF ls kHs ws hw lm lmm lf l62 os gZ gSZ k61 k62 k70 k77 k78
     generalize stW (R.getD 0 []) = u0 at *
     generalize wsL R = wR at *
     generalize R.length = n at *
     refine Tr.w fun s1 H1 hp _ kR => ?_
     obtain ⟨rfl,rfl⟩:=hp
     have q : True:=trivial
     refine zCh ?_
     simp (disch:=first|omega|exact zE rfl|exact zO|exact zL rfl) [c44_o0,zG,q,hHs]
     refine W.assoc ?_
     refine zCh ?_
     simp (disch:=first|omega|exact zE rfl|exact zO|exact zL rfl) [c44_o1,zG,q,fz,gS,e57,e77]
     refine zCh ?_
     simp (disch:=first|omega|exact zE rfl|exact zO|exact zL rfl) [c44_o2,zG,q]
     refine zCh ?_
     simp (disch:=first|omega|exact zE rfl|exact zO|exact zL rfl) [-evDraw_c,-Eff.isAll,c44_o3,zG,q,evDraw_0,fz,gS,g,w0,w0',lw,lw0,e61,app_if,app_if',hZ,own_all,isAll_none]
     refine zCh ?_
     simp (disch:=first|omega|exact zE rfl|exact zO|exact zL rfl) [c44_o4,zG,q,e62]
     refine W.assoc ?_
     refine zCh ?_
     simp (disch:=first|omega|exact zE rfl|exact zO|exact zL rfl) [c44_o5,zG,q]
     refine zCh ?_
     simp (disch:=first|omega|exact zE rfl|exact zO|exact zL rfl) [c44_o6,zG,q]
     exact kR _ _ (by simp [T.get])
    exact ⟨_,_,this,rfl,fun e => (by rw [r,i] at e; simp at e),fun _ _ => rfl,fun _ e => (by cases e)⟩
   ·obtain ⟨x7,rfl,tb⟩:=l62.1 hc
    obtain ⟨Z2,hZ2⟩ : ∃ H,Z.plus own2 = H:=⟨_,rfl⟩
    have kZ2 : Kp (fun _ => False) Z Z2:=by rw [← hZ2]; exact Kp.plus _ _
    rw [hZ2] at tb
    simp only at tb
    obtain ⟨bo,ros,rfl,e2,e3,e4⟩:=tb.sl (i:=0) (by rw [rowsC_len]; omega)
    rw [rowsC_len] at e2 e3 e62
    have tbl' : ∀ j,j < R.length → ∃ br,ros[j]? = some (.slice br 0 (a.steps (m : Nat)).length (a.steps (m : Nat)).length) ∧ Z2.get br = .cells 1 (a.steps (m : Nat)).length (gn (rowC (a.steps (m : Nat)) j)):=fun j hj => by
     obtain ⟨br,e5,e6⟩:=e4 j _ (rowsC_at _ hj)
     rw [gn_len,rowC_len] at e5 e6
     exact ⟨br,e5,e6⟩
    have gZ2:=kZ2.at gZ (by simp) id
    have gSZ2:=kZ2.at gSZ (by simp) id
    have e78:=k78 Z2 a.g m R b v (((oH.g r).kp kZ).kp kZ2) ws gZ2
    rw [a.gv r,av] at e78
    cases hk : kpS a.g R
    ·rw [hk] at e78
     have : CallsTo tbl J 44 [a.v,.slice b 0 R.length v] h (.tup [G 0,G 6],[],false):=by
      refine Tr.fnv (cf:=c44) (e:=.ret) (s:=T.set (T.set .leaf [] a.v) [false] (.slice b 0 R.length v)) (by decide) rfl (hJ _ _) rfl rfl rfl (by simp) ?_
      refine Tr.post (Q:=(fun s h => s.get [true,false] = G 0 ∧ s.get [false,true] = G 6)) (fun s h q => by simp [c44,q]) ?_
      clear oH o hx hxF ls kHs ws hw lm lmm lf l62 os k61 k62 k70 k77 k78 tbl' e4 tb hk hc
      generalize stW (R.getD 0 []) = u0 at *
      generalize wsL R = wR at *
      generalize R.length = n at *
      refine Tr.w fun s1 H1 hp _ kR => ?_
      obtain ⟨rfl,rfl⟩:=hp
      have q : True:=trivial
      refine zCh ?_
      simp (disch:=first|omega|exact zE rfl|exact zO|exact zL rfl) [c44_o0,zG,q,hHs]
      refine W.assoc ?_
      refine zCh ?_
      simp (disch:=first|omega|exact zE rfl|exact zO|exact zL rfl) [c44_o1,zG,q,fz,gS,e57,e77]
      refine zCh ?_
      simp (disch:=first|omega|exact zE rfl|exact zO|exact zL rfl) [c44_o2,zG,q]
      refine zCh ?_
      simp (disch:=first|omega|exact zE rfl|exact zO|exact zL rfl) [-evDraw_c,-Eff.isAll,c44_o3,zG,q,evDraw_0,fz,gS,g,w0,w0',lw,lw0,e61,app_if,app_if',hZ,own_all,isAll_none]
      refine zCh ?_
      simp (disch:=first|omega|exact zE rfl|exact zO|exact zL rfl) [c44_o4,zG,q,e62,app_if,app_if',hZ2]
      refine W.assoc ?_
      refine zCh ?_
      simp (disch:=first|omega|exact zE rfl|exact zO|exact zL rfl) [c44_o5,zG,q]
      refine zCh ?_
      simp (disch:=first|omega|exact zE rfl|exact zO|exact zL rfl) [c44_o6,zG,q]
      refine W.assoc ?_
      refine zCh ?_
      simp (disch:=first|omega|exact zE rfl|exact zO|exact zL rfl) [c44_o7,zG,q,gSZ2,e78]
      refine zCh ?_
      simp (disch:=first|omega|exact zE rfl|exact zO|exact zL rfl) [c44_o8,zG,q]
      exact kR _ _ (by simp [T.get])
     refine ⟨_,_,this,rfl,fun e => (by rw [r,i] at e; simp at e),fun _ e => (by cases e),fun _ _ R' e hR' => ?_⟩
     rw [← stW_map_inj (fun w hw' c hc => by have:=(hw w hw').2 c hc; omega) (fun w hw' c hc => by have:=hR' w hw' c hc; omega) e,hk]
     exact ⟨fun _ => rfl,fun P e => (by cases e)⟩
    ·rw [hk] at e78
     obtain ⟨P,eP,vc⟩:=pos_ex ws hk
     have hrows : rwL a.g.q a.g.B m = a.rows (m : Nat):=by
      unfold AR.rows AR.g
      rw [Int.toNat_natCast]
     have hsteps : stL a.g.W (a.rows (m : Nat)) = a.steps (m : Nat):=rfl
     rw [hrows] at eP vc lmm
     rw [hsteps] at vc
     have lP : P.length = R.length:=by rw [eP]; unfold rT2; rw [List.length_map]
     have hs : Srt (a.steps (m : Nat)):=srt_st _ _
     have bd : ix (a.steps (m : Nat)) (-1) P ≤ 1152921504606846976:=by
      cases hP : P with
      | nil => rw [hP] at lP; simp at lP; omega
      | cons c P' =>
       rw [hP] at vc lP
       have h1:=ix_lt hs vc
       rw [ft_nw hs] at h1
       have h2:=okC_iff.1 hc P'.length (by rw [← lP]; simp)
       have h3 : ((nwL (a.steps (m : Nat)) (-1)).map (cnt (a.steps (m : Nat)) P'.length)).sum = (rowC (a.steps (m : Nat)) P'.length).sum:=rfl
       omega
     have l1:=c44_l1_ok (p:=p) (N:=R.length) (R:=a.rows (m : Nat)) (bs:=b) (v:=v) J k70 (lf.kp kZ2) (lmm.kp kZ2) sr.symm os lP e2 e3 tbl' n40 (by rw [← eP]; exact gZ2) vc bd
     have : CallsTo tbl J 44 [a.v,.slice b 0 R.length v] h (.tup [G (ix (a.steps (m : Nat)) (-1) P),G 0],[],false):=by
      refine Tr.fnv (cf:=c44) (e:=.ret) (s:=T.set (T.set .leaf [] a.v) [false] (.slice b 0 R.length v)) (by decide) rfl (hJ _ _) rfl rfl rfl (by simp) ?_
      refine Tr.post (Q:=(fun s h => s.get [true,false] = G (ix (a.steps (m : Nat)) (-1) P) ∧ s.get [false,true] = G 0)) (fun s h q => by simp [c44,q]) ?_
      clear oH o hx hxF ls kHs ws hw lm lmm lf l62 os k61 k62 k70 k77 k78 tbl' e4 tb hk hc vc bd eP lP hs
      generalize ix (a.steps (m : Nat)) (-1) P = tot at *
      generalize stW (R.getD 0 []) = u0 at *
      generalize wsL R = wR at *
      generalize R.length = n at *
      refine Tr.w fun s1 H1 hp _ kR => ?_
      obtain ⟨rfl,rfl⟩:=hp
      have q : True:=trivial
      refine zCh ?_
      simp (disch:=first|omega|exact zE rfl|exact zO|exact zL rfl) [c44_o0,zG,q,hHs]
      refine W.assoc ?_
      refine zCh ?_
      simp (disch:=first|omega|exact zE rfl|exact zO|exact zL rfl) [c44_o1,zG,q,fz,gS,e57,e77]
      refine zCh ?_
      simp (disch:=first|omega|exact zE rfl|exact zO|exact zL rfl) [c44_o2,zG,q]
      refine zCh ?_
      simp (disch:=first|omega|exact zE rfl|exact zO|exact zL rfl) [-evDraw_c,-Eff.isAll,c44_o3,zG,q,evDraw_0,fz,gS,g,w0,w0',lw,lw0,e61,app_if,app_if',hZ,own_all,isAll_none]
      refine zCh ?_
      simp (disch:=first|omega|exact zE rfl|exact zO|exact zL rfl) [c44_o4,zG,q,e62,app_if,app_if',hZ2]
      refine W.assoc ?_
      refine zCh ?_
      simp (disch:=first|omega|exact zE rfl|exact zO|exact zL rfl) [c44_o5,zG,q]
      refine zCh ?_
      simp (disch:=first|omega|exact zE rfl|exact zO|exact zL rfl) [c44_o6,zG,q]
      refine W.assoc ?_
      refine zCh ?_
      simp (disch:=first|omega|exact zE rfl|exact zO|exact zL rfl) [c44_o7,zG,q,gSZ2,e78]
      refine zCh ?_
      simp (disch:=first|omega|exact zE rfl|exact zO|exact zL rfl) [c44_o8,zG,q]
      refine zCh ?_
      simp (disch:=first|omega|exact zE rfl|exact zO|exact zL rfl) [c44_o9,zG,q]
      refine W.assoc ?_
      refine zCh ?_
      simp (disch:=first|omega|exact zE rfl|exact zO|exact zL rfl) [c44_o10,zG,q]
      refine W.seq (W.block ?_)
      refine W.use (l1) (by simp (disch:=first|omega|exact zE rfl|exact zO|exact zL rfl) [zG,q]) fun s1 H1 hp => ?_
      obtain ⟨rfl,q⟩:=hp
      try simp only [zW,if_true]
      refine zCh ?_
      simp (disch:=first|omega|exact zE rfl|exact zO|exact zL rfl) [c44_o22,zG,q]
      refine W.ret ?_
      try simp only [zW,if_true]
      exact kR _ _ (by simp [T.get,q])
     refine ⟨_,_,this,rfl,fun e => (by rw [r,i] at e; simp at e),fun _ e => (by cases e),fun _ _ R' e hR' => ?_⟩
     rw [← stW_map_inj (fun w hw' c hc => by have:=(hw w hw').2 c hc; omega) (fun w hw' c hc => by have:=hR' w hw' c hc; omega) e,hk]
     refine ⟨fun e => (by cases e),fun P' _ eP' vc' => ?_⟩
     rw [eP] at eP'
     have l1 : ∀ c ∈ P,c < (a.rows (m : Nat)).length:=fun c hc => by rw [← sr]; exact vc.lt c hc
     have l2 : ∀ c ∈ P',c < (a.rows (m : Nat)).length:=fun c hc => by rw [← sr]; exact vc'.lt c hc
     rw [rT2_inj (rows_nd _ _ _) l1 l2 eP']
end
noncomputable def T70 : CallF:=addK tbl T69 44 Pre45 (fun b _ v own => Post44 b.a b.L v own)
theorem t70 : Sound Go.Proofs.Try.prog T70:=Sound.addK follows ok t69 (by decide) _ _
theorem k57_69 : KR 57 T69:=fun h a o => by
 rw [show T69 57 [.agg [G a.q,a.x,a.y]] h = T10 57 [.agg [G a.q,a.x,a.y]] h from by simp (disch:=decide) only [T11,T12,T13,T14,T15,T16,T17,T18,T19,T20,T21,T22,T23,T24,T25,T26,T27,T28,T29,T30,T31,T32,T33,T34,T35,T36,T37,T38,T39,T40,T41,T42,T43,T44,T45,T46,T47,T48,T49,T50,T51,T52,T53,T54,T55,T56,T57,T58,T59,T60,T61,T62,T63,T64,T65,T66,T67,T68,T69,addI_ne,addX_ne,addV_ne,addK_ne]]; exact k57 h a o
theorem k61_69 : K61m T69:=fun h a m o m5 => by
 obtain ⟨p,own,e,l⟩:=k61m h a m o m5
 exact ⟨p,own,by rw [show T69 61 [a.v,G m] h = T18 61 [a.v,G m] h from by simp (disch:=decide) only [T19,T20,T21,T22,T23,T24,T25,T26,T27,T28,T29,T30,T31,T32,T33,T34,T35,T36,T37,T38,T39,T40,T41,T42,T43,T44,T45,T46,T47,T48,T49,T50,T51,T52,T53,T54,T55,T56,T57,T58,T59,T60,T61,T62,T63,T64,T65,T66,T67,T68,T69,addI_ne,addX_ne,addV_ne,addK_ne]]; exact e,l⟩
theorem k62_69 : K62 T69:=fun h b o => by
 obtain ⟨v,own,e,l⟩:=k62 h b o
 exact ⟨v,own,by rw [show T69 62 [.ptr b.p 0 3,G b.nn] h = T38 62 [.ptr b.p 0 3,G b.nn] h from by simp (disch:=decide) only [T39,T40,T41,T42,T43,T44,T45,T46,T47,T48,T49,T50,T51,T52,T53,T54,T55,T56,T57,T58,T59,T60,T61,T62,T63,T64,T65,T66,T67,T68,T69,addI_ne,addX_ne,addV_ne,addK_ne]]; exact e,l⟩
theorem k70_69 : K70 T69:=fun h x v L h1 h2 => by
 rw [show T69 70 [x,G v] h = T43 70 [x,G v] h from by simp (disch:=decide) only [T44,T45,T46,T47,T48,T49,T50,T51,T52,T53,T54,T55,T56,T57,T58,T59,T60,T61,T62,T63,T64,T65,T66,T67,T68,T69,addI_ne,addX_ne,addV_ne,addK_ne]]; exact k70 h x v L h1 h2
theorem k77_69 : K77 T69:=fun h b o => by
 rw [show T69 77 [b.a.v,b.x] h = T67 77 [b.a.v,b.x] h from by simp (disch:=decide) only [T68,T69,addI_ne,addX_ne,addV_ne,addK_ne]]; exact k77 h b o
theorem k78_69 : K78 T69:=fun h a m R b v o k g => by
 rw [show T69 78 [a.v,.slice b 0 R.length v] h = T68 78 [a.v,.slice b 0 R.length v] h from by simp (disch:=decide) only [T69,addI_ne,addX_ne,addV_ne,addK_ne]]; exact k78 h a m R b v o k g
abbrev K44 (J : CallF) : Prop:=∀ (h : Heap) (b : A45),Ok45 b h → ∃ v own,J 44 [b.a.v,b.x] h = some (v,own,false) ∧ Post44 b.a b.L v own
theorem k44 : K44 T70:=fun h b o => by
 obtain ⟨v,own,e,l⟩:=addK_some (Pre:=Pre45) (Post:=fun b _ v own => Post44 b.a b.L v own) (fun b args h hp => by
  obtain ⟨⟨h1,h2,h3,h4⟩,rfl⟩:=hp
  exact c44_ok T69 k57_69 k61_69 k62_69 k70_69 k77_69 k78_69 (fun _ _ => by simp (disch:=decide) only [T1,T2,T3,T4,T5,T6,T7,T8,T9,T10,T11,T12,T13,T14,T15,T16,T17,T18,T19,T20,T21,T22,T23,T24,T25,T26,T27,T28,T29,T30,T31,T32,T33,T34,T35,T36,T37,T38,T39,T40,T41,T42,T43,T44,T45,T46,T47,T48,T49,T50,T51,T52,T53,T54,T55,T56,T57,T58,T59,T60,T61,T62,T63,T64,T65,T66,T67,T68,T69,addI_ne,addX_ne,addV_ne,addK_ne]; rfl) h h1 h2 h3 h4) b _ h ⟨o,rfl⟩
 exact ⟨v,own,e,l⟩
end Go.Proofs.Ytljgfdamdcikgaa.Ev
set_option linter.unusedVariables false
set_option linter.unusedSimpArgs false
namespace Go.Proofs.Ytljgfdamdcikgaa.Ev
open Go Go.AEv
def exC (S : List (List Nat)) (k i : Nat) : Nat:=((S.getD i []).find? (al S k)).getD 0
def ext (S : List (List Nat)) : Nat → Nat → List Nat
 | 0,_ => []
 | k + 1,i => exC S k i :: ext S k (exC S k i)
section
variable {S : List (List Nat)}
theorem exC_find {k i : Nat} (h : al S (k + 1) i = true) : (S.getD i []).find? (al S k) = some (exC S k i):=by
 have a : al S (k + 1) i = (S.getD i []).any (al S k):=rfl
 rw [a,List.any_eq_true] at h
 obtain ⟨c,h1,h2⟩:=h
 cases e : (S.getD i []).find? (al S k) with
 | none => exact absurd h2 (List.find?_eq_none.1 e c h1)
 | some d => unfold exC; rw [e]; rfl
theorem exC_ok {k i : Nat} (h : al S (k + 1) i = true) : exC S k i ∈ S.getD i [] ∧ al S k (exC S k i) = true :=
 ⟨List.mem_of_find?_eq_some (exC_find h),List.find?_some (exC_find h)⟩
end
end Go.Proofs.Ytljgfdamdcikgaa.Ev
set_option linter.unusedVariables false
set_option linter.unusedSimpArgs false
namespace Go.Proofs.Ytljgfdamdcikgaa.Ev
open Go Go.AEv
attribute [local simp] evFunc initS evOps_c evTrim_c evSkip_c evExit_c evRet_c evSeq_c evCond_c evBlock_c evDraw_c runOps_n runOps_c exec_n exec_g pure1_c act AOpd.ev T.get T.set T.put evBin evUn forceT_eq forceV_eq forceL_eq evRess evRes one keep runFP_n runFP_c app_none AV.flats AV.flat came_some List.getElem?_cons_zero List.getElem?_cons_succ beqT wrapI idxI tdivI tmodI decT decF ibT ibF inT inF evScope_c if_pos if_neg Cm_some thenW_n thenW_e thenW_r blkW_n blkW_e blkW_r goI kn putAt AV.cells fillA loadA takeA mk Eff.isAll Eff.isNone Eff.commutes Eff.spares okPair apart eqAgg fits LK.fits allEq aveq eqk mmA
def bfr : List (List UInt8) → List (List UInt8) → Bool
 | a :: L,b :: M => if a = b then bfr L M else Op.bytesLess a b
 | _,_ => false
section
variable {L M : List (List UInt8)} {b1 v1 b2 v2 n : Nat}
end
structure A54 where
 L : List (List UInt8)
 M : List (List UInt8)
 b1 : Nat
 v1 : Nat
 b2 : Nat
 v2 : Nat
 n : Nat
def Ok54 (a : A54) (h : Heap) : Prop:=h.get a.b1 = .cells 1 a.v1 (ss a.L) ∧ h.get a.b2 = .cells 1 a.v2 (ss a.M) ∧ a.L.length = a.n ∧ a.M.length = a.n ∧ a.n ≤ 1000000
def Pre54 (a : A54) (args : List AV) (h : Heap) : Prop:=Ok54 a h ∧ args = [.slice a.b1 0 a.n a.v1,.slice a.b2 0 a.n a.v2]
def Post54 (a : A54) (h : Heap) (v : AV) (own : List AObj) : Prop:=v = .bool (bfr a.L a.M) ∧ own = []
noncomputable def T71 : CallF:=addK tbl T70 54 Pre54 Post54
theorem t71 : Sound Go.Proofs.Try.prog T71:=Sound.addK follows ok t70 (by decide) _ _
def RBb (n m : Nat) (x : Bool) : List AV:=List.replicate m (.bool x) ++ List.replicate (n - m) (.bool false)
theorem RBb_len {n m : Nat} {x : Bool} (h : m ≤ n) : (RBb n m x).length = n:=by simp [RBb]; omega
theorem RBb_take (n m : Nat) (x : Bool) : (RBb n m x).take m = List.replicate m (.bool x):=by simp [RBb]
theorem RBb_all (n : Nat) (x : Bool) : RBb n n x = List.replicate n (.bool x):=by simp [RBb]
theorem RBb_put {n m k : Nat} {x : Bool} (h : m + k ≤ n) : putAt (RBb n m x) m (List.replicate k (.bool x)) = RBb n (m + k) x:=by
 unfold RBb
 rw [rep_put _ _ _ _ (by simp; omega),List.drop_replicate,Nat.sub_sub]
section
variable {n : Nat} {x : Bool}
abbrev P79 (h : Heap) (n : Nat) (x : Bool) (m : Nat) : SP:=(fun s h' => s.get [false,false,false] = .slice h.size 0 n n ∧ s.get [true,false,false] = G m ∧ h' = ⟨h.get,h.size,[.cells 1 n (RBb n m x)]⟩)
theorem repb_loop (J : CallF) (h : Heap) (hn : n ≤ 243) : ∀ (j m : Nat),n - m ≤ j → 1 ≤ m → m ≤ n → Tr tbl J c79_l0 (P79 h n x m) (.exit 0) (P79 h n x n):=by
 intro j
 induction j with
 | zero =>
  intro m hj h1 h2
  obtain rfl : m = n:=by omega
  have t : Tr tbl J ((.trim [[false,false,false],[true,false,false]] c79_b0)) (fun s h' => s.get [false,false,false] = .slice h.size 0 m m ∧ s.get [true,false,false] = G m ∧ h' = ⟨h.get,h.size,[.cells 1 m (RBb m m x)]⟩) (.exit 0) (fun s h' => s.get [false,false,false] = .slice h.size 0 m m ∧ s.get [true,false,false] = G m ∧ h' = ⟨h.get,h.size,[.cells 1 m (RBb m m x)]⟩):=Tr.region fun s h hp => by
   obtain ⟨g0,g1,rfl⟩:=hp
   simp (disch:=first|omega|exact zE rfl|exact zO|exact zL rfl) [c79_b0,c79_o8,frameOf,Heap.size,Heap.get,Eff.app,Heap.setOwn,g0,g1]
  exact Tr.out t (by simp)
 | succ j ih =>
  intro m hj h1 h2
  by_cases hm : m = n
  ·exact ih m (by omega) h1 h2
  ·obtain ⟨k,hk⟩ : ∃ k,k = min m (n - m):=⟨_,rfl⟩
   have hkm : m + k ≤ n:=by omega
   have e1:=RBb_len (n:=n) (m:=m) (x:=x) h2
   have e2:=RBb_take n m x
   have e3:=RBb_put (n:=n) (m:=m) (k:=k) (x:=x) hkm
   have e4 : min m (n - m) = k:=hk.symm
   have e5 : min k m = k:=by omega
   obtain ⟨cs,hcs⟩ : ∃ cs,RBb n m x = cs:=⟨_,rfl⟩
   rw [hcs] at e1 e2 e3
   have hm0 : ¬ (m = n ∧ 0 < n):=by omega
   have hm1 : ¬ (0 = n ∧ 0 < n):=by omega
   have t : Tr tbl J ((.trim [[false,false,false],[true,false,false]] c79_b0)) (fun s h' => s.get [false,false,false] = .slice h.size 0 n n ∧ s.get [true,false,false] = G m ∧ h' = ⟨h.get,h.size,[.cells 1 n cs]⟩) .normal (fun s h' => s.get [false,false,false] = .slice h.size 0 n n ∧ s.get [true,false,false] = G ((m + k : Nat) : Int) ∧ h' = ⟨h.get,h.size,[.cells 1 n (RBb n (m + k) x)]⟩):=Tr.region fun s h hp => by
    obtain ⟨g0,g1,rfl⟩:=hp
    simp (disch:=first|omega|exact zE rfl|exact zO|exact zL rfl) [c79_b0,c79_o8,c79_o9,frameOf,Heap.size,Heap.get,Eff.app,Heap.setOwn,g0,g1,slSlA,bounds,elems,copyA,rdOf,hm0,hm1,e1,e2,e3,e4,e5,List.take_replicate]
    omega
   rw [← hcs] at t
   exact Tr.next t (ih (m + k) (by omega) (by omega) (by omega))
theorem c79_ok (J : CallF) (k99 : ∀ (h : Heap) (n : Int),0 ≤ n → n < 244 → J 99 [.int .u64 1,.int .u64 n] h = some (.tup [.int .u64 0,.int .u64 n],[],false)) (hJ : ∀ a h,J 79 a h = none) (h : Heap) (b : Nat) (hb : h.get b = .cells 1 1 [.bool x]) (h1 : 1 ≤ n) (h2 : n ≤ 243) :
  CallsTo tbl J 79 [.slice b 0 1 1,G n] h (.slice h.size 0 n n,[.cells 1 n (List.replicate n (.bool x))],false):=by
 have hlt:=get_lt hb (by simp)
 have wu : ∀ z : Int,0 ≤ z → z < 244 → IntKind.u64.wrap z = z:=fun z _ _ => by unfold IntKind.wrap IntKind.bits IntKind.signed; simp; omega
 refine Tr.fnh (cf:=c79) (e:=.ret) (s:=T.set (T.set .leaf [] (.slice b 0 1 1)) [false] (G n)) (by decide) rfl (hJ _ _) rfl rfl rfl (by simp) ?_
 have t0 : Tr tbl J (c79_o0) (fun s h' => s = T.set (T.set .leaf [] (.slice b 0 1 1)) [false] (G n) ∧ h' = frameOf h) .normal (fun s h' => s.get [] = .slice b 0 1 1 ∧ s.get [false] = G n ∧ h' = ⟨h.get,h.size,[]⟩):=Tr.region fun s h hp => by
  obtain ⟨rfl,rfl⟩:=hp
  simp (disch:=first|omega|exact zE rfl|exact zO|exact zL rfl) [c79_o0,frameOf,Heap.size,Heap.get,Eff.app,Heap.setOwn]
 have t1 : Tr tbl J ((.seq c79_o1 (.cond (.s [true,true,false]) c79_o2 .skip))) (fun s h' => s.get [] = .slice b 0 1 1 ∧ s.get [false] = G n ∧ h' = ⟨h.get,h.size,[]⟩) .normal (fun s h' => s.get [] = .slice b 0 1 1 ∧ s.get [false] = G n ∧ h' = ⟨h.get,h.size,[]⟩):=Tr.region fun s h hp => by
  obtain ⟨g0,g1,rfl⟩:=hp
  simp (disch:=first|omega|exact zE rfl|exact zO|exact zL rfl) [c79_o1,frameOf,Heap.size,Heap.get,Eff.app,Heap.setOwn,g0,g1]
 have t2 : Tr tbl J (c79_o3) (fun s h' => s.get [] = .slice b 0 1 1 ∧ s.get [false] = G n ∧ h' = ⟨h.get,h.size,[]⟩) .normal (fun s h' => s.get [] = .slice b 0 1 1 ∧ s.get [false,true] = .int .u64 0 ∧ s.get [true,true] = .int .u64 n ∧ h' = ⟨h.get,h.size,[]⟩):=Tr.region fun s h hp => by
  obtain ⟨g0,g1,rfl⟩:=hp
  simp (disch:=first|omega|exact zE rfl|exact zO|exact zL rfl) [c79_o3,frameOf,Heap.size,Heap.get,Eff.app,Heap.setOwn,g0,g1,wu,k99]
 have t3 : Tr tbl J ((.seq c79_o4 (.cond (.s [true,true,false,true]) c79_o5 .skip))) (fun s h' => s.get [] = .slice b 0 1 1 ∧ s.get [false,true] = .int .u64 0 ∧ s.get [true,true] = .int .u64 n ∧ h' = ⟨h.get,h.size,[]⟩) .normal (fun s h' => s.get [] = .slice b 0 1 1 ∧ s.get [true,true] = .int .u64 n ∧ h' = ⟨h.get,h.size,[]⟩):=Tr.region fun s h hp => by
  obtain ⟨g0,g1,g2,rfl⟩:=hp
  simp (disch:=first|omega|exact zE rfl|exact zO|exact zL rfl) [c79_o4,frameOf,Heap.size,Heap.get,Eff.app,Heap.setOwn,g0,g1,g2]
 have e0 : RBb n 1 x = (List.replicate n (.bool false)).set 0 (.bool x):=by
  obtain ⟨N,rfl⟩ : ∃ N,n = N + 1:=⟨n - 1,by omega⟩
  simp [RBb,List.replicate_succ]
 have t4 : Tr tbl J ((.seq c79_o6 c79_o7)) (fun s h' => s.get [] = .slice b 0 1 1 ∧ s.get [true,true] = .int .u64 n ∧ h' = ⟨h.get,h.size,[]⟩) .normal (fun s h' => s.get [false,false,false] = .slice h.size 0 n n ∧ s.get [true,false,false] = G ((1 : Nat) : Int) ∧ h' = ⟨h.get,h.size,[.cells 1 n (RBb n 1 x)]⟩):=Tr.region fun s h hp => by
  obtain ⟨g0,g1,rfl⟩:=hp
  rw [e0]
  simp (disch:=first|omega|exact zE rfl|exact zO|exact zL rfl) [c79_o6,c79_o7,size_mk,get_mk_lt,get_mk_ge,frameOf,Eff.app,Heap.setOwn,g0,g1,repl,elems,copyA,rdOf,hb]
  omega
 have t5 : Tr tbl J ((.seq c79_o10 .ret)) (fun s h' => s.get [false,false,false] = .slice h.size 0 n n ∧ s.get [true,false,false] = G n ∧ h' = ⟨h.get,h.size,[.cells 1 n (RBb n n x)]⟩) .ret (fun s h' => s.get [true,false] = .slice h.size 0 n n ∧ h' = ⟨h.get,h.size,[.cells 1 n (RBb n n x)]⟩):=Tr.region fun s h hp => by
  obtain ⟨g0,g1,rfl⟩:=hp
  simp (disch:=first|omega|exact zE rfl|exact zO|exact zL rfl) [c79_o10,frameOf,Heap.size,Heap.get,Eff.app,Heap.setOwn,g0,g1]
 refine Tr.post (fun s h' q => ?_) (Tr.seq t0 (Tr.seq t1 (Tr.seq t2 (Tr.seq t3 (Tr.app2 t4 (Tr.seq (Tr.block (repb_loop J h h2 n 1 (by omega) (by omega) h1)) t5))))))
 obtain ⟨q1,rfl⟩:=q
 simp [c79,q1,RBb_all]
theorem c79_0 (J : CallF) (k99 : ∀ (h : Heap) (n : Int),0 ≤ n → n < 244 → J 99 [.int .u64 1,.int .u64 n] h = some (.tup [.int .u64 0,.int .u64 n],[],false)) (hJ : ∀ a h,J 79 a h = none) (h : Heap) (b : Nat) (hb : h.get b = .cells 1 1 [.bool x]) :
  CallsTo tbl J 79 [.slice b 0 1 1,G 0] h (.slice h.size 0 0 0,[.cells 1 0 []],false):=by
 have hlt:=get_lt hb (by simp)
 have wu : ∀ z : Int,0 ≤ z → z < 244 → IntKind.u64.wrap z = z:=fun z _ _ => by unfold IntKind.wrap IntKind.bits IntKind.signed; simp; omega
 refine Tr.fnh (cf:=c79) (e:=.ret) (s:=T.set (T.set .leaf [] (.slice b 0 1 1)) [false] (G 0)) (by decide) rfl (hJ _ _) rfl rfl rfl (by simp) ?_
 refine Tr.post (Q:=(fun s h' => h' = ⟨h.get,h.size,[.cells 1 0 []]⟩ ∧ s.get [true,false] = .slice h.size 0 0 0)) (fun s h' q => by
  obtain ⟨rfl,q1⟩:=q
  simp [c79,q1]) ?_
 have l0 : Tr tbl J c79_l0 (fun s h' => h' = ⟨h.get,h.size,[.cells 1 0 []]⟩ ∧ s.get [false,false,false] = .slice h.size 0 0 0 ∧ s.get [true,false,false] = G 0) (.exit 0) (fun s h' => h' = ⟨h.get,h.size,[.cells 1 0 []]⟩ ∧ s.get [false,false,false] = .slice h.size 0 0 0):=by
  refine Tr.out ?_ (by simp)
  refine Tr.w fun s1 H1 hp _ kR => W.trim ?_
  obtain ⟨rfl,q⟩:=hp
  refine W.assoc ?_
  refine zCh ?_
  simp (disch:=first|omega|exact zE rfl|exact zO|exact zL rfl) [c79_o8,size_mk,get_mk_lt,get_mk_ge,frameOf,Eff.app,Heap.setOwn,q]
  refine zCh ?_
  simp (disch:=first|omega|exact zE rfl|exact zO|exact zL rfl) [size_mk,get_mk_lt,get_mk_ge,frameOf,Eff.app,Heap.setOwn,q]
  exact kR _ _ (by simp [T.get,q])
 refine Tr.w fun s1 H1 hp _ kR => ?_
 obtain ⟨rfl,rfl⟩:=hp
 have q : True:=trivial
 refine zCh ?_
 simp (disch:=first|omega|exact zE rfl|exact zO|exact zL rfl) [c79_o0,size_mk,get_mk_lt,get_mk_ge,frameOf,Eff.app,Heap.setOwn,q]
 refine W.assoc ?_
 refine zCh ?_
 simp (disch:=first|omega|exact zE rfl|exact zO|exact zL rfl) [c79_o1,size_mk,get_mk_lt,get_mk_ge,frameOf,Eff.app,Heap.setOwn,q]
 refine zCh ?_
 simp (disch:=first|omega|exact zE rfl|exact zO|exact zL rfl) [c79_o2,size_mk,get_mk_lt,get_mk_ge,frameOf,Eff.app,Heap.setOwn,q]
 refine zCh ?_
 simp (disch:=first|omega|exact zE rfl|exact zO|exact zL rfl) [c79_o3,size_mk,get_mk_lt,get_mk_ge,frameOf,Eff.app,Heap.setOwn,q,wu,k99]
 refine W.assoc ?_
 refine zCh ?_
 simp (disch:=first|omega|exact zE rfl|exact zO|exact zL rfl) [c79_o4,size_mk,get_mk_lt,get_mk_ge,frameOf,Eff.app,Heap.setOwn,q]
 refine zCh ?_
 simp (disch:=first|omega|exact zE rfl|exact zO|exact zL rfl) [c79_o5,size_mk,get_mk_lt,get_mk_ge,frameOf,Eff.app,Heap.setOwn,q]
 refine zCh ?_
 simp (disch:=first|omega|exact zE rfl|exact zO|exact zL rfl) [c79_o6,size_mk,get_mk_lt,get_mk_ge,frameOf,Eff.app,Heap.setOwn,q,repl]
 refine zCh ?_
 simp (disch:=first|omega|exact zE rfl|exact zO|exact zL rfl) [c79_o7,size_mk,get_mk_lt,get_mk_ge,frameOf,Eff.app,Heap.setOwn,q,elems,copyA,rdOf,hb]
 refine W.seq (W.block ?_)
 refine W.use (l0) (by simp (disch:=first|omega|exact zE rfl|exact zO|exact zL rfl) [size_mk,get_mk_lt,get_mk_ge,frameOf,Eff.app,Heap.setOwn,q,(show min 1 0 = 0 from rfl),(show min (1 : Int) 0 = 0 from rfl)]) fun s1 H1 hp => ?_
 obtain ⟨rfl,q⟩:=hp
 try simp only [zW,if_true]
 refine zCh ?_
 simp (disch:=first|omega|exact zE rfl|exact zO|exact zL rfl) [c79_o10,size_mk,get_mk_lt,get_mk_ge,frameOf,Eff.app,Heap.setOwn,q]
 refine W.ret ?_
 try simp only [zW,if_true]
 exact kR _ _ (by simp [T.get,q])
end
def spec79 : SpecF:=fun args h => match args with
 | [.slice b 0 1 1,.int .i64 n] => match h.get b with
  | .cells 1 1 [.bool x] => if 0 ≤ n ∧ n ≤ 243 then some (.slice h.size 0 n.toNat n.toNat,[.cells 1 n.toNat (List.replicate n.toNat (.bool x))],false) else none
  | _ => none
 | _ => none
theorem k99_71 (h : Heap) (n : Int) (h1 : 0 ≤ n) (h2 : n < 244) : T71 99 [.int .u64 1,.int .u64 n] h = some (.tup [.int .u64 0,.int .u64 n],[],false):=by
 rw [show T71 99 [.int .u64 1,.int .u64 n] h = T33 99 [.int .u64 1,.int .u64 n] h from by simp (disch:=decide) only [T34,T35,T36,T37,T38,T39,T40,T41,T42,T43,T44,T45,T46,T47,T48,T49,T50,T51,T52,T53,T54,T55,T56,T57,T58,T59,T60,T61,T62,T63,T64,T65,T66,T67,T68,T69,T70,T71,addI_ne,addX_ne,addV_ne,addK_ne]]; exact k99 h n h1 h2
noncomputable def T72 : CallF:=addI T71 79 spec79
theorem t72 : Sound Go.Proofs.Try.prog T72:=Sound.add follows ok t71 (by decide) (fun args h x e => by
 unfold spec79 at e
 split at e
 ·split at e
  ·split at e
   ·rename_i b n _ xv hg hh
    simp only [Option.some.injEq] at e; subst e
    obtain ⟨N,rfl⟩ : ∃ N : Nat,n = N:=⟨n.toNat,by omega⟩
    rcases Nat.eq_zero_or_pos N with rfl | hN
    ·exact c79_0 T71 k99_71 (fun _ _ => by simp (disch:=decide) only [T1,T2,T3,T4,T5,T6,T7,T8,T9,T10,T11,T12,T13,T14,T15,T16,T17,T18,T19,T20,T21,T22,T23,T24,T25,T26,T27,T28,T29,T30,T31,T32,T33,T34,T35,T36,T37,T38,T39,T40,T41,T42,T43,T44,T45,T46,T47,T48,T49,T50,T51,T52,T53,T54,T55,T56,T57,T58,T59,T60,T61,T62,T63,T64,T65,T66,T67,T68,T69,T70,T71,addI_ne,addX_ne,addV_ne,addK_ne]; rfl) h b hg
    ·exact c79_ok T71 k99_71 (fun _ _ => by simp (disch:=decide) only [T1,T2,T3,T4,T5,T6,T7,T8,T9,T10,T11,T12,T13,T14,T15,T16,T17,T18,T19,T20,T21,T22,T23,T24,T25,T26,T27,T28,T29,T30,T31,T32,T33,T34,T35,T36,T37,T38,T39,T40,T41,T42,T43,T44,T45,T46,T47,T48,T49,T50,T51,T52,T53,T54,T55,T56,T57,T58,T59,T60,T61,T62,T63,T64,T65,T66,T67,T68,T69,T70,T71,addI_ne,addX_ne,addV_ne,addK_ne]; rfl) h b hg (by omega) (by omega)
   ·cases e
  ·cases e
 ·cases e)
abbrev K79 (J : CallF) : Prop:=∀ (h : Heap) (b n : Nat) (x : Bool),h.get b = .cells 1 1 [.bool x] → n ≤ 243 → J 79 [.slice b 0 1 1,G n] h = some (.slice h.size 0 n n,[.cells 1 n (List.replicate n (.bool x))],false)
theorem k79 : K79 T72:=fun h b n x hb h2 => by
 have : (n : Int) ≤ 243:=by omega
 simp [T72,addI,spec79,hb,this]
theorem c82_ok (J : CallF) (hJ : ∀ a h,J 82 a h = none) (h : Heap) (a : A59) (ha : Ok59 a h) : CallsTo tbl J 82 [.slice a.b 0 a.n a.v] h (.slice h.size 0 a.n a.n,[.cells 1 a.n a.cs],false):=by
 obtain ⟨b,n,v,cs⟩:=a
 obtain ⟨hg,hl,h0,hn⟩:=ha
 simp only at hg hl h0 hn ⊢
 refine Tr.fnh (cf:=c82) (e:=.ret) (s:=T.set .leaf [] (.slice b 0 n v)) (by decide) rfl (hJ _ _) rfl rfl rfl (by simp) ?_
 have hb:=get_lt hg (by simp)
 have n0 : ¬ n = 0:=by omega
 have hel : ∀ own,elems ⟨h.get,h.size,own⟩ 1 (.slice b 0 n v) = some (n,cs):=fun own => by
  have e : Heap.get ⟨h.get,h.size,own⟩ b = .cells 1 v cs:=by rw [get_mk_lt _ _ _ _ hb]; exact hg
  simp only [elems,e,if_true,Nat.mul_one,List.drop_zero]
  rw [if_pos (by rw [List.length_take]; omega),List.take_of_length_le (by omega)]
 refine Tr.w fun s1 H1 hp _ kR => ?_
 obtain ⟨rfl,rfl⟩:=hp
 have q : True:=trivial
 refine zCh ?_
 simp (disch:=first|omega|exact zE rfl|exact zO|exact zL rfl) [c82_o0,size_mk,get_mk_lt,get_mk_ge,frameOf,Eff.app,Heap.setOwn,q]
 refine W.assoc ?_
 refine zCh ?_
 simp (disch:=first|omega|exact zE rfl|exact zO|exact zL rfl) [c82_o1,size_mk,get_mk_lt,get_mk_ge,frameOf,Eff.app,Heap.setOwn,q,eqk]
 refine zCh ?_
 simp (disch:=first|omega|exact zE rfl|exact zO|exact zL rfl) [c82_o2,size_mk,get_mk_lt,get_mk_ge,frameOf,Eff.app,Heap.setOwn,q]
 refine zCh ?_
 simp (disch:=first|omega|exact zE rfl|exact zO|exact zL rfl) [c82_o3,size_mk,get_mk_lt,get_mk_ge,frameOf,Eff.app,Heap.setOwn,q,hel,appA,n0,frameOf,rdOf]
 refine W.ret ?_
 try simp only [zW,if_true]
 exact kR _ _ (by simp [T.get,c82,evRess,evRes,one,hl])
def Pre82 (a : A59) (args : List AV) (h : Heap) : Prop:=Ok59 a h ∧ args = [.slice a.b 0 a.n a.v]
noncomputable def T73 : CallF:=addK tbl T72 82 Pre82 Post59
theorem t73 : Sound Go.Proofs.Try.prog T73:=Sound.addK follows ok t72 (by decide) _ _
abbrev K82 (J : CallF) : Prop:=∀ (h : Heap) (a : A59),Ok59 a h → J 82 [.slice a.b 0 a.n a.v] h = some (.slice h.size 0 a.n a.n,[.cells 1 a.n a.cs],false)
theorem k82 : K82 T73:=fun h a ha => by
 obtain ⟨v,own,e,rfl,rfl⟩:=addK_some (Pre:=Pre82) (Post:=Post59) (fun a args h hp => by
  obtain ⟨ha,rfl⟩:=hp
  exact ⟨_,_,c82_ok T72 (fun _ _ => by simp (disch:=decide) only [T1,T2,T3,T4,T5,T6,T7,T8,T9,T10,T11,T12,T13,T14,T15,T16,T17,T18,T19,T20,T21,T22,T23,T24,T25,T26,T27,T28,T29,T30,T31,T32,T33,T34,T35,T36,T37,T38,T39,T40,T41,T42,T43,T44,T45,T46,T47,T48,T49,T50,T51,T52,T53,T54,T55,T56,T57,T58,T59,T60,T61,T62,T63,T64,T65,T66,T67,T68,T69,T70,T71,T72,addI_ne,addX_ne,addV_ne,addK_ne]; rfl) h a ha,rfl,rfl⟩) a _ h ⟨ha,rfl⟩
 exact e
structure CK (h : Heap) (pc pk : Nat) (k j : Nat) (y : Bool) : Prop where
 c : ∃ bo n v ros br m w bs,h.get pc = .cells 0 1 [.slice bo 0 n v] ∧ h.get bo = .cells 1 v ros ∧ k < n ∧ ros.length = n ∧ ros[k]? = some (.slice br 0 m w) ∧ h.get br = .cells 1 w bs ∧ j < m ∧ bs.length = m ∧ bs[j]? = some (.bool y)
 k : h.get pk = .cells 0 1 [G k]
theorem c81_ok (J : CallF) (hJ : ∀ a h,J 81 a h = none) (h : Heap) {pc pk k j : Nat} {y : Bool} (o : CK h pc pk k j y) : CallsTo tbl J 81 [G j,.ptr pc 0 1,.ptr pk 0 1] h (.bool y,h.own,true):=by
 refine Tr.sh (cf:=c81) (e:=.ret) (s:=T.set (T.set (T.set .leaf [] (G j)) [false] (.ptr pc 0 1)) [true] (.ptr pk 0 1)) (by decide) rfl (hJ _ _) rfl rfl (by simp) ?_
 refine Tr.post (Q:=fun s h' => s.get [true,false] = .bool y ∧ h' = h) (fun s h' q => ⟨by simp [c81,q.1],q.2⟩) ?_
 obtain ⟨⟨bo,n,v,ros,br,m,w,bs,g1,g2,h1,l1,e1,g3,h2,l2,e2⟩,g4⟩:=o
 have e1':=getI e1
 have e2':=getI e2
 refine Tr.w fun s1 H1 hp _ kR => ?_
 obtain ⟨rfl,rfl⟩:=hp
 have q : True:=trivial
 refine zCh ?_
 simp (disch:=first|omega|exact zE rfl|exact zO|exact zL rfl) [c81_o0,zG,q]
 refine zCh ?_
 simp (disch:=first|omega|exact zE rfl|exact zO|exact zL rfl) [c81_o1,zG,q,g1,g2,g3,g4,e1,e1',e2,e2',l1,l2]
 refine W.ret ?_
 try simp only [zW,if_true]
 exact kR _ _ (by simp [T.get])
open Classical in
noncomputable def spec81 : SpecF:=fun args h => if hx : ∃ v,CallsTo tbl T3 81 args h (v,h.own,true) then some (Classical.choose hx,h.own,true) else none
noncomputable def U1 : CallF:=addI T3 81 spec81
theorem u1 : Sound Go.Proofs.Try.prog U1:=Sound.add follows ok t3 (by decide) (fun args h x e => by
 unfold spec81 at e
 split at e
 ·rename_i hx
  simp only [Option.some.injEq] at e; subst e
  exact Classical.choose_spec hx
 ·cases e)
abbrev K81 (J : CallF) : Prop:=∀ (h : Heap) {pc pk k j : Nat} {y : Bool},CK h pc pk k j y → J 81 [G j,.ptr pc 0 1,.ptr pk 0 1] h = some (.bool y,h.own,true)
theorem k81 : K81 U1:=fun h {pc pk k j y} o => by
 have e:=c81_ok T3 (fun _ _ => by simp (disch:=decide) only [T1,T2,T3,addI_ne,addX_ne,addV_ne,addK_ne]; rfl) h o
 have hx : ∃ v,CallsTo tbl T3 81 [G j,.ptr pc 0 1,.ptr pk 0 1] h (v,h.own,true):=⟨_,e⟩
 have : spec81 [G j,.ptr pc 0 1,.ptr pk 0 1] h = some (Classical.choose hx,h.own,true):=by
  unfold spec81; rw [dif_pos hx]
 show spec81 _ h = _
 rw [this]
 have d:=CallsTo.det (Classical.choose_spec hx) e
 simp only [Prod.mk.injEq,and_true] at d
 rw [d]
def Pre100u (a : A100) (args : List AV) (h : Heap) : Prop:=Ok100 U1 a h ∧ args = [a.x,.func a.f a.cap]
noncomputable def U2 : CallF:=addK tbl U1 100 Pre100u Post100
theorem u2 : Sound Go.Proofs.Try.prog U2:=Sound.addK follows ok u1 (by decide) _ _
theorem k100u : K100 U1 U2:=fun h a ha => by
 obtain ⟨v,own,e,rfl,rfl⟩:=addK_some (Pre:=Pre100u) (Post:=Post100) (fun a args h hp => by
  obtain ⟨⟨h1,h2,h3,h4⟩,rfl⟩:=hp
  exact ⟨_,_,c100_ok U1 (fun _ _ => by simp (disch:=decide) only [U1,T1,T2,T3,addI_ne,addX_ne,addV_ne,addK_ne]; rfl) h1 h h2 h3 h4,rfl,rfl⟩) a _ h ⟨ha,rfl⟩
 exact e
noncomputable def U3 : CallF:=addK tbl U2 80 Pre100u Post80
theorem u3 : Sound Go.Proofs.Try.prog U3:=Sound.addK follows ok u2 (by decide) _ _
theorem k80u : K80 U1 U3:=fun h a ha => by
 obtain ⟨v,own,e,rfl,rfl⟩:=addK_some (Pre:=Pre100u) (Post:=Post80) (fun a args h hp => by
  obtain ⟨h1,rfl⟩:=hp
  exact ⟨_,_,c80_ok U2 U1 (fun _ _ => by simp (disch:=decide) only [U2,U1,T1,T2,T3,addI_ne,addX_ne,addV_ne,addK_ne]; rfl) k100u h a h1,rfl,rfl⟩) a _ h ⟨ha,rfl⟩
 exact e
theorem Sound.put {P : Program} {I U : CallF} (hI : Sound P I) (hU : Sound P U) (f : Nat) : Sound P (addI I f (U f)):=fun g args h v own sh e => by
 unfold addI at e
 split at e
 ·rename_i hg
  subst hg
  exact hU _ args h v own sh e
 ·exact hI g args h v own sh e
noncomputable def T74 : CallF:=addI T73 80 (U3 80)
theorem t74 : Sound Go.Proofs.Try.prog T74:=Sound.put t73 u3 80
theorem k80_74 : K80 U1 T74:=fun h a ha => k80u h a ha
def lB (f : Nat → Bool) (n : Nat) : List AV:=(List.range n).map fun i => .bool (f i)
theorem lB_len (f : Nat → Bool) (n : Nat) : (lB f n).length = n:=by simp [lB]
theorem lB_at (f : Nat → Bool) {n i : Nat} (h : i < n) : (lB f n)[i]? = some (.bool (f i)):=by
 unfold lB
 rw [List.getElem?_map,List.getElem?_range h]; rfl
theorem lB_ext {f g : Nat → Bool} {n : Nat} (h : ∀ t,t < n → f t = g t) : lB f n = lB g n:=by
 unfold lB
 apply List.map_congr_left
 intro t ht
 rw [h t (List.mem_range.1 ht)]
theorem lB_set (f : Nat → Bool) {n i : Nat} (h : i < n) (v : Bool) : (lB f n).set i (.bool v) = lB (fun t => if t = i then v else f t) n:=by
 apply List.ext_getElem?
 intro j
 by_cases hj : j < n
 ·rw [lB_at _ hj]
  by_cases e : i = j
  ·subst e
   rw [List.getElem?_set_self (by rw [lB_len]; exact h),if_pos rfl]
  ·rw [List.getElem?_set_ne e,lB_at _ hj,if_neg (fun h => e h.symm)]
 ·rw [List.getElem?_eq_none (by rw [List.length_set,lB_len]; omega),List.getElem?_eq_none (by rw [lB_len]; omega)]
theorem lB_rep (n : Nat) (y : Bool) : List.replicate n (.bool y) = lB (fun _ => y) n:=by
 apply List.ext_getElem?
 intro j
 by_cases hj : j < n
 ·rw [lB_at _ hj,List.getElem?_replicate,if_pos hj]
 ·rw [List.getElem?_eq_none (by simp; omega),List.getElem?_eq_none (by rw [lB_len]; omega)]
def rowsA (S : List (List Nat)) (k : Nat) : List (List AV):=(List.range k).map fun j => lB (al S j) S.length
theorem rowsA_len (S : List (List Nat)) (k : Nat) : (rowsA S k).length = k:=by simp [rowsA]
theorem rowsA_succ (S : List (List Nat)) (k : Nat) : rowsA S (k + 1) = rowsA S k ++ [lB (al S k) S.length]:=by simp [rowsA,List.range_succ]
theorem rowsA_at (S : List (List Nat)) {k i : Nat} (h : i < k) : (rowsA S k)[i]? = some (lB (al S i) S.length):=by
 unfold rowsA
 rw [List.getElem?_map,List.getElem?_range h]; rfl
theorem any_range (l : List Nat) (p : Nat → Bool) : ((List.range l.length).any fun t => p (l.getD t 0)) = l.any p:=by
 rw [Bool.eq_iff_iff,List.any_eq_true,List.any_eq_true]
 constructor
 ·rintro ⟨t,h1,h2⟩
  exact ⟨_,gD_mem (List.mem_range.1 h1),h2⟩
 ·rintro ⟨c,h1,h2⟩
  obtain ⟨t,ht,rfl⟩:=List.mem_iff_getElem.1 h1
  exact ⟨t,List.mem_range.2 ht,by rw [List.getD_eq_getElem?_getD,List.getElem?_eq_getElem ht]; exact h2⟩
theorem TB.appk {H0 h : Heap} (h0 : Nat) {x : AV} {M : List (List AV)} {b : Nat} {cs : List AV} (t : TB H0 h x M) (hv : h.get b = .cells 1 cs.length cs) (hb : blk x ≠ some b ∧ H0.size ≤ b) (hn : M.length ≤ 1000000) :
  ∃ x1 e h2,appA (h.plus [.cells 1 1 [.slice b 0 cs.length cs.length]]) h0 none 1 24 1 [.slice b 0 cs.length cs.length] x = some (x1,e) ∧ Eff.app e (h.plus [.cells 1 1 [.slice b 0 cs.length cs.length]]) = some h2 ∧ TB H0 h2 x1 (M ++ [cs]) ∧ Kp (fun q => blk x = some q) (h.plus [.cells 1 1 [.slice b 0 cs.length cs.length]]) h2 ∧ AV.cells x1 = some [x1]:=by
 obtain ⟨x1,e,h2,q1,q2,q3,q6⟩:=t.app h0 hv hb hn
 obtain ⟨rs,lv,hl,_⟩:=t.r
 obtain ⟨x1',e',h2',p1,p2,_,p4,_⟩:=app_v (h.plus [.cells 1 1 [.slice b 0 cs.length cs.length]]) h0 24 (.slice b 0 cs.length cs.length) (lv.kp (Kp.plus _ _) (fun _ _ => id)) (by omega)
 rw [q1] at p1
 simp only [Option.some.injEq,Prod.mk.injEq] at p1
 obtain ⟨rfl,rfl⟩:=p1
 rw [q2] at p2
 obtain rfl:=Option.some.inj p2
 exact ⟨_,_,_,q1,q2,q3,p4,q6⟩
theorem TB.updp {Z h : Heap} {z w : AV} {M : List (List AV)} (t : TB Z h z M) {pc : Nat} (g : h.get pc = .cells 0 1 [w]) (hp : Z.size ≤ pc) (w' : AV) : TB Z (h.upd pc (.cells 0 1 [w'])) z M ∧ (h.upd pc (.cells 0 1 [w'])).get pc = .cells 0 1 [w']:=by
 have hN : h.N ≤ pc:=by rw [t.k.N]; exact Nat.le_trans (by unfold Heap.size; omega) hp
 have ne : ∀ {b n cs},h.get b = .cells 1 n cs → (h.upd pc (.cells 0 1 [w'])).get b = .cells 1 n cs:=fun {b n cs} e => by
  rw [upd_ne _ _ _ _ hN (fun h => by subst h; rw [g] at e; cases e)]; exact e
 obtain ⟨rs,lv,hl,hr⟩:=t.r
 refine ⟨⟨t.k.updn pc _ hN hp,t.x0,rs,?_,hl,fun i r e => ?_⟩,upd_same _ _ _ hN (get_lt g (by simp))⟩
 ·rcases lv with h | ⟨b,e,g1,g2⟩
  ·exact .inl h
  ·exact .inr ⟨b,e,ne g1,g2⟩
 ·obtain ⟨cs,b,h1,h2,h3,h4⟩:=hr i r e
  exact ⟨cs,b,h1,h2,ne h3,h4⟩
section
variable {S : List (List Nat)} {p pc : Nat}
structure BY (Hk h : Heap) (b n : Nat) (f : Nat → Bool) : Prop where
 kp : Kp (fun _ => False) Hk h
 g : h.get b = .cells 1 n (lB f n)
def mB (S : List (List Nat)) (k i t : Nat) : Bool:=if t < i then al S (k + 1) t else false
structure CQ (S : List (List Nat)) (h : Heap) (pc k : Nat) (bo : Nat) (ros : List AV) : Prop where
 gp : h.get pc = .cells 0 1 [.slice bo 0 (k + 1) (k + 1)]
 go : h.get bo = .cells 1 (k + 1) ros
 lo : ros.length = k + 1
 r : ∀ i,i < k + 1 → ∃ b,ros[i]? = some (.slice b 0 S.length S.length) ∧ h.get b = .cells 1 S.length (lB (al S i) S.length)
theorem CQ.kp {h h' : Heap} {k bo : Nat} {ros : List AV} (c : CQ S h pc k bo ros) (kk : Kp (fun _ => False) h h') : CQ S h' pc k bo ros :=
 ⟨kk.at c.gp (by simp) id,kk.at c.go (by simp) id,c.lo,fun i hi => by
  obtain ⟨b,e1,e2⟩:=c.r i hi
  exact ⟨b,e1,kk.at e2 (by simp) id⟩⟩
theorem TB.cq {Z h : Heap} {z : AV} {k : Nat} (t : TB Z h z (rowsA S (k + 1))) (g : h.get pc = .cells 0 1 [z]) : ∃ bo ros,z = .slice bo 0 (k + 1) (k + 1) ∧ CQ S h pc k bo ros:=by
 obtain ⟨bo,ros,e1,e2,e3,e4⟩:=t.sl (i:=0) (by rw [rowsA_len]; omega)
 rw [rowsA_len] at e1 e2 e3
 refine ⟨bo,ros,e1,by rw [g,e1],e2,e3,fun i hi => ?_⟩
 obtain ⟨b,h1,h2⟩:=e4 i _ (rowsA_at S hi)
 rw [lB_len] at h1 h2
 exact ⟨b,h1,h2⟩
set_option maxHeartbeats 1000000 in
theorem c48_l0_ok (J : CallF) (k80 : K80 U1 J) {Hk : Heap} {nb k nn D b pk bo : Nat} {sb : AV} {rs ros : List AV} (g1 : Hk.get nb = .cells 1 S.length rs) (h4 : ∀ i,i < S.length → ∃ y,rs[i]? = some y ∧ RV Hk y (gn (S.getD i []))) (os : OkS S) (cq : CQ S Hk pc k bo ros) (gk : Hk.get pk = .cells 0 1 [G k]) (hb : Hk.size ≤ b) :
  Tr tbl J c48_l0 (fun s h => BY Hk h b S.length (mB S k 0) ∧ s.get [false] = sb ∧ s.get [true] = G nn ∧ s.get [true,false,false] = .ptr p 0 3 ∧ s.get [false,true,false] = .ptr pc 0 1 ∧ s.get [true,true,false] = .ptr pk 0 1 ∧ s.get [false,false,true] = .slice b 0 S.length S.length ∧ s.get [true,false,false,true,true] = G D ∧ s.get [false,true,false,true,true] = G k ∧ s.get [false,true,true,false,false,false] = .slice nb 0 S.length S.length ∧ s.get [true,true,true,false,false,false] = G S.length ∧ s.get [false,false,false,true,false,false] = G ((0 : Nat) : Int)) (.exit 2)
   (fun s h => BY Hk h b S.length (mB S k S.length) ∧ s.get [false] = sb ∧ s.get [true] = G nn ∧ s.get [true,false,false] = .ptr p 0 3 ∧ s.get [false,true,false] = .ptr pc 0 1 ∧ s.get [false,false,true] = .slice b 0 S.length S.length ∧ s.get [true,false,false,true,true] = G D ∧ s.get [false,true,false,true,true] = G k):=by
 have n2:=os.n
 refine Tr.rounds (e:=.exit 2) (P:=fun i s h => BY Hk h b S.length (mB S k i) ∧ s.get [false] = sb ∧ s.get [true] = G nn ∧ s.get [true,false,false] = .ptr p 0 3 ∧ s.get [false,true,false] = .ptr pc 0 1 ∧ s.get [true,true,false] = .ptr pk 0 1 ∧ s.get [false,false,true] = .slice b 0 S.length S.length ∧ s.get [true,false,false,true,true] = G D ∧ s.get [false,true,false,true,true] = G k ∧ s.get [false,true,true,false,false,false] = .slice nb 0 S.length S.length ∧ s.get [true,true,true,false,false,false] = G S.length ∧ s.get [false,false,false,true,false,false] = G i) (M:=S.length) (fun i hi => ?_) ?_ (by simp) 0 (by omega)
 ·refine Tr.w fun s1 H1 hp _ kR => W.trim ?_
  obtain ⟨bz,q⟩:=hp
  have g1':=bz.kp.at g1 (by simp) id
  obtain ⟨y,ey,rv0⟩:=h4 i hi
  have rv:=rv0.kp bz.kp (fun _ _ => id)
  have ey':=getI ey
  have lrs : i < rs.length:=(List.getElem?_eq_some_iff.1 ey).1
  have cq1:=cq.kp bz.kp
  have gk1:=bz.kp.at gk (by simp) id
  have kk:=k80 H1 ⟨y,81,[.ptr pc 0 1,.ptr pk 0 1],gn (S.getD i []),fun t => al S k ((S.getD i []).getD t 0)⟩ ⟨show (81 : Nat) ≠ 0 by decide,by
    rcases rv with ⟨e1,e2⟩ | h
    ·exact .inl ⟨.inl e1,e2⟩
    ·exact .inr h,by have:=os.len i; show (gn (S.getD i [])).length < _; rw [gn_len]; omega,fun t c e => by
   have ht : t < (S.getD i []).length:=by
    have:=(List.getElem?_eq_some_iff.1 e).1
    rw [gn_len] at this; exact this
   rw [gn_at ht] at e
   obtain rfl:=Option.some.inj e
   have hj : (S.getD i []).getD t 0 < S.length:=os.lt i _ (gD_mem ht)
   obtain ⟨br,e5,e6⟩:=cq1.r k (by omega)
   have ck : CK ⟨H1.get,H1.size,[]⟩ pc pk k ((S.getD i []).getD t 0) (al S k ((S.getD i []).getD t 0)):=by
    refine ⟨⟨bo,k + 1,k + 1,ros,br,S.length,S.length,lB (al S k) S.length,?_,?_,by omega,cq1.lo,e5,?_,hj,lB_len _ _,lB_at _ hj⟩,?_⟩
    ·rw [lo_get]; exact cq1.gp
    ·rw [lo_get]; exact cq1.go
    ·rw [lo_get]; exact e6
    ·rw [lo_get]; exact gk1
   exact k81 _ ck⟩
  simp only at kk
  rw [gn_len,any_range] at kk
  have ea : (S.getD i []).any (al S k) = al S (k + 1) i:=rfl
  rw [ea] at kk
  have g:=bz.g
  have hNb : H1.N ≤ b:=by
   rw [bz.kp.N]
   exact Nat.le_trans (by unfold Heap.size; omega) hb
  have fx : (lB (mB S k i) S.length).set i (.bool (al S (k + 1) i)) = lB (mB S k (i + 1)) S.length:=by
   rw [lB_set _ hi]
   apply lB_ext
   intro t ht
   unfold mB
   by_cases e : t = i
   ·subst e
    rw [if_pos rfl,if_pos (by omega)]
   ·rw [if_neg e]
    by_cases c : t < i
    ·rw [if_pos c,if_pos (by omega)]
    ·rw [if_neg c,if_neg (by omega)]
  have p1 : Eff.app (.put b S.length i [.bool (al S (k + 1) i)]) H1 = some (H1.upd b (.cells 1 S.length (lB (mB S k (i + 1)) S.length))):=by
   rw [put_gen H1 b S.length i 1 _ _ hNb g (by rw [lB_len]; simp; omega)]
   simp only [putAt]
   rw [fx]
  have bz2 : BY Hk (H1.upd b (.cells 1 S.length (lB (mB S k (i + 1)) S.length))) b S.length (mB S k (i + 1)):=⟨bz.kp.updn b _ hNb hb,upd_same _ _ _ hNb (get_lt g (by simp))⟩
  have l3:=lB_len (mB S k i) S.length
  clear bz fx rv rv0 h4 cq cq1 gk gk1 ea
  generalize al S (k + 1) i = z at *
  generalize lB (mB S k (i + 1)) S.length = cm' at *
  generalize lB (mB S k i) S.length = cm at *
  generalize hnn : S.length = n at *
  refine zCh ?_
  simp (disch:=first|omega|exact zE rfl|exact zO|exact zL rfl) [c48_o12,zG,q]
  refine zCh ?_
  simp (disch:=first|omega|exact zE rfl|exact zO|exact zL rfl) [zG,q]
  refine W.seq (W.block ?_)
  refine zCh ?_
  simp (disch:=first|omega|exact zE rfl|exact zO|exact zL rfl) [c48_o13,zG,q,g1',ey,ey']
  refine W.chunk ?_
  simp (disch:=first|omega|exact zE rfl|exact zO|exact zL rfl) [c48_o14,zG,q,kk,g,l3,p1]
  refine W.chunk ?_
  simp (disch:=first|omega|exact zE rfl|exact zO|exact zL rfl) [c48_o15,zG,q]
  exact kR _ _ ⟨bz2,by simp [T.get,q]⟩
 ·refine Tr.w fun s1 H1 hp _ kR => W.trim ?_
  obtain ⟨bz,q⟩:=hp
  clear h4 cq
  generalize hnn : S.length = n at *
  refine zCh ?_
  simp (disch:=first|omega|exact zE rfl|exact zO|exact zL rfl) [c48_o12,zG,q]
  refine zCh ?_
  simp (disch:=first|omega|exact zE rfl|exact zO|exact zL rfl) [zG,q]
  exact kR _ _ ⟨bz,by simp [T.get,q]⟩
end
end Go.Proofs.Ytljgfdamdcikgaa.Ev
