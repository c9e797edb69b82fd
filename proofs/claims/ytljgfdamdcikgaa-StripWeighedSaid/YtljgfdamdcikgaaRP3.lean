/-
 Of the functions that this law reaches,part 3: what they answer. No condition.
-/
import Derived.Test.YtljgfdamdcikgaaRP2
import Derived.Test.YtljgfdamdcikgaaRP1
set_option linter.unusedVariables false
set_option linter.unusedSimpArgs false
open Bool renaming true → zT, false → zF
open List renaming getElem?_eq_getElem → zq, getD_eq_getElem?_getD → zd
open Go.Proofs.Try renaming prog → zp
namespace Go.Proofs.Ytljgfdamdcikgaa.Ev
open Go Go.AEv
attribute [local simp] evFunc initS evOps_c evTrim_c evSkip_c evExit_c evRet_c evSeq_c evCond_c evBlock_c evDraw_c runOps_n runOps_c exec_n exec_g pure1_c act AOpd.ev T.get T.set T.put evBin evUn forceT_eq forceV_eq forceL_eq evRess evRes one keep runFP_n runFP_c app_none AV.flats AV.flat came_some List.getElem?_cons_zero List.getElem?_cons_succ beqT wrapI idxI tdivI tmodI decT decF ibT ibF inT inF evScope_c if_pos if_neg Cm_some thenW_n thenW_e thenW_r blkW_n blkW_e blkW_r goI kn putAt AV.cells fillA loadA takeA mk Eff.isAll Eff.isNone Eff.commutes Eff.spares okPair apart eqAgg fits LK.fits allEq aveq eqk mmA
theorem addI_eq (I : CallF) (f : Nat) (spec : SpecF) (args : List AV) (h : Heap) : addI I f spec f args h = spec args h:=if_pos rfl
section
variable {a : AG} {m : Nat} {R : List (List Nat)} {b v : Nat}
end
structure AWS46 where
 a : AG
 m : Nat
 R : List (List Nat)
 b : Nat
 v : Nat
def Pre46g (b : AWS46) (args : List AV) (h : Heap) : Prop:=(OkG b.a h ∧ WS b.a b.m b.R ∧ h.get b.b = .cells 1 b.v (wsL b.R)) ∧ args = [b.a.v,.slice b.b 0 b.R.length b.v]
def Post46g (b : AWS46) (h : Heap) (v : AV) (own : List AObj) : Prop:=v = .bool (kpS b.a b.R) ∧ own = []
noncomputable def U46 : CallF:=addK tbl T56 46 Pre46g Post46g
theorem u46 : Sound zp U46:=Sound.addK follows ok t56 (by decide) _ _
theorem wrap8b (z : Int) (h0 : 0 ≤ z) (h1 : z < 256) : IntKind.u8.wrap z = z:=by
 unfold IntKind.wrap IntKind.bits IntKind.signed
 simp; omega
section
variable {L : List (List UInt8)} {b v n qq i p : Nat} {x y : AV}
theorem c39g_b0 (J : CallF) {H : Heap} (gS : H.get p = .cells 0 3 [G qq,x,y]) (g : H.get b = .cells 1 v (ss L)) (q3 : qq ≤ 3) (hn : L.length = n) (hi : i < n) (hw : (L.getD i []).length ≤ 1000000) {k : Nat} (hk : k < (L.getD i []).length) (n1 : n ≤ 1000000) :
  (goodB qq ((L.getD i []).getD k 0) = zT → Tr tbl J (.trim [[zF],[zT],[zF,zT],[zT,zT]] c39_b0) (fun s h => h = H ∧ s.get [zF] = .slice b 0 n v ∧ s.get [zT] = .ptr p 0 3 ∧ s.get [zF,zT] = G (i : Nat) ∧ s.get [zT,zT] = G (k : Nat)) .normal (fun s h => h = H ∧ s.get [zF] = .slice b 0 n v ∧ s.get [zT] = .ptr p 0 3 ∧ s.get [zF,zT] = G (i : Nat) ∧ s.get [zT,zT] = G ((k + 1 : Nat) : Int))) ∧
  (goodB qq ((L.getD i []).getD k 0) = zF → Tr tbl J (.trim [[zF],[zT],[zF,zT],[zT,zT]] c39_b0) (fun s h => h = H ∧ s.get [zF] = .slice b 0 n v ∧ s.get [zT] = .ptr p 0 3 ∧ s.get [zF,zT] = G (i : Nat) ∧ s.get [zT,zT] = G (k : Nat)) .ret (fun s h => s.get [zT,zF] = .bool zF)):=by
 have wi:=ss_at (L:=L) (i:=i) (by omega)
 have wi':=getI wi
 have lw : (ss L).length = n:=by simp [hn]
 have ek : (L.getD i [])[k]? = some ((L.getD i []).getD k 0):=by
  rw [zd (l:=L.getD i []),zq hk]; rfl
 have ek':=getI ek
 have ub : ((L.getD i []).getD k 0).toNat < 256:=UInt8.toNat_lt _
 have gb : goodB qq ((L.getD i []).getD k 0) = decide (48 ≤ ((L.getD i []).getD k 0).toNat ∧ ((L.getD i []).getD k 0).toNat < 48 + qq):=rfl
 rw [gb]
 have w1 : 48 ≤ ((L.getD i []).getD k 0).toNat → IntKind.u8.wrap ((((L.getD i []).getD k 0).toNat : Int) - 48) = (((L.getD i []).getD k 0).toNat : Int) - 48:=fun h => wrap8b _ (by omega) (by omega)
 clear gb
 generalize (L.getD i []).getD k 0 = u at *
 generalize L.getD i [] = w at *
 generalize ss L = ws at *
 constructor
 ·intro h
  obtain ⟨h1,h2⟩:=of_decide_eq_true h
  have w1:=w1 h1
  have d48 : ¬ (u.toNat : Int) < 48:=by omega
  have dd : ¬ (qq : Int) ≤ (u.toNat : Int) - 48:=by omega
  refine Tr.w fun s1 H1 hp _ kR => W.trim ?_
  obtain ⟨rfl,q⟩:=hp
  refine W.assoc ?_
  refine zCh ?_
  simp (disch:=omega) [c39_o6,zG,q,g,wi,wi',lw]
  refine zCh ?_
  simp (disch:=omega) [zG,q]
  refine W.seq (W.block ?_)
  refine zCh ?_
  simp (disch:=omega) [-evDraw_c,c39_o7,zG,q,evDraw_0,gS,g,wi,wi',lw,ek,ek',w1,dd,d48]
  refine W.chunk ?_
  simp (disch:=omega) [c39_o8,zG,q]
  refine W.chunk ?_
  simp (disch:=omega) [c39_o9,zG,q]
  exact kR _ _ (by simp [T.get,q])
 ·intro h
  have h:=of_decide_eq_false h
  by_cases h1 : 48 ≤ u.toNat
  ·have w1:=w1 h1
   have d48 : ¬ (u.toNat : Int) < 48:=by omega
   have dd : (qq : Int) ≤ (u.toNat : Int) - 48:=by omega
   refine Tr.w fun s1 H1 hp _ kR => W.trim ?_
   obtain ⟨rfl,q⟩:=hp
   refine W.assoc ?_
   refine zCh ?_
   simp (disch:=omega) [c39_o6,zG,q,g,wi,wi',lw]
   refine zCh ?_
   simp (disch:=omega) [zG,q]
   refine W.seq (W.block ?_)
   refine zCh ?_
   simp (disch:=omega) [-evDraw_c,c39_o7,zG,q,evDraw_0,gS,g,wi,wi',lw,ek,ek',w1,dd,d48]
   refine W.chunk ?_
   simp (disch:=omega) [c39_o8,zG,q]
   exact kR _ _ (by simp [T.get])
  ·have d48 : (u.toNat : Int) < 48:=by omega
   clear w1
   refine Tr.w fun s1 H1 hp _ kR => W.trim ?_
   obtain ⟨rfl,q⟩:=hp
   refine W.assoc ?_
   refine zCh ?_
   simp (disch:=omega) [c39_o6,zG,q,g,wi,wi',lw]
   refine zCh ?_
   simp (disch:=omega) [zG,q]
   refine W.seq (W.block ?_)
   refine zCh ?_
   simp (disch:=omega) [-evDraw_c,c39_o7,zG,q,evDraw_0,gS,g,wi,wi',lw,ek,ek',d48]
   refine W.chunk ?_
   simp (disch:=omega) [c39_o8,zG,q]
   exact kR _ _ (by simp [T.get])
theorem goodS_af (qq : Nat) (s : List UInt8) : af (fun k => goodB qq (s.getD k 0)) 0 s.length = goodS qq s:=by
 rw [af_range,all_range s 0 (goodB qq)]; rfl
theorem c39g_l0 (J : CallF) {H : Heap} (gS : H.get p = .cells 0 3 [G qq,x,y]) (g : H.get b = .cells 1 v (ss L)) (q3 : qq ≤ 3) (hn : L.length = n) (hi : i < n) (hw : (L.getD i []).length ≤ 1000000) (n1 : n ≤ 1000000) :
  (goodS qq (L.getD i []) = zT → Tr tbl J c39_l0 (fun s h => h = H ∧ s.get [zF] = .slice b 0 n v ∧ s.get [zT] = .ptr p 0 3 ∧ s.get [zF,zT] = G (i : Nat) ∧ s.get [zT,zT] = G ((0 : Nat) : Int)) (.exit 2) (fun s h => h = H ∧ s.get [zF] = .slice b 0 n v ∧ s.get [zT] = .ptr p 0 3 ∧ s.get [zF,zT] = G (i : Nat))) ∧
  (goodS qq (L.getD i []) = zF → Tr tbl J c39_l0 (fun s h => h = H ∧ s.get [zF] = .slice b 0 n v ∧ s.get [zT] = .ptr p 0 3 ∧ s.get [zF,zT] = G (i : Nat) ∧ s.get [zT,zT] = G ((0 : Nat) : Int)) .ret (fun s h => s.get [zT,zF] = .bool zF)):=by
 have b0:=fun {k} hk => c39g_b0 J gS g q3 hn hi hw (k:=k) hk n1
 rw [← goodS_af]
 refine ⟨fun hg => ?_,fun hg => ?_⟩
 ·have wi:=ss_at (L:=L) (i:=i) (by omega)
  have wi':=getI wi
  have lw : (ss L).length = n:=by simp [hn]
  refine Tr.allT (P:=fun k => (fun s h => h = H ∧ s.get [zF] = .slice b 0 n v ∧ s.get [zT] = .ptr p 0 3 ∧ s.get [zF,zT] = G (i : Nat) ∧ s.get [zT,zT] = G (k : Nat))) (p:=fun k => goodB qq ((L.getD i []).getD k 0)) (L.getD i []).length (fun k hk hp => (b0 hk).1 hp) ?_ (by simp) _ 0 (by omega) hg
  clear b0 hg
  generalize L.getD i [] = w at *
  generalize ss L = ws at *
  refine Tr.w fun s1 H1 hp _ kR => W.trim ?_
  obtain ⟨rfl,q⟩:=hp
  refine W.assoc ?_
  refine zCh ?_
  simp (disch:=omega) [c39_o6,zG,q,g,wi,wi',lw]
  refine zCh ?_
  simp (disch:=omega) [zG,q]
  exact kR _ _ (by simp [T.get,q])
 ·exact Tr.allF (P:=fun k => (fun s h => h = H ∧ s.get [zF] = .slice b 0 n v ∧ s.get [zT] = .ptr p 0 3 ∧ s.get [zF,zT] = G (i : Nat) ∧ s.get [zT,zT] = G (k : Nat))) (p:=fun k => goodB qq ((L.getD i []).getD k 0)) (L.getD i []).length (fun k hk hp => (b0 hk).1 hp) (fun k hk hp => (b0 hk).2 hp) (by simp) _ 0 (by omega) hg
theorem c39g_b1 (J : CallF) {H : Heap} (gS : H.get p = .cells 0 3 [G qq,x,y]) (g : H.get b = .cells 1 v (ss L)) (q3 : qq ≤ 3) (hn : L.length = n) (hi : i < n) (hs : ∀ s ∈ L,s.length ≤ 1000000) (n1 : n ≤ 1000000) :
  (rowOkS qq L (L.getD i []) = zT → Tr tbl J (.trim [[zF],[zT],[zF,zT]] c39_b1) (fun s h => h = H ∧ s.get [zF] = .slice b 0 n v ∧ s.get [zT] = .ptr p 0 3 ∧ s.get [zF,zT] = G (i : Nat)) .normal (fun s h => h = H ∧ s.get [zF] = .slice b 0 n v ∧ s.get [zT] = .ptr p 0 3 ∧ s.get [zF,zT] = G ((i + 1 : Nat) : Int))) ∧
  (rowOkS qq L (L.getD i []) = zF → Tr tbl J (.trim [[zF],[zT],[zF,zT]] c39_b1) (fun s h => h = H ∧ s.get [zF] = .slice b 0 n v ∧ s.get [zT] = .ptr p 0 3 ∧ s.get [zF,zT] = G (i : Nat)) .ret (fun s h => s.get [zT,zF] = .bool zF)):=by
 have wi:=ss_at (L:=L) (i:=i) (by omega)
 have wi':=getI wi
 have w0:=ss_at (L:=L) (i:=0) (by omega)
 have w0':=getI w0
 have lw : (ss L).length = n:=by simp [hn]
 have mem : ∀ j,j < n → (L.getD j []).length ≤ 1000000:=fun j hj => hs _ (by
  rw [zd,zq (by omega)]; exact List.getElem_mem _)
 have l0:=c39g_l0 (p:=p) J gS g q3 hn hi (mem i hi) n1
 have er : rowOkS qq L (L.getD i []) = (decide ((L.getD i []).length = (L.getD 0 []).length) && goodS qq (L.getD i [])):=rfl
 rw [er]
 have m0:=mem 0 (by omega)
 have mi:=mem i hi
 clear hs mem er
 generalize goodS qq (L.getD i []) = z at *
 generalize L.getD i [] = w at *
 generalize L.getD 0 [] = u at *
 generalize ss L = ws at *
 by_cases c : w.length = u.length
 ·rw [decide_eq_true c,Bool.true_and]
  constructor
  ·intro h
   have l0:=l0.1 h
   refine Tr.w fun s1 H1 hp _ kR => W.trim ?_
   obtain ⟨rfl,q⟩:=hp
   refine W.assoc ?_
   refine zCh ?_
   simp (disch:=omega) [c39_o2,zG,q]
   refine zCh ?_
   simp (disch:=omega) [zG,q]
   refine W.seq (W.block ?_)
   refine W.assoc ?_
   refine zCh ?_
   simp (disch:=omega) [-evDraw_c,c39_o3,zG,q,evDraw_0,g,wi,wi',w0,w0',lw,c]
   refine zCh ?_
   simp (disch:=omega) [c39_o4,zG,q]
   refine zCh ?_
   simp (disch:=omega) [c39_o5,zG,q]
   refine W.block ?_
   refine W.use (l0) (by simp (disch:=omega) [zG,q]) fun s1 H1 hp => ?_
   obtain ⟨rfl,q⟩:=hp
   try simp only [zW,if_true]
   refine W.chunk ?_
   simp (disch:=omega) [c39_o10,zG,q]
   exact kR _ _ (by simp [T.get,q])
  ·intro h
   have l0:=l0.2 h
   refine Tr.w fun s1 H1 hp _ kR => W.trim ?_
   obtain ⟨rfl,q⟩:=hp
   refine W.assoc ?_
   refine zCh ?_
   simp (disch:=omega) [c39_o2,zG,q]
   refine zCh ?_
   simp (disch:=omega) [zG,q]
   refine W.seq (W.block ?_)
   refine W.assoc ?_
   refine zCh ?_
   simp (disch:=omega) [-evDraw_c,c39_o3,zG,q,evDraw_0,g,wi,wi',w0,w0',lw,c]
   refine zCh ?_
   simp (disch:=omega) [c39_o4,zG,q]
   refine zCh ?_
   simp (disch:=omega) [c39_o5,zG,q]
   refine W.block ?_
   refine W.use (l0) (by simp (disch:=omega) [zG,q]) fun s1 H1 hp => ?_
   try simp only [zW,if_true]
   exact kR _ _ hp
 ·rw [decide_eq_false c,Bool.false_and]
  refine ⟨fun h => (by cases h),fun _ => ?_⟩
  have c' : ¬ (w.length : Int) = (u.length : Int):=by omega
  clear l0
  refine Tr.w fun s1 H1 hp _ kR => W.trim ?_
  obtain ⟨rfl,q⟩:=hp
  refine W.assoc ?_
  refine zCh ?_
  simp (disch:=omega) [c39_o2,zG,q]
  refine zCh ?_
  simp (disch:=omega) [zG,q]
  refine W.seq (W.block ?_)
  refine W.assoc ?_
  refine zCh ?_
  simp (disch:=omega) [-evDraw_c,c39_o3,zG,q,evDraw_0,g,wi,wi',w0,w0',lw,c',c]
  refine zCh ?_
  simp (disch:=omega) [c39_o4,zG,q]
  exact kR _ _ (by simp [T.get])
theorem rows_af (qq : Nat) (L : List (List UInt8)) : af (fun i => rowOkS qq L (L.getD i [])) 0 L.length = L.all (rowOkS qq L):=by
 rw [af_range,all_range L [] (rowOkS qq L)]
set_option maxHeartbeats 1000000 in
theorem c39g_ok (J : CallF) (hJ : ∀ a h,J 39 a h = none) (h : Heap) {z : AV} (q3 : qq ≤ 3) (hx : RV h z (ss L)) (hn : L.length ≤ 1000000) (hs : ∀ s ∈ L,s.length ≤ 1000000) : CallsTo tbl J 39 [.agg [G qq,x,y],z] h (.bool (isS qq L),[],zF):=by
 refine Tr.fnv (cf:=c39) (e:=.ret) (s:=T.set (T.set .leaf [] (.agg [G qq,x,y])) [zF] z) (by decide) rfl (hJ _ _) rfl rfl rfl (by simp) ?_
 refine Tr.post (Q:=(fun s h => s.get [zT,zF] = .bool (isS qq L))) (fun s h q => by simp [c39,q]) ?_
 have hxF : RV (frameOf h) z (ss L):=hx.frame
 generalize frameOf h = H0 at *
 obtain ⟨H,hH⟩ : ∃ H,H0.plus [.cells 0 3 [G qq,x,y]] = H:=⟨_,rfl⟩
 have kH : Kp (fun _ => False) H0 H:=by rw [← hH]; exact Kp.plus _ _
 have gS : H.get H0.size = .cells 0 3 [G qq,x,y]:=by rw [← hH]; exact plus_at0 _ _ _ _ rfl
 have hxH:=hxF.kp kH (fun _ _ => id)
 have ls : (ss L).length = L.length:=by simp
 have es : isS qq L = (decide (1 ≤ L.length ∧ L.length ≤ 40) && decide (1 ≤ (L.getD 0 []).length ∧ (L.getD 0 []).length ≤ 5) && L.all (rowOkS qq L)):=rfl
 obtain ⟨rfl,e⟩ | ⟨b,v,rfl,g⟩:=hxH
 ·have hl : L.length = 0:=by rw [← ls,e]; rfl
  have ez : isS qq L = zF:=by rw [es,hl]; rfl
  rw [ez]
  have l1 : Tr tbl J c39_l1 (fun s h => h = H ∧ s.get [zF] = .nils ∧ s.get [zT] = .ptr H0.size 0 3 ∧ s.get [zF,zT] = G 0) (.exit 0) (fun s h => h = H ∧ s.get [zF] = .nils):=by
   refine Tr.out ?_ (by simp)
   clear hxF hx kH gS hs
   refine Tr.w fun s1 H1 hp _ kR => W.trim ?_
   obtain ⟨rfl,q⟩:=hp
   refine W.assoc ?_
   refine zCh ?_
   simp (disch:=omega) [c39_o2,zG,q]
   refine zCh ?_
   simp (disch:=omega) [zG,q]
   exact kR _ _ (by simp [T.get,q])
  clear hxF hx kH gS hs es ez
  refine Tr.w fun s1 H1 hp _ kR => ?_
  obtain ⟨rfl,rfl⟩:=hp
  have q : True:=trivial
  refine zCh ?_
  simp (disch:=omega) [c39_o0,zG,q,hH]
  refine W.assoc ?_
  refine zCh ?_
  simp (disch:=omega) [c39_o1,zG,q]
  refine W.seq (W.block ?_)
  refine W.use (l1) (by simp (disch:=omega) [zG,q]) fun s1 H1 hp => ?_
  obtain ⟨rfl,q⟩:=hp
  try simp only [zW,if_true]
  refine zCh ?_
  simp (disch:=omega) [c39_o11,zG,q]
  refine W.ret ?_
  try simp only [zW,if_true]
  exact kR _ _ (by simp [T.get])
 ·rw [ls] at hx ⊢
  have b1:=fun {i} hi => c39g_b1 J gS g q3 rfl (i:=i) hi hs hn
  cases ha : L.all (rowOkS qq L)
  ·have ez : isS qq L = zF:=by rw [es,ha,Bool.and_false]
   rw [ez]
   rw [← rows_af] at ha
   have l1 : Tr tbl J c39_l1 (fun s h => h = H ∧ s.get [zF] = .slice b 0 L.length v ∧ s.get [zT] = .ptr H0.size 0 3 ∧ s.get [zF,zT] = G ((0 : Nat) : Int)) .ret (fun s h => s.get [zT,zF] = .bool zF) :=
    Tr.allF (P:=fun i => (fun s h => h = H ∧ s.get [zF] = .slice b 0 L.length v ∧ s.get [zT] = .ptr H0.size 0 3 ∧ s.get [zF,zT] = G (i : Nat))) (p:=fun i => rowOkS qq L (L.getD i [])) L.length (fun i hi hp => (b1 hi).1 hp) (fun i hi hp => (b1 hi).2 hp) (by simp) _ 0 (by omega) ha
   clear hxF hx kH gS hs es ez b1 ha g ls
   generalize L.length = n at *
   refine Tr.w fun s1 H1 hp _ kR => ?_
   obtain ⟨rfl,rfl⟩:=hp
   have q : True:=trivial
   refine zCh ?_
   simp (disch:=omega) [c39_o0,zG,q,hH]
   refine W.assoc ?_
   refine zCh ?_
   simp (disch:=omega) [c39_o1,zG,q]
   refine W.seq (W.block ?_)
   refine W.use (l1) (by simp (disch:=omega) [zG,q]) fun s1 H1 hp => ?_
   try simp only [zW,if_true]
   exact kR _ _ hp
  ·rw [ha,Bool.and_true] at es
   rw [es]
   rw [← rows_af] at ha
   have l1 : Tr tbl J c39_l1 (fun s h => h = H ∧ s.get [zF] = .slice b 0 L.length v ∧ s.get [zT] = .ptr H0.size 0 3 ∧ s.get [zF,zT] = G ((0 : Nat) : Int)) (.exit 0) (fun s h => h = H ∧ s.get [zF] = .slice b 0 L.length v):=by
    refine Tr.allT (P:=fun i => (fun s h => h = H ∧ s.get [zF] = .slice b 0 L.length v ∧ s.get [zT] = .ptr H0.size 0 3 ∧ s.get [zF,zT] = G (i : Nat))) (p:=fun i => rowOkS qq L (L.getD i [])) L.length (fun i hi hp => (b1 hi).1 hp) ?_ (by simp) _ 0 (by omega) ha
    clear hxF hx kH gS hs es b1 ha g ls
    generalize L.length = n at *
    refine Tr.w fun s1 H1 hp _ kR => W.trim ?_
    obtain ⟨rfl,q⟩:=hp
    refine W.assoc ?_
    refine zCh ?_
    simp (disch:=omega) [c39_o2,zG,q]
    refine zCh ?_
    simp (disch:=omega) [zG,q]
    exact kR _ _ (by simp [T.get,q])
   clear b1 ha
   by_cases c1 : 1 ≤ L.length
   ·by_cases c2 : L.length ≤ 40
    ·rw [decide_eq_true ⟨c1,c2⟩,Bool.true_and]
     have w0:=ss_at (L:=L) (i:=0) (by omega)
     have w0':=getI w0
     have l0s : (L.getD 0 []).length ≤ 1000000:=hs _ (by
      rw [zd,zq (by omega)]; exact List.getElem_mem _)
     clear hxF hx kH gS hs es
     generalize L.getD 0 [] = u at *
     generalize ss L = ws at *
     generalize L.length = n at *
     by_cases c3 : 1 ≤ u.length
     ·by_cases c4 : u.length ≤ 5
      ·rw [decide_eq_true ⟨c3,c4⟩]
       refine Tr.w fun s1 H1 hp _ kR => ?_
       obtain ⟨rfl,rfl⟩:=hp
       have q : True:=trivial
       refine zCh ?_
       simp (disch:=omega) [c39_o0,zG,q,hH]
       refine W.assoc ?_
       refine zCh ?_
       simp (disch:=omega) [c39_o1,zG,q]
       refine W.seq (W.block ?_)
       refine W.use (l1) (by simp (disch:=omega) [zG,q]) fun s1 H1 hp => ?_
       obtain ⟨rfl,q⟩:=hp
       try simp only [zW,if_true]
       refine zCh ?_
       simp (disch:=omega) [c39_o11,zG,q,g,w0,w0',ls,c1,c2,c3,c4]
       refine W.ret ?_
       try simp only [zW,if_true]
       exact kR _ _ (by simp [T.get])
      ·rw [decide_eq_false (fun h => c4 h.2)]
       refine Tr.w fun s1 H1 hp _ kR => ?_
       obtain ⟨rfl,rfl⟩:=hp
       have q : True:=trivial
       refine zCh ?_
       simp (disch:=omega) [c39_o0,zG,q,hH]
       refine W.assoc ?_
       refine zCh ?_
       simp (disch:=omega) [c39_o1,zG,q]
       refine W.seq (W.block ?_)
       refine W.use (l1) (by simp (disch:=omega) [zG,q]) fun s1 H1 hp => ?_
       obtain ⟨rfl,q⟩:=hp
       try simp only [zW,if_true]
       refine zCh ?_
       simp (disch:=omega) [c39_o11,zG,q,g,w0,w0',ls,c1,c2,c3,c4]
       refine W.ret ?_
       try simp only [zW,if_true]
       exact kR _ _ (by simp [T.get])
     ·rw [decide_eq_false (fun h => c3 h.1)]
      have c5 : u.length = 0:=by omega
      refine Tr.w fun s1 H1 hp _ kR => ?_
      obtain ⟨rfl,rfl⟩:=hp
      have q : True:=trivial
      refine zCh ?_
      simp (disch:=omega) [c39_o0,zG,q,hH]
      refine W.assoc ?_
      refine zCh ?_
      simp (disch:=omega) [c39_o1,zG,q]
      refine W.seq (W.block ?_)
      refine W.use (l1) (by simp (disch:=omega) [zG,q]) fun s1 H1 hp => ?_
      obtain ⟨rfl,q⟩:=hp
      try simp only [zW,if_true]
      refine zCh ?_
      simp (disch:=omega) [c39_o11,zG,q,g,w0,w0',ls,c1,c2,c5]
      refine W.ret ?_
      try simp only [zW,if_true]
      exact kR _ _ (by simp [T.get])
    ·rw [decide_eq_false (fun h => c2 h.2),Bool.false_and]
     clear hxF hx kH gS hs es g ls
     generalize L.length = n at *
     refine Tr.w fun s1 H1 hp _ kR => ?_
     obtain ⟨rfl,rfl⟩:=hp
     have q : True:=trivial
     refine zCh ?_
     simp (disch:=omega) [c39_o0,zG,q,hH]
     refine W.assoc ?_
     refine zCh ?_
     simp (disch:=omega) [c39_o1,zG,q]
     refine W.seq (W.block ?_)
     refine W.use (l1) (by simp (disch:=omega) [zG,q]) fun s1 H1 hp => ?_
     obtain ⟨rfl,q⟩:=hp
     try simp only [zW,if_true]
     refine zCh ?_
     simp (disch:=omega) [c39_o11,zG,q,c1,c2]
     refine W.ret ?_
     try simp only [zW,if_true]
     exact kR _ _ (by simp [T.get])
   ·rw [decide_eq_false (fun h => c1 h.1),Bool.false_and]
    clear hxF hx kH gS hs es g ls
    generalize L.length = n at *
    have c5 : n = 0:=by omega
    subst c5
    refine Tr.w fun s1 H1 hp _ kR => ?_
    obtain ⟨rfl,rfl⟩:=hp
    have q : True:=trivial
    refine zCh ?_
    simp (disch:=omega) [c39_o0,zG,q,hH]
    refine W.assoc ?_
    refine zCh ?_
    simp (disch:=omega) [c39_o1,zG,q]
    refine W.seq (W.block ?_)
    refine W.use (l1) (by simp (disch:=omega) [zG,q]) fun s1 H1 hp => ?_
    obtain ⟨rfl,q⟩:=hp
    try simp only [zW,if_true]
    refine zCh ?_
    simp (disch:=omega) [c39_o11,zG,q]
    refine W.ret ?_
    try simp only [zW,if_true]
    exact kR _ _ (by simp [T.get])
end
structure A39g where
 qq : Nat
 x : AV
 y : AV
 z : AV
 L : List (List UInt8)
def Pre39g (b : A39g) (args : List AV) (h : Heap) : Prop:=(b.qq ≤ 3 ∧ RV h b.z (ss b.L) ∧ b.L.length ≤ 1000000 ∧ ∀ s ∈ b.L,s.length ≤ 1000000) ∧ args = [.agg [G b.qq,b.x,b.y],b.z]
def Post39g (b : A39g) (h : Heap) (v : AV) (own : List AObj) : Prop:=v = .bool (isS b.qq b.L) ∧ own = []
noncomputable def U39 : CallF:=addK tbl noIntr 39 Pre39g Post39g
theorem u39 : Sound zp U39:=Sound.addK follows ok Sound.empty (by decide) _ _
abbrev K39g (J : CallF) : Prop:=∀ (h : Heap) (qq : Nat) (x y z : AV) (L : List (List UInt8)),qq ≤ 3 → RV h z (ss L) → L.length ≤ 1000000 → (∀ s ∈ L,s.length ≤ 1000000) → J 39 [.agg [G qq,x,y],z] h = some (.bool (isS qq L),[],zF)
theorem k39u : K39g U39:=fun h qq x y z L h1 h2 h3 h4 => by
 obtain ⟨v,own,e,rfl,rfl⟩:=addK_some (Pre:=Pre39g) (Post:=Post39g) (fun b args h hp => by
  obtain ⟨⟨h1,h2,h3,h4⟩,rfl⟩:=hp
  exact ⟨_,_,c39g_ok noIntr (fun _ _ => rfl) h h1 h2 h3 h4,rfl,rfl⟩) ⟨qq,x,y,z,L⟩ _ h ⟨⟨h1,h2,h3,h4⟩,rfl⟩
 exact e
noncomputable def T79 : CallF:=addI T78 46 (U46 46)
theorem t79 : Sound zp T79:=Sound.put t78 u46 46
noncomputable def T80 : CallF:=addI T79 39 (U39 39)
theorem t80 : Sound zp T80:=Sound.put t79 u39 39
theorem k39g : K39g T80:=fun h qq x y z L h1 h2 h3 h4 => (addI_eq _ _ _ _ _).trans (k39u h qq x y z L h1 h2 h3 h4)
theorem TB.mr {H0 h : Heap} {x : AV} {M : List (List Int)} (t : TB H0 h x (M.map gs)) : MR h x M:=by
 obtain ⟨rs,lv,hl,hr⟩:=t.r
 rw [List.length_map] at hl
 rcases lv with ⟨rfl,rfl⟩ | ⟨b,rfl,g,n⟩
 ·exact .inl ⟨.inl rfl,List.length_eq_zero_iff.1 hl.symm⟩
 ·refine .inr ⟨b,rs.length,rs,by rw [hl],g,hl,fun i r e => ?_⟩
  obtain ⟨cs,b',h1,h2,h3,_⟩:=hr i r e
  rw [List.getElem?_map] at h1
  cases hN : M[i]? with
  | none => rw [hN] at h1; cases h1
  | some l =>
   rw [hN] at h1
   simp only [Option.map_some,Option.some.injEq] at h1
   subst h1
   exact ⟨l,rfl,.inl (by rw [h2]; exact listOf_cells h3 (by simp))⟩
theorem tabQ_small {n : Nat} {B : List (List Int)} (h : tabQ n B = zT) (h3 : n ≤ 3) : smallM B ∧ B.length ≤ 1000000 ∧ ∀ l ∈ B,l.length ≤ 1000000:=by
 have hr : ∀ l ∈ B,l.length = n:=fun l hl => by
  unfold tabQ at h
  rw [Bool.and_eq_true] at h
  have:=(List.all_eq_true.1 h.2) l hl
  unfold rowQ at this
  rw [Bool.and_eq_true,decide_eq_true_iff] at this
  omega
 have hl:=(tabQ_row h).1
 refine ⟨⟨by omega,fun i => ?_⟩,by omega,fun l hl => by rw [hr l hl]; omega⟩
 rw [zd]
 cases hi : B[i]? with
 | none => simp
 | some l =>
  obtain ⟨h1,h2⟩:=List.getElem?_eq_some_iff.1 hi
  have:=hr l (h2 ▸ List.getElem_mem _)
  simp only [Option.getD_some]; omega
def AR.of (n : Nat) (x y : AV) (B W : List (List Int)) : AR:=⟨n,x,y,B,W⟩
theorem ru_of {n : Nat} {x y : AV} {B W : List (List Int)} (hn : 1 ≤ n ∧ n ≤ 3) (hB : tabQ n B = zT) (hW : tabQ n W = zT) : (AR.of n x y B W).ru = zT:=by
 unfold AR.ru AR.of ruQ
 simp only [hB,hW,Bool.and_true,decide_eq_true_eq]
 omega
section
variable {nq m nn : Int} {X Y : List (List Int)}
end
section
variable {S : List (List Nat)} {u4 u6 u8 u0 : AV} {k1 k2 k3 k4 : Nat}
theorem RV.lv {h : Heap} {y : AV} {L : List Nat} (r : RV h y (gn L)) (hl : 0 < L.length) : ∃ b v,y = .slice b 0 L.length v ∧ h.get b = .cells 1 v (gn L):=by
 rcases r with ⟨_,e⟩ | ⟨b,v,e,g⟩
 ·have : (gn L).length = 0:=by rw [e]; rfl
  rw [gn_len] at this; omega
 ·rw [gn_len] at e; exact ⟨b,v,e,g⟩
end
theorem vc_rg {W : List (List Int)} {rows : List (List Nat)} : ∀ {P : List Nat} {now : Int},VC (stL W rows) now P → ∀ i,i + 1 < P.length → blw W (rows.getD (P.getD i 0) []) (rows.getD (P.getD (i + 1) 0) []) = zT
 | [],_,_,i,hi => absurd hi (by simp)
 | [c],_,_,i,hi => absurd hi (by simp)
 | c :: d :: P,now,⟨h1,h2,h3⟩,i,hi => by
  have sl : (stL W rows).length = rows.length:=by simp [stL]
  cases i with
  | zero =>
   obtain ⟨g1,g2,_⟩:=h3
   unfold pN at g2
   rw [decide_eq_false (by omega),Bool.false_or,Int.toNat_natCast,stL_mem (by omega) (by omega)] at g2
   exact g2
  | succ i => exact vc_rg h3 i (by simpa using hi)
theorem vc_ok {a : AR} {m : Int} (g : a.rm m = zT) {P : List Nat} {now : Int} (vc : VC (a.steps m) now P) : kpS a.g (rT2 (a.rows m) P) = zT ∧ ∀ w ∈ rT2 (a.rows m) P,w.length = m.toNat ∧ ∀ c ∈ w,c < a.q.toNat:=by
 obtain ⟨os,s243,sr⟩:=AR.steps_ok g
 have lt : ∀ c ∈ P,c < (a.rows m).length:=fun c hc => by rw [← sr]; exact vc.lt c hc
 have mem : ∀ c ∈ P,(a.rows m).getD c [] ∈ a.rows m:=fun c hc => by
  rw [zd,zq (lt c hc)]
  exact List.getElem_mem _
 have l2 : (rT2 (a.rows m) P).length = P.length:=by unfold rT2; rw [List.length_map]
 constructor
 ·rw [kpS_iff]
  intro i hi
  rw [l2] at hi
  rw [rT2_at hi]
  refine ⟨(rwL_mem (mem _ (gD_mem hi))).2.2,?_⟩
  cases i with
  | zero => exact .inl rfl
  | succ i =>
   right
   rw [Nat.add_sub_cancel,rT2_at (by omega)]
   exact vc_rg vc i hi
 ·intro w hw
  obtain ⟨c,hc,rfl⟩:=gw_mem hw
  have:=rwL_mem (mem c hc)
  exact ⟨this.1,this.2.1⟩
theorem isS_rows {a : AR} {m : Int} (g : a.rm m = zT) {P : List Nat} (vc : VC (a.steps m) (-1) P) (n1 : 1 ≤ P.length) (n40 : P.length ≤ 40) : (a.ru && isS a.q.toNat ((rT2 (a.rows m) P).map stW)) = zT ∧ (((rT2 (a.rows m) P).map stW).getD 0 []).length = m.toNat ∧ ((rT2 (a.rows m) P).map stW).length = P.length:=by
 obtain ⟨r1,r2⟩:=a.rm_iff g
 obtain ⟨h1,h2⟩:=vc_ok g vc
 have q3:=a.q3 r1
 have l2 : (rT2 (a.rows m) P).length = P.length:=by unfold rT2; rw [List.length_map]
 refine ⟨?_,?_,by rw [List.length_map,l2]⟩
 ·rw [r1,isS_of (m:=m.toNat) (by omega) h2 (by omega) (by omega) (by omega) (by omega)]; rfl
 ·rw [zd,List.getElem?_map,zq (by omega)]
  show (stW _).length = _
  rw [stW_len]
  exact (h2 _ (List.getElem_mem _)).1
section
variable {nq m0 n0 k0 : Int} {X Y : List (List Int)}
end
theorem bl_asym : ∀ {s t : List UInt8},Op.bytesLess s t = zT → Op.bytesLess t s = zF
 | [],[],h => by cases h
 | [],_ :: _,_ => rfl
 | _ :: _,[],h => by cases h
 | a :: s,b :: t,h => by
  have h' : (decide (a < b) || (a == b && Op.bytesLess s t)) = zT:=h
  show (decide (b < a) || (b == a && Op.bytesLess t s)) = zF
  rw [Bool.or_eq_true,decide_eq_true_eq,Bool.and_eq_true,beq_iff_eq] at h'
  rw [Bool.or_eq_false_iff,decide_eq_false_iff_not]
  rcases h' with h' | ⟨rfl,h'⟩
  ·refine ⟨fun h2 => ?_,?_⟩
   ·rw [UInt8.lt_iff_toNat_lt] at h' h2; omega
   ·rw [Bool.and_eq_false_iff]
    left
    rw [beq_eq_false_iff_ne]
    intro e; subst e
    rw [UInt8.lt_iff_toNat_lt] at h'; omega
  ·refine ⟨fun h2 => ?_,?_⟩
   ·rw [UInt8.lt_iff_toNat_lt] at h2; omega
   ·rw [bl_asym h',Bool.and_false]
theorem rT2_len (R : List (List Nat)) (P : List Nat) : (rT2 R P).length = P.length:=by unfold rT2; rw [List.length_map]
theorem rT2_app (R : List (List Nat)) (P Q : List Nat) : rT2 R (P ++ Q) = rT2 R P ++ rT2 R Q:=by unfold rT2; rw [List.map_append]
theorem keeps_call {J : CallF} (K : K45 J) {a : AR} {m : Int} {H : Heap} {x : AV} {P : List Nat} (g : a.rm m = zT) (o : OkR a H) (vc : VC (a.steps m) (-1) P) (n1 : 1 ≤ P.length) (n40 : P.length ≤ 40) (rx : RV H x (wsL (rT2 (a.rows m) P))) : J 45 [a.v,x] H = some (.tup [.bool zT,G 0],[],zF):=by
 obtain ⟨r1,r2⟩:=a.rm_iff g
 obtain ⟨s1,s2,s3⟩:=isS_rows g vc n1 n40
 obtain ⟨kp,wd⟩:=vc_ok g vc
 obtain ⟨v,own,e,p1,_,p3⟩:=K H ⟨a,x,(rT2 (a.rows m) P).map stW⟩ ⟨o,by
  rcases rx with ⟨e1,e2⟩ | h
  ·have:=congrArg List.length e2
   rw [wsL_len,rT2_len,List.length_nil] at this
   omega
  ·rw [← ws_ss]; exact .inr h,by show ((rT2 (a.rows m) P).map stW).length ≤ _; rw [s3]; omega,fun s hs => by
  obtain ⟨w,hw,rfl⟩:=List.mem_map.1 hs
  rw [stW_len,(wd w hw).1]
  omega⟩
 simp only at e p1 p3
 subst p1
 rw [e,p3 s1 _ rfl (fun w hw => (wd w hw).2),kp]
theorem RV.pre {H : Heap} {b v n : Nat} {cs : List AV} (r : RV H (.slice b 0 n v) cs) {k : Nat} (hk : k ≤ cs.length) : PL H (.slice b 0 k v) (cs.take k):=by
 rcases r with ⟨e,_⟩ | ⟨b',v',e,g⟩
 ·cases e
 ·rw [AV.slice.injEq] at e
  obtain ⟨rfl,_,_,rfl⟩:=e
  exact .inr ⟨b,v,cs.drop k,by rw [List.length_take,Nat.min_eq_left hk],by rw [List.take_append_drop]; exact g⟩
section
variable {S R : List (List Nat)} {p N : Nat}
end
section
variable {a : AR} {m bs vs : Nat} {P : List Nat}
end
structure A47x where
 a : AR
 m : Nat
 P : List Nat
 b : Nat
 v : Nat
def Ok47x (b : A47x) (h : Heap) : Prop:=OkR b.a h ∧ b.a.rm (b.m : Nat) = zT ∧ okC (b.a.steps (b.m : Nat)) b.P.length = zT ∧ VC (b.a.steps (b.m : Nat)) (-1) b.P ∧ 1 ≤ b.P.length ∧ b.P.length ≤ 40 ∧ h.get b.b = .cells 1 b.v (wsL (rT2 (b.a.rows (b.m : Nat)) b.P))
def Pre47x (b : A47x) (args : List AV) (h : Heap) : Prop:=Ok47x b h ∧ args = [b.a.v,.slice b.b 0 b.P.length b.v]
def Post47x (b : A47x) (h : Heap) (v : AV) (own : List AObj) : Prop:=v = G (ix (b.a.steps (b.m : Nat)) (-1) b.P) ∧ own = []
noncomputable def U47 : CallF:=addK tbl T50 47 Pre47x Post47x
theorem u47 : Sound zp U47:=Sound.addK follows ok t50 (by decide) _ _
noncomputable def T81 : CallF:=addI T80 47 (U47 47)
theorem t81 : Sound zp T81:=Sound.put t80 u47 47
def rep : Nat → List Nat → List Nat
 | 0,_ => []
 | k + 1,L => L ++ rep k L
section
variable {S : List (List Nat)}
end
section
variable {R : List (List Nat)} {L : List Nat} {T0 : Int} {TT K LL bl vl Sx : Nat}
end
section
variable {nq m T0 : Int} {X Y : List (List Int)}
end
section
variable {S : List (List Nat)}
structure CT (n : Nat) (p : Nat → Bool) (h : Heap) (z : AV) (N j : Nat) : Prop where
 r : ∃ bo ros br,z = .slice bo 0 N N ∧ h.get bo = .cells 1 N ros ∧ ros.length = N ∧ ros[j]? = some (.slice br 0 n n) ∧ h.get br = .cells 1 n (bb p n)
theorem CT.kp {n : Nat} {p : Nat → Bool} {h h' : Heap} {z : AV} {N j : Nat} (c : CT n p h z N j) (k : Kp (fun _ => False) h h') : CT n p h' z N j:=by
 obtain ⟨bo,ros,br,e1,e2,e3,e4,e5⟩:=c.r
 exact ⟨bo,ros,br,e1,k.at e2 (by simp) id,e3,e4,k.at e5 (by simp) id⟩
theorem TB.ct {Z h : Heap} {z : AV} {k j : Nat} (t : TB Z h z (rowsA S k)) (hj : j < k) : CT S.length (al S j) h z k j:=by
 obtain ⟨bo,ros,e1,e2,e3,e4⟩:=t.sl (i:=0) (by rw [rowsA_len]; omega)
 rw [rowsA_len] at e1 e2 e3
 obtain ⟨b,h1,h2⟩:=e4 j _ (rowsA_at S hj)
 rw [lB_len] at h1 h2
 exact ⟨bo,ros,b,e1,e2,e3,h1,h2⟩
def bel (i u : Nat) : Bool:=decide (u < i)
end
def Post49 (a : AR) (m : Nat) (R : List (List Nat)) (N : Nat) (h : Heap) (v : AV) (own : List AObj) : Prop :=
 (kpS a.g R = zF → v = .tup [.nils,.bool zF] ∧ own = []) ∧
 ∀ P : List Nat,kpS a.g R = zT → R = rT2 (a.rows (m : Nat)) P → VC (a.steps (m : Nat)) (-1) P →
   (al (a.steps (m : Nat)) (N - R.length) (P.getD (R.length - 1) 0) = zF → v = .tup [.nils,.bool zF] ∧ own = []) ∧
   (al (a.steps (m : Nat)) (N - R.length) (P.getD (R.length - 1) 0) = zT → ∃ x,v = .tup [x,.bool zT] ∧ RV (h.plus own) x (wsL (R ++ extR a m (N - R.length) (P.getD (R.length - 1) 0))))
section
variable {a : AR} {m b v N : Nat} {R : List (List Nat)}
end
structure A49 where
 a : AR
 m : Nat
 R : List (List Nat)
 b : Nat
 v : Nat
 N : Nat
def Ok49 (b : A49) (h : Heap) : Prop:=OkR b.a h ∧ b.a.rm (b.m : Nat) = zT ∧ WS b.a.g b.m b.R ∧ 1 ≤ b.R.length ∧ b.R.length ≤ b.N ∧ b.N ≤ 40 ∧ h.get b.b = .cells 1 b.v (wsL b.R)
def Pre49 (b : A49) (args : List AV) (h : Heap) : Prop:=Ok49 b h ∧ args = [b.a.v,.slice b.b 0 b.R.length b.v,G b.N]
noncomputable def T82 : CallF:=addK tbl T81 49 Pre49 (fun b h v own => Post49 b.a b.m b.R b.N h v own)
theorem t82 : Sound zp T82:=Sound.addK follows ok t81 (by decide) _ _
theorem RV.el {h : Heap} {x : AV} {cs : List AV} (r : RV h x cs) : EL h x cs:=by
 rcases r with ⟨rfl,e⟩ | h
 ·exact .inl ⟨.inl rfl,e⟩
 ·exact .inr h
section
variable {nq : Int} {X Y : List (List Int)} {L : List (List UInt8)}
end
section
variable {nq n : Int} {X Y : List (List Int)} {L : List (List UInt8)}
end
noncomputable def T83 : CallF:=addI T82 29 (T27 29)
theorem t83 : Sound zp T83:=Sound.put t82 t27 29
noncomputable def T84 : CallF:=addI T83 48 (T75 48)
theorem t84 : Sound zp T84:=Sound.put t83 t75 48
def NS (B : Nat) (h : Heap) (nb : Nat) (S : List (List Nat)) : Prop:=∃ rs,h.get nb = .cells 1 S.length rs ∧ rs.length = S.length ∧ B ≤ nb ∧ ∀ k,k < S.length → ∃ y,rs[k]? = some y ∧ RV h y (gn (S.getD k [])) ∧ ∀ b,blk y = some b → B ≤ b
section
variable {a : AR} {m : Int}
end
structure SQ (lo S : Nat) (A h : Heap) (ZZ : List AV) : Prop where
 k : Kp (fun b => lo ≤ b ∧ b < S) A h
 r : ∀ r ∈ ZZ,r = .nils ∨ ∃ b v cs,r = .slice b 0 cs.length v ∧ h.get b = .cells 1 v cs ∧ (lo ≤ b ∧ b < S) ∧ cs.length ≤ 1000
theorem SQ.put {lo S : Nat} {A h : Heap} {ZZ : List AV} (t : SQ lo S A h ZZ) {b v : Nat} {cs cs' : List AV} (hA : A.N ≤ lo) (g : h.get b = .cells 1 v cs) (h1 : lo ≤ b ∧ b < S) (hl' : cs'.length = cs.length) : SQ lo S A (h.upd b (.cells 1 v cs')) ZZ:=by
 have hN : h.N ≤ b:=by rw [t.k.N]; omega
 refine ⟨t.k.trans (Kp.upd h b _ hN h1),fun r hr => ?_⟩
 rcases t.r r hr with e1 | ⟨b2,v2,c2,e1,e2,e3,e4⟩
 ·exact .inl e1
 ·right
  by_cases e : b2 = b
  ·subst e
   rw [g] at e2
   simp only [AObj.cells.injEq,true_and] at e2
   obtain ⟨rfl,rfl⟩:=e2
   exact ⟨b2,v,cs',by rw [e1,hl'],upd_same _ _ _ hN (get_lt g (by simp)),e3,by omega⟩
  ·exact ⟨b2,v2,c2,e1,by rw [upd_ne _ _ _ _ hN (fun q => e q.symm)]; exact e2,e3,e4⟩
section
variable {A : Heap} {lo S n m : Nat} {ZZ : List AV} {x1 x5 x6 x8 x10 x11 x12 : AV}
end
section
variable {nq m0 : Int} {X Y : List (List Int)}
end
structure ARn where
 a : AR
 m : Int
def Pre26n (b : ARn) (args : List AV) (h : Heap) : Prop:=(OkR b.a h ∧ b.a.rm b.m = zT) ∧ args = [b.a.v,G b.m]
def Post26n (b : ARn) (h : Heap) (v : AV) (own : List AObj) : Prop:=∃ nb,v = .tup [.slice nb 0 (b.a.steps b.m).length (b.a.steps b.m).length,G 0] ∧ NS h.size (h.plus own) nb (b.a.steps b.m)
noncomputable def U26 : CallF:=addK tbl T19 26 Pre26n Post26n
theorem u26 : Sound zp U26:=Sound.addK follows ok t19 (by decide) _ _
noncomputable def T85 : CallF:=addI T84 26 (U26 26)
theorem t85 : Sound zp T85:=Sound.put t84 u26 26
def smB (x : Int) : Bool:=decide (-1000 ≤ x ∧ x ≤ 1000)
def cellB (q : Nat) (l : List Int) : Bool:=decide (l.length = q) && l.all smB
def gridB (q m : Nat) (M : List (List Int)) : Bool:=decide (M.length = m) && M.all (cellB q)
def wtB (q : Nat) (Wt : List (List (List Int))) : Bool:=decide (1 ≤ Wt.length ∧ Wt.length ≤ 40) && decide (1 ≤ (Wt.getD 0 []).length ∧ (Wt.getD 0 []).length ≤ 5) && Wt.all (gridB q (Wt.getD 0 []).length)
def WT (h : Heap) (x : AV) (Wt : List (List (List Int))) : Prop:=((x = .nils ∨ x = .slice0) ∧ Wt = []) ∨ ∃ b v cs,x = .slice b 0 Wt.length v ∧ h.get b = .cells 1 v cs ∧ cs.length = Wt.length ∧ ∀ (i : Nat) r,cs[i]? = some r → ∃ M,Wt[i]? = some M ∧ MR h r M
theorem WT.kp {h h' : Heap} {x : AV} {Wt : List (List (List Int))} (t : WT h x Wt) (k : Kp (fun _ => False) h h') : WT h' x Wt:=by
 rcases t with t | ⟨b,v,cs,e,g,l,r⟩
 ·exact .inl t
 ·exact .inr ⟨b,v,cs,e,k.at g (by simp) id,l,fun i r' hr => by obtain ⟨M,e1,e2⟩:=r i r' hr; exact ⟨M,e1,e2.kp k⟩⟩
theorem WT.fr {h : Heap} {x : AV} {Wt : List (List (List Int))} (t : WT h x Wt) : WT (frameOf h) x Wt:=by
 rcases t with t | ⟨b,v,cs,e,g,l,r⟩
 ·exact .inl t
 ·exact .inr ⟨b,v,cs,e,by unfold frameOf; rw [get_mk_lt _ _ _ _ (get_lt g (by simp))]; exact g,l,fun i r' hr => by obtain ⟨M,e1,e2⟩:=r i r' hr; exact ⟨M,e1,e2.lo []⟩⟩
theorem MR.sl3 {h : Heap} {x : AV} {M : List (List Int)} (t : MR h x M) : (x = .nils ∧ M.length = 0) ∨ (x = .slice0 ∧ M.length = 0) ∨ ∃ b v,x = .slice b 0 M.length v:=by
 rcases t with ⟨rfl | rfl,rfl⟩ | ⟨b,v,cs,rfl,_⟩
 ·exact .inl ⟨rfl,rfl⟩
 ·exact .inr (.inl ⟨rfl,rfl⟩)
 ·exact .inr (.inr ⟨b,v,rfl⟩)
theorem MR.row3 {h : Heap} {b v n : Nat} {M : List (List Int)} (t : MR h (.slice b 0 n v) M) {k : Nat} (hk : k < M.length) : ∃ cs r,h.get b = .cells 1 v cs ∧ cs.length = n ∧ M.length = n ∧ cs[k]? = some r ∧ LR h r (M.getD k []):=by
 rcases t with ⟨e | e,_⟩ | ⟨b',v',cs,e,g,l,r⟩
 ·cases e
 ·cases e
 ·simp only [AV.slice.injEq,true_and] at e
  obtain ⟨rfl,rfl,rfl⟩:=e
  obtain ⟨l',e1,e2⟩:=r k cs[k] (zq (by omega))
  exact ⟨cs,cs[k],g,l,rfl,zq (by omega),by rw [zd,e1]; exact e2⟩
theorem WT.at {h : Heap} {b v n : Nat} {Wt : List (List (List Int))} (t : WT h (.slice b 0 n v) Wt) {i : Nat} (hi : i < Wt.length) : ∃ cs y,h.get b = .cells 1 v cs ∧ cs.length = n ∧ Wt.length = n ∧ cs[i]? = some y ∧ MR h y (Wt.getD i []):=by
 rcases t with ⟨e | e,_⟩ | ⟨b',v',cs,e,g,l,r⟩
 ·cases e
 ·cases e
 ·simp only [AV.slice.injEq,true_and] at e
  obtain ⟨rfl,rfl,rfl⟩:=e
  obtain ⟨M,e1,e2⟩:=r i cs[i] (zq (by omega))
  exact ⟨cs,cs[i],g,l,rfl,zq (by omega),by rw [zd,e1]; exact e2⟩
theorem any_sm (l : List Int) : ((List.range l.length).any fun i => !smB (l.getD i 0)) = !l.all smB:=by
 rw [Bool.eq_iff_iff]
 simp only [List.any_eq_true,Bool.not_eq_true',List.all_eq_false,List.mem_range]
 constructor
 ·rintro ⟨i,hi,c⟩
  refine ⟨l[i],List.getElem_mem _,?_⟩
  rw [zd,zq hi] at c
  rw [show smB l[i] = zF from c]; simp
 ·rintro ⟨x,hx,c⟩
  obtain ⟨i,hi,rfl⟩:=List.mem_iff_getElem.1 hx
  refine ⟨i,hi,?_⟩
  rw [zd,zq hi]
  simpa using c
def spec101 : SpecF:=fun args h => match args with
 | [.int .i64 a] => some (.bool (!smB a),h.own,zT)
 | _ => none
theorem c101_ok (J : CallF) (k60 : K60 J) (hJ : ∀ a h,J 101 a h = none) (h : Heap) (a : Int) : CallsTo tbl J 101 [G a] h (.bool (!smB a),h.own,zT):=by
 refine Tr.sh (cf:=c101) (e:=.ret) (s:=T.set .leaf [] (G a)) (by decide) rfl (hJ _ _) rfl rfl (by simp) ?_
 have k:=k60 a (-1000) 1000 h
 have e : smB a = decide (-1000 ≤ a ∧ a ≤ 1000):=rfl
 rw [e]
 generalize decide (-1000 ≤ a ∧ a ≤ 1000) = b at *
 have t : Tr tbl J ((.seq c101_o0 (.seq c101_o1 .ret))) (fun s h' => s = T.set .leaf [] (G a) ∧ h' = h) .ret (fun s h' => s.get [zT] = .bool (!b) ∧ h' = h):=Tr.region fun s h hp => by
  obtain ⟨rfl,rfl⟩:=hp
  simp (disch:=omega) [c101_o0,c101_o1,zG,k]
 exact Tr.post (fun s h' q => ⟨by simp [c101,q.1],q.2⟩) t
def V1 : CallF:=addI T3 101 spec101
theorem v1 : Sound zp V1:=Sound.add follows ok t3 (by decide) (fun args h x e => by
 unfold spec101 at e
 split at e
 ·simp only [Option.some.injEq] at e; subst e
  exact c101_ok T3 (fun n lo hi h => by
   rw [show T3 60 [G n,G lo,G hi] h = T1 60 [G n,G lo,G hi] h from by simp (disch:=decide) only [T2,T3,addI_ne,addX_ne,addV_ne,addK_ne]]; exact k60 n lo hi h) (fun _ _ => by simp (disch:=decide) only [T1,T2,T3,addI_ne,addX_ne,addV_ne,addK_ne]; rfl) h _
 ·cases e)
theorem k101 (a : Int) (h : Heap) : V1 101 [G a] h = some (.bool (!smB a),h.own,zT):=by simp [V1,addI,spec101]
def Pre100v (a : A100) (args : List AV) (h : Heap) : Prop:=Ok100 V1 a h ∧ args = [a.x,.func a.f a.cap]
noncomputable def V2 : CallF:=addK tbl V1 100 Pre100v Post100
theorem v2 : Sound zp V2:=Sound.addK follows ok v1 (by decide) _ _
theorem k100v : K100 V1 V2:=fun h a ha => by
 obtain ⟨v,own,e,rfl,rfl⟩:=addK_some (Pre:=Pre100v) (Post:=Post100) (fun a args h hp => by
  obtain ⟨⟨h1,h2,h3,h4⟩,rfl⟩:=hp
  exact ⟨_,_,c100_ok V1 (fun _ _ => by simp (disch:=decide) only [V1,T1,T2,T3,addI_ne,addX_ne,addV_ne,addK_ne]; rfl) h1 h h2 h3 h4,rfl,rfl⟩) a _ h ⟨ha,rfl⟩
 exact e
noncomputable def V3 : CallF:=addK tbl V2 80 Pre100v Post80
theorem v3 : Sound zp V3:=Sound.addK follows ok v2 (by decide) _ _
theorem k80v : K80 V1 V3:=fun h a ha => by
 obtain ⟨v,own,e,rfl,rfl⟩:=addK_some (Pre:=Pre100v) (Post:=Post80) (fun a args h hp => by
  obtain ⟨h1,rfl⟩:=hp
  exact ⟨_,_,c80_ok V2 V1 (fun _ _ => by simp (disch:=decide) only [V2,V1,T1,T2,T3,addI_ne,addX_ne,addV_ne,addK_ne]; rfl) k100v h a h1,rfl,rfl⟩) a _ h ⟨ha,rfl⟩
 exact e
theorem k60v : K60 V3:=fun n lo hi h => by
 rw [show V3 60 [G n,G lo,G hi] h = T1 60 [G n,G lo,G hi] h from by simp (disch:=decide) only [V3,V2,V1,T2,T3,addI_ne,addX_ne,addV_ne,addK_ne]]; exact k60 n lo hi h
section
variable {qq m : Nat} {Wt : List (List (List Int))} {x1 x2 : AV}
theorem c83_b0_ok (J : CallF) (k80 : K80 V1 J) {H : Heap} {x y z : AV} {p n i bm bv : Nat} {M : List (List Int)} (gS : H.get p = .cells 0 3 [G qq,x1,x2]) (t : MR H (.slice bm 0 m bv) M) (hm : M.length = m) (n1 : m ≤ 1000000) (big : ∀ l ∈ M,l.length ≤ 1000000) {k : Nat} (hk : k < m) :
  (cellB qq (M.getD k []) = zT → Tr tbl J (.trim [[zF],[zT],[zF,zT,zT,zF],[zT,zT,zT,zF],[zF,zF,zF,zT],[zT,zT,zF,zF,zF],[zF,zF,zT,zF,zF],[zT,zF,zT,zF,zF]] c83_b0) (fun s h => h = H ∧ s.get [zF] = x ∧ s.get [zT] = .ptr p 0 3 ∧ s.get [zF,zT,zT,zF] = x ∧ s.get [zT,zT,zT,zF] = G n ∧ s.get [zF,zF,zF,zT] = G i ∧ s.get [zT,zT,zF,zF,zF] = .slice bm 0 m bv ∧ s.get [zF,zF,zT,zF,zF] = G m ∧ s.get [zT,zF,zT,zF,zF] = G (k : Nat)) .normal (fun s h => h = H ∧ s.get [zF] = x ∧ s.get [zT] = .ptr p 0 3 ∧ s.get [zF,zT,zT,zF] = x ∧ s.get [zT,zT,zT,zF] = G n ∧ s.get [zF,zF,zF,zT] = G i ∧ s.get [zT,zT,zF,zF,zF] = .slice bm 0 m bv ∧ s.get [zF,zF,zT,zF,zF] = G m ∧ s.get [zT,zF,zT,zF,zF] = G ((k + 1 : Nat) : Int))) ∧
  (cellB qq (M.getD k []) = zF → Tr tbl J (.trim [[zF],[zT],[zF,zT,zT,zF],[zT,zT,zT,zF],[zF,zF,zF,zT],[zT,zT,zF,zF,zF],[zF,zF,zT,zF,zF],[zT,zF,zT,zF,zF]] c83_b0) (fun s h => h = H ∧ s.get [zF] = x ∧ s.get [zT] = .ptr p 0 3 ∧ s.get [zF,zT,zT,zF] = x ∧ s.get [zT,zT,zT,zF] = G n ∧ s.get [zF,zF,zF,zT] = G i ∧ s.get [zT,zT,zF,zF,zF] = .slice bm 0 m bv ∧ s.get [zF,zF,zT,zF,zF] = G m ∧ s.get [zT,zF,zT,zF,zF] = G (k : Nat)) .ret (fun s h => s.get [zT,zF] = .bool zF)):=by
 obtain ⟨cs,r,g,lc,_,e,lr⟩:=t.row3 (k:=k) (by omega)
 have e':=getI e
 have hl:=big _ (show M.getD k [] ∈ M by
  rw [zd,zq (by omega)]; exact List.getElem_mem _)
 have kk:=k80 H ⟨r,101,[],gs (M.getD k []),fun t => !smB ((M.getD k []).getD t 0)⟩ ⟨show (101 : Nat) ≠ 0 by decide,LR.el lr,by show (gs (M.getD k [])).length < _; rw [List.length_map]; omega,fun t c e => by
  rw [List.getElem?_map,Option.map_eq_some_iff] at e
  obtain ⟨a,e,rfl⟩:=e
  rw [k101]
  show _ = some (AV.bool !smB ((M.getD k []).getD t 0),[],zT)
  rw [zd,e]; rfl⟩
 simp only [List.length_map,any_sm] at kk
 have cb : cellB qq (M.getD k []) = (decide ((M.getD k []).length = qq) && (M.getD k []).all smB):=rfl
 rw [cb]
 have hs:=lr.cases
 have k1 : ((k + 1 : Nat) : Int) = (k : Int) + 1:=by omega
 rw [k1]
 clear lr t cb k80 big
 generalize (M.getD k []).all smB = z at *
 have sl : (r = .nils ∧ (M.getD k []).length = 0) ∨ (r = .slice0 ∧ (M.getD k []).length = 0) ∨ ∃ b v,r = .slice b 0 (M.getD k []).length v:=by
  rcases hs with ⟨h1,h2⟩ | ⟨h1,h2⟩ | ⟨b,v,h1,_⟩
  ·exact .inl ⟨h1,by rw [h2]; rfl⟩
  ·exact .inr (.inl ⟨h1,by rw [h2]; rfl⟩)
  ·exact .inr (.inr ⟨b,v,h1⟩)
 clear hs
 generalize (M.getD k []).length = l at *
 by_cases c : l = qq
 ·rw [decide_eq_true c,Bool.true_and]
  subst c
  cases z
  ·refine ⟨fun h => (by cases h),fun _ => ?_⟩
   rcases sl with ⟨rfl,rfl⟩ | ⟨rfl,rfl⟩ | ⟨b,v,rfl⟩
   all_goals
    refine Tr.w fun s1 H1 hp _ kR => W.trim ?_
    obtain ⟨rfl,q⟩:=hp
    refine zCh ?_
    simp (disch:=omega) [c83_o9,zG,q]
    refine zCh ?_
    simp (disch:=omega) [zG,q]
    refine W.seq (W.block ?_)
    refine zCh ?_
    simp (disch:=omega) [c83_o10,zG,q,g,e,e',lc]
    refine zCh ?_
    simp (disch:=omega) [c83_o11,zG,q,gS,kk]
    refine W.chunk ?_
    simp (disch:=omega) [c83_o12,zG,q]
    exact kR _ _ (by simp [T.get])
  ·refine ⟨fun _ => ?_,fun h => (by cases h)⟩
   rcases sl with ⟨rfl,rfl⟩ | ⟨rfl,rfl⟩ | ⟨b,v,rfl⟩
   all_goals
    refine Tr.w fun s1 H1 hp _ kR => W.trim ?_
    obtain ⟨rfl,q⟩:=hp
    refine zCh ?_
    simp (disch:=omega) [c83_o9,zG,q]
    refine zCh ?_
    simp (disch:=omega) [zG,q]
    refine W.seq (W.block ?_)
    refine zCh ?_
    simp (disch:=omega) [c83_o10,zG,q,g,e,e',lc]
    refine zCh ?_
    simp (disch:=omega) [c83_o11,zG,q,gS,kk]
    refine W.chunk ?_
    simp (disch:=omega) [c83_o12,zG,q]
    refine W.chunk ?_
    simp (disch:=omega) [c83_o13,zG,q]
    exact kR _ _ (by simp [T.get,q])
 ·rw [decide_eq_false c,Bool.false_and]
  refine ⟨fun h => (by cases h),fun _ => ?_⟩
  have c' : ¬ (l : Int) = (qq : Int):=by omega
  rcases sl with ⟨rfl,rfl⟩ | ⟨rfl,rfl⟩ | ⟨b,v,rfl⟩
  ·have c2 : ¬ (0 : Int) = (qq : Int):=by omega
   have c3 : ¬ qq = 0:=by omega
   refine Tr.w fun s1 H1 hp _ kR => W.trim ?_
   obtain ⟨rfl,q⟩:=hp
   refine zCh ?_
   simp (disch:=omega) [c83_o9,zG,q]
   refine zCh ?_
   simp (disch:=omega) [zG,q]
   refine W.seq (W.block ?_)
   refine zCh ?_
   simp (disch:=omega) [c83_o10,zG,q,g,e,e',lc]
   refine zCh ?_
   simp (disch:=omega) [c83_o11,zG,q,gS,c2,c3]
   refine W.chunk ?_
   simp (disch:=omega) [c83_o12,zG,q]
   exact kR _ _ (by simp [T.get])
  ·have c2 : ¬ (0 : Int) = (qq : Int):=by omega
   have c3 : ¬ qq = 0:=by omega
   refine Tr.w fun s1 H1 hp _ kR => W.trim ?_
   obtain ⟨rfl,q⟩:=hp
   refine zCh ?_
   simp (disch:=omega) [c83_o9,zG,q]
   refine zCh ?_
   simp (disch:=omega) [zG,q]
   refine W.seq (W.block ?_)
   refine zCh ?_
   simp (disch:=omega) [c83_o10,zG,q,g,e,e',lc]
   refine zCh ?_
   simp (disch:=omega) [c83_o11,zG,q,gS,c2,c3]
   refine W.chunk ?_
   simp (disch:=omega) [c83_o12,zG,q]
   exact kR _ _ (by simp [T.get])
  ·refine Tr.w fun s1 H1 hp _ kR => W.trim ?_
   obtain ⟨rfl,q⟩:=hp
   refine zCh ?_
   simp (disch:=omega) [c83_o9,zG,q]
   refine zCh ?_
   simp (disch:=omega) [zG,q]
   refine W.seq (W.block ?_)
   refine zCh ?_
   simp (disch:=omega) [c83_o10,zG,q,g,e,e',lc]
   refine zCh ?_
   simp (disch:=omega) [c83_o11,zG,q,gS,c,c']
   refine W.chunk ?_
   simp (disch:=omega) [c83_o12,zG,q]
   exact kR _ _ (by simp [T.get])
theorem all_af (M : List (List Int)) (p : List Int → Bool) : af (fun k => p (M.getD k [])) 0 M.length = M.all p:=by
 rw [af_range,all_range M [] p]
theorem all_afW (Wt : List (List (List Int))) (p : List (List Int) → Bool) : af (fun k => p (Wt.getD k [])) 0 Wt.length = Wt.all p:=by
 rw [af_range,all_range Wt [] p]
set_option maxHeartbeats 1000000 in
theorem c83_b1_ok (J : CallF) (k80 : K80 V1 J) {H : Heap} {p n b v : Nat} (gS : H.get p = .cells 0 3 [G qq,x1,x2]) (t : WT H (.slice b 0 n v) Wt) (hn : Wt.length = n) (m1 : 1 ≤ m) (hm : (Wt.getD 0 []).length = m) (n1 : n ≤ 1000000) (big : ∀ M ∈ Wt,M.length ≤ 1000000 ∧ ∀ l ∈ M,l.length ≤ 1000000) {i : Nat} (hi : i < n) :
  (gridB qq m (Wt.getD i []) = zT → Tr tbl J (.trim [[zF],[zT],[zF,zT,zT,zF],[zT,zT,zT,zF],[zF,zF,zF,zT]] c83_b1) (fun s h => h = H ∧ s.get [zF] = .slice b 0 n v ∧ s.get [zT] = .ptr p 0 3 ∧ s.get [zF,zT,zT,zF] = .slice b 0 n v ∧ s.get [zT,zT,zT,zF] = G n ∧ s.get [zF,zF,zF,zT] = G (i : Nat)) .normal (fun s h => h = H ∧ s.get [zF] = .slice b 0 n v ∧ s.get [zT] = .ptr p 0 3 ∧ s.get [zF,zT,zT,zF] = .slice b 0 n v ∧ s.get [zT,zT,zT,zF] = G n ∧ s.get [zF,zF,zF,zT] = G ((i + 1 : Nat) : Int))) ∧
  (gridB qq m (Wt.getD i []) = zF → Tr tbl J (.trim [[zF],[zT],[zF,zT,zT,zF],[zT,zT,zT,zF],[zF,zF,zF,zT]] c83_b1) (fun s h => h = H ∧ s.get [zF] = .slice b 0 n v ∧ s.get [zT] = .ptr p 0 3 ∧ s.get [zF,zT,zT,zF] = .slice b 0 n v ∧ s.get [zT,zT,zT,zF] = G n ∧ s.get [zF,zF,zF,zT] = G (i : Nat)) .ret (fun s h => s.get [zT,zF] = .bool zF)):=by
 obtain ⟨cs,y,g,lc,_,e,my⟩:=t.at (i:=i) (by omega)
 obtain ⟨cs',y0,g',_,_,e0,my0⟩:=t.at (i:=0) (by omega)
 rw [g] at g'
 simp only [AObj.cells.injEq,true_and] at g'
 subst g'
 have e':=getI e
 have e0':=getI e0
 obtain ⟨b0,v0,rfl⟩ : ∃ b v,y0 = .slice b 0 m v:=by
  rcases my0.sl3 with ⟨_,h⟩ | ⟨_,h⟩ | ⟨b,v,h⟩
  ·omega
  ·omega
  ·rw [hm] at h; exact ⟨b,v,h⟩
 have mem : Wt.getD i [] ∈ Wt:=by
  rw [zd,zq (by omega)]; exact List.getElem_mem _
 obtain ⟨bg1,bg2⟩:=big _ mem
 have mbig : m ≤ 1000000:=by
  rw [← hm]
  exact (big _ (by rw [zd,zq (by omega)]; exact List.getElem_mem _)).1
 have gb : gridB qq m (Wt.getD i []) = (decide ((Wt.getD i []).length = m) && (Wt.getD i []).all (cellB qq)):=rfl
 rw [gb]
 have k1 : ((i + 1 : Nat) : Int) = (i : Int) + 1:=by omega
 rw [k1]
 generalize Wt.getD i [] = M at *
 by_cases c : M.length = m
 ·rw [decide_eq_true c,Bool.true_and,← all_af,c]
  obtain ⟨bm,bv,rfl⟩ : ∃ b v,y = .slice b 0 m v:=by
   rcases my.sl3 with ⟨_,h⟩ | ⟨_,h⟩ | ⟨b,v,h⟩
   ·omega
   ·omega
   ·rw [c] at h; exact ⟨b,v,h⟩
  have b0':=fun {k} hk => c83_b0_ok (x:=.slice b 0 n v) (y:=.nils) (z:=.nils) (n:=n) (i:=i) J k80 gS my c mbig bg2 (k:=k) hk
  constructor
  ·intro ha
   have l0 : Tr tbl J c83_l0 (fun s h => h = H ∧ s.get [zF] = .slice b 0 n v ∧ s.get [zT] = .ptr p 0 3 ∧ s.get [zF,zT,zT,zF] = .slice b 0 n v ∧ s.get [zT,zT,zT,zF] = G n ∧ s.get [zF,zF,zF,zT] = G i ∧ s.get [zT,zT,zF,zF,zF] = .slice bm 0 m bv ∧ s.get [zF,zF,zT,zF,zF] = G m ∧ s.get [zT,zF,zT,zF,zF] = G ((0 : Nat) : Int)) (.exit 2) (fun s h => h = H ∧ s.get [zF] = .slice b 0 n v ∧ s.get [zT] = .ptr p 0 3 ∧ s.get [zF,zT,zT,zF] = .slice b 0 n v ∧ s.get [zT,zT,zT,zF] = G n ∧ s.get [zF,zF,zF,zT] = G i):=by
    refine Tr.allT (P:=fun k => (fun s h => h = H ∧ s.get [zF] = .slice b 0 n v ∧ s.get [zT] = .ptr p 0 3 ∧ s.get [zF,zT,zT,zF] = .slice b 0 n v ∧ s.get [zT,zT,zT,zF] = G n ∧ s.get [zF,zF,zF,zT] = G i ∧ s.get [zT,zT,zF,zF,zF] = .slice bm 0 m bv ∧ s.get [zF,zF,zT,zF,zF] = G m ∧ s.get [zT,zF,zT,zF,zF] = G (k : Nat))) (p:=fun k => cellB qq (M.getD k [])) m (fun k hk hp => (b0' hk).1 hp) ?_ (by simp) _ 0 (by omega) ha
    clear b0' ha my my0 t big bg2 mem
    refine Tr.w fun s1 H1 hp _ kR => W.trim ?_
    obtain ⟨rfl,q⟩:=hp
    refine zCh ?_
    simp (disch:=omega) [c83_o9,zG,q]
    refine zCh ?_
    simp (disch:=omega) [zG,q]
    exact kR _ _ (by simp [T.get,q])
   clear b0' ha my my0 t big bg2 mem gb hm c k80
   refine Tr.w fun s1 H1 hp _ kR => W.trim ?_
   obtain ⟨rfl,q⟩:=hp
   refine zCh ?_
   simp (disch:=omega) [c83_o4,zG,q]
   refine zCh ?_
   simp (disch:=omega) [zG,q]
   refine W.seq (W.block ?_)
   refine zCh ?_
   simp (disch:=omega) [c83_o5,zG,q,g,e,e',lc]
   refine W.assoc ?_
   refine zCh ?_
   simp (disch:=omega) [c83_o6,zG,q,g,e0,e0',lc]
   refine zCh ?_
   simp (disch:=omega) [c83_o7,zG,q]
   refine zCh ?_
   simp (disch:=omega) [c83_o8,zG,q]
   refine W.block ?_
   refine W.use (l0) (by simp (disch:=omega) [zG,q]) fun s1 H1 hp => ?_
   obtain ⟨rfl,q⟩:=hp
   try simp only [zW,if_true]
   refine W.chunk ?_
   simp (disch:=omega) [c83_o14,zG,q]
   exact kR _ _ (by simp [T.get,q])
  ·intro ha
   have l0 : Tr tbl J c83_l0 (fun s h => h = H ∧ s.get [zF] = .slice b 0 n v ∧ s.get [zT] = .ptr p 0 3 ∧ s.get [zF,zT,zT,zF] = .slice b 0 n v ∧ s.get [zT,zT,zT,zF] = G n ∧ s.get [zF,zF,zF,zT] = G i ∧ s.get [zT,zT,zF,zF,zF] = .slice bm 0 m bv ∧ s.get [zF,zF,zT,zF,zF] = G m ∧ s.get [zT,zF,zT,zF,zF] = G ((0 : Nat) : Int)) .ret (fun s h => s.get [zT,zF] = .bool zF) :=
    Tr.allF (P:=fun k => (fun s h => h = H ∧ s.get [zF] = .slice b 0 n v ∧ s.get [zT] = .ptr p 0 3 ∧ s.get [zF,zT,zT,zF] = .slice b 0 n v ∧ s.get [zT,zT,zT,zF] = G n ∧ s.get [zF,zF,zF,zT] = G i ∧ s.get [zT,zT,zF,zF,zF] = .slice bm 0 m bv ∧ s.get [zF,zF,zT,zF,zF] = G m ∧ s.get [zT,zF,zT,zF,zF] = G (k : Nat))) (p:=fun k => cellB qq (M.getD k [])) m (fun k hk hp => (b0' hk).1 hp) (fun k hk hp => (b0' hk).2 hp) (by simp) _ 0 (by omega) ha
   clear b0' ha my my0 t big bg2 mem gb hm c k80
   refine Tr.w fun s1 H1 hp _ kR => W.trim ?_
   obtain ⟨rfl,q⟩:=hp
   refine zCh ?_
   simp (disch:=omega) [c83_o4,zG,q]
   refine zCh ?_
   simp (disch:=omega) [zG,q]
   refine W.seq (W.block ?_)
   refine zCh ?_
   simp (disch:=omega) [c83_o5,zG,q,g,e,e',lc]
   refine W.assoc ?_
   refine zCh ?_
   simp (disch:=omega) [c83_o6,zG,q,g,e0,e0',lc]
   refine zCh ?_
   simp (disch:=omega) [c83_o7,zG,q]
   refine zCh ?_
   simp (disch:=omega) [c83_o8,zG,q]
   refine W.block ?_
   refine W.use (l0) (by simp (disch:=omega) [zG,q]) fun s1 H1 hp => ?_
   try simp only [zW,if_true]
   exact kR _ _ hp
 ·rw [decide_eq_false c,Bool.false_and]
  refine ⟨fun h => (by cases h),fun _ => ?_⟩
  have sl:=my.sl3
  clear my my0 t big bg2 mem gb hm k80
  generalize M.length = l at *
  have c' : ¬ (l : Int) = (m : Int):=by omega
  rcases sl with ⟨rfl,rfl⟩ | ⟨rfl,rfl⟩ | ⟨bm,bv,rfl⟩
  ·have c2 : ¬ (0 : Int) = (m : Int):=by omega
   have c3 : ¬ m = 0:=by omega
   refine Tr.w fun s1 H1 hp _ kR => W.trim ?_
   obtain ⟨rfl,q⟩:=hp
   refine zCh ?_
   simp (disch:=omega) [c83_o4,zG,q]
   refine zCh ?_
   simp (disch:=omega) [zG,q]
   refine W.seq (W.block ?_)
   refine zCh ?_
   simp (disch:=omega) [c83_o5,zG,q,g,e,e',lc]
   refine W.assoc ?_
   refine zCh ?_
   simp (disch:=omega) [c83_o6,zG,q,g,e0,e0',lc,c2,c3]
   refine zCh ?_
   simp (disch:=omega) [c83_o7,zG,q]
   exact kR _ _ (by simp [T.get])
  ·have c2 : ¬ (0 : Int) = (m : Int):=by omega
   have c3 : ¬ m = 0:=by omega
   refine Tr.w fun s1 H1 hp _ kR => W.trim ?_
   obtain ⟨rfl,q⟩:=hp
   refine zCh ?_
   simp (disch:=omega) [c83_o4,zG,q]
   refine zCh ?_
   simp (disch:=omega) [zG,q]
   refine W.seq (W.block ?_)
   refine zCh ?_
   simp (disch:=omega) [c83_o5,zG,q,g,e,e',lc]
   refine W.assoc ?_
   refine zCh ?_
   simp (disch:=omega) [c83_o6,zG,q,g,e0,e0',lc,c2,c3]
   refine zCh ?_
   simp (disch:=omega) [c83_o7,zG,q]
   exact kR _ _ (by simp [T.get])
  ·refine Tr.w fun s1 H1 hp _ kR => W.trim ?_
   obtain ⟨rfl,q⟩:=hp
   refine zCh ?_
   simp (disch:=omega) [c83_o4,zG,q]
   refine zCh ?_
   simp (disch:=omega) [zG,q]
   refine W.seq (W.block ?_)
   refine zCh ?_
   simp (disch:=omega) [c83_o5,zG,q,g,e,e',lc]
   refine W.assoc ?_
   refine zCh ?_
   simp (disch:=omega) [c83_o6,zG,q,g,e0,e0',lc,c,c']
   refine zCh ?_
   simp (disch:=omega) [c83_o7,zG,q]
   exact kR _ _ (by simp [T.get])
set_option maxHeartbeats 1000000 in
theorem c83_ok (J : CallF) (k60 : K60 J) (k80 : K80 V1 J) (hJ : ∀ a h,J 83 a h = none) (h : Heap) {x : AV} (t : WT h x Wt) (n1 : Wt.length ≤ 1000000) (big : ∀ M ∈ Wt,M.length ≤ 1000000 ∧ ∀ l ∈ M,l.length ≤ 1000000) : CallsTo tbl J 83 [.agg [G qq,x1,x2],x] h (.bool (wtB qq Wt),[],zF):=by
 refine Tr.fnv (cf:=c83) (e:=.ret) (s:=T.set (T.set .leaf [] (.agg [G qq,x1,x2])) [zF] x) (by decide) rfl (hJ _ _) rfl rfl rfl (by simp) ?_
 refine Tr.post (Q:=(fun s h => s.get [zT,zF] = .bool (wtB qq Wt))) (fun s h q => by simp [c83,q]) ?_
 have tF:=t.fr
 generalize frameOf h = H0 at *
 obtain ⟨H,hH⟩ : ∃ H,H0.plus [.cells 0 3 [G qq,x1,x2]] = H:=⟨_,rfl⟩
 have kH : Kp (fun _ => False) H0 H:=by rw [← hH]; exact Kp.plus _ _
 have gS : H.get H0.size = .cells 0 3 [G qq,x1,x2]:=by rw [← hH]; exact plus_at0 _ _ _ _ rfl
 have tH:=tF.kp kH
 have wb : wtB qq Wt = (decide (1 ≤ Wt.length ∧ Wt.length ≤ 40) && decide (1 ≤ (Wt.getD 0 []).length ∧ (Wt.getD 0 []).length ≤ 5) && Wt.all (gridB qq (Wt.getD 0 []).length)):=rfl
 have e60:=k60 (Wt.length : Int) 1 40 H
 have z0 : decide ((1 : Int) ≤ (Wt.length : Int) ∧ (Wt.length : Int) ≤ 40) = decide (1 ≤ Wt.length ∧ Wt.length ≤ 40):=by
  apply decide_eq_decide.2; omega
 rw [z0] at e60
 have tH0:=tH
 obtain ⟨e | e,rfl⟩ | ⟨b,v,cs,rfl,g,lc,hr⟩:=tH0
 ·subst e
  have wz : wtB qq [] = zF:=rfl
  rw [wz]
  simp only [List.length_nil] at e60
  have e60 : J 60 [G 0,G 1,G 40] H = some (.bool zF,[],zF):=e60
  clear wb t tF tH kH
  refine Tr.w fun s1 H1 hp _ kR => ?_
  obtain ⟨rfl,rfl⟩:=hp
  have q : True:=trivial
  refine zCh ?_
  simp (disch:=omega) [c83_o0,zG,q,hH]
  refine W.assoc ?_
  refine zCh ?_
  simp (disch:=omega) [c83_o1,zG,q,e60]
  refine zCh ?_
  simp (disch:=omega) [c83_o2,zG,q]
  exact kR _ _ (by simp [T.get])
 ·subst e
  have wz : wtB qq [] = zF:=rfl
  rw [wz]
  simp only [List.length_nil] at e60
  have e60 : J 60 [G 0,G 1,G 40] H = some (.bool zF,[],zF):=e60
  clear wb t tF tH kH
  refine Tr.w fun s1 H1 hp _ kR => ?_
  obtain ⟨rfl,rfl⟩:=hp
  have q : True:=trivial
  refine zCh ?_
  simp (disch:=omega) [c83_o0,zG,q,hH]
  refine W.assoc ?_
  refine zCh ?_
  simp (disch:=omega) [c83_o1,zG,q,e60]
  refine zCh ?_
  simp (disch:=omega) [c83_o2,zG,q]
  exact kR _ _ (by simp [T.get])
 ·rw [wb]
  cases c1 : decide (1 ≤ Wt.length ∧ Wt.length ≤ 40)
  ·rw [c1] at e60
   rw [Bool.false_and,Bool.false_and]
   clear wb t tF tH kH hr g big
   generalize Wt.length = n at *
   refine Tr.w fun s1 H1 hp _ kR => ?_
   obtain ⟨rfl,rfl⟩:=hp
   have q : True:=trivial
   refine zCh ?_
   simp (disch:=omega) [c83_o0,zG,q,hH]
   refine W.assoc ?_
   refine zCh ?_
   simp (disch:=omega) [c83_o1,zG,q,e60]
   refine zCh ?_
   simp (disch:=omega) [c83_o2,zG,q]
   exact kR _ _ (by simp [T.get])
  ·rw [c1] at e60
   rw [Bool.true_and]
   obtain ⟨n1',n40⟩:=of_decide_eq_true c1
   obtain ⟨M0,e0,my0⟩:=hr 0 cs[0] (zq (by omega))
   have eM : Wt.getD 0 [] = M0:=by rw [zd,e0]; rfl
   have c0 : cs[0]? = some cs[0]:=zq (by omega)
   have c0':=getI c0
   have sl0:=my0.sl3
   rw [eM]
   have e60':=k60 (M0.length : Int) 1 5 H
   have z1 : decide ((1 : Int) ≤ (M0.length : Int) ∧ (M0.length : Int) ≤ 5) = decide (1 ≤ M0.length ∧ M0.length ≤ 5):=by
    apply decide_eq_decide.2; omega
   rw [z1] at e60'
   generalize cs[0]'(by omega) = y0 at *
   cases c2 : decide (1 ≤ M0.length ∧ M0.length ≤ 5)
   ·rw [c2] at e60'
    rw [Bool.false_and]
    clear wb t tF tH kH hr big my0 eM e0
    generalize Wt.length = n at *
    generalize M0.length = m0 at *
    rcases sl0 with ⟨rfl,rfl⟩ | ⟨rfl,rfl⟩ | ⟨b0,v0,rfl⟩
    ·have e60' : J 60 [G 0,G 1,G 5] H = some (.bool zF,[],zF):=e60'
     refine Tr.w fun s1 H1 hp _ kR => ?_
     obtain ⟨rfl,rfl⟩:=hp
     have q : True:=trivial
     refine zCh ?_
     simp (disch:=omega) [c83_o0,zG,q,hH]
     refine W.assoc ?_
     refine zCh ?_
     simp (disch:=omega) [c83_o1,zG,q,e60,g,c0,c0',lc,e60']
     refine zCh ?_
     simp (disch:=omega) [c83_o2,zG,q]
     exact kR _ _ (by simp [T.get])
    ·have e60' : J 60 [G 0,G 1,G 5] H = some (.bool zF,[],zF):=e60'
     refine Tr.w fun s1 H1 hp _ kR => ?_
     obtain ⟨rfl,rfl⟩:=hp
     have q : True:=trivial
     refine zCh ?_
     simp (disch:=omega) [c83_o0,zG,q,hH]
     refine W.assoc ?_
     refine zCh ?_
     simp (disch:=omega) [c83_o1,zG,q,e60,g,c0,c0',lc,e60']
     refine zCh ?_
     simp (disch:=omega) [c83_o2,zG,q]
     exact kR _ _ (by simp [T.get])
    ·refine Tr.w fun s1 H1 hp _ kR => ?_
     obtain ⟨rfl,rfl⟩:=hp
     have q : True:=trivial
     refine zCh ?_
     simp (disch:=omega) [c83_o0,zG,q,hH]
     refine W.assoc ?_
     refine zCh ?_
     simp (disch:=omega) [c83_o1,zG,q,e60,g,c0,c0',lc,e60']
     refine zCh ?_
     simp (disch:=omega) [c83_o2,zG,q]
     exact kR _ _ (by simp [T.get])
   ·rw [c2] at e60'
    rw [Bool.true_and]
    obtain ⟨m1,m5⟩:=of_decide_eq_true c2
    obtain ⟨b0,v0,rfl⟩:=(sl0.resolve_left (fun e => by omega)).resolve_left (fun e => by omega)
    have b1:=fun {i} hi => c83_b1_ok (m:=M0.length) J k80 gS tH rfl m1 (by rw [eM]) n1 big (i:=i) hi
    cases ha : Wt.all (gridB qq M0.length)
    ·rw [← all_afW] at ha
     have l1 : Tr tbl J c83_l1 (fun s h => h = H ∧ s.get [zF] = .slice b 0 Wt.length v ∧ s.get [zT] = .ptr H0.size 0 3 ∧ s.get [zF,zT,zT,zF] = .slice b 0 Wt.length v ∧ s.get [zT,zT,zT,zF] = G Wt.length ∧ s.get [zF,zF,zF,zT] = G ((0 : Nat) : Int)) .ret (fun s h => s.get [zT,zF] = .bool zF) :=
      Tr.allF (P:=fun i => (fun s h => h = H ∧ s.get [zF] = .slice b 0 Wt.length v ∧ s.get [zT] = .ptr H0.size 0 3 ∧ s.get [zF,zT,zT,zF] = .slice b 0 Wt.length v ∧ s.get [zT,zT,zT,zF] = G Wt.length ∧ s.get [zF,zF,zF,zT] = G (i : Nat))) (p:=fun i => gridB qq M0.length (Wt.getD i [])) Wt.length (fun i hi hp => (b1 hi).1 hp) (fun i hi hp => (b1 hi).2 hp) (by simp) _ 0 (by omega) ha
     clear wb t tF tH kH hr big my0 eM e0 b1 ha
     generalize Wt.length = n at *
     generalize M0.length = m0 at *
     refine Tr.w fun s1 H1 hp _ kR => ?_
     obtain ⟨rfl,rfl⟩:=hp
     have q : True:=trivial
     refine zCh ?_
     simp (disch:=omega) [c83_o0,zG,q,hH]
     refine W.assoc ?_
     refine zCh ?_
     simp (disch:=omega) [c83_o1,zG,q,e60,g,c0,c0',lc,e60']
     refine zCh ?_
     simp (disch:=omega) [c83_o2,zG,q]
     refine W.assoc ?_
     refine zCh ?_
     simp (disch:=omega) [c83_o3,zG,q]
     refine W.seq (W.block ?_)
     refine W.use (l1) (by simp (disch:=omega) [zG,q]) fun s1 H1 hp => ?_
     try simp only [zW,if_true]
     exact kR _ _ hp
    ·rw [← all_afW] at ha
     have l1 : Tr tbl J c83_l1 (fun s h => h = H ∧ s.get [zF] = .slice b 0 Wt.length v ∧ s.get [zT] = .ptr H0.size 0 3 ∧ s.get [zF,zT,zT,zF] = .slice b 0 Wt.length v ∧ s.get [zT,zT,zT,zF] = G Wt.length ∧ s.get [zF,zF,zF,zT] = G ((0 : Nat) : Int)) (.exit 0) (fun s h => h = H):=by
      refine Tr.allT (P:=fun i => (fun s h => h = H ∧ s.get [zF] = .slice b 0 Wt.length v ∧ s.get [zT] = .ptr H0.size 0 3 ∧ s.get [zF,zT,zT,zF] = .slice b 0 Wt.length v ∧ s.get [zT,zT,zT,zF] = G Wt.length ∧ s.get [zF,zF,zF,zT] = G (i : Nat))) (p:=fun i => gridB qq M0.length (Wt.getD i [])) Wt.length (fun i hi hp => (b1 hi).1 hp) ?_ (by simp) _ 0 (by omega) ha
      clear wb t tF tH kH hr big my0 eM e0 b1 ha
      generalize Wt.length = n at *
      refine Tr.w fun s1 H1 hp _ kR => W.trim ?_
      obtain ⟨rfl,q⟩:=hp
      refine zCh ?_
      simp (disch:=omega) [c83_o4,zG,q]
      refine zCh ?_
      simp (disch:=omega) [zG,q]
      exact kR _ _ rfl
     clear wb t tF tH kH hr big my0 eM e0 b1 ha
     generalize Wt.length = n at *
     generalize M0.length = m0 at *
     refine Tr.w fun s1 H1 hp _ kR => ?_
     obtain ⟨rfl,rfl⟩:=hp
     have q : True:=trivial
     refine zCh ?_
     simp (disch:=omega) [c83_o0,zG,q,hH]
     refine W.assoc ?_
     refine zCh ?_
     simp (disch:=omega) [c83_o1,zG,q,e60,g,c0,c0',lc,e60']
     refine zCh ?_
     simp (disch:=omega) [c83_o2,zG,q]
     refine W.assoc ?_
     refine zCh ?_
     simp (disch:=omega) [c83_o3,zG,q]
     refine W.seq (W.block ?_)
     refine W.use (l1) (by simp (disch:=omega) [zG,q]) fun s1 H1 hp => ?_
     obtain rfl:=hp
     try simp only [zW,if_true]
     refine zCh ?_
     simp (disch:=omega) [c83_o15,zG,q]
     refine W.ret ?_
     try simp only [zW,if_true]
     exact kR _ _ (by simp [T.get])
end
structure A83 where
 qq : Nat
 x1 : AV
 x2 : AV
 x : AV
 Wt : List (List (List Int))
def Ok83 (b : A83) (h : Heap) : Prop:=WT h b.x b.Wt ∧ b.Wt.length ≤ 1000000 ∧ ∀ M ∈ b.Wt,M.length ≤ 1000000 ∧ ∀ l ∈ M,l.length ≤ 1000000
def Pre83 (b : A83) (args : List AV) (h : Heap) : Prop:=Ok83 b h ∧ args = [.agg [G b.qq,b.x1,b.x2],b.x]
def Post83 (b : A83) (h : Heap) (v : AV) (own : List AObj) : Prop:=v = .bool (wtB b.qq b.Wt) ∧ own = []
abbrev K83 (f : Nat) (J : CallF) : Prop:=∀ (h : Heap) (b : A83),Ok83 b h → J f [.agg [G b.qq,b.x1,b.x2],b.x] h = some (.bool (wtB b.qq b.Wt),[],zF)
noncomputable def V4 : CallF:=addK tbl V3 83 Pre83 Post83
theorem v4 : Sound zp V4:=Sound.addK follows ok v3 (by decide) _ _
theorem k83v : K83 83 V4:=fun h b o => by
 obtain ⟨v,own,e,rfl,rfl⟩:=addK_some (Pre:=Pre83) (Post:=Post83) (fun b args h hp => by
  obtain ⟨⟨h1,h2,h3⟩,rfl⟩:=hp
  exact ⟨_,_,c83_ok V3 k60v k80v (fun _ _ => by simp (disch:=decide) only [V3,V2,V1,T1,T2,T3,addI_ne,addX_ne,addV_ne,addK_ne]; rfl) h h1 h2 h3,rfl,rfl⟩) b _ h ⟨o,rfl⟩
 exact e
def kk2 : List LK:=[.i .i64,.i .i64]
def enc (M : List (Nat × Nat × Int)) : List (AV × AV):=M.map fun e => (.agg [G (e.1 : Nat),G (e.2.1 : Nat)],G e.2.2)
def mF : List (Nat × Nat × Int) → Nat → Nat → Option Int
 | [],_,_ => none
 | (a,b,n) :: M,j,l => if j = a ∧ l = b then some n else mF M j l
def mP (j l : Nat) (n : Int) : List (Nat × Nat × Int) → List (Nat × Nat × Int)
 | [] => [(j,l,n)]
 | (a,b,m) :: M => if j = a ∧ l = b then (j,l,n) :: M else (a,b,m) :: mP j l n M
theorem mF_mP (j l : Nat) (n : Int) (j' l' : Nat) : ∀ M,mF (mP j l n M) j' l' = if j' = j ∧ l' = l then some n else mF M j' l'
 | [] => rfl
 | (a,b,m) :: M => by
  unfold mP
  by_cases e : j = a ∧ l = b
  ·rw [if_pos e]
   obtain ⟨rfl,rfl⟩:=e
   show (if j' = j ∧ l' = l then some n else mF M j' l') = if j' = j ∧ l' = l then some n else (if j' = j ∧ l' = l then some m else mF M j' l')
   by_cases c : j' = j ∧ l' = l
   ·rw [if_pos c,if_pos c]
   ·rw [if_neg c,if_neg c,if_neg c]
  ·rw [if_neg e]
   show (if j' = a ∧ l' = b then some m else mF (mP j l n M) j' l') = if j' = j ∧ l' = l then some n else (if j' = a ∧ l' = b then some m else mF M j' l')
   rw [mF_mP j l n j' l' M]
   by_cases c : j' = a ∧ l' = b
   ·rw [if_pos c,if_pos c,if_neg (fun h => e ⟨h.1.symm.trans c.1,h.2.symm.trans c.2⟩)]
   ·rw [if_neg c,if_neg c]
theorem eq2 (a b c d : Nat) : eqAgg kk2 (.agg [G (a : Nat),G (b : Nat)]) (.agg [G (c : Nat),G (d : Nat)]) = some (decide (a = c ∧ b = d)):=by
 have : (decide (a = c ∧ b = d)) = ((((a : Nat) : Int) == (c : Nat)) && (((b : Nat) : Int) == (d : Nat))):=by
  rw [Bool.eq_iff_iff]
  simp only [decide_eq_true_eq,Bool.and_eq_true,beq_iff_eq]
  omega
 rw [this]
 simp [eqAgg,kk2,fits,LK.fits,allEq,aveq]
theorem find_enc (j l : Nat) : ∀ M,findG kk2 (.agg [G (j : Nat),G (l : Nat)]) (enc M) = some ((mF M j l).map fun n => G n)
 | [] => rfl
 | (a,b,n) :: M => by
  show (match eqAgg kk2 (.agg [G (j : Nat),G (l : Nat)]) (.agg [G (a : Nat),G (b : Nat)]) with
   | some zT => some (some (G n))
   | some zF => findG kk2 (.agg [G (j : Nat),G (l : Nat)]) (enc M)
   | none => none) = _
  rw [eq2]
  by_cases e : j = a ∧ l = b
  ·rw [decide_eq_true e]
   show _ = some (Option.map _ (if j = a ∧ l = b then some n else mF M j l))
   rw [if_pos e]; rfl
  ·rw [decide_eq_false e]
   show findG kk2 _ (enc M) = some (Option.map _ (if j = a ∧ l = b then some n else mF M j l))
   rw [if_neg e,find_enc j l M]
theorem put_enc (j l : Nat) (n : Int) : ∀ M,putG kk2 (.agg [G (j : Nat),G (l : Nat)]) (G n) (enc M) = some (enc (mP j l n M))
 | [] => rfl
 | (a,b,m) :: M => by
  show (match eqAgg kk2 (.agg [G (j : Nat),G (l : Nat)]) (.agg [G (a : Nat),G (b : Nat)]) with
   | some zT => some ((AV.agg [G (j : Nat),G (l : Nat)],G n) :: enc M)
   | some zF => (putG kk2 (.agg [G (j : Nat),G (l : Nat)]) (G n) (enc M)).map ((AV.agg [G (a : Nat),G (b : Nat)],G m) :: ·)
   | none => none) = _
  rw [eq2]
  by_cases e : j = a ∧ l = b
  ·rw [decide_eq_true e]
   show _ = some (enc (if j = a ∧ l = b then (j,l,n) :: M else (a,b,m) :: mP j l n M))
   rw [if_pos e]; rfl
  ·rw [decide_eq_false e]
   show Option.map _ (putG kk2 _ _ (enc M)) = some (enc (if j = a ∧ l = b then (j,l,n) :: M else (a,b,m) :: mP j l n M))
   rw [if_neg e,put_enc j l n M]; rfl
theorem fits2 (a b : Int) : fitsK kk2 (.agg [G a,G b]) = zT:=by simp [fitsK,kk2,fits,LK.fits]
def lkA (h : Heap) (z : AV) (ok : Bool) (m k : AV) : Option (AV × FP):=match if fitsK kk2 k then mapA h m else none with
  | some es =>
   let rd:=match m with | .map b => [(b,0,1)] | _ => []
   match findG kk2 k es with
   | some (some v) => some (if ok then .tup [v,.bool zT] else v,{ reads:=rd })
   | some none => some (if ok then .tup [z,.bool zF] else z,{ reads:=rd })
   | none => none
  | none => none
theorem act_lkA (call : CallF) (h0 : Heap) (s : T) (h : Heap) (z : AV) (ok : Bool) (m k : AOpd) : act call h0 s h (.lookupA [.i .i64,.i .i64] z ok m k) = lkA h z ok (m.ev s) (k.ev s):=rfl
theorem lkA_some {h : Heap} {b j l : Nat} {M : List (Nat × Nat × Int)} {n : Int} (g : h.get b = .map (enc M)) (e : mF M j l = some n) (z : AV) (ok : Bool) : lkA h z ok (.map b) (.agg [G (j : Nat),G (l : Nat)]) = some (if ok then .tup [G n,.bool zT] else G n,{ reads:=[(b,0,1)] }):=by
 unfold lkA
 rw [if_pos (fits2 _ _),mapA_at g]
 simp only [find_enc,e,Option.map_some]
theorem lkA_none {h : Heap} {b j l : Nat} {M : List (Nat × Nat × Int)} (g : h.get b = .map (enc M)) (e : mF M j l = none) (z : AV) (ok : Bool) : lkA h z ok (.map b) (.agg [G (j : Nat),G (l : Nat)]) = some (if ok then .tup [z,.bool zF] else z,{ reads:=[(b,0,1)] }):=by
 unfold lkA
 rw [if_pos (fits2 _ _),mapA_at g]
 simp only [find_enc,e,Option.map_none]
theorem act_build (call : CallF) (h0 : Heap) (s : T) (h : Heap) (z : List AV) (ps : List (Nat × Nat × AOpd)) : act call h0 s h (.build z ps) = pure1 ((fillA s ps z).map .agg):=rfl
theorem act_ext (call : CallF) (h0 : Heap) (s : T) (h : Heap) (i : Nat) (x : AOpd) : act call h0 s h (.extract i x) = pure1 (match x.ev s with | .tup c => c[i]? | _ => none):=rfl
theorem fits2l (a b : Int) : fitsK [.i .i64,.i .i64] (.agg [G a,G b]) = zT:=fits2 a b
theorem put_encl (j l : Nat) (n : Int) (M : List (Nat × Nat × Int)) : putG [.i .i64,.i .i64] (.agg [G (j : Nat),G (l : Nat)]) (G n) (enc M) = some (enc (mP j l n M)):=put_enc j l n M
theorem find_encl (j l : Nat) (M : List (Nat × Nat × Int)) : findG [.i .i64,.i .i64] (.agg [G (j : Nat),G (l : Nat)]) (enc M) = some ((mF M j l).map fun n => G n):=find_enc j l M
def acB : Option (Nat × Int) → Int
 | none => 0
 | some p => p.2
section
variable {S : List (List Nat)} {p mb l j : Nat} {M : List (Nat × Nat × Int)} {g : Nat → Option Int}
theorem c84_l0_ok (J : CallF) {H : Heap} {y : AV} {L : List Nat} (gM : H.get mb = .map (enc M)) (hg : ∀ k ∈ L,mF M k l = g k) (ry : RV H y (gn L)) (lL : L.length ≤ 1000) (l40 : l ≤ 40) :
  Tr tbl J c84_l0 (fun s h => h = H ∧ s.get [zF] = .map mb ∧ s.get [zF,zF] = G ((l : Int) + 1) ∧ s.get [zT,zT,zF] = G 0 ∧ s.get [zF,zF,zT] = .bool zF ∧ s.get [zT,zF,zF,zT] = y ∧ s.get [zF,zT,zF,zT] = G L.length ∧ s.get [zT,zT,zF,zT] = G ((0 : Nat) : Int)) (.exit 0) (fun s h => h = H ∧ s.get [zT,zT,zF] = G (acB (bO g none L)) ∧ s.get [zF,zF,zT] = .bool (bO g none L).isSome):=by
 have lg:=gn_len L
 have sy:=ry.sl
 rw [lg] at sy
 have gy : ∀ b v,y = .slice b 0 L.length v → H.get b = .cells 1 v (gn L):=fun b v e => by
  rcases ry with ⟨e2,_⟩ | ⟨b',v',e2,g'⟩
  ·rw [e] at e2; cases e2
  ·rw [e,AV.slice.injEq] at e2
   obtain ⟨rfl,_,_,rfl⟩:=e2
   exact g'
 have tk : L.take L.length = L:=List.take_length
 refine Tr.rounds (e:=.exit 0) (P:=fun t => (fun s h => h = H ∧ s.get [zF] = .map mb ∧ s.get [zF,zF] = G ((l : Int) + 1) ∧ s.get [zT,zT,zF] = G (acB (bO g none (L.take t))) ∧ s.get [zF,zF,zT] = .bool (bO g none (L.take t)).isSome ∧ s.get [zT,zF,zF,zT] = y ∧ s.get [zF,zT,zF,zT] = G L.length ∧ s.get [zT,zT,zF,zT] = G (t : Nat))) (M:=L.length) (fun t ht => ?_) ?_ (by simp) 0 (by omega)
 ·obtain ⟨b,v,rfl⟩:=sy.resolve_left (fun e => by omega)
  have gy1:=gy b v rfl
  have e1:=gn_at ht
  have e1':=getI e1
  have hk:=hg _ (gD_mem ht)
  have st : bO g none (L.take (t + 1)) = stO g (bO g none (L.take t)) (L.getD t 0):=by
   have : L.take (t + 1) = L.take t ++ [L.getD t 0]:=by
    rw [List.take_add_one,zq ht,zd,zq ht]; rfl
   rw [this,bO_app]; rfl
  rw [st]
  have k1 : ((t + 1 : Nat) : Int) = (t : Int) + 1:=by omega
  rw [k1]
  have l1 : (l : Int) + 1 - 1 = (l : Int):=by omega
  clear hg ry sy tk st gy
  generalize bO g none (L.take t) = acc at *
  generalize L.getD t 0 = c at *
  generalize gn L = cs at *
  generalize L.length = nL at *
  cases hc : g c with
  | none =>
   rw [stO_none hc]
   rw [hc] at hk
   have lk:=lkA_none gM hk (G 0) zT
   simp only [if_true] at lk
   generalize acB acc = ab at *
   generalize acc.isSome = ai at *
   refine Tr.w fun s1 H1 hp _ kR => W.trim ?_
   obtain ⟨rfl,q⟩:=hp
   refine zCh ?_
   simp (disch:=omega) [c84_o5,zG,q]
   refine zCh ?_
   simp (disch:=omega) [zG,q]
   refine W.seq (W.block ?_)
   refine zCh ?_
   simp (disch:=omega) [c84_o6,zG,q,gy1,e1,e1',lg]
   refine zCh ?_
   simp (disch:=omega) [-act,c84_o7,zG,q,act_move,act_bin,act_build,act_ext,act_lkA,lk,l1,fillA,AV.cells]
   refine zCh ?_
   simp (disch:=omega) [c84_o8,zG,q]
   refine W.chunk ?_
   simp (disch:=omega) [c84_o9,zG,q]
   refine W.chunk ?_
   simp (disch:=omega) [c84_o10,zG,q]
   exact kR _ _ (by simp [T.get,q])
  | some n =>
   rw [hc] at hk
   have lk:=lkA_some gM hk (G 0) zT
   simp only [if_true] at lk
   cases acc with
   | none =>
    rw [stO_new hc]
    have a1 : acB (some (c,n)) = n:=rfl
    have a2 : acB none = 0:=rfl
    rw [a1,a2]
    simp only [Option.isSome_none,Option.isSome_some]
    refine Tr.w fun s1 H1 hp _ kR => W.trim ?_
    obtain ⟨rfl,q⟩:=hp
    refine zCh ?_
    simp (disch:=omega) [c84_o5,zG,q]
    refine zCh ?_
    simp (disch:=omega) [zG,q]
    refine W.seq (W.block ?_)
    refine zCh ?_
    simp (disch:=omega) [c84_o6,zG,q,gy1,e1,e1',lg]
    refine zCh ?_
    simp (disch:=omega) [-act,c84_o7,zG,q,act_move,act_bin,act_build,act_ext,act_lkA,lk,l1,fillA,AV.cells]
    refine zCh ?_
    simp (disch:=omega) [c84_o8,zG,q]
    refine W.chunk ?_
    simp (disch:=omega) [c84_o9,zG,q]
    refine W.chunk ?_
    simp (disch:=omega) [c84_o10,zG,q]
    exact kR _ _ (by simp [T.get,q])
   | some pr =>
    obtain ⟨a,b'⟩:=pr
    have a2 : acB (some (a,b')) = b':=rfl
    by_cases cc : b' < n
    ·rw [stO_gt hc cc]
     have a1 : acB (some (c,n)) = n:=rfl
     rw [a1,a2]
     simp only [Option.isSome_some]
     refine Tr.w fun s1 H1 hp _ kR => W.trim ?_
     obtain ⟨rfl,q⟩:=hp
     refine zCh ?_
     simp (disch:=omega) [c84_o5,zG,q]
     refine zCh ?_
     simp (disch:=omega) [zG,q]
     refine W.seq (W.block ?_)
     refine zCh ?_
     simp (disch:=omega) [c84_o6,zG,q,gy1,e1,e1',lg]
     refine zCh ?_
     simp (disch:=omega) [-act,c84_o7,zG,q,act_move,act_bin,act_build,act_ext,act_lkA,lk,l1,fillA,AV.cells]
     refine zCh ?_
     simp (disch:=omega) [c84_o8,zG,q,cc]
     refine W.chunk ?_
     simp (disch:=omega) [c84_o9,zG,q]
     refine W.chunk ?_
     simp (disch:=omega) [c84_o10,zG,q]
     exact kR _ _ (by simp [T.get,q])
    ·rw [stO_le hc cc]
     rw [a2]
     simp only [Option.isSome_some]
     refine Tr.w fun s1 H1 hp _ kR => W.trim ?_
     obtain ⟨rfl,q⟩:=hp
     refine zCh ?_
     simp (disch:=omega) [c84_o5,zG,q]
     refine zCh ?_
     simp (disch:=omega) [zG,q]
     refine W.seq (W.block ?_)
     refine zCh ?_
     simp (disch:=omega) [c84_o6,zG,q,gy1,e1,e1',lg]
     refine zCh ?_
     simp (disch:=omega) [-act,c84_o7,zG,q,act_move,act_bin,act_build,act_ext,act_lkA,lk,l1,fillA,AV.cells]
     refine zCh ?_
     simp (disch:=omega) [c84_o8,zG,q,cc]
     refine W.chunk ?_
     simp (disch:=omega) [c84_o9,zG,q]
     refine W.chunk ?_
     simp (disch:=omega) [c84_o10,zG,q]
     exact kR _ _ (by simp [T.get,q])
 ·rw [tk]
  clear hg ry gy
  generalize acB (bO g none L) = ab at *
  generalize (bO g none L).isSome = ai at *
  generalize L.length = nL at *
  refine Tr.w fun s1 H1 hp _ kR => W.trim ?_
  obtain ⟨rfl,q⟩:=hp
  refine zCh ?_
  simp (disch:=omega) [c84_o5,zG,q]
  refine zCh ?_
  simp (disch:=omega) [zG,q]
  exact kR _ _ (by simp [T.get,q])
def betV (S : List (List Nat)) (u : Nat → Nat → Int) (j : Nat) : Nat → AV
 | 0 => .tup [G 0,.bool zT]
 | l + 1 => .tup [G (acB (bO (gv S u l) none (S.getD j []))),.bool (bO (gv S u l) none (S.getD j [])).isSome]
theorem c84_ok (J : CallF) (hJ : ∀ a h,J 84 a h = none) (h : Heap) {u : Nat → Nat → Int} (lf : LF h p S) (os : OkS S) (hj : j < S.length) (gM : h.get mb = .map (enc M)) (l40 : l ≤ 40) (hg : ∀ l',l = l' + 1 → ∀ k ∈ S.getD j [],mF M k l' = gv S u l' k) : CallsTo tbl J 84 [.ptr p 0 3,.map mb,G j,G l] h (betV S u j l,[],zF):=by
 refine Tr.fnv (cf:=c84) (e:=.ret) (s:=T.set (T.set (T.set (T.set .leaf [] (.ptr p 0 3)) [zF] (.map mb)) [zT] (G j)) [zF,zF] (G l)) (by decide) rfl (hJ _ _) rfl rfl (by cases l <;> rfl) (by simp) ?_
 have gF : (frameOf h).get mb = .map (enc M):=by
  unfold frameOf
  rw [get_mk_lt _ _ _ _ (get_lt gM (by simp))]; exact gM
 have at' : ∀ {b : Nat} {o : AObj},h.get b = o → o ≠ .hole → (frameOf h).get b = o:=fun g hx => by
  unfold frameOf
  rw [get_mk_lt _ _ _ _ (get_lt g hx)]; exact g
 obtain ⟨x0,m0,nb,rs,f1,_,f2,f3⟩:=lf
 have f1:=at' f1 (by simp)
 have f2:=at' f2 (by simp)
 obtain ⟨y,ey,ry⟩:=f3 j hj
 have ry:=ry.frame
 have ey':=getI ey
 have lrs:=(List.getElem?_eq_some_iff.1 ey).1
 cases l with
 | zero =>
  refine Tr.post (Q:=(fun s h => s.get [zT,zF,zF] = G 0 ∧ s.get [zF,zT,zF] = .bool zT)) (fun s h q => by simp [c84,q,betV]) ?_
  clear hg f3 ry gF
  generalize frameOf h = H0 at *
  refine Tr.w fun s1 H1 hp _ kR => ?_
  obtain ⟨rfl,rfl⟩:=hp
  have q : True:=trivial
  refine zCh ?_
  simp (disch:=omega) [c84_o0,zG,q]
  refine W.assoc ?_
  refine zCh ?_
  simp (disch:=omega) [c84_o1,zG,q]
  refine zCh ?_
  simp (disch:=omega) [c84_o2,zG,q]
  exact kR _ _ (by simp [T.get])
 | succ l =>
  have l0:=c84_l0_ok (g:=gv S u l) J gF (hg l rfl) ry (os.len j) (by omega)
  have bV : betV S u j (l + 1) = .tup [G (acB (bO (gv S u l) none (S.getD j []))),.bool (bO (gv S u l) none (S.getD j [])).isSome]:=rfl
  rw [bV]
  have sy:=ry.sl
  rw [gn_len] at sy
  have hS:=os.n
  refine Tr.post (Q:=(fun s h => s.get [zT,zF,zF] = G (acB (bO (gv S u l) none (S.getD j []))) ∧ s.get [zF,zT,zF] = .bool (bO (gv S u l) none (S.getD j [])).isSome)) (fun s h q => by simp [c84,q]) ?_
  have l1 : ((l + 1 : Nat) : Int) = (l : Int) + 1:=by omega
  rw [l1]
  have l2 : ¬ (l : Int) + 1 = 0:=by omega
  clear hg f3 ry gF bV
  generalize acB (bO (gv S u l) none (S.getD j [])) = ab at *
  generalize (bO (gv S u l) none (S.getD j [])).isSome = ai at *
  generalize (S.getD j []).length = nL at *
  generalize hnn : S.length = n at *
  generalize frameOf h = H0 at *
  rcases sy with ⟨rfl,rfl⟩ | ⟨b,v,rfl⟩
  all_goals
   refine Tr.w fun s1 H1 hp _ kR => ?_
   obtain ⟨rfl,rfl⟩:=hp
   have q : True:=trivial
   refine zCh ?_
   simp (disch:=omega) [c84_o0,zG,q]
   refine W.assoc ?_
   refine zCh ?_
   simp (disch:=omega) [c84_o1,zG,q,l2]
   refine zCh ?_
   simp (disch:=omega) [c84_o2,zG,q]
   refine zCh ?_
   simp (disch:=omega) [c84_o3,zG,q]
   refine W.assoc ?_
   refine zCh ?_
   simp (disch:=omega) [c84_o4,zG,q,f1,f2,ey,ey']
   refine W.seq (W.block ?_)
   refine W.use (l0) (by simp (disch:=omega) [zG,q]) fun s1 H1 hp => ?_
   obtain ⟨rfl,q⟩:=hp
   try simp only [zW,if_true]
   refine zCh ?_
   simp (disch:=omega) [c84_o11,zG,q]
   refine W.ret ?_
   try simp only [zW,if_true]
   exact kR _ _ (by simp [T.get,q])
end
structure A84 where
 S : List (List Nat)
 u : Nat → Nat → Int
 p : Nat
 mb : Nat
 j : Nat
 l : Nat
 M : List (Nat × Nat × Int)
def Ok84 (b : A84) (h : Heap) : Prop:=LF h b.p b.S ∧ OkS b.S ∧ b.j < b.S.length ∧ h.get b.mb = .map (enc b.M) ∧ b.l ≤ 40 ∧ ∀ l',b.l = l' + 1 → ∀ k ∈ b.S.getD b.j [],mF b.M k l' = gv b.S b.u l' k
def Pre84 (b : A84) (args : List AV) (h : Heap) : Prop:=Ok84 b h ∧ args = [.ptr b.p 0 3,.map b.mb,G b.j,G b.l]
def Post84 (b : A84) (h : Heap) (v : AV) (own : List AObj) : Prop:=v = betV b.S b.u b.j b.l ∧ own = []
noncomputable def U84 : CallF:=addK tbl noIntr 84 Pre84 Post84
theorem u84 : Sound zp U84:=Sound.addK follows ok Sound.empty (by decide) _ _
abbrev K84 (J : CallF) : Prop:=∀ (h : Heap) (b : A84),Ok84 b h → J 84 [.ptr b.p 0 3,.map b.mb,G b.j,G b.l] h = some (betV b.S b.u b.j b.l,[],zF)
theorem k84u : K84 U84:=fun h b o => by
 obtain ⟨v,own,e,rfl,rfl⟩:=addK_some (Pre:=Pre84) (Post:=Post84) (fun b args h hp => by
  obtain ⟨⟨h1,h2,h3,h4,h5,h6⟩,rfl⟩:=hp
  exact ⟨_,_,c84_ok noIntr (fun _ _ => rfl) h h1 h2 h3 h4 h5 h6,rfl,rfl⟩) b _ h ⟨o,rfl⟩
 exact e
def WN (h : Heap) (x : AV) (N m q : Nat) (Wt : List (List (List Int))) : Prop:=∃ b v cs,x = .slice b 0 N v ∧ h.get b = .cells 1 v cs ∧ cs.length = N ∧ ∀ i,i < N → ∃ y,cs[i]? = some y ∧ TRw h y m q (Wt.getD i [])
theorem TRw.kpm {h h' : Heap} {x : AV} {m q bm : Nat} {M : List (List Int)} {es : List (AV × AV)} (t : TRw h x m q M) (g : h.get bm = .map es) (k : Kp (fun i => i = bm) h h') : TRw h' x m q M:=by
 have nn : ∀ {b s n cs},h.get b = .cells s n cs → ¬ b = bm:=fun e q => by rw [q,g] at e; cases e
 obtain ⟨b,v,cs,e,g1,l,r⟩:=t
 exact ⟨b,v,cs,e,k.at g1 (by simp) (nn g1),l,fun i hi => by obtain ⟨rb,rv,e1,e2,e3⟩:=r i hi; exact ⟨rb,rv,e1,k.at e2 (by simp) (nn e2),e3⟩⟩
theorem WN.kpm {h h' : Heap} {x : AV} {N m q bm : Nat} {Wt : List (List (List Int))} {es : List (AV × AV)} (t : WN h x N m q Wt) (g : h.get bm = .map es) (k : Kp (fun i => i = bm) h h') : WN h' x N m q Wt:=by
 have nn : ∀ {b s n cs},h.get b = .cells s n cs → ¬ b = bm:=fun e q => by rw [q,g] at e; cases e
 obtain ⟨b,v,cs,e,g1,l,r⟩:=t
 exact ⟨b,v,cs,e,k.at g1 (by simp) (nn g1),l,fun i hi => by obtain ⟨y,e1,e2⟩:=r i hi; exact ⟨y,e1,e2.kpm g k⟩⟩
theorem WN.kp {h h' : Heap} {x : AV} {N m q : Nat} {Wt : List (List (List Int))} (t : WN h x N m q Wt) (k : Kp (fun _ => False) h h') : WN h' x N m q Wt:=by
 obtain ⟨b,v,cs,e,g1,l,r⟩:=t
 exact ⟨b,v,cs,e,k.at g1 (by simp) id,l,fun i hi => by obtain ⟨y,e1,e2⟩:=r i hi; exact ⟨y,e1,e2.kp k⟩⟩
def uW (Wt : List (List (List Int))) (R : List (List Nat)) (N m : Nat) (l c : Nat) : Int:=rvA (Wt.getD (N - 1 - l) []) (R.getD c []) m
def SmA (N m q : Nat) (Wt : List (List (List Int))) : Prop:=∀ i,i < N → SmW m q (Wt.getD i [])
def RwA (R : List (List Nat)) (m q : Nat) : Prop:=∀ w ∈ R,w.length = m ∧ ∀ c ∈ w,c < q
theorem RwA.at {R : List (List Nat)} {m q c : Nat} (r : RwA R m q) (hc : c < R.length) : (R.getD c []).length = m ∧ ∀ x ∈ R.getD c [],x < q:=by
 rw [zd,zq hc]
 exact r _ (List.getElem_mem hc)
section
variable {S : List (List Nat)} {R : List (List Nat)} {Wt : List (List (List Int))} {N m q p mb bx vx n : Nat}
def uZ (Wt : List (List (List Int))) (R : List (List Nat)) (N m : Nat) (l c : Nat) : Int:=if l < N ∧ c < R.length then uW Wt R N m l c else 0
theorem uZ_bd (sm : SmA N m q Wt) (ra : RwA R m q) (m5 : m ≤ 5) (l c : Nat) : -5000 ≤ uZ Wt R N m l c ∧ uZ Wt R N m l c ≤ 5000:=by
 unfold uZ
 split
 ·rename_i h
  obtain ⟨h1,h2⟩:=ra.at h.2
  have:=rvA_bd (sm (N - 1 - l) (by omega)) h2 h1 m (Nat.le_refl _)
  unfold uW
  omega
 ·omega
theorem bet_gv (u : Nat → Nat → Int) (t j : Nat) : ∃ bst fnd,betV S u j t = .tup [G bst,.bool fnd] ∧ ((fnd = zT ∧ gv S u t j = some (bst + u t j)) ∨ (fnd = zF ∧ gv S u t j = none)):=by
 cases t with
 | zero => exact ⟨0,zT,rfl,.inl ⟨rfl,by show some (u 0 j) = some (0 + u 0 j); rw [Int.zero_add]⟩⟩
 | succ l =>
  refine ⟨_,_,rfl,?_⟩
  have e : gv S u (l + 1) j = (bO (gv S u l) none (S.getD j [])).map fun p => p.2 + u (l + 1) j:=rfl
  rw [e]
  cases bO (gv S u l) none (S.getD j []) with
  | none => exact .inr ⟨rfl,rfl⟩
  | some pr => exact .inl ⟨rfl,rfl⟩
def KM (S : List (List Nat)) (u : Nat → Nat → Int) (M : List (Nat × Nat × Int)) (t j : Nat) : Prop:=∀ j',j' < S.length → ∀ l,mF M j' l = if l < t ∨ (l = t ∧ j' < j) then gv S u l j' else none
def MBs (S : List (List Nat)) (u : Nat → Nat → Int) (mb : Nat) (Hb h : Heap) (t j : Nat) : Prop:=Kp (fun b => b = mb) Hb h ∧ ∃ M,h.get mb = .map (enc M) ∧ KM S u M t j
def B0 (Hb : Heap) (S : List (List Nat)) (u : Nat → Nat → Int) (x : AV) (p mb bx vx n N t j : Nat) : SP:=fun s h => MBs S u mb Hb h t j ∧ s.get [zF] = x ∧ s.get [zF,zF,zF] = .ptr p 0 3 ∧ s.get [zT,zF,zF] = .map mb ∧ s.get [zF,zT,zF] = G ((N : Int) - 1 - t) ∧ s.get [zT,zT,zF] = G t ∧ s.get [zF,zT,zF,zT,zT] = .slice bx 0 n vx ∧ s.get [zT,zT,zF,zT,zT] = G n ∧ s.get [zF,zF,zT,zT,zT] = G j
def B0q (Hb : Heap) (S : List (List Nat)) (u : Nat → Nat → Int) (x : AV) (p mb n N t : Nat) : SP:=fun s h => MBs S u mb Hb h t n ∧ s.get [zF] = x ∧ s.get [zF,zF,zF] = .ptr p 0 3 ∧ s.get [zT,zF,zF] = .map mb ∧ s.get [zF,zT,zF] = G ((N : Int) - 1 - t)
set_option maxHeartbeats 1000000 in
theorem c51_l0_ok (J : CallF) (k84 : K84 J) (k85 : K85 85 J) {Hb : Heap} {x : AV} {es0 : List (AV × AV)} (gm : Hb.get mb = .map es0) (hN : Hb.N ≤ mb) (lf : LF Hb p S) (os : OkS S) (hS : S.length = n) (gx : Hb.get bx = .cells 1 vx (wsL R)) (hR : R.length = n) (wn : WN Hb x N m q Wt) (sm : SmA N m q Wt) (ra : RwA R m q) (q3 : q ≤ 3) (m5 : m ≤ 5) (N40 : N ≤ 40) {t : Nat} (ht : t < N) :
  Tr tbl J c51_l0 (B0 Hb S (uZ Wt R N m) x p mb bx vx n N t 0) (.exit 2) (B0q Hb S (uZ Wt R N m) x p mb n N t):=by
 have n2:=os.n
 have nn : ∀ {b s n cs},Hb.get b = .cells s n cs → ¬ b = mb:=fun e q => by rw [q,gm] at e; cases e
 refine Tr.rounds (P:=B0 Hb S (uZ Wt R N m) x p mb bx vx n N t) (M:=n) (fun j hj => ?_) ?_ (by simp) 0 (by omega)
 ·refine Tr.w fun s1 H1 hp _ kR => W.trim ?_
  obtain ⟨⟨kp,M,gM,km⟩,q'⟩:=hp
  dsimp only [B0] at kR
  have lf1:=lf.kpm gm kp
  have gx1:=kp.at gx (by simp) (nn gx)
  have hg : ∀ l',t = l' + 1 → ∀ k ∈ S.getD j [],mF M k l' = gv S (uZ Wt R N m) l' k:=fun l' e k hk => by
   rw [km k (os.lt j k hk) l',if_pos (.inl (by omega))]
  have e84:=k84 H1 ⟨S,uZ Wt R N m,p,mb,j,t,M⟩ ⟨lf1,os,by rw [hS]; exact hj,gM,by show t ≤ 40; omega,hg⟩
  simp only at e84
  obtain ⟨bst,fnd,eb,hf⟩:=bet_gv (S:=S) (uZ Wt R N m) t j
  rw [eb] at e84
  have ew:=wsL_at (R:=R) (i:=j) (by omega)
  have ew':=getI ew
  have lw:=wsL_len R
  rw [hR] at lw
  have bdu:=uZ_bd (R:=R) sm ra m5 t j
  have j1 : ((j + 1 : Nat) : Int) = (j : Int) + 1:=by omega
  rw [j1] at kR
  rcases hf with ⟨rfl,hv⟩ | ⟨rfl,hv⟩
  ·obtain ⟨b,v,cs,rfl,gw,lc,hr⟩:=wn.kpm gm kp
   obtain ⟨y,ey,ty⟩:=hr (N - 1 - t) (by omega)
   have ey':=getI ey
   obtain ⟨rl,rc⟩:=ra.at (c:=j) (by omega)
   have e85:=k85 H1 ⟨y,m,q,Wt.getD (N - 1 - t) [],R.getD j []⟩ ⟨ty,rc,rl,q3,by show m ≤ 1000; omega,sm _ (by omega)⟩
   simp only at e85
   have eu : uZ Wt R N m t j = rvA (Wt.getD (N - 1 - t) []) (R.getD j []) m:=by
    unfold uZ uW
    rw [if_pos ⟨ht,by omega⟩]
   rw [← eu] at e85
   have bdv:=((bs_gv (S:=S) (N:=40) (fun l _ i => uZ_bd (R:=R) sm ra m5 l i) (Nat.le_refl _) t (by omega) j).1 _ hv).2
   have ma:=mapA_at gM
   have upk:=put_encl j t (bst + uZ Wt R N m t j) M
   have hN1 : H1.N ≤ mb:=by rw [kp.N]; exact hN
   have f2:=mput_gen H1 mb (enc M) (enc (mP j t (bst + uZ Wt R N m t j) M)) hN1 gM
   have mb2 : MBs S (uZ Wt R N m) mb Hb (H1.upd mb (.map (enc (mP j t (bst + uZ Wt R N m t j) M)))) t (j + 1):=by
    refine ⟨kp.trans (Kp.upd H1 mb _ hN1 rfl),_,upd_same _ _ _ hN1 (get_lt gM (by simp)),fun j' hj' l => ?_⟩
    rw [mF_mP]
    by_cases c : j' = j ∧ l = t
    ·rw [if_pos c,if_pos (.inr ⟨c.2,by omega⟩),c.1,c.2,hv]
    ·rw [if_neg c,km j' hj' l]
     by_cases c2 : l < t ∨ (l = t ∧ j' < j)
     ·rw [if_pos c2,if_pos (by omega)]
     ·rw [if_neg c2,if_neg (by omega)]
   have iN : ((N : Int) - 1 - (t : Int)).toNat = N - 1 - t:=by omega
   have rw1 : (N : Int) - 1 - t = ((N - 1 - t : Nat) : Int):=by omega
   rw [rw1] at q' kR
   have i2 : N - 1 - t < N:=by omega
   clear lf1 hg hr ty hv km eb k84 k85 wn sm ra lf gM rl rc eu
   generalize enc (mP j t (bst + uZ Wt R N m t j) M) = es2 at *
   generalize enc M = es1 at *
   generalize N - 1 - t = ii at *
   generalize uZ Wt R N m t j = u0 at *
   generalize stW (R.getD j []) = w0 at *
   generalize wsL R = wl at *
   refine zCh ?_
   simp (disch:=omega) [c51_o9,zG,q']
   refine zCh ?_
   simp (disch:=omega) [zG,q']
   refine W.seq (W.block ?_)
   refine zCh ?_
   simp (disch:=omega) [c51_o10,zG,q',gx1,ew,ew',lw]
   refine zCh ?_
   simp (disch:=omega) [c51_o11,zG,q',e84]
   refine zCh ?_
   simp (disch:=omega) [c51_o12,zG,q']
   refine W.cond (v:=zT) (by simp (disch:=omega) [zG,q']) ?_
   simp only [if_true,if_false,Bool.false_eq_true]
   refine W.chunk ?_
   simp (disch:=omega) [c51_o13,zG,q',gw,ey,ey',lc,e85,fits2l,ma,upk,f2]
   refine W.chunk ?_
   simp (disch:=omega) [c51_o14,zG,q']
   exact kR _ _ ⟨mb2,by simp [T.get,q']⟩
  ·have mb2 : MBs S (uZ Wt R N m) mb Hb H1 t (j + 1):=by
    refine ⟨kp,M,gM,fun j' hj' l => ?_⟩
    rw [km j' hj' l]
    by_cases c : j' = j ∧ l = t
    ·rw [if_neg (by omega),if_pos (.inr ⟨c.2,by omega⟩),c.1,c.2,hv]
    ·by_cases c2 : l < t ∨ (l = t ∧ j' < j)
     ·rw [if_pos c2,if_pos (by omega)]
     ·rw [if_neg c2,if_neg (by omega)]
   clear lf1 hg hv km eb k84 k85 wn sm ra lf gM
   generalize (N : Int) - 1 - t = ii at *
   generalize stW (R.getD j []) = w0 at *
   generalize wsL R = wl at *
   refine zCh ?_
   simp (disch:=omega) [c51_o9,zG,q']
   refine zCh ?_
   simp (disch:=omega) [zG,q']
   refine W.seq (W.block ?_)
   refine zCh ?_
   simp (disch:=omega) [c51_o10,zG,q',gx1,ew,ew',lw]
   refine zCh ?_
   simp (disch:=omega) [c51_o11,zG,q',e84]
   refine zCh ?_
   simp (disch:=omega) [c51_o12,zG,q']
   refine W.cond (v:=zF) (by simp (disch:=omega) [zG,q']) ?_
   simp only [if_true,if_false,Bool.false_eq_true]
   refine W.skip ?_
   try simp only [zW,if_true]
   refine W.chunk ?_
   simp (disch:=omega) [c51_o14,zG,q']
   exact kR _ _ ⟨mb2,by simp [T.get,q']⟩
 ·refine Tr.w fun s1 H1 hp _ kR => W.trim ?_
  obtain ⟨mbs,q'⟩:=hp
  dsimp only [B0q] at kR
  clear k84 k85 wn sm ra lf
  generalize (N : Int) - 1 - t = ii at *
  refine zCh ?_
  simp (disch:=omega) [c51_o9,zG,q']
  refine zCh ?_
  simp (disch:=omega) [zG,q']
  exact kR _ _ ⟨mbs,by simp [T.get,q']⟩
def B1 (Hb : Heap) (S : List (List Nat)) (u : Nat → Nat → Int) (x : AV) (p mb N t : Nat) : SP:=fun s h => MBs S u mb Hb h t 0 ∧ s.get [zF] = x ∧ s.get [zF,zF,zF] = .ptr p 0 3 ∧ s.get [zT,zF,zF] = .map mb ∧ s.get [zF,zT,zF] = G ((N : Int) - 1 - t)
def B1q (Hb : Heap) (S : List (List Nat)) (u : Nat → Nat → Int) (x : AV) (p mb N : Nat) : SP:=fun s h => MBs S u mb Hb h N 0 ∧ s.get [zF] = x ∧ s.get [zF,zF,zF] = .ptr p 0 3 ∧ s.get [zT,zF,zF] = .map mb
theorem MBs.next {u : Nat → Nat → Int} {Hb h : Heap} {t : Nat} (x : MBs S u mb Hb h t S.length) : MBs S u mb Hb h (t + 1) 0:=by
 obtain ⟨kp,M,gM,km⟩:=x
 refine ⟨kp,M,gM,fun j' hj' l => ?_⟩
 rw [km j' hj' l]
 by_cases c2 : l < t ∨ (l = t ∧ j' < S.length)
 ·rw [if_pos c2,if_pos (by omega)]
 ·rw [if_neg c2,if_neg (by omega)]
theorem c51_l1_ok (J : CallF) (k84 : K84 J) (k85 : K85 85 J) {Hb : Heap} {b v mm nb : Nat} {es0 : List (AV × AV)} (gm : Hb.get mb = .map es0) (hN : Hb.N ≤ mb) (lf : LF Hb p S) (os : OkS S) (hS : S.length = n) (gp : Hb.get p = .cells 0 3 [.slice bx 0 n vx,.map mm,.slice nb 0 n n]) (gx : Hb.get bx = .cells 1 vx (wsL R)) (hR : R.length = n) (wn : WN Hb (.slice b 0 N v) N m q Wt) (sm : SmA N m q Wt) (ra : RwA R m q) (q3 : q ≤ 3) (m5 : m ≤ 5) (N40 : N ≤ 40) :
  Tr tbl J c51_l1 (B1 Hb S (uZ Wt R N m) (.slice b 0 N v) p mb N 0) (.exit 0) (B1q Hb S (uZ Wt R N m) (.slice b 0 N v) p mb N):=by
 have n2:=os.n
 have nn : ∀ {b s n cs},Hb.get b = .cells s n cs → ¬ b = mb:=fun e q => by rw [q,gm] at e; cases e
 refine Tr.rounds (P:=B1 Hb S (uZ Wt R N m) (.slice b 0 N v) p mb N) (M:=N) (fun t ht => ?_) ?_ (by simp) 0 (by omega)
 ·refine Tr.w fun s1 H1 hp _ kR => W.trim ?_
  obtain ⟨mbs,q'⟩:=hp
  dsimp only [B1] at kR
  have l0:=c51_l0_ok J k84 k85 gm hN lf os hS gx hR wn sm ra q3 m5 N40 ht
  unfold B0 B0q at l0
  have gp1:=mbs.1.at gp (by simp) (nn gp)
  have t1 : (N : Int) - 1 - ((t + 1 : Nat) : Int) = (N : Int) - 1 - (t : Int) - 1:=by omega
  rw [t1] at kR
  have ge : (0 : Int) ≤ (N : Int) - 1 - t:=by omega
  have bk : (N : Int) - 1 - ((N : Int) - 1 - t) = t:=by omega
  have post:=fun h (x : MBs S (uZ Wt R N m) mb Hb h t n) => MBs.next (by rw [hS]; exact x)
  clear k84 k85 wn sm ra lf
  have sml : (N : Int) - 1 - t ≤ 40:=by omega
  generalize (N : Int) - 1 - t = ii at *
  refine W.assoc ?_
  refine zCh ?_
  simp (disch:=omega) [c51_o6,zG,q',ge]
  refine zCh ?_
  simp (disch:=omega) [zG,q']
  refine W.seq (W.block ?_)
  refine zCh ?_
  simp (disch:=omega) [c51_o7,zG,q',bk]
  refine zCh ?_
  simp (disch:=omega) [c51_o8,zG,q',gp1]
  refine W.block ?_
  refine W.use (l0) (by simp (disch:=omega) [zG,q',mbs]) fun s1 H1 hp => ?_
  obtain ⟨mbs2,q'⟩:=hp
  try simp only [zW,if_true]
  refine W.chunk ?_
  simp (disch:=omega) [c51_o15,zG,q']
  exact kR _ _ ⟨post _ mbs2,by simp [T.get,q']⟩
 ·refine Tr.w fun s1 H1 hp _ kR => W.trim ?_
  obtain ⟨mbs,q'⟩:=hp
  dsimp only [B1q] at kR
  clear k84 k85 wn sm ra lf
  have t1 : (N : Int) - 1 - (N : Int) = -1:=by omega
  rw [t1] at q'
  refine W.assoc ?_
  refine zCh ?_
  simp (disch:=omega) [c51_o6,zG,q']
  refine zCh ?_
  simp (disch:=omega) [zG,q']
  exact kR _ _ ⟨mbs,by simp [T.get,q']⟩
end
def flR (n i : Nat) : List AV:=gn (List.range i) ++ List.replicate (n - i) (G 0)
theorem flR_len {n i : Nat} (h : i ≤ n) : (flR n i).length = n:=by
 unfold flR
 rw [List.length_append,gn_len,List.length_range,List.length_replicate]; omega
theorem flR_set {n i : Nat} (h : i < n) : (flR n i).set i (G i) = flR n (i + 1):=by
 unfold flR
 have e : n - i = (n - (i + 1)) + 1:=by omega
 rw [e,List.replicate_succ,List.set_append_right _ _ (by rw [gn_len,List.length_range]; omega),gn_len,List.length_range,Nat.sub_self,List.set_cons_zero,gn_range,List.append_assoc]; rfl
theorem flR_0 (n : Nat) : flR n 0 = List.replicate n (G 0):=rfl
theorem flR_n (n : Nat) : flR n n = gn (List.range n):=by unfold flR; rw [Nat.sub_self]; exact List.append_nil _
section
variable {S : List (List Nat)} {R : List (List Nat)} {p mb n N : Nat}
theorem c51_l2_ok (J : CallF) {Hc : Heap} {x : AV} {br : Nat} (hb : Hc.size ≤ br) (hN : Hc.N ≤ br) (n2 : n ≤ 1000) :
  Tr tbl J c51_l2 (fun s h => (Kp (fun _ => False) Hc h ∧ h.get br = .cells 1 n (flR n 0)) ∧ s.get [zF] = x ∧ s.get [zF,zF,zF] = .ptr p 0 3 ∧ s.get [zT,zF,zF] = .map mb ∧ s.get [zF,zF,zF,zF] = .nils ∧ s.get [zT,zF,zF,zF] = .slice br 0 n n ∧ s.get [zF,zT,zT,zT,zT,zF] = G n ∧ s.get [zT,zT,zT,zT,zT,zF] = G ((0 : Nat) : Int)) (.exit 4)
   (fun s h => (Kp (fun _ => False) Hc h ∧ h.get br = .cells 1 n (flR n n)) ∧ s.get [zF] = x ∧ s.get [zF,zF,zF] = .ptr p 0 3 ∧ s.get [zT,zF,zF] = .map mb ∧ s.get [zF,zF,zF,zF] = .nils ∧ s.get [zT,zF,zF,zF] = .slice br 0 n n):=by
 refine Tr.rounds (P:=fun i s h => (Kp (fun _ => False) Hc h ∧ h.get br = .cells 1 n (flR n i)) ∧ s.get [zF] = x ∧ s.get [zF,zF,zF] = .ptr p 0 3 ∧ s.get [zT,zF,zF] = .map mb ∧ s.get [zF,zF,zF,zF] = .nils ∧ s.get [zT,zF,zF,zF] = .slice br 0 n n ∧ s.get [zF,zT,zT,zT,zT,zF] = G n ∧ s.get [zT,zT,zT,zT,zT,zF] = G i) (M:=n) (fun i hi => ?_) ?_ (by simp) 0 (by omega)
 ·refine Tr.w fun s1 H1 hp _ kR => W.trim ?_
  obtain ⟨⟨kp,g⟩,q⟩:=hp
  have hN1 : H1.N ≤ br:=by rw [kp.N]; exact hN
  have lf:=flR_len (n:=n) (i:=i) (by omega)
  have pt:=put_gen H1 br n i 1 _ [G i] hN1 g (by rw [lf]; show i + 1 ≤ n; omega)
  have e : putAt (flR n i) i [G i] = flR n (i + 1):=flR_set hi
  rw [e] at pt
  have k2:=kp.updn br (.cells 1 n (flR n (i + 1))) hN1 hb
  have g2:=upd_same H1 br (.cells 1 n (flR n (i + 1))) hN1 (get_lt g (by simp))
  have i1 : ((i + 1 : Nat) : Int) = (i : Int) + 1:=by omega
  rw [i1] at kR
  generalize flR n (i + 1) = f2 at *
  generalize flR n i = f1 at *
  refine zCh ?_
  simp (disch:=omega) [c51_o19,zG,q]
  refine zCh ?_
  simp (disch:=omega) [zG,q]
  refine W.seq (W.block ?_)
  refine zCh ?_
  simp (disch:=omega) [c51_o20,zG,q]
  refine W.chunk ?_
  simp (disch:=omega) [c51_o21,zG,q,g,lf,pt]
  refine W.chunk ?_
  simp (disch:=omega) [c51_o22,zG,q]
  exact kR _ _ ⟨⟨k2,g2⟩,by simp [T.get,q]⟩
 ·refine Tr.w fun s1 H1 hp _ kR => W.trim ?_
  obtain ⟨⟨kp,g⟩,q⟩:=hp
  generalize flR n n = f1 at *
  refine zCh ?_
  simp (disch:=omega) [c51_o19,zG,q]
  refine zCh ?_
  simp (disch:=omega) [zG,q]
  exact kR _ _ ⟨⟨kp,g⟩,by simp [T.get,q]⟩
def bxO (l : Nat) : Option (Nat × Int) → List AV
 | none => [G (-1),G 0]
 | some pr => [G (pr.1 : Nat),G l]
theorem bO_at {g : Nat → Option Int} {L : List Nat} {a : Nat} {b : Int} (h : bO g none L = some (a,b)) : a ∈ L ∧ g a = some b:=by
 obtain ⟨A,B,e1,e2,_⟩:=bO_mem h
 exact ⟨by rw [e1]; simp,e2⟩
theorem eq_no (a l : Nat) : eqAgg [.i .i64,.i .i64] (.agg [G (a : Nat),G (l : Nat)]) (.agg [G (-1),G 0]) = some zF:=by
 have : ((((a : Nat) : Int)) == (-1 : Int)) = zF:=by simp
 simp [eqAgg,fits,LK.fits,allEq,aveq,this]
theorem eq_yes : eqAgg [.i .i64,.i .i64] (.agg [G (-1),G 0]) (.agg [G (-1),G 0]) = some zT:=by
 simp [eqAgg,fits,LK.fits,allEq,aveq]
set_option maxHeartbeats 1000000 in
theorem c51_l3_ok (J : CallF) {Hp : Heap} {b v pb l i : Nat} {z sm : AV} {M : List (Nat × Nat × Int)} {g : Nat → Option Int} {y : AV} {L : List Nat} (gM : Hp.get mb = .map (enc M)) (hg : ∀ k ∈ L,mF M k l = g k) (ry : RV Hp y (gn L)) (lL : L.length ≤ 1000) (hl : l = N - 1 - i) (hi : i < N) (N40 : N ≤ 40) (hpb : Hp.get pb = .cells 0 2 [G (-1),G 0]) (hN : Hp.N ≤ pb) (ny : blk y ≠ some pb) :
  Tr tbl J c51_l3 (fun s h => h = Hp ∧ s.get [zF] = .slice b 0 N v ∧ s.get [zF,zF,zF] = .ptr p 0 3 ∧ s.get [zT,zF,zF] = .map mb ∧ s.get [zF,zF,zF,zF] = z ∧ s.get [zT,zT,zF,zF] = sm ∧ s.get [zF,zF,zT,zF] = G i ∧ s.get [zT,zF,zT,zF] = .ptr pb 0 2 ∧ s.get [zF,zF,zF,zT,zF,zT] = G N ∧ s.get [zT,zF,zF,zT,zF,zT] = G i ∧ s.get [zT,zF,zT,zT,zF,zT] = y ∧ s.get [zF,zT,zT,zT,zF,zT] = G L.length ∧ s.get [zT,zT,zT,zT,zF,zT] = G ((0 : Nat) : Int)) (.exit 8)
   (fun s h => (Kp (fun c => c = pb) Hp h ∧ h.get pb = .cells 0 2 (bxO l (bO g none L))) ∧ s.get [zF] = .slice b 0 N v ∧ s.get [zF,zF,zF] = .ptr p 0 3 ∧ s.get [zT,zF,zF] = .map mb ∧ s.get [zF,zF,zF,zF] = z ∧ s.get [zT,zT,zF,zF] = sm ∧ s.get [zF,zF,zT,zF] = G i ∧ s.get [zT,zF,zT,zF] = .ptr pb 0 2 ∧ s.get [zF,zF,zF,zT,zF,zT] = G N ∧ s.get [zT,zF,zF,zT,zF,zT] = G i):=by
 have lg:=gn_len L
 have tk : L.take L.length = L:=List.take_length
 have nM : ¬ mb = pb:=fun e => by rw [e,hpb] at gM; cases gM
 have rl : (N : Int) - 1 - (i : Int) = (l : Nat):=by omega
 have lN : l < N:=by omega
 refine Tr.pre (P:=fun s h => (Kp (fun c => c = pb) Hp h ∧ h.get pb = .cells 0 2 (bxO l (bO g none (L.take 0)))) ∧ s.get [zF] = .slice b 0 N v ∧ s.get [zF,zF,zF] = .ptr p 0 3 ∧ s.get [zT,zF,zF] = .map mb ∧ s.get [zF,zF,zF,zF] = z ∧ s.get [zT,zT,zF,zF] = sm ∧ s.get [zF,zF,zT,zF] = G i ∧ s.get [zT,zF,zT,zF] = .ptr pb 0 2 ∧ s.get [zF,zF,zF,zT,zF,zT] = G N ∧ s.get [zT,zF,zF,zT,zF,zT] = G i ∧ s.get [zT,zF,zT,zT,zF,zT] = y ∧ s.get [zF,zT,zT,zT,zF,zT] = G L.length ∧ s.get [zT,zT,zT,zT,zF,zT] = G ((0 : Nat) : Int)) (fun s h ⟨h0,q⟩ => ⟨by rw [h0]; exact ⟨Kp.refl _,hpb⟩,q⟩) ?_
 refine Tr.rounds (P:=fun t s h => (Kp (fun c => c = pb) Hp h ∧ h.get pb = .cells 0 2 (bxO l (bO g none (L.take t)))) ∧ s.get [zF] = .slice b 0 N v ∧ s.get [zF,zF,zF] = .ptr p 0 3 ∧ s.get [zT,zF,zF] = .map mb ∧ s.get [zF,zF,zF,zF] = z ∧ s.get [zT,zT,zF,zF] = sm ∧ s.get [zF,zF,zT,zF] = G i ∧ s.get [zT,zF,zT,zF] = .ptr pb 0 2 ∧ s.get [zF,zF,zF,zT,zF,zT] = G N ∧ s.get [zT,zF,zF,zT,zF,zT] = G i ∧ s.get [zT,zF,zT,zT,zF,zT] = y ∧ s.get [zF,zT,zT,zT,zF,zT] = G L.length ∧ s.get [zT,zT,zT,zT,zF,zT] = G t) (M:=L.length) (fun t ht => ?_) ?_ (by simp) 0 (by omega)
 ·refine Tr.w fun s1 H1 hp _ kR => W.trim ?_
  obtain ⟨⟨kp,gb⟩,q⟩:=hp
  obtain ⟨by',vy,rfl,gy0⟩ : ∃ b v,y = .slice b 0 L.length v ∧ Hp.get b = .cells 1 v (gn L):=by
   rcases ry with ⟨_,e⟩ | ⟨b,v,e,g⟩
   ·have : (gn L).length = 0:=by rw [e]; rfl
    rw [lg] at this; omega
   ·rw [lg] at e; exact ⟨b,v,e,g⟩
  have gy:=kp.at gy0 (by simp) (fun e => ny (by rw [← e]; rfl))
  have e1:=gn_at ht
  have e1':=getI e1
  have hk:=hg _ (gD_mem ht)
  have st : bO g none (L.take (t + 1)) = stO g (bO g none (L.take t)) (L.getD t 0):=by
   have : L.take (t + 1) = L.take t ++ [L.getD t 0]:=by
    rw [List.take_add_one,zq ht,zd,zq ht]; rfl
   rw [this,bO_app]; rfl
  rw [st] at kR
  have gM1:=kp.at gM (by simp) nM
  have k1 : ((t + 1 : Nat) : Int) = (t : Int) + 1:=by omega
  rw [k1] at kR
  obtain ⟨H2,hH2⟩ : ∃ H,H1.plus [.cells 0 2 [G (L.getD t 0 : Nat),G (l : Nat)]] = H:=⟨_,rfl⟩
  have k2 : Kp (fun _ => False) H1 H2:=by rw [← hH2]; exact Kp.plus _ _
  have gk : H2.get H1.size = .cells 0 2 [G (L.getD t 0 : Nat),G (l : Nat)]:=by rw [← hH2]; exact plus_at0 _ _ _ _ rfl
  have gb2:=k2.at gb (by simp) id
  have gM2:=k2.at gM1 (by simp) id
  have kp2 : Kp (fun c => c = pb) Hp H2:=kp.trans (k2.mono fun _ _ h => h.elim)
  have hN2 : H2.N ≤ pb:=by rw [kp2.N]; exact hN
  have acA : ∀ a b',bO g none (L.take t) = some (a,b') → mF M a l = some b':=fun a b' e => by
   obtain ⟨m1,m2⟩:=bO_at e
   rw [hg a (List.mem_of_mem_take m1),m2]
  have ma2:=mapA_at gM2
  have fE:=fun j l => find_encl j l M
  clear hg ry tk st gM gM1 kp k2 gy0
  generalize bO g none (L.take t) = acc at *
  generalize L.getD t 0 = c at *
  generalize gn L = cs at *
  generalize L.length = nL at *
  have fc:=fE c l
  cases hc : g c with
  | none =>
   rw [stO_none hc] at kR
   rw [hk,hc,Option.map_none] at fc
   clear acA
   generalize bxO l acc = bx at *
   generalize enc M = es at *
   refine zCh ?_
   simp (disch:=omega) [c51_o29,zG,q]
   refine zCh ?_
   simp (disch:=omega) [zG,q]
   refine W.seq (W.block ?_)
   refine zCh ?_
   simp (disch:=omega) [c51_o30,zG,q,gy,e1,e1',lg]
   refine zCh ?_
   simp (disch:=first|omega|exact zE rfl|exact zO|exact zL rfl) [c51_o31,zG,q,rl,hH2]
   refine zCh ?_
   simp (disch:=omega) [c51_o32,zG,q,gk,ma2,fits2l,fc]
   refine zCh ?_
   simp (disch:=omega) [c51_o33,zG,q]
   refine W.chunk ?_
   simp (disch:=omega) [c51_o34,zG,q]
   refine W.chunk ?_
   simp (disch:=omega) [c51_o35,zG,q]
   exact kR _ _ ⟨⟨kp2,gb2⟩,by simp [T.get,q]⟩
  | some w =>
   rw [hk,hc,Option.map_some] at fc
   have fin : Kp (fun c => c = pb) Hp (H2.upd pb (.cells 0 2 [G (c : Nat),G (l : Nat)])) ∧ (H2.upd pb (.cells 0 2 [G (c : Nat),G (l : Nat)])).get pb = .cells 0 2 [G (c : Nat),G (l : Nat)]:=⟨kp2.trans (Kp.upd H2 pb _ hN2 rfl),upd_same _ _ _ hN2 (get_lt gb2 (by simp))⟩
   cases acc with
   | none =>
    rw [stO_new hc] at kR
    have pt:=put_gen H2 pb 2 0 0 _ [G (c : Nat),G (l : Nat)] hN2 gb2 (by simp [bxO])
    have e : putAt (bxO l none) 0 [G (c : Nat),G (l : Nat)] = [G (c : Nat),G (l : Nat)]:=rfl
    rw [e] at pt
    have b0 : bxO l none = [G (-1),G 0]:=rfl
    rw [b0] at gb2
    have b1 : bxO l (some (c,w)) = [G (c : Nat),G (l : Nat)]:=rfl
    rw [b1] at kR
    have ey:=eq_yes
    generalize enc M = es at *
    refine zCh ?_
    simp (disch:=omega) [c51_o29,zG,q]
    refine zCh ?_
    simp (disch:=omega) [zG,q]
    refine W.seq (W.block ?_)
    refine zCh ?_
    simp (disch:=omega) [c51_o30,zG,q,gy,e1,e1',lg]
    refine zCh ?_
    simp (disch:=first|omega|exact zE rfl|exact zO|exact zL rfl) [c51_o31,zG,q,rl,hH2]
    refine zCh ?_
    simp (disch:=omega) [c51_o32,zG,q,gk,ma2,fits2l,fc]
    refine zCh ?_
    simp (disch:=omega) [c51_o33,zG,q,gb2,ey]
    refine W.cond (v:=zT) (by simp (disch:=omega) [zG,q]) ?_
    simp only [if_true,if_false,Bool.false_eq_true]
    refine W.chunk ?_
    simp (disch:=omega) [c51_o34,zG,q,gk,pt]
    refine W.chunk ?_
    simp (disch:=omega) [c51_o35,zG,q]
    exact kR _ _ ⟨fin,by simp [T.get,q]⟩
   | some pr =>
    obtain ⟨a,b'⟩:=pr
    have fa:=fE a l
    rw [acA a b' rfl,Option.map_some] at fa
    have ey:=eq_no a l
    have b0 : bxO l (some (a,b')) = [G (a : Nat),G (l : Nat)]:=rfl
    rw [b0] at gb2
    by_cases cc : b' < w
    ·rw [stO_gt hc cc] at kR
     have pt:=put_gen H2 pb 2 0 0 _ [G (c : Nat),G (l : Nat)] hN2 gb2 (by simp)
     have e : putAt [G (a : Nat),G (l : Nat)] 0 [G (c : Nat),G (l : Nat)] = [G (c : Nat),G (l : Nat)]:=rfl
     rw [e] at pt
     have b1 : bxO l (some (c,w)) = [G (c : Nat),G (l : Nat)]:=rfl
     rw [b1] at kR
     generalize enc M = es at *
     refine zCh ?_
     simp (disch:=omega) [c51_o29,zG,q]
     refine zCh ?_
     simp (disch:=omega) [zG,q]
     refine W.seq (W.block ?_)
     refine zCh ?_
     simp (disch:=omega) [c51_o30,zG,q,gy,e1,e1',lg]
     refine zCh ?_
     simp (disch:=first|omega|exact zE rfl|exact zO|exact zL rfl) [c51_o31,zG,q,rl,hH2]
     refine zCh ?_
     simp (disch:=omega) [c51_o32,zG,q,gk,ma2,fits2l,fc]
     refine zCh ?_
     simp (disch:=omega) [c51_o33,zG,q,gb2,ey,ma2,fits2l,fa,cc]
     refine W.cond (v:=zT) (by simp (disch:=omega) [zG,q]) ?_
     simp only [if_true,if_false,Bool.false_eq_true]
     refine W.chunk ?_
     simp (disch:=omega) [c51_o34,zG,q,gk,pt]
     refine W.chunk ?_
     simp (disch:=omega) [c51_o35,zG,q]
     exact kR _ _ ⟨fin,by simp [T.get,q]⟩
    ·rw [stO_le hc cc,b0] at kR
     generalize enc M = es at *
     refine zCh ?_
     simp (disch:=omega) [c51_o29,zG,q]
     refine zCh ?_
     simp (disch:=omega) [zG,q]
     refine W.seq (W.block ?_)
     refine zCh ?_
     simp (disch:=omega) [c51_o30,zG,q,gy,e1,e1',lg]
     refine zCh ?_
     simp (disch:=first|omega|exact zE rfl|exact zO|exact zL rfl) [c51_o31,zG,q,rl,hH2]
     refine zCh ?_
     simp (disch:=omega) [c51_o32,zG,q,gk,ma2,fits2l,fc]
     refine zCh ?_
     simp (disch:=omega) [c51_o33,zG,q,gb2,ey,ma2,fits2l,fa,cc]
     refine W.chunk ?_
     simp (disch:=omega) [c51_o34,zG,q]
     refine W.chunk ?_
     simp (disch:=omega) [c51_o35,zG,q]
     exact kR _ _ ⟨⟨kp2,gb2⟩,by simp [T.get,q]⟩
 ·refine Tr.w fun s1 H1 hp _ kR => W.trim ?_
  obtain ⟨⟨kp,gb⟩,q⟩:=hp
  rw [tk] at gb
  clear hg ry
  generalize L.length = nL at *
  refine zCh ?_
  simp (disch:=omega) [c51_o29,zG,q]
  refine zCh ?_
  simp (disch:=omega) [zG,q]
  exact kR _ _ ⟨⟨kp,gb⟩,by simp [T.get,q]⟩
end
theorem NV.kpb {H0 h h' : Heap} {x : AV} {L : List AV} {pb : Nat} (t : NV H0 h x L) (k : Kp (fun c => c = pb) h h') (h0 : H0.size ≤ pb) (ne : blk x ≠ some pb) : NV H0 h' x L:=by
 refine ⟨t.k.late k (fun q hq => by rw [hq]; exact h0),t.x0,?_⟩
 rcases t.l with l | ⟨b,e,g,hN⟩
 ·exact .inl l
 ·exact .inr ⟨b,e,k.at g (by simp) (fun q => ne (by rw [e,← q]; rfl)),by rw [k.N]; exact hN⟩
theorem NV.appE {H0 H : Heap} {x : AV} {L : List AV} (t : NV H0 H x L) (z : AV) (hn : (L.length + 1) * 16 ≤ 1099511627776) :
  ∃ x1 e H2,appA (H.plus [.cells 1 1 [z],.hole]) H.size (some 1) 1 16 1 [z] x = some (x1,e) ∧ Eff.app e (H.plus [.cells 1 1 [z],.hole]) = some H2 ∧ NV H0 H2 x1 (L ++ [z]) ∧ ((∃ i X,e = .fill i X) ∨ (∃ b v g vs,e = .ext b v g vs)) ∧ (∀ pb,pb < H.size → blk x ≠ some pb → H2.get pb = H.get pb):=by
 have kp : ∀ X,Kp (fun _ => False) H (H.plus X):=fun X => Kp.plus _ _
 rcases t.l with ⟨rfl,rfl⟩ | ⟨b,rfl,g,hN⟩
 ·refine ⟨.slice (H.size + 1) 0 1 1,.fill (H.size + 1) (.cells 1 1 [z]),H.plus [.cells 1 1 [z],.cells 1 1 [z]],rfl,fill_plus1 _ _ rfl _ _ _,⟨t.k.trans (kp _),fun q hq => ?_,.inr ⟨H.size + 1,rfl,?_,?_⟩⟩,.inl ⟨_,_,rfl⟩,fun pb hp _ => plus_lt _ _ _ hp⟩
  ·cases hq; have:=t.k.size; omega
  ·rw [plus_ge _ _ _ (by omega),show H.size + 1 - H.size = 1 by omega]; rfl
  ·show H.N ≤ H.size + 1; unfold Heap.size; omega
 ·have hlt:=get_lt g (by simp)
  have hb2 : (H.plus [.cells 1 1 [z],.hole]).get b = .cells 1 L.length L:=by rw [plus_lt _ _ _ hlt,g]
  have hN' : (H.plus [.cells 1 1 [z],.hole]).N ≤ b:=by rw [plus_N]; exact hN
  refine ⟨.slice b 0 (L.length + 1) (L.length + 1),.ext b L.length 1 [z],(H.plus [.cells 1 1 [z],.hole]).upd b (.cells 1 (L.length + 1) (L ++ [z])),?_,?_,⟨?_,fun q hq => t.x0 q hq,.inr ⟨b,by simp,?_,by rw [upd_N]; exact hN'⟩⟩,.inr ⟨_,_,_,_,rfl⟩,fun pb hp hq => ?_⟩
  ·simp only [appA,Nat.mul_one,Nat.one_mul]
   rw [if_neg (by decide),if_pos ⟨trivial,by simp,hn⟩]
  ·exact ext_gen _ b L.length 1 L [z] hN' hb2 rfl
  ·exact (t.k.trans (kp _)).late (Kp.upd (M:=fun q => q = b) _ _ _ hN' rfl) (fun q hq => by rw [hq]; exact t.x0 b rfl)
  ·rw [upd_same _ _ _ hN' (by rw [plus_size]; show b < H.size + 2; omega)]; simp
  ·rw [upd_ne _ _ _ _ hN' (fun e => hq (by rw [← e]; rfl)),plus_lt _ _ _ hp]
section
variable {S : List (List Nat)} {R : List (List Nat)} {u : Nat → Nat → Int} {p mb n N : Nat}
structure XB (S : List (List Nat)) (u : Nat → Nat → Int) (N : Nat) (s : Int) (i : Nat) (E done L : List Nat) : Prop where
 e : done ++ bP S u (N - i) L = E
 n : done.length = i
 l : L.length ≤ 1000
 lt : ∀ c ∈ L,c < S.length
 o : i < N → ∃ c w,bO (gv S u (N - 1 - i)) none L = some (c,w) ∧ (i = 0 → w = s)
theorem XB.next (os : OkS S) {s : Int} {i : Nat} {E done L : List Nat} (x : XB S u N s i E done L) (hi : i < N) {c : Nat} {w : Int} (hc : bO (gv S u (N - 1 - i)) none L = some (c,w)) : XB S u N s (i + 1) E (done ++ [c]) (S.getD c []):=by
 have cC : bC S u (N - 1 - i) L = c:=by unfold bC; rw [hc]; rfl
 have e:=x.e
 rw [show N - i = (N - 1 - i) + 1 by omega] at e
 have e2 : bP S u (N - 1 - i + 1) L = bC S u (N - 1 - i) L :: bP S u (N - 1 - i) (S.getD (bC S u (N - 1 - i) L) []):=rfl
 rw [e2,cC] at e
 refine ⟨?_,by rw [List.length_append,x.n]; rfl,os.len c,os.lt c,fun h => ?_⟩
 ·rw [show N - (i + 1) = N - 1 - i by omega,List.append_assoc]; exact e
 ·obtain ⟨_,_,h2,_⟩:=bO_mem hc
  have h2:=(bO_at hc).2
  rw [show N - 1 - i = (N - 1 - (i + 1)) + 1 by omega] at h2
  exact ⟨_,_,gv_next h2,fun e => by omega⟩
theorem c51_o40_ok (J : CallF) {H H4 : Heap} {x1 x8 z xz s18 s103 s104 : AV} {e : Eff} {bx vx mm nb pb c l : Nat} {w0 : List UInt8} {wl : List AV} (gp : H.get p = .cells 0 3 [.slice bx 0 n vx,.map mm,.slice nb 0 n n]) (gx : H.get bx = .cells 1 vx wl) (ew : wl[c]? = some (.str w0)) (lw : wl.length = n) (gb : H.get pb = .cells 0 2 [G (c : Nat),G (l : Nat)])
  (q1 : appA (H.plus [.cells 1 1 [.str w0],.hole]) H.size (some 1) 1 16 1 [.str w0] z = some (xz,e)) (q2 : Eff.app e (H.plus [.cells 1 1 [.str w0],.hole]) = some H4) (q3 : (∃ i X,e = .fill i X) ∨ (∃ b v g vs,e = .ext b v g vs)) :
  Tr tbl J c51_o40 (fun s h => h = H ∧ s.get [zF] = x1 ∧ s.get [zF,zF,zF] = .ptr p 0 3 ∧ s.get [zT,zF,zF] = x8 ∧ s.get [zF,zF,zF,zF] = z ∧ s.get [zT,zT,zF,zF] = s18 ∧ s.get [zT,zF,zT,zF] = .ptr pb 0 2 ∧ s.get [zF,zF,zF,zT,zF,zT] = s103 ∧ s.get [zT,zF,zF,zT,zF,zT] = s104) .normal (fun s h => h = H4 ∧ s.get [zF] = x1 ∧ s.get [zF,zF,zF] = .ptr p 0 3 ∧ s.get [zT,zF,zF] = x8 ∧ s.get [zF,zF,zF,zF] = xz ∧ s.get [zT,zT,zF,zF] = s18 ∧ s.get [zT,zF,zT,zF] = .ptr pb 0 2 ∧ s.get [zF,zF,zF,zT,zF,zT] = s103 ∧ s.get [zT,zF,zF,zT,zF,zT] = s104):=by
 have ew':=getI ew
 have hc : c < n:=by have:=(List.getElem?_eq_some_iff.1 ew).1; omega
 have f0:=fill_plus0 H H.size rfl (.cells 1 1 [.str w0]) [.hole]
 have pg : (H.plus [.cells 1 1 [.str w0],.hole]).get H.size = .cells 1 1 [.str w0]:=plus_at0 _ _ _ _ rfl
 have a1:=get_lt gp (by simp)
 have a2:=get_lt gx (by simp)
 have a3:=get_lt gb (by simp)
 have gp':=fun X => plus_keep X gp (by simp)
 have gx':=fun X => plus_keep X gx (by simp)
 have gb':=fun X => plus_keep X gb (by simp)
 rcases q3 with ⟨i',X',rfl⟩ | ⟨b',v',g',vs',rfl⟩
 all_goals
  refine Tr.w fun s1 H1 hp _ kR => ?_
  obtain ⟨rfl,q⟩:=hp
  refine W.chunk ?_
  simp (disch:=omega) [-evDraw_c,c51_o40,zG,q,evDraw_k,gp',gx',gb',ew,ew',lw,f0,pg,elems,rdOf,q1,q2]
  refine kR _ _ ?_
  simp [T.get,q]
set_option maxHeartbeats 2000000 in
theorem c51_l4_ok (J : CallF) {Hc : Heap} {b v bx vx mm nb : Nat} {M : List (Nat × Nat × Int)} {rs : List AV} {s : Int} {E : List Nat} {y0 : AV} (gM : Hc.get mb = .map (enc M)) (km : ∀ j l,j < n → l < N → mF M j l = gv S u l j) (hS : S.length = n) (os : OkS S) (gp : Hc.get p = .cells 0 3 [.slice bx 0 n vx,.map mm,.slice nb 0 n n]) (gx : Hc.get bx = .cells 1 vx (wsL R)) (hR : R.length = n) (gN : Hc.get nb = .cells 1 n rs) (lrs0 : rs.length = n) (h4 : ∀ i,i < n → ∃ y,rs[i]? = some y ∧ RV Hc y (gn (S.getD i []))) (N1 : 1 ≤ N) (N40 : N ≤ 40) :
  Tr tbl J c51_l4 (fun t h => ∃ z y done L,(NV Hc h z (wsL (rT2 R done)) ∧ RV h y (gn L) ∧ XB S u N s 0 E done L) ∧ t.get [zF] = .slice b 0 N v ∧ t.get [zF,zF,zF] = .ptr p 0 3 ∧ t.get [zT,zF,zF] = .map mb ∧ t.get [zF,zF,zF,zF] = z ∧ t.get [zT,zF,zF,zF] = y ∧ t.get [zT,zT,zF,zF] = G (if 0 = 0 then 0 else s) ∧ t.get [zF,zF,zF,zT,zF,zT] = G N ∧ t.get [zT,zF,zF,zT,zF,zT] = G ((0 : Nat) : Int)) (.exit 6)
   (fun t h => ∃ z,NV Hc h z (wsL (rT2 R E)) ∧ t.get [zF,zF,zF,zF] = z ∧ t.get [zT,zT,zF,zF] = G s):=by
 have n2:=os.n
 refine Tr.rounds (e:=.exit 6) (P:=fun i t h => ∃ z y done L,(NV Hc h z (wsL (rT2 R done)) ∧ RV h y (gn L) ∧ XB S u N s i E done L) ∧ t.get [zF] = .slice b 0 N v ∧ t.get [zF,zF,zF] = .ptr p 0 3 ∧ t.get [zT,zF,zF] = .map mb ∧ t.get [zF,zF,zF,zF] = z ∧ t.get [zT,zF,zF,zF] = y ∧ t.get [zT,zT,zF,zF] = G (if i = 0 then 0 else s) ∧ t.get [zF,zF,zF,zT,zF,zT] = G N ∧ t.get [zT,zF,zF,zT,zF,zT] = G (i : Nat)) (M:=N) (fun i hi => ?_) ?_ (by simp) 0 (by omega)
 ·refine Tr.w fun s1 H1 hp _ kR => W.trim ?_
  obtain ⟨z,y,done,L,⟨nv,ry,xb⟩,q⟩:=hp
  obtain ⟨c,w,hc,hw⟩:=xb.o hi
  have xb2:=xb.next os hi hc
  obtain ⟨cm,hcv⟩:=bO_at hc
  have hcn : c < n:=by rw [← hS]; exact xb.lt c cm
  have k1:=nv.k
  obtain ⟨Hp,hHp⟩ : ∃ H,H1.plus [.cells 0 2 [G (-1),G 0]] = H:=⟨_,rfl⟩
  have kp : Kp (fun _ => False) H1 Hp:=by rw [← hHp]; exact Kp.plus _ _
  have gb : Hp.get H1.size = .cells 0 2 [G (-1),G 0]:=by rw [← hHp]; exact plus_at0 _ _ _ _ rfl
  have hNp : Hp.N ≤ H1.size:=by rw [kp.N]; unfold Heap.size; omega
  have ny : blk y ≠ some H1.size:=fun e => by
   rcases ry with ⟨rfl,_⟩ | ⟨b',v',rfl,g⟩
   ·cases e
   ·cases e
    have:=get_lt g (by simp)
    omega
  have nz : blk z ≠ some H1.size:=fun e => by
   rcases nv.l with ⟨rfl,_⟩ | ⟨b',rfl,g,_⟩
   ·cases e
   ·cases e
    have:=get_lt g (by simp)
    omega
  have l3:=c51_l3_ok (b:=b) (v:=v) (p:=p) (z:=z) (sm:=G (if i = 0 then 0 else s)) J (kp.at (k1.at gM (by simp) id) (by simp) id) (fun k hk => km k (N - 1 - i) (by rw [← hS]; exact xb.lt k hk) (by omega)) (ry.kp kp (fun _ _ => id)) xb.l rfl hi N40 gb hNp ny
  rw [hc] at l3
  have bxv : bxO (N - 1 - i) (some (c,w)) = [G (c : Nat),G (N - 1 - i : Nat)]:=rfl
  rw [bxv] at l3
  have lL:=xb.l
  have sy:=ry.sl
  rw [gn_len] at sy
  have post : ∀ H3,Kp (fun q => q = H1.size) Hp H3 ∧ H3.get H1.size = .cells 0 2 [G (c : Nat),G (N - 1 - i : Nat)] → Kp (fun _ => False) Hc H3 ∧ NV Hc H3 z (wsL (rT2 R done)) ∧ H3.get H1.size = .cells 0 2 [G (c : Nat),G (N - 1 - i : Nat)]:=fun H3 ⟨k3,g3⟩ => by
   have nv3:=(nv.kp kp).kpb k3 k1.size nz
   exact ⟨nv3.k,nv3,g3⟩
  have ew:=wsL_at (R:=R) (i:=c) (by omega)
  have ew':=getI ew
  have lw:=wsL_len R
  rw [hR] at lw
  obtain ⟨yc,ec,rc⟩:=h4 c hcn
  have ec':=getI ec
  have lrs:=(List.getElem?_eq_some_iff.1 ec).1
  have fa:=find_encl c (N - 1 - i) M
  rw [km c (N - 1 - i) hcn (by omega),hcv,Option.map_some] at fa
  have ey:=eq_no c (N - 1 - i)
  have eew : wsL (rT2 R done) ++ [.str (stW (R.getD c []))] = wsL (rT2 R (done ++ [c])):=by
   unfold wsL
   rw [rT2_app,List.map_append]; rfl
  have apq : ∀ H3,NV Hc H3 z (wsL (rT2 R done)) → ∃ x1 e H4,appA (H3.plus [.cells 1 1 [.str (stW (R.getD c []))],.hole]) H3.size (some 1) 1 16 1 [.str (stW (R.getD c []))] z = some (x1,e) ∧ Eff.app e (H3.plus [.cells 1 1 [.str (stW (R.getD c []))],.hole]) = some H4 ∧ NV Hc H4 x1 (wsL (rT2 R (done ++ [c]))) ∧ ((∃ i X,e = .fill i X) ∨ (∃ b v g vs,e = .ext b v g vs)) ∧ (∀ pb,pb < H3.size → blk z ≠ some pb → H4.get pb = H3.get pb):=fun H3 nv3 => by
   have:=nv3.appE (.str (stW (R.getD c []))) (by rw [wsL_len,rT2_len,xb.n]; omega)
   rw [eew] at this
   exact this
  have i1 : ((i + 1 : Nat) : Int) = (i : Int) + 1:=by omega
  have iz : ¬ (i + 1 = 0):=by omega
  rw [if_neg iz,i1] at kR
  have lrs' : rs.length = n:=lrs0
  clear nv ry xb h4 hcv eew hc bxv
  generalize N - 1 - i = l at *
  have z0 : ((0 : Nat) : Int) = 0:=rfl
  rcases sy with ⟨rfl,e0⟩ | ⟨by',vy,rfl⟩
  ·have : L = []:=List.length_eq_zero_iff.1 e0
   subst this; cases cm
  ·cases i with
   | zero =>
    obtain rfl:=hw rfl
    rw [if_pos rfl] at q l3
    generalize L.length = nL at *
    generalize stW (R.getD c []) = w0 at *
    generalize wsL R = wl at *
    generalize enc M = es at *
    refine zCh ?_
    simp (disch:=omega) [c51_o25,zG,q]
    refine zCh ?_
    simp (disch:=omega) [zG,q]
    refine W.seq (W.block ?_)
    refine zCh ?_
    simp (disch:=omega) [c51_o26,zG,q]
    refine zCh ?_
    simp (disch:=first|omega|exact zE rfl|exact zO|exact zL rfl) [c51_o27,zG,q,hHp]
    refine W.assoc ?_
    refine zCh ?_
    simp (disch:=omega) [c51_o28,zG,q]
    refine W.seq (W.block ?_)
    refine W.use (l3) (by simp (disch:=omega) [zG,q]) fun s1 H1 hp => ?_
    obtain ⟨kg,q⟩:=hp
    try simp only [zW,if_true]
    obtain ⟨k3,nv3,gb3⟩:=post _ kg
    have gp3:=k3.at gp (by simp) id
    have gx3:=k3.at gx (by simp) id
    have gM3:=k3.at gM (by simp) id
    have ma3:=mapA_at gM3
    refine W.assoc ?_
    refine zCh ?_
    simp (disch:=omega) [c51_o36,zG,q,gb3,ey]
    refine zCh ?_
    simp (disch:=omega) [c51_o37,zG,q]
    refine W.assoc ?_
    refine zCh ?_
    simp (disch:=omega) [c51_o38,zG,q]
    refine W.seq (W.cond (v:=zT) (by simp (disch:=omega) [zG,q]) ?_)
    simp only [if_true,if_false,Bool.false_eq_true]
    refine W.chunk ?_
    simp (disch:=omega) [c51_o39,zG,q,gb3,ma3,fits2l,fa]
    obtain ⟨x1,e,H4,q1,q2,nv4,q3,q5⟩:=apq _ nv3
    refine W.seq (W.use (c51_o40_ok (x1:=.slice b 0 N v) (x8:=.map mb) (s18:=G w) (s103:=G (N : Nat)) (s104:=G 0) J gp3 gx3 ew lw gb3 q1 q2 q3) (by simp (disch:=omega) [zG,q]) fun s1 H1 hp => ?_)
    obtain ⟨rfl,q⟩:=hp
    try simp only [zW,if_true]
    have k4:=nv4.k
    have gp4:=k4.at gp (by simp) id
    have gN4:=k4.at gN (by simp) id
    have gb4:=(q5 _ (get_lt gb3 (by simp)) nz).trans gb3
    refine W.chunk ?_
    simp (disch:=omega) [c51_o41,zG,q,gp4,gN4,ec,ec',gb4,lrs',-evDraw_c,evDraw_0]
    refine W.chunk ?_
    simp (disch:=omega) [c51_o42,zG,q]
    exact kR _ _ ⟨_,_,_,_,⟨nv4,rc.kp k4 (fun _ _ => id),xb2⟩,by simp [T.get,q]⟩
   | succ i =>
    rw [if_neg (by omega)] at q l3
    have i0 : ¬ ((i + 1 : Nat) : Int) = 0:=by omega
    generalize i + 1 = ii at *
    generalize L.length = nL at *
    generalize stW (R.getD c []) = w0 at *
    generalize wsL R = wl at *
    generalize enc M = es at *
    refine zCh ?_
    simp (disch:=omega) [c51_o25,zG,q]
    refine zCh ?_
    simp (disch:=omega) [zG,q]
    refine W.seq (W.block ?_)
    refine zCh ?_
    simp (disch:=omega) [c51_o26,zG,q]
    refine zCh ?_
    simp (disch:=first|omega|exact zE rfl|exact zO|exact zL rfl) [c51_o27,zG,q,hHp]
    refine W.assoc ?_
    refine zCh ?_
    simp (disch:=omega) [c51_o28,zG,q]
    refine W.seq (W.block ?_)
    refine W.use (l3) (by simp (disch:=omega) [zG,q]) fun s1 H1 hp => ?_
    obtain ⟨kg,q⟩:=hp
    try simp only [zW,if_true]
    obtain ⟨k3,nv3,gb3⟩:=post _ kg
    have gp3:=k3.at gp (by simp) id
    have gx3:=k3.at gx (by simp) id
    have gM3:=k3.at gM (by simp) id
    have ma3:=mapA_at gM3
    refine W.assoc ?_
    refine zCh ?_
    simp (disch:=omega) [c51_o36,zG,q,gb3,ey]
    refine zCh ?_
    simp (disch:=omega) [c51_o37,zG,q]
    refine W.assoc ?_
    refine zCh ?_
    simp (disch:=omega) [c51_o38,zG,q,i0]
    refine W.seq (W.cond (v:=zF) (by simp (disch:=omega) [zG,q]) ?_)
    simp only [if_true,if_false,Bool.false_eq_true]
    refine W.skip ?_
    try simp only [zW,if_true]
    obtain ⟨x1,e,H4,q1,q2,nv4,q3,q5⟩:=apq _ nv3
    refine W.seq (W.use (c51_o40_ok (x1:=.slice b 0 N v) (x8:=.map mb) (s18:=G s) (s103:=G (N : Nat)) (s104:=G (ii : Nat)) J gp3 gx3 ew lw gb3 q1 q2 q3) (by simp (disch:=omega) [zG,q]) fun s1 H1 hp => ?_)
    obtain ⟨rfl,q⟩:=hp
    try simp only [zW,if_true]
    have k4:=nv4.k
    have gp4:=k4.at gp (by simp) id
    have gN4:=k4.at gN (by simp) id
    have gb4:=(q5 _ (get_lt gb3 (by simp)) nz).trans gb3
    refine W.chunk ?_
    simp (disch:=omega) [c51_o41,zG,q,gp4,gN4,ec,ec',gb4,lrs',-evDraw_c,evDraw_0]
    refine W.chunk ?_
    simp (disch:=omega) [c51_o42,zG,q]
    exact kR _ _ ⟨_,_,_,_,⟨nv4,rc.kp k4 (fun _ _ => id),xb2⟩,by simp [T.get,q]⟩
 ·refine Tr.w fun s1 H1 hp _ kR => W.trim ?_
  obtain ⟨z,y,done,L,⟨nv,ry,xb⟩,q⟩:=hp
  have e:=xb.e
  rw [Nat.sub_self] at e
  have : done = E:=by rw [← e]; exact (List.append_nil _).symm
  subst this
  rw [if_neg (by omega)] at q
  clear ry xb h4
  refine zCh ?_
  simp (disch:=omega) [c51_o25,zG,q]
  refine zCh ?_
  simp (disch:=omega) [zG,q]
  exact kR _ _ ⟨_,nv,by simp [T.get,q]⟩
end
section
variable {qq m n p b v i : Nat} {Wt : List (List (List Int))} {x1 x2 : AV}
end
def Pre52 (b : A83) (args : List AV) (h : Heap) : Prop:=(Ok83 b h ∧ 1 ≤ b.qq ∧ b.qq ≤ 3) ∧ args = [.agg [G b.qq,b.x1,b.x2],b.x]
noncomputable def U52 : CallF:=addK tbl noIntr 52 Pre52 Post83
theorem u52 : Sound zp U52:=Sound.addK follows ok Sound.empty (by decide) _ _
theorem gDm {α : Type} {L : List α} {i : Nat} {d : α} (h : i < L.length) : L.getD i d ∈ L:=by
 rw [zd,zq h]; exact List.getElem_mem _
theorem wtB_ok {q : Nat} {Wt : List (List (List Int))} (h : wtB q Wt = zT) : ∃ m,(Wt.getD 0 []).length = m ∧ 1 ≤ m ∧ m ≤ 5 ∧ 1 ≤ Wt.length ∧ Wt.length ≤ 40 ∧ ∀ i,i < Wt.length → (Wt.getD i []).length = m ∧ ∀ l ∈ Wt.getD i [],l.length = q ∧ l.all smB = zT:=by
 unfold wtB at h
 simp only [Bool.and_eq_true,decide_eq_true_eq] at h
 obtain ⟨⟨h1,h2⟩,h3⟩:=h
 refine ⟨_,rfl,h2.1,h2.2,h1.1,h1.2,fun i hi => ?_⟩
 have:=List.all_eq_true.1 h3 (Wt.getD i []) (gDm hi)
 unfold gridB at this
 simp only [Bool.and_eq_true,decide_eq_true_eq] at this
 refine ⟨this.1,fun l hl => ?_⟩
 have:=List.all_eq_true.1 this.2 l hl
 unfold cellB at this
 simpa using this
theorem WT.wn {h : Heap} {x : AV} {Wt : List (List (List Int))} {q m : Nat} (t : WT h x Wt) (hw : wtB q Wt = zT) (hm : (Wt.getD 0 []).length = m) (q1 : 1 ≤ q) : WN h x Wt.length m q Wt ∧ SmA Wt.length m q Wt:=by
 obtain ⟨m',e,m1,m5,n1,n40,h3⟩:=wtB_ok hw
 rw [hm] at e
 subst e
 refine ⟨?_,fun i hi i' j hi' hj => ?_⟩
 ·rcases t with ⟨_,e⟩ | ⟨b,v,cs,rfl,g,lc,hr⟩
  ·rw [e] at n1; simp at n1
  ·refine ⟨b,v,cs,rfl,g,lc,fun i hi => ?_⟩
   obtain ⟨M,e1,e2⟩:=hr i cs[i] (zq (by omega))
   have e3 : Wt.getD i [] = M:=by rw [zd,e1]; rfl
   obtain ⟨h4,h5⟩:=h3 i hi
   rw [e3] at h4 h5 ⊢
   exact ⟨cs[i],zq (by omega),e2.trw h4 (fun l hl => (h5 l hl).1) m1 q1⟩
 ·obtain ⟨h4,h5⟩:=h3 i hi
  have lm : (Wt.getD i []).getD i' [] ∈ Wt.getD i []:=gDm (by omega)
  obtain ⟨h6,h7⟩:=h5 _ lm
  have:=List.all_eq_true.1 h7 (((Wt.getD i []).getD i' []).getD j 0) (gDm (by omega))
  have:=of_decide_eq_true this
  exact this
section
variable {S : List (List Nat)} {R : List (List Nat)} {Wt : List (List (List Int))} {N m q p mb bx vx n : Nat}
theorem c51_l0_e (J : CallF) {H : Heap} {x a b c d : AV} :
  Tr tbl J c51_l0 (fun s h => h = H ∧ s.get [zF] = x ∧ s.get [zF,zF,zF] = a ∧ s.get [zT,zF,zF] = b ∧ s.get [zF,zT,zF] = c ∧ s.get [zT,zT,zF] = d ∧ s.get [zF,zT,zF,zT,zT] = .nils ∧ s.get [zT,zT,zF,zT,zT] = G 0 ∧ s.get [zF,zF,zT,zT,zT] = G 0) (.exit 2) (fun s h => h = H ∧ s.get [zF] = x ∧ s.get [zF,zF,zF] = a ∧ s.get [zT,zF,zF] = b ∧ s.get [zF,zT,zF] = c):=by
 refine Tr.out ?_ (by simp)
 refine Tr.w fun s1 H1 hp _ kR => W.trim ?_
 obtain ⟨rfl,q⟩:=hp
 refine zCh ?_
 simp (disch:=omega) [c51_o9,zG,q]
 refine zCh ?_
 simp (disch:=omega) [zG,q]
 exact kR _ _ (by simp [T.get,q])
theorem c51_l1_e (J : CallF) {H : Heap} {b v mm : Nat} {nx : AV} (gp : H.get p = .cells 0 3 [.nils,.map mm,nx]) (N40 : N ≤ 40) :
  Tr tbl J c51_l1 (fun s h => h = H ∧ s.get [zF] = .slice b 0 N v ∧ s.get [zF,zF,zF] = .ptr p 0 3 ∧ s.get [zT,zF,zF] = .map mb ∧ s.get [zF,zT,zF] = G ((N : Int) - 1)) (.exit 0) (fun s h => h = H ∧ s.get [zF] = .slice b 0 N v ∧ s.get [zF,zF,zF] = .ptr p 0 3 ∧ s.get [zT,zF,zF] = .map mb):=by
 refine Tr.pre (P:=(fun s h => h = H ∧ s.get [zF] = .slice b 0 N v ∧ s.get [zF,zF,zF] = .ptr p 0 3 ∧ s.get [zT,zF,zF] = .map mb ∧ s.get [zF,zT,zF] = G ((N : Int) - 1 - ((0 : Nat) : Int)))) (fun s h q => by rw [show (N : Int) - 1 - ((0 : Nat) : Int) = (N : Int) - 1 by omega]; exact q) ?_
 refine Tr.rounds (P:=fun t => (fun s h => h = H ∧ s.get [zF] = .slice b 0 N v ∧ s.get [zF,zF,zF] = .ptr p 0 3 ∧ s.get [zT,zF,zF] = .map mb ∧ s.get [zF,zT,zF] = G ((N : Int) - 1 - (t : Nat)))) (M:=N) (fun t ht => ?_) ?_ (by simp) 0 (by omega)
 ·refine Tr.w fun s1 H1 hp _ kR => W.trim ?_
  obtain ⟨rfl,q⟩:=hp
  have t1 : (N : Int) - 1 - ((t + 1 : Nat) : Int) = (N : Int) - 1 - (t : Int) - 1:=by omega
  rw [t1] at kR
  have ge : (0 : Int) ≤ (N : Int) - 1 - t:=by omega
  have bk : (N : Int) - 1 - ((N : Int) - 1 - t) = t:=by omega
  have sml : (N : Int) - 1 - t ≤ 40:=by omega
  generalize (N : Int) - 1 - t = ii at *
  have l0:=c51_l0_e J (H:=H1) (x:=.slice b 0 N v) (a:=.ptr p 0 3) (b:=.map mb) (c:=G ii) (d:=G t)
  refine W.assoc ?_
  refine zCh ?_
  simp (disch:=omega) [c51_o6,zG,q,ge]
  refine zCh ?_
  simp (disch:=omega) [zG,q]
  refine W.seq (W.block ?_)
  refine zCh ?_
  simp (disch:=omega) [c51_o7,zG,q,bk]
  refine zCh ?_
  simp (disch:=omega) [c51_o8,zG,q,gp]
  refine W.block ?_
  refine W.use (l0) (by simp (disch:=omega) [zG,q]) fun s1 H1 hp => ?_
  obtain ⟨rfl,q⟩:=hp
  try simp only [zW,if_true]
  refine W.chunk ?_
  simp (disch:=omega) [c51_o15,zG,q]
  exact kR _ _ (by simp [T.get,q])
 ·refine Tr.w fun s1 H1 hp _ kR => W.trim ?_
  obtain ⟨rfl,q⟩:=hp
  have t1 : (N : Int) - 1 - (N : Int) = -1:=by omega
  rw [t1] at q
  refine W.assoc ?_
  refine zCh ?_
  simp (disch:=omega) [c51_o6,zG,q]
  refine zCh ?_
  simp (disch:=omega) [zG,q]
  exact kR _ _ (by simp [T.get,q])
theorem c51_l4_no (J : CallF) {Hc : Heap} {b v br l : Nat} {u : Nat → Nat → Int} {M : List (Nat × Nat × Int)} (gM : Hc.get mb = .map (enc M)) (km : ∀ j,j < n → mF M j l = gv S u l j) (hl : l = N - 1 - 0) (gb : Hc.get br = .cells 1 n (gn (List.range n))) (n2 : n ≤ 1000) (N1 : 1 ≤ N) (N40 : N ≤ 40) (hno : bO (gv S u l) none (List.range n) = none) :
  Tr tbl J c51_l4 (fun s h => h = Hc ∧ s.get [zF] = .slice b 0 N v ∧ s.get [zF,zF,zF] = .ptr p 0 3 ∧ s.get [zT,zF,zF] = .map mb ∧ s.get [zF,zF,zF,zF] = .nils ∧ s.get [zT,zF,zF,zF] = .slice br 0 n n ∧ s.get [zT,zT,zF,zF] = G 0 ∧ s.get [zF,zF,zF,zT,zF,zT] = G N ∧ s.get [zT,zF,zF,zT,zF,zT] = G 0) .ret (fun s h => s.get [zT,zF] = .nils ∧ s.get [zF,zT] = G 0 ∧ s.get [zT,zT] = G 6):=by
 refine Tr.out ?_ (by simp)
 obtain ⟨Hp,hHp⟩ : ∃ H,Hc.plus [.cells 0 2 [G (-1),G 0]] = H:=⟨_,rfl⟩
 have kp : Kp (fun _ => False) Hc Hp:=by rw [← hHp]; exact Kp.plus _ _
 have gx : Hp.get Hc.size = .cells 0 2 [G (-1),G 0]:=by rw [← hHp]; exact plus_at0 _ _ _ _ rfl
 have hNp : Hp.N ≤ Hc.size:=by rw [kp.N]; unfold Heap.size; omega
 have lg:=gn_len (List.range n)
 rw [List.length_range] at lg
 have ry : RV Hc (.slice br 0 n n) (gn (List.range n)):=.inr ⟨br,n,by rw [lg],gb⟩
 have nb : blk (.slice br 0 n n) ≠ some Hc.size:=fun e => by
  cases e
  have:=get_lt gb (by simp)
  omega
 have l3:=c51_l3_ok (b:=b) (v:=v) (p:=p) (z:=.nils) (sm:=G 0) (L:=List.range n) J (kp.at gM (by simp) id) (fun k hk => km k (List.mem_range.1 hk)) (ry.kp kp (fun _ _ => id)) (by rw [List.length_range]; exact n2) hl (show 0 < N by omega) N40 gx hNp nb
 rw [hno,List.length_range] at l3
 have bxv : bxO l none = [G (-1),G 0]:=rfl
 rw [bxv] at l3
 have ey:=eq_yes
 have z0 : ((0 : Nat) : Int) = 0:=rfl
 rw [z0] at l3
 clear ry nb km hno
 generalize gn (List.range n) = gl at *
 refine Tr.w fun s1 H1 hp _ kR => W.trim ?_
 obtain ⟨rfl,q⟩:=hp
 refine zCh ?_
 simp (disch:=omega) [c51_o25,zG,q]
 refine zCh ?_
 simp (disch:=omega) [zG,q]
 refine W.seq (W.block ?_)
 refine zCh ?_
 simp (disch:=omega) [c51_o26,zG,q]
 refine zCh ?_
 simp (disch:=first|omega|exact zE rfl|exact zO|exact zL rfl) [c51_o27,zG,q,hHp]
 refine W.assoc ?_
 refine zCh ?_
 simp (disch:=omega) [c51_o28,zG,q]
 refine W.seq (W.block ?_)
 refine W.use (l3) (by simp (disch:=omega) [zG,q]) fun s1 H1 hp => ?_
 obtain ⟨⟨k3,g3⟩,q⟩:=hp
 try simp only [zW,if_true]
 refine W.assoc ?_
 refine zCh ?_
 simp (disch:=omega) [c51_o36,zG,q,g3,ey]
 refine zCh ?_
 simp (disch:=omega) [c51_o37,zG,q]
 exact kR _ _ (by simp [T.get])
end
def okB (a : AR) (Wt : List (List (List Int))) : Bool:=a.ru && wtB a.q.toNat Wt
def Post51 (a : AR) (Wt : List (List (List Int))) (h : Heap) (v : AV) (own : List AObj) : Prop :=
 (okB a Wt = zF → v = .tup [.nils,G 0,G 2] ∧ own = []) ∧
 (okB a Wt = zT → ∀ (m : Nat) (S R : List (List Nat)) (u : Nat → Nat → Int),(Wt.getD 0 []).length = m → a.steps (m : Nat) = S → a.rows (m : Nat) = R → uZ Wt R Wt.length m = u →
  (bO (gv S u (Wt.length - 1)) none (List.range S.length) = none → v = .tup [.nils,G 0,G 6] ∧ own = []) ∧
  ∀ c s,bO (gv S u (Wt.length - 1)) none (List.range S.length) = some (c,s) → ∃ x,v = .tup [x,G s,G 0] ∧ (∀ q,blk x = some q → h.size ≤ q) ∧ RV (h.plus own) x (wsL (rT2 R (bP S u Wt.length (List.range S.length)))))
section
variable {a : AR} {x : AV} {Wt : List (List (List Int))}
theorem post51_arg {h : Heap} (e : okB a Wt = zF) : Post51 a Wt h (.tup [.nils,G 0,G 2]) []:=⟨fun _ => ⟨rfl,rfl⟩,fun e' => (by rw [e] at e'; cases e')⟩
theorem mbs0 {S : List (List Nat)} {u : Nat → Nat → Int} {mb : Nat} {h : Heap} (g : h.get mb = .map []) : MBs S u mb h h 0 0:=⟨Kp.refl _,[],g,fun j' hj' l => by rw [if_neg (by omega)]; rfl⟩
theorem mbsE {S : List (List Nat)} {u : Nat → Nat → Int} {mb N : Nat} {h : Heap} (g : h.get mb = .map []) (e : S.length = 0) : MBs S u mb h h N 0:=⟨Kp.refl _,[],g,fun j' hj' l => by omega⟩
set_option maxHeartbeats 4000000 in
theorem c51_ok (J : CallF) (k57 : KR 57 J) (k61 : K61 J) (k83 : K83 83 J) (k84 : K84 J) (k85 : K85 85 J) (hJ : ∀ a h,J 51 a h = none) (h : Heap) (o : OkR a h) (t : WT h x Wt) (n1 : Wt.length ≤ 1000000) (big : ∀ M ∈ Wt,M.length ≤ 1000000 ∧ ∀ l ∈ M,l.length ≤ 1000000) :
  ∃ v own,CallsTo tbl J 51 [a.v,x] h (v,own,zF) ∧ Post51 a Wt h v own:=by
 obtain ⟨Hs,hHs⟩ : ∃ H,(frameOf h).plus [.cells 0 3 [G a.q,a.x,a.y]] = H:=⟨_,rfl⟩
 have kHs : Kp (fun _ => False) (frameOf h) Hs:=by rw [← hHs]; exact Kp.plus _ _
 have oH : OkR a Hs:=OkR.kp (o.lo []) kHs
 have gS : Hs.get h.size = .cells 0 3 [G a.q,a.x,a.y]:=by rw [← hHs]; exact plus_at0 _ _ _ _ (frS h)
 have e57:=k57 Hs a oH
 have er : ruQ a.q a.B a.W = a.ru:=rfl
 rw [er] at e57
 have tH : WT Hs x Wt:=t.fr.kp kHs
 have fz:=frS h
 have av : a.v = .agg [G a.q,a.x,a.y]:=rfl
 cases r : a.ru
 ·have : CallsTo tbl J 51 [a.v,x] h (.tup [.nils,G 0,G 2],[],zF):=by
   refine Tr.fnv (cf:=c51) (e:=.ret) (s:=T.set (T.set .leaf [] a.v) [zF] x) (by decide) rfl (hJ _ _) rfl rfl rfl (by simp) ?_
   refine Tr.post (Q:=(fun s h => s.get [zT,zF] = .nils ∧ s.get [zF,zT] = G 0 ∧ s.get [zT,zT] = G 2)) (fun s h q => by simp [c51,q]) ?_
   rw [r] at e57
   clear oH o t tH big kHs
   refine Tr.w fun s1 H1 hp _ kR => ?_
   obtain ⟨rfl,rfl⟩:=hp
   have q : True:=trivial
   refine zCh ?_
   simp (disch:=omega) [c51_o0,zG,q,hHs]
   refine W.assoc ?_
   refine zCh ?_
   simp (disch:=omega) [c51_o1,zG,q,fz,gS,e57]
   refine zCh ?_
   simp (disch:=omega) [c51_o2,zG,q]
   exact kR _ _ (by simp [T.get])
  exact ⟨_,_,this,post51_arg (by unfold okB; rw [r]; rfl)⟩
 ·rw [r] at e57
  have q3:=a.q3 r
  have qn : ((a.q.toNat : Nat) : Int) = a.q:=by omega
  have e83:=k83 Hs ⟨a.q.toNat,a.x,a.y,x,Wt⟩ ⟨tH,n1,big⟩
  simp only [qn] at e83
  cases w : wtB a.q.toNat Wt
  ·have : CallsTo tbl J 51 [a.v,x] h (.tup [.nils,G 0,G 2],[],zF):=by
    refine Tr.fnv (cf:=c51) (e:=.ret) (s:=T.set (T.set .leaf [] a.v) [zF] x) (by decide) rfl (hJ _ _) rfl rfl rfl (by simp) ?_
    refine Tr.post (Q:=(fun s h => s.get [zT,zF] = .nils ∧ s.get [zF,zT] = G 0 ∧ s.get [zT,zT] = G 2)) (fun s h q => by simp [c51,q]) ?_
    rw [w] at e83
    clear oH o t tH big kHs
    refine Tr.w fun s1 H1 hp _ kR => ?_
    obtain ⟨rfl,rfl⟩:=hp
    have q : True:=trivial
    refine zCh ?_
    simp (disch:=omega) [c51_o0,zG,q,hHs]
    refine W.assoc ?_
    refine zCh ?_
    simp (disch:=omega) [c51_o1,zG,q,fz,gS,e57,e83]
    refine zCh ?_
    simp (disch:=omega) [c51_o2,zG,q]
    exact kR _ _ (by simp [T.get])
   exact ⟨_,_,this,post51_arg (by unfold okB; rw [w,Bool.and_false])⟩
  ·rw [w] at e83
   obtain ⟨m,hm,m1,m5,N1,N40,_⟩:=wtB_ok w
   have ok0 : okB a Wt = zT:=by unfold okB; rw [r,w]; rfl
   obtain ⟨wn,sm⟩:=tH.wn w hm (by omega)
   have wn0:=wn
   obtain ⟨b,v,cs,rfl,gw,lc,hr⟩:=wn0
   obtain ⟨y0,ey0,b0,v0,cs0,rfl,_⟩:=hr 0 N1
   have ey0':=getI ey0
   have rm : a.rm (m : Nat) = zT:=by
    unfold AR.rm
    rw [r,decide_eq_true (by omega)]; rfl
   obtain ⟨os,s243,sr⟩:=AR.steps_ok rm
   obtain ⟨p,own,e61,lm⟩:=k61 Hs a.g m (oH.g r) m5
   rw [a.gv r,av] at e61
   rw [av]
   obtain ⟨Z,hZ⟩ : ∃ Z,Hs.plus own = Z:=⟨_,rfl⟩
   have kZ : Kp (fun _ => False) Hs Z:=by rw [← hZ]; exact Kp.plus _ _
   rw [hZ] at lm
   have hrows : rwL a.g.q a.g.B m = a.rows (m : Nat):=by
    unfold AR.rows AR.g
    rw [Int.toNat_natCast]
   have hsteps : stL a.g.W (a.rows (m : Nat)) = a.steps (m : Nat):=rfl
   have ra : RwA (a.rows (m : Nat)) m a.q.toNat:=fun w' hw' => by
    rw [← hrows] at hw'
    have:=rwL_mem hw'
    exact ⟨this.1,this.2.1⟩
   have lf:=lm.lf
   rw [hrows] at lm lf
   rw [hsteps] at lf
   obtain ⟨x0,mm,nb,rs,f1,rx,_,gN,_,lrs,h7⟩:=lm
   have h4 : ∀ i,i < (a.steps (m : Nat)).length → ∃ y,rs[i]? = some y ∧ RV Z y (gn ((a.steps (m : Nat)).getD i [])):=fun i hi => by
    obtain ⟨y,e1,e2,_⟩:=h7 i (by rw [← sr]; exact hi)
    refine ⟨y,e1,?_⟩
    have : (a.steps (m : Nat)).getD i [] = nxL a.g.W (a.rows (m : Nat)) ((a.rows (m : Nat)).getD i []):=by
     rw [← hsteps,zd,zd]
     unfold stL
     rw [List.getElem?_map,zq (by rw [← sr]; exact hi)]; rfl
    rw [this]; exact e2
   obtain ⟨S,hSS⟩ : ∃ S,a.steps (m : Nat) = S:=⟨_,rfl⟩
   obtain ⟨R,hRR⟩ : ∃ R,a.rows (m : Nat) = R:=⟨_,rfl⟩
   obtain ⟨u,hu⟩ : ∃ u,uZ Wt R Wt.length m = u:=⟨_,rfl⟩
   have ePost : ∀ v own,((bO (gv S u (Wt.length - 1)) none (List.range S.length) = none → v = AV.tup [.nils,G 0,G 6] ∧ own = []) ∧ ∀ c s,bO (gv S u (Wt.length - 1)) none (List.range S.length) = some (c,s) → ∃ x,v = .tup [x,G s,G 0] ∧ (∀ q,blk x = some q → h.size ≤ q) ∧ RV (h.plus own) x (wsL (rT2 R (bP S u Wt.length (List.range S.length))))) → Post51 a Wt h v own:=fun v own hp => by
    refine ⟨fun e => (by rw [ok0] at e; cases e),fun _ m' S' R' u' e1 e2 e3 e4 => ?_⟩
    rw [hm] at e1
    subst e1
    rw [hSS] at e2
    rw [hRR] at e3
    subst e2; subst e3
    rw [hu] at e4
    subst e4
    exact hp
   rw [hSS] at os s243 sr lf h4
   rw [hRR] at sr ra f1 rx gN lrs
   have n2:=os.n
   obtain ⟨n,hn⟩ : ∃ n,S.length = n:=⟨_,rfl⟩
   rw [hn] at s243 sr h4 n2
   rw [← sr] at f1 gN lrs
   have hR : R.length = n:=sr.symm
   have sx:=rx.sl
   rw [wsL_len,hR] at sx
   obtain ⟨N,hN⟩ : ∃ N,Wt.length = N:=⟨_,rfl⟩
   rw [hN] at wn sm hu ePost N1 N40 lc e83 t tH ⊢
   rw [hn] at ePost
   obtain ⟨Z1,hZ1⟩ : ∃ H,Z.plus [.map []] = H:=⟨_,rfl⟩
   have kz1 : Kp (fun _ => False) Z Z1:=by rw [← hZ1]; exact Kp.plus _ _
   have gm : Z1.get Z.size = .map []:=by rw [← hZ1]; exact plus_at0 _ _ _ _ rfl
   have hN1 : Z1.N ≤ Z.size:=by rw [kz1.N]; unfold Heap.size; omega
   have f1Z:=kz1.at f1 (by simp) id
   have gwZ:=kZ.at gw (by simp) id
   have kS : Kp (fun _ => False) (frameOf h) Z:=kHs.trans kZ
   have zs : h.size ≤ Z.size:=by have:=kS.size; rw [fz] at this; exact this
   have l1 : Tr tbl J c51_l1 (fun s h => h = Z1 ∧ s.get [zF] = .slice b 0 N v ∧ s.get [zF,zF,zF] = .ptr p 0 3 ∧ s.get [zT,zF,zF] = .map Z.size ∧ s.get [zF,zT,zF] = G ((N : Int) - 1)) (.exit 0) (fun s h => MBs S u Z.size Z1 h N 0 ∧ s.get [zF] = .slice b 0 N v ∧ s.get [zF,zF,zF] = .ptr p 0 3 ∧ s.get [zT,zF,zF] = .map Z.size):=by
    rcases sx with ⟨rfl,e0⟩ | ⟨bx,vx,rfl⟩
    ·exact Tr.post (fun s h ⟨h0,q⟩ => ⟨by rw [h0]; exact mbsE gm (by omega),q⟩) (c51_l1_e J f1Z N40)
    ·have gx : Z.get bx = .cells 1 vx (wsL R):=by
      rcases rx with ⟨e,_⟩ | ⟨b',v',e,g⟩
      ·cases e
      ·simp only [AV.slice.injEq] at e
       obtain ⟨rfl,_,_,rfl⟩:=e
       exact g
     have l1:=c51_l1_ok J k84 k85 gm hN1 (lf.kp kz1) os hn f1Z (kz1.at gx (by simp) id) hR (wn.kp (kZ.trans kz1)) sm ra (by omega) m5 N40
     rw [hu] at l1
     exact Tr.pre (fun s h ⟨h0,q1,q2,q3,q4⟩ => by
      subst h0
      exact ⟨mbs0 gm,q1,q2,q3,by rw [q4,show (N : Int) - 1 - ((0 : Nat) : Int) = (N : Int) - 1 by omega]⟩) l1
   have post : ∀ H,MBs S u Z.size Z1 H N 0 → ∃ M H2,H.get Z.size = .map (enc M) ∧ (∀ j l,j < n → l < N → mF M j l = gv S u l j) ∧ Kp (fun _ => False) Z H ∧ H.get p = .cells 0 3 [x0,.map mm,.slice nb 0 n n] ∧ mkSl H 8 (G 0) n = some (.slice H.size 0 n n,{ eff:=.grow [.cells 1 n (List.replicate n (G 0))] }) ∧ H.plus [.cells 1 n (List.replicate n (G 0))] = H2 ∧ Tr tbl J c51_l2 (fun s h => h = H2 ∧ s.get [zF] = .slice b 0 N v ∧ s.get [zF,zF,zF] = .ptr p 0 3 ∧ s.get [zT,zF,zF] = .map Z.size ∧ s.get [zF,zF,zF,zF] = .nils ∧ s.get [zT,zF,zF,zF] = .slice H.size 0 n n ∧ s.get [zF,zT,zT,zT,zT,zF] = G n ∧ s.get [zT,zT,zT,zT,zT,zF] = G 0) (.exit 4)
     (fun s h => (Kp (fun _ => False) H h ∧ h.get H.size = .cells 1 n (gn (List.range n))) ∧ s.get [zF] = .slice b 0 N v ∧ s.get [zF,zF,zF] = .ptr p 0 3 ∧ s.get [zT,zF,zF] = .map Z.size ∧ s.get [zF,zF,zF,zF] = .nils ∧ s.get [zT,zF,zF,zF] = .slice H.size 0 n n):=fun H mb => by
    obtain ⟨kp,M,gM,km⟩:=mb
    have kH : Kp (fun _ => False) Z H:=kz1.late kp (fun q hq => by rw [hq]; exact Nat.le_refl _)
    refine ⟨M,_,gM,fun j l hj hl => ?_,kH,kH.at f1 (by simp) id,mkSl_ok _ _ _ _ _ rfl (by omega),rfl,?_⟩
    ·rw [km j (by omega) l,if_pos (.inl hl)]
    ·have l2:=c51_l2_ok (n:=n) (p:=p) (mb:=Z.size) J (Hc:=H) (x:=.slice b 0 N v) (br:=H.size) (Nat.le_refl _) (by unfold Heap.size; omega) n2
     rw [flR_n] at l2
     refine Tr.pre (fun s h ⟨h0,q⟩ => ?_) l2
     subst h0
     refine ⟨⟨Kp.plus _ _,?_⟩,q⟩
     rw [flR_0]
     exact plus_at0 _ _ _ _ rfl
   have z0 : ((0 : Nat) : Int) = 0:=rfl
   cases hb : bO (gv S u (N - 1)) none (List.range n) with
   | none =>
    have : CallsTo tbl J 51 [.agg [G a.q,a.x,a.y],.slice b 0 N v] h (.tup [.nils,G 0,G 6],[],zF):=by
     refine Tr.fnv (cf:=c51) (e:=.ret) (s:=T.set (T.set .leaf [] (.agg [G a.q,a.x,a.y])) [zF] (.slice b 0 N v)) (by decide) rfl (hJ _ _) rfl rfl rfl (by simp) ?_
     refine Tr.post (Q:=(fun s h => s.get [zT,zF] = .nils ∧ s.get [zF,zT] = G 0 ∧ s.get [zT,zT] = G 6)) (fun s h q => by simp [c51,q]) ?_
     have fin : ∀ {H H1 : Heap} {M : List (Nat × Nat × Int)},H.get Z.size = .map (enc M) → (∀ j l,j < n → l < N → mF M j l = gv S u l j) → Kp (fun _ => False) H H1 ∧ H1.get H.size = .cells 1 n (gn (List.range n)) → Tr tbl J c51_l4 (fun s h => h = H1 ∧ s.get [zF] = .slice b 0 N v ∧ s.get [zF,zF,zF] = .ptr p 0 3 ∧ s.get [zT,zF,zF] = .map Z.size ∧ s.get [zF,zF,zF,zF] = .nils ∧ s.get [zT,zF,zF,zF] = .slice H.size 0 n n ∧ s.get [zT,zT,zF,zF] = G 0 ∧ s.get [zF,zF,zF,zT,zF,zT] = G N ∧ s.get [zT,zF,zF,zT,zF,zT] = G 0) .ret (fun s h => s.get [zT,zF] = .nils ∧ s.get [zF,zT] = G 0 ∧ s.get [zT,zT] = G 6):=fun gM km ⟨k2,g2⟩ => c51_l4_no J (k2.at gM (by simp) id) (fun j hj => km j (N - 1) hj (by omega)) rfl g2 n2 N1 N40 hb
     clear oH o t tH big kHs wn sm k57 k61 k83 k84 k85 lf ra rx h7 h4 ePost hr kz1 kS kZ
     generalize List.replicate n (G 0) = rep at *
     rcases sx with ⟨rfl,rfl⟩ | ⟨bx,vx,rfl⟩
     all_goals
      refine Tr.w fun s1 H1 hp _ kR => ?_
      obtain ⟨rfl,rfl⟩:=hp
      have q : True:=trivial
      refine zCh ?_
      simp (disch:=omega) [c51_o0,zG,q,hHs]
      refine W.assoc ?_
      refine zCh ?_
      simp (disch:=omega) [c51_o1,zG,q,fz,gS,e57,e83]
      refine zCh ?_
      simp (disch:=omega) [c51_o2,zG,q]
      refine zCh ?_
      simp (disch:=omega) [-evDraw_c,-Eff.isAll,c51_o3,zG,q,evDraw_0,fz,gS,gw,ey0,ey0',lc,e61,app_if,app_if',hZ,own_all,isAll_none]
      refine zCh ?_
      simp (disch:=omega) [c51_o4,zG,q,hZ1]
      refine W.assoc ?_
      refine zCh ?_
      simp (disch:=omega) [c51_o5,zG,q]
      refine W.seq (W.block ?_)
      refine W.use (l1) (by simp (disch:=omega) [zG,q]) fun s1 H1 hp => ?_
      obtain ⟨mbs,q⟩:=hp
      try simp only [zW,if_true]
      obtain ⟨M,H2,gM,km,kH,gp,mk1,hH2,l2⟩:=post _ mbs
      try rw [z0] at mk1
      refine zCh ?_
      simp (disch:=omega) [c51_o16,zG,q]
      refine zCh ?_
      simp (disch:=omega) [-act,c51_o17,zG,q,act_move,act_mkSl,act_len1,act_nil,act_fa,act_load,gp,mk1,hH2]
      refine W.assoc ?_
      refine zCh ?_
      simp (disch:=omega) [c51_o18,zG,q]
      refine W.seq (W.block ?_)
      refine W.use (l2) (by simp (disch:=omega) [zG,q]) fun s1 H1 hp => ?_
      obtain ⟨kg,q⟩:=hp
      try simp only [zW,if_true]
      have l4:=fin gM km kg
      refine zCh ?_
      simp (disch:=omega) [c51_o23,zG,q]
      refine W.assoc ?_
      refine zCh ?_
      simp (disch:=omega) [c51_o24,zG,q]
      refine W.seq (W.block ?_)
      refine W.use (l4) (by simp (disch:=omega) [zG,q]) fun s1 H1 hp => ?_
      try simp only [zW,if_true]
      exact kR _ _ hp
    exact ⟨_,_,this,ePost _ _ ⟨fun _ => ⟨rfl,rfl⟩,fun c s e => (by rw [hb] at e; cases e)⟩⟩
   | some pr =>
    obtain ⟨c,s⟩:=pr
    obtain ⟨bx,vx,rfl⟩:=sx.resolve_left (fun e => by rw [e.2] at hb; cases hb)
    have gx : Z.get bx = .cells 1 vx (wsL R):=by
     rcases rx with ⟨e,_⟩ | ⟨b',v',e,g⟩
     ·cases e
     ·simp only [AV.slice.injEq] at e
      obtain ⟨rfl,_,_,rfl⟩:=e
      exact g
    have fin : ∀ {H H1 : Heap} {M : List (Nat × Nat × Int)},Kp (fun _ => False) Z H → H.get Z.size = .map (enc M) → (∀ j l,j < n → l < N → mF M j l = gv S u l j) → Kp (fun _ => False) H H1 ∧ H1.get H.size = .cells 1 n (gn (List.range n)) → Tr tbl J c51_l4 (fun s h => h = H1 ∧ s.get [zF] = .slice b 0 N v ∧ s.get [zF,zF,zF] = .ptr p 0 3 ∧ s.get [zT,zF,zF] = .map Z.size ∧ s.get [zF,zF,zF,zF] = .nils ∧ s.get [zT,zF,zF,zF] = .slice H.size 0 n n ∧ s.get [zT,zT,zF,zF] = G 0 ∧ s.get [zF,zF,zF,zT,zF,zT] = G N ∧ s.get [zT,zF,zF,zT,zF,zT] = G 0) (.exit 6) (fun s' h' => ∃ z,(NV H1 h' z (wsL (rT2 R (bP S u N (List.range n)))) ∧ Kp (fun _ => False) (frameOf h) H1) ∧ s'.get [zF,zF,zF,zF] = z ∧ s'.get [zT,zT,zF,zF] = G s):=fun {H H1 M} kH gM km ⟨k2,g2⟩ => by
     have kk:=kH.trans k2
     have l4:=c51_l4_ok (b:=b) (v:=v) (p:=p) (y0:=.nils) (s:=s) (E:=bP S u N (List.range n)) J (k2.at gM (by simp) id) km hn os (kk.at f1 (by simp) id) (kk.at gx (by simp) id) hR (kk.at gN (by simp) id) lrs (fun i hi => by
      obtain ⟨y,e1,e2⟩:=h4 i hi
      exact ⟨y,e1,e2.kp kk (fun _ _ => id)⟩) N1 N40
     refine Tr.post (fun s h ⟨z,nv,q⟩ => ⟨z,⟨nv,kS.trans kk⟩,q⟩) (Tr.pre (fun s' h' ⟨h0,q1,q2,q3,q4,q5,q6,q7,q8⟩ => ?_) l4)
     subst h0
     refine ⟨.nils,.slice H.size 0 n n,[],List.range n,⟨NV.nil _,.inr ⟨H.size,n,by rw [gn_len,List.length_range],g2⟩,⟨rfl,rfl,by rw [List.length_range]; exact n2,fun c hc => by rw [hn]; exact List.mem_range.1 hc,fun _ => ⟨c,s,hb,fun _ => rfl⟩⟩⟩,q1,q2,q3,q4,q5,q6,q7,q8⟩
    have fin2 : ∀ {z : AV} {H h' : Heap},NV H h' z (wsL (rT2 R (bP S u N (List.range n)))) → Kp (fun _ => False) (frameOf h) H → Post51 a Wt h (.tup [z,G s,G 0]) (if (one [z]).flat then [] else h'.own):=fun {z H h'} nv kH => ePost _ _ ⟨fun e => (by rw [hb] at e; cases e),fun c' s' e => by
     rw [hb] at e
     obtain ⟨rfl,rfl⟩:=Prod.mk.inj (Option.some.inj e)
     exact ⟨z,rfl,fun q e => Nat.le_trans (by have:=kH.size; rw [fz] at this; exact this) (nv.x0 q e),nv.rv.fr (kH.trans nv.k)⟩⟩
    refine Tr.fny (cf:=c51) (e:=.ret) (s:=T.set (T.set .leaf [] (.agg [G a.q,a.x,a.y])) [zF] (.slice b 0 N v)) (by decide) rfl (hJ _ _) rfl rfl (by simp) ?_
    clear oH o t tH big kHs wn sm k57 k61 k83 k84 k85 lf ra rx h7 h4 ePost hr kz1 kS kZ
    generalize wsL (rT2 R (bP S u N (List.range n))) = wE at *
    generalize wsL R = wR at *
    generalize List.replicate n (G 0) = rep at *
    refine Tr.w fun s1 H1 hp _ kR => ?_
    obtain ⟨rfl,rfl⟩:=hp
    have q : True:=trivial
    refine zCh ?_
    simp (disch:=omega) [c51_o0,zG,q,hHs]
    refine W.assoc ?_
    refine zCh ?_
    simp (disch:=omega) [c51_o1,zG,q,fz,gS,e57,e83]
    refine zCh ?_
    simp (disch:=omega) [c51_o2,zG,q]
    refine zCh ?_
    simp (disch:=omega) [-evDraw_c,-Eff.isAll,c51_o3,zG,q,evDraw_0,fz,gS,gw,ey0,ey0',lc,e61,app_if,app_if',hZ,own_all,isAll_none]
    refine zCh ?_
    simp (disch:=omega) [c51_o4,zG,q,hZ1]
    refine W.assoc ?_
    refine zCh ?_
    simp (disch:=omega) [c51_o5,zG,q]
    refine W.seq (W.block ?_)
    refine W.use (l1) (by simp (disch:=omega) [zG,q]) fun s1 H1 hp => ?_
    obtain ⟨mbs,q⟩:=hp
    try simp only [zW,if_true]
    obtain ⟨M,H2,gM,km,kH,gp,mk1,hH2,l2⟩:=post _ mbs
    refine zCh ?_
    simp (disch:=omega) [c51_o16,zG,q]
    refine zCh ?_
    simp (disch:=omega) [-act,c51_o17,zG,q,act_move,act_mkSl,act_len1,act_nil,act_fa,act_load,gp,mk1,hH2]
    refine W.assoc ?_
    refine zCh ?_
    simp (disch:=omega) [c51_o18,zG,q]
    refine W.seq (W.block ?_)
    refine W.use (l2) (by simp (disch:=omega) [zG,q]) fun s1 H1 hp => ?_
    obtain ⟨kg,q⟩:=hp
    try simp only [zW,if_true]
    have l4:=fin kH gM km kg
    refine zCh ?_
    simp (disch:=omega) [c51_o23,zG,q]
    refine W.assoc ?_
    refine zCh ?_
    simp (disch:=omega) [c51_o24,zG,q]
    refine W.seq (W.block ?_)
    refine W.use (l4) (by simp (disch:=omega) [zG,q]) fun s1 H1 hp => ?_
    obtain ⟨z9,⟨nv9,kH9⟩,q⟩:=hp
    try simp only [zW,if_true]
    refine zCh ?_
    simp (disch:=omega) [c51_o43,zG,q]
    refine W.ret ?_
    try simp only [zW,if_true]
    refine kR _ _ ?_
    refine ⟨[z9,G s,G 0],by simp [T.get,c51,evRess,evRes,q],?_⟩
    rw [show (one [z9,G s,G 0]).flat = (one [z9]).flat from by simp [one,AV.flat,AV.flats]]
    exact fin2 nv9 kH9
end
section
variable {S : List (List Nat)} {R : List (List Nat)} {Wt : List (List (List Int))} {N m q n : Nat}
structure BRw (bo N i : Nat) (rs : List AV) (Hi : Heap) (L : List Int) (h : Heap) : Prop where
 k : Kp (· = bo) Hi h
 g : ∃ y,h.get bo = .cells 1 N (rs.set i y) ∧ LV h y (gs L) ∧ ∀ b,blk y = some b → Hi.size ≤ b
def zk (S : List (List Nat)) (u : Nat → Nat → Int) (l k : Nat) : List Int:=(List.range k).map (bsZ S u l)
structure RT (S : List (List Nat)) (u : Nat → Nat → Int) (bo N t : Nat) (rs : List AV) (h : Heap) : Prop where
 go : h.get bo = .cells 1 N rs
 lr : rs.length = N
 row : ∀ l,l < t → ∃ y,rs[N - 1 - l]? = some y ∧ RV h y (gs (zk S u l S.length)) ∧ blk y ≠ some bo
 no : ∀ l,t ≤ l → l < N → rs[N - 1 - l]? = some .nils
theorem RT.next {u : Nat → Nat → Int} {bo t : Nat} {rs : List AV} {Hi h : Heap} (rt : RT S u bo N t rs Hi) (ht : t < N) (hb2 : bo < Hi.size) (bi : BRw bo N (N - 1 - t) rs Hi (zk S u t S.length) h) : ∃ rs',RT S u bo N (t + 1) rs' h:=by
 obtain ⟨k,y,g,lv,yb⟩:=bi
 have lr:=rt.lr
 refine ⟨_,g,by rw [List.length_set]; exact lr,fun l hl => ?_,fun l h1 h2 => ?_⟩
 ·by_cases e : l = t
  ·subst e
   exact ⟨y,List.getElem?_set_self (by omega),lv.rv,fun e => by have:=yb _ e; omega⟩
  ·obtain ⟨y',e1,e2,e3⟩:=rt.row l (by omega)
   exact ⟨y',by rw [List.getElem?_set_ne (by omega)]; exact e1,e2.kp k (fun b hb e => e3 (by rw [hb,e])),e3⟩
 ·rw [List.getElem?_set_ne (by omega)]
  exact rt.no l (by omega) h2
structure XT (S : List (List Nat)) (R : List (List Nat)) (Wt : List (List (List Int))) (N m q n : Nat) (Z : Heap) (xw x8 x9 : AV) : Prop where
 wn : WN Z xw N m q Wt
 sm : SmA N m q Wt
 ra : RwA R m q
 q3 : q ≤ 3
 m5 : m ≤ 5
 N40 : N ≤ 40
 rx : RV Z x8 (wsL R)
 hR : R.length = n
 hS : S.length = n
 os : OkS S
 ln : LN Z x9 S
theorem XT.kp {Z Z' : Heap} {xw x8 x9 : AV} (x : XT S R Wt N m q n Z xw x8 x9) (k : Kp (fun _ => False) Z Z') : XT S R Wt N m q n Z' xw x8 x9:=⟨x.wn.kp k,x.sm,x.ra,x.q3,x.m5,x.N40,x.rx.kp k (fun _ _ => id),x.hR,x.hS,x.os,x.ln.kp k⟩
end
section
variable {S : List (List Nat)} {R : List (List Nat)} {Wt : List (List (List Int))} {N m qq n : Nat}
structure XBr (S : List (List Nat)) (u : Nat → Nat → Int) (N i : Nat) (E done L : List Nat) (w : Int) : Prop where
 e : done ++ bP S u (N - i) L = E
 n : done.length = i
 l : L.length ≤ 1000
 lt : ∀ c ∈ L,c < S.length
 o : i < N → ∃ c,bO (gv S u (N - 1 - i)) none L = some (c,w)
theorem XBr.next {u : Nat → Nat → Int} (os : OkS S) {i : Nat} {E done L : List Nat} {w : Int} (x : XBr S u N i E done L w) (hi : i < N) {c : Nat} (hc : bO (gv S u (N - 1 - i)) none L = some (c,w)) : XBr S u N (i + 1) E (done ++ [c]) (S.getD c []) (w - u (N - 1 - i) c):=by
 have cC : bC S u (N - 1 - i) L = c:=by unfold bC; rw [hc]; rfl
 have e:=x.e
 rw [show N - i = (N - 1 - i) + 1 by omega] at e
 have e2 : bP S u (N - 1 - i + 1) L = bC S u (N - 1 - i) L :: bP S u (N - 1 - i) (S.getD (bC S u (N - 1 - i) L) []):=rfl
 rw [e2,cC] at e
 refine ⟨?_,by rw [List.length_append,x.n]; rfl,os.len c,os.lt c,fun h => ?_⟩
 ·rw [show N - (i + 1) = N - 1 - i by omega,List.append_assoc]; exact e
 ·have h2:=(bO_at hc).2
  rw [show N - 1 - i = (N - 1 - (i + 1)) + 1 by omega] at h2 ⊢
  exact ⟨_,gv_next h2⟩
end
def Post53 (a : AR) (Wt : List (List (List Int))) (h : Heap) (v : AV) (own : List AObj) : Prop :=
 ∀ (m : Nat) (S R : List (List Nat)) (u : Nat → Nat → Int),(Wt.getD 0 []).length = m → a.steps (m : Nat) = S → a.rows (m : Nat) = R → uZ Wt R Wt.length m = u →
  (bO (gv S u (Wt.length - 1)) none (List.range S.length) = none → v = .tup [.nils,G 0,.bool zF] ∧ own = []) ∧
  ∀ c s,bO (gv S u (Wt.length - 1)) none (List.range S.length) = some (c,s) → ∃ x,v = .tup [x,G s,.bool zT] ∧ (∀ q,blk x = some q → h.size ≤ q) ∧ RV (h.plus own) x (wsL (rT2 R (bP S u Wt.length (List.range S.length))))
theorem RT.kp {S : List (List Nat)} {u : Nat → Nat → Int} {bo N t : Nat} {rs : List AV} {h h' : Heap} (r : RT S u bo N t rs h) (k : Kp (fun _ => False) h h') : RT S u bo N t rs h':=⟨k.at r.go (by simp) id,r.lr,fun l hl => by
 obtain ⟨y,e1,e2,e3⟩:=r.row l hl
 exact ⟨y,e1,e2.kp k (fun _ _ => id),e3⟩,r.no⟩
section
variable {a : AR} {x : AV} {Wt : List (List (List Int))}
end
theorem LR.kpm {N : Nat → Prop} {h h' : Heap} (k : Kp N h h') {x : AV} {l : List Int} (e : LR h x l) (hm : ∀ q,blk x = some q → ¬ N q) : LR h' x l:=by
 rcases e with e | e
 ·exact .inl (listOf_kp k e hm)
 ·exact .inr e
theorem LR.blt {h : Heap} {x : AV} {l : List Int} (e : LR h x l) {q : Nat} (hq : blk x = some q) : q < h.size:=by
 rcases e with e | ⟨e,_⟩
 ·exact listOf_lt e hq
 ·rw [e] at hq; cases hq
def MRb (h : Heap) (bz : Option Nat) (y : AV) (M : List (List Int)) : Prop:=(y = .nils ∧ M = []) ∨ ∃ b v cs,y = .slice b 0 M.length v ∧ h.get b = .cells 1 v cs ∧ bz ≠ some b ∧ cs.length = M.length ∧ ∀ (i : Nat) r,cs[i]? = some r → ∃ l,M[i]? = some l ∧ LR h r l ∧ ∀ q,blk r = some q → bz ≠ some q
theorem MRb.mr {h : Heap} {bz : Option Nat} {y : AV} {M : List (List Int)} (t : MRb h bz y M) : MR h y M:=by
 rcases t with ⟨e,e2⟩ | ⟨b,v,cs,e,g,_,l,r⟩
 ·exact .inl ⟨.inl e,e2⟩
 ·exact .inr ⟨b,v,cs,e,g,l,fun i r' e => by obtain ⟨l,h1,h2,_⟩:=r i r' e; exact ⟨l,h1,h2⟩⟩
theorem MRb.kp {N : Nat → Prop} {h h' : Heap} {bz : Option Nat} {y : AV} {M : List (List Int)} (t : MRb h bz y M) (k : Kp N h h') (hN : ∀ q,N q → bz = some q) : MRb h' bz y M:=by
 rcases t with t | ⟨b,v,cs,e,g,n,l,r⟩
 ·exact .inl t
 ·exact .inr ⟨b,v,cs,e,k.at g (by simp) (fun m => n (hN _ m)),n,l,fun i r' e => by
   obtain ⟨l,h1,h2,h3⟩:=r i r' e
   exact ⟨l,h1,LR.kpm k h2 (fun q hq m => h3 q hq (hN _ m)),h3⟩⟩
theorem MRb.fresh {h : Heap} {bz bz' : Option Nat} {y : AV} {M : List (List Int)} (t : MRb h bz y M) (hb : ∀ q,bz' = some q → h.size ≤ q) : MRb h bz' y M:=by
 rcases t with t | ⟨b,v,cs,e,g,n,l,r⟩
 ·exact .inl t
 ·exact .inr ⟨b,v,cs,e,g,fun e => by have:=hb _ e; have:=get_lt g (by simp); omega,l,fun i r' e => by
   obtain ⟨l,h1,h2,h3⟩:=r i r' e
   exact ⟨l,h1,h2,fun q hq e => by have:=hb _ e; have:=LR.blt h2 hq; omega⟩⟩
theorem TG.mrb {H0 h : Heap} {x : AV} {M : List (List Int)} {bz : Option Nat} (t : TG H0 h x M) (hb : ∀ q,bz = some q → q < H0.size) : MRb h bz x M:=by
 obtain ⟨cs,l,hl,hr⟩:=t.r
 rcases l with ⟨rfl,rfl⟩ | ⟨b,rfl,g,n⟩
 ·exact .inl ⟨rfl,List.length_eq_zero_iff.1 hl.symm⟩
 ·refine .inr ⟨b,cs.length,cs,by rw [hl],g,fun e => ?_,hl,fun i r e => ?_⟩
  ·have:=hb _ e; have:=t.x0 b rfl; omega
  ·obtain ⟨l,h1,h2,h3⟩:=hr i r e
   exact ⟨l,h1,.inl h2,fun q hq e => by have:=hb _ e; have:=(h3 q hq).2.1; omega⟩
structure TW (H0 h : Heap) (x : AV) (Ms : List (List (List Int))) : Prop where
 k : Kp (fun _ => False) H0 h
 x0 : ∀ q,blk x = some q → H0.size ≤ q
 r : ∃ cs,LV h x cs ∧ cs.length = Ms.length ∧ ∀ (i : Nat) r,cs[i]? = some r → ∃ M,Ms[i]? = some M ∧ MRb h (blk x) r M
theorem TW.nil (H0 : Heap) : TW H0 H0 .nils []:=⟨Kp.refl _,fun _ e => (by cases e),[],LV.nil _,rfl,fun i r e => by simp at e⟩
theorem TW.kp {H0 h h' : Heap} {x : AV} {M : List (List (List Int))} (t : TW H0 h x M) (k : Kp (fun _ => False) h h') : TW H0 h' x M:=by
 obtain ⟨cs,l,hl,hr⟩:=t.r
 refine ⟨t.k.trans k,t.x0,cs,l.kp k (fun _ _ => id),hl,fun i r e => ?_⟩
 obtain ⟨l,h1,h2⟩:=hr i r e
 exact ⟨l,h1,h2.kp k (fun _ h => h.elim)⟩
theorem TW.app {H0 h : Heap} (h0 : Nat) {x v : AV} {Ms : List (List (List Int))} {M : List (List Int)} (t : TW H0 h x Ms) (hv : MRb h (blk x) v M) (hn : Ms.length ≤ 1000000) :
  ∃ x1 e h2,appA (h.plus [.cells 1 1 [v]]) h0 none 1 24 1 [v] x = some (x1,e) ∧ Eff.app e (h.plus [.cells 1 1 [v]]) = some h2 ∧ TW H0 h2 x1 (Ms ++ [M]) ∧ AV.cells x1 = some [x1]:=by
 obtain ⟨cs,lv,hl,hr⟩:=t.r
 have k1 : Kp (fun _ => False) h (h.plus [.cells 1 1 [v]]):=Kp.plus _ _
 obtain ⟨x1,e,h2,q1,q2,q3,q4,q5,q6⟩:=app_v (h.plus [.cells 1 1 [v]]) h0 24 v (lv.kp k1 (fun _ _ => id)) (by omega)
 have hsz : (h.plus [.cells 1 1 [v]]).size = h.size + 1:=by rw [plus_size]; rfl
 have up : ∀ {r N},MRb h (blk x) r N → MRb h2 (blk x1) r N:=fun {r N} m => by
  have m2:=(m.kp k1 (fun _ h => h.elim)).kp q4 (fun q hq => hq)
  rcases q5 with h' | ⟨_,h'⟩
  ·rw [h']; exact m2
  ·have m3 : MRb h (blk x1) r N:=m.fresh (fun q hq => by rw [h'] at hq; cases hq; omega)
   have:=(m3.kp k1 (fun _ h => h.elim))
   rename_i hx0
   exact this.kp q4 (fun q hq => by rw [hx0] at hq; cases hq)
 refine ⟨x1,e,h2,q1,q2,⟨(t.k.trans k1).late q4 t.x0,fun q hq => ?_,cs ++ [v],q3,by simp [hl],fun i r hi => ?_⟩,q6⟩
 ·rcases q5 with h' | ⟨_,h'⟩
  ·rw [h'] at hq; exact t.x0 q hq
  ·rw [h'] at hq; cases hq; have:=t.k.size; omega
 ·by_cases hi' : i < cs.length
  ·rw [List.getElem?_append_left hi'] at hi
   obtain ⟨l',h1,h2'⟩:=hr i r hi
   exact ⟨l',by rw [List.getElem?_append_left (by omega)]; exact h1,up h2'⟩
  ·rw [List.getElem?_append_right (by omega)] at hi
   have hi0 : i - cs.length = 0:=by
    rcases Nat.eq_zero_or_pos (i - cs.length) with e | e
    ·exact e
    ·rw [List.getElem?_eq_none (by simp; omega)] at hi; cases hi
   rw [hi0] at hi
   simp only [List.getElem?_cons_zero,Option.some.injEq] at hi
   subst hi
   exact ⟨M,by rw [List.getElem?_append_right (by omega),← hl,hi0]; rfl,up hv⟩
theorem TW.wt {H0 h : Heap} {x : AV} {Ms : List (List (List Int))} (t : TW H0 h x Ms) : WT h x Ms:=by
 obtain ⟨cs,l,hl,hr⟩:=t.r
 rcases l with ⟨rfl,rfl⟩ | ⟨b,rfl,g,n⟩
 ·exact .inl ⟨.inl rfl,List.length_eq_zero_iff.1 hl.symm⟩
 ·exact .inr ⟨b,cs.length,cs,by rw [hl],g,hl,fun i r e => by obtain ⟨M,h1,h2⟩:=hr i r e; exact ⟨M,h1,h2.mr⟩⟩
theorem MR.congr2 {h h' : Heap} (e : ∀ b,h.get b = h'.get b) {y : AV} {M : List (List Int)} (t : MR h y M) : MR h' y M:=by
 rcases t with t | ⟨b,v,cs,e1,g,l,r⟩
 ·exact .inl t
 ·exact .inr ⟨b,v,cs,e1,by rw [← e]; exact g,l,fun i r' hr => by
   obtain ⟨l,h1,h2⟩:=r i r' hr
   refine ⟨l,h1,?_⟩
   rcases h2 with h2 | h2
   ·exact .inl ((listOf_congr e r').symm.trans h2)
   ·exact .inr h2⟩
theorem WT.congr {h h' : Heap} (e : ∀ b,h.get b = h'.get b) {y : AV} {Ms : List (List (List Int))} (t : WT h y Ms) : WT h' y Ms:=by
 rcases t with t | ⟨b,v,cs,e1,g,l,r⟩
 ·exact .inl t
 ·exact .inr ⟨b,v,cs,e1,by rw [← e]; exact g,l,fun i r' hr => by
   obtain ⟨l,h1,h2⟩:=r i r' hr
   exact ⟨l,h1,h2.congr2 e⟩⟩
theorem TW.fr {h h' : Heap} {x : AV} {Ms : List (List (List Int))} (t : TW (frameOf h) h' x Ms) : WT (h.plus (if (one [x]).flat then [] else h'.own)) x Ms:=by
 have e:=Kp.own t.k
 have hg : ∀ b,h'.get b = (h.plus h'.own).get b:=fun b => by rw [e]; exact fr_get h _ b
 split
 ·rename_i hf
  obtain ⟨cs,lv,hl,_⟩:=t.r
  rcases lv with ⟨e1,rfl⟩ | ⟨b,e1,_,_⟩
  ·exact .inl ⟨.inl e1,List.length_eq_zero_iff.1 hl.symm⟩
  ·rw [e1] at hf; simp [one,AV.flat,AV.flats] at hf
 ·exact t.wt.congr hg
def wtV (Wt : List (List (List Int))) : List (List (List Int)):=(Wt.take 41).map cutM
section
variable {Wt : List (List (List Int))}
end
structure A50 where
 x : AV
 Wt : List (List (List Int))
def Pre50 (b : A50) (args : List AV) (h : Heap) : Prop:=WT h b.x b.Wt ∧ args = [b.x]
noncomputable def U50 : CallF:=addK tbl T30 50 Pre50 (fun b h v own => WT (h.plus own) v (wtV b.Wt))
theorem u50 : Sound zp U50:=Sound.addK follows ok t30 (by decide) _ _
structure A51 where
 a : AR
 x : AV
 Wt : List (List (List Int))
def Ok51 (b : A51) (h : Heap) : Prop:=OkR b.a h ∧ WT h b.x b.Wt ∧ b.Wt.length ≤ 1000000 ∧ ∀ M ∈ b.Wt,M.length ≤ 1000000 ∧ ∀ l ∈ M,l.length ≤ 1000000
def Pre51 (b : A51) (args : List AV) (h : Heap) : Prop:=Ok51 b h ∧ args = [b.a.v,b.x]
abbrev K51 (J : CallF) : Prop:=∀ (h : Heap) (b : A51),Ok51 b h → ∃ v own,J 51 [b.a.v,b.x] h = some (v,own,zF) ∧ Post51 b.a b.Wt h v own
def Ok53 (b : A51) (h : Heap) : Prop:=OkR b.a h ∧ b.a.ru = zT ∧ WT h b.x b.Wt ∧ wtB b.a.q.toNat b.Wt = zT
def Pre53 (b : A51) (args : List AV) (h : Heap) : Prop:=Ok53 b h ∧ args = [b.a.v,b.x]
section
variable {nq : Int} {X Y : List (List Int)} {Wt : List (List (List Int))}
end
noncomputable def T86 : CallF:=addI T85 83 (V4 83)
theorem t86 : Sound zp T86:=Sound.put t85 v4 83
noncomputable def T87 : CallF:=addI T86 84 (U84 84)
theorem t87 : Sound zp T87:=Sound.put t86 u84 84
noncomputable def T88 : CallF:=addI T87 85 (U85 85)
theorem t88 : Sound zp T88:=Sound.put t87 u85 85
theorem k57_88 : KR 57 T88:=fun h a o => by
 rw [show T88 57 [.agg [G a.q,a.x,a.y]] h = T10 57 [.agg [G a.q,a.x,a.y]] h from by simp (disch:=decide) only [T11,T12,T13,T14,T15,T16,T17,T18,T19,T20,T21,T22,T23,T24,T25,T26,T27,T28,T29,T30,T31,T32,T33,T34,T35,T36,T37,T38,T39,T40,T41,T42,T43,T44,T45,T46,T47,T48,T49,T50,T51,T52,T53,T54,T55,T56,T57,T58,T59,T60,T61,T62,T63,T64,T65,T66,T67,T68,T69,T70,T71,T72,T73,T74,T75,T76,T77,T78,T79,T80,T81,T82,T83,T84,T85,T86,T87,T88,addI_ne,addX_ne,addV_ne,addK_ne,addC_ne]]; exact k57 h a o
theorem k61_88 : K61 T88:=fun h a m o m5 => by
 obtain ⟨p,own,e,l⟩:=k61 h a m o m5
 exact ⟨p,own,by rw [show T88 61 [a.v,G m] h = T18 61 [a.v,G m] h from by simp (disch:=decide) only [T19,T20,T21,T22,T23,T24,T25,T26,T27,T28,T29,T30,T31,T32,T33,T34,T35,T36,T37,T38,T39,T40,T41,T42,T43,T44,T45,T46,T47,T48,T49,T50,T51,T52,T53,T54,T55,T56,T57,T58,T59,T60,T61,T62,T63,T64,T65,T66,T67,T68,T69,T70,T71,T72,T73,T74,T75,T76,T77,T78,T79,T80,T81,T82,T83,T84,T85,T86,T87,T88,addI_ne,addX_ne,addV_ne,addK_ne,addC_ne]]; exact e,l⟩
theorem k83_88 : K83 83 T88:=fun h b o => by
 rw [show T88 83 [.agg [G b.qq,b.x1,b.x2],b.x] h = T86 83 [.agg [G b.qq,b.x1,b.x2],b.x] h from by simp (disch:=decide) only [T87,T88,addI_ne,addX_ne,addV_ne,addK_ne,addC_ne]]
 exact (addI_eq _ _ _ _ _).trans (k83v h b o)
theorem k84_88 : K84 T88:=fun h b o => by
 rw [show T88 84 [.ptr b.p 0 3,.map b.mb,G b.j,G b.l] h = T87 84 [.ptr b.p 0 3,.map b.mb,G b.j,G b.l] h from by simp (disch:=decide) only [T88,addI_ne,addX_ne,addV_ne,addK_ne,addC_ne]]
 exact (addI_eq _ _ _ _ _).trans (k84u h b o)
theorem k85_88 : K85 85 T88:=fun h b o => (addI_eq _ _ _ _ _).trans (k85u h b o)
noncomputable def T89 : CallF:=addK tbl T88 51 Pre51 (fun b h v own => Post51 b.a b.Wt h v own)
theorem t89 : Sound zp T89:=Sound.addK follows ok t88 (by decide) _ _
theorem k51 : K51 T89:=fun h b o => by
 obtain ⟨v,own,e,l⟩:=addK_some (Pre:=Pre51) (Post:=fun b h v own => Post51 b.a b.Wt h v own) (fun b args h hp => by
  obtain ⟨⟨h1,h2,h3,h4⟩,rfl⟩:=hp
  exact c51_ok T88 k57_88 k61_88 k83_88 k84_88 k85_88 (fun _ _ => by simp (disch:=decide) only [T1,T2,T3,T4,T5,T6,T7,T8,T9,T10,T11,T12,T13,T14,T15,T16,T17,T18,T19,T20,T21,T22,T23,T24,T25,T26,T27,T28,T29,T30,T31,T32,T33,T34,T35,T36,T37,T38,T39,T40,T41,T42,T43,T44,T45,T46,T47,T48,T49,T50,T51,T52,T53,T54,T55,T56,T57,T58,T59,T60,T61,T62,T63,T64,T65,T66,T67,T68,T69,T70,T71,T72,T73,T74,T75,T76,T77,T78,T79,T80,T81,T82,T83,T84,T85,T86,T87,T88,addI_ne,addX_ne,addV_ne,addK_ne,addC_ne]; rfl) h h1 h2 h3 h4) b _ h ⟨o,rfl⟩
 exact ⟨v,own,e,l⟩
noncomputable def T90 : CallF:=addI T89 52 (U52 52)
theorem t90 : Sound zp T90:=Sound.put t89 u52 52
noncomputable def T91 : CallF:=addI T90 86 (U86 86)
theorem t91 : Sound zp T91:=Sound.put t90 u86 86
noncomputable def T92 : CallF:=addK tbl T91 53 Pre53 (fun b h v own => Post53 b.a b.Wt h v own)
theorem t92 : Sound zp T92:=Sound.addK follows ok t91 (by decide) _ _
noncomputable def T93 : CallF:=addI T92 50 (U50 50)
theorem t93 : Sound zp T93:=Sound.put t92 u50 50
end Go.Proofs.Ytljgfdamdcikgaa.Ev
set_option linter.unusedVariables false
set_option linter.unusedSimpArgs false
namespace Go.Proofs.Ytljgfdamdcikgaa.Ev
open Go Go.AEv
theorem sum_le_of {f g : Nat → Nat} : ∀ (L : List Nat),(∀ i ∈ L,f i ≤ g i) → (L.map f).sum ≤ (L.map g).sum
 | [],_ => Nat.le_refl _
 | i :: L,h => by
  have h1:=h i (by simp)
  have h2:=sum_le_of L fun j hj => h j (by simp [hj])
  simp only [List.map_cons,List.sum_cons]; omega
theorem sum_add_of (f g : Nat → Nat) : ∀ (L : List Nat),(L.map fun i => f i + g i).sum = (L.map f).sum + (L.map g).sum
 | [] => rfl
 | i :: L => by
  have:=sum_add_of f g L
  simp only [List.map_cons,List.sum_cons]; omega
theorem sum_filter_le (p : Nat → Bool) (f : Nat → Nat) : ∀ (L : List Nat),((L.filter p).map f).sum ≤ (L.map f).sum
 | [] => Nat.le_refl _
 | i :: L => by
  have:=sum_filter_le p f L
  rw [List.filter_cons]
  split
  ·simp only [List.map_cons,List.sum_cons]; omega
  ·simp only [List.map_cons,List.sum_cons]; omega
theorem sum_ite_mul (p : Nat → Bool) (c : Nat) : ∀ (L : List Nat),(L.map fun i => if p i then c else 0).sum = (L.map fun i => if p i then 1 else 0).sum * c
 | [] => by simp
 | i :: L => by
  have:=sum_ite_mul p c L
  simp only [List.map_cons,List.sum_cons]
  rw [this,Nat.add_mul]
  split <;> simp
section
variable {S : List (List Nat)}
def wS (S : List (List Nat)) (r k : Nat) : Nat:=((List.range S.length).map fun i => if al S r i then 0 else cnt S k i).sum
def ly (S : List (List Nat)) (r : Nat) : Nat:=((List.range S.length).map fun i => if al S r i && !al S (r + 1) i then 1 else 0).sum
def aS (S : List (List Nat)) (r : Nat) : Nat:=((List.range S.length).map fun i => if al S r i then 1 else 0).sum
def gS (S : List (List Nat)) (r : Nat) : Nat → Nat
 | 0 => 0
 | K + 1 => gS S r K + wS S r K
theorem al_dn {r i : Nat} (h : al S (r + 1) i = zT) : al S r i = zT:=al_le (k:=r) (d:=1) h
theorem aS_ly (r : Nat) : aS S (r + 1) + ly S r = aS S r:=by
 unfold aS ly
 rw [← sum_add_of]
 congr 1
 apply List.map_congr_left
 intro i _
 cases h : al S (r + 1) i
 ·cases al S r i <;> rfl
 ·rw [al_dn h]; rfl
theorem aS_le (r : Nat) : aS S r ≤ S.length:=by
 unfold aS
 refine Nat.le_trans (sum_le_of (g:=fun _ => 1) _ fun i _ => by split <;> omega) ?_
 have : ∀ (L : List Nat),(L.map fun _ => 1).sum = L.length:=fun L => by
  induction L with
  | nil => rfl
  | cons a L ih => simp only [List.map_cons,List.sum_cons,List.length_cons,ih]; omega
 rw [this,List.length_range]
 exact Nat.le_refl _
theorem wS_0 (k : Nat) : wS S 0 k = 0:=by
 unfold wS
 have : ∀ (L : List Nat),(L.map fun i => if al S 0 i then 0 else cnt S k i).sum = 0:=fun L => by
  induction L with
  | nil => rfl
  | cons a L ih =>
   simp only [List.map_cons,List.sum_cons,ih]
   rw [show al S 0 a = zT from rfl]; rfl
 exact this _
theorem wS_step0 (r : Nat) : wS S (r + 1) 0 ≤ wS S r 0 + ly S r:=by
 unfold wS ly
 rw [← sum_add_of]
 refine sum_le_of _ fun i _ => ?_
 have c : cnt S 0 i = 1:=rfl
 rw [c]
 cases al S (r + 1) i <;> cases al S r i <;> simp
theorem wS_step (hs : Srt S) (r k : Nat) : wS S (r + 1) (k + 1) ≤ wS S r (k + 1) + ly S r * wS S r k:=by
 have e : ly S r * wS S r k = ((List.range S.length).map fun i => if al S r i && !al S (r + 1) i then wS S r k else 0).sum:=(sum_ite_mul _ _ _).symm
 rw [e]
 unfold wS
 rw [← sum_add_of]
 refine sum_le_of _ fun i _ => ?_
 cases h1 : al S (r + 1) i
 ·cases h2 : al S r i
  ·simp
  ·simp only [Bool.not_false,Bool.and_self,if_true,Bool.false_eq_true,if_false,Nat.zero_add]
   have hn : S.getD i [] = nwL S (i : Int):=by unfold nwL; rw [if_neg (by omega),Int.toNat_natCast]
   have c : cnt S (k + 1) i = ((S.getD i []).map (cnt S k)).sum:=rfl
   have a : al S (r + 1) i = (S.getD i []).any (al S r):=rfl
   rw [a,List.any_eq_false] at h1
   have c2 : ((S.getD i []).map (cnt S k)).sum ≤ ((S.getD i []).map fun i => if al S r i then 0 else cnt S k i).sum:=sum_le_of _ fun j hj => by
    have:=h1 j hj
    simp only [Bool.not_eq_true] at this
    rw [this]; simp
   rw [c]
   refine Nat.le_trans c2 ?_
   rw [hn,← nw_filter hs,← List.range_eq_range']
   exact sum_filter_le _ _ _
 ·simp
theorem gS_step (hs : Srt S) (r : Nat) : ∀ K,gS S (r + 1) (K + 1) ≤ gS S r (K + 1) + ly S r * (1 + gS S r K)
 | 0 => by
  have:=wS_step0 (S:=S) r
  show 0 + wS S (r + 1) 0 ≤ (0 + wS S r 0) + ly S r * (1 + 0)
  omega
 | K + 1 => by
  have h1:=gS_step hs r K
  have h2:=wS_step hs r K
  have e1 : gS S (r + 1) (K + 1 + 1) = gS S (r + 1) (K + 1) + wS S (r + 1) (K + 1):=rfl
  have e2 : gS S r (K + 1 + 1) = gS S r (K + 1) + wS S r (K + 1):=rfl
  have e3 : gS S r (K + 1) = gS S r K + wS S r K:=rfl
  have e4 : ly S r * (1 + gS S r (K + 1)) = ly S r * (1 + gS S r K) + ly S r * wS S r K:=by rw [e3,← Nat.mul_add]; congr 1; omega
  rw [e1,e2,e4]
  omega
theorem gS_mul (hs : Srt S) (r K : Nat) : 1 + gS S (r + 1) K ≤ (1 + ly S r) * (1 + gS S r K):=by
 cases K with
 | zero =>
  show 1 + 0 ≤ (1 + ly S r) * (1 + 0)
  omega
 | succ K =>
  have h:=gS_step hs r K
  have m : gS S r K ≤ gS S r (K + 1):=Nat.le_add_right _ _
  have : ly S r * (1 + gS S r K) ≤ ly S r * (1 + gS S r (K + 1)):=Nat.mul_le_mul_left _ (by omega)
  rw [Nat.add_mul,Nat.one_mul]
  omega
end
theorem sq_le (a b : Nat) : 4 * ((1 + a) * (1 + b)) ≤ (2 + (a + b)) * (2 + (a + b)):=by
 rcases Nat.le_total a b with h | h
 ·obtain ⟨d,rfl⟩ : ∃ d,b = a + d:=⟨b - a,by omega⟩
  have : (2 + (a + (a + d))) * (2 + (a + (a + d))) = 4 * ((1 + a) * (1 + (a + d))) + d * d:=by grind
  omega
 ·obtain ⟨d,rfl⟩ : ∃ d,a = b + d:=⟨a - b,by omega⟩
  have : (2 + (b + d + b)) * (2 + (b + d + b)) = 4 * ((1 + (b + d)) * (1 + b)) + d * d:=by grind
  omega
theorem cube_all : ∀ c,c < 244 → (245 - c) * (245 - c) * (1 + c) ≤ 2205472:=by decide +kernel
theorem tri_le {a b c : Nat} (h : a + b + c ≤ 243) : (1 + a) * ((1 + b) * (1 + c)) ≤ 551368:=by
 have h1:=sq_le a b
 have h2:=cube_all c (by omega)
 have h3 : (2 + (a + b)) * (2 + (a + b)) ≤ (245 - c) * (245 - c):=Nat.mul_le_mul (by omega) (by omega)
 have h4:=Nat.mul_le_mul_right (1 + c) (Nat.le_trans h1 h3)
 have h5 : 4 * ((1 + a) * (1 + b)) * (1 + c) = 4 * ((1 + a) * ((1 + b) * (1 + c))):=by rw [Nat.mul_assoc,Nat.mul_assoc]
 omega
section
variable {S : List (List Nat)}
theorem gS_tri (hs : Srt S) (n : S.length ≤ 243) (r K : Nat) : 1 + gS S (r + 3) K ≤ 551368 * (1 + gS S r K):=by
 have a1:=gS_mul hs r K
 have a2:=gS_mul hs (r + 1) K
 have a3:=gS_mul hs (r + 2) K
 have b1:=aS_ly (S:=S) r
 have b2 : aS S (r + 2) + ly S (r + 1) = aS S (r + 1):=aS_ly (r + 1)
 have b3 : aS S (r + 3) + ly S (r + 2) = aS S (r + 2):=aS_ly (r + 2)
 have b4:=aS_le (S:=S) r
 have t:=tri_le (a:=ly S (r + 2)) (b:=ly S (r + 1)) (c:=ly S r) (by omega)
 have c2:=Nat.mul_le_mul_left (1 + ly S (r + 2)) (Nat.le_trans a2 (Nat.mul_le_mul_left (1 + ly S (r + 1)) a1))
 have c3:=Nat.le_trans a3 c2
 have e : (1 + ly S (r + 2)) * ((1 + ly S (r + 1)) * ((1 + ly S r) * (1 + gS S r K))) = (1 + ly S (r + 2)) * ((1 + ly S (r + 1)) * (1 + ly S r)) * (1 + gS S r K):=by
  rw [← Nat.mul_assoc (1 + ly S (r + 1)),← Nat.mul_assoc (1 + ly S (r + 2))]
 rw [e] at c3
 exact Nat.le_trans c3 (Nat.mul_le_mul_right _ t)
theorem okC_dag (hs : Srt S) (n : S.length ≤ 243) (h : ∀ i,i < S.length → al S 9 i = zF) (N : Nat) : okC S N = zT:=okC_iff.2 fun k _ => by
 have a1:=gS_tri hs n 0 (k + 1)
 have a2:=gS_tri hs n 3 (k + 1)
 have a3:=gS_tri hs n 6 (k + 1)
 have z : ∀ K,gS S 0 K = 0:=fun K => by
  induction K with
  | zero => rfl
  | succ K ih =>
   show gS S 0 K + wS S 0 K = 0
   rw [ih,wS_0]
 rw [z] at a1
 have e : wS S 9 k = (rowC S k).sum:=by
  unfold wS rowC
  congr 1
  apply List.map_congr_left
  intro i hi
  rw [h i (List.mem_range.1 hi)]; rfl
 have g : gS S (6 + 3) (k + 1) = gS S 9 k + wS S 9 k:=rfl
 rw [g,e] at a3
 simp only [Nat.zero_add] at a1
 have a1' : 1 + gS S 3 (k + 1) ≤ 551368:=by omega
 have a2' : 1 + gS S 6 (k + 1) ≤ 551368 * 551368:=by
  have : 1 + gS S (3 + 3) (k + 1) ≤ 551368 * 551368:=Nat.le_trans a2 (Nat.mul_le_mul_left _ a1')
  exact this
 have a3':=Nat.le_trans a3 (Nat.mul_le_mul_left 551368 a2')
 omega
end
end Go.Proofs.Ytljgfdamdcikgaa.Ev
