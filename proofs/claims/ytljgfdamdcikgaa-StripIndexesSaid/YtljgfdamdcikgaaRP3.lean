/-
 Of the functions that this law reaches,part 3: what they answer. No condition.
-/
import Derived.Test.YtljgfdamdcikgaaRP2
import Derived.Test.YtljgfdamdcikgaaRP1
import Derived.Test.YtljgfdamdcikgaaEvW
import Derived.Test.YtljgfdamdcikgaaEvAny
import Derived.Test.YtljgfdamdcikgaaRP0
import Derived.WideKeyPair
import Derived.ChangeArms
set_option linter.unusedVariables false
set_option linter.unusedSimpArgs false
namespace Go.Proofs.Ytljgfdamdcikgaa.Ev
open Go Go.AEv
attribute [local simp] evFunc initS evOps_c evTrim_c evSkip_c evExit_c evRet_c evSeq_c evCond_c evBlock_c evDraw_c runOps_n runOps_c exec_n exec_g pure1_c act AOpd.ev T.get T.set T.put evBin evUn forceT_eq forceV_eq forceL_eq evRess evRes one keep runFP_n runFP_c app_none AV.flats AV.flat came_some List.getElem?_cons_zero List.getElem?_cons_succ beqT wrapI idxI tdivI tmodI decT decF ibT ibF inT inF evScope_c if_pos if_neg Cm_some thenW_n thenW_e thenW_r blkW_n blkW_e blkW_r goI kn putAt AV.cells fillA loadA takeA mk Eff.isAll Eff.isNone Eff.commutes Eff.spares okPair apart eqAgg fits LK.fits allEq aveq eqk mmA
theorem own_all (own : List AObj) : Eff.isAll (if own = [] then Eff.none else Eff.grow own) = false:=by
 split <;> rfl
theorem isAll_none : Eff.isAll Eff.none = false:=rfl
theorem pos_of {W : List (List Int)} {rows : List (List Nat)} : ∀ (R : List (List Nat)) (now : Int),(now = -1 ∨ ∃ c : Nat,now = c ∧ c < rows.length ∧ (∀ w,R[0]? = some w → blw W (rows.getD c []) w = true)) → (∀ w ∈ R,w ∈ rows) → (∀ i,i + 1 < R.length → blw W (R.getD i []) (R.getD (i + 1) []) = true) → ∃ P,R = rT2 rows P ∧ VC (stL W rows) now P
 | [],now,_,_,_ => ⟨[],rfl,trivial⟩
 | w :: R,now,h1,h2,h3 => by
  obtain ⟨c,hc,e⟩:=List.mem_iff_getElem.1 (h2 w (by simp))
  have ew : rows.getD c [] = w:=by rw [List.getD_eq_getElem?_getD,List.getElem?_eq_getElem hc]; exact e
  have sl : (stL W rows).length = rows.length:=by simp [stL]
  obtain ⟨P,e1,e2⟩:=pos_of R (c : Int) (.inr ⟨c,rfl,hc,fun w' hw' => by
   have hl:=(List.getElem?_eq_some_iff.1 hw').1
   have:=h3 0 (by rw [List.length_cons]; omega)
   rw [ew]
   have e0 : (w :: R).getD 1 [] = w':=by
    rw [List.getD_eq_getElem?_getD]
    show (R[0]?).getD [] = w'
    rw [hw']; rfl
   have e1 : (w :: R).getD 0 [] = w:=rfl
   rw [e1,e0] at this
   exact this⟩) (fun v hv => h2 v (by simp [hv])) (fun i hi => h3 (i + 1) (by rw [List.length_cons]; omega))
  refine ⟨c :: P,?_,by rw [sl]; exact hc,?_,e2⟩
  ·show w :: R = rows.getD c [] :: rT2 rows P
   rw [ew,e1]
  ·unfold pN
   rcases h1 with rfl | ⟨d,rfl,hd,hb⟩
   ·rfl
   ·rw [Int.toNat_natCast,stL_mem hd hc,ew,hb w rfl,Bool.or_true]
theorem rT2_inj {rows : List (List Nat)} (nd : rows.Nodup) : ∀ {P Q : List Nat},(∀ c ∈ P,c < rows.length) → (∀ c ∈ Q,c < rows.length) → rT2 rows P = rT2 rows Q → P = Q
 | [],[],_,_,_ => rfl
 | [],_ :: _,_,_,e => by simp [rT2] at e
 | _ :: _,[],_,_,e => by simp [rT2] at e
 | c :: P,d :: Q,h1,h2,e => by
  simp only [rT2,List.map_cons,List.cons.injEq] at e
  have hc:=h1 c (by simp)
  have hd:=h2 d (by simp)
  have e1:=e.1
  rw [List.getD_eq_getElem?_getD,List.getD_eq_getElem?_getD,List.getElem?_eq_getElem hc,List.getElem?_eq_getElem hd] at e1
  have : c = d:=by
   rcases Nat.lt_trichotomy c d with l | l | l
   ·exact absurd e1 ((List.pairwise_iff_getElem.1 nd) c d hc hd l)
   ·exact l
   ·exact absurd e1.symm ((List.pairwise_iff_getElem.1 nd) d c hd hc l)
  subst this
  rw [rT2_inj nd (fun x hx => h1 x (by simp [hx])) (fun x hx => h2 x (by simp [hx])) e.2]
theorem VC.lt {S : List (List Nat)} : ∀ {P : List Nat} {now : Int},VC S now P → ∀ c ∈ P,c < S.length
 | [],_,_,c,h => by cases h
 | d :: P,now,⟨h1,_,h3⟩,c,h => by
  rcases List.mem_cons.1 h with rfl | h
  ·exact h1
  ·exact h3.lt c h
theorem rows_nd (q : Nat) (B : List (List Int)) (m : Nat) : (rwL q B m).Nodup:=List.Nodup.sublist List.filter_sublist (exL_nd m [])
theorem kpS_iff {a : AG} {R : List (List Nat)} : kpS a R = true ↔ ∀ i,i < R.length → bsd a.B (R.getD i []) = true ∧ (i = 0 ∨ blw a.W (R.getD (i - 1) []) (R.getD i []) = true):=by
 unfold kpS
 rw [af_iff]
 constructor
 ·intro h i hi
  have:=h i (Nat.zero_le _) (by omega)
  unfold kpB at this
  simpa only [Bool.and_eq_true,Bool.or_eq_true,decide_eq_true_eq] using this
 ·intro h i _ hi
  have:=h i (by omega)
  unfold kpB
  simpa only [Bool.and_eq_true,Bool.or_eq_true,decide_eq_true_eq] using this
theorem pos_ex {a : AG} {m : Nat} {R : List (List Nat)} (ws : WS a m R) (k : kpS a R = true) : ∃ P,R = rT2 (rwL a.q a.B m) P ∧ VC (stL a.W (rwL a.q a.B m)) (-1) P:=by
 have kk:=kpS_iff.1 k
 refine pos_of R (-1) (.inl rfl) (fun w hw => ?_) (fun i hi => ?_)
 ·obtain ⟨i,hi,rfl⟩:=List.mem_iff_getElem.1 hw
  obtain ⟨h1,h2⟩:=ws.w _ hw
  have hb:=(kk i hi).1
  have e : R.getD i [] = R[i]:=by rw [List.getD_eq_getElem?_getD,List.getElem?_eq_getElem hi]; rfl
  rw [e] at hb
  have:=exL_of (q:=a.q) m [] R[i] h1 h2
  rw [List.nil_append] at this
  exact List.mem_filter.2 ⟨this,hb⟩
 ·have:=(kk (i + 1) hi).2
  rw [Nat.add_sub_cancel] at this
  exact this.resolve_left (by omega)
def Post44 (a : AR) (L : List (List UInt8)) (v : AV) (own : List AObj) : Prop:=own = [] ∧
 ((a.ru && isS a.q.toNat L) = false → v = .tup [G 0,G 2]) ∧
 ((a.ru && isS a.q.toNat L) = true → okC (a.steps (L.getD 0 []).length) L.length = false → v = .tup [G 0,G 5]) ∧
 ((a.ru && isS a.q.toNat L) = true → okC (a.steps (L.getD 0 []).length) L.length = true → ∀ R : List (List Nat),L = R.map stW → (∀ w ∈ R,∀ c ∈ w,c < a.q.toNat) → (kpS a.g R = false → v = .tup [G 0,G 6]) ∧
  ∀ P : List Nat,kpS a.g R = true → R = rT2 (a.rows (L.getD 0 []).length) P → VC (a.steps (L.getD 0 []).length) (-1) P → v = .tup [G (ix (a.steps (L.getD 0 []).length) (-1) P),G 0])
section
variable {a : AR} {x : AV} {L : List (List UInt8)}
set_option maxHeartbeats 2000000 in
theorem c44_ok (J : CallF) (k57 : KR 57 J) (k61 : K61m J) (k62 : K62 J) (k70 : K70 J) (k77 : K77 J) (k78 : K78 J) (hJ : ∀ a h,J 44 a h = none) (h : Heap) (o : OkR a h) (hx : EL h x (ss L)) (lL : L.length ≤ 1000000) (ls : ∀ s ∈ L,s.length ≤ 1000000) :
  ∃ v own,CallsTo tbl J 44 [a.v,x] h (v,own,false) ∧ Post44 a L v own:=by
 obtain ⟨Hs,hHs⟩ : ∃ H,(frameOf h).plus [.cells 0 3 [G a.q,a.x,a.y]] = H:=⟨_,rfl⟩
 have kHs : Kp (fun _ => False) (frameOf h) Hs:=by rw [← hHs]; exact Kp.plus _ _
 have oH : OkR a Hs:=OkR.kp (o.lo []) kHs
 have gS : Hs.get h.size = .cells 0 3 [G a.q,a.x,a.y]:=by rw [← hHs]; exact plus_at0 _ _ _ _ (frS h)
 have e57:=k57 Hs a oH
 have er : ruQ a.q a.B a.W = a.ru:=rfl
 rw [er] at e57
 have hxF : EL (frameOf h) x (ss L):=hx.lo []
 have hxH : EL Hs x (ss L):=by
  rcases hxF with h | ⟨b,v,e,g⟩
  ·exact .inl h
  ·exact .inr ⟨b,v,e,kHs.at g (by simp) id⟩
 have fz:=frS h
 have av : a.v = .agg [G a.q,a.x,a.y]:=rfl
 cases r : a.ru
 ·have : CallsTo tbl J 44 [a.v,x] h (.tup [G 0,G 2],[],false):=by
   refine Tr.fnv (cf:=c44) (e:=.ret) (s:=T.set (T.set .leaf [] a.v) [false] x) (by decide) rfl (hJ _ _) rfl rfl rfl (by simp) ?_
   refine Tr.post (Q:=(fun s h => s.get [true,false] = G 0 ∧ s.get [false,true] = G 2)) (fun s h q => by simp [c44,q]) ?_
   rw [r] at e57
   clear oH o hx hxF hxH ls kHs
   refine Tr.w fun s1 H1 hp _ kR => ?_
   obtain ⟨rfl,rfl⟩:=hp
   have q : True:=trivial
   refine zCh ?_
   simp (disch:=first|omega|exact zE rfl|exact zO|exact zL rfl) [c44_o0,zG,q,hHs]
   refine W.assoc ?_
   refine zCh ?_
   simp (disch:=first|omega|exact zE rfl|exact zO|exact zL rfl) [c44_o1,zG,q,fz,gS,e57]
   refine zCh ?_
   simp (disch:=first|omega|exact zE rfl|exact zO|exact zL rfl) [c44_o2,zG,q]
   exact kR _ _ (by simp [T.get])
  exact ⟨_,_,this,rfl,fun _ => rfl,fun e => (by rw [r] at e; simp at e),fun e => (by rw [r] at e; simp at e)⟩
 ·rw [r] at e57
  have e77:=k77 Hs ⟨a,x,L⟩ ⟨r,hxH,lL,ls⟩
  simp only at e77
  cases i : isS a.q.toNat L
  ·have : CallsTo tbl J 44 [a.v,x] h (.tup [G 0,G 2],[],false):=by
    refine Tr.fnv (cf:=c44) (e:=.ret) (s:=T.set (T.set .leaf [] a.v) [false] x) (by decide) rfl (hJ _ _) rfl rfl rfl (by simp) ?_
    refine Tr.post (Q:=(fun s h => s.get [true,false] = G 0 ∧ s.get [false,true] = G 2)) (fun s h q => by simp [c44,q]) ?_
    rw [i] at e77
    clear oH o hx hxF hxH ls kHs
    refine Tr.w fun s1 H1 hp _ kR => ?_
    obtain ⟨rfl,rfl⟩:=hp
    have q : True:=trivial
    refine zCh ?_
    simp (disch:=first|omega|exact zE rfl|exact zO|exact zL rfl) [c44_o0,zG,q,hHs]
    refine W.assoc ?_
    refine zCh ?_
    simp (disch:=first|omega|exact zE rfl|exact zO|exact zL rfl) [c44_o1,zG,q,fz,gS,e57,e77]
    refine zCh ?_
    simp (disch:=first|omega|exact zE rfl|exact zO|exact zL rfl) [c44_o2,zG,q]
    exact kR _ _ (by simp [T.get])
   exact ⟨_,_,this,rfl,fun _ => rfl,fun e => (by rw [i] at e; simp at e),fun e => (by rw [i] at e; simp at e)⟩
  ·have q3:=a.q3 r
   obtain ⟨m,R,rfl,hw,m1,m5,n1,n40,hm⟩:=isS_words (by omega) i
   rw [i] at e77
   have ws : WS a.g m R:=⟨hw,by omega,by omega⟩
   have lw:=wsL_len R
   obtain ⟨_,e⟩ | ⟨b,v,rfl,g⟩:=hxH
   ·rw [← ws_ss] at e
    have : (wsL R).length = 0:=by rw [e]; rfl
    omega
   rw [← ws_ss] at g
   have ls' : (ss (R.map stW)).length = R.length:=by simp
   rw [ls'] at e77 hx ⊢
   have rm : a.rm (m : Nat) = true:=by
    unfold AR.rm
    rw [r,decide_eq_true (by omega)]; rfl
   obtain ⟨os,s243,sr⟩:=AR.steps_ok rm
   obtain ⟨p,own,e61,lm,lmm⟩:=k61 Hs a.g m (oH.g r) m5
   rw [a.gv r] at e61
   obtain ⟨Z,hZ⟩ : ∃ Z,Hs.plus own = Z:=⟨_,rfl⟩
   have kZ : Kp (fun _ => False) Hs Z:=by rw [← hZ]; exact Kp.plus _ _
   rw [hZ] at lm lmm
   have lf : LF Z p (a.steps (m : Nat)):=lm.lf
   obtain ⟨v62,own2,e62,l62⟩:=k62 Z ⟨p,R.length,a.steps (m : Nat)⟩ ⟨os,s243,lf,n40⟩
   simp only at e62
   have w0:=wsL_at (R:=R) (i:=0) (by omega)
   have w0':=getI w0
   have lw0:=stW_len (R.getD 0 [])
   rw [(ws.at (i:=0) (by omega)).1] at lw0
   have gZ:=kZ.at g (by simp) id
   have gSZ:=kZ.at gS (by simp) id
   have lR : (R.map stW).length = R.length:=by rw [List.length_map]
   unfold Post44
   rw [hm,lR]
   rw [av] at e77
   cases hc : okC (a.steps (m : Nat)) R.length
   ·obtain ⟨rfl,rfl⟩:=l62.2 hc
    have : CallsTo tbl J 44 [a.v,.slice b 0 R.length v] h (.tup [G 0,G 5],[],false):=by
     refine Tr.fnv (cf:=c44) (e:=.ret) (s:=T.set (T.set .leaf [] a.v) [false] (.slice b 0 R.length v)) (by decide) rfl (hJ _ _) rfl rfl rfl (by simp) ?_
     refine Tr.post (Q:=(fun s h => s.get [true,false] = G 0 ∧ s.get [false,true] = G 5)) (fun s h q => by simp [c44,q]) ?_
     clear oH o hx hxF ls kHs ws hw lm lmm lf l62 os gZ gSZ k61 k62 k70 k77 k78
     generalize stW (R.getD 0 []) = u0 at *
     generalize wsL R = wR at *
     generalize R.length = n at *
     refine Tr.w fun s1 H1 hp _ kR => ?_
     obtain ⟨rfl,rfl⟩:=hp
     have q : True:=trivial
     refine zCh ?_
     simp (disch:=first|omega|exact zE rfl|exact zO|exact zL rfl) [c44_o0,zG,q,hHs]
     refine W.assoc ?_
     refine zCh ?_
     simp (disch:=first|omega|exact zE rfl|exact zO|exact zL rfl) [c44_o1,zG,q,fz,gS,e57,e77]
     refine zCh ?_
     simp (disch:=first|omega|exact zE rfl|exact zO|exact zL rfl) [c44_o2,zG,q]
     refine zCh ?_
     simp (disch:=first|omega|exact zE rfl|exact zO|exact zL rfl) [-evDraw_c,-Eff.isAll,c44_o3,zG,q,evDraw_0,fz,gS,g,w0,w0',lw,lw0,e61,app_if,app_if',hZ,own_all,isAll_none]
     refine zCh ?_
     simp (disch:=first|omega|exact zE rfl|exact zO|exact zL rfl) [c44_o4,zG,q,e62]
     refine W.assoc ?_
     refine zCh ?_
     simp (disch:=first|omega|exact zE rfl|exact zO|exact zL rfl) [c44_o5,zG,q]
     refine zCh ?_
     simp (disch:=first|omega|exact zE rfl|exact zO|exact zL rfl) [c44_o6,zG,q]
     exact kR _ _ (by simp [T.get])
    exact ⟨_,_,this,rfl,fun e => (by rw [r,i] at e; simp at e),fun _ _ => rfl,fun _ e => (by cases e)⟩
   ·obtain ⟨x7,rfl,tb⟩:=l62.1 hc
    obtain ⟨Z2,hZ2⟩ : ∃ H,Z.plus own2 = H:=⟨_,rfl⟩
    have kZ2 : Kp (fun _ => False) Z Z2:=by rw [← hZ2]; exact Kp.plus _ _
    rw [hZ2] at tb
    simp only at tb
    obtain ⟨bo,ros,rfl,e2,e3,e4⟩:=tb.sl (i:=0) (by rw [rowsC_len]; omega)
    rw [rowsC_len] at e2 e3 e62
    have tbl' : ∀ j,j < R.length → ∃ br,ros[j]? = some (.slice br 0 (a.steps (m : Nat)).length (a.steps (m : Nat)).length) ∧ Z2.get br = .cells 1 (a.steps (m : Nat)).length (gn (rowC (a.steps (m : Nat)) j)):=fun j hj => by
     obtain ⟨br,e5,e6⟩:=e4 j _ (rowsC_at _ hj)
     rw [gn_len,rowC_len] at e5 e6
     exact ⟨br,e5,e6⟩
    have gZ2:=kZ2.at gZ (by simp) id
    have gSZ2:=kZ2.at gSZ (by simp) id
    have e78:=k78 Z2 a.g m R b v (((oH.g r).kp kZ).kp kZ2) ws gZ2
    rw [a.gv r,av] at e78
    cases hk : kpS a.g R
    ·rw [hk] at e78
     have : CallsTo tbl J 44 [a.v,.slice b 0 R.length v] h (.tup [G 0,G 6],[],false):=by
      refine Tr.fnv (cf:=c44) (e:=.ret) (s:=T.set (T.set .leaf [] a.v) [false] (.slice b 0 R.length v)) (by decide) rfl (hJ _ _) rfl rfl rfl (by simp) ?_
      refine Tr.post (Q:=(fun s h => s.get [true,false] = G 0 ∧ s.get [false,true] = G 6)) (fun s h q => by simp [c44,q]) ?_
      clear oH o hx hxF ls kHs ws hw lm lmm lf l62 os k61 k62 k70 k77 k78 tbl' e4 tb hk hc
      generalize stW (R.getD 0 []) = u0 at *
      generalize wsL R = wR at *
      generalize R.length = n at *
      refine Tr.w fun s1 H1 hp _ kR => ?_
      obtain ⟨rfl,rfl⟩:=hp
      have q : True:=trivial
      refine zCh ?_
      simp (disch:=first|omega|exact zE rfl|exact zO|exact zL rfl) [c44_o0,zG,q,hHs]
      refine W.assoc ?_
      refine zCh ?_
      simp (disch:=first|omega|exact zE rfl|exact zO|exact zL rfl) [c44_o1,zG,q,fz,gS,e57,e77]
      refine zCh ?_
      simp (disch:=first|omega|exact zE rfl|exact zO|exact zL rfl) [c44_o2,zG,q]
      refine zCh ?_
      simp (disch:=first|omega|exact zE rfl|exact zO|exact zL rfl) [-evDraw_c,-Eff.isAll,c44_o3,zG,q,evDraw_0,fz,gS,g,w0,w0',lw,lw0,e61,app_if,app_if',hZ,own_all,isAll_none]
      refine zCh ?_
      simp (disch:=first|omega|exact zE rfl|exact zO|exact zL rfl) [c44_o4,zG,q,e62,app_if,app_if',hZ2]
      refine W.assoc ?_
      refine zCh ?_
      simp (disch:=first|omega|exact zE rfl|exact zO|exact zL rfl) [c44_o5,zG,q]
      refine zCh ?_
      simp (disch:=first|omega|exact zE rfl|exact zO|exact zL rfl) [c44_o6,zG,q]
      refine W.assoc ?_
      refine zCh ?_
      simp (disch:=first|omega|exact zE rfl|exact zO|exact zL rfl) [c44_o7,zG,q,gSZ2,e78]
      refine zCh ?_
      simp (disch:=first|omega|exact zE rfl|exact zO|exact zL rfl) [c44_o8,zG,q]
      exact kR _ _ (by simp [T.get])
     refine ⟨_,_,this,rfl,fun e => (by rw [r,i] at e; simp at e),fun _ e => (by cases e),fun _ _ R' e hR' => ?_⟩
     rw [← stW_map_inj (fun w hw' c hc => by have:=(hw w hw').2 c hc; omega) (fun w hw' c hc => by have:=hR' w hw' c hc; omega) e,hk]
     exact ⟨fun _ => rfl,fun P e => (by cases e)⟩
    ·rw [hk] at e78
     obtain ⟨P,eP,vc⟩:=pos_ex ws hk
     have hrows : rwL a.g.q a.g.B m = a.rows (m : Nat):=by
      unfold AR.rows AR.g
      rw [Int.toNat_natCast]
     have hsteps : stL a.g.W (a.rows (m : Nat)) = a.steps (m : Nat):=rfl
     rw [hrows] at eP vc lmm
     rw [hsteps] at vc
     have lP : P.length = R.length:=by rw [eP]; unfold rT2; rw [List.length_map]
     have hs : Srt (a.steps (m : Nat)):=srt_st _ _
     have bd : ix (a.steps (m : Nat)) (-1) P ≤ 1152921504606846976:=by
      cases hP : P with
      | nil => rw [hP] at lP; simp at lP; omega
      | cons c P' =>
       rw [hP] at vc lP
       have h1:=ix_lt hs vc
       rw [ft_nw hs] at h1
       have h2:=okC_iff.1 hc P'.length (by rw [← lP]; simp)
       have h3 : ((nwL (a.steps (m : Nat)) (-1)).map (cnt (a.steps (m : Nat)) P'.length)).sum = (rowC (a.steps (m : Nat)) P'.length).sum:=rfl
       omega
     have l1:=c44_l1_ok (p:=p) (N:=R.length) (R:=a.rows (m : Nat)) (bs:=b) (v:=v) J k70 (lf.kp kZ2) (lmm.kp kZ2) sr.symm os lP e2 e3 tbl' n40 (by rw [← eP]; exact gZ2) vc bd
     have : CallsTo tbl J 44 [a.v,.slice b 0 R.length v] h (.tup [G (ix (a.steps (m : Nat)) (-1) P),G 0],[],false):=by
      refine Tr.fnv (cf:=c44) (e:=.ret) (s:=T.set (T.set .leaf [] a.v) [false] (.slice b 0 R.length v)) (by decide) rfl (hJ _ _) rfl rfl rfl (by simp) ?_
      refine Tr.post (Q:=(fun s h => s.get [true,false] = G (ix (a.steps (m : Nat)) (-1) P) ∧ s.get [false,true] = G 0)) (fun s h q => by simp [c44,q]) ?_
      clear oH o hx hxF ls kHs ws hw lm lmm lf l62 os k61 k62 k70 k77 k78 tbl' e4 tb hk hc vc bd eP lP hs
      generalize ix (a.steps (m : Nat)) (-1) P = tot at *
      generalize stW (R.getD 0 []) = u0 at *
      generalize wsL R = wR at *
      generalize R.length = n at *
      refine Tr.w fun s1 H1 hp _ kR => ?_
      obtain ⟨rfl,rfl⟩:=hp
      have q : True:=trivial
      refine zCh ?_
      simp (disch:=first|omega|exact zE rfl|exact zO|exact zL rfl) [c44_o0,zG,q,hHs]
      refine W.assoc ?_
      refine zCh ?_
      simp (disch:=first|omega|exact zE rfl|exact zO|exact zL rfl) [c44_o1,zG,q,fz,gS,e57,e77]
      refine zCh ?_
      simp (disch:=first|omega|exact zE rfl|exact zO|exact zL rfl) [c44_o2,zG,q]
      refine zCh ?_
      simp (disch:=first|omega|exact zE rfl|exact zO|exact zL rfl) [-evDraw_c,-Eff.isAll,c44_o3,zG,q,evDraw_0,fz,gS,g,w0,w0',lw,lw0,e61,app_if,app_if',hZ,own_all,isAll_none]
      refine zCh ?_
      simp (disch:=first|omega|exact zE rfl|exact zO|exact zL rfl) [c44_o4,zG,q,e62,app_if,app_if',hZ2]
      refine W.assoc ?_
      refine zCh ?_
      simp (disch:=first|omega|exact zE rfl|exact zO|exact zL rfl) [c44_o5,zG,q]
      refine zCh ?_
      simp (disch:=first|omega|exact zE rfl|exact zO|exact zL rfl) [c44_o6,zG,q]
      refine W.assoc ?_
      refine zCh ?_
      simp (disch:=first|omega|exact zE rfl|exact zO|exact zL rfl) [c44_o7,zG,q,gSZ2,e78]
      refine zCh ?_
      simp (disch:=first|omega|exact zE rfl|exact zO|exact zL rfl) [c44_o8,zG,q]
      refine zCh ?_
      simp (disch:=first|omega|exact zE rfl|exact zO|exact zL rfl) [c44_o9,zG,q]
      refine W.assoc ?_
      refine zCh ?_
      simp (disch:=first|omega|exact zE rfl|exact zO|exact zL rfl) [c44_o10,zG,q]
      refine W.seq (W.block ?_)
      refine W.use (l1) (by simp (disch:=first|omega|exact zE rfl|exact zO|exact zL rfl) [zG,q]) fun s1 H1 hp => ?_
      obtain ⟨rfl,q⟩:=hp
      try simp only [zW,if_true]
      refine zCh ?_
      simp (disch:=first|omega|exact zE rfl|exact zO|exact zL rfl) [c44_o22,zG,q]
      refine W.ret ?_
      try simp only [zW,if_true]
      exact kR _ _ (by simp [T.get,q])
     refine ⟨_,_,this,rfl,fun e => (by rw [r,i] at e; simp at e),fun _ e => (by cases e),fun _ _ R' e hR' => ?_⟩
     rw [← stW_map_inj (fun w hw' c hc => by have:=(hw w hw').2 c hc; omega) (fun w hw' c hc => by have:=hR' w hw' c hc; omega) e,hk]
     refine ⟨fun e => (by cases e),fun P' _ eP' vc' => ?_⟩
     rw [eP] at eP'
     have l1 : ∀ c ∈ P,c < (a.rows (m : Nat)).length:=fun c hc => by rw [← sr]; exact vc.lt c hc
     have l2 : ∀ c ∈ P',c < (a.rows (m : Nat)).length:=fun c hc => by rw [← sr]; exact vc'.lt c hc
     rw [rT2_inj (rows_nd _ _ _) l1 l2 eP']
end
noncomputable def T70 : CallF:=addK tbl T69 44 Pre45 (fun b _ v own => Post44 b.a b.L v own)
theorem t70 : Sound Go.Proofs.Try.prog T70:=Sound.addK follows ok t69 (by decide) _ _
theorem k57_69 : KR 57 T69:=fun h a o => by
 rw [show T69 57 [.agg [G a.q,a.x,a.y]] h = T10 57 [.agg [G a.q,a.x,a.y]] h from by simp (disch:=decide) only [T11,T12,T13,T14,T15,T16,T17,T18,T19,T20,T21,T22,T23,T24,T25,T26,T27,T28,T29,T30,T31,T32,T33,T34,T35,T36,T37,T38,T39,T40,T41,T42,T43,T44,T45,T46,T47,T48,T49,T50,T51,T52,T53,T54,T55,T56,T57,T58,T59,T60,T61,T62,T63,T64,T65,T66,T67,T68,T69,addI_ne,addX_ne,addV_ne,addK_ne]]; exact k57 h a o
theorem k61_69 : K61m T69:=fun h a m o m5 => by
 obtain ⟨p,own,e,l⟩:=k61m h a m o m5
 exact ⟨p,own,by rw [show T69 61 [a.v,G m] h = T18 61 [a.v,G m] h from by simp (disch:=decide) only [T19,T20,T21,T22,T23,T24,T25,T26,T27,T28,T29,T30,T31,T32,T33,T34,T35,T36,T37,T38,T39,T40,T41,T42,T43,T44,T45,T46,T47,T48,T49,T50,T51,T52,T53,T54,T55,T56,T57,T58,T59,T60,T61,T62,T63,T64,T65,T66,T67,T68,T69,addI_ne,addX_ne,addV_ne,addK_ne]]; exact e,l⟩
theorem k62_69 : K62 T69:=fun h b o => by
 obtain ⟨v,own,e,l⟩:=k62 h b o
 exact ⟨v,own,by rw [show T69 62 [.ptr b.p 0 3,G b.nn] h = T38 62 [.ptr b.p 0 3,G b.nn] h from by simp (disch:=decide) only [T39,T40,T41,T42,T43,T44,T45,T46,T47,T48,T49,T50,T51,T52,T53,T54,T55,T56,T57,T58,T59,T60,T61,T62,T63,T64,T65,T66,T67,T68,T69,addI_ne,addX_ne,addV_ne,addK_ne]]; exact e,l⟩
theorem k70_69 : K70 T69:=fun h x v L h1 h2 => by
 rw [show T69 70 [x,G v] h = T43 70 [x,G v] h from by simp (disch:=decide) only [T44,T45,T46,T47,T48,T49,T50,T51,T52,T53,T54,T55,T56,T57,T58,T59,T60,T61,T62,T63,T64,T65,T66,T67,T68,T69,addI_ne,addX_ne,addV_ne,addK_ne]]; exact k70 h x v L h1 h2
theorem k77_69 : K77 T69:=fun h b o => by
 rw [show T69 77 [b.a.v,b.x] h = T67 77 [b.a.v,b.x] h from by simp (disch:=decide) only [T68,T69,addI_ne,addX_ne,addV_ne,addK_ne]]; exact k77 h b o
theorem k78_69 : K78 T69:=fun h a m R b v o k g => by
 rw [show T69 78 [a.v,.slice b 0 R.length v] h = T68 78 [a.v,.slice b 0 R.length v] h from by simp (disch:=decide) only [T69,addI_ne,addX_ne,addV_ne,addK_ne]]; exact k78 h a m R b v o k g
abbrev K44 (J : CallF) : Prop:=∀ (h : Heap) (b : A45),Ok45 b h → ∃ v own,J 44 [b.a.v,b.x] h = some (v,own,false) ∧ Post44 b.a b.L v own
theorem k44 : K44 T70:=fun h b o => by
 obtain ⟨v,own,e,l⟩:=addK_some (Pre:=Pre45) (Post:=fun b _ v own => Post44 b.a b.L v own) (fun b args h hp => by
  obtain ⟨⟨h1,h2,h3,h4⟩,rfl⟩:=hp
  exact c44_ok T69 k57_69 k61_69 k62_69 k70_69 k77_69 k78_69 (fun _ _ => by simp (disch:=decide) only [T1,T2,T3,T4,T5,T6,T7,T8,T9,T10,T11,T12,T13,T14,T15,T16,T17,T18,T19,T20,T21,T22,T23,T24,T25,T26,T27,T28,T29,T30,T31,T32,T33,T34,T35,T36,T37,T38,T39,T40,T41,T42,T43,T44,T45,T46,T47,T48,T49,T50,T51,T52,T53,T54,T55,T56,T57,T58,T59,T60,T61,T62,T63,T64,T65,T66,T67,T68,T69,addI_ne,addX_ne,addV_ne,addK_ne]; rfl) h h1 h2 h3 h4) b _ h ⟨o,rfl⟩
 exact ⟨v,own,e,l⟩
end Go.Proofs.Ytljgfdamdcikgaa.Ev
set_option linter.unusedVariables false
set_option linter.unusedSimpArgs false
namespace Go.Proofs.Ytljgfdamdcikgaa.Ev
open Go Go.AEv
def exC (S : List (List Nat)) (k i : Nat) : Nat:=((S.getD i []).find? (al S k)).getD 0
def ext (S : List (List Nat)) : Nat → Nat → List Nat
 | 0,_ => []
 | k + 1,i => exC S k i :: ext S k (exC S k i)
section
variable {S : List (List Nat)}
end
end Go.Proofs.Ytljgfdamdcikgaa.Ev
set_option linter.unusedVariables false
set_option linter.unusedSimpArgs false
namespace Go.Proofs.Ytljgfdamdcikgaa.Ev
open Go Go.AEv
attribute [local simp] evFunc initS evOps_c evTrim_c evSkip_c evExit_c evRet_c evSeq_c evCond_c evBlock_c evDraw_c runOps_n runOps_c exec_n exec_g pure1_c act AOpd.ev T.get T.set T.put evBin evUn forceT_eq forceV_eq forceL_eq evRess evRes one keep runFP_n runFP_c app_none AV.flats AV.flat came_some List.getElem?_cons_zero List.getElem?_cons_succ beqT wrapI idxI tdivI tmodI decT decF ibT ibF inT inF evScope_c if_pos if_neg Cm_some thenW_n thenW_e thenW_r blkW_n blkW_e blkW_r goI kn putAt AV.cells fillA loadA takeA mk Eff.isAll Eff.isNone Eff.commutes Eff.spares okPair apart eqAgg fits LK.fits allEq aveq eqk mmA
def bfr : List (List UInt8) → List (List UInt8) → Bool
 | a :: L,b :: M => if a = b then bfr L M else Op.bytesLess a b
 | _,_ => false
section
variable {L M : List (List UInt8)} {b1 v1 b2 v2 n : Nat}
end
structure A54 where
 L : List (List UInt8)
 M : List (List UInt8)
 b1 : Nat
 v1 : Nat
 b2 : Nat
 v2 : Nat
 n : Nat
def Ok54 (a : A54) (h : Heap) : Prop:=h.get a.b1 = .cells 1 a.v1 (ss a.L) ∧ h.get a.b2 = .cells 1 a.v2 (ss a.M) ∧ a.L.length = a.n ∧ a.M.length = a.n ∧ a.n ≤ 1000000
def Pre54 (a : A54) (args : List AV) (h : Heap) : Prop:=Ok54 a h ∧ args = [.slice a.b1 0 a.n a.v1,.slice a.b2 0 a.n a.v2]
def Post54 (a : A54) (h : Heap) (v : AV) (own : List AObj) : Prop:=v = .bool (bfr a.L a.M) ∧ own = []
noncomputable def T71 : CallF:=addK tbl T70 54 Pre54 Post54
theorem t71 : Sound Go.Proofs.Try.prog T71:=Sound.addK follows ok t70 (by decide) _ _
def RBb (n m : Nat) (x : Bool) : List AV:=List.replicate m (.bool x) ++ List.replicate (n - m) (.bool false)
theorem RBb_len {n m : Nat} {x : Bool} (h : m ≤ n) : (RBb n m x).length = n:=by simp [RBb]; omega
theorem RBb_take (n m : Nat) (x : Bool) : (RBb n m x).take m = List.replicate m (.bool x):=by simp [RBb]
theorem RBb_all (n : Nat) (x : Bool) : RBb n n x = List.replicate n (.bool x):=by simp [RBb]
theorem RBb_put {n m k : Nat} {x : Bool} (h : m + k ≤ n) : putAt (RBb n m x) m (List.replicate k (.bool x)) = RBb n (m + k) x:=by
 unfold RBb
 rw [rep_put _ _ _ _ (by simp; omega),List.drop_replicate,Nat.sub_sub]
section
variable {n : Nat} {x : Bool}
abbrev P79 (h : Heap) (n : Nat) (x : Bool) (m : Nat) : SP:=(fun s h' => s.get [false,false,false] = .slice h.size 0 n n ∧ s.get [true,false,false] = G m ∧ h' = ⟨h.get,h.size,[.cells 1 n (RBb n m x)]⟩)
theorem repb_loop (J : CallF) (h : Heap) (hn : n ≤ 243) : ∀ (j m : Nat),n - m ≤ j → 1 ≤ m → m ≤ n → Tr tbl J c79_l0 (P79 h n x m) (.exit 0) (P79 h n x n):=by
 intro j
 induction j with
 | zero =>
  intro m hj h1 h2
  obtain rfl : m = n:=by omega
  have t : Tr tbl J ((.trim [[false,false,false],[true,false,false]] c79_b0)) (fun s h' => s.get [false,false,false] = .slice h.size 0 m m ∧ s.get [true,false,false] = G m ∧ h' = ⟨h.get,h.size,[.cells 1 m (RBb m m x)]⟩) (.exit 0) (fun s h' => s.get [false,false,false] = .slice h.size 0 m m ∧ s.get [true,false,false] = G m ∧ h' = ⟨h.get,h.size,[.cells 1 m (RBb m m x)]⟩):=Tr.region fun s h hp => by
   obtain ⟨g0,g1,rfl⟩:=hp
   simp (disch:=first|omega|exact zE rfl|exact zO|exact zL rfl) [c79_b0,c79_o8,frameOf,Heap.size,Heap.get,Eff.app,Heap.setOwn,g0,g1]
  exact Tr.out t (by simp)
 | succ j ih =>
  intro m hj h1 h2
  by_cases hm : m = n
  ·exact ih m (by omega) h1 h2
  ·obtain ⟨k,hk⟩ : ∃ k,k = min m (n - m):=⟨_,rfl⟩
   have hkm : m + k ≤ n:=by omega
   have e1:=RBb_len (n:=n) (m:=m) (x:=x) h2
   have e2:=RBb_take n m x
   have e3:=RBb_put (n:=n) (m:=m) (k:=k) (x:=x) hkm
   have e4 : min m (n - m) = k:=hk.symm
   have e5 : min k m = k:=by omega
   obtain ⟨cs,hcs⟩ : ∃ cs,RBb n m x = cs:=⟨_,rfl⟩
   rw [hcs] at e1 e2 e3
   have hm0 : ¬ (m = n ∧ 0 < n):=by omega
   have hm1 : ¬ (0 = n ∧ 0 < n):=by omega
   have t : Tr tbl J ((.trim [[false,false,false],[true,false,false]] c79_b0)) (fun s h' => s.get [false,false,false] = .slice h.size 0 n n ∧ s.get [true,false,false] = G m ∧ h' = ⟨h.get,h.size,[.cells 1 n cs]⟩) .normal (fun s h' => s.get [false,false,false] = .slice h.size 0 n n ∧ s.get [true,false,false] = G ((m + k : Nat) : Int) ∧ h' = ⟨h.get,h.size,[.cells 1 n (RBb n (m + k) x)]⟩):=Tr.region fun s h hp => by
    obtain ⟨g0,g1,rfl⟩:=hp
    simp (disch:=first|omega|exact zE rfl|exact zO|exact zL rfl) [c79_b0,c79_o8,c79_o9,frameOf,Heap.size,Heap.get,Eff.app,Heap.setOwn,g0,g1,slSlA,bounds,elems,copyA,rdOf,hm0,hm1,e1,e2,e3,e4,e5,List.take_replicate]
    omega
   rw [← hcs] at t
   exact Tr.next t (ih (m + k) (by omega) (by omega) (by omega))
theorem c79_ok (J : CallF) (k99 : ∀ (h : Heap) (n : Int),0 ≤ n → n < 244 → J 99 [.int .u64 1,.int .u64 n] h = some (.tup [.int .u64 0,.int .u64 n],[],false)) (hJ : ∀ a h,J 79 a h = none) (h : Heap) (b : Nat) (hb : h.get b = .cells 1 1 [.bool x]) (h1 : 1 ≤ n) (h2 : n ≤ 243) :
  CallsTo tbl J 79 [.slice b 0 1 1,G n] h (.slice h.size 0 n n,[.cells 1 n (List.replicate n (.bool x))],false):=by
 have hlt:=get_lt hb (by simp)
 have wu : ∀ z : Int,0 ≤ z → z < 244 → IntKind.u64.wrap z = z:=fun z _ _ => by unfold IntKind.wrap IntKind.bits IntKind.signed; simp; omega
 refine Tr.fnh (cf:=c79) (e:=.ret) (s:=T.set (T.set .leaf [] (.slice b 0 1 1)) [false] (G n)) (by decide) rfl (hJ _ _) rfl rfl rfl (by simp) ?_
 have t0 : Tr tbl J (c79_o0) (fun s h' => s = T.set (T.set .leaf [] (.slice b 0 1 1)) [false] (G n) ∧ h' = frameOf h) .normal (fun s h' => s.get [] = .slice b 0 1 1 ∧ s.get [false] = G n ∧ h' = ⟨h.get,h.size,[]⟩):=Tr.region fun s h hp => by
  obtain ⟨rfl,rfl⟩:=hp
  simp (disch:=first|omega|exact zE rfl|exact zO|exact zL rfl) [c79_o0,frameOf,Heap.size,Heap.get,Eff.app,Heap.setOwn]
 have t1 : Tr tbl J ((.seq c79_o1 (.cond (.s [true,true,false]) c79_o2 .skip))) (fun s h' => s.get [] = .slice b 0 1 1 ∧ s.get [false] = G n ∧ h' = ⟨h.get,h.size,[]⟩) .normal (fun s h' => s.get [] = .slice b 0 1 1 ∧ s.get [false] = G n ∧ h' = ⟨h.get,h.size,[]⟩):=Tr.region fun s h hp => by
  obtain ⟨g0,g1,rfl⟩:=hp
  simp (disch:=first|omega|exact zE rfl|exact zO|exact zL rfl) [c79_o1,frameOf,Heap.size,Heap.get,Eff.app,Heap.setOwn,g0,g1]
 have t2 : Tr tbl J (c79_o3) (fun s h' => s.get [] = .slice b 0 1 1 ∧ s.get [false] = G n ∧ h' = ⟨h.get,h.size,[]⟩) .normal (fun s h' => s.get [] = .slice b 0 1 1 ∧ s.get [false,true] = .int .u64 0 ∧ s.get [true,true] = .int .u64 n ∧ h' = ⟨h.get,h.size,[]⟩):=Tr.region fun s h hp => by
  obtain ⟨g0,g1,rfl⟩:=hp
  simp (disch:=first|omega|exact zE rfl|exact zO|exact zL rfl) [c79_o3,frameOf,Heap.size,Heap.get,Eff.app,Heap.setOwn,g0,g1,wu,k99]
 have t3 : Tr tbl J ((.seq c79_o4 (.cond (.s [true,true,false,true]) c79_o5 .skip))) (fun s h' => s.get [] = .slice b 0 1 1 ∧ s.get [false,true] = .int .u64 0 ∧ s.get [true,true] = .int .u64 n ∧ h' = ⟨h.get,h.size,[]⟩) .normal (fun s h' => s.get [] = .slice b 0 1 1 ∧ s.get [true,true] = .int .u64 n ∧ h' = ⟨h.get,h.size,[]⟩):=Tr.region fun s h hp => by
  obtain ⟨g0,g1,g2,rfl⟩:=hp
  simp (disch:=first|omega|exact zE rfl|exact zO|exact zL rfl) [c79_o4,frameOf,Heap.size,Heap.get,Eff.app,Heap.setOwn,g0,g1,g2]
 have e0 : RBb n 1 x = (List.replicate n (.bool false)).set 0 (.bool x):=by
  obtain ⟨N,rfl⟩ : ∃ N,n = N + 1:=⟨n - 1,by omega⟩
  simp [RBb,List.replicate_succ]
 have t4 : Tr tbl J ((.seq c79_o6 c79_o7)) (fun s h' => s.get [] = .slice b 0 1 1 ∧ s.get [true,true] = .int .u64 n ∧ h' = ⟨h.get,h.size,[]⟩) .normal (fun s h' => s.get [false,false,false] = .slice h.size 0 n n ∧ s.get [true,false,false] = G ((1 : Nat) : Int) ∧ h' = ⟨h.get,h.size,[.cells 1 n (RBb n 1 x)]⟩):=Tr.region fun s h hp => by
  obtain ⟨g0,g1,rfl⟩:=hp
  rw [e0]
  simp (disch:=first|omega|exact zE rfl|exact zO|exact zL rfl) [c79_o6,c79_o7,size_mk,get_mk_lt,get_mk_ge,frameOf,Eff.app,Heap.setOwn,g0,g1,repl,elems,copyA,rdOf,hb]
  omega
 have t5 : Tr tbl J ((.seq c79_o10 .ret)) (fun s h' => s.get [false,false,false] = .slice h.size 0 n n ∧ s.get [true,false,false] = G n ∧ h' = ⟨h.get,h.size,[.cells 1 n (RBb n n x)]⟩) .ret (fun s h' => s.get [true,false] = .slice h.size 0 n n ∧ h' = ⟨h.get,h.size,[.cells 1 n (RBb n n x)]⟩):=Tr.region fun s h hp => by
  obtain ⟨g0,g1,rfl⟩:=hp
  simp (disch:=first|omega|exact zE rfl|exact zO|exact zL rfl) [c79_o10,frameOf,Heap.size,Heap.get,Eff.app,Heap.setOwn,g0,g1]
 refine Tr.post (fun s h' q => ?_) (Tr.seq t0 (Tr.seq t1 (Tr.seq t2 (Tr.seq t3 (Tr.app2 t4 (Tr.seq (Tr.block (repb_loop J h h2 n 1 (by omega) (by omega) h1)) t5))))))
 obtain ⟨q1,rfl⟩:=q
 simp [c79,q1,RBb_all]
theorem c79_0 (J : CallF) (k99 : ∀ (h : Heap) (n : Int),0 ≤ n → n < 244 → J 99 [.int .u64 1,.int .u64 n] h = some (.tup [.int .u64 0,.int .u64 n],[],false)) (hJ : ∀ a h,J 79 a h = none) (h : Heap) (b : Nat) (hb : h.get b = .cells 1 1 [.bool x]) :
  CallsTo tbl J 79 [.slice b 0 1 1,G 0] h (.slice h.size 0 0 0,[.cells 1 0 []],false):=by
 have hlt:=get_lt hb (by simp)
 have wu : ∀ z : Int,0 ≤ z → z < 244 → IntKind.u64.wrap z = z:=fun z _ _ => by unfold IntKind.wrap IntKind.bits IntKind.signed; simp; omega
 refine Tr.fnh (cf:=c79) (e:=.ret) (s:=T.set (T.set .leaf [] (.slice b 0 1 1)) [false] (G 0)) (by decide) rfl (hJ _ _) rfl rfl rfl (by simp) ?_
 refine Tr.post (Q:=(fun s h' => h' = ⟨h.get,h.size,[.cells 1 0 []]⟩ ∧ s.get [true,false] = .slice h.size 0 0 0)) (fun s h' q => by
  obtain ⟨rfl,q1⟩:=q
  simp [c79,q1]) ?_
 have l0 : Tr tbl J c79_l0 (fun s h' => h' = ⟨h.get,h.size,[.cells 1 0 []]⟩ ∧ s.get [false,false,false] = .slice h.size 0 0 0 ∧ s.get [true,false,false] = G 0) (.exit 0) (fun s h' => h' = ⟨h.get,h.size,[.cells 1 0 []]⟩ ∧ s.get [false,false,false] = .slice h.size 0 0 0):=by
  refine Tr.out ?_ (by simp)
  refine Tr.w fun s1 H1 hp _ kR => W.trim ?_
  obtain ⟨rfl,q⟩:=hp
  refine W.assoc ?_
  refine zCh ?_
  simp (disch:=first|omega|exact zE rfl|exact zO|exact zL rfl) [c79_o8,size_mk,get_mk_lt,get_mk_ge,frameOf,Eff.app,Heap.setOwn,q]
  refine zCh ?_
  simp (disch:=first|omega|exact zE rfl|exact zO|exact zL rfl) [size_mk,get_mk_lt,get_mk_ge,frameOf,Eff.app,Heap.setOwn,q]
  exact kR _ _ (by simp [T.get,q])
 refine Tr.w fun s1 H1 hp _ kR => ?_
 obtain ⟨rfl,rfl⟩:=hp
 have q : True:=trivial
 refine zCh ?_
 simp (disch:=first|omega|exact zE rfl|exact zO|exact zL rfl) [c79_o0,size_mk,get_mk_lt,get_mk_ge,frameOf,Eff.app,Heap.setOwn,q]
 refine W.assoc ?_
 refine zCh ?_
 simp (disch:=first|omega|exact zE rfl|exact zO|exact zL rfl) [c79_o1,size_mk,get_mk_lt,get_mk_ge,frameOf,Eff.app,Heap.setOwn,q]
 refine zCh ?_
 simp (disch:=first|omega|exact zE rfl|exact zO|exact zL rfl) [c79_o2,size_mk,get_mk_lt,get_mk_ge,frameOf,Eff.app,Heap.setOwn,q]
 refine zCh ?_
 simp (disch:=first|omega|exact zE rfl|exact zO|exact zL rfl) [c79_o3,size_mk,get_mk_lt,get_mk_ge,frameOf,Eff.app,Heap.setOwn,q,wu,k99]
 refine W.assoc ?_
 refine zCh ?_
 simp (disch:=first|omega|exact zE rfl|exact zO|exact zL rfl) [c79_o4,size_mk,get_mk_lt,get_mk_ge,frameOf,Eff.app,Heap.setOwn,q]
 refine zCh ?_
 simp (disch:=first|omega|exact zE rfl|exact zO|exact zL rfl) [c79_o5,size_mk,get_mk_lt,get_mk_ge,frameOf,Eff.app,Heap.setOwn,q]
 refine zCh ?_
 simp (disch:=first|omega|exact zE rfl|exact zO|exact zL rfl) [c79_o6,size_mk,get_mk_lt,get_mk_ge,frameOf,Eff.app,Heap.setOwn,q,repl]
 refine zCh ?_
 simp (disch:=first|omega|exact zE rfl|exact zO|exact zL rfl) [c79_o7,size_mk,get_mk_lt,get_mk_ge,frameOf,Eff.app,Heap.setOwn,q,elems,copyA,rdOf,hb]
 refine W.seq (W.block ?_)
 refine W.use (l0) (by simp (disch:=first|omega|exact zE rfl|exact zO|exact zL rfl) [size_mk,get_mk_lt,get_mk_ge,frameOf,Eff.app,Heap.setOwn,q,(show min 1 0 = 0 from rfl),(show min (1 : Int) 0 = 0 from rfl)]) fun s1 H1 hp => ?_
 obtain ⟨rfl,q⟩:=hp
 try simp only [zW,if_true]
 refine zCh ?_
 simp (disch:=first|omega|exact zE rfl|exact zO|exact zL rfl) [c79_o10,size_mk,get_mk_lt,get_mk_ge,frameOf,Eff.app,Heap.setOwn,q]
 refine W.ret ?_
 try simp only [zW,if_true]
 exact kR _ _ (by simp [T.get,q])
end
def spec79 : SpecF:=fun args h => match args with
 | [.slice b 0 1 1,.int .i64 n] => match h.get b with
  | .cells 1 1 [.bool x] => if 0 ≤ n ∧ n ≤ 243 then some (.slice h.size 0 n.toNat n.toNat,[.cells 1 n.toNat (List.replicate n.toNat (.bool x))],false) else none
  | _ => none
 | _ => none
theorem k99_71 (h : Heap) (n : Int) (h1 : 0 ≤ n) (h2 : n < 244) : T71 99 [.int .u64 1,.int .u64 n] h = some (.tup [.int .u64 0,.int .u64 n],[],false):=by
 rw [show T71 99 [.int .u64 1,.int .u64 n] h = T33 99 [.int .u64 1,.int .u64 n] h from by simp (disch:=decide) only [T34,T35,T36,T37,T38,T39,T40,T41,T42,T43,T44,T45,T46,T47,T48,T49,T50,T51,T52,T53,T54,T55,T56,T57,T58,T59,T60,T61,T62,T63,T64,T65,T66,T67,T68,T69,T70,T71,addI_ne,addX_ne,addV_ne,addK_ne]]; exact k99 h n h1 h2
noncomputable def T72 : CallF:=addI T71 79 spec79
theorem t72 : Sound Go.Proofs.Try.prog T72:=Sound.add follows ok t71 (by decide) (fun args h x e => by
 unfold spec79 at e
 split at e
 ·split at e
  ·split at e
   ·rename_i b n _ xv hg hh
    simp only [Option.some.injEq] at e; subst e
    obtain ⟨N,rfl⟩ : ∃ N : Nat,n = N:=⟨n.toNat,by omega⟩
    rcases Nat.eq_zero_or_pos N with rfl | hN
    ·exact c79_0 T71 k99_71 (fun _ _ => by simp (disch:=decide) only [T1,T2,T3,T4,T5,T6,T7,T8,T9,T10,T11,T12,T13,T14,T15,T16,T17,T18,T19,T20,T21,T22,T23,T24,T25,T26,T27,T28,T29,T30,T31,T32,T33,T34,T35,T36,T37,T38,T39,T40,T41,T42,T43,T44,T45,T46,T47,T48,T49,T50,T51,T52,T53,T54,T55,T56,T57,T58,T59,T60,T61,T62,T63,T64,T65,T66,T67,T68,T69,T70,T71,addI_ne,addX_ne,addV_ne,addK_ne]; rfl) h b hg
    ·exact c79_ok T71 k99_71 (fun _ _ => by simp (disch:=decide) only [T1,T2,T3,T4,T5,T6,T7,T8,T9,T10,T11,T12,T13,T14,T15,T16,T17,T18,T19,T20,T21,T22,T23,T24,T25,T26,T27,T28,T29,T30,T31,T32,T33,T34,T35,T36,T37,T38,T39,T40,T41,T42,T43,T44,T45,T46,T47,T48,T49,T50,T51,T52,T53,T54,T55,T56,T57,T58,T59,T60,T61,T62,T63,T64,T65,T66,T67,T68,T69,T70,T71,addI_ne,addX_ne,addV_ne,addK_ne]; rfl) h b hg (by omega) (by omega)
   ·cases e
  ·cases e
 ·cases e)
def Pre82 (a : A59) (args : List AV) (h : Heap) : Prop:=Ok59 a h ∧ args = [.slice a.b 0 a.n a.v]
noncomputable def T73 : CallF:=addK tbl T72 82 Pre82 Post59
theorem t73 : Sound Go.Proofs.Try.prog T73:=Sound.addK follows ok t72 (by decide) _ _
structure CK (h : Heap) (pc pk : Nat) (k j : Nat) (y : Bool) : Prop where
 c : ∃ bo n v ros br m w bs,h.get pc = .cells 0 1 [.slice bo 0 n v] ∧ h.get bo = .cells 1 v ros ∧ k < n ∧ ros.length = n ∧ ros[k]? = some (.slice br 0 m w) ∧ h.get br = .cells 1 w bs ∧ j < m ∧ bs.length = m ∧ bs[j]? = some (.bool y)
 k : h.get pk = .cells 0 1 [G k]
open Classical in
noncomputable def spec81 : SpecF:=fun args h => if hx : ∃ v,CallsTo tbl T3 81 args h (v,h.own,true) then some (Classical.choose hx,h.own,true) else none
noncomputable def U1 : CallF:=addI T3 81 spec81
theorem u1 : Sound Go.Proofs.Try.prog U1:=Sound.add follows ok t3 (by decide) (fun args h x e => by
 unfold spec81 at e
 split at e
 ·rename_i hx
  simp only [Option.some.injEq] at e; subst e
  exact Classical.choose_spec hx
 ·cases e)
def Pre100u (a : A100) (args : List AV) (h : Heap) : Prop:=Ok100 U1 a h ∧ args = [a.x,.func a.f a.cap]
noncomputable def U2 : CallF:=addK tbl U1 100 Pre100u Post100
theorem u2 : Sound Go.Proofs.Try.prog U2:=Sound.addK follows ok u1 (by decide) _ _
noncomputable def U3 : CallF:=addK tbl U2 80 Pre100u Post80
theorem u3 : Sound Go.Proofs.Try.prog U3:=Sound.addK follows ok u2 (by decide) _ _
theorem Sound.put {P : Program} {I U : CallF} (hI : Sound P I) (hU : Sound P U) (f : Nat) : Sound P (addI I f (U f)):=fun g args h v own sh e => by
 unfold addI at e
 split at e
 ·rename_i hg
  subst hg
  exact hU _ args h v own sh e
 ·exact hI g args h v own sh e
noncomputable def T74 : CallF:=addI T73 80 (U3 80)
theorem t74 : Sound Go.Proofs.Try.prog T74:=Sound.put t73 u3 80
def lB (f : Nat → Bool) (n : Nat) : List AV:=(List.range n).map fun i => .bool (f i)
section
variable {S : List (List Nat)} {p pc : Nat}
structure CQ (S : List (List Nat)) (h : Heap) (pc k : Nat) (bo : Nat) (ros : List AV) : Prop where
 gp : h.get pc = .cells 0 1 [.slice bo 0 (k + 1) (k + 1)]
 go : h.get bo = .cells 1 (k + 1) ros
 lo : ros.length = k + 1
 r : ∀ i,i < k + 1 → ∃ b,ros[i]? = some (.slice b 0 S.length S.length) ∧ h.get b = .cells 1 S.length (lB (al S i) S.length)
theorem CQ.kp {h h' : Heap} {k bo : Nat} {ros : List AV} (c : CQ S h pc k bo ros) (kk : Kp (fun _ => False) h h') : CQ S h' pc k bo ros :=
 ⟨kk.at c.gp (by simp) id,kk.at c.go (by simp) id,c.lo,fun i hi => by
  obtain ⟨b,e1,e2⟩:=c.r i hi
  exact ⟨b,e1,kk.at e2 (by simp) id⟩⟩
end
def okX (a : AR) (L : List (List UInt8)) (n : Int) : Bool:=a.ru && isS a.q.toNat L && decide ((L.length : Int) ≤ n ∧ n ≤ 40)
def extR (a : AR) (m : Nat) (D i : Nat) : List (List Nat):=rT2 (a.rows m) (ext (a.steps m) D i)
def Post48 (a : AR) (L : List (List UInt8)) (n : Int) (h : Heap) (v : AV) (own : List AObj) : Prop :=
 (okX a L n = false → v = .tup [.nils,G 2] ∧ own = []) ∧
 (okX a L n = true → ∀ R : List (List Nat),L = R.map stW → (∀ w ∈ R,∀ c ∈ w,c < a.q.toNat) → (kpS a.g R = false → v = .tup [.nils,G 6] ∧ own = []) ∧
  ∀ P : List Nat,kpS a.g R = true → R = rT2 (a.rows (L.getD 0 []).length) P → VC (a.steps (L.getD 0 []).length) (-1) P →
   (al (a.steps (L.getD 0 []).length) (n.toNat - L.length) (P.getD (L.length - 1) 0) = false → v = .tup [.nils,G 6] ∧ own = []) ∧
   (al (a.steps (L.getD 0 []).length) (n.toNat - L.length) (P.getD (L.length - 1) 0) = true → ∃ x,v = .tup [x,G 0] ∧ (∀ q,blk x = some q → h.size ≤ q) ∧ RV (h.plus own) x (wsL (R ++ extR a (L.getD 0 []).length (n.toNat - L.length) (P.getD (L.length - 1) 0)))))
section
variable {a : AR} {x : AV} {L : List (List UInt8)} {n : Int}
end
structure A48 where
 a : AR
 x : AV
 L : List (List UInt8)
 n : Int
def Ok48 (b : A48) (h : Heap) : Prop:=OkR b.a h ∧ EL h b.x (ss b.L) ∧ b.L.length ≤ 1000000 ∧ ∀ s ∈ b.L,s.length ≤ 1000000
def Pre48 (b : A48) (args : List AV) (h : Heap) : Prop:=Ok48 b h ∧ args = [b.a.v,b.x,G b.n]
noncomputable def T75 : CallF:=addK tbl T74 48 Pre48 (fun b h v own => Post48 b.a b.L b.n h v own)
theorem t75 : Sound Go.Proofs.Try.prog T75:=Sound.addK follows ok t74 (by decide) _ _
end Go.Proofs.Ytljgfdamdcikgaa.Ev
set_option linter.unusedVariables false
set_option linter.unusedSimpArgs false
namespace Go.AEv
def Ct (X Y : AObj) : Prop:=Y = X ∨ ∃ g v cs n,X = .cells g v cs ∧ Y = .cells g v (cs.take n)
theorem Ct.hole {Y : AObj} (c : Ct .hole Y) : Y = .hole:=by
 rcases c with h | ⟨g,v,cs,n,h,_⟩
 ·exact h
 ·cases h
theorem Ct.ne {X Y : AObj} (c : Ct X Y) (h : Y ≠ .hole) : X ≠ .hole:=fun e => by subst e; exact h c.hole
theorem Ct.ne' {X Y : AObj} (c : Ct X Y) (h : X ≠ .hole) : Y ≠ .hole:=fun e => by
 rcases c with h' | ⟨g,v,cs,n,h1,h2⟩
 ·exact h (h' ▸ e)
 ·rw [h2] at e; cases e
theorem Ct.or {CK : CKT} {φ : Nat → Emb} {H : Heap} {w : World} {e : Emb} {X Y : AObj} (c : Ct X Y) (o : OR CK φ H w e X) : OR CK φ H w e Y:=by
 rcases c with rfl | ⟨g,v,cs,n,rfl,rfl⟩
 ·exact o
 ·simp only [OR] at o ⊢
  obtain ⟨c,t,fr,h1,h2,h3,h4⟩:=o
  refine ⟨c,t,fr,h1,h2,by rw [List.length_take]; omega,fun j v hv => h4 j v ?_⟩
  rw [List.getElem?_take] at hv
  split at hv
  ·exact hv
  ·cases hv
theorem Ct.stp {φ : Nat → Emb} {H H' : Heap} (c : ∀ b,Ct (H.get b) (H'.get b)) : Stp φ H φ H':=fun b => by
 have cb:=c b
 refine ⟨fun g n cs e => ?_,fun es e => ?_,fun st pend s ps x y e => ?_,fun cc pos e => ?_⟩
 ·rw [e] at cb
  rcases cb with h | ⟨g',v',cs',n',h1,h2⟩
  ·exact ⟨n,cs,h,Nat.le_refl _,fun _ => rfl⟩
  ·cases h1; exact ⟨n,_,h2,Nat.le_refl _,fun _ => rfl⟩
 ·rw [e] at cb
  rcases cb with h | ⟨g',v',cs',n',h1,h2⟩
  ·exact ⟨es,h,rfl⟩
  ·cases h1
 ·rw [e] at cb
  rcases cb with h | ⟨g',v',cs',n',h1,h2⟩
  ·exact ⟨_,_,_,_,_,_,h,rfl⟩
  ·cases h1
 ·rw [e] at cb
  rcases cb with h | ⟨g',v',cs',n',h1,h2⟩
  ·exact ⟨_,_,h,rfl⟩
  ·cases h1
theorem Ct.pts {φ : Nat → Emb} {H H' : Heap} (c : ∀ b,Ct (H.get b) (H'.get b)) : Stp φ H' φ H:=fun b => by
 have cb:=c b
 refine ⟨fun g n cs e => ?_,fun es e => ?_,fun st pend s ps x y e => ?_,fun cc pos e => ?_⟩
 ·rcases cb with h | ⟨g',v',cs',n',h1,h2⟩
  ·exact ⟨n,cs,by rw [← h]; exact e,Nat.le_refl _,fun _ => rfl⟩
  ·rw [e] at h2; cases h2; exact ⟨n,_,h1,Nat.le_refl _,fun _ => rfl⟩
 ·rcases cb with h | ⟨g',v',cs',n',h1,h2⟩
  ·exact ⟨es,by rw [← h]; exact e,rfl⟩
  ·rw [e] at h2; cases h2
 ·rcases cb with h | ⟨g',v',cs',n',h1,h2⟩
  ·exact ⟨_,_,_,_,_,_,by rw [← h]; exact e,rfl⟩
  ·rw [e] at h2; cases h2
 ·rcases cb with h | ⟨g',v',cs',n',h1,h2⟩
  ·exact ⟨_,_,by rw [← h]; exact e,rfl⟩
  ·rw [e] at h2; cases h2
def cutOf (c : Nat → AObj) (h : Heap) : Heap:=⟨c,h.size,[]⟩
theorem get_ge (h : Heap) {i : Nat} (hi : h.size ≤ i) : h.get i = .hole:=by
 cases hq : h.get i with
 | hole => rfl
 | _ => have:=Heap.get_lt (H:=h) (i:=i) (by rw [hq]; simp); simp only [Heap.size] at this hi; omega
theorem cut_get {c : Nat → AObj} {h : Heap} (hc : ∀ b,Ct (h.get b) (c b)) (i : Nat) : (cutOf c h).get i = c i:=by
 by_cases hi : i < h.size
 ·show (if i < h.size then c i else _) = _
  rw [if_pos hi]
 ·have e:=hc i
  rw [get_ge h (by omega)] at e
  rw [e.hole]
  show (if i < h.size then c i else ([] : List AObj).getD (i - h.size) .hole) = _
  rw [if_neg hi]; simp
theorem cut_hr {CK : CKT} {w0 : World} {K : List Nat} {φ : Nat → Emb} {h : Heap} {w : World} (hr : HR CK w0 K φ h w) {c : Nat → AObj} (hc : ∀ b,Ct (h.get b) (c b)) : HR CK w [] φ (cutOf c h) w ∧ Stp φ h φ (cutOf c h):=by
 have hc' : ∀ b,Ct (h.get b) ((cutOf c h).get b):=fun b => by rw [cut_get hc]; exact hc b
 have hs : Stp φ h φ (cutOf c h):=Ct.stp hc'
 refine ⟨⟨Nat.le_refl _,fun _ _ => rfl,fun i => OR.step hs (fun _ => rfl) ((hc' i).or (hr.obj i)),fun i hi hh => ?_,fun i j hj _ hh _ => ?_,by simp,by simp,Env.refl w⟩,hs⟩
 ·have:=(hc' i).ne hh
  rw [get_ge h hi] at this; exact absurd rfl this
 ·have:=(hc' j).ne hh
  rw [get_ge h hj] at this; exact absurd rfl this
theorem cut_back {CK : CKT} {w0 : World} {K : List Nat} {φ φ' : Nat → Emb} {h : Heap} {own : List AObj} {w w' : World} (hr : HR CK w0 K φ h w) {c : Nat → AObj} (hc : ∀ b,Ct (h.get b) (c b)) (hr' : HR CK w [] φ' ((cutOf c h).plus own) w') (hs : Stp φ (cutOf c h) φ' ((cutOf c h).plus own)) :
  HR CK w0 K φ' (h.plus own) w' ∧ Stp φ' ((cutOf c h).plus own) φ' (h.plus own) ∧ Stp φ h φ' (h.plus own):=by
 have hsz : (cutOf c h).size = h.size:=by simp [cutOf,Heap.size]
 have hsame : ∀ b,b < w.heap.size → w'.heap[b]? = w.heap[b]?:=hr'.old
 have hct : ∀ b,Ct ((h.plus own).get b) (((cutOf c h).plus own).get b):=fun b => by
  by_cases hb : b < h.size
  ·rw [plus_lt _ _ _ hb,plus_lt _ _ _ (by omega),cut_get hc]; exact hc b
  ·rw [plus_ge _ _ _ (by omega),plus_ge _ _ _ (by omega),hsz]; exact .inl rfl
 have back : Stp φ' ((cutOf c h).plus own) φ' (h.plus own):=Ct.pts hct
 have hge : ∀ i,h.get i ≠ .hole → i < h.size:=fun i hh => by
  have:=Heap.get_lt (H:=h) (i:=i) hh
  simp only [Heap.size] at this ⊢; omega
 have hlow : ∀ i,i < h.size → (h.plus own).get i = h.get i:=fun i hi => plus_lt _ _ _ hi
 have hφ : ∀ i,h.get i ≠ .hole → φ' i = φ i:=fun i hh => by
  have hi:=hge i hh
  have:=hs i
  have e0 : ((cutOf c h).plus own).get i = (cutOf c h).get i:=plus_lt _ _ _ (by omega)
  have hh' : (cutOf c h).get i ≠ .hole:=by rw [cut_get hc]; exact (hc i).ne' hh
  cases hq : (cutOf c h).get i with
  | hole => exact absurd hq hh'
  | cells g n cs =>
   obtain ⟨n',cs',e1,e2,e3⟩:=this.1 g n cs hq
   rw [e0,hq] at e1
   simp only [AObj.cells.injEq] at e1
   exact e3 e1.2.1.symm
  | map es => obtain ⟨_,_,e3⟩:=this.2.1 es hq; exact e3
  | loop st pend s ps x y => obtain ⟨_,_,_,_,_,_,_,e3⟩:=this.2.2.1 _ _ _ _ _ _ hq; exact e3
  | iter c pos => obtain ⟨_,_,_,e3⟩:=this.2.2.2 _ _ hq; exact e3
 have fwd : Stp φ h φ' (h.plus own):=fun b => by
  refine ⟨fun g n cs e => ?_,fun es e => ?_,fun st pend s ps x y e => ?_,fun cc pos e => ?_⟩
  ·have hh : h.get b ≠ .hole:=by rw [e]; simp
   exact ⟨n,cs,by rw [hlow b (hge b hh)]; exact e,Nat.le_refl _,fun _ => hφ b hh⟩
  ·have hh : h.get b ≠ .hole:=by rw [e]; simp
   exact ⟨es,by rw [hlow b (hge b hh)]; exact e,hφ b hh⟩
  ·have hh : h.get b ≠ .hole:=by rw [e]; simp
   exact ⟨_,_,_,_,_,_,by rw [hlow b (hge b hh)]; exact e,hφ b hh⟩
  ·have hh : h.get b ≠ .hole:=by rw [e]; simp
   exact ⟨_,_,by rw [hlow b (hge b hh)]; exact e,hφ b hh⟩
 have hN : (h.plus own).N = h.N:=rfl
 refine ⟨⟨Nat.le_trans hr.size hr'.size,fun b hb => ?_,fun i => ?_,fun i hi hh => ?_,fun i j hj hh1 hh2 hij => ?_,fun k hk => ?_,hr.nodup,hr.env.trans hr'.env⟩,back,fwd⟩
 ·rw [hsame b (by have:=hr.size; omega)]; exact hr.old b hb
 ·by_cases hi : i < h.size
  ·rw [hlow i hi]
   by_cases hh : h.get i = .hole
   ·rw [hh]; trivial
   ·rw [hφ i hh]
    exact OR.step fwd (fun hh => hsame _ (OR.lt (hr.obj i) hh)) (hr.obj i)
  ·have e : (h.plus own).get i = ((cutOf c h).plus own).get i:=by rw [plus_ge _ _ _ (by omega),plus_ge _ _ _ (by omega),hsz]
   rw [e]
   exact OR.step back (fun _ => rfl) (hr'.obj i)
 ·by_cases hlt : i < h.size
  ·rw [hlow i hlt] at hh
   rw [hφ i hh,hsame _ (OR.lt (hr.obj i) hh)]
   exact hr.own i hi hh
  ·have e : (h.plus own).get i = ((cutOf c h).plus own).get i:=by rw [plus_ge _ _ _ (by omega),plus_ge _ _ _ (by omega),hsz]
   rw [e] at hh
   obtain ⟨a1,a2,a3⟩:=hr'.own i (by show h.size ≤ i; omega) hh
   exact ⟨Nat.le_trans hr.size a1,a2,a3⟩
 ·have tr : ∀ i,(h.plus own).get i ≠ .hole → ((cutOf c h).plus own).get i ≠ .hole:=fun i hh => (hct i).ne' hh
  by_cases hjl : j < h.size
  ·by_cases hil : i < h.size
   ·rw [hlow i hil] at hh1; rw [hlow j hjl] at hh2
    rw [hφ i hh1,hφ j hh2]
    exact hr.sep i j hj hh1 hh2 hij
   ·exact fun e => hr'.sep j i (by show h.size ≤ i; omega) (tr j hh2) (tr i hh1) (fun e => hij e.symm) e.symm
  ·exact hr'.sep i j (by show h.size ≤ j; omega) (tr i hh1) (tr j hh2) hij
 ·obtain ⟨k1,k2⟩:=hr.keep k hk
  rw [hsame k (Array.getElem?_eq_some_iff.1 k2).1]; exact ⟨k1,k2⟩
def cutX (n : Nat) : AObj → AObj
 | .cells g v cs => .cells g v (cs.take n)
 | X => X
def cutO : List AV → Nat → AObj → AObj
 | [],_,X => X
 | .slice b 0 n v :: l,i,X => if b = i then cutX n X else cutO l i X
 | _ :: l,i,X => cutO l i X
theorem cutX_ct (n : Nat) (X : AObj) : Ct X (cutX n X):=by
 cases X with
 | cells g v cs => exact .inr ⟨g,v,cs,n,rfl,rfl⟩
 | _ => exact .inl rfl
theorem cutO_ct : ∀ (l : List AV) (i : Nat) (X : AObj),Ct X (cutO l i X):=fun l i X => by
 fun_induction cutO l i X with
 | case1 => exact .inl rfl
 | case2 => exact cutX_ct _ _
 | case3 => assumption
 | case4 => assumption
def cutA (args : List AV) (h : Heap) : Heap:=cutOf (fun i => cutO args i (h.get i)) h
def addC (I : CallF) (f : Nat) : CallF:=fun g args h => if g = f then (match I f args (cutA args h) with
 | some (v,own,false) => some (v,own,false)
 | _ => none) else I g args h
theorem Sound.addC {P : Program} {I : CallF} (hI : Sound P I) (f : Nat) : Sound P (addC I f):=fun g args h v own sh e => by
 unfold AEv.addC at e
 split at e
 ·rename_i hg
  subst hg
  split at e
  ·rename_i v' own' e'
   simp only [Option.some.injEq,Prod.mk.injEq] at e
   obtain ⟨rfl,rfl,rfl⟩:=e
   obtain ⟨hent,hc⟩:=hI _ _ _ _ _ _ e'
   refine ⟨hent,fun w0 K φ w vals hr hv => ?_⟩
   have hct : ∀ b,Ct (h.get b) (cutO args b (h.get b)):=fun b => cutO_ct args b _
   obtain ⟨h1,h2⟩:=cut_hr hr hct
   refine CallsIn.mono (hc w [] φ w vals h1 (VRs.step h2 _ _ hv)) ?_
   rintro en w' ⟨φ',x,rfl,q1,q2,q3⟩
   have m1 : mrg (cutA args h) own' false = (cutOf (fun i => cutO args i (h.get i)) h).plus own':=by simp [mrg,cutA,Heap.plus]
   have m2 : mrg h own' false = h.plus own':=by simp [mrg,Heap.plus]
   rw [m1] at q1 q2 q3
   rw [m2]
   obtain ⟨b1,b2,b3⟩:=cut_back hr hct q2 q3
   exact ⟨φ',x,rfl,VR.step b2 _ _ q1,b1,b3⟩
  ·cases e
 ·exact hI g args h v own sh e
theorem addC_ne {I : CallF} {f g : Nat} (hg : g ≠ f) (args : List AV) (h : Heap) : addC I f g args h = I g args h:=by
 unfold addC; rw [if_neg hg]
end Go.AEv
set_option linter.unusedVariables false
set_option linter.unusedSimpArgs false
namespace Go.Proofs.Ytljgfdamdcikgaa.Ev
open Go Go.AEv
attribute [local simp] evFunc initS evOps_c evTrim_c evSkip_c evExit_c evRet_c evSeq_c evCond_c evBlock_c evDraw_c runOps_n runOps_c exec_n exec_g pure1_c act AOpd.ev T.get T.set T.put evBin evUn forceT_eq forceV_eq forceL_eq evRess evRes one keep runFP_n runFP_c app_none AV.flats AV.flat came_some List.getElem?_cons_zero List.getElem?_cons_succ beqT wrapI idxI tdivI tmodI decT decF ibT ibF inT inF evScope_c if_pos if_neg Cm_some thenW_n thenW_e thenW_r blkW_n blkW_e blkW_r goI kn putAt AV.cells fillA loadA takeA mk Eff.isAll Eff.isNone Eff.commutes Eff.spares okPair apart eqAgg fits LK.fits allEq aveq eqk mmA
def PL (h : Heap) (x : AV) (cs : List AV) : Prop:=(x = .nils ∧ cs = []) ∨ ∃ b v rest,x = .slice b 0 cs.length v ∧ h.get b = .cells 1 v (cs ++ rest)
theorem PL.kp {h h' : Heap} {x : AV} {cs : List AV} (r : PL h x cs) (k : Kp (fun _ => False) h h') : PL h' x cs:=by
 rcases r with h | ⟨b,v,rest,e,g⟩
 ·exact .inl h
 ·exact .inr ⟨b,v,rest,e,k.at g (by simp) id⟩
theorem RV.back {h h' : Heap} (hs : h'.size = h.size) {own : List AObj} {x : AV} {cs : List AV} (r : RV (h'.plus own) x cs) (f : ∀ q,blk x = some q → h'.size ≤ q) : RV (h.plus own) x cs:=by
 rcases r with h | ⟨b,v,rfl,g⟩
 ·exact .inl h
 ·have:=f b rfl
  refine .inr ⟨b,v,rfl,?_⟩
  rw [plus_ge _ _ _ this] at g
  rw [plus_ge _ _ _ (by omega),← hs]; exact g
theorem Post48.back {h h' : Heap} (hs : h'.size = h.size) {a : AR} {L : List (List UInt8)} {n : Int} {v : AV} {own : List AObj} (p : Post48 a L n h' v own) : Post48 a L n h v own :=
 ⟨p.1,fun e R hL hR => ⟨(p.2 e R hL hR).1,fun P k eP vc => ⟨((p.2 e R hL hR).2 P k eP vc).1,fun ha => by
  obtain ⟨x,e1,e2,e3⟩:=((p.2 e R hL hR).2 P k eP vc).2 ha
  exact ⟨x,e1,fun q hq => by rw [← hs]; exact e2 q hq,RV.back hs e3 e2⟩⟩⟩⟩
noncomputable def T76 : CallF:=addC T75 48
theorem t76 : Sound Go.Proofs.Try.prog T76:=t75.addC 48
noncomputable def T77 : CallF:=addC T76 29
theorem t77 : Sound Go.Proofs.Try.prog T77:=t76.addC 29
theorem NV.appD {H0 H : Heap} {x : AV} {L : List AV} (t : NV H0 H x L) (z : AV) (hn : (L.length + 1) * 16 ≤ 1099511627776) :
  ∃ x1 e H2,appA (H.plus [.cells 1 1 [z],.hole]) H.size (some 1) 1 16 1 [z] x = some (x1,e) ∧ Eff.app e (H.plus [.cells 1 1 [z],.hole]) = some H2 ∧ NV H0 H2 x1 (L ++ [z]) ∧ ((∃ i X,e = .fill i X) ∨ (∃ b v g vs,e = .ext b v g vs)):=by
 have kp : ∀ X,Kp (fun _ => False) H (H.plus X):=fun X => Kp.plus _ _
 rcases t.l with ⟨rfl,rfl⟩ | ⟨b,rfl,g,hN⟩
 ·refine ⟨.slice (H.size + 1) 0 1 1,.fill (H.size + 1) (.cells 1 1 [z]),H.plus [.cells 1 1 [z],.cells 1 1 [z]],rfl,fill_plus1 _ _ rfl _ _ _,⟨t.k.trans (kp _),fun q hq => ?_,.inr ⟨H.size + 1,rfl,?_,?_⟩⟩,.inl ⟨_,_,rfl⟩⟩
  ·cases hq; have:=t.k.size; omega
  ·rw [plus_ge _ _ _ (by omega),show H.size + 1 - H.size = 1 by omega]; rfl
  ·show H.N ≤ H.size + 1; unfold Heap.size; omega
 ·have hlt:=get_lt g (by simp)
  have hb2 : (H.plus [.cells 1 1 [z],.hole]).get b = .cells 1 L.length L:=by rw [plus_lt _ _ _ hlt,g]
  have hN' : (H.plus [.cells 1 1 [z],.hole]).N ≤ b:=by rw [plus_N]; exact hN
  refine ⟨.slice b 0 (L.length + 1) (L.length + 1),.ext b L.length 1 [z],(H.plus [.cells 1 1 [z],.hole]).upd b (.cells 1 (L.length + 1) (L ++ [z])),?_,?_,⟨?_,fun q hq => t.x0 q hq,.inr ⟨b,by simp,?_,by rw [upd_N]; exact hN'⟩⟩,.inr ⟨_,_,_,_,rfl⟩⟩
  ·simp only [appA,Nat.mul_one,Nat.one_mul]
   rw [if_neg (by decide),if_pos ⟨trivial,by simp,hn⟩]
  ·exact ext_gen _ b L.length 1 L [z] hN' hb2 rfl
  ·exact (t.k.trans (kp _)).late (Kp.upd (M:=fun q => q = b) _ _ _ hN' rfl) (fun q hq => by rw [hq]; exact t.x0 b rfl)
  ·rw [upd_same _ _ _ hN' (by rw [plus_size]; show b < H.size + 2; omega)]; simp
def fewL (L : List (List UInt8)) : List (List UInt8):=(L.take 41).map fun s => s.take 7
theorem fewL_len (L : List (List UInt8)) : (fewL L).length ≤ 41:=by unfold fewL; rw [List.length_map,List.length_take]; omega
theorem fewL_short {L : List (List UInt8)} {s : List UInt8} (h : s ∈ fewL L) : s.length ≤ 7:=by
 unfold fewL at h
 obtain ⟨t,_,rfl⟩:=List.mem_map.1 h
 rw [List.length_take]; omega
section
variable {L : List (List UInt8)}
abbrev P43 (H0 : Heap) (x : AV) (L : List (List UInt8)) (i : Nat) : SP:=fun s h => ∃ z,NV H0 h z (ss ((L.take i).map fun s => s.take 7)) ∧ s.get [] = x ∧ s.get [false,false] = z ∧ s.get [true,false] = G i
set_option maxHeartbeats 1000000 in
theorem c43_l0_ok (J : CallF) {H0 : Heap} {x : AV} (hx : EL H0 x (ss L)) :
  Tr tbl J c43_l0 (P43 H0 x L 0) (.exit 0) (fun s h => ∃ z,NV H0 h z (ss (fewL L)) ∧ s.get [false,false] = z):=by
 obtain ⟨M,hM⟩ : ∃ M,M = min L.length 41:=⟨_,rfl⟩
 have ls : (ss L).length = L.length:=by simp
 have fM : (L.take M).map (fun s => s.take 7) = fewL L:=by
  have tkM : L.take M = L.take 41:=by rw [List.take_eq_take_iff]; omega
  unfold fewL
  rw [tkM]
 refine Tr.rounds (e:=.exit 0) (P:=P43 H0 x L) (M:=M) (fun i hi => ?_) ?_ (by simp) 0 (by omega)
 ·refine Tr.w fun s1 H1 hp _ kR => W.trim ?_
  obtain ⟨z,nv,q⟩:=hp
  have hiL : i < L.length:=by omega
  obtain ⟨b,v,rfl,g0⟩ : ∃ b v,x = .slice b 0 L.length v ∧ H0.get b = .cells 1 v (ss L):=by
   rcases hx with ⟨_,e⟩ | ⟨b,v,e,g⟩
   ·have : (ss L).length = 0:=by rw [e]; rfl
    omega
   ·rw [ls] at e; exact ⟨b,v,e,g⟩
  have g:=nv.k.at g0 (by simp) id
  have es:=ss_at (L:=L) hiL
  have es':=getI es
  obtain ⟨x1,e,H2,q1,q2,nv2,q3⟩:=nv.appD (.str ((L.getD i []).take 7)) (by simp; omega)
  have ee : ss ((L.take i).map fun s => s.take 7) ++ [.str ((L.getD i []).take 7)] = ss ((L.take (i + 1)).map fun s => s.take 7):=by
   have t1 : L.take (i + 1) = L.take i ++ [L.getD i []]:=by
    rw [List.take_add_one,List.getElem?_eq_getElem hiL,List.getD_eq_getElem?_getD,List.getElem?_eq_getElem hiL]; rfl
   rw [t1]
   simp only [ss,List.map_append,List.map_cons,List.map_nil]
  rw [ee] at nv2
  have f0:=fill_plus0 H1 H1.size rfl (.cells 1 1 [.str ((L.getD i []).take 7)]) [.hole]
  have pg : (H1.plus [.cells 1 1 [.str ((L.getD i []).take 7)],.hole]).get H1.size = .cells 1 1 [.str ((L.getD i []).take 7)]:=plus_at0 _ _ _ _ rfl
  have g2 : (H1.plus [.hole,.hole]).get b = .cells 1 v (ss L):=(Kp.plus (M:=fun _ => False) H1 [.hole,.hole]).at g (by simp) id
  have i41 : i < 41:=by omega
  have k1 : ((i + 1 : Nat) : Int) = (i : Int) + 1:=by omega
  dsimp only [P43] at kR
  rw [k1] at kR
  clear nv ee hx k1 fM hM hi
  by_cases c : 7 < (L.getD i []).length
  ·generalize L.getD i [] = w at *
   generalize ss L = sl at *
   generalize L.length = n at *
   rcases q3 with ⟨i',X',rfl⟩ | ⟨b',v',g',vs',rfl⟩
   all_goals
    refine W.assoc ?_
    refine zCh ?_
    simp (disch:=first|omega|exact zE rfl|exact zO|exact zL rfl) [c43_o3,zG,q]
    refine zCh ?_
    simp (disch:=first|omega|exact zE rfl|exact zO|exact zL rfl) [zG,q]
    refine W.seq (W.block ?_)
    refine W.chunk ?_
    simp (disch:=first|omega|exact zE rfl|exact zO|exact zL rfl) [-evDraw_c,c43_o4,zG,q,evDraw_k,g2,es,es',ls,mmA,c,bounds,plus_plus,plus_size,f0,pg,elems,rdOf,q1,q2]
    refine W.chunk ?_
    simp (disch:=first|omega|exact zE rfl|exact zO|exact zL rfl) [c43_o5,zG,q]
    exact kR _ _ ⟨_,nv2,by simp [T.get,q]⟩
  ·have tk : (L.getD i []).take 7 = L.getD i []:=List.take_of_length_le (by omega)
   rw [tk] at q1 q2 f0 pg
   generalize L.getD i [] = w at *
   generalize ss L = sl at *
   generalize L.length = n at *
   have tk2 : w.take w.length = w:=List.take_length
   rcases q3 with ⟨i',X',rfl⟩ | ⟨b',v',g',vs',rfl⟩
   all_goals
    refine W.assoc ?_
    refine zCh ?_
    simp (disch:=first|omega|exact zE rfl|exact zO|exact zL rfl) [c43_o3,zG,q]
    refine zCh ?_
    simp (disch:=first|omega|exact zE rfl|exact zO|exact zL rfl) [zG,q]
    refine W.seq (W.block ?_)
    refine W.chunk ?_
    simp (disch:=first|omega|exact zE rfl|exact zO|exact zL rfl) [-evDraw_c,c43_o4,zG,q,evDraw_k,g2,es,es',ls,mmA,c,tk2,bounds,plus_plus,plus_size,f0,pg,elems,rdOf,q1,q2]
    refine W.chunk ?_
    simp (disch:=first|omega|exact zE rfl|exact zO|exact zL rfl) [c43_o5,zG,q]
    exact kR _ _ ⟨_,nv2,by simp [T.get,q]⟩
 ·refine Tr.w fun s1 H1 hp _ kR => W.trim ?_
  obtain ⟨z,nv,q⟩:=hp
  rw [fM] at nv
  have sx : (x = .nils ∧ L.length = 0) ∨ (x = .slice0 ∧ L.length = 0) ∨ ∃ b v,x = .slice b 0 L.length v:=by
   rcases hx with ⟨e1 | e1,e⟩ | ⟨b,v,e,g⟩
   ·left; refine ⟨e1,?_⟩; rw [← ls,e]; rfl
   ·right; left; refine ⟨e1,?_⟩; rw [← ls,e]; rfl
   ·rw [ls] at e; exact .inr (.inr ⟨b,v,e⟩)
  clear hx fM ls
  generalize fewL L = fl at *
  generalize L.length = n at *
  rcases sx with ⟨rfl,rfl⟩ | ⟨rfl,rfl⟩ | ⟨b,v,rfl⟩
  ·refine W.assoc ?_
   refine zCh ?_
   simp (disch:=first|omega|exact zE rfl|exact zO|exact zL rfl) [c43_o3,zG,q]
   refine zCh ?_
   simp (disch:=first|omega|exact zE rfl|exact zO|exact zL rfl) [zG,q]
   exact kR _ _ ⟨_,nv,by simp [T.get,q]⟩
  ·refine W.assoc ?_
   refine zCh ?_
   simp (disch:=first|omega|exact zE rfl|exact zO|exact zL rfl) [c43_o3,zG,q]
   refine zCh ?_
   simp (disch:=first|omega|exact zE rfl|exact zO|exact zL rfl) [zG,q]
   exact kR _ _ ⟨_,nv,by simp [T.get,q]⟩
  ·by_cases c : M < n
   ·have c2 : ¬ (M ≤ 40):=by omega
    refine W.assoc ?_
    refine zCh ?_
    simp (disch:=first|omega|exact zE rfl|exact zO|exact zL rfl) [c43_o3,zG,q,c]
    refine zCh ?_
    simp (disch:=first|omega|exact zE rfl|exact zO|exact zL rfl) [zG,q]
    exact kR _ _ ⟨_,nv,by simp [T.get,q]⟩
   ·refine W.assoc ?_
    refine zCh ?_
    simp (disch:=first|omega|exact zE rfl|exact zO|exact zL rfl) [c43_o3,zG,q,c]
    refine zCh ?_
    simp (disch:=first|omega|exact zE rfl|exact zO|exact zL rfl) [zG,q]
    exact kR _ _ ⟨_,nv,by simp [T.get,q]⟩
theorem c43_ok (J : CallF) (hJ : ∀ a h,J 43 a h = none) (h : Heap) {x : AV} (hx : EL h x (ss L)) : ∃ v own,CallsTo tbl J 43 [x] h (v,own,false) ∧ RV (h.plus own) v (ss (fewL L)):=by
 refine Tr.fny (cf:=c43) (e:=.ret) (s:=T.set .leaf [] x) (by decide) rfl (hJ _ _) rfl rfl (by simp) ?_
 have hx0 : EL (frameOf h) x (ss L):=hx.lo []
 have l0:=c43_l0_ok J hx0
 have l0' : Tr tbl J c43_l0 (fun s h' => h' = frameOf h ∧ s.get [] = x ∧ s.get [false,false] = .nils ∧ s.get [true,false] = G ((0 : Nat) : Int)) (.exit 0) (fun s h' => ∃ z,NV (frameOf h) h' z (ss (fewL L)) ∧ s.get [false,false] = z):=Tr.pre (fun s h' ⟨h0,q1,q2,q3⟩ => ⟨.nils,by rw [h0]; exact NV.nil _,q1,q2,q3⟩) l0
 clear l0
 refine Tr.w fun s1 H1 hp _ kR => ?_
 obtain ⟨rfl,rfl⟩:=hp
 have q : True:=trivial
 refine zCh ?_
 simp (disch:=first|omega|exact zE rfl|exact zO|exact zL rfl) [c43_o0,zG,q]
 refine zCh ?_
 simp (disch:=first|omega|exact zE rfl|exact zO|exact zL rfl) [c43_o1,zG,q]
 refine W.assoc ?_
 refine zCh ?_
 simp (disch:=first|omega|exact zE rfl|exact zO|exact zL rfl) [c43_o2,zG,q]
 refine W.seq (W.block ?_)
 refine W.use (l0') (by simp (disch:=first|omega|exact zE rfl|exact zO|exact zL rfl) [zG,q]) fun s1 H1 hp => ?_
 obtain ⟨z,nv,q⟩:=hp
 try simp only [zW,if_true]
 refine zCh ?_
 simp (disch:=first|omega|exact zE rfl|exact zO|exact zL rfl) [c43_o6,zG,q]
 refine W.ret ?_
 try simp only [zW,if_true]
 exact kR _ _ ⟨[z],by simp [T.get,c43,evRess,evRes,q],nv.rv.fr nv.k⟩
end
structure A43 where
 x : AV
 L : List (List UInt8)
def Pre43 (b : A43) (args : List AV) (h : Heap) : Prop:=EL h b.x (ss b.L) ∧ args = [b.x]
noncomputable def T78 : CallF:=addK tbl T77 43 Pre43 (fun b h v own => RV (h.plus own) v (ss (fewL b.L)))
theorem t78 : Sound Go.Proofs.Try.prog T78:=Sound.addK follows ok t77 (by decide) _ _
abbrev K43 (J : CallF) : Prop:=∀ (h : Heap) (x : AV) (L : List (List UInt8)),EL h x (ss L) → ∃ v own,J 43 [x] h = some (v,own,false) ∧ RV (h.plus own) v (ss (fewL L))
theorem k43 : K43 T78:=fun h x L o => by
 obtain ⟨v,own,e,l⟩:=addK_some (Pre:=Pre43) (Post:=fun b h v own => RV (h.plus own) v (ss (fewL b.L))) (fun b args h hp => by
  obtain ⟨h1,rfl⟩:=hp
  exact c43_ok T77 (fun _ _ => by simp (disch:=decide) only [T1,T2,T3,T4,T5,T6,T7,T8,T9,T10,T11,T12,T13,T14,T15,T16,T17,T18,T19,T20,T21,T22,T23,T24,T25,T26,T27,T28,T29,T30,T31,T32,T33,T34,T35,T36,T37,T38,T39,T40,T41,T42,T43,T44,T45,T46,T47,T48,T49,T50,T51,T52,T53,T54,T55,T56,T57,T58,T59,T60,T61,T62,T63,T64,T65,T66,T67,T68,T69,T70,T71,T72,T73,T74,T75,T76,T77,addI_ne,addX_ne,addV_ne,addK_ne,addC_ne]; rfl) h h1) ⟨x,L⟩ _ h ⟨o,rfl⟩
 exact ⟨v,own,e,l⟩
theorem addI_eq (I : CallF) (f : Nat) (spec : SpecF) (args : List AV) (h : Heap) : addI I f spec f args h = spec args h:=if_pos rfl
section
variable {a : AG} {m : Nat} {R : List (List Nat)} {b v : Nat}
set_option maxHeartbeats 1000000 in
theorem c46g_b0_ok (J : CallF) (k68 : KW 68 J) (k69 : KB 69 J) {H : Heap} {p : Nat} (o : OkG a H) (k : WS a m R) (gS : H.get p = .cells 0 3 [G a.q,a.x,a.y]) (gH : H.get b = .cells 1 v (wsL R)) {i : Nat} (hi : i < R.length) :
  (kpB a R i = true → Tr tbl J (.trim [[false],[true],[false,true]] c46_b0) (fun s h => h = H ∧ s.get [false] = .slice b 0 R.length v ∧ s.get [true] = .ptr p 0 3 ∧ s.get [false,true] = G (i : Nat)) .normal (fun s h => h = H ∧ s.get [false] = .slice b 0 R.length v ∧ s.get [true] = .ptr p 0 3 ∧ s.get [false,true] = G ((i + 1 : Nat) : Int))) ∧
  (kpB a R i = false → Tr tbl J (.trim [[false],[true],[false,true]] c46_b0) (fun s h => h = H ∧ s.get [false] = .slice b 0 R.length v ∧ s.get [true] = .ptr p 0 3 ∧ s.get [false,true] = G (i : Nat)) .ret (fun s h => s.get [true,false] = .bool false)):=by
 have ki:=k.at hi
 have m5:=k.m5
 have e68:=k68 H a _ o ki.2 (by omega)
 have wi:=wsL_at (R:=R) hi
 have wi':=getI wi
 have lw:=wsL_len R
 have l1:=k.l
 have kb : kpB a R i = (bsd a.B (R.getD i []) && (decide (i = 0) || blw a.W (R.getD (i - 1) []) (R.getD i []))):=rfl
 rw [kb]
 have main : ∀ (s1 : T) (H1 : Heap) (Q : PQ),((fun s h => h = H ∧ s.get [false] = .slice b 0 R.length v ∧ s.get [true] = .ptr p 0 3 ∧ s.get [false,true] = G (i : Nat)) : SP) s1 H1 →
   ((bsd a.B (R.getD i []) && (decide (i = 0) || blw a.W (R.getD (i - 1) []) (R.getD i []))) = true → ∀ s' h',((fun s h => h = H ∧ s.get [false] = .slice b 0 R.length v ∧ s.get [true] = .ptr p 0 3 ∧ s.get [false,true] = G ((i + 1 : Nat) : Int)) : SP) s' h' → Q .normal s' h') →
   ((bsd a.B (R.getD i []) && (decide (i = 0) || blw a.W (R.getD (i - 1) []) (R.getD i []))) = false → ∀ s' h',((fun s h => s.get [true,false] = .bool false) : SP) s' h' → Q .ret s' h') → W tbl J (.trim [[false],[true],[false,true]] c46_b0) s1 H1 Q:=fun s1 H1 Q hp kA kB => by
  obtain ⟨rfl,q⟩:=hp
  cases i with
  | zero =>
   rw [decide_eq_true rfl,Bool.true_or,Bool.and_true] at kA kB
   clear o k ki kb k69
   generalize bsd a.B (R.getD 0 []) = z at *
   generalize stW (R.getD 0 []) = w0 at *
   generalize wsL R = ws at *
   generalize R.length = n at *
   cases z
   ·have kR:=kB rfl
    clear kA kB
    refine W.trim ?_
    refine W.assoc ?_
    refine zCh ?_
    simp (disch:=first|omega|exact zE rfl|exact zO|exact zL rfl) [c46_o2,zG,q]
    refine zCh ?_
    simp (disch:=first|omega|exact zE rfl|exact zO|exact zL rfl) [zG,q]
    refine W.seq (W.block ?_)
    refine zCh ?_
    simp (disch:=first|omega|exact zE rfl|exact zO|exact zL rfl) [-evDraw_c,c46_o3,zG,q,evDraw_0,gS,gH,wi,wi',lw,e68,app_if,app_if']
    refine W.chunk ?_
    simp (disch:=first|omega|exact zE rfl|exact zO|exact zL rfl) [c46_o4,zG,q]
    exact kR _ _ (by simp [T.get])
   ·have kR:=kA rfl
    clear kA kB
    refine W.trim ?_
    refine W.assoc ?_
    refine zCh ?_
    simp (disch:=first|omega|exact zE rfl|exact zO|exact zL rfl) [c46_o2,zG,q]
    refine zCh ?_
    simp (disch:=first|omega|exact zE rfl|exact zO|exact zL rfl) [zG,q]
    refine W.seq (W.block ?_)
    refine zCh ?_
    simp (disch:=first|omega|exact zE rfl|exact zO|exact zL rfl) [-evDraw_c,c46_o3,zG,q,evDraw_0,gS,gH,wi,wi',lw,e68,app_if,app_if']
    refine W.chunk ?_
    simp (disch:=first|omega|exact zE rfl|exact zO|exact zL rfl) [c46_o4,zG,q]
    refine W.chunk ?_
    simp (disch:=first|omega|exact zE rfl|exact zO|exact zL rfl) [c46_o5,zG,q]
    exact kR _ _ (by simp [T.get,q])
  | succ i =>
   have kj:=k.at (i:=i) (by omega)
   have e69:=k69 H1 a (R.getD i []) (R.getD (i + 1) []) o kj.2 ki.2 (by omega) (by rw [ki.1,kj.1])
   rw [decide_eq_false (by omega),Bool.false_or,Nat.add_sub_cancel] at kA kB
   have wj:=wsL_at (R:=R) (i:=i) (by omega)
   have wj':=getI wj
   have n1 : ((i + 1 : Nat) : Int) = (i : Int) + 1:=by omega
   clear o k ki kj kb k69
   generalize bsd a.B (R.getD (i + 1) []) = z at *
   generalize blw a.W (R.getD i []) (R.getD (i + 1) []) = y at *
   generalize stW (R.getD (i + 1) []) = w1 at *
   generalize stW (R.getD i []) = w0 at *
   generalize wsL R = ws at *
   generalize R.length = n at *
   cases z
   ·have kR:=kB rfl
    clear kA kB
    refine W.trim ?_
    refine W.assoc ?_
    refine zCh ?_
    simp (disch:=first|omega|exact zE rfl|exact zO|exact zL rfl) [c46_o2,zG,q]
    refine zCh ?_
    simp (disch:=first|omega|exact zE rfl|exact zO|exact zL rfl) [zG,q]
    refine W.seq (W.block ?_)
    refine zCh ?_
    simp (disch:=first|omega|exact zE rfl|exact zO|exact zL rfl) [-evDraw_c,c46_o3,zG,q,evDraw_0,gS,gH,wi,wi',wj,wj',lw,e68,e69,app_if,app_if']
    refine W.chunk ?_
    simp (disch:=first|omega|exact zE rfl|exact zO|exact zL rfl) [c46_o4,zG,q]
    exact kR _ _ (by simp [T.get])
   ·cases y
    ·have kR:=kB rfl
     clear kA kB
     refine W.trim ?_
     refine W.assoc ?_
     refine zCh ?_
     simp (disch:=first|omega|exact zE rfl|exact zO|exact zL rfl) [c46_o2,zG,q]
     refine zCh ?_
     simp (disch:=first|omega|exact zE rfl|exact zO|exact zL rfl) [zG,q]
     refine W.seq (W.block ?_)
     refine zCh ?_
     simp (disch:=first|omega|exact zE rfl|exact zO|exact zL rfl) [-evDraw_c,c46_o3,zG,q,evDraw_0,gS,gH,wi,wi',wj,wj',lw,e68,e69,app_if,app_if']
     refine W.chunk ?_
     simp (disch:=first|omega|exact zE rfl|exact zO|exact zL rfl) [c46_o4,zG,q]
     exact kR _ _ (by simp [T.get])
    ·have kR:=kA rfl
     clear kA kB
     refine W.trim ?_
     refine W.assoc ?_
     refine zCh ?_
     simp (disch:=first|omega|exact zE rfl|exact zO|exact zL rfl) [c46_o2,zG,q]
     refine zCh ?_
     simp (disch:=first|omega|exact zE rfl|exact zO|exact zL rfl) [zG,q]
     refine W.seq (W.block ?_)
     refine zCh ?_
     simp (disch:=first|omega|exact zE rfl|exact zO|exact zL rfl) [-evDraw_c,c46_o3,zG,q,evDraw_0,gS,gH,wi,wi',wj,wj',lw,e68,e69,app_if,app_if']
     refine W.chunk ?_
     simp (disch:=first|omega|exact zE rfl|exact zO|exact zL rfl) [c46_o4,zG,q]
     refine W.chunk ?_
     simp (disch:=first|omega|exact zE rfl|exact zO|exact zL rfl) [c46_o5,zG,q]
     exact kR _ _ (by simp [T.get,q])
 exact ⟨fun hs => Tr.w fun s1 H1 hp Q kR => main s1 H1 Q hp (fun _ => kR) (fun h => by rw [hs] at h; cases h),fun hs => Tr.w fun s1 H1 hp Q kR => main s1 H1 Q hp (fun h => by rw [hs] at h; cases h) (fun _ => kR)⟩
theorem c46g_ok (J : CallF) (k68 : KW 68 J) (k69 : KB 69 J) (hJ : ∀ a h,J 46 a h = none) (h : Heap) (o : OkG a h) (k : WS a m R) (g : h.get b = .cells 1 v (wsL R)) : CallsTo tbl J 46 [a.v,.slice b 0 R.length v] h (.bool (kpS a R),[],false):=by
 refine Tr.fnv (cf:=c46) (e:=.ret) (s:=T.set (T.set .leaf [] a.v) [false] (.slice b 0 R.length v)) (by decide) rfl (hJ _ _) rfl rfl rfl (by simp) ?_
 refine Tr.post (Q:=(fun s h => s.get [true,false] = .bool (kpS a R))) (fun s h q => by simp [c46,q]) ?_
 have oF:=o.fr
 have gF : (frameOf h).get b = .cells 1 v (wsL R):=by
  unfold frameOf
  rw [get_mk_lt _ _ _ _ (get_lt g (by simp))]; exact g
 generalize frameOf h = H0 at *
 obtain ⟨H,hH⟩ : ∃ H,H0.plus [.cells 0 3 [G a.q,a.x,a.y]] = H:=⟨_,rfl⟩
 have kH : Kp (fun _ => False) H0 H:=by rw [← hH]; exact Kp.plus _ _
 have gS : H.get H0.size = .cells 0 3 [G a.q,a.x,a.y]:=by rw [← hH]; exact plus_at0 _ _ _ _ rfl
 have gH:=kH.at gF (by simp) id
 have b0:=fun {i} hi => c46g_b0_ok J k68 k69 (oF.kp kH) k gS gH (i:=i) hi
 have l1:=k.l
 cases hk : kpS a R
 ·have l0 : Tr tbl J c46_l0 (fun s h => h = H ∧ s.get [false] = .slice b 0 R.length v ∧ s.get [true] = .ptr H0.size 0 3 ∧ s.get [false,true] = G ((0 : Nat) : Int)) .ret (fun s h => s.get [true,false] = .bool false) :=
   Tr.allF (P:=fun i => (fun s h => h = H ∧ s.get [false] = .slice b 0 R.length v ∧ s.get [true] = .ptr H0.size 0 3 ∧ s.get [false,true] = G (i : Nat))) (p:=kpB a R) R.length (fun i hi hp => (b0 hi).1 hp) (fun i hi hp => (b0 hi).2 hp) (by simp) _ 0 (by omega) hk
  clear oF k gF o kH gH g b0 hk
  generalize R.length = n at *
  refine Tr.w fun s1 H1 hp _ kR => ?_
  obtain ⟨rfl,rfl⟩:=hp
  have q : True:=trivial
  refine zCh ?_
  simp (disch:=first|omega|exact zE rfl|exact zO|exact zL rfl) [c46_o0,zG,q,hH]
  refine W.assoc ?_
  refine zCh ?_
  simp (disch:=first|omega|exact zE rfl|exact zO|exact zL rfl) [c46_o1,zG,q]
  refine W.seq (W.block ?_)
  refine W.use (l0) (by simp (disch:=first|omega|exact zE rfl|exact zO|exact zL rfl) [zG,q]) fun s1 H1 hp => ?_
  try simp only [zW,if_true]
  exact kR _ _ hp
 ·have fin : Tr tbl J (.trim [[false],[true],[false,true]] c46_b0) (fun s h => h = H ∧ s.get [false] = .slice b 0 R.length v ∧ s.get [true] = .ptr H0.size 0 3 ∧ s.get [false,true] = G (R.length : Nat)) (.exit 0) (fun s h => h = H):=by
   clear b0 gS gH
   generalize R.length = n at *
   refine Tr.w fun s1 H1 hp _ kR => W.trim ?_
   obtain ⟨rfl,q⟩:=hp
   refine W.assoc ?_
   refine zCh ?_
   simp (disch:=first|omega|exact zE rfl|exact zO|exact zL rfl) [c46_o2,zG,q]
   refine zCh ?_
   simp (disch:=first|omega|exact zE rfl|exact zO|exact zL rfl) [zG,q]
   exact kR _ _ rfl
  have l0 : Tr tbl J c46_l0 (fun s h => h = H ∧ s.get [false] = .slice b 0 R.length v ∧ s.get [true] = .ptr H0.size 0 3 ∧ s.get [false,true] = G ((0 : Nat) : Int)) (.exit 0) (fun s h => h = H) :=
   Tr.allT (P:=fun i => (fun s h => h = H ∧ s.get [false] = .slice b 0 R.length v ∧ s.get [true] = .ptr H0.size 0 3 ∧ s.get [false,true] = G (i : Nat))) (p:=kpB a R) R.length (fun i hi hp => (b0 hi).1 hp) fin (by simp) _ 0 (by omega) hk
  clear oF k gF o kH gH g b0 hk fin
  generalize R.length = n at *
  refine Tr.w fun s1 H1 hp _ kR => ?_
  obtain ⟨rfl,rfl⟩:=hp
  have q : True:=trivial
  refine zCh ?_
  simp (disch:=first|omega|exact zE rfl|exact zO|exact zL rfl) [c46_o0,zG,q,hH]
  refine W.assoc ?_
  refine zCh ?_
  simp (disch:=first|omega|exact zE rfl|exact zO|exact zL rfl) [c46_o1,zG,q]
  refine W.seq (W.block ?_)
  refine W.use (l0) (by simp (disch:=first|omega|exact zE rfl|exact zO|exact zL rfl) [zG,q]) fun s1 H1 hp => ?_
  obtain rfl:=hp
  try simp only [zW,if_true]
  refine zCh ?_
  simp (disch:=first|omega|exact zE rfl|exact zO|exact zL rfl) [c46_o6,zG,q]
  refine W.ret ?_
  try simp only [zW,if_true]
  exact kR _ _ (by simp [T.get])
end
structure AWS46 where
 a : AG
 m : Nat
 R : List (List Nat)
 b : Nat
 v : Nat
def Pre46g (b : AWS46) (args : List AV) (h : Heap) : Prop:=(OkG b.a h ∧ WS b.a b.m b.R ∧ h.get b.b = .cells 1 b.v (wsL b.R)) ∧ args = [b.a.v,.slice b.b 0 b.R.length b.v]
def Post46g (b : AWS46) (h : Heap) (v : AV) (own : List AObj) : Prop:=v = .bool (kpS b.a b.R) ∧ own = []
noncomputable def U46 : CallF:=addK tbl T56 46 Pre46g Post46g
theorem u46 : Sound Go.Proofs.Try.prog U46:=Sound.addK follows ok t56 (by decide) _ _
abbrev K46g (J : CallF) : Prop:=∀ (h : Heap) (a : AG) (m : Nat) (R : List (List Nat)) (b v : Nat),OkG a h → WS a m R → h.get b = .cells 1 v (wsL R) → J 46 [a.v,.slice b 0 R.length v] h = some (.bool (kpS a R),[],false)
theorem k46u : K46g U46:=fun h a m R b v o k g => by
 obtain ⟨v,own,e,rfl,rfl⟩:=addK_some (Pre:=Pre46g) (Post:=Post46g) (fun b args h hp => by
  obtain ⟨⟨o,k,g⟩,rfl⟩:=hp
  exact ⟨_,_,c46g_ok T56 k68_56 k69_56 (fun _ _ => by simp (disch:=decide) only [T1,T2,T3,T4,T5,T6,T7,T8,T9,T10,T11,T12,T13,T14,T15,T16,T17,T18,T19,T20,T21,T22,T23,T24,T25,T26,T27,T28,T29,T30,T31,T32,T33,T34,T35,T36,T37,T38,T39,T40,T41,T42,T43,T44,T45,T46,T47,T48,T49,T50,T51,T52,T53,T54,T55,T56,addI_ne,addX_ne,addV_ne,addK_ne]; rfl) h o k g,rfl,rfl⟩) ⟨a,m,R,b,v⟩ _ h ⟨⟨o,k,g⟩,rfl⟩
 exact e
theorem wrap8b (z : Int) (h0 : 0 ≤ z) (h1 : z < 256) : IntKind.u8.wrap z = z:=by
 unfold IntKind.wrap IntKind.bits IntKind.signed
 simp; omega
section
variable {L : List (List UInt8)} {b v n qq i p : Nat} {x y : AV}
theorem c39g_b0 (J : CallF) {H : Heap} (gS : H.get p = .cells 0 3 [G qq,x,y]) (g : H.get b = .cells 1 v (ss L)) (q3 : qq ≤ 3) (hn : L.length = n) (hi : i < n) (hw : (L.getD i []).length ≤ 1000000) {k : Nat} (hk : k < (L.getD i []).length) (n1 : n ≤ 1000000) :
  (goodB qq ((L.getD i []).getD k 0) = true → Tr tbl J (.trim [[false],[true],[false,true],[true,true]] c39_b0) (fun s h => h = H ∧ s.get [false] = .slice b 0 n v ∧ s.get [true] = .ptr p 0 3 ∧ s.get [false,true] = G (i : Nat) ∧ s.get [true,true] = G (k : Nat)) .normal (fun s h => h = H ∧ s.get [false] = .slice b 0 n v ∧ s.get [true] = .ptr p 0 3 ∧ s.get [false,true] = G (i : Nat) ∧ s.get [true,true] = G ((k + 1 : Nat) : Int))) ∧
  (goodB qq ((L.getD i []).getD k 0) = false → Tr tbl J (.trim [[false],[true],[false,true],[true,true]] c39_b0) (fun s h => h = H ∧ s.get [false] = .slice b 0 n v ∧ s.get [true] = .ptr p 0 3 ∧ s.get [false,true] = G (i : Nat) ∧ s.get [true,true] = G (k : Nat)) .ret (fun s h => s.get [true,false] = .bool false)):=by
 have wi:=ss_at (L:=L) (i:=i) (by omega)
 have wi':=getI wi
 have lw : (ss L).length = n:=by simp [hn]
 have ek : (L.getD i [])[k]? = some ((L.getD i []).getD k 0):=by
  rw [List.getD_eq_getElem?_getD (l:=L.getD i []),List.getElem?_eq_getElem hk]; rfl
 have ek':=getI ek
 have ub : ((L.getD i []).getD k 0).toNat < 256:=UInt8.toNat_lt _
 have gb : goodB qq ((L.getD i []).getD k 0) = decide (48 ≤ ((L.getD i []).getD k 0).toNat ∧ ((L.getD i []).getD k 0).toNat < 48 + qq):=rfl
 rw [gb]
 have w1 : 48 ≤ ((L.getD i []).getD k 0).toNat → IntKind.u8.wrap ((((L.getD i []).getD k 0).toNat : Int) - 48) = (((L.getD i []).getD k 0).toNat : Int) - 48:=fun h => wrap8b _ (by omega) (by omega)
 clear gb
 generalize (L.getD i []).getD k 0 = u at *
 generalize L.getD i [] = w at *
 generalize ss L = ws at *
 constructor
 ·intro h
  obtain ⟨h1,h2⟩:=of_decide_eq_true h
  have w1:=w1 h1
  have d48 : ¬ (u.toNat : Int) < 48:=by omega
  have dd : ¬ (qq : Int) ≤ (u.toNat : Int) - 48:=by omega
  refine Tr.w fun s1 H1 hp _ kR => W.trim ?_
  obtain ⟨rfl,q⟩:=hp
  refine W.assoc ?_
  refine zCh ?_
  simp (disch:=first|omega|exact zE rfl|exact zO|exact zL rfl) [c39_o6,zG,q,g,wi,wi',lw]
  refine zCh ?_
  simp (disch:=first|omega|exact zE rfl|exact zO|exact zL rfl) [zG,q]
  refine W.seq (W.block ?_)
  refine zCh ?_
  simp (disch:=first|omega|exact zE rfl|exact zO|exact zL rfl) [-evDraw_c,c39_o7,zG,q,evDraw_0,gS,g,wi,wi',lw,ek,ek',w1,dd,d48]
  refine W.chunk ?_
  simp (disch:=first|omega|exact zE rfl|exact zO|exact zL rfl) [c39_o8,zG,q]
  refine W.chunk ?_
  simp (disch:=first|omega|exact zE rfl|exact zO|exact zL rfl) [c39_o9,zG,q]
  exact kR _ _ (by simp [T.get,q])
 ·intro h
  have h:=of_decide_eq_false h
  by_cases h1 : 48 ≤ u.toNat
  ·have w1:=w1 h1
   have d48 : ¬ (u.toNat : Int) < 48:=by omega
   have dd : (qq : Int) ≤ (u.toNat : Int) - 48:=by omega
   refine Tr.w fun s1 H1 hp _ kR => W.trim ?_
   obtain ⟨rfl,q⟩:=hp
   refine W.assoc ?_
   refine zCh ?_
   simp (disch:=first|omega|exact zE rfl|exact zO|exact zL rfl) [c39_o6,zG,q,g,wi,wi',lw]
   refine zCh ?_
   simp (disch:=first|omega|exact zE rfl|exact zO|exact zL rfl) [zG,q]
   refine W.seq (W.block ?_)
   refine zCh ?_
   simp (disch:=first|omega|exact zE rfl|exact zO|exact zL rfl) [-evDraw_c,c39_o7,zG,q,evDraw_0,gS,g,wi,wi',lw,ek,ek',w1,dd,d48]
   refine W.chunk ?_
   simp (disch:=first|omega|exact zE rfl|exact zO|exact zL rfl) [c39_o8,zG,q]
   exact kR _ _ (by simp [T.get])
  ·have d48 : (u.toNat : Int) < 48:=by omega
   clear w1
   refine Tr.w fun s1 H1 hp _ kR => W.trim ?_
   obtain ⟨rfl,q⟩:=hp
   refine W.assoc ?_
   refine zCh ?_
   simp (disch:=first|omega|exact zE rfl|exact zO|exact zL rfl) [c39_o6,zG,q,g,wi,wi',lw]
   refine zCh ?_
   simp (disch:=first|omega|exact zE rfl|exact zO|exact zL rfl) [zG,q]
   refine W.seq (W.block ?_)
   refine zCh ?_
   simp (disch:=first|omega|exact zE rfl|exact zO|exact zL rfl) [-evDraw_c,c39_o7,zG,q,evDraw_0,gS,g,wi,wi',lw,ek,ek',d48]
   refine W.chunk ?_
   simp (disch:=first|omega|exact zE rfl|exact zO|exact zL rfl) [c39_o8,zG,q]
   exact kR _ _ (by simp [T.get])
theorem goodS_af (qq : Nat) (s : List UInt8) : af (fun k => goodB qq (s.getD k 0)) 0 s.length = goodS qq s:=by
 rw [af_range,all_range s 0 (goodB qq)]; rfl
theorem c39g_l0 (J : CallF) {H : Heap} (gS : H.get p = .cells 0 3 [G qq,x,y]) (g : H.get b = .cells 1 v (ss L)) (q3 : qq ≤ 3) (hn : L.length = n) (hi : i < n) (hw : (L.getD i []).length ≤ 1000000) (n1 : n ≤ 1000000) :
  (goodS qq (L.getD i []) = true → Tr tbl J c39_l0 (fun s h => h = H ∧ s.get [false] = .slice b 0 n v ∧ s.get [true] = .ptr p 0 3 ∧ s.get [false,true] = G (i : Nat) ∧ s.get [true,true] = G ((0 : Nat) : Int)) (.exit 2) (fun s h => h = H ∧ s.get [false] = .slice b 0 n v ∧ s.get [true] = .ptr p 0 3 ∧ s.get [false,true] = G (i : Nat))) ∧
  (goodS qq (L.getD i []) = false → Tr tbl J c39_l0 (fun s h => h = H ∧ s.get [false] = .slice b 0 n v ∧ s.get [true] = .ptr p 0 3 ∧ s.get [false,true] = G (i : Nat) ∧ s.get [true,true] = G ((0 : Nat) : Int)) .ret (fun s h => s.get [true,false] = .bool false)):=by
 have b0:=fun {k} hk => c39g_b0 J gS g q3 hn hi hw (k:=k) hk n1
 rw [← goodS_af]
 refine ⟨fun hg => ?_,fun hg => ?_⟩
 ·have wi:=ss_at (L:=L) (i:=i) (by omega)
  have wi':=getI wi
  have lw : (ss L).length = n:=by simp [hn]
  refine Tr.allT (P:=fun k => (fun s h => h = H ∧ s.get [false] = .slice b 0 n v ∧ s.get [true] = .ptr p 0 3 ∧ s.get [false,true] = G (i : Nat) ∧ s.get [true,true] = G (k : Nat))) (p:=fun k => goodB qq ((L.getD i []).getD k 0)) (L.getD i []).length (fun k hk hp => (b0 hk).1 hp) ?_ (by simp) _ 0 (by omega) hg
  clear b0 hg
  generalize L.getD i [] = w at *
  generalize ss L = ws at *
  refine Tr.w fun s1 H1 hp _ kR => W.trim ?_
  obtain ⟨rfl,q⟩:=hp
  refine W.assoc ?_
  refine zCh ?_
  simp (disch:=first|omega|exact zE rfl|exact zO|exact zL rfl) [c39_o6,zG,q,g,wi,wi',lw]
  refine zCh ?_
  simp (disch:=first|omega|exact zE rfl|exact zO|exact zL rfl) [zG,q]
  exact kR _ _ (by simp [T.get,q])
 ·exact Tr.allF (P:=fun k => (fun s h => h = H ∧ s.get [false] = .slice b 0 n v ∧ s.get [true] = .ptr p 0 3 ∧ s.get [false,true] = G (i : Nat) ∧ s.get [true,true] = G (k : Nat))) (p:=fun k => goodB qq ((L.getD i []).getD k 0)) (L.getD i []).length (fun k hk hp => (b0 hk).1 hp) (fun k hk hp => (b0 hk).2 hp) (by simp) _ 0 (by omega) hg
theorem c39g_b1 (J : CallF) {H : Heap} (gS : H.get p = .cells 0 3 [G qq,x,y]) (g : H.get b = .cells 1 v (ss L)) (q3 : qq ≤ 3) (hn : L.length = n) (hi : i < n) (hs : ∀ s ∈ L,s.length ≤ 1000000) (n1 : n ≤ 1000000) :
  (rowOkS qq L (L.getD i []) = true → Tr tbl J (.trim [[false],[true],[false,true]] c39_b1) (fun s h => h = H ∧ s.get [false] = .slice b 0 n v ∧ s.get [true] = .ptr p 0 3 ∧ s.get [false,true] = G (i : Nat)) .normal (fun s h => h = H ∧ s.get [false] = .slice b 0 n v ∧ s.get [true] = .ptr p 0 3 ∧ s.get [false,true] = G ((i + 1 : Nat) : Int))) ∧
  (rowOkS qq L (L.getD i []) = false → Tr tbl J (.trim [[false],[true],[false,true]] c39_b1) (fun s h => h = H ∧ s.get [false] = .slice b 0 n v ∧ s.get [true] = .ptr p 0 3 ∧ s.get [false,true] = G (i : Nat)) .ret (fun s h => s.get [true,false] = .bool false)):=by
 have wi:=ss_at (L:=L) (i:=i) (by omega)
 have wi':=getI wi
 have w0:=ss_at (L:=L) (i:=0) (by omega)
 have w0':=getI w0
 have lw : (ss L).length = n:=by simp [hn]
 have mem : ∀ j,j < n → (L.getD j []).length ≤ 1000000:=fun j hj => hs _ (by
  rw [List.getD_eq_getElem?_getD,List.getElem?_eq_getElem (by omega)]; exact List.getElem_mem _)
 have l0:=c39g_l0 (p:=p) J gS g q3 hn hi (mem i hi) n1
 have er : rowOkS qq L (L.getD i []) = (decide ((L.getD i []).length = (L.getD 0 []).length) && goodS qq (L.getD i [])):=rfl
 rw [er]
 have m0:=mem 0 (by omega)
 have mi:=mem i hi
 clear hs mem er
 generalize goodS qq (L.getD i []) = z at *
 generalize L.getD i [] = w at *
 generalize L.getD 0 [] = u at *
 generalize ss L = ws at *
 by_cases c : w.length = u.length
 ·rw [decide_eq_true c,Bool.true_and]
  constructor
  ·intro h
   have l0:=l0.1 h
   refine Tr.w fun s1 H1 hp _ kR => W.trim ?_
   obtain ⟨rfl,q⟩:=hp
   refine W.assoc ?_
   refine zCh ?_
   simp (disch:=first|omega|exact zE rfl|exact zO|exact zL rfl) [c39_o2,zG,q]
   refine zCh ?_
   simp (disch:=first|omega|exact zE rfl|exact zO|exact zL rfl) [zG,q]
   refine W.seq (W.block ?_)
   refine W.assoc ?_
   refine zCh ?_
   simp (disch:=first|omega|exact zE rfl|exact zO|exact zL rfl) [-evDraw_c,c39_o3,zG,q,evDraw_0,g,wi,wi',w0,w0',lw,c]
   refine zCh ?_
   simp (disch:=first|omega|exact zE rfl|exact zO|exact zL rfl) [c39_o4,zG,q]
   refine zCh ?_
   simp (disch:=first|omega|exact zE rfl|exact zO|exact zL rfl) [c39_o5,zG,q]
   refine W.block ?_
   refine W.use (l0) (by simp (disch:=first|omega|exact zE rfl|exact zO|exact zL rfl) [zG,q]) fun s1 H1 hp => ?_
   obtain ⟨rfl,q⟩:=hp
   try simp only [zW,if_true]
   refine W.chunk ?_
   simp (disch:=first|omega|exact zE rfl|exact zO|exact zL rfl) [c39_o10,zG,q]
   exact kR _ _ (by simp [T.get,q])
  ·intro h
   have l0:=l0.2 h
   refine Tr.w fun s1 H1 hp _ kR => W.trim ?_
   obtain ⟨rfl,q⟩:=hp
   refine W.assoc ?_
   refine zCh ?_
   simp (disch:=first|omega|exact zE rfl|exact zO|exact zL rfl) [c39_o2,zG,q]
   refine zCh ?_
   simp (disch:=first|omega|exact zE rfl|exact zO|exact zL rfl) [zG,q]
   refine W.seq (W.block ?_)
   refine W.assoc ?_
   refine zCh ?_
   simp (disch:=first|omega|exact zE rfl|exact zO|exact zL rfl) [-evDraw_c,c39_o3,zG,q,evDraw_0,g,wi,wi',w0,w0',lw,c]
   refine zCh ?_
   simp (disch:=first|omega|exact zE rfl|exact zO|exact zL rfl) [c39_o4,zG,q]
   refine zCh ?_
   simp (disch:=first|omega|exact zE rfl|exact zO|exact zL rfl) [c39_o5,zG,q]
   refine W.block ?_
   refine W.use (l0) (by simp (disch:=first|omega|exact zE rfl|exact zO|exact zL rfl) [zG,q]) fun s1 H1 hp => ?_
   try simp only [zW,if_true]
   exact kR _ _ hp
 ·rw [decide_eq_false c,Bool.false_and]
  refine ⟨fun h => (by cases h),fun _ => ?_⟩
  have c' : ¬ (w.length : Int) = (u.length : Int):=by omega
  clear l0
  refine Tr.w fun s1 H1 hp _ kR => W.trim ?_
  obtain ⟨rfl,q⟩:=hp
  refine W.assoc ?_
  refine zCh ?_
  simp (disch:=first|omega|exact zE rfl|exact zO|exact zL rfl) [c39_o2,zG,q]
  refine zCh ?_
  simp (disch:=first|omega|exact zE rfl|exact zO|exact zL rfl) [zG,q]
  refine W.seq (W.block ?_)
  refine W.assoc ?_
  refine zCh ?_
  simp (disch:=first|omega|exact zE rfl|exact zO|exact zL rfl) [-evDraw_c,c39_o3,zG,q,evDraw_0,g,wi,wi',w0,w0',lw,c',c]
  refine zCh ?_
  simp (disch:=first|omega|exact zE rfl|exact zO|exact zL rfl) [c39_o4,zG,q]
  exact kR _ _ (by simp [T.get])
theorem rows_af (qq : Nat) (L : List (List UInt8)) : af (fun i => rowOkS qq L (L.getD i [])) 0 L.length = L.all (rowOkS qq L):=by
 rw [af_range,all_range L [] (rowOkS qq L)]
set_option maxHeartbeats 1000000 in
theorem c39g_ok (J : CallF) (hJ : ∀ a h,J 39 a h = none) (h : Heap) {z : AV} (q3 : qq ≤ 3) (hx : RV h z (ss L)) (hn : L.length ≤ 1000000) (hs : ∀ s ∈ L,s.length ≤ 1000000) : CallsTo tbl J 39 [.agg [G qq,x,y],z] h (.bool (isS qq L),[],false):=by
 refine Tr.fnv (cf:=c39) (e:=.ret) (s:=T.set (T.set .leaf [] (.agg [G qq,x,y])) [false] z) (by decide) rfl (hJ _ _) rfl rfl rfl (by simp) ?_
 refine Tr.post (Q:=(fun s h => s.get [true,false] = .bool (isS qq L))) (fun s h q => by simp [c39,q]) ?_
 have hxF : RV (frameOf h) z (ss L):=hx.frame
 generalize frameOf h = H0 at *
 obtain ⟨H,hH⟩ : ∃ H,H0.plus [.cells 0 3 [G qq,x,y]] = H:=⟨_,rfl⟩
 have kH : Kp (fun _ => False) H0 H:=by rw [← hH]; exact Kp.plus _ _
 have gS : H.get H0.size = .cells 0 3 [G qq,x,y]:=by rw [← hH]; exact plus_at0 _ _ _ _ rfl
 have hxH:=hxF.kp kH (fun _ _ => id)
 have ls : (ss L).length = L.length:=by simp
 have es : isS qq L = (decide (1 ≤ L.length ∧ L.length ≤ 40) && decide (1 ≤ (L.getD 0 []).length ∧ (L.getD 0 []).length ≤ 5) && L.all (rowOkS qq L)):=rfl
 obtain ⟨rfl,e⟩ | ⟨b,v,rfl,g⟩:=hxH
 ·have hl : L.length = 0:=by rw [← ls,e]; rfl
  have ez : isS qq L = false:=by rw [es,hl]; rfl
  rw [ez]
  have l1 : Tr tbl J c39_l1 (fun s h => h = H ∧ s.get [false] = .nils ∧ s.get [true] = .ptr H0.size 0 3 ∧ s.get [false,true] = G 0) (.exit 0) (fun s h => h = H ∧ s.get [false] = .nils):=by
   refine Tr.out ?_ (by simp)
   clear hxF hx kH gS hs
   refine Tr.w fun s1 H1 hp _ kR => W.trim ?_
   obtain ⟨rfl,q⟩:=hp
   refine W.assoc ?_
   refine zCh ?_
   simp (disch:=first|omega|exact zE rfl|exact zO|exact zL rfl) [c39_o2,zG,q]
   refine zCh ?_
   simp (disch:=first|omega|exact zE rfl|exact zO|exact zL rfl) [zG,q]
   exact kR _ _ (by simp [T.get,q])
  clear hxF hx kH gS hs es ez
  refine Tr.w fun s1 H1 hp _ kR => ?_
  obtain ⟨rfl,rfl⟩:=hp
  have q : True:=trivial
  refine zCh ?_
  simp (disch:=first|omega|exact zE rfl|exact zO|exact zL rfl) [c39_o0,zG,q,hH]
  refine W.assoc ?_
  refine zCh ?_
  simp (disch:=first|omega|exact zE rfl|exact zO|exact zL rfl) [c39_o1,zG,q]
  refine W.seq (W.block ?_)
  refine W.use (l1) (by simp (disch:=first|omega|exact zE rfl|exact zO|exact zL rfl) [zG,q]) fun s1 H1 hp => ?_
  obtain ⟨rfl,q⟩:=hp
  try simp only [zW,if_true]
  refine zCh ?_
  simp (disch:=first|omega|exact zE rfl|exact zO|exact zL rfl) [c39_o11,zG,q]
  refine W.ret ?_
  try simp only [zW,if_true]
  exact kR _ _ (by simp [T.get])
 ·rw [ls] at hx ⊢
  have b1:=fun {i} hi => c39g_b1 J gS g q3 rfl (i:=i) hi hs hn
  cases ha : L.all (rowOkS qq L)
  ·have ez : isS qq L = false:=by rw [es,ha,Bool.and_false]
   rw [ez]
   rw [← rows_af] at ha
   have l1 : Tr tbl J c39_l1 (fun s h => h = H ∧ s.get [false] = .slice b 0 L.length v ∧ s.get [true] = .ptr H0.size 0 3 ∧ s.get [false,true] = G ((0 : Nat) : Int)) .ret (fun s h => s.get [true,false] = .bool false) :=
    Tr.allF (P:=fun i => (fun s h => h = H ∧ s.get [false] = .slice b 0 L.length v ∧ s.get [true] = .ptr H0.size 0 3 ∧ s.get [false,true] = G (i : Nat))) (p:=fun i => rowOkS qq L (L.getD i [])) L.length (fun i hi hp => (b1 hi).1 hp) (fun i hi hp => (b1 hi).2 hp) (by simp) _ 0 (by omega) ha
   clear hxF hx kH gS hs es ez b1 ha g ls
   generalize L.length = n at *
   refine Tr.w fun s1 H1 hp _ kR => ?_
   obtain ⟨rfl,rfl⟩:=hp
   have q : True:=trivial
   refine zCh ?_
   simp (disch:=first|omega|exact zE rfl|exact zO|exact zL rfl) [c39_o0,zG,q,hH]
   refine W.assoc ?_
   refine zCh ?_
   simp (disch:=first|omega|exact zE rfl|exact zO|exact zL rfl) [c39_o1,zG,q]
   refine W.seq (W.block ?_)
   refine W.use (l1) (by simp (disch:=first|omega|exact zE rfl|exact zO|exact zL rfl) [zG,q]) fun s1 H1 hp => ?_
   try simp only [zW,if_true]
   exact kR _ _ hp
  ·rw [ha,Bool.and_true] at es
   rw [es]
   rw [← rows_af] at ha
   have l1 : Tr tbl J c39_l1 (fun s h => h = H ∧ s.get [false] = .slice b 0 L.length v ∧ s.get [true] = .ptr H0.size 0 3 ∧ s.get [false,true] = G ((0 : Nat) : Int)) (.exit 0) (fun s h => h = H ∧ s.get [false] = .slice b 0 L.length v):=by
    refine Tr.allT (P:=fun i => (fun s h => h = H ∧ s.get [false] = .slice b 0 L.length v ∧ s.get [true] = .ptr H0.size 0 3 ∧ s.get [false,true] = G (i : Nat))) (p:=fun i => rowOkS qq L (L.getD i [])) L.length (fun i hi hp => (b1 hi).1 hp) ?_ (by simp) _ 0 (by omega) ha
    clear hxF hx kH gS hs es b1 ha g ls
    generalize L.length = n at *
    refine Tr.w fun s1 H1 hp _ kR => W.trim ?_
    obtain ⟨rfl,q⟩:=hp
    refine W.assoc ?_
    refine zCh ?_
    simp (disch:=first|omega|exact zE rfl|exact zO|exact zL rfl) [c39_o2,zG,q]
    refine zCh ?_
    simp (disch:=first|omega|exact zE rfl|exact zO|exact zL rfl) [zG,q]
    exact kR _ _ (by simp [T.get,q])
   clear b1 ha
   by_cases c1 : 1 ≤ L.length
   ·by_cases c2 : L.length ≤ 40
    ·rw [decide_eq_true ⟨c1,c2⟩,Bool.true_and]
     have w0:=ss_at (L:=L) (i:=0) (by omega)
     have w0':=getI w0
     have l0s : (L.getD 0 []).length ≤ 1000000:=hs _ (by
      rw [List.getD_eq_getElem?_getD,List.getElem?_eq_getElem (by omega)]; exact List.getElem_mem _)
     clear hxF hx kH gS hs es
     generalize L.getD 0 [] = u at *
     generalize ss L = ws at *
     generalize L.length = n at *
     by_cases c3 : 1 ≤ u.length
     ·by_cases c4 : u.length ≤ 5
      ·rw [decide_eq_true ⟨c3,c4⟩]
       refine Tr.w fun s1 H1 hp _ kR => ?_
       obtain ⟨rfl,rfl⟩:=hp
       have q : True:=trivial
       refine zCh ?_
       simp (disch:=first|omega|exact zE rfl|exact zO|exact zL rfl) [c39_o0,zG,q,hH]
       refine W.assoc ?_
       refine zCh ?_
       simp (disch:=first|omega|exact zE rfl|exact zO|exact zL rfl) [c39_o1,zG,q]
       refine W.seq (W.block ?_)
       refine W.use (l1) (by simp (disch:=first|omega|exact zE rfl|exact zO|exact zL rfl) [zG,q]) fun s1 H1 hp => ?_
       obtain ⟨rfl,q⟩:=hp
       try simp only [zW,if_true]
       refine zCh ?_
       simp (disch:=first|omega|exact zE rfl|exact zO|exact zL rfl) [c39_o11,zG,q,g,w0,w0',ls,c1,c2,c3,c4]
       refine W.ret ?_
       try simp only [zW,if_true]
       exact kR _ _ (by simp [T.get])
      ·rw [decide_eq_false (fun h => c4 h.2)]
       refine Tr.w fun s1 H1 hp _ kR => ?_
       obtain ⟨rfl,rfl⟩:=hp
       have q : True:=trivial
       refine zCh ?_
       simp (disch:=first|omega|exact zE rfl|exact zO|exact zL rfl) [c39_o0,zG,q,hH]
       refine W.assoc ?_
       refine zCh ?_
       simp (disch:=first|omega|exact zE rfl|exact zO|exact zL rfl) [c39_o1,zG,q]
       refine W.seq (W.block ?_)
       refine W.use (l1) (by simp (disch:=first|omega|exact zE rfl|exact zO|exact zL rfl) [zG,q]) fun s1 H1 hp => ?_
       obtain ⟨rfl,q⟩:=hp
       try simp only [zW,if_true]
       refine zCh ?_
       simp (disch:=first|omega|exact zE rfl|exact zO|exact zL rfl) [c39_o11,zG,q,g,w0,w0',ls,c1,c2,c3,c4]
       refine W.ret ?_
       try simp only [zW,if_true]
       exact kR _ _ (by simp [T.get])
     ·rw [decide_eq_false (fun h => c3 h.1)]
      have c5 : u.length = 0:=by omega
      refine Tr.w fun s1 H1 hp _ kR => ?_
      obtain ⟨rfl,rfl⟩:=hp
      have q : True:=trivial
      refine zCh ?_
      simp (disch:=first|omega|exact zE rfl|exact zO|exact zL rfl) [c39_o0,zG,q,hH]
      refine W.assoc ?_
      refine zCh ?_
      simp (disch:=first|omega|exact zE rfl|exact zO|exact zL rfl) [c39_o1,zG,q]
      refine W.seq (W.block ?_)
      refine W.use (l1) (by simp (disch:=first|omega|exact zE rfl|exact zO|exact zL rfl) [zG,q]) fun s1 H1 hp => ?_
      obtain ⟨rfl,q⟩:=hp
      try simp only [zW,if_true]
      refine zCh ?_
      simp (disch:=first|omega|exact zE rfl|exact zO|exact zL rfl) [c39_o11,zG,q,g,w0,w0',ls,c1,c2,c5]
      refine W.ret ?_
      try simp only [zW,if_true]
      exact kR _ _ (by simp [T.get])
    ·rw [decide_eq_false (fun h => c2 h.2),Bool.false_and]
     clear hxF hx kH gS hs es g ls
     generalize L.length = n at *
     refine Tr.w fun s1 H1 hp _ kR => ?_
     obtain ⟨rfl,rfl⟩:=hp
     have q : True:=trivial
     refine zCh ?_
     simp (disch:=first|omega|exact zE rfl|exact zO|exact zL rfl) [c39_o0,zG,q,hH]
     refine W.assoc ?_
     refine zCh ?_
     simp (disch:=first|omega|exact zE rfl|exact zO|exact zL rfl) [c39_o1,zG,q]
     refine W.seq (W.block ?_)
     refine W.use (l1) (by simp (disch:=first|omega|exact zE rfl|exact zO|exact zL rfl) [zG,q]) fun s1 H1 hp => ?_
     obtain ⟨rfl,q⟩:=hp
     try simp only [zW,if_true]
     refine zCh ?_
     simp (disch:=first|omega|exact zE rfl|exact zO|exact zL rfl) [c39_o11,zG,q,c1,c2]
     refine W.ret ?_
     try simp only [zW,if_true]
     exact kR _ _ (by simp [T.get])
   ·rw [decide_eq_false (fun h => c1 h.1),Bool.false_and]
    clear hxF hx kH gS hs es g ls
    generalize L.length = n at *
    have c5 : n = 0:=by omega
    subst c5
    refine Tr.w fun s1 H1 hp _ kR => ?_
    obtain ⟨rfl,rfl⟩:=hp
    have q : True:=trivial
    refine zCh ?_
    simp (disch:=first|omega|exact zE rfl|exact zO|exact zL rfl) [c39_o0,zG,q,hH]
    refine W.assoc ?_
    refine zCh ?_
    simp (disch:=first|omega|exact zE rfl|exact zO|exact zL rfl) [c39_o1,zG,q]
    refine W.seq (W.block ?_)
    refine W.use (l1) (by simp (disch:=first|omega|exact zE rfl|exact zO|exact zL rfl) [zG,q]) fun s1 H1 hp => ?_
    obtain ⟨rfl,q⟩:=hp
    try simp only [zW,if_true]
    refine zCh ?_
    simp (disch:=first|omega|exact zE rfl|exact zO|exact zL rfl) [c39_o11,zG,q]
    refine W.ret ?_
    try simp only [zW,if_true]
    exact kR _ _ (by simp [T.get])
end
structure A39g where
 qq : Nat
 x : AV
 y : AV
 z : AV
 L : List (List UInt8)
def Pre39g (b : A39g) (args : List AV) (h : Heap) : Prop:=(b.qq ≤ 3 ∧ RV h b.z (ss b.L) ∧ b.L.length ≤ 1000000 ∧ ∀ s ∈ b.L,s.length ≤ 1000000) ∧ args = [.agg [G b.qq,b.x,b.y],b.z]
def Post39g (b : A39g) (h : Heap) (v : AV) (own : List AObj) : Prop:=v = .bool (isS b.qq b.L) ∧ own = []
noncomputable def U39 : CallF:=addK tbl noIntr 39 Pre39g Post39g
theorem u39 : Sound Go.Proofs.Try.prog U39:=Sound.addK follows ok Sound.empty (by decide) _ _
abbrev K39g (J : CallF) : Prop:=∀ (h : Heap) (qq : Nat) (x y z : AV) (L : List (List UInt8)),qq ≤ 3 → RV h z (ss L) → L.length ≤ 1000000 → (∀ s ∈ L,s.length ≤ 1000000) → J 39 [.agg [G qq,x,y],z] h = some (.bool (isS qq L),[],false)
theorem k39u : K39g U39:=fun h qq x y z L h1 h2 h3 h4 => by
 obtain ⟨v,own,e,rfl,rfl⟩:=addK_some (Pre:=Pre39g) (Post:=Post39g) (fun b args h hp => by
  obtain ⟨⟨h1,h2,h3,h4⟩,rfl⟩:=hp
  exact ⟨_,_,c39g_ok noIntr (fun _ _ => rfl) h h1 h2 h3 h4,rfl,rfl⟩) ⟨qq,x,y,z,L⟩ _ h ⟨⟨h1,h2,h3,h4⟩,rfl⟩
 exact e
noncomputable def T79 : CallF:=addI T78 46 (U46 46)
theorem t79 : Sound Go.Proofs.Try.prog T79:=Sound.put t78 u46 46
theorem k46g : K46g T79:=fun h a m R b v o k g => (addI_eq _ _ _ _ _).trans (k46u h a m R b v o k g)
noncomputable def T80 : CallF:=addI T79 39 (U39 39)
theorem t80 : Sound Go.Proofs.Try.prog T80:=Sound.put t79 u39 39
theorem k39g : K39g T80:=fun h qq x y z L h1 h2 h3 h4 => (addI_eq _ _ _ _ _).trans (k39u h qq x y z L h1 h2 h3 h4)
theorem TB.mr {H0 h : Heap} {x : AV} {M : List (List Int)} (t : TB H0 h x (M.map gs)) : MR h x M:=by
 obtain ⟨rs,lv,hl,hr⟩:=t.r
 rw [List.length_map] at hl
 rcases lv with ⟨rfl,rfl⟩ | ⟨b,rfl,g,n⟩
 ·exact .inl ⟨.inl rfl,List.length_eq_zero_iff.1 hl.symm⟩
 ·refine .inr ⟨b,rs.length,rs,by rw [hl],g,hl,fun i r e => ?_⟩
  obtain ⟨cs,b',h1,h2,h3,_⟩:=hr i r e
  rw [List.getElem?_map] at h1
  cases hN : M[i]? with
  | none => rw [hN] at h1; cases h1
  | some l =>
   rw [hN] at h1
   simp only [Option.map_some,Option.some.injEq] at h1
   subst h1
   exact ⟨l,rfl,.inl (by rw [h2]; exact listOf_cells h3 (by simp))⟩
def AR.of (n : Nat) (x y : AV) (B W : List (List Int)) : AR:=⟨n,x,y,B,W⟩
section
variable {nq m nn : Int} {X Y : List (List Int)}
end
section
variable {S : List (List Nat)} {u4 u6 u8 u0 : AV} {k1 k2 k3 k4 : Nat}
theorem RV.lv {h : Heap} {y : AV} {L : List Nat} (r : RV h y (gn L)) (hl : 0 < L.length) : ∃ b v,y = .slice b 0 L.length v ∧ h.get b = .cells 1 v (gn L):=by
 rcases r with ⟨_,e⟩ | ⟨b,v,e,g⟩
 ·have : (gn L).length = 0:=by rw [e]; rfl
  rw [gn_len] at this; omega
 ·rw [gn_len] at e; exact ⟨b,v,e,g⟩
end
theorem rT2_len (R : List (List Nat)) (P : List Nat) : (rT2 R P).length = P.length:=by unfold rT2; rw [List.length_map]
theorem RV.pre {H : Heap} {b v n : Nat} {cs : List AV} (r : RV H (.slice b 0 n v) cs) {k : Nat} (hk : k ≤ cs.length) : PL H (.slice b 0 k v) (cs.take k):=by
 rcases r with ⟨e,_⟩ | ⟨b',v',e,g⟩
 ·cases e
 ·rw [AV.slice.injEq] at e
  obtain ⟨rfl,_,_,rfl⟩:=e
  exact .inr ⟨b,v,cs.drop k,by rw [List.length_take,Nat.min_eq_left hk],by rw [List.take_append_drop]; exact g⟩
section
variable {S R : List (List Nat)} {p N : Nat}
def nwP (S : List (List Nat)) (now : Int) (c : Nat) : List Nat:=(List.range c).filter (pN S now)
theorem nw_split (hs : Srt S) {now : Int} {c : Nat} (hc : c < S.length) (hp : pN S now c = true) : ∃ B,nwL S now = nwP S now c ++ c :: B:=by
 rw [← nw_filter hs,← List.range_eq_range']
 have e : List.range S.length = List.range c ++ (List.range (S.length - c)).map (c + ·):=by
  conv => lhs; rw [show S.length = c + (S.length - c) by omega]
  rw [List.range_add]
 obtain ⟨d,hd⟩ : ∃ d,S.length - c = d + 1:=⟨S.length - c - 1,by omega⟩
 rw [e,hd,List.filter_append,List.range_succ_eq_map,List.map_cons,Nat.add_zero,List.filter_cons,if_pos hp]
 exact ⟨_,rfl⟩
theorem nwP_ft (now : Int) (w : Nat → Nat) (c : Nat) : ((nwP S now c).map w).sum = ft (pN S now) w c 0:=by
 rw [ft_sum,← List.range_eq_range']; rfl
theorem nwP_lt {now : Int} {c d : Nat} (h : d ∈ nwP S now c) : d < c:=List.mem_range.1 (List.mem_filter.1 h).1
theorem nwL_len (os : OkS S) (now : Int) : (nwL S now).length ≤ 1000:=by
 unfold nwL
 split
 ·rw [List.length_range]; exact os.n
 ·exact os.len _
theorem c47_l0_ok (J : CallF) {Hb : Heap} {x1 x6 x7 x8 : AV} (hx : (x6 = .nils ∧ S.length = 0) ∨ ∃ b v,x6 = .slice b 0 S.length v) (os : OkS S) {n : Int} :
  Tr tbl J c47_l0 (fun s h => ∃ y,NV Hb h y (gn (List.range 0)) ∧ s.get [false] = x1 ∧ s.get [false,true] = G n ∧ s.get [true,true] = x6 ∧ s.get [false,false,false] = x7 ∧ s.get [true,false,false] = x8 ∧ s.get [false,true,false] = y ∧ s.get [true,true,false] = G ((0 : Nat) : Int)) (.exit 0)
   (fun s h => ∃ y,NV Hb h y (gn (List.range S.length)) ∧ s.get [false] = x1 ∧ s.get [false,true] = G n ∧ s.get [true,true] = x6 ∧ s.get [false,false,false] = x7 ∧ s.get [true,false,false] = x8 ∧ s.get [false,true,false] = y):=by
 have n2:=os.n
 refine Tr.rounds (e:=.exit 0) (P:=fun i s h => ∃ y,NV Hb h y (gn (List.range i)) ∧ s.get [false] = x1 ∧ s.get [false,true] = G n ∧ s.get [true,true] = x6 ∧ s.get [false,false,false] = x7 ∧ s.get [true,false,false] = x8 ∧ s.get [false,true,false] = y ∧ s.get [true,true,false] = G i) (M:=S.length) (fun i hi => ?_) ?_ (by simp) 0 (by omega)
 ·obtain ⟨b,v,rfl⟩:=hx.resolve_left (fun e => by omega)
  clear os hx
  generalize S.length = nS at *
  refine Tr.w fun s1 H1 hp _ kR => W.trim ?_
  obtain ⟨y,nv,q⟩:=hp
  obtain ⟨x1,e,H2,q1,q2,nv2,q4⟩:=nv.app H1.size 8 (G i) (by rw [gn_len,List.length_range]; omega)
  rw [← gn_range] at nv2
  clear nv
  refine W.assoc ?_
  refine zCh ?_
  simp (disch:=first|omega|exact zE rfl|exact zO|exact zL rfl) [c47_o6,zG,q]
  refine zCh ?_
  simp (disch:=first|omega|exact zE rfl|exact zO|exact zL rfl) [zG,q]
  refine W.seq (W.block ?_)
  refine W.chunk ?_
  simp (disch:=first|omega|exact zE rfl|exact zO|exact zL rfl) [c47_o7,zG,q,q1,q2,app1_at,elems,rdOf]
  refine W.chunk ?_
  simp (disch:=first|omega|exact zE rfl|exact zO|exact zL rfl) [c47_o8,zG,q]
  exact kR _ _ ⟨_,nv2,by simp [T.get,q]⟩
 ·clear os
  generalize S.length = nS at *
  rcases hx with ⟨rfl,hz⟩ | ⟨b,v,rfl⟩
  all_goals
   refine Tr.w fun s1 H1 hp _ kR => W.trim ?_
   obtain ⟨y,nv,q⟩:=hp
   refine W.assoc ?_
   refine zCh ?_
   simp (disch:=first|omega|exact zE rfl|exact zO|exact zL rfl) [c47_o6,zG,q]
   refine zCh ?_
   simp (disch:=first|omega|exact zE rfl|exact zO|exact zL rfl) [zG,q]
   exact kR _ _ ⟨_,nv,by simp [T.get,q]⟩
theorem c47_l1_ok (J : CallF) {H : Heap} {x7 y : AV} {L A B P : List Nat} {c : Nat} (eL : L = A ++ c :: B) (ry : RV H y (gn L)) (hL : L.length ≤ 1000) (hA : ∀ d ∈ A,d < S.length ∧ d ≠ c) (hc : c < S.length)
  (hR : R.length = S.length) (ne : ∀ d e,d < S.length → e < S.length → stW (R.getD d []) = stW (R.getD e []) → d = e)
  {bx vx : Nat} (gx : H.get bx = .cells 1 vx (wsL R)) {bs vs : Nat} (gs : H.get bs = .cells 1 vs (wsL (rT2 R P))) (lP : P.length = N) {j : Nat} (hj : j < N) (ej : P.getD j 0 = c)
  {bo br : Nat} {ros : List AV} (lo : ros.length = N) (g1 : H.get bo = .cells 1 N ros) (er : ros[N - 1 - j]? = some (.slice br 0 S.length S.length)) (gr : H.get br = .cells 1 S.length (gn (rowC S (N - 1 - j)))) (h40 : N ≤ 40) (n2 : S.length ≤ 1000) :
  ∀ d i out,i + d = A.length → out + ((A.drop i).map (cnt S (N - 1 - j))).sum ≤ 1152921504606846976 →
  Tr tbl J c47_l1 (fun s h => h = H ∧ s.get [false] = .slice bs 0 N vs ∧ s.get [false,true] = G N ∧ s.get [true,true] = .slice bx 0 S.length vx ∧ s.get [false,false,false] = x7 ∧ s.get [true,false,false] = .slice bo 0 N N ∧ s.get [false,true,false] = y ∧ s.get [false,false,true] = G out ∧ s.get [true,false,true] = G j ∧ s.get [false,true,true] = G i) (.exit 4)
   (fun s h => h = H ∧ s.get [false] = .slice bs 0 N vs ∧ s.get [false,true] = G N ∧ s.get [true,true] = .slice bx 0 S.length vx ∧ s.get [false,false,false] = x7 ∧ s.get [true,false,false] = .slice bo 0 N N ∧ s.get [false,true,false] = y ∧ s.get [false,false,true] = G (out + ((A.drop i).map (cnt S (N - 1 - j))).sum : Nat) ∧ s.get [true,false,true] = G j ∧ s.get [false,true,true] = G A.length):=by
 have lL : L.length = A.length + 1 + B.length:=by rw [eL]; simp; omega
 obtain ⟨by',vy,rfl,gy⟩ : ∃ b v,y = .slice b 0 L.length v ∧ H.get b = .cells 1 v (gn L):=by
  rcases ry with ⟨_,e⟩ | ⟨b,v,e,g⟩
  ·have : (gn L).length = 0:=by rw [e]; rfl
   rw [gn_len] at this; omega
  ·rw [gn_len] at e; exact ⟨b,v,e,g⟩
 have lc:=gn_len L
 have lw : (wsL R).length = S.length:=by rw [wsL_len,hR]
 have ls : (wsL (rT2 R P)).length = N:=by rw [wsL_len,rT2_len,lP]
 have es:=wsL_at (R:=rT2 R P) (i:=j) (by rw [rT2_len,lP]; exact hj)
 have e0 : (rT2 R P).getD j [] = R.getD c []:=by
  unfold rT2
  rw [List.getD_eq_getElem?_getD,List.getElem?_map]
  rw [List.getD_eq_getElem?_getD,List.getElem?_eq_getElem (by omega : j < P.length)] at ej
  rw [List.getElem?_eq_getElem (by omega : j < P.length)]
  show R.getD P[j] [] = _
  rw [← ej]; rfl
 rw [e0] at es
 have es':=getI es
 have ny : ((N : Int) - 1 - (j : Int)).toNat = N - 1 - j:=by omega
 intro d
 induction d with
 | zero =>
  intro i out hi _
  obtain rfl : i = A.length:=by omega
  have ec:=gn_at (L:=L) (i:=A.length) (by omega)
  have e1 : L.getD A.length 0 = c:=by
   rw [eL,List.getD_eq_getElem?_getD,List.getElem?_append_right (Nat.le_refl _),Nat.sub_self]; rfl
  rw [e1] at ec
  have ec':=getI ec
  have ew:=wsL_at (R:=R) (i:=c) (by omega)
  have ew':=getI ew
  have e2 : out + ((A.drop A.length).map (cnt S (N - 1 - j))).sum = out:=by rw [List.drop_length]; rfl
  rw [e2]
  clear ne hA eL e2 e0 ej e1 er gr
  refine Tr.out ?_ (by simp)
  generalize stW (R.getD c []) = u at *
  generalize wsL R = ws at *
  generalize wsL (rT2 R P) = wp at *
  generalize gn L = ys at *
  generalize L.length = nL at *
  generalize A.length = nA at *
  generalize S.length = nS at *
  refine Tr.w fun s1 H1 hp _ kR => W.trim ?_
  obtain ⟨rfl,q⟩:=hp
  refine W.assoc ?_
  refine zCh ?_
  simp (disch:=first|omega|exact zE rfl|exact zO|exact zL rfl) [-evDraw_c,c47_o13,zG,q,evDraw_0,gx,gs,gy,ec,ec',lc,ew,ew',lw,es,es',ls]
  refine zCh ?_
  simp (disch:=first|omega|exact zE rfl|exact zO|exact zL rfl) [zG,q]
  exact kR _ _ (by simp [T.get,q])
 | succ d ih =>
  intro i out hi hb
  have hi' : i < A.length:=by omega
  have dr : A.drop i = A.getD i 0 :: A.drop (i + 1):=by
   rw [List.drop_eq_getElem_cons hi',List.getD_eq_getElem?_getD,List.getElem?_eq_getElem hi']; rfl
  rw [dr,List.map_cons,List.sum_cons] at hb ⊢
  have mA : A.getD i 0 ∈ A:=gD_mem hi'
  obtain ⟨h1,h2⟩:=hA _ mA
  have ec:=gn_at (L:=L) (i:=i) (by omega)
  have e1 : L.getD i 0 = A.getD i 0:=by
   rw [eL,List.getD_eq_getElem?_getD,List.getElem?_append_left hi',List.getD_eq_getElem?_getD]
  rw [e1] at ec
  have ec':=getI ec
  have ew:=wsL_at (R:=R) (i:=A.getD i 0) (by omega)
  have ew':=getI ew
  have nq : ¬ stW (R.getD (A.getD i 0) []) = stW (R.getD c []):=fun e => h2 (ne _ _ h1 hc e)
  have er':=getI er
  have e3:=gn_at (L:=rowC S (N - 1 - j)) (i:=A.getD i 0) (by rw [rowC_len]; exact h1)
  rw [rowC_at S _ h1] at e3
  have e3':=getI e3
  have l1 : (gn (rowC S (N - 1 - j))).length = S.length:=by rw [gn_len,rowC_len]
  have ih':=ih (i + 1) (out + cnt S (N - 1 - j) (A.getD i 0)) (by omega) (by omega)
  rw [show out + cnt S (N - 1 - j) (A.getD i 0) + ((A.drop (i + 1)).map (cnt S (N - 1 - j))).sum = out + (cnt S (N - 1 - j) (A.getD i 0) + ((A.drop (i + 1)).map (cnt S (N - 1 - j))).sum) by omega] at ih'
  have k1 : ((i + 1 : Nat) : Int) = (i : Int) + 1:=by omega
  have k2 : ((out + cnt S (N - 1 - j) (A.getD i 0) : Nat) : Int) = (out : Int) + (cnt S (N - 1 - j) (A.getD i 0) : Int):=by omega
  rw [k1,k2] at ih'
  refine Tr.next ?_ ih'
  clear ih ih' ne hA eL e0 ej e1 dr mA k1 k2
  generalize cnt S (N - 1 - j) (A.getD i 0) = w at *
  generalize ((A.drop (i + 1)).map (cnt S (N - 1 - j))).sum = more at *
  generalize stW (R.getD c []) = u at *
  generalize stW (R.getD (A.getD i 0) []) = u2 at *
  generalize A.getD i 0 = d at *
  generalize gn (rowC S (N - 1 - j)) = cs at *
  generalize wsL R = ws at *
  generalize wsL (rT2 R P) = wp at *
  generalize gn L = ys at *
  generalize L.length = nL at *
  generalize A.length = nA at *
  generalize S.length = nS at *
  refine Tr.w fun s1 H1 hp _ kR => W.trim ?_
  obtain ⟨rfl,q⟩:=hp
  refine W.assoc ?_
  refine zCh ?_
  simp (disch:=first|omega|exact zE rfl|exact zO|exact zL rfl) [-evDraw_c,c47_o13,zG,q,evDraw_0,gx,gs,gy,ec,ec',lc,ew,ew',lw,es,es',ls,nq]
  refine zCh ?_
  simp (disch:=first|omega|exact zE rfl|exact zO|exact zL rfl) [zG,q]
  refine W.block ?_
  refine zCh ?_
  simp (disch:=first|omega|exact zE rfl|exact zO|exact zL rfl) [-evDraw_c,c47_o14,zG,q,evDraw_0,g1,lo,er,er',gr,l1,e3,e3',gy,ec,ec',lc,ny]
  refine W.chunk ?_
  simp (disch:=first|omega|exact zE rfl|exact zO|exact zL rfl) [c47_o15,zG,q]
  exact kR _ _ (by simp [T.get,q])
theorem c47_l2_ok (J : CallF) {H : Heap} {x7 x8 : AV} {bx vx bs vs : Nat} {P0 : List Nat} (gx : H.get bx = .cells 1 vx (wsL R)) (hR : R.length = S.length) (hs : Srt S) (os : OkS S) (ln : LN H x7 S) (tn : TN H x8 S N)
  (gs : H.get bs = .cells 1 vs (wsL (rT2 R P0))) (lP : P0.length = N) (h40 : N ≤ 40) (ne : ∀ d e,d < S.length → e < S.length → stW (R.getD d []) = stW (R.getD e []) → d = e) :
  ∀ (P : List Nat) (j : Nat) (now : Int) (out : Nat) (y : AV),P = P0.drop j → j + P.length = N → VC S now P → RV H y (gn (nwL S now)) → out + ix S now P ≤ 1152921504606846976 →
  Tr tbl J c47_l2 (fun s h => h = H ∧ s.get [false] = .slice bs 0 N vs ∧ s.get [false,true] = G N ∧ s.get [true,true] = .slice bx 0 S.length vx ∧ s.get [false,false,false] = x7 ∧ s.get [true,false,false] = x8 ∧ s.get [false,true,false] = y ∧ s.get [false,false,true] = G out ∧ s.get [true,false,true] = G j) (.exit 2) (fun s h => h = H ∧ s.get [false,false,true] = G (out + ix S now P : Nat)):=by
 intro P
 induction P with
 | nil =>
  intro j now out y eP hj _ ry _
  have e : out + ix S now [] = out:=rfl
  rw [e]
  have hj : j = N:=by simpa using hj
  subst hj
  clear ry tn ln os hs ne gs gx eP lP
  refine Tr.out ?_ (by simp)
  refine Tr.w fun s1 H1 hp _ kR => W.trim ?_
  obtain ⟨rfl,q⟩:=hp
  refine W.assoc ?_
  refine zCh ?_
  simp (disch:=first|omega|exact zE rfl|exact zO|exact zL rfl) [c47_o11,zG,q]
  refine zCh ?_
  simp (disch:=first|omega|exact zE rfl|exact zO|exact zL rfl) [zG,q]
  exact kR _ _ (by simp [T.get,q])
 | cons c P ih =>
  intro j now out y eP hj vc ry hb
  obtain ⟨v1,v2,v3⟩:=vc
  rw [List.length_cons] at hj
  have hix : ix S now (c :: P) = ft (pN S now) (cnt S P.length) c 0 + ix S (c : Int) P:=rfl
  rw [hix] at hb ⊢
  have lP' : P.length = N - 1 - j:=by omega
  obtain ⟨B,eB⟩:=nw_split hs v1 v2
  have ej : P0.getD j 0 = c:=by
   have : (P0.drop j)[0]? = some c:=by rw [← eP]; rfl
   rw [List.getElem?_drop,Nat.add_zero] at this
   rw [List.getD_eq_getElem?_getD,this]; rfl
  have eP' : P = P0.drop (j + 1):=by
   rw [← List.drop_drop,← eP]; rfl
  obtain ⟨bo,ros,rfl,gT,lo,tb⟩:=tn (by omega)
  obtain ⟨br,er,gr⟩:=tb (N - 1 - j) (by omega)
  have l1:=c47_l1_ok (x7:=x7) (P:=P0) J eB ry (nwL_len os now) (fun d hd => by have:=nwP_lt hd; exact ⟨by omega,by omega⟩) v1 hR ne gx gs lP (by omega) ej lo gT er gr h40 os.n (nwP S now c).length 0 out (by omega) (by
   rw [List.drop_zero,nwP_ft,← lP']; omega)
  rw [List.drop_zero,nwP_ft,← lP'] at l1
  obtain ⟨rs,lv,lrs,hr⟩:=ln
  obtain ⟨b10,rfl,g10⟩:=lv.resolve_left (fun e => by omega)
  obtain ⟨yc,ec,rc⟩:=hr c v1
  have ec':=getI ec
  obtain ⟨by',vy,rfl,gy⟩ : ∃ b v,y = .slice b 0 (nwL S now).length v ∧ H.get b = .cells 1 v (gn (nwL S now)):=by
   rcases ry with ⟨_,e⟩ | ⟨b,v,e,g⟩
   ·have : (gn (nwL S now)).length = 0:=by rw [e]; rfl
    rw [gn_len,eB] at this; simp at this
   ·rw [gn_len] at e; exact ⟨b,v,e,g⟩
  have cU:=gn_at (L:=nwL S now) (i:=(nwP S now c).length) (by rw [eB]; simp)
  have cg : (nwL S now).getD (nwP S now c).length 0 = c:=by
   rw [eB,List.getD_eq_getElem?_getD,List.getElem?_append_right (Nat.le_refl _),Nat.sub_self]; rfl
  rw [cg] at cU
  have cU':=getI cU
  have ll:=gn_len (nwL S now)
  have lA : (nwP S now c).length < (nwL S now).length:=by rw [eB]; simp
  have nl:=nwL_len os now
  have n2:=os.n
  have ih':=ih (j + 1) (c : Int) (out + ft (pN S now) (cnt S P.length) c 0) yc eP' (by omega) v3 (by unfold nwL; rw [if_neg (by omega),Int.toNat_natCast]; exact rc) (by omega)
  rw [Nat.add_assoc] at ih'
  refine Tr.next ?_ ih'
  have k1 : ((j + 1 : Nat) : Int) = (j : Int) + 1:=by omega
  rw [k1]
  clear ih ih' ry hs os tn ne hR rc hr lv v2 v3 eB cg gx gs eP eP' gT tb er gr k1
  generalize out + ft (pN S now) (cnt S P.length) c 0 = out2 at *
  generalize (nwP S now c).length = nA at *
  generalize gn (nwL S now) = ys at *
  generalize (nwL S now).length = nL at *
  generalize S.length = nS at *
  refine Tr.w fun s1 H1 hp _ kR => W.trim ?_
  obtain ⟨rfl,q⟩:=hp
  refine W.assoc ?_
  refine zCh ?_
  simp (disch:=first|omega|exact zE rfl|exact zO|exact zL rfl) [c47_o11,zG,q]
  refine zCh ?_
  simp (disch:=first|omega|exact zE rfl|exact zO|exact zL rfl) [zG,q]
  refine W.seq (W.block ?_)
  refine zCh ?_
  simp (disch:=first|omega|exact zE rfl|exact zO|exact zL rfl) [c47_o12,zG,q]
  refine W.seq (W.block ?_)
  refine W.use (l1) (by simp (disch:=first|omega|exact zE rfl|exact zO|exact zL rfl) [zG,q]) fun s1 H1 hp => ?_
  obtain ⟨rfl,q⟩:=hp
  try simp only [zW,if_true]
  refine W.chunk ?_
  simp (disch:=first|omega|exact zE rfl|exact zO|exact zL rfl) [-evDraw_c,c47_o16,zG,q,gy,cU,cU',ll,g10,ec,ec',lrs]
  refine W.chunk ?_
  simp (disch:=first|omega|exact zE rfl|exact zO|exact zL rfl) [c47_o17,zG,q]
  exact kR _ _ (by simp [T.get,q])
end
theorem c47_o2_ok (J : CallF) {Hs Z : Heap} {b bs vs N : Nat} {wl : List AV} {w0 : List UInt8} {own1 own2 : List AObj} {x9 x10 : AV} {aq : Int} {ml : Nat} {ax ay : AV} (gS : Hs.get b = .cells 0 3 [G aq,ax,ay]) (gS1 : (Hs.plus own1).get b = .cells 0 3 [G aq,ax,ay]) (gs : Hs.get bs = .cells 1 vs wl) (gs1 : (Hs.plus own1).get bs = .cells 1 vs wl) (lw : wl.length = N) (hN : 0 < N) (e0 : wl[0]? = some (.str w0)) (lm : w0.length = ml)
  (e30 : J 30 [.agg [G aq,ax,ay],G ml] Hs = some (x9,own1,false)) (e31 : J 31 [.agg [G aq,ax,ay],G ml] (Hs.plus own1) = some (x10,own2,false)) (hZ : (Hs.plus own1).plus own2 = Z) :
  Tr tbl J c47_o2 (fun s h => h = Hs ∧ s.get [false] = .slice bs 0 N vs ∧ s.get [true] = .ptr b 0 3 ∧ s.get [false,true] = G N) .normal (fun s h => h = Z ∧ s.get [false] = .slice bs 0 N vs ∧ s.get [false,true] = G N ∧ s.get [true,true] = x9 ∧ s.get [false,false,false] = x10):=by
 have hb:=get_lt gS (by simp)
 have hb2:=get_lt gs (by simp)
 have e0':=getI e0
 have hp0 : ∀ H : Heap,H.plus [] = H:=fun H => by simp [Heap.plus]
 have o1 : own1 = [] ∨ ∃ o os,own1 = o :: os:=by cases own1 <;> simp
 have o2 : own2 = [] ∨ ∃ o os,own2 = o :: os:=by cases own2 <;> simp
 rcases o1 with rfl | ⟨u1,v1,rfl⟩ <;> rcases o2 with rfl | ⟨u2,v2,rfl⟩
 all_goals
  try rw [hp0] at hZ
  try rw [hp0] at hZ
  try rw [hp0] at gS1
  try rw [hp0] at gs1
  try rw [hp0] at e31
  subst hZ
  refine Tr.w fun s1 H1 hp _ kR => ?_
  obtain ⟨rfl,q⟩:=hp
  refine W.chunk ?_
  simp (disch:=first|omega|exact zE rfl|exact zO|exact zL rfl) [c47_o2,zG,q,gS,gS1,gs,gs1,lw,e0,e0',lm,e30,e31,-evDraw_c,evDraw_0]
  refine kR _ _ ?_
  simp [T.get,q]
section
variable {a : AR} {m bs vs : Nat} {P : List Nat}
set_option maxHeartbeats 1000000 in
theorem c47_ok (J : CallF) (k30 : K30 J) (k31 : K31 J) (k71 : K71 J) (hJ : ∀ a h,J 47 a h = none) (h : Heap) (o : OkR a h) (g : a.rm (m : Nat) = true) (hc : okC (a.steps (m : Nat)) P.length = true) (vc : VC (a.steps (m : Nat)) (-1) P) (n1 : 1 ≤ P.length) (n40 : P.length ≤ 40)
  (gs : h.get bs = .cells 1 vs (wsL (rT2 (a.rows (m : Nat)) P))) : CallsTo tbl J 47 [a.v,.slice bs 0 P.length vs] h (G (ix (a.steps (m : Nat)) (-1) P),[],false):=by
 obtain ⟨r1,r2⟩:=a.rm_iff g
 obtain ⟨os,s243,sr⟩:=AR.steps_ok g
 obtain ⟨Hs,hHs⟩ : ∃ H,(frameOf h).plus [.cells 0 3 [G a.q,a.x,a.y]] = H:=⟨_,rfl⟩
 have kHs : Kp (fun _ => False) (frameOf h) Hs:=by rw [← hHs]; exact Kp.plus _ _
 have oH : OkR a Hs:=OkR.kp (o.lo []) kHs
 have gS : Hs.get h.size = .cells 0 3 [G a.q,a.x,a.y]:=by rw [← hHs]; exact plus_at0 _ _ _ _ (frS h)
 have gsF : (frameOf h).get bs = .cells 1 vs (wsL (rT2 (a.rows (m : Nat)) P)):=by
  unfold frameOf
  rw [get_mk_lt _ _ _ _ (get_lt gs (by simp))]; exact gs
 have gsH:=kHs.at gsF (by simp) id
 obtain ⟨x9,own1,e30,l30,_⟩:=k30 Hs a.g m (oH.g r1) (by omega)
 rw [a.gv r1] at e30
 have kA : Kp (fun _ => False) Hs (Hs.plus own1):=Kp.plus _ _
 have gS1:=kA.at gS (by simp) id
 have gsA:=kA.at gsH (by simp) id
 obtain ⟨x10,own2,e31,l31⟩:=k31 (Hs.plus own1) a.g m ((oH.kp kA).g r1) (by omega)
 rw [a.gv r1] at e31
 obtain ⟨Z,hZ⟩ : ∃ Z,(Hs.plus own1).plus own2 = Z:=⟨_,rfl⟩
 have kZ : Kp (fun _ => False) (Hs.plus own1) Z:=by rw [← hZ]; exact Kp.plus _ _
 rw [hZ] at l31
 have ln : LN Z x10 (a.steps (m : Nat)):=l31.ln
 have rx : RV Z x9 (wsL (a.rows (m : Nat))):=l30.kp kZ (fun _ _ => id)
 have lt : ∀ c ∈ P,c < (a.rows (m : Nat)).length:=fun c hc => by rw [← sr]; exact vc.lt c hc
 have w0:=wsL_at (R:=rT2 (a.rows (m : Nat)) P) (i:=0) (by rw [rT2_len]; omega)
 have lw : (wsL (rT2 (a.rows (m : Nat)) P)).length = P.length:=by rw [wsL_len,rT2_len]
 have wl0 : (stW ((rT2 (a.rows (m : Nat)) P).getD 0 [])).length = m:=by
  rw [stW_len,rT2_at (by omega),List.getD_eq_getElem?_getD,List.getElem?_eq_getElem (lt _ (gD_mem (by omega)))]
  have:=(rwL_mem (List.getElem_mem (lt _ (gD_mem (t:=0) (L:=P) (by omega))))).1
  show List.length _ = _
  rw [Int.toNat_natCast] at this
  exact this
 have t2:=c47_o2_ok J gS gS1 gsH gsA lw n1 w0 wl0 e30 e31 hZ
 obtain ⟨v71,own3,e71,tb⟩:=k71 Z x10 P.length (a.steps (m : Nat)) os ln (by omega)
 obtain ⟨Z2,hZ2⟩ : ∃ H,Z.plus own3 = H:=⟨_,rfl⟩
 have kZ2 : Kp (fun _ => False) Z Z2:=by rw [← hZ2]; exact Kp.plus _ _
 rw [hZ2] at tb
 have bd : ∀ j,j < P.length → ∀ i,i < (a.steps (m : Nat)).length → cnt (a.steps (m : Nat)) j i ≤ 1152921504606846976:=fun j hj i hi => Nat.le_trans (cnt_le _ j hi) (okC_iff.1 hc j hj)
 have rS : ∀ j,j < P.length → rowS (a.steps (m : Nat)) j = rowC (a.steps (m : Nat)) j:=fun j hj => by
  unfold rowS rowC
  exact lN_ext fun i hi => sat_of (bd j hj i hi)
 have tn : TN Z2 v71 (a.steps (m : Nat)) P.length:=fun h0 => by
  obtain ⟨bo,ros,e1,e2,e3,e4⟩:=tb.sl (i:=0) (by rw [rowsS_len]; exact h0)
  rw [rowsS_len] at e1 e2 e3
  refine ⟨bo,ros,e1,e2,e3,fun j hj => ?_⟩
  obtain ⟨br,e5,e6⟩:=e4 j _ (rowsS_at _ hj)
  rw [rS j hj,gn_len,rowC_len] at e5 e6
  exact ⟨br,e5,e6⟩
 have hs : Srt (a.steps (m : Nat)):=srt_st _ _
 have bdI : ix (a.steps (m : Nat)) (-1) P ≤ 1152921504606846976:=by
  cases hP : P with
  | nil => rw [hP] at n1; simp at n1
  | cons c P' =>
   rw [hP] at vc hc
   have h1:=ix_lt hs vc
   rw [ft_nw hs] at h1
   have h2:=okC_iff.1 hc P'.length (by simp)
   have h3 : ((nwL (a.steps (m : Nat)) (-1)).map (cnt (a.steps (m : Nat)) P'.length)).sum = (rowC (a.steps (m : Nat)) P'.length).sum:=rfl
   omega
 have ne : ∀ d e,d < (a.steps (m : Nat)).length → e < (a.steps (m : Nat)).length → stW ((a.rows (m : Nat)).getD d []) = stW ((a.rows (m : Nat)).getD e []) → d = e:=fun d e hd he h => by
  rw [sr] at hd he
  have q3:=a.q3 r1
  have md:=rwL_mem (List.getElem_mem hd)
  have me:=rwL_mem (List.getElem_mem he)
  rw [List.getD_eq_getElem?_getD,List.getD_eq_getElem?_getD,List.getElem?_eq_getElem hd,List.getElem?_eq_getElem he] at h
  have h':=stW_inj (fun c hc => by have:=md.2.1 c hc; omega) (fun c hc => by have:=me.2.1 c hc; omega) h
  have nd:=rows_nd a.q.toNat a.B ((m : Int)).toNat
  rcases Nat.lt_trichotomy d e with l | l | l
  ·exact absurd h' ((List.pairwise_iff_getElem.1 nd) d e hd he l)
  ·exact l
  ·exact absurd h'.symm ((List.pairwise_iff_getElem.1 nd) e d he hd l)
 have sx:=rx.sl
 rw [wsL_len,← sr] at sx
 have l0:=c47_l0_ok (S:=a.steps (m : Nat)) (Hb:=Z2) (x1:=.slice bs 0 P.length vs) (x6:=x9) (x7:=x10) (x8:=v71) (n:=P.length) J sx os
 have gsZ2:=(kA.trans kZ |>.trans kZ2).at gsH (by simp) id
 have rx2:=rx.kp kZ2 (fun _ _ => id)
 have l2 : ∀ y H,NV Z2 H y (gn (List.range (a.steps (m : Nat)).length)) → Tr tbl J c47_l2 (fun s h => h = H ∧ s.get [false] = .slice bs 0 P.length vs ∧ s.get [false,true] = G P.length ∧ s.get [true,true] = x9 ∧ s.get [false,false,false] = x10 ∧ s.get [true,false,false] = v71 ∧ s.get [false,true,false] = y ∧ s.get [false,false,true] = G ((0 : Nat) : Int) ∧ s.get [true,false,true] = G ((0 : Nat) : Int)) (.exit 2) (fun s h => h = H ∧ s.get [false,false,true] = G (ix (a.steps (m : Nat)) (-1) P)):=fun y H nv => by
  have n0 : 0 < (a.steps (m : Nat)).length:=by
   have:=vc.lt _ (gD_mem (L:=P) (t:=0) (by omega))
   omega
  have rH:=rx2.kp nv.k (fun _ _ => id)
  obtain ⟨bx,vx,rfl,gx⟩ : ∃ b v,x9 = .slice b 0 (a.steps (m : Nat)).length v ∧ H.get b = .cells 1 v (wsL (a.rows (m : Nat))):=by
   rcases rH with ⟨_,e⟩ | ⟨b,v,e,g⟩
   ·have : (wsL (a.rows (m : Nat))).length = 0:=by rw [e]; rfl
    rw [wsL_len] at this; omega
   ·rw [wsL_len,← sr] at e; exact ⟨b,v,e,g⟩
  have l2:=c47_l2_ok (x7:=x10) (x8:=v71) J gx sr.symm hs os ((ln.kp kZ2).kp nv.k) (N:=P.length) (fun h0 => by
   obtain ⟨bo,ros,e1,e2,e3,e4⟩:=tn h0
   refine ⟨bo,ros,e1,nv.k.at e2 (by simp) id,e3,fun j hj => ?_⟩
   obtain ⟨br,e5,e6⟩:=e4 j hj
   exact ⟨br,e5,nv.k.at e6 (by simp) id⟩) (nv.k.at gsZ2 (by simp) id) rfl n40 ne P 0 (-1) 0 y rfl (by omega) vc nv.rv (by omega)
  rw [Nat.zero_add] at l2
  exact l2
 refine Tr.fnv (cf:=c47) (e:=.ret) (s:=T.set (T.set .leaf [] a.v) [false] (.slice bs 0 P.length vs)) (by decide) rfl (hJ _ _) rfl rfl rfl (by simp) ?_
 refine Tr.post (Q:=(fun s h => s.get [true,false] = G (ix (a.steps (m : Nat)) (-1) P))) (fun s h q => by simp [c47,q]) ?_
 have nv0 : NV Z2 Z2 .nils (gn []):=NV.nil Z2
 have fz:=frS h
 have av : a.v = .agg [G a.q,a.x,a.y]:=rfl
 rw [av]
 clear tb tn ln rx rx2 l31 l30 kHs kA kZ kZ2 os bd rS oH o hc sr s243 ne hs bdI w0 lw wl0 lt gsF gs
 generalize ix (a.steps (m : Nat)) (-1) P = out at *
 generalize (a.steps (m : Nat)).length = nS at *
 generalize P.length = n at *
 refine Tr.w fun s1 H1 hp _ kR => ?_
 obtain ⟨rfl,rfl⟩:=hp
 have q : True:=trivial
 refine zCh ?_
 simp (disch:=first|omega|exact zE rfl|exact zO|exact zL rfl) [c47_o0,zG,q,hHs,fz]
 refine zCh ?_
 simp (disch:=first|omega|exact zE rfl|exact zO|exact zL rfl) [c47_o1,zG,q]
 refine W.seq (W.use (t2) (by simp (disch:=first|omega|exact zE rfl|exact zO|exact zL rfl) [zG,q,fz]) fun s1 H1 hp => ?_)
 obtain ⟨rfl,q⟩:=hp
 try simp only [zW,if_true]
 refine zCh ?_
 simp (disch:=first|omega|exact zE rfl|exact zO|exact zL rfl) [c47_o3,zG,q,e71,app_if,app_if',hZ2]
 refine zCh ?_
 simp (disch:=first|omega|exact zE rfl|exact zO|exact zL rfl) [c47_o4,zG,q]
 refine W.assoc ?_
 refine zCh ?_
 simp (disch:=first|omega|exact zE rfl|exact zO|exact zL rfl) [c47_o5,zG,q]
 refine W.seq (W.block ?_)
 refine W.use (l0) (by simp (disch:=first|omega|exact zE rfl|exact zO|exact zL rfl) [zG,q,nv0]) fun s1 H1 hp => ?_
 obtain ⟨y,nv,q⟩:=hp
 try simp only [zW,if_true]
 refine zCh ?_
 simp (disch:=first|omega|exact zE rfl|exact zO|exact zL rfl) [c47_o9,zG,q]
 refine W.assoc ?_
 refine zCh ?_
 simp (disch:=first|omega|exact zE rfl|exact zO|exact zL rfl) [c47_o10,zG,q]
 refine W.seq (W.block ?_)
 refine W.use (l2 _ _ nv) (by simp (disch:=first|omega|exact zE rfl|exact zO|exact zL rfl) [zG,q]) fun s1 H1 hp => ?_
 obtain ⟨rfl,q⟩:=hp
 try simp only [zW,if_true]
 refine zCh ?_
 simp (disch:=first|omega|exact zE rfl|exact zO|exact zL rfl) [c47_o18,zG,q]
 refine W.ret ?_
 try simp only [zW,if_true]
 exact kR _ _ (by simp [T.get,q])
end
structure A47x where
 a : AR
 m : Nat
 P : List Nat
 b : Nat
 v : Nat
def Ok47x (b : A47x) (h : Heap) : Prop:=OkR b.a h ∧ b.a.rm (b.m : Nat) = true ∧ okC (b.a.steps (b.m : Nat)) b.P.length = true ∧ VC (b.a.steps (b.m : Nat)) (-1) b.P ∧ 1 ≤ b.P.length ∧ b.P.length ≤ 40 ∧ h.get b.b = .cells 1 b.v (wsL (rT2 (b.a.rows (b.m : Nat)) b.P))
def Pre47x (b : A47x) (args : List AV) (h : Heap) : Prop:=Ok47x b h ∧ args = [b.a.v,.slice b.b 0 b.P.length b.v]
def Post47x (b : A47x) (h : Heap) (v : AV) (own : List AObj) : Prop:=v = G (ix (b.a.steps (b.m : Nat)) (-1) b.P) ∧ own = []
noncomputable def U47 : CallF:=addK tbl T50 47 Pre47x Post47x
theorem u47 : Sound Go.Proofs.Try.prog U47:=Sound.addK follows ok t50 (by decide) _ _
abbrev K47 (J : CallF) : Prop:=∀ (h : Heap) (b : A47x),Ok47x b h → J 47 [b.a.v,.slice b.b 0 b.P.length b.v] h = some (G (ix (b.a.steps (b.m : Nat)) (-1) b.P),[],false)
theorem k47u : K47 U47:=fun h b o => by
 obtain ⟨v,own,e,rfl,rfl⟩:=addK_some (Pre:=Pre47x) (Post:=Post47x) (fun b args h hp => by
  obtain ⟨⟨h1,h2,h3,h4,h5,h6,h7⟩,rfl⟩:=hp
  exact ⟨_,_,c47_ok T50 k30_50 k31_50 k71_50 (fun _ _ => by simp (disch:=decide) only [T1,T2,T3,T4,T5,T6,T7,T8,T9,T10,T11,T12,T13,T14,T15,T16,T17,T18,T19,T20,T21,T22,T23,T24,T25,T26,T27,T28,T29,T30,T31,T32,T33,T34,T35,T36,T37,T38,T39,T40,T41,T42,T43,T44,T45,T46,T47,T48,T49,T50,addI_ne,addX_ne,addV_ne,addK_ne]; rfl) h h1 h2 h3 h4 h5 h6 h7,rfl,rfl⟩) b _ h ⟨o,rfl⟩
 exact e
noncomputable def T81 : CallF:=addI T80 47 (U47 47)
theorem t81 : Sound Go.Proofs.Try.prog T81:=Sound.put t80 u47 47
theorem k47 : K47 T81:=fun h b o => (addI_eq _ _ _ _ _).trans (k47u h b o)
theorem RV.el {h : Heap} {x : AV} {cs : List AV} (r : RV h x cs) : EL h x cs:=by
 rcases r with ⟨rfl,e⟩ | h
 ·exact .inl ⟨.inl rfl,e⟩
 ·exact .inr h
structure LawX (J : CallF) (H0 : Heap) (nq : Int) (x y z : AV) (L : List (List UInt8)) (a : AR) (w : AV) (own1 own2 : List AObj) (Ha Hb Hb2 Hc : Heap) : Prop where
 eq : a.q = nq
 ha : H0.plus [.cells 0 3 [G nq,x,y]] = Ha
 e24 : J 24 [.agg [G nq,x,y]] Ha = some (.agg [G a.q,a.x,a.y],own1,false)
 hb : Ha.plus own1 = Hb
 e43 : J 43 [z] Hb = some (w,own2,false)
 hb2 : Hb.plus own2 = Hb2
 hc : Hb2.plus [.cells 0 3 [G a.q,a.x,a.y]] = Hc
 gS : Ha.get H0.size = .cells 0 3 [G nq,x,y]
 gc : Hc.get Hb2.size = .cells 0 3 [G a.q,a.x,a.y]
 o : OkR a Hc
 rw : RV Hc w (ss (fewL L))
theorem lawX (J : CallF) (k24 : K24 J) (k43 : K43 J) {H0 : Heap} {nq : Int} {x y z : AV} {X Y : List (List Int)} {L : List (List UInt8)} (mx : MR H0 x X) (my : MR H0 y Y) (mz : EL H0 z (ss L)) : ∃ a w own1 own2 Ha Hb Hb2 Hc,LawX J H0 nq x y z L a w own1 own2 Ha Hb Hb2 Hc:=by
 have k1 : Kp (fun _ => False) H0 (H0.plus [.cells 0 3 [G nq,x,y]]):=Kp.plus _ _
 obtain ⟨x',y',own,e,t1,t2⟩:=k24 (H0.plus [.cells 0 3 [G nq,x,y]]) ⟨nq,x,y,X,Y⟩ ⟨mx.kp k1,my.kp k1⟩
 have k1b : Kp (fun _ => False) (H0.plus [.cells 0 3 [G nq,x,y]]) ((H0.plus [.cells 0 3 [G nq,x,y]]).plus own):=Kp.plus _ _
 have mz1 : EL ((H0.plus [.cells 0 3 [G nq,x,y]]).plus own) z (ss L):=by
  rcases mz with h | ⟨b,v,e,g⟩
  ·exact .inl h
  ·exact .inr ⟨b,v,e,(k1.trans k1b).at g (by simp) id⟩
 obtain ⟨w,own2,e2,rv⟩:=k43 _ z L mz1
 have k2 : Kp (fun _ => False) ((H0.plus [.cells 0 3 [G nq,x,y]]).plus own) (((H0.plus [.cells 0 3 [G nq,x,y]]).plus own).plus own2):=Kp.plus _ _
 have k3 : Kp (fun _ => False) (((H0.plus [.cells 0 3 [G nq,x,y]]).plus own).plus own2) ((((H0.plus [.cells 0 3 [G nq,x,y]]).plus own).plus own2).plus [.cells 0 3 [G nq,x',y']]):=Kp.plus _ _
 have u1:=t1.kp (k2.trans k3)
 have u2:=t2.kp (k2.trans k3)
 exact ⟨⟨nq,x',y',cutM X,cutM Y⟩,w,own,own2,_,_,_,_,rfl,rfl,e,rfl,e2,rfl,rfl,plus_at0 _ _ _ _ rfl,plus_at0 _ _ _ _ rfl,⟨u1.mr,u2.mr,cutM_small _,cutM_small _⟩,rv.kp k3 (fun _ _ => id)⟩
structure KnX (J : CallF) : Prop where
 k24 : K24 J
 k27 : KR 27 J
 k33 : K33 J
 k39 : K39g J
 k43 : K43 J
 k44 : K44 J
 k45 : K45 J
 k46 : K46g J
 k47 : K47 J
 k23 : ∀ h,J 23 [] h = some (.bool true,[],false)
section
variable {nq : Int} {X Y : List (List Int)} {L : List (List UInt8)}
set_option maxHeartbeats 2000000 in
theorem c9_ok (J : CallF) (K : KnX J) (hJ : ∀ a h,J 9 a h = none) (h : Heap) {x y z : AV} (mx : MR h x X) (my : MR h y Y) (mz : EL h z (ss L)) : CallsTo tbl J 9 [.agg [G nq,x,y],z] h (.bool true,[],false):=by
 refine Tr.fnv (cf:=c9) (e:=.ret) (s:=T.set (T.set .leaf [] (.agg [G nq,x,y])) [false] z) (by decide) rfl (hJ _ _) rfl rfl rfl (by simp) ?_
 refine Tr.post (Q:=(fun s h => s.get [true,false] = .bool true)) (fun s h q => by simp [c9,q]) ?_
 obtain ⟨a,w,own1,own2,Ha,Hb,Hb2,Hc,eq,ha,e24,hb,e43,hb2,hc,gS,gc,o,rv⟩:=lawX (nq:=nq) J K.k24 K.k43 (mx.lo (h:=h) []) (my.lo (h:=h) []) (mz.lo (h:=h) [])
 rw [show (⟨h.get,h.size,[]⟩ : Heap) = frameOf h from rfl] at ha gS
 have l41:=fewL_len L
 have s7 : ∀ s ∈ fewL L,s.length ≤ 7:=fun s hs => fewL_short hs
 have e27:=K.k27 Hc a o
 have e44:=K.k44 Hc ⟨a,w,fewL L⟩ ⟨o,rv.el,by show (fewL L).length ≤ _; omega,fun s hs => by have:=s7 s hs; omega⟩
 have e45:=K.k45 Hc ⟨a,w,fewL L⟩ ⟨o,rv.el,by show (fewL L).length ≤ _; omega,fun s hs => by have:=s7 s hs; omega⟩
 simp only at e44 e45
 obtain ⟨v44,own44,e44,rfl,p1,p2,p3⟩:=e44
 obtain ⟨v45,own45,e45,rfl,r1,r2⟩:=e45
 have k23:=K.k23
 have er : ruQ a.q a.B a.W = a.ru:=rfl
 rw [er] at e27
 have va : a.v = .agg [G a.q,a.x,a.y]:=rfl
 cases r : a.ru
 ·obtain rfl:=p1 (by rw [r]; rfl)
  obtain rfl:=r1 (by rw [r]; rfl)
  rw [r] at e27
  rw [va] at e44 e45
  clear K mx my mz o rv p1 p2 p3 r1 r2 s7 er va
  generalize frameOf h = H0 at *
  refine Tr.w fun s1 H1 hp _ kR => ?_
  obtain ⟨rfl,rfl⟩:=hp
  have q : True:=trivial
  refine zCh ?_
  simp (disch:=first|omega|exact zE rfl|exact zO|exact zL rfl) [c9_o0,zG,q,ha]
  refine zCh ?_
  simp (disch:=first|omega|exact zE rfl|exact zO|exact zL rfl) [c9_o1,zG,q,gS,e24,e43,app_if,app_if',hb,hb2,hc]
  refine zCh ?_
  simp (disch:=first|omega|exact zE rfl|exact zO|exact zL rfl) [c9_o2,zG,q,gc,e44]
  refine zCh ?_
  simp (disch:=first|omega|exact zE rfl|exact zO|exact zL rfl) [c9_o3,zG,q,gc,e45]
  refine W.assoc ?_
  refine zCh ?_
  simp (disch:=first|omega|exact zE rfl|exact zO|exact zL rfl) [c9_o4,zG,q,gc,e27]
  refine zCh ?_
  simp (disch:=first|omega|exact zE rfl|exact zO|exact zL rfl) [c9_o5,zG,q,k23]
  exact kR _ _ (by simp [T.get])
 ·rw [r] at e27
  have q3:=a.q3 r
  have qn : ((a.q.toNat : Nat) : Int) = a.q:=by omega
  have e39:=K.k39 Hc a.q.toNat a.x a.y w (fewL L) (by omega) rv (by omega) (fun s hs => by have:=s7 s hs; omega)
  rw [qn] at e39
  cases i : isS a.q.toNat (fewL L)
  ·obtain rfl:=p1 (by rw [r,i]; rfl)
   obtain rfl:=r1 (by rw [r,i]; rfl)
   rw [i] at e39
   rw [va] at e44 e45
   clear K mx my mz o rv p1 p2 p3 r1 r2 s7 er va i
   generalize frameOf h = H0 at *
   refine Tr.w fun s1 H1 hp _ kR => ?_
   obtain ⟨rfl,rfl⟩:=hp
   have q : True:=trivial
   refine zCh ?_
   simp (disch:=first|omega|exact zE rfl|exact zO|exact zL rfl) [c9_o0,zG,q,ha]
   refine zCh ?_
   simp (disch:=first|omega|exact zE rfl|exact zO|exact zL rfl) [c9_o1,zG,q,gS,e24,e43,app_if,app_if',hb,hb2,hc]
   refine zCh ?_
   simp (disch:=first|omega|exact zE rfl|exact zO|exact zL rfl) [c9_o2,zG,q,gc,e44]
   refine zCh ?_
   simp (disch:=first|omega|exact zE rfl|exact zO|exact zL rfl) [c9_o3,zG,q,gc,e45]
   refine W.assoc ?_
   refine zCh ?_
   simp (disch:=first|omega|exact zE rfl|exact zO|exact zL rfl) [c9_o4,zG,q,gc,e27,e39]
   refine zCh ?_
   simp (disch:=first|omega|exact zE rfl|exact zO|exact zL rfl) [c9_o5,zG,q,k23]
   exact kR _ _ (by simp [T.get])
  ·rw [i] at e39
   obtain ⟨m,R,eR,hw,m1,m5,n1,n40,hm⟩:=isS_words (by omega) i
   have hwc : ∀ w ∈ R,∀ c ∈ w,c < a.q.toNat:=fun w hw' => (hw w hw').2
   have b1 : (a.ru && isS a.q.toNat (fewL L)) = true:=by rw [r,i]; rfl
   obtain rfl:=r2 b1 R eR hwc
   have lR : (fewL L).length = R.length:=by rw [eR,List.length_map]
   have p2:=p2 b1
   have p3:=p3 b1
   rw [hm,lR] at p2 p3
   have ws : WS a.g m R:=⟨hw,by omega,by omega⟩
   rw [eR,← ws_ss] at rv
   have sw:=rv.sl
   rw [wsL_len] at sw
   obtain ⟨bw,vw,rfl⟩:=sw.resolve_left (fun e => by omega)
   have gw : Hc.get bw = .cells 1 vw (wsL R):=by
    rcases rv with ⟨e,_⟩ | ⟨b',v',e,g⟩
    ·cases e
    ·rw [AV.slice.injEq] at e
     obtain ⟨rfl,_,_,rfl⟩:=e
     exact g
   have e46:=K.k46 Hc a.g m R bw vw (o.g r) ws gw
   rw [a.gv r] at e46
   have rm : a.rm (m : Nat) = true:=by
    unfold AR.rm
    rw [r,decide_eq_true (by omega)]; rfl
   have gd : a.gd (m : Nat) (R.length : Nat) 0 = true:=by
    unfold AR.gd
    rw [rm,decide_eq_true (by omega)]; rfl
   have e33:=K.k33 Hc a (m : Nat) (R.length : Nat) o gd
   have c33 : a.rcV (m : Nat) (R.length : Nat) = if okC (a.steps (m : Nat)) R.length then .tup [G (a.cn (m : Nat) R.length),.bool true] else .tup [G 0,.bool false]:=rfl
   rw [c33] at e33
   have w0:=wsL_at (R:=R) (i:=0) (by omega)
   have w0':=getI w0
   have lw:=wsL_len R
   have lw0 : (stW (R.getD 0 [])).length = m:=by
    rw [stW_len]
    exact (ws.at (by omega)).1
   cases hc' : okC (a.steps (m : Nat)) R.length
   ·obtain rfl:=p2 hc'
    rw [hc',if_neg (by simp)] at e33
    rw [va] at e44 e45 e46 e33
    clear K mx my mz o rv p1 p2 p3 r1 r2 s7 er va i ws hw hwc gd rm c33 hm lR eR b1 q3 qn l41
    generalize kpS a.g R = kp at *
    generalize stW (R.getD 0 []) = u0 at *
    generalize wsL R = ws at *
    generalize R.length = n at *
    generalize frameOf h = H0 at *
    refine Tr.w fun s1 H1 hp _ kR => ?_
    obtain ⟨rfl,rfl⟩:=hp
    have q : True:=trivial
    refine zCh ?_
    simp (disch:=first|omega|exact zE rfl|exact zO|exact zL rfl) [c9_o0,zG,q,ha]
    refine zCh ?_
    simp (disch:=first|omega|exact zE rfl|exact zO|exact zL rfl) [c9_o1,zG,q,gS,e24,e43,app_if,app_if',hb,hb2,hc]
    refine zCh ?_
    simp (disch:=first|omega|exact zE rfl|exact zO|exact zL rfl) [c9_o2,zG,q,gc,e44]
    refine zCh ?_
    simp (disch:=first|omega|exact zE rfl|exact zO|exact zL rfl) [c9_o3,zG,q,gc,e45]
    refine W.assoc ?_
    refine zCh ?_
    simp (disch:=first|omega|exact zE rfl|exact zO|exact zL rfl) [c9_o4,zG,q,gc,e27,e39]
    refine zCh ?_
    simp (disch:=first|omega|exact zE rfl|exact zO|exact zL rfl) [c9_o5,zG,q]
    refine W.assoc ?_
    refine zCh ?_
    simp (disch:=first|omega|exact zE rfl|exact zO|exact zL rfl) [c9_o6,zG,q,gc,e46]
    refine zCh ?_
    simp (disch:=first|omega|exact zE rfl|exact zO|exact zL rfl) [c9_o7,zG,q]
    refine W.assoc ?_
    refine zCh ?_
    simp (disch:=first|omega|exact zE rfl|exact zO|exact zL rfl) [-evDraw_c,c9_o8,zG,q,evDraw_0,gc,gw,w0,w0',lw,lw0,e33]
    refine W.assoc ?_
    refine zCh ?_
    simp (disch:=first|omega|exact zE rfl|exact zO|exact zL rfl) [c9_o9,zG,q]
    refine zCh ?_
    simp (disch:=first|omega|exact zE rfl|exact zO|exact zL rfl) [c9_o10,zG,q,k23]
    exact kR _ _ (by simp [T.get])
   ·rw [hc',if_pos rfl] at e33
    have p3:=p3 hc' R eR hwc
    cases hk : kpS a.g R
    ·obtain rfl:=p3.1 hk
     rw [hk] at e45 e46
     rw [va] at e44 e45 e46 e33
     clear K mx my mz o rv p1 p2 p3 r1 r2 s7 er va i ws hw hwc gd rm c33 hm lR eR b1 q3 qn l41
     generalize a.cn (m : Nat) R.length = cn at *
     generalize stW (R.getD 0 []) = u0 at *
     generalize wsL R = ws at *
     generalize R.length = n at *
     generalize frameOf h = H0 at *
     refine Tr.w fun s1 H1 hp _ kR => ?_
     obtain ⟨rfl,rfl⟩:=hp
     have q : True:=trivial
     refine zCh ?_
     simp (disch:=first|omega|exact zE rfl|exact zO|exact zL rfl) [c9_o0,zG,q,ha]
     refine zCh ?_
     simp (disch:=first|omega|exact zE rfl|exact zO|exact zL rfl) [c9_o1,zG,q,gS,e24,e43,app_if,app_if',hb,hb2,hc]
     refine zCh ?_
     simp (disch:=first|omega|exact zE rfl|exact zO|exact zL rfl) [c9_o2,zG,q,gc,e44]
     refine zCh ?_
     simp (disch:=first|omega|exact zE rfl|exact zO|exact zL rfl) [c9_o3,zG,q,gc,e45]
     refine W.assoc ?_
     refine zCh ?_
     simp (disch:=first|omega|exact zE rfl|exact zO|exact zL rfl) [c9_o4,zG,q,gc,e27,e39]
     refine zCh ?_
     simp (disch:=first|omega|exact zE rfl|exact zO|exact zL rfl) [c9_o5,zG,q]
     refine W.assoc ?_
     refine zCh ?_
     simp (disch:=first|omega|exact zE rfl|exact zO|exact zL rfl) [c9_o6,zG,q,gc,e46]
     refine zCh ?_
     simp (disch:=first|omega|exact zE rfl|exact zO|exact zL rfl) [c9_o7,zG,q]
     refine W.assoc ?_
     refine zCh ?_
     simp (disch:=first|omega|exact zE rfl|exact zO|exact zL rfl) [-evDraw_c,c9_o8,zG,q,evDraw_0,gc,gw,w0,w0',lw,lw0,e33]
     refine W.assoc ?_
     refine zCh ?_
     simp (disch:=first|omega|exact zE rfl|exact zO|exact zL rfl) [c9_o9,zG,q]
     refine zCh ?_
     simp (disch:=first|omega|exact zE rfl|exact zO|exact zL rfl) [c9_o10,zG,q]
     refine W.assoc ?_
     refine zCh ?_
     simp (disch:=first|omega|exact zE rfl|exact zO|exact zL rfl) [c9_o11,zG,q]
     refine zCh ?_
     simp (disch:=first|omega|exact zE rfl|exact zO|exact zL rfl) [c9_o12,zG,q,k23]
     exact kR _ _ (by simp [T.get])
    ·obtain ⟨P,eP,vc⟩:=pos_ex ws hk
     have hrows : rwL a.g.q a.g.B m = a.rows (m : Nat):=by
      unfold AR.rows AR.g
      rw [Int.toNat_natCast]
     have hsteps : stL a.g.W (a.rows (m : Nat)) = a.steps (m : Nat):=rfl
     rw [hrows] at eP vc
     rw [hsteps] at vc
     obtain rfl:=p3.2 P hk eP vc
     have lP : R.length = P.length:=by rw [eP,rT2_len]
     have e47:=K.k47 Hc ⟨a,m,P,bw,vw⟩ ⟨o,rm,by rw [← lP]; exact hc',vc,by show 1 ≤ P.length; omega,by show P.length ≤ 40; omega,by rw [← eP]; exact gw⟩
     simp only at e47
     rw [← lP] at e47
     rw [hk] at e45 e46
     rw [va] at e44 e45 e46 e33 e47
     clear K mx my mz o rv p1 p2 p3 r1 r2 s7 er va i ws hw hwc gd rm c33 hm lR eR b1 q3 qn l41 eP lP vc hrows hsteps
     generalize ix (a.steps (m : Nat)) (-1) P = out at *
     generalize a.cn (m : Nat) R.length = cn at *
     generalize stW (R.getD 0 []) = u0 at *
     generalize wsL R = ws at *
     generalize R.length = n at *
     generalize frameOf h = H0 at *
     refine Tr.w fun s1 H1 hp _ kR => ?_
     obtain ⟨rfl,rfl⟩:=hp
     have q : True:=trivial
     refine zCh ?_
     simp (disch:=first|omega|exact zE rfl|exact zO|exact zL rfl) [c9_o0,zG,q,ha]
     refine zCh ?_
     simp (disch:=first|omega|exact zE rfl|exact zO|exact zL rfl) [c9_o1,zG,q,gS,e24,e43,app_if,app_if',hb,hb2,hc]
     refine zCh ?_
     simp (disch:=first|omega|exact zE rfl|exact zO|exact zL rfl) [c9_o2,zG,q,gc,e44]
     refine zCh ?_
     simp (disch:=first|omega|exact zE rfl|exact zO|exact zL rfl) [c9_o3,zG,q,gc,e45]
     refine W.assoc ?_
     refine zCh ?_
     simp (disch:=first|omega|exact zE rfl|exact zO|exact zL rfl) [c9_o4,zG,q,gc,e27,e39]
     refine zCh ?_
     simp (disch:=first|omega|exact zE rfl|exact zO|exact zL rfl) [c9_o5,zG,q]
     refine W.assoc ?_
     refine zCh ?_
     simp (disch:=first|omega|exact zE rfl|exact zO|exact zL rfl) [c9_o6,zG,q,gc,e46]
     refine zCh ?_
     simp (disch:=first|omega|exact zE rfl|exact zO|exact zL rfl) [c9_o7,zG,q]
     refine W.assoc ?_
     refine zCh ?_
     simp (disch:=first|omega|exact zE rfl|exact zO|exact zL rfl) [-evDraw_c,c9_o8,zG,q,evDraw_0,gc,gw,w0,w0',lw,lw0,e33]
     refine W.assoc ?_
     refine zCh ?_
     simp (disch:=first|omega|exact zE rfl|exact zO|exact zL rfl) [c9_o9,zG,q]
     refine zCh ?_
     simp (disch:=first|omega|exact zE rfl|exact zO|exact zL rfl) [c9_o10,zG,q]
     refine W.assoc ?_
     refine zCh ?_
     simp (disch:=first|omega|exact zE rfl|exact zO|exact zL rfl) [c9_o11,zG,q]
     refine zCh ?_
     simp (disch:=first|omega|exact zE rfl|exact zO|exact zL rfl) [c9_o12,zG,q]
     refine zCh ?_
     simp (disch:=first|omega|exact zE rfl|exact zO|exact zL rfl) [c9_o13,zG,q,gc,e47,k23]
     refine W.ret ?_
     try simp only [zW,if_true]
     exact kR _ _ (by simp [T.get])
end
theorem kX81 : KnX T81 where
 k24:=fun h a o => by
  obtain ⟨x,y,own,e,l⟩:=k24 h a o
  exact ⟨x,y,own,by rw [show T81 24 [.agg [G a.q,a.x,a.y]] h = T31 24 [.agg [G a.q,a.x,a.y]] h from by simp (disch:=decide) only [T32,T33,T34,T35,T36,T37,T38,T39,T40,T41,T42,T43,T44,T45,T46,T47,T48,T49,T50,T51,T52,T53,T54,T55,T56,T57,T58,T59,T60,T61,T62,T63,T64,T65,T66,T67,T68,T69,T70,T71,T72,T73,T74,T75,T76,T77,T78,T79,T80,T81,addI_ne,addX_ne,addV_ne,addK_ne,addC_ne]]; exact e,l⟩
 k27:=fun h a o => by
  rw [show T81 27 [.agg [G a.q,a.x,a.y]] h = T12 27 [.agg [G a.q,a.x,a.y]] h from by simp (disch:=decide) only [T13,T14,T15,T16,T17,T18,T19,T20,T21,T22,T23,T24,T25,T26,T27,T28,T29,T30,T31,T32,T33,T34,T35,T36,T37,T38,T39,T40,T41,T42,T43,T44,T45,T46,T47,T48,T49,T50,T51,T52,T53,T54,T55,T56,T57,T58,T59,T60,T61,T62,T63,T64,T65,T66,T67,T68,T69,T70,T71,T72,T73,T74,T75,T76,T77,T78,T79,T80,T81,addI_ne,addX_ne,addV_ne,addK_ne,addC_ne]]; exact k27 h a o
 k33:=fun h a m n o g => by
  rw [show T81 33 [a.v,G m,G n] h = T41 33 [a.v,G m,G n] h from by simp (disch:=decide) only [T42,T43,T44,T45,T46,T47,T48,T49,T50,T51,T52,T53,T54,T55,T56,T57,T58,T59,T60,T61,T62,T63,T64,T65,T66,T67,T68,T69,T70,T71,T72,T73,T74,T75,T76,T77,T78,T79,T80,T81,addI_ne,addX_ne,addV_ne,addK_ne,addC_ne]]; exact k33 h a m n o g
 k39:=fun h qq x y z L h1 h2 h3 h4 => by
  rw [show T81 39 [.agg [G qq,x,y],z] h = T80 39 [.agg [G qq,x,y],z] h from by simp (disch:=decide) only [T81,addI_ne,addX_ne,addV_ne,addK_ne,addC_ne]]; exact k39g h qq x y z L h1 h2 h3 h4
 k43:=fun h x L o => by
  obtain ⟨v,own,e,l⟩:=k43 h x L o
  exact ⟨v,own,by rw [show T81 43 [x] h = T78 43 [x] h from by simp (disch:=decide) only [T79,T80,T81,addI_ne,addX_ne,addV_ne,addK_ne,addC_ne]]; exact e,l⟩
 k44:=fun h b o => by
  obtain ⟨v,own,e,l⟩:=k44 h b o
  exact ⟨v,own,by rw [show T81 44 [b.a.v,b.x] h = T70 44 [b.a.v,b.x] h from by simp (disch:=decide) only [T71,T72,T73,T74,T75,T76,T77,T78,T79,T80,T81,addI_ne,addX_ne,addV_ne,addK_ne,addC_ne]]; exact e,l⟩
 k45:=fun h b o => by
  obtain ⟨v,own,e,l⟩:=k45 h b o
  exact ⟨v,own,by rw [show T81 45 [b.a.v,b.x] h = T69 45 [b.a.v,b.x] h from by simp (disch:=decide) only [T70,T71,T72,T73,T74,T75,T76,T77,T78,T79,T80,T81,addI_ne,addX_ne,addV_ne,addK_ne,addC_ne]]; exact e,l⟩
 k46:=fun h a m R b v o k g => by
  rw [show T81 46 [a.v,.slice b 0 R.length v] h = T79 46 [a.v,.slice b 0 R.length v] h from by simp (disch:=decide) only [T80,T81,addI_ne,addX_ne,addV_ne,addK_ne,addC_ne]]; exact k46g h a m R b v o k g
 k47:=k47
 k23:=fun h => by
  rw [show T81 23 [] h = T2 23 [] h from by simp (disch:=decide) only [T3,T4,T5,T6,T7,T8,T9,T10,T11,T12,T13,T14,T15,T16,T17,T18,T19,T20,T21,T22,T23,T24,T25,T26,T27,T28,T29,T30,T31,T32,T33,T34,T35,T36,T37,T38,T39,T40,T41,T42,T43,T44,T45,T46,T47,T48,T49,T50,T51,T52,T53,T54,T55,T56,T57,T58,T59,T60,T61,T62,T63,T64,T65,T66,T67,T68,T69,T70,T71,T72,T73,T74,T75,T76,T77,T78,T79,T80,T81,addI_ne,addX_ne,addV_ne,addK_ne,addC_ne]]; exact k23 h
theorem stripIndexes_ok (h : Heap) {nq : Int} {x y z : AV} {B W : List (List Int)} {L : List (List UInt8)} (mx : MR h x B) (my : MR h y W) (mz : EL h z (ss L)) : CallsTo tbl T81 9 [.agg [G nq,x,y],z] h (.bool true,[],false):=c9_ok T81 kX81 (fun _ _ => by simp (disch:=decide) only [T1,T2,T3,T4,T5,T6,T7,T8,T9,T10,T11,T12,T13,T14,T15,T16,T17,T18,T19,T20,T21,T22,T23,T24,T25,T26,T27,T28,T29,T30,T31,T32,T33,T34,T35,T36,T37,T38,T39,T40,T41,T42,T43,T44,T45,T46,T47,T48,T49,T50,T51,T52,T53,T54,T55,T56,T57,T58,T59,T60,T61,T62,T63,T64,T65,T66,T67,T68,T69,T70,T71,T72,T73,T74,T75,T76,T77,T78,T79,T80,T81,addI_ne,addX_ne,addV_ne,addK_ne,addC_ne]; rfl) h mx my mz
end Go.Proofs.Ytljgfdamdcikgaa.Ev
set_option linter.unusedVariables false
set_option linter.unusedSimpArgs false
namespace Go.AEv
open Go.ChangeShapes Go.WideShapes Go.Proofs.Ytljgfdamdcikgaa.Ev
theorem MR.ext {h h' : Heap} (e : Ext h h') {y : AV} {M : List (List Int)} (m : MR h y M) : MR h' y M:=by
 rcases m with m | ⟨b,v,cs,rfl,g,hl,hr⟩
 ·exact .inl m
 ·refine .inr ⟨b,v,cs,rfl,e _ _ g (by simp),hl,fun i r q => ?_⟩
  obtain ⟨l,h1,h2⟩:=hr i r q
  exact ⟨l,h1,LR.ext e h2⟩
theorem rows_lo {CK : CKT} {w : World} {H : Type} {enc : TypeId × Value → H} {P : Program} {e i : TypeId} (he : P.underlying e = some (.slice i)) (hi : P.underlying i = some (.int .i64)) (hc : P.cellsOf i = 1) :
  ∀ (vs : List Value) {φ : Nat → Emb} {h : Heap} (ho : h.own = []) (hr : HR CK w [] φ h w),(∀ u ∈ vs,∃ fuel z,DataW.trod enc P w 0 (fun _ => true) true fuel e [u] = some z) →
  ∃ φ' h',∃ (rs : List AV) (ls : List (List Int)),h'.own = [] ∧ HR CK w [] φ' h' w ∧ Stp φ h φ' h' ∧ Ext h h' ∧ rs.length = vs.length ∧ ls.length = vs.length ∧ ∀ (j : Nat) u r,vs[j]? = some u → rs[j]? = some r → VR φ' h' r u ∧ Value.oneCell' u = true ∧ ∃ l,ls[j]? = some l ∧ LR h' r l
 | [],φ,h,ho,hr,_ => ⟨φ,h,[],[],ho,hr,Stp.refl φ h,Ext.refl h,rfl,rfl,fun j u r q => by simp at q⟩
 | u :: us,φ,h,ho,hr,ht => by
  obtain ⟨fuel,z,hf⟩:=ht u (by simp)
  obtain ⟨φ1,h1,x,l,o1,r1,s1,e1,v1,p1,c1⟩:=ints_lo0 ho hr he hi hc hf
  obtain ⟨φ2,h2,rs,ls,o2,r2,s2,e2,l1,l2,q⟩:=rows_lo he hi hc us o1 r1 (fun u' hu => ht u' (by simp [hu]))
  refine ⟨φ2,h2,x :: rs,l :: ls,o2,r2,s1.trans s2,e1.trans e2,by simp [l1],by simp [l2],fun j u' r hu hr' => ?_⟩
  cases j with
  | zero =>
   simp only [List.getElem?_cons_zero,Option.some.injEq] at hu hr'
   subst hu hr'
   exact ⟨VR.step s2 _ _ v1,c1,l,rfl,p1.ext e2⟩
  | succ j =>
   simp only [List.getElem?_cons_succ] at hu hr' ⊢
   exact q j u' r hu hr'
theorem mat_lo0 {CK : CKT} {φ : Nat → Emb} {h : Heap} {w : World} (ho : h.own = []) (hr : HR CK w [] φ h w) {H : Type} {enc : TypeId × Value → H} {P : Program} {t e i : TypeId} {v : Value} {fuel : Nat} {z : DataW H × List MemPlace}
  (ht : P.underlying t = some (.slice e)) (he : P.underlying e = some (.slice i)) (hi : P.underlying i = some (.int .i64)) (hce : P.cellsOf e = 1) (hci : P.cellsOf i = 1) (hf : DataW.trod enc P w 0 (fun _ => true) true fuel t [v] = some z) :
  ∃ φ' h' x M,h'.own = [] ∧ HR CK w [] φ' h' w ∧ Stp φ h φ' h' ∧ Ext h h' ∧ VR φ' h' x v ∧ MR h' x M ∧ Value.oneCell' v = true:=by
 rcases DataW.trod_slice ht hf with ⟨hcs,_⟩ | ⟨a,len,cap,elems,rest,n,_,hcs,_,_,hl,hm,hlen,hel,hsp,_⟩
 ·have hcs' : v = .slice none 0 0:=(List.cons.inj hcs).1
  rw [hcs']
  exact ⟨φ,h,.nils,[],ho,hr,Stp.refl φ h,Ext.refl h,by simp [VR],.inl ⟨.inl rfl,rfl⟩,rfl⟩
 ·have hcs' : v = .slice (some a) len cap:=(List.cons.inj hcs).1
  rw [hcs']
  by_cases h0 : len = 0
  ·subst h0
   exact ⟨φ,h,.slice0,[],ho,hr,Stp.refl φ h,Ext.refl h,by simp [VR],.inl ⟨.inr rfl,rfl⟩,rfl⟩
  ·obtain ⟨hrl,hre⟩:=hsp rfl
   have each : ∀ j,j < cap → ∃ u,w.cell? (a.add j) = some u ∧ ∃ z,DataW.trod enc P w 0 (fun _ => true) true n e [u] = some z:=fun j hj => by
    have hb' : ∃ y,(w.cells? 0 (a.add (j * P.cellsOf e)) (P.cellsOf e)).bind (DataW.trod enc P w 0 (fun _ => true) true n e) = some y:=by
     by_cases hjl : j < len
     ·rw [hel j hjl,List.getElem?_eq_getElem (by omega)]; exact ⟨_,rfl⟩
     ·have:=hre (j - len) (by omega)
      rw [show len + (j - len) = j by omega] at this
      rw [this,List.getElem?_eq_getElem (by omega)]; exact ⟨_,rfl⟩
    obtain ⟨y,hy⟩:=hb'
    rw [hce,Nat.mul_one,Option.bind_eq_some_iff] at hy
    obtain ⟨cs',h1,h2⟩:=hy
    have hl1:=(World.cells?_some h1).2.1
    obtain ⟨u,rfl⟩ : ∃ u,cs' = [u]:=by
     cases cs' with
     | nil => simp at hl1
     | cons u r => cases r with
      | nil => exact ⟨u,rfl⟩
      | cons u' r => simp at hl1
    exact ⟨u,cell_of_cells?_one h1,y,h2⟩
   obtain ⟨f,hfe⟩ : ∃ f : Nat → Value,∀ j,j < cap → w.cell? (a.add j) = some (f j) ∧ ∃ z,DataW.trod enc P w 0 (fun _ => true) true n e [f j] = some z :=
    ⟨fun j => if hj : j < cap then Classical.choose (each j hj) else .nilFunc,fun j hj => by
     simp only [dif_pos hj]
     exact Classical.choose_spec (each j hj)⟩
   obtain ⟨b,off,spot⟩:=a
   have hspot : spot = none:=by simpa [Addr.add] using World.cell?_spot (hfe 0 (by omega)).1
   subst hspot
   have hcell : ∀ j,j < cap → w.cell? ⟨b,off + j,none⟩ = some (f j):=fun j hj => by rw [← Go.WideShapes.add_plain]; exact (hfe j hj).1
   obtain ⟨c,ty,fr,hb,hc0⟩:=cell_obj (hcell 0 (by omega))
   have hcj : ∀ j,j < cap → c[off + j]? = some (f j):=fun j hj => by
    obtain ⟨c',ty',fr',hb',hcj⟩:=cell_obj (hcell j hj)
    rw [hb] at hb'
    simp only [Option.some.injEq,Obj.cells.injEq] at hb'
    obtain ⟨rfl,_⟩:=hb'
    exact hcj
   have hsize : off + cap ≤ c.size:=by
    have:=(Array.getElem?_eq_some_iff.1 (hcj (cap - 1) (by omega))).1
    omega
   obtain ⟨φ1,h1,rs,ls,o1,r1,s1,e1,l1,l2,q⟩:=rows_lo he hi hci ((List.range len).map f) ho hr (fun u hu => by
    obtain ⟨j,hj,rfl⟩:=List.mem_map.1 hu
    obtain ⟨z,hz⟩:=(hfe j (by have:=List.mem_range.1 hj; omega)).2
    exact ⟨n,z,hz⟩)
   simp only [List.length_map,List.length_range] at l1 l2
   have hat : ∀ j,j < len → ((List.range len).map f)[j]? = some (f j):=fun j hj => by simp [hj]
   refine ⟨AEv.upd φ1 h1.N ⟨b,off,cap⟩,h1.more (.cells 1 len rs),.slice h1.N 0 len len,ls,rfl,lo_add o1 r1 _ _ ?_,s1.trans (lo_stp o1 _ _),e1.trans (more_ext h1 o1 _),?_,.inr ⟨h1.N,len,rs,by rw [l2],more_at _ _,by omega,fun j r hr' => ?_⟩,rfl⟩
   ·refine ⟨c,ty,fr,hb,hsize,by show rs.length ≤ cap; omega,fun j x hx => ?_⟩
    have hj : j < len:=by have:=(List.getElem?_eq_some_iff.1 hx).1; omega
    obtain ⟨q1,q2,_⟩:=q j (f j) x (hat j hj) hx
    exact ⟨f j,hcj j (by omega),VR.step (lo_stp o1 _ _) _ _ q1,q2⟩
   ·simp only [VR]
    exact ⟨_,cap,1,len,_,rfl,hl,more_at _ _,Nat.le_refl _,fun _ => ⟨by simp [AEv.upd],fun _ _ => by simp [AEv.upd]⟩⟩
   ·have hj : j < len:=by have:=(List.getElem?_eq_some_iff.1 hr').1; omega
    obtain ⟨_,_,l,q3,q4⟩:=q j (f j) r (hat j hj) hr'
    exact ⟨l,q3,q4.ext (more_ext h1 o1 _)⟩
structure RuleKey (P : Program) (k i t : TypeId) (f g l : Field) : Prop where
 hu : P.underlying k = some (.struct #[f,g,l])
 size : P.cellsOf k = 3
 ci : P.cellsOf i = 1
 ct : P.cellsOf t = 1
 f1 : f.type = i
 f2 : g.type = t
 f3 : l.type = t
 o1 : f.offset = 0
 o2 : g.offset = 1
 o3 : l.offset = 2
theorem okWide_rule {P : Program} {W : World} {k i t : TypeId} {f g l : Field} (A : RuleKey P k i t f g l) {r : Reach} {b0 : Nat} {v : Value} (h : Value.okWide P W r b0 k v) : ∃ c0 c1 c2,v = .agg #[c0,c1,c2]:=by
 simp only [Value.okWide,A.hu] at h
 obtain ⟨cs,h1,h2,_⟩:=h
 rw [A.size] at h2
 obtain ⟨l⟩:=cs
 match l,h2 with
 | [c0,c1,c2],_ => exact ⟨c0,c1,c2,h1⟩
theorem rule_lo {CK : CKT} {φ : Nat → Emb} {h : Heap} {w : World} (ho : h.own = []) (hr : HR CK w [] φ h w) {H : Type} {enc : TypeId × Value → H} {P : Program} {k i t e : TypeId} {f g l : Field} {v : Value} {d : DataW H} {p : List MemPlace} (A : RuleKey P k i t f g l)
  (ht : P.underlying t = some (.slice e)) (he : P.underlying e = some (.slice i)) (hi : P.underlying i = some (.int .i64)) (hce : P.cellsOf e = 1) {r : Reach} {b0 : Nat} (hval : Value.okWide P w r b0 k v) (kd : DataW.Trod enc P w 0 (fun _ => true) true k v d p) :
  ∃ φ' h' q x y B W,h'.own = [] ∧ HR CK w [] φ' h' w ∧ Stp φ h φ' h' ∧ Ext h h' ∧ VR φ' h' (.agg [.int .i64 q,x,y]) v ∧ MR h' x B ∧ MR h' y W:=by
 obtain ⟨c0,c1,c2,rfl⟩:=okWide_rule A hval
 obtain ⟨fuel,hf⟩:=kd
 cases fuel with
 | zero => simp [DataW.trod] at hf
 | succ n =>
  rw [DataW.trod_step] at hf
  unfold DataW.trodStep at hf
  simp only [A.hu,Value.cells] at hf
  rw [if_pos (by rw [A.size]; rfl)] at hf
  simp only [Option.map_eq_some_iff] at hf
  obtain ⟨xs,hx,e1⟩:=hf
  rw [List.mapM_cons,List.mapM_cons,List.mapM_cons,List.mapM_nil] at hx
  simp only [bind,Option.bind_eq_some_iff,pure,Option.some.injEq,A.ci,A.ct,A.f1,A.f2,A.f3,A.o1,A.o2,A.o3] at hx
  obtain ⟨y0,h0,_,⟨y1,h1,_,⟨y2,h2,_,rfl,rfl⟩,rfl⟩,rfl⟩:=hx
  have h0' : DataW.trod enc P w 0 (fun _ => true) true n i [c0] = some y0:=h0
  have h1' : DataW.trod enc P w 0 (fun _ => true) true n t [c1] = some y1:=h1
  have h2' : DataW.trod enc P w 0 (fun _ => true) true n t [c2] = some y2:=h2
  obtain ⟨a,ea,_,_⟩:=DataW.trod_int hi h0'
  obtain rfl : c0 = .int .i64 a:=by simpa using ea
  obtain ⟨φ1,m1,x,B,o1,r1,s1,x1,v1,p1,q1⟩:=mat_lo0 ho hr ht he hi hce A.ci h1'
  obtain ⟨φ2,m2,y,W,o2,r2,s2,x2,v2,p2,q2⟩:=mat_lo0 o1 r1 ht he hi hce A.ci h2'
  refine ⟨φ2,m2,a,x,y,B,W,o2,r2,s1.trans s2,x1.trans x2,?_,Go.AEv.MR.ext x2 p1,p2⟩
  simp only [VR,VRs]
  refine ⟨#[.int .i64 a,c1,c2],rfl,⟨_,[c1,c2],rfl,rfl,c1,[c2],rfl,VR.step s2 _ _ v1,c2,[],rfl,v2,rfl⟩,fun z hz => ?_⟩
  simp only [List.mem_cons,List.not_mem_nil,or_false] at hz
  rcases hz with rfl | rfl | rfl
  ·rfl
  ·exact q1
  ·exact q2
end Go.AEv
set_option linter.unusedVariables false
set_option linter.unusedSimpArgs false
namespace Go.AEv
open Go.ChangeShapes Go.WideShapes Go.Proofs.Ytljgfdamdcikgaa.Ev
theorem _root_.Go.Proofs.Ytljgfdamdcikgaa.Ev.EL.ext {h h' : Heap} {y : AV} {L : List AV} (m : EL h y L) (e : Ext h h') : EL h' y L:=by
 rcases m with m | ⟨b,v,e1,g⟩
 ·exact .inl m
 ·exact .inr ⟨b,v,e1,e _ _ g (by simp)⟩
theorem strs_lo {CK : CKT} {φ : Nat → Emb} {h : Heap} {w : World} (ho : h.own = []) (hr : HR CK w [] φ h w) {H : Type} {enc : TypeId × Value → H} {P : Program} {t e : TypeId} {v : Value} {d : DataW H} {p : List MemPlace}
  (ht : P.underlying t = some (.slice e)) (he : P.underlying e = some .string) (hce : P.cellsOf e = 1) (hcs : ∃ a len cap,v = .slice a len cap) (k : DataW.Trod enc P w 0 (fun _ => true) true t v d p) :
  ∃ φ' h' x L,h'.own = [] ∧ HR CK w [] φ' h' w ∧ Stp φ h φ' h' ∧ Ext h h' ∧ VR φ' h' x v ∧ EL h' x (ss L):=by
 obtain ⟨a0,n0,c0,rfl⟩:=hcs
 obtain ⟨fuel,hf⟩:=k
 have hf : DataW.trod enc P w 0 (fun _ => true) true fuel t [.slice a0 n0 c0] = some (d,p):=hf
 rcases DataW.trod_slice ht hf with ⟨hcs,_⟩ | ⟨a,len,cap,elems,rest,n,_,hcs,_,_,hl,hm,hlen,hel,hsp,_⟩
 ·have hcs' : Value.slice a0 n0 c0 = .slice none 0 0:=(List.cons.inj hcs).1
  rw [hcs']
  exact ⟨φ,h,.nils,[],ho,hr,Stp.refl φ h,Ext.refl h,by simp [VR],.inl ⟨.inl rfl,rfl⟩⟩
 ·have hcs' : Value.slice a0 n0 c0 = .slice (some a) len cap:=(List.cons.inj hcs).1
  rw [hcs']
  by_cases h0 : len = 0
  ·subst h0
   exact ⟨φ,h,.slice0,[],ho,hr,Stp.refl φ h,Ext.refl h,by simp [VR],.inl ⟨.inr rfl,rfl⟩⟩
  ·obtain ⟨hrl,hre⟩:=hsp rfl
   have each : ∀ j,j < cap → ∃ s : List UInt8,w.cell? (a.add j) = some (.string ⟨s.toArray⟩):=fun j hj => by
    have hb' : ∃ y,(w.cells? 0 (a.add (j * P.cellsOf e)) (P.cellsOf e)).bind (DataW.trod enc P w 0 (fun _ => true) true n e) = some y:=by
     by_cases hjl : j < len
     ·rw [hel j hjl,List.getElem?_eq_getElem (by omega)]; exact ⟨_,rfl⟩
     ·have:=hre (j - len) (by omega)
      rw [show len + (j - len) = j by omega] at this
      rw [this,List.getElem?_eq_getElem (by omega)]; exact ⟨_,rfl⟩
    obtain ⟨y,hy⟩:=hb'
    rw [hce,Nat.mul_one,Option.bind_eq_some_iff] at hy
    obtain ⟨cs',h1,h2⟩:=hy
    obtain ⟨s,rfl,_⟩:=DataW.trod_string he h2
    exact ⟨s.data.toList,by rw [cell_of_cells?_one h1]⟩
   obtain ⟨f,hfe⟩ : ∃ f : Nat → List UInt8,∀ j,j < cap → w.cell? (a.add j) = some (.string ⟨(f j).toArray⟩) :=
    ⟨fun j => if hj : j < cap then Classical.choose (each j hj) else [],fun j hj => by
     simp only [dif_pos hj]
     exact Classical.choose_spec (each j hj)⟩
   obtain ⟨b,off,spot⟩:=a
   have hspot : spot = none:=by simpa [Addr.add] using World.cell?_spot (hfe 0 (by omega))
   subst hspot
   have hcell : ∀ j,j < cap → w.cell? ⟨b,off + j,none⟩ = some (.string ⟨(f j).toArray⟩):=fun j hj => by rw [← Go.WideShapes.add_plain]; exact hfe j hj
   obtain ⟨c,ty,fr,hb,hc0⟩:=cell_obj (hcell 0 (by omega))
   have hcj : ∀ j,j < cap → c[off + j]? = some (.string ⟨(f j).toArray⟩):=fun j hj => by
    obtain ⟨c',ty',fr',hb',hcj⟩:=cell_obj (hcell j hj)
    rw [hb] at hb'
    simp only [Option.some.injEq,Obj.cells.injEq] at hb'
    obtain ⟨rfl,_⟩:=hb'
    exact hcj
   have hsize : off + cap ≤ c.size:=by
    have:=(Array.getElem?_eq_some_iff.1 (hcj (cap - 1) (by omega))).1
    omega
   have l1 : (ss ((List.range len).map f)).length = len:=by simp
   refine ⟨AEv.upd φ h.N ⟨b,off,cap⟩,h.more (.cells 1 len (ss ((List.range len).map f))),.slice h.N 0 len len,(List.range len).map f,rfl,lo_add ho hr _ _ ?_,lo_stp ho _ _,more_ext h ho _,?_,.inr ⟨h.N,len,by rw [l1],more_at _ _⟩⟩
   ·refine ⟨c,ty,fr,hb,hsize,by rw [l1]; omega,fun j x hx => ?_⟩
    have hj : j < len:=by have:=(List.getElem?_eq_some_iff.1 hx).1; omega
    refine ⟨_,hcj j (by omega),?_,rfl⟩
    have : x = .str (f j):=by
     simp [hj] at hx
     exact hx.symm
    rw [this]
    simp [VR]
   ·simp only [VR]
    exact ⟨_,cap,1,len,_,rfl,hl,more_at _ _,Nat.le_refl _,fun _ => ⟨by simp [AEv.upd],fun _ _ => by simp [AEv.upd]⟩⟩
end Go.AEv
