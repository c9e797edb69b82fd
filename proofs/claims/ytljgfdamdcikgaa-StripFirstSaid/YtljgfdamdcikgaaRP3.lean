/-
  Of the functions that this law reaches,part 3: what they answer. No condition.
-/
import Derived.Test.YtljgfdamdcikgaaRP2
import Derived.Test.YtljgfdamdcikgaaEvW
import Derived.Test.YtljgfdamdcikgaaEvAny
import Derived.Test.YtljgfdamdcikgaaRP1
import Derived.WideKeyPair
import Derived.Test.YtljgfdamdcikgaaRP0
set_option linter.unusedVariables false
set_option linter.unusedSimpArgs false
namespace Go.Proofs.Ytljgfdamdcikgaa.Ev
open Go Go.AEv
attribute [local simp] evFunc initS evOps_c evTrim_c evSkip_c evExit_c evRet_c evSeq_c evCond_c evBlock_c evDraw_c runOps_n runOps_c exec_n exec_g pure1_c act AOpd.ev T.get T.set T.put evBin evUn forceT_eq forceV_eq forceL_eq evRess evRes one keep runFP_n runFP_c app_none AV.flats AV.flat came_some List.getElem?_cons_zero List.getElem?_cons_succ beqT wrapI idxI tdivI tmodI decT decF ibT ibF inT inF evScope_c if_pos if_neg Cm_some thenW_n thenW_e thenW_r blkW_n blkW_e blkW_r goI kn putAt AV.cells fillA loadA takeA mk Eff.isAll Eff.isNone Eff.commutes Eff.spares okPair apart eqAgg fits LK.fits allEq aveq eqk mmA
def okX (a : AR) (L : List (List UInt8)) (n : Int) : Bool:=a.ru && isS a.q.toNat L && decide ((L.length : Int) ≤ n ∧ n ≤ 40)
def extR (a : AR) (m : Nat) (D i : Nat) : List (List Nat):=rT2 (a.rows m) (ext (a.steps m) D i)
def Post48 (a : AR) (L : List (List UInt8)) (n : Int) (h : Heap) (v : AV) (own : List AObj) : Prop :=
  (okX a L n = false → v = .tup [.nils,G 2] ∧ own = []) ∧
  (okX a L n = true → ∀ R : List (List Nat),L = R.map stW → (∀ w ∈ R,∀ c ∈ w,c < a.q.toNat) → (kpS a.g R = false → v = .tup [.nils,G 6] ∧ own = []) ∧
    ∀ P : List Nat,kpS a.g R = true → R = rT2 (a.rows (L.getD 0 []).length) P → VC (a.steps (L.getD 0 []).length) (-1) P →
      (al (a.steps (L.getD 0 []).length) (n.toNat - L.length) (P.getD (L.length - 1) 0) = false → v = .tup [.nils,G 6] ∧ own = []) ∧
      (al (a.steps (L.getD 0 []).length) (n.toNat - L.length) (P.getD (L.length - 1) 0) = true → ∃ x,v = .tup [x,G 0] ∧ (∀ q,blk x = some q → h.size ≤ q) ∧ RV (h.plus own) x (wsL (R ++ extR a (L.getD 0 []).length (n.toNat - L.length) (P.getD (L.length - 1) 0)))))
section
variable {a : AR} {x : AV} {L : List (List UInt8)} {n : Int}
theorem post48_arg {h : Heap} (e : okX a L n = false) : Post48 a L n h (.tup [.nils,G 2]) []:=⟨fun _ => ⟨rfl,rfl⟩,fun e' => (by rw [e] at e'; cases e')⟩
set_option maxHeartbeats 4000000 in
theorem c48_ok (J : CallF) (k57 : KR 57 J) (k60 : K60 J) (k61 : K61m J) (k77 : K77 J) (k78 : K78 J) (k79 : K79 J) (k80 : K80 U1 J) (k82 : K82 J) (hJ : ∀ a h,J 48 a h = none) (h : Heap) (o : OkR a h) (hx : EL h x (ss L)) (lL : L.length ≤ 1000000) (ls : ∀ s ∈ L,s.length ≤ 1000000) :
    ∃ v own,CallsTo tbl J 48 [a.v,x,G n] h (v,own,false) ∧ Post48 a L n h v own:=by
  obtain ⟨Hs,hHs⟩ : ∃ H,(frameOf h).plus [.cells 0 3 [G a.q,a.x,a.y]] = H:=⟨_,rfl⟩
  have kHs : Kp (fun _ => False) (frameOf h) Hs:=by rw [← hHs]; exact Kp.plus _ _
  have oH : OkR a Hs:=OkR.kp (o.lo []) kHs
  have gS : Hs.get h.size = .cells 0 3 [G a.q,a.x,a.y]:=by rw [← hHs]; exact plus_at0 _ _ _ _ (frS h)
  have e57:=k57 Hs a oH
  have er : ruQ a.q a.B a.W = a.ru:=rfl
  rw [er] at e57
  have hxF : EL (frameOf h) x (ss L):=hx.lo []
  have hxH : EL Hs x (ss L):=by
    rcases hxF with h | ⟨b,v,e,g⟩
    · exact .inl h
    · exact .inr ⟨b,v,e,kHs.at g (by simp) id⟩
  have fz:=frS h
  have av : a.v = .agg [G a.q,a.x,a.y]:=rfl
  cases r : a.ru
  · have : CallsTo tbl J 48 [a.v,x,G n] h (.tup [.nils,G 2],[],false):=by
      refine Tr.fnv (cf:=c48) (e:=.ret) (s:=T.set (T.set (T.set .leaf [] a.v) [false] x) [true] (G n)) (by decide) rfl (hJ _ _) rfl rfl rfl (by simp) ?_
      refine Tr.post (Q:=(fun s h => s.get [true,true] = .nils ∧ s.get [false,false,false] = G 2)) (fun s h q => by simp [c48,q]) ?_
      rw [r] at e57
      clear oH o hx hxF hxH ls kHs
      refine Tr.w fun s1 H1 hp _ kR => ?_
      obtain ⟨rfl,rfl⟩:=hp
      have q : True:=trivial
      refine W.seq (W.chunk ?_)
      simp (disch:=first|omega|exact zE rfl|exact zO|exact zL rfl) [c48_o0,zG,q,hHs]
      refine W.assoc ?_
      refine W.seq (W.chunk ?_)
      simp (disch:=first|omega|exact zE rfl|exact zO|exact zL rfl) [c48_o1,zG,q,fz,gS,e57]
      refine W.seq (W.chunk ?_)
      simp (disch:=first|omega|exact zE rfl|exact zO|exact zL rfl) [c48_o2,zG,q]
      exact kR _ _ (by simp [T.get])
    exact ⟨_,_,this,post48_arg (by unfold okX; rw [r]; rfl)⟩
  · rw [r] at e57
    have e77:=k77 Hs ⟨a,x,L⟩ ⟨r,hxH,lL,ls⟩
    simp only at e77
    cases i : isS a.q.toNat L
    · have : CallsTo tbl J 48 [a.v,x,G n] h (.tup [.nils,G 2],[],false):=by
        refine Tr.fnv (cf:=c48) (e:=.ret) (s:=T.set (T.set (T.set .leaf [] a.v) [false] x) [true] (G n)) (by decide) rfl (hJ _ _) rfl rfl rfl (by simp) ?_
        refine Tr.post (Q:=(fun s h => s.get [true,true] = .nils ∧ s.get [false,false,false] = G 2)) (fun s h q => by simp [c48,q]) ?_
        rw [i] at e77
        clear oH o hx hxF hxH ls kHs
        refine Tr.w fun s1 H1 hp _ kR => ?_
        obtain ⟨rfl,rfl⟩:=hp
        have q : True:=trivial
        refine W.seq (W.chunk ?_)
        simp (disch:=first|omega|exact zE rfl|exact zO|exact zL rfl) [c48_o0,zG,q,hHs]
        refine W.assoc ?_
        refine W.seq (W.chunk ?_)
        simp (disch:=first|omega|exact zE rfl|exact zO|exact zL rfl) [c48_o1,zG,q,fz,gS,e57,e77]
        refine W.seq (W.chunk ?_)
        simp (disch:=first|omega|exact zE rfl|exact zO|exact zL rfl) [c48_o2,zG,q]
        exact kR _ _ (by simp [T.get])
      exact ⟨_,_,this,post48_arg (by unfold okX; rw [i,Bool.and_false]; rfl)⟩
    · have q3:=a.q3 r
      obtain ⟨m,R,rfl,hw,m1,m5,n1,n40,hm⟩:=isS_words (by omega) i
      have ok0 : okX a (R.map stW) n = decide ((R.length : Int) ≤ n ∧ n ≤ 40):=by
        unfold okX; rw [r,i,List.length_map]; rfl
      rw [i] at e77
      have ws : WS a.g m R:=⟨hw,by omega,by omega⟩
      have lw:=wsL_len R
      obtain ⟨_,e⟩ | ⟨b,v,rfl,g⟩:=hxH
      · rw [← ws_ss] at e
        have : (wsL R).length = 0:=by rw [e]; rfl
        omega
      rw [← ws_ss] at g
      have ls' : (ss (R.map stW)).length = R.length:=by simp
      rw [ls'] at e77 hx ⊢
      rw [av] at e77
      have e60:=k60 n R.length 40 Hs
      cases hn : decide ((R.length : Int) ≤ n ∧ n ≤ 40)
      · rw [hn] at e60 ok0
        have : CallsTo tbl J 48 [a.v,.slice b 0 R.length v,G n] h (.tup [.nils,G 2],[],false):=by
          refine Tr.fnv (cf:=c48) (e:=.ret) (s:=T.set (T.set (T.set .leaf [] a.v) [false] (.slice b 0 R.length v)) [true] (G n)) (by decide) rfl (hJ _ _) rfl rfl rfl (by simp) ?_
          refine Tr.post (Q:=(fun s h => s.get [true,true] = .nils ∧ s.get [false,false,false] = G 2)) (fun s h q => by simp [c48,q]) ?_
          clear oH o hx hxF ls kHs ws hw hn ok0 k61 k77 k78 k79 k80 k82
          generalize wsL R = wR at *
          generalize R.length = l at *
          refine Tr.w fun s1 H1 hp _ kR => ?_
          obtain ⟨rfl,rfl⟩:=hp
          have q : True:=trivial
          refine W.seq (W.chunk ?_)
          simp (disch:=first|omega|exact zE rfl|exact zO|exact zL rfl) [c48_o0,zG,q,hHs]
          refine W.assoc ?_
          refine W.seq (W.chunk ?_)
          simp (disch:=first|omega|exact zE rfl|exact zO|exact zL rfl) [c48_o1,zG,q,fz,gS,e57,e77,e60]
          refine W.seq (W.chunk ?_)
          simp (disch:=first|omega|exact zE rfl|exact zO|exact zL rfl) [c48_o2,zG,q]
          exact kR _ _ (by simp [T.get])
        exact ⟨_,_,this,post48_arg ok0⟩
      · rw [hn] at e60 ok0
        obtain ⟨n2,n3⟩:=of_decide_eq_true hn
        have e78:=k78 Hs a.g m R b v (oH.g r) ws g
        rw [a.gv r,av] at e78
        have lR : (R.map stW).length = R.length:=by rw [List.length_map]
        have inj : ∀ R' : List (List Nat),R.map stW = R'.map stW → (∀ w ∈ R',∀ c ∈ w,c < a.q.toNat) → R = R':=fun R' e hR' => stW_map_inj (fun w hw' c hc => by have:=(hw w hw').2 c hc; omega) (fun w hw' c hc => by have:=hR' w hw' c hc; omega) e
        cases hk : kpS a.g R
        · rw [hk] at e78
          have : CallsTo tbl J 48 [a.v,.slice b 0 R.length v,G n] h (.tup [.nils,G 6],[],false):=by
            refine Tr.fnv (cf:=c48) (e:=.ret) (s:=T.set (T.set (T.set .leaf [] a.v) [false] (.slice b 0 R.length v)) [true] (G n)) (by decide) rfl (hJ _ _) rfl rfl rfl (by simp) ?_
            refine Tr.post (Q:=(fun s h => s.get [true,true] = .nils ∧ s.get [false,false,false] = G 6)) (fun s h q => by simp [c48,q]) ?_
            clear oH o hx hxF ls kHs ws hw hn ok0 k61 k77 k78 k79 k80 k82 inj hk
            generalize wsL R = wR at *
            generalize R.length = l at *
            refine Tr.w fun s1 H1 hp _ kR => ?_
            obtain ⟨rfl,rfl⟩:=hp
            have q : True:=trivial
            refine W.seq (W.chunk ?_)
            simp (disch:=first|omega|exact zE rfl|exact zO|exact zL rfl) [c48_o0,zG,q,hHs]
            refine W.assoc ?_
            refine W.seq (W.chunk ?_)
            simp (disch:=first|omega|exact zE rfl|exact zO|exact zL rfl) [c48_o1,zG,q,fz,gS,e57,e77,e60]
            refine W.seq (W.chunk ?_)
            simp (disch:=first|omega|exact zE rfl|exact zO|exact zL rfl) [c48_o2,zG,q]
            refine W.assoc ?_
            refine W.seq (W.chunk ?_)
            simp (disch:=first|omega|exact zE rfl|exact zO|exact zL rfl) [c48_o3,zG,q,fz,gS,e78]
            refine W.seq (W.chunk ?_)
            simp (disch:=first|omega|exact zE rfl|exact zO|exact zL rfl) [c48_o4,zG,q]
            exact kR _ _ (by simp [T.get])
          refine ⟨_,_,this,fun e => (by rw [ok0] at e; cases e),fun _ R' e hR' => ?_⟩
          rw [← inj R' e hR',hk]
          exact ⟨fun _ => ⟨rfl,rfl⟩,fun P e => (by cases e)⟩
        · rw [hk] at e78
          have rm : a.rm (m : Nat) = true:=by
            unfold AR.rm
            rw [r,decide_eq_true (by omega)]; rfl
          obtain ⟨os,s243,sr⟩:=AR.steps_ok rm
          obtain ⟨p,own,e61,lm,lmm⟩:=k61 Hs a.g m (oH.g r) m5
          rw [a.gv r] at e61
          obtain ⟨Z,hZ⟩ : ∃ Z,Hs.plus own = Z:=⟨_,rfl⟩
          have kZ : Kp (fun _ => False) Hs Z:=by rw [← hZ]; exact Kp.plus _ _
          rw [hZ] at lm lmm
          obtain ⟨P,eP,vc⟩:=pos_ex ws hk
          have hrows : rwL a.g.q a.g.B m = a.rows (m : Nat):=by
            unfold AR.rows AR.g
            rw [Int.toNat_natCast]
          have hsteps : stL a.g.W (a.rows (m : Nat)) = a.steps (m : Nat):=rfl
          rw [hrows] at eP vc lmm lm
          rw [hsteps] at vc
          have lP : P.length = R.length:=by rw [eP]; unfold rT2; rw [List.length_map]
          have hs : Srt (a.steps (m : Nat)):=srt_st _ _
          obtain ⟨x0,mb,nb,rs,f1,rx,_,gN,_,_,h7⟩:=lm
          have h4 : ∀ i,i < (a.steps (m : Nat)).length → ∃ y,rs[i]? = some y ∧ RV Z y (gn ((a.steps (m : Nat)).getD i [])):=fun i hi => by
            obtain ⟨y,e1,e2,_⟩:=h7 i (by rw [← sr]; exact hi)
            refine ⟨y,e1,?_⟩
            have : (a.steps (m : Nat)).getD i [] = nxL a.g.W (a.rows (m : Nat)) ((a.rows (m : Nat)).getD i []):=by
              rw [← hsteps,List.getD_eq_getElem?_getD,List.getD_eq_getElem?_getD]
              unfold stL
              rw [List.getElem?_map,List.getElem?_eq_getElem (by rw [← sr]; exact hi)]; rfl
            rw [this]; exact e2
          rw [← sr] at f1 gN
          obtain ⟨l',hl'⟩ : ∃ l',R.length = l' + 1:=⟨R.length - 1,by omega⟩
          have hat : P.getD l' 0 < (a.steps (m : Nat)).length:=vc.lt _ (gD_mem (by omega))
          obtain ⟨bx,vx,rfl,gx⟩ : ∃ b v,x0 = .slice b 0 (a.steps (m : Nat)).length v ∧ Z.get b = .cells 1 v (wsL (a.rows (m : Nat))):=by
            rcases rx with ⟨_,e⟩ | ⟨b,v,e,g⟩
            · have : (wsL (a.rows (m : Nat))).length = 0:=by rw [e]; rfl
              rw [wsL_len] at this; omega
            · rw [wsL_len,← sr] at e; exact ⟨b,v,e,g⟩
          obtain ⟨x',mb',nx',es,m1',m2,m3⟩:=lmm
          rw [f1] at m1'
          have emb : mb' = mb:=by
            simp only [AObj.cells.injEq,List.cons.injEq,AV.map.injEq] at m1'
            exact m1'.2.2.2.1.symm
          subst emb
          have hw0:=m3 (P.getD l' 0) (by omega)
          have wi:=wsL_at (R:=R) (i:=l') (by omega)
          rw [eP,rT2_at (by omega),← eP] at wi
          obtain ⟨N,rfl⟩ : ∃ N : Nat,n = N:=⟨n.toNat,by omega⟩
          obtain ⟨D,hD⟩ : ∃ D,N = R.length + D:=⟨N - R.length,by omega⟩
          have ePost : ∀ v own,((al (a.steps (m : Nat)) D (P.getD l' 0) = false → v = AV.tup [.nils,G 6] ∧ own = []) ∧ (al (a.steps (m : Nat)) D (P.getD l' 0) = true → ∃ x,v = .tup [x,G 0] ∧ (∀ q,blk x = some q → h.size ≤ q) ∧ RV (h.plus own) x (wsL (R ++ extR a m D (P.getD l' 0))))) → Post48 a (R.map stW) N h v own:=fun v own hp => by
            refine ⟨fun e => (by rw [ok0] at e; cases e),fun _ R' e hR' => ?_⟩
            rw [← inj R' e hR',hk,hm,lR,Int.toNat_natCast,show N - R.length = D by omega,hl',Nat.add_sub_cancel]
            refine ⟨fun e => (by cases e),fun P' _ eP' vc' => ?_⟩
            have l1 : ∀ c ∈ P,c < (a.rows (m : Nat)).length:=fun c hc => by rw [← sr]; exact vc.lt c hc
            have l2 : ∀ c ∈ P',c < (a.rows (m : Nat)).length:=fun c hc => by rw [← sr]; exact vc'.lt c hc
            have : P = P':=rT2_inj (rows_nd _ _ _) l1 l2 (eP.symm.trans eP')
            rw [← this]; exact hp
          have w0:=wsL_at (R:=R) (i:=0) (by omega)
          have w0':=getI w0
          have lw0:=stW_len (R.getD 0 [])
          rw [(ws.at (i:=0) (by omega)).1] at lw0
          have gZ:=kZ.at g (by simp) id
          have gSZ:=kZ.at gS (by simp) id
          have f1Z:=f1
          have n2S:=os.n
          generalize hS : (a.steps (m : Nat)).length = nS at *
          obtain ⟨Z1,hZ1⟩ : ∃ H,Z.plus [.cells 1 1 [.bool true]] = H:=⟨_,rfl⟩
          have kz1 : Kp (fun _ => False) Z Z1:=by rw [← hZ1]; exact Kp.plus _ _
          have g1Z : Z1.get Z.size = .cells 1 1 [.bool true]:=by rw [← hZ1]; exact plus_at0 _ _ _ _ rfl
          have e79:=k79 Z1 Z.size nS true g1Z s243
          obtain ⟨Z2,hZ2⟩ : ∃ H,Z1.plus [.cells 1 nS (List.replicate nS (.bool true))] = H:=⟨_,rfl⟩
          have kz2 : Kp (fun _ => False) Z1 Z2:=by rw [← hZ2]; exact Kp.plus _ _
          have g2Z : Z2.get Z1.size = .cells 1 nS (lB (al (a.steps (m : Nat)) 0) nS):=by rw [← hZ2,lB_rep]; exact plus_at0 _ _ _ _ rfl
          obtain ⟨Z3,hZ3⟩ : ∃ H,Z2.plus [.cells 1 1 [.slice Z1.size 0 nS nS]] = H:=⟨_,rfl⟩
          have kz3 : Kp (fun _ => False) Z2 Z3:=by rw [← hZ3]; exact Kp.plus _ _
          have g3Z : Z3.get Z2.size = .cells 1 1 [.slice Z1.size 0 nS nS]:=by rw [← hZ3]; exact plus_at0 _ _ _ _ rfl
          obtain ⟨Z4,hZ4⟩ : ∃ H,Z3.plus [.cells 0 1 [.slice Z2.size 0 1 1]] = H:=⟨_,rfl⟩
          have kz4 : Kp (fun _ => False) Z3 Z4:=by rw [← hZ4]; exact Kp.plus _ _
          have gp0 : Z4.get Z3.size = .cells 0 1 [.slice Z2.size 0 1 1]:=by rw [← hZ4]; exact plus_at0 _ _ _ _ rfl
          have s1 : Z.size ≤ Z1.size:=kz1.size
          have s2 : Z2.size = Z1.size + 1:=by rw [← hZ2,plus_size]; rfl
          have s3 : Z2.size ≤ Z3.size:=kz3.size
          have tb0 : TB Z Z4 (.slice Z2.size 0 1 1) (rowsA (a.steps (m : Nat)) 1):=by
            refine ⟨((kz1.trans kz2).trans kz3).trans kz4,fun q e => ?_,[.slice Z1.size 0 nS nS],.inr ⟨Z2.size,rfl,kz4.at g3Z (by simp) id,?_⟩,by rw [rowsA_len]; rfl,fun i r e => ?_⟩
            · cases e; omega
            · rw [kz4.N,kz3.N]; unfold Heap.size; omega
            · have hi : i = 0:=by
                have:=(List.getElem?_eq_some_iff.1 e).1
                simpa using this
              subst hi
              simp only [List.getElem?_cons_zero,Option.some.injEq] at e
              subst e
              refine ⟨lB (al (a.steps (m : Nat)) 0) nS,Z1.size,by rw [rowsA_at _ (by omega),hS],by rw [lB_len],?_,?_,s1⟩
              · rw [lB_len]; exact kz4.at (kz3.at g2Z (by simp) id) (by simp) id
              · intro e; simp only [blk,Option.some.injEq] at e; omega
          have l1:=c48_l1_ok (S:=a.steps (m : Nat)) (pc:=Z3.size) (sb:=.slice b 0 R.length v) (nn:=N) J k80 (by rw [hS]; exact f1) ⟨bx,vx,by rw [hS]⟩ (by rw [hS]; exact gN) (by rw [hS]; exact h4) os (show Z.size ≤ Z3.size by omega) (show D ≤ 40 by omega)
          have l1' : Tr tbl J c48_l1 (fun s h => h = Z4 ∧ s.get [false] = .slice b 0 R.length v ∧ s.get [true] = G N ∧ s.get [true,false,false] = .ptr p 0 3 ∧ s.get [false,true,false] = .ptr Z3.size 0 1 ∧ s.get [true,false,false,true,true] = G D ∧ s.get [false,true,false,true,true] = G ((0 : Nat) : Int)) (.exit 0) (fun s h => ∃ z,TB Z h z (rowsA (a.steps (m : Nat)) (D + 1)) ∧ h.get Z3.size = .cells 0 1 [z] ∧ s.get [false] = .slice b 0 R.length v ∧ s.get [true] = G N ∧ s.get [true,false,false] = .ptr p 0 3 ∧ s.get [false,true,false] = .ptr Z3.size 0 1):=Tr.pre (fun s h ⟨h0,q⟩ => ⟨_,by rw [h0]; exact tb0,by rw [h0]; exact gp0,q⟩) l1
          have f1a:=kz1.at f1 (by simp) id
          have dd : ((N : Nat) : Int) - ((R.length : Nat) : Int) = (D : Int):=by omega
          have kS : Kp (fun _ => False) (frameOf h) Z:=kHs.trans kZ
          have post : ∀ z H,TB Z H z (rowsA (a.steps (m : Nat)) (D + 1)) → H.get Z3.size = .cells 0 1 [z] → ∃ bo ros H5 br,CQ (a.steps (m : Nat)) H Z3.size D bo ros ∧ J 82 [.slice b 0 R.length v] H = some (.slice H.size 0 R.length R.length,[.cells 1 R.length (wsL R)],false) ∧ H.plus [.cells 1 R.length (wsL R)] = H5 ∧ Kp (fun _ => False) H H5 ∧ H5.get p = .cells 0 3 [.slice bx 0 nS vx,.map mb',.slice nb 0 nS nS] ∧ H5.get H.size = .cells 1 R.length (wsL R) ∧ mapA H5 (.map mb') = some es ∧ H5.get Z3.size = .cells 0 1 [.slice bo 0 (D + 1) (D + 1)] ∧ H5.get bo = .cells 1 (D + 1) ros ∧ ros.length = D + 1 ∧ ros[D]? = some (.slice br 0 nS nS) ∧ H5.get br = .cells 1 nS (lB (al (a.steps (m : Nat)) D) nS):=fun z H tb gp => by
            obtain ⟨bo,ros,rfl,cq⟩:=tb.cq gp
            obtain ⟨H5,hH5⟩ : ∃ H5,H.plus [.cells 1 R.length (wsL R)] = H5:=⟨_,rfl⟩
            have k5 : Kp (fun _ => False) H H5:=by rw [← hH5]; exact Kp.plus _ _
            obtain ⟨br,e5,e6⟩:=cq.r D (by omega)
            rw [hS] at e5 e6
            have e82:=k82 H ⟨b,R.length,v,wsL R⟩ ⟨tb.k.at gZ (by simp) id,lw,by show 0 < R.length; omega,by show R.length ≤ 1000; omega⟩
            exact ⟨bo,ros,H5,br,cq,e82,hH5,k5,(tb.k.trans k5).at f1 (by simp) id,by rw [← hH5]; exact plus_at0 _ _ _ _ rfl,mapA_at ((tb.k.trans k5).at m2 (by simp) id),k5.at gp (by simp) id,k5.at cq.go (by simp) id,cq.lo,e5,k5.at e6 (by simp) id⟩
          have wi':=getI wi
          have eb:=lB_at (al (a.steps (m : Nat)) D) hat
          have eb':=getI eb
          have lb:=lB_len (al (a.steps (m : Nat)) D) nS
          have ll1 : ((R.length : Nat) : Int) - 1 = (l' : Int):=by omega
          cases hal : al (a.steps (m : Nat)) D (P.getD l' 0)
          · rw [hal] at eb eb'
            have : CallsTo tbl J 48 [a.v,.slice b 0 R.length v,G N] h (.tup [.nils,G 6],[],false):=by
              refine Tr.fnv (cf:=c48) (e:=.ret) (s:=T.set (T.set (T.set .leaf [] a.v) [false] (.slice b 0 R.length v)) [true] (G N)) (by decide) rfl (hJ _ _) rfl rfl rfl (by simp) ?_
              refine Tr.post (Q:=(fun s h => s.get [true,true] = .nils ∧ s.get [false,false,false] = G 6)) (fun s h q => by simp [c48,q]) ?_
              clear oH o hx hxF ls kHs ws hw hn ok0 k61 k77 k78 k79 k80 k82 inj hk ePost m3 h7 h4 vc tb0 gp0 l1 os hs kZ kS
              generalize stW (R.getD 0 []) = u0 at *
              generalize stW ((a.rows (m : Nat)).getD (P.getD l' 0) []) = ul at *
              generalize lB (al (a.steps (m : Nat)) D) nS = bs at *
              generalize P.getD l' 0 = at0 at *
              generalize wsL R = wR at *
              generalize List.replicate nS (AV.bool true) = rep at *
              generalize R.length = l at *
              refine Tr.w fun s1 H1 hp _ kR => ?_
              obtain ⟨rfl,rfl⟩:=hp
              have q : True:=trivial
              refine W.seq (W.chunk ?_)
              simp (disch:=first|omega|exact zE rfl|exact zO|exact zL rfl) [c48_o0,zG,q,hHs]
              refine W.assoc ?_
              refine W.seq (W.chunk ?_)
              simp (disch:=first|omega|exact zE rfl|exact zO|exact zL rfl) [c48_o1,zG,q,fz,gS,e57,e77,e60]
              refine W.seq (W.chunk ?_)
              simp (disch:=first|omega|exact zE rfl|exact zO|exact zL rfl) [c48_o2,zG,q]
              refine W.assoc ?_
              refine W.seq (W.chunk ?_)
              simp (disch:=first|omega|exact zE rfl|exact zO|exact zL rfl) [c48_o3,zG,q,fz,gS,e78]
              refine W.seq (W.chunk ?_)
              simp (disch:=first|omega|exact zE rfl|exact zO|exact zL rfl) [c48_o4,zG,q]
              refine W.seq (W.chunk ?_)
              simp (disch:=first|omega|exact zE rfl|exact zO|exact zL rfl) [-evDraw_c,-Eff.isAll,c48_o5,zG,q,evDraw_0,fz,gS,g,w0,w0',lw,lw0,e61,app_if,app_if',hZ,own_all,isAll_none]
              refine W.seq (W.chunk ?_)
              simp (disch:=first|omega|exact zE rfl|exact zO|exact zL rfl) [c48_o6,zG,q,hZ1,f1a,e79,hZ2,hZ3,hZ4]
              refine W.assoc ?_
              refine W.seq (W.chunk ?_)
              simp (disch:=first|omega|exact zE rfl|exact zO|exact zL rfl) [c48_o7,zG,q,dd]
              refine W.seq (W.block ?_)
              refine W.use (l1') (by simp (disch:=first|omega|exact zE rfl|exact zO|exact zL rfl) [zG,q]) fun s1 H1 hp => ?_
              obtain ⟨z,tb,gp,q⟩:=hp
              try simp only [zW,if_true]
              obtain ⟨bo,ros,H5,br,cq,e82,hH5,k5,f5,g5,ma,gp5,go5,lo5,er5,gr5⟩:=post _ _ tb gp
              have er5':=getI er5
              refine W.seq (W.chunk ?_)
              simp (disch:=first|omega|exact zE rfl|exact zO|exact zL rfl) [c48_o18,zG,q,e82,hH5]
              refine W.seq (W.chunk ?_)
              simp (disch:=first|omega|exact zE rfl|exact zO|exact zL rfl) [c48_o19,zG,q,f5,g5,ma,wi,wi',lw,hw0,ll1,-evDraw_c,evDraw_0]
              refine W.assoc ?_
              refine W.seq (W.chunk ?_)
              simp (disch:=first|omega|exact zE rfl|exact zO|exact zL rfl) [c48_o20,zG,q,gp5,go5,lo5,er5,er5',gr5,eb,eb',lb,dd]
              refine W.seq (W.chunk ?_)
              simp (disch:=first|omega|exact zE rfl|exact zO|exact zL rfl) [c48_o21,zG,q]
              exact kR _ _ (by simp [T.get])
            exact ⟨_,_,this,ePost _ _ ⟨fun _ => ⟨rfl,rfl⟩,fun e => (by rw [hal] at e; cases e)⟩⟩
          · rw [hal] at eb eb'
            have post3 : ∀ z H bo ros H5,TB Z H z (rowsA (a.steps (m : Nat)) (D + 1)) → CQ (a.steps (m : Nat)) H Z3.size D bo ros → H.plus [.cells 1 R.length (wsL R)] = H5 → Kp (fun _ => False) H H5 → H5.get H.size = .cells 1 R.length (wsL R) →
                Tr tbl J c48_l3 (fun s h => h = H5 ∧ s.get [true,false,false] = .ptr p 0 3 ∧ s.get [false,true,false] = .ptr Z3.size 0 1 ∧ s.get [true,true,true] = .slice H.size 0 R.length R.length ∧ s.get [false,false,false,false] = G (P.getD l' 0 : Nat) ∧ s.get [true,false,false,false] = G ((D : Int) - 1)) (.exit 4) (fun s h => ∃ z,NV H h z (wsL (R ++ extR a m D (P.getD l' 0))) ∧ s.get [true,true,true] = z) ∧ Kp (fun _ => False) (frameOf h) H:=fun z H bo ros H5 tb cq hH5 k5 g5 => by
              have kk:=tb.k
              have l3:=c48_l3_ok (p:=p) (R:=R) (E:=ext (a.steps (m : Nat)) D (P.getD l' 0)) J hS (kk.at f1 (by simp) id) (kk.at gx (by simp) id) (show (a.rows (m : Nat)).length = nS by omega) (kk.at gN (by simp) id) (fun i hi => by
                obtain ⟨y,e1,e2⟩:=h4 i hi
                exact ⟨y,e1,e2.kp kk (fun _ _ => id)⟩) os cq (show D ≤ 40 by omega) n40
              refine ⟨Tr.pre (fun s h ⟨h0,q1,q2,q3,q4,q5⟩ => ⟨_,[],_,⟨?_,⟨rfl,by rw [hS]; exact hat,hal,rfl⟩⟩,q1,q2,q3,q4,by rw [q5,show (D : Int) - 1 - ((0 : Nat) : Int) = (D : Int) - 1 by omega]⟩) l3,kS.trans kk⟩
              subst h0
              refine ⟨k5,fun q e => (by cases e; exact Nat.le_refl _),.inr ⟨H.size,?_,?_,?_⟩⟩
              · show _ = AV.slice H.size 0 (wsL (R ++ [])).length (wsL (R ++ [])).length
                rw [List.append_nil,lw]
              · show _ = AObj.cells 1 (wsL (R ++ [])).length (wsL (R ++ []))
                rw [List.append_nil,lw]; exact g5
              · rw [k5.N]; unfold Heap.size; omega
            have fin : ∀ z H h',Kp (fun _ => False) (frameOf h) H → NV H h' z (wsL (R ++ extR a m D (P.getD l' 0))) → Post48 a (R.map stW) N h (.tup [z,G 0]) (if (one [z]).flat then [] else h'.own):=fun z H h' kH nv => ePost _ _ ⟨fun e => (by rw [hal] at e; cases e),fun _ => ⟨z,rfl,fun q e => Nat.le_trans (by have:=kH.size; rw [fz] at this; exact this) (nv.x0 q e),nv.rv.fr (kH.trans nv.k)⟩⟩
            refine Tr.fny (cf:=c48) (e:=.ret) (s:=T.set (T.set (T.set .leaf [] a.v) [false] (.slice b 0 R.length v)) [true] (G N)) (by decide) rfl (hJ _ _) rfl rfl (by simp) ?_
            clear oH o hx hxF ls kHs ws hw hn ok0 k61 k77 k78 k79 k80 k82 inj hk ePost m3 h7 h4 vc tb0 gp0 l1 os hs kZ kS
            generalize stW (R.getD 0 []) = u0 at *
            generalize stW ((a.rows (m : Nat)).getD (P.getD l' 0) []) = ul at *
            generalize lB (al (a.steps (m : Nat)) D) nS = bs at *
            generalize wsL (R ++ extR a m D (P.getD l' 0)) = wE at *
            generalize P.getD l' 0 = at0 at *
            generalize wsL R = wR at *
            generalize List.replicate nS (AV.bool true) = rep at *
            generalize R.length = l at *
            refine Tr.w fun s1 H1 hp _ kR => ?_
            obtain ⟨rfl,rfl⟩:=hp
            have q : True:=trivial
            refine W.seq (W.chunk ?_)
            simp (disch:=first|omega|exact zE rfl|exact zO|exact zL rfl) [c48_o0,zG,q,hHs]
            refine W.assoc ?_
            refine W.seq (W.chunk ?_)
            simp (disch:=first|omega|exact zE rfl|exact zO|exact zL rfl) [c48_o1,zG,q,fz,gS,e57,e77,e60]
            refine W.seq (W.chunk ?_)
            simp (disch:=first|omega|exact zE rfl|exact zO|exact zL rfl) [c48_o2,zG,q]
            refine W.assoc ?_
            refine W.seq (W.chunk ?_)
            simp (disch:=first|omega|exact zE rfl|exact zO|exact zL rfl) [c48_o3,zG,q,fz,gS,e78]
            refine W.seq (W.chunk ?_)
            simp (disch:=first|omega|exact zE rfl|exact zO|exact zL rfl) [c48_o4,zG,q]
            refine W.seq (W.chunk ?_)
            simp (disch:=first|omega|exact zE rfl|exact zO|exact zL rfl) [-evDraw_c,-Eff.isAll,c48_o5,zG,q,evDraw_0,fz,gS,g,w0,w0',lw,lw0,e61,app_if,app_if',hZ,own_all,isAll_none]
            refine W.seq (W.chunk ?_)
            simp (disch:=first|omega|exact zE rfl|exact zO|exact zL rfl) [c48_o6,zG,q,hZ1,f1a,e79,hZ2,hZ3,hZ4]
            refine W.assoc ?_
            refine W.seq (W.chunk ?_)
            simp (disch:=first|omega|exact zE rfl|exact zO|exact zL rfl) [c48_o7,zG,q,dd]
            refine W.seq (W.block ?_)
            refine W.use (l1') (by simp (disch:=first|omega|exact zE rfl|exact zO|exact zL rfl) [zG,q]) fun s1 H1 hp => ?_
            obtain ⟨z,tb,gp,q⟩:=hp
            try simp only [zW,if_true]
            obtain ⟨bo,ros,H5,br,cq,e82,hH5,k5,f5,g5,ma,gp5,go5,lo5,er5,gr5⟩:=post _ _ tb gp
            have er5':=getI er5
            obtain ⟨l3,kH⟩:=post3 _ _ _ _ _ tb cq hH5 k5 g5
            refine W.seq (W.chunk ?_)
            simp (disch:=first|omega|exact zE rfl|exact zO|exact zL rfl) [c48_o18,zG,q,e82,hH5]
            refine W.seq (W.chunk ?_)
            simp (disch:=first|omega|exact zE rfl|exact zO|exact zL rfl) [c48_o19,zG,q,f5,g5,ma,wi,wi',lw,hw0,ll1,-evDraw_c,evDraw_0]
            refine W.assoc ?_
            refine W.seq (W.chunk ?_)
            simp (disch:=first|omega|exact zE rfl|exact zO|exact zL rfl) [c48_o20,zG,q,gp5,go5,lo5,er5,er5',gr5,eb,eb',lb,dd]
            refine W.seq (W.chunk ?_)
            simp (disch:=first|omega|exact zE rfl|exact zO|exact zL rfl) [c48_o21,zG,q]
            refine W.assoc ?_
            refine W.seq (W.chunk ?_)
            simp (disch:=first|omega|exact zE rfl|exact zO|exact zL rfl) [c48_o22,zG,q,dd]
            refine W.seq (W.block ?_)
            refine W.use (l3) (by simp (disch:=first|omega|exact zE rfl|exact zO|exact zL rfl) [zG,q]) fun s1 H1 hp => ?_
            obtain ⟨z9,nv9,q⟩:=hp
            try simp only [zW,if_true]
            refine W.seq (W.chunk ?_)
            simp (disch:=first|omega|exact zE rfl|exact zO|exact zL rfl) [c48_o32,zG,q]
            refine W.ret ?_
            try simp only [zW,if_true]
            refine kR _ _ ?_
            refine ⟨[z9,G 0],by simp [T.get,c48,evRess,evRes,q],?_⟩
            rw [show (one [z9,G 0]).flat = (one [z9]).flat from by simp [one,AV.flat,AV.flats]]
            exact fin _ _ _ kH nv9
end
structure A48 where
  a : AR
  x : AV
  L : List (List UInt8)
  n : Int
def Ok48 (b : A48) (h : Heap) : Prop:=OkR b.a h ∧ EL h b.x (ss b.L) ∧ b.L.length ≤ 1000000 ∧ ∀ s ∈ b.L,s.length ≤ 1000000
def Pre48 (b : A48) (args : List AV) (h : Heap) : Prop:=Ok48 b h ∧ args = [b.a.v,b.x,G b.n]
noncomputable def T75 : CallF:=addK tbl T74 48 Pre48 (fun b h v own => Post48 b.a b.L b.n h v own)
theorem t75 : Sound Go.Proofs.Try.prog T75:=Sound.addK follows ok t74 (by decide) _ _
theorem k57_74 : KR 57 T74:=fun h a o => by
  rw [show T74 57 [.agg [G a.q,a.x,a.y]] h = T10 57 [.agg [G a.q,a.x,a.y]] h from by simp (disch:=decide) only [T11,T12,T13,T14,T15,T16,T17,T18,T19,T20,T21,T22,T23,T24,T25,T26,T27,T28,T29,T30,T31,T32,T33,T34,T35,T36,T37,T38,T39,T40,T41,T42,T43,T44,T45,T46,T47,T48,T49,T50,T51,T52,T53,T54,T55,T56,T57,T58,T59,T60,T61,T62,T63,T64,T65,T66,T67,T68,T69,T70,T71,T72,T73,T74,addI_ne,addX_ne,addV_ne,addK_ne]]; exact k57 h a o
theorem k60_74 : K60 T74:=fun n lo hi h => by
  rw [show T74 60 [G n,G lo,G hi] h = T1 60 [G n,G lo,G hi] h from by simp (disch:=decide) only [T2,T3,T4,T5,T6,T7,T8,T9,T10,T11,T12,T13,T14,T15,T16,T17,T18,T19,T20,T21,T22,T23,T24,T25,T26,T27,T28,T29,T30,T31,T32,T33,T34,T35,T36,T37,T38,T39,T40,T41,T42,T43,T44,T45,T46,T47,T48,T49,T50,T51,T52,T53,T54,T55,T56,T57,T58,T59,T60,T61,T62,T63,T64,T65,T66,T67,T68,T69,T70,T71,T72,T73,T74,addI_ne,addX_ne,addV_ne,addK_ne]]; exact k60 n lo hi h
theorem k61_74 : K61m T74:=fun h a m o m5 => by
  obtain ⟨p,own,e,l⟩:=k61m h a m o m5
  exact ⟨p,own,by rw [show T74 61 [a.v,G m] h = T18 61 [a.v,G m] h from by simp (disch:=decide) only [T19,T20,T21,T22,T23,T24,T25,T26,T27,T28,T29,T30,T31,T32,T33,T34,T35,T36,T37,T38,T39,T40,T41,T42,T43,T44,T45,T46,T47,T48,T49,T50,T51,T52,T53,T54,T55,T56,T57,T58,T59,T60,T61,T62,T63,T64,T65,T66,T67,T68,T69,T70,T71,T72,T73,T74,addI_ne,addX_ne,addV_ne,addK_ne]]; exact e,l⟩
theorem k77_74 : K77 T74:=fun h b o => by
  rw [show T74 77 [b.a.v,b.x] h = T67 77 [b.a.v,b.x] h from by simp (disch:=decide) only [T68,T69,T70,T71,T72,T73,T74,addI_ne,addX_ne,addV_ne,addK_ne]]; exact k77 h b o
theorem k78_74 : K78 T74:=fun h a m R b v o k g => by
  rw [show T74 78 [a.v,.slice b 0 R.length v] h = T68 78 [a.v,.slice b 0 R.length v] h from by simp (disch:=decide) only [T69,T70,T71,T72,T73,T74,addI_ne,addX_ne,addV_ne,addK_ne]]; exact k78 h a m R b v o k g
theorem k79_74 : K79 T74:=fun h b n x h1 h2 => by
  rw [show T74 79 [.slice b 0 1 1,G n] h = T72 79 [.slice b 0 1 1,G n] h from by simp (disch:=decide) only [T73,T74,addI_ne,addX_ne,addV_ne,addK_ne]]; exact k79 h b n x h1 h2
theorem k82_74 : K82 T74:=fun h a ha => by
  rw [show T74 82 [.slice a.b 0 a.n a.v] h = T73 82 [.slice a.b 0 a.n a.v] h from by simp (disch:=decide) only [T74,addI_ne,addX_ne,addV_ne,addK_ne]]; exact k82 h a ha
abbrev K48 (J : CallF) : Prop:=∀ (h : Heap) (b : A48),Ok48 b h → ∃ v own,J 48 [b.a.v,b.x,G b.n] h = some (v,own,false) ∧ Post48 b.a b.L b.n h v own
theorem k48 : K48 T75:=fun h b o => by
  obtain ⟨v,own,e,l⟩:=addK_some (Pre:=Pre48) (Post:=fun b h v own => Post48 b.a b.L b.n h v own) (fun b args h hp => by
    obtain ⟨⟨h1,h2,h3,h4⟩,rfl⟩:=hp
    exact c48_ok T74 k57_74 k60_74 k61_74 k77_74 k78_74 k79_74 k80_74 k82_74 (fun _ _ => by simp (disch:=decide) only [T1,T2,T3,T4,T5,T6,T7,T8,T9,T10,T11,T12,T13,T14,T15,T16,T17,T18,T19,T20,T21,T22,T23,T24,T25,T26,T27,T28,T29,T30,T31,T32,T33,T34,T35,T36,T37,T38,T39,T40,T41,T42,T43,T44,T45,T46,T47,T48,T49,T50,T51,T52,T53,T54,T55,T56,T57,T58,T59,T60,T61,T62,T63,T64,T65,T66,T67,T68,T69,T70,T71,T72,T73,T74,addI_ne,addX_ne,addV_ne,addK_ne]; rfl) h h1 h2 h3 h4) b _ h ⟨o,rfl⟩
  exact ⟨v,own,e,l⟩
end Go.Proofs.Ytljgfdamdcikgaa.Ev
set_option linter.unusedVariables false
set_option linter.unusedSimpArgs false
namespace Go.AEv
def Ct (X Y : AObj) : Prop:=Y = X ∨ ∃ g v cs n,X = .cells g v cs ∧ Y = .cells g v (cs.take n)
theorem Ct.hole {Y : AObj} (c : Ct .hole Y) : Y = .hole:=by
  rcases c with h | ⟨g,v,cs,n,h,_⟩
  · exact h
  · cases h
theorem Ct.ne {X Y : AObj} (c : Ct X Y) (h : Y ≠ .hole) : X ≠ .hole:=fun e => by subst e; exact h c.hole
theorem Ct.ne' {X Y : AObj} (c : Ct X Y) (h : X ≠ .hole) : Y ≠ .hole:=fun e => by
  rcases c with h' | ⟨g,v,cs,n,h1,h2⟩
  · exact h (h' ▸ e)
  · rw [h2] at e; cases e
theorem Ct.or {CK : CKT} {φ : Nat → Emb} {H : Heap} {w : World} {e : Emb} {X Y : AObj} (c : Ct X Y) (o : OR CK φ H w e X) : OR CK φ H w e Y:=by
  rcases c with rfl | ⟨g,v,cs,n,rfl,rfl⟩
  · exact o
  · simp only [OR] at o ⊢
    obtain ⟨c,t,fr,h1,h2,h3,h4⟩:=o
    refine ⟨c,t,fr,h1,h2,by rw [List.length_take]; omega,fun j v hv => h4 j v ?_⟩
    rw [List.getElem?_take] at hv
    split at hv
    · exact hv
    · cases hv
theorem Ct.stp {φ : Nat → Emb} {H H' : Heap} (c : ∀ b,Ct (H.get b) (H'.get b)) : Stp φ H φ H':=fun b => by
  have cb:=c b
  refine ⟨fun g n cs e => ?_,fun es e => ?_,fun st pend s ps x y e => ?_,fun cc pos e => ?_⟩
  · rw [e] at cb
    rcases cb with h | ⟨g',v',cs',n',h1,h2⟩
    · exact ⟨n,cs,h,Nat.le_refl _,fun _ => rfl⟩
    · cases h1; exact ⟨n,_,h2,Nat.le_refl _,fun _ => rfl⟩
  · rw [e] at cb
    rcases cb with h | ⟨g',v',cs',n',h1,h2⟩
    · exact ⟨es,h,rfl⟩
    · cases h1
  · rw [e] at cb
    rcases cb with h | ⟨g',v',cs',n',h1,h2⟩
    · exact ⟨_,_,_,_,_,_,h,rfl⟩
    · cases h1
  · rw [e] at cb
    rcases cb with h | ⟨g',v',cs',n',h1,h2⟩
    · exact ⟨_,_,h,rfl⟩
    · cases h1
theorem Ct.pts {φ : Nat → Emb} {H H' : Heap} (c : ∀ b,Ct (H.get b) (H'.get b)) : Stp φ H' φ H:=fun b => by
  have cb:=c b
  refine ⟨fun g n cs e => ?_,fun es e => ?_,fun st pend s ps x y e => ?_,fun cc pos e => ?_⟩
  · rcases cb with h | ⟨g',v',cs',n',h1,h2⟩
    · exact ⟨n,cs,by rw [← h]; exact e,Nat.le_refl _,fun _ => rfl⟩
    · rw [e] at h2; cases h2; exact ⟨n,_,h1,Nat.le_refl _,fun _ => rfl⟩
  · rcases cb with h | ⟨g',v',cs',n',h1,h2⟩
    · exact ⟨es,by rw [← h]; exact e,rfl⟩
    · rw [e] at h2; cases h2
  · rcases cb with h | ⟨g',v',cs',n',h1,h2⟩
    · exact ⟨_,_,_,_,_,_,by rw [← h]; exact e,rfl⟩
    · rw [e] at h2; cases h2
  · rcases cb with h | ⟨g',v',cs',n',h1,h2⟩
    · exact ⟨_,_,by rw [← h]; exact e,rfl⟩
    · rw [e] at h2; cases h2
def cutOf (c : Nat → AObj) (h : Heap) : Heap:=⟨c,h.size,[]⟩
theorem get_ge (h : Heap) {i : Nat} (hi : h.size ≤ i) : h.get i = .hole:=by
  cases hq : h.get i with
  | hole => rfl
  | _ => have:=Heap.get_lt (H:=h) (i:=i) (by rw [hq]; simp); simp only [Heap.size] at this hi; omega
theorem cut_get {c : Nat → AObj} {h : Heap} (hc : ∀ b,Ct (h.get b) (c b)) (i : Nat) : (cutOf c h).get i = c i:=by
  by_cases hi : i < h.size
  · show (if i < h.size then c i else _) = _
    rw [if_pos hi]
  · have e:=hc i
    rw [get_ge h (by omega)] at e
    rw [e.hole]
    show (if i < h.size then c i else ([] : List AObj).getD (i - h.size) .hole) = _
    rw [if_neg hi]; simp
theorem cut_hr {CK : CKT} {w0 : World} {K : List Nat} {φ : Nat → Emb} {h : Heap} {w : World} (hr : HR CK w0 K φ h w) {c : Nat → AObj} (hc : ∀ b,Ct (h.get b) (c b)) : HR CK w [] φ (cutOf c h) w ∧ Stp φ h φ (cutOf c h):=by
  have hc' : ∀ b,Ct (h.get b) ((cutOf c h).get b):=fun b => by rw [cut_get hc]; exact hc b
  have hs : Stp φ h φ (cutOf c h):=Ct.stp hc'
  refine ⟨⟨Nat.le_refl _,fun _ _ => rfl,fun i => OR.step hs (fun _ => rfl) ((hc' i).or (hr.obj i)),fun i hi hh => ?_,fun i j hj _ hh _ => ?_,by simp,by simp,Env.refl w⟩,hs⟩
  · have:=(hc' i).ne hh
    rw [get_ge h hi] at this; exact absurd rfl this
  · have:=(hc' j).ne hh
    rw [get_ge h hj] at this; exact absurd rfl this
theorem cut_back {CK : CKT} {w0 : World} {K : List Nat} {φ φ' : Nat → Emb} {h : Heap} {own : List AObj} {w w' : World} (hr : HR CK w0 K φ h w) {c : Nat → AObj} (hc : ∀ b,Ct (h.get b) (c b)) (hr' : HR CK w [] φ' ((cutOf c h).plus own) w') (hs : Stp φ (cutOf c h) φ' ((cutOf c h).plus own)) :
    HR CK w0 K φ' (h.plus own) w' ∧ Stp φ' ((cutOf c h).plus own) φ' (h.plus own) ∧ Stp φ h φ' (h.plus own):=by
  have hsz : (cutOf c h).size = h.size:=by simp [cutOf,Heap.size]
  have hsame : ∀ b,b < w.heap.size → w'.heap[b]? = w.heap[b]?:=hr'.old
  have hct : ∀ b,Ct ((h.plus own).get b) (((cutOf c h).plus own).get b):=fun b => by
    by_cases hb : b < h.size
    · rw [plus_lt _ _ _ hb,plus_lt _ _ _ (by omega),cut_get hc]; exact hc b
    · rw [plus_ge _ _ _ (by omega),plus_ge _ _ _ (by omega),hsz]; exact .inl rfl
  have back : Stp φ' ((cutOf c h).plus own) φ' (h.plus own):=Ct.pts hct
  have hge : ∀ i,h.get i ≠ .hole → i < h.size:=fun i hh => by
    have:=Heap.get_lt (H:=h) (i:=i) hh
    simp only [Heap.size] at this ⊢; omega
  have hlow : ∀ i,i < h.size → (h.plus own).get i = h.get i:=fun i hi => plus_lt _ _ _ hi
  have hφ : ∀ i,h.get i ≠ .hole → φ' i = φ i:=fun i hh => by
    have hi:=hge i hh
    have:=hs i
    have e0 : ((cutOf c h).plus own).get i = (cutOf c h).get i:=plus_lt _ _ _ (by omega)
    have hh' : (cutOf c h).get i ≠ .hole:=by rw [cut_get hc]; exact (hc i).ne' hh
    cases hq : (cutOf c h).get i with
    | hole => exact absurd hq hh'
    | cells g n cs =>
      obtain ⟨n',cs',e1,e2,e3⟩:=this.1 g n cs hq
      rw [e0,hq] at e1
      simp only [AObj.cells.injEq] at e1
      exact e3 e1.2.1.symm
    | map es => obtain ⟨_,_,e3⟩:=this.2.1 es hq; exact e3
    | loop st pend s ps x y => obtain ⟨_,_,_,_,_,_,_,e3⟩:=this.2.2.1 _ _ _ _ _ _ hq; exact e3
    | iter c pos => obtain ⟨_,_,_,e3⟩:=this.2.2.2 _ _ hq; exact e3
  have fwd : Stp φ h φ' (h.plus own):=fun b => by
    refine ⟨fun g n cs e => ?_,fun es e => ?_,fun st pend s ps x y e => ?_,fun cc pos e => ?_⟩
    · have hh : h.get b ≠ .hole:=by rw [e]; simp
      exact ⟨n,cs,by rw [hlow b (hge b hh)]; exact e,Nat.le_refl _,fun _ => hφ b hh⟩
    · have hh : h.get b ≠ .hole:=by rw [e]; simp
      exact ⟨es,by rw [hlow b (hge b hh)]; exact e,hφ b hh⟩
    · have hh : h.get b ≠ .hole:=by rw [e]; simp
      exact ⟨_,_,_,_,_,_,by rw [hlow b (hge b hh)]; exact e,hφ b hh⟩
    · have hh : h.get b ≠ .hole:=by rw [e]; simp
      exact ⟨_,_,by rw [hlow b (hge b hh)]; exact e,hφ b hh⟩
  have hN : (h.plus own).N = h.N:=rfl
  refine ⟨⟨Nat.le_trans hr.size hr'.size,fun b hb => ?_,fun i => ?_,fun i hi hh => ?_,fun i j hj hh1 hh2 hij => ?_,fun k hk => ?_,hr.nodup,hr.env.trans hr'.env⟩,back,fwd⟩
  · rw [hsame b (by have:=hr.size; omega)]; exact hr.old b hb
  · by_cases hi : i < h.size
    · rw [hlow i hi]
      by_cases hh : h.get i = .hole
      · rw [hh]; trivial
      · rw [hφ i hh]
        exact OR.step fwd (fun hh => hsame _ (OR.lt (hr.obj i) hh)) (hr.obj i)
    · have e : (h.plus own).get i = ((cutOf c h).plus own).get i:=by rw [plus_ge _ _ _ (by omega),plus_ge _ _ _ (by omega),hsz]
      rw [e]
      exact OR.step back (fun _ => rfl) (hr'.obj i)
  · by_cases hlt : i < h.size
    · rw [hlow i hlt] at hh
      rw [hφ i hh,hsame _ (OR.lt (hr.obj i) hh)]
      exact hr.own i hi hh
    · have e : (h.plus own).get i = ((cutOf c h).plus own).get i:=by rw [plus_ge _ _ _ (by omega),plus_ge _ _ _ (by omega),hsz]
      rw [e] at hh
      obtain ⟨a1,a2,a3⟩:=hr'.own i (by show h.size ≤ i; omega) hh
      exact ⟨Nat.le_trans hr.size a1,a2,a3⟩
  · have tr : ∀ i,(h.plus own).get i ≠ .hole → ((cutOf c h).plus own).get i ≠ .hole:=fun i hh => (hct i).ne' hh
    by_cases hjl : j < h.size
    · by_cases hil : i < h.size
      · rw [hlow i hil] at hh1; rw [hlow j hjl] at hh2
        rw [hφ i hh1,hφ j hh2]
        exact hr.sep i j hj hh1 hh2 hij
      · exact fun e => hr'.sep j i (by show h.size ≤ i; omega) (tr j hh2) (tr i hh1) (fun e => hij e.symm) e.symm
    · exact hr'.sep i j (by show h.size ≤ j; omega) (tr i hh1) (tr j hh2) hij
  · obtain ⟨k1,k2⟩:=hr.keep k hk
    rw [hsame k (Array.getElem?_eq_some_iff.1 k2).1]; exact ⟨k1,k2⟩
def cutX (n : Nat) : AObj → AObj
  | .cells g v cs => .cells g v (cs.take n)
  | X => X
def cutO : List AV → Nat → AObj → AObj
  | [],_,X => X
  | .slice b 0 n v :: l,i,X => if b = i then cutX n X else cutO l i X
  | _ :: l,i,X => cutO l i X
theorem cutX_ct (n : Nat) (X : AObj) : Ct X (cutX n X):=by
  cases X with
  | cells g v cs => exact .inr ⟨g,v,cs,n,rfl,rfl⟩
  | _ => exact .inl rfl
theorem cutO_ct : ∀ (l : List AV) (i : Nat) (X : AObj),Ct X (cutO l i X):=fun l i X => by
  fun_induction cutO l i X with
  | case1 => exact .inl rfl
  | case2 => exact cutX_ct _ _
  | case3 => assumption
  | case4 => assumption
def cutA (args : List AV) (h : Heap) : Heap:=cutOf (fun i => cutO args i (h.get i)) h
def addC (I : CallF) (f : Nat) : CallF:=fun g args h => if g = f then (match I f args (cutA args h) with
  | some (v,own,false) => some (v,own,false)
  | _ => none) else I g args h
theorem Sound.addC {P : Program} {I : CallF} (hI : Sound P I) (f : Nat) : Sound P (addC I f):=fun g args h v own sh e => by
  unfold AEv.addC at e
  split at e
  · rename_i hg
    subst hg
    split at e
    · rename_i v' own' e'
      simp only [Option.some.injEq,Prod.mk.injEq] at e
      obtain ⟨rfl,rfl,rfl⟩:=e
      obtain ⟨hent,hc⟩:=hI _ _ _ _ _ _ e'
      refine ⟨hent,fun w0 K φ w vals hr hv => ?_⟩
      have hct : ∀ b,Ct (h.get b) (cutO args b (h.get b)):=fun b => cutO_ct args b _
      obtain ⟨h1,h2⟩:=cut_hr hr hct
      refine CallsIn.mono (hc w [] φ w vals h1 (VRs.step h2 _ _ hv)) ?_
      rintro en w' ⟨φ',x,rfl,q1,q2,q3⟩
      have m1 : mrg (cutA args h) own' false = (cutOf (fun i => cutO args i (h.get i)) h).plus own':=by simp [mrg,cutA,Heap.plus]
      have m2 : mrg h own' false = h.plus own':=by simp [mrg,Heap.plus]
      rw [m1] at q1 q2 q3
      rw [m2]
      obtain ⟨b1,b2,b3⟩:=cut_back hr hct q2 q3
      exact ⟨φ',x,rfl,VR.step b2 _ _ q1,b1,b3⟩
    · cases e
  · exact hI g args h v own sh e
theorem addC_ne {I : CallF} {f g : Nat} (hg : g ≠ f) (args : List AV) (h : Heap) : addC I f g args h = I g args h:=by
  unfold addC; rw [if_neg hg]
theorem addC_eq {I : CallF} {f : Nat} {args : List AV} {h : Heap} {v : AV} {own : List AObj} (e : I f args (cutA args h) = some (v,own,false)) : addC I f f args h = some (v,own,false):=by
  unfold addC; rw [if_pos rfl,e]
theorem cutA_size (args : List AV) (h : Heap) : (cutA args h).size = h.size:=by simp [cutA,cutOf,Heap.size]
theorem cutA_get (args : List AV) (h : Heap) (i : Nat) : (cutA args h).get i = cutO args i (h.get i):=cut_get (fun b => cutO_ct args b _) i
end Go.AEv
set_option linter.unusedVariables false
set_option linter.unusedSimpArgs false
namespace Go.Proofs.Ytljgfdamdcikgaa.Ev
open Go Go.AEv
attribute [local simp] evFunc initS evOps_c evTrim_c evSkip_c evExit_c evRet_c evSeq_c evCond_c evBlock_c evDraw_c runOps_n runOps_c exec_n exec_g pure1_c act AOpd.ev T.get T.set T.put evBin evUn forceT_eq forceV_eq forceL_eq evRess evRes one keep runFP_n runFP_c app_none AV.flats AV.flat came_some List.getElem?_cons_zero List.getElem?_cons_succ beqT wrapI idxI tdivI tmodI decT decF ibT ibF inT inF evScope_c if_pos if_neg Cm_some thenW_n thenW_e thenW_r blkW_n blkW_e blkW_r goI kn putAt AV.cells fillA loadA takeA mk Eff.isAll Eff.isNone Eff.commutes Eff.spares okPair apart eqAgg fits LK.fits allEq aveq eqk mmA
def PL (h : Heap) (x : AV) (cs : List AV) : Prop:=(x = .nils ∧ cs = []) ∨ ∃ b v rest,x = .slice b 0 cs.length v ∧ h.get b = .cells 1 v (cs ++ rest)
theorem RV.pl {h : Heap} {x : AV} {cs : List AV} (r : RV h x cs) : PL h x cs:=by
  rcases r with h | ⟨b,v,e,g⟩
  · exact .inl h
  · exact .inr ⟨b,v,[],e,by rw [List.append_nil]; exact g⟩
theorem PL.kp {h h' : Heap} {x : AV} {cs : List AV} (r : PL h x cs) (k : Kp (fun _ => False) h h') : PL h' x cs:=by
  rcases r with h | ⟨b,v,rest,e,g⟩
  · exact .inl h
  · exact .inr ⟨b,v,rest,e,k.at g (by simp) id⟩
theorem cutX_pl {v : Nat} {cs rest : List AV} : cutX cs.length (.cells 1 v (cs ++ rest)) = .cells 1 v cs:=by
  show AObj.cells 1 v ((cs ++ rest).take cs.length) = _
  rw [List.take_left]
def Stn (h h' : Heap) : Prop:=∀ b v cs,h.get b = .cells 1 v cs → (∀ s,cs[0]? ≠ some (.str s)) → h'.get b = .cells 1 v cs
theorem LR.stn {h h' : Heap} (s : Stn h h') {x : AV} {l : List Int} (e : LR h x l) : LR h' x l:=by
  rcases LR.cases e with ⟨rfl,rfl⟩ | ⟨rfl,rfl⟩ | ⟨b,v,rfl,g⟩
  · exact .inl rfl
  · exact .inr ⟨rfl,rfl⟩
  · refine .inl (listOf_cells (s _ _ _ g (fun t e => ?_)) rfl)
    rw [List.getElem?_map,Option.map_eq_some_iff] at e
    obtain ⟨_,_,e⟩:=e
    cases e
theorem MR.stn {h h' : Heap} (s : Stn h h') {y : AV} {M : List (List Int)} (m : MR h y M) : MR h' y M:=by
  rcases m with m | ⟨b,v,cs,rfl,g,hl,hr⟩
  · exact .inl m
  · refine .inr ⟨b,v,cs,rfl,s _ _ _ g (fun t e => ?_),hl,fun i r e => ?_⟩
    · obtain ⟨l,_,h2⟩:=hr 0 _ e
      rcases LR.cases h2 with ⟨h,_⟩ | ⟨h,_⟩ | ⟨_,_,h,_⟩ <;> cases h
    · obtain ⟨l,h1,h2⟩:=hr i r e
      exact ⟨l,h1,LR.stn s h2⟩
theorem OkR.stn {h h' : Heap} (s : Stn h h') {a : AR} (o : OkR a h) : OkR a h':=⟨MR.stn s o.1,MR.stn s o.2.1,o.2.2⟩
theorem cut_stn {h : Heap} {args : List AV} {b n v w : Nat} {s : List UInt8} {cs : List AV} (g : h.get b = .cells 1 w (.str s :: cs)) (ho : ∀ i X,i ≠ b → cutO args i X = X) : Stn h (cutA args h):=fun i v' cs' e hn => by
  rw [cutA_get,ho i _ (fun e' => ?_)]
  · exact e
  · subst e'
    rw [e] at g
    simp only [AObj.cells.injEq,true_and] at g
    exact hn s (by rw [g.2]; rfl)
theorem RV.back {h h' : Heap} (hs : h'.size = h.size) {own : List AObj} {x : AV} {cs : List AV} (r : RV (h'.plus own) x cs) (f : ∀ q,blk x = some q → h'.size ≤ q) : RV (h.plus own) x cs:=by
  rcases r with h | ⟨b,v,rfl,g⟩
  · exact .inl h
  · have:=f b rfl
    refine .inr ⟨b,v,rfl,?_⟩
    rw [plus_ge _ _ _ this] at g
    rw [plus_ge _ _ _ (by omega),← hs]; exact g
theorem Post48.back {h h' : Heap} (hs : h'.size = h.size) {a : AR} {L : List (List UInt8)} {n : Int} {v : AV} {own : List AObj} (p : Post48 a L n h' v own) : Post48 a L n h v own :=
  ⟨p.1,fun e R hL hR => ⟨(p.2 e R hL hR).1,fun P k eP vc => ⟨((p.2 e R hL hR).2 P k eP vc).1,fun ha => by
    obtain ⟨x,e1,e2,e3⟩:=((p.2 e R hL hR).2 P k eP vc).2 ha
    exact ⟨x,e1,fun q hq => by rw [← hs]; exact e2 q hq,RV.back hs e3 e2⟩⟩⟩⟩
noncomputable def T76 : CallF:=addC T75 48
theorem t76 : Sound Go.Proofs.Try.prog T76:=t75.addC 48
abbrev K48p (J : CallF) : Prop:=∀ (h : Heap) (b : A48),OkR b.a h → PL h b.x (ss b.L) → b.L ≠ [] → b.L.length ≤ 1000000 → (∀ s ∈ b.L,s.length ≤ 1000000) → ∃ v own,J 48 [b.a.v,b.x,G b.n] h = some (v,own,false) ∧ Post48 b.a b.L b.n h v own
theorem k48p : K48p T76:=fun h ⟨a,x,L,n⟩ o px ne l1 l2 => by
  simp only at o px ne l1 l2 ⊢
  obtain ⟨_,e⟩ | ⟨b,v,rest,rfl,g⟩:=px
  · simp only [List.map_eq_nil_iff] at e; exact absurd e ne
  obtain ⟨s,L',rfl⟩:=List.exists_cons_of_ne_nil ne
  have hcut : ∀ i X,cutO [a.v,.slice b 0 (ss (s :: L')).length v,G n] i X = if b = i then cutX (ss (s :: L')).length X else X:=fun i X => by
    unfold cutO; unfold cutO; rfl
  have gb : (cutA [a.v,.slice b 0 (ss (s :: L')).length v,G n] h).get b = .cells 1 v (ss (s :: L')):=by
    rw [cutA_get,hcut,if_pos rfl,g,cutX_pl]
  have st : Stn h (cutA [a.v,.slice b 0 (ss (s :: L')).length v,G n] h):=cut_stn (n:=0) (v:=0) (s:=s) (cs:=ss L' ++ rest) g (fun i X hi => by rw [hcut,if_neg (fun e => hi e.symm)])
  obtain ⟨v1,own,e,p⟩:=k48 (cutA [a.v,.slice b 0 (ss (s :: L')).length v,G n] h) ⟨a,.slice b 0 (ss (s :: L')).length v,s :: L',n⟩ ⟨OkR.stn st o,.inr ⟨b,v,rfl,gb⟩,l1,l2⟩
  exact ⟨v1,own,addC_eq e,Post48.back (cutA_size _ _) p⟩
noncomputable def T77 : CallF:=addC T76 29
theorem t77 : Sound Go.Proofs.Try.prog T77:=t76.addC 29
abbrev K29p (J : CallF) : Prop:=∀ (h : Heap) (b : A29),PL h b.x (ss b.L) → PL h b.z (ss b.M) → (∀ q,blk b.x = some q → blk b.z ≠ some q) → b.L.length ≤ 1000000 → b.M.length ≤ 1000000 → J 29 [b.x,b.z] h = some (.bool (decide (b.L = b.M)),[],false)
theorem k29_76 : K29 T76:=fun h b h1 h2 h3 h4 => by
  rw [show T76 29 [b.x,b.z] h = T27 29 [b.x,b.z] h from by simp (disch:=decide) only [T28,T29,T30,T31,T32,T33,T34,T35,T36,T37,T38,T39,T40,T41,T42,T43,T44,T45,T46,T47,T48,T49,T50,T51,T52,T53,T54,T55,T56,T57,T58,T59,T60,T61,T62,T63,T64,T65,T66,T67,T68,T69,T70,T71,T72,T73,T74,T75,T76,addI_ne,addX_ne,addV_ne,addK_ne,addC_ne]]; exact k29 h b h1 h2 h3 h4
theorem k29p : K29p T77:=fun h ⟨x,z,L,M⟩ px pz ne l1 l2 => by
  simp only at px pz ne l1 l2 ⊢
  have cx : ∀ X,cutO [x,z] 0 X = cutO [x,z] 0 X:=fun _ => rfl
  have rx : RV (cutA [x,z] h) x (ss L):=by
    rcases px with ⟨rfl,e⟩ | ⟨b,v,rest,rfl,g⟩
    · exact .inl ⟨rfl,e⟩
    · refine .inr ⟨b,v,rfl,?_⟩
      rw [cutA_get,g]
      show (if b = b then cutX (ss L).length _ else _) = _
      rw [if_pos rfl,cutX_pl]
  have rz : RV (cutA [x,z] h) z (ss M):=by
    rcases pz with ⟨rfl,e⟩ | ⟨c,w,rest,rfl,g⟩
    · exact .inl ⟨rfl,e⟩
    · refine .inr ⟨c,w,rfl,?_⟩
      rw [cutA_get,g]
      rcases px with ⟨rfl,e⟩ | ⟨b,v,rest',rfl,g'⟩
      · show (if c = c then cutX (ss M).length _ else _) = _
        rw [if_pos rfl,cutX_pl]
      · have : b ≠ c:=fun e => ne b rfl (by rw [e]; rfl)
        show (if b = c then _ else if c = c then cutX (ss M).length _ else _) = _
        rw [if_neg this,if_pos rfl,cutX_pl]
  exact addC_eq (k29_76 (cutA [x,z] h) ⟨x,z,L,M⟩ rx rz l1 l2)
theorem TB.mr {H0 h : Heap} {x : AV} {M : List (List Int)} (t : TB H0 h x (M.map gs)) : MR h x M:=by
  obtain ⟨rs,lv,hl,hr⟩:=t.r
  rw [List.length_map] at hl
  rcases lv with ⟨rfl,rfl⟩ | ⟨b,rfl,g,n⟩
  · exact .inl ⟨.inl rfl,List.length_eq_zero_iff.1 hl.symm⟩
  · refine .inr ⟨b,rs.length,rs,by rw [hl],g,hl,fun i r e => ?_⟩
    obtain ⟨cs,b',h1,h2,h3,_⟩:=hr i r e
    rw [List.getElem?_map] at h1
    cases hN : M[i]? with
    | none => rw [hN] at h1; cases h1
    | some l =>
      rw [hN] at h1
      simp only [Option.map_some,Option.some.injEq] at h1
      subst h1
      exact ⟨l,rfl,.inl (by rw [h2]; exact listOf_cells h3 (by simp))⟩
theorem tabQ_small {n : Nat} {B : List (List Int)} (h : tabQ n B = true) (h3 : n ≤ 3) : smallM B ∧ B.length ≤ 1000000 ∧ ∀ l ∈ B,l.length ≤ 1000000:=by
  have hr : ∀ l ∈ B,l.length = n:=fun l hl => by
    unfold tabQ at h
    rw [Bool.and_eq_true] at h
    have:=(List.all_eq_true.1 h.2) l hl
    unfold rowQ at this
    rw [Bool.and_eq_true,decide_eq_true_iff] at this
    omega
  have hl:=(tabQ_row h).1
  refine ⟨⟨by omega,fun i => ?_⟩,by omega,fun l hl => by rw [hr l hl]; omega⟩
  rw [List.getD_eq_getElem?_getD]
  cases hi : B[i]? with
  | none => simp
  | some l =>
    obtain ⟨h1,h2⟩:=List.getElem?_eq_some_iff.1 hi
    have:=hr l (h2 ▸ List.getElem_mem _)
    simp only [Option.getD_some]; omega
def AR.of (n : Nat) (x y : AV) (B W : List (List Int)) : AR:=⟨n,x,y,B,W⟩
theorem ru_of {n : Nat} {x y : AV} {B W : List (List Int)} (hn : 1 ≤ n ∧ n ≤ 3) (hB : tabQ n B = true) (hW : tabQ n W = true) : (AR.of n x y B W).ru = true:=by
  unfold AR.ru AR.of ruQ
  simp only [hB,hW,Bool.and_true,decide_eq_true_eq]
  omega
theorem gd_of {n : Nat} {x y : AV} {B W : List (List Int)} (hn : 1 ≤ n ∧ n ≤ 3) (hB : tabQ n B = true) (hW : tabQ n W = true) {m k lo : Int} (h1 : 1 ≤ m ∧ m ≤ 5) (h2 : lo ≤ k ∧ k ≤ 40) : (AR.of n x y B W).gd m k lo = true:=by
  unfold AR.gd AR.rm
  rw [ru_of hn hB hW,decide_eq_true h1,decide_eq_true h2]; rfl
section
variable {nq m nn : Int} {X Y : List (List Int)}
end
section
variable {S : List (List Nat)} {u4 u6 u8 u0 : AV} {k1 k2 k3 k4 : Nat}
theorem RV.lv {h : Heap} {y : AV} {L : List Nat} (r : RV h y (gn L)) (hl : 0 < L.length) : ∃ b v,y = .slice b 0 L.length v ∧ h.get b = .cells 1 v (gn L):=by
  rcases r with ⟨_,e⟩ | ⟨b,v,e,g⟩
  · have : (gn L).length = 0:=by rw [e]; rfl
    rw [gn_len] at this; omega
  · rw [gn_len] at e; exact ⟨b,v,e,g⟩
end
theorem vc_rg {W : List (List Int)} {rows : List (List Nat)} : ∀ {P : List Nat} {now : Int},VC (stL W rows) now P → ∀ i,i + 1 < P.length → blw W (rows.getD (P.getD i 0) []) (rows.getD (P.getD (i + 1) 0) []) = true
  | [],_,_,i,hi => absurd hi (by simp)
  | [c],_,_,i,hi => absurd hi (by simp)
  | c :: d :: P,now,⟨h1,h2,h3⟩,i,hi => by
    have sl : (stL W rows).length = rows.length:=by simp [stL]
    cases i with
    | zero =>
      obtain ⟨g1,g2,_⟩:=h3
      unfold pN at g2
      rw [decide_eq_false (by omega),Bool.false_or,Int.toNat_natCast,stL_mem (by omega) (by omega)] at g2
      exact g2
    | succ i => exact vc_rg h3 i (by simpa using hi)
theorem vc_ok {a : AR} {m : Int} (g : a.rm m = true) {P : List Nat} {now : Int} (vc : VC (a.steps m) now P) : kpS a.g (rT2 (a.rows m) P) = true ∧ ∀ w ∈ rT2 (a.rows m) P,w.length = m.toNat ∧ ∀ c ∈ w,c < a.q.toNat:=by
  obtain ⟨os,s243,sr⟩:=AR.steps_ok g
  have lt : ∀ c ∈ P,c < (a.rows m).length:=fun c hc => by rw [← sr]; exact vc.lt c hc
  have mem : ∀ c ∈ P,(a.rows m).getD c [] ∈ a.rows m:=fun c hc => by
    rw [List.getD_eq_getElem?_getD,List.getElem?_eq_getElem (lt c hc)]
    exact List.getElem_mem _
  have l2 : (rT2 (a.rows m) P).length = P.length:=by unfold rT2; rw [List.length_map]
  constructor
  · rw [kpS_iff]
    intro i hi
    rw [l2] at hi
    rw [rT2_at hi]
    refine ⟨(rwL_mem (mem _ (gD_mem hi))).2.2,?_⟩
    cases i with
    | zero => exact .inl rfl
    | succ i =>
      right
      rw [Nat.add_sub_cancel,rT2_at (by omega)]
      exact vc_rg vc i hi
  · intro w hw
    obtain ⟨c,hc,rfl⟩:=gw_mem hw
    have:=rwL_mem (mem c hc)
    exact ⟨this.1,this.2.1⟩
theorem isS_rows {a : AR} {m : Int} (g : a.rm m = true) {P : List Nat} (vc : VC (a.steps m) (-1) P) (n1 : 1 ≤ P.length) (n40 : P.length ≤ 40) : (a.ru && isS a.q.toNat ((rT2 (a.rows m) P).map stW)) = true ∧ (((rT2 (a.rows m) P).map stW).getD 0 []).length = m.toNat ∧ ((rT2 (a.rows m) P).map stW).length = P.length:=by
  obtain ⟨r1,r2⟩:=a.rm_iff g
  obtain ⟨h1,h2⟩:=vc_ok g vc
  have q3:=a.q3 r1
  have l2 : (rT2 (a.rows m) P).length = P.length:=by unfold rT2; rw [List.length_map]
  refine ⟨?_,?_,by rw [List.length_map,l2]⟩
  · rw [r1,isS_of (m:=m.toNat) (by omega) h2 (by omega) (by omega) (by omega) (by omega)]; rfl
  · rw [List.getD_eq_getElem?_getD,List.getElem?_map,List.getElem?_eq_getElem (by omega)]
    show (stW _).length = _
    rw [stW_len]
    exact (h2 _ (List.getElem_mem _)).1
section
variable {nq m0 n0 k0 : Int} {X Y : List (List Int)}
end
theorem bl_asym : ∀ {s t : List UInt8},Op.bytesLess s t = true → Op.bytesLess t s = false
  | [],[],h => by cases h
  | [],_ :: _,_ => rfl
  | _ :: _,[],h => by cases h
  | a :: s,b :: t,h => by
    have h' : (decide (a < b) || (a == b && Op.bytesLess s t)) = true:=h
    show (decide (b < a) || (b == a && Op.bytesLess t s)) = false
    rw [Bool.or_eq_true,decide_eq_true_eq,Bool.and_eq_true,beq_iff_eq] at h'
    rw [Bool.or_eq_false_iff,decide_eq_false_iff_not]
    rcases h' with h' | ⟨rfl,h'⟩
    · refine ⟨fun h2 => ?_,?_⟩
      · rw [UInt8.lt_iff_toNat_lt] at h' h2; omega
      · rw [Bool.and_eq_false_iff]
        left
        rw [beq_eq_false_iff_ne]
        intro e; subst e
        rw [UInt8.lt_iff_toNat_lt] at h'; omega
    · refine ⟨fun h2 => ?_,?_⟩
      · rw [UInt8.lt_iff_toNat_lt] at h2; omega
      · rw [bl_asym h',Bool.and_false]
theorem rT2_len (R : List (List Nat)) (P : List Nat) : (rT2 R P).length = P.length:=by unfold rT2; rw [List.length_map]
theorem rT2_app (R : List (List Nat)) (P Q : List Nat) : rT2 R (P ++ Q) = rT2 R P ++ rT2 R Q:=by unfold rT2; rw [List.map_append]
theorem ext_call {J : CallF} (K : K48p J) {a : AR} {m : Int} {H : Heap} {x : AV} {P : List Nat} (g : a.rm m = true) (o : OkR a H) (vc : VC (a.steps m) (-1) P) (n1 : 1 ≤ P.length) {N : Nat} (hn : P.length ≤ N) (n40 : N ≤ 40) (px : PL H x (wsL (rT2 (a.rows m) P))) :
    ∃ y own,J 48 [a.v,x,G N] H = some (y,own,false) ∧ (al (a.steps m) (N - P.length) (P.getD (P.length - 1) 0) = false → y = .tup [.nils,G 6] ∧ own = []) ∧ (al (a.steps m) (N - P.length) (P.getD (P.length - 1) 0) = true → ∃ z,y = .tup [z,G 0] ∧ (∀ q,blk z = some q → H.size ≤ q) ∧ RV (H.plus own) z (wsL (rT2 (a.rows m) (P ++ ext (a.steps m) (N - P.length) (P.getD (P.length - 1) 0))))):=by
  obtain ⟨r1,r2⟩:=a.rm_iff g
  obtain ⟨s1,s2,s3⟩:=isS_rows g vc n1 (by omega)
  obtain ⟨kp,wd⟩:=vc_ok g vc
  have ne : (rT2 (a.rows m) P).map stW ≠ []:=fun e => by
    have:=congrArg List.length e
    rw [s3,List.length_nil] at this
    omega
  rw [ws_ss] at px
  obtain ⟨v,own,e,p⟩:=K H ⟨a,x,(rT2 (a.rows m) P).map stW,N⟩ o px ne (by show ((rT2 (a.rows m) P).map stW).length ≤ _; rw [s3]; omega) (fun s hs => by
    obtain ⟨w,hw,rfl⟩:=List.mem_map.1 hs
    rw [stW_len,(wd w hw).1]
    omega)
  simp only at e p
  have ok : okX a ((rT2 (a.rows m) P).map stW) (N : Int) = true:=by
    unfold okX
    rw [s1,s3,decide_eq_true (by omega)]; rfl
  have mm : ((m.toNat : Nat) : Int) = m:=by omega
  have pp:=((p.2 ok _ rfl (fun w hw => (wd w hw).2)).2 P kp)
  rw [s2,mm,s3,Int.toNat_natCast] at pp
  obtain ⟨p1,p2⟩:=pp rfl vc
  refine ⟨v,own,e,p1,fun ha => ?_⟩
  obtain ⟨z,e1,e2,e3⟩:=p2 ha
  refine ⟨z,e1,e2,?_⟩
  have mt : (m.toNat : Int) = m:=mm
  rw [rT2_app]
  unfold extR at e3
  rw [mm] at e3
  exact e3
theorem keeps_call {J : CallF} (K : K45 J) {a : AR} {m : Int} {H : Heap} {x : AV} {P : List Nat} (g : a.rm m = true) (o : OkR a H) (vc : VC (a.steps m) (-1) P) (n1 : 1 ≤ P.length) (n40 : P.length ≤ 40) (rx : RV H x (wsL (rT2 (a.rows m) P))) : J 45 [a.v,x] H = some (.tup [.bool true,G 0],[],false):=by
  obtain ⟨r1,r2⟩:=a.rm_iff g
  obtain ⟨s1,s2,s3⟩:=isS_rows g vc n1 n40
  obtain ⟨kp,wd⟩:=vc_ok g vc
  obtain ⟨v,own,e,p1,_,p3⟩:=K H ⟨a,x,(rT2 (a.rows m) P).map stW⟩ ⟨o,by
    rcases rx with ⟨e1,e2⟩ | h
    · have:=congrArg List.length e2
      rw [wsL_len,rT2_len,List.length_nil] at this
      omega
    · rw [← ws_ss]; exact .inr h,by show ((rT2 (a.rows m) P).map stW).length ≤ _; rw [s3]; omega,fun s hs => by
    obtain ⟨w,hw,rfl⟩:=List.mem_map.1 hs
    rw [stW_len,(wd w hw).1]
    omega⟩
  simp only at e p1 p3
  subst p1
  rw [e,p3 s1 _ rfl (fun w hw => (wd w hw).2),kp]
theorem RV.pre {H : Heap} {b v n : Nat} {cs : List AV} (r : RV H (.slice b 0 n v) cs) {k : Nat} (hk : k ≤ cs.length) : PL H (.slice b 0 k v) (cs.take k):=by
  rcases r with ⟨e,_⟩ | ⟨b',v',e,g⟩
  · cases e
  · rw [AV.slice.injEq] at e
    obtain ⟨rfl,_,_,rfl⟩:=e
    exact .inr ⟨b,v,cs.drop k,by rw [List.length_take,Nat.min_eq_left hk],by rw [List.take_append_drop]; exact g⟩
theorem rT2_take (R : List (List Nat)) (P : List Nat) (k : Nat) : (wsL (rT2 R P)).take k = wsL (rT2 R (P.take k)):=by
  unfold wsL rT2
  rw [← List.map_take,← List.map_take]
theorem bfr_ext {a : AR} {m : Int} (g : a.rm m = true) {A : List Nat} {i : Nat} {B : List Nat} (vc : VC (a.steps m) (i : Int) B) : bfr ((rT2 (a.rows m) (A ++ [i] ++ B)).map stW) ((rT2 (a.rows m) (A ++ [i] ++ ext (a.steps m) B.length i)).map stW) = false:=by
  obtain ⟨os,s243,sr⟩:=AR.steps_ok g
  have hs : Srt (a.steps m):=srt_st _ _
  have q3 : a.q.toNat ≤ 3:=by
    have:=a.q3 (a.rm_iff g).1
    omega
  rcases ext_min hs vc with e | ⟨t,t1,t2,x,y,t3,t4,t5⟩
  · rw [← e]; exact bfr_same _
  · have hx : x < (a.rows m).length:=by
      rw [← sr]
      exact vc.lt x (List.mem_iff_getElem?.2 ⟨t,t3⟩)
    have less:=rows_srt (q:=a.q.toNat) (m:=m.toNat) (B:=a.B) q3 t5 hx
    have lessA:=bl_asym less
    have gt : ∀ (C : List Nat) (u : Nat),(A ++ [i] ++ C)[A.length + 1 + u]? = C[u]?:=fun C u => by
      have hl : (A ++ [i]).length = A.length + 1:=by rw [List.length_append]; rfl
      rw [List.getElem?_append_right (by omega),hl]
      congr 1; omega
    have lt : ∀ (C D : List Nat) (u : Nat),u < A.length + 1 → (A ++ [i] ++ C)[u]? = (A ++ [i] ++ D)[u]?:=fun C D u hu => by
      have hl : (A ++ [i]).length = A.length + 1:=by rw [List.length_append]; rfl
      rw [List.getElem?_append_left (l₁:=A ++ [i]) (l₂:=C) (by omega),List.getElem?_append_left (l₁:=A ++ [i]) (l₂:=D) (by omega)]
    rw [bfr_at (t:=A.length + 1 + t) (x:=stW ((a.rows m).getD x [])) (y:=stW ((a.rows m).getD y [])) (fun u hu => by
      unfold rT2
      simp only [List.getElem?_map]
      congr 2
      by_cases c : u < A.length + 1
      · exact lt _ _ u c
      · obtain ⟨w,rfl⟩ : ∃ w,u = A.length + 1 + w:=⟨u - (A.length + 1),by omega⟩
        rw [gt,gt]; exact t2 w (by omega)) ?_ ?_ ?_]
    · exact lessA
    · unfold rT2
      simp only [List.getElem?_map]
      rw [gt,t3]; rfl
    · unfold rT2
      simp only [List.getElem?_map]
      rw [gt,t4]; rfl
    · intro e
      have less' : Op.bytesLess (stW ((a.rows m).getD y [])) (stW ((a.rows m).getD x [])) = true:=less
      rw [e,bl_irr] at less'
      cases less'
structure KnF (J : CallF) : Prop where
  k18 : K18 J
  k19 : K19 J
  k21 : K21 J
  k32 : K32 J
  k45 : K45 J
  k48 : K48p J
  k29 : K29p J
  k54 : K54 J
  k23 : ∀ h,J 23 [] h = some (.bool true,[],false)
theorem first_ext {S : List (List Nat)} (os : OkS S) {n : Nat} {now : Int} (h : 0 < ((nwL S now).map (cnt S n)).sum) : ∃ c,itm S (n + 1) (nwL S now) 0 = c :: ext S n c ∧ al S n c = true:=by
  obtain ⟨h1,h2,h3⟩:=pk_ok h
  have h4 : (pk (cnt S n) (nwL S now) 0).2 = 0:=by omega
  have ha : al S n (pk (cnt S n) (nwL S now) 0).1 = true:=by
    rw [← cnt_al]
    exact decide_eq_true (by omega)
  refine ⟨_,?_,ha⟩
  have e : itm S (n + 1) (nwL S now) 0 = (pk (cnt S n) (nwL S now) 0).1 :: itm S n (S.getD (pk (cnt S n) (nwL S now) 0).1 []) (pk (cnt S n) (nwL S now) 0).2:=rfl
  rw [e,h4,ext_itm ha]
section
variable {nq m0 n0 k0 : Int} {X Y : List (List Int)}
set_option maxHeartbeats 4000000 in
theorem c14_ok (J : CallF) (K : KnF J) (hJ : ∀ a h,J 14 a h = none) (h : Heap) {x y : AV} (mx : MR h x X) (my : MR h y Y) : CallsTo tbl J 14 [.agg [G nq,x,y],.agg [G m0,G n0,G k0]] h (.bool true,[],false):=by
  refine Tr.fnv (cf:=c14) (e:=.ret) (s:=T.set (T.set .leaf [] (.agg [G nq,x,y])) [false] (.agg [G m0,G n0,G k0])) (by decide) rfl (hJ _ _) rfl rfl rfl (by simp) ?_
  refine Tr.post (Q:=(fun s h => s.get [true,false] = .bool true)) (fun s h q => by simp [c14,q]) ?_
  have mx0 : MR (frameOf h) x X:=mx.lo []
  have my0 : MR (frameOf h) y Y:=my.lo []
  generalize frameOf h = H0 at *
  obtain ⟨Hr,hr⟩ : ∃ H,H0.plus [.cells 0 3 [G nq,x,y]] = H:=⟨_,rfl⟩
  have kr : Kp (fun _ => False) H0 Hr:=by rw [← hr]; exact Kp.plus _ _
  have gS0 : Hr.get H0.size = .cells 0 3 [G nq,x,y]:=by rw [← hr]; exact plus_at0 _ _ _ _ rfl
  obtain ⟨Ha,ha⟩ : ∃ H,Hr.plus [.cells 0 3 [G m0,G n0,G k0]] = H:=⟨_,rfl⟩
  have ka : Kp (fun _ => False) Hr Ha:=by rw [← ha]; exact Kp.plus _ _
  have gS:=ka.at gS0 (by simp) id
  have gA0 : Ha.get Hr.size = .cells 0 3 [G m0,G n0,G k0]:=by rw [← ha]; exact plus_at0 _ _ _ _ rfl
  obtain ⟨v,own1,e18,n,x1,y1,B,Wt,rfl,hn,⟨t1,hB⟩,t2,hW⟩:=K.k18 Ha ⟨nq,x,y,X,Y⟩ ⟨(mx0.kp kr).kp ka,(my0.kp kr).kp ka⟩
  simp only at e18
  obtain ⟨Hb,hb⟩ : ∃ H,Ha.plus own1 = H:=⟨_,rfl⟩
  have kb : Kp (fun _ => False) Ha Hb:=by rw [← hb]; exact Kp.plus _ _
  rw [hb] at t1 t2
  obtain ⟨Hc,hc⟩ : ∃ H,Hb.plus [.cells 0 3 [G n,x1,y1]] = H:=⟨_,rfl⟩
  have kc : Kp (fun _ => False) Hb Hc:=by rw [← hc]; exact Kp.plus _ _
  have gc : Hc.get Hb.size = .cells 0 3 [G n,x1,y1]:=by rw [← hc]; exact plus_at0 _ _ _ _ rfl
  have gA:=(kb.trans kc).at gA0 (by simp) id
  obtain ⟨sB,sB1,sB2⟩:=tabQ_small hB hn.2
  obtain ⟨sW,sW1,sW2⟩:=tabQ_small hW hn.2
  have oa : OkR (AR.of n x1 y1 B Wt) Hc:=⟨(t1.kp kc).mr,(t2.kp kc).mr,sB,sW⟩
  have b1:=mdZ_bd m0 (n:=5) (by omega)
  have b2:=mdZ_bd n0 (n:=10) (by omega)
  have e19:=K.k19 m0 5 Hc (by omega) (by omega)
  have e19':=K.k19 n0 10 Hc (by omega) (by omega)
  generalize mdZ m0 5 = zm at *
  generalize mdZ n0 10 = zn at *
  obtain ⟨M,hM⟩ : ∃ M : Nat,zm = M:=⟨zm.toNat,by omega⟩
  obtain ⟨N,hN⟩ : ∃ N : Nat,zn = N:=⟨zn.toNat,by omega⟩
  subst hM; subst hN
  have rm : (AR.of n x1 y1 B Wt).rm (M + 1 : Nat) = true:=by
    unfold AR.rm
    rw [ru_of hn hB hW,decide_eq_true (by omega)]; rfl
  have gd : (AR.of n x1 y1 B Wt).gd (M + 1 : Nat) (N + 1 : Nat) 0 = true:=gd_of hn hB hW (by omega) (by omega)
  obtain ⟨os,s243,sr⟩:=AR.steps_ok rm
  have va : (AR.of n x1 y1 B Wt).v = .agg [G n,x1,y1]:=rfl
  obtain ⟨a,haa⟩ : ∃ a,AR.of n x1 y1 B Wt = a:=⟨_,rfl⟩
  rw [haa] at oa rm gd os s243 sr va
  have e21:=K.k21 Hc a (M + 1 : Nat) (N + 1 : Nat) oa
  have cv : a.cntV (M + 1 : Nat) (N + 1 : Nat) = if okC (a.steps (M + 1 : Nat)) (N + 1) then .tup [G (a.cn (M + 1 : Nat) (N + 1)),G 0] else .tup [G 0,G 5]:=by
    unfold AR.cntV
    rw [if_pos gd]; rfl
  have k23:=K.k23
  have a1 : ((M + 1 : Nat) : Int) = 1 + (M : Int):=by omega
  have a2 : ((N + 1 : Nat) : Int) = 1 + (N : Int):=by omega
  have hp0 : Hc.plus [] = Hc:=by simp [Heap.plus]
  have gc':=fun H (k : Kp (fun _ => False) Hc H) => k.at gc (by simp) id
  rw [cv,va] at e21
  cases hk : okC (a.steps (M + 1 : Nat)) (N + 1)
  · rw [hk,if_neg (by simp),a1,a2] at e21
    clear K mx my mx0 my0 t1 t2 oa kr ka kb kc haa va sB sB1 sB2 sW sW1 sW2 rm gd os s243 sr cv hk hB hW gA0 gS0 gc'
    refine Tr.w fun s1 H1 hp _ kR => ?_
    obtain ⟨rfl,rfl⟩:=hp
    have q : True:=trivial
    refine W.seq (W.chunk ?_)
    simp (disch:=first|omega|exact zE rfl|exact zO|exact zL rfl) [c14_o0,zG,q,hr,ha]
    refine W.seq (W.chunk ?_)
    simp (disch:=first|omega|exact zE rfl|exact zO|exact zL rfl) [c14_o1,zG,q,gS,e18,app_if,app_if',hb,hc]
    refine W.seq (W.chunk ?_)
    simp (disch:=first|omega|exact zE rfl|exact zO|exact zL rfl) [-evDraw_c,c14_o2,zG,q,evDraw_0,gA,e19,e19']
    refine W.seq (W.chunk ?_)
    simp (disch:=first|omega|exact zE rfl|exact zO|exact zL rfl) [c14_o3,zG,q,gc,e21]
    refine W.assoc ?_
    refine W.seq (W.chunk ?_)
    simp (disch:=first|omega|exact zE rfl|exact zO|exact zL rfl) [c14_o4,zG,q]
    refine W.seq (W.cond (v:=true) (by simp (disch:=first|omega|exact zE rfl|exact zO|exact zL rfl) [zG,q]) ?_)
    simp only [if_true,if_false,Bool.false_eq_true]
    refine W.seq (W.chunk ?_)
    simp (disch:=first|omega|exact zE rfl|exact zO|exact zL rfl) [c14_o5,zG,q,k23]
    refine W.ret ?_
    try simp only [zW,if_true]
    exact kR _ _ (by simp [T.get])
  · rw [hk,if_pos rfl,a1,a2] at e21
    have cn : a.cn (M + 1 : Nat) (N + 1) = (rowC (a.steps (M + 1 : Nat)) N).sum:=by
      unfold AR.cn
      rw [if_neg (by omega),Nat.add_sub_cancel]
    have bc:=okC_iff.1 hk N (by omega)
    rw [← cn] at bc
    rw [a1] at cn
    by_cases c0 : a.cn (1 + (M : Int)) (N + 1) = 0
    · rw [c0] at e21
      clear K mx my mx0 my0 t1 t2 oa kr ka kb kc haa va sB sB1 sB2 sW sW1 sW2 rm gd os s243 sr cv hk hB hW gA0 gS0 gc' cn bc c0
      refine Tr.w fun s1 H1 hp _ kR => ?_
      obtain ⟨rfl,rfl⟩:=hp
      have q : True:=trivial
      refine W.seq (W.chunk ?_)
      simp (disch:=first|omega|exact zE rfl|exact zO|exact zL rfl) [c14_o0,zG,q,hr,ha]
      refine W.seq (W.chunk ?_)
      simp (disch:=first|omega|exact zE rfl|exact zO|exact zL rfl) [c14_o1,zG,q,gS,e18,app_if,app_if',hb,hc]
      refine W.seq (W.chunk ?_)
      simp (disch:=first|omega|exact zE rfl|exact zO|exact zL rfl) [-evDraw_c,c14_o2,zG,q,evDraw_0,gA,e19,e19']
      refine W.seq (W.chunk ?_)
      simp (disch:=first|omega|exact zE rfl|exact zO|exact zL rfl) [c14_o3,zG,q,gc,e21]
      refine W.assoc ?_
      refine W.seq (W.chunk ?_)
      simp (disch:=first|omega|exact zE rfl|exact zO|exact zL rfl) [c14_o4,zG,q]
      refine W.seq (W.cond (v:=true) (by simp (disch:=first|omega|exact zE rfl|exact zO|exact zL rfl) [zG,q]) ?_)
      simp only [if_true,if_false,Bool.false_eq_true]
      refine W.seq (W.chunk ?_)
      simp (disch:=first|omega|exact zE rfl|exact zO|exact zL rfl) [c14_o5,zG,q,k23]
      refine W.ret ?_
      try simp only [zW,if_true]
      exact kR _ _ (by simp [T.get])
    · rw [a1] at bc
      obtain ⟨all,hall⟩ : ∃ all,a.cn (1 + (M : Int)) (N + 1) = all:=⟨_,rfl⟩
      rw [hall] at e21 bc cn c0
      have b3:=mdZ_bd k0 (n:=all) (by omega)
      have hs : Srt (a.steps (M + 1 : Nat)):=srt_st _ _
      have cn' : a.cn (M + 1 : Nat) (N + 1) = all:=by rw [a1]; exact hall
      have nwr : nwL (a.steps (M + 1 : Nat)) (-1) = List.range (a.steps (M + 1 : Nat)).length:=rfl
      have hsum : ((nwL (a.steps (M + 1 : Nat)) (-1)).map (cnt (a.steps (M + 1 : Nat)) (N + 1 - 1))).sum = all:=by
        rw [nwr,Nat.add_sub_cancel,cn,a1]; rfl
      have itR : ∀ k,a.itR (M + 1 : Nat) (N + 1) k = rT2 (a.rows (M + 1 : Nat)) (itm (a.steps (M + 1 : Nat)) (N + 1) (nwL (a.steps (M + 1 : Nat)) (-1)) k):=fun _ => rfl
      have item : ∀ H (k : Nat),Kp (fun _ => False) Hc H → k < all → ∃ b v own,J 32 [a.v,G (M + 1 : Nat),G (N + 1 : Nat),G k] H = some (.tup [.slice b 0 (N + 1) v,G 0],own,false) ∧ RV (H.plus own) (.slice b 0 (N + 1) v) (wsL (rT2 (a.rows (M + 1 : Nat)) (itm (a.steps (M + 1 : Nat)) (N + 1) (nwL (a.steps (M + 1 : Nat)) (-1)) k))):=fun H k kH hk' => by
        obtain ⟨v32,own32,e32,_,_,_,p4⟩:=K.k32 H a (M + 1 : Nat) (N + 1 : Nat) k (oa.kp kH)
        obtain ⟨xi,rfl,rvi⟩:=p4 gd (by rw [Int.toNat_natCast]; exact hk) ⟨by omega,by rw [Int.toNat_natCast,cn']; omega⟩
        rw [Int.toNat_natCast,Int.toNat_natCast,itR] at rvi
        have sl:=rvi.sl
        rw [wsL_len,rT2_len,itm_len] at sl
        obtain ⟨b,v,rfl⟩:=sl.resolve_left (fun e => by omega)
        exact ⟨b,v,own32,e32,rvi⟩
      obtain ⟨b0,v0,own0,e32a,r0⟩:=item Hc 0 (Kp.refl _) (by omega)
      obtain ⟨P0,hP0⟩ : ∃ P,itm (a.steps (M + 1 : Nat)) (N + 1) (nwL (a.steps (M + 1 : Nat)) (-1)) 0 = P:=⟨_,rfl⟩
      have vc0:=(ix_itm hs (j:=N + 1) (now:=-1) (k:=0) (.inl ⟨by omega,by rw [hsum]; omega⟩)).2
      have lp0:=itm_len (a.steps (M + 1 : Nat)) (N + 1) (nwL (a.steps (M + 1 : Nat)) (-1)) 0
      obtain ⟨c0',ec0,ac0⟩:=first_ext os (now:=-1) (n:=N) (by rw [Nat.add_sub_cancel] at hsum; rw [hsum]; omega)
      rw [hP0] at r0 vc0 lp0 ec0
      obtain ⟨Hd,hd⟩ : ∃ H,Hc.plus own0 = H:=⟨_,rfl⟩
      have kd : Kp (fun _ => False) Hc Hd:=by rw [← hd]; exact Kp.plus _ _
      rw [hd] at r0
      have e19k:=K.k19 k0 all Hd (by omega) (by omega)
      generalize mdZ k0 all = zk at *
      obtain ⟨kn,hkn⟩ : ∃ kn : Nat,zk = kn:=⟨zk.toNat,by omega⟩
      subst hkn
      obtain ⟨b3',v3,own3,e32b,r3⟩:=item Hd kn kd (by omega)
      obtain ⟨P,hP⟩ : ∃ P,itm (a.steps (M + 1 : Nat)) (N + 1) (nwL (a.steps (M + 1 : Nat)) (-1)) kn = P:=⟨_,rfl⟩
      have vc:=(ix_itm hs (j:=N + 1) (now:=-1) (k:=kn) (.inl ⟨by omega,by rw [hsum]; omega⟩)).2
      have lp:=itm_len (a.steps (M + 1 : Nat)) (N + 1) (nwL (a.steps (M + 1 : Nat)) (-1)) kn
      rw [hP] at r3 vc lp
      obtain ⟨He,he⟩ : ∃ H,Hd.plus own3 = H:=⟨_,rfl⟩
      have ke : Kp (fun _ => False) Hd He:=by rw [← he]; exact Kp.plus _ _
      rw [he] at r3
      have r0e:=r0.kp ke (fun _ _ => id)
      have oe:=(oa.kp kd).kp ke
      have pl1 : PL He (.slice b0 0 1 v0) (wsL (rT2 (a.rows (M + 1 : Nat)) [c0'])):=by
        have:=r0e.pre (k:=1) (by rw [wsL_len,rT2_len,lp0]; omega)
        rw [rT2_take,ec0] at this; exact this
      have vc1 : VC (a.steps (M + 1 : Nat)) (-1) [c0']:=by
        rw [ec0] at vc0
        exact ⟨vc0.1,vc0.2.1,trivial⟩
      obtain ⟨ya,owna,e48a,_,pa⟩:=ext_call K.k48 rm oe vc1 (by simp) (N:=N + 1) (by simp) (by omega) pl1
      obtain ⟨xa,rfl,fa,ra⟩:=pa (by show al _ (N + 1 - 1) c0' = true; rw [Nat.add_sub_cancel]; exact ac0)
      have ra' : RV (He.plus owna) xa (wsL (rT2 (a.rows (M + 1 : Nat)) P0)):=by
        have : P0 = [c0'] ++ ext (a.steps (M + 1 : Nat)) (N + 1 - 1) c0':=by rw [Nat.add_sub_cancel]; exact ec0
        rw [this]; exact ra
      clear ra pa
      obtain ⟨Hf,hf⟩ : ∃ H,He.plus owna = H:=⟨_,rfl⟩
      have kf : Kp (fun _ => False) He Hf:=by rw [← hf]; exact Kp.plus _ _
      rw [hf] at ra'
      have ofF:=oe.kp kf
      have r3f:=r3.kp kf (fun _ _ => id)
      have r0f:=r0e.kp kf (fun _ _ => id)
      obtain ⟨yb,ownb,e48b,_,pb⟩:=ext_call K.k48 rm ofF vc (by omega) (N:=N + 1) (by omega) (by omega) r3f.pl
      rw [lp,Nat.sub_self] at pb
      obtain ⟨xb,rfl,fb,rb⟩:=pb rfl
      rw [show ext (a.steps (M + 1 : Nat)) 0 (P.getD (N + 1 - 1) 0) = [] from rfl,List.append_nil] at rb
      clear pb
      obtain ⟨Hg,hg⟩ : ∃ H,Hf.plus ownb = H:=⟨_,rfl⟩
      have kg : Kp (fun _ => False) Hf Hg:=by rw [← hg]; exact Kp.plus _ _
      rw [hg] at rb
      have og:=ofF.kp kg
      have r3g:=r3f.kp kg (fun _ _ => id)
      obtain ⟨hf2,hh2⟩ : ∃ hf2 : Nat,(1 + (N : Int) + 1) / 2 = hf2:=⟨(N + 2) / 2,by omega⟩
      obtain ⟨A,i,Bt,eP,lA⟩ : ∃ A i Bt,P = A ++ [i] ++ Bt ∧ A.length + 1 = hf2:=by
        have h1 : hf2 - 1 < P.length:=by omega
        refine ⟨P.take (hf2 - 1),P[hf2 - 1],P.drop hf2,?_,by rw [List.length_take]; omega⟩
        have h2 : hf2 = hf2 - 1 + 1:=by omega
        conv => lhs; rw [← List.take_append_drop (hf2 - 1) P,List.drop_eq_getElem_cons h1,← h2]
        rw [List.append_assoc]; rfl
      have lB : Bt.length = N + 1 - hf2:=by
        have:=congrArg List.length eP
        rw [List.length_append,List.length_append,lp] at this
        simp only [List.length_singleton] at this
        omega
      have lAi : (A ++ [i]).length = hf2:=by rw [List.length_append]; exact lA
      rw [eP] at vc
      have vcA:=vc_left vc
      have vcB:=vc_right vc
      have aB:=vc_al vcB
      have tk : P.take hf2 = A ++ [i]:=by rw [eP,← lAi,List.take_left]
      have plc : PL Hg (.slice b3' 0 hf2 v3) (wsL (rT2 (a.rows (M + 1 : Nat)) (A ++ [i]))):=by
        have:=r3g.pre (k:=hf2) (by rw [wsL_len,rT2_len,lp]; omega)
        rw [rT2_take,tk] at this; exact this
      obtain ⟨yc,ownc,e48c,_,pc⟩:=ext_call K.k48 rm og vcA (by omega) (N:=N + 1) (by omega) (by omega) plc
      have gi : (A ++ [i]).getD (hf2 - 1) 0 = i:=by
        rw [List.getD_eq_getElem?_getD,List.getElem?_append_right (by omega),show hf2 - 1 - A.length = 0 by omega]; rfl
      rw [lAi,gi,← lB] at pc
      obtain ⟨xc,rfl,fc,rc⟩:=pc aB
      clear pc
      obtain ⟨Hz,hz⟩ : ∃ H,Hg.plus ownc = H:=⟨_,rfl⟩
      have kz : Kp (fun _ => False) Hg Hz:=by rw [← hz]; exact Kp.plus _ _
      rw [hz] at rc
      have oz:=og.kp kz
      have lext:=ext_len (a.steps (M + 1 : Nat)) Bt.length i
      have lC : (A ++ [i] ++ ext (a.steps (M + 1 : Nat)) Bt.length i).length = N + 1:=by
        rw [List.length_append,lAi,lext,lB]; omega
      have vcC : VC (a.steps (M + 1 : Nat)) (-1) (A ++ [i] ++ ext (a.steps (M + 1 : Nat)) Bt.length i):=vc_app vcA (ext_vc hs aB)
      have e45:=keeps_call K.k45 rm oz vcC (by omega) (by omega) rc
      have bfC:=bfr_ext rm (A:=A) vcB
      rw [← eP] at bfC
      have tkC : (A ++ [i] ++ ext (a.steps (M + 1 : Nat)) Bt.length i).take hf2 = A ++ [i]:=by rw [← lAi,List.take_left]
      have lAl : (A ++ [i]).length ≤ N + 1:=by omega
      generalize A ++ [i] ++ ext (a.steps (M + 1 : Nat)) Bt.length i = C at *
      have sc:=rc.sl
      rw [wsL_len,rT2_len,lC] at sc
      obtain ⟨bc',vc',rfl⟩:=sc.resolve_left (fun e => by omega)
      have r3z:=r3g.kp kz (fun _ _ => id)
      have r0z:=(r0f.kp kg (fun _ _ => id)).kp kz (fun _ _ => id)
      have raz:=(ra'.kp kg (fun _ _ => id)).kp kz (fun _ _ => id)
      have rbz:=rb.kp kz (fun _ _ => id)
      have big : ∀ Q : List Nat,Q.length ≤ N + 1 → ((rT2 (a.rows (M + 1 : Nat)) Q).map stW).length ≤ 1000000:=fun Q hQ => by
        rw [List.length_map,rT2_len]; omega
      have e29a:=K.k29 Hz ⟨xa,.slice b0 0 (N + 1) v0,(rT2 (a.rows (M + 1 : Nat)) P0).map stW,(rT2 (a.rows (M + 1 : Nat)) P0).map stW⟩ (by show PL Hz xa (ss _); rw [← ws_ss]; exact raz.pl) (by show PL Hz _ (ss _); rw [← ws_ss]; exact r0z.pl) (fun q e1 e2 => by
        have:=fa q e1
        have l1:=r0e.lt e2
        omega) (big _ (by omega)) (big _ (by omega))
      have e29b:=K.k29 Hz ⟨xb,.slice b3' 0 (N + 1) v3,(rT2 (a.rows (M + 1 : Nat)) P).map stW,(rT2 (a.rows (M + 1 : Nat)) P).map stW⟩ (by show PL Hz xb (ss _); rw [← ws_ss]; exact rbz.pl) (by show PL Hz _ (ss _); rw [← ws_ss]; exact r3z.pl) (fun q e1 e2 => by
        have:=fb q e1
        have l1:=r3f.lt e2
        omega) (big _ (by omega)) (big _ (by omega))
      have e29c:=K.k29 Hz ⟨.slice bc' 0 hf2 vc',.slice b3' 0 hf2 v3,(rT2 (a.rows (M + 1 : Nat)) (A ++ [i])).map stW,(rT2 (a.rows (M + 1 : Nat)) (A ++ [i])).map stW⟩ (by
        show PL Hz _ (ss _)
        have:=rc.pre (k:=hf2) (by rw [wsL_len,rT2_len,lC]; omega)
        rw [rT2_take,tkC] at this
        rw [← ws_ss]; exact this) (by show PL Hz _ (ss _); rw [← ws_ss]; exact plc.kp kz) (fun q e1 e2 => by
        have:=fc q e1
        have l1:=r3g.lt e2
        omega) (big _ lAl) (big _ lAl)
      have cells : ∀ {b v : Nat} {cs : List AV},RV Hz (.slice b 0 (N + 1) v) cs → Hz.get b = .cells 1 v cs:=fun r => by
        rcases r with ⟨e,_⟩ | ⟨b',v',e,g⟩
        · cases e
        · rw [AV.slice.injEq] at e
          obtain ⟨rfl,_,_,rfl⟩:=e
          exact g
      have e54:=K.k54 Hz ⟨(rT2 (a.rows (M + 1 : Nat)) P).map stW,(rT2 (a.rows (M + 1 : Nat)) C).map stW,b3',v3,bc',vc',N + 1⟩ ⟨by show Hz.get b3' = .cells 1 v3 (ss _); rw [← ws_ss]; exact cells r3z,by show Hz.get bc' = .cells 1 vc' (ss _); rw [← ws_ss]; exact cells rc,by rw [List.length_map,rT2_len,lp],by rw [List.length_map,rT2_len,lC],by show N + 1 ≤ 1000000; omega⟩
      simp only [decide_true] at e29a e29b e29c
      simp only at e54
      rw [bfC] at e54
      have gcd:=gc' Hd kd
      have gce:=gc' He (kd.trans ke)
      have gcf:=gc' Hf ((kd.trans ke).trans kf)
      have gcg:=gc' Hg (((kd.trans ke).trans kf).trans kg)
      have gcz:=gc' Hz ((((kd.trans ke).trans kf).trans kg).trans kz)
      have gAd:=kd.at gA (by simp) id
      rw [va] at e32a e32b e48a e48b e48c e45
      rw [a1,a2] at e32a e32b
      rw [a2] at e48a e48b e48c
      have lgt : ¬ (all : Int) < 1:=by omega
      have h2b : hf2 ≤ N + 1:=by omega
      have h1b : 1 ≤ hf2:=by omega
      clear K mx my mx0 my0 t1 t2 oa oe ofF og oz kr ka kb kc kd ke kf kg kz haa va sB sB1 sB2 sW sW1 sW2 rm gd os s243 sr cv hk hB hW gA0 gS0 gc' cn cn' hall hs nwr hsum itR item r0 r3 r0e r3f r0f r3g r3z r0z raz rbz ra' rb rc big cells bfC vc0 vc vc1 vcA vcB vcC pl1 plc lB lext lA lAi eP tk tkC gi fa fb fc aB ec0 ac0 hP hP0 lp lp0
      have cz : ((0 : Nat) : Int) = 0:=rfl
      rw [cz] at e32a
      refine Tr.w fun s1 H1 hp _ kR => ?_
      obtain ⟨rfl,rfl⟩:=hp
      have q : True:=trivial
      refine W.seq (W.chunk ?_)
      simp (disch:=first|omega|exact zE rfl|exact zO|exact zL rfl) [c14_o0,zG,q,hr,ha]
      refine W.seq (W.chunk ?_)
      simp (disch:=first|omega|exact zE rfl|exact zO|exact zL rfl) [c14_o1,zG,q,gS,e18,app_if,app_if',hb,hc]
      refine W.seq (W.chunk ?_)
      simp (disch:=first|omega|exact zE rfl|exact zO|exact zL rfl) [-evDraw_c,c14_o2,zG,q,evDraw_0,gA,e19,e19']
      refine W.seq (W.chunk ?_)
      simp (disch:=first|omega|exact zE rfl|exact zO|exact zL rfl) [c14_o3,zG,q,gc,e21]
      refine W.assoc ?_
      refine W.seq (W.chunk ?_)
      simp (disch:=first|omega|exact zE rfl|exact zO|exact zL rfl) [c14_o4,zG,q]
      refine W.seq (W.chunk ?_)
      simp (disch:=first|omega|exact zE rfl|exact zO|exact zL rfl) [c14_o5,zG,q]
      refine W.seq (W.chunk ?_)
      simp (disch:=first|omega|exact zE rfl|exact zO|exact zL rfl) [c14_o6,zG,q,gc,e32a,app_if,app_if',hd]
      refine W.seq (W.chunk ?_)
      simp (disch:=first|omega|exact zE rfl|exact zO|exact zL rfl) [-evDraw_c,-Eff.isAll,c14_o7,zG,q,evDraw_0,gcd,gAd,e19k,e32b,app_if,app_if',he,own_all,isAll_none]
      refine W.assoc ?_
      refine W.seq (W.chunk ?_)
      simp (disch:=first|omega|exact zE rfl|exact zO|exact zL rfl) [c14_o8,zG,q]
      refine W.seq (W.chunk ?_)
      simp (disch:=first|omega|exact zE rfl|exact zO|exact zL rfl) [c14_o9,zG,q]
      refine W.seq (W.chunk ?_)
      simp (disch:=first|omega|exact zE rfl|exact zO|exact zL rfl) [-evDraw_c,-Eff.isAll,c14_o10,zG,q,evDraw_0,slSlA,bounds,gce,e48a,app_if,app_if',hf,own_all,isAll_none]
      refine W.seq (W.chunk ?_)
      simp (disch:=first|omega|exact zE rfl|exact zO|exact zL rfl) [c14_o11,zG,q,gcf,e48b,app_if,app_if',hg]
      refine W.seq (W.chunk ?_)
      simp (disch:=first|omega|exact zE rfl|exact zO|exact zL rfl) [-evDraw_c,-Eff.isAll,c14_o12,zG,q,evDraw_0,slSlA,bounds,hh2,gcg,e48c,app_if,app_if',hz,own_all,isAll_none]
      refine W.seq (W.chunk ?_)
      simp (disch:=first|omega|exact zE rfl|exact zO|exact zL rfl) [c14_o13,zG,q,gcz,e45]
      refine W.seq (W.chunk ?_)
      simp (disch:=first|omega|exact zE rfl|exact zO|exact zL rfl) [-evDraw_c,-Eff.isAll,c14_o14,zG,q,evDraw_0,slSlA,bounds,hh2,e29a,e29b,e29c,e54,k23,own_all,isAll_none]
      refine W.ret ?_
      try simp only [zW,if_true]
      exact kR _ _ (by simp [T.get])
end
theorem kF77 : KnF T77 where
  k18:=fun h a o => by
    obtain ⟨v,own,e,l⟩:=k18 h a o
    exact ⟨v,own,by rw [show T77 18 [.agg [G a.q,a.x,a.y]] h = T49 18 [.agg [G a.q,a.x,a.y]] h from by simp (disch:=decide) only [T50,T51,T52,T53,T54,T55,T56,T57,T58,T59,T60,T61,T62,T63,T64,T65,T66,T67,T68,T69,T70,T71,T72,T73,T74,T75,T76,T77,addI_ne,addX_ne,addV_ne,addK_ne,addC_ne]]; exact e,l⟩
  k19:=fun x n h h1 h2 => by
    rw [show T77 19 [G x,G n] h = T48 19 [G x,G n] h from by simp (disch:=decide) only [T49,T50,T51,T52,T53,T54,T55,T56,T57,T58,T59,T60,T61,T62,T63,T64,T65,T66,T67,T68,T69,T70,T71,T72,T73,T74,T75,T76,T77,addI_ne,addX_ne,addV_ne,addK_ne,addC_ne]]; exact k19_48 x n h h1 h2
  k21:=fun h a m n o => by
    rw [show T77 21 [a.v,G m,G n] h = T39 21 [a.v,G m,G n] h from by simp (disch:=decide) only [T40,T41,T42,T43,T44,T45,T46,T47,T48,T49,T50,T51,T52,T53,T54,T55,T56,T57,T58,T59,T60,T61,T62,T63,T64,T65,T66,T67,T68,T69,T70,T71,T72,T73,T74,T75,T76,T77,addI_ne,addX_ne,addV_ne,addK_ne,addC_ne]]; exact k21 h a m n o
  k32:=fun h a m n k o => by
    obtain ⟨v,own,e,l⟩:=k32 h a m n k o
    exact ⟨v,own,by rw [show T77 32 [a.v,G m,G n,G k] h = T50 32 [a.v,G m,G n,G k] h from by simp (disch:=decide) only [T51,T52,T53,T54,T55,T56,T57,T58,T59,T60,T61,T62,T63,T64,T65,T66,T67,T68,T69,T70,T71,T72,T73,T74,T75,T76,T77,addI_ne,addX_ne,addV_ne,addK_ne,addC_ne]]; exact e,l⟩
  k45:=fun h b o => by
    obtain ⟨v,own,e,l⟩:=k45 h b o
    exact ⟨v,own,by rw [show T77 45 [b.a.v,b.x] h = T69 45 [b.a.v,b.x] h from by simp (disch:=decide) only [T70,T71,T72,T73,T74,T75,T76,T77,addI_ne,addX_ne,addV_ne,addK_ne,addC_ne]]; exact e,l⟩
  k48:=fun h b o1 o2 o3 o4 o5 => by
    obtain ⟨v,own,e,l⟩:=k48p h b o1 o2 o3 o4 o5
    exact ⟨v,own,by rw [show T77 48 [b.a.v,b.x,G b.n] h = T76 48 [b.a.v,b.x,G b.n] h from by simp (disch:=decide) only [T77,addI_ne,addX_ne,addV_ne,addK_ne,addC_ne]]; exact e,l⟩
  k29:=k29p
  k54:=fun h a o => by
    rw [show T77 54 [.slice a.b1 0 a.n a.v1,.slice a.b2 0 a.n a.v2] h = T71 54 [.slice a.b1 0 a.n a.v1,.slice a.b2 0 a.n a.v2] h from by simp (disch:=decide) only [T72,T73,T74,T75,T76,T77,addI_ne,addX_ne,addV_ne,addK_ne,addC_ne]]; exact k54 h a o
  k23:=fun h => by
    rw [show T77 23 [] h = T2 23 [] h from by simp (disch:=decide) only [T3,T4,T5,T6,T7,T8,T9,T10,T11,T12,T13,T14,T15,T16,T17,T18,T19,T20,T21,T22,T23,T24,T25,T26,T27,T28,T29,T30,T31,T32,T33,T34,T35,T36,T37,T38,T39,T40,T41,T42,T43,T44,T45,T46,T47,T48,T49,T50,T51,T52,T53,T54,T55,T56,T57,T58,T59,T60,T61,T62,T63,T64,T65,T66,T67,T68,T69,T70,T71,T72,T73,T74,T75,T76,T77,addI_ne,addX_ne,addV_ne,addK_ne,addC_ne]]; exact k23 h
theorem stripFirst_ok (h : Heap) (m n k : Int) {nq : Int} {x y : AV} {B W : List (List Int)} (mx : MR h x B) (my : MR h y W) : CallsTo tbl T77 14 [.agg [G nq,x,y],.agg [G m,G n,G k]] h (.bool true,[],false):=c14_ok T77 kF77 (fun _ _ => by simp (disch:=decide) only [T1,T2,T3,T4,T5,T6,T7,T8,T9,T10,T11,T12,T13,T14,T15,T16,T17,T18,T19,T20,T21,T22,T23,T24,T25,T26,T27,T28,T29,T30,T31,T32,T33,T34,T35,T36,T37,T38,T39,T40,T41,T42,T43,T44,T45,T46,T47,T48,T49,T50,T51,T52,T53,T54,T55,T56,T57,T58,T59,T60,T61,T62,T63,T64,T65,T66,T67,T68,T69,T70,T71,T72,T73,T74,T75,T76,T77,addI_ne,addX_ne,addV_ne,addK_ne,addC_ne]; rfl) h mx my
end Go.Proofs.Ytljgfdamdcikgaa.Ev
namespace Go.AEv
open Go.ChangeShapes Go.WideShapes
section
variable {H : Type} {enc : TypeId × Value → H} {P : Program} {k e : TypeId} {q : IntKind} {W : World} {base : Nat} {sp : Nat → Bool} {held : Bool}
theorem okWide_three (A : Go.WideMaps.ArrKey P k e 3) {r : Reach} {b0 : Nat} {v : Value} (h : Value.okWide P W r b0 k v) : ∃ c0 c1 c2,v = .agg #[c0,c1,c2]:=by
  simp only [Value.okWide,A.hu] at h
  obtain ⟨cs,h1,h2,_⟩:=h
  rw [A.size] at h2
  obtain ⟨l⟩:=cs
  match l,h2 with
  | [c0,c1,c2],_ => exact ⟨c0,c1,c2,h1⟩
theorem open_three (A : Go.WideMaps.ArrKey P k e 3) (he : P.underlying e = some (.int q)) {r : Reach} {b0 : Nat} {v : Value} {d : DataW H} {ps : List MemPlace} (hval : Value.okWide P W r b0 k v) (hd : DataW.Trod enc P W base sp held k v d ps) :
    ∃ a b c : Int,v = .agg #[.int q a,.int q b,.int q c] ∧ d = .agg [.lit (.int q a),.lit (.int q b),.lit (.int q c)] ∧ ps = [] ∧ (Lit.int q a).wf = true ∧ (Lit.int q b).wf = true ∧ (Lit.int q c).wf = true:=by
  obtain ⟨c0,c1,c2,rfl⟩:=okWide_three A hval
  obtain ⟨fuel,hf⟩:=hd
  cases fuel with
  | zero => simp [DataW.trod] at hf
  | succ n =>
    rw [DataW.trod_step] at hf
    unfold DataW.trodStep at hf
    simp only [A.hu,Value.cells] at hf
    rw [if_pos (by rw [A.size]; rfl)] at hf
    simp only [Option.map_eq_some_iff] at hf
    obtain ⟨xs,hx,e1⟩:=hf
    rw [show List.range 3 = [0,1,2] from rfl,List.mapM_cons,List.mapM_cons,List.mapM_cons,List.mapM_nil] at hx
    simp only [bind,Option.bind_eq_some_iff,pure,Option.some.injEq,A.one] at hx
    obtain ⟨y0,h0,_,⟨y1,h1,_,⟨y2,h2,_,rfl,rfl⟩,rfl⟩,rfl⟩:=hx
    obtain ⟨a,ea,rfl,wa⟩:=DataW.trod_int he h0
    obtain ⟨b,eb,rfl,wb⟩:=DataW.trod_int he h1
    obtain ⟨c,ec,rfl,wc⟩:=DataW.trod_int he h2
    simp at ea eb ec
    subst ea; subst eb; subst ec
    simp only [Prod.mk.injEq] at e1
    exact ⟨a,b,c,rfl,by rw [← e1.1]; rfl,by rw [← e1.2]; rfl,wa,wb,wc⟩
theorem shut_three (A : Go.WideMaps.ArrKey P k e 3) (he : P.underlying e = some (.int q)) {a b c : Int} (wa : (Lit.int q a).wf = true) (wb : (Lit.int q b).wf = true) (wc : (Lit.int q c).wf = true) :
    DataW.Trod enc P W base sp held k (.agg #[.int q a,.int q b,.int q c]) (.agg [.lit (.int q a),.lit (.int q b),.lit (.int q c)]) [] :=
  ⟨2,by
    show DataW.trod enc P W base sp held (1 + 1) k [.int q a,.int q b,.int q c] = _
    rw [DataW.trod_step]
    unfold DataW.trodStep
    simp only [A.hu]
    rw [if_pos (by rw [A.size]; rfl),show List.range 3 = [0,1,2] from rfl,List.mapM_cons,List.mapM_cons,List.mapM_cons,List.mapM_nil]
    simp [A.one,DataW.trod,he,wa,wb,wc]⟩
end
end Go.AEv
set_option linter.unusedVariables false
set_option linter.unusedSimpArgs false
namespace Go.AEv
open Go.ChangeShapes Go.WideShapes Go.Proofs.Ytljgfdamdcikgaa.Ev
theorem MR.ext {h h' : Heap} (e : Ext h h') {y : AV} {M : List (List Int)} (m : MR h y M) : MR h' y M:=by
  rcases m with m | ⟨b,v,cs,rfl,g,hl,hr⟩
  · exact .inl m
  · refine .inr ⟨b,v,cs,rfl,e _ _ g (by simp),hl,fun i r q => ?_⟩
    obtain ⟨l,h1,h2⟩:=hr i r q
    exact ⟨l,h1,LR.ext e h2⟩
theorem rows_lo {CK : CKT} {w : World} {H : Type} {enc : TypeId × Value → H} {P : Program} {e i : TypeId} (he : P.underlying e = some (.slice i)) (hi : P.underlying i = some (.int .i64)) (hc : P.cellsOf i = 1) :
    ∀ (vs : List Value) {φ : Nat → Emb} {h : Heap} (ho : h.own = []) (hr : HR CK w [] φ h w),(∀ u ∈ vs,∃ fuel z,DataW.trod enc P w 0 (fun _ => true) true fuel e [u] = some z) →
    ∃ φ' h',∃ (rs : List AV) (ls : List (List Int)),h'.own = [] ∧ HR CK w [] φ' h' w ∧ Stp φ h φ' h' ∧ Ext h h' ∧ rs.length = vs.length ∧ ls.length = vs.length ∧ ∀ (j : Nat) u r,vs[j]? = some u → rs[j]? = some r → VR φ' h' r u ∧ Value.oneCell' u = true ∧ ∃ l,ls[j]? = some l ∧ LR h' r l
  | [],φ,h,ho,hr,_ => ⟨φ,h,[],[],ho,hr,Stp.refl φ h,Ext.refl h,rfl,rfl,fun j u r q => by simp at q⟩
  | u :: us,φ,h,ho,hr,ht => by
    obtain ⟨fuel,z,hf⟩:=ht u (by simp)
    obtain ⟨φ1,h1,x,l,o1,r1,s1,e1,v1,p1,c1⟩:=ints_lo0 ho hr he hi hc hf
    obtain ⟨φ2,h2,rs,ls,o2,r2,s2,e2,l1,l2,q⟩:=rows_lo he hi hc us o1 r1 (fun u' hu => ht u' (by simp [hu]))
    refine ⟨φ2,h2,x :: rs,l :: ls,o2,r2,s1.trans s2,e1.trans e2,by simp [l1],by simp [l2],fun j u' r hu hr' => ?_⟩
    cases j with
    | zero =>
      simp only [List.getElem?_cons_zero,Option.some.injEq] at hu hr'
      subst hu hr'
      exact ⟨VR.step s2 _ _ v1,c1,l,rfl,p1.ext e2⟩
    | succ j =>
      simp only [List.getElem?_cons_succ] at hu hr' ⊢
      exact q j u' r hu hr'
theorem mat_lo0 {CK : CKT} {φ : Nat → Emb} {h : Heap} {w : World} (ho : h.own = []) (hr : HR CK w [] φ h w) {H : Type} {enc : TypeId × Value → H} {P : Program} {t e i : TypeId} {v : Value} {fuel : Nat} {z : DataW H × List MemPlace}
    (ht : P.underlying t = some (.slice e)) (he : P.underlying e = some (.slice i)) (hi : P.underlying i = some (.int .i64)) (hce : P.cellsOf e = 1) (hci : P.cellsOf i = 1) (hf : DataW.trod enc P w 0 (fun _ => true) true fuel t [v] = some z) :
    ∃ φ' h' x M,h'.own = [] ∧ HR CK w [] φ' h' w ∧ Stp φ h φ' h' ∧ Ext h h' ∧ VR φ' h' x v ∧ MR h' x M ∧ Value.oneCell' v = true:=by
  rcases DataW.trod_slice ht hf with ⟨hcs,_⟩ | ⟨a,len,cap,elems,rest,n,_,hcs,_,_,hl,hm,hlen,hel,hsp,_⟩
  · have hcs' : v = .slice none 0 0:=(List.cons.inj hcs).1
    rw [hcs']
    exact ⟨φ,h,.nils,[],ho,hr,Stp.refl φ h,Ext.refl h,by simp [VR],.inl ⟨.inl rfl,rfl⟩,rfl⟩
  · have hcs' : v = .slice (some a) len cap:=(List.cons.inj hcs).1
    rw [hcs']
    by_cases h0 : len = 0
    · subst h0
      exact ⟨φ,h,.slice0,[],ho,hr,Stp.refl φ h,Ext.refl h,by simp [VR],.inl ⟨.inr rfl,rfl⟩,rfl⟩
    · obtain ⟨hrl,hre⟩:=hsp rfl
      have each : ∀ j,j < cap → ∃ u,w.cell? (a.add j) = some u ∧ ∃ z,DataW.trod enc P w 0 (fun _ => true) true n e [u] = some z:=fun j hj => by
        have hb' : ∃ y,(w.cells? 0 (a.add (j * P.cellsOf e)) (P.cellsOf e)).bind (DataW.trod enc P w 0 (fun _ => true) true n e) = some y:=by
          by_cases hjl : j < len
          · rw [hel j hjl,List.getElem?_eq_getElem (by omega)]; exact ⟨_,rfl⟩
          · have:=hre (j - len) (by omega)
            rw [show len + (j - len) = j by omega] at this
            rw [this,List.getElem?_eq_getElem (by omega)]; exact ⟨_,rfl⟩
        obtain ⟨y,hy⟩:=hb'
        rw [hce,Nat.mul_one,Option.bind_eq_some_iff] at hy
        obtain ⟨cs',h1,h2⟩:=hy
        have hl1:=(World.cells?_some h1).2.1
        obtain ⟨u,rfl⟩ : ∃ u,cs' = [u]:=by
          cases cs' with
          | nil => simp at hl1
          | cons u r => cases r with
            | nil => exact ⟨u,rfl⟩
            | cons u' r => simp at hl1
        exact ⟨u,cell_of_cells?_one h1,y,h2⟩
      obtain ⟨f,hfe⟩ : ∃ f : Nat → Value,∀ j,j < cap → w.cell? (a.add j) = some (f j) ∧ ∃ z,DataW.trod enc P w 0 (fun _ => true) true n e [f j] = some z :=
        ⟨fun j => if hj : j < cap then Classical.choose (each j hj) else .nilFunc,fun j hj => by
          simp only [dif_pos hj]
          exact Classical.choose_spec (each j hj)⟩
      obtain ⟨b,off,spot⟩:=a
      have hspot : spot = none:=by simpa [Addr.add] using World.cell?_spot (hfe 0 (by omega)).1
      subst hspot
      have hcell : ∀ j,j < cap → w.cell? ⟨b,off + j,none⟩ = some (f j):=fun j hj => by rw [← Go.WideShapes.add_plain]; exact (hfe j hj).1
      obtain ⟨c,ty,fr,hb,hc0⟩:=cell_obj (hcell 0 (by omega))
      have hcj : ∀ j,j < cap → c[off + j]? = some (f j):=fun j hj => by
        obtain ⟨c',ty',fr',hb',hcj⟩:=cell_obj (hcell j hj)
        rw [hb] at hb'
        simp only [Option.some.injEq,Obj.cells.injEq] at hb'
        obtain ⟨rfl,_⟩:=hb'
        exact hcj
      have hsize : off + cap ≤ c.size:=by
        have:=(Array.getElem?_eq_some_iff.1 (hcj (cap - 1) (by omega))).1
        omega
      obtain ⟨φ1,h1,rs,ls,o1,r1,s1,e1,l1,l2,q⟩:=rows_lo he hi hci ((List.range len).map f) ho hr (fun u hu => by
        obtain ⟨j,hj,rfl⟩:=List.mem_map.1 hu
        obtain ⟨z,hz⟩:=(hfe j (by have:=List.mem_range.1 hj; omega)).2
        exact ⟨n,z,hz⟩)
      simp only [List.length_map,List.length_range] at l1 l2
      have hat : ∀ j,j < len → ((List.range len).map f)[j]? = some (f j):=fun j hj => by simp [hj]
      refine ⟨AEv.upd φ1 h1.N ⟨b,off,cap⟩,h1.more (.cells 1 len rs),.slice h1.N 0 len len,ls,rfl,lo_add o1 r1 _ _ ?_,s1.trans (lo_stp o1 _ _),e1.trans (more_ext h1 o1 _),?_,.inr ⟨h1.N,len,rs,by rw [l2],more_at _ _,by omega,fun j r hr' => ?_⟩,rfl⟩
      · refine ⟨c,ty,fr,hb,hsize,by show rs.length ≤ cap; omega,fun j x hx => ?_⟩
        have hj : j < len:=by have:=(List.getElem?_eq_some_iff.1 hx).1; omega
        obtain ⟨q1,q2,_⟩:=q j (f j) x (hat j hj) hx
        exact ⟨f j,hcj j (by omega),VR.step (lo_stp o1 _ _) _ _ q1,q2⟩
      · simp only [VR]
        exact ⟨_,cap,1,len,_,rfl,hl,more_at _ _,Nat.le_refl _,fun _ => ⟨by simp [AEv.upd],fun _ _ => by simp [AEv.upd]⟩⟩
      · have hj : j < len:=by have:=(List.getElem?_eq_some_iff.1 hr').1; omega
        obtain ⟨_,_,l,q3,q4⟩:=q j (f j) r (hat j hj) hr'
        exact ⟨l,q3,q4.ext (more_ext h1 o1 _)⟩
structure RuleKey (P : Program) (k i t : TypeId) (f g l : Field) : Prop where
  hu : P.underlying k = some (.struct #[f,g,l])
  size : P.cellsOf k = 3
  ci : P.cellsOf i = 1
  ct : P.cellsOf t = 1
  f1 : f.type = i
  f2 : g.type = t
  f3 : l.type = t
  o1 : f.offset = 0
  o2 : g.offset = 1
  o3 : l.offset = 2
theorem okWide_rule {P : Program} {W : World} {k i t : TypeId} {f g l : Field} (A : RuleKey P k i t f g l) {r : Reach} {b0 : Nat} {v : Value} (h : Value.okWide P W r b0 k v) : ∃ c0 c1 c2,v = .agg #[c0,c1,c2]:=by
  simp only [Value.okWide,A.hu] at h
  obtain ⟨cs,h1,h2,_⟩:=h
  rw [A.size] at h2
  obtain ⟨l⟩:=cs
  match l,h2 with
  | [c0,c1,c2],_ => exact ⟨c0,c1,c2,h1⟩
theorem rule_lo {CK : CKT} {φ : Nat → Emb} {h : Heap} {w : World} (ho : h.own = []) (hr : HR CK w [] φ h w) {H : Type} {enc : TypeId × Value → H} {P : Program} {k i t e : TypeId} {f g l : Field} {v : Value} {d : DataW H} {p : List MemPlace} (A : RuleKey P k i t f g l)
    (ht : P.underlying t = some (.slice e)) (he : P.underlying e = some (.slice i)) (hi : P.underlying i = some (.int .i64)) (hce : P.cellsOf e = 1) {r : Reach} {b0 : Nat} (hval : Value.okWide P w r b0 k v) (kd : DataW.Trod enc P w 0 (fun _ => true) true k v d p) :
    ∃ φ' h' q x y B W,h'.own = [] ∧ HR CK w [] φ' h' w ∧ Stp φ h φ' h' ∧ Ext h h' ∧ VR φ' h' (.agg [.int .i64 q,x,y]) v ∧ MR h' x B ∧ MR h' y W:=by
  obtain ⟨c0,c1,c2,rfl⟩:=okWide_rule A hval
  obtain ⟨fuel,hf⟩:=kd
  cases fuel with
  | zero => simp [DataW.trod] at hf
  | succ n =>
    rw [DataW.trod_step] at hf
    unfold DataW.trodStep at hf
    simp only [A.hu,Value.cells] at hf
    rw [if_pos (by rw [A.size]; rfl)] at hf
    simp only [Option.map_eq_some_iff] at hf
    obtain ⟨xs,hx,e1⟩:=hf
    rw [List.mapM_cons,List.mapM_cons,List.mapM_cons,List.mapM_nil] at hx
    simp only [bind,Option.bind_eq_some_iff,pure,Option.some.injEq,A.ci,A.ct,A.f1,A.f2,A.f3,A.o1,A.o2,A.o3] at hx
    obtain ⟨y0,h0,_,⟨y1,h1,_,⟨y2,h2,_,rfl,rfl⟩,rfl⟩,rfl⟩:=hx
    have h0' : DataW.trod enc P w 0 (fun _ => true) true n i [c0] = some y0:=h0
    have h1' : DataW.trod enc P w 0 (fun _ => true) true n t [c1] = some y1:=h1
    have h2' : DataW.trod enc P w 0 (fun _ => true) true n t [c2] = some y2:=h2
    obtain ⟨a,ea,_,_⟩:=DataW.trod_int hi h0'
    obtain rfl : c0 = .int .i64 a:=by simpa using ea
    obtain ⟨φ1,m1,x,B,o1,r1,s1,x1,v1,p1,q1⟩:=mat_lo0 ho hr ht he hi hce A.ci h1'
    obtain ⟨φ2,m2,y,W,o2,r2,s2,x2,v2,p2,q2⟩:=mat_lo0 o1 r1 ht he hi hce A.ci h2'
    refine ⟨φ2,m2,a,x,y,B,W,o2,r2,s1.trans s2,x1.trans x2,?_,Go.AEv.MR.ext x2 p1,p2⟩
    simp only [VR,VRs]
    refine ⟨#[.int .i64 a,c1,c2],rfl,⟨_,[c1,c2],rfl,rfl,c1,[c2],rfl,VR.step s2 _ _ v1,c2,[],rfl,v2,rfl⟩,fun z hz => ?_⟩
    simp only [List.mem_cons,List.not_mem_nil,or_false] at hz
    rcases hz with rfl | rfl | rfl
    · rfl
    · exact q1
    · exact q2
end Go.AEv
