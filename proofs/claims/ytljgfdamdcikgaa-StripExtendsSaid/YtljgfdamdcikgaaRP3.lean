/-
 Of the functions that this law reaches,part 3: what they answer. No condition.
-/
import Derived.Test.YtljgfdamdcikgaaRP2
import Derived.Test.YtljgfdamdcikgaaRP1
import Derived.Test.YtljgfdamdcikgaaRP0
import Derived.WideKeyPair
import Derived.ChangeArms
set_option linter.unusedVariables false
set_option linter.unusedSimpArgs false
namespace Go.Proofs.Ytljgfdamdcikgaa.Ev
open Go Go.AEv
attribute [local simp] evFunc initS evOps_c evTrim_c evSkip_c evExit_c evRet_c evSeq_c evCond_c evBlock_c evDraw_c runOps_n runOps_c exec_n exec_g pure1_c act AOpd.ev T.get T.set T.put evBin evUn forceT_eq forceV_eq forceL_eq evRess evRes one keep runFP_n runFP_c app_none AV.flats AV.flat came_some List.getElem?_cons_zero List.getElem?_cons_succ beqT wrapI idxI tdivI tmodI decT decF ibT ibF inT inF evScope_c if_pos if_neg Cm_some thenW_n thenW_e thenW_r blkW_n blkW_e blkW_r goI kn putAt AV.cells fillA loadA takeA mk Eff.isAll Eff.isNone Eff.commutes Eff.spares okPair apart eqAgg fits LK.fits allEq aveq eqk mmA
theorem TB.mr {H0 h : Heap} {x : AV} {M : List (List Int)} (t : TB H0 h x (M.map gs)) : MR h x M:=by
 obtain ⟨rs,lv,hl,hr⟩:=t.r
 rw [List.length_map] at hl
 rcases lv with ⟨rfl,rfl⟩ | ⟨b,rfl,g,n⟩
 ·exact .inl ⟨.inl rfl,List.length_eq_zero_iff.1 hl.symm⟩
 ·refine .inr ⟨b,rs.length,rs,by rw [hl],g,hl,fun i r e => ?_⟩
  obtain ⟨cs,b',h1,h2,h3,_⟩:=hr i r e
  rw [List.getElem?_map] at h1
  cases hN : M[i]? with
  | none => rw [hN] at h1; cases h1
  | some l =>
   rw [hN] at h1
   simp only [Option.map_some,Option.some.injEq] at h1
   subst h1
   exact ⟨l,rfl,.inl (by rw [h2]; exact listOf_cells h3 (by simp))⟩
def AR.of (n : Nat) (x y : AV) (B W : List (List Int)) : AR:=⟨n,x,y,B,W⟩
section
variable {nq m nn : Int} {X Y : List (List Int)}
end
section
variable {S : List (List Nat)} {u4 u6 u8 u0 : AV} {k1 k2 k3 k4 : Nat}
theorem RV.lv {h : Heap} {y : AV} {L : List Nat} (r : RV h y (gn L)) (hl : 0 < L.length) : ∃ b v,y = .slice b 0 L.length v ∧ h.get b = .cells 1 v (gn L):=by
 rcases r with ⟨_,e⟩ | ⟨b,v,e,g⟩
 ·have : (gn L).length = 0:=by rw [e]; rfl
  rw [gn_len] at this; omega
 ·rw [gn_len] at e; exact ⟨b,v,e,g⟩
end
theorem rT2_len (R : List (List Nat)) (P : List Nat) : (rT2 R P).length = P.length:=by unfold rT2; rw [List.length_map]
theorem RV.pre {H : Heap} {b v n : Nat} {cs : List AV} (r : RV H (.slice b 0 n v) cs) {k : Nat} (hk : k ≤ cs.length) : PL H (.slice b 0 k v) (cs.take k):=by
 rcases r with ⟨e,_⟩ | ⟨b',v',e,g⟩
 ·cases e
 ·rw [AV.slice.injEq] at e
  obtain ⟨rfl,_,_,rfl⟩:=e
  exact .inr ⟨b,v,cs.drop k,by rw [List.length_take,Nat.min_eq_left hk],by rw [List.take_append_drop]; exact g⟩
section
variable {S R : List (List Nat)} {p N : Nat}
end
section
variable {a : AR} {m bs vs : Nat} {P : List Nat}
end
structure A47x where
 a : AR
 m : Nat
 P : List Nat
 b : Nat
 v : Nat
def Ok47x (b : A47x) (h : Heap) : Prop:=OkR b.a h ∧ b.a.rm (b.m : Nat) = true ∧ okC (b.a.steps (b.m : Nat)) b.P.length = true ∧ VC (b.a.steps (b.m : Nat)) (-1) b.P ∧ 1 ≤ b.P.length ∧ b.P.length ≤ 40 ∧ h.get b.b = .cells 1 b.v (wsL (rT2 (b.a.rows (b.m : Nat)) b.P))
def Pre47x (b : A47x) (args : List AV) (h : Heap) : Prop:=Ok47x b h ∧ args = [b.a.v,.slice b.b 0 b.P.length b.v]
def Post47x (b : A47x) (h : Heap) (v : AV) (own : List AObj) : Prop:=v = G (ix (b.a.steps (b.m : Nat)) (-1) b.P) ∧ own = []
noncomputable def U47 : CallF:=addK tbl T50 47 Pre47x Post47x
theorem u47 : Sound Go.Proofs.Try.prog U47:=Sound.addK follows ok t50 (by decide) _ _
noncomputable def T81 : CallF:=addI T80 47 (U47 47)
theorem t81 : Sound Go.Proofs.Try.prog T81:=Sound.put t80 u47 47
theorem app_vs (h : Heap) (h0 bytes : Nat) {x0 : AV} {L : List AV} (ys : List AV) (hx : LV h x0 L) (ne : 0 < ys.length) (hn : (L.length + ys.length) * bytes ≤ 1099511627776) :
  ∃ x1 e h',appA h h0 none 1 bytes ys.length ys x0 = some (x1,e) ∧ Eff.app e h = some h' ∧ LV h' x1 (L ++ ys) ∧ Kp (fun b => blk x0 = some b) h h' ∧ (blk x1 = blk x0 ∨ (x0 = .nils ∧ blk x1 = some h.size)):=by
 have n0 : ¬ ys.length = 0:=by omega
 rcases hx with ⟨rfl,rfl⟩ | ⟨b,rfl,g,hN⟩
 ·refine ⟨.slice h.size 0 ys.length ys.length,.grow [.cells 1 ys.length ys],h.plus [.cells 1 ys.length ys],?_,app_growP _ _,.inr ⟨h.size,rfl,plus_at0 _ _ _ _ rfl,by show h.N ≤ h.size; unfold Heap.size; omega⟩,Kp.plus _ _,.inr ⟨rfl,rfl⟩⟩
  have : ys.length * bytes ≤ 1099511627776:=by simpa using hn
  simp only [appA,mk,if_neg n0,if_pos this,Nat.mul_one]
 ·have hlt:=get_lt g (by simp)
  refine ⟨.slice b 0 (L.length + ys.length) (L.length + ys.length),.ext b L.length 1 ys,h.upd b (.cells 1 (L.length + ys.length) (L ++ ys)),?_,?_,.inr ⟨b,?_,?_,by rw [upd_N]; exact hN⟩,Kp.upd _ _ _ hN rfl,.inl rfl⟩
  ·simp only [appA,Nat.mul_one]
   rw [if_neg n0,if_pos ⟨trivial,by simp,hn⟩]
  ·exact ext_gen h b L.length 1 L ys hN g rfl
  ·simp
  ·rw [upd_same _ _ _ hN hlt]; simp
theorem NV.apps {H0 h : Heap} (h0 bytes : Nat) {x : AV} {L : List AV} (t : NV H0 h x L) (ys : List AV) (ne : 0 < ys.length) (hn : (L.length + ys.length) * bytes ≤ 1099511627776) :
  ∃ x1 e h2,appA h h0 none 1 bytes ys.length ys x = some (x1,e) ∧ Eff.app e h = some h2 ∧ NV H0 h2 x1 (L ++ ys):=by
 obtain ⟨x1,e,h2,q1,q2,q3,q4,q5⟩:=app_vs h h0 bytes ys t.l ne hn
 refine ⟨x1,e,h2,q1,q2,⟨t.k.late q4 t.x0,fun q hq => ?_,q3⟩⟩
 rcases q5 with h' | ⟨_,h'⟩
 ·rw [h'] at hq; exact t.x0 q hq
 ·rw [h'] at hq; cases hq; exact t.k.size
def rep : Nat → List Nat → List Nat
 | 0,_ => []
 | k + 1,L => L ++ rep k L
section
variable {S : List (List Nat)}
end
section
variable {R : List (List Nat)} {L : List Nat} {T0 : Int} {TT K LL bl vl Sx : Nat}
end
section
variable {nq m T0 : Int} {X Y : List (List Int)}
end
section
variable {S : List (List Nat)}
structure CT (n : Nat) (p : Nat → Bool) (h : Heap) (z : AV) (N j : Nat) : Prop where
 r : ∃ bo ros br,z = .slice bo 0 N N ∧ h.get bo = .cells 1 N ros ∧ ros.length = N ∧ ros[j]? = some (.slice br 0 n n) ∧ h.get br = .cells 1 n (bb p n)
theorem CT.kp {n : Nat} {p : Nat → Bool} {h h' : Heap} {z : AV} {N j : Nat} (c : CT n p h z N j) (k : Kp (fun _ => False) h h') : CT n p h' z N j:=by
 obtain ⟨bo,ros,br,e1,e2,e3,e4,e5⟩:=c.r
 exact ⟨bo,ros,br,e1,k.at e2 (by simp) id,e3,e4,k.at e5 (by simp) id⟩
theorem TB.ct {Z h : Heap} {z : AV} {k j : Nat} (t : TB Z h z (rowsA S k)) (hj : j < k) : CT S.length (al S j) h z k j:=by
 obtain ⟨bo,ros,e1,e2,e3,e4⟩:=t.sl (i:=0) (by rw [rowsA_len]; omega)
 rw [rowsA_len] at e1 e2 e3
 obtain ⟨b,h1,h2⟩:=e4 j _ (rowsA_at S hj)
 rw [lB_len] at h1 h2
 exact ⟨bo,ros,b,e1,e2,e3,h1,h2⟩
def X0 (Hk : Heap) (S : List (List Nat)) (p : Nat → Bool) (b : Nat) (x1 x8 x z : AV) (D : Int) (j i t : Nat) : SP:=fun s h => BB Hk h b S.length (nq S p i t) ∧ s.get [false] = x1 ∧ s.get [true,false,false] = x8 ∧ s.get [false,true,false] = x ∧ s.get [true,true,false] = G D ∧ s.get [false,false,true] = z ∧ s.get [true,false,true] = G j ∧ s.get [false,true,true] = .slice b 0 S.length S.length ∧ s.get [true,true,true] = G i ∧ s.get [false,false,false,false] = G t
def X0q (Hk : Heap) (S : List (List Nat)) (p : Nat → Bool) (b : Nat) (x1 x8 x z : AV) (D : Int) (j i t : Nat) : SP:=fun s h => BB Hk h b S.length (nq S p i t) ∧ s.get [false] = x1 ∧ s.get [true,false,false] = x8 ∧ s.get [false,true,false] = x ∧ s.get [true,true,false] = G D ∧ s.get [false,false,true] = z ∧ s.get [true,false,true] = G j ∧ s.get [false,true,true] = .slice b 0 S.length S.length ∧ s.get [true,true,true] = G i
set_option maxHeartbeats 1000000 in
theorem c49_l0_ok (J : CallF) (os : OkS S) {Hk : Heap} {x x1 x8 z : AV} {D : Int} (ln : LN Hk x S) {b : Nat} (hb : Hk.size ≤ b) (hN : Hk.N ≤ b) {p : Nat → Bool} {j i : Nat} (ct : CT S.length p Hk z (j + 1) j) (hj : j ≤ 40) (hi : i < S.length) :
  Tr tbl J c49_l0 (X0 Hk S p b x1 x8 x z D (j + 1) i 0) (.exit 4) (X0q Hk S p b x1 x8 x z D (j + 1) i (S.getD i []).length):=by
 have n2:=os.n
 have l2:=os.len i
 refine Tr.rounds (P:=X0 Hk S p b x1 x8 x z D (j + 1) i) (M:=(S.getD i []).length) (fun t ht => ?_) ?_ (by simp) 0 (by omega)
 ·refine Tr.w fun s1 H1 hp R kR => W.trim ?_
  obtain ⟨bz,q⟩:=hp
  dsimp only [X0] at kR
  obtain ⟨rs,h1,h2,h3⟩:=ln.kp bz.kp
  obtain ⟨bx,rfl,gx⟩ : ∃ b,x = .slice b 0 S.length S.length ∧ H1.get b = .cells 1 S.length rs:=by
   rcases h1 with ⟨_,e⟩ | h
   ·omega
   ·exact h
  obtain ⟨y,ey,rv⟩:=h3 i hi
  have ey':=getI ey
  obtain ⟨by',vy,rfl,gy⟩ : ∃ b v,y = .slice b 0 (S.getD i []).length v ∧ H1.get b = .cells 1 v (gn (S.getD i [])):=by
   rcases rv with ⟨_,e⟩ | ⟨b,v,e,g⟩
   ·have : (gn (S.getD i [])).length = 0:=by rw [e]; rfl
    rw [gn_len] at this; omega
   ·rw [gn_len] at e; exact ⟨b,v,e,g⟩
  obtain ⟨bo,ros,br,rfl,go,lo,er,gr⟩:=(ct.kp bz.kp).r
  have er':=getI er
  have e1:=gn_at ht
  have e1':=getI e1
  have lg:=gn_len (S.getD i [])
  have cS:=gD_some ht
  have hc:=os.lt i _ (gD_mem ht)
  have e2:=bb_at p hc
  have e2':=getI e2
  have lb:=bb_len p S.length
  have e3:=bb_at (nq S p i t) hi
  have em : nq S p i t i = ((S.getD i []).take t).any p:=by unfold nq; rw [if_neg (by omega),if_pos rfl]
  rw [em] at e3
  have e3':=getI e3
  have l3:=bb_len (nq S p i t) S.length
  obtain ⟨H2,p1,bz2⟩:=bz.put hb hN hi (((S.getD i []).take t).any p || p ((S.getD i []).getD t 0))
  replace bz2:=bz2.ext fun u _ => nq_put p cS u
  have g:=bz.g
  clear bz h1 h3 rv em ln ct cS
  generalize (S.getD i []).getD t 0 = c at *
  generalize ((S.getD i []).take t).any p = v1 at *
  generalize p c = v2 at *
  generalize bb (nq S p i t) S.length = c1 at *
  generalize bb p S.length = c2 at *
  generalize gn (S.getD i []) = cs at *
  generalize (S.getD i []).length = l at *
  generalize hnn : S.length = n at *
  cases v1
  ·rw [Bool.false_or] at p1
   refine W.assoc ?_
   refine zCh ?_
   simp (disch:=first|omega|exact zE rfl|exact zO|exact zL rfl) [c49_o13,zG,q,gx,ey,ey',h2]
   refine zCh ?_
   simp (disch:=first|omega|exact zE rfl|exact zO|exact zL rfl) [zG,q]
   refine W.seq (W.block ?_)
   refine W.chunk ?_
   simp (disch:=first|omega|exact zE rfl|exact zO|exact zL rfl) [c49_o14,zG,q,gx,ey,ey',h2,go,lo,er,er',gr,gy,e1,e1',lg,g,e2,e2',lb,e3,e3',l3,p1,-evDraw_c,evDraw_0]
   refine W.chunk ?_
   simp (disch:=first|omega|exact zE rfl|exact zO|exact zL rfl) [c49_o15,zG,q]
   exact kR _ _ ⟨bz2,by simp [T.get,q]⟩
  ·rw [Bool.true_or] at p1
   refine W.assoc ?_
   refine zCh ?_
   simp (disch:=first|omega|exact zE rfl|exact zO|exact zL rfl) [c49_o13,zG,q,gx,ey,ey',h2]
   refine zCh ?_
   simp (disch:=first|omega|exact zE rfl|exact zO|exact zL rfl) [zG,q]
   refine W.seq (W.block ?_)
   refine W.chunk ?_
   simp (disch:=first|omega|exact zE rfl|exact zO|exact zL rfl) [c49_o14,zG,q,gx,ey,ey',h2,go,lo,er,er',gr,gy,e1,e1',lg,g,e2,e2',lb,e3,e3',l3,p1,-evDraw_c,evDraw_0]
   refine W.chunk ?_
   simp (disch:=first|omega|exact zE rfl|exact zO|exact zL rfl) [c49_o15,zG,q]
   exact kR _ _ ⟨bz2,by simp [T.get,q]⟩
 ·refine Tr.w fun s1 H1 hp R kR => W.trim ?_
  obtain ⟨bz,q⟩:=hp
  dsimp only [X0q] at kR
  obtain ⟨rs,h1,h2,h3⟩:=ln.kp bz.kp
  obtain ⟨bx,rfl,gx⟩ : ∃ b,x = .slice b 0 S.length S.length ∧ H1.get b = .cells 1 S.length rs:=by
   rcases h1 with ⟨_,e⟩ | h
   ·omega
   ·exact h
  obtain ⟨y,ey,rv⟩:=h3 i hi
  have ey':=getI ey
  have sy:=rv.sl
  rw [gn_len] at sy
  clear h1 h3 rv ln ct
  generalize (S.getD i []).length = l at *
  generalize hnn : S.length = n at *
  rcases sy with ⟨rfl,rfl⟩ | ⟨b1,v1,rfl⟩
  all_goals
   refine W.assoc ?_
   refine zCh ?_
   simp (disch:=first|omega|exact zE rfl|exact zO|exact zL rfl) [c49_o13,zG,q,gx,ey,ey',h2]
   refine zCh ?_
   simp (disch:=first|omega|exact zE rfl|exact zO|exact zL rfl) [zG,q]
   exact kR _ _ ⟨bz,by simp [T.get,q]⟩
def X1 (Hk : Heap) (S : List (List Nat)) (f : Nat → Nat → Bool) (b : Nat) (x1 x8 x z : AV) (D : Int) (j i : Nat) : SP:=fun s h => BB Hk h b S.length (f i) ∧ s.get [false] = x1 ∧ s.get [true,false,false] = x8 ∧ s.get [false,true,false] = x ∧ s.get [true,true,false] = G D ∧ s.get [false,false,true] = z ∧ s.get [true,false,true] = G j ∧ s.get [false,true,true] = .slice b 0 S.length S.length ∧ s.get [true,true,true] = G i
set_option maxHeartbeats 1000000 in
theorem c49_l1_ok (J : CallF) (os : OkS S) {Hk : Heap} {x x1 x8 z : AV} {D : Int} (ln : LN Hk x S) (s8 : (x8 = .nils ∧ S.length = 0) ∨ ∃ b v,x8 = .slice b 0 S.length v) {b : Nat} (hb : Hk.size ≤ b) (hN : Hk.N ≤ b) {p : Nat → Bool} {j : Nat} (ct : CT S.length p Hk z (j + 1) j) (hj : j ≤ 40) :
  Tr tbl J c49_l1 (X1 Hk S (fun i => nq S p i 0) b x1 x8 x z D (j + 1) 0) (.exit 2) (X1 Hk S (fun i => nq S p i 0) b x1 x8 x z D (j + 1) S.length):=by
 have n2:=os.n
 refine Tr.rounds (P:=X1 Hk S (fun i => nq S p i 0) b x1 x8 x z D (j + 1)) (M:=S.length) (fun i hi => ?_) ?_ (by simp) 0 (by omega)
 ·refine Tr.w fun s1 H1 hp R kR => W.trim ?_
  obtain ⟨bz,q⟩:=hp
  dsimp only [X1] at kR
  obtain ⟨b8,v8,rfl⟩:=s8.resolve_left (fun e => by omega)
  obtain ⟨H2,p1,bz2⟩:=bz.put hb hN hi false
  replace bz2:=bz2.ext (r:=nq S p i 0) fun u _ => by
   by_cases e : u = i
   ·rw [if_pos e,e]
    unfold nq
    rw [if_neg (by omega),if_pos rfl]; rfl
   ·rw [if_neg e]
  have l0:=c49_l0_ok (x1:=x1) (x8:=.slice b8 0 S.length v8) (D:=D) J os ln hb hN ct hj hi
  unfold X0 X0q at l0
  have post : ∀ h,BB Hk h b S.length (nq S p i (S.getD i []).length) → BB Hk h b S.length (nq S p (i + 1) 0):=fun h t => t.ext fun u _ => nq_next p i u
  have g:=bz.g
  have l3:=bb_len (nq S p i 0) S.length
  clear ln ct bz
  generalize bb (nq S p i 0) S.length = c1 at *
  generalize hnn : S.length = n at *
  refine W.assoc ?_
  refine zCh ?_
  simp (disch:=first|omega|exact zE rfl|exact zO|exact zL rfl) [c49_o10,zG,q]
  refine zCh ?_
  simp (disch:=first|omega|exact zE rfl|exact zO|exact zL rfl) [zG,q]
  refine W.seq (W.block ?_)
  refine zCh ?_
  simp (disch:=first|omega|exact zE rfl|exact zO|exact zL rfl) [c49_o11,zG,q,g,l3,p1]
  refine zCh ?_
  simp (disch:=first|omega|exact zE rfl|exact zO|exact zL rfl) [c49_o12,zG,q]
  refine W.block ?_
  refine W.use (l0) (by simp (disch:=first|omega|exact zE rfl|exact zO|exact zL rfl) [zG,q,bz2]) fun s1 H1 hp => ?_
  obtain ⟨t,q⟩:=hp
  try simp only [zW,if_true]
  refine W.chunk ?_
  simp (disch:=first|omega|exact zE rfl|exact zO|exact zL rfl) [c49_o16,zG,q]
  exact kR _ _ ⟨post _ t,by simp [T.get,q]⟩
 ·refine Tr.w fun s1 H1 hp R kR => W.trim ?_
  obtain ⟨bz,q⟩:=hp
  dsimp only [X1] at kR
  clear ln ct
  generalize hnn : S.length = n at *
  rcases s8 with ⟨rfl,e⟩ | ⟨b8,v8,rfl⟩
  all_goals
   refine W.assoc ?_
   refine zCh ?_
   simp (disch:=first|omega|exact zE rfl|exact zO|exact zL rfl) [c49_o10,zG,q]
   refine zCh ?_
   simp (disch:=first|omega|exact zE rfl|exact zO|exact zL rfl) [zG,q]
   exact kR _ _ ⟨bz,by simp [T.get,q]⟩
def bel (i u : Nat) : Bool:=decide (u < i)
set_option maxHeartbeats 1000000 in
theorem c49_l1_z (J : CallF) (os : OkS S) {Hk : Heap} {x x1 x8 z : AV} {D : Int} (ln : LN Hk x S) (s8 : (x8 = .nils ∧ S.length = 0) ∨ ∃ b v,x8 = .slice b 0 S.length v) {b : Nat} (hb : Hk.size ≤ b) (hN : Hk.N ≤ b) :
  Tr tbl J c49_l1 (X1 Hk S bel b x1 x8 x z D 0 0) (.exit 2) (X1 Hk S bel b x1 x8 x z D 0 S.length):=by
 have n2:=os.n
 refine Tr.rounds (P:=X1 Hk S bel b x1 x8 x z D 0) (M:=S.length) (fun i hi => ?_) ?_ (by simp) 0 (by omega)
 ·refine Tr.w fun s1 H1 hp R kR => W.trim ?_
  obtain ⟨bz,q⟩:=hp
  dsimp only [X1] at kR
  obtain ⟨b8,v8,rfl⟩:=s8.resolve_left (fun e => by omega)
  obtain ⟨H2,p1,bz2⟩:=bz.put hb hN hi true
  replace bz2:=bz2.ext (r:=bel (i + 1)) fun u _ => by
   by_cases e : u = i
   ·rw [if_pos e]; exact (decide_eq_true (by omega)).symm
   ·rw [if_neg e]
    show decide (u < i) = decide (u < i + 1)
    by_cases c : u < i
    ·rw [decide_eq_true c,decide_eq_true (by omega)]
    ·rw [decide_eq_false c,decide_eq_false (by omega)]
  obtain ⟨rs,h1,h2,h3⟩:=ln.kp bz2.kp
  obtain ⟨bx,rfl,gx⟩ : ∃ b,x = .slice b 0 S.length S.length ∧ H2.get b = .cells 1 S.length rs:=by
   rcases h1 with ⟨_,e⟩ | h
   ·omega
   ·exact h
  obtain ⟨y,ey,rv⟩:=h3 i hi
  have ey':=getI ey
  have sy:=rv.sl
  rw [gn_len] at sy
  have l2:=os.len i
  have l0 : Tr tbl J c49_l0 (fun s h => h = H2 ∧ s.get [false] = x1 ∧ s.get [true,false,false] = .slice b8 0 S.length v8 ∧ s.get [false,true,false] = .slice bx 0 S.length S.length ∧ s.get [true,true,false] = G D ∧ s.get [false,false,true] = z ∧ s.get [true,false,true] = G ((0 : Nat) : Int) ∧ s.get [false,true,true] = .slice b 0 S.length S.length ∧ s.get [true,true,true] = G i ∧ s.get [false,false,false,false] = G ((0 : Nat) : Int)) (.exit 4) (fun s h => h = H2 ∧ s.get [false] = x1 ∧ s.get [true,false,false] = .slice b8 0 S.length v8 ∧ s.get [false,true,false] = .slice bx 0 S.length S.length ∧ s.get [true,true,false] = G D ∧ s.get [false,false,true] = z ∧ s.get [true,false,true] = G ((0 : Nat) : Int) ∧ s.get [false,true,true] = .slice b 0 S.length S.length ∧ s.get [true,true,true] = G i):=by
   clear bz p1 bz2 ln rv h1 h3 kR
   refine Tr.out ?_ (by simp)
   generalize (S.getD i []).length = l at *
   generalize hnn : S.length = n at *
   rcases sy with ⟨rfl,rfl⟩ | ⟨b1,v1,rfl⟩
   ·refine Tr.w fun s1 H1 hp _ kR => W.trim ?_
    obtain ⟨rfl,q⟩:=hp
    refine W.assoc ?_
    refine zCh ?_
    simp (disch:=first|omega|exact zE rfl|exact zO|exact zL rfl) [c49_o13,zG,q,gx,ey,ey',h2]
    refine zCh ?_
    simp (disch:=first|omega|exact zE rfl|exact zO|exact zL rfl) [zG,q]
    exact kR _ _ (by simp [T.get,q])
   ·by_cases c : 0 < l
    ·refine Tr.w fun s1 H1 hp _ kR => W.trim ?_
     obtain ⟨rfl,q⟩:=hp
     refine W.assoc ?_
     refine zCh ?_
     simp (disch:=first|omega|exact zE rfl|exact zO|exact zL rfl) [c49_o13,zG,q,gx,ey,ey',h2]
     refine zCh ?_
     simp (disch:=first|omega|exact zE rfl|exact zO|exact zL rfl) [zG,q]
     exact kR _ _ (by simp [T.get,q])
    ·obtain rfl : l = 0:=by omega
     refine Tr.w fun s1 H1 hp _ kR => W.trim ?_
     obtain ⟨rfl,q⟩:=hp
     refine W.assoc ?_
     refine zCh ?_
     simp (disch:=first|omega|exact zE rfl|exact zO|exact zL rfl) [c49_o13,zG,q,gx,ey,ey',h2]
     refine zCh ?_
     simp (disch:=first|omega|exact zE rfl|exact zO|exact zL rfl) [zG,q]
     exact kR _ _ (by simp [T.get,q])
  have g:=bz.g
  have l3:=bb_len (bel i) S.length
  clear ln bz h1 h3 rv sy ey ey'
  generalize bb (bel i) S.length = c1 at *
  generalize hnn : S.length = n at *
  refine W.assoc ?_
  refine zCh ?_
  simp (disch:=first|omega|exact zE rfl|exact zO|exact zL rfl) [c49_o10,zG,q]
  refine zCh ?_
  simp (disch:=first|omega|exact zE rfl|exact zO|exact zL rfl) [zG,q]
  refine W.seq (W.block ?_)
  refine zCh ?_
  simp (disch:=first|omega|exact zE rfl|exact zO|exact zL rfl) [c49_o11,zG,q,g,l3,p1]
  refine zCh ?_
  simp (disch:=first|omega|exact zE rfl|exact zO|exact zL rfl) [c49_o12,zG,q]
  refine W.block ?_
  refine W.use (l0) (by simp (disch:=first|omega|exact zE rfl|exact zO|exact zL rfl) [zG,q]) fun s1 H1 hp => ?_
  obtain ⟨rfl,q⟩:=hp
  try simp only [zW,if_true]
  refine W.chunk ?_
  simp (disch:=first|omega|exact zE rfl|exact zO|exact zL rfl) [c49_o16,zG,q]
  exact kR _ _ ⟨bz2,by simp [T.get,q]⟩
 ·refine Tr.w fun s1 H1 hp R kR => W.trim ?_
  obtain ⟨bz,q⟩:=hp
  dsimp only [X1] at kR
  clear ln
  generalize hnn : S.length = n at *
  rcases s8 with ⟨rfl,e⟩ | ⟨b8,v8,rfl⟩
  all_goals
   refine W.assoc ?_
   refine zCh ?_
   simp (disch:=first|omega|exact zE rfl|exact zO|exact zL rfl) [c49_o10,zG,q]
   refine zCh ?_
   simp (disch:=first|omega|exact zE rfl|exact zO|exact zL rfl) [zG,q]
   exact kR _ _ ⟨bz,by simp [T.get,q]⟩
set_option maxHeartbeats 1000000 in
theorem c49_l2_ok (J : CallF) (os : OkS S) {Z : Heap} {x x1 x8 : AV} {D : Nat} (ln : LN Z x S) (s8 : (x8 = .nils ∧ S.length = 0) ∨ ∃ b v,x8 = .slice b 0 S.length v) (hD : D ≤ 40) :
  Tr tbl J c49_l2 (fun s h => ∃ z,TB Z h z (rowsA S 0) ∧ s.get [false] = x1 ∧ s.get [true,false,false] = x8 ∧ s.get [false,true,false] = x ∧ s.get [true,true,false] = G D ∧ s.get [false,false,true] = z ∧ s.get [true,false,true] = G ((0 : Nat) : Int)) (.exit 0)
   (fun s h => ∃ z,TB Z h z (rowsA S (D + 1)) ∧ s.get [false] = x1 ∧ s.get [true,false,false] = x8 ∧ s.get [false,true,false] = x ∧ s.get [true,true,false] = G D ∧ s.get [false,false,true] = z):=by
 have n2:=os.n
 refine Tr.rounds (e:=.exit 0) (P:=fun j s h => ∃ z,TB Z h z (rowsA S j) ∧ s.get [false] = x1 ∧ s.get [true,false,false] = x8 ∧ s.get [false,true,false] = x ∧ s.get [true,true,false] = G D ∧ s.get [false,false,true] = z ∧ s.get [true,false,true] = G j) (M:=D + 1) (fun j hj => ?_) ?_ (by simp) 0 (by omega)
 ·refine Tr.w fun s1 H1 hp _ kR => W.trim ?_
  obtain ⟨z,tb,q⟩:=hp
  obtain ⟨H2,hH2⟩ : ∃ H,H1.plus [.cells 1 S.length (List.replicate S.length (.bool false))] = H:=⟨_,rfl⟩
  have k2 : Kp (fun _ => False) H1 H2:=by rw [← hH2]; exact Kp.plus _ _
  have g0 : H2.get H1.size = .cells 1 S.length (bb (fun _ => false) S.length):=by rw [← bb_rep,← hH2]; exact plus_at0 _ _ _ _ rfl
  have hN : H1.N ≤ H1.size:=by unfold Heap.size; omega
  have mk1 : mkSl H1 1 (.bool false) S.length = some (.slice H1.size 0 S.length S.length,{ eff:=.grow [.cells 1 S.length (List.replicate S.length (.bool false))] }):=mkSl_ok _ _ _ _ _ rfl (by omega)
  have fin : ∀ h,BB H1 h H1.size S.length (al S j) → ∃ x1 e h2,appA (h.plus [.cells 1 1 [.slice H1.size 0 S.length S.length]]) h.size none 1 24 1 [.slice H1.size 0 S.length S.length] z = some (x1,e) ∧ Eff.app e (h.plus [.cells 1 1 [.slice H1.size 0 S.length S.length]]) = some h2 ∧ TB Z h2 x1 (rowsA S (j + 1)) ∧ ∃ qb,x1 = .slice qb 0 (j + 1) (j + 1):=fun h bz => by
   have lr : (lB (al S j) S.length).length = S.length:=lB_len _ _
   have t3:=tb.kp bz.kp
   have g : h.get H1.size = .cells 1 (lB (al S j) S.length).length (lB (al S j) S.length):=by rw [lr]; exact bz.g
   obtain ⟨x1,e,h2,q1,q2,q3,q4,q7⟩:=t3.appk h.size (b:=H1.size) (cs:=lB (al S j) S.length) g ⟨fun e => by
    obtain ⟨rs',lv,_⟩:=tb.r
    have:=lv.lt e; omega,tb.k.size⟩ (by rw [rowsA_len]; omega)
   rw [lr] at q1 q2 q4
   rw [← rowsA_succ] at q3
   obtain ⟨qb,_,ex,_⟩:=q3.sl (i:=0) (by rw [rowsA_len]; omega)
   rw [rowsA_len] at ex
   exact ⟨x1,e,h2,q1,q2,q3,qb,ex⟩
  have sz : (z = .nils ∧ j = 0) ∨ ∃ b,z = .slice b 0 j j:=by
   obtain ⟨rs',lv,hl,_⟩:=tb.r
   rw [rowsA_len] at hl
   rcases lv with ⟨rfl,e⟩ | ⟨b,e,_⟩
   ·left; refine ⟨rfl,?_⟩; rw [e] at hl; exact hl.symm
   ·right; rw [hl] at e; exact ⟨b,e⟩
  have e1 : ((j + 1 : Nat) : Int) = (j : Int) + 1:=by omega
  rw [e1] at kR
  cases j with
  | zero =>
   have l1:=c49_l1_z (x1:=x1) (z:=z) (D:=D) J os (ln.kp tb.k) s8 (Nat.le_refl H1.size) hN
   unfold X1 at l1
   have bz0 : BB H1 H2 H1.size S.length (bel 0):=BB.ext ⟨k2,g0⟩ fun u _ => (decide_eq_false (by omega)).symm
   have post : ∀ h,BB H1 h H1.size S.length (bel S.length) → BB H1 h H1.size S.length (al S 0):=fun h t => t.ext fun u hu => decide_eq_true hu
   have z0 : ((0 : Nat) : Int) = 0:=rfl
   have l8 : ∃ b v,x8 = .nils ∧ S.length = 0 ∨ x8 = .slice b 0 S.length v:=by
    rcases s8 with h | ⟨b,v,h⟩
    ·exact ⟨0,0,.inl h⟩
    ·exact ⟨b,v,.inr h⟩
   obtain ⟨b8,v8,l8⟩:=l8
   clear tb ln g0
   generalize List.replicate S.length (AV.bool false) = rp at *
   generalize hnn : S.length = n at *
   rcases l8 with ⟨rfl,rfl⟩ | rfl
   ·have mk0 : mkSl H1 1 (.bool false) 0 = some (.slice H1.size 0 0 0,{ eff:=.grow [.cells 1 0 rp] }):=mk1
    refine W.assoc ?_
    refine zCh ?_
    simp (disch:=first|omega|exact zE rfl|exact zO|exact zL rfl) [c49_o7,zG,q]
    refine zCh ?_
    simp (disch:=first|omega|exact zE rfl|exact zO|exact zL rfl) [zG,q]
    refine W.seq (W.block ?_)
    refine zCh ?_
    simp (disch:=first|omega|exact zE rfl|exact zO|exact zL rfl) [-act,c49_o8,zG,q,act_move,act_len1,act_mkSl,mk0,hH2]
    refine W.assoc ?_
    refine zCh ?_
    simp (disch:=first|omega|exact zE rfl|exact zO|exact zL rfl) [c49_o9,zG,q]
    refine W.seq (W.block ?_)
    refine W.use (l1) (by simp (disch:=first|omega|exact zE rfl|exact zO|exact zL rfl) [zG,q,bz0]) fun s1 H1 hp => ?_
    obtain ⟨t,q⟩:=hp
    try simp only [zW,if_true]
    obtain ⟨y1,e,h2,q1,q2,q3,qb,rfl⟩:=fin _ (post _ t)
    refine W.chunk ?_
    simp (disch:=first|omega|exact zE rfl|exact zO|exact zL rfl) [c49_o17,zG,q,elems,rdOf,app1_at,q1,q2]
    refine W.chunk ?_
    simp (disch:=first|omega|exact zE rfl|exact zO|exact zL rfl) [c49_o18,zG,q]
    exact kR _ _ ⟨_,q3,by simp [T.get,q]⟩
   ·refine W.assoc ?_
    refine zCh ?_
    simp (disch:=first|omega|exact zE rfl|exact zO|exact zL rfl) [c49_o7,zG,q]
    refine zCh ?_
    simp (disch:=first|omega|exact zE rfl|exact zO|exact zL rfl) [zG,q]
    refine W.seq (W.block ?_)
    refine zCh ?_
    simp (disch:=first|omega|exact zE rfl|exact zO|exact zL rfl) [-act,c49_o8,zG,q,act_move,act_len1,act_mkSl,mk1,hH2]
    refine W.assoc ?_
    refine zCh ?_
    simp (disch:=first|omega|exact zE rfl|exact zO|exact zL rfl) [c49_o9,zG,q]
    refine W.seq (W.block ?_)
    refine W.use (l1) (by simp (disch:=first|omega|exact zE rfl|exact zO|exact zL rfl) [zG,q,bz0]) fun s1 H1 hp => ?_
    obtain ⟨t,q⟩:=hp
    try simp only [zW,if_true]
    obtain ⟨y1,e,h2,q1,q2,q3,qb,rfl⟩:=fin _ (post _ t)
    refine W.chunk ?_
    simp (disch:=first|omega|exact zE rfl|exact zO|exact zL rfl) [c49_o17,zG,q,elems,rdOf,app1_at,q1,q2]
    refine W.chunk ?_
    simp (disch:=first|omega|exact zE rfl|exact zO|exact zL rfl) [c49_o18,zG,q]
    exact kR _ _ ⟨_,q3,by simp [T.get,q]⟩
  | succ j =>
   have ct:=tb.ct (j:=j) (by omega)
   have l1:=c49_l1_ok (x1:=x1) (D:=D) J os (ln.kp tb.k) s8 (Nat.le_refl H1.size) hN ct (by omega)
   unfold X1 at l1
   have bz0 : BB H1 H2 H1.size S.length (nq S (al S j) 0 0):=BB.ext ⟨k2,g0⟩ fun u _ => (nq_0 _ u).symm
   have post : ∀ h,BB H1 h H1.size S.length (nq S (al S j) S.length 0) → BB H1 h H1.size S.length (al S (j + 1)):=fun h t => t.ext fun u hu => by
    unfold nq
    rw [if_pos hu]; rfl
   have l8 : ∃ b v,x8 = .nils ∧ S.length = 0 ∨ x8 = .slice b 0 S.length v:=by
    rcases s8 with h | ⟨b,v,h⟩
    ·exact ⟨0,0,.inl h⟩
    ·exact ⟨b,v,.inr h⟩
   obtain ⟨b8,v8,l8⟩:=l8
   clear tb ln g0 ct
   generalize List.replicate S.length (AV.bool false) = rp at *
   generalize hnn : S.length = n at *
   rcases l8 with ⟨rfl,rfl⟩ | rfl
   ·have mk0 : mkSl H1 1 (.bool false) 0 = some (.slice H1.size 0 0 0,{ eff:=.grow [.cells 1 0 rp] }):=mk1
    refine W.assoc ?_
    refine zCh ?_
    simp (disch:=first|omega|exact zE rfl|exact zO|exact zL rfl) [c49_o7,zG,q]
    refine zCh ?_
    simp (disch:=first|omega|exact zE rfl|exact zO|exact zL rfl) [zG,q]
    refine W.seq (W.block ?_)
    refine zCh ?_
    simp (disch:=first|omega|exact zE rfl|exact zO|exact zL rfl) [-act,c49_o8,zG,q,act_move,act_len1,act_mkSl,mk0,hH2]
    refine W.assoc ?_
    refine zCh ?_
    simp (disch:=first|omega|exact zE rfl|exact zO|exact zL rfl) [c49_o9,zG,q]
    refine W.seq (W.block ?_)
    refine W.use (l1) (by simp (disch:=first|omega|exact zE rfl|exact zO|exact zL rfl) [zG,q,bz0]) fun s1 H1 hp => ?_
    obtain ⟨t,q⟩:=hp
    try simp only [zW,if_true]
    obtain ⟨y1,e,h2,q1,q2,q3,qb,rfl⟩:=fin _ (post _ t)
    refine W.chunk ?_
    simp (disch:=first|omega|exact zE rfl|exact zO|exact zL rfl) [c49_o17,zG,q,elems,rdOf,app1_at,q1,q2]
    refine W.chunk ?_
    simp (disch:=first|omega|exact zE rfl|exact zO|exact zL rfl) [c49_o18,zG,q]
    exact kR _ _ ⟨_,q3,by simp [T.get,q]⟩
   ·refine W.assoc ?_
    refine zCh ?_
    simp (disch:=first|omega|exact zE rfl|exact zO|exact zL rfl) [c49_o7,zG,q]
    refine zCh ?_
    simp (disch:=first|omega|exact zE rfl|exact zO|exact zL rfl) [zG,q]
    refine W.seq (W.block ?_)
    refine zCh ?_
    simp (disch:=first|omega|exact zE rfl|exact zO|exact zL rfl) [-act,c49_o8,zG,q,act_move,act_len1,act_mkSl,mk1,hH2]
    refine W.assoc ?_
    refine zCh ?_
    simp (disch:=first|omega|exact zE rfl|exact zO|exact zL rfl) [c49_o9,zG,q]
    refine W.seq (W.block ?_)
    refine W.use (l1) (by simp (disch:=first|omega|exact zE rfl|exact zO|exact zL rfl) [zG,q,bz0]) fun s1 H1 hp => ?_
    obtain ⟨t,q⟩:=hp
    try simp only [zW,if_true]
    obtain ⟨y1,e,h2,q1,q2,q3,qb,rfl⟩:=fin _ (post _ t)
    refine W.chunk ?_
    simp (disch:=first|omega|exact zE rfl|exact zO|exact zL rfl) [c49_o17,zG,q,elems,rdOf,app1_at,q1,q2]
    refine W.chunk ?_
    simp (disch:=first|omega|exact zE rfl|exact zO|exact zL rfl) [c49_o18,zG,q]
    exact kR _ _ ⟨_,q3,by simp [T.get,q]⟩
 ·refine Tr.w fun s1 H1 hp _ kR => W.trim ?_
  obtain ⟨z,tb,q⟩:=hp
  clear ln
  generalize hnn : S.length = n at *
  refine W.assoc ?_
  refine zCh ?_
  simp (disch:=first|omega|exact zE rfl|exact zO|exact zL rfl) [c49_o7,zG,q]
  refine zCh ?_
  simp (disch:=first|omega|exact zE rfl|exact zO|exact zL rfl) [zG,q]
  exact kR _ _ ⟨_,tb,by simp [T.get,q]⟩
end
section
variable {S R : List (List Nat)} {N : Nat}
theorem c49_l3_ok (J : CallF) {H : Heap} {x9 x11 : AV} {D : Int} {c n : Nat} (hc : c < n) (hR : R.length = n)
  (ne : ∀ d e,d < n → e < n → stW (R.getD d []) = stW (R.getD e []) → d = e)
  {bx vx : Nat} (gx : H.get bx = .cells 1 vx (wsL R)) {bs vs : Nat} {wl : List AV} (gs : H.get bs = .cells 1 vs wl) (lw : wl.length = N) (hN : 0 < N) (es : wl[N - 1]? = some (.str (stW (R.getD c [])))) (n40 : N ≤ 40) (n2 : n ≤ 1000) :
  ∀ d i,i + d = c → Tr tbl J c49_l3 (fun s h => h = H ∧ s.get [false] = .slice bs 0 N vs ∧ s.get [true,false,false] = .slice bx 0 n vx ∧ s.get [false,true,false] = x9 ∧ s.get [true,true,false] = G D ∧ s.get [false,false,true] = x11 ∧ s.get [true,false,false,false] = G i) (.exit 6) (fun s h => h = H ∧ s.get [false] = .slice bs 0 N vs ∧ s.get [true,false,false] = .slice bx 0 n vx ∧ s.get [false,true,false] = x9 ∧ s.get [true,true,false] = G D ∧ s.get [false,false,true] = x11 ∧ s.get [true,false,false,false] = G c):=by
 have es':=getI es
 have lr : (wsL R).length = n:=by rw [wsL_len,hR]
 have nn : ((N : Int) - 1).toNat = N - 1:=by omega
 intro d
 induction d with
 | zero =>
  intro i hi
  obtain rfl : i = c:=by omega
  have ew:=wsL_at (R:=R) (i:=i) (by omega)
  have ew':=getI ew
  clear ne
  refine Tr.out ?_ (by simp)
  generalize stW (R.getD i []) = u at *
  generalize wsL R = ws at *
  refine Tr.w fun s1 H1 hp _ kR => W.trim ?_
  obtain ⟨rfl,q⟩:=hp
  refine W.assoc ?_
  refine zCh ?_
  simp (disch:=first|omega|exact zE rfl|exact zO|exact zL rfl) [c49_o20,zG,q,gx,gs,ew,ew',lr,es,es',lw,nn,-evDraw_c,evDraw_0]
  refine zCh ?_
  simp (disch:=first|omega|exact zE rfl|exact zO|exact zL rfl) [zG,q]
  exact kR _ _ (by simp [T.get,q])
 | succ d ih =>
  intro i hi
  have ew:=wsL_at (R:=R) (i:=i) (by omega)
  have ew':=getI ew
  have nq : ¬ stW (R.getD i []) = stW (R.getD c []):=fun e => by
   have:=ne _ _ (by omega) hc e
   omega
  have ih':=ih (i + 1) (by omega)
  rw [show ((i + 1 : Nat) : Int) = (i : Int) + 1 by omega] at ih'
  refine Tr.next ?_ ih'
  clear ne ih ih'
  generalize stW (R.getD i []) = u2 at *
  generalize stW (R.getD c []) = u at *
  generalize wsL R = ws at *
  refine Tr.w fun s1 H1 hp _ kR => W.trim ?_
  obtain ⟨rfl,q⟩:=hp
  refine W.assoc ?_
  refine zCh ?_
  simp (disch:=first|omega|exact zE rfl|exact zO|exact zL rfl) [c49_o20,zG,q,gx,gs,ew,ew',lr,es,es',lw,nn,nq,-evDraw_c,evDraw_0]
  refine zCh ?_
  simp (disch:=first|omega|exact zE rfl|exact zO|exact zL rfl) [zG,q]
  refine W.block ?_
  refine W.chunk ?_
  simp (disch:=first|omega|exact zE rfl|exact zO|exact zL rfl) [c49_o21,zG,q]
  exact kR _ _ (by simp [T.get,q])
set_option maxHeartbeats 1000000 in
theorem c49_l4_ok (J : CallF) {H : Heap} {x8 x17 : AV} {n D k c i nb yb yv : Nat} {z : AV} {rs : List AV} {L : List Nat} (hn : S.length = n) (n2 : n ≤ 1000) (ct : CT n (al S k) H z (D + 1) k) (hk : k < D + 1) (hD : D ≤ 40) (gN : H.get nb = .cells 1 n rs) (lrs : rs.length = n) (hi : i < n) (ey0 : rs[i]? = some (.slice yb 0 L.length yv)) (gy : H.get yb = .cells 1 yv (gn L)) (hL : ∀ c ∈ L,c < n) (lL : L.length ≤ 1000) :
  ∀ j u,u + j = L.length → (L.drop u).find? (al S k) = some c → Tr tbl J c49_l4 (fun s h => h = H ∧ s.get [true,false,false] = x8 ∧ s.get [false,true,false] = .slice nb 0 n n ∧ s.get [false,false,true] = z ∧ s.get [true,false,false,false] = G i ∧ s.get [false,true,false,false] = x17 ∧ s.get [true,true,false,false] = G (k + 1 : Nat) ∧ s.get [false,false,true,false] = G u) (.exit 10)
   (fun s h => ∃ t : Nat,(h = H ∧ t < L.length ∧ L.getD t 0 = c) ∧ s.get [true,false,false] = x8 ∧ s.get [false,true,false] = .slice nb 0 n n ∧ s.get [false,false,true] = z ∧ s.get [true,false,false,false] = G i ∧ s.get [false,true,false,false] = x17 ∧ s.get [true,true,false,false] = G (k + 1 : Nat) ∧ s.get [false,false,true,false] = G t):=by
 have ey0':=getI ey0
 obtain ⟨bo,ros,br,rfl,go,lo,er,gr⟩:=ct.r
 have er':=getI er
 intro j
 induction j with
 | zero =>
  intro u hu hf
  rw [List.drop_of_length_le (by omega)] at hf
  cases hf
 | succ j ih =>
  intro u hu hf
  have hul : u < L.length:=by omega
  have dr : L.drop u = L.getD u 0 :: L.drop (u + 1):=by
   rw [List.drop_eq_getElem_cons hul,List.getD_eq_getElem?_getD,List.getElem?_eq_getElem hul]; rfl
  rw [dr,List.find?_cons] at hf
  have hd:=hL _ (gD_mem hul)
  have eb:=bb_at (al S k) hd
  have eb':=getI eb
  have lb:=bb_len (al S k) n
  have ey:=gn_at hul
  have ey':=getI ey
  have ly:=gn_len L
  cases e : al S k (L.getD u 0)
  ·simp only [e] at hf
   rw [e] at eb eb'
   have ih':=ih (u + 1) (by omega) hf
   rw [show ((u + 1 : Nat) : Int) = (u : Int) + 1 by omega] at ih'
   refine Tr.next ?_ ih'
   clear ih ih' ct hL dr hf e
   generalize bb (al S k) n = bs at *
   generalize gn L = gl at *
   generalize L.getD u 0 = d at *
   generalize L.length = l at *
   refine Tr.w fun s1 H1 hp _ kR => W.trim ?_
   obtain ⟨rfl,q⟩:=hp
   refine W.assoc ?_
   refine zCh ?_
   simp (disch:=first|omega|exact zE rfl|exact zO|exact zL rfl) [c49_o29,zG,q,gN,ey0,ey0',lrs,gy,ey,ey',ly,go,lo,er,er',gr,eb,eb',lb,-evDraw_c,evDraw_0]
   refine zCh ?_
   simp (disch:=first|omega|exact zE rfl|exact zO|exact zL rfl) [zG,q]
   refine W.block ?_
   refine W.chunk ?_
   simp (disch:=first|omega|exact zE rfl|exact zO|exact zL rfl) [c49_o30,zG,q]
   exact kR _ _ (by simp [T.get,q])
  ·simp only [e,Option.some.injEq] at hf
   rw [e] at eb eb'
   refine Tr.out ?_ (by simp)
   clear ih ct hL dr
   generalize bb (al S k) n = bs at *
   generalize gn L = gl at *
   generalize hdd : L.getD u 0 = d at *
   generalize hll : L.length = l at *
   refine Tr.w fun s1 H1 hp _ kR => W.trim ?_
   obtain ⟨rfl,q⟩:=hp
   refine W.assoc ?_
   refine zCh ?_
   simp (disch:=first|omega|exact zE rfl|exact zO|exact zL rfl) [c49_o29,zG,q,gN,ey0,ey0',lrs,gy,ey,ey',ly,go,lo,er,er',gr,eb,eb',lb,-evDraw_c,evDraw_0]
   refine zCh ?_
   simp (disch:=first|omega|exact zE rfl|exact zO|exact zL rfl) [zG,q]
   exact kR _ _ ⟨u,⟨rfl,hul,by rw [hdd]; exact hf⟩,by simp [T.get,q]⟩
set_option maxHeartbeats 1000000 in
theorem c49_l5_ok (J : CallF) {H4 : Heap} {bx vx nb n D : Nat} {z11 : AV} {rs : List AV} {rows R : List (List Nat)} {E : List Nat} (hn : S.length = n) (gx : H4.get bx = .cells 1 vx (wsL rows)) (rl : rows.length = n) (gN : H4.get nb = .cells 1 n rs) (lrs : rs.length = n) (h4 : ∀ i,i < n → ∃ y,rs[i]? = some y ∧ RV H4 y (gn (S.getD i []))) (os : OkS S) (ct : ∀ j,j < D + 1 → CT n (al S j) H4 z11 (D + 1) j) (hD : D ≤ 40) (lR : R.length ≤ 40) :
  Tr tbl J c49_l5 (fun s h => ∃ z done i,(NV H4 h z (wsL (R ++ rT2 rows done)) ∧ XE S D 0 E done i) ∧ s.get [true,false,false] = .slice bx 0 n vx ∧ s.get [false,true,false] = .slice nb 0 n n ∧ s.get [false,false,true] = z11 ∧ s.get [true,false,false,false] = G (i : Nat) ∧ s.get [false,true,false,false] = z ∧ s.get [true,true,false,false] = G ((D : Int) - ((0 : Nat) : Int))) (.exit 8)
   (fun s h => ∃ z,NV H4 h z (wsL (R ++ rT2 rows E)) ∧ s.get [false,true,false,false] = z):=by
 have n2:=os.n
 rw [hn] at n2
 refine Tr.rounds (e:=.exit 8) (P:=fun t s h => ∃ z done i,(NV H4 h z (wsL (R ++ rT2 rows done)) ∧ XE S D t E done i) ∧ s.get [true,false,false] = .slice bx 0 n vx ∧ s.get [false,true,false] = .slice nb 0 n n ∧ s.get [false,false,true] = z11 ∧ s.get [true,false,false,false] = G (i : Nat) ∧ s.get [false,true,false,false] = z ∧ s.get [true,true,false,false] = G ((D : Int) - t)) (M:=D) (fun t ht => ?_) ?_ (by simp) 0 (by omega)
 ·refine Tr.w fun s1 H1 hp _ kR => W.trim ?_
  obtain ⟨z,done,i,⟨nv,xe⟩,q⟩:=hp
  obtain ⟨k,hk⟩ : ∃ k,D = k + 1 + t:=⟨D - 1 - t,by omega⟩
  have e16 : (D : Int) - (t : Int) = (k + 1 : Nat):=by omega
  have e17 : (D : Int) - ((t + 1 : Nat) : Int) = ((k + 1 : Nat) : Int) - 1:=by omega
  rw [e16] at q
  rw [e17] at kR
  obtain ⟨xe1,xe2,xe3,xe4⟩:=xe
  rw [show D - t = k + 1 by omega] at xe1 xe3
  have xf:=exC_find xe3
  obtain ⟨xm,xa⟩:=exC_ok xe3
  have hL : ∀ c ∈ S.getD i [],c < n:=fun c hc => by rw [← hn]; exact os.lt i c hc
  have hin : i < n:=by omega
  obtain ⟨y,ey,rv0⟩:=h4 i hin
  have rv:=rv0.kp nv.k (fun _ _ => id)
  obtain ⟨yb,yv,rfl,gy⟩ : ∃ b v,y = .slice b 0 (S.getD i []).length v ∧ H1.get b = .cells 1 v (gn (S.getD i [])):=by
   rcases rv with ⟨_,e⟩ | ⟨b,v,e,g⟩
   ·have : (gn (S.getD i [])).length = 0:=by rw [e]; rfl
    rw [gn_len] at this
    rw [List.length_eq_zero_iff.1 this] at xm
    cases xm
   ·rw [gn_len] at e; exact ⟨b,v,e,g⟩
  have ey':=getI ey
  have lL:=os.len i
  have gN':=nv.k.at gN (by simp) id
  have gx':=nv.k.at gx (by simp) id
  have l4:=c49_l4_ok (x8:=.slice bx 0 n vx) (x17:=z) (i:=i) J hn n2 ((ct k (by omega)).kp nv.k) (by omega) hD gN' lrs hin ey gy hL lL (S.getD i []).length 0 (by omega) (by rw [List.drop_zero]; exact xf)
  have xi2 : XE S D (t + 1) E (done ++ [exC S k i]) (exC S k i):=by
   refine ⟨?_,by rw [hn]; exact hL _ xm,?_,by rw [List.length_append,xe4]; rfl⟩
   ·rw [show D - (t + 1) = k by omega,List.append_assoc]
    exact xe1
   ·rw [show D - (t + 1) = k by omega]; exact xa
  have hcn:=hL _ xm
  have ew:=wsL_at (R:=rows) (i:=exC S k i) (by omega)
  have ew':=getI ew
  have lw:=wsL_len rows
  rw [rl] at lw
  obtain ⟨x1,e,H2,q1,q2,nv2,_⟩:=nv.app H1.size 16 (.str (stW (rows.getD (exC S k i) []))) (by rw [wsL_len,List.length_append]; unfold rT2; rw [List.length_map]; omega)
  have ewa : wsL (R ++ rT2 rows done) ++ [.str (stW (rows.getD (exC S k i) []))] = wsL (R ++ rT2 rows (done ++ [exC S k i])):=by
   rw [← wsL_app,List.append_assoc]
   unfold rT2
   rw [List.map_append]; rfl
  rw [ewa] at nv2
  have ap:=app1_at H1 (.str (stW (rows.getD (exC S k i) [])))
  have cU : ∀ t,t < (S.getD i []).length → (S.getD i []).getD t 0 = exC S k i → (gn (S.getD i []))[t]? = some (G (exC S k i)) ∧ ∀ h : t < (gn (S.getD i [])).length,(gn (S.getD i []))[t] = G (exC S k i):=fun t ht e => by
   have:=gn_at ht
   rw [e] at this
   exact ⟨this,getI this⟩
  have ly:=gn_len (S.getD i [])
  clear h4 ct rv rv0 hL xe1 xe3 xf xm xa nv ewa
  generalize exC S k i = c at *
  generalize stW (rows.getD c []) = w at *
  generalize wsL rows = wr at *
  generalize gn (S.getD i []) = gl at *
  generalize hll : (S.getD i []).length = l at *
  refine W.assoc ?_
  refine zCh ?_
  simp (disch:=first|omega|exact zE rfl|exact zO|exact zL rfl) [c49_o27,zG,q]
  refine zCh ?_
  simp (disch:=first|omega|exact zE rfl|exact zO|exact zL rfl) [zG,q]
  refine W.seq (W.block ?_)
  refine zCh ?_
  simp (disch:=first|omega|exact zE rfl|exact zO|exact zL rfl) [c49_o28,zG,q]
  refine W.seq (W.block ?_)
  refine W.use (l4) (by simp (disch:=first|omega|exact zE rfl|exact zO|exact zL rfl) [zG,q]) fun s1 H1 hp => ?_
  obtain ⟨t',⟨rfl,ht',htc⟩,q⟩:=hp
  try simp only [zW,if_true]
  obtain ⟨c1,c1'⟩:=cU t' ht' htc
  refine zCh ?_
  simp (disch:=first|omega|exact zE rfl|exact zO|exact zL rfl) [c49_o31,zG,q,gN',ey,ey',lrs,gy,c1,c1',ly]
  refine W.chunk ?_
  simp (disch:=first|omega|exact zE rfl|exact zO|exact zL rfl) [c49_o32,zG,q,gx',ew,ew',lw,elems,rdOf,ap,q1,q2]
  refine W.chunk ?_
  simp (disch:=first|omega|exact zE rfl|exact zO|exact zL rfl) [c49_o33,zG,q]
  exact kR _ _ ⟨_,_,_,⟨nv2,xi2⟩,by simp [T.get,q]⟩
 ·refine Tr.w fun s1 H1 hp _ kR => W.trim ?_
  obtain ⟨z,done,i,⟨nv,xe⟩,q⟩:=hp
  obtain ⟨xe1,xe2,xe3,xe4⟩:=xe
  rw [Int.sub_self] at q
  rw [Nat.sub_self] at xe1
  have : done = E:=by rw [← xe1]; exact (List.append_nil _).symm
  subst this
  clear h4 ct
  refine W.assoc ?_
  refine zCh ?_
  simp (disch:=first|omega|exact zE rfl|exact zO|exact zL rfl) [c49_o27,zG,q]
  refine zCh ?_
  simp (disch:=first|omega|exact zE rfl|exact zO|exact zL rfl) [zG,q]
  exact kR _ _ ⟨_,nv,by simp [T.get,q]⟩
end
theorem c49_o3_ok (J : CallF) {Hs Z : Heap} {b bs vs N : Nat} {n : Int} {wl : List AV} {w0 : List UInt8} {own1 own2 : List AObj} {x9 x10 : AV} {aq : Int} {ml : Nat} {ax ay : AV} (gS : Hs.get b = .cells 0 3 [G aq,ax,ay]) (gS1 : (Hs.plus own1).get b = .cells 0 3 [G aq,ax,ay]) (gs : Hs.get bs = .cells 1 vs wl) (gs1 : (Hs.plus own1).get bs = .cells 1 vs wl) (lw : wl.length = N) (hN : 0 < N) (e0 : wl[0]? = some (.str w0)) (lm : w0.length = ml)
  (e30 : J 30 [.agg [G aq,ax,ay],G ml] Hs = some (x9,own1,false)) (e31 : J 31 [.agg [G aq,ax,ay],G ml] (Hs.plus own1) = some (x10,own2,false)) (hZ : (Hs.plus own1).plus own2 = Z) :
  Tr tbl J c49_o3 (fun s h => h = Hs ∧ s.get [false] = .slice bs 0 N vs ∧ s.get [true] = G n ∧ s.get [false,false] = .ptr b 0 3) .normal (fun s h => h = Z ∧ s.get [false] = .slice bs 0 N vs ∧ s.get [true] = G n ∧ s.get [true,false,false] = x9 ∧ s.get [false,true,false] = x10):=by
 have hb:=get_lt gS (by simp)
 have hb2:=get_lt gs (by simp)
 have e0':=getI e0
 have hp0 : ∀ H : Heap,H.plus [] = H:=fun H => by simp [Heap.plus]
 have o1 : own1 = [] ∨ ∃ o os,own1 = o :: os:=by cases own1 <;> simp
 have o2 : own2 = [] ∨ ∃ o os,own2 = o :: os:=by cases own2 <;> simp
 rcases o1 with rfl | ⟨u1,v1,rfl⟩ <;> rcases o2 with rfl | ⟨u2,v2,rfl⟩
 all_goals
  try rw [hp0] at hZ
  try rw [hp0] at hZ
  try rw [hp0] at gS1
  try rw [hp0] at gs1
  try rw [hp0] at e31
  subst hZ
  refine Tr.w fun s1 H1 hp _ kR => ?_
  obtain ⟨rfl,q⟩:=hp
  refine W.chunk ?_
  simp (disch:=first|omega|exact zE rfl|exact zO|exact zL rfl) [c49_o3,zG,q,gS,gS1,gs,gs1,lw,e0,e0',lm,e30,e31,-evDraw_c,evDraw_0]
  refine kR _ _ ?_
  simp [T.get,q]
def Post49 (a : AR) (m : Nat) (R : List (List Nat)) (N : Nat) (h : Heap) (v : AV) (own : List AObj) : Prop :=
 (kpS a.g R = false → v = .tup [.nils,.bool false] ∧ own = []) ∧
 ∀ P : List Nat,kpS a.g R = true → R = rT2 (a.rows (m : Nat)) P → VC (a.steps (m : Nat)) (-1) P →
   (al (a.steps (m : Nat)) (N - R.length) (P.getD (R.length - 1) 0) = false → v = .tup [.nils,.bool false] ∧ own = []) ∧
   (al (a.steps (m : Nat)) (N - R.length) (P.getD (R.length - 1) 0) = true → ∃ x,v = .tup [x,.bool true] ∧ RV (h.plus own) x (wsL (R ++ extR a m (N - R.length) (P.getD (R.length - 1) 0))))
section
variable {a : AR} {m b v N : Nat} {R : List (List Nat)}
set_option maxHeartbeats 4000000 in
theorem c49_ok (J : CallF) (k30 : K30 J) (k31 : K31 J) (k46 : K46g J) (hJ : ∀ a h,J 49 a h = none) (h : Heap) (o : OkR a h) (rm : a.rm (m : Nat) = true) (ws : WS a.g m R) (n1 : 1 ≤ R.length) (n2 : R.length ≤ N) (n40 : N ≤ 40) (g : h.get b = .cells 1 v (wsL R)) :
  ∃ v' own,CallsTo tbl J 49 [a.v,.slice b 0 R.length v,G N] h (v',own,false) ∧ Post49 a m R N h v' own:=by
 obtain ⟨r1,r2⟩:=a.rm_iff rm
 obtain ⟨os,s243,sr⟩:=AR.steps_ok rm
 obtain ⟨Hs,hHs⟩ : ∃ H,(frameOf h).plus [.cells 0 3 [G a.q,a.x,a.y]] = H:=⟨_,rfl⟩
 have kHs : Kp (fun _ => False) (frameOf h) Hs:=by rw [← hHs]; exact Kp.plus _ _
 have oH : OkR a Hs:=OkR.kp (o.lo []) kHs
 have gS : Hs.get h.size = .cells 0 3 [G a.q,a.x,a.y]:=by rw [← hHs]; exact plus_at0 _ _ _ _ (frS h)
 have gF : (frameOf h).get b = .cells 1 v (wsL R):=by
  unfold frameOf
  rw [get_mk_lt _ _ _ _ (get_lt g (by simp))]; exact g
 have gH:=kHs.at gF (by simp) id
 have fz:=frS h
 have av : a.v = .agg [G a.q,a.x,a.y]:=rfl
 have e46:=k46 Hs a.g m R b v (oH.g r1) ws gH
 rw [a.gv r1,av] at e46
 have lw:=wsL_len R
 cases hk : kpS a.g R
 ·rw [hk] at e46
  have : CallsTo tbl J 49 [a.v,.slice b 0 R.length v,G N] h (.tup [.nils,.bool false],[],false):=by
   refine Tr.fnv (cf:=c49) (e:=.ret) (s:=T.set (T.set (T.set .leaf [] a.v) [false] (.slice b 0 R.length v)) [true] (G N)) (by decide) rfl (hJ _ _) rfl rfl rfl (by simp) ?_
   refine Tr.post (Q:=(fun s h => s.get [true,true] = .nils ∧ s.get [false,false,false] = .bool false)) (fun s h q => by simp [c49,q]) ?_
   rw [av]
   clear oH o kHs ws k30 k31 k46 os s243 sr rm gF gH g lw hk
   generalize R.length = l at *
   refine Tr.w fun s1 H1 hp _ kR => ?_
   obtain ⟨rfl,rfl⟩:=hp
   have q : True:=trivial
   refine zCh ?_
   simp (disch:=first|omega|exact zE rfl|exact zO|exact zL rfl) [c49_o0,zG,q,hHs,fz]
   refine W.assoc ?_
   refine zCh ?_
   simp (disch:=first|omega|exact zE rfl|exact zO|exact zL rfl) [c49_o1,zG,q,fz,gS,e46]
   refine zCh ?_
   simp (disch:=first|omega|exact zE rfl|exact zO|exact zL rfl) [c49_o2,zG,q]
   exact kR _ _ (by simp [T.get])
  exact ⟨_,_,this,fun _ => ⟨rfl,rfl⟩,fun P e => (by rw [hk] at e; cases e)⟩
 ·rw [hk] at e46
  obtain ⟨P,eP,vc⟩:=pos_ex ws hk
  have hrows : rwL a.g.q a.g.B m = a.rows (m : Nat):=by
   unfold AR.rows AR.g
   rw [Int.toNat_natCast]
  have hsteps : stL a.g.W (a.rows (m : Nat)) = a.steps (m : Nat):=rfl
  rw [hrows] at eP vc
  rw [hsteps] at vc
  have lP : P.length = R.length:=by rw [eP,rT2_len]
  obtain ⟨x9,own1,e30,l30,_⟩:=k30 Hs a.g m (oH.g r1) (by omega)
  rw [a.gv r1] at e30
  have kA : Kp (fun _ => False) Hs (Hs.plus own1):=Kp.plus _ _
  have gS1:=kA.at gS (by simp) id
  have gA:=kA.at gH (by simp) id
  obtain ⟨x10,own2,e31,l31⟩:=k31 (Hs.plus own1) a.g m ((oH.kp kA).g r1) (by omega)
  rw [a.gv r1] at e31
  obtain ⟨Z,hZ⟩ : ∃ Z,(Hs.plus own1).plus own2 = Z:=⟨_,rfl⟩
  have kZ : Kp (fun _ => False) (Hs.plus own1) Z:=by rw [← hZ]; exact Kp.plus _ _
  rw [hZ] at l31
  have ln : LN Z x10 (a.steps (m : Nat)):=l31.ln
  have rx : RV Z x9 (wsL (a.rows (m : Nat))):=l30.kp kZ (fun _ _ => id)
  have w0:=wsL_at (R:=R) (i:=0) (by omega)
  have wl0 : (stW (R.getD 0 [])).length = m:=by
   rw [stW_len]
   exact (ws.at (by omega)).1
  have t3:=c49_o3_ok (n:=N) J gS gS1 gH gA lw n1 w0 wl0 e30 e31 hZ
  obtain ⟨D,hD⟩ : ∃ D,N = R.length + D:=⟨N - R.length,by omega⟩
  obtain ⟨l',hl'⟩ : ∃ l',R.length = l' + 1:=⟨R.length - 1,by omega⟩
  have hcS : P.getD l' 0 < (a.steps (m : Nat)).length:=vc.lt _ (gD_mem (by omega))
  have wi:=wsL_at (R:=R) (i:=R.length - 1) (by omega)
  have eL : R.getD (R.length - 1) [] = (a.rows (m : Nat)).getD (P.getD l' 0) []:=by
   rw [show R.length - 1 = l' by omega]
   conv => lhs; rw [eP]
   rw [rT2_at (by omega)]
  rw [eL] at wi
  have ne : ∀ d e,d < (a.steps (m : Nat)).length → e < (a.steps (m : Nat)).length → stW ((a.rows (m : Nat)).getD d []) = stW ((a.rows (m : Nat)).getD e []) → d = e:=fun d e hd he h => by
   rw [sr] at hd he
   have q3:=a.q3 r1
   have md:=rwL_mem (List.getElem_mem hd)
   have me:=rwL_mem (List.getElem_mem he)
   rw [List.getD_eq_getElem?_getD,List.getD_eq_getElem?_getD,List.getElem?_eq_getElem hd,List.getElem?_eq_getElem he] at h
   have h':=stW_inj (fun c hc => by have:=md.2.1 c hc; omega) (fun c hc => by have:=me.2.1 c hc; omega) h
   have nd:=rows_nd a.q.toNat a.B ((m : Int)).toNat
   rcases Nat.lt_trichotomy d e with l | l | l
   ·exact absurd h' ((List.pairwise_iff_getElem.1 nd) d e hd he l)
   ·exact l
   ·exact absurd h'.symm ((List.pairwise_iff_getElem.1 nd) e d he hd l)
  have ePost : ∀ v' own,((al (a.steps (m : Nat)) D (P.getD l' 0) = false → v' = AV.tup [.nils,.bool false] ∧ own = []) ∧ (al (a.steps (m : Nat)) D (P.getD l' 0) = true → ∃ x,v' = .tup [x,.bool true] ∧ RV (h.plus own) x (wsL (R ++ extR a m D (P.getD l' 0))))) → Post49 a m R N h v' own:=fun v' own hp => by
   refine ⟨fun e => (by rw [hk] at e; cases e),fun P' _ eP' vc' => ?_⟩
   rw [show N - R.length = D by omega,hl',Nat.add_sub_cancel]
   have l1 : ∀ c ∈ P,c < (a.rows (m : Nat)).length:=fun c hc => by rw [← sr]; exact vc.lt c hc
   have l2 : ∀ c ∈ P',c < (a.rows (m : Nat)).length:=fun c hc => by rw [← sr]; exact vc'.lt c hc
   have : P = P':=rT2_inj (rows_nd _ _ _) l1 l2 (eP.symm.trans eP')
   rw [← this]; exact hp
  have n2S:=os.n
  obtain ⟨bx,vx,rfl,gx⟩ : ∃ b v,x9 = .slice b 0 (a.steps (m : Nat)).length v ∧ Z.get b = .cells 1 v (wsL (a.rows (m : Nat))):=by
   rcases rx with ⟨_,e⟩ | ⟨b,v,e,g⟩
   ·have : (wsL (a.rows (m : Nat))).length = 0:=by rw [e]; rfl
    rw [wsL_len] at this; omega
   ·rw [wsL_len,← sr] at e; exact ⟨b,v,e,g⟩
  have l2:=c49_l2_ok (x1:=.slice b 0 R.length v) (D:=D) J os ln (.inr ⟨bx,vx,rfl⟩) (by omega)
  have l2' : Tr tbl J c49_l2 (fun s h => h = Z ∧ s.get [false] = .slice b 0 R.length v ∧ s.get [true,false,false] = .slice bx 0 (a.steps (m : Nat)).length vx ∧ s.get [false,true,false] = x10 ∧ s.get [true,true,false] = G D ∧ s.get [false,false,true] = .nils ∧ s.get [true,false,true] = G ((0 : Nat) : Int)) (.exit 0) (fun s h => ∃ z,TB Z h z (rowsA (a.steps (m : Nat)) (D + 1)) ∧ s.get [false] = .slice b 0 R.length v ∧ s.get [true,false,false] = .slice bx 0 (a.steps (m : Nat)).length vx ∧ s.get [false,true,false] = x10 ∧ s.get [true,true,false] = G D ∧ s.get [false,false,true] = z):=Tr.pre (fun s h ⟨h0,q1,q2,q3,q4,q5,q6⟩ => ⟨.nils,by rw [h0]; exact TB.nil Z,q1,q2,q3,q4,q5,q6⟩) l2
  have gZ:=kZ.at gA (by simp) id
  have kS : Kp (fun _ => False) (frameOf h) Z:=(kHs.trans kA).trans kZ
  obtain ⟨rs,lv,lrs,hr⟩:=ln
  obtain ⟨nb,rfl,gN⟩:=lv.resolve_left (fun e => by omega)
  have after : ∀ z H,TB Z H z (rowsA (a.steps (m : Nat)) (D + 1)) → Tr tbl J c49_l3 (fun s h => h = H ∧ s.get [false] = .slice b 0 R.length v ∧ s.get [true,false,false] = .slice bx 0 (a.steps (m : Nat)).length vx ∧ s.get [false,true,false] = .slice nb 0 (a.steps (m : Nat)).length (a.steps (m : Nat)).length ∧ s.get [true,true,false] = G D ∧ s.get [false,false,true] = z ∧ s.get [true,false,false,false] = G ((0 : Nat) : Int)) (.exit 6) (fun s h => h = H ∧ s.get [false] = .slice b 0 R.length v ∧ s.get [true,false,false] = .slice bx 0 (a.steps (m : Nat)).length vx ∧ s.get [false,true,false] = .slice nb 0 (a.steps (m : Nat)).length (a.steps (m : Nat)).length ∧ s.get [true,true,false] = G D ∧ s.get [false,false,true] = z ∧ s.get [true,false,false,false] = G (P.getD l' 0 : Nat)) ∧
    ∃ bo ros br,z = .slice bo 0 (D + 1) (D + 1) ∧ H.get bo = .cells 1 (D + 1) ros ∧ ros.length = D + 1 ∧ ros[D]? = some (.slice br 0 (a.steps (m : Nat)).length (a.steps (m : Nat)).length) ∧ H.get br = .cells 1 (a.steps (m : Nat)).length (bb (al (a.steps (m : Nat)) D) (a.steps (m : Nat)).length):=fun z H tb => by
   refine ⟨c49_l3_ok J hcS sr.symm ne (tb.k.at gx (by simp) id) (tb.k.at gZ (by simp) id) lw n1 wi (by omega) n2S (P.getD l' 0) 0 (by omega),?_⟩
   exact (tb.ct (j:=D) (by omega)).r
  have dd : (N : Int) - (R.length : Int) = D:=by omega
  have eb:=bb_at (al (a.steps (m : Nat)) D) hcS
  have eb':=getI eb
  have lb:=bb_len (al (a.steps (m : Nat)) D) (a.steps (m : Nat)).length
  cases hal : al (a.steps (m : Nat)) D (P.getD l' 0)
  ·rw [hal] at eb eb'
   have : CallsTo tbl J 49 [a.v,.slice b 0 R.length v,G N] h (.tup [.nils,.bool false],[],false):=by
    refine Tr.fnv (cf:=c49) (e:=.ret) (s:=T.set (T.set (T.set .leaf [] a.v) [false] (.slice b 0 R.length v)) [true] (G N)) (by decide) rfl (hJ _ _) rfl rfl rfl (by simp) ?_
    refine Tr.post (Q:=(fun s h => s.get [true,true] = .nils ∧ s.get [false,false,false] = .bool false)) (fun s h q => by simp [c49,q]) ?_
    rw [av]
    clear oH o kHs ws k30 k31 k46 os s243 sr rm gF gH g lw hk l30 l31 kA kZ kS hr lv vc eP lP ePost ne wi wl0 w0 l2 hal eL gS1 gA e30 e31 gZ gx gN rx
    generalize bb (al (a.steps (m : Nat)) D) (a.steps (m : Nat)).length = bl at *
    generalize P.getD l' 0 = c at *
    generalize (a.steps (m : Nat)).length = nS at *
    generalize R.length = l at *
    refine Tr.w fun s1 H1 hp _ kR => ?_
    obtain ⟨rfl,rfl⟩:=hp
    have q : True:=trivial
    refine zCh ?_
    simp (disch:=first|omega|exact zE rfl|exact zO|exact zL rfl) [c49_o0,zG,q,hHs,fz]
    refine W.assoc ?_
    refine zCh ?_
    simp (disch:=first|omega|exact zE rfl|exact zO|exact zL rfl) [c49_o1,zG,q,fz,gS,e46]
    refine zCh ?_
    simp (disch:=first|omega|exact zE rfl|exact zO|exact zL rfl) [c49_o2,zG,q]
    refine W.seq (W.use (t3) (by simp (disch:=first|omega|exact zE rfl|exact zO|exact zL rfl) [zG,q,fz]) fun s1 H1 hp => ?_)
    obtain ⟨rfl,q⟩:=hp
    try simp only [zW,if_true]
    refine zCh ?_
    simp (disch:=first|omega|exact zE rfl|exact zO|exact zL rfl) [c49_o4,zG,q,dd]
    refine zCh ?_
    simp (disch:=first|omega|exact zE rfl|exact zO|exact zL rfl) [c49_o5,zG,q]
    refine W.assoc ?_
    refine zCh ?_
    simp (disch:=first|omega|exact zE rfl|exact zO|exact zL rfl) [c49_o6,zG,q]
    refine W.seq (W.block ?_)
    refine W.use (l2') (by simp (disch:=first|omega|exact zE rfl|exact zO|exact zL rfl) [zG,q]) fun s1 H1 hp => ?_
    obtain ⟨z,tb,q⟩:=hp
    try simp only [zW,if_true]
    obtain ⟨l3,bo,ros,br,rfl,go,lo,er,gr⟩:=after _ _ tb
    refine zCh ?_
    simp (disch:=first|omega|exact zE rfl|exact zO|exact zL rfl) [c49_o19,zG,q]
    refine W.seq (W.block ?_)
    refine W.use (l3) (by simp (disch:=first|omega|exact zE rfl|exact zO|exact zL rfl) [zG,q]) fun s1 H1 hp => ?_
    obtain ⟨rfl,q⟩:=hp
    try simp only [zW,if_true]
    refine W.assoc ?_
    have er':=getI er
    refine zCh ?_
    simp (disch:=first|omega|exact zE rfl|exact zO|exact zL rfl) [c49_o22,zG,q,go,lo,er,er',gr,eb,eb',lb]
    refine zCh ?_
    simp (disch:=first|omega|exact zE rfl|exact zO|exact zL rfl) [c49_o23,zG,q]
    exact kR _ _ (by simp [T.get])
   exact ⟨_,_,this,ePost _ _ ⟨fun _ => ⟨rfl,rfl⟩,fun e => (by rw [hal] at e; cases e)⟩⟩
  ·rw [hal] at eb eb'
   have post3 : ∀ z H,TB Z H z (rowsA (a.steps (m : Nat)) (D + 1)) → ∃ x1 e H2,appA H H.size none 1 16 R.length (wsL R) .nils = some (x1,e) ∧ Eff.app e H = some H2 ∧ H.get b = .cells 1 v (wsL R) ∧ Kp (fun _ => False) (frameOf h) H ∧
     Tr tbl J c49_l5 (fun s h => h = H2 ∧ s.get [true,false,false] = .slice bx 0 (a.steps (m : Nat)).length vx ∧ s.get [false,true,false] = .slice nb 0 (a.steps (m : Nat)).length (a.steps (m : Nat)).length ∧ s.get [false,false,true] = z ∧ s.get [true,false,false,false] = G (P.getD l' 0 : Nat) ∧ s.get [false,true,false,false] = x1 ∧ s.get [true,true,false,false] = G (D : Int)) (.exit 8) (fun s h => ∃ z,NV H h z (wsL (R ++ extR a m D (P.getD l' 0))) ∧ s.get [false,true,false,false] = z):=fun z H tb => by
    obtain ⟨x1,e,H2,q1,q2,nv2⟩:=(NV.nil H).apps H.size 16 (wsL R) (by omega) (by rw [lw]; simp; omega)
    rw [List.nil_append] at nv2
    rw [lw] at q1
    have kk:=tb.k
    have l5:=c49_l5_ok (R:=R) (E:=ext (a.steps (m : Nat)) D (P.getD l' 0)) J rfl (kk.at gx (by simp) id) sr.symm (kk.at gN (by simp) id) lrs (fun i hi => by
     obtain ⟨y,e1,e2⟩:=hr i hi
     exact ⟨y,e1,e2.kp kk (fun _ _ => id)⟩) os (fun j hj => tb.ct hj) (by omega) (by omega)
    refine ⟨x1,e,H2,q1,q2,kk.at gZ (by simp) id,kS.trans kk,Tr.pre (fun s h ⟨h0,q1,q2,q3,q4,q5,q6⟩ => ⟨_,[],_,⟨?_,⟨rfl,hcS,hal,rfl⟩⟩,q1,q2,q3,q4,q5,by rw [q6,show (D : Int) - ((0 : Nat) : Int) = (D : Int) by omega]⟩) l5⟩
    rw [show R ++ rT2 (a.rows (m : Nat)) [] = R from List.append_nil _,h0]
    exact nv2
   have fin : ∀ z H h',Kp (fun _ => False) (frameOf h) H → NV H h' z (wsL (R ++ extR a m D (P.getD l' 0))) → Post49 a m R N h (.tup [z,.bool true]) (if (one [z]).flat then [] else h'.own):=fun z H h' kH nv => ePost _ _ ⟨fun e => (by rw [hal] at e; cases e),fun _ => ⟨z,rfl,nv.rv.fr (kH.trans nv.k)⟩⟩
   refine Tr.fny (cf:=c49) (e:=.ret) (s:=T.set (T.set (T.set .leaf [] a.v) [false] (.slice b 0 R.length v)) [true] (G N)) (by decide) rfl (hJ _ _) rfl rfl (by simp) ?_
   rw [av]
   have tk : (wsL R).take R.length = wsL R:=List.take_of_length_le (by omega)
   clear oH o kHs ws k30 k31 k46 os s243 sr rm gF gH g hk l30 l31 kA kZ kS hr lv vc eP lP ePost ne wi wl0 w0 l2 hal eL gS1 gA e30 e31 gZ gx gN rx
   generalize bb (al (a.steps (m : Nat)) D) (a.steps (m : Nat)).length = bl at *
   generalize wsL (R ++ extR a m D (P.getD l' 0)) = wE at *
   generalize wsL R = wR at *
   generalize P.getD l' 0 = c at *
   generalize (a.steps (m : Nat)).length = nS at *
   generalize R.length = l at *
   refine Tr.w fun s1 H1 hp _ kR => ?_
   obtain ⟨rfl,rfl⟩:=hp
   have q : True:=trivial
   refine zCh ?_
   simp (disch:=first|omega|exact zE rfl|exact zO|exact zL rfl) [c49_o0,zG,q,hHs,fz]
   refine W.assoc ?_
   refine zCh ?_
   simp (disch:=first|omega|exact zE rfl|exact zO|exact zL rfl) [c49_o1,zG,q,fz,gS,e46]
   refine zCh ?_
   simp (disch:=first|omega|exact zE rfl|exact zO|exact zL rfl) [c49_o2,zG,q]
   refine W.seq (W.use (t3) (by simp (disch:=first|omega|exact zE rfl|exact zO|exact zL rfl) [zG,q,fz]) fun s1 H1 hp => ?_)
   obtain ⟨rfl,q⟩:=hp
   try simp only [zW,if_true]
   refine zCh ?_
   simp (disch:=first|omega|exact zE rfl|exact zO|exact zL rfl) [c49_o4,zG,q,dd]
   refine zCh ?_
   simp (disch:=first|omega|exact zE rfl|exact zO|exact zL rfl) [c49_o5,zG,q]
   refine W.assoc ?_
   refine zCh ?_
   simp (disch:=first|omega|exact zE rfl|exact zO|exact zL rfl) [c49_o6,zG,q]
   refine W.seq (W.block ?_)
   refine W.use (l2') (by simp (disch:=first|omega|exact zE rfl|exact zO|exact zL rfl) [zG,q]) fun s1 H1 hp => ?_
   obtain ⟨z,tb,q⟩:=hp
   try simp only [zW,if_true]
   obtain ⟨x1,e,H2,q1,q2,gb,kH,l5⟩:=post3 _ _ tb
   obtain ⟨l3,bo,ros,br,rfl,go,lo,er,gr⟩:=after _ _ tb
   refine zCh ?_
   simp (disch:=first|omega|exact zE rfl|exact zO|exact zL rfl) [c49_o19,zG,q]
   refine W.seq (W.block ?_)
   refine W.use (l3) (by simp (disch:=first|omega|exact zE rfl|exact zO|exact zL rfl) [zG,q]) fun s1 H1 hp => ?_
   obtain ⟨rfl,q⟩:=hp
   try simp only [zW,if_true]
   refine W.assoc ?_
   have er':=getI er
   refine zCh ?_
   simp (disch:=first|omega|exact zE rfl|exact zO|exact zL rfl) [c49_o22,zG,q,go,lo,er,er',gr,eb,eb',lb]
   refine zCh ?_
   simp (disch:=first|omega|exact zE rfl|exact zO|exact zL rfl) [c49_o23,zG,q]
   refine zCh ?_
   simp (disch:=first|omega|exact zE rfl|exact zO|exact zL rfl) [c49_o24,zG,q]
   refine zCh ?_
   simp (disch:=first|omega|exact zE rfl|exact zO|exact zL rfl) [c49_o25,zG,q,elems,gb,lw,tk,rdOf,q1,q2]
   refine W.assoc ?_
   refine zCh ?_
   simp (disch:=first|omega|exact zE rfl|exact zO|exact zL rfl) [c49_o26,zG,q]
   refine W.seq (W.block ?_)
   refine W.use (l5) (by simp (disch:=first|omega|exact zE rfl|exact zO|exact zL rfl) [zG,q]) fun s1 H1 hp => ?_
   obtain ⟨z9,nv9,q⟩:=hp
   try simp only [zW,if_true]
   refine zCh ?_
   simp (disch:=first|omega|exact zE rfl|exact zO|exact zL rfl) [c49_o34,zG,q]
   refine W.ret ?_
   try simp only [zW,if_true]
   refine kR _ _ ?_
   refine ⟨[z9,.bool true],by simp [T.get,c49,evRess,evRes,q],?_⟩
   rw [show (one [z9,.bool true]).flat = (one [z9]).flat from by simp [one,AV.flat,AV.flats]]
   exact fin _ _ _ kH nv9
end
structure A49 where
 a : AR
 m : Nat
 R : List (List Nat)
 b : Nat
 v : Nat
 N : Nat
def Ok49 (b : A49) (h : Heap) : Prop:=OkR b.a h ∧ b.a.rm (b.m : Nat) = true ∧ WS b.a.g b.m b.R ∧ 1 ≤ b.R.length ∧ b.R.length ≤ b.N ∧ b.N ≤ 40 ∧ h.get b.b = .cells 1 b.v (wsL b.R)
def Pre49 (b : A49) (args : List AV) (h : Heap) : Prop:=Ok49 b h ∧ args = [b.a.v,.slice b.b 0 b.R.length b.v,G b.N]
noncomputable def T82 : CallF:=addK tbl T81 49 Pre49 (fun b h v own => Post49 b.a b.m b.R b.N h v own)
theorem t82 : Sound Go.Proofs.Try.prog T82:=Sound.addK follows ok t81 (by decide) _ _
theorem k30_81 : K30 T81:=fun h a m o m5 => by
 obtain ⟨v,own,e,l⟩:=k30_50 h a m o m5
 exact ⟨v,own,by rw [show T81 30 [a.v,G m] h = T50 30 [a.v,G m] h from by simp (disch:=decide) only [T51,T52,T53,T54,T55,T56,T57,T58,T59,T60,T61,T62,T63,T64,T65,T66,T67,T68,T69,T70,T71,T72,T73,T74,T75,T76,T77,T78,T79,T80,T81,addI_ne,addX_ne,addV_ne,addK_ne,addC_ne]]; exact e,l⟩
theorem k31_81 : K31 T81:=fun h a m o m5 => by
 obtain ⟨v,own,e,l⟩:=k31_50 h a m o m5
 exact ⟨v,own,by rw [show T81 31 [a.v,G m] h = T50 31 [a.v,G m] h from by simp (disch:=decide) only [T51,T52,T53,T54,T55,T56,T57,T58,T59,T60,T61,T62,T63,T64,T65,T66,T67,T68,T69,T70,T71,T72,T73,T74,T75,T76,T77,T78,T79,T80,T81,addI_ne,addX_ne,addV_ne,addK_ne,addC_ne]]; exact e,l⟩
theorem k46_81 : K46g T81:=fun h a m R b v o k g => by
 rw [show T81 46 [a.v,.slice b 0 R.length v] h = T79 46 [a.v,.slice b 0 R.length v] h from by simp (disch:=decide) only [T80,T81,addI_ne,addX_ne,addV_ne,addK_ne,addC_ne]]; exact k46g h a m R b v o k g
abbrev K49 (J : CallF) : Prop:=∀ (h : Heap) (b : A49),Ok49 b h → ∃ v own,J 49 [b.a.v,.slice b.b 0 b.R.length b.v,G b.N] h = some (v,own,false) ∧ Post49 b.a b.m b.R b.N h v own
theorem k49 : K49 T82:=fun h b o => by
 obtain ⟨v,own,e,l⟩:=addK_some (Pre:=Pre49) (Post:=fun b h v own => Post49 b.a b.m b.R b.N h v own) (fun b args h hp => by
  obtain ⟨⟨h1,h2,h3,h4,h5,h6,h7⟩,rfl⟩:=hp
  exact c49_ok T81 k30_81 k31_81 k46_81 (fun _ _ => by simp (disch:=decide) only [T1,T2,T3,T4,T5,T6,T7,T8,T9,T10,T11,T12,T13,T14,T15,T16,T17,T18,T19,T20,T21,T22,T23,T24,T25,T26,T27,T28,T29,T30,T31,T32,T33,T34,T35,T36,T37,T38,T39,T40,T41,T42,T43,T44,T45,T46,T47,T48,T49,T50,T51,T52,T53,T54,T55,T56,T57,T58,T59,T60,T61,T62,T63,T64,T65,T66,T67,T68,T69,T70,T71,T72,T73,T74,T75,T76,T77,T78,T79,T80,T81,addI_ne,addX_ne,addV_ne,addK_ne,addC_ne]; rfl) h h1 h2 h3 h4 h5 h6 h7) b _ h ⟨o,rfl⟩
 exact ⟨v,own,e,l⟩
theorem RV.el {h : Heap} {x : AV} {cs : List AV} (r : RV h x cs) : EL h x cs:=by
 rcases r with ⟨rfl,e⟩ | h
 ·exact .inl ⟨.inl rfl,e⟩
 ·exact .inr h
structure LawX (J : CallF) (H0 : Heap) (nq : Int) (x y z : AV) (L : List (List UInt8)) (a : AR) (w : AV) (own1 own2 : List AObj) (Ha Hb Hb2 Hc : Heap) : Prop where
 eq : a.q = nq
 ha : H0.plus [.cells 0 3 [G nq,x,y]] = Ha
 e24 : J 24 [.agg [G nq,x,y]] Ha = some (.agg [G a.q,a.x,a.y],own1,false)
 hb : Ha.plus own1 = Hb
 e43 : J 43 [z] Hb = some (w,own2,false)
 hb2 : Hb.plus own2 = Hb2
 hc : Hb2.plus [.cells 0 3 [G a.q,a.x,a.y]] = Hc
 gS : Ha.get H0.size = .cells 0 3 [G nq,x,y]
 gc : Hc.get Hb2.size = .cells 0 3 [G a.q,a.x,a.y]
 o : OkR a Hc
 rw : RV Hc w (ss (fewL L))
theorem lawX (J : CallF) (k24 : K24 J) (k43 : K43 J) {H0 : Heap} {nq : Int} {x y z : AV} {X Y : List (List Int)} {L : List (List UInt8)} (mx : MR H0 x X) (my : MR H0 y Y) (mz : EL H0 z (ss L)) : ∃ a w own1 own2 Ha Hb Hb2 Hc,LawX J H0 nq x y z L a w own1 own2 Ha Hb Hb2 Hc:=by
 have k1 : Kp (fun _ => False) H0 (H0.plus [.cells 0 3 [G nq,x,y]]):=Kp.plus _ _
 obtain ⟨x',y',own,e,t1,t2⟩:=k24 (H0.plus [.cells 0 3 [G nq,x,y]]) ⟨nq,x,y,X,Y⟩ ⟨mx.kp k1,my.kp k1⟩
 have k1b : Kp (fun _ => False) (H0.plus [.cells 0 3 [G nq,x,y]]) ((H0.plus [.cells 0 3 [G nq,x,y]]).plus own):=Kp.plus _ _
 have mz1 : EL ((H0.plus [.cells 0 3 [G nq,x,y]]).plus own) z (ss L):=by
  rcases mz with h | ⟨b,v,e,g⟩
  ·exact .inl h
  ·exact .inr ⟨b,v,e,(k1.trans k1b).at g (by simp) id⟩
 obtain ⟨w,own2,e2,rv⟩:=k43 _ z L mz1
 have k2 : Kp (fun _ => False) ((H0.plus [.cells 0 3 [G nq,x,y]]).plus own) (((H0.plus [.cells 0 3 [G nq,x,y]]).plus own).plus own2):=Kp.plus _ _
 have k3 : Kp (fun _ => False) (((H0.plus [.cells 0 3 [G nq,x,y]]).plus own).plus own2) ((((H0.plus [.cells 0 3 [G nq,x,y]]).plus own).plus own2).plus [.cells 0 3 [G nq,x',y']]):=Kp.plus _ _
 have u1:=t1.kp (k2.trans k3)
 have u2:=t2.kp (k2.trans k3)
 exact ⟨⟨nq,x',y',cutM X,cutM Y⟩,w,own,own2,_,_,_,_,rfl,rfl,e,rfl,e2,rfl,rfl,plus_at0 _ _ _ _ rfl,plus_at0 _ _ _ _ rfl,⟨u1.mr,u2.mr,cutM_small _,cutM_small _⟩,rv.kp k3 (fun _ _ => id)⟩
section
variable {nq : Int} {X Y : List (List Int)} {L : List (List UInt8)}
end
structure KnXE (J : CallF) : Prop where
 k24 : K24 J
 k27 : KR 27 J
 k29 : K29 J
 k39 : K39g J
 k43 : K43 J
 k48 : K48 J
 k49 : K49 J
 k23 : ∀ h,J 23 [] h = some (.bool true,[],false)
section
variable {nq n : Int} {X Y : List (List Int)} {L : List (List UInt8)}
set_option maxHeartbeats 2000000 in
theorem c10_ok (J : CallF) (K : KnXE J) (hJ : ∀ a h,J 10 a h = none) (h : Heap) {x y z : AV} (mx : MR h x X) (my : MR h y Y) (mz : EL h z (ss L)) : CallsTo tbl J 10 [.agg [G nq,x,y],z,G n] h (.bool true,[],false):=by
 refine Tr.fnv (cf:=c10) (e:=.ret) (s:=T.set (T.set (T.set .leaf [] (.agg [G nq,x,y])) [false] z) [true] (G n)) (by decide) rfl (hJ _ _) rfl rfl rfl (by simp) ?_
 refine Tr.post (Q:=(fun s h => s.get [true,true] = .bool true)) (fun s h q => by simp [c10,q]) ?_
 obtain ⟨a,w,own1,own2,Ha,Hb,Hb2,Hc,eq,ha,e24,hb,e43,hb2,hc,gS,gc,o,rv⟩:=lawX (nq:=nq) J K.k24 K.k43 (mx.lo (h:=h) []) (my.lo (h:=h) []) (mz.lo (h:=h) [])
 rw [show (⟨h.get,h.size,[]⟩ : Heap) = frameOf h from rfl] at ha gS
 have l41:=fewL_len L
 have s7 : ∀ s ∈ fewL L,s.length ≤ 7:=fun s hs => fewL_short hs
 have e27:=K.k27 Hc a o
 obtain ⟨v48,own48,e48,p1,p2⟩:=K.k48 Hc ⟨a,w,fewL L,n⟩ ⟨o,rv.el,by show (fewL L).length ≤ _; omega,fun s hs => by have:=s7 s hs; omega⟩
 simp only at e48 p1 p2
 have k23:=K.k23
 have er : ruQ a.q a.B a.W = a.ru:=rfl
 rw [er] at e27
 have va : a.v = .agg [G a.q,a.x,a.y]:=rfl
 have hp0 : Hc.plus [] = Hc:=by simp [Heap.plus]
 cases r : a.ru
 ·obtain ⟨rfl,rfl⟩:=p1 (by unfold okX; rw [r]; rfl)
  rw [r] at e27
  rw [va] at e48
  clear K mx my mz o rv p1 p2 s7 er va
  generalize frameOf h = H0 at *
  refine Tr.w fun s1 H1 hp _ kR => ?_
  obtain ⟨rfl,rfl⟩:=hp
  have q : True:=trivial
  refine zCh ?_
  simp (disch:=first|omega|exact zE rfl|exact zO|exact zL rfl) [c10_o0,zG,q,ha]
  refine zCh ?_
  simp (disch:=first|omega|exact zE rfl|exact zO|exact zL rfl) [c10_o1,zG,q,gS,e24,e43,app_if,app_if',hb,hb2,hc]
  refine zCh ?_
  simp (disch:=first|omega|exact zE rfl|exact zO|exact zL rfl) [c10_o2,zG,q,gc,e48]
  refine W.assoc ?_
  refine zCh ?_
  simp (disch:=first|omega|exact zE rfl|exact zO|exact zL rfl) [c10_o3,zG,q,gc,e27]
  refine zCh ?_
  simp (disch:=first|omega|exact zE rfl|exact zO|exact zL rfl) [c10_o4,zG,q,k23]
  exact kR _ _ (by simp [T.get])
 ·rw [r] at e27
  have q3:=a.q3 r
  have qn : ((a.q.toNat : Nat) : Int) = a.q:=by omega
  have e39:=K.k39 Hc a.q.toNat a.x a.y w (fewL L) (by omega) rv (by omega) (fun s hs => by have:=s7 s hs; omega)
  rw [qn] at e39
  cases i : isS a.q.toNat (fewL L)
  ·obtain ⟨rfl,rfl⟩:=p1 (by unfold okX; rw [r,i]; rfl)
   rw [i] at e39
   rw [va] at e48
   clear K mx my mz o rv p1 p2 s7 er va i
   generalize frameOf h = H0 at *
   refine Tr.w fun s1 H1 hp _ kR => ?_
   obtain ⟨rfl,rfl⟩:=hp
   have q : True:=trivial
   refine zCh ?_
   simp (disch:=first|omega|exact zE rfl|exact zO|exact zL rfl) [c10_o0,zG,q,ha]
   refine zCh ?_
   simp (disch:=first|omega|exact zE rfl|exact zO|exact zL rfl) [c10_o1,zG,q,gS,e24,e43,app_if,app_if',hb,hb2,hc]
   refine zCh ?_
   simp (disch:=first|omega|exact zE rfl|exact zO|exact zL rfl) [c10_o2,zG,q,gc,e48]
   refine W.assoc ?_
   refine zCh ?_
   simp (disch:=first|omega|exact zE rfl|exact zO|exact zL rfl) [c10_o3,zG,q,gc,e27,e39]
   refine zCh ?_
   simp (disch:=first|omega|exact zE rfl|exact zO|exact zL rfl) [c10_o4,zG,q,k23]
   exact kR _ _ (by simp [T.get])
  ·rw [i] at e39
   obtain ⟨m,R,eR,hw,m1,m5,n1,n40,hm⟩:=isS_words (by omega) i
   have hwc : ∀ w ∈ R,∀ c ∈ w,c < a.q.toNat:=fun w hw' => (hw w hw').2
   have lR : (fewL L).length = R.length:=by rw [eR,List.length_map]
   have ok0 : okX a (fewL L) n = decide ((R.length : Int) ≤ n ∧ n ≤ 40):=by
    unfold okX; rw [r,i,lR]; rfl
   have ws : WS a.g m R:=⟨hw,by omega,by omega⟩
   rw [eR,← ws_ss] at rv
   have sw:=rv.sl
   rw [wsL_len] at sw
   obtain ⟨bw,vw,rfl⟩:=sw.resolve_left (fun e => by omega)
   have gw : Hc.get bw = .cells 1 vw (wsL R):=by
    rcases rv with ⟨e,_⟩ | ⟨b',v',e,g⟩
    ·cases e
    ·rw [AV.slice.injEq] at e
     obtain ⟨rfl,_,_,rfl⟩:=e
     exact g
   cases hn : decide ((R.length : Int) ≤ n ∧ n ≤ 40)
   ·rw [hn] at ok0
    obtain ⟨rfl,rfl⟩:=p1 ok0
    rw [va] at e48
    have hn:=of_decide_eq_false hn
    clear K mx my mz o rv p1 p2 s7 er va i ws hw hwc lR eR q3 qn l41 ok0 hm gw
    generalize R.length = l at *
    generalize frameOf h = H0 at *
    by_cases c : n < (l : Int)
    ·refine Tr.w fun s1 H1 hp _ kR => ?_
     obtain ⟨rfl,rfl⟩:=hp
     have q : True:=trivial
     refine zCh ?_
     simp (disch:=first|omega|exact zE rfl|exact zO|exact zL rfl) [c10_o0,zG,q,ha]
     refine zCh ?_
     simp (disch:=first|omega|exact zE rfl|exact zO|exact zL rfl) [c10_o1,zG,q,gS,e24,e43,app_if,app_if',hb,hb2,hc]
     refine zCh ?_
     simp (disch:=first|omega|exact zE rfl|exact zO|exact zL rfl) [c10_o2,zG,q,gc,e48]
     refine W.assoc ?_
     refine zCh ?_
     simp (disch:=first|omega|exact zE rfl|exact zO|exact zL rfl) [c10_o3,zG,q,gc,e27,e39,c]
     refine zCh ?_
     simp (disch:=first|omega|exact zE rfl|exact zO|exact zL rfl) [c10_o4,zG,q,k23]
     exact kR _ _ (by simp [T.get])
    ·have c2 : (40 : Int) < n:=by omega
     refine Tr.w fun s1 H1 hp _ kR => ?_
     obtain ⟨rfl,rfl⟩:=hp
     have q : True:=trivial
     refine zCh ?_
     simp (disch:=first|omega|exact zE rfl|exact zO|exact zL rfl) [c10_o0,zG,q,ha]
     refine zCh ?_
     simp (disch:=first|omega|exact zE rfl|exact zO|exact zL rfl) [c10_o1,zG,q,gS,e24,e43,app_if,app_if',hb,hb2,hc]
     refine zCh ?_
     simp (disch:=first|omega|exact zE rfl|exact zO|exact zL rfl) [c10_o2,zG,q,gc,e48]
     refine W.assoc ?_
     refine zCh ?_
     simp (disch:=first|omega|exact zE rfl|exact zO|exact zL rfl) [c10_o3,zG,q,gc,e27,e39,c,c2]
     refine zCh ?_
     simp (disch:=first|omega|exact zE rfl|exact zO|exact zL rfl) [c10_o4,zG,q,k23]
     exact kR _ _ (by simp [T.get])
   ·rw [hn] at ok0
    have hn:=of_decide_eq_true hn
    obtain ⟨N,rfl⟩ : ∃ N : Nat,n = N:=⟨n.toNat,by omega⟩
    have p2:=p2 ok0 R eR hwc
    rw [hm,lR,Int.toNat_natCast] at p2
    have rm : a.rm (m : Nat) = true:=by
     unfold AR.rm
     rw [r,decide_eq_true (by omega)]; rfl
    have c1 : ¬ (N : Int) < (R.length : Int):=by omega
    have c2 : ¬ (40 : Int) < (N : Int):=by omega
    have hrows : rwL a.g.q a.g.B m = a.rows (m : Nat):=by
     unfold AR.rows AR.g
     rw [Int.toNat_natCast]
    have hsteps : stL a.g.W (a.rows (m : Nat)) = a.steps (m : Nat):=rfl
    have none48 : v48 = .tup [.nils,G 6] ∧ own48 = [] → (∃ v own,J 49 [a.v,.slice bw 0 R.length vw,G N] Hc = some (v,own,false) ∧ v = .tup [.nils,.bool false] ∧ own = []) → W tbl J c10.body (T.set (T.set (T.set .leaf [] (.agg [G nq,x,y])) [false] z) [true] (G (N : Int))) (frameOf h) (fun e' s' h' => e' = .ret ∧ s'.get [true,true] = .bool true):=fun e1 e2 => by
     obtain ⟨rfl,rfl⟩:=e1
     obtain ⟨_,_,e49,rfl,rfl⟩:=e2
     rw [va] at e48 e49
     clear K mx my mz o rv p1 p2 s7 er va i ws hw hwc lR eR q3 qn l41 ok0 hm gw rm hrows hsteps hn
     generalize R.length = l at *
     generalize frameOf h = H0 at *
     have q : True:=trivial
     refine zCh ?_
     simp (disch:=first|omega|exact zE rfl|exact zO|exact zL rfl) [c10_o0,zG,q,ha]
     refine zCh ?_
     simp (disch:=first|omega|exact zE rfl|exact zO|exact zL rfl) [c10_o1,zG,q,gS,e24,e43,app_if,app_if',hb,hb2,hc]
     refine zCh ?_
     simp (disch:=first|omega|exact zE rfl|exact zO|exact zL rfl) [c10_o2,zG,q,gc,e48]
     refine W.assoc ?_
     refine zCh ?_
     simp (disch:=first|omega|exact zE rfl|exact zO|exact zL rfl) [c10_o3,zG,q,gc,e27,e39,c1,c2]
     refine zCh ?_
     simp (disch:=first|omega|exact zE rfl|exact zO|exact zL rfl) [c10_o4,zG,q]
     refine zCh ?_
     simp (disch:=first|omega|exact zE rfl|exact zO|exact zL rfl) [c10_o5,zG,q,gc,e49]
     refine W.assoc ?_
     refine zCh ?_
     simp (disch:=first|omega|exact zE rfl|exact zO|exact zL rfl) [c10_o6,zG,q]
     refine zCh ?_
     simp (disch:=first|omega|exact zE rfl|exact zO|exact zL rfl) [c10_o7,zG,q,k23]
    obtain ⟨v49,own49,e49,q1,q2⟩:=K.k49 Hc ⟨a,m,R,bw,vw,N⟩ ⟨o,rm,ws,n1,by show R.length ≤ N; omega,by show N ≤ 40; omega,gw⟩
    simp only at e49 q1 q2
    cases hk : kpS a.g R
    ·obtain ⟨e1,e2⟩:=q1 hk
     exact Tr.of_w fun s h hp => by
      obtain ⟨rfl,rfl⟩:=hp
      exact none48 (p2.1 hk) ⟨_,_,e49,e1,e2⟩
    ·obtain ⟨P,eP,vc⟩:=pos_ex ws hk
     rw [hrows] at eP vc
     rw [hsteps] at vc
     have p3:=p2.2 P hk eP vc
     have q3':=q2 P hk eP vc
     cases hal : al (a.steps (m : Nat)) (N - R.length) (P.getD (R.length - 1) 0)
     ·obtain ⟨e1,e2⟩:=q3'.1 hal
      exact Tr.of_w fun s h hp => by
       obtain ⟨rfl,rfl⟩:=hp
       exact none48 (p3.1 hal) ⟨_,_,e49,e1,e2⟩
     ·clear none48
      obtain ⟨x1,rfl,_,rv1⟩:=p3.2 hal
      obtain ⟨Hd,hd⟩ : ∃ H,Hc.plus own48 = H:=⟨_,rfl⟩
      have kd : Kp (fun _ => False) Hc Hd:=by rw [← hd]; exact Kp.plus _ _
      rw [hd] at rv1
      obtain ⟨v49',own49',e49,_,q2⟩:=K.k49 Hd ⟨a,m,R,bw,vw,N⟩ ⟨o.kp kd,rm,ws,n1,by show R.length ≤ N; omega,by show N ≤ 40; omega,kd.at gw (by simp) id⟩
      simp only at e49 q2
      obtain ⟨x2,rfl,rv2⟩:=(q2 P hk eP vc).2 hal
      obtain ⟨He,he⟩ : ∃ H,Hd.plus own49' = H:=⟨_,rfl⟩
      have ke : Kp (fun _ => False) Hd He:=by rw [← he]; exact Kp.plus _ _
      rw [he] at rv2
      have rv1':=rv1.kp ke (fun _ _ => id)
      have lE : ((R ++ extR a m (N - R.length) (P.getD (R.length - 1) 0)).map stW).length ≤ 1000000:=by
       rw [List.length_map,List.length_append]
       unfold extR
       rw [rT2_len,ext_len]; omega
      rw [ws_ss] at rv1' rv2
      have e29:=K.k29 He ⟨x1,x2,_,_⟩ rv1' rv2 lE lE
      simp only [decide_true] at e29
      have gcd:=kd.at gc (by simp) id
      have e27':=K.k27 Hd a (o.kp kd)
      have e39':=K.k39 Hd a.q.toNat a.x a.y (.slice bw 0 R.length vw) (fewL L) (by omega) (by rw [eR,← ws_ss]; exact rv.kp kd (fun _ _ => id)) (by omega) (fun s hs => by have:=s7 s hs; omega)
      rw [qn,i] at e39'
      rw [er,r] at e27'
      rw [va] at e48 e49
      have sl1 : (x1 = .nils ∨ True):=.inr trivial
      clear K mx my mz o rv p1 p2 s7 er va i ws hw hwc lR eR qn l41 ok0 hm gw rm hrows hsteps hn rv1 rv1' rv2 lE q1 q2 q3' p3 hal vc eP hk kd ke q3 sl1 hp0
      generalize R.length = l at *
      generalize frameOf h = H0 at *
      refine Tr.w fun s1 H1 hp _ kR => ?_
      obtain ⟨rfl,rfl⟩:=hp
      have q : True:=trivial
      refine zCh ?_
      simp (disch:=first|omega|exact zE rfl|exact zO|exact zL rfl) [c10_o0,zG,q,ha]
      refine zCh ?_
      simp (disch:=first|omega|exact zE rfl|exact zO|exact zL rfl) [c10_o1,zG,q,gS,e24,e43,app_if,app_if',hb,hb2,hc]
      refine zCh ?_
      simp (disch:=first|omega|exact zE rfl|exact zO|exact zL rfl) [c10_o2,zG,q,gc,e48,app_if,app_if',hd]
      refine W.assoc ?_
      refine zCh ?_
      simp (disch:=first|omega|exact zE rfl|exact zO|exact zL rfl) [c10_o3,zG,q,gc,gcd,e27',e39',c1,c2]
      refine zCh ?_
      simp (disch:=first|omega|exact zE rfl|exact zO|exact zL rfl) [c10_o4,zG,q]
      refine zCh ?_
      simp (disch:=first|omega|exact zE rfl|exact zO|exact zL rfl) [c10_o5,zG,q,gcd,e49,app_if,app_if',he]
      refine W.assoc ?_
      refine zCh ?_
      simp (disch:=first|omega|exact zE rfl|exact zO|exact zL rfl) [c10_o6,zG,q]
      refine zCh ?_
      simp (disch:=first|omega|exact zE rfl|exact zO|exact zL rfl) [c10_o7,zG,q]
      refine zCh ?_
      simp (disch:=first|omega|exact zE rfl|exact zO|exact zL rfl) [c10_o8,zG,q,e29,k23]
      refine W.ret ?_
      try simp only [zW,if_true]
      exact kR _ _ (by simp [T.get])
end
noncomputable def T83 : CallF:=addI T82 29 (T27 29)
theorem t83 : Sound Go.Proofs.Try.prog T83:=Sound.put t82 t27 29
noncomputable def T84 : CallF:=addI T83 48 (T75 48)
theorem t84 : Sound Go.Proofs.Try.prog T84:=Sound.put t83 t75 48
theorem k29_84 : K29 T84:=fun h b h1 h2 h3 h4 => by
 rw [show T84 29 [b.x,b.z] h = T83 29 [b.x,b.z] h from by simp (disch:=decide) only [T84,addI_ne]]
 exact (addI_eq _ _ _ _ _).trans (k29 h b h1 h2 h3 h4)
theorem k48_84 : K48 T84:=fun h b o => by
 obtain ⟨v,own,e,l⟩:=k48 h b o
 exact ⟨v,own,(addI_eq _ _ _ _ _).trans e,l⟩
theorem kE84 : KnXE T84 where
 k24:=fun h a o => by
  obtain ⟨x,y,own,e,l⟩:=k24 h a o
  exact ⟨x,y,own,by rw [show T84 24 [.agg [G a.q,a.x,a.y]] h = T31 24 [.agg [G a.q,a.x,a.y]] h from by simp (disch:=decide) only [T32,T33,T34,T35,T36,T37,T38,T39,T40,T41,T42,T43,T44,T45,T46,T47,T48,T49,T50,T51,T52,T53,T54,T55,T56,T57,T58,T59,T60,T61,T62,T63,T64,T65,T66,T67,T68,T69,T70,T71,T72,T73,T74,T75,T76,T77,T78,T79,T80,T81,T82,T83,T84,addI_ne,addX_ne,addV_ne,addK_ne,addC_ne]]; exact e,l⟩
 k27:=fun h a o => by
  rw [show T84 27 [.agg [G a.q,a.x,a.y]] h = T12 27 [.agg [G a.q,a.x,a.y]] h from by simp (disch:=decide) only [T13,T14,T15,T16,T17,T18,T19,T20,T21,T22,T23,T24,T25,T26,T27,T28,T29,T30,T31,T32,T33,T34,T35,T36,T37,T38,T39,T40,T41,T42,T43,T44,T45,T46,T47,T48,T49,T50,T51,T52,T53,T54,T55,T56,T57,T58,T59,T60,T61,T62,T63,T64,T65,T66,T67,T68,T69,T70,T71,T72,T73,T74,T75,T76,T77,T78,T79,T80,T81,T82,T83,T84,addI_ne,addX_ne,addV_ne,addK_ne,addC_ne]]; exact k27 h a o
 k29:=k29_84
 k39:=fun h qq x y z L h1 h2 h3 h4 => by
  rw [show T84 39 [.agg [G qq,x,y],z] h = T80 39 [.agg [G qq,x,y],z] h from by simp (disch:=decide) only [T81,T82,T83,T84,addI_ne,addX_ne,addV_ne,addK_ne,addC_ne]]; exact k39g h qq x y z L h1 h2 h3 h4
 k43:=fun h x L o => by
  obtain ⟨v,own,e,l⟩:=k43 h x L o
  exact ⟨v,own,by rw [show T84 43 [x] h = T78 43 [x] h from by simp (disch:=decide) only [T79,T80,T81,T82,T83,T84,addI_ne,addX_ne,addV_ne,addK_ne,addC_ne]]; exact e,l⟩
 k48:=k48_84
 k49:=fun h b o => by
  obtain ⟨v,own,e,l⟩:=k49 h b o
  exact ⟨v,own,by rw [show T84 49 [b.a.v,.slice b.b 0 b.R.length b.v,G b.N] h = T82 49 [b.a.v,.slice b.b 0 b.R.length b.v,G b.N] h from by simp (disch:=decide) only [T83,T84,addI_ne,addX_ne,addV_ne,addK_ne,addC_ne]]; exact e,l⟩
 k23:=fun h => by
  rw [show T84 23 [] h = T2 23 [] h from by simp (disch:=decide) only [T3,T4,T5,T6,T7,T8,T9,T10,T11,T12,T13,T14,T15,T16,T17,T18,T19,T20,T21,T22,T23,T24,T25,T26,T27,T28,T29,T30,T31,T32,T33,T34,T35,T36,T37,T38,T39,T40,T41,T42,T43,T44,T45,T46,T47,T48,T49,T50,T51,T52,T53,T54,T55,T56,T57,T58,T59,T60,T61,T62,T63,T64,T65,T66,T67,T68,T69,T70,T71,T72,T73,T74,T75,T76,T77,T78,T79,T80,T81,T82,T83,T84,addI_ne,addX_ne,addV_ne,addK_ne,addC_ne]]; exact k23 h
theorem stripExtends_ok (h : Heap) (n : Int) {nq : Int} {x y z : AV} {B W : List (List Int)} {L : List (List UInt8)} (mx : MR h x B) (my : MR h y W) (mz : EL h z (ss L)) : CallsTo tbl T84 10 [.agg [G nq,x,y],z,G n] h (.bool true,[],false):=c10_ok T84 kE84 (fun _ _ => by simp (disch:=decide) only [T1,T2,T3,T4,T5,T6,T7,T8,T9,T10,T11,T12,T13,T14,T15,T16,T17,T18,T19,T20,T21,T22,T23,T24,T25,T26,T27,T28,T29,T30,T31,T32,T33,T34,T35,T36,T37,T38,T39,T40,T41,T42,T43,T44,T45,T46,T47,T48,T49,T50,T51,T52,T53,T54,T55,T56,T57,T58,T59,T60,T61,T62,T63,T64,T65,T66,T67,T68,T69,T70,T71,T72,T73,T74,T75,T76,T77,T78,T79,T80,T81,T82,T83,T84,addI_ne,addX_ne,addV_ne,addK_ne,addC_ne]; rfl) h mx my mz
end Go.Proofs.Ytljgfdamdcikgaa.Ev
set_option linter.unusedVariables false
set_option linter.unusedSimpArgs false
namespace Go.AEv
open Go.ChangeShapes Go.WideShapes Go.Proofs.Ytljgfdamdcikgaa.Ev
theorem MR.ext {h h' : Heap} (e : Ext h h') {y : AV} {M : List (List Int)} (m : MR h y M) : MR h' y M:=by
 rcases m with m | ⟨b,v,cs,rfl,g,hl,hr⟩
 ·exact .inl m
 ·refine .inr ⟨b,v,cs,rfl,e _ _ g (by simp),hl,fun i r q => ?_⟩
  obtain ⟨l,h1,h2⟩:=hr i r q
  exact ⟨l,h1,LR.ext e h2⟩
theorem rows_lo {CK : CKT} {w : World} {H : Type} {enc : TypeId × Value → H} {P : Program} {e i : TypeId} (he : P.underlying e = some (.slice i)) (hi : P.underlying i = some (.int .i64)) (hc : P.cellsOf i = 1) :
  ∀ (vs : List Value) {φ : Nat → Emb} {h : Heap} (ho : h.own = []) (hr : HR CK w [] φ h w),(∀ u ∈ vs,∃ fuel z,DataW.trod enc P w 0 (fun _ => true) true fuel e [u] = some z) →
  ∃ φ' h',∃ (rs : List AV) (ls : List (List Int)),h'.own = [] ∧ HR CK w [] φ' h' w ∧ Stp φ h φ' h' ∧ Ext h h' ∧ rs.length = vs.length ∧ ls.length = vs.length ∧ ∀ (j : Nat) u r,vs[j]? = some u → rs[j]? = some r → VR φ' h' r u ∧ Value.oneCell' u = true ∧ ∃ l,ls[j]? = some l ∧ LR h' r l
 | [],φ,h,ho,hr,_ => ⟨φ,h,[],[],ho,hr,Stp.refl φ h,Ext.refl h,rfl,rfl,fun j u r q => by simp at q⟩
 | u :: us,φ,h,ho,hr,ht => by
  obtain ⟨fuel,z,hf⟩:=ht u (by simp)
  obtain ⟨φ1,h1,x,l,o1,r1,s1,e1,v1,p1,c1⟩:=ints_lo0 ho hr he hi hc hf
  obtain ⟨φ2,h2,rs,ls,o2,r2,s2,e2,l1,l2,q⟩:=rows_lo he hi hc us o1 r1 (fun u' hu => ht u' (by simp [hu]))
  refine ⟨φ2,h2,x :: rs,l :: ls,o2,r2,s1.trans s2,e1.trans e2,by simp [l1],by simp [l2],fun j u' r hu hr' => ?_⟩
  cases j with
  | zero =>
   simp only [List.getElem?_cons_zero,Option.some.injEq] at hu hr'
   subst hu hr'
   exact ⟨VR.step s2 _ _ v1,c1,l,rfl,p1.ext e2⟩
  | succ j =>
   simp only [List.getElem?_cons_succ] at hu hr' ⊢
   exact q j u' r hu hr'
theorem mat_lo0 {CK : CKT} {φ : Nat → Emb} {h : Heap} {w : World} (ho : h.own = []) (hr : HR CK w [] φ h w) {H : Type} {enc : TypeId × Value → H} {P : Program} {t e i : TypeId} {v : Value} {fuel : Nat} {z : DataW H × List MemPlace}
  (ht : P.underlying t = some (.slice e)) (he : P.underlying e = some (.slice i)) (hi : P.underlying i = some (.int .i64)) (hce : P.cellsOf e = 1) (hci : P.cellsOf i = 1) (hf : DataW.trod enc P w 0 (fun _ => true) true fuel t [v] = some z) :
  ∃ φ' h' x M,h'.own = [] ∧ HR CK w [] φ' h' w ∧ Stp φ h φ' h' ∧ Ext h h' ∧ VR φ' h' x v ∧ MR h' x M ∧ Value.oneCell' v = true:=by
 rcases DataW.trod_slice ht hf with ⟨hcs,_⟩ | ⟨a,len,cap,elems,rest,n,_,hcs,_,_,hl,hm,hlen,hel,hsp,_⟩
 ·have hcs' : v = .slice none 0 0:=(List.cons.inj hcs).1
  rw [hcs']
  exact ⟨φ,h,.nils,[],ho,hr,Stp.refl φ h,Ext.refl h,by simp [VR],.inl ⟨.inl rfl,rfl⟩,rfl⟩
 ·have hcs' : v = .slice (some a) len cap:=(List.cons.inj hcs).1
  rw [hcs']
  by_cases h0 : len = 0
  ·subst h0
   exact ⟨φ,h,.slice0,[],ho,hr,Stp.refl φ h,Ext.refl h,by simp [VR],.inl ⟨.inr rfl,rfl⟩,rfl⟩
  ·obtain ⟨hrl,hre⟩:=hsp rfl
   have each : ∀ j,j < cap → ∃ u,w.cell? (a.add j) = some u ∧ ∃ z,DataW.trod enc P w 0 (fun _ => true) true n e [u] = some z:=fun j hj => by
    have hb' : ∃ y,(w.cells? 0 (a.add (j * P.cellsOf e)) (P.cellsOf e)).bind (DataW.trod enc P w 0 (fun _ => true) true n e) = some y:=by
     by_cases hjl : j < len
     ·rw [hel j hjl,List.getElem?_eq_getElem (by omega)]; exact ⟨_,rfl⟩
     ·have:=hre (j - len) (by omega)
      rw [show len + (j - len) = j by omega] at this
      rw [this,List.getElem?_eq_getElem (by omega)]; exact ⟨_,rfl⟩
    obtain ⟨y,hy⟩:=hb'
    rw [hce,Nat.mul_one,Option.bind_eq_some_iff] at hy
    obtain ⟨cs',h1,h2⟩:=hy
    have hl1:=(World.cells?_some h1).2.1
    obtain ⟨u,rfl⟩ : ∃ u,cs' = [u]:=by
     cases cs' with
     | nil => simp at hl1
     | cons u r => cases r with
      | nil => exact ⟨u,rfl⟩
      | cons u' r => simp at hl1
    exact ⟨u,cell_of_cells?_one h1,y,h2⟩
   obtain ⟨f,hfe⟩ : ∃ f : Nat → Value,∀ j,j < cap → w.cell? (a.add j) = some (f j) ∧ ∃ z,DataW.trod enc P w 0 (fun _ => true) true n e [f j] = some z :=
    ⟨fun j => if hj : j < cap then Classical.choose (each j hj) else .nilFunc,fun j hj => by
     simp only [dif_pos hj]
     exact Classical.choose_spec (each j hj)⟩
   obtain ⟨b,off,spot⟩:=a
   have hspot : spot = none:=by simpa [Addr.add] using World.cell?_spot (hfe 0 (by omega)).1
   subst hspot
   have hcell : ∀ j,j < cap → w.cell? ⟨b,off + j,none⟩ = some (f j):=fun j hj => by rw [← Go.WideShapes.add_plain]; exact (hfe j hj).1
   obtain ⟨c,ty,fr,hb,hc0⟩:=cell_obj (hcell 0 (by omega))
   have hcj : ∀ j,j < cap → c[off + j]? = some (f j):=fun j hj => by
    obtain ⟨c',ty',fr',hb',hcj⟩:=cell_obj (hcell j hj)
    rw [hb] at hb'
    simp only [Option.some.injEq,Obj.cells.injEq] at hb'
    obtain ⟨rfl,_⟩:=hb'
    exact hcj
   have hsize : off + cap ≤ c.size:=by
    have:=(Array.getElem?_eq_some_iff.1 (hcj (cap - 1) (by omega))).1
    omega
   obtain ⟨φ1,h1,rs,ls,o1,r1,s1,e1,l1,l2,q⟩:=rows_lo he hi hci ((List.range len).map f) ho hr (fun u hu => by
    obtain ⟨j,hj,rfl⟩:=List.mem_map.1 hu
    obtain ⟨z,hz⟩:=(hfe j (by have:=List.mem_range.1 hj; omega)).2
    exact ⟨n,z,hz⟩)
   simp only [List.length_map,List.length_range] at l1 l2
   have hat : ∀ j,j < len → ((List.range len).map f)[j]? = some (f j):=fun j hj => by simp [hj]
   refine ⟨AEv.upd φ1 h1.N ⟨b,off,cap⟩,h1.more (.cells 1 len rs),.slice h1.N 0 len len,ls,rfl,lo_add o1 r1 _ _ ?_,s1.trans (lo_stp o1 _ _),e1.trans (more_ext h1 o1 _),?_,.inr ⟨h1.N,len,rs,by rw [l2],more_at _ _,by omega,fun j r hr' => ?_⟩,rfl⟩
   ·refine ⟨c,ty,fr,hb,hsize,by show rs.length ≤ cap; omega,fun j x hx => ?_⟩
    have hj : j < len:=by have:=(List.getElem?_eq_some_iff.1 hx).1; omega
    obtain ⟨q1,q2,_⟩:=q j (f j) x (hat j hj) hx
    exact ⟨f j,hcj j (by omega),VR.step (lo_stp o1 _ _) _ _ q1,q2⟩
   ·simp only [VR]
    exact ⟨_,cap,1,len,_,rfl,hl,more_at _ _,Nat.le_refl _,fun _ => ⟨by simp [AEv.upd],fun _ _ => by simp [AEv.upd]⟩⟩
   ·have hj : j < len:=by have:=(List.getElem?_eq_some_iff.1 hr').1; omega
    obtain ⟨_,_,l,q3,q4⟩:=q j (f j) r (hat j hj) hr'
    exact ⟨l,q3,q4.ext (more_ext h1 o1 _)⟩
structure RuleKey (P : Program) (k i t : TypeId) (f g l : Field) : Prop where
 hu : P.underlying k = some (.struct #[f,g,l])
 size : P.cellsOf k = 3
 ci : P.cellsOf i = 1
 ct : P.cellsOf t = 1
 f1 : f.type = i
 f2 : g.type = t
 f3 : l.type = t
 o1 : f.offset = 0
 o2 : g.offset = 1
 o3 : l.offset = 2
theorem okWide_rule {P : Program} {W : World} {k i t : TypeId} {f g l : Field} (A : RuleKey P k i t f g l) {r : Reach} {b0 : Nat} {v : Value} (h : Value.okWide P W r b0 k v) : ∃ c0 c1 c2,v = .agg #[c0,c1,c2]:=by
 simp only [Value.okWide,A.hu] at h
 obtain ⟨cs,h1,h2,_⟩:=h
 rw [A.size] at h2
 obtain ⟨l⟩:=cs
 match l,h2 with
 | [c0,c1,c2],_ => exact ⟨c0,c1,c2,h1⟩
theorem rule_lo {CK : CKT} {φ : Nat → Emb} {h : Heap} {w : World} (ho : h.own = []) (hr : HR CK w [] φ h w) {H : Type} {enc : TypeId × Value → H} {P : Program} {k i t e : TypeId} {f g l : Field} {v : Value} {d : DataW H} {p : List MemPlace} (A : RuleKey P k i t f g l)
  (ht : P.underlying t = some (.slice e)) (he : P.underlying e = some (.slice i)) (hi : P.underlying i = some (.int .i64)) (hce : P.cellsOf e = 1) {r : Reach} {b0 : Nat} (hval : Value.okWide P w r b0 k v) (kd : DataW.Trod enc P w 0 (fun _ => true) true k v d p) :
  ∃ φ' h' q x y B W,h'.own = [] ∧ HR CK w [] φ' h' w ∧ Stp φ h φ' h' ∧ Ext h h' ∧ VR φ' h' (.agg [.int .i64 q,x,y]) v ∧ MR h' x B ∧ MR h' y W:=by
 obtain ⟨c0,c1,c2,rfl⟩:=okWide_rule A hval
 obtain ⟨fuel,hf⟩:=kd
 cases fuel with
 | zero => simp [DataW.trod] at hf
 | succ n =>
  rw [DataW.trod_step] at hf
  unfold DataW.trodStep at hf
  simp only [A.hu,Value.cells] at hf
  rw [if_pos (by rw [A.size]; rfl)] at hf
  simp only [Option.map_eq_some_iff] at hf
  obtain ⟨xs,hx,e1⟩:=hf
  rw [List.mapM_cons,List.mapM_cons,List.mapM_cons,List.mapM_nil] at hx
  simp only [bind,Option.bind_eq_some_iff,pure,Option.some.injEq,A.ci,A.ct,A.f1,A.f2,A.f3,A.o1,A.o2,A.o3] at hx
  obtain ⟨y0,h0,_,⟨y1,h1,_,⟨y2,h2,_,rfl,rfl⟩,rfl⟩,rfl⟩:=hx
  have h0' : DataW.trod enc P w 0 (fun _ => true) true n i [c0] = some y0:=h0
  have h1' : DataW.trod enc P w 0 (fun _ => true) true n t [c1] = some y1:=h1
  have h2' : DataW.trod enc P w 0 (fun _ => true) true n t [c2] = some y2:=h2
  obtain ⟨a,ea,_,_⟩:=DataW.trod_int hi h0'
  obtain rfl : c0 = .int .i64 a:=by simpa using ea
  obtain ⟨φ1,m1,x,B,o1,r1,s1,x1,v1,p1,q1⟩:=mat_lo0 ho hr ht he hi hce A.ci h1'
  obtain ⟨φ2,m2,y,W,o2,r2,s2,x2,v2,p2,q2⟩:=mat_lo0 o1 r1 ht he hi hce A.ci h2'
  refine ⟨φ2,m2,a,x,y,B,W,o2,r2,s1.trans s2,x1.trans x2,?_,Go.AEv.MR.ext x2 p1,p2⟩
  simp only [VR,VRs]
  refine ⟨#[.int .i64 a,c1,c2],rfl,⟨_,[c1,c2],rfl,rfl,c1,[c2],rfl,VR.step s2 _ _ v1,c2,[],rfl,v2,rfl⟩,fun z hz => ?_⟩
  simp only [List.mem_cons,List.not_mem_nil,or_false] at hz
  rcases hz with rfl | rfl | rfl
  ·rfl
  ·exact q1
  ·exact q2
end Go.AEv
set_option linter.unusedVariables false
set_option linter.unusedSimpArgs false
namespace Go.AEv
open Go.ChangeShapes Go.WideShapes Go.Proofs.Ytljgfdamdcikgaa.Ev
theorem _root_.Go.Proofs.Ytljgfdamdcikgaa.Ev.EL.ext {h h' : Heap} {y : AV} {L : List AV} (m : EL h y L) (e : Ext h h') : EL h' y L:=by
 rcases m with m | ⟨b,v,e1,g⟩
 ·exact .inl m
 ·exact .inr ⟨b,v,e1,e _ _ g (by simp)⟩
theorem strs_lo {CK : CKT} {φ : Nat → Emb} {h : Heap} {w : World} (ho : h.own = []) (hr : HR CK w [] φ h w) {H : Type} {enc : TypeId × Value → H} {P : Program} {t e : TypeId} {v : Value} {d : DataW H} {p : List MemPlace}
  (ht : P.underlying t = some (.slice e)) (he : P.underlying e = some .string) (hce : P.cellsOf e = 1) (hcs : ∃ a len cap,v = .slice a len cap) (k : DataW.Trod enc P w 0 (fun _ => true) true t v d p) :
  ∃ φ' h' x L,h'.own = [] ∧ HR CK w [] φ' h' w ∧ Stp φ h φ' h' ∧ Ext h h' ∧ VR φ' h' x v ∧ EL h' x (ss L):=by
 obtain ⟨a0,n0,c0,rfl⟩:=hcs
 obtain ⟨fuel,hf⟩:=k
 have hf : DataW.trod enc P w 0 (fun _ => true) true fuel t [.slice a0 n0 c0] = some (d,p):=hf
 rcases DataW.trod_slice ht hf with ⟨hcs,_⟩ | ⟨a,len,cap,elems,rest,n,_,hcs,_,_,hl,hm,hlen,hel,hsp,_⟩
 ·have hcs' : Value.slice a0 n0 c0 = .slice none 0 0:=(List.cons.inj hcs).1
  rw [hcs']
  exact ⟨φ,h,.nils,[],ho,hr,Stp.refl φ h,Ext.refl h,by simp [VR],.inl ⟨.inl rfl,rfl⟩⟩
 ·have hcs' : Value.slice a0 n0 c0 = .slice (some a) len cap:=(List.cons.inj hcs).1
  rw [hcs']
  by_cases h0 : len = 0
  ·subst h0
   exact ⟨φ,h,.slice0,[],ho,hr,Stp.refl φ h,Ext.refl h,by simp [VR],.inl ⟨.inr rfl,rfl⟩⟩
  ·obtain ⟨hrl,hre⟩:=hsp rfl
   have each : ∀ j,j < cap → ∃ s : List UInt8,w.cell? (a.add j) = some (.string ⟨s.toArray⟩):=fun j hj => by
    have hb' : ∃ y,(w.cells? 0 (a.add (j * P.cellsOf e)) (P.cellsOf e)).bind (DataW.trod enc P w 0 (fun _ => true) true n e) = some y:=by
     by_cases hjl : j < len
     ·rw [hel j hjl,List.getElem?_eq_getElem (by omega)]; exact ⟨_,rfl⟩
     ·have:=hre (j - len) (by omega)
      rw [show len + (j - len) = j by omega] at this
      rw [this,List.getElem?_eq_getElem (by omega)]; exact ⟨_,rfl⟩
    obtain ⟨y,hy⟩:=hb'
    rw [hce,Nat.mul_one,Option.bind_eq_some_iff] at hy
    obtain ⟨cs',h1,h2⟩:=hy
    obtain ⟨s,rfl,_⟩:=DataW.trod_string he h2
    exact ⟨s.data.toList,by rw [cell_of_cells?_one h1]⟩
   obtain ⟨f,hfe⟩ : ∃ f : Nat → List UInt8,∀ j,j < cap → w.cell? (a.add j) = some (.string ⟨(f j).toArray⟩) :=
    ⟨fun j => if hj : j < cap then Classical.choose (each j hj) else [],fun j hj => by
     simp only [dif_pos hj]
     exact Classical.choose_spec (each j hj)⟩
   obtain ⟨b,off,spot⟩:=a
   have hspot : spot = none:=by simpa [Addr.add] using World.cell?_spot (hfe 0 (by omega))
   subst hspot
   have hcell : ∀ j,j < cap → w.cell? ⟨b,off + j,none⟩ = some (.string ⟨(f j).toArray⟩):=fun j hj => by rw [← Go.WideShapes.add_plain]; exact hfe j hj
   obtain ⟨c,ty,fr,hb,hc0⟩:=cell_obj (hcell 0 (by omega))
   have hcj : ∀ j,j < cap → c[off + j]? = some (.string ⟨(f j).toArray⟩):=fun j hj => by
    obtain ⟨c',ty',fr',hb',hcj⟩:=cell_obj (hcell j hj)
    rw [hb] at hb'
    simp only [Option.some.injEq,Obj.cells.injEq] at hb'
    obtain ⟨rfl,_⟩:=hb'
    exact hcj
   have hsize : off + cap ≤ c.size:=by
    have:=(Array.getElem?_eq_some_iff.1 (hcj (cap - 1) (by omega))).1
    omega
   have l1 : (ss ((List.range len).map f)).length = len:=by simp
   refine ⟨AEv.upd φ h.N ⟨b,off,cap⟩,h.more (.cells 1 len (ss ((List.range len).map f))),.slice h.N 0 len len,(List.range len).map f,rfl,lo_add ho hr _ _ ?_,lo_stp ho _ _,more_ext h ho _,?_,.inr ⟨h.N,len,by rw [l1],more_at _ _⟩⟩
   ·refine ⟨c,ty,fr,hb,hsize,by rw [l1]; omega,fun j x hx => ?_⟩
    have hj : j < len:=by have:=(List.getElem?_eq_some_iff.1 hx).1; omega
    refine ⟨_,hcj j (by omega),?_,rfl⟩
    have : x = .str (f j):=by
     simp [hj] at hx
     exact hx.symm
    rw [this]
    simp [VR]
   ·simp only [VR]
    exact ⟨_,cap,1,len,_,rfl,hl,more_at _ _,Nat.le_refl _,fun _ => ⟨by simp [AEv.upd],fun _ _ => by simp [AEv.upd]⟩⟩
end Go.AEv
