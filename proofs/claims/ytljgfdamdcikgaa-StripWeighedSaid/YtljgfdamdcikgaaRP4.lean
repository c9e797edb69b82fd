/-
 Of the functions that this law reaches,part 4: what they answer. No condition.
-/
import Derived.Test.YtljgfdamdcikgaaRP3
import Derived.WideKeyPair
import Derived.Test.YtljgfdamdcikgaaRP0
set_option linter.unusedVariables false
set_option linter.unusedSimpArgs false
open Bool renaming true → zT, false → zF
open List renaming getElem?_eq_getElem → zq, getD_eq_getElem?_getD → zd
open Go.Proofs.Try renaming prog → zp
namespace Go.Proofs.Ytljgfdamdcikgaa.Ev
open Go Go.AEv
attribute [local simp] evFunc initS evOps_c evTrim_c evSkip_c evExit_c evRet_c evSeq_c evCond_c evBlock_c evDraw_c runOps_n runOps_c exec_n exec_g pure1_c act AOpd.ev T.get T.set T.put evBin evUn forceT_eq forceV_eq forceL_eq evRess evRes one keep runFP_n runFP_c app_none AV.flats AV.flat came_some List.getElem?_cons_zero List.getElem?_cons_succ beqT wrapI idxI tdivI tmodI decT decF ibT ibF inT inF evScope_c if_pos if_neg Cm_some thenW_n thenW_e thenW_r blkW_n blkW_e blkW_r goI kn putAt AV.cells fillA loadA takeA mk Eff.isAll Eff.isNone Eff.commutes Eff.spares okPair apart eqAgg fits LK.fits allEq aveq eqk mmA
def brW (Wt : List (List (List Int))) (Rs : List (List Nat)) (m : Nat) : Nat → Int
 | 0 => 0
 | k + 1 => brW Wt Rs m k + rvA (Wt.getD k []) (Rs.getD k []) m
section
variable {N m qq : Nat} {Wt : List (List (List Int))} {Rs : List (List Nat)}
theorem brW_bd (sm : SmA N m qq Wt) (ra : RwA Rs m qq) (hl : Rs.length = N) (m5 : m ≤ 5) : ∀ k,k ≤ N → -5000 * (k : Int) ≤ brW Wt Rs m k ∧ brW Wt Rs m k ≤ 5000 * (k : Int)
 | 0,_ => by simp [brW]
 | k + 1,h => by
  have ih:=brW_bd sm ra hl m5 k (by omega)
  obtain ⟨h1,h2⟩:=ra.at (c:=k) (by omega)
  have:=rvA_bd (sm k (by omega)) h2 h1 m (Nat.le_refl _)
  show -5000 * ((k + 1 : Nat) : Int) ≤ brW Wt Rs m k + rvA (Wt.getD k []) (Rs.getD k []) m ∧ brW Wt Rs m k + rvA (Wt.getD k []) (Rs.getD k []) m ≤ _
  omega
theorem brW_br {R : List (List Nat)} {P : List Nat} (hP : P.length = N) (lt : ∀ c ∈ P,c < R.length) : ∀ k,k ≤ N → brW Wt (rT2 R P) m k + br (uZ Wt R N m) (P.drop k) = br (uZ Wt R N m) P
 | 0,_ => by show 0 + br _ (P.drop 0) = _; rw [List.drop_zero,Int.zero_add]
 | k + 1,h => by
  have ih:=brW_br hP lt k (by omega)
  have hk : k < P.length:=by omega
  have dr : P.drop k = P.getD k 0 :: P.drop (k + 1):=by
   rw [List.drop_eq_getElem_cons hk,zd,zq hk]; rfl
  rw [dr] at ih
  have e1 : br (uZ Wt R N m) (P.getD k 0 :: P.drop (k + 1)) = uZ Wt R N m (P.drop (k + 1)).length (P.getD k 0) + br (uZ Wt R N m) (P.drop (k + 1)):=rfl
  rw [e1,List.length_drop,hP] at ih
  have e2 : uZ Wt R N m (N - (k + 1)) (P.getD k 0) = rvA (Wt.getD k []) ((rT2 R P).getD k []) m:=by
   have : uZ Wt R N m (N - (k + 1)) (P.getD k 0) = rvA (Wt.getD (N - 1 - (N - (k + 1))) []) (R.getD (P.getD k 0) []) m:=if_pos ⟨by omega,lt _ (gD_mem hk)⟩
   rw [this,show N - 1 - (N - (k + 1)) = k by omega,rT2_at hk]
  rw [e2] at ih
  show brW Wt (rT2 R P) m k + rvA (Wt.getD k []) ((rT2 R P).getD k []) m + br _ (P.drop (k + 1)) = _
  omega
theorem c55_ok (J : CallF) (k86 : K85 86 J) (hJ : ∀ a h,J 55 a h = none) (h : Heap) {x y : AV} (wn : WN h x N m qq Wt) (sm : SmA N m qq Wt) (ry : RV h y (wsL Rs)) (hl : Rs.length = N) (ra : RwA Rs m qq) (q3 : qq ≤ 3) (m5 : m ≤ 5) (N1 : 1 ≤ N) (N40 : N ≤ 40) :
  CallsTo tbl J 55 [x,y] h (G (brW Wt Rs m N),[],zF):=by
 refine Tr.fnv (cf:=c55) (e:=.ret) (s:=T.set (T.set .leaf [] x) [zF] y) (by decide) rfl (hJ _ _) rfl rfl rfl (by simp) ?_
 refine Tr.post (Q:=(fun s h => s.get [zT,zF] = G (brW Wt Rs m N))) (fun s h q => by simp [c55,q]) ?_
 have lw:=wsL_len Rs
 rw [hl] at lw
 have at' : ∀ {b : Nat} {o : AObj},h.get b = o → o ≠ .hole → (frameOf h).get b = o:=fun g hx => by
  unfold frameOf
  rw [get_mk_lt _ _ _ _ (get_lt g hx)]; exact g
 obtain ⟨by',vy,rfl,gy⟩ : ∃ b v,y = .slice b 0 N v ∧ h.get b = .cells 1 v (wsL Rs):=by
  rcases ry with ⟨_,e⟩ | ⟨b,v,e,g⟩
  ·rw [e] at lw; simp at lw; omega
  ·rw [lw] at e; exact ⟨b,v,e,g⟩
 obtain ⟨b,v,cs,rfl,g,lc,hr⟩:=wn
 have gy:=at' gy (by simp)
 have g:=at' g (by simp)
 have hr' : ∀ i,i < N → ∃ y,cs[i]? = some y ∧ TRw (frameOf h) y m qq (Wt.getD i []):=fun i hi => by
  obtain ⟨y,e1,e2⟩:=hr i hi
  exact ⟨y,e1,e2.fr⟩
 generalize frameOf h = H at *
 have l0 : Tr tbl J c55_l0 (fun s h => h = H ∧ s.get [] = .slice b 0 N v ∧ s.get [zF] = .slice by' 0 N vy ∧ s.get [zF,zT] = G (brW Wt Rs m 0) ∧ s.get [zT,zT] = G ((0 : Nat) : Int)) (.exit 0) (fun s h => h = H ∧ s.get [zF,zT] = G (brW Wt Rs m N)):=by
  refine Tr.rounds (e:=.exit 0) (P:=fun k => (fun s h => h = H ∧ s.get [] = .slice b 0 N v ∧ s.get [zF] = .slice by' 0 N vy ∧ s.get [zF,zT] = G (brW Wt Rs m k) ∧ s.get [zT,zT] = G (k : Nat))) (M:=N) (fun k hk => ?_) ?_ (by simp) 0 (by omega)
  ·obtain ⟨y,ey,ty⟩:=hr' k hk
   have ey':=getI ey
   obtain ⟨h1,h2⟩:=ra.at (c:=k) (by omega)
   have e86:=k86 H ⟨y,m,qq,Wt.getD k [],Rs.getD k []⟩ ⟨ty,h2,h1,q3,by show m ≤ 1000; omega,sm k hk⟩
   simp only at e86
   have ew:=wsL_at (R:=Rs) (i:=k) (by omega)
   have ew':=getI ew
   have b1:=brW_bd sm ra hl m5 k (by omega)
   have b2:=brW_bd sm ra hl m5 (k + 1) hk
   have e1 : brW Wt Rs m (k + 1) = brW Wt Rs m k + rvA (Wt.getD k []) (Rs.getD k []) m:=rfl
   rw [e1] at b2
   rw [e1,show ((k + 1 : Nat) : Int) = (k : Int) + 1 by omega]
   clear hr hr' ra sm k86 ty h1 h2 e1 hl ry
   generalize brW Wt Rs m k = s0 at *
   generalize rvA (Wt.getD k []) (Rs.getD k []) m = z at *
   generalize stW (Rs.getD k []) = w0 at *
   generalize wsL Rs = wl at *
   refine Tr.w fun s1 H1 hp _ kR => W.trim ?_
   obtain ⟨rfl,q⟩:=hp
   refine W.assoc ?_
   refine zCh ?_
   simp (disch:=omega) [c55_o3,zG,q]
   refine zCh ?_
   simp (disch:=omega) [zG,q]
   refine W.seq (W.block ?_)
   refine W.chunk ?_
   simp (disch:=omega) [-evDraw_c,c55_o4,zG,q,evDraw_0,g,lc,ey,ey',gy,lw,ew,ew',e86,app_if,app_if']
   refine W.chunk ?_
   simp (disch:=omega) [c55_o5,zG,q]
   exact kR _ _ (by simp [T.get,q])
  ·clear hr hr' ra sm k86 hl ry
   generalize brW Wt Rs m N = s0 at *
   refine Tr.w fun s1 H1 hp _ kR => W.trim ?_
   obtain ⟨rfl,q⟩:=hp
   refine W.assoc ?_
   refine zCh ?_
   simp (disch:=omega) [c55_o3,zG,q]
   refine zCh ?_
   simp (disch:=omega) [zG,q]
   exact kR _ _ (by simp [T.get,q])
 have z0 : brW Wt Rs m 0 = 0:=rfl
 rw [z0] at l0
 clear hr hr' ra sm k86 hl ry
 generalize brW Wt Rs m N = s0 at *
 refine Tr.w fun s1 H1 hp _ kR => ?_
 obtain ⟨rfl,rfl⟩:=hp
 have q : True:=trivial
 refine zCh ?_
 simp (disch:=omega) [c55_o0,zG,q]
 refine zCh ?_
 simp (disch:=omega) [c55_o1,zG,q]
 refine W.assoc ?_
 refine zCh ?_
 simp (disch:=omega) [c55_o2,zG,q]
 refine W.seq (W.block ?_)
 refine W.use (l0) (by simp (disch:=omega) [zG,q]) fun s1 H1 hp => ?_
 obtain ⟨rfl,q⟩:=hp
 try simp only [zW,if_true]
 refine zCh ?_
 simp (disch:=omega) [c55_o6,zG,q]
 refine W.ret ?_
 try simp only [zW,if_true]
 exact kR _ _ (by simp [T.get,q])
end
structure A55 where
 x : AV
 y : AV
 N : Nat
 m : Nat
 qq : Nat
 Wt : List (List (List Int))
 Rs : List (List Nat)
def Ok55 (b : A55) (h : Heap) : Prop:=WN h b.x b.N b.m b.qq b.Wt ∧ SmA b.N b.m b.qq b.Wt ∧ RV h b.y (wsL b.Rs) ∧ b.Rs.length = b.N ∧ RwA b.Rs b.m b.qq ∧ b.qq ≤ 3 ∧ b.m ≤ 5 ∧ 1 ≤ b.N ∧ b.N ≤ 40
def Pre55 (b : A55) (args : List AV) (h : Heap) : Prop:=Ok55 b h ∧ args = [b.x,b.y]
noncomputable def U55 : CallF:=addK tbl U86 55 Pre55 (fun b h v own => v = G (brW b.Wt b.Rs b.m b.N) ∧ own = [])
theorem u55 : Sound zp U55:=Sound.addK follows ok u86 (by decide) _ _
abbrev K55 (J : CallF) : Prop:=∀ (h : Heap) (b : A55),Ok55 b h → J 55 [b.x,b.y] h = some (G (brW b.Wt b.Rs b.m b.N),[],zF)
theorem k55u : K55 U55:=fun h b o => by
 obtain ⟨v,own,e,rfl,rfl⟩:=addK_some (Pre:=Pre55) (Post:=fun b h v own => v = G (brW b.Wt b.Rs b.m b.N) ∧ own = []) (fun b args h hp => by
  obtain ⟨⟨h1,h2,h3,h4,h5,h6,h7,h8,h9⟩,rfl⟩:=hp
  exact ⟨_,_,c55_ok U86 k86u (fun _ _ => by simp (disch:=decide) only [U86,addI_ne,addX_ne,addV_ne,addK_ne]; rfl) h h1 h2 h3 h4 h5 h6 h7 h8 h9,rfl,rfl⟩) b _ h ⟨o,rfl⟩
 exact e
section
variable {qq m n p b : Nat} {l : List Int} {x1 y1 x2 z : AV} {H : Heap}
theorem LR.kp {h h' : Heap} {x : AV} {l : List Int} (e : LR h x l) (k : Kp (fun _ => False) h h') : LR h' x l:=LR.kpm k e (fun _ _ => id)
theorem c17_l0_ok (J : CallF) (k19 : K19 J) {Hb : Heap} {z13 : AV} {br i k a0 : Nat} (hx : LR Hb x2 l) (gp : Hb.get p = .cells 0 3 [G qq,x1,y1]) (hbr : Hb.size ≤ br) (hNb : Hb.N ≤ br) (q3 : qq ≤ 3) (ha : a0 ≤ 1000) (L0 : List Int) (h0 : L0.length = qq) (hs0 : L0.all smB = zT) (i9 : i ≤ 40) (k9 : k ≤ 40) (m9 : m ≤ 40) (n9 : n ≤ 40) {Hc : Heap} (kc : Kp (fun _ => False) Hb Hc) (gc : Hc.get br = .cells 1 qq (gs L0)) :
  Tr tbl J c17_l0 (fun s h => h = Hc ∧ s.get [zT] = x2 ∧ s.get [zT,zF] = .ptr b 0 3 ∧ s.get [zF,zF,zF] = .ptr p 0 3 ∧ s.get [zT,zF,zF] = G m ∧ s.get [zF,zT,zF] = G n ∧ s.get [zT,zT,zF] = z ∧ s.get [zF,zF,zT] = G a0 ∧ s.get [zT,zF,zT] = G i ∧ s.get [zF,zT,zT] = z13 ∧ s.get [zT,zT,zT] = G k ∧ s.get [zF,zF,zF,zF] = .slice br 0 qq qq ∧ s.get [zT,zF,zF,zF] = G ((0 : Nat) : Int)) (.exit 4)
   (fun s h => ∃ L,(L.length = qq ∧ L.all smB = zT ∧ Kp (fun _ => False) Hb h ∧ h.get br = .cells 1 qq (gs L)) ∧ s.get [zT] = x2 ∧ s.get [zT,zF] = .ptr b 0 3 ∧ s.get [zF,zF,zF] = .ptr p 0 3 ∧ s.get [zT,zF,zF] = G m ∧ s.get [zF,zT,zF] = G n ∧ s.get [zT,zT,zF] = z ∧ s.get [zF,zF,zT] = G (a0 + qq : Nat) ∧ s.get [zT,zF,zT] = G i ∧ s.get [zF,zT,zT] = z13 ∧ s.get [zT,zT,zT] = G k ∧ s.get [zF,zF,zF,zF] = .slice br 0 qq qq):=by
 refine Tr.pre (P:=fun s h => ∃ L,(L.length = qq ∧ L.all smB = zT ∧ Kp (fun _ => False) Hb h ∧ h.get br = .cells 1 qq (gs L)) ∧ s.get [zT] = x2 ∧ s.get [zT,zF] = .ptr b 0 3 ∧ s.get [zF,zF,zF] = .ptr p 0 3 ∧ s.get [zT,zF,zF] = G m ∧ s.get [zF,zT,zF] = G n ∧ s.get [zT,zT,zF] = z ∧ s.get [zF,zF,zT] = G (a0 + 0 : Nat) ∧ s.get [zT,zF,zT] = G i ∧ s.get [zF,zT,zT] = z13 ∧ s.get [zT,zT,zT] = G k ∧ s.get [zF,zF,zF,zF] = .slice br 0 qq qq ∧ s.get [zT,zF,zF,zF] = G ((0 : Nat) : Int)) (fun s h ⟨e,q1,q2,q3,q4,q5,q6,q7,q8⟩ => ⟨L0,⟨h0,hs0,by rw [e]; exact ⟨kc,gc⟩⟩,q1,q2,q3,q4,q5,q6,q7,q8⟩) ?_
 refine Tr.rounds (e:=.exit 4) (P:=fun c s h => ∃ L,(L.length = qq ∧ L.all smB = zT ∧ Kp (fun _ => False) Hb h ∧ h.get br = .cells 1 qq (gs L)) ∧ s.get [zT] = x2 ∧ s.get [zT,zF] = .ptr b 0 3 ∧ s.get [zF,zF,zF] = .ptr p 0 3 ∧ s.get [zT,zF,zF] = G m ∧ s.get [zF,zT,zF] = G n ∧ s.get [zT,zT,zF] = z ∧ s.get [zF,zF,zT] = G (a0 + c : Nat) ∧ s.get [zT,zF,zT] = G i ∧ s.get [zF,zT,zT] = z13 ∧ s.get [zT,zT,zT] = G k ∧ s.get [zF,zF,zF,zF] = .slice br 0 qq qq ∧ s.get [zT,zF,zF,zF] = G (c : Nat)) (M:=qq) (fun c hc => ?_) ?_ (by simp) 0 (by omega)
 ·refine Tr.w fun s1 H1 hp _ kR => W.trim ?_
  obtain ⟨L,⟨lL,sL,kp,g⟩,q⟩:=hp
  have gp1:=kp.at gp (by simp) id
  have hx1:=hx.kp kp
  have a1 : ((a0 + (c + 1) : Nat) : Int) = ((a0 + c : Nat) : Int) + 1:=by omega
  have c1 : ((c + 1 : Nat) : Int) = (c : Int) + 1:=by omega
  rw [a1,c1] at kR
  have ac : a0 + c ≤ 2000:=by omega
  have sx : (x2 = .nils ∧ l.length = 0) ∨ (x2 = .slice0 ∧ l.length = 0) ∨ ∃ b v,x2 = .slice b 0 l.length v ∧ H1.get b = .cells 1 v (gs l):=by
   rcases hx1.cases with ⟨h1,h2⟩ | ⟨h1,h2⟩ | ⟨b,v,h1,h2⟩
   ·exact .inl ⟨h1,by rw [h2]; rfl⟩
   ·exact .inr (.inl ⟨h1,by rw [h2]; rfl⟩)
   ·exact .inr (.inr ⟨b,v,h1,h2⟩)
  generalize a0 + c = ac' at *
  by_cases cc : ac' < l.length
  ·obtain ⟨b2,v2,rfl,g2⟩:=(sx.resolve_left (fun e => by omega)).resolve_left (fun e => by omega)
   have e2:=gs_at l cc
   have e2':=getI e2
   have lg2 : (gs l).length = l.length:=by simp
   have e19:=k19 (l.getD ac' 0) 2001 H1 (by omega) (by omega)
   have bd:=mdZ_bd (l.getD ac' 0) (n:=2001) (by omega)
   have lgL : (gs L).length = qq:=by rw [← lL]; simp
   have pt:=put_gen H1 br qq c 1 _ [G (mdZ (l.getD ac' 0) 2001 - 1000)] (by rw [kp.N]; exact hNb) g (by rw [lgL]; show c + 1 ≤ qq; omega)
   have e : putAt (gs L) c [G (mdZ (l.getD ac' 0) 2001 - 1000)] = gs (L.set c (mdZ (l.getD ac' 0) 2001 - 1000)):=by
    show (gs L).set c _ = _
    unfold gs
    exact List.map_set.symm
   rw [e] at pt
   have fin : (L.set c (mdZ (l.getD ac' 0) 2001 - 1000)).length = qq ∧ (L.set c (mdZ (l.getD ac' 0) 2001 - 1000)).all smB = zT ∧ Kp (fun _ => False) Hb (H1.upd br (.cells 1 qq (gs (L.set c (mdZ (l.getD ac' 0) 2001 - 1000))))) ∧ (H1.upd br (.cells 1 qq (gs (L.set c (mdZ (l.getD ac' 0) 2001 - 1000))))).get br = .cells 1 qq (gs (L.set c (mdZ (l.getD ac' 0) 2001 - 1000))):=by
    refine ⟨by rw [List.length_set]; exact lL,?_,kp.updn br _ (by rw [kp.N]; exact hNb) hbr,upd_same _ _ _ (by rw [kp.N]; exact hNb) (get_lt g (by simp))⟩
    rw [List.all_eq_true]
    intro z hz
    rcases List.mem_or_eq_of_mem_set hz with hz | rfl
    ·exact List.all_eq_true.1 sL z hz
    ·exact decide_eq_true (by omega)
   clear hx hx1 sx sL lL e k19
   generalize hr2 : gs (L.set c (mdZ (l.getD ac' 0) 2001 - 1000)) = r2 at *
   generalize L.set c (mdZ (l.getD ac' 0) 2001 - 1000) = L2 at *
   generalize mdZ (l.getD ac' 0) 2001 = zz at *
   generalize l.getD ac' 0 = z0 at *
   generalize gs L = gl at *
   generalize gs l = gl2 at *
   generalize l.length = nl at *
   refine W.assoc ?_
   refine zCh ?_
   simp (disch:=omega) [c17_o12,zG,q,gp1]
   refine zCh ?_
   simp (disch:=omega) [zG,q]
   refine W.seq (W.block ?_)
   refine W.assoc ?_
   refine zCh ?_
   simp (disch:=omega) [c17_o13,zG,q]
   refine W.seq (W.cond (v:=zT) (by simp (disch:=omega) [zG,q]) ?_)
   simp only [if_true,if_false,Bool.false_eq_true]
   refine W.chunk ?_
   simp (disch:=omega) [c17_o14,zG,q,g2,lg2,e2,e2',e19,g,lgL,pt]
   refine W.chunk ?_
   simp (disch:=omega) [c17_o15,zG,q]
   refine W.chunk ?_
   simp (disch:=omega) [c17_o16,zG,q]
   exact kR _ _ ⟨L2,by rw [hr2]; exact fin,by simp [T.get,q]⟩
  ·clear hx hx1 k19
   generalize gs l = gl2 at *
   generalize hgl : gs L = gl at *
   generalize l.length = nl at *
   rcases sx with ⟨rfl,h1⟩ | ⟨rfl,h1⟩ | ⟨b2,v2,rfl,g2⟩
   all_goals
    try subst h1
    refine W.assoc ?_
    refine zCh ?_
    simp (disch:=omega) [c17_o12,zG,q,gp1]
    refine zCh ?_
    simp (disch:=omega) [zG,q]
    refine W.seq (W.block ?_)
    refine W.assoc ?_
    refine zCh ?_
    simp (disch:=omega) [c17_o13,zG,q,cc]
    refine W.seq (W.cond (v:=zF) (by simp (disch:=omega) [zG,q]) ?_)
    simp only [if_true,if_false,Bool.false_eq_true]
    refine W.skip ?_
    try simp only [zW,if_true]
    refine W.chunk ?_
    simp (disch:=omega) [c17_o15,zG,q]
    refine W.chunk ?_
    simp (disch:=omega) [c17_o16,zG,q]
    exact kR _ _ ⟨L,⟨lL,sL,kp,by rw [hgl]; exact g⟩,by simp [T.get,q]⟩
 ·refine Tr.w fun s1 H1 hp _ kR => W.trim ?_
  obtain ⟨L,⟨lL,sL,kp,g⟩,q⟩:=hp
  have gp1:=kp.at gp (by simp) id
  generalize hgl : gs L = gl at *
  refine W.assoc ?_
  refine zCh ?_
  simp (disch:=omega) [c17_o12,zG,q,gp1]
  refine zCh ?_
  simp (disch:=omega) [zG,q]
  exact kR _ _ ⟨L,⟨lL,sL,kp,by rw [hgl]; exact g⟩,by simp [T.get,q]⟩
theorem c17_l1_ok (J : CallF) (k19 : K19 J) {Hb : Heap} {i a0 : Nat} (hx : LR Hb x2 l) (gp : Hb.get p = .cells 0 3 [G qq,x1,y1]) (q1 : 1 ≤ qq) (q3 : qq ≤ 3) (ha : a0 ≤ 500) (i9 : i ≤ 40) (m9 : m ≤ 5) (n9 : n ≤ 40) :
  Tr tbl J c17_l1 (fun s h => h = Hb ∧ s.get [zT] = x2 ∧ s.get [zT,zF] = .ptr b 0 3 ∧ s.get [zF,zF,zF] = .ptr p 0 3 ∧ s.get [zT,zF,zF] = G m ∧ s.get [zF,zT,zF] = G n ∧ s.get [zT,zT,zF] = z ∧ s.get [zF,zF,zT] = G a0 ∧ s.get [zT,zF,zT] = G i ∧ s.get [zF,zT,zT] = .nils ∧ s.get [zT,zT,zT] = G ((0 : Nat) : Int)) (.exit 2)
   (fun s h => ∃ y M a1,(TG Hb h y M ∧ M.length = m ∧ (∀ r ∈ M,r.length = qq ∧ r.all smB = zT) ∧ a1 ≤ a0 + 3 * m) ∧ s.get [zT] = x2 ∧ s.get [zT,zF] = .ptr b 0 3 ∧ s.get [zF,zF,zF] = .ptr p 0 3 ∧ s.get [zT,zF,zF] = G m ∧ s.get [zF,zT,zF] = G n ∧ s.get [zT,zT,zF] = z ∧ s.get [zF,zF,zT] = G (a1 : Nat) ∧ s.get [zT,zF,zT] = G i ∧ s.get [zF,zT,zT] = y):=by
 refine Tr.pre (P:=fun s h => ∃ y M a1,(TG Hb h y M ∧ M.length = 0 ∧ (∀ r ∈ M,r.length = qq ∧ r.all smB = zT) ∧ a1 ≤ a0 + 3 * 0) ∧ s.get [zT] = x2 ∧ s.get [zT,zF] = .ptr b 0 3 ∧ s.get [zF,zF,zF] = .ptr p 0 3 ∧ s.get [zT,zF,zF] = G m ∧ s.get [zF,zT,zF] = G n ∧ s.get [zT,zT,zF] = z ∧ s.get [zF,zF,zT] = G (a1 : Nat) ∧ s.get [zT,zF,zT] = G i ∧ s.get [zF,zT,zT] = y ∧ s.get [zT,zT,zT] = G ((0 : Nat) : Int)) (fun s h ⟨e,q1,q2,q3,q4,q5,q6,q7,q8,q9,q10⟩ => ⟨.nils,[],a0,⟨by rw [e]; exact TG.nil _,rfl,fun r hr => (by cases hr),by omega⟩,q1,q2,q3,q4,q5,q6,q7,q8,q9,q10⟩) ?_
 refine Tr.rounds (e:=.exit 2) (P:=fun k s h => ∃ y M a1,(TG Hb h y M ∧ M.length = k ∧ (∀ r ∈ M,r.length = qq ∧ r.all smB = zT) ∧ a1 ≤ a0 + 3 * k) ∧ s.get [zT] = x2 ∧ s.get [zT,zF] = .ptr b 0 3 ∧ s.get [zF,zF,zF] = .ptr p 0 3 ∧ s.get [zT,zF,zF] = G m ∧ s.get [zF,zT,zF] = G n ∧ s.get [zT,zT,zF] = z ∧ s.get [zF,zF,zT] = G (a1 : Nat) ∧ s.get [zT,zF,zT] = G i ∧ s.get [zF,zT,zT] = y ∧ s.get [zT,zT,zT] = G (k : Nat)) (M:=m) (fun k hk => ?_) ?_ (by simp) 0 (by omega)
 ·refine Tr.w fun s1 H1 hp _ kR => W.trim ?_
  obtain ⟨y,M,a1,⟨tg,lM,hM,le⟩,q⟩:=hp
  have gp1:=tg.k.at gp (by simp) id
  have mk1 : mkSl H1 8 (G 0) qq = some (.slice H1.size 0 qq qq,{ eff:=.grow [.cells 1 qq (List.replicate qq (G 0))] }):=mkSl_ok _ _ _ _ _ rfl (by omega)
  obtain ⟨H2,hH2⟩ : ∃ H,H1.plus [.cells 1 qq (List.replicate qq (G 0))] = H:=⟨_,rfl⟩
  have k2 : Kp (fun _ => False) H1 H2:=by rw [← hH2]; exact Kp.plus _ _
  have g2 : H2.get H1.size = .cells 1 qq (gs (List.replicate qq 0)):=by
   rw [← hH2,plus_at0 _ _ _ _ rfl]
   simp [gs]
  have l0:=c17_l0_ok (b:=b) (n:=n) (m:=m) (z:=z) (z13:=y) (br:=H1.size) (i:=i) (k:=k) (a0:=a1) J k19 (hx.kp tg.k) gp1 (Nat.le_refl _) (by unfold Heap.size; omega) q3 (by omega) (List.replicate qq 0) (by simp) (by
   rw [List.all_eq_true]
   intro z hz
   obtain ⟨_,rfl⟩:=List.mem_replicate.1 hz
   rfl) i9 (by omega) (by omega) n9 k2 g2
  have step : ∀ h L,L.length = qq ∧ L.all smB = zT ∧ Kp (fun _ => False) H1 h ∧ h.get H1.size = .cells 1 qq (gs L) → ∃ x1 e h2,appA (h.plus [.cells 1 1 [.slice H1.size 0 qq qq]]) h.size none 1 24 1 [.slice H1.size 0 qq qq] y = some (x1,e) ∧ Eff.app e (h.plus [.cells 1 1 [.slice H1.size 0 qq qq]]) = some h2 ∧ ∃ M',TG Hb h2 x1 M' ∧ M'.length = k + 1 ∧ ∀ r ∈ M',r.length = qq ∧ r.all smB = zT:=fun h L ⟨lL,sL,kp,g⟩ => by
   obtain ⟨x1,e,h2,q1,q2,q3,_⟩:=(tg.kp kp).app h.size (v:=.slice H1.size 0 qq qq) (l:=L) (listOf_cells g lL) (fun q hq => by
    cases hq
    refine ⟨fun e => ?_,tg.k.size⟩
    obtain ⟨rs,lv,_⟩:=tg.r
    have:=lv.lt e; omega) (by omega)
   refine ⟨x1,e,h2,q1,q2,_,q3,by rw [List.length_append,lM]; rfl,fun r hr => ?_⟩
   rcases List.mem_append.1 hr with hr | hr
   ·exact hM r hr
   ·simp only [List.mem_singleton] at hr
    subst hr
    exact ⟨lL,sL⟩
  have j1 : ((k + 1 : Nat) : Int) = (k : Int) + 1:=by omega
  rw [j1] at kR
  have le2 : a1 + qq ≤ a0 + 3 * (k + 1):=by omega
  clear tg hx hM lM
  generalize List.replicate qq (G 0) = rep at *
  refine W.assoc ?_
  refine zCh ?_
  simp (disch:=omega) [c17_o9,zG,q]
  refine zCh ?_
  simp (disch:=omega) [zG,q]
  refine W.seq (W.block ?_)
  refine zCh ?_
  simp (disch:=omega) [-act,c17_o10,zG,q,act_move,act_mkSl,act_fa,act_load,gp1,mk1,hH2]
  refine W.assoc ?_
  refine zCh ?_
  simp (disch:=omega) [c17_o11,zG,q]
  refine W.seq (W.block ?_)
  refine W.use (l0) (by simp (disch:=omega) [zG,q]) fun s1 H1 hp => ?_
  obtain ⟨L,fl,q⟩:=hp
  try simp only [zW,if_true]
  obtain ⟨x9,e9,h9,q1',q2',M',tg',lM',hM'⟩:=step _ L fl
  refine W.chunk ?_
  simp (disch:=omega) [c17_o17,zG,q,q1',q2',app1_at,elems,rdOf]
  refine W.chunk ?_
  simp (disch:=omega) [c17_o18,zG,q]
  exact kR _ _ ⟨x9,M',a1 + qq,⟨tg',lM',hM',le2⟩,by simp [T.get,q]⟩
 ·refine Tr.w fun s1 H1 hp _ kR => W.trim ?_
  obtain ⟨y,M,a1,⟨tg,lM,hM,le⟩,q⟩:=hp
  clear hx
  refine W.assoc ?_
  refine zCh ?_
  simp (disch:=omega) [c17_o9,zG,q]
  refine zCh ?_
  simp (disch:=omega) [zG,q]
  exact kR _ _ ⟨y,M,a1,⟨tg,lM,hM,le⟩,by simp [T.get,q]⟩
theorem c17_o19_ok (J : CallF) {h2 : Heap} {y x9 : AV} {e : Eff} {a1 i : Nat} (sh : y = .nils ∨ ∃ b n,y = .slice b 0 n n) (q1 : appA (H.plus [.cells 1 1 [y]]) H.size none 1 24 1 [y] z = some (x9,e)) (q2 : Eff.app e (H.plus [.cells 1 1 [y]]) = some h2) :
  Tr tbl J c17_o19 (fun s h => h = H ∧ s.get [zT] = x2 ∧ s.get [zT,zF] = .ptr b 0 3 ∧ s.get [zF,zF,zF] = .ptr p 0 3 ∧ s.get [zT,zF,zF] = G m ∧ s.get [zF,zT,zF] = G n ∧ s.get [zT,zT,zF] = z ∧ s.get [zF,zF,zT] = G (a1 : Nat) ∧ s.get [zT,zF,zT] = G i ∧ s.get [zF,zT,zT] = y) .normal (fun s h => h = h2 ∧ s.get [zT] = x2 ∧ s.get [zT,zF] = .ptr b 0 3 ∧ s.get [zF,zF,zF] = .ptr p 0 3 ∧ s.get [zT,zF,zF] = G m ∧ s.get [zF,zT,zF] = G n ∧ s.get [zT,zT,zF] = x9 ∧ s.get [zF,zF,zT] = G (a1 : Nat) ∧ s.get [zT,zF,zT] = G i):=by
 rcases sh with rfl | ⟨b9,n9,rfl⟩
 all_goals
  refine Tr.w fun s1 H1 hp _ kR => ?_
  obtain ⟨rfl,q⟩:=hp
  refine W.chunk ?_
  simp (disch:=omega) [c17_o19,zG,q,q1,q2,app1_at,elems,rdOf]
  exact kR _ _ (by simp [T.get,q])
theorem c17_l2_ok (J : CallF) (k19 : K19 J) {Hb : Heap} (hx : LR Hb x2 l) (gp : Hb.get p = .cells 0 3 [G qq,x1,y1]) (q1 : 1 ≤ qq) (q3 : qq ≤ 3) (m9 : m ≤ 5) (n9 : n ≤ 10) :
  Tr tbl J c17_l2 (fun s h => h = Hb ∧ s.get [zT] = x2 ∧ s.get [zT,zF] = .ptr b 0 3 ∧ s.get [zF,zF,zF] = .ptr p 0 3 ∧ s.get [zT,zF,zF] = G m ∧ s.get [zF,zT,zF] = G n ∧ s.get [zT,zT,zF] = .nils ∧ s.get [zF,zF,zT] = G 0 ∧ s.get [zT,zF,zT] = G ((0 : Nat) : Int)) (.exit 0)
   (fun s h => ∃ z Wt,(TW Hb h z Wt ∧ Wt.length = n ∧ ∀ M ∈ Wt,M.length = m ∧ ∀ r ∈ M,r.length = qq ∧ r.all smB = zT) ∧ s.get [zT,zF] = .ptr b 0 3 ∧ s.get [zF,zF,zF] = .ptr p 0 3 ∧ s.get [zT,zF,zF] = G m ∧ s.get [zF,zT,zF] = G n ∧ s.get [zT,zT,zF] = z):=by
 refine Tr.pre (P:=fun s h => ∃ z Wt a1,(TW Hb h z Wt ∧ Wt.length = 0 ∧ (∀ M ∈ Wt,M.length = m ∧ ∀ r ∈ M,r.length = qq ∧ r.all smB = zT) ∧ a1 ≤ 15 * 0) ∧ s.get [zT] = x2 ∧ s.get [zT,zF] = .ptr b 0 3 ∧ s.get [zF,zF,zF] = .ptr p 0 3 ∧ s.get [zT,zF,zF] = G m ∧ s.get [zF,zT,zF] = G n ∧ s.get [zT,zT,zF] = z ∧ s.get [zF,zF,zT] = G (a1 : Nat) ∧ s.get [zT,zF,zT] = G ((0 : Nat) : Int)) (fun s h ⟨e,q1,q2,q3,q4,q5,q6,q7,q8⟩ => ⟨.nils,[],0,⟨by rw [e]; exact TW.nil _,rfl,fun r hr => (by cases hr),by omega⟩,q1,q2,q3,q4,q5,q6,q7,q8⟩) ?_
 refine Tr.rounds (e:=.exit 0) (P:=fun i s h => ∃ z Wt a1,(TW Hb h z Wt ∧ Wt.length = i ∧ (∀ M ∈ Wt,M.length = m ∧ ∀ r ∈ M,r.length = qq ∧ r.all smB = zT) ∧ a1 ≤ 15 * i) ∧ s.get [zT] = x2 ∧ s.get [zT,zF] = .ptr b 0 3 ∧ s.get [zF,zF,zF] = .ptr p 0 3 ∧ s.get [zT,zF,zF] = G m ∧ s.get [zF,zT,zF] = G n ∧ s.get [zT,zT,zF] = z ∧ s.get [zF,zF,zT] = G (a1 : Nat) ∧ s.get [zT,zF,zT] = G (i : Nat)) (M:=n) (fun i hi => ?_) ?_ (by simp) 0 (by omega)
 ·refine Tr.w fun s1 H1 hp _ kR => W.trim ?_
  obtain ⟨z,Wt,a1,⟨tw,lW,hW,le⟩,q⟩:=hp
  have l1:=c17_l1_ok (b:=b) (n:=n) (m:=m) (z:=z) (i:=i) (a0:=a1) J k19 (hx.kp tw.k) (tw.k.at gp (by simp) id) q1 q3 (by omega) (by omega) m9 (by omega)
  have step : ∀ h y M a2,TG H1 h y M ∧ M.length = m ∧ (∀ r ∈ M,r.length = qq ∧ r.all smB = zT) ∧ a2 ≤ a1 + 3 * m → ∃ x1 e h2,appA (h.plus [.cells 1 1 [y]]) h.size none 1 24 1 [y] z = some (x1,e) ∧ Eff.app e (h.plus [.cells 1 1 [y]]) = some h2 ∧ a2 ≤ 15 * (i + 1) ∧ (y = .nils ∨ ∃ b n,y = .slice b 0 n n) ∧ ∃ Wt',TW Hb h2 x1 Wt' ∧ Wt'.length = i + 1 ∧ ∀ M ∈ Wt',M.length = m ∧ ∀ r ∈ M,r.length = qq ∧ r.all smB = zT:=fun h y M a2 ⟨tg,lM,hM,le2⟩ => by
   have lt : ∀ q,blk z = some q → q < H1.size:=fun q hq => by
    obtain ⟨cs,lv,_⟩:=tw.r
    exact lv.lt hq
   obtain ⟨x1,e,h2,q1,q2,q3,_⟩:=(tw.kp tg.k).app h.size (tg.mrb lt) (by omega)
   refine ⟨x1,e,h2,q1,q2,by omega,tg.sh,_,q3,by rw [List.length_append,lW]; rfl,fun r hr => ?_⟩
   rcases List.mem_append.1 hr with hr | hr
   ·exact hW r hr
   ·simp only [List.mem_singleton] at hr
    subst hr
    exact ⟨lM,hM⟩
  have j1 : ((i + 1 : Nat) : Int) = (i : Int) + 1:=by omega
  rw [j1] at kR
  clear tw hx hW lW
  refine W.assoc ?_
  refine zCh ?_
  simp (disch:=omega) [c17_o6,zG,q]
  refine zCh ?_
  simp (disch:=omega) [zG,q]
  refine W.seq (W.block ?_)
  refine zCh ?_
  simp (disch:=omega) [c17_o7,zG,q]
  refine W.assoc ?_
  refine zCh ?_
  simp (disch:=omega) [c17_o8,zG,q]
  refine W.seq (W.block ?_)
  refine W.use (l1) (by simp (disch:=omega) [zG,q]) fun s1 H1 hp => ?_
  obtain ⟨y,M,a2,fl,q⟩:=hp
  try simp only [zW,if_true]
  obtain ⟨x9,e9,h9,q1',q2',le',sh,Wt',tw',lW',hW'⟩:=step _ y M a2 fl
  refine W.use (c17_o19_ok (x2:=x2) (b:=b) (p:=p) (m:=m) (n:=n) (a1:=a2) (i:=i) J sh q1' q2') (by simp (disch:=omega) [zG,q]) fun s1 H1 hp => ?_
  obtain ⟨rfl,q⟩:=hp
  try simp only [zW,if_true]
  refine W.chunk ?_
  simp (disch:=omega) [c17_o20,zG,q]
  exact kR _ _ ⟨x9,Wt',a2,⟨tw',lW',hW',le'⟩,by simp [T.get,q]⟩
 ·refine Tr.w fun s1 H1 hp _ kR => W.trim ?_
  obtain ⟨z,Wt,a1,⟨tw,lW,hW,le⟩,q⟩:=hp
  clear hx
  refine W.assoc ?_
  refine zCh ?_
  simp (disch:=omega) [c17_o6,zG,q]
  refine zCh ?_
  simp (disch:=omega) [zG,q]
  exact kR _ _ ⟨z,Wt,⟨tw,lW,hW⟩,by simp [T.get,q]⟩
theorem wtB_of {Wt : List (List (List Int))} (lW : Wt.length = n) (hW : ∀ M ∈ Wt,M.length = m ∧ ∀ r ∈ M,r.length = qq ∧ r.all smB = zT) (n1 : 1 ≤ n) (n9 : n ≤ 40) (m1 : 1 ≤ m) (m9 : m ≤ 5) : wtB qq Wt = zT ∧ (Wt.getD 0 []).length = m:=by
 have h0:=(hW (Wt.getD 0 []) (gDm (by omega))).1
 refine ⟨?_,h0⟩
 unfold wtB
 rw [h0,decide_eq_true ⟨by omega,by omega⟩,decide_eq_true ⟨m1,m9⟩,Bool.true_and,Bool.true_and,List.all_eq_true]
 intro M hM
 obtain ⟨h1,h2⟩:=hW M hM
 unfold gridB
 rw [h1,decide_eq_true rfl,Bool.true_and,List.all_eq_true]
 intro r hr
 obtain ⟨h3,h4⟩:=h2 r hr
 unfold cellB
 rw [h3,decide_eq_true rfl,Bool.true_and]; exact h4
end
structure KnWg (J : CallF) : Prop where
 k18 : K18 J
 k19 : K19 J
 k21 : K21 J
 k32 : K32 J
 k39 : K39g J
 k45 : K45 J
 k51 : K51 J
 k54 : K54 J
 k55 : K55 J
 k23 : ∀ h,J 23 [] h = some (.bool zT,[],zF)
section
variable {S : List (List Nat)} {u : Nat → Nat → Int}
theorem none_cnt (hs : Srt S) (n2 : S.length ≤ 243) {n : Nat} (n1 : 1 ≤ n) (n9 : n ≤ 10) (h : bO (gv S u (n - 1)) none (List.range S.length) = none) : okC S n = zT ∧ (rowC S (n - 1)).sum = 0:=by
 have al0 : ∀ i,i < S.length → al S (n - 1) i = zF:=fun i hi => by
  rcases bO_none (f:=gv S u (n - 1)) (List.range S.length) with ⟨_,h2⟩ | ⟨j,w,A,B,h1,_⟩
  ·rw [← gv_al (u:=u),h2 i (List.mem_range.2 hi)]; rfl
  ·rw [h] at h1; cases h1
 constructor
 ·refine okC_dag hs n2 (fun i hi => ?_) n
  cases h9 : al S 9 i
  ·rfl
  ·have:=al_le (k:=n - 1) (d:=9 - (n - 1)) (by rw [show n - 1 + (9 - (n - 1)) = 9 by omega]; exact h9)
   rw [al0 i hi] at this; cases this
 ·apply Decidable.byContradiction
  intro c
  obtain ⟨i,hi,h2⟩:=(rowC_pos (S:=S) (n - 1)).1 (by omega)
  rw [al0 i hi] at h2; cases h2
theorem some_cnt {n c : Nat} {s : Int} (h : bO (gv S u (n - 1)) none (List.range S.length) = some (c,s)) : 0 < (rowC S (n - 1)).sum:=by
 obtain ⟨h1,h2⟩:=bO_at h
 refine (rowC_pos (S:=S) (n - 1)).2 ⟨c,List.mem_range.1 h1,?_⟩
 rw [← gv_al (u:=u),h2]; rfl
end
theorem bfr_best {a : AR} {m : Int} (g : a.rm m = zT) {P Q : List Nat} (vc : VC (a.steps m) (-1) P) (h : P = Q ∨ ∃ t,t < P.length ∧ (∀ k,k < t → P[k]? = Q[k]?) ∧ ∃ x y,P[t]? = some x ∧ Q[t]? = some y ∧ y < x) : bfr ((rT2 (a.rows m) P).map stW) ((rT2 (a.rows m) Q).map stW) = zF:=by
 obtain ⟨os,s243,sr⟩:=AR.steps_ok g
 have q3 : a.q.toNat ≤ 3:=by
  have:=a.q3 (a.rm_iff g).1
  omega
 rcases h with rfl | ⟨t,t1,t2,x,y,t3,t4,t5⟩
 ·exact bfr_same _
 ·have hx : x < (a.rows m).length:=by
   rw [← sr]
   exact vc.lt x (List.mem_iff_getElem?.2 ⟨t,t3⟩)
  have less:=rows_srt (q:=a.q.toNat) (m:=m.toNat) (B:=a.B) q3 t5 hx
  have lessA:=bl_asym less
  rw [bfr_at (t:=t) (x:=stW ((a.rows m).getD x [])) (y:=stW ((a.rows m).getD y [])) (fun u hu => by
   unfold rT2
   simp only [List.getElem?_map,t2 u hu]) ?_ ?_ ?_]
  ·exact lessA
  ·unfold rT2
   rw [List.getElem?_map,List.getElem?_map,t3]; rfl
  ·unfold rT2
   rw [List.getElem?_map,List.getElem?_map,t4]; rfl
  ·intro e
   have less' : Op.bytesLess (stW ((a.rows m).getD y [])) (stW ((a.rows m).getD x [])) = zT:=less
   rw [e,bl_irr] at less'
   cases less'
def c17_o99 : CCode:=(.seq c17_o21 (.seq c17_o22 (.seq (.seq c17_o23 (.cond (.s [zT,zT,zT,zT,zT,zF]) (.seq c17_o24 .ret) .skip)) (.seq c17_o25 (.seq (.seq c17_o26 (.cond (.s [zT,zT,zF,zT,zT,zF,zF]) (.seq c17_o27 .ret) .skip)) (.seq (.seq c17_o28 (.cond (.s [zT,zF,zT,zT,zT,zF,zF]) (.seq c17_o29 .ret) .skip)) (.seq c17_o30 (.seq (.seq c17_o31 (.cond (.s [zT,zT,zF,zF,zF,zF,zT]) (.seq c17_o32 .ret) .skip)) (.seq c17_o33 (.seq c17_o34 .ret))))))))))
section
variable {a : AR} {m n b p : Nat} {z : AV} {m0 n0 k0 : Int} {Wt : List (List (List Int))}
set_option maxHeartbeats 4000000 in
theorem c17_tl_ok (J : CallF) (K : KnWg J) {H : Heap} (o : OkR a H) (rm : a.rm (m : Nat) = zT) (n1 : 1 ≤ n) (n9 : n ≤ 10) (t : WT H z Wt) (w : wtB a.q.toNat Wt = zT) (hm : (Wt.getD 0 []).length = m) (hn : Wt.length = n) (big : ∀ M ∈ Wt,M.length ≤ 1000000 ∧ ∀ l ∈ M,l.length ≤ 1000000) (gb : H.get b = .cells 0 3 [G m0,G n0,G k0]) (gp : H.get p = .cells 0 3 [G a.q,a.x,a.y]) :
  Tr tbl J c17_o99 (fun s h => h = H ∧ s.get [zT,zF] = .ptr b 0 3 ∧ s.get [zF,zF,zF] = .ptr p 0 3 ∧ s.get [zT,zF,zF] = G m ∧ s.get [zF,zT,zF] = G n ∧ s.get [zT,zT,zF] = z) .ret (fun s h => s.get [zT,zT] = .bool zT):=by
 obtain ⟨r1,r2⟩:=a.rm_iff rm
 have q3:=a.q3 r1
 have qn : ((a.q.toNat : Nat) : Int) = a.q:=by omega
 have va : a.v = .agg [G a.q,a.x,a.y]:=rfl
 have gd : a.gd (m : Nat) (n : Nat) 0 = zT:=by
  unfold AR.gd
  rw [rm,decide_eq_true (by omega)]; rfl
 obtain ⟨v51,own51,e51,_,p2⟩:=K.k51 H ⟨a,z,Wt⟩ ⟨o,t,by show Wt.length ≤ _; omega,big⟩
 simp only at e51 p2
 have p2:=p2 (by unfold okB; rw [r1,w]; rfl) m _ _ _ hm rfl rfl rfl
 rw [hn] at p2
 have e21:=fun H' (k : Kp (fun _ => False) H H') => K.k21 H' a (m : Nat) (n : Nat) (o.kp k)
 have cv : a.cntV (m : Nat) (n : Nat) = if okC (a.steps (m : Nat)) n then .tup [G (a.cn (m : Nat) n),G 0] else .tup [G 0,G 5]:=by
  unfold AR.cntV
  rw [if_pos gd,Int.toNat_natCast]
 have cn : a.cn (m : Nat) n = (rowC (a.steps (m : Nat)) (n - 1)).sum:=by
  unfold AR.cn
  rw [if_neg (by omega)]
 rw [cv,va] at e21
 have k23:=K.k23
 obtain ⟨os,s243,sr⟩:=AR.steps_ok rm
 have hs : Srt (a.steps (m : Nat)):=srt_st _ _
 rw [va] at e51
 cases hb : bO (gv (a.steps (m : Nat)) (uZ Wt (a.rows (m : Nat)) n m) (n - 1)) none (List.range (a.steps (m : Nat)).length) with
 | none =>
  obtain ⟨rfl,rfl⟩:=p2.1 hb
  obtain ⟨c1,c2⟩:=none_cnt hs s243 n1 n9 hb
  have e21:=e21 H (Kp.refl _)
  rw [c1,if_pos rfl,cn,c2] at e21
  have e21 : J 21 [.agg [G a.q,a.x,a.y],G m,G n] H = some (.tup [G 0,G 0],[],zF):=e21
  clear K o t w big p2 os s243 sr hs hb cv cn
  unfold c17_o99
  refine Tr.w fun s1 H1 hp _ kR => ?_
  obtain ⟨rfl,q⟩:=hp
  refine zCh ?_
  simp (disch:=omega) [c17_o21,zG,q,gp,e51]
  refine zCh ?_
  simp (disch:=omega) [c17_o22,zG,q,gp,e21]
  refine W.assoc ?_
  refine zCh ?_
  simp (disch:=omega) [c17_o23,zG,q]
  refine zCh ?_
  simp (disch:=omega) [c17_o24,zG,q,k23]
  exact kR _ _ (by simp [T.get])
 | some pr =>
  obtain ⟨c,sv⟩:=pr
  obtain ⟨x1,rfl,_,rv1⟩:=p2.2 c sv hb
  have pos:=some_cnt hb
  rw [← cn] at pos
  obtain ⟨Hd,hd⟩ : ∃ H',H.plus own51 = H':=⟨_,rfl⟩
  have kd : Kp (fun _ => False) H Hd:=by rw [← hd]; exact Kp.plus _ _
  rw [hd] at rv1
  have od:=o.kp kd
  have nwr : nwL (a.steps (m : Nat)) (-1) = List.range (a.steps (m : Nat)).length:=rfl
  obtain ⟨n',rfl⟩ : ∃ n',n = n' + 1:=⟨n - 1,by omega⟩
  have hb':=hb
  rw [Nat.add_sub_cancel,← nwr] at hb'
  have vc:=bP_vc hs hb'
  have brP:=bP_br hb'
  have best:=fun {P'} {c'} (v : VC (a.steps (m : Nat)) (-1) (c' :: P')) => bP_best (u:=uZ Wt (a.rows (m : Nat)) (n' + 1) m) hs v
  have lP:=bP_len (a.steps (m : Nat)) (uZ Wt (a.rows (m : Nat)) (n' + 1) m) (n' + 1) (nwL (a.steps (m : Nat)) (-1))
  rw [← nwr] at rv1
  obtain ⟨P,hP⟩ : ∃ P,bP (a.steps (m : Nat)) (uZ Wt (a.rows (m : Nat)) (n' + 1) m) (n' + 1) (nwL (a.steps (m : Nat)) (-1)) = P:=⟨_,rfl⟩
  rw [hP] at vc brP lP rv1
  obtain ⟨wn,sm⟩:=t.wn w hm (by omega)
  rw [hn] at wn sm
  have told : ∀ {Q : List Nat} {x : AV} {H' : Heap},Kp (fun _ => False) H H' → VC (a.steps (m : Nat)) (-1) Q → Q.length = n' + 1 → RV H' x (wsL (rT2 (a.rows (m : Nat)) Q)) → ∃ bx vx wl w0,x = .slice bx 0 (n' + 1) vx ∧ H'.get bx = .cells 1 vx wl ∧ wl = ss ((rT2 (a.rows (m : Nat)) Q).map stW) ∧ wl.length = n' + 1 ∧ wl[0]? = some (.str w0) ∧ w0.length = m ∧ J 39 [.agg [G a.q,a.x,a.y],x] H' = some (.bool zT,[],zF) ∧ J 55 [z,x] H' = some (G (br (uZ Wt (a.rows (m : Nat)) (n' + 1) m) Q),[],zF):=fun {Q x H'} k vcQ lQ rv => by
   obtain ⟨s1,s2,s3⟩:=isS_rows rm vcQ (by omega) (by omega)
   obtain ⟨kp,wd⟩:=vc_ok rm vcQ
   have l2 : (rT2 (a.rows (m : Nat)) Q).length = n' + 1:=by unfold rT2; rw [List.length_map,lQ]
   have sx:=rv.sl
   rw [wsL_len,l2] at sx
   obtain ⟨bi,vi,rfl⟩:=sx.resolve_left (fun e => by omega)
   have gi : H'.get bi = .cells 1 vi (wsL (rT2 (a.rows (m : Nat)) Q)):=by
    rcases rv with ⟨e,_⟩ | ⟨b',v',e,g⟩
    ·cases e
    ·rw [AV.slice.injEq] at e
     obtain ⟨rfl,_,_,rfl⟩:=e
     exact g
   have e0:=wsL_at (R:=rT2 (a.rows (m : Nat)) Q) (i:=0) (by omega)
   rw [r1,Bool.true_and] at s1
   have e39:=K.k39 H' a.q.toNat a.x a.y (.slice bi 0 (n' + 1) vi) ((rT2 (a.rows (m : Nat)) Q).map stW) (by omega) (by rw [← ws_ss]; exact rv) (by rw [List.length_map,l2]; omega) (fun s hs' => by
    obtain ⟨w,hw,rfl⟩:=List.mem_map.1 hs'
    rw [stW_len,(wd w hw).1]; omega)
   rw [qn,s1] at e39
   have lt : ∀ c ∈ Q,c < (a.rows (m : Nat)).length:=fun c hc => by rw [← sr]; exact vcQ.lt c hc
   have e55:=K.k55 H' ⟨z,.slice bi 0 (n' + 1) vi,n' + 1,m,a.q.toNat,Wt,rT2 (a.rows (m : Nat)) Q⟩ ⟨wn.kp k,sm,rv,l2,fun w hw => by
    have:=wd w hw
    exact ⟨by rw [this.1,Int.toNat_natCast],this.2⟩,by show a.q.toNat ≤ 3; omega,by show m ≤ 5; omega,by show 1 ≤ n' + 1; omega,by show n' + 1 ≤ 40; omega⟩
   simp only at e55
   have eb:=brW_br (Wt:=Wt) (m:=m) (R:=a.rows (m : Nat)) lQ lt (n' + 1) (Nat.le_refl _)
   rw [List.drop_eq_nil_of_le (by omega)] at eb
   have e0b : br (uZ Wt (a.rows (m : Nat)) (n' + 1) m) [] = 0:=rfl
   rw [e0b,Int.add_zero] at eb
   rw [eb] at e55
   refine ⟨bi,vi,_,_,rfl,gi,ws_ss _,by rw [wsL_len,l2],e0,?_,e39,e55⟩
   rw [stW_len]
   have:=(wd _ (gDm (d:=[]) (show 0 < (rT2 (a.rows (m : Nat)) Q).length by omega))).1
   rw [Int.toNat_natCast] at this
   exact this
  obtain ⟨b1,v1,wl1,w1,rfl,g1,hwl1,lw1,f1,lf1,e39,e55⟩:=told kd vc lP rv1
  rw [brP] at e55
  have f1':=getI f1
  have e45:=keeps_call K.k45 rm od vc (by omega) (by omega) rv1
  rw [va] at e45
  have gpd:=kd.at gp (by simp) id
  have gbd:=kd.at gb (by simp) id
  have f21:=e21 Hd kd
  clear e21
  cases hk : okC (a.steps (m : Nat)) (n' + 1)
  ·rw [hk,if_neg (by simp)] at f21
   have nn : ((n' + 1 : Nat) : Int) = (n' : Int) + 1:=by omega
   rw [nn] at f21
   clear K o od t w big p2 os s243 sr hs hb hb' cv cn told wn sm rv1 vc best brP lP hP hwl1 pos kd rm gd
   unfold c17_o99
   refine Tr.w fun s1 H1 hp _ kR => ?_
   obtain ⟨rfl,q⟩:=hp
   rw [nn] at q
   refine zCh ?_
   simp (disch:=omega) [c17_o21,zG,q,gp,e51,app_if,app_if',hd]
   refine zCh ?_
   simp (disch:=omega) [c17_o22,zG,q,gpd,f21]
   refine W.assoc ?_
   refine zCh ?_
   simp (disch:=omega) [c17_o23,zG,q]
   refine zCh ?_
   simp (disch:=omega) [c17_o24,zG,q]
   refine zCh ?_
   simp (disch:=omega) [c17_o25,zG,q,gpd,e45]
   refine W.assoc ?_
   refine zCh ?_
   simp (disch:=omega) [c17_o26,zG,q,gpd,g1,lw1,f1,f1',lf1,e39,e55]
   refine zCh ?_
   simp (disch:=omega) [c17_o27,zG,q]
   refine W.assoc ?_
   refine zCh ?_
   simp (disch:=omega) [c17_o28,zG,q]
   refine zCh ?_
   simp (disch:=omega) [c17_o29,zG,q,k23]
   exact kR _ _ (by simp [T.get])
  ·rw [hk,if_pos rfl] at f21
   have bc:=okC_iff.1 hk n' (by omega)
   rw [Nat.add_sub_cancel] at cn
   rw [← cn] at bc
   have itR : ∀ kn : Nat,a.itR (m : Nat) (n' + 1) kn = rT2 (a.rows (m : Nat)) (itm (a.steps (m : Nat)) (n' + 1) (nwL (a.steps (m : Nat)) (-1)) kn):=fun _ => rfl
   have hsum : ((nwL (a.steps (m : Nat)) (-1)).map (cnt (a.steps (m : Nat)) (n' + 1 - 1))).sum = a.cn (m : Nat) (n' + 1):=by
    rw [nwr,Nat.add_sub_cancel,cn]; rfl
   have b3:=mdZ_bd k0 (n:=(a.cn (m : Nat) (n' + 1) : Nat)) (by omega)
   have e19k:=K.k19 k0 (a.cn (m : Nat) (n' + 1) : Nat) Hd (by omega) (by omega)
   generalize mdZ k0 (a.cn (m : Nat) (n' + 1) : Nat) = zk at *
   obtain ⟨kn,hkn⟩ : ∃ kn : Nat,zk = kn:=⟨zk.toNat,by omega⟩
   subst hkn
   obtain ⟨v32,own32,e32,_,_,_,p4⟩:=K.k32 Hd a (m : Nat) (n' + 1 : Nat) kn od
   obtain ⟨x2,rfl,rv2⟩:=p4 gd (by rw [Int.toNat_natCast]; exact hk) ⟨by omega,by rw [Int.toNat_natCast]; omega⟩
   rw [Int.toNat_natCast,Int.toNat_natCast,itR] at rv2
   obtain ⟨_,vc2⟩:=ix_itm hs (j:=n' + 1) (now:=-1) (k:=kn) (.inl ⟨by omega,by rw [hsum]; omega⟩)
   have li:=itm_len (a.steps (m : Nat)) (n' + 1) (nwL (a.steps (m : Nat)) (-1)) kn
   obtain ⟨P2,hP2⟩ : ∃ P,itm (a.steps (m : Nat)) (n' + 1) (nwL (a.steps (m : Nat)) (-1)) kn = P:=⟨_,rfl⟩
   rw [hP2] at rv2 vc2 li
   obtain ⟨He,he⟩ : ∃ H',Hd.plus own32 = H':=⟨_,rfl⟩
   have ke : Kp (fun _ => False) Hd He:=by rw [← he]; exact Kp.plus _ _
   rw [he] at rv2
   obtain ⟨b2,v2,wl2,w2,rfl,g2,hwl2,lw2,f2,lf2,e39e,e55e⟩:=told (kd.trans ke) vc2 li rv2
   have f2':=getI f2
   have gpe:=ke.at gpd (by simp) id
   have g1e:=ke.at g1 (by simp) id
   have cmp : br (uZ Wt (a.rows (m : Nat)) (n' + 1) m) P2 ≤ sv ∧ (br (uZ Wt (a.rows (m : Nat)) (n' + 1) m) P2 = sv → bfr ((rT2 (a.rows (m : Nat)) P2).map stW) ((rT2 (a.rows (m : Nat)) P).map stW) = zF):=by
    cases hP2' : P2 with
    | nil => rw [hP2'] at li; simp at li
    | cons c2 P3 =>
     rw [hP2'] at vc2 li
     have l3 : P3.length = n':=by simpa using li
     obtain ⟨c3,nn,i1,i2,i3⟩:=best vc2
     rw [l3] at i1 i3
     rw [hb'] at i1
     obtain ⟨rfl,rfl⟩:=Prod.mk.inj (Option.some.inj i1)
     refine ⟨i2,fun e => bfr_best rm vc2 ?_⟩
     rw [hP] at i3
     rcases i3 e with h | ⟨t,t1,t2⟩
     ·exact .inl h
     ·exact .inr ⟨t,by rw [li]; exact t1,t2⟩
   have e54 : J 54 [.slice b2 0 (n' + 1) v2,.slice b1 0 (n' + 1) v1] He = some (.bool (bfr ((rT2 (a.rows (m : Nat)) P2).map stW) ((rT2 (a.rows (m : Nat)) P).map stW)),[],zF):=K.k54 He ⟨_,_,b2,v2,b1,v1,n' + 1⟩ ⟨by rw [← hwl2]; exact g2,by rw [← hwl1]; exact g1e,by
    have:=congrArg List.length hwl2
    rw [lw2] at this; simpa using this.symm,by
    have:=congrArg List.length hwl1
    rw [lw1] at this; simpa using this.symm,by show n' + 1 ≤ _; omega⟩
   have nn : ((n' + 1 : Nat) : Int) = (n' : Int) + 1:=by omega
   rw [va] at e32
   rw [nn] at f21 e32
   have al1 : ¬ ((a.cn (m : Nat) (n' + 1) : Nat) : Int) < 1:=by omega
   have al2 : ¬ a.cn (m : Nat) (n' + 1) < 1:=by omega
   obtain ⟨cm1,cm2⟩:=cmp
   clear K o od t w big p2 os s243 sr hs hb hb' cv cn told wn sm rv1 vc best brP lP hP hwl1 hwl2 pos kd ke rm gd p4 rv2 vc2 itR hsum hP2 li b3 bc
   generalize a.cn (m : Nat) (n' + 1) = all at *
   generalize br (uZ Wt (a.rows (m : Nat)) (n' + 1) m) P2 = gg at *
   unfold c17_o99
   by_cases lt : gg < sv
   ·clear cm1 cm2
    refine Tr.w fun s1 H1 hp _ kR => ?_
    obtain ⟨rfl,q⟩:=hp
    rw [nn] at q
    refine zCh ?_
    simp (disch:=omega) [c17_o21,zG,q,gp,e51,app_if,app_if',hd]
    refine zCh ?_
    simp (disch:=omega) [c17_o22,zG,q,gpd,f21]
    refine W.assoc ?_
    refine zCh ?_
    simp (disch:=omega) [c17_o23,zG,q]
    refine zCh ?_
    simp (disch:=omega) [c17_o24,zG,q]
    refine zCh ?_
    simp (disch:=omega) [c17_o25,zG,q,gpd,e45]
    refine W.assoc ?_
    refine zCh ?_
    simp (disch:=omega) [c17_o26,zG,q,gpd,g1,lw1,f1,f1',lf1,e39,e55,al1,al2]
    refine zCh ?_
    simp (disch:=omega) [c17_o27,zG,q]
    refine W.assoc ?_
    refine zCh ?_
    simp (disch:=omega) [c17_o28,zG,q]
    refine zCh ?_
    simp (disch:=omega) [c17_o29,zG,q]
    refine zCh ?_
    simp (disch:=omega) [-evDraw_c,-Eff.isAll,c17_o30,zG,q,evDraw_0,gpd,gbd,e19k,e32,app_if,app_if',he,own_all,isAll_none]
    refine W.assoc ?_
    refine zCh ?_
    simp (disch:=omega) [c17_o31,zG,q,gpe,g2,lw2,f2,f2',lf2,e39e]
    refine zCh ?_
    simp (disch:=omega) [c17_o32,zG,q]
    refine zCh ?_
    simp (disch:=omega) [c17_o33,zG,q,e55e]
    refine zCh ?_
    simp (disch:=omega) [c17_o34,zG,q,lt,k23]
    refine W.ret ?_
    try simp only [zW,if_true]
    exact kR _ _ (by simp [T.get])
   ·have eq : gg = sv:=by omega
    subst eq
    rw [cm2 rfl] at e54
    clear cm1 cm2
    refine Tr.w fun s1 H1 hp _ kR => ?_
    obtain ⟨rfl,q⟩:=hp
    rw [nn] at q
    refine zCh ?_
    simp (disch:=omega) [c17_o21,zG,q,gp,e51,app_if,app_if',hd]
    refine zCh ?_
    simp (disch:=omega) [c17_o22,zG,q,gpd,f21]
    refine W.assoc ?_
    refine zCh ?_
    simp (disch:=omega) [c17_o23,zG,q]
    refine zCh ?_
    simp (disch:=omega) [c17_o24,zG,q]
    refine zCh ?_
    simp (disch:=omega) [c17_o25,zG,q,gpd,e45]
    refine W.assoc ?_
    refine zCh ?_
    simp (disch:=omega) [c17_o26,zG,q,gpd,g1,lw1,f1,f1',lf1,e39,e55,al1,al2]
    refine zCh ?_
    simp (disch:=omega) [c17_o27,zG,q]
    refine W.assoc ?_
    refine zCh ?_
    simp (disch:=omega) [c17_o28,zG,q]
    refine zCh ?_
    simp (disch:=omega) [c17_o29,zG,q]
    refine zCh ?_
    simp (disch:=omega) [-evDraw_c,-Eff.isAll,c17_o30,zG,q,evDraw_0,gpd,gbd,e19k,e32,app_if,app_if',he,own_all,isAll_none]
    refine W.assoc ?_
    refine zCh ?_
    simp (disch:=omega) [c17_o31,zG,q,gpe,g2,lw2,f2,f2',lf2,e39e]
    refine zCh ?_
    simp (disch:=omega) [c17_o32,zG,q]
    refine zCh ?_
    simp (disch:=omega) [c17_o33,zG,q,e55e]
    refine zCh ?_
    simp (disch:=omega) [c17_o34,zG,q,lt,e54,k23]
    refine W.ret ?_
    try simp only [zW,if_true]
    exact kR _ _ (by simp [T.get])
end
section
variable {nq m0 n0 k0 : Int} {X Y : List (List Int)} {l : List Int}
set_option maxHeartbeats 2000000 in
theorem c17_ok (J : CallF) (K : KnWg J) (hJ : ∀ a h,J 17 a h = none) (h : Heap) {x y x2 : AV} (mx : MR h x X) (my : MR h y Y) (mz : LR h x2 l) : CallsTo tbl J 17 [.agg [G nq,x,y],.agg [G m0,G n0,G k0],x2] h (.bool zT,[],zF):=by
 refine Tr.fnv (cf:=c17) (e:=.ret) (s:=T.set (T.set (T.set .leaf [] (.agg [G nq,x,y])) [zF] (.agg [G m0,G n0,G k0])) [zT] x2) (by decide) rfl (hJ _ _) rfl rfl rfl (by simp) ?_
 refine Tr.post (Q:=(fun s h => s.get [zT,zT] = .bool zT)) (fun s h q => by simp [c17,q]) ?_
 have mx0 : MR (frameOf h) x X:=mx.lo []
 have my0 : MR (frameOf h) y Y:=my.lo []
 have mz0 : LR (frameOf h) x2 l:=by
  rcases mz with e | e
  ·rcases listOf_some e with ⟨rfl,rfl⟩ | ⟨b,v,rfl,g⟩
   ·exact .inl rfl
   ·refine .inl (listOf_cells (v:=v) ?_ rfl)
    unfold frameOf
    rw [get_mk_lt _ _ _ _ (get_lt g (by simp))]; exact g
  ·exact .inr e
 generalize frameOf h = H0 at *
 obtain ⟨Hr,hr⟩ : ∃ H,H0.plus [.cells 0 3 [G nq,x,y]] = H:=⟨_,rfl⟩
 have kr : Kp (fun _ => False) H0 Hr:=by rw [← hr]; exact Kp.plus _ _
 have gS0 : Hr.get H0.size = .cells 0 3 [G nq,x,y]:=by rw [← hr]; exact plus_at0 _ _ _ _ rfl
 obtain ⟨Ha,ha⟩ : ∃ H,Hr.plus [.cells 0 3 [G m0,G n0,G k0]] = H:=⟨_,rfl⟩
 have ka : Kp (fun _ => False) Hr Ha:=by rw [← ha]; exact Kp.plus _ _
 have gS:=ka.at gS0 (by simp) id
 have gA0 : Ha.get Hr.size = .cells 0 3 [G m0,G n0,G k0]:=by rw [← ha]; exact plus_at0 _ _ _ _ rfl
 obtain ⟨v,own1,e18,n,x1,y1,B,Wt0,rfl,hn,⟨t1,hB⟩,t2,hW⟩:=K.k18 Ha ⟨nq,x,y,X,Y⟩ ⟨(mx0.kp kr).kp ka,(my0.kp kr).kp ka⟩
 simp only at e18
 obtain ⟨Hb,hb⟩ : ∃ H,Ha.plus own1 = H:=⟨_,rfl⟩
 have kb : Kp (fun _ => False) Ha Hb:=by rw [← hb]; exact Kp.plus _ _
 rw [hb] at t1 t2
 obtain ⟨Hc,hc⟩ : ∃ H,Hb.plus [.cells 0 3 [G n,x1,y1]] = H:=⟨_,rfl⟩
 have kc : Kp (fun _ => False) Hb Hc:=by rw [← hc]; exact Kp.plus _ _
 have gc : Hc.get Hb.size = .cells 0 3 [G n,x1,y1]:=by rw [← hc]; exact plus_at0 _ _ _ _ rfl
 have gA:=(kb.trans kc).at gA0 (by simp) id
 obtain ⟨sB,sB1,sB2⟩:=tabQ_small hB hn.2
 obtain ⟨sW,sW1,sW2⟩:=tabQ_small hW hn.2
 have oa : OkR (AR.of n x1 y1 B Wt0) Hc:=⟨(t1.kp kc).mr,(t2.kp kc).mr,sB,sW⟩
 have b1:=mdZ_bd m0 (n:=5) (by omega)
 have b2:=mdZ_bd n0 (n:=10) (by omega)
 have e19:=K.k19 m0 5 Hc (by omega) (by omega)
 have e19':=K.k19 n0 10 Hc (by omega) (by omega)
 generalize mdZ m0 5 = zm at *
 generalize mdZ n0 10 = zn at *
 obtain ⟨M,hM⟩ : ∃ M : Nat,zm = M:=⟨zm.toNat,by omega⟩
 obtain ⟨N,hN⟩ : ∃ N : Nat,zn = N:=⟨zn.toNat,by omega⟩
 subst hM; subst hN
 have rm : (AR.of n x1 y1 B Wt0).rm (M + 1 : Nat) = zT:=by
  unfold AR.rm
  rw [ru_of hn hB hW,decide_eq_true (by omega)]; rfl
 have a1 : ((M + 1 : Nat) : Int) = 1 + (M : Int):=by omega
 have a2 : ((N + 1 : Nat) : Int) = 1 + (N : Int):=by omega
 have l2:=c17_l2_ok (m:=M + 1) (n:=N + 1) (b:=Hr.size) J K.k19 ((((mz0.kp kr).kp ka).kp kb).kp kc) gc hn.1 hn.2 (by omega) (by omega)
 have tail : ∀ {z : AV} {Wt : List (List (List Int))} {H : Heap},TW Hc H z Wt ∧ Wt.length = N + 1 ∧ (∀ M' ∈ Wt,M'.length = M + 1 ∧ ∀ r ∈ M',r.length = n ∧ r.all smB = zT) → Tr tbl J c17_o99 (fun s h => h = H ∧ s.get [zT,zF] = .ptr Hr.size 0 3 ∧ s.get [zF,zF,zF] = .ptr Hb.size 0 3 ∧ s.get [zT,zF,zF] = G (M + 1 : Nat) ∧ s.get [zF,zT,zF] = G (N + 1 : Nat) ∧ s.get [zT,zT,zF] = z) .ret (fun s h => s.get [zT,zT] = .bool zT):=fun {z Wt H} ⟨tw,lW,hWt⟩ => by
  obtain ⟨w1,w2⟩:=wtB_of lW hWt (by omega) (by omega) (by omega) (by omega)
  exact c17_tl_ok (a:=AR.of n x1 y1 B Wt0) (m0:=m0) (n0:=n0) (k0:=k0) J K (oa.kp tw.k) rm (by omega) (by omega) tw.wt w1 w2 lW (fun M' hM' => ⟨by rw [(hWt M' hM').1]; omega,fun r hr => by rw [((hWt M' hM').2 r hr).1]; omega⟩) (tw.k.at gA (by simp) id) (tw.k.at gc (by simp) id)
 rw [a1,a2] at l2
 simp only [a1,a2] at tail
 clear K mx my mz mx0 my0 mz0 t1 t2 oa kr ka kb kc sB sB1 sB2 sW sW1 sW2 rm hB hW gA0 gS0 hn
 refine Tr.w fun s1 H1 hp _ kR => ?_
 obtain ⟨rfl,rfl⟩:=hp
 have q : True:=trivial
 refine zCh ?_
 simp (disch:=omega) [c17_o0,zG,q,hr,ha]
 refine zCh ?_
 simp (disch:=first|omega|exact zE rfl|exact zO|exact zL rfl) [c17_o1,zG,q,gS,e18,app_if,app_if',hb,hc]
 refine zCh ?_
 simp (disch:=omega) [-evDraw_c,c17_o2,zG,q,evDraw_0,gA,e19,e19']
 refine zCh ?_
 simp (disch:=omega) [c17_o3,zG,q]
 refine zCh ?_
 simp (disch:=omega) [c17_o4,zG,q]
 refine W.assoc ?_
 refine zCh ?_
 simp (disch:=omega) [c17_o5,zG,q]
 refine W.seq (W.block ?_)
 refine W.use (l2) (by simp (disch:=omega) [zG,q]) fun s1 H1 hp => ?_
 obtain ⟨z,Wt,fl,q⟩:=hp
 try simp only [zW,if_true]
 have tl:=tail fl
 refine W.use (tl) (by simp (disch:=omega) [zG,q]) fun s1 H1 hp => ?_
 try simp only [zW,if_true]
 exact kR _ _ hp
end
noncomputable def T94 : CallF:=addI T93 55 (U55 55)
theorem t94 : Sound zp T94:=Sound.put t93 u55 55
theorem kWg94 : KnWg T94 where
 k18:=fun h a o => by
  obtain ⟨v,own,e,l⟩:=k18 h a o
  exact ⟨v,own,by rw [show T94 18 [.agg [G a.q,a.x,a.y]] h = T49 18 [.agg [G a.q,a.x,a.y]] h from by simp (disch:=decide) only [T50,T51,T52,T53,T54,T55,T56,T57,T58,T59,T60,T61,T62,T63,T64,T65,T66,T67,T68,T69,T70,T71,T72,T73,T74,T75,T76,T77,T78,T79,T80,T81,T82,T83,T84,T85,T86,T87,T88,T89,T90,T91,T92,T93,T94,addI_ne,addX_ne,addV_ne,addK_ne,addC_ne]]; exact e,l⟩
 k19:=fun x n h h1 h2 => by
  rw [show T94 19 [G x,G n] h = T48 19 [G x,G n] h from by simp (disch:=decide) only [T49,T50,T51,T52,T53,T54,T55,T56,T57,T58,T59,T60,T61,T62,T63,T64,T65,T66,T67,T68,T69,T70,T71,T72,T73,T74,T75,T76,T77,T78,T79,T80,T81,T82,T83,T84,T85,T86,T87,T88,T89,T90,T91,T92,T93,T94,addI_ne,addX_ne,addV_ne,addK_ne,addC_ne]]; exact k19_48 x n h h1 h2
 k21:=fun h a m n o => by
  rw [show T94 21 [a.v,G m,G n] h = T39 21 [a.v,G m,G n] h from by simp (disch:=decide) only [T40,T41,T42,T43,T44,T45,T46,T47,T48,T49,T50,T51,T52,T53,T54,T55,T56,T57,T58,T59,T60,T61,T62,T63,T64,T65,T66,T67,T68,T69,T70,T71,T72,T73,T74,T75,T76,T77,T78,T79,T80,T81,T82,T83,T84,T85,T86,T87,T88,T89,T90,T91,T92,T93,T94,addI_ne,addX_ne,addV_ne,addK_ne,addC_ne]]; exact k21 h a m n o
 k32:=fun h a m n k o => by
  obtain ⟨v,own,e,l⟩:=k32 h a m n k o
  exact ⟨v,own,by rw [show T94 32 [a.v,G m,G n,G k] h = T50 32 [a.v,G m,G n,G k] h from by simp (disch:=decide) only [T51,T52,T53,T54,T55,T56,T57,T58,T59,T60,T61,T62,T63,T64,T65,T66,T67,T68,T69,T70,T71,T72,T73,T74,T75,T76,T77,T78,T79,T80,T81,T82,T83,T84,T85,T86,T87,T88,T89,T90,T91,T92,T93,T94,addI_ne,addX_ne,addV_ne,addK_ne,addC_ne]]; exact e,l⟩
 k39:=fun h qq x y z L h1 h2 h3 h4 => by
  rw [show T94 39 [.agg [G qq,x,y],z] h = T80 39 [.agg [G qq,x,y],z] h from by simp (disch:=decide) only [T81,T82,T83,T84,T85,T86,T87,T88,T89,T90,T91,T92,T93,T94,addI_ne,addX_ne,addV_ne,addK_ne,addC_ne]]; exact k39g h qq x y z L h1 h2 h3 h4
 k45:=fun h b o => by
  obtain ⟨v,own,e,l⟩:=k45 h b o
  exact ⟨v,own,by rw [show T94 45 [b.a.v,b.x] h = T69 45 [b.a.v,b.x] h from by simp (disch:=decide) only [T70,T71,T72,T73,T74,T75,T76,T77,T78,T79,T80,T81,T82,T83,T84,T85,T86,T87,T88,T89,T90,T91,T92,T93,T94,addI_ne,addX_ne,addV_ne,addK_ne,addC_ne]]; exact e,l⟩
 k51:=fun h b o => by
  obtain ⟨v,own,e,l⟩:=k51 h b o
  exact ⟨v,own,by rw [show T94 51 [b.a.v,b.x] h = T89 51 [b.a.v,b.x] h from by simp (disch:=decide) only [T90,T91,T92,T93,T94,addI_ne,addX_ne,addV_ne,addK_ne,addC_ne]]; exact e,l⟩
 k54:=fun h a o => by
  rw [show T94 54 [.slice a.b1 0 a.n a.v1,.slice a.b2 0 a.n a.v2] h = T71 54 [.slice a.b1 0 a.n a.v1,.slice a.b2 0 a.n a.v2] h from by simp (disch:=decide) only [T72,T73,T74,T75,T76,T77,T78,T79,T80,T81,T82,T83,T84,T85,T86,T87,T88,T89,T90,T91,T92,T93,T94,addI_ne,addX_ne,addV_ne,addK_ne,addC_ne]]; exact k54 h a o
 k55:=fun h b o => (addI_eq _ _ _ _ _).trans (k55u h b o)
 k23:=fun h => by
  rw [show T94 23 [] h = T2 23 [] h from by simp (disch:=decide) only [T3,T4,T5,T6,T7,T8,T9,T10,T11,T12,T13,T14,T15,T16,T17,T18,T19,T20,T21,T22,T23,T24,T25,T26,T27,T28,T29,T30,T31,T32,T33,T34,T35,T36,T37,T38,T39,T40,T41,T42,T43,T44,T45,T46,T47,T48,T49,T50,T51,T52,T53,T54,T55,T56,T57,T58,T59,T60,T61,T62,T63,T64,T65,T66,T67,T68,T69,T70,T71,T72,T73,T74,T75,T76,T77,T78,T79,T80,T81,T82,T83,T84,T85,T86,T87,T88,T89,T90,T91,T92,T93,T94,addI_ne,addX_ne,addV_ne,addK_ne,addC_ne]]; exact k23 h
theorem stripWeighed_ok (h : Heap) (m n k : Int) {nq : Int} {x y z : AV} {B W : List (List Int)} {l : List Int} (mx : MR h x B) (my : MR h y W) (mz : LR h z l) : CallsTo tbl T94 17 [.agg [G nq,x,y],.agg [G m,G n,G k],z] h (.bool zT,[],zF):=c17_ok T94 kWg94 (fun _ _ => by simp (disch:=decide) only [T1,T2,T3,T4,T5,T6,T7,T8,T9,T10,T11,T12,T13,T14,T15,T16,T17,T18,T19,T20,T21,T22,T23,T24,T25,T26,T27,T28,T29,T30,T31,T32,T33,T34,T35,T36,T37,T38,T39,T40,T41,T42,T43,T44,T45,T46,T47,T48,T49,T50,T51,T52,T53,T54,T55,T56,T57,T58,T59,T60,T61,T62,T63,T64,T65,T66,T67,T68,T69,T70,T71,T72,T73,T74,T75,T76,T77,T78,T79,T80,T81,T82,T83,T84,T85,T86,T87,T88,T89,T90,T91,T92,T93,T94,addI_ne,addX_ne,addV_ne,addK_ne,addC_ne]; rfl) h mx my mz
end Go.Proofs.Ytljgfdamdcikgaa.Ev
namespace Go.AEv
open Go.ChangeShapes Go.WideShapes
section
variable {H : Type} {enc : TypeId × Value → H} {P : Program} {k e : TypeId} {q : IntKind} {W : World} {base : Nat} {sp : Nat → Bool} {held : Bool}
theorem okWide_three (A : Go.WideMaps.ArrKey P k e 3) {r : Reach} {b0 : Nat} {v : Value} (h : Value.okWide P W r b0 k v) : ∃ c0 c1 c2,v = .agg #[c0,c1,c2]:=by
 simp only [Value.okWide,A.hu] at h
 obtain ⟨cs,h1,h2,_⟩:=h
 rw [A.size] at h2
 obtain ⟨l⟩:=cs
 match l,h2 with
 | [c0,c1,c2],_ => exact ⟨c0,c1,c2,h1⟩
theorem open_three (A : Go.WideMaps.ArrKey P k e 3) (he : P.underlying e = some (.int q)) {r : Reach} {b0 : Nat} {v : Value} {d : DataW H} {ps : List MemPlace} (hval : Value.okWide P W r b0 k v) (hd : DataW.Trod enc P W base sp held k v d ps) :
  ∃ a b c : Int,v = .agg #[.int q a,.int q b,.int q c] ∧ d = .agg [.lit (.int q a),.lit (.int q b),.lit (.int q c)] ∧ ps = [] ∧ (Lit.int q a).wf = zT ∧ (Lit.int q b).wf = zT ∧ (Lit.int q c).wf = zT:=by
 obtain ⟨c0,c1,c2,rfl⟩:=okWide_three A hval
 obtain ⟨fuel,hf⟩:=hd
 cases fuel with
 | zero => simp [DataW.trod] at hf
 | succ n =>
  rw [DataW.trod_step] at hf
  unfold DataW.trodStep at hf
  simp only [A.hu,Value.cells] at hf
  rw [if_pos (by rw [A.size]; rfl)] at hf
  simp only [Option.map_eq_some_iff] at hf
  obtain ⟨xs,hx,e1⟩:=hf
  rw [show List.range 3 = [0,1,2] from rfl,List.mapM_cons,List.mapM_cons,List.mapM_cons,List.mapM_nil] at hx
  simp only [bind,Option.bind_eq_some_iff,pure,Option.some.injEq,A.one] at hx
  obtain ⟨y0,h0,_,⟨y1,h1,_,⟨y2,h2,_,rfl,rfl⟩,rfl⟩,rfl⟩:=hx
  obtain ⟨a,ea,rfl,wa⟩:=DataW.trod_int he h0
  obtain ⟨b,eb,rfl,wb⟩:=DataW.trod_int he h1
  obtain ⟨c,ec,rfl,wc⟩:=DataW.trod_int he h2
  simp at ea eb ec
  subst ea; subst eb; subst ec
  simp only [Prod.mk.injEq] at e1
  exact ⟨a,b,c,rfl,by rw [← e1.1]; rfl,by rw [← e1.2]; rfl,wa,wb,wc⟩
theorem shut_three (A : Go.WideMaps.ArrKey P k e 3) (he : P.underlying e = some (.int q)) {a b c : Int} (wa : (Lit.int q a).wf = zT) (wb : (Lit.int q b).wf = zT) (wc : (Lit.int q c).wf = zT) :
  DataW.Trod enc P W base sp held k (.agg #[.int q a,.int q b,.int q c]) (.agg [.lit (.int q a),.lit (.int q b),.lit (.int q c)]) [] :=
 ⟨2,by
  show DataW.trod enc P W base sp held (1 + 1) k [.int q a,.int q b,.int q c] = _
  rw [DataW.trod_step]
  unfold DataW.trodStep
  simp only [A.hu]
  rw [if_pos (by rw [A.size]; rfl),show List.range 3 = [0,1,2] from rfl,List.mapM_cons,List.mapM_cons,List.mapM_cons,List.mapM_nil]
  simp [A.one,DataW.trod,he,wa,wb,wc]⟩
end
end Go.AEv
set_option linter.unusedVariables false
set_option linter.unusedSimpArgs false
namespace Go.AEv
open Go.ChangeShapes Go.WideShapes Go.Proofs.Ytljgfdamdcikgaa.Ev
theorem MR.ext {h h' : Heap} (e : Ext h h') {y : AV} {M : List (List Int)} (m : MR h y M) : MR h' y M:=by
 rcases m with m | ⟨b,v,cs,rfl,g,hl,hr⟩
 ·exact .inl m
 ·refine .inr ⟨b,v,cs,rfl,e _ _ g (by simp),hl,fun i r q => ?_⟩
  obtain ⟨l,h1,h2⟩:=hr i r q
  exact ⟨l,h1,LR.ext e h2⟩
theorem rows_lo {CK : CKT} {w : World} {H : Type} {enc : TypeId × Value → H} {P : Program} {e i : TypeId} (he : P.underlying e = some (.slice i)) (hi : P.underlying i = some (.int .i64)) (hc : P.cellsOf i = 1) :
  ∀ (vs : List Value) {φ : Nat → Emb} {h : Heap} (ho : h.own = []) (hr : HR CK w [] φ h w),(∀ u ∈ vs,∃ fuel z,DataW.trod enc P w 0 (fun _ => zT) zT fuel e [u] = some z) →
  ∃ φ' h',∃ (rs : List AV) (ls : List (List Int)),h'.own = [] ∧ HR CK w [] φ' h' w ∧ Stp φ h φ' h' ∧ Ext h h' ∧ rs.length = vs.length ∧ ls.length = vs.length ∧ ∀ (j : Nat) u r,vs[j]? = some u → rs[j]? = some r → VR φ' h' r u ∧ Value.oneCell' u = zT ∧ ∃ l,ls[j]? = some l ∧ LR h' r l
 | [],φ,h,ho,hr,_ => ⟨φ,h,[],[],ho,hr,Stp.refl φ h,Ext.refl h,rfl,rfl,fun j u r q => by simp at q⟩
 | u :: us,φ,h,ho,hr,ht => by
  obtain ⟨fuel,z,hf⟩:=ht u (by simp)
  obtain ⟨φ1,h1,x,l,o1,r1,s1,e1,v1,p1,c1⟩:=ints_lo0 ho hr he hi hc hf
  obtain ⟨φ2,h2,rs,ls,o2,r2,s2,e2,l1,l2,q⟩:=rows_lo he hi hc us o1 r1 (fun u' hu => ht u' (by simp [hu]))
  refine ⟨φ2,h2,x :: rs,l :: ls,o2,r2,s1.trans s2,e1.trans e2,by simp [l1],by simp [l2],fun j u' r hu hr' => ?_⟩
  cases j with
  | zero =>
   simp only [List.getElem?_cons_zero,Option.some.injEq] at hu hr'
   subst hu hr'
   exact ⟨VR.step s2 _ _ v1,c1,l,rfl,p1.ext e2⟩
  | succ j =>
   simp only [List.getElem?_cons_succ] at hu hr' ⊢
   exact q j u' r hu hr'
theorem mat_lo0 {CK : CKT} {φ : Nat → Emb} {h : Heap} {w : World} (ho : h.own = []) (hr : HR CK w [] φ h w) {H : Type} {enc : TypeId × Value → H} {P : Program} {t e i : TypeId} {v : Value} {fuel : Nat} {z : DataW H × List MemPlace}
  (ht : P.underlying t = some (.slice e)) (he : P.underlying e = some (.slice i)) (hi : P.underlying i = some (.int .i64)) (hce : P.cellsOf e = 1) (hci : P.cellsOf i = 1) (hf : DataW.trod enc P w 0 (fun _ => zT) zT fuel t [v] = some z) :
  ∃ φ' h' x M,h'.own = [] ∧ HR CK w [] φ' h' w ∧ Stp φ h φ' h' ∧ Ext h h' ∧ VR φ' h' x v ∧ MR h' x M ∧ Value.oneCell' v = zT:=by
 rcases DataW.trod_slice ht hf with ⟨hcs,_⟩ | ⟨a,len,cap,elems,rest,n,_,hcs,_,_,hl,hm,hlen,hel,hsp,_⟩
 ·have hcs' : v = .slice none 0 0:=(List.cons.inj hcs).1
  rw [hcs']
  exact ⟨φ,h,.nils,[],ho,hr,Stp.refl φ h,Ext.refl h,by simp [VR],.inl ⟨.inl rfl,rfl⟩,rfl⟩
 ·have hcs' : v = .slice (some a) len cap:=(List.cons.inj hcs).1
  rw [hcs']
  by_cases h0 : len = 0
  ·subst h0
   exact ⟨φ,h,.slice0,[],ho,hr,Stp.refl φ h,Ext.refl h,by simp [VR],.inl ⟨.inr rfl,rfl⟩,rfl⟩
  ·obtain ⟨hrl,hre⟩:=hsp rfl
   have each : ∀ j,j < cap → ∃ u,w.cell? (a.add j) = some u ∧ ∃ z,DataW.trod enc P w 0 (fun _ => zT) zT n e [u] = some z:=fun j hj => by
    have hb' : ∃ y,(w.cells? 0 (a.add (j * P.cellsOf e)) (P.cellsOf e)).bind (DataW.trod enc P w 0 (fun _ => zT) zT n e) = some y:=by
     by_cases hjl : j < len
     ·rw [hel j hjl,zq (by omega)]; exact ⟨_,rfl⟩
     ·have:=hre (j - len) (by omega)
      rw [show len + (j - len) = j by omega] at this
      rw [this,zq (by omega)]; exact ⟨_,rfl⟩
    obtain ⟨y,hy⟩:=hb'
    rw [hce,Nat.mul_one,Option.bind_eq_some_iff] at hy
    obtain ⟨cs',h1,h2⟩:=hy
    have hl1:=(World.cells?_some h1).2.1
    obtain ⟨u,rfl⟩ : ∃ u,cs' = [u]:=by
     cases cs' with
     | nil => simp at hl1
     | cons u r => cases r with
      | nil => exact ⟨u,rfl⟩
      | cons u' r => simp at hl1
    exact ⟨u,cell_of_cells?_one h1,y,h2⟩
   obtain ⟨f,hfe⟩ : ∃ f : Nat → Value,∀ j,j < cap → w.cell? (a.add j) = some (f j) ∧ ∃ z,DataW.trod enc P w 0 (fun _ => zT) zT n e [f j] = some z :=
    ⟨fun j => if hj : j < cap then Classical.choose (each j hj) else .nilFunc,fun j hj => by
     simp only [dif_pos hj]
     exact Classical.choose_spec (each j hj)⟩
   obtain ⟨b,off,spot⟩:=a
   have hspot : spot = none:=by simpa [Addr.add] using World.cell?_spot (hfe 0 (by omega)).1
   subst hspot
   have hcell : ∀ j,j < cap → w.cell? ⟨b,off + j,none⟩ = some (f j):=fun j hj => by rw [← Go.WideShapes.add_plain]; exact (hfe j hj).1
   obtain ⟨c,ty,fr,hb,hc0⟩:=cell_obj (hcell 0 (by omega))
   have hcj : ∀ j,j < cap → c[off + j]? = some (f j):=fun j hj => by
    obtain ⟨c',ty',fr',hb',hcj⟩:=cell_obj (hcell j hj)
    rw [hb] at hb'
    simp only [Option.some.injEq,Obj.cells.injEq] at hb'
    obtain ⟨rfl,_⟩:=hb'
    exact hcj
   have hsize : off + cap ≤ c.size:=by
    have:=(Array.getElem?_eq_some_iff.1 (hcj (cap - 1) (by omega))).1
    omega
   obtain ⟨φ1,h1,rs,ls,o1,r1,s1,e1,l1,l2,q⟩:=rows_lo he hi hci ((List.range len).map f) ho hr (fun u hu => by
    obtain ⟨j,hj,rfl⟩:=List.mem_map.1 hu
    obtain ⟨z,hz⟩:=(hfe j (by have:=List.mem_range.1 hj; omega)).2
    exact ⟨n,z,hz⟩)
   simp only [List.length_map,List.length_range] at l1 l2
   have hat : ∀ j,j < len → ((List.range len).map f)[j]? = some (f j):=fun j hj => by simp [hj]
   refine ⟨AEv.upd φ1 h1.N ⟨b,off,cap⟩,h1.more (.cells 1 len rs),.slice h1.N 0 len len,ls,rfl,lo_add o1 r1 _ _ ?_,s1.trans (lo_stp o1 _ _),e1.trans (more_ext h1 o1 _),?_,.inr ⟨h1.N,len,rs,by rw [l2],more_at _ _,by omega,fun j r hr' => ?_⟩,rfl⟩
   ·refine ⟨c,ty,fr,hb,hsize,by show rs.length ≤ cap; omega,fun j x hx => ?_⟩
    have hj : j < len:=by have:=(List.getElem?_eq_some_iff.1 hx).1; omega
    obtain ⟨q1,q2,_⟩:=q j (f j) x (hat j hj) hx
    exact ⟨f j,hcj j (by omega),VR.step (lo_stp o1 _ _) _ _ q1,q2⟩
   ·simp only [VR]
    exact ⟨_,cap,1,len,_,rfl,hl,more_at _ _,Nat.le_refl _,fun _ => ⟨by simp [AEv.upd],fun _ _ => by simp [AEv.upd]⟩⟩
   ·have hj : j < len:=by have:=(List.getElem?_eq_some_iff.1 hr').1; omega
    obtain ⟨_,_,l,q3,q4⟩:=q j (f j) r (hat j hj) hr'
    exact ⟨l,q3,q4.ext (more_ext h1 o1 _)⟩
structure RuleKey (P : Program) (k i t : TypeId) (f g l : Field) : Prop where
 hu : P.underlying k = some (.struct #[f,g,l])
 size : P.cellsOf k = 3
 ci : P.cellsOf i = 1
 ct : P.cellsOf t = 1
 f1 : f.type = i
 f2 : g.type = t
 f3 : l.type = t
 o1 : f.offset = 0
 o2 : g.offset = 1
 o3 : l.offset = 2
theorem okWide_rule {P : Program} {W : World} {k i t : TypeId} {f g l : Field} (A : RuleKey P k i t f g l) {r : Reach} {b0 : Nat} {v : Value} (h : Value.okWide P W r b0 k v) : ∃ c0 c1 c2,v = .agg #[c0,c1,c2]:=by
 simp only [Value.okWide,A.hu] at h
 obtain ⟨cs,h1,h2,_⟩:=h
 rw [A.size] at h2
 obtain ⟨l⟩:=cs
 match l,h2 with
 | [c0,c1,c2],_ => exact ⟨c0,c1,c2,h1⟩
theorem rule_lo {CK : CKT} {φ : Nat → Emb} {h : Heap} {w : World} (ho : h.own = []) (hr : HR CK w [] φ h w) {H : Type} {enc : TypeId × Value → H} {P : Program} {k i t e : TypeId} {f g l : Field} {v : Value} {d : DataW H} {p : List MemPlace} (A : RuleKey P k i t f g l)
  (ht : P.underlying t = some (.slice e)) (he : P.underlying e = some (.slice i)) (hi : P.underlying i = some (.int .i64)) (hce : P.cellsOf e = 1) {r : Reach} {b0 : Nat} (hval : Value.okWide P w r b0 k v) (kd : DataW.Trod enc P w 0 (fun _ => zT) zT k v d p) :
  ∃ φ' h' q x y B W,h'.own = [] ∧ HR CK w [] φ' h' w ∧ Stp φ h φ' h' ∧ Ext h h' ∧ VR φ' h' (.agg [.int .i64 q,x,y]) v ∧ MR h' x B ∧ MR h' y W:=by
 obtain ⟨c0,c1,c2,rfl⟩:=okWide_rule A hval
 obtain ⟨fuel,hf⟩:=kd
 cases fuel with
 | zero => simp [DataW.trod] at hf
 | succ n =>
  rw [DataW.trod_step] at hf
  unfold DataW.trodStep at hf
  simp only [A.hu,Value.cells] at hf
  rw [if_pos (by rw [A.size]; rfl)] at hf
  simp only [Option.map_eq_some_iff] at hf
  obtain ⟨xs,hx,e1⟩:=hf
  rw [List.mapM_cons,List.mapM_cons,List.mapM_cons,List.mapM_nil] at hx
  simp only [bind,Option.bind_eq_some_iff,pure,Option.some.injEq,A.ci,A.ct,A.f1,A.f2,A.f3,A.o1,A.o2,A.o3] at hx
  obtain ⟨y0,h0,_,⟨y1,h1,_,⟨y2,h2,_,rfl,rfl⟩,rfl⟩,rfl⟩:=hx
  have h0' : DataW.trod enc P w 0 (fun _ => zT) zT n i [c0] = some y0:=h0
  have h1' : DataW.trod enc P w 0 (fun _ => zT) zT n t [c1] = some y1:=h1
  have h2' : DataW.trod enc P w 0 (fun _ => zT) zT n t [c2] = some y2:=h2
  obtain ⟨a,ea,_,_⟩:=DataW.trod_int hi h0'
  obtain rfl : c0 = .int .i64 a:=by simpa using ea
  obtain ⟨φ1,m1,x,B,o1,r1,s1,x1,v1,p1,q1⟩:=mat_lo0 ho hr ht he hi hce A.ci h1'
  obtain ⟨φ2,m2,y,W,o2,r2,s2,x2,v2,p2,q2⟩:=mat_lo0 o1 r1 ht he hi hce A.ci h2'
  refine ⟨φ2,m2,a,x,y,B,W,o2,r2,s1.trans s2,x1.trans x2,?_,Go.AEv.MR.ext x2 p1,p2⟩
  simp only [VR,VRs]
  refine ⟨#[.int .i64 a,c1,c2],rfl,⟨_,[c1,c2],rfl,rfl,c1,[c2],rfl,VR.step s2 _ _ v1,c2,[],rfl,v2,rfl⟩,fun z hz => ?_⟩
  simp only [List.mem_cons,List.not_mem_nil,or_false] at hz
  rcases hz with rfl | rfl | rfl
  ·rfl
  ·exact q1
  ·exact q2
end Go.AEv
