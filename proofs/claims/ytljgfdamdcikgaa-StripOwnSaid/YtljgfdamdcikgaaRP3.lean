/-
 Of the functions that this law reaches,part 3: what they answer. No condition.
-/
import Derived.Test.YtljgfdamdcikgaaRP2
import Derived.Test.YtljgfdamdcikgaaEvW
import Derived.Test.YtljgfdamdcikgaaEvAny
import Derived.Test.YtljgfdamdcikgaaRP1
import Derived.Test.YtljgfdamdcikgaaRP0
import Derived.WideKeyPair
set_option linter.unusedVariables false
set_option linter.unusedSimpArgs false
namespace Go.Proofs.Ytljgfdamdcikgaa.Ev
open Go Go.AEv
attribute [local simp] evFunc initS evOps_c evTrim_c evSkip_c evExit_c evRet_c evSeq_c evCond_c evBlock_c evDraw_c runOps_n runOps_c exec_n exec_g pure1_c act AOpd.ev T.get T.set T.put evBin evUn forceT_eq forceV_eq forceL_eq evRess evRes one keep runFP_n runFP_c app_none AV.flats AV.flat came_some List.getElem?_cons_zero List.getElem?_cons_succ beqT wrapI idxI tdivI tmodI decT decF ibT ibF inT inF evScope_c if_pos if_neg Cm_some thenW_n thenW_e thenW_r blkW_n blkW_e blkW_r goI kn putAt AV.cells fillA loadA takeA mk Eff.isAll Eff.isNone Eff.commutes Eff.spares okPair apart eqAgg fits LK.fits allEq aveq eqk mmA
section
variable {S : List (List Nat)} {p pc : Nat}
theorem mB_0 (S : List (List Nat)) (k n : Nat) : lB (mB S k 0) n = lB (fun _ => false) n:=lB_ext fun t _ => if_neg (by omega)
theorem mB_n (S : List (List Nat)) (k : Nat) : lB (mB S k S.length) S.length = lB (al S (k + 1)) S.length:=lB_ext fun t ht => if_pos ht
set_option maxHeartbeats 1000000 in
theorem c48_l1_ok (J : CallF) (k80 : K80 U1 J) {Z : Heap} {nb nn D mb : Nat} {sb x : AV} {rs : List AV} (f1 : Z.get p = .cells 0 3 [x,.map mb,.slice nb 0 S.length S.length]) (hx : ∃ bx vx,x = .slice bx 0 S.length vx) (g1 : Z.get nb = .cells 1 S.length rs) (h4 : ∀ i,i < S.length → ∃ y,rs[i]? = some y ∧ RV Z y (gn (S.getD i []))) (os : OkS S) (hp : Z.size ≤ pc) (hD : D ≤ 40) :
  Tr tbl J c48_l1 (fun s h => ∃ z,TB Z h z (rowsA S 1) ∧ h.get pc = .cells 0 1 [z] ∧ s.get [false] = sb ∧ s.get [true] = G nn ∧ s.get [true,false,false] = .ptr p 0 3 ∧ s.get [false,true,false] = .ptr pc 0 1 ∧ s.get [true,false,false,true,true] = G D ∧ s.get [false,true,false,true,true] = G ((0 : Nat) : Int)) (.exit 0)
   (fun s h => ∃ z,TB Z h z (rowsA S (D + 1)) ∧ h.get pc = .cells 0 1 [z] ∧ s.get [false] = sb ∧ s.get [true] = G nn ∧ s.get [true,false,false] = .ptr p 0 3 ∧ s.get [false,true,false] = .ptr pc 0 1):=by
 have n2:=os.n
 obtain ⟨bx,vx,rfl⟩:=hx
 refine Tr.rounds (e:=.exit 0) (P:=fun k s h => ∃ z,TB Z h z (rowsA S (k + 1)) ∧ h.get pc = .cells 0 1 [z] ∧ s.get [false] = sb ∧ s.get [true] = G nn ∧ s.get [true,false,false] = .ptr p 0 3 ∧ s.get [false,true,false] = .ptr pc 0 1 ∧ s.get [true,false,false,true,true] = G D ∧ s.get [false,true,false,true,true] = G k) (M:=D) (fun k hk => ?_) ?_ (by simp) 0 (by omega)
 ·refine Tr.w fun s1 H1 hp _ kR => W.trim ?_
  obtain ⟨z,tb,gp,q⟩:=hp
  obtain ⟨H2,hH2⟩ : ∃ H,H1.plus [.cells 0 1 [G k]] = H:=⟨_,rfl⟩
  have k2 : Kp (fun _ => False) H1 H2:=by rw [← hH2]; exact Kp.plus _ _
  have gk : H2.get H1.size = .cells 0 1 [G k]:=by rw [← hH2]; exact plus_at0 _ _ _ _ rfl
  have tb2:=tb.kp k2
  have gp2:=k2.at gp (by simp) id
  obtain ⟨bo,ros,ez,cq⟩:=tb2.cq gp2
  have kZ2:=tb2.k
  obtain ⟨H3,hH3⟩ : ∃ H,H2.plus [.cells 1 S.length (List.replicate S.length (.bool false))] = H:=⟨_,rfl⟩
  have k3 : Kp (fun _ => False) H2 H3:=by rw [← hH3]; exact Kp.plus _ _
  have bz0 : BY H2 H3 H2.size S.length (mB S k 0):=⟨k3,by rw [mB_0,← lB_rep,← hH3]; exact plus_at0 _ _ _ _ rfl⟩
  have f3:=(kZ2.trans k3).at f1 (by simp) id
  have f2:=kZ2.at f1 (by simp) id
  have l0:=c48_l0_ok (p:=p) (sb:=sb) (nn:=nn) (D:=D) J k80 (kZ2.at g1 (by simp) id) (fun i hi => by
   obtain ⟨y,e1,e2⟩:=h4 i hi
   exact ⟨y,e1,e2.kp kZ2 (fun _ _ => id)⟩) os cq gk (Nat.le_refl H2.size)
  have mk1 : mkSl H2 1 (.bool false) S.length = some (.slice H2.size 0 S.length S.length,{ eff:=.grow [.cells 1 S.length (List.replicate S.length (.bool false))] }):=mkSl_ok _ _ _ _ _ rfl (by omega)
  have step : ∀ h,BY H2 h H2.size S.length (mB S k S.length) → ∃ x1 e h2,appA (h.plus [.cells 1 1 [.slice H2.size 0 S.length S.length]]) h.size none 1 24 1 [.slice H2.size 0 S.length S.length] z = some (x1,e) ∧ Eff.app e (h.plus [.cells 1 1 [.slice H2.size 0 S.length S.length]]) = some h2 ∧ Eff.app (.put pc 1 0 [x1]) h2 = some (h2.upd pc (.cells 0 1 [x1])) ∧ TB Z (h2.upd pc (.cells 0 1 [x1])) x1 (rowsA S (k + 1 + 1)) ∧ (h2.upd pc (.cells 0 1 [x1])).get pc = .cells 0 1 [x1] ∧ h.get pc = .cells 0 1 [z] ∧ ∃ qb,x1 = .slice qb 0 (k + 1 + 1) (k + 1 + 1):=fun h bz => by
   have g:=bz.g
   rw [mB_n] at g
   have lr : (lB (al S (k + 1)) S.length).length = S.length:=lB_len _ _
   have t3:=tb2.kp bz.kp
   have gp3:=bz.kp.at gp2 (by simp) id
   obtain ⟨x1,e,h2,q1,q2,q3,q4,q7⟩:=t3.appk h.size (b:=H2.size) (cs:=lB (al S (k + 1)) S.length) (by rw [lr]; exact g) ⟨fun e => by
    obtain ⟨rs',lv,_⟩:=tb2.r
    have:=lv.lt e; omega,tb2.k.size⟩ (by rw [rowsA_len]; omega)
   rw [lr] at q1 q2 q4
   rw [← rowsA_succ] at q3
   have kk : Kp (fun _ => False) h (h.plus [.cells 1 1 [.slice H2.size 0 S.length S.length]]):=Kp.plus _ _
   have gp4 : h2.get pc = .cells 0 1 [z]:=q4.at (kk.at gp3 (by simp) id) (by simp) (fun e => by
    obtain ⟨rs',lv,hl,_⟩:=t3.r
    obtain ⟨b,rfl,gb⟩:=lv.sl (fun e => by rw [e,rowsA_len] at hl; simp at hl)
    cases e
    rw [gp3] at gb; cases gb)
   have hN : h2.N ≤ pc:=by
    rw [q3.k.N]
    exact Nat.le_trans (by unfold Heap.size; omega) hp
   obtain ⟨u1,u2⟩:=q3.updp gp4 hp x1
   obtain ⟨qb,_,ex,_⟩:=q3.sl (i:=0) (by rw [rowsA_len]; omega)
   rw [rowsA_len] at ex
   refine ⟨x1,e,h2,q1,q2,?_,u1,u2,gp3,qb,ex⟩
   rw [put_gen h2 pc 1 0 0 _ _ hN gp4 (by simp)]; rfl
  have e1 : ((k + 1 : Nat) : Int) = (k : Int) + 1:=by omega
  rw [e1] at kR
  have hNk : H1.N ≤ H1.size:=by unfold Heap.size; omega
  clear tb gp h4 cq tb2 gp2 e1
  generalize List.replicate S.length (AV.bool false) = rp at *
  generalize hnn : S.length = n at *
  refine zCh ?_
  simp (disch:=first|omega|exact zE rfl|exact zO|exact zL rfl) [c48_o8,zG,q]
  refine zCh ?_
  simp (disch:=first|omega|exact zE rfl|exact zO|exact zL rfl) [zG,q]
  refine W.seq (W.block ?_)
  refine zCh ?_
  simp (disch:=first|omega|exact zE rfl|exact zO|exact zL rfl) [c48_o9,zG,q,hH2]
  refine zCh ?_
  simp (disch:=first|omega|exact zE rfl|exact zO|exact zL rfl) [-act,c48_o10,zG,q,act_move,act_load,act_nil,act_fa,act_len1,act_mkSl,f2,mk1,hH3]
  refine W.assoc ?_
  refine zCh ?_
  simp (disch:=first|omega|exact zE rfl|exact zO|exact zL rfl) [c48_o11,zG,q,f3]
  refine W.seq (W.block ?_)
  refine W.use (l0) (by simp (disch:=first|omega|exact zE rfl|exact zO|exact zL rfl) [zG,q,bz0]) fun s1 H1 hp => ?_
  obtain ⟨bz,q⟩:=hp
  try simp only [zW,if_true]
  obtain ⟨x1,e,h2,q1,q2,q3,q4,q5,q6,qb,rfl⟩:=step _ bz
  refine W.chunk ?_
  simp (disch:=first|omega|exact zE rfl|exact zO|exact zL rfl) [c48_o16,zG,q,q6,elems,rdOf,app1_at,q1,q2,q3]
  refine W.chunk ?_
  simp (disch:=first|omega|exact zE rfl|exact zO|exact zL rfl) [c48_o17,zG,q]
  exact kR _ _ ⟨_,q4,q5,by simp [T.get,q]⟩
 ·refine Tr.w fun s1 H1 hp _ kR => W.trim ?_
  obtain ⟨z,tb,gp,q⟩:=hp
  clear h4
  generalize hnn : S.length = n at *
  refine zCh ?_
  simp (disch:=first|omega|exact zE rfl|exact zO|exact zL rfl) [c48_o8,zG,q]
  refine zCh ?_
  simp (disch:=first|omega|exact zE rfl|exact zO|exact zL rfl) [zG,q]
  exact kR _ _ ⟨_,tb,gp,by simp [T.get,q]⟩
end
section
variable {S : List (List Nat)} {p pc : Nat}
set_option maxHeartbeats 1000000 in
theorem c48_l2_ok (J : CallF) {H4 H : Heap} {bx vx mb n D bo yb yv k c i : Nat} {nx0 z : AV} {ros Lz : List AV} {rows : List (List Nat)} {L : List Nat} (hn : S.length = n) (f1 : H.get p = .cells 0 3 [.slice bx 0 n vx,.map mb,nx0]) (gx : H.get bx = .cells 1 vx (wsL rows)) (rl : rows.length = n) (n2 : n ≤ 1000) (cq : CQ S H pc D bo ros) (hD : D ≤ 40) (gy : H.get yb = .cells 1 yv (gn L)) (hL : ∀ c ∈ L,c < n) (lL : L.length ≤ 1000) (hk : k ≤ D) (nv : NV H4 H z Lz) (lz : Lz.length ≤ 1000) :
  ∀ j u,u + j = L.length → (L.drop u).find? (al S k) = some c → Tr tbl J c48_l2 (fun s h => h = H ∧ s.get [true,false,false] = .ptr p 0 3 ∧ s.get [false,true,false] = .ptr pc 0 1 ∧ s.get [true,true,true] = z ∧ s.get [false,false,false,false] = G i ∧ s.get [true,false,false,false] = G k ∧ s.get [false,false,false,false,false,false,false] = .slice yb 0 L.length yv ∧ s.get [true,false,false,false,false,false,false] = G L.length ∧ s.get [false,true,false,false,false,false,false] = G u) (.exit 6)
   (fun s h => ∃ z',NV H4 h z' (Lz ++ [.str (stW (rows.getD c []))]) ∧ s.get [true,false,false] = .ptr p 0 3 ∧ s.get [false,true,false] = .ptr pc 0 1 ∧ s.get [true,true,true] = z' ∧ s.get [false,false,false,false] = G c ∧ s.get [true,false,false,false] = G k):=by
 intro j
 induction j with
 | zero =>
  intro u hu hf
  rw [List.drop_of_length_le (by omega)] at hf
  cases hf
 | succ j ih =>
  intro u hu hf
  have hul : u < L.length:=by omega
  have dr : L.drop u = L.getD u 0 :: L.drop (u + 1):=by
   rw [List.drop_eq_getElem_cons hul,List.getD_eq_getElem?_getD,List.getElem?_eq_getElem hul]; rfl
  rw [dr,List.find?_cons] at hf
  have hd:=hL _ (gD_mem hul)
  obtain ⟨br,er,gr⟩:=cq.r k (by omega)
  have er':=getI er
  have lo:=cq.lo
  have gp:=cq.gp
  have go:=cq.go
  rw [hn] at er er' gr
  have eb:=lB_at (al S k) hd
  have eb':=getI eb
  have lb:=lB_len (al S k) n
  have ey:=gn_at hul
  have ey':=getI ey
  have ly:=gn_len L
  cases e : al S k (L.getD u 0)
  ·simp only [e] at hf
   rw [e] at eb eb'
   refine Tr.next (R:=fun s h => h = H ∧ s.get [true,false,false] = .ptr p 0 3 ∧ s.get [false,true,false] = .ptr pc 0 1 ∧ s.get [true,true,true] = z ∧ s.get [false,false,false,false] = G i ∧ s.get [true,false,false,false] = G k ∧ s.get [false,false,false,false,false,false,false] = .slice yb 0 L.length yv ∧ s.get [true,false,false,false,false,false,false] = G L.length ∧ s.get [false,true,false,false,false,false,false] = G (u + 1 : Nat)) ?_ (ih (u + 1) (by omega) hf)
   clear ih cq hL nv dr hf e
   generalize lB (al S k) n = bs at *
   generalize gn L = gl at *
   generalize L.getD u 0 = d at *
   generalize L.length = l at *
   refine Tr.w fun s1 H1 hp _ kR => W.trim ?_
   obtain ⟨rfl,q⟩:=hp
   refine zCh ?_
   simp (disch:=first|omega|exact zE rfl|exact zO|exact zL rfl) [c48_o25,zG,q]
   refine zCh ?_
   simp (disch:=first|omega|exact zE rfl|exact zO|exact zL rfl) [zG,q]
   refine W.seq (W.block ?_)
   refine zCh ?_
   simp (disch:=first|omega|exact zE rfl|exact zO|exact zL rfl) [c48_o26,zG,q,gy,ey,ey',ly]
   refine zCh ?_
   simp (disch:=first|omega|exact zE rfl|exact zO|exact zL rfl) [c48_o27,zG,q,gp,go,lo,er,er',gr,eb,eb',lb]
   refine W.chunk ?_
   simp (disch:=first|omega|exact zE rfl|exact zO|exact zL rfl) [c48_o28,c48_o29,zG,q]
   refine W.chunk ?_
   simp (disch:=first|omega|exact zE rfl|exact zO|exact zL rfl) [c48_o30,zG,q]
   exact kR _ _ ⟨rfl,by simp [T.get,q]⟩
  ·simp only [e,Option.some.injEq] at hf
   rw [e] at eb eb'
   subst hf
   have ew:=wsL_at (R:=rows) (i:=L.getD u 0) (by omega)
   have ew':=getI ew
   have lw:=wsL_len rows
   rw [rl] at lw
   obtain ⟨x1,e,H2,q1,q2,nv2,_⟩:=nv.app H.size 16 (.str (stW (rows.getD (L.getD u 0) []))) (by omega)
   have ap:=app1_at H (.str (stW (rows.getD (L.getD u 0) [])))
   refine Tr.out ?_ (by simp)
   clear ih cq hL nv dr
   generalize stW (rows.getD (L.getD u 0) []) = w at *
   generalize lB (al S k) n = bs at *
   generalize gn L = gl at *
   generalize L.getD u 0 = d at *
   generalize L.length = l at *
   generalize wsL rows = wr at *
   refine Tr.w fun s1 H1 hp _ kR => W.trim ?_
   obtain ⟨rfl,q⟩:=hp
   refine zCh ?_
   simp (disch:=first|omega|exact zE rfl|exact zO|exact zL rfl) [c48_o25,zG,q]
   refine zCh ?_
   simp (disch:=first|omega|exact zE rfl|exact zO|exact zL rfl) [zG,q]
   refine W.seq (W.block ?_)
   refine zCh ?_
   simp (disch:=first|omega|exact zE rfl|exact zO|exact zL rfl) [c48_o26,zG,q,gy,ey,ey',ly]
   refine zCh ?_
   simp (disch:=first|omega|exact zE rfl|exact zO|exact zL rfl) [c48_o27,zG,q,gp,go,lo,er,er',gr,eb,eb',lb]
   refine W.cond (v:=true) (by simp (disch:=first|omega|exact zE rfl|exact zO|exact zL rfl) [zG,q]) ?_
   simp only [if_true,if_false,Bool.false_eq_true]
   refine zCh ?_
   simp (disch:=first|omega|exact zE rfl|exact zO|exact zL rfl) [c48_o28,zG,q,f1,gx,ew,ew',lw,elems,rdOf,ap,q1,q2]
   refine zCh ?_
   simp (disch:=first|omega|exact zE rfl|exact zO|exact zL rfl) [c48_o29,zG,q]
   refine W.exit ?_
   try simp only [zW,if_true]
   exact kR _ _ ⟨_,nv2,by simp [T.get,q]⟩
structure XE (S : List (List Nat)) (D t : Nat) (E done : List Nat) (i : Nat) : Prop where
 e : done ++ ext S (D - t) i = E
 l : i < S.length
 a : al S (D - t) i = true
 n : done.length = t
set_option maxHeartbeats 1000000 in
theorem c48_l3_ok (J : CallF) {H4 : Heap} {bx vx mb nb n D bo : Nat} {ros rs : List AV} {rows R : List (List Nat)} {E : List Nat} (hn : S.length = n) (f1 : H4.get p = .cells 0 3 [.slice bx 0 n vx,.map mb,.slice nb 0 n n]) (gx : H4.get bx = .cells 1 vx (wsL rows)) (rl : rows.length = n) (gN : H4.get nb = .cells 1 n rs) (h4 : ∀ i,i < n → ∃ y,rs[i]? = some y ∧ RV H4 y (gn (S.getD i []))) (os : OkS S) (cq : CQ S H4 pc D bo ros) (hD : D ≤ 40) (lR : R.length ≤ 40) :
  Tr tbl J c48_l3 (fun s h => ∃ z done i,(NV H4 h z (wsL (R ++ rT2 rows done)) ∧ XE S D 0 E done i) ∧ s.get [true,false,false] = .ptr p 0 3 ∧ s.get [false,true,false] = .ptr pc 0 1 ∧ s.get [true,true,true] = z ∧ s.get [false,false,false,false] = G (i : Nat) ∧ s.get [true,false,false,false] = G ((D : Int) - 1 - ((0 : Nat) : Int))) (.exit 4)
   (fun s h => ∃ z,NV H4 h z (wsL (R ++ rT2 rows E)) ∧ s.get [true,true,true] = z):=by
 have n2:=os.n
 rw [hn] at n2
 refine Tr.rounds (e:=.exit 4) (P:=fun t s h => ∃ z done i,(NV H4 h z (wsL (R ++ rT2 rows done)) ∧ XE S D t E done i) ∧ s.get [true,false,false] = .ptr p 0 3 ∧ s.get [false,true,false] = .ptr pc 0 1 ∧ s.get [true,true,true] = z ∧ s.get [false,false,false,false] = G (i : Nat) ∧ s.get [true,false,false,false] = G ((D : Int) - 1 - t)) (M:=D) (fun t ht => ?_) ?_ (by simp) 0 (by omega)
 ·refine Tr.w fun s1 H1 hp _ kR => W.trim ?_
  obtain ⟨z,done,i,⟨nv,xe⟩,q⟩:=hp
  obtain ⟨k,hk⟩ : ∃ k,D = k + 1 + t:=⟨D - 1 - t,by omega⟩
  have e16 : (D : Int) - 1 - (t : Int) = (k : Nat):=by omega
  have e17 : (D : Int) - 1 - ((t + 1 : Nat) : Int) = (k : Int) - 1:=by omega
  rw [e16] at q
  rw [e17] at kR
  obtain ⟨xe1,xe2,xe3,xe4⟩:=xe
  rw [show D - t = k + 1 by omega] at xe1 xe3
  have xf:=exC_find xe3
  obtain ⟨xm,xa⟩:=exC_ok xe3
  have hL : ∀ c ∈ S.getD i [],c < n:=fun c hc => by rw [← hn]; exact os.lt i c hc
  obtain ⟨y,ey,rv0⟩:=h4 i (by omega)
  have rv:=rv0.kp nv.k (fun _ _ => id)
  have ey':=getI ey
  have lrs : i < rs.length:=(List.getElem?_eq_some_iff.1 ey).1
  obtain ⟨yb,yv,rfl,gy⟩ : ∃ b v,y = .slice b 0 (S.getD i []).length v ∧ H1.get b = .cells 1 v (gn (S.getD i [])):=by
   rcases rv with ⟨_,e⟩ | ⟨b,v,e,g⟩
   ·have : (gn (S.getD i [])).length = 0:=by rw [e]; rfl
    rw [gn_len] at this
    rw [List.length_eq_zero_iff.1 this] at xm
    cases xm
   ·rw [gn_len] at e; exact ⟨b,v,e,g⟩
  have lL:=os.len i
  have l2:=c48_l2_ok (i:=i) J hn (nv.k.at f1 (by simp) id) (nv.k.at gx (by simp) id) rl (by omega) (cq.kp nv.k) hD gy hL (by omega) (k:=k) (by omega) nv (by rw [wsL_len,List.length_append]; unfold rT2; rw [List.length_map]; omega) (S.getD i []).length 0 (by omega) (by rw [List.drop_zero]; exact xf)
  have f1':=nv.k.at f1 (by simp) id
  have gN':=nv.k.at gN (by simp) id
  have xi2 : XE S D (t + 1) E (done ++ [exC S k i]) (exC S k i):=by
   refine ⟨?_,by rw [hn]; exact hL _ xm,?_,by rw [List.length_append,xe4]; rfl⟩
   ·rw [show D - (t + 1) = k by omega,List.append_assoc]
    exact xe1
   ·rw [show D - (t + 1) = k by omega]; exact xa
  have ew : ∀ c,wsL (R ++ rT2 rows done) ++ [.str (stW (rows.getD c []))] = wsL (R ++ rT2 rows (done ++ [c])):=fun c => by
   rw [← wsL_app,List.append_assoc]
   unfold rT2
   rw [List.map_append]; rfl
  have hz : z = z:=rfl
  clear h4 cq rv rv0 gy hL xe1 xe3 xf xm xa nv
  generalize exC S k i = c at *
  generalize (S.getD i []).length = l at *
  refine W.assoc ?_
  refine zCh ?_
  simp (disch:=first|omega|exact zE rfl|exact zO|exact zL rfl) [c48_o23,zG,q]
  refine zCh ?_
  simp (disch:=first|omega|exact zE rfl|exact zO|exact zL rfl) [zG,q]
  refine W.seq (W.block ?_)
  refine zCh ?_
  simp (disch:=first|omega|exact zE rfl|exact zO|exact zL rfl) [c48_o24,zG,q,f1',gN',ey,ey']
  refine W.block ?_
  refine W.use (l2) (by simp (disch:=first|omega|exact zE rfl|exact zO|exact zL rfl) [zG,q]) fun s1 H1 hp => ?_
  obtain ⟨z',nv',q⟩:=hp
  try simp only [zW,if_true]
  refine W.chunk ?_
  simp (disch:=first|omega|exact zE rfl|exact zO|exact zL rfl) [c48_o31,zG,q]
  rw [ew] at nv'
  exact kR _ _ ⟨_,_,_,⟨nv',xi2⟩,by simp [T.get,q]⟩
 ·refine Tr.w fun s1 H1 hp _ kR => W.trim ?_
  obtain ⟨z,done,i,⟨nv,xe⟩,q⟩:=hp
  obtain ⟨xe1,xe2,xe3,xe4⟩:=xe
  have e16 : (D : Int) - 1 - (D : Int) = -1:=by omega
  rw [e16] at q
  rw [Nat.sub_self] at xe1
  have : done = E:=by rw [← xe1]; exact (List.append_nil _).symm
  subst this
  clear h4 cq
  refine W.assoc ?_
  refine zCh ?_
  simp (disch:=first|omega|exact zE rfl|exact zO|exact zL rfl) [c48_o23,zG,q]
  refine zCh ?_
  simp (disch:=first|omega|exact zE rfl|exact zO|exact zL rfl) [zG,q]
  exact kR _ _ ⟨_,nv,by simp [T.get,q]⟩
end
def okX (a : AR) (L : List (List UInt8)) (n : Int) : Bool:=a.ru && isS a.q.toNat L && decide ((L.length : Int) ≤ n ∧ n ≤ 40)
def extR (a : AR) (m : Nat) (D i : Nat) : List (List Nat):=rT2 (a.rows m) (ext (a.steps m) D i)
def Post48 (a : AR) (L : List (List UInt8)) (n : Int) (h : Heap) (v : AV) (own : List AObj) : Prop :=
 (okX a L n = false → v = .tup [.nils,G 2] ∧ own = []) ∧
 (okX a L n = true → ∀ R : List (List Nat),L = R.map stW → (∀ w ∈ R,∀ c ∈ w,c < a.q.toNat) → (kpS a.g R = false → v = .tup [.nils,G 6] ∧ own = []) ∧
  ∀ P : List Nat,kpS a.g R = true → R = rT2 (a.rows (L.getD 0 []).length) P → VC (a.steps (L.getD 0 []).length) (-1) P →
   (al (a.steps (L.getD 0 []).length) (n.toNat - L.length) (P.getD (L.length - 1) 0) = false → v = .tup [.nils,G 6] ∧ own = []) ∧
   (al (a.steps (L.getD 0 []).length) (n.toNat - L.length) (P.getD (L.length - 1) 0) = true → ∃ x,v = .tup [x,G 0] ∧ (∀ q,blk x = some q → h.size ≤ q) ∧ RV (h.plus own) x (wsL (R ++ extR a (L.getD 0 []).length (n.toNat - L.length) (P.getD (L.length - 1) 0)))))
section
variable {a : AR} {x : AV} {L : List (List UInt8)} {n : Int}
theorem post48_arg {h : Heap} (e : okX a L n = false) : Post48 a L n h (.tup [.nils,G 2]) []:=⟨fun _ => ⟨rfl,rfl⟩,fun e' => (by rw [e] at e'; cases e')⟩
set_option maxHeartbeats 4000000 in
theorem c48_ok (J : CallF) (k57 : KR 57 J) (k60 : K60 J) (k61 : K61m J) (k77 : K77 J) (k78 : K78 J) (k79 : K79 J) (k80 : K80 U1 J) (k82 : K82 J) (hJ : ∀ a h,J 48 a h = none) (h : Heap) (o : OkR a h) (hx : EL h x (ss L)) (lL : L.length ≤ 1000000) (ls : ∀ s ∈ L,s.length ≤ 1000000) :
  ∃ v own,CallsTo tbl J 48 [a.v,x,G n] h (v,own,false) ∧ Post48 a L n h v own:=by
 obtain ⟨Hs,hHs⟩ : ∃ H,(frameOf h).plus [.cells 0 3 [G a.q,a.x,a.y]] = H:=⟨_,rfl⟩
 have kHs : Kp (fun _ => False) (frameOf h) Hs:=by rw [← hHs]; exact Kp.plus _ _
 have oH : OkR a Hs:=OkR.kp (o.lo []) kHs
 have gS : Hs.get h.size = .cells 0 3 [G a.q,a.x,a.y]:=by rw [← hHs]; exact plus_at0 _ _ _ _ (frS h)
 have e57:=k57 Hs a oH
 have er : ruQ a.q a.B a.W = a.ru:=rfl
 rw [er] at e57
 have hxF : EL (frameOf h) x (ss L):=hx.lo []
 have hxH : EL Hs x (ss L):=by
  rcases hxF with h | ⟨b,v,e,g⟩
  ·exact .inl h
  ·exact .inr ⟨b,v,e,kHs.at g (by simp) id⟩
 have fz:=frS h
 have av : a.v = .agg [G a.q,a.x,a.y]:=rfl
 cases r : a.ru
 ·have : CallsTo tbl J 48 [a.v,x,G n] h (.tup [.nils,G 2],[],false):=by
   refine Tr.fnv (cf:=c48) (e:=.ret) (s:=T.set (T.set (T.set .leaf [] a.v) [false] x) [true] (G n)) (by decide) rfl (hJ _ _) rfl rfl rfl (by simp) ?_
   refine Tr.post (Q:=(fun s h => s.get [true,true] = .nils ∧ s.get [false,false,false] = G 2)) (fun s h q => by simp [c48,q]) ?_
   rw [r] at e57
   clear oH o hx hxF hxH ls kHs
   refine Tr.w fun s1 H1 hp _ kR => ?_
   obtain ⟨rfl,rfl⟩:=hp
   have q : True:=trivial
   refine zCh ?_
   simp (disch:=first|omega|exact zE rfl|exact zO|exact zL rfl) [c48_o0,zG,q,hHs]
   refine W.assoc ?_
   refine zCh ?_
   simp (disch:=first|omega|exact zE rfl|exact zO|exact zL rfl) [c48_o1,zG,q,fz,gS,e57]
   refine zCh ?_
   simp (disch:=first|omega|exact zE rfl|exact zO|exact zL rfl) [c48_o2,zG,q]
   exact kR _ _ (by simp [T.get])
  exact ⟨_,_,this,post48_arg (by unfold okX; rw [r]; rfl)⟩
 ·rw [r] at e57
  have e77:=k77 Hs ⟨a,x,L⟩ ⟨r,hxH,lL,ls⟩
  simp only at e77
  cases i : isS a.q.toNat L
  ·have : CallsTo tbl J 48 [a.v,x,G n] h (.tup [.nils,G 2],[],false):=by
    refine Tr.fnv (cf:=c48) (e:=.ret) (s:=T.set (T.set (T.set .leaf [] a.v) [false] x) [true] (G n)) (by decide) rfl (hJ _ _) rfl rfl rfl (by simp) ?_
    refine Tr.post (Q:=(fun s h => s.get [true,true] = .nils ∧ s.get [false,false,false] = G 2)) (fun s h q => by simp [c48,q]) ?_
    rw [i] at e77
    clear oH o hx hxF hxH ls kHs
    refine Tr.w fun s1 H1 hp _ kR => ?_
    obtain ⟨rfl,rfl⟩:=hp
    have q : True:=trivial
    refine zCh ?_
    simp (disch:=first|omega|exact zE rfl|exact zO|exact zL rfl) [c48_o0,zG,q,hHs]
    refine W.assoc ?_
    refine zCh ?_
    simp (disch:=first|omega|exact zE rfl|exact zO|exact zL rfl) [c48_o1,zG,q,fz,gS,e57,e77]
    refine zCh ?_
    simp (disch:=first|omega|exact zE rfl|exact zO|exact zL rfl) [c48_o2,zG,q]
    exact kR _ _ (by simp [T.get])
   exact ⟨_,_,this,post48_arg (by unfold okX; rw [i,Bool.and_false]; rfl)⟩
  ·have q3:=a.q3 r
   obtain ⟨m,R,rfl,hw,m1,m5,n1,n40,hm⟩:=isS_words (by omega) i
   have ok0 : okX a (R.map stW) n = decide ((R.length : Int) ≤ n ∧ n ≤ 40):=by
    unfold okX; rw [r,i,List.length_map]; rfl
   rw [i] at e77
   have ws : WS a.g m R:=⟨hw,by omega,by omega⟩
   have lw:=wsL_len R
   obtain ⟨_,e⟩ | ⟨b,v,rfl,g⟩:=hxH
   ·rw [← ws_ss] at e
    have : (wsL R).length = 0:=by rw [e]; rfl
    omega
   rw [← ws_ss] at g
   have ls' : (ss (R.map stW)).length = R.length:=by simp
   rw [ls'] at e77 hx ⊢
   rw [av] at e77
   have e60:=k60 n R.length 40 Hs
   cases hn : decide ((R.length : Int) ≤ n ∧ n ≤ 40)
   ·rw [hn] at e60 ok0
    have : CallsTo tbl J 48 [a.v,.slice b 0 R.length v,G n] h (.tup [.nils,G 2],[],false):=by
     refine Tr.fnv (cf:=c48) (e:=.ret) (s:=T.set (T.set (T.set .leaf [] a.v) [false] (.slice b 0 R.length v)) [true] (G n)) (by decide) rfl (hJ _ _) rfl rfl rfl (by simp) ?_
     refine Tr.post (Q:=(fun s h => s.get [true,true] = .nils ∧ s.get [false,false,false] = G 2)) (fun s h q => by simp [c48,q]) ?_
     clear oH o hx hxF ls kHs ws hw hn ok0 k61 k77 k78 k79 k80 k82
     generalize wsL R = wR at *
     generalize R.length = l at *
     refine Tr.w fun s1 H1 hp _ kR => ?_
     obtain ⟨rfl,rfl⟩:=hp
     have q : True:=trivial
     refine zCh ?_
     simp (disch:=first|omega|exact zE rfl|exact zO|exact zL rfl) [c48_o0,zG,q,hHs]
     refine W.assoc ?_
     refine zCh ?_
     simp (disch:=first|omega|exact zE rfl|exact zO|exact zL rfl) [c48_o1,zG,q,fz,gS,e57,e77,e60]
     refine zCh ?_
     simp (disch:=first|omega|exact zE rfl|exact zO|exact zL rfl) [c48_o2,zG,q]
     exact kR _ _ (by simp [T.get])
    exact ⟨_,_,this,post48_arg ok0⟩
   ·rw [hn] at e60 ok0
    obtain ⟨n2,n3⟩:=of_decide_eq_true hn
    have e78:=k78 Hs a.g m R b v (oH.g r) ws g
    rw [a.gv r,av] at e78
    have lR : (R.map stW).length = R.length:=by rw [List.length_map]
    have inj : ∀ R' : List (List Nat),R.map stW = R'.map stW → (∀ w ∈ R',∀ c ∈ w,c < a.q.toNat) → R = R':=fun R' e hR' => stW_map_inj (fun w hw' c hc => by have:=(hw w hw').2 c hc; omega) (fun w hw' c hc => by have:=hR' w hw' c hc; omega) e
    cases hk : kpS a.g R
    ·rw [hk] at e78
     have : CallsTo tbl J 48 [a.v,.slice b 0 R.length v,G n] h (.tup [.nils,G 6],[],false):=by
      refine Tr.fnv (cf:=c48) (e:=.ret) (s:=T.set (T.set (T.set .leaf [] a.v) [false] (.slice b 0 R.length v)) [true] (G n)) (by decide) rfl (hJ _ _) rfl rfl rfl (by simp) ?_
      refine Tr.post (Q:=(fun s h => s.get [true,true] = .nils ∧ s.get [false,false,false] = G 6)) (fun s h q => by simp [c48,q]) ?_
      clear oH o hx hxF ls kHs ws hw hn ok0 k61 k77 k78 k79 k80 k82 inj hk
      generalize wsL R = wR at *
      generalize R.length = l at *
      refine Tr.w fun s1 H1 hp _ kR => ?_
      obtain ⟨rfl,rfl⟩:=hp
      have q : True:=trivial
      refine zCh ?_
      simp (disch:=first|omega|exact zE rfl|exact zO|exact zL rfl) [c48_o0,zG,q,hHs]
      refine W.assoc ?_
      refine zCh ?_
      simp (disch:=first|omega|exact zE rfl|exact zO|exact zL rfl) [c48_o1,zG,q,fz,gS,e57,e77,e60]
      refine zCh ?_
      simp (disch:=first|omega|exact zE rfl|exact zO|exact zL rfl) [c48_o2,zG,q]
      refine W.assoc ?_
      refine zCh ?_
      simp (disch:=first|omega|exact zE rfl|exact zO|exact zL rfl) [c48_o3,zG,q,fz,gS,e78]
      refine zCh ?_
      simp (disch:=first|omega|exact zE rfl|exact zO|exact zL rfl) [c48_o4,zG,q]
      exact kR _ _ (by simp [T.get])
     refine ⟨_,_,this,fun e => (by rw [ok0] at e; cases e),fun _ R' e hR' => ?_⟩
     rw [← inj R' e hR',hk]
     exact ⟨fun _ => ⟨rfl,rfl⟩,fun P e => (by cases e)⟩
    ·rw [hk] at e78
     have rm : a.rm (m : Nat) = true:=by
      unfold AR.rm
      rw [r,decide_eq_true (by omega)]; rfl
     obtain ⟨os,s243,sr⟩:=AR.steps_ok rm
     obtain ⟨p,own,e61,lm,lmm⟩:=k61 Hs a.g m (oH.g r) m5
     rw [a.gv r] at e61
     obtain ⟨Z,hZ⟩ : ∃ Z,Hs.plus own = Z:=⟨_,rfl⟩
     have kZ : Kp (fun _ => False) Hs Z:=by rw [← hZ]; exact Kp.plus _ _
     rw [hZ] at lm lmm
     obtain ⟨P,eP,vc⟩:=pos_ex ws hk
     have hrows : rwL a.g.q a.g.B m = a.rows (m : Nat):=by
      unfold AR.rows AR.g
      rw [Int.toNat_natCast]
     have hsteps : stL a.g.W (a.rows (m : Nat)) = a.steps (m : Nat):=rfl
     rw [hrows] at eP vc lmm lm
     rw [hsteps] at vc
     have lP : P.length = R.length:=by rw [eP]; unfold rT2; rw [List.length_map]
     have hs : Srt (a.steps (m : Nat)):=srt_st _ _
     obtain ⟨x0,mb,nb,rs,f1,rx,_,gN,_,_,h7⟩:=lm
     have h4 : ∀ i,i < (a.steps (m : Nat)).length → ∃ y,rs[i]? = some y ∧ RV Z y (gn ((a.steps (m : Nat)).getD i [])):=fun i hi => by
      obtain ⟨y,e1,e2,_⟩:=h7 i (by rw [← sr]; exact hi)
      refine ⟨y,e1,?_⟩
      have : (a.steps (m : Nat)).getD i [] = nxL a.g.W (a.rows (m : Nat)) ((a.rows (m : Nat)).getD i []):=by
       rw [← hsteps,List.getD_eq_getElem?_getD,List.getD_eq_getElem?_getD]
       unfold stL
       rw [List.getElem?_map,List.getElem?_eq_getElem (by rw [← sr]; exact hi)]; rfl
      rw [this]; exact e2
     rw [← sr] at f1 gN
     obtain ⟨l',hl'⟩ : ∃ l',R.length = l' + 1:=⟨R.length - 1,by omega⟩
     have hat : P.getD l' 0 < (a.steps (m : Nat)).length:=vc.lt _ (gD_mem (by omega))
     obtain ⟨bx,vx,rfl,gx⟩ : ∃ b v,x0 = .slice b 0 (a.steps (m : Nat)).length v ∧ Z.get b = .cells 1 v (wsL (a.rows (m : Nat))):=by
      rcases rx with ⟨_,e⟩ | ⟨b,v,e,g⟩
      ·have : (wsL (a.rows (m : Nat))).length = 0:=by rw [e]; rfl
       rw [wsL_len] at this; omega
      ·rw [wsL_len,← sr] at e; exact ⟨b,v,e,g⟩
     obtain ⟨x',mb',nx',es,m1',m2,m3⟩:=lmm
     rw [f1] at m1'
     have emb : mb' = mb:=by
      simp only [AObj.cells.injEq,List.cons.injEq,AV.map.injEq] at m1'
      exact m1'.2.2.2.1.symm
     subst emb
     have hw0:=m3 (P.getD l' 0) (by omega)
     have wi:=wsL_at (R:=R) (i:=l') (by omega)
     rw [eP,rT2_at (by omega),← eP] at wi
     obtain ⟨N,rfl⟩ : ∃ N : Nat,n = N:=⟨n.toNat,by omega⟩
     obtain ⟨D,hD⟩ : ∃ D,N = R.length + D:=⟨N - R.length,by omega⟩
     have ePost : ∀ v own,((al (a.steps (m : Nat)) D (P.getD l' 0) = false → v = AV.tup [.nils,G 6] ∧ own = []) ∧ (al (a.steps (m : Nat)) D (P.getD l' 0) = true → ∃ x,v = .tup [x,G 0] ∧ (∀ q,blk x = some q → h.size ≤ q) ∧ RV (h.plus own) x (wsL (R ++ extR a m D (P.getD l' 0))))) → Post48 a (R.map stW) N h v own:=fun v own hp => by
      refine ⟨fun e => (by rw [ok0] at e; cases e),fun _ R' e hR' => ?_⟩
      rw [← inj R' e hR',hk,hm,lR,Int.toNat_natCast,show N - R.length = D by omega,hl',Nat.add_sub_cancel]
      refine ⟨fun e => (by cases e),fun P' _ eP' vc' => ?_⟩
      have l1 : ∀ c ∈ P,c < (a.rows (m : Nat)).length:=fun c hc => by rw [← sr]; exact vc.lt c hc
      have l2 : ∀ c ∈ P',c < (a.rows (m : Nat)).length:=fun c hc => by rw [← sr]; exact vc'.lt c hc
      have : P = P':=rT2_inj (rows_nd _ _ _) l1 l2 (eP.symm.trans eP')
      rw [← this]; exact hp
     have w0:=wsL_at (R:=R) (i:=0) (by omega)
     have w0':=getI w0
     have lw0:=stW_len (R.getD 0 [])
     rw [(ws.at (i:=0) (by omega)).1] at lw0
     have gZ:=kZ.at g (by simp) id
     have gSZ:=kZ.at gS (by simp) id
     have f1Z:=f1
     have n2S:=os.n
     generalize hS : (a.steps (m : Nat)).length = nS at *
     obtain ⟨Z1,hZ1⟩ : ∃ H,Z.plus [.cells 1 1 [.bool true]] = H:=⟨_,rfl⟩
     have kz1 : Kp (fun _ => False) Z Z1:=by rw [← hZ1]; exact Kp.plus _ _
     have g1Z : Z1.get Z.size = .cells 1 1 [.bool true]:=by rw [← hZ1]; exact plus_at0 _ _ _ _ rfl
     have e79:=k79 Z1 Z.size nS true g1Z s243
     obtain ⟨Z2,hZ2⟩ : ∃ H,Z1.plus [.cells 1 nS (List.replicate nS (.bool true))] = H:=⟨_,rfl⟩
     have kz2 : Kp (fun _ => False) Z1 Z2:=by rw [← hZ2]; exact Kp.plus _ _
     have g2Z : Z2.get Z1.size = .cells 1 nS (lB (al (a.steps (m : Nat)) 0) nS):=by rw [← hZ2,lB_rep]; exact plus_at0 _ _ _ _ rfl
     obtain ⟨Z3,hZ3⟩ : ∃ H,Z2.plus [.cells 1 1 [.slice Z1.size 0 nS nS]] = H:=⟨_,rfl⟩
     have kz3 : Kp (fun _ => False) Z2 Z3:=by rw [← hZ3]; exact Kp.plus _ _
     have g3Z : Z3.get Z2.size = .cells 1 1 [.slice Z1.size 0 nS nS]:=by rw [← hZ3]; exact plus_at0 _ _ _ _ rfl
     obtain ⟨Z4,hZ4⟩ : ∃ H,Z3.plus [.cells 0 1 [.slice Z2.size 0 1 1]] = H:=⟨_,rfl⟩
     have kz4 : Kp (fun _ => False) Z3 Z4:=by rw [← hZ4]; exact Kp.plus _ _
     have gp0 : Z4.get Z3.size = .cells 0 1 [.slice Z2.size 0 1 1]:=by rw [← hZ4]; exact plus_at0 _ _ _ _ rfl
     have s1 : Z.size ≤ Z1.size:=kz1.size
     have s2 : Z2.size = Z1.size + 1:=by rw [← hZ2,plus_size]; rfl
     have s3 : Z2.size ≤ Z3.size:=kz3.size
     have tb0 : TB Z Z4 (.slice Z2.size 0 1 1) (rowsA (a.steps (m : Nat)) 1):=by
      refine ⟨((kz1.trans kz2).trans kz3).trans kz4,fun q e => ?_,[.slice Z1.size 0 nS nS],.inr ⟨Z2.size,rfl,kz4.at g3Z (by simp) id,?_⟩,by rw [rowsA_len]; rfl,fun i r e => ?_⟩
      ·cases e; omega
      ·rw [kz4.N,kz3.N]; unfold Heap.size; omega
      ·have hi : i = 0:=by
        have:=(List.getElem?_eq_some_iff.1 e).1
        simpa using this
       subst hi
       simp only [List.getElem?_cons_zero,Option.some.injEq] at e
       subst e
       refine ⟨lB (al (a.steps (m : Nat)) 0) nS,Z1.size,by rw [rowsA_at _ (by omega),hS],by rw [lB_len],?_,?_,s1⟩
       ·rw [lB_len]; exact kz4.at (kz3.at g2Z (by simp) id) (by simp) id
       ·intro e; simp only [blk,Option.some.injEq] at e; omega
     have l1:=c48_l1_ok (S:=a.steps (m : Nat)) (pc:=Z3.size) (sb:=.slice b 0 R.length v) (nn:=N) J k80 (by rw [hS]; exact f1) ⟨bx,vx,by rw [hS]⟩ (by rw [hS]; exact gN) (by rw [hS]; exact h4) os (show Z.size ≤ Z3.size by omega) (show D ≤ 40 by omega)
     have l1' : Tr tbl J c48_l1 (fun s h => h = Z4 ∧ s.get [false] = .slice b 0 R.length v ∧ s.get [true] = G N ∧ s.get [true,false,false] = .ptr p 0 3 ∧ s.get [false,true,false] = .ptr Z3.size 0 1 ∧ s.get [true,false,false,true,true] = G D ∧ s.get [false,true,false,true,true] = G ((0 : Nat) : Int)) (.exit 0) (fun s h => ∃ z,TB Z h z (rowsA (a.steps (m : Nat)) (D + 1)) ∧ h.get Z3.size = .cells 0 1 [z] ∧ s.get [false] = .slice b 0 R.length v ∧ s.get [true] = G N ∧ s.get [true,false,false] = .ptr p 0 3 ∧ s.get [false,true,false] = .ptr Z3.size 0 1):=Tr.pre (fun s h ⟨h0,q⟩ => ⟨_,by rw [h0]; exact tb0,by rw [h0]; exact gp0,q⟩) l1
     have f1a:=kz1.at f1 (by simp) id
     have dd : ((N : Nat) : Int) - ((R.length : Nat) : Int) = (D : Int):=by omega
     have kS : Kp (fun _ => False) (frameOf h) Z:=kHs.trans kZ
     have post : ∀ z H,TB Z H z (rowsA (a.steps (m : Nat)) (D + 1)) → H.get Z3.size = .cells 0 1 [z] → ∃ bo ros H5 br,CQ (a.steps (m : Nat)) H Z3.size D bo ros ∧ J 82 [.slice b 0 R.length v] H = some (.slice H.size 0 R.length R.length,[.cells 1 R.length (wsL R)],false) ∧ H.plus [.cells 1 R.length (wsL R)] = H5 ∧ Kp (fun _ => False) H H5 ∧ H5.get p = .cells 0 3 [.slice bx 0 nS vx,.map mb',.slice nb 0 nS nS] ∧ H5.get H.size = .cells 1 R.length (wsL R) ∧ mapA H5 (.map mb') = some es ∧ H5.get Z3.size = .cells 0 1 [.slice bo 0 (D + 1) (D + 1)] ∧ H5.get bo = .cells 1 (D + 1) ros ∧ ros.length = D + 1 ∧ ros[D]? = some (.slice br 0 nS nS) ∧ H5.get br = .cells 1 nS (lB (al (a.steps (m : Nat)) D) nS):=fun z H tb gp => by
      obtain ⟨bo,ros,rfl,cq⟩:=tb.cq gp
      obtain ⟨H5,hH5⟩ : ∃ H5,H.plus [.cells 1 R.length (wsL R)] = H5:=⟨_,rfl⟩
      have k5 : Kp (fun _ => False) H H5:=by rw [← hH5]; exact Kp.plus _ _
      obtain ⟨br,e5,e6⟩:=cq.r D (by omega)
      rw [hS] at e5 e6
      have e82:=k82 H ⟨b,R.length,v,wsL R⟩ ⟨tb.k.at gZ (by simp) id,lw,by show 0 < R.length; omega,by show R.length ≤ 1000; omega⟩
      exact ⟨bo,ros,H5,br,cq,e82,hH5,k5,(tb.k.trans k5).at f1 (by simp) id,by rw [← hH5]; exact plus_at0 _ _ _ _ rfl,mapA_at ((tb.k.trans k5).at m2 (by simp) id),k5.at gp (by simp) id,k5.at cq.go (by simp) id,cq.lo,e5,k5.at e6 (by simp) id⟩
     have wi':=getI wi
     have eb:=lB_at (al (a.steps (m : Nat)) D) hat
     have eb':=getI eb
     have lb:=lB_len (al (a.steps (m : Nat)) D) nS
     have ll1 : ((R.length : Nat) : Int) - 1 = (l' : Int):=by omega
     cases hal : al (a.steps (m : Nat)) D (P.getD l' 0)
     ·rw [hal] at eb eb'
      have : CallsTo tbl J 48 [a.v,.slice b 0 R.length v,G N] h (.tup [.nils,G 6],[],false):=by
       refine Tr.fnv (cf:=c48) (e:=.ret) (s:=T.set (T.set (T.set .leaf [] a.v) [false] (.slice b 0 R.length v)) [true] (G N)) (by decide) rfl (hJ _ _) rfl rfl rfl (by simp) ?_
       refine Tr.post (Q:=(fun s h => s.get [true,true] = .nils ∧ s.get [false,false,false] = G 6)) (fun s h q => by simp [c48,q]) ?_
       clear oH o hx hxF ls kHs ws hw hn ok0 k61 k77 k78 k79 k80 k82 inj hk ePost m3 h7 h4 vc tb0 gp0 l1 os hs kZ kS
       generalize stW (R.getD 0 []) = u0 at *
       generalize stW ((a.rows (m : Nat)).getD (P.getD l' 0) []) = ul at *
       generalize lB (al (a.steps (m : Nat)) D) nS = bs at *
       generalize P.getD l' 0 = at0 at *
       generalize wsL R = wR at *
       generalize List.replicate nS (AV.bool true) = rep at *
       generalize R.length = l at *
       refine Tr.w fun s1 H1 hp _ kR => ?_
       obtain ⟨rfl,rfl⟩:=hp
       have q : True:=trivial
       refine zCh ?_
       simp (disch:=first|omega|exact zE rfl|exact zO|exact zL rfl) [c48_o0,zG,q,hHs]
       refine W.assoc ?_
       refine zCh ?_
       simp (disch:=first|omega|exact zE rfl|exact zO|exact zL rfl) [c48_o1,zG,q,fz,gS,e57,e77,e60]
       refine zCh ?_
       simp (disch:=first|omega|exact zE rfl|exact zO|exact zL rfl) [c48_o2,zG,q]
       refine W.assoc ?_
       refine zCh ?_
       simp (disch:=first|omega|exact zE rfl|exact zO|exact zL rfl) [c48_o3,zG,q,fz,gS,e78]
       refine zCh ?_
       simp (disch:=first|omega|exact zE rfl|exact zO|exact zL rfl) [c48_o4,zG,q]
       refine zCh ?_
       simp (disch:=first|omega|exact zE rfl|exact zO|exact zL rfl) [-evDraw_c,-Eff.isAll,c48_o5,zG,q,evDraw_0,fz,gS,g,w0,w0',lw,lw0,e61,app_if,app_if',hZ,own_all,isAll_none]
       refine zCh ?_
       simp (disch:=first|omega|exact zE rfl|exact zO|exact zL rfl) [c48_o6,zG,q,hZ1,f1a,e79,hZ2,hZ3,hZ4]
       refine W.assoc ?_
       refine zCh ?_
       simp (disch:=first|omega|exact zE rfl|exact zO|exact zL rfl) [c48_o7,zG,q,dd]
       refine W.seq (W.block ?_)
       refine W.use (l1') (by simp (disch:=first|omega|exact zE rfl|exact zO|exact zL rfl) [zG,q]) fun s1 H1 hp => ?_
       obtain ⟨z,tb,gp,q⟩:=hp
       try simp only [zW,if_true]
       obtain ⟨bo,ros,H5,br,cq,e82,hH5,k5,f5,g5,ma,gp5,go5,lo5,er5,gr5⟩:=post _ _ tb gp
       have er5':=getI er5
       refine zCh ?_
       simp (disch:=first|omega|exact zE rfl|exact zO|exact zL rfl) [c48_o18,zG,q,e82,hH5]
       refine zCh ?_
       simp (disch:=first|omega|exact zE rfl|exact zO|exact zL rfl) [c48_o19,zG,q,f5,g5,ma,wi,wi',lw,hw0,ll1,-evDraw_c,evDraw_0]
       refine W.assoc ?_
       refine zCh ?_
       simp (disch:=first|omega|exact zE rfl|exact zO|exact zL rfl) [c48_o20,zG,q,gp5,go5,lo5,er5,er5',gr5,eb,eb',lb,dd]
       refine zCh ?_
       simp (disch:=first|omega|exact zE rfl|exact zO|exact zL rfl) [c48_o21,zG,q]
       exact kR _ _ (by simp [T.get])
      exact ⟨_,_,this,ePost _ _ ⟨fun _ => ⟨rfl,rfl⟩,fun e => (by rw [hal] at e; cases e)⟩⟩
     ·rw [hal] at eb eb'
      have post3 : ∀ z H bo ros H5,TB Z H z (rowsA (a.steps (m : Nat)) (D + 1)) → CQ (a.steps (m : Nat)) H Z3.size D bo ros → H.plus [.cells 1 R.length (wsL R)] = H5 → Kp (fun _ => False) H H5 → H5.get H.size = .cells 1 R.length (wsL R) →
        Tr tbl J c48_l3 (fun s h => h = H5 ∧ s.get [true,false,false] = .ptr p 0 3 ∧ s.get [false,true,false] = .ptr Z3.size 0 1 ∧ s.get [true,true,true] = .slice H.size 0 R.length R.length ∧ s.get [false,false,false,false] = G (P.getD l' 0 : Nat) ∧ s.get [true,false,false,false] = G ((D : Int) - 1)) (.exit 4) (fun s h => ∃ z,NV H h z (wsL (R ++ extR a m D (P.getD l' 0))) ∧ s.get [true,true,true] = z) ∧ Kp (fun _ => False) (frameOf h) H:=fun z H bo ros H5 tb cq hH5 k5 g5 => by
       have kk:=tb.k
       have l3:=c48_l3_ok (p:=p) (R:=R) (E:=ext (a.steps (m : Nat)) D (P.getD l' 0)) J hS (kk.at f1 (by simp) id) (kk.at gx (by simp) id) (show (a.rows (m : Nat)).length = nS by omega) (kk.at gN (by simp) id) (fun i hi => by
        obtain ⟨y,e1,e2⟩:=h4 i hi
        exact ⟨y,e1,e2.kp kk (fun _ _ => id)⟩) os cq (show D ≤ 40 by omega) n40
       refine ⟨Tr.pre (fun s h ⟨h0,q1,q2,q3,q4,q5⟩ => ⟨_,[],_,⟨?_,⟨rfl,by rw [hS]; exact hat,hal,rfl⟩⟩,q1,q2,q3,q4,by rw [q5,show (D : Int) - 1 - ((0 : Nat) : Int) = (D : Int) - 1 by omega]⟩) l3,kS.trans kk⟩
       subst h0
       refine ⟨k5,fun q e => (by cases e; exact Nat.le_refl _),.inr ⟨H.size,?_,?_,?_⟩⟩
       ·show _ = AV.slice H.size 0 (wsL (R ++ [])).length (wsL (R ++ [])).length
        rw [List.append_nil,lw]
       ·show _ = AObj.cells 1 (wsL (R ++ [])).length (wsL (R ++ []))
        rw [List.append_nil,lw]; exact g5
       ·rw [k5.N]; unfold Heap.size; omega
      have fin : ∀ z H h',Kp (fun _ => False) (frameOf h) H → NV H h' z (wsL (R ++ extR a m D (P.getD l' 0))) → Post48 a (R.map stW) N h (.tup [z,G 0]) (if (one [z]).flat then [] else h'.own):=fun z H h' kH nv => ePost _ _ ⟨fun e => (by rw [hal] at e; cases e),fun _ => ⟨z,rfl,fun q e => Nat.le_trans (by have:=kH.size; rw [fz] at this; exact this) (nv.x0 q e),nv.rv.fr (kH.trans nv.k)⟩⟩
      refine Tr.fny (cf:=c48) (e:=.ret) (s:=T.set (T.set (T.set .leaf [] a.v) [false] (.slice b 0 R.length v)) [true] (G N)) (by decide) rfl (hJ _ _) rfl rfl (by simp) ?_
      clear oH o hx hxF ls kHs ws hw hn ok0 k61 k77 k78 k79 k80 k82 inj hk ePost m3 h7 h4 vc tb0 gp0 l1 os hs kZ kS
      generalize stW (R.getD 0 []) = u0 at *
      generalize stW ((a.rows (m : Nat)).getD (P.getD l' 0) []) = ul at *
      generalize lB (al (a.steps (m : Nat)) D) nS = bs at *
      generalize wsL (R ++ extR a m D (P.getD l' 0)) = wE at *
      generalize P.getD l' 0 = at0 at *
      generalize wsL R = wR at *
      generalize List.replicate nS (AV.bool true) = rep at *
      generalize R.length = l at *
      refine Tr.w fun s1 H1 hp _ kR => ?_
      obtain ⟨rfl,rfl⟩:=hp
      have q : True:=trivial
      refine zCh ?_
      simp (disch:=first|omega|exact zE rfl|exact zO|exact zL rfl) [c48_o0,zG,q,hHs]
      refine W.assoc ?_
      refine zCh ?_
      simp (disch:=first|omega|exact zE rfl|exact zO|exact zL rfl) [c48_o1,zG,q,fz,gS,e57,e77,e60]
      refine zCh ?_
      simp (disch:=first|omega|exact zE rfl|exact zO|exact zL rfl) [c48_o2,zG,q]
      refine W.assoc ?_
      refine zCh ?_
      simp (disch:=first|omega|exact zE rfl|exact zO|exact zL rfl) [c48_o3,zG,q,fz,gS,e78]
      refine zCh ?_
      simp (disch:=first|omega|exact zE rfl|exact zO|exact zL rfl) [c48_o4,zG,q]
      refine zCh ?_
      simp (disch:=first|omega|exact zE rfl|exact zO|exact zL rfl) [-evDraw_c,-Eff.isAll,c48_o5,zG,q,evDraw_0,fz,gS,g,w0,w0',lw,lw0,e61,app_if,app_if',hZ,own_all,isAll_none]
      refine zCh ?_
      simp (disch:=first|omega|exact zE rfl|exact zO|exact zL rfl) [c48_o6,zG,q,hZ1,f1a,e79,hZ2,hZ3,hZ4]
      refine W.assoc ?_
      refine zCh ?_
      simp (disch:=first|omega|exact zE rfl|exact zO|exact zL rfl) [c48_o7,zG,q,dd]
      refine W.seq (W.block ?_)
      refine W.use (l1') (by simp (disch:=first|omega|exact zE rfl|exact zO|exact zL rfl) [zG,q]) fun s1 H1 hp => ?_
      obtain ⟨z,tb,gp,q⟩:=hp
      try simp only [zW,if_true]
      obtain ⟨bo,ros,H5,br,cq,e82,hH5,k5,f5,g5,ma,gp5,go5,lo5,er5,gr5⟩:=post _ _ tb gp
      have er5':=getI er5
      obtain ⟨l3,kH⟩:=post3 _ _ _ _ _ tb cq hH5 k5 g5
      refine zCh ?_
      simp (disch:=first|omega|exact zE rfl|exact zO|exact zL rfl) [c48_o18,zG,q,e82,hH5]
      refine zCh ?_
      simp (disch:=first|omega|exact zE rfl|exact zO|exact zL rfl) [c48_o19,zG,q,f5,g5,ma,wi,wi',lw,hw0,ll1,-evDraw_c,evDraw_0]
      refine W.assoc ?_
      refine zCh ?_
      simp (disch:=first|omega|exact zE rfl|exact zO|exact zL rfl) [c48_o20,zG,q,gp5,go5,lo5,er5,er5',gr5,eb,eb',lb,dd]
      refine zCh ?_
      simp (disch:=first|omega|exact zE rfl|exact zO|exact zL rfl) [c48_o21,zG,q]
      refine W.assoc ?_
      refine zCh ?_
      simp (disch:=first|omega|exact zE rfl|exact zO|exact zL rfl) [c48_o22,zG,q,dd]
      refine W.seq (W.block ?_)
      refine W.use (l3) (by simp (disch:=first|omega|exact zE rfl|exact zO|exact zL rfl) [zG,q]) fun s1 H1 hp => ?_
      obtain ⟨z9,nv9,q⟩:=hp
      try simp only [zW,if_true]
      refine zCh ?_
      simp (disch:=first|omega|exact zE rfl|exact zO|exact zL rfl) [c48_o32,zG,q]
      refine W.ret ?_
      try simp only [zW,if_true]
      refine kR _ _ ?_
      refine ⟨[z9,G 0],by simp [T.get,c48,evRess,evRes,q],?_⟩
      rw [show (one [z9,G 0]).flat = (one [z9]).flat from by simp [one,AV.flat,AV.flats]]
      exact fin _ _ _ kH nv9
end
structure A48 where
 a : AR
 x : AV
 L : List (List UInt8)
 n : Int
def Ok48 (b : A48) (h : Heap) : Prop:=OkR b.a h ∧ EL h b.x (ss b.L) ∧ b.L.length ≤ 1000000 ∧ ∀ s ∈ b.L,s.length ≤ 1000000
def Pre48 (b : A48) (args : List AV) (h : Heap) : Prop:=Ok48 b h ∧ args = [b.a.v,b.x,G b.n]
noncomputable def T75 : CallF:=addK tbl T74 48 Pre48 (fun b h v own => Post48 b.a b.L b.n h v own)
theorem t75 : Sound Go.Proofs.Try.prog T75:=Sound.addK follows ok t74 (by decide) _ _
theorem k57_74 : KR 57 T74:=fun h a o => by
 rw [show T74 57 [.agg [G a.q,a.x,a.y]] h = T10 57 [.agg [G a.q,a.x,a.y]] h from by simp (disch:=decide) only [T11,T12,T13,T14,T15,T16,T17,T18,T19,T20,T21,T22,T23,T24,T25,T26,T27,T28,T29,T30,T31,T32,T33,T34,T35,T36,T37,T38,T39,T40,T41,T42,T43,T44,T45,T46,T47,T48,T49,T50,T51,T52,T53,T54,T55,T56,T57,T58,T59,T60,T61,T62,T63,T64,T65,T66,T67,T68,T69,T70,T71,T72,T73,T74,addI_ne,addX_ne,addV_ne,addK_ne]]; exact k57 h a o
theorem k60_74 : K60 T74:=fun n lo hi h => by
 rw [show T74 60 [G n,G lo,G hi] h = T1 60 [G n,G lo,G hi] h from by simp (disch:=decide) only [T2,T3,T4,T5,T6,T7,T8,T9,T10,T11,T12,T13,T14,T15,T16,T17,T18,T19,T20,T21,T22,T23,T24,T25,T26,T27,T28,T29,T30,T31,T32,T33,T34,T35,T36,T37,T38,T39,T40,T41,T42,T43,T44,T45,T46,T47,T48,T49,T50,T51,T52,T53,T54,T55,T56,T57,T58,T59,T60,T61,T62,T63,T64,T65,T66,T67,T68,T69,T70,T71,T72,T73,T74,addI_ne,addX_ne,addV_ne,addK_ne]]; exact k60 n lo hi h
theorem k61_74 : K61m T74:=fun h a m o m5 => by
 obtain ⟨p,own,e,l⟩:=k61m h a m o m5
 exact ⟨p,own,by rw [show T74 61 [a.v,G m] h = T18 61 [a.v,G m] h from by simp (disch:=decide) only [T19,T20,T21,T22,T23,T24,T25,T26,T27,T28,T29,T30,T31,T32,T33,T34,T35,T36,T37,T38,T39,T40,T41,T42,T43,T44,T45,T46,T47,T48,T49,T50,T51,T52,T53,T54,T55,T56,T57,T58,T59,T60,T61,T62,T63,T64,T65,T66,T67,T68,T69,T70,T71,T72,T73,T74,addI_ne,addX_ne,addV_ne,addK_ne]]; exact e,l⟩
theorem k77_74 : K77 T74:=fun h b o => by
 rw [show T74 77 [b.a.v,b.x] h = T67 77 [b.a.v,b.x] h from by simp (disch:=decide) only [T68,T69,T70,T71,T72,T73,T74,addI_ne,addX_ne,addV_ne,addK_ne]]; exact k77 h b o
theorem k78_74 : K78 T74:=fun h a m R b v o k g => by
 rw [show T74 78 [a.v,.slice b 0 R.length v] h = T68 78 [a.v,.slice b 0 R.length v] h from by simp (disch:=decide) only [T69,T70,T71,T72,T73,T74,addI_ne,addX_ne,addV_ne,addK_ne]]; exact k78 h a m R b v o k g
theorem k79_74 : K79 T74:=fun h b n x h1 h2 => by
 rw [show T74 79 [.slice b 0 1 1,G n] h = T72 79 [.slice b 0 1 1,G n] h from by simp (disch:=decide) only [T73,T74,addI_ne,addX_ne,addV_ne,addK_ne]]; exact k79 h b n x h1 h2
theorem k82_74 : K82 T74:=fun h a ha => by
 rw [show T74 82 [.slice a.b 0 a.n a.v] h = T73 82 [.slice a.b 0 a.n a.v] h from by simp (disch:=decide) only [T74,addI_ne,addX_ne,addV_ne,addK_ne]]; exact k82 h a ha
abbrev K48 (J : CallF) : Prop:=∀ (h : Heap) (b : A48),Ok48 b h → ∃ v own,J 48 [b.a.v,b.x,G b.n] h = some (v,own,false) ∧ Post48 b.a b.L b.n h v own
theorem k48 : K48 T75:=fun h b o => by
 obtain ⟨v,own,e,l⟩:=addK_some (Pre:=Pre48) (Post:=fun b h v own => Post48 b.a b.L b.n h v own) (fun b args h hp => by
  obtain ⟨⟨h1,h2,h3,h4⟩,rfl⟩:=hp
  exact c48_ok T74 k57_74 k60_74 k61_74 k77_74 k78_74 k79_74 k80_74 k82_74 (fun _ _ => by simp (disch:=decide) only [T1,T2,T3,T4,T5,T6,T7,T8,T9,T10,T11,T12,T13,T14,T15,T16,T17,T18,T19,T20,T21,T22,T23,T24,T25,T26,T27,T28,T29,T30,T31,T32,T33,T34,T35,T36,T37,T38,T39,T40,T41,T42,T43,T44,T45,T46,T47,T48,T49,T50,T51,T52,T53,T54,T55,T56,T57,T58,T59,T60,T61,T62,T63,T64,T65,T66,T67,T68,T69,T70,T71,T72,T73,T74,addI_ne,addX_ne,addV_ne,addK_ne]; rfl) h h1 h2 h3 h4) b _ h ⟨o,rfl⟩
 exact ⟨v,own,e,l⟩
end Go.Proofs.Ytljgfdamdcikgaa.Ev
set_option linter.unusedVariables false
set_option linter.unusedSimpArgs false
namespace Go.AEv
def Ct (X Y : AObj) : Prop:=Y = X ∨ ∃ g v cs n,X = .cells g v cs ∧ Y = .cells g v (cs.take n)
theorem Ct.hole {Y : AObj} (c : Ct .hole Y) : Y = .hole:=by
 rcases c with h | ⟨g,v,cs,n,h,_⟩
 ·exact h
 ·cases h
theorem Ct.ne {X Y : AObj} (c : Ct X Y) (h : Y ≠ .hole) : X ≠ .hole:=fun e => by subst e; exact h c.hole
theorem Ct.ne' {X Y : AObj} (c : Ct X Y) (h : X ≠ .hole) : Y ≠ .hole:=fun e => by
 rcases c with h' | ⟨g,v,cs,n,h1,h2⟩
 ·exact h (h' ▸ e)
 ·rw [h2] at e; cases e
theorem Ct.or {CK : CKT} {φ : Nat → Emb} {H : Heap} {w : World} {e : Emb} {X Y : AObj} (c : Ct X Y) (o : OR CK φ H w e X) : OR CK φ H w e Y:=by
 rcases c with rfl | ⟨g,v,cs,n,rfl,rfl⟩
 ·exact o
 ·simp only [OR] at o ⊢
  obtain ⟨c,t,fr,h1,h2,h3,h4⟩:=o
  refine ⟨c,t,fr,h1,h2,by rw [List.length_take]; omega,fun j v hv => h4 j v ?_⟩
  rw [List.getElem?_take] at hv
  split at hv
  ·exact hv
  ·cases hv
theorem Ct.stp {φ : Nat → Emb} {H H' : Heap} (c : ∀ b,Ct (H.get b) (H'.get b)) : Stp φ H φ H':=fun b => by
 have cb:=c b
 refine ⟨fun g n cs e => ?_,fun es e => ?_,fun st pend s ps x y e => ?_,fun cc pos e => ?_⟩
 ·rw [e] at cb
  rcases cb with h | ⟨g',v',cs',n',h1,h2⟩
  ·exact ⟨n,cs,h,Nat.le_refl _,fun _ => rfl⟩
  ·cases h1; exact ⟨n,_,h2,Nat.le_refl _,fun _ => rfl⟩
 ·rw [e] at cb
  rcases cb with h | ⟨g',v',cs',n',h1,h2⟩
  ·exact ⟨es,h,rfl⟩
  ·cases h1
 ·rw [e] at cb
  rcases cb with h | ⟨g',v',cs',n',h1,h2⟩
  ·exact ⟨_,_,_,_,_,_,h,rfl⟩
  ·cases h1
 ·rw [e] at cb
  rcases cb with h | ⟨g',v',cs',n',h1,h2⟩
  ·exact ⟨_,_,h,rfl⟩
  ·cases h1
theorem Ct.pts {φ : Nat → Emb} {H H' : Heap} (c : ∀ b,Ct (H.get b) (H'.get b)) : Stp φ H' φ H:=fun b => by
 have cb:=c b
 refine ⟨fun g n cs e => ?_,fun es e => ?_,fun st pend s ps x y e => ?_,fun cc pos e => ?_⟩
 ·rcases cb with h | ⟨g',v',cs',n',h1,h2⟩
  ·exact ⟨n,cs,by rw [← h]; exact e,Nat.le_refl _,fun _ => rfl⟩
  ·rw [e] at h2; cases h2; exact ⟨n,_,h1,Nat.le_refl _,fun _ => rfl⟩
 ·rcases cb with h | ⟨g',v',cs',n',h1,h2⟩
  ·exact ⟨es,by rw [← h]; exact e,rfl⟩
  ·rw [e] at h2; cases h2
 ·rcases cb with h | ⟨g',v',cs',n',h1,h2⟩
  ·exact ⟨_,_,_,_,_,_,by rw [← h]; exact e,rfl⟩
  ·rw [e] at h2; cases h2
 ·rcases cb with h | ⟨g',v',cs',n',h1,h2⟩
  ·exact ⟨_,_,by rw [← h]; exact e,rfl⟩
  ·rw [e] at h2; cases h2
def cutOf (c : Nat → AObj) (h : Heap) : Heap:=⟨c,h.size,[]⟩
theorem get_ge (h : Heap) {i : Nat} (hi : h.size ≤ i) : h.get i = .hole:=by
 cases hq : h.get i with
 | hole => rfl
 | _ => have:=Heap.get_lt (H:=h) (i:=i) (by rw [hq]; simp); simp only [Heap.size] at this hi; omega
theorem cut_get {c : Nat → AObj} {h : Heap} (hc : ∀ b,Ct (h.get b) (c b)) (i : Nat) : (cutOf c h).get i = c i:=by
 by_cases hi : i < h.size
 ·show (if i < h.size then c i else _) = _
  rw [if_pos hi]
 ·have e:=hc i
  rw [get_ge h (by omega)] at e
  rw [e.hole]
  show (if i < h.size then c i else ([] : List AObj).getD (i - h.size) .hole) = _
  rw [if_neg hi]; simp
theorem cut_hr {CK : CKT} {w0 : World} {K : List Nat} {φ : Nat → Emb} {h : Heap} {w : World} (hr : HR CK w0 K φ h w) {c : Nat → AObj} (hc : ∀ b,Ct (h.get b) (c b)) : HR CK w [] φ (cutOf c h) w ∧ Stp φ h φ (cutOf c h):=by
 have hc' : ∀ b,Ct (h.get b) ((cutOf c h).get b):=fun b => by rw [cut_get hc]; exact hc b
 have hs : Stp φ h φ (cutOf c h):=Ct.stp hc'
 refine ⟨⟨Nat.le_refl _,fun _ _ => rfl,fun i => OR.step hs (fun _ => rfl) ((hc' i).or (hr.obj i)),fun i hi hh => ?_,fun i j hj _ hh _ => ?_,by simp,by simp,Env.refl w⟩,hs⟩
 ·have:=(hc' i).ne hh
  rw [get_ge h hi] at this; exact absurd rfl this
 ·have:=(hc' j).ne hh
  rw [get_ge h hj] at this; exact absurd rfl this
theorem cut_back {CK : CKT} {w0 : World} {K : List Nat} {φ φ' : Nat → Emb} {h : Heap} {own : List AObj} {w w' : World} (hr : HR CK w0 K φ h w) {c : Nat → AObj} (hc : ∀ b,Ct (h.get b) (c b)) (hr' : HR CK w [] φ' ((cutOf c h).plus own) w') (hs : Stp φ (cutOf c h) φ' ((cutOf c h).plus own)) :
  HR CK w0 K φ' (h.plus own) w' ∧ Stp φ' ((cutOf c h).plus own) φ' (h.plus own) ∧ Stp φ h φ' (h.plus own):=by
 have hsz : (cutOf c h).size = h.size:=by simp [cutOf,Heap.size]
 have hsame : ∀ b,b < w.heap.size → w'.heap[b]? = w.heap[b]?:=hr'.old
 have hct : ∀ b,Ct ((h.plus own).get b) (((cutOf c h).plus own).get b):=fun b => by
  by_cases hb : b < h.size
  ·rw [plus_lt _ _ _ hb,plus_lt _ _ _ (by omega),cut_get hc]; exact hc b
  ·rw [plus_ge _ _ _ (by omega),plus_ge _ _ _ (by omega),hsz]; exact .inl rfl
 have back : Stp φ' ((cutOf c h).plus own) φ' (h.plus own):=Ct.pts hct
 have hge : ∀ i,h.get i ≠ .hole → i < h.size:=fun i hh => by
  have:=Heap.get_lt (H:=h) (i:=i) hh
  simp only [Heap.size] at this ⊢; omega
 have hlow : ∀ i,i < h.size → (h.plus own).get i = h.get i:=fun i hi => plus_lt _ _ _ hi
 have hφ : ∀ i,h.get i ≠ .hole → φ' i = φ i:=fun i hh => by
  have hi:=hge i hh
  have:=hs i
  have e0 : ((cutOf c h).plus own).get i = (cutOf c h).get i:=plus_lt _ _ _ (by omega)
  have hh' : (cutOf c h).get i ≠ .hole:=by rw [cut_get hc]; exact (hc i).ne' hh
  cases hq : (cutOf c h).get i with
  | hole => exact absurd hq hh'
  | cells g n cs =>
   obtain ⟨n',cs',e1,e2,e3⟩:=this.1 g n cs hq
   rw [e0,hq] at e1
   simp only [AObj.cells.injEq] at e1
   exact e3 e1.2.1.symm
  | map es => obtain ⟨_,_,e3⟩:=this.2.1 es hq; exact e3
  | loop st pend s ps x y => obtain ⟨_,_,_,_,_,_,_,e3⟩:=this.2.2.1 _ _ _ _ _ _ hq; exact e3
  | iter c pos => obtain ⟨_,_,_,e3⟩:=this.2.2.2 _ _ hq; exact e3
 have fwd : Stp φ h φ' (h.plus own):=fun b => by
  refine ⟨fun g n cs e => ?_,fun es e => ?_,fun st pend s ps x y e => ?_,fun cc pos e => ?_⟩
  ·have hh : h.get b ≠ .hole:=by rw [e]; simp
   exact ⟨n,cs,by rw [hlow b (hge b hh)]; exact e,Nat.le_refl _,fun _ => hφ b hh⟩
  ·have hh : h.get b ≠ .hole:=by rw [e]; simp
   exact ⟨es,by rw [hlow b (hge b hh)]; exact e,hφ b hh⟩
  ·have hh : h.get b ≠ .hole:=by rw [e]; simp
   exact ⟨_,_,_,_,_,_,by rw [hlow b (hge b hh)]; exact e,hφ b hh⟩
  ·have hh : h.get b ≠ .hole:=by rw [e]; simp
   exact ⟨_,_,by rw [hlow b (hge b hh)]; exact e,hφ b hh⟩
 have hN : (h.plus own).N = h.N:=rfl
 refine ⟨⟨Nat.le_trans hr.size hr'.size,fun b hb => ?_,fun i => ?_,fun i hi hh => ?_,fun i j hj hh1 hh2 hij => ?_,fun k hk => ?_,hr.nodup,hr.env.trans hr'.env⟩,back,fwd⟩
 ·rw [hsame b (by have:=hr.size; omega)]; exact hr.old b hb
 ·by_cases hi : i < h.size
  ·rw [hlow i hi]
   by_cases hh : h.get i = .hole
   ·rw [hh]; trivial
   ·rw [hφ i hh]
    exact OR.step fwd (fun hh => hsame _ (OR.lt (hr.obj i) hh)) (hr.obj i)
  ·have e : (h.plus own).get i = ((cutOf c h).plus own).get i:=by rw [plus_ge _ _ _ (by omega),plus_ge _ _ _ (by omega),hsz]
   rw [e]
   exact OR.step back (fun _ => rfl) (hr'.obj i)
 ·by_cases hlt : i < h.size
  ·rw [hlow i hlt] at hh
   rw [hφ i hh,hsame _ (OR.lt (hr.obj i) hh)]
   exact hr.own i hi hh
  ·have e : (h.plus own).get i = ((cutOf c h).plus own).get i:=by rw [plus_ge _ _ _ (by omega),plus_ge _ _ _ (by omega),hsz]
   rw [e] at hh
   obtain ⟨a1,a2,a3⟩:=hr'.own i (by show h.size ≤ i; omega) hh
   exact ⟨Nat.le_trans hr.size a1,a2,a3⟩
 ·have tr : ∀ i,(h.plus own).get i ≠ .hole → ((cutOf c h).plus own).get i ≠ .hole:=fun i hh => (hct i).ne' hh
  by_cases hjl : j < h.size
  ·by_cases hil : i < h.size
   ·rw [hlow i hil] at hh1; rw [hlow j hjl] at hh2
    rw [hφ i hh1,hφ j hh2]
    exact hr.sep i j hj hh1 hh2 hij
   ·exact fun e => hr'.sep j i (by show h.size ≤ i; omega) (tr j hh2) (tr i hh1) (fun e => hij e.symm) e.symm
  ·exact hr'.sep i j (by show h.size ≤ j; omega) (tr i hh1) (tr j hh2) hij
 ·obtain ⟨k1,k2⟩:=hr.keep k hk
  rw [hsame k (Array.getElem?_eq_some_iff.1 k2).1]; exact ⟨k1,k2⟩
def cutX (n : Nat) : AObj → AObj
 | .cells g v cs => .cells g v (cs.take n)
 | X => X
def cutO : List AV → Nat → AObj → AObj
 | [],_,X => X
 | .slice b 0 n v :: l,i,X => if b = i then cutX n X else cutO l i X
 | _ :: l,i,X => cutO l i X
theorem cutX_ct (n : Nat) (X : AObj) : Ct X (cutX n X):=by
 cases X with
 | cells g v cs => exact .inr ⟨g,v,cs,n,rfl,rfl⟩
 | _ => exact .inl rfl
theorem cutO_ct : ∀ (l : List AV) (i : Nat) (X : AObj),Ct X (cutO l i X):=fun l i X => by
 fun_induction cutO l i X with
 | case1 => exact .inl rfl
 | case2 => exact cutX_ct _ _
 | case3 => assumption
 | case4 => assumption
def cutA (args : List AV) (h : Heap) : Heap:=cutOf (fun i => cutO args i (h.get i)) h
def addC (I : CallF) (f : Nat) : CallF:=fun g args h => if g = f then (match I f args (cutA args h) with
 | some (v,own,false) => some (v,own,false)
 | _ => none) else I g args h
theorem Sound.addC {P : Program} {I : CallF} (hI : Sound P I) (f : Nat) : Sound P (addC I f):=fun g args h v own sh e => by
 unfold AEv.addC at e
 split at e
 ·rename_i hg
  subst hg
  split at e
  ·rename_i v' own' e'
   simp only [Option.some.injEq,Prod.mk.injEq] at e
   obtain ⟨rfl,rfl,rfl⟩:=e
   obtain ⟨hent,hc⟩:=hI _ _ _ _ _ _ e'
   refine ⟨hent,fun w0 K φ w vals hr hv => ?_⟩
   have hct : ∀ b,Ct (h.get b) (cutO args b (h.get b)):=fun b => cutO_ct args b _
   obtain ⟨h1,h2⟩:=cut_hr hr hct
   refine CallsIn.mono (hc w [] φ w vals h1 (VRs.step h2 _ _ hv)) ?_
   rintro en w' ⟨φ',x,rfl,q1,q2,q3⟩
   have m1 : mrg (cutA args h) own' false = (cutOf (fun i => cutO args i (h.get i)) h).plus own':=by simp [mrg,cutA,Heap.plus]
   have m2 : mrg h own' false = h.plus own':=by simp [mrg,Heap.plus]
   rw [m1] at q1 q2 q3
   rw [m2]
   obtain ⟨b1,b2,b3⟩:=cut_back hr hct q2 q3
   exact ⟨φ',x,rfl,VR.step b2 _ _ q1,b1,b3⟩
  ·cases e
 ·exact hI g args h v own sh e
theorem addC_ne {I : CallF} {f g : Nat} (hg : g ≠ f) (args : List AV) (h : Heap) : addC I f g args h = I g args h:=by
 unfold addC; rw [if_neg hg]
end Go.AEv
set_option linter.unusedVariables false
set_option linter.unusedSimpArgs false
namespace Go.Proofs.Ytljgfdamdcikgaa.Ev
open Go Go.AEv
attribute [local simp] evFunc initS evOps_c evTrim_c evSkip_c evExit_c evRet_c evSeq_c evCond_c evBlock_c evDraw_c runOps_n runOps_c exec_n exec_g pure1_c act AOpd.ev T.get T.set T.put evBin evUn forceT_eq forceV_eq forceL_eq evRess evRes one keep runFP_n runFP_c app_none AV.flats AV.flat came_some List.getElem?_cons_zero List.getElem?_cons_succ beqT wrapI idxI tdivI tmodI decT decF ibT ibF inT inF evScope_c if_pos if_neg Cm_some thenW_n thenW_e thenW_r blkW_n blkW_e blkW_r goI kn putAt AV.cells fillA loadA takeA mk Eff.isAll Eff.isNone Eff.commutes Eff.spares okPair apart eqAgg fits LK.fits allEq aveq eqk mmA
def PL (h : Heap) (x : AV) (cs : List AV) : Prop:=(x = .nils ∧ cs = []) ∨ ∃ b v rest,x = .slice b 0 cs.length v ∧ h.get b = .cells 1 v (cs ++ rest)
theorem PL.kp {h h' : Heap} {x : AV} {cs : List AV} (r : PL h x cs) (k : Kp (fun _ => False) h h') : PL h' x cs:=by
 rcases r with h | ⟨b,v,rest,e,g⟩
 ·exact .inl h
 ·exact .inr ⟨b,v,rest,e,k.at g (by simp) id⟩
theorem RV.back {h h' : Heap} (hs : h'.size = h.size) {own : List AObj} {x : AV} {cs : List AV} (r : RV (h'.plus own) x cs) (f : ∀ q,blk x = some q → h'.size ≤ q) : RV (h.plus own) x cs:=by
 rcases r with h | ⟨b,v,rfl,g⟩
 ·exact .inl h
 ·have:=f b rfl
  refine .inr ⟨b,v,rfl,?_⟩
  rw [plus_ge _ _ _ this] at g
  rw [plus_ge _ _ _ (by omega),← hs]; exact g
theorem Post48.back {h h' : Heap} (hs : h'.size = h.size) {a : AR} {L : List (List UInt8)} {n : Int} {v : AV} {own : List AObj} (p : Post48 a L n h' v own) : Post48 a L n h v own :=
 ⟨p.1,fun e R hL hR => ⟨(p.2 e R hL hR).1,fun P k eP vc => ⟨((p.2 e R hL hR).2 P k eP vc).1,fun ha => by
  obtain ⟨x,e1,e2,e3⟩:=((p.2 e R hL hR).2 P k eP vc).2 ha
  exact ⟨x,e1,fun q hq => by rw [← hs]; exact e2 q hq,RV.back hs e3 e2⟩⟩⟩⟩
noncomputable def T76 : CallF:=addC T75 48
theorem t76 : Sound Go.Proofs.Try.prog T76:=t75.addC 48
noncomputable def T77 : CallF:=addC T76 29
theorem t77 : Sound Go.Proofs.Try.prog T77:=t76.addC 29
def fewL (L : List (List UInt8)) : List (List UInt8):=(L.take 41).map fun s => s.take 7
section
variable {L : List (List UInt8)}
end
structure A43 where
 x : AV
 L : List (List UInt8)
def Pre43 (b : A43) (args : List AV) (h : Heap) : Prop:=EL h b.x (ss b.L) ∧ args = [b.x]
noncomputable def T78 : CallF:=addK tbl T77 43 Pre43 (fun b h v own => RV (h.plus own) v (ss (fewL b.L)))
theorem t78 : Sound Go.Proofs.Try.prog T78:=Sound.addK follows ok t77 (by decide) _ _
theorem addI_eq (I : CallF) (f : Nat) (spec : SpecF) (args : List AV) (h : Heap) : addI I f spec f args h = spec args h:=if_pos rfl
section
variable {a : AG} {m : Nat} {R : List (List Nat)} {b v : Nat}
end
structure AWS46 where
 a : AG
 m : Nat
 R : List (List Nat)
 b : Nat
 v : Nat
def Pre46g (b : AWS46) (args : List AV) (h : Heap) : Prop:=(OkG b.a h ∧ WS b.a b.m b.R ∧ h.get b.b = .cells 1 b.v (wsL b.R)) ∧ args = [b.a.v,.slice b.b 0 b.R.length b.v]
def Post46g (b : AWS46) (h : Heap) (v : AV) (own : List AObj) : Prop:=v = .bool (kpS b.a b.R) ∧ own = []
noncomputable def U46 : CallF:=addK tbl T56 46 Pre46g Post46g
theorem u46 : Sound Go.Proofs.Try.prog U46:=Sound.addK follows ok t56 (by decide) _ _
section
variable {L : List (List UInt8)} {b v n qq i p : Nat} {x y : AV}
end
structure A39g where
 qq : Nat
 x : AV
 y : AV
 z : AV
 L : List (List UInt8)
def Pre39g (b : A39g) (args : List AV) (h : Heap) : Prop:=(b.qq ≤ 3 ∧ RV h b.z (ss b.L) ∧ b.L.length ≤ 1000000 ∧ ∀ s ∈ b.L,s.length ≤ 1000000) ∧ args = [.agg [G b.qq,b.x,b.y],b.z]
def Post39g (b : A39g) (h : Heap) (v : AV) (own : List AObj) : Prop:=v = .bool (isS b.qq b.L) ∧ own = []
noncomputable def U39 : CallF:=addK tbl noIntr 39 Pre39g Post39g
theorem u39 : Sound Go.Proofs.Try.prog U39:=Sound.addK follows ok Sound.empty (by decide) _ _
noncomputable def T79 : CallF:=addI T78 46 (U46 46)
theorem t79 : Sound Go.Proofs.Try.prog T79:=Sound.put t78 u46 46
noncomputable def T80 : CallF:=addI T79 39 (U39 39)
theorem t80 : Sound Go.Proofs.Try.prog T80:=Sound.put t79 u39 39
theorem TB.mr {H0 h : Heap} {x : AV} {M : List (List Int)} (t : TB H0 h x (M.map gs)) : MR h x M:=by
 obtain ⟨rs,lv,hl,hr⟩:=t.r
 rw [List.length_map] at hl
 rcases lv with ⟨rfl,rfl⟩ | ⟨b,rfl,g,n⟩
 ·exact .inl ⟨.inl rfl,List.length_eq_zero_iff.1 hl.symm⟩
 ·refine .inr ⟨b,rs.length,rs,by rw [hl],g,hl,fun i r e => ?_⟩
  obtain ⟨cs,b',h1,h2,h3,_⟩:=hr i r e
  rw [List.getElem?_map] at h1
  cases hN : M[i]? with
  | none => rw [hN] at h1; cases h1
  | some l =>
   rw [hN] at h1
   simp only [Option.map_some,Option.some.injEq] at h1
   subst h1
   exact ⟨l,rfl,.inl (by rw [h2]; exact listOf_cells h3 (by simp))⟩
theorem tabQ_small {n : Nat} {B : List (List Int)} (h : tabQ n B = true) (h3 : n ≤ 3) : smallM B ∧ B.length ≤ 1000000 ∧ ∀ l ∈ B,l.length ≤ 1000000:=by
 have hr : ∀ l ∈ B,l.length = n:=fun l hl => by
  unfold tabQ at h
  rw [Bool.and_eq_true] at h
  have:=(List.all_eq_true.1 h.2) l hl
  unfold rowQ at this
  rw [Bool.and_eq_true,decide_eq_true_iff] at this
  omega
 have hl:=(tabQ_row h).1
 refine ⟨⟨by omega,fun i => ?_⟩,by omega,fun l hl => by rw [hr l hl]; omega⟩
 rw [List.getD_eq_getElem?_getD]
 cases hi : B[i]? with
 | none => simp
 | some l =>
  obtain ⟨h1,h2⟩:=List.getElem?_eq_some_iff.1 hi
  have:=hr l (h2 ▸ List.getElem_mem _)
  simp only [Option.getD_some]; omega
def AR.of (n : Nat) (x y : AV) (B W : List (List Int)) : AR:=⟨n,x,y,B,W⟩
theorem ru_of {n : Nat} {x y : AV} {B W : List (List Int)} (hn : 1 ≤ n ∧ n ≤ 3) (hB : tabQ n B = true) (hW : tabQ n W = true) : (AR.of n x y B W).ru = true:=by
 unfold AR.ru AR.of ruQ
 simp only [hB,hW,Bool.and_true,decide_eq_true_eq]
 omega
section
variable {nq m nn : Int} {X Y : List (List Int)}
end
section
variable {S : List (List Nat)} {u4 u6 u8 u0 : AV} {k1 k2 k3 k4 : Nat}
theorem RV.lv {h : Heap} {y : AV} {L : List Nat} (r : RV h y (gn L)) (hl : 0 < L.length) : ∃ b v,y = .slice b 0 L.length v ∧ h.get b = .cells 1 v (gn L):=by
 rcases r with ⟨_,e⟩ | ⟨b,v,e,g⟩
 ·have : (gn L).length = 0:=by rw [e]; rfl
  rw [gn_len] at this; omega
 ·rw [gn_len] at e; exact ⟨b,v,e,g⟩
end
theorem RV.pre {H : Heap} {b v n : Nat} {cs : List AV} (r : RV H (.slice b 0 n v) cs) {k : Nat} (hk : k ≤ cs.length) : PL H (.slice b 0 k v) (cs.take k):=by
 rcases r with ⟨e,_⟩ | ⟨b',v',e,g⟩
 ·cases e
 ·rw [AV.slice.injEq] at e
  obtain ⟨rfl,_,_,rfl⟩:=e
  exact .inr ⟨b,v,cs.drop k,by rw [List.length_take,Nat.min_eq_left hk],by rw [List.take_append_drop]; exact g⟩
section
variable {S R : List (List Nat)} {p N : Nat}
end
section
variable {a : AR} {m bs vs : Nat} {P : List Nat}
end
structure A47x where
 a : AR
 m : Nat
 P : List Nat
 b : Nat
 v : Nat
def Ok47x (b : A47x) (h : Heap) : Prop:=OkR b.a h ∧ b.a.rm (b.m : Nat) = true ∧ okC (b.a.steps (b.m : Nat)) b.P.length = true ∧ VC (b.a.steps (b.m : Nat)) (-1) b.P ∧ 1 ≤ b.P.length ∧ b.P.length ≤ 40 ∧ h.get b.b = .cells 1 b.v (wsL (rT2 (b.a.rows (b.m : Nat)) b.P))
def Pre47x (b : A47x) (args : List AV) (h : Heap) : Prop:=Ok47x b h ∧ args = [b.a.v,.slice b.b 0 b.P.length b.v]
def Post47x (b : A47x) (h : Heap) (v : AV) (own : List AObj) : Prop:=v = G (ix (b.a.steps (b.m : Nat)) (-1) b.P) ∧ own = []
noncomputable def U47 : CallF:=addK tbl T50 47 Pre47x Post47x
theorem u47 : Sound Go.Proofs.Try.prog U47:=Sound.addK follows ok t50 (by decide) _ _
noncomputable def T81 : CallF:=addI T80 47 (U47 47)
theorem t81 : Sound Go.Proofs.Try.prog T81:=Sound.put t80 u47 47
def rep : Nat → List Nat → List Nat
 | 0,_ => []
 | k + 1,L => L ++ rep k L
section
variable {S : List (List Nat)}
end
section
variable {R : List (List Nat)} {L : List Nat} {T0 : Int} {TT K LL bl vl Sx : Nat}
end
section
variable {nq m T0 : Int} {X Y : List (List Int)}
end
section
variable {S : List (List Nat)}
structure CT (n : Nat) (p : Nat → Bool) (h : Heap) (z : AV) (N j : Nat) : Prop where
 r : ∃ bo ros br,z = .slice bo 0 N N ∧ h.get bo = .cells 1 N ros ∧ ros.length = N ∧ ros[j]? = some (.slice br 0 n n) ∧ h.get br = .cells 1 n (bb p n)
theorem CT.kp {n : Nat} {p : Nat → Bool} {h h' : Heap} {z : AV} {N j : Nat} (c : CT n p h z N j) (k : Kp (fun _ => False) h h') : CT n p h' z N j:=by
 obtain ⟨bo,ros,br,e1,e2,e3,e4,e5⟩:=c.r
 exact ⟨bo,ros,br,e1,k.at e2 (by simp) id,e3,e4,k.at e5 (by simp) id⟩
theorem TB.ct {Z h : Heap} {z : AV} {k j : Nat} (t : TB Z h z (rowsA S k)) (hj : j < k) : CT S.length (al S j) h z k j:=by
 obtain ⟨bo,ros,e1,e2,e3,e4⟩:=t.sl (i:=0) (by rw [rowsA_len]; omega)
 rw [rowsA_len] at e1 e2 e3
 obtain ⟨b,h1,h2⟩:=e4 j _ (rowsA_at S hj)
 rw [lB_len] at h1 h2
 exact ⟨bo,ros,b,e1,e2,e3,h1,h2⟩
def bel (i u : Nat) : Bool:=decide (u < i)
end
def Post49 (a : AR) (m : Nat) (R : List (List Nat)) (N : Nat) (h : Heap) (v : AV) (own : List AObj) : Prop :=
 (kpS a.g R = false → v = .tup [.nils,.bool false] ∧ own = []) ∧
 ∀ P : List Nat,kpS a.g R = true → R = rT2 (a.rows (m : Nat)) P → VC (a.steps (m : Nat)) (-1) P →
   (al (a.steps (m : Nat)) (N - R.length) (P.getD (R.length - 1) 0) = false → v = .tup [.nils,.bool false] ∧ own = []) ∧
   (al (a.steps (m : Nat)) (N - R.length) (P.getD (R.length - 1) 0) = true → ∃ x,v = .tup [x,.bool true] ∧ RV (h.plus own) x (wsL (R ++ extR a m (N - R.length) (P.getD (R.length - 1) 0))))
section
variable {a : AR} {m b v N : Nat} {R : List (List Nat)}
end
structure A49 where
 a : AR
 m : Nat
 R : List (List Nat)
 b : Nat
 v : Nat
 N : Nat
def Ok49 (b : A49) (h : Heap) : Prop:=OkR b.a h ∧ b.a.rm (b.m : Nat) = true ∧ WS b.a.g b.m b.R ∧ 1 ≤ b.R.length ∧ b.R.length ≤ b.N ∧ b.N ≤ 40 ∧ h.get b.b = .cells 1 b.v (wsL b.R)
def Pre49 (b : A49) (args : List AV) (h : Heap) : Prop:=Ok49 b h ∧ args = [b.a.v,.slice b.b 0 b.R.length b.v,G b.N]
noncomputable def T82 : CallF:=addK tbl T81 49 Pre49 (fun b h v own => Post49 b.a b.m b.R b.N h v own)
theorem t82 : Sound Go.Proofs.Try.prog T82:=Sound.addK follows ok t81 (by decide) _ _
theorem RV.el {h : Heap} {x : AV} {cs : List AV} (r : RV h x cs) : EL h x cs:=by
 rcases r with ⟨rfl,e⟩ | h
 ·exact .inl ⟨.inl rfl,e⟩
 ·exact .inr h
section
variable {nq : Int} {X Y : List (List Int)} {L : List (List UInt8)}
end
section
variable {nq n : Int} {X Y : List (List Int)} {L : List (List UInt8)}
end
noncomputable def T83 : CallF:=addI T82 29 (T27 29)
theorem t83 : Sound Go.Proofs.Try.prog T83:=Sound.put t82 t27 29
noncomputable def T84 : CallF:=addI T83 48 (T75 48)
theorem t84 : Sound Go.Proofs.Try.prog T84:=Sound.put t83 t75 48
theorem k29_84 : K29 T84:=fun h b h1 h2 h3 h4 => by
 rw [show T84 29 [b.x,b.z] h = T83 29 [b.x,b.z] h from by simp (disch:=decide) only [T84,addI_ne]]
 exact (addI_eq _ _ _ _ _).trans (k29 h b h1 h2 h3 h4)
theorem k48_84 : K48 T84:=fun h b o => by
 obtain ⟨v,own,e,l⟩:=k48 h b o
 exact ⟨v,own,(addI_eq _ _ _ _ _).trans e,l⟩
def NS (B : Nat) (h : Heap) (nb : Nat) (S : List (List Nat)) : Prop:=∃ rs,h.get nb = .cells 1 S.length rs ∧ rs.length = S.length ∧ B ≤ nb ∧ ∀ k,k < S.length → ∃ y,rs[k]? = some y ∧ RV h y (gn (S.getD k [])) ∧ ∀ b,blk y = some b → B ≤ b
section
variable {a : AR} {m : Int}
theorem c26_n (J : CallF) (k57 : KR 57 J) (k60 : K60 J) (k61 : K61 J) (hJ : ∀ a h,J 26 a h = none) (h : Heap) (o : OkR a h) (r : a.rm m = true) :
  ∃ v own,CallsTo tbl J 26 [a.v,G m] h (v,own,false) ∧ ∃ nb,v = .tup [.slice nb 0 (a.steps m).length (a.steps m).length,G 0] ∧ NS h.size (h.plus own) nb (a.steps m):=by
 refine Tr.fny (cf:=c26) (e:=.ret) (s:=T.set (T.set .leaf [] a.v) [false] (G m)) (by decide) rfl (hJ _ _) rfl rfl (by simp) ?_
 obtain ⟨k1,k2⟩:=rs_pre (m:=m) J k57 k60 o
 obtain ⟨os,s243,sr⟩:=AR.steps_ok r
 unfold AR.rm at r
 simp only [Bool.and_eq_true,decide_eq_true_eq] at r
 obtain ⟨r1,r2⟩:=r
 rw [r1] at k1
 rw [decide_eq_true r2] at k2
 obtain ⟨p,own,k3,l⟩:=k61 ⟨h.get,h.size,[.cells 0 3 [G a.q,a.x,a.y]]⟩ a.g m.toNat ((o.lo _).g r1) (by omega)
 rw [a.gv r1,show ((m.toNat : Nat) : Int) = m by omega] at k3
 obtain ⟨x,mb,nb,rs,l1,_,_,gN,hnb,hrs,h7⟩:=l
 have gS : Heap.get ⟨h.get,h.size,[.cells 0 3 [G a.q,a.x,a.y]]⟩ h.size = .cells 0 3 [G a.q,a.x,a.y]:=by rw [get_mk_ge _ _ _ _ (Nat.le_refl _),Nat.sub_self]; rfl
 have hsz : Heap.size ⟨h.get,h.size,[.cells 0 3 [G a.q,a.x,a.y]]⟩ = h.size + 1:=rfl
 have e : ∀ b,(Heap.plus ⟨h.get,h.size,[.cells 0 3 [G a.q,a.x,a.y]]⟩ own).get b = (h.plus ([.cells 0 3 [G a.q,a.x,a.y]] ++ own)).get b:=fun b => fr_get h _ b
 rw [hsz] at hnb h7
 generalize hZ : Heap.plus ⟨h.get,h.size,[.cells 0 3 [G a.q,a.x,a.y]]⟩ own = Z at *
 have hZo : Z.own = [.cells 0 3 [G a.q,a.x,a.y]] ++ own:=by rw [← hZ]; rfl
 have hrows : rwL a.g.q a.g.B m.toNat = a.rows m:=rfl
 rw [hrows] at l1 gN hrs h7
 rw [← sr] at l1 gN hrs h7
 have hns : NS h.size (h.plus Z.own) nb (a.steps m):=by
  rw [hZo]
  refine ⟨rs,(e nb).symm.trans gN,hrs,by omega,fun k hk => ?_⟩
  obtain ⟨y,e1,e2,e3⟩:=h7 k hk
  have hst : (a.steps m).getD k [] = nxL a.g.W (a.rows m) ((a.rows m).getD k []):=by
   show (stL a.W (a.rows m)).getD k [] = _
   rw [List.getD_eq_getElem?_getD,List.getD_eq_getElem?_getD]
   unfold stL
   rw [List.getElem?_map,List.getElem?_eq_getElem (by rw [← sr]; exact hk)]; rfl
  exact ⟨y,e1,by rw [hst]; exact e2.congr e,fun b hb => by have:=(e3 b hb).2; omega⟩
 clear h7 gN e hZo
 generalize (a.steps m).length = nS at *
 refine Tr.w fun s1 H1 hp _ kR => ?_
 obtain ⟨rfl,rfl⟩:=hp
 have q : True:=trivial
 refine zCh ?_
 simp (disch:=first|omega|exact zE rfl|exact zO|exact zL rfl) [c26_o0,size_mk,get_mk_lt,get_mk_ge,frameOf,Eff.app,Heap.setOwn,q]
 refine W.assoc ?_
 refine zCh ?_
 simp (disch:=first|omega|exact zE rfl|exact zO|exact zL rfl) [c26_o1,size_mk,get_mk_lt,get_mk_ge,frameOf,Eff.app,Heap.setOwn,q,k1,k2]
 refine zCh ?_
 simp (disch:=first|omega|exact zE rfl|exact zO|exact zL rfl) [c26_o2,size_mk,get_mk_lt,get_mk_ge,frameOf,Eff.app,Heap.setOwn,q]
 refine zCh ?_
 simp (disch:=first|omega|exact zE rfl|exact zO|exact zL rfl) [c26_o3,zG,q,gS,k3,app_if,app_if',l1,hZ]
 refine W.ret ?_
 try simp only [zW,if_true]
 refine kR _ _ ?_
 exact ⟨[.slice nb 0 nS nS,G 0],by simp [T.get,c26,evRess,evRes],nb,rfl,hns⟩
end
structure SQ (lo S : Nat) (A h : Heap) (ZZ : List AV) : Prop where
 k : Kp (fun b => lo ≤ b ∧ b < S) A h
 r : ∀ r ∈ ZZ,r = .nils ∨ ∃ b v cs,r = .slice b 0 cs.length v ∧ h.get b = .cells 1 v cs ∧ (lo ≤ b ∧ b < S) ∧ cs.length ≤ 1000
theorem SQ.put {lo S : Nat} {A h : Heap} {ZZ : List AV} (t : SQ lo S A h ZZ) {b v : Nat} {cs cs' : List AV} (hA : A.N ≤ lo) (g : h.get b = .cells 1 v cs) (h1 : lo ≤ b ∧ b < S) (hl' : cs'.length = cs.length) : SQ lo S A (h.upd b (.cells 1 v cs')) ZZ:=by
 have hN : h.N ≤ b:=by rw [t.k.N]; omega
 refine ⟨t.k.trans (Kp.upd h b _ hN h1),fun r hr => ?_⟩
 rcases t.r r hr with e1 | ⟨b2,v2,c2,e1,e2,e3,e4⟩
 ·exact .inl e1
 ·right
  by_cases e : b2 = b
  ·subst e
   rw [g] at e2
   simp only [AObj.cells.injEq,true_and] at e2
   obtain ⟨rfl,rfl⟩:=e2
   exact ⟨b2,v,cs',by rw [e1,hl'],upd_same _ _ _ hN (get_lt g (by simp)),e3,by omega⟩
  ·exact ⟨b2,v2,c2,e1,by rw [upd_ne _ _ _ _ hN (fun q => e q.symm)]; exact e2,e3,e4⟩
section
variable {A : Heap} {lo S n m : Nat} {ZZ : List AV} {x1 x5 x6 x8 x10 x11 x12 : AV}
def O0 (lo S : Nat) (A : Heap) (ZZ : List AV) (x1 x5 x6 x8 x10 x11 x12 : AV) (Z m : Nat) (i : Nat) : SP:=fun s h => SQ lo S A h ZZ ∧ s.get [false] = x1 ∧ s.get [false,true] = x5 ∧ s.get [true,true] = x6 ∧ s.get [true,false,false] = x8 ∧ s.get [true,true,false] = x10 ∧ s.get [false,false,true] = x11 ∧ s.get [true,false,true] = x12 ∧ s.get [true,true,true] = .slice Z 0 m m ∧ s.get [false,false,false,false] = G i
def O1 (lo S : Nat) (A : Heap) (ZZ : List AV) (x1 x5 x6 x8 x10 x11 x12 : AV) (Z m : Nat) (i k : Nat) : SP:=fun s h => SQ lo S A h ZZ ∧ s.get [false] = x1 ∧ s.get [false,true] = x5 ∧ s.get [true,true] = x6 ∧ s.get [true,false,false] = x8 ∧ s.get [true,true,false] = x10 ∧ s.get [false,false,true] = x11 ∧ s.get [true,false,true] = x12 ∧ s.get [true,true,true] = .slice Z 0 m m ∧ s.get [false,false,false,false] = G i ∧ s.get [true,false,false,false] = G k
def O0q (lo S : Nat) (A : Heap) (ZZ : List AV) (x1 x5 x6 x8 x10 x11 x12 : AV) : SP:=fun s h => SQ lo S A h ZZ ∧ s.get [false] = x1 ∧ s.get [false,true] = x5 ∧ s.get [true,true] = x6 ∧ s.get [true,false,false] = x8 ∧ s.get [true,true,false] = x10 ∧ s.get [false,false,true] = x11 ∧ s.get [true,false,true] = x12
theorem c16_l0_z (J : CallF) {Z i : Nat} (gS : A.get Z = .cells 1 m ZZ) (hZS : S ≤ Z) (hZ : ZZ.length = m) (hi : ZZ[i]? = some .nils) : Tr tbl J c16_l0 (O1 lo S A ZZ x1 x5 x6 x8 x10 x11 x12 Z m i 0) (.exit 2) (O0 lo S A ZZ x1 x5 x6 x8 x10 x11 x12 Z m i):=by
 have hi':=getI hi
 have hiR : i < m:=by have:=(List.getElem?_eq_some_iff.1 hi).1; omega
 refine Tr.out ?_ (by simp)
 refine Tr.w fun s1 H1 hp _ kR => W.trim ?_
 obtain ⟨so,q⟩:=hp
 have gS1:=so.k.at gS (by simp) (by omega)
 dsimp only [O0] at kR
 refine W.assoc ?_
 refine zCh ?_
 simp (disch:=first|omega|exact zE rfl|exact zO|exact zL rfl) [c16_o18,zG,q,gS1,hi,hi',hZ]
 refine zCh ?_
 simp (disch:=first|omega|exact zE rfl|exact zO|exact zL rfl) [zG,q]
 exact kR _ _ ⟨so,by simp [T.get,q]⟩
theorem c16_l0_ok (J : CallF) {Z i b v : Nat} (hA : A.N ≤ lo) (gS : A.get Z = .cells 1 m ZZ) (hZS : S ≤ Z) (hZ : ZZ.length = m) (hn : n ≤ 1000) (hi : ZZ[i]? = some (.slice b 0 n v)) :
  Tr tbl J c16_l0 (O1 lo S A ZZ x1 x5 x6 x8 x10 x11 x12 Z m i 0) (.exit 2) (O0 lo S A ZZ x1 x5 x6 x8 x10 x11 x12 Z m i):=by
 have hi':=getI hi
 have hiR : i < m:=by have:=(List.getElem?_eq_some_iff.1 hi).1; omega
 refine Tr.rounds (P:=O1 lo S A ZZ x1 x5 x6 x8 x10 x11 x12 Z m i) (M:=n) (fun k hk => ?_) ?_ (by simp) 0 (by omega)
 ·refine Tr.w fun s1 H1 hp _ kR => W.trim ?_
  obtain ⟨so,q⟩:=hp
  have gS1:=so.k.at gS (by simp) (by omega)
  obtain ⟨b',v',cs,e1,g,h1,h3⟩:=(so.r _ (List.mem_of_getElem? hi)).resolve_left (by simp)
  simp only [AV.slice.injEq,true_and] at e1
  obtain ⟨rfl,e1,rfl⟩:=e1
  have hN : H1.N ≤ b:=by rw [so.k.N]; omega
  have p:=put_gen H1 b v k 1 cs [G (-7)] hN g (by rw [← e1]; show k + 1 ≤ n; omega)
  have so2:=so.put (cs':=putAt cs k [G (-7)]) hA g h1 (by show (cs.set k (G (-7))).length = _; rw [List.length_set])
  have lcs : cs.length = n:=e1.symm
  clear so
  dsimp only [O1] at kR
  generalize putAt cs k [G (-7)] = c2 at *
  refine W.assoc ?_
  refine zCh ?_
  simp (disch:=first|omega|exact zE rfl|exact zO|exact zL rfl) [c16_o18,zG,q,gS1,hi,hi',hZ]
  refine zCh ?_
  simp (disch:=first|omega|exact zE rfl|exact zO|exact zL rfl) [zG,q]
  refine W.seq (W.block ?_)
  refine W.chunk ?_
  simp (disch:=first|omega|exact zE rfl|exact zO|exact zL rfl) [c16_o19,zG,q,gS1,hi,hi',g,p,lcs,hZ]
  refine W.chunk ?_
  simp (disch:=first|omega|exact zE rfl|exact zO|exact zL rfl) [c16_o20,zG,q]
  exact kR _ _ ⟨so2,by simp [T.get,q]⟩
 ·refine Tr.w fun s1 H1 hp _ kR => W.trim ?_
  obtain ⟨so,q⟩:=hp
  have gS1:=so.k.at gS (by simp) (by omega)
  dsimp only [O0] at kR
  refine W.assoc ?_
  refine zCh ?_
  simp (disch:=first|omega|exact zE rfl|exact zO|exact zL rfl) [c16_o18,zG,q,gS1,hi,hi',hZ]
  refine zCh ?_
  simp (disch:=first|omega|exact zE rfl|exact zO|exact zL rfl) [zG,q]
  exact kR _ _ ⟨so,by simp [T.get,q]⟩
theorem c16_l1_ok (J : CallF) {Z : Nat} (hA : A.N ≤ lo) (gS : A.get Z = .cells 1 m ZZ) (hZS : S ≤ Z) (hZ : ZZ.length = m) (hm : m ≤ 1000) :
  Tr tbl J c16_l1 (O0 lo S A ZZ x1 x5 x6 x8 x10 x11 x12 Z m 0) (.exit 0) (O0q lo S A ZZ x1 x5 x6 x8 x10 x11 x12):=by
 refine Tr.rounds (P:=O0 lo S A ZZ x1 x5 x6 x8 x10 x11 x12 Z m) (M:=m) (fun i hi => ?_) ?_ (by simp) 0 (by omega)
 ·refine Tr.w fun s1 H1 hp _ kR => W.trim ?_
  obtain ⟨so,q⟩:=hp
  have ei:=List.getElem?_eq_getElem (show i < ZZ.length by omega)
  have l0 : Tr tbl J c16_l0 (O1 lo S A ZZ x1 x5 x6 x8 x10 x11 x12 Z m i 0) (.exit 2) (O0 lo S A ZZ x1 x5 x6 x8 x10 x11 x12 Z m i):=by
   rcases so.r (ZZ[i]'(by omega)) (List.getElem_mem _) with e1 | ⟨b,v,cs,e1,g,h1,h3⟩
   ·rw [e1] at ei
    exact c16_l0_z J gS hZS hZ ei
   ·rw [e1] at ei
    exact c16_l0_ok J hA gS hZS hZ h3 ei
  unfold O1 O0 at l0
  dsimp only [O0] at kR
  refine W.assoc ?_
  refine zCh ?_
  simp (disch:=first|omega|exact zE rfl|exact zO|exact zL rfl) [c16_o16,zG,q]
  refine zCh ?_
  simp (disch:=first|omega|exact zE rfl|exact zO|exact zL rfl) [zG,q]
  refine W.seq (W.block ?_)
  refine zCh ?_
  simp (disch:=first|omega|exact zE rfl|exact zO|exact zL rfl) [c16_o17,zG,q]
  refine W.block ?_
  refine W.use (l0) (by simp (disch:=first|omega|exact zE rfl|exact zO|exact zL rfl) [zG,q,so]) fun s1 H1 hp => ?_
  obtain ⟨so,q⟩:=hp
  try simp only [zW,if_true]
  refine W.chunk ?_
  simp (disch:=first|omega|exact zE rfl|exact zO|exact zL rfl) [c16_o21,zG,q]
  exact kR _ _ ⟨so,by simp [T.get,q]⟩
 ·refine Tr.w fun s1 H1 hp _ kR => W.trim ?_
  obtain ⟨so,q⟩:=hp
  dsimp only [O0q] at kR
  refine W.assoc ?_
  refine zCh ?_
  simp (disch:=first|omega|exact zE rfl|exact zO|exact zL rfl) [c16_o16,zG,q]
  refine zCh ?_
  simp (disch:=first|omega|exact zE rfl|exact zO|exact zL rfl) [zG,q]
  exact kR _ _ ⟨so,by simp [T.get,q]⟩
theorem c16_l2_ok (J : CallF) {b v : Nat} {cs0 : List AV} (hN : A.N ≤ b) (g0 : A.get b = .cells 1 v cs0) (hc : cs0.length = n) (hn : n ≤ 1000) :
  Tr tbl J c16_l2 (fun s h => h = A ∧ s.get [false] = x1 ∧ s.get [false,true] = x5 ∧ s.get [true,true] = x6 ∧ s.get [true,false,false] = x8 ∧ s.get [true,true,false] = x10 ∧ s.get [false,false,true] = .slice b 0 n v ∧ s.get [true,false,true] = x12 ∧ s.get [false,true,false,false] = G ((0 : Nat) : Int)) (.exit 4) (fun s h => Kp (fun c => c = b) A h ∧ s.get [false] = x1 ∧ s.get [false,true] = x5 ∧ s.get [true,true] = x6 ∧ s.get [true,false,false] = x8 ∧ s.get [true,true,false] = x10 ∧ s.get [true,false,true] = x12):=by
 refine Tr.pre (P:=fun s h => (Kp (fun c => c = b) A h ∧ ∃ cs,h.get b = .cells 1 v cs ∧ cs.length = n) ∧ s.get [false] = x1 ∧ s.get [false,true] = x5 ∧ s.get [true,true] = x6 ∧ s.get [true,false,false] = x8 ∧ s.get [true,true,false] = x10 ∧ s.get [false,false,true] = .slice b 0 n v ∧ s.get [true,false,true] = x12 ∧ s.get [false,true,false,false] = G ((0 : Nat) : Int)) (fun s h ⟨h0,q⟩ => ⟨by rw [h0]; exact ⟨Kp.refl _,cs0,g0,hc⟩,q⟩) ?_
 refine Tr.rounds (P:=fun i s h => (Kp (fun c => c = b) A h ∧ ∃ cs,h.get b = .cells 1 v cs ∧ cs.length = n) ∧ s.get [false] = x1 ∧ s.get [false,true] = x5 ∧ s.get [true,true] = x6 ∧ s.get [true,false,false] = x8 ∧ s.get [true,true,false] = x10 ∧ s.get [false,false,true] = .slice b 0 n v ∧ s.get [true,false,true] = x12 ∧ s.get [false,true,false,false] = G i) (M:=n) (fun i hi => ?_) ?_ (by simp) 0 (by omega)
 ·refine Tr.w fun s1 H1 hp _ kR => W.trim ?_
  obtain ⟨⟨kp,cs,g,hl⟩,q⟩:=hp
  have hN1 : H1.N ≤ b:=by rw [kp.N]; exact hN
  have p:=put_gen H1 b v i 1 cs [.str [120]] hN1 g (by show i + 1 ≤ _; omega)
  have k2:=kp.trans (Kp.upd (M:=fun c => c = b) H1 b (.cells 1 v (putAt cs i [.str [120]])) hN1 rfl)
  have g2:=upd_same H1 b (.cells 1 v (putAt cs i [.str [120]])) hN1 (get_lt g (by simp))
  have l2 : (putAt cs i [.str [120]]).length = n:=by show (cs.set i (.str [120])).length = n; rw [List.length_set,hl]
  generalize putAt cs i [.str [120]] = c2 at *
  refine W.assoc ?_
  refine zCh ?_
  simp (disch:=first|omega|exact zE rfl|exact zO|exact zL rfl) [c16_o23,zG,q]
  refine zCh ?_
  simp (disch:=first|omega|exact zE rfl|exact zO|exact zL rfl) [zG,q]
  refine W.seq (W.block ?_)
  refine W.chunk ?_
  simp (disch:=first|omega|exact zE rfl|exact zO|exact zL rfl) [c16_o24,zG,q,g,hl,p]
  refine W.chunk ?_
  simp (disch:=first|omega|exact zE rfl|exact zO|exact zL rfl) [c16_o25,zG,q]
  exact kR _ _ ⟨⟨k2,c2,g2,l2⟩,by simp [T.get,q]⟩
 ·refine Tr.w fun s1 H1 hp _ kR => W.trim ?_
  obtain ⟨⟨kp,cs,g,hl⟩,q⟩:=hp
  refine W.assoc ?_
  refine zCh ?_
  simp (disch:=first|omega|exact zE rfl|exact zO|exact zL rfl) [c16_o23,zG,q]
  refine zCh ?_
  simp (disch:=first|omega|exact zE rfl|exact zO|exact zL rfl) [zG,q]
  exact kR _ _ ⟨kp,by simp [T.get,q]⟩
theorem c16_l2_z (J : CallF) {H : Heap} {x : AV} (hx : x = .nils ∨ ∃ b v,x = .slice b 0 0 v) :
  Tr tbl J c16_l2 (fun s h => h = H ∧ s.get [false] = x1 ∧ s.get [false,true] = x5 ∧ s.get [true,true] = x6 ∧ s.get [true,false,false] = x8 ∧ s.get [true,true,false] = x10 ∧ s.get [false,false,true] = x ∧ s.get [true,false,true] = x12 ∧ s.get [false,true,false,false] = G ((0 : Nat) : Int)) (.exit 4) (fun s h => h = H ∧ s.get [false] = x1 ∧ s.get [false,true] = x5 ∧ s.get [true,true] = x6 ∧ s.get [true,false,false] = x8 ∧ s.get [true,true,false] = x10 ∧ s.get [true,false,true] = x12):=by
 refine Tr.out ?_ (by simp)
 rcases hx with rfl | ⟨b,v,rfl⟩
 all_goals
  refine Tr.w fun s1 H1 hp _ kR => W.trim ?_
  obtain ⟨rfl,q⟩:=hp
  refine W.assoc ?_
  refine zCh ?_
  simp (disch:=first|omega|exact zE rfl|exact zO|exact zL rfl) [c16_o23,zG,q]
  refine zCh ?_
  simp (disch:=first|omega|exact zE rfl|exact zO|exact zL rfl) [zG,q]
  exact kR _ _ (by simp [T.get,q])
end
theorem ext_at0 (h : Heap) (v g : Nat) (cs vs : List AV) (rest : List AObj) (b : Nat) (hb : h.size = b) (hl : cs.length = v) : Eff.app (.ext b v g vs) (h.plus (.cells g v cs :: rest)) = some (h.plus (.cells g (v + vs.length) (cs ++ vs) :: rest)):=by
 subst hb
 have hn : h.N ≤ h.size:=by unfold Heap.size; omega
 rw [ext_gen (h.plus (.cells g v cs :: rest)) h.size v g cs vs (by rw [plus_N]; exact hn) (plus_at0 _ _ _ _ rfl) hl]
 congr 1
 unfold Heap.upd Heap.plus
 congr 1
 show (h.own ++ (AObj.cells g v cs :: rest)).set (h.size - h.N) _ = _
 rw [show h.size - h.N = h.own.length by unfold Heap.size; omega]
 simp
theorem c16_o14_ok (J : CallF) {H : Heap} {nb n k p b1 b2 : Nat} {rs r1 r2 : List AV} {q0 : Int} {x1 x5 x6 x8 x10 x11 x12 : AV} (gN : H.get nb = .cells 1 n rs) (lN : rs.length = n) (gp : H.get p = .cells 0 3 [G q0,.slice b1 0 k k,.slice b2 0 k k]) (g1 : H.get b1 = .cells 1 k r1) (g2 : H.get b2 = .cells 1 k r2) (l1 : r1.length = k) (l2 : r2.length = k) (k1 : 1 ≤ k) (k3 : k ≤ 3) (n2 : n ≤ 243) :
  Tr tbl J c16_o14 (fun s h => h = H ∧ s.get [false] = x1 ∧ s.get [false,true] = x5 ∧ s.get [true,true] = x6 ∧ s.get [false,false,false] = .slice nb 0 n n ∧ s.get [true,false,false] = x8 ∧ s.get [false,true,false] = .ptr p 0 3 ∧ s.get [true,true,false] = x10 ∧ s.get [false,false,true] = x11 ∧ s.get [true,false,true] = x12) .normal (fun s h => h = H.plus [.cells 1 (n + k + k) (rs ++ r1 ++ r2),.hole,.hole,.hole] ∧ s.get [false] = x1 ∧ s.get [false,true] = x5 ∧ s.get [true,true] = x6 ∧ s.get [true,false,false] = x8 ∧ s.get [true,true,false] = x10 ∧ s.get [false,false,true] = x11 ∧ s.get [true,false,true] = x12 ∧ s.get [true,true,true] = .slice H.size 0 (n + k + k) (n + k + k)):=by
 have t0 : rs.take n = rs:=List.take_of_length_le (by omega)
 have t1 : r1.take k = r1:=List.take_of_length_le (by omega)
 have t2 : r2.take k = r2:=List.take_of_length_le (by omega)
 have hk0 : ¬ k = 0:=by omega
 have f0:=fill_plus0 H H.size rfl (.cells 1 0 []) [.hole,.hole,.hole]
 have nN:=get_lt gN (by simp)
 have np:=get_lt gp (by simp)
 have n1:=get_lt g1 (by simp)
 have n2':=get_lt g2 (by simp)
 have pk : ∀ {b : Nat} {x : AObj},H.get b = x → x ≠ .hole → ∀ X,(H.plus X).get b = x:=fun e hx X => plus_keep X e hx
 have gN':=fun X => pk gN (by simp) X
 have gp':=fun X => pk gp (by simp) X
 have g1':=fun X => pk g1 (by simp) X
 have g2':=fun X => pk g2 (by simp) X
 by_cases hn : n = 0
 ·subst hn
  obtain rfl : rs = []:=List.length_eq_zero_iff.1 lN
  have x1':=ext_at0 H 0 1 [] r1 [.hole,.hole,.hole] H.size rfl rfl
  have x2':=ext_at0 H k 1 r1 r2 [.hole,.hole,.hole] H.size rfl l1
  rw [List.nil_append,l1,Nat.zero_add] at x1'
  rw [l2] at x2'
  simp only [List.nil_append,Nat.zero_add]
  clear f0
  have f0:=fill_plus0 H H.size rfl (.cells 1 0 []) [.hole,.hole,.hole]
  refine Tr.w fun s1 H1 hp _ kR => ?_
  obtain ⟨rfl,q⟩:=hp
  refine W.chunk ?_
  simp (disch:=first|omega|exact zE rfl|exact zO|exact zL rfl) [-evDraw_c,c16_o14,zG,q,evDraw_k,f0,gN',gp',g1',g2',elems,rdOf,appA,hk0,t1,t2,l1,l2,x1',x2']
  refine kR _ _ ?_
  simp [T.get,q]
 ·have x0':=ext_at0 H 0 1 [] rs [.hole,.hole,.hole] H.size rfl rfl
  have x1':=ext_at0 H n 1 rs r1 [.hole,.hole,.hole] H.size rfl lN
  have x2':=ext_at0 H (n + k) 1 (rs ++ r1) r2 [.hole,.hole,.hole] H.size rfl (by simp [lN,l1])
  rw [List.nil_append,lN,Nat.zero_add] at x0'
  rw [l1] at x1'
  rw [l2] at x2'
  refine Tr.w fun s1 H1 hp _ kR => ?_
  obtain ⟨rfl,q⟩:=hp
  refine W.chunk ?_
  simp (disch:=first|omega|exact zE rfl|exact zO|exact zL rfl) [-evDraw_c,c16_o14,zG,q,evDraw_k,f0,gN',gp',g1',g2',elems,rdOf,appA,hk0,hn,t0,t1,t2,lN,l1,l2,x0',x1',x2']
  refine kR _ _ ?_
  simp [T.get,q]
abbrev K26n (J : CallF) : Prop:=∀ (h : Heap) (a : AR) (m : Int),OkR a h → a.rm m = true → ∃ nb own,J 26 [a.v,G m] h = some (.tup [.slice nb 0 (a.steps m).length (a.steps m).length,G 0],own,false) ∧ NS h.size (h.plus own) nb (a.steps m)
structure KnOw (J : CallF) : Prop where
 k18 : K18 J
 k19 : K19 J
 k20 : K20 J
 k22 : K22 J
 k24 : K24 J
 k25 : K25 J
 k26 : K26n J
 k29 : K29 J
 k30 : K30 J
 k44 : K44 J
 k48 : K48 J
 k23 : ∀ h,J 23 [] h = some (.bool true,[],false)
theorem cutM_id {M : List (List Int)} (h1 : M.length ≤ 6) (h2 : ∀ l ∈ M,l.length ≤ 6) : cutM M = M:=by
 unfold cutM
 rw [List.take_of_length_le (by omega)]
 conv => rhs; rw [← List.map_id M]
 apply List.map_congr_left
 intro l hl
 exact List.take_of_length_le (by have:=h2 l hl; omega)
theorem tabQ_len {n : Nat} {B : List (List Int)} (h : tabQ n B = true) : B.length = n ∧ ∀ l ∈ B,l.length = n:=by
 obtain ⟨h1,h2⟩:=tabQ_row h
 refine ⟨h1,fun l hl => ?_⟩
 obtain ⟨i,hi,rfl⟩:=List.mem_iff_getElem.1 hl
 have:=h2 i (by omega)
 rw [List.getD_eq_getElem?_getD,List.getElem?_eq_getElem hi] at this
 exact this
section
variable {nq m0 : Int} {X Y : List (List Int)}
theorem TB.two {H0 H : Heap} {x : AV} {k : Nat} {B : List (List Int)} (t : TB H0 H x (B.map gs)) (hB : B.length = k) (k1 : 1 ≤ k) (hr : ∀ l ∈ B,l.length = k) : ∃ b rs,x = .slice b 0 k k ∧ H.get b = .cells 1 k rs ∧ rs.length = k ∧ ∀ r ∈ rs,∃ c cs,r = .slice c 0 cs.length k ∧ H.get c = .cells 1 k cs ∧ H0.size ≤ c ∧ c < H.size ∧ cs.length = k:=by
 obtain ⟨rs,lv,e,hr'⟩:=t.r
 rw [List.length_map,hB] at e
 obtain ⟨b,e1,e2⟩:=lv.sl (by intro x; rw [x] at e; simp at e; omega)
 rw [e] at e1 e2
 refine ⟨b,rs,e1,e2,e,fun r hm => ?_⟩
 obtain ⟨i,hi⟩:=List.mem_iff_getElem?.1 hm
 obtain ⟨cs,c,h1,h2,h3,h4,h5⟩:=hr' i r hi
 have lc : cs.length = k:=by
  rw [List.getElem?_map,Option.map_eq_some_iff] at h1
  obtain ⟨l,g1,rfl⟩:=h1
  rw [List.length_map]
  exact hr l (List.mem_of_getElem? g1)
 refine ⟨c,cs,by rw [h2,lc],by rw [h3,lc],h5,get_lt h3 (by simp),lc⟩
set_option maxHeartbeats 4000000 in
theorem c16_ok (J : CallF) (K : KnOw J) (hJ : ∀ a h,J 16 a h = none) (h : Heap) {x y : AV} (mx : MR h x X) (my : MR h y Y) : CallsTo tbl J 16 [.agg [G nq,x,y],G m0] h (.bool true,[],false):=by
 refine Tr.fnv (cf:=c16) (e:=.ret) (s:=T.set (T.set .leaf [] (.agg [G nq,x,y])) [false] (G m0)) (by decide) rfl (hJ _ _) rfl rfl rfl (by simp) ?_
 refine Tr.post (Q:=(fun s h => s.get [true,false] = .bool true)) (fun s h q => by simp [c16,q]) ?_
 have mx0 : MR (frameOf h) x X:=mx.lo []
 have my0 : MR (frameOf h) y Y:=my.lo []
 generalize frameOf h = H0 at *
 obtain ⟨Hr,hr⟩ : ∃ H,H0.plus [.cells 0 3 [G nq,x,y]] = H:=⟨_,rfl⟩
 have kr : Kp (fun _ => False) H0 Hr:=by rw [← hr]; exact Kp.plus _ _
 have gS0 : Hr.get H0.size = .cells 0 3 [G nq,x,y]:=by rw [← hr]; exact plus_at0 _ _ _ _ rfl
 obtain ⟨v,own1,e18,n,x1,y1,B,Wt,rfl,hn,⟨t1,hB⟩,t2,hW⟩:=K.k18 Hr ⟨nq,x,y,X,Y⟩ ⟨mx0.kp kr,my0.kp kr⟩
 simp only at e18
 obtain ⟨Ha,ha⟩ : ∃ H,Hr.plus own1 = H:=⟨_,rfl⟩
 rw [ha] at t1 t2
 obtain ⟨Hb,hb⟩ : ∃ H,Ha.plus [.cells 0 3 [G n,x1,y1]] = H:=⟨_,rfl⟩
 have kb : Kp (fun _ => False) Ha Hb:=by rw [← hb]; exact Kp.plus _ _
 have gb : Hb.get Ha.size = .cells 0 3 [G n,x1,y1]:=by rw [← hb]; exact plus_at0 _ _ _ _ rfl
 have t1b:=t1.kp kb
 have t2b:=t2.kp kb
 obtain ⟨sB,sB1,sB2⟩:=tabQ_small hB hn.2
 obtain ⟨sW,sW1,sW2⟩:=tabQ_small hW hn.2
 obtain ⟨lB,lB2⟩:=tabQ_len hB
 obtain ⟨lW,lW2⟩:=tabQ_len hW
 obtain ⟨x2,y2,own2,e24,u1,u2⟩:=K.k24 Hb ⟨n,x1,y1,B,Wt⟩ ⟨t1b.mr,t2b.mr⟩
 simp only at e24 u1 u2
 rw [cutM_id (by omega) (fun l hl => by rw [lB2 l hl]; omega)] at u1
 rw [cutM_id (by omega) (fun l hl => by rw [lW2 l hl]; omega)] at u2
 obtain ⟨Hc,hc⟩ : ∃ H,Hb.plus own2 = H:=⟨_,rfl⟩
 have kc : Kp (fun _ => False) Hb Hc:=by rw [← hc]; exact Kp.plus _ _
 rw [hc] at u1 u2
 obtain ⟨Hd,hd⟩ : ∃ H,Hc.plus [.cells 0 3 [G n,x2,y2]] = H:=⟨_,rfl⟩
 have kd : Kp (fun _ => False) Hc Hd:=by rw [← hd]; exact Kp.plus _ _
 have gd6 : Hd.get Hc.size = .cells 0 3 [G n,x2,y2]:=by rw [← hd]; exact plus_at0 _ _ _ _ rfl
 have gd5:=(kc.trans kd).at gb (by simp) id
 have t1d:=t1b.kp (kc.trans kd)
 have t2d:=t2b.kp (kc.trans kd)
 have u1d:=u1.kp kd
 have u2d:=u2.kp kd
 have oa : OkR (AR.of n x1 y1 B Wt) Hd:=⟨t1d.mr,t2d.mr,sB,sW⟩
 have oc : OkR (AR.of n x2 y2 B Wt) Hd:=⟨u1d.mr,u2d.mr,sB,sW⟩
 have m1:=mdZ_bd m0 (n:=3) (by omega)
 have e19:=K.k19 m0 3 Hd (by omega) (by omega)
 generalize mdZ m0 3 = zm at *
 obtain ⟨M,hM⟩ : ∃ M : Nat,zm = M:=⟨zm.toNat,by omega⟩
 subst hM
 have ru:=ru_of (x:=x1) (y:=y1) hn hB hW
 have rm : (AR.of n x1 y1 B Wt).rm (M + 1 : Nat) = true:=by
  unfold AR.rm
  rw [ru,decide_eq_true (by omega)]; rfl
 have ruc:=ru_of (x:=x2) (y:=y2) hn hB hW
 have va : (AR.of n x1 y1 B Wt).v = .agg [G n,x1,y1]:=rfl
 have rowsE : (AR.of n x2 y2 B Wt).g = ⟨n,x2,y2,B,Wt⟩:=rfl
 obtain ⟨a,haa⟩ : ∃ a,AR.of n x1 y1 B Wt = a:=⟨_,rfl⟩
 have aB : a.B = B:=by rw [← haa]; rfl
 have aW : a.W = Wt:=by rw [← haa]; rfl
 have aq : a.q = n:=by rw [← haa]; rfl
 rw [haa] at oa ru rm va
 obtain ⟨os,s243,sr⟩:=AR.steps_ok rm
 have a1 : ((M + 1 : Nat) : Int) = 1 + (M : Int):=by omega
 have k23:=K.k23
 obtain ⟨nb,own26,e26,ns⟩:=K.k26 Hd a (M + 1 : Nat) oa rm
 obtain ⟨He,he⟩ : ∃ H,Hd.plus own26 = H:=⟨_,rfl⟩
 have ke : Kp (fun _ => False) Hd He:=by rw [← he]; exact Kp.plus _ _
 rw [he] at ns
 obtain ⟨v20,own20,e20,_,p20⟩:=K.k20 He a (oa.kp ke)
 obtain ⟨xt,yt,rfl,tx,ty⟩:=p20 ru
 rw [aW] at tx
 rw [aB] at ty
 rw [aq] at e20
 obtain ⟨Hf,hf⟩ : ∃ H,He.plus own20 = H:=⟨_,rfl⟩
 have kf : Kp (fun _ => False) He Hf:=by rw [← hf]; exact Kp.plus _ _
 rw [hf] at tx ty
 obtain ⟨b1,r1,rfl,g1,l1,hr1⟩:=tx.two lW hn.1 lW2
 obtain ⟨b2,r2,rfl,g2,l2,hr2⟩:=ty.two lB hn.1 lB2
 obtain ⟨Hg,hg⟩ : ∃ H,Hf.plus [.cells 0 3 [G n,.slice b1 0 n n,.slice b2 0 n n]] = H:=⟨_,rfl⟩
 have kg : Kp (fun _ => False) Hf Hg:=by rw [← hg]; exact Kp.plus _ _
 have gg9 : Hg.get Hf.size = .cells 0 3 [G n,.slice b1 0 n n,.slice b2 0 n n]:=by rw [← hg]; exact plus_at0 _ _ _ _ rfl
 have kdg:=(ke.trans kf).trans kg
 obtain ⟨v25,own25,e25,_,p25⟩:=K.k25 Hg a (M + 1 : Nat) (oa.kp kdg)
 obtain ⟨xl,rfl,rl,bl0⟩:=p25 rm
 simp only at rl
 obtain ⟨Hh,hh⟩ : ∃ H,Hg.plus own25 = H:=⟨_,rfl⟩
 have kh : Kp (fun _ => False) Hg Hh:=by rw [← hh]; exact Kp.plus _ _
 rw [hh] at rl
 have kdh:=kdg.trans kh
 obtain ⟨rs,gN,lN,hnb,hrs⟩:=ns
 have eg5:=kdg.at gd5 (by simp) id
 have ee5:=ke.at gd5 (by simp) id
 have lwr:=wsL_len (a.rows (M + 1 : Nat))
 rw [← sr] at lwr
 have tail : ∀ H,Kp (fun _ => False) Hh H → ∃ A ZZ mm,
   Tr tbl J c16_o14 (fun s h => h = H ∧ s.get [false] = G (1 + (M : Int)) ∧ s.get [false,true] = .ptr Ha.size 0 3 ∧ s.get [true,true] = .ptr Hc.size 0 3 ∧ s.get [false,false,false] = .slice nb 0 (a.steps (M + 1 : Nat)).length (a.steps (M + 1 : Nat)).length ∧ s.get [true,false,false] = G 0 ∧ s.get [false,true,false] = .ptr Hf.size 0 3 ∧ s.get [true,true,false] = G 0 ∧ s.get [false,false,true] = xl ∧ s.get [true,false,true] = G 0) .normal (fun s h => h = A ∧ s.get [false] = G (1 + (M : Int)) ∧ s.get [false,true] = .ptr Ha.size 0 3 ∧ s.get [true,true] = .ptr Hc.size 0 3 ∧ s.get [true,false,false] = G 0 ∧ s.get [true,true,false] = G 0 ∧ s.get [false,false,true] = xl ∧ s.get [true,false,true] = G 0 ∧ s.get [true,true,true] = .slice H.size 0 mm mm) ∧
   SQ Hd.size Hg.size A A ZZ ∧
   Tr tbl J c16_l1 (O0 Hd.size Hg.size A ZZ (G (1 + (M : Int))) (.ptr Ha.size 0 3) (.ptr Hc.size 0 3) (G 0) (G 0) xl (G 0) H.size mm 0) (.exit 0) (O0q Hd.size Hg.size A ZZ (G (1 + (M : Int))) (.ptr Ha.size 0 3) (.ptr Hc.size 0 3) (G 0) (G 0) xl (G 0)) ∧
   ∀ A1,SQ Hd.size Hg.size A A1 ZZ → Tr tbl J c16_l2 (fun s h => h = A1 ∧ s.get [false] = G (1 + (M : Int)) ∧ s.get [false,true] = .ptr Ha.size 0 3 ∧ s.get [true,true] = .ptr Hc.size 0 3 ∧ s.get [true,false,false] = G 0 ∧ s.get [true,true,false] = G 0 ∧ s.get [false,false,true] = xl ∧ s.get [true,false,true] = G 0 ∧ s.get [false,true,false,false] = G ((0 : Nat) : Int)) (.exit 4) (fun s h => Kp (fun _ => False) Hd h ∧ s.get [false] = G (1 + (M : Int)) ∧ s.get [false,true] = .ptr Ha.size 0 3 ∧ s.get [true,true] = .ptr Hc.size 0 3 ∧ s.get [true,false,false] = G 0 ∧ s.get [true,true,false] = G 0 ∧ s.get [true,false,true] = G 0):=fun H kH => by
  obtain ⟨A,hA⟩ : ∃ A,H.plus [.cells 1 ((a.steps (M + 1 : Nat)).length + n + n) (rs ++ r1 ++ r2),.hole,.hole,.hole] = A:=⟨_,rfl⟩
  have kA : Kp (fun _ => False) H A:=by rw [← hA]; exact Kp.plus _ _
  have gA : A.get H.size = .cells 1 ((a.steps (M + 1 : Nat)).length + n + n) (rs ++ r1 ++ r2):=by rw [← hA]; exact plus_at0 _ _ _ _ rfl
  have kgH:=(kh.trans kH)
  have s1 : He.size ≤ Hf.size:=kf.size
  have s2 : Hf.size ≤ Hg.size:=kg.size
  have s3 : Hg.size ≤ H.size:=kgH.size
  have s0 : Hd.size ≤ He.size:=ke.size
  have kfA:=(kg.trans kgH).trans kA
  have keA:=kf.trans kfA
  have hAN : A.N ≤ Hd.size:=by
   rw [(ke.trans keA).N]; unfold Heap.size; omega
  have lZ : (rs ++ r1 ++ r2).length = (a.steps (M + 1 : Nat)).length + n + n:=by rw [List.length_append,List.length_append,lN,l1,l2]
  refine ⟨A,rs ++ r1 ++ r2,(a.steps (M + 1 : Nat)).length + n + n,?_,⟨Kp.refl _,fun r hr => ?_⟩,c16_l1_ok J hAN gA s3 lZ (by omega),fun A1 so => ?_⟩
  ·have:=c16_o14_ok (x1:=G (1 + (M : Int))) (x5:=.ptr Ha.size 0 3) (x6:=.ptr Hc.size 0 3) (x8:=G 0) (x10:=G 0) (x11:=xl) (x12:=G 0) J ((kf.trans (kg.trans kgH)).at gN (by simp) id) lN (kgH.at gg9 (by simp) id) ((kg.trans kgH).at g1 (by simp) id) ((kg.trans kgH).at g2 (by simp) id) l1 l2 hn.1 hn.2 s243
   rw [hA] at this
   exact this
  ·rcases List.mem_append.1 hr with hr | hr
   ·rcases List.mem_append.1 hr with hr | hr
    ·obtain ⟨i,hi,rfl⟩:=List.mem_iff_getElem.1 hr
     obtain ⟨y',e1,e2,e3⟩:=hrs i (by omega)
     rw [List.getElem?_eq_getElem hi,Option.some.injEq] at e1
     rw [e1]
     rcases e2 with ⟨rfl,_⟩ | ⟨b,v',rfl,g⟩
     ·exact .inl rfl
     ·right
      have:=os.len i
      refine ⟨b,v',_,rfl,keA.at g (by simp) id,⟨e3 b rfl,by have:=get_lt g (by simp); omega⟩,by rw [gn_len]; exact this⟩
    ·obtain ⟨c,cs,e1,e2,e3,e4,e5⟩:=hr1 r hr
     exact .inr ⟨c,n,cs,e1,kfA.at e2 (by simp) id,⟨by omega,by omega⟩,by omega⟩
   ·obtain ⟨c,cs,e1,e2,e3,e4,e5⟩:=hr2 r hr
    exact .inr ⟨c,n,cs,e1,kfA.at e2 (by simp) id,⟨by omega,by omega⟩,by omega⟩
  ·have kdA : Kp (fun _ => False) Hd A1:=((ke.trans keA)).late so.k fun q hq => hq.1
   have rA:=(rl.kp kH (fun _ _ => id)).kp kA (fun _ _ => id)
   rcases rA with ⟨e1,_⟩ | ⟨b,v',e1,g⟩
   ·exact Tr.post (fun s h ⟨h0,q⟩ => ⟨by rw [h0]; exact kdA,q⟩) (c16_l2_z J (.inl e1))
   ·have hb0:=bl0 b (by rw [e1]; rfl)
    have gA1:=so.k.at g (by simp) (by omega)
    rw [e1,lwr]
    refine Tr.post (fun s h ⟨h0,q⟩ => ⟨kdA.late h0 fun c hc => by omega,q⟩) (c16_l2_ok J (by rw [so.k.N]; omega) gA1 lwr (by omega))
 have last : ∀ A2,Kp (fun _ => False) Hd A2 → ∃ x18 own A3 x30 own30 A4,A2.get Ha.size = .cells 0 3 [G n,x1,y1] ∧ J 25 [.agg [G n,x1,y1],G (1 + (M : Int))] A2 = some (.tup [x18,G 0],own,false) ∧ A2.plus own = A3 ∧ A3.get Ha.size = .cells 0 3 [G n,x1,y1] ∧ A3.get Hc.size = .cells 0 3 [G n,x2,y2] ∧ J 22 [x1,x2] A3 = some (.bool true,[],false) ∧ J 22 [y1,y2] A3 = some (.bool true,[],false) ∧ J 30 [.agg [G n,x2,y2],G (1 + (M : Int))] A3 = some (x30,own30,false) ∧ A3.plus own30 = A4 ∧ J 29 [x18,x30] A4 = some (.bool true,[],false):=fun A2 k2 => by
  obtain ⟨v,own,e,_,p⟩:=K.k25 A2 a (M + 1 : Nat) (oa.kp k2)
  obtain ⟨x18,rfl,r18,_⟩:=p rm
  simp only at r18
  rw [va,a1] at e
  have k3 : Kp (fun _ => False) A2 (A2.plus own):=Kp.plus _ _
  have k23':=k2.trans k3
  obtain ⟨x30,own30,e30,r30,_⟩:=K.k30 (A2.plus own) _ (M + 1) ((oc.kp k23').g ruc) (by omega)
  have k4 : Kp (fun _ => False) (A2.plus own) ((A2.plus own).plus own30):=Kp.plus _ _
  have gv : (AR.of n x2 y2 B Wt).g.v = .agg [G n,x2,y2]:=rfl
  rw [gv,a1] at e30
  have rE : rwL (AR.of n x2 y2 B Wt).g.q (AR.of n x2 y2 B Wt).g.B (M + 1) = a.rows (M + 1 : Nat):=by
   unfold AR.rows
   rw [aB,aq,Int.toNat_natCast]; rfl
  rw [rE,ws_ss] at r30
  have r18:=r18.kp k4 (fun _ _ => id)
  rw [ws_ss] at r18
  have big : ((a.rows (M + 1 : Nat)).map stW).length ≤ 1000000:=by rw [List.length_map,← sr]; omega
  have e29:=K.k29 _ ⟨x18,x30,_,_⟩ r18 r30 big big
  simp only [decide_true] at e29
  have e22:=K.k22 (A2.plus own) ⟨B,B,x1,x2⟩ ⟨(t1d.kp k23').lt,(u1d.kp k23').lt,sB1,sB1,sB2⟩
  have e22':=K.k22 (A2.plus own) ⟨Wt,Wt,y1,y2⟩ ⟨(t2d.kp k23').lt,(u2d.kp k23').lt,sW1,sW1,sW2⟩
  simp only [decide_true] at e22 e22'
  exact ⟨x18,own,_,x30,own30,_,k2.at gd5 (by simp) id,e,rfl,k23'.at gd5 (by simp) id,k23'.at gd6 (by simp) id,e22,e22',e30,rfl,e29⟩
 rw [va] at e20 e25 e26
 by_cases c0 : (a.steps (M + 1 : Nat)).length = 0
 ·obtain ⟨A,ZZ,mm,t14,so0,l1',l2'⟩:=tail Hh (Kp.refl _)
  unfold O0 O0q at l1'
  have sl:=rl.sl
  rw [lwr,c0] at sl
  clear K mx my mx0 my0 t1 t2 t1b t2b t1d t2d u1 u2 u1d u2d oa oc kr kb kc kd ke kf kg kh kdg kdh va haa aB aW aq sB sB1 sB2 sW sW1 sW2 ru rm ruc rowsE os s243 sr hB hW lB lB2 lW lW2 p25 p20 rl bl0 hrs hr1 hr2 tx ty tail lwr g1 g2 l1 l2 gN lN hnb
  generalize (a.steps (M + 1 : Nat)).length = nS at *
  rw [a1] at e25 e26
  subst c0
  rcases sl with ⟨rfl,_⟩ | ⟨bl,vl,rfl⟩
  all_goals
   refine Tr.w fun s1 H1 hp _ kR => ?_
   obtain ⟨rfl,rfl⟩:=hp
   have q : True:=trivial
   refine zCh ?_
   simp (disch:=first|omega|exact zE rfl|exact zO|exact zL rfl) [c16_o0,zG,q,hr]
   refine zCh ?_
   simp (disch:=first|omega|exact zE rfl|exact zO|exact zL rfl) [c16_o1,zG,q,gS0,e18,app_if,app_if',ha,hb]
   refine zCh ?_
   simp (disch:=first|omega|exact zE rfl|exact zO|exact zL rfl) [c16_o2,zG,q,gb,e24,app_if,app_if',hc,hd]
   refine zCh ?_
   simp (disch:=first|omega|exact zE rfl|exact zO|exact zL rfl) [c16_o3,zG,q,e19]
   refine zCh ?_
   simp (disch:=first|omega|exact zE rfl|exact zO|exact zL rfl) [c16_o4,zG,q,gd5,e26,app_if,app_if',he]
   refine zCh ?_
   simp (disch:=first|omega|exact zE rfl|exact zO|exact zL rfl) [c16_o5,zG,q,ee5,e20,app_if,app_if',hf,hg]
   refine zCh ?_
   simp (disch:=first|omega|exact zE rfl|exact zO|exact zL rfl) [c16_o6,zG,q,eg5,e25,app_if,app_if',hh]
   refine zCh ?_
   simp (disch:=first|omega|exact zE rfl|exact zO|exact zL rfl) [c16_o7,zG,q]
   refine W.assoc ?_
   refine zCh ?_
   simp (disch:=first|omega|exact zE rfl|exact zO|exact zL rfl) [c16_o8,zG,q]
   refine zCh ?_
   simp (disch:=first|omega|exact zE rfl|exact zO|exact zL rfl) [c16_o10,c16_o11,c16_o12,c16_o13,c16_o9,zG,q,-evDraw_c,evDraw_0]
   refine W.seq (W.use (t14) (by simp (disch:=first|omega|exact zE rfl|exact zO|exact zL rfl) [zG,q]) fun s1 H1 hp => ?_)
   obtain ⟨rfl,q⟩:=hp
   try simp only [zW,if_true]
   refine W.assoc ?_
   refine zCh ?_
   simp (disch:=first|omega|exact zE rfl|exact zO|exact zL rfl) [c16_o15,zG,q]
   refine W.seq (W.block ?_)
   refine W.use (l1') (by simp (disch:=first|omega|exact zE rfl|exact zO|exact zL rfl) [zG,q,so0]) fun s1 H1 hp => ?_
   obtain ⟨so,q⟩:=hp
   try simp only [zW,if_true]
   refine W.assoc ?_
   refine zCh ?_
   simp (disch:=first|omega|exact zE rfl|exact zO|exact zL rfl) [c16_o22,zG,q]
   refine W.seq (W.block ?_)
   refine W.use (l2' _ so) (by simp (disch:=first|omega|exact zE rfl|exact zO|exact zL rfl) [zG,q]) fun s1 H1 hp => ?_
   obtain ⟨k2,q⟩:=hp
   try simp only [zW,if_true]
   obtain ⟨x18,own,A3,x30,own30,A4,f1,f2,f3,f4,f5,f6,f7,f8,f9,f10⟩:=last _ k2
   refine zCh ?_
   simp (disch:=first|omega|exact zE rfl|exact zO|exact zL rfl) [c16_o26,zG,q,f1,f2,app_if,app_if',f3]
   refine zCh ?_
   simp (disch:=first|omega|exact zE rfl|exact zO|exact zL rfl) [c16_o27,zG,q,f4,f5,f6,f7,f8,app_if,app_if',f9,f10,k23]
   refine W.ret ?_
   try simp only [zW,if_true]
   exact kR _ _ (by simp [T.get])
 ·obtain ⟨bl,vl,rfl,gl⟩ : ∃ b v,xl = .slice b 0 (a.steps (M + 1 : Nat)).length v ∧ Hh.get b = .cells 1 v (wsL (a.rows (M + 1 : Nat))):=by
   rcases rl with ⟨_,e⟩ | ⟨b,v,e,g⟩
   ·have : 0 = (a.steps (M + 1 : Nat)).length:=by rw [← lwr,e]; rfl
    omega
   ·rw [lwr] at e; exact ⟨b,v,e,g⟩
  have w0:=wsL_at (R:=a.rows (M + 1 : Nat)) (i:=0) (by omega)
  have w0':=getI w0
  obtain ⟨x13,ef,Hi,q1,q2,nv2,_⟩:=(NV.nil Hh).app Hh.size 16 (.str (stW ((a.rows (M + 1 : Nat)).getD 0 []))) (by simp)
  rw [List.nil_append] at nv2
  have ap:=app1_at Hh (.str (stW ((a.rows (M + 1 : Nat)).getD 0 [])))
  obtain ⟨bz,ez,gz,_⟩:=nv2.l.resolve_left (fun e => by have:=e.2; simp at this)
  simp only [List.length_singleton] at ez gz
  subst ez
  have ki:=nv2.k
  have w5 : (stW ((a.rows (M + 1 : Nat)).getD 0 [])).length ≤ 1000000:=by
   have hm:=rwL_mem (List.getElem_mem (show 0 < (a.rows (M + 1 : Nat)).length by omega))
   rw [stW_len,List.getD_eq_getElem?_getD,List.getElem?_eq_getElem (by omega),Option.getD_some]
   have:=hm.1
   omega
  have ok45 : Ok45 ⟨a,.slice bz 0 1 1,[stW ((a.rows (M + 1 : Nat)).getD 0 [])]⟩ Hi:=⟨oa.kp (kdh.trans ki),.inr ⟨bz,1,rfl,gz⟩,by show 1 ≤ _; omega,fun s hs => by
   rw [List.mem_singleton.1 hs]; exact w5⟩
  obtain ⟨v48,own48,e48,_⟩:=K.k48 Hi ⟨a,.slice bz 0 1 1,[stW ((a.rows (M + 1 : Nat)).getD 0 [])],3⟩ ok45
  simp only at e48
  obtain ⟨Hj,hj⟩ : ∃ H,Hi.plus own48 = H:=⟨_,rfl⟩
  have kj : Kp (fun _ => False) Hi Hj:=by rw [← hj]; exact Kp.plus _ _
  have gzj:=kj.at gz (by simp) id
  obtain ⟨v44,own44,e44,rfl,_⟩:=K.k44 Hj ⟨a,.slice bz 0 1 1,[stW ((a.rows (M + 1 : Nat)).getD 0 [])]⟩ ⟨ok45.1.kp kj,.inr ⟨bz,1,rfl,gzj⟩,ok45.2.2⟩
  simp only at e44
  have glj:=(ki.trans kj).at gl (by simp) id
  have gh5:=kdh.at gd5 (by simp) id
  have gi5:=ki.at gh5 (by simp) id
  have gj5:=kj.at gi5 (by simp) id
  obtain ⟨A,ZZ,mm,t14,so0,l1',l2'⟩:=tail Hj (ki.trans kj)
  unfold O0 O0q at l1'
  rw [va] at e48 e44
  have n0 : 0 < (a.steps (M + 1 : Nat)).length:=by omega
  clear K mx my mx0 my0 t1 t2 t1b t2b t1d t2d u1 u2 u1d u2d oa oc kr kb kc kd ke kf kg kh kdg kdh va haa aB aW aq sB sB1 sB2 sW sW1 sW2 ru rm ruc rowsE os s243 sr hB hW lB lB2 lW lW2 p25 p20 rl bl0 hrs hr1 hr2 tx ty tail g1 g2 l1 l2 gN lN hnb nv2 ki kj ok45 w5 c0
  generalize stW ((a.rows (M + 1 : Nat)).getD 0 []) = u0 at *
  generalize wsL (a.rows (M + 1 : Nat)) = wl at *
  generalize (a.steps (M + 1 : Nat)).length = nS at *
  rw [a1] at e25 e26
  refine Tr.w fun s1 H1 hp _ kR => ?_
  obtain ⟨rfl,rfl⟩:=hp
  have q : True:=trivial
  refine zCh ?_
  simp (disch:=first|omega|exact zE rfl|exact zO|exact zL rfl) [c16_o0,zG,q,hr]
  refine zCh ?_
  simp (disch:=first|omega|exact zE rfl|exact zO|exact zL rfl) [c16_o1,zG,q,gS0,e18,app_if,app_if',ha,hb]
  refine zCh ?_
  simp (disch:=first|omega|exact zE rfl|exact zO|exact zL rfl) [c16_o2,zG,q,gb,e24,app_if,app_if',hc,hd]
  refine zCh ?_
  simp (disch:=first|omega|exact zE rfl|exact zO|exact zL rfl) [c16_o3,zG,q,e19]
  refine zCh ?_
  simp (disch:=first|omega|exact zE rfl|exact zO|exact zL rfl) [c16_o4,zG,q,gd5,e26,app_if,app_if',he]
  refine zCh ?_
  simp (disch:=first|omega|exact zE rfl|exact zO|exact zL rfl) [c16_o5,zG,q,ee5,e20,app_if,app_if',hf,hg]
  refine zCh ?_
  simp (disch:=first|omega|exact zE rfl|exact zO|exact zL rfl) [c16_o6,zG,q,eg5,e25,app_if,app_if',hh]
  refine zCh ?_
  simp (disch:=first|omega|exact zE rfl|exact zO|exact zL rfl) [c16_o7,zG,q]
  refine W.assoc ?_
  refine zCh ?_
  simp (disch:=first|omega|exact zE rfl|exact zO|exact zL rfl) [c16_o8,zG,q,n0]
  refine W.seq (W.cond (v:=true) (by simp (disch:=first|omega|exact zE rfl|exact zO|exact zL rfl) [zG,q]) ?_)
  simp only [if_true,if_false,Bool.false_eq_true]
  refine zCh ?_
  simp (disch:=first|omega|exact zE rfl|exact zO|exact zL rfl) [c16_o9,zG,q,gl,w0,w0',lwr,elems,rdOf,ap,q1,q2]
  refine zCh ?_
  simp (disch:=first|omega|exact zE rfl|exact zO|exact zL rfl) [c16_o10,zG,q,gi5,e48,app_if,app_if',hj]
  refine zCh ?_
  simp (disch:=first|omega|exact zE rfl|exact zO|exact zL rfl) [c16_o11,zG,q,gj5,e44]
  refine zCh ?_
  simp (disch:=first|omega|exact zE rfl|exact zO|exact zL rfl) [c16_o12,zG,q,gzj,glj,w0,w0',lwr,-evDraw_c,evDraw_0]
  refine W.chunk ?_
  simp (disch:=first|omega|exact zE rfl|exact zO|exact zL rfl) [c16_o13,zG,q]
  refine W.seq (W.use (t14) (by simp (disch:=first|omega|exact zE rfl|exact zO|exact zL rfl) [zG,q]) fun s1 H1 hp => ?_)
  obtain ⟨rfl,q⟩:=hp
  try simp only [zW,if_true]
  refine W.assoc ?_
  refine zCh ?_
  simp (disch:=first|omega|exact zE rfl|exact zO|exact zL rfl) [c16_o15,zG,q]
  refine W.seq (W.block ?_)
  refine W.use (l1') (by simp (disch:=first|omega|exact zE rfl|exact zO|exact zL rfl) [zG,q,so0]) fun s1 H1 hp => ?_
  obtain ⟨so,q⟩:=hp
  try simp only [zW,if_true]
  refine W.assoc ?_
  refine zCh ?_
  simp (disch:=first|omega|exact zE rfl|exact zO|exact zL rfl) [c16_o22,zG,q]
  refine W.seq (W.block ?_)
  refine W.use (l2' _ so) (by simp (disch:=first|omega|exact zE rfl|exact zO|exact zL rfl) [zG,q]) fun s1 H1 hp => ?_
  obtain ⟨k2,q⟩:=hp
  try simp only [zW,if_true]
  obtain ⟨x18,own,A3,x30,own30,A4,f1,f2,f3,f4,f5,f6,f7,f8,f9,f10⟩:=last _ k2
  refine zCh ?_
  simp (disch:=first|omega|exact zE rfl|exact zO|exact zL rfl) [c16_o26,zG,q,f1,f2,app_if,app_if',f3]
  refine zCh ?_
  simp (disch:=first|omega|exact zE rfl|exact zO|exact zL rfl) [c16_o27,zG,q,f4,f5,f6,f7,f8,app_if,app_if',f9,f10,k23]
  refine W.ret ?_
  try simp only [zW,if_true]
  exact kR _ _ (by simp [T.get])
end
structure ARn where
 a : AR
 m : Int
def Pre26n (b : ARn) (args : List AV) (h : Heap) : Prop:=(OkR b.a h ∧ b.a.rm b.m = true) ∧ args = [b.a.v,G b.m]
def Post26n (b : ARn) (h : Heap) (v : AV) (own : List AObj) : Prop:=∃ nb,v = .tup [.slice nb 0 (b.a.steps b.m).length (b.a.steps b.m).length,G 0] ∧ NS h.size (h.plus own) nb (b.a.steps b.m)
noncomputable def U26 : CallF:=addK tbl T19 26 Pre26n Post26n
theorem u26 : Sound Go.Proofs.Try.prog U26:=Sound.addK follows ok t19 (by decide) _ _
theorem k26u : K26n U26:=fun h a m o r => by
 obtain ⟨v,own,e,nb,rfl,l⟩:=addK_some (Pre:=Pre26n) (Post:=Post26n) (fun b args h hp => by
  obtain ⟨⟨o,r⟩,rfl⟩:=hp
  exact c26_n T19 k57_19 k60_19 k61_19 (fun _ _ => by simp (disch:=decide) only [T1,T2,T3,T4,T5,T6,T7,T8,T9,T10,T11,T12,T13,T14,T15,T16,T17,T18,T19,addI_ne,addX_ne,addV_ne,addK_ne]; rfl) h o r) ⟨a,m⟩ _ h ⟨⟨o,r⟩,rfl⟩
 exact ⟨nb,own,e,l⟩
noncomputable def T85 : CallF:=addI T84 26 (U26 26)
theorem t85 : Sound Go.Proofs.Try.prog T85:=Sound.put t84 u26 26
theorem kOw85 : KnOw T85 where
 k18:=fun h a o => by
  obtain ⟨v,own,e,l⟩:=k18 h a o
  exact ⟨v,own,by rw [show T85 18 [.agg [G a.q,a.x,a.y]] h = T49 18 [.agg [G a.q,a.x,a.y]] h from by simp (disch:=decide) only [T50,T51,T52,T53,T54,T55,T56,T57,T58,T59,T60,T61,T62,T63,T64,T65,T66,T67,T68,T69,T70,T71,T72,T73,T74,T75,T76,T77,T78,T79,T80,T81,T82,T83,T84,T85,addI_ne,addX_ne,addV_ne,addK_ne,addC_ne]]; exact e,l⟩
 k19:=fun x n h h1 h2 => by
  rw [show T85 19 [G x,G n] h = T48 19 [G x,G n] h from by simp (disch:=decide) only [T49,T50,T51,T52,T53,T54,T55,T56,T57,T58,T59,T60,T61,T62,T63,T64,T65,T66,T67,T68,T69,T70,T71,T72,T73,T74,T75,T76,T77,T78,T79,T80,T81,T82,T83,T84,T85,addI_ne,addX_ne,addV_ne,addK_ne,addC_ne]]; exact k19_48 x n h h1 h2
 k20:=fun h a o => by
  obtain ⟨v,own,e,l⟩:=k20 h a o
  exact ⟨v,own,by rw [show T85 20 [a.v] h = T23 20 [a.v] h from by simp (disch:=decide) only [T24,T25,T26,T27,T28,T29,T30,T31,T32,T33,T34,T35,T36,T37,T38,T39,T40,T41,T42,T43,T44,T45,T46,T47,T48,T49,T50,T51,T52,T53,T54,T55,T56,T57,T58,T59,T60,T61,T62,T63,T64,T65,T66,T67,T68,T69,T70,T71,T72,T73,T74,T75,T76,T77,T78,T79,T80,T81,T82,T83,T84,T85,addI_ne,addX_ne,addV_ne,addK_ne,addC_ne]]; exact e,l⟩
 k22:=fun h a o => by
  rw [show T85 22 [a.x,a.z] h = T28 22 [a.x,a.z] h from by simp (disch:=decide) only [T29,T30,T31,T32,T33,T34,T35,T36,T37,T38,T39,T40,T41,T42,T43,T44,T45,T46,T47,T48,T49,T50,T51,T52,T53,T54,T55,T56,T57,T58,T59,T60,T61,T62,T63,T64,T65,T66,T67,T68,T69,T70,T71,T72,T73,T74,T75,T76,T77,T78,T79,T80,T81,T82,T83,T84,T85,addI_ne,addX_ne,addV_ne,addK_ne,addC_ne]]; exact k22 h a o
 k24:=fun h a o => by
  obtain ⟨x,y,own,e,l⟩:=k24 h a o
  exact ⟨x,y,own,by rw [show T85 24 [.agg [G a.q,a.x,a.y]] h = T31 24 [.agg [G a.q,a.x,a.y]] h from by simp (disch:=decide) only [T32,T33,T34,T35,T36,T37,T38,T39,T40,T41,T42,T43,T44,T45,T46,T47,T48,T49,T50,T51,T52,T53,T54,T55,T56,T57,T58,T59,T60,T61,T62,T63,T64,T65,T66,T67,T68,T69,T70,T71,T72,T73,T74,T75,T76,T77,T78,T79,T80,T81,T82,T83,T84,T85,addI_ne,addX_ne,addV_ne,addK_ne,addC_ne]]; exact e,l⟩
 k25:=fun h a m o => by
  obtain ⟨v,own,e,l⟩:=k25 h a m o
  exact ⟨v,own,by rw [show T85 25 [a.v,G m] h = T19 25 [a.v,G m] h from by simp (disch:=decide) only [T20,T21,T22,T23,T24,T25,T26,T27,T28,T29,T30,T31,T32,T33,T34,T35,T36,T37,T38,T39,T40,T41,T42,T43,T44,T45,T46,T47,T48,T49,T50,T51,T52,T53,T54,T55,T56,T57,T58,T59,T60,T61,T62,T63,T64,T65,T66,T67,T68,T69,T70,T71,T72,T73,T74,T75,T76,T77,T78,T79,T80,T81,T82,T83,T84,T85,addI_ne,addX_ne,addV_ne,addK_ne,addC_ne]]; exact e,l⟩
 k26:=fun h a m o r => by
  obtain ⟨nb,own,e,l⟩:=k26u h a m o r
  exact ⟨nb,own,(addI_eq _ _ _ _ _).trans e,l⟩
 k29:=fun h b h1 h2 h3 h4 => by
  rw [show T85 29 [b.x,b.z] h = T84 29 [b.x,b.z] h from by simp (disch:=decide) only [T85,addI_ne,addX_ne,addV_ne,addK_ne,addC_ne]]; exact k29_84 h b h1 h2 h3 h4
 k30:=fun h a m o m5 => by
  obtain ⟨v,own,e,l⟩:=k30_50 h a m o m5
  exact ⟨v,own,by rw [show T85 30 [a.v,G m] h = T50 30 [a.v,G m] h from by simp (disch:=decide) only [T51,T52,T53,T54,T55,T56,T57,T58,T59,T60,T61,T62,T63,T64,T65,T66,T67,T68,T69,T70,T71,T72,T73,T74,T75,T76,T77,T78,T79,T80,T81,T82,T83,T84,T85,addI_ne,addX_ne,addV_ne,addK_ne,addC_ne]]; exact e,l⟩
 k44:=fun h b o => by
  obtain ⟨v,own,e,l⟩:=k44 h b o
  exact ⟨v,own,by rw [show T85 44 [b.a.v,b.x] h = T70 44 [b.a.v,b.x] h from by simp (disch:=decide) only [T71,T72,T73,T74,T75,T76,T77,T78,T79,T80,T81,T82,T83,T84,T85,addI_ne,addX_ne,addV_ne,addK_ne,addC_ne]]; exact e,l⟩
 k48:=fun h b o => by
  obtain ⟨v,own,e,l⟩:=k48_84 h b o
  exact ⟨v,own,by rw [show T85 48 [b.a.v,b.x,G b.n] h = T84 48 [b.a.v,b.x,G b.n] h from by simp (disch:=decide) only [T85,addI_ne,addX_ne,addV_ne,addK_ne,addC_ne]]; exact e,l⟩
 k23:=fun h => by
  rw [show T85 23 [] h = T2 23 [] h from by simp (disch:=decide) only [T3,T4,T5,T6,T7,T8,T9,T10,T11,T12,T13,T14,T15,T16,T17,T18,T19,T20,T21,T22,T23,T24,T25,T26,T27,T28,T29,T30,T31,T32,T33,T34,T35,T36,T37,T38,T39,T40,T41,T42,T43,T44,T45,T46,T47,T48,T49,T50,T51,T52,T53,T54,T55,T56,T57,T58,T59,T60,T61,T62,T63,T64,T65,T66,T67,T68,T69,T70,T71,T72,T73,T74,T75,T76,T77,T78,T79,T80,T81,T82,T83,T84,T85,addI_ne,addX_ne,addV_ne,addK_ne,addC_ne]]; exact k23 h
theorem stripOwn_ok (h : Heap) (m : Int) {nq : Int} {x y : AV} {B W : List (List Int)} (mx : MR h x B) (my : MR h y W) : CallsTo tbl T85 16 [.agg [G nq,x,y],G m] h (.bool true,[],false):=c16_ok T85 kOw85 (fun _ _ => by simp (disch:=decide) only [T1,T2,T3,T4,T5,T6,T7,T8,T9,T10,T11,T12,T13,T14,T15,T16,T17,T18,T19,T20,T21,T22,T23,T24,T25,T26,T27,T28,T29,T30,T31,T32,T33,T34,T35,T36,T37,T38,T39,T40,T41,T42,T43,T44,T45,T46,T47,T48,T49,T50,T51,T52,T53,T54,T55,T56,T57,T58,T59,T60,T61,T62,T63,T64,T65,T66,T67,T68,T69,T70,T71,T72,T73,T74,T75,T76,T77,T78,T79,T80,T81,T82,T83,T84,T85,addI_ne,addX_ne,addV_ne,addK_ne,addC_ne]; rfl) h mx my
end Go.Proofs.Ytljgfdamdcikgaa.Ev
set_option linter.unusedVariables false
set_option linter.unusedSimpArgs false
namespace Go.AEv
open Go.ChangeShapes Go.WideShapes Go.Proofs.Ytljgfdamdcikgaa.Ev
theorem MR.ext {h h' : Heap} (e : Ext h h') {y : AV} {M : List (List Int)} (m : MR h y M) : MR h' y M:=by
 rcases m with m | ⟨b,v,cs,rfl,g,hl,hr⟩
 ·exact .inl m
 ·refine .inr ⟨b,v,cs,rfl,e _ _ g (by simp),hl,fun i r q => ?_⟩
  obtain ⟨l,h1,h2⟩:=hr i r q
  exact ⟨l,h1,LR.ext e h2⟩
theorem rows_lo {CK : CKT} {w : World} {H : Type} {enc : TypeId × Value → H} {P : Program} {e i : TypeId} (he : P.underlying e = some (.slice i)) (hi : P.underlying i = some (.int .i64)) (hc : P.cellsOf i = 1) :
  ∀ (vs : List Value) {φ : Nat → Emb} {h : Heap} (ho : h.own = []) (hr : HR CK w [] φ h w),(∀ u ∈ vs,∃ fuel z,DataW.trod enc P w 0 (fun _ => true) true fuel e [u] = some z) →
  ∃ φ' h',∃ (rs : List AV) (ls : List (List Int)),h'.own = [] ∧ HR CK w [] φ' h' w ∧ Stp φ h φ' h' ∧ Ext h h' ∧ rs.length = vs.length ∧ ls.length = vs.length ∧ ∀ (j : Nat) u r,vs[j]? = some u → rs[j]? = some r → VR φ' h' r u ∧ Value.oneCell' u = true ∧ ∃ l,ls[j]? = some l ∧ LR h' r l
 | [],φ,h,ho,hr,_ => ⟨φ,h,[],[],ho,hr,Stp.refl φ h,Ext.refl h,rfl,rfl,fun j u r q => by simp at q⟩
 | u :: us,φ,h,ho,hr,ht => by
  obtain ⟨fuel,z,hf⟩:=ht u (by simp)
  obtain ⟨φ1,h1,x,l,o1,r1,s1,e1,v1,p1,c1⟩:=ints_lo0 ho hr he hi hc hf
  obtain ⟨φ2,h2,rs,ls,o2,r2,s2,e2,l1,l2,q⟩:=rows_lo he hi hc us o1 r1 (fun u' hu => ht u' (by simp [hu]))
  refine ⟨φ2,h2,x :: rs,l :: ls,o2,r2,s1.trans s2,e1.trans e2,by simp [l1],by simp [l2],fun j u' r hu hr' => ?_⟩
  cases j with
  | zero =>
   simp only [List.getElem?_cons_zero,Option.some.injEq] at hu hr'
   subst hu hr'
   exact ⟨VR.step s2 _ _ v1,c1,l,rfl,p1.ext e2⟩
  | succ j =>
   simp only [List.getElem?_cons_succ] at hu hr' ⊢
   exact q j u' r hu hr'
theorem mat_lo0 {CK : CKT} {φ : Nat → Emb} {h : Heap} {w : World} (ho : h.own = []) (hr : HR CK w [] φ h w) {H : Type} {enc : TypeId × Value → H} {P : Program} {t e i : TypeId} {v : Value} {fuel : Nat} {z : DataW H × List MemPlace}
  (ht : P.underlying t = some (.slice e)) (he : P.underlying e = some (.slice i)) (hi : P.underlying i = some (.int .i64)) (hce : P.cellsOf e = 1) (hci : P.cellsOf i = 1) (hf : DataW.trod enc P w 0 (fun _ => true) true fuel t [v] = some z) :
  ∃ φ' h' x M,h'.own = [] ∧ HR CK w [] φ' h' w ∧ Stp φ h φ' h' ∧ Ext h h' ∧ VR φ' h' x v ∧ MR h' x M ∧ Value.oneCell' v = true:=by
 rcases DataW.trod_slice ht hf with ⟨hcs,_⟩ | ⟨a,len,cap,elems,rest,n,_,hcs,_,_,hl,hm,hlen,hel,hsp,_⟩
 ·have hcs' : v = .slice none 0 0:=(List.cons.inj hcs).1
  rw [hcs']
  exact ⟨φ,h,.nils,[],ho,hr,Stp.refl φ h,Ext.refl h,by simp [VR],.inl ⟨.inl rfl,rfl⟩,rfl⟩
 ·have hcs' : v = .slice (some a) len cap:=(List.cons.inj hcs).1
  rw [hcs']
  by_cases h0 : len = 0
  ·subst h0
   exact ⟨φ,h,.slice0,[],ho,hr,Stp.refl φ h,Ext.refl h,by simp [VR],.inl ⟨.inr rfl,rfl⟩,rfl⟩
  ·obtain ⟨hrl,hre⟩:=hsp rfl
   have each : ∀ j,j < cap → ∃ u,w.cell? (a.add j) = some u ∧ ∃ z,DataW.trod enc P w 0 (fun _ => true) true n e [u] = some z:=fun j hj => by
    have hb' : ∃ y,(w.cells? 0 (a.add (j * P.cellsOf e)) (P.cellsOf e)).bind (DataW.trod enc P w 0 (fun _ => true) true n e) = some y:=by
     by_cases hjl : j < len
     ·rw [hel j hjl,List.getElem?_eq_getElem (by omega)]; exact ⟨_,rfl⟩
     ·have:=hre (j - len) (by omega)
      rw [show len + (j - len) = j by omega] at this
      rw [this,List.getElem?_eq_getElem (by omega)]; exact ⟨_,rfl⟩
    obtain ⟨y,hy⟩:=hb'
    rw [hce,Nat.mul_one,Option.bind_eq_some_iff] at hy
    obtain ⟨cs',h1,h2⟩:=hy
    have hl1:=(World.cells?_some h1).2.1
    obtain ⟨u,rfl⟩ : ∃ u,cs' = [u]:=by
     cases cs' with
     | nil => simp at hl1
     | cons u r => cases r with
      | nil => exact ⟨u,rfl⟩
      | cons u' r => simp at hl1
    exact ⟨u,cell_of_cells?_one h1,y,h2⟩
   obtain ⟨f,hfe⟩ : ∃ f : Nat → Value,∀ j,j < cap → w.cell? (a.add j) = some (f j) ∧ ∃ z,DataW.trod enc P w 0 (fun _ => true) true n e [f j] = some z :=
    ⟨fun j => if hj : j < cap then Classical.choose (each j hj) else .nilFunc,fun j hj => by
     simp only [dif_pos hj]
     exact Classical.choose_spec (each j hj)⟩
   obtain ⟨b,off,spot⟩:=a
   have hspot : spot = none:=by simpa [Addr.add] using World.cell?_spot (hfe 0 (by omega)).1
   subst hspot
   have hcell : ∀ j,j < cap → w.cell? ⟨b,off + j,none⟩ = some (f j):=fun j hj => by rw [← Go.WideShapes.add_plain]; exact (hfe j hj).1
   obtain ⟨c,ty,fr,hb,hc0⟩:=cell_obj (hcell 0 (by omega))
   have hcj : ∀ j,j < cap → c[off + j]? = some (f j):=fun j hj => by
    obtain ⟨c',ty',fr',hb',hcj⟩:=cell_obj (hcell j hj)
    rw [hb] at hb'
    simp only [Option.some.injEq,Obj.cells.injEq] at hb'
    obtain ⟨rfl,_⟩:=hb'
    exact hcj
   have hsize : off + cap ≤ c.size:=by
    have:=(Array.getElem?_eq_some_iff.1 (hcj (cap - 1) (by omega))).1
    omega
   obtain ⟨φ1,h1,rs,ls,o1,r1,s1,e1,l1,l2,q⟩:=rows_lo he hi hci ((List.range len).map f) ho hr (fun u hu => by
    obtain ⟨j,hj,rfl⟩:=List.mem_map.1 hu
    obtain ⟨z,hz⟩:=(hfe j (by have:=List.mem_range.1 hj; omega)).2
    exact ⟨n,z,hz⟩)
   simp only [List.length_map,List.length_range] at l1 l2
   have hat : ∀ j,j < len → ((List.range len).map f)[j]? = some (f j):=fun j hj => by simp [hj]
   refine ⟨AEv.upd φ1 h1.N ⟨b,off,cap⟩,h1.more (.cells 1 len rs),.slice h1.N 0 len len,ls,rfl,lo_add o1 r1 _ _ ?_,s1.trans (lo_stp o1 _ _),e1.trans (more_ext h1 o1 _),?_,.inr ⟨h1.N,len,rs,by rw [l2],more_at _ _,by omega,fun j r hr' => ?_⟩,rfl⟩
   ·refine ⟨c,ty,fr,hb,hsize,by show rs.length ≤ cap; omega,fun j x hx => ?_⟩
    have hj : j < len:=by have:=(List.getElem?_eq_some_iff.1 hx).1; omega
    obtain ⟨q1,q2,_⟩:=q j (f j) x (hat j hj) hx
    exact ⟨f j,hcj j (by omega),VR.step (lo_stp o1 _ _) _ _ q1,q2⟩
   ·simp only [VR]
    exact ⟨_,cap,1,len,_,rfl,hl,more_at _ _,Nat.le_refl _,fun _ => ⟨by simp [AEv.upd],fun _ _ => by simp [AEv.upd]⟩⟩
   ·have hj : j < len:=by have:=(List.getElem?_eq_some_iff.1 hr').1; omega
    obtain ⟨_,_,l,q3,q4⟩:=q j (f j) r (hat j hj) hr'
    exact ⟨l,q3,q4.ext (more_ext h1 o1 _)⟩
structure RuleKey (P : Program) (k i t : TypeId) (f g l : Field) : Prop where
 hu : P.underlying k = some (.struct #[f,g,l])
 size : P.cellsOf k = 3
 ci : P.cellsOf i = 1
 ct : P.cellsOf t = 1
 f1 : f.type = i
 f2 : g.type = t
 f3 : l.type = t
 o1 : f.offset = 0
 o2 : g.offset = 1
 o3 : l.offset = 2
theorem okWide_rule {P : Program} {W : World} {k i t : TypeId} {f g l : Field} (A : RuleKey P k i t f g l) {r : Reach} {b0 : Nat} {v : Value} (h : Value.okWide P W r b0 k v) : ∃ c0 c1 c2,v = .agg #[c0,c1,c2]:=by
 simp only [Value.okWide,A.hu] at h
 obtain ⟨cs,h1,h2,_⟩:=h
 rw [A.size] at h2
 obtain ⟨l⟩:=cs
 match l,h2 with
 | [c0,c1,c2],_ => exact ⟨c0,c1,c2,h1⟩
theorem rule_lo {CK : CKT} {φ : Nat → Emb} {h : Heap} {w : World} (ho : h.own = []) (hr : HR CK w [] φ h w) {H : Type} {enc : TypeId × Value → H} {P : Program} {k i t e : TypeId} {f g l : Field} {v : Value} {d : DataW H} {p : List MemPlace} (A : RuleKey P k i t f g l)
  (ht : P.underlying t = some (.slice e)) (he : P.underlying e = some (.slice i)) (hi : P.underlying i = some (.int .i64)) (hce : P.cellsOf e = 1) {r : Reach} {b0 : Nat} (hval : Value.okWide P w r b0 k v) (kd : DataW.Trod enc P w 0 (fun _ => true) true k v d p) :
  ∃ φ' h' q x y B W,h'.own = [] ∧ HR CK w [] φ' h' w ∧ Stp φ h φ' h' ∧ Ext h h' ∧ VR φ' h' (.agg [.int .i64 q,x,y]) v ∧ MR h' x B ∧ MR h' y W:=by
 obtain ⟨c0,c1,c2,rfl⟩:=okWide_rule A hval
 obtain ⟨fuel,hf⟩:=kd
 cases fuel with
 | zero => simp [DataW.trod] at hf
 | succ n =>
  rw [DataW.trod_step] at hf
  unfold DataW.trodStep at hf
  simp only [A.hu,Value.cells] at hf
  rw [if_pos (by rw [A.size]; rfl)] at hf
  simp only [Option.map_eq_some_iff] at hf
  obtain ⟨xs,hx,e1⟩:=hf
  rw [List.mapM_cons,List.mapM_cons,List.mapM_cons,List.mapM_nil] at hx
  simp only [bind,Option.bind_eq_some_iff,pure,Option.some.injEq,A.ci,A.ct,A.f1,A.f2,A.f3,A.o1,A.o2,A.o3] at hx
  obtain ⟨y0,h0,_,⟨y1,h1,_,⟨y2,h2,_,rfl,rfl⟩,rfl⟩,rfl⟩:=hx
  have h0' : DataW.trod enc P w 0 (fun _ => true) true n i [c0] = some y0:=h0
  have h1' : DataW.trod enc P w 0 (fun _ => true) true n t [c1] = some y1:=h1
  have h2' : DataW.trod enc P w 0 (fun _ => true) true n t [c2] = some y2:=h2
  obtain ⟨a,ea,_,_⟩:=DataW.trod_int hi h0'
  obtain rfl : c0 = .int .i64 a:=by simpa using ea
  obtain ⟨φ1,m1,x,B,o1,r1,s1,x1,v1,p1,q1⟩:=mat_lo0 ho hr ht he hi hce A.ci h1'
  obtain ⟨φ2,m2,y,W,o2,r2,s2,x2,v2,p2,q2⟩:=mat_lo0 o1 r1 ht he hi hce A.ci h2'
  refine ⟨φ2,m2,a,x,y,B,W,o2,r2,s1.trans s2,x1.trans x2,?_,Go.AEv.MR.ext x2 p1,p2⟩
  simp only [VR,VRs]
  refine ⟨#[.int .i64 a,c1,c2],rfl,⟨_,[c1,c2],rfl,rfl,c1,[c2],rfl,VR.step s2 _ _ v1,c2,[],rfl,v2,rfl⟩,fun z hz => ?_⟩
  simp only [List.mem_cons,List.not_mem_nil,or_false] at hz
  rcases hz with rfl | rfl | rfl
  ·rfl
  ·exact q1
  ·exact q2
end Go.AEv
