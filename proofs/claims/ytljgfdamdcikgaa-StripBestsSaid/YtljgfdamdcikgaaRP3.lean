/-
 Of the functions that this law reaches,part 3: what they answer. No condition.
-/
import Derived.Test.YtljgfdamdcikgaaRP2
import Derived.Test.YtljgfdamdcikgaaRP0
import Derived.WideKeyPair
import Derived.ChangeArms
set_option linter.unusedVariables false
set_option linter.unusedSimpArgs false
namespace Go.Proofs.Ytljgfdamdcikgaa.Ev
open Go Go.AEv
attribute [local simp] evFunc initS evOps_c evTrim_c evSkip_c evExit_c evRet_c evSeq_c evCond_c evBlock_c evDraw_c runOps_n runOps_c exec_n exec_g pure1_c act AOpd.ev T.get T.set T.put evBin evUn forceT_eq forceV_eq forceL_eq evRess evRes one keep runFP_n runFP_c app_none AV.flats AV.flat came_some List.getElem?_cons_zero List.getElem?_cons_succ beqT wrapI idxI tdivI tmodI decT decF ibT ibF inT inF evScope_c if_pos if_neg Cm_some thenW_n thenW_e thenW_r blkW_n blkW_e blkW_r goI kn putAt AV.cells fillA loadA takeA mk Eff.isAll Eff.isNone Eff.commutes Eff.spares okPair apart eqAgg fits LK.fits allEq aveq eqk mmA
theorem gDm {α : Type} {L : List α} {i : Nat} {d : α} (h : i < L.length) : L.getD i d ∈ L:=by
 rw [List.getD_eq_getElem?_getD,List.getElem?_eq_getElem h]; exact List.getElem_mem _
theorem wtB_ok {q : Nat} {Wt : List (List (List Int))} (h : wtB q Wt = true) : ∃ m,(Wt.getD 0 []).length = m ∧ 1 ≤ m ∧ m ≤ 5 ∧ 1 ≤ Wt.length ∧ Wt.length ≤ 40 ∧ ∀ i,i < Wt.length → (Wt.getD i []).length = m ∧ ∀ l ∈ Wt.getD i [],l.length = q ∧ l.all smB = true:=by
 unfold wtB at h
 simp only [Bool.and_eq_true,decide_eq_true_eq] at h
 obtain ⟨⟨h1,h2⟩,h3⟩:=h
 refine ⟨_,rfl,h2.1,h2.2,h1.1,h1.2,fun i hi => ?_⟩
 have:=List.all_eq_true.1 h3 (Wt.getD i []) (gDm hi)
 unfold gridB at this
 simp only [Bool.and_eq_true,decide_eq_true_eq] at this
 refine ⟨this.1,fun l hl => ?_⟩
 have:=List.all_eq_true.1 this.2 l hl
 unfold cellB at this
 simpa using this
theorem WT.wn {h : Heap} {x : AV} {Wt : List (List (List Int))} {q m : Nat} (t : WT h x Wt) (hw : wtB q Wt = true) (hm : (Wt.getD 0 []).length = m) (q1 : 1 ≤ q) : WN h x Wt.length m q Wt ∧ SmA Wt.length m q Wt:=by
 obtain ⟨m',e,m1,m5,n1,n40,h3⟩:=wtB_ok hw
 rw [hm] at e
 subst e
 refine ⟨?_,fun i hi i' j hi' hj => ?_⟩
 ·rcases t with ⟨_,e⟩ | ⟨b,v,cs,rfl,g,lc,hr⟩
  ·rw [e] at n1; simp at n1
  ·refine ⟨b,v,cs,rfl,g,lc,fun i hi => ?_⟩
   obtain ⟨M,e1,e2⟩:=hr i cs[i] (List.getElem?_eq_getElem (by omega))
   have e3 : Wt.getD i [] = M:=by rw [List.getD_eq_getElem?_getD,e1]; rfl
   obtain ⟨h4,h5⟩:=h3 i hi
   rw [e3] at h4 h5 ⊢
   exact ⟨cs[i],List.getElem?_eq_getElem (by omega),e2.trw h4 (fun l hl => (h5 l hl).1) m1 q1⟩
 ·obtain ⟨h4,h5⟩:=h3 i hi
  have lm : (Wt.getD i []).getD i' [] ∈ Wt.getD i []:=gDm (by omega)
  obtain ⟨h6,h7⟩:=h5 _ lm
  have:=List.all_eq_true.1 h7 (((Wt.getD i []).getD i' []).getD j 0) (gDm (by omega))
  have:=of_decide_eq_true this
  exact this
section
variable {S : List (List Nat)} {R : List (List Nat)} {Wt : List (List (List Int))} {N m q p mb bx vx n : Nat}
theorem c51_l0_e (J : CallF) {H : Heap} {x a b c d : AV} :
  Tr tbl J c51_l0 (fun s h => h = H ∧ s.get [false] = x ∧ s.get [false,false,false] = a ∧ s.get [true,false,false] = b ∧ s.get [false,true,false] = c ∧ s.get [true,true,false] = d ∧ s.get [false,true,false,true,true] = .nils ∧ s.get [true,true,false,true,true] = G 0 ∧ s.get [false,false,true,true,true] = G 0) (.exit 2) (fun s h => h = H ∧ s.get [false] = x ∧ s.get [false,false,false] = a ∧ s.get [true,false,false] = b ∧ s.get [false,true,false] = c):=by
 refine Tr.out ?_ (by simp)
 refine Tr.w fun s1 H1 hp _ kR => W.trim ?_
 obtain ⟨rfl,q⟩:=hp
 refine zCh ?_
 simp (disch:=first|omega|exact zE rfl|exact zO|exact zL rfl) [c51_o9,zG,q]
 refine zCh ?_
 simp (disch:=first|omega|exact zE rfl|exact zO|exact zL rfl) [zG,q]
 exact kR _ _ (by simp [T.get,q])
theorem c51_l1_e (J : CallF) {H : Heap} {b v mm : Nat} {nx : AV} (gp : H.get p = .cells 0 3 [.nils,.map mm,nx]) (N40 : N ≤ 40) :
  Tr tbl J c51_l1 (fun s h => h = H ∧ s.get [false] = .slice b 0 N v ∧ s.get [false,false,false] = .ptr p 0 3 ∧ s.get [true,false,false] = .map mb ∧ s.get [false,true,false] = G ((N : Int) - 1)) (.exit 0) (fun s h => h = H ∧ s.get [false] = .slice b 0 N v ∧ s.get [false,false,false] = .ptr p 0 3 ∧ s.get [true,false,false] = .map mb):=by
 refine Tr.pre (P:=(fun s h => h = H ∧ s.get [false] = .slice b 0 N v ∧ s.get [false,false,false] = .ptr p 0 3 ∧ s.get [true,false,false] = .map mb ∧ s.get [false,true,false] = G ((N : Int) - 1 - ((0 : Nat) : Int)))) (fun s h q => by rw [show (N : Int) - 1 - ((0 : Nat) : Int) = (N : Int) - 1 by omega]; exact q) ?_
 refine Tr.rounds (P:=fun t => (fun s h => h = H ∧ s.get [false] = .slice b 0 N v ∧ s.get [false,false,false] = .ptr p 0 3 ∧ s.get [true,false,false] = .map mb ∧ s.get [false,true,false] = G ((N : Int) - 1 - (t : Nat)))) (M:=N) (fun t ht => ?_) ?_ (by simp) 0 (by omega)
 ·refine Tr.w fun s1 H1 hp _ kR => W.trim ?_
  obtain ⟨rfl,q⟩:=hp
  have t1 : (N : Int) - 1 - ((t + 1 : Nat) : Int) = (N : Int) - 1 - (t : Int) - 1:=by omega
  rw [t1] at kR
  have ge : (0 : Int) ≤ (N : Int) - 1 - t:=by omega
  have bk : (N : Int) - 1 - ((N : Int) - 1 - t) = t:=by omega
  have sml : (N : Int) - 1 - t ≤ 40:=by omega
  generalize (N : Int) - 1 - t = ii at *
  have l0:=c51_l0_e J (H:=H1) (x:=.slice b 0 N v) (a:=.ptr p 0 3) (b:=.map mb) (c:=G ii) (d:=G t)
  refine W.assoc ?_
  refine zCh ?_
  simp (disch:=first|omega|exact zE rfl|exact zO|exact zL rfl) [c51_o6,zG,q,ge]
  refine zCh ?_
  simp (disch:=first|omega|exact zE rfl|exact zO|exact zL rfl) [zG,q]
  refine W.seq (W.block ?_)
  refine zCh ?_
  simp (disch:=first|omega|exact zE rfl|exact zO|exact zL rfl) [c51_o7,zG,q,bk]
  refine zCh ?_
  simp (disch:=first|omega|exact zE rfl|exact zO|exact zL rfl) [c51_o8,zG,q,gp]
  refine W.block ?_
  refine W.use (l0) (by simp (disch:=first|omega|exact zE rfl|exact zO|exact zL rfl) [zG,q]) fun s1 H1 hp => ?_
  obtain ⟨rfl,q⟩:=hp
  try simp only [zW,if_true]
  refine W.chunk ?_
  simp (disch:=first|omega|exact zE rfl|exact zO|exact zL rfl) [c51_o15,zG,q]
  exact kR _ _ (by simp [T.get,q])
 ·refine Tr.w fun s1 H1 hp _ kR => W.trim ?_
  obtain ⟨rfl,q⟩:=hp
  have t1 : (N : Int) - 1 - (N : Int) = -1:=by omega
  rw [t1] at q
  refine W.assoc ?_
  refine zCh ?_
  simp (disch:=first|omega|exact zE rfl|exact zO|exact zL rfl) [c51_o6,zG,q]
  refine zCh ?_
  simp (disch:=first|omega|exact zE rfl|exact zO|exact zL rfl) [zG,q]
  exact kR _ _ (by simp [T.get,q])
theorem c51_l4_no (J : CallF) {Hc : Heap} {b v br l : Nat} {u : Nat → Nat → Int} {M : List (Nat × Nat × Int)} (gM : Hc.get mb = .map (enc M)) (km : ∀ j,j < n → mF M j l = gv S u l j) (hl : l = N - 1 - 0) (gb : Hc.get br = .cells 1 n (gn (List.range n))) (n2 : n ≤ 1000) (N1 : 1 ≤ N) (N40 : N ≤ 40) (hno : bO (gv S u l) none (List.range n) = none) :
  Tr tbl J c51_l4 (fun s h => h = Hc ∧ s.get [false] = .slice b 0 N v ∧ s.get [false,false,false] = .ptr p 0 3 ∧ s.get [true,false,false] = .map mb ∧ s.get [false,false,false,false] = .nils ∧ s.get [true,false,false,false] = .slice br 0 n n ∧ s.get [true,true,false,false] = G 0 ∧ s.get [false,false,false,true,false,true] = G N ∧ s.get [true,false,false,true,false,true] = G 0) .ret (fun s h => s.get [true,false] = .nils ∧ s.get [false,true] = G 0 ∧ s.get [true,true] = G 6):=by
 refine Tr.out ?_ (by simp)
 obtain ⟨Hp,hHp⟩ : ∃ H,Hc.plus [.cells 0 2 [G (-1),G 0]] = H:=⟨_,rfl⟩
 have kp : Kp (fun _ => False) Hc Hp:=by rw [← hHp]; exact Kp.plus _ _
 have gx : Hp.get Hc.size = .cells 0 2 [G (-1),G 0]:=by rw [← hHp]; exact plus_at0 _ _ _ _ rfl
 have hNp : Hp.N ≤ Hc.size:=by rw [kp.N]; unfold Heap.size; omega
 have lg:=gn_len (List.range n)
 rw [List.length_range] at lg
 have ry : RV Hc (.slice br 0 n n) (gn (List.range n)):=.inr ⟨br,n,by rw [lg],gb⟩
 have nb : blk (.slice br 0 n n) ≠ some Hc.size:=fun e => by
  cases e
  have:=get_lt gb (by simp)
  omega
 have l3:=c51_l3_ok (b:=b) (v:=v) (p:=p) (z:=.nils) (sm:=G 0) (L:=List.range n) J (kp.at gM (by simp) id) (fun k hk => km k (List.mem_range.1 hk)) (ry.kp kp (fun _ _ => id)) (by rw [List.length_range]; exact n2) hl (show 0 < N by omega) N40 gx hNp nb
 rw [hno,List.length_range] at l3
 have bxv : bxO l none = [G (-1),G 0]:=rfl
 rw [bxv] at l3
 have ey:=eq_yes
 have z0 : ((0 : Nat) : Int) = 0:=rfl
 rw [z0] at l3
 clear ry nb km hno
 generalize gn (List.range n) = gl at *
 refine Tr.w fun s1 H1 hp _ kR => W.trim ?_
 obtain ⟨rfl,q⟩:=hp
 refine zCh ?_
 simp (disch:=first|omega|exact zE rfl|exact zO|exact zL rfl) [c51_o25,zG,q]
 refine zCh ?_
 simp (disch:=first|omega|exact zE rfl|exact zO|exact zL rfl) [zG,q]
 refine W.seq (W.block ?_)
 refine zCh ?_
 simp (disch:=first|omega|exact zE rfl|exact zO|exact zL rfl) [c51_o26,zG,q]
 refine zCh ?_
 simp (disch:=first|omega|exact zE rfl|exact zO|exact zL rfl) [c51_o27,zG,q,hHp]
 refine W.assoc ?_
 refine zCh ?_
 simp (disch:=first|omega|exact zE rfl|exact zO|exact zL rfl) [c51_o28,zG,q]
 refine W.seq (W.block ?_)
 refine W.use (l3) (by simp (disch:=first|omega|exact zE rfl|exact zO|exact zL rfl) [zG,q]) fun s1 H1 hp => ?_
 obtain ⟨⟨k3,g3⟩,q⟩:=hp
 try simp only [zW,if_true]
 refine W.assoc ?_
 refine zCh ?_
 simp (disch:=first|omega|exact zE rfl|exact zO|exact zL rfl) [c51_o36,zG,q,g3,ey]
 refine zCh ?_
 simp (disch:=first|omega|exact zE rfl|exact zO|exact zL rfl) [c51_o37,zG,q]
 exact kR _ _ (by simp [T.get])
end
def okB (a : AR) (Wt : List (List (List Int))) : Bool:=a.ru && wtB a.q.toNat Wt
def Post51 (a : AR) (Wt : List (List (List Int))) (h : Heap) (v : AV) (own : List AObj) : Prop :=
 (okB a Wt = false → v = .tup [.nils,G 0,G 2] ∧ own = []) ∧
 (okB a Wt = true → ∀ (m : Nat) (S R : List (List Nat)) (u : Nat → Nat → Int),(Wt.getD 0 []).length = m → a.steps (m : Nat) = S → a.rows (m : Nat) = R → uZ Wt R Wt.length m = u →
  (bO (gv S u (Wt.length - 1)) none (List.range S.length) = none → v = .tup [.nils,G 0,G 6] ∧ own = []) ∧
  ∀ c s,bO (gv S u (Wt.length - 1)) none (List.range S.length) = some (c,s) → ∃ x,v = .tup [x,G s,G 0] ∧ (∀ q,blk x = some q → h.size ≤ q) ∧ RV (h.plus own) x (wsL (rT2 R (bP S u Wt.length (List.range S.length)))))
section
variable {a : AR} {x : AV} {Wt : List (List (List Int))}
theorem post51_arg {h : Heap} (e : okB a Wt = false) : Post51 a Wt h (.tup [.nils,G 0,G 2]) []:=⟨fun _ => ⟨rfl,rfl⟩,fun e' => (by rw [e] at e'; cases e')⟩
theorem mbs0 {S : List (List Nat)} {u : Nat → Nat → Int} {mb : Nat} {h : Heap} (g : h.get mb = .map []) : MBs S u mb h h 0 0:=⟨Kp.refl _,[],g,fun j' hj' l => by rw [if_neg (by omega)]; rfl⟩
theorem mbsE {S : List (List Nat)} {u : Nat → Nat → Int} {mb N : Nat} {h : Heap} (g : h.get mb = .map []) (e : S.length = 0) : MBs S u mb h h N 0:=⟨Kp.refl _,[],g,fun j' hj' l => by omega⟩
set_option maxHeartbeats 4000000 in
theorem c51_ok (J : CallF) (k57 : KR 57 J) (k61 : K61 J) (k83 : K83 83 J) (k84 : K84 J) (k85 : K85 85 J) (hJ : ∀ a h,J 51 a h = none) (h : Heap) (o : OkR a h) (t : WT h x Wt) (n1 : Wt.length ≤ 1000000) (big : ∀ M ∈ Wt,M.length ≤ 1000000 ∧ ∀ l ∈ M,l.length ≤ 1000000) :
  ∃ v own,CallsTo tbl J 51 [a.v,x] h (v,own,false) ∧ Post51 a Wt h v own:=by
 obtain ⟨Hs,hHs⟩ : ∃ H,(frameOf h).plus [.cells 0 3 [G a.q,a.x,a.y]] = H:=⟨_,rfl⟩
 have kHs : Kp (fun _ => False) (frameOf h) Hs:=by rw [← hHs]; exact Kp.plus _ _
 have oH : OkR a Hs:=OkR.kp (o.lo []) kHs
 have gS : Hs.get h.size = .cells 0 3 [G a.q,a.x,a.y]:=by rw [← hHs]; exact plus_at0 _ _ _ _ (frS h)
 have e57:=k57 Hs a oH
 have er : ruQ a.q a.B a.W = a.ru:=rfl
 rw [er] at e57
 have tH : WT Hs x Wt:=t.fr.kp kHs
 have fz:=frS h
 have av : a.v = .agg [G a.q,a.x,a.y]:=rfl
 cases r : a.ru
 ·have : CallsTo tbl J 51 [a.v,x] h (.tup [.nils,G 0,G 2],[],false):=by
   refine Tr.fnv (cf:=c51) (e:=.ret) (s:=T.set (T.set .leaf [] a.v) [false] x) (by decide) rfl (hJ _ _) rfl rfl rfl (by simp) ?_
   refine Tr.post (Q:=(fun s h => s.get [true,false] = .nils ∧ s.get [false,true] = G 0 ∧ s.get [true,true] = G 2)) (fun s h q => by simp [c51,q]) ?_
   rw [r] at e57
   clear oH o t tH big kHs
   refine Tr.w fun s1 H1 hp _ kR => ?_
   obtain ⟨rfl,rfl⟩:=hp
   have q : True:=trivial
   refine zCh ?_
   simp (disch:=first|omega|exact zE rfl|exact zO|exact zL rfl) [c51_o0,zG,q,hHs]
   refine W.assoc ?_
   refine zCh ?_
   simp (disch:=first|omega|exact zE rfl|exact zO|exact zL rfl) [c51_o1,zG,q,fz,gS,e57]
   refine zCh ?_
   simp (disch:=first|omega|exact zE rfl|exact zO|exact zL rfl) [c51_o2,zG,q]
   exact kR _ _ (by simp [T.get])
  exact ⟨_,_,this,post51_arg (by unfold okB; rw [r]; rfl)⟩
 ·rw [r] at e57
  have q3:=a.q3 r
  have qn : ((a.q.toNat : Nat) : Int) = a.q:=by omega
  have e83:=k83 Hs ⟨a.q.toNat,a.x,a.y,x,Wt⟩ ⟨tH,n1,big⟩
  simp only [qn] at e83
  cases w : wtB a.q.toNat Wt
  ·have : CallsTo tbl J 51 [a.v,x] h (.tup [.nils,G 0,G 2],[],false):=by
    refine Tr.fnv (cf:=c51) (e:=.ret) (s:=T.set (T.set .leaf [] a.v) [false] x) (by decide) rfl (hJ _ _) rfl rfl rfl (by simp) ?_
    refine Tr.post (Q:=(fun s h => s.get [true,false] = .nils ∧ s.get [false,true] = G 0 ∧ s.get [true,true] = G 2)) (fun s h q => by simp [c51,q]) ?_
    rw [w] at e83
    clear oH o t tH big kHs
    refine Tr.w fun s1 H1 hp _ kR => ?_
    obtain ⟨rfl,rfl⟩:=hp
    have q : True:=trivial
    refine zCh ?_
    simp (disch:=first|omega|exact zE rfl|exact zO|exact zL rfl) [c51_o0,zG,q,hHs]
    refine W.assoc ?_
    refine zCh ?_
    simp (disch:=first|omega|exact zE rfl|exact zO|exact zL rfl) [c51_o1,zG,q,fz,gS,e57,e83]
    refine zCh ?_
    simp (disch:=first|omega|exact zE rfl|exact zO|exact zL rfl) [c51_o2,zG,q]
    exact kR _ _ (by simp [T.get])
   exact ⟨_,_,this,post51_arg (by unfold okB; rw [w,Bool.and_false])⟩
  ·rw [w] at e83
   obtain ⟨m,hm,m1,m5,N1,N40,_⟩:=wtB_ok w
   have ok0 : okB a Wt = true:=by unfold okB; rw [r,w]; rfl
   obtain ⟨wn,sm⟩:=tH.wn w hm (by omega)
   have wn0:=wn
   obtain ⟨b,v,cs,rfl,gw,lc,hr⟩:=wn0
   obtain ⟨y0,ey0,b0,v0,cs0,rfl,_⟩:=hr 0 N1
   have ey0':=getI ey0
   have rm : a.rm (m : Nat) = true:=by
    unfold AR.rm
    rw [r,decide_eq_true (by omega)]; rfl
   obtain ⟨os,s243,sr⟩:=AR.steps_ok rm
   obtain ⟨p,own,e61,lm⟩:=k61 Hs a.g m (oH.g r) m5
   rw [a.gv r,av] at e61
   rw [av]
   obtain ⟨Z,hZ⟩ : ∃ Z,Hs.plus own = Z:=⟨_,rfl⟩
   have kZ : Kp (fun _ => False) Hs Z:=by rw [← hZ]; exact Kp.plus _ _
   rw [hZ] at lm
   have hrows : rwL a.g.q a.g.B m = a.rows (m : Nat):=by
    unfold AR.rows AR.g
    rw [Int.toNat_natCast]
   have hsteps : stL a.g.W (a.rows (m : Nat)) = a.steps (m : Nat):=rfl
   have ra : RwA (a.rows (m : Nat)) m a.q.toNat:=fun w' hw' => by
    rw [← hrows] at hw'
    have:=rwL_mem hw'
    exact ⟨this.1,this.2.1⟩
   have lf:=lm.lf
   rw [hrows] at lm lf
   rw [hsteps] at lf
   obtain ⟨x0,mm,nb,rs,f1,rx,_,gN,_,lrs,h7⟩:=lm
   have h4 : ∀ i,i < (a.steps (m : Nat)).length → ∃ y,rs[i]? = some y ∧ RV Z y (gn ((a.steps (m : Nat)).getD i [])):=fun i hi => by
    obtain ⟨y,e1,e2,_⟩:=h7 i (by rw [← sr]; exact hi)
    refine ⟨y,e1,?_⟩
    have : (a.steps (m : Nat)).getD i [] = nxL a.g.W (a.rows (m : Nat)) ((a.rows (m : Nat)).getD i []):=by
     rw [← hsteps,List.getD_eq_getElem?_getD,List.getD_eq_getElem?_getD]
     unfold stL
     rw [List.getElem?_map,List.getElem?_eq_getElem (by rw [← sr]; exact hi)]; rfl
    rw [this]; exact e2
   obtain ⟨S,hSS⟩ : ∃ S,a.steps (m : Nat) = S:=⟨_,rfl⟩
   obtain ⟨R,hRR⟩ : ∃ R,a.rows (m : Nat) = R:=⟨_,rfl⟩
   obtain ⟨u,hu⟩ : ∃ u,uZ Wt R Wt.length m = u:=⟨_,rfl⟩
   have ePost : ∀ v own,((bO (gv S u (Wt.length - 1)) none (List.range S.length) = none → v = AV.tup [.nils,G 0,G 6] ∧ own = []) ∧ ∀ c s,bO (gv S u (Wt.length - 1)) none (List.range S.length) = some (c,s) → ∃ x,v = .tup [x,G s,G 0] ∧ (∀ q,blk x = some q → h.size ≤ q) ∧ RV (h.plus own) x (wsL (rT2 R (bP S u Wt.length (List.range S.length))))) → Post51 a Wt h v own:=fun v own hp => by
    refine ⟨fun e => (by rw [ok0] at e; cases e),fun _ m' S' R' u' e1 e2 e3 e4 => ?_⟩
    rw [hm] at e1
    subst e1
    rw [hSS] at e2
    rw [hRR] at e3
    subst e2; subst e3
    rw [hu] at e4
    subst e4
    exact hp
   rw [hSS] at os s243 sr lf h4
   rw [hRR] at sr ra f1 rx gN lrs
   have n2:=os.n
   obtain ⟨n,hn⟩ : ∃ n,S.length = n:=⟨_,rfl⟩
   rw [hn] at s243 sr h4 n2
   rw [← sr] at f1 gN lrs
   have hR : R.length = n:=sr.symm
   have sx:=rx.sl
   rw [wsL_len,hR] at sx
   obtain ⟨N,hN⟩ : ∃ N,Wt.length = N:=⟨_,rfl⟩
   rw [hN] at wn sm hu ePost N1 N40 lc e83 t tH ⊢
   rw [hn] at ePost
   obtain ⟨Z1,hZ1⟩ : ∃ H,Z.plus [.map []] = H:=⟨_,rfl⟩
   have kz1 : Kp (fun _ => False) Z Z1:=by rw [← hZ1]; exact Kp.plus _ _
   have gm : Z1.get Z.size = .map []:=by rw [← hZ1]; exact plus_at0 _ _ _ _ rfl
   have hN1 : Z1.N ≤ Z.size:=by rw [kz1.N]; unfold Heap.size; omega
   have f1Z:=kz1.at f1 (by simp) id
   have gwZ:=kZ.at gw (by simp) id
   have kS : Kp (fun _ => False) (frameOf h) Z:=kHs.trans kZ
   have zs : h.size ≤ Z.size:=by have:=kS.size; rw [fz] at this; exact this
   have l1 : Tr tbl J c51_l1 (fun s h => h = Z1 ∧ s.get [false] = .slice b 0 N v ∧ s.get [false,false,false] = .ptr p 0 3 ∧ s.get [true,false,false] = .map Z.size ∧ s.get [false,true,false] = G ((N : Int) - 1)) (.exit 0) (fun s h => MBs S u Z.size Z1 h N 0 ∧ s.get [false] = .slice b 0 N v ∧ s.get [false,false,false] = .ptr p 0 3 ∧ s.get [true,false,false] = .map Z.size):=by
    rcases sx with ⟨rfl,e0⟩ | ⟨bx,vx,rfl⟩
    ·exact Tr.post (fun s h ⟨h0,q⟩ => ⟨by rw [h0]; exact mbsE gm (by omega),q⟩) (c51_l1_e J f1Z N40)
    ·have gx : Z.get bx = .cells 1 vx (wsL R):=by
      rcases rx with ⟨e,_⟩ | ⟨b',v',e,g⟩
      ·cases e
      ·simp only [AV.slice.injEq] at e
       obtain ⟨rfl,_,_,rfl⟩:=e
       exact g
     have l1:=c51_l1_ok J k84 k85 gm hN1 (lf.kp kz1) os hn f1Z (kz1.at gx (by simp) id) hR (wn.kp (kZ.trans kz1)) sm ra (by omega) m5 N40
     rw [hu] at l1
     exact Tr.pre (fun s h ⟨h0,q1,q2,q3,q4⟩ => by
      subst h0
      exact ⟨mbs0 gm,q1,q2,q3,by rw [q4,show (N : Int) - 1 - ((0 : Nat) : Int) = (N : Int) - 1 by omega]⟩) l1
   have post : ∀ H,MBs S u Z.size Z1 H N 0 → ∃ M H2,H.get Z.size = .map (enc M) ∧ (∀ j l,j < n → l < N → mF M j l = gv S u l j) ∧ Kp (fun _ => False) Z H ∧ H.get p = .cells 0 3 [x0,.map mm,.slice nb 0 n n] ∧ mkSl H 8 (G 0) n = some (.slice H.size 0 n n,{ eff:=.grow [.cells 1 n (List.replicate n (G 0))] }) ∧ H.plus [.cells 1 n (List.replicate n (G 0))] = H2 ∧ Tr tbl J c51_l2 (fun s h => h = H2 ∧ s.get [false] = .slice b 0 N v ∧ s.get [false,false,false] = .ptr p 0 3 ∧ s.get [true,false,false] = .map Z.size ∧ s.get [false,false,false,false] = .nils ∧ s.get [true,false,false,false] = .slice H.size 0 n n ∧ s.get [false,true,true,true,true,false] = G n ∧ s.get [true,true,true,true,true,false] = G 0) (.exit 4)
     (fun s h => (Kp (fun _ => False) H h ∧ h.get H.size = .cells 1 n (gn (List.range n))) ∧ s.get [false] = .slice b 0 N v ∧ s.get [false,false,false] = .ptr p 0 3 ∧ s.get [true,false,false] = .map Z.size ∧ s.get [false,false,false,false] = .nils ∧ s.get [true,false,false,false] = .slice H.size 0 n n):=fun H mb => by
    obtain ⟨kp,M,gM,km⟩:=mb
    have kH : Kp (fun _ => False) Z H:=kz1.late kp (fun q hq => by rw [hq]; exact Nat.le_refl _)
    refine ⟨M,_,gM,fun j l hj hl => ?_,kH,kH.at f1 (by simp) id,mkSl_ok _ _ _ _ _ rfl (by omega),rfl,?_⟩
    ·rw [km j (by omega) l,if_pos (.inl hl)]
    ·have l2:=c51_l2_ok (n:=n) (p:=p) (mb:=Z.size) J (Hc:=H) (x:=.slice b 0 N v) (br:=H.size) (Nat.le_refl _) (by unfold Heap.size; omega) n2
     rw [flR_n] at l2
     refine Tr.pre (fun s h ⟨h0,q⟩ => ?_) l2
     subst h0
     refine ⟨⟨Kp.plus _ _,?_⟩,q⟩
     rw [flR_0]
     exact plus_at0 _ _ _ _ rfl
   have z0 : ((0 : Nat) : Int) = 0:=rfl
   cases hb : bO (gv S u (N - 1)) none (List.range n) with
   | none =>
    have : CallsTo tbl J 51 [.agg [G a.q,a.x,a.y],.slice b 0 N v] h (.tup [.nils,G 0,G 6],[],false):=by
     refine Tr.fnv (cf:=c51) (e:=.ret) (s:=T.set (T.set .leaf [] (.agg [G a.q,a.x,a.y])) [false] (.slice b 0 N v)) (by decide) rfl (hJ _ _) rfl rfl rfl (by simp) ?_
     refine Tr.post (Q:=(fun s h => s.get [true,false] = .nils ∧ s.get [false,true] = G 0 ∧ s.get [true,true] = G 6)) (fun s h q => by simp [c51,q]) ?_
     have fin : ∀ {H H1 : Heap} {M : List (Nat × Nat × Int)},H.get Z.size = .map (enc M) → (∀ j l,j < n → l < N → mF M j l = gv S u l j) → Kp (fun _ => False) H H1 ∧ H1.get H.size = .cells 1 n (gn (List.range n)) → Tr tbl J c51_l4 (fun s h => h = H1 ∧ s.get [false] = .slice b 0 N v ∧ s.get [false,false,false] = .ptr p 0 3 ∧ s.get [true,false,false] = .map Z.size ∧ s.get [false,false,false,false] = .nils ∧ s.get [true,false,false,false] = .slice H.size 0 n n ∧ s.get [true,true,false,false] = G 0 ∧ s.get [false,false,false,true,false,true] = G N ∧ s.get [true,false,false,true,false,true] = G 0) .ret (fun s h => s.get [true,false] = .nils ∧ s.get [false,true] = G 0 ∧ s.get [true,true] = G 6):=fun gM km ⟨k2,g2⟩ => c51_l4_no J (k2.at gM (by simp) id) (fun j hj => km j (N - 1) hj (by omega)) rfl g2 n2 N1 N40 hb
     clear oH o t tH big kHs wn sm k57 k61 k83 k84 k85 lf ra rx h7 h4 ePost hr kz1 kS kZ
     generalize List.replicate n (G 0) = rep at *
     rcases sx with ⟨rfl,rfl⟩ | ⟨bx,vx,rfl⟩
     all_goals
      refine Tr.w fun s1 H1 hp _ kR => ?_
      obtain ⟨rfl,rfl⟩:=hp
      have q : True:=trivial
      refine zCh ?_
      simp (disch:=first|omega|exact zE rfl|exact zO|exact zL rfl) [c51_o0,zG,q,hHs]
      refine W.assoc ?_
      refine zCh ?_
      simp (disch:=first|omega|exact zE rfl|exact zO|exact zL rfl) [c51_o1,zG,q,fz,gS,e57,e83]
      refine zCh ?_
      simp (disch:=first|omega|exact zE rfl|exact zO|exact zL rfl) [c51_o2,zG,q]
      refine zCh ?_
      simp (disch:=first|omega|exact zE rfl|exact zO|exact zL rfl) [-evDraw_c,-Eff.isAll,c51_o3,zG,q,evDraw_0,fz,gS,gw,ey0,ey0',lc,e61,app_if,app_if',hZ,own_all,isAll_none]
      refine zCh ?_
      simp (disch:=first|omega|exact zE rfl|exact zO|exact zL rfl) [c51_o4,zG,q,hZ1]
      refine W.assoc ?_
      refine zCh ?_
      simp (disch:=first|omega|exact zE rfl|exact zO|exact zL rfl) [c51_o5,zG,q]
      refine W.seq (W.block ?_)
      refine W.use (l1) (by simp (disch:=first|omega|exact zE rfl|exact zO|exact zL rfl) [zG,q]) fun s1 H1 hp => ?_
      obtain ⟨mbs,q⟩:=hp
      try simp only [zW,if_true]
      obtain ⟨M,H2,gM,km,kH,gp,mk1,hH2,l2⟩:=post _ mbs
      try rw [z0] at mk1
      refine zCh ?_
      simp (disch:=first|omega|exact zE rfl|exact zO|exact zL rfl) [c51_o16,zG,q]
      refine zCh ?_
      simp (disch:=first|omega|exact zE rfl|exact zO|exact zL rfl) [-act,c51_o17,zG,q,act_move,act_mkSl,act_len1,act_nil,act_fa,act_load,gp,mk1,hH2]
      refine W.assoc ?_
      refine zCh ?_
      simp (disch:=first|omega|exact zE rfl|exact zO|exact zL rfl) [c51_o18,zG,q]
      refine W.seq (W.block ?_)
      refine W.use (l2) (by simp (disch:=first|omega|exact zE rfl|exact zO|exact zL rfl) [zG,q]) fun s1 H1 hp => ?_
      obtain ⟨kg,q⟩:=hp
      try simp only [zW,if_true]
      have l4:=fin gM km kg
      refine zCh ?_
      simp (disch:=first|omega|exact zE rfl|exact zO|exact zL rfl) [c51_o23,zG,q]
      refine W.assoc ?_
      refine zCh ?_
      simp (disch:=first|omega|exact zE rfl|exact zO|exact zL rfl) [c51_o24,zG,q]
      refine W.seq (W.block ?_)
      refine W.use (l4) (by simp (disch:=first|omega|exact zE rfl|exact zO|exact zL rfl) [zG,q]) fun s1 H1 hp => ?_
      try simp only [zW,if_true]
      exact kR _ _ hp
    exact ⟨_,_,this,ePost _ _ ⟨fun _ => ⟨rfl,rfl⟩,fun c s e => (by rw [hb] at e; cases e)⟩⟩
   | some pr =>
    obtain ⟨c,s⟩:=pr
    obtain ⟨bx,vx,rfl⟩:=sx.resolve_left (fun e => by rw [e.2] at hb; cases hb)
    have gx : Z.get bx = .cells 1 vx (wsL R):=by
     rcases rx with ⟨e,_⟩ | ⟨b',v',e,g⟩
     ·cases e
     ·simp only [AV.slice.injEq] at e
      obtain ⟨rfl,_,_,rfl⟩:=e
      exact g
    have fin : ∀ {H H1 : Heap} {M : List (Nat × Nat × Int)},Kp (fun _ => False) Z H → H.get Z.size = .map (enc M) → (∀ j l,j < n → l < N → mF M j l = gv S u l j) → Kp (fun _ => False) H H1 ∧ H1.get H.size = .cells 1 n (gn (List.range n)) → Tr tbl J c51_l4 (fun s h => h = H1 ∧ s.get [false] = .slice b 0 N v ∧ s.get [false,false,false] = .ptr p 0 3 ∧ s.get [true,false,false] = .map Z.size ∧ s.get [false,false,false,false] = .nils ∧ s.get [true,false,false,false] = .slice H.size 0 n n ∧ s.get [true,true,false,false] = G 0 ∧ s.get [false,false,false,true,false,true] = G N ∧ s.get [true,false,false,true,false,true] = G 0) (.exit 6) (fun s' h' => ∃ z,(NV H1 h' z (wsL (rT2 R (bP S u N (List.range n)))) ∧ Kp (fun _ => False) (frameOf h) H1) ∧ s'.get [false,false,false,false] = z ∧ s'.get [true,true,false,false] = G s):=fun {H H1 M} kH gM km ⟨k2,g2⟩ => by
     have kk:=kH.trans k2
     have l4:=c51_l4_ok (b:=b) (v:=v) (p:=p) (y0:=.nils) (s:=s) (E:=bP S u N (List.range n)) J (k2.at gM (by simp) id) km hn os (kk.at f1 (by simp) id) (kk.at gx (by simp) id) hR (kk.at gN (by simp) id) lrs (fun i hi => by
      obtain ⟨y,e1,e2⟩:=h4 i hi
      exact ⟨y,e1,e2.kp kk (fun _ _ => id)⟩) N1 N40
     refine Tr.post (fun s h ⟨z,nv,q⟩ => ⟨z,⟨nv,kS.trans kk⟩,q⟩) (Tr.pre (fun s' h' ⟨h0,q1,q2,q3,q4,q5,q6,q7,q8⟩ => ?_) l4)
     subst h0
     refine ⟨.nils,.slice H.size 0 n n,[],List.range n,⟨NV.nil _,.inr ⟨H.size,n,by rw [gn_len,List.length_range],g2⟩,⟨rfl,rfl,by rw [List.length_range]; exact n2,fun c hc => by rw [hn]; exact List.mem_range.1 hc,fun _ => ⟨c,s,hb,fun _ => rfl⟩⟩⟩,q1,q2,q3,q4,q5,q6,q7,q8⟩
    have fin2 : ∀ {z : AV} {H h' : Heap},NV H h' z (wsL (rT2 R (bP S u N (List.range n)))) → Kp (fun _ => False) (frameOf h) H → Post51 a Wt h (.tup [z,G s,G 0]) (if (one [z]).flat then [] else h'.own):=fun {z H h'} nv kH => ePost _ _ ⟨fun e => (by rw [hb] at e; cases e),fun c' s' e => by
     rw [hb] at e
     obtain ⟨rfl,rfl⟩:=Prod.mk.inj (Option.some.inj e)
     exact ⟨z,rfl,fun q e => Nat.le_trans (by have:=kH.size; rw [fz] at this; exact this) (nv.x0 q e),nv.rv.fr (kH.trans nv.k)⟩⟩
    refine Tr.fny (cf:=c51) (e:=.ret) (s:=T.set (T.set .leaf [] (.agg [G a.q,a.x,a.y])) [false] (.slice b 0 N v)) (by decide) rfl (hJ _ _) rfl rfl (by simp) ?_
    clear oH o t tH big kHs wn sm k57 k61 k83 k84 k85 lf ra rx h7 h4 ePost hr kz1 kS kZ
    generalize wsL (rT2 R (bP S u N (List.range n))) = wE at *
    generalize wsL R = wR at *
    generalize List.replicate n (G 0) = rep at *
    refine Tr.w fun s1 H1 hp _ kR => ?_
    obtain ⟨rfl,rfl⟩:=hp
    have q : True:=trivial
    refine zCh ?_
    simp (disch:=first|omega|exact zE rfl|exact zO|exact zL rfl) [c51_o0,zG,q,hHs]
    refine W.assoc ?_
    refine zCh ?_
    simp (disch:=first|omega|exact zE rfl|exact zO|exact zL rfl) [c51_o1,zG,q,fz,gS,e57,e83]
    refine zCh ?_
    simp (disch:=first|omega|exact zE rfl|exact zO|exact zL rfl) [c51_o2,zG,q]
    refine zCh ?_
    simp (disch:=first|omega|exact zE rfl|exact zO|exact zL rfl) [-evDraw_c,-Eff.isAll,c51_o3,zG,q,evDraw_0,fz,gS,gw,ey0,ey0',lc,e61,app_if,app_if',hZ,own_all,isAll_none]
    refine zCh ?_
    simp (disch:=first|omega|exact zE rfl|exact zO|exact zL rfl) [c51_o4,zG,q,hZ1]
    refine W.assoc ?_
    refine zCh ?_
    simp (disch:=first|omega|exact zE rfl|exact zO|exact zL rfl) [c51_o5,zG,q]
    refine W.seq (W.block ?_)
    refine W.use (l1) (by simp (disch:=first|omega|exact zE rfl|exact zO|exact zL rfl) [zG,q]) fun s1 H1 hp => ?_
    obtain ⟨mbs,q⟩:=hp
    try simp only [zW,if_true]
    obtain ⟨M,H2,gM,km,kH,gp,mk1,hH2,l2⟩:=post _ mbs
    refine zCh ?_
    simp (disch:=first|omega|exact zE rfl|exact zO|exact zL rfl) [c51_o16,zG,q]
    refine zCh ?_
    simp (disch:=first|omega|exact zE rfl|exact zO|exact zL rfl) [-act,c51_o17,zG,q,act_move,act_mkSl,act_len1,act_nil,act_fa,act_load,gp,mk1,hH2]
    refine W.assoc ?_
    refine zCh ?_
    simp (disch:=first|omega|exact zE rfl|exact zO|exact zL rfl) [c51_o18,zG,q]
    refine W.seq (W.block ?_)
    refine W.use (l2) (by simp (disch:=first|omega|exact zE rfl|exact zO|exact zL rfl) [zG,q]) fun s1 H1 hp => ?_
    obtain ⟨kg,q⟩:=hp
    try simp only [zW,if_true]
    have l4:=fin kH gM km kg
    refine zCh ?_
    simp (disch:=first|omega|exact zE rfl|exact zO|exact zL rfl) [c51_o23,zG,q]
    refine W.assoc ?_
    refine zCh ?_
    simp (disch:=first|omega|exact zE rfl|exact zO|exact zL rfl) [c51_o24,zG,q]
    refine W.seq (W.block ?_)
    refine W.use (l4) (by simp (disch:=first|omega|exact zE rfl|exact zO|exact zL rfl) [zG,q]) fun s1 H1 hp => ?_
    obtain ⟨z9,⟨nv9,kH9⟩,q⟩:=hp
    try simp only [zW,if_true]
    refine zCh ?_
    simp (disch:=first|omega|exact zE rfl|exact zO|exact zL rfl) [c51_o43,zG,q]
    refine W.ret ?_
    try simp only [zW,if_true]
    refine kR _ _ ?_
    refine ⟨[z9,G s,G 0],by simp [T.get,c51,evRess,evRes,q],?_⟩
    rw [show (one [z9,G s,G 0]).flat = (one [z9]).flat from by simp [one,AV.flat,AV.flats]]
    exact fin2 nv9 kH9
end
theorem mm_max (a b : Int) : (if a < b then b else a) = max a b:=by
 split <;> omega
theorem fmx_app (f : Nat → Int) : ∀ (L : List Nat) (r : Int) (k : Nat),fmx f r (L ++ [k]) = max (fmx f r L) (f k)
 | [],_,_ => rfl
 | c :: L,r,k => fmx_app f L (max r (f c)) k
theorem take_app {L : List Nat} {t : Nat} (ht : t < L.length) : L.take (t + 1) = L.take t ++ [L.getD t 0]:=by
 rw [List.take_add_one,List.getElem?_eq_getElem ht,List.getD_eq_getElem?_getD,List.getElem?_eq_getElem ht]; rfl
section
variable {S : List (List Nat)} {R : List (List Nat)} {Wt : List (List (List Int))} {N m q n : Nat}
theorem c53_l0_ok (J : CallF) {H : Heap} {xw x8 y : AV} {b9 bo i j br vr : Nat} {rs9 rs cr : List AV} {L : List Nat} {f : Nat → Int} (g9 : H.get b9 = .cells 1 n rs9) (l9 : rs9.length = n) (e9 : rs9[j]? = some y) (ry : RV H y (gn L)) (hL : L.length ≤ 1000) (go : H.get bo = .cells 1 N rs) (lr : rs.length = N) (er : rs[i + 1]? = some (.slice br 0 n vr)) (gr : H.get br = .cells 1 vr cr) (lcr : cr.length = n) (hcr : ∀ c ∈ L,cr[c]? = some (G (f c))) (N40 : N ≤ 40) (n2 : n ≤ 1000) :
  Tr tbl J c53_l0 (fun s h => h = H ∧ s.get [false] = xw ∧ s.get [false,false,false] = G N ∧ s.get [true,false,false] = x8 ∧ s.get [false,true,false] = .slice b9 0 n n ∧ s.get [true,true,false] = .slice bo 0 N N ∧ s.get [false,false,true] = G i ∧ s.get [true,false,true] = G j ∧ s.get [false,true,true] = G noneZ ∧ s.get [true,true,true] = G ((0 : Nat) : Int)) (.exit 4)
   (fun s h => h = H ∧ s.get [false] = xw ∧ s.get [false,false,false] = G N ∧ s.get [true,false,false] = x8 ∧ s.get [false,true,false] = .slice b9 0 n n ∧ s.get [true,true,false] = .slice bo 0 N N ∧ s.get [false,false,true] = G i ∧ s.get [true,false,true] = G j ∧ s.get [false,true,true] = G (fmx f noneZ L)):=by
 have e9':=getI e9
 have er':=getI er
 have hj:=(List.getElem?_eq_some_iff.1 e9).1
 have hi:=(List.getElem?_eq_some_iff.1 er).1
 have tn1 : ((i : Int) + 1).toNat = i + 1:=by omega
 have tk : L.take L.length = L:=List.take_length
 have z0 : fmx f noneZ (L.take 0) = noneZ:=by rw [List.take_zero]; rfl
 refine Tr.pre (P:=(fun s h => h = H ∧ s.get [false] = xw ∧ s.get [false,false,false] = G N ∧ s.get [true,false,false] = x8 ∧ s.get [false,true,false] = .slice b9 0 n n ∧ s.get [true,true,false] = .slice bo 0 N N ∧ s.get [false,false,true] = G i ∧ s.get [true,false,true] = G j ∧ s.get [false,true,true] = G (fmx f noneZ (L.take 0)) ∧ s.get [true,true,true] = G ((0 : Nat) : Int))) (fun s h q => by rw [z0]; exact q) ?_
 refine Tr.rounds (e:=.exit 4) (P:=fun t => (fun s h => h = H ∧ s.get [false] = xw ∧ s.get [false,false,false] = G N ∧ s.get [true,false,false] = x8 ∧ s.get [false,true,false] = .slice b9 0 n n ∧ s.get [true,true,false] = .slice bo 0 N N ∧ s.get [false,false,true] = G i ∧ s.get [true,false,true] = G j ∧ s.get [false,true,true] = G (fmx f noneZ (L.take t)) ∧ s.get [true,true,true] = G (t : Nat))) (M:=L.length) (fun t ht => ?_) ?_ (by simp) 0 (by omega)
 ·obtain ⟨by',vy,rfl,gy⟩ : ∃ b v,y = .slice b 0 L.length v ∧ H.get b = .cells 1 v (gn L):=by
   rcases ry with ⟨_,e⟩ | ⟨b,v,e,g⟩
   ·have : (gn L).length = 0:=by rw [e]; rfl
    rw [gn_len] at this; omega
   ·rw [gn_len] at e; exact ⟨b,v,e,g⟩
  have lg:=gn_len L
  have e1:=gn_at ht
  have e1':=getI e1
  have e2:=hcr _ (gD_mem ht)
  have e2':=getI e2
  have hc:=(List.getElem?_eq_some_iff.1 e2).1
  have mm:=mm_max (fmx f noneZ (L.take t)) (f (L.getD t 0))
  rw [take_app ht,fmx_app]
  have t1 : ((t + 1 : Nat) : Int) = (t : Int) + 1:=by omega
  rw [t1]
  clear hcr ry tk z0
  generalize max (fmx f noneZ (L.take t)) (f (L.getD t 0)) = r2 at *
  generalize fmx f noneZ (L.take t) = r1 at *
  generalize f (L.getD t 0) = z at *
  generalize L.getD t 0 = c at *
  generalize gn L = cs at *
  generalize L.length = nL at *
  refine Tr.w fun s1 H1 hp _ kR => W.trim ?_
  obtain ⟨rfl,q⟩:=hp
  refine W.assoc ?_
  refine zCh ?_
  simp (disch:=first|omega|exact zE rfl|exact zO|exact zL rfl) [c53_o12,zG,q,g9,e9,e9',l9]
  refine zCh ?_
  simp (disch:=first|omega|exact zE rfl|exact zO|exact zL rfl) [zG,q]
  refine W.seq (W.block ?_)
  refine W.chunk ?_
  simp (disch:=first|omega|exact zE rfl|exact zO|exact zL rfl) [-evDraw_c,c53_o13,zG,q,evDraw_0,g9,e9,e9',l9,go,lr,er,er',gr,lcr,e2,e2',gy,lg,e1,e1',tn1,mm]
  refine W.chunk ?_
  simp (disch:=first|omega|exact zE rfl|exact zO|exact zL rfl) [c53_o14,zG,q]
  exact kR _ _ (by simp [T.get,q])
 ·have sy:=ry.sl
  rw [gn_len] at sy
  rw [tk]
  clear hcr ry tk z0 er gr go
  generalize fmx f noneZ L = r1 at *
  generalize L.length = nL at *
  rcases sy with ⟨rfl,rfl⟩ | ⟨b,v,rfl⟩
  all_goals
   refine Tr.w fun s1 H1 hp _ kR => W.trim ?_
   obtain ⟨rfl,q⟩:=hp
   refine W.assoc ?_
   refine zCh ?_
   simp (disch:=first|omega|exact zE rfl|exact zO|exact zL rfl) [c53_o12,zG,q,g9,e9,e9',l9]
   refine zCh ?_
   simp (disch:=first|omega|exact zE rfl|exact zO|exact zL rfl) [zG,q]
   exact kR _ _ (by simp [T.get,q])
structure BRw (bo N i : Nat) (rs : List AV) (Hi : Heap) (L : List Int) (h : Heap) : Prop where
 k : Kp (· = bo) Hi h
 g : ∃ y,h.get bo = .cells 1 N (rs.set i y) ∧ LV h y (gs L) ∧ ∀ b,blk y = some b → Hi.size ≤ b
theorem c53_o15_ok (J : CallF) (k86 : K85 86 J) {Hi X : Heap} {bo i j bw vw bx vx : Nat} {rs cs wl : List AV} {yw x9 : AV} {L : List Int} {M : List (List Int)} {w : List Nat} {r : Int} (bi : BRw bo N i rs Hi L X) (hi : i < N) (lrs : rs.length = N) (hL : L.length ≤ 1000) (N40 : N ≤ 40) (hbo : Hi.N ≤ bo) (hb2 : bo < Hi.size) (gw : X.get bw = .cells 1 vw cs) (lc : cs.length = N) (ew : cs[i]? = some yw) (tw : TRw X yw m q M) (gx : X.get bx = .cells 1 vx wl) (lx : wl.length = n) (ex : wl[j]? = some (.str (stW w))) (hw : ∀ c ∈ w,c < q) (hl : w.length = m) (q3 : q ≤ 3) (m5 : m ≤ 5) (sm : SmW m q M) (n2 : n ≤ 1000) (hr : -1100000000 ≤ r ∧ r ≤ 1000000000) :
  Tr tbl J c53_o15 (fun s h => h = X ∧ s.get [false] = .slice bw 0 N vw ∧ s.get [false,false,false] = G N ∧ s.get [true,false,false] = .slice bx 0 n vx ∧ s.get [false,true,false] = x9 ∧ s.get [true,true,false] = .slice bo 0 N N ∧ s.get [false,false,true] = G i ∧ s.get [true,false,true] = G j ∧ s.get [false,true,true] = G r) .normal
   (fun s h => BRw bo N i rs Hi (L ++ [max noneZ (r + rvA M w m)]) h ∧ (fun s h => s.get [false] = .slice bw 0 N vw ∧ s.get [false,false,false] = G N ∧ s.get [true,false,false] = .slice bx 0 n vx ∧ s.get [false,true,false] = x9 ∧ s.get [true,true,false] = .slice bo 0 N N ∧ s.get [false,false,true] = G i ∧ s.get [true,false,true] = G j) s h):=by
 obtain ⟨kX,y,gy,lv,yb⟩:=bi
 have ew':=getI ew
 have ex':=getI ex
 have hj:=(List.getElem?_eq_some_iff.1 ex).1
 have kXs:=kX.size
 have hNX : X.N ≤ bo:=by rw [kX.N]; exact hbo
 have gyi : (rs.set i y)[i]? = some y:=by rw [List.getElem?_set_self (by omega)]
 have gyi':=getI gyi
 have lset : (rs.set i y).length = N:=by simp [lrs]
 have e86:=k86 (X.plus [.hole,.hole]) ⟨yw,m,q,M,w⟩ ⟨tw.kp (Kp.plus _ _),hw,hl,q3,by show m ≤ 1000; omega,sm⟩
 simp only at e86
 have bd:=rvA_bd sm hw hl m (Nat.le_refl _)
 have ov : -1100005000 ≤ r + rvA M w m ∧ r + rvA M w m ≤ 1000005000:=by omega
 have mm:=mm_max (-1000000000) (r + rvA M w m)
 have nz : max (-1000000000) (r + rvA M w m) = max noneZ (r + rvA M w m):=rfl
 rw [nz] at mm
 obtain ⟨z,hz⟩ : ∃ z,max noneZ (r + rvA M w m) = z:=⟨_,rfl⟩
 rw [hz] at mm ⊢
 have fin : ∀ {x1 : AV} {H2 : Heap},LV H2 x1 (gs L ++ [G z]) → Kp (fun b => blk y = some b) X H2 → (∀ b,blk x1 = some b → Hi.size ≤ b) → BRw bo N i rs Hi (L ++ [z]) (H2.upd bo (.cells 1 N (rs.set i x1))):=fun {x1 H2} l2 k2 b2 => by
  have s2:=k2.size
  have n2 : H2.N = Hi.N:=by rw [k2.N,kX.N]
  refine ⟨?_,x1,upd_same _ _ _ (by omega) (by omega),?_,b2⟩
  ·refine ⟨by show H2.lo = _; rw [k2.lo,kX.lo],n2,by rw [upd_size]; omega,fun b hb hm => ?_⟩
   rw [upd_ne _ _ _ _ (by omega) (fun e => hm e.symm),k2.get b (by omega) (fun e => by have:=yb b e; omega),kX.get b hb hm]
  ·have : gs (L ++ [z]) = gs L ++ [G z]:=by simp
   rw [this]
   exact l2.kp (Kp.upd (M:=(· = bo)) _ _ _ (by omega) rfl) (fun b hb => by have:=b2 b hb; omega)
 have ps : ∀ (H2 : Heap) (x1 : AV),H2.N = X.N → H2.get bo = .cells 1 N (rs.set i y) → Eff.app (.put bo N i [x1]) H2 = some (H2.upd bo (.cells 1 N (rs.set i x1))):=fun H2 x1 h1 h2 => by
  rw [put_gen H2 bo N i 1 (rs.set i y) [x1] (by omega) h2 (by simp; omega)]
  simp only [putAt,List.set_set]
 have nbX:=get_lt gy (by simp)
 have hNs : X.N ≤ X.size:=by unfold Heap.size; omega
 have iN:=kX.N
 clear kX tw k86 sm hw hz nz
 have lgs : (gs L).length = L.length:=by simp
 rw [← lgs] at hL
 obtain ⟨K,hK⟩ : ∃ K,gs L = K:=⟨_,rfl⟩
 rw [hK] at lv hL fin
 obtain ⟨nk,hn'⟩ : ∃ nk,K.length = nk:=⟨_,rfl⟩
 generalize rvA M w m = rv at *
 generalize stW w = sw at *
 rcases lv with ⟨rfl,rfl⟩ | ⟨b,rfl,g,hNb⟩
 ·have x1 : Eff.app (.fill (X.size + 1) (.cells 1 1 [G z])) (X.plus [.cells 1 1 [G z],.hole]) = some (X.plus [.cells 1 1 [G z],.cells 1 1 [G z]]):=fill_plus1 _ _ rfl _ _ _
  have x0 : Eff.app (.fill X.size (.cells 1 1 [G z])) (X.plus [.hole,.hole]) = some (X.plus [.cells 1 1 [G z],.hole]):=fill_plus0 _ _ rfl _ _
  have v0:=fun xs => plus_keep (h:=X) xs gw (by simp)
  have v1:=fun xs => plus_keep (h:=X) xs gx (by simp)
  have v2:=fun xs => plus_keep (h:=X) xs gy (by simp)
  have p2:=ps (X.plus [.cells 1 1 [G z],.cells 1 1 [G z]]) (.slice (X.size + 1) 0 1 1) (by rw [plus_N]) (v2 _)
  have ff:=fin (x1:=.slice (X.size + 1) 0 1 1) (H2:=X.plus [.cells 1 1 [G z],.cells 1 1 [G z]]) (.inr ⟨_,rfl,by rw [plus_ge _ _ _ (by omega),show X.size + 1 - X.size = 1 by omega]; rfl,by rw [plus_N]; omega⟩) (Kp.plus _ _) (fun b hb => by cases hb; omega)
  clear fin ps
  generalize rs.set i .nils = rq at *
  refine Tr.w fun s1 H1 hp _ kR => ?_
  obtain ⟨rfl,q⟩:=hp
  refine W.chunk ?_
  simp (disch:=first|omega|exact zE rfl|exact zO|exact zL rfl) [-evDraw_c,c53_o15,zG,q,evDraw_k,gw,gx,gy,ew,ew',lc,ex,ex',lx,gyi,gyi',lset,x0,x1,v0,v1,v2,p2,appA,elems,rdOf,e86,mm,app_if,app_if']
  exact kR _ _ ⟨ff,by simp [T.get,q]⟩
 ·rw [hn'] at hL gy gyi gyi' ps lset g fin yb
  have x0 : Eff.app (.fill X.size (.cells 1 1 [G z])) (X.plus [.hole,.hole]) = some (X.plus [.cells 1 1 [G z],.hole]):=fill_plus0 _ _ rfl _ _
  have v0:=fun xs => plus_keep (h:=X) xs gw (by simp)
  have v1:=fun xs => plus_keep (h:=X) xs gx (by simp)
  have v2:=fun xs => plus_keep (h:=X) xs gy (by simp)
  have v3:=plus_keep (h:=X) [.cells 1 1 [G z],.hole] g (by simp)
  have b9:=yb b rfl
  have bX:=get_lt g (by simp)
  have ap : appA (X.plus [.cells 1 1 [G z],.hole]) X.size (some 1) 1 8 1 [G z] (.slice b 0 nk nk) = some (.slice b 0 (nk + 1) (nk + 1),.ext b nk 1 [G z]):=by
   simp only [appA,Nat.mul_one,Nat.one_mul]
   rw [if_neg (by decide),if_pos ⟨trivial,trivial,by omega⟩]
  have exx : Eff.app (.ext b nk 1 [G z]) (X.plus [.cells 1 1 [G z],.hole]) = some ((X.plus [.cells 1 1 [G z],.hole]).upd b (.cells 1 (nk + 1) (K ++ [G z]))):=ext_gen _ _ _ _ _ _ (by rw [plus_N]; omega) v3 hn'
  obtain ⟨Z,hZ⟩ : ∃ Z,(X.plus [.cells 1 1 [G z],.hole]).upd b (.cells 1 (nk + 1) (K ++ [G z])) = Z:=⟨_,rfl⟩
  rw [hZ] at exx
  have kZ : Kp (· = b) X Z:=by rw [← hZ]; exact (Kp.plus _ _).trans (Kp.upd _ _ _ (by rw [plus_N]; omega) rfl)
  have zy : Z.get bo = .cells 1 N (rs.set i (.slice b 0 nk nk)):=by rw [kZ.get bo (by omega) (by omega)]; exact gy
  have zb : Z.get b = .cells 1 (nk + 1) (K ++ [G z]):=by rw [← hZ]; exact upd_same _ _ _ (by rw [plus_N]; omega) (by rw [plus_size]; omega)
  have p2:=ps Z (.slice b 0 (nk + 1) (nk + 1)) (by rw [kZ.N]) zy
  have ff:=fin (x1:=.slice b 0 (nk + 1) (nk + 1)) (H2:=Z) (.inr ⟨b,by simp [hn'],by simpa [hn'] using zb,by rw [kZ.N]; omega⟩) (kZ.mono (fun c _ e => by simp only [blk]; exact congrArg some e.symm)) (fun c hc => by cases hc; exact b9)
  have ne3 : ¬ (bo = b):=by omega
  clear fin hZ kZ zb ps
  generalize rs.set i (.slice b 0 nk nk) = rq at *
  refine Tr.w fun s1 H1 hp _ kR => ?_
  obtain ⟨rfl,q⟩:=hp
  refine W.chunk ?_
  simp (disch:=first|omega|exact zE rfl|exact zO|exact zL rfl) [-evDraw_c,c53_o15,zG,q,evDraw_k,gw,gx,gy,ew,ew',lc,ex,ex',lx,gyi,gyi',lset,x0,v0,v1,v2,zy,ap,exx,p2,elems,rdOf,e86,mm,app_if,app_if',ne3]
  exact kR _ _ ⟨ff,by simp [T.get,q]⟩
def zk (S : List (List Nat)) (u : Nat → Nat → Int) (l k : Nat) : List Int:=(List.range k).map (bsZ S u l)
theorem zk_len (S : List (List Nat)) (u : Nat → Nat → Int) (l k : Nat) : (zk S u l k).length = k:=by simp [zk]
theorem zk_succ (S : List (List Nat)) (u : Nat → Nat → Int) (l k : Nat) : zk S u l (k + 1) = zk S u l k ++ [bsZ S u l k]:=by
 unfold zk
 rw [List.range_succ,List.map_append]; rfl
theorem zk_at (S : List (List Nat)) (u : Nat → Nat → Int) (l : Nat) {c k : Nat} (h : c < k) : (gs (zk S u l k))[c]? = some (G (bsZ S u l c)):=by
 unfold zk
 rw [List.getElem?_map,List.getElem?_map,List.getElem?_range h]; rfl
structure RT (S : List (List Nat)) (u : Nat → Nat → Int) (bo N t : Nat) (rs : List AV) (h : Heap) : Prop where
 go : h.get bo = .cells 1 N rs
 lr : rs.length = N
 row : ∀ l,l < t → ∃ y,rs[N - 1 - l]? = some y ∧ RV h y (gs (zk S u l S.length)) ∧ blk y ≠ some bo
 no : ∀ l,t ≤ l → l < N → rs[N - 1 - l]? = some .nils
theorem RT.next {u : Nat → Nat → Int} {bo t : Nat} {rs : List AV} {Hi h : Heap} (rt : RT S u bo N t rs Hi) (ht : t < N) (hb2 : bo < Hi.size) (bi : BRw bo N (N - 1 - t) rs Hi (zk S u t S.length) h) : ∃ rs',RT S u bo N (t + 1) rs' h:=by
 obtain ⟨k,y,g,lv,yb⟩:=bi
 have lr:=rt.lr
 refine ⟨_,g,by rw [List.length_set]; exact lr,fun l hl => ?_,fun l h1 h2 => ?_⟩
 ·by_cases e : l = t
  ·subst e
   exact ⟨y,List.getElem?_set_self (by omega),lv.rv,fun e => by have:=yb _ e; omega⟩
  ·obtain ⟨y',e1,e2,e3⟩:=rt.row l (by omega)
   exact ⟨y',by rw [List.getElem?_set_ne (by omega)]; exact e1,e2.kp k (fun b hb e => e3 (by rw [hb,e])),e3⟩
 ·rw [List.getElem?_set_ne (by omega)]
  exact rt.no l (by omega) h2
structure XT (S : List (List Nat)) (R : List (List Nat)) (Wt : List (List (List Int))) (N m q n : Nat) (Z : Heap) (xw x8 x9 : AV) : Prop where
 wn : WN Z xw N m q Wt
 sm : SmA N m q Wt
 ra : RwA R m q
 q3 : q ≤ 3
 m5 : m ≤ 5
 N40 : N ≤ 40
 rx : RV Z x8 (wsL R)
 hR : R.length = n
 hS : S.length = n
 os : OkS S
 ln : LN Z x9 S
theorem XT.kp {Z Z' : Heap} {xw x8 x9 : AV} (x : XT S R Wt N m q n Z xw x8 x9) (k : Kp (fun _ => False) Z Z') : XT S R Wt N m q n Z' xw x8 x9:=⟨x.wn.kp k,x.sm,x.ra,x.q3,x.m5,x.N40,x.rx.kp k (fun _ _ => id),x.hR,x.hS,x.os,x.ln.kp k⟩
theorem bsZ_bd {u : Nat → Nat → Int} {K : Nat} (hu : ∀ l i,-5000 ≤ u l i ∧ u l i ≤ 5000) (hN : K ≤ 40) {l : Nat} (hl : l ≤ K) (L : List Nat) : -1000000000 ≤ fmx (bsZ S u l) noneZ L ∧ fmx (bsZ S u l) noneZ L ≤ 1000000:=by
 have ih:=bs_gv (S:=S) (N:=K) (fun l _ i => hu l i) hN l hl
 have nz : noneZ = -1000000000:=rfl
 have g1:=(fmx_ge (bsZ S u l) L noneZ).1
 have g2:=fmx_le (bsZ S u l) (b:=1000000) L noneZ (by omega) fun k hk => by
  cases hg : gv S u l k with
  | none => have:=((ih k).2 hg).2; omega
  | some m => have:=(ih k).1 m hg; omega
 omega
set_option maxHeartbeats 1000000 in
theorem c53_l1_ok (J : CallF) (k86 : K85 86 J) {Z Hi : Heap} {xw x8 x9 : AV} {bo t : Nat} {rs : List AV} (x : XT S R Wt N m q n Z xw x8 x9) (kz : Kp (fun _ => False) Z Hi) (hbz : Z.size ≤ bo) (hb2 : bo < Hi.size) (hNb : Hi.N ≤ bo) (rt : RT S (uZ Wt R N m) bo N t rs Hi) (ht : t < N) :
  Tr tbl J c53_l1 (fun s h => h = Hi ∧ s.get [false] = xw ∧ s.get [false,false,false] = G N ∧ s.get [true,false,false] = x8 ∧ s.get [false,true,false] = x9 ∧ s.get [true,true,false] = .slice bo 0 N N ∧ s.get [false,false,true] = G (N - 1 - t : Nat) ∧ s.get [true,false,true] = G ((0 : Nat) : Int)) (.exit 2)
   (fun s h => BRw bo N (N - 1 - t) rs Hi (zk S (uZ Wt R N m) t n) h ∧ (fun s h => s.get [false] = xw ∧ s.get [false,false,false] = G N ∧ s.get [true,false,false] = x8 ∧ s.get [false,true,false] = x9 ∧ s.get [true,true,false] = .slice bo 0 N N ∧ s.get [false,false,true] = G (N - 1 - t : Nat)) s h):=by
 have N40:=x.N40
 have n2:=x.os.n
 rw [x.hS] at n2
 refine Tr.pre (P:=fun s h => BRw bo N (N - 1 - t) rs Hi (zk S (uZ Wt R N m) t 0) h ∧ (fun s h => s.get [false] = xw ∧ s.get [false,false,false] = G N ∧ s.get [true,false,false] = x8 ∧ s.get [false,true,false] = x9 ∧ s.get [true,true,false] = .slice bo 0 N N ∧ s.get [false,false,true] = G (N - 1 - t : Nat) ∧ s.get [true,false,true] = G ((0 : Nat) : Int)) s h) (fun s h ⟨h0,q⟩ => ⟨by
  subst h0
  exact ⟨Kp.refl _,.nils,by rw [rt.go,set_self (rt.no t (Nat.le_refl _) ht)],LV.nil _,fun b e => by cases e⟩,q⟩) ?_
 refine Tr.rounds (e:=.exit 2) (P:=fun j s h => BRw bo N (N - 1 - t) rs Hi (zk S (uZ Wt R N m) t j) h ∧ (fun s h => s.get [false] = xw ∧ s.get [false,false,false] = G N ∧ s.get [true,false,false] = x8 ∧ s.get [false,true,false] = x9 ∧ s.get [true,true,false] = .slice bo 0 N N ∧ s.get [false,false,true] = G (N - 1 - t : Nat) ∧ s.get [true,false,true] = G (j : Nat)) s h) (M:=n) (fun j hj => ?_) ?_ (by simp) 0 (by omega)
 ·refine Tr.w fun s1 H1 hp _ kR => W.trim ?_
  obtain ⟨bi,q⟩:=hp
  have kz1 : Kp (fun _ => False) Z H1:=kz.late bi.k (fun q e => by rw [e]; exact hbz)
  obtain ⟨wn,sm,ra,q3,m5,_,rx,hR,hS,os,ln⟩:=x.kp kz1
  obtain ⟨bw,vw,cs,rfl,gw,lc,hr⟩:=wn
  obtain ⟨yw,ew,tw⟩:=hr (N - 1 - t) (by omega)
  obtain ⟨bx,vx,rfl,gx⟩ : ∃ b v,x8 = .slice b 0 n v ∧ H1.get b = .cells 1 v (wsL R):=by
   rcases rx with ⟨_,e⟩ | ⟨b,v,e,g⟩
   ·have : (wsL R).length = 0:=by rw [e]; rfl
    rw [wsL_len] at this; omega
   ·rw [wsL_len,hR] at e; exact ⟨b,v,e,g⟩
  have lx:=wsL_len R
  rw [hR] at lx
  have ex:=wsL_at (R:=R) (i:=j) (by omega)
  obtain ⟨rl,rc⟩:=ra.at (c:=j) (by omega)
  have o15:=fun r hr => c53_o15_ok (x9:=x9) (r:=r) J k86 bi (show N - 1 - t < N by omega) rt.lr (by rw [zk_len]; omega) N40 hNb hb2 gw lc ew tw gx lx ex rc rl q3 m5 (sm _ (by omega)) n2 hr
  have hu : uZ Wt R N m t j = rvA (Wt.getD (N - 1 - t) []) (R.getD j []) m:=if_pos ⟨ht,by omega⟩
  rw [← hu] at o15
  have bdu:=uZ_bd (R:=R) (N:=N) sm ra m5
  rw [zk_succ] at kR
  have j1 : ((j + 1 : Nat) : Int) = (j : Int) + 1:=by omega
  rw [j1] at kR
  clear rx hr tw k86 rl rc
  cases t with
  | zero =>
   have b0 : bsZ S (uZ Wt R N m) 0 j = max noneZ (0 + uZ Wt R N m 0 j):=rfl
   have o15:=o15 0 (by omega)
   rw [← b0] at o15
   have N0 : ((N - 1 - 0 : Nat) : Int) = (N : Int) - 1:=by omega
   have nlt : ¬ (N : Int) - 1 < (N : Int) - 1:=by omega
   rw [N0] at q o15 kR
   generalize zk S (uZ Wt R N m) 0 j = K1 at *
   generalize bsZ S (uZ Wt R N m) 0 j = z at *
   clear x rt ln os sm ra hu b0 bdu
   generalize wsL R = wl at *
   refine W.assoc ?_
   refine zCh ?_
   simp (disch:=first|omega|exact zE rfl|exact zO|exact zL rfl) [c53_o7,zG,q]
   refine zCh ?_
   simp (disch:=first|omega|exact zE rfl|exact zO|exact zL rfl) [zG,q]
   refine W.seq (W.block ?_)
   refine zCh ?_
   simp (disch:=first|omega|exact zE rfl|exact zO|exact zL rfl) [c53_o8,zG,q]
   refine W.assoc ?_
   refine zCh ?_
   simp (disch:=first|omega|exact zE rfl|exact zO|exact zL rfl) [c53_o9,zG,q]
   refine W.seq (W.cond (v:=false) (by simp (disch:=first|omega|exact zE rfl|exact zO|exact zL rfl) [zG,q]) ?_)
   simp only [if_true,if_false,Bool.false_eq_true]
   refine W.skip ?_
   try simp only [zW,if_true]
   refine W.use (o15) (by simp (disch:=first|omega|exact zE rfl|exact zO|exact zL rfl) [zG,q]) fun s1 H1 hp => ?_
   obtain ⟨bi2,q⟩:=hp
   try simp only [zW,if_true]
   refine W.chunk ?_
   simp (disch:=first|omega|exact zE rfl|exact zO|exact zL rfl) [c53_o16,zG,q]
   exact kR _ _ ⟨bi2,by simp [T.get,q]⟩
  | succ l =>
   have b0 : bsZ S (uZ Wt R N m) (l + 1) j = max noneZ (fmx (bsZ S (uZ Wt R N m) l) noneZ (S.getD j []) + uZ Wt R N m (l + 1) j):=rfl
   have bb:=bsZ_bd (S:=S) (u:=uZ Wt R N m) (K:=40) bdu (Nat.le_refl _) (show l ≤ 40 by omega) (S.getD j [])
   have o15:=o15 (fmx (bsZ S (uZ Wt R N m) l) noneZ (S.getD j [])) (by omega)
   rw [← b0] at o15
   obtain ⟨rs9,lv9,l9,h9⟩:=ln
   rw [hS] at l9 h9 lv9
   obtain ⟨b9,rfl,g9⟩:=lv9.resolve_left (fun e => by omega)
   obtain ⟨y9,e9,ry9⟩:=h9 j hj
   obtain ⟨y',er0,rv0,ny⟩:=rt.row l (by omega)
   have rv1:=rv0.kp bi.k (fun b hb e => ny (by rw [hb,e]))
   obtain ⟨br,vr,rfl,gr⟩ : ∃ b v,y' = .slice b 0 n v ∧ H1.get b = .cells 1 v (gs (zk S (uZ Wt R N m) l n)):=by
    rw [hS] at rv1
    have lz : (gs (zk S (uZ Wt R N m) l n)).length = n:=by rw [List.length_map,zk_len]
    rcases rv1 with ⟨_,e⟩ | ⟨b,v,e,g⟩
    ·rw [e] at lz; simp at lz; omega
    ·rw [lz] at e; exact ⟨b,v,e,g⟩
   obtain ⟨y1,go1,_⟩:=bi.g
   have er1 : (rs.set (N - 1 - (l + 1)) y1)[N - 1 - (l + 1) + 1]? = some (.slice br 0 n vr):=by
    rw [List.getElem?_set_ne (by omega),show N - 1 - (l + 1) + 1 = N - 1 - l by omega]; exact er0
   have l0:=c53_l0_ok (xw:=.slice bw 0 N vw) (x8:=.slice bx 0 n vx) (f:=bsZ S (uZ Wt R N m) l) J g9 l9 e9 ry9 (os.len j) go1 (by rw [List.length_set]; exact rt.lr) er1 gr (by rw [List.length_map,zk_len]) (fun c hc => zk_at S _ l (by rw [← hS]; exact os.lt j c hc)) N40 n2
   have lt : ((N - 1 - (l + 1) : Nat) : Int) < (N : Int) - 1:=by omega
   have i40 : N - 1 - (l + 1) ≤ 40:=by omega
   generalize N - 1 - (l + 1) = i at *
   clear bb
   generalize fmx (bsZ S (uZ Wt R N m) l) noneZ (S.getD j []) = r0 at *
   have nz : noneZ = -1000000000:=rfl
   rw [nz] at l0
   generalize zk S (uZ Wt R N m) (l + 1) j = K1 at *
   generalize bsZ S (uZ Wt R N m) (l + 1) j = z at *
   clear x rt h9 os sm ra hu b0 bdu rv0 rv1 ry9 gr er1 go1
   generalize wsL R = wl at *
   refine W.assoc ?_
   refine zCh ?_
   simp (disch:=first|omega|exact zE rfl|exact zO|exact zL rfl) [c53_o7,zG,q]
   refine zCh ?_
   simp (disch:=first|omega|exact zE rfl|exact zO|exact zL rfl) [zG,q]
   refine W.seq (W.block ?_)
   refine zCh ?_
   simp (disch:=first|omega|exact zE rfl|exact zO|exact zL rfl) [c53_o8,zG,q]
   refine W.assoc ?_
   refine zCh ?_
   simp (disch:=first|omega|exact zE rfl|exact zO|exact zL rfl) [c53_o9,zG,q]
   refine W.seq (W.cond (v:=true) (by simp (disch:=first|omega|exact zE rfl|exact zO|exact zL rfl) [zG,q]) ?_)
   simp only [if_true,if_false,Bool.false_eq_true]
   refine zCh ?_
   simp (disch:=first|omega|exact zE rfl|exact zO|exact zL rfl) [c53_o10,zG,q]
   refine zCh ?_
   simp (disch:=first|omega|exact zE rfl|exact zO|exact zL rfl) [c53_o11,zG,q]
   refine W.block ?_
   refine W.use (l0) (by simp (disch:=first|omega|exact zE rfl|exact zO|exact zL rfl) [zG,q]) fun s1 H1 hp => ?_
   obtain ⟨rfl,q⟩:=hp
   try simp only [zW,if_true]
   refine W.use (o15) (by simp (disch:=first|omega|exact zE rfl|exact zO|exact zL rfl) [zG,q]) fun s1 H1 hp => ?_
   obtain ⟨bi2,q⟩:=hp
   try simp only [zW,if_true]
   refine W.chunk ?_
   simp (disch:=first|omega|exact zE rfl|exact zO|exact zL rfl) [c53_o16,zG,q]
   exact kR _ _ ⟨bi2,by simp [T.get,q]⟩
 ·have sx:=x.rx.sl
  rw [wsL_len,x.hR] at sx
  refine Tr.w fun s1 H1 hp _ kR => W.trim ?_
  obtain ⟨bi,q⟩:=hp
  clear x rt
  generalize N - 1 - t = i at *
  generalize zk S (uZ Wt R N m) t n = K1 at *
  rcases sx with ⟨rfl,rfl⟩ | ⟨bx,vx,rfl⟩
  all_goals
   refine W.assoc ?_
   refine zCh ?_
   simp (disch:=first|omega|exact zE rfl|exact zO|exact zL rfl) [c53_o7,zG,q]
   refine zCh ?_
   simp (disch:=first|omega|exact zE rfl|exact zO|exact zL rfl) [zG,q]
   exact kR _ _ ⟨bi,by simp [T.get,q]⟩
set_option maxHeartbeats 1000000 in
theorem c53_l2_ok (J : CallF) (k86 : K85 86 J) {Z Hi : Heap} {xw x8 x9 : AV} {bo : Nat} {rs : List AV} (x : XT S R Wt N m q n Z xw x8 x9) (kz : Kp (fun _ => False) Z Hi) (hbz : Z.size ≤ bo) (hb2 : bo < Hi.size) (hNb : Hi.N ≤ bo) (rt : RT S (uZ Wt R N m) bo N 0 rs Hi) :
  Tr tbl J c53_l2 (fun s h => h = Hi ∧ s.get [false] = xw ∧ s.get [false,false,false] = G N ∧ s.get [true,false,false] = x8 ∧ s.get [false,true,false] = x9 ∧ s.get [true,true,false] = .slice bo 0 N N ∧ s.get [false,false,true] = G ((N : Int) - 1)) (.exit 0)
   (fun s h => ∃ rs,(Kp (fun _ => False) Z h ∧ RT S (uZ Wt R N m) bo N N rs h) ∧ (fun s h => s.get [false] = xw ∧ s.get [false,false,false] = G N ∧ s.get [true,false,false] = x8 ∧ s.get [false,true,false] = x9 ∧ s.get [true,true,false] = .slice bo 0 N N) s h):=by
 have N40:=x.N40
 refine Tr.pre (P:=fun s h => ∃ rs,(Kp (fun _ => False) Z h ∧ bo < h.size ∧ h.N ≤ bo ∧ RT S (uZ Wt R N m) bo N 0 rs h) ∧ (fun s h => s.get [false] = xw ∧ s.get [false,false,false] = G N ∧ s.get [true,false,false] = x8 ∧ s.get [false,true,false] = x9 ∧ s.get [true,true,false] = .slice bo 0 N N ∧ s.get [false,false,true] = G ((N : Int) - 1 - ((0 : Nat) : Int))) s h) (fun s h ⟨h0,q⟩ => ⟨rs,by rw [h0]; exact ⟨kz,hb2,hNb,rt⟩,by rw [show (N : Int) - 1 - ((0 : Nat) : Int) = (N : Int) - 1 by omega]; exact q⟩) ?_
 refine Tr.rounds (e:=.exit 0) (P:=fun t s h => ∃ rs,(Kp (fun _ => False) Z h ∧ bo < h.size ∧ h.N ≤ bo ∧ RT S (uZ Wt R N m) bo N t rs h) ∧ (fun s h => s.get [false] = xw ∧ s.get [false,false,false] = G N ∧ s.get [true,false,false] = x8 ∧ s.get [false,true,false] = x9 ∧ s.get [true,true,false] = .slice bo 0 N N ∧ s.get [false,false,true] = G ((N : Int) - 1 - (t : Nat))) s h) (M:=N) (fun t ht => ?_) ?_ (by simp) 0 (by omega)
 ·refine Tr.w fun s1 H1 hp _ kR => W.trim ?_
  obtain ⟨rs1,⟨kz1,hb3,hN3,rt1⟩,q⟩:=hp
  have l1:=c53_l1_ok J k86 x kz1 hbz hb3 hN3 rt1 ht
  have post : ∀ h,BRw bo N (N - 1 - t) rs1 H1 (zk S (uZ Wt R N m) t n) h → ∃ rs,Kp (fun _ => False) Z h ∧ bo < h.size ∧ h.N ≤ bo ∧ RT S (uZ Wt R N m) bo N (t + 1) rs h:=fun h bi => by
   have hS:=x.hS
   rw [← hS] at bi
   obtain ⟨rs',rt'⟩:=rt1.next ht hb3 bi
   exact ⟨rs',kz1.late bi.k (fun q e => by rw [e]; exact hbz),Nat.lt_of_lt_of_le hb3 bi.k.size,by rw [bi.k.N]; exact hN3,rt'⟩
  have t1 : (N : Int) - 1 - (t : Int) = ((N - 1 - t : Nat) : Int):=by omega
  have t2 : (N : Int) - 1 - ((t + 1 : Nat) : Int) = ((N - 1 - t : Nat) : Int) - 1:=by omega
  have ge : (0 : Int) ≤ ((N - 1 - t : Nat) : Int):=by omega
  have i40 : N - 1 - t ≤ 40:=by omega
  rw [t1] at q
  rw [t2] at kR
  clear x rt1 rt
  generalize zk S (uZ Wt R N m) t n = K1 at *
  generalize N - 1 - t = i at *
  refine W.assoc ?_
  refine zCh ?_
  simp (disch:=first|omega|exact zE rfl|exact zO|exact zL rfl) [c53_o5,zG,q,ge]
  refine zCh ?_
  simp (disch:=first|omega|exact zE rfl|exact zO|exact zL rfl) [zG,q]
  refine W.seq (W.block ?_)
  refine zCh ?_
  simp (disch:=first|omega|exact zE rfl|exact zO|exact zL rfl) [c53_o6,zG,q]
  refine W.block ?_
  refine W.use (l1) (by simp (disch:=first|omega|exact zE rfl|exact zO|exact zL rfl) [zG,q]) fun s1 H1 hp => ?_
  obtain ⟨bi,q⟩:=hp
  try simp only [zW,if_true]
  obtain ⟨rs2,p2⟩:=post _ bi
  refine W.chunk ?_
  simp (disch:=first|omega|exact zE rfl|exact zO|exact zL rfl) [c53_o17,zG,q]
  exact kR _ _ ⟨rs2,p2,by simp [T.get,q]⟩
 ·refine Tr.w fun s1 H1 hp _ kR => W.trim ?_
  obtain ⟨rs1,⟨kz1,hb3,hN3,rt1⟩,q⟩:=hp
  have t1 : (N : Int) - 1 - (N : Int) = -1:=by omega
  rw [t1] at q
  clear x rt
  refine W.assoc ?_
  refine zCh ?_
  simp (disch:=first|omega|exact zE rfl|exact zO|exact zL rfl) [c53_o5,zG,q]
  refine zCh ?_
  simp (disch:=first|omega|exact zE rfl|exact zO|exact zL rfl) [zG,q]
  exact kR _ _ ⟨rs1,⟨kz1,rt1⟩,by simp [T.get,q]⟩
end
section
variable {S : List (List Nat)} {R : List (List Nat)} {Wt : List (List (List Int))} {N m qq n : Nat}
theorem c53_l3_ok (J : CallF) {Hb : Heap} {xw x8 x9 : AV} {bo br vr : Nat} {rs : List AV} {f : Nat → Int} {cr : List AV} (sx : (x8 = .nils ∧ n = 0) ∨ ∃ b v,x8 = .slice b 0 n v) (go : Hb.get bo = .cells 1 N rs) (lr : rs.length = N) (er : 0 < n → rs[0]? = some (.slice br 0 n vr) ∧ Hb.get br = .cells 1 vr cr ∧ cr.length = n) (hcr : ∀ c,c < n → cr[c]? = some (G (f c))) (n2 : n ≤ 1000) (N1 : 1 ≤ N) :
  Tr tbl J c53_l3 (fun s h => h = Hb ∧ s.get [false] = xw ∧ s.get [false,false,false] = G N ∧ s.get [true,false,false] = x8 ∧ s.get [false,true,false] = x9 ∧ s.get [true,true,false] = .slice bo 0 N N ∧ s.get [false,false,false,false] = .nils ∧ s.get [true,false,false,false] = G noneZ ∧ s.get [false,true,false,false] = G ((0 : Nat) : Int)) (.exit 6)
   (fun s h => ∃ y,NV Hb h y (gn (List.range n)) ∧ s.get [false] = xw ∧ s.get [false,false,false] = G N ∧ s.get [true,false,false] = x8 ∧ s.get [false,true,false] = x9 ∧ s.get [true,true,false] = .slice bo 0 N N ∧ s.get [false,false,false,false] = y ∧ s.get [true,false,false,false] = G (fmx f noneZ (List.range n))):=by
 refine Tr.pre (P:=fun s h => ∃ y,NV Hb h y (gn (List.range 0)) ∧ s.get [false] = xw ∧ s.get [false,false,false] = G N ∧ s.get [true,false,false] = x8 ∧ s.get [false,true,false] = x9 ∧ s.get [true,true,false] = .slice bo 0 N N ∧ s.get [false,false,false,false] = y ∧ s.get [true,false,false,false] = G (fmx f noneZ (List.range 0)) ∧ s.get [false,true,false,false] = G ((0 : Nat) : Int)) (fun s h ⟨h0,q1,q2,q3,q4,q5,q6,q7,q8⟩ => ⟨.nils,by rw [h0]; exact NV.nil _,q1,q2,q3,q4,q5,q6,q7,q8⟩) ?_
 refine Tr.rounds (e:=.exit 6) (P:=fun i s h => ∃ y,NV Hb h y (gn (List.range i)) ∧ s.get [false] = xw ∧ s.get [false,false,false] = G N ∧ s.get [true,false,false] = x8 ∧ s.get [false,true,false] = x9 ∧ s.get [true,true,false] = .slice bo 0 N N ∧ s.get [false,false,false,false] = y ∧ s.get [true,false,false,false] = G (fmx f noneZ (List.range i)) ∧ s.get [false,true,false,false] = G i) (M:=n) (fun i hi => ?_) ?_ (by simp) 0 (by omega)
 ·obtain ⟨b,v,rfl⟩:=sx.resolve_left (fun e => by omega)
  obtain ⟨er,gr,lcr⟩:=er (by omega)
  have er':=getI er
  have e2:=hcr i hi
  have e2':=getI e2
  refine Tr.w fun s1 H1 hp _ kR => W.trim ?_
  obtain ⟨y,nv,q⟩:=hp
  obtain ⟨x1,e,H2,q1,q2,nv2,q4⟩:=nv.app H1.size 8 (G i) (by rw [gn_len,List.length_range]; omega)
  rw [← gn_range] at nv2
  have go2:=nv2.k.at go (by simp) id
  have gr2:=nv2.k.at gr (by simp) id
  have mm:=mm_max (fmx f noneZ (List.range i)) (f i)
  rw [← fmx_app,← List.range_succ] at mm
  have i1 : ((i + 1 : Nat) : Int) = (i : Int) + 1:=by omega
  rw [i1] at kR
  clear nv hcr
  generalize fmx f noneZ (List.range (i + 1)) = r2 at *
  generalize fmx f noneZ (List.range i) = r1 at *
  generalize f i = z at *
  refine W.assoc ?_
  refine zCh ?_
  simp (disch:=first|omega|exact zE rfl|exact zO|exact zL rfl) [c53_o21,zG,q]
  refine zCh ?_
  simp (disch:=first|omega|exact zE rfl|exact zO|exact zL rfl) [zG,q]
  refine W.seq (W.block ?_)
  refine zCh ?_
  simp (disch:=first|omega|exact zE rfl|exact zO|exact zL rfl) [c53_o22,zG,q,q1,q2,app1_at,elems,rdOf]
  refine W.chunk ?_
  simp (disch:=first|omega|exact zE rfl|exact zO|exact zL rfl) [c53_o23,zG,q,go2,lr,er,er',gr2,lcr,e2,e2',mm]
  refine W.chunk ?_
  simp (disch:=first|omega|exact zE rfl|exact zO|exact zL rfl) [c53_o24,zG,q]
  exact kR _ _ ⟨_,nv2,by simp [T.get,q]⟩
 ·clear er hcr
  generalize fmx f noneZ (List.range n) = r1 at *
  rcases sx with ⟨rfl,hz⟩ | ⟨b,v,rfl⟩
  ·subst hz
   refine Tr.w fun s1 H1 hp _ kR => W.trim ?_
   obtain ⟨y,nv,q⟩:=hp
   refine W.assoc ?_
   refine zCh ?_
   simp (disch:=first|omega|exact zE rfl|exact zO|exact zL rfl) [c53_o21,zG,q]
   refine zCh ?_
   simp (disch:=first|omega|exact zE rfl|exact zO|exact zL rfl) [zG,q]
   exact kR _ _ ⟨_,nv,by simp [T.get,q]⟩
  ·refine Tr.w fun s1 H1 hp _ kR => W.trim ?_
   obtain ⟨y,nv,q⟩:=hp
   refine W.assoc ?_
   refine zCh ?_
   simp (disch:=first|omega|exact zE rfl|exact zO|exact zL rfl) [c53_o21,zG,q]
   refine zCh ?_
   simp (disch:=first|omega|exact zE rfl|exact zO|exact zL rfl) [zG,q]
   exact kR _ _ ⟨_,nv,by simp [T.get,q]⟩
theorem c53_l4_ok (J : CallF) {H : Heap} {xw x8 x9 y z s16 : AV} {bo i br vr c : Nat} {rs cr : List AV} {L A B : List Nat} {f : Nat → Int} {w : Int} (eL : L = A ++ c :: B) (hc : f c = w) (hA : ∀ k ∈ A,f k ≠ w) (ry : RV H y (gn L)) (hL : L.length ≤ 1000) (go : H.get bo = .cells 1 N rs) (lr : rs.length = N) (er : rs[i]? = some (.slice br 0 n vr)) (gr : H.get br = .cells 1 vr cr) (lcr : cr.length = n) (hcr : ∀ c ∈ L,cr[c]? = some (G (f c))) (n2 : n ≤ 1000) (N40 : N ≤ 40) :
  Tr tbl J c53_l4 (fun s h => h = H ∧ s.get [false] = xw ∧ s.get [false,false,false] = G N ∧ s.get [true,false,false] = x8 ∧ s.get [false,true,false] = x9 ∧ s.get [true,true,false] = .slice bo 0 N N ∧ s.get [false,false,false,false] = y ∧ s.get [true,false,false,false] = s16 ∧ s.get [true,true,false,false] = z ∧ s.get [false,false,true,false] = G w ∧ s.get [true,false,true,false] = G i ∧ s.get [false,true,true,false] = G ((0 : Nat) : Int)) (.exit 10)
   (fun s h => h = H ∧ s.get [false] = xw ∧ s.get [false,false,false] = G N ∧ s.get [true,false,false] = x8 ∧ s.get [false,true,false] = x9 ∧ s.get [true,true,false] = .slice bo 0 N N ∧ s.get [false,false,false,false] = y ∧ s.get [true,false,false,false] = s16 ∧ s.get [true,true,false,false] = z ∧ s.get [false,false,true,false] = G w ∧ s.get [true,false,true,false] = G i ∧ s.get [false,true,true,false] = G A.length):=by
 have lL : L.length = A.length + 1 + B.length:=by rw [eL]; simp; omega
 obtain ⟨by',vy,rfl,gy⟩ : ∃ b v,y = .slice b 0 L.length v ∧ H.get b = .cells 1 v (gn L):=by
  rcases ry with ⟨_,e⟩ | ⟨b,v,e,g⟩
  ·have : (gn L).length = 0:=by rw [e]; rfl
   rw [gn_len] at this; omega
  ·rw [gn_len] at e; exact ⟨b,v,e,g⟩
 have lg:=gn_len L
 have er':=getI er
 have hi:=(List.getElem?_eq_some_iff.1 er).1
 have at' : ∀ t,t < L.length → cr[L.getD t 0]? = some (G (f (L.getD t 0))):=fun t ht => hcr _ (gD_mem ht)
 refine Tr.rounds (e:=.exit 10) (P:=fun t => (fun s h => h = H ∧ s.get [false] = xw ∧ s.get [false,false,false] = G N ∧ s.get [true,false,false] = x8 ∧ s.get [false,true,false] = x9 ∧ s.get [true,true,false] = .slice bo 0 N N ∧ s.get [false,false,false,false] = .slice by' 0 L.length vy ∧ s.get [true,false,false,false] = s16 ∧ s.get [true,true,false,false] = z ∧ s.get [false,false,true,false] = G w ∧ s.get [true,false,true,false] = G i ∧ s.get [false,true,true,false] = G (t : Nat))) (M:=A.length) (fun t ht => ?_) ?_ (by simp) 0 (by omega)
 ·have e1:=gn_at (L:=L) (i:=t) (by omega)
  have e1':=getI e1
  have e2:=at' t (by omega)
  have e2':=getI e2
  have hcn:=(List.getElem?_eq_some_iff.1 e2).1
  have ne : ¬ f (L.getD t 0) = w:=by
   rw [show L.getD t 0 = A.getD t 0 by rw [eL,List.getD_eq_getElem?_getD,List.getElem?_append_left ht,List.getD_eq_getElem?_getD]]
   exact hA _ (gD_mem ht)
  have t1 : ((t + 1 : Nat) : Int) = (t : Int) + 1:=by omega
  rw [t1]
  have tL : t < L.length:=by omega
  clear hcr ry at' eL lL hA
  generalize f (L.getD t 0) = z1 at *
  generalize L.getD t 0 = c1 at *
  generalize gn L = cs at *
  generalize L.length = nL at *
  generalize A.length = nA at *
  refine Tr.w fun s1 H1 hp _ kR => W.trim ?_
  obtain ⟨rfl,q⟩:=hp
  refine W.assoc ?_
  refine zCh ?_
  simp (disch:=first|omega|exact zE rfl|exact zO|exact zL rfl) [-evDraw_c,c53_o32,zG,q,evDraw_0,go,lr,er,er',gr,lcr,e2,e2',gy,lg,e1,e1',ne]
  refine zCh ?_
  simp (disch:=first|omega|exact zE rfl|exact zO|exact zL rfl) [zG,q]
  refine W.block ?_
  refine W.chunk ?_
  simp (disch:=first|omega|exact zE rfl|exact zO|exact zL rfl) [c53_o33,zG,q]
  exact kR _ _ (by simp [T.get,q])
 ·have e1:=gn_at (L:=L) (i:=A.length) (by omega)
  have e2:=at' A.length (by omega)
  have eA : L.getD A.length 0 = c:=by
   rw [eL,List.getD_eq_getElem?_getD,List.getElem?_append_right (Nat.le_refl _),Nat.sub_self]; rfl
  rw [eA] at e1 e2
  rw [hc] at e2
  have e1':=getI e1
  have e2':=getI e2
  have hcn:=(List.getElem?_eq_some_iff.1 e2).1
  have tL : A.length < L.length:=by omega
  clear hcr ry at' eL lL hA eA hc
  generalize gn L = cs at *
  generalize L.length = nL at *
  generalize A.length = nA at *
  refine Tr.w fun s1 H1 hp _ kR => W.trim ?_
  obtain ⟨rfl,q⟩:=hp
  refine W.assoc ?_
  refine zCh ?_
  simp (disch:=first|omega|exact zE rfl|exact zO|exact zL rfl) [-evDraw_c,c53_o32,zG,q,evDraw_0,go,lr,er,er',gr,lcr,e2,e2',gy,lg,e1,e1']
  refine zCh ?_
  simp (disch:=first|omega|exact zE rfl|exact zO|exact zL rfl) [zG,q]
  exact kR _ _ (by simp [T.get,q])
structure XBr (S : List (List Nat)) (u : Nat → Nat → Int) (N i : Nat) (E done L : List Nat) (w : Int) : Prop where
 e : done ++ bP S u (N - i) L = E
 n : done.length = i
 l : L.length ≤ 1000
 lt : ∀ c ∈ L,c < S.length
 o : i < N → ∃ c,bO (gv S u (N - 1 - i)) none L = some (c,w)
theorem XBr.next {u : Nat → Nat → Int} (os : OkS S) {i : Nat} {E done L : List Nat} {w : Int} (x : XBr S u N i E done L w) (hi : i < N) {c : Nat} (hc : bO (gv S u (N - 1 - i)) none L = some (c,w)) : XBr S u N (i + 1) E (done ++ [c]) (S.getD c []) (w - u (N - 1 - i) c):=by
 have cC : bC S u (N - 1 - i) L = c:=by unfold bC; rw [hc]; rfl
 have e:=x.e
 rw [show N - i = (N - 1 - i) + 1 by omega] at e
 have e2 : bP S u (N - 1 - i + 1) L = bC S u (N - 1 - i) L :: bP S u (N - 1 - i) (S.getD (bC S u (N - 1 - i) L) []):=rfl
 rw [e2,cC] at e
 refine ⟨?_,by rw [List.length_append,x.n]; rfl,os.len c,os.lt c,fun h => ?_⟩
 ·rw [show N - (i + 1) = N - 1 - i by omega,List.append_assoc]; exact e
 ·have h2:=(bO_at hc).2
  rw [show N - 1 - i = (N - 1 - (i + 1)) + 1 by omega] at h2 ⊢
  exact ⟨_,gv_next h2⟩
set_option maxHeartbeats 2000000 in
theorem c53_l5_ok (J : CallF) (k86 : K85 86 J) {Z Hc : Heap} {xw x8 x9 s16 : AV} {bo : Nat} {rs : List AV} {E : List Nat} (x : XT S R Wt N m qq n Hc xw x8 x9) (rt : RT S (uZ Wt R N m) bo N N rs Hc) :
  Tr tbl J c53_l5 (fun t h => ∃ z y done L w,(NV Hc h z (wsL (rT2 R done)) ∧ RV h y (gn L) ∧ XBr S (uZ Wt R N m) N 0 E done L w) ∧ t.get [false] = xw ∧ t.get [false,false,false] = G N ∧ t.get [true,false,false] = x8 ∧ t.get [false,true,false] = x9 ∧ t.get [true,true,false] = .slice bo 0 N N ∧ t.get [false,false,false,false] = y ∧ t.get [true,false,false,false] = s16 ∧ t.get [true,true,false,false] = z ∧ t.get [false,false,true,false] = G w ∧ t.get [true,false,true,false] = G ((0 : Nat) : Int)) (.exit 8)
   (fun t h => ∃ z,NV Hc h z (wsL (rT2 R E)) ∧ t.get [true,false,false,false] = s16 ∧ t.get [true,true,false,false] = z):=by
 have N40:=x.N40
 have n2:=x.os.n
 rw [x.hS] at n2
 refine Tr.rounds (e:=.exit 8) (P:=fun i t h => ∃ z y done L w,(NV Hc h z (wsL (rT2 R done)) ∧ RV h y (gn L) ∧ XBr S (uZ Wt R N m) N i E done L w) ∧ t.get [false] = xw ∧ t.get [false,false,false] = G N ∧ t.get [true,false,false] = x8 ∧ t.get [false,true,false] = x9 ∧ t.get [true,true,false] = .slice bo 0 N N ∧ t.get [false,false,false,false] = y ∧ t.get [true,false,false,false] = s16 ∧ t.get [true,true,false,false] = z ∧ t.get [false,false,true,false] = G w ∧ t.get [true,false,true,false] = G (i : Nat)) (M:=N) (fun i hi => ?_) ?_ (by simp) 0 (by omega)
 ·refine Tr.w fun s1 H1 hp _ kR => W.trim ?_
  obtain ⟨z,y,done,L,w,⟨nv,ry,xe⟩,q⟩:=hp
  obtain ⟨c,hc⟩:=xe.o hi
  have xe2:=xe.next x.os hi hc
  obtain ⟨cm,hcv⟩:=bO_at hc
  have hcn : c < n:=by rw [← x.hS]; exact xe.lt c cm
  obtain ⟨wn,sm,ra,q3,m5,_,rx,hR,hS,os,ln⟩:=x.kp nv.k
  have bdu:=uZ_bd (R:=R) (N:=N) sm ra m5
  obtain ⟨_,_,_,A,B,eL,hb,hA⟩:=(fmx_bO (S:=S) (u:=uZ Wt R N m) (N:=39) (fun l _ i => bdu l i) (Nat.le_refl _) (show N - 1 - i ≤ 39 by omega) L).2 c w hc
  obtain ⟨y',er0,rv0,ny⟩:=rt.row (N - 1 - i) (by omega)
  rw [show N - 1 - (N - 1 - i) = i by omega] at er0
  have rv1:=rv0.kp nv.k (fun b hb e => e)
  obtain ⟨br,vr,rfl,gr⟩ : ∃ b v,y' = .slice b 0 n v ∧ H1.get b = .cells 1 v (gs (zk S (uZ Wt R N m) (N - 1 - i) n)):=by
   rw [hS] at rv1
   have lz : (gs (zk S (uZ Wt R N m) (N - 1 - i) n)).length = n:=by rw [List.length_map,zk_len]
   rcases rv1 with ⟨_,e⟩ | ⟨b,v,e,g⟩
   ·rw [e] at lz; simp at lz; omega
   ·rw [lz] at e; exact ⟨b,v,e,g⟩
  have go1:=nv.k.at rt.go (by simp) id
  have l4:=c53_l4_ok (xw:=xw) (x8:=x8) (x9:=x9) (z:=z) (s16:=s16) (i:=i) (f:=bsZ S (uZ Wt R N m) (N - 1 - i)) J eL hb hA ry xe.l go1 rt.lr er0 gr (by rw [List.length_map,zk_len]) (fun c hc => zk_at S _ _ (by rw [← hS]; exact xe.lt c hc)) n2 N40
  obtain ⟨bw,vw,cs,rfl,gw,lc,hr⟩:=wn
  obtain ⟨yw,ew,tw⟩:=hr i hi
  have ew':=getI ew
  obtain ⟨bx,vx,rfl,gx⟩ : ∃ b v,x8 = .slice b 0 n v ∧ H1.get b = .cells 1 v (wsL R):=by
   rcases rx with ⟨_,e⟩ | ⟨b,v,e,g⟩
   ·have : (wsL R).length = 0:=by rw [e]; rfl
    rw [wsL_len] at this; omega
   ·rw [wsL_len,hR] at e; exact ⟨b,v,e,g⟩
  have lx:=wsL_len R
  rw [hR] at lx
  have ex:=wsL_at (R:=R) (i:=c) (by omega)
  have ex':=getI ex
  obtain ⟨rl,rc⟩:=ra.at (c:=c) (by omega)
  obtain ⟨rs9,lv9,l9,h9⟩:=ln
  rw [hS] at l9 h9 lv9
  obtain ⟨b9,rfl,g9⟩:=lv9.resolve_left (fun e => by omega)
  obtain ⟨y9,e9,ry9⟩:=h9 c hcn
  have e9':=getI e9
  obtain ⟨by',vy,rfl,gy⟩ : ∃ b v,y = .slice b 0 L.length v ∧ H1.get b = .cells 1 v (gn L):=by
   rcases ry with ⟨_,e⟩ | ⟨b,v,e,g⟩
   ·have : (gn L).length = 0:=by rw [e]; rfl
    rw [gn_len,eL] at this; simp at this
   ·rw [gn_len] at e; exact ⟨b,v,e,g⟩
  have lg:=gn_len L
  have tL : A.length < L.length:=by rw [eL]; simp
  have e1:=gn_at tL
  have eA : L.getD A.length 0 = c:=by
   rw [eL,List.getD_eq_getElem?_getD,List.getElem?_append_right (Nat.le_refl _),Nat.sub_self]; rfl
  rw [eA] at e1
  have e1':=getI e1
  obtain ⟨x1,e,H2,q1,q2,nv2,q4⟩:=nv.app H1.size 16 (.str (stW (R.getD c []))) (by rw [wsL_len,rT2_len,xe.n]; omega)
  have eew : wsL (rT2 R done) ++ [.str (stW (R.getD c []))] = wsL (rT2 R (done ++ [c])):=by
   unfold wsL
   rw [rT2_app,List.map_append]; rfl
  rw [eew] at nv2
  have kk : Kp (fun _ => False) Hc H2:=nv2.k
  obtain ⟨wn2,_,_,_,_,_,rx2,_,_,_,ln2⟩:=x.kp kk
  obtain ⟨bw2,vw2,cs2,ewx,gw2,lc2,hr2⟩:=wn2
  cases ewx
  obtain ⟨yw2,ew2,tw2⟩:=hr2 i hi
  have ew2':=getI ew2
  have gx2 : H2.get bx = .cells 1 vx (wsL R):=by
   rcases rx2 with ⟨e,_⟩ | ⟨b,v,e,g⟩
   ·cases e
   ·simp only [AV.slice.injEq] at e
    obtain ⟨rfl,_,_,rfl⟩:=e
    exact g
  have e86:=k86 H2 ⟨yw2,m,qq,Wt.getD i [],R.getD c []⟩ ⟨tw2,rc,rl,q3,by show m ≤ 1000; omega,sm _ hi⟩
  simp only at e86
  have hu : uZ Wt R N m (N - 1 - i) c = rvA (Wt.getD i []) (R.getD c []) m:=by
   have : uZ Wt R N m (N - 1 - i) c = rvA (Wt.getD (N - 1 - (N - 1 - i)) []) (R.getD c []) m:=if_pos ⟨by omega,by omega⟩
   rw [this,show N - 1 - (N - 1 - i) = i by omega]
  rw [← hu] at e86
  obtain ⟨rs9',lv9',l9',h9'⟩:=ln2
  rw [hS] at l9' h9' lv9'
  have g92 : H2.get b9 = .cells 1 n rs9':=by
   rcases lv9' with ⟨e,_⟩ | ⟨b,e,g⟩
   ·cases e
   ·simp only [AV.slice.injEq] at e
    obtain ⟨rfl,_⟩:=e
    exact g
  obtain ⟨y92,e92,ry92⟩:=h9' c hcn
  have e92':=getI e92
  have wb : -300000 ≤ w ∧ w ≤ 300000:=by
   have:=(fmx_bO (S:=S) (u:=uZ Wt R N m) (N:=39) (fun l _ i => bdu l i) (Nat.le_refl _) (show N - 1 - i ≤ 39 by omega) L).2 c w hc
   omega
  have ub:=bdu (N - 1 - i) c
  have lL:=xe.l
  have i1 : ((i + 1 : Nat) : Int) = (i : Int) + 1:=by omega
  rw [i1] at kR
  clear nv ry xe rt x k86 sm ra rx os h9 hr tw rv0 rv1 eL hA hb hcv tw2 hr2 rx2 h9' hu eew hc eA cm bdu
  generalize uZ Wt R N m (N - 1 - i) c = u1 at *
  generalize stW (R.getD c []) = w0 at *
  generalize wsL R = wl at *
  generalize gn L = cL at *
  generalize L.length = nL at *
  generalize A.length = nA at *
  refine W.assoc ?_
  refine zCh ?_
  simp (disch:=first|omega|exact zE rfl|exact zO|exact zL rfl) [c53_o30,zG,q]
  refine zCh ?_
  simp (disch:=first|omega|exact zE rfl|exact zO|exact zL rfl) [zG,q]
  refine W.seq (W.block ?_)
  refine zCh ?_
  simp (disch:=first|omega|exact zE rfl|exact zO|exact zL rfl) [c53_o31,zG,q]
  refine W.seq (W.block ?_)
  refine W.use (l4) (by simp (disch:=first|omega|exact zE rfl|exact zO|exact zL rfl) [zG,q]) fun s1 H1 hp => ?_
  obtain ⟨rfl,q⟩:=hp
  try simp only [zW,if_true]
  refine zCh ?_
  simp (disch:=first|omega|exact zE rfl|exact zO|exact zL rfl) [c53_o34,zG,q,gy,lg,e1,e1']
  refine zCh ?_
  simp (disch:=first|omega|exact zE rfl|exact zO|exact zL rfl) [c53_o35,zG,q,gx,lx,ex,ex',q1,q2,app1_at,elems,rdOf]
  refine zCh ?_
  simp (disch:=first|omega|exact zE rfl|exact zO|exact zL rfl) [-evDraw_c,c53_o36,zG,q,evDraw_0,gw2,lc2,ew2,ew2',gx2,lx,ex,ex',e86]
  refine W.chunk ?_
  simp (disch:=first|omega|exact zE rfl|exact zO|exact zL rfl) [c53_o37,zG,q,g92,l9',e92,e92']
  refine W.chunk ?_
  simp (disch:=first|omega|exact zE rfl|exact zO|exact zL rfl) [c53_o38,zG,q]
  exact kR _ _ ⟨_,_,_,_,_,⟨nv2,ry92,xe2⟩,by simp [T.get,q]⟩
 ·refine Tr.w fun s1 H1 hp _ kR => W.trim ?_
  obtain ⟨z,y,done,L,w,⟨nv,ry,xe⟩,q⟩:=hp
  have e:=xe.e
  rw [Nat.sub_self] at e
  have : done = E:=by rw [← e]; exact (List.append_nil _).symm
  subst this
  clear ry xe x rt
  refine W.assoc ?_
  refine zCh ?_
  simp (disch:=first|omega|exact zE rfl|exact zO|exact zL rfl) [c53_o30,zG,q]
  refine zCh ?_
  simp (disch:=first|omega|exact zE rfl|exact zO|exact zL rfl) [zG,q]
  exact kR _ _ ⟨_,nv,by simp [T.get,q]⟩
end
theorem c53_o2_ok (J : CallF) {Hs Z : Heap} {b bw vw N b0 v0 : Nat} {wl : List AV} {own1 own2 : List AObj} {x8 x9 : AV} {aq : Int} {ml : Nat} {ax ay : AV} (gS : Hs.get b = .cells 0 3 [G aq,ax,ay]) (gS1 : (Hs.plus own1).get b = .cells 0 3 [G aq,ax,ay]) (gs : Hs.get bw = .cells 1 vw wl) (gs1 : (Hs.plus own1).get bw = .cells 1 vw wl) (lw : wl.length = N) (hN : 0 < N) (e0 : wl[0]? = some (.slice b0 0 ml v0))
  (e30 : J 30 [.agg [G aq,ax,ay],G ml] Hs = some (x8,own1,false)) (e31 : J 31 [.agg [G aq,ax,ay],G ml] (Hs.plus own1) = some (x9,own2,false)) (hZ : (Hs.plus own1).plus own2 = Z) :
  Tr tbl J c53_o2 (fun s h => h = Hs ∧ s.get [false] = .slice bw 0 N vw ∧ s.get [true] = .ptr b 0 3 ∧ s.get [false,false,false] = G N) .normal (fun s h => h = Z ∧ s.get [false] = .slice bw 0 N vw ∧ s.get [false,false,false] = G N ∧ s.get [true,false,false] = x8 ∧ s.get [false,true,false] = x9):=by
 have hb:=get_lt gS (by simp)
 have hb2:=get_lt gs (by simp)
 have e0':=getI e0
 have hp0 : ∀ H : Heap,H.plus [] = H:=fun H => by simp [Heap.plus]
 have o1 : own1 = [] ∨ ∃ o os,own1 = o :: os:=by cases own1 <;> simp
 have o2 : own2 = [] ∨ ∃ o os,own2 = o :: os:=by cases own2 <;> simp
 rcases o1 with rfl | ⟨u1,v1,rfl⟩ <;> rcases o2 with rfl | ⟨u2,v2,rfl⟩
 all_goals
  try rw [hp0] at hZ
  try rw [hp0] at hZ
  try rw [hp0] at gS1
  try rw [hp0] at gs1
  try rw [hp0] at e31
  subst hZ
  refine Tr.w fun s1 H1 hp _ kR => ?_
  obtain ⟨rfl,q⟩:=hp
  refine W.chunk ?_
  simp (disch:=first|omega|exact zE rfl|exact zO|exact zL rfl) [c53_o2,zG,q,gS,gS1,gs,gs1,lw,e0,e0',e30,e31,-evDraw_c,evDraw_0]
  refine kR _ _ ?_
  simp [T.get,q]
def Post53 (a : AR) (Wt : List (List (List Int))) (h : Heap) (v : AV) (own : List AObj) : Prop :=
 ∀ (m : Nat) (S R : List (List Nat)) (u : Nat → Nat → Int),(Wt.getD 0 []).length = m → a.steps (m : Nat) = S → a.rows (m : Nat) = R → uZ Wt R Wt.length m = u →
  (bO (gv S u (Wt.length - 1)) none (List.range S.length) = none → v = .tup [.nils,G 0,.bool false] ∧ own = []) ∧
  ∀ c s,bO (gv S u (Wt.length - 1)) none (List.range S.length) = some (c,s) → ∃ x,v = .tup [x,G s,.bool true] ∧ (∀ q,blk x = some q → h.size ≤ q) ∧ RV (h.plus own) x (wsL (rT2 R (bP S u Wt.length (List.range S.length))))
theorem RT.kp {S : List (List Nat)} {u : Nat → Nat → Int} {bo N t : Nat} {rs : List AV} {h h' : Heap} (r : RT S u bo N t rs h) (k : Kp (fun _ => False) h h') : RT S u bo N t rs h':=⟨k.at r.go (by simp) id,r.lr,fun l hl => by
 obtain ⟨y,e1,e2,e3⟩:=r.row l hl
 exact ⟨y,e1,e2.kp k (fun _ _ => id),e3⟩,r.no⟩
section
variable {a : AR} {x : AV} {Wt : List (List (List Int))}
set_option maxHeartbeats 4000000 in
theorem c53_ok (J : CallF) (k30 : K30 J) (k31 : K31 J) (k86 : K85 86 J) (hJ : ∀ a h,J 53 a h = none) (h : Heap) (o : OkR a h) (r : a.ru = true) (t : WT h x Wt) (w : wtB a.q.toNat Wt = true) :
  ∃ v own,CallsTo tbl J 53 [a.v,x] h (v,own,false) ∧ Post53 a Wt h v own:=by
 obtain ⟨Hs,hHs⟩ : ∃ H,(frameOf h).plus [.cells 0 3 [G a.q,a.x,a.y]] = H:=⟨_,rfl⟩
 have kHs : Kp (fun _ => False) (frameOf h) Hs:=by rw [← hHs]; exact Kp.plus _ _
 have oH : OkR a Hs:=OkR.kp (o.lo []) kHs
 have gS : Hs.get h.size = .cells 0 3 [G a.q,a.x,a.y]:=by rw [← hHs]; exact plus_at0 _ _ _ _ (frS h)
 have tH : WT Hs x Wt:=t.fr.kp kHs
 have fz:=frS h
 have av : a.v = .agg [G a.q,a.x,a.y]:=rfl
 have q3:=a.q3 r
 obtain ⟨m,hm,m1,m5,N1,N40,_⟩:=wtB_ok w
 obtain ⟨wn,sm⟩:=tH.wn w hm (by omega)
 have wn0:=wn
 obtain ⟨b,v,cs,rfl,gw,lc,hr⟩:=wn0
 obtain ⟨y0,ey0,b0,v0,cs0,rfl,_⟩:=hr 0 N1
 have rm : a.rm (m : Nat) = true:=by
  unfold AR.rm
  rw [r,decide_eq_true (by omega)]; rfl
 obtain ⟨os,s243,sr⟩:=AR.steps_ok rm
 obtain ⟨x8,own1,e30,l30,_⟩:=k30 Hs a.g m (oH.g r) m5
 rw [a.gv r] at e30
 have kA : Kp (fun _ => False) Hs (Hs.plus own1):=Kp.plus _ _
 have gS1:=kA.at gS (by simp) id
 have gw1:=kA.at gw (by simp) id
 obtain ⟨x9,own2,e31,l31⟩:=k31 (Hs.plus own1) a.g m ((oH.kp kA).g r) m5
 rw [a.gv r] at e31
 rw [av] at e30 e31 ⊢
 obtain ⟨Z,hZ⟩ : ∃ Z,(Hs.plus own1).plus own2 = Z:=⟨_,rfl⟩
 have kZ : Kp (fun _ => False) (Hs.plus own1) Z:=by rw [← hZ]; exact Kp.plus _ _
 rw [hZ] at l31
 have hrows : rwL a.g.q a.g.B m = a.rows (m : Nat):=by
  unfold AR.rows AR.g
  rw [Int.toNat_natCast]
 have hsteps : stL a.g.W (a.rows (m : Nat)) = a.steps (m : Nat):=rfl
 have ra : RwA (a.rows (m : Nat)) m a.q.toNat:=fun w' hw' => by
  rw [← hrows] at hw'
  have:=rwL_mem hw'
  exact ⟨this.1,this.2.1⟩
 rw [hrows] at l30 l31
 rw [hsteps] at l31
 obtain ⟨N,hN⟩ : ∃ N,Wt.length = N:=⟨_,rfl⟩
 have ln : LN Z x9 (a.steps (m : Nat)):=l31.ln
 have rx : RV Z x8 (wsL (a.rows (m : Nat))):=l30.kp kZ (fun _ _ => id)
 obtain ⟨S,hSS⟩ : ∃ S,a.steps (m : Nat) = S:=⟨_,rfl⟩
 obtain ⟨R,hRR⟩ : ∃ R,a.rows (m : Nat) = R:=⟨_,rfl⟩
 have ePost : ∀ v own,((bO (gv S (uZ Wt R N m) (N - 1)) none (List.range S.length) = none → v = AV.tup [.nils,G 0,.bool false] ∧ own = []) ∧ ∀ c s,bO (gv S (uZ Wt R N m) (N - 1)) none (List.range S.length) = some (c,s) → ∃ x,v = .tup [x,G s,.bool true] ∧ (∀ q,blk x = some q → h.size ≤ q) ∧ RV (h.plus own) x (wsL (rT2 R (bP S (uZ Wt R N m) N (List.range S.length))))) → Post53 a Wt h v own:=fun v own hp m' S' R' u' e1 e2 e3 e4 => by
  rw [hm] at e1
  subst e1
  rw [hSS] at e2
  rw [hRR] at e3
  subst e2; subst e3
  rw [hN] at e4 ⊢
  subst e4
  exact hp
 rw [hSS] at os s243 sr ln
 rw [hRR] at sr ra rx
 obtain ⟨n,hn⟩ : ∃ n,S.length = n:=⟨_,rfl⟩
 have n2:=os.n
 rw [hn] at s243 sr n2 ePost
 rw [hN] at wn sm N1 N40 lc t tH ⊢
 have t2:=c53_o2_ok J gS gS1 gw gw1 lc (by omega) ey0 e30 e31 hZ
 have xt : XT S R Wt N m a.q.toNat n Z (.slice b 0 N v) x8 x9:=⟨wn.kp (kA.trans kZ),sm,ra,by omega,m5,N40,rx,sr.symm,hn,os,ln⟩
 obtain ⟨Z1,hZ1⟩ : ∃ H,Z.plus [.cells 1 N (List.replicate N .nils)] = H:=⟨_,rfl⟩
 have kz1 : Kp (fun _ => False) Z Z1:=by rw [← hZ1]; exact Kp.plus _ _
 have go : Z1.get Z.size = .cells 1 N (List.replicate N .nils):=by rw [← hZ1]; exact plus_at0 _ _ _ _ rfl
 have mk1 : mkSl Z 24 .nils N = some (.slice Z.size 0 N N,{ eff:=.grow [.cells 1 N (List.replicate N .nils)] }):=mkSl_ok _ _ _ _ _ rfl (by omega)
 have rt0 : RT S (uZ Wt R N m) Z.size N 0 (List.replicate N .nils) Z1:=⟨go,by simp,fun l hl => by omega,fun l _ h2 => by rw [List.getElem?_replicate,if_pos (by omega)]⟩
 have l2:=c53_l2_ok J k86 xt kz1 (Nat.le_refl _) (get_lt go (by simp)) (by rw [kz1.N]; unfold Heap.size; omega) rt0
 have kS : Kp (fun _ => False) (frameOf h) Z:=(kHs.trans kA).trans kZ
 have sx:=rx.sl
 rw [wsL_len,sr.symm] at sx
 have bdu:=uZ_bd (R:=R) (N:=N) sm ra m5
 have l3 : ∀ {rs H},RT S (uZ Wt R N m) Z.size N N rs H → Tr tbl J c53_l3 (fun s h => h = H ∧ s.get [false] = .slice b 0 N v ∧ s.get [false,false,false] = G N ∧ s.get [true,false,false] = x8 ∧ s.get [false,true,false] = x9 ∧ s.get [true,true,false] = .slice Z.size 0 N N ∧ s.get [false,false,false,false] = .nils ∧ s.get [true,false,false,false] = G noneZ ∧ s.get [false,true,false,false] = G ((0 : Nat) : Int)) (.exit 6)
   (fun s h => ∃ y,NV H h y (gn (List.range n)) ∧ s.get [false] = .slice b 0 N v ∧ s.get [false,false,false] = G N ∧ s.get [true,false,false] = x8 ∧ s.get [false,true,false] = x9 ∧ s.get [true,true,false] = .slice Z.size 0 N N ∧ s.get [false,false,false,false] = y ∧ s.get [true,false,false,false] = G (fmx (bsZ S (uZ Wt R N m) (N - 1)) noneZ (List.range n))):=fun {rs H} rt => by
  obtain ⟨y',e1,e2,_⟩:=rt.row (N - 1) (by omega)
  rw [Nat.sub_self,hn] at *
  by_cases n0 : 0 < n
  ·have lz : (gs (zk S (uZ Wt R N m) (N - 1) n)).length = n:=by rw [List.length_map,zk_len]
   obtain ⟨br,vr,rfl,gr⟩ : ∃ b v,y' = .slice b 0 n v ∧ H.get b = .cells 1 v (gs (zk S (uZ Wt R N m) (N - 1) n)):=by
    rcases e2 with ⟨_,e⟩ | ⟨b,v,e,g⟩
    ·rw [e] at lz; simp at lz; omega
    ·rw [lz] at e; exact ⟨b,v,e,g⟩
   exact c53_l3_ok J sx rt.go rt.lr (fun _ => ⟨e1,gr,lz⟩) (fun c hc => zk_at S _ _ hc) n2 N1
  ·exact c53_l3_ok (br:=0) (vr:=0) (cr:=[]) J sx rt.go rt.lr (fun h => absurd h n0) (fun c hc => by omega) n2 N1
 have fm:=fmx_bO (S:=S) (u:=uZ Wt R N m) (N:=39) (fun l _ i => bdu l i) (Nat.le_refl _) (show N - 1 ≤ 39 by omega) (List.range n)
 have nz : noneZ = -1000000000:=rfl
 cases hb : bO (gv S (uZ Wt R N m) (N - 1)) none (List.range n) with
 | none =>
  have lt:=fm.1 hb
  have : CallsTo tbl J 53 [.agg [G a.q,a.x,a.y],.slice b 0 N v] h (.tup [.nils,G 0,.bool false],[],false):=by
   refine Tr.fnv (cf:=c53) (e:=.ret) (s:=T.set (T.set .leaf [] (.agg [G a.q,a.x,a.y])) [false] (.slice b 0 N v)) (by decide) rfl (hJ _ _) rfl rfl rfl (by simp) ?_
   refine Tr.post (Q:=(fun s h => s.get [true,false] = .nils ∧ s.get [false,true] = G 0 ∧ s.get [true,true] = .bool false)) (fun s h q => by simp [c53,q]) ?_
   clear oH o t tH kHs wn sm k30 k31 k86 rx ePost hr kz1 kS kZ xt l30 l31 kA rt0 ln fm bdu
   generalize fmx (bsZ S (uZ Wt R N m) (N - 1)) noneZ (List.range n) = fz2 at *
   rw [nz] at l3
   generalize List.replicate N AV.nils = rep at *
   refine Tr.w fun s1 H1 hp _ kR => ?_
   obtain ⟨rfl,rfl⟩:=hp
   have q : True:=trivial
   refine zCh ?_
   simp (disch:=first|omega|exact zE rfl|exact zO|exact zL rfl) [c53_o0,zG,q,hHs,fz]
   refine zCh ?_
   simp (disch:=first|omega|exact zE rfl|exact zO|exact zL rfl) [c53_o1,zG,q]
   refine W.seq (W.use (t2) (by simp (disch:=first|omega|exact zE rfl|exact zO|exact zL rfl) [zG,q,fz]) fun s1 H1 hp => ?_)
   obtain ⟨rfl,q⟩:=hp
   try simp only [zW,if_true]
   refine zCh ?_
   simp (disch:=first|omega|exact zE rfl|exact zO|exact zL rfl) [-act,c53_o3,zG,q,act_move,act_mkSl,mk1,hZ1]
   refine W.assoc ?_
   refine zCh ?_
   simp (disch:=first|omega|exact zE rfl|exact zO|exact zL rfl) [c53_o4,zG,q]
   refine W.seq (W.block ?_)
   refine W.use (l2) (by simp (disch:=first|omega|exact zE rfl|exact zO|exact zL rfl) [zG,q]) fun s1 H1 hp => ?_
   obtain ⟨rs,⟨kz2,rt⟩,q⟩:=hp
   try simp only [zW,if_true]
   have l3:=l3 rt
   refine zCh ?_
   simp (disch:=first|omega|exact zE rfl|exact zO|exact zL rfl) [c53_o18,zG,q]
   refine zCh ?_
   simp (disch:=first|omega|exact zE rfl|exact zO|exact zL rfl) [c53_o19,zG,q]
   refine W.assoc ?_
   refine zCh ?_
   simp (disch:=first|omega|exact zE rfl|exact zO|exact zL rfl) [c53_o20,zG,q]
   refine W.seq (W.block ?_)
   refine W.use (l3) (by simp (disch:=first|omega|exact zE rfl|exact zO|exact zL rfl) [zG,q]) fun s1 H1 hp => ?_
   obtain ⟨y,nv,q⟩:=hp
   try simp only [zW,if_true]
   refine W.assoc ?_
   refine zCh ?_
   simp (disch:=first|omega|exact zE rfl|exact zO|exact zL rfl) [c53_o25,zG,q,lt]
   refine zCh ?_
   simp (disch:=first|omega|exact zE rfl|exact zO|exact zL rfl) [c53_o26,zG,q]
   exact kR _ _ (by simp [T.get])
  exact ⟨_,_,this,ePost _ _ ⟨fun _ => ⟨rfl,rfl⟩,fun c s e => (by rw [hb] at e; cases e)⟩⟩
 | some pr =>
  obtain ⟨c,sv⟩:=pr
  obtain ⟨f1,f2,f3,_⟩:=fm.2 c sv hb
  rw [f1] at l3
  have nlt : ¬ sv < -200000:=by omega
  have l5 : ∀ {rs H H1 y},Kp (fun _ => False) Z H → RT S (uZ Wt R N m) Z.size N N rs H → NV H H1 y (gn (List.range n)) → Tr tbl J c53_l5 (fun s h => h = H1 ∧ s.get [false] = .slice b 0 N v ∧ s.get [false,false,false] = G N ∧ s.get [true,false,false] = x8 ∧ s.get [false,true,false] = x9 ∧ s.get [true,true,false] = .slice Z.size 0 N N ∧ s.get [false,false,false,false] = y ∧ s.get [true,false,false,false] = G sv ∧ s.get [true,true,false,false] = .nils ∧ s.get [false,false,true,false] = G sv ∧ s.get [true,false,true,false] = G ((0 : Nat) : Int)) (.exit 8) (fun s' h' => ∃ z,(NV H1 h' z (wsL (rT2 R (bP S (uZ Wt R N m) N (List.range n)))) ∧ Kp (fun _ => False) (frameOf h) H1) ∧ s'.get [true,false,false,false] = G sv ∧ s'.get [true,true,false,false] = z):=fun {rs H H1 y} kz rt nv => by
   have kk:=kz.trans nv.k
   have l5:=c53_l5_ok (Z:=Z) (s16:=G sv) (E:=bP S (uZ Wt R N m) N (List.range n)) J k86 (xt.kp kk) (rt.kp nv.k)
   refine Tr.post (fun s h ⟨z,nv,q⟩ => ⟨z,⟨nv,kS.trans kk⟩,q⟩) (Tr.pre (fun s' h' ⟨h0,q1,q2,q3,q4,q5,q6,q7,q8,q9,q10⟩ => ?_) l5)
   subst h0
   exact ⟨.nils,y,[],List.range n,sv,⟨NV.nil _,nv.rv,⟨rfl,rfl,by rw [List.length_range]; exact n2,fun c hc => by rw [hn]; exact List.mem_range.1 hc,fun _ => ⟨c,hb⟩⟩⟩,q1,q2,q3,q4,q5,q6,q7,q8,q9,q10⟩
  have fin2 : ∀ {z : AV} {H h' : Heap},NV H h' z (wsL (rT2 R (bP S (uZ Wt R N m) N (List.range n)))) → Kp (fun _ => False) (frameOf h) H → Post53 a Wt h (.tup [z,G sv,.bool true]) (if (one [z]).flat then [] else h'.own):=fun {z H h'} nv kH => ePost _ _ ⟨fun e => (by rw [hb] at e; cases e),fun c' s' e => by
   rw [hb] at e
   obtain ⟨rfl,rfl⟩:=Prod.mk.inj (Option.some.inj e)
   exact ⟨z,rfl,fun q e => Nat.le_trans (by have:=kH.size; rw [fz] at this; exact this) (nv.x0 q e),nv.rv.fr (kH.trans nv.k)⟩⟩
  refine Tr.fny (cf:=c53) (e:=.ret) (s:=T.set (T.set .leaf [] (.agg [G a.q,a.x,a.y])) [false] (.slice b 0 N v)) (by decide) rfl (hJ _ _) rfl rfl (by simp) ?_
  clear oH o t tH kHs wn sm k30 k31 k86 rx ePost hr kz1 kS kZ xt l30 l31 kA rt0 ln fm bdu
  generalize wsL (rT2 R (bP S (uZ Wt R N m) N (List.range n))) = wE at *
  rw [nz] at l3
  generalize List.replicate N AV.nils = rep at *
  refine Tr.w fun s1 H1 hp _ kR => ?_
  obtain ⟨rfl,rfl⟩:=hp
  have q : True:=trivial
  refine zCh ?_
  simp (disch:=first|omega|exact zE rfl|exact zO|exact zL rfl) [c53_o0,zG,q,hHs,fz]
  refine zCh ?_
  simp (disch:=first|omega|exact zE rfl|exact zO|exact zL rfl) [c53_o1,zG,q]
  refine W.seq (W.use (t2) (by simp (disch:=first|omega|exact zE rfl|exact zO|exact zL rfl) [zG,q,fz]) fun s1 H1 hp => ?_)
  obtain ⟨rfl,q⟩:=hp
  try simp only [zW,if_true]
  refine zCh ?_
  simp (disch:=first|omega|exact zE rfl|exact zO|exact zL rfl) [-act,c53_o3,zG,q,act_move,act_mkSl,mk1,hZ1]
  refine W.assoc ?_
  refine zCh ?_
  simp (disch:=first|omega|exact zE rfl|exact zO|exact zL rfl) [c53_o4,zG,q]
  refine W.seq (W.block ?_)
  refine W.use (l2) (by simp (disch:=first|omega|exact zE rfl|exact zO|exact zL rfl) [zG,q]) fun s1 H1 hp => ?_
  obtain ⟨rs,⟨kz2,rt⟩,q⟩:=hp
  try simp only [zW,if_true]
  have l3:=l3 rt
  refine zCh ?_
  simp (disch:=first|omega|exact zE rfl|exact zO|exact zL rfl) [c53_o18,zG,q]
  refine zCh ?_
  simp (disch:=first|omega|exact zE rfl|exact zO|exact zL rfl) [c53_o19,zG,q]
  refine W.assoc ?_
  refine zCh ?_
  simp (disch:=first|omega|exact zE rfl|exact zO|exact zL rfl) [c53_o20,zG,q]
  refine W.seq (W.block ?_)
  refine W.use (l3) (by simp (disch:=first|omega|exact zE rfl|exact zO|exact zL rfl) [zG,q]) fun s1 H1 hp => ?_
  obtain ⟨y,nv,q⟩:=hp
  try simp only [zW,if_true]
  have l5:=l5 kz2 rt nv
  refine W.assoc ?_
  refine zCh ?_
  simp (disch:=first|omega|exact zE rfl|exact zO|exact zL rfl) [c53_o25,zG,q,nlt]
  refine zCh ?_
  simp (disch:=first|omega|exact zE rfl|exact zO|exact zL rfl) [c53_o26,zG,q]
  refine zCh ?_
  simp (disch:=first|omega|exact zE rfl|exact zO|exact zL rfl) [c53_o27,zG,q]
  refine zCh ?_
  simp (disch:=first|omega|exact zE rfl|exact zO|exact zL rfl) [c53_o28,zG,q]
  refine W.assoc ?_
  refine zCh ?_
  simp (disch:=first|omega|exact zE rfl|exact zO|exact zL rfl) [c53_o29,zG,q]
  refine W.seq (W.block ?_)
  refine W.use (l5) (by simp (disch:=first|omega|exact zE rfl|exact zO|exact zL rfl) [zG,q]) fun s1 H1 hp => ?_
  obtain ⟨z9,⟨nv9,kH9⟩,q⟩:=hp
  try simp only [zW,if_true]
  refine zCh ?_
  simp (disch:=first|omega|exact zE rfl|exact zO|exact zL rfl) [c53_o39,zG,q]
  refine W.ret ?_
  try simp only [zW,if_true]
  refine kR _ _ ?_
  refine ⟨[z9,G sv,.bool true],by simp [T.get,c53,evRess,evRes,q],?_⟩
  rw [show (one [z9,G sv,.bool true]).flat = (one [z9]).flat from by simp [one,AV.flat,AV.flats]]
  exact fin2 nv9 kH9
end
theorem LR.kpm {N : Nat → Prop} {h h' : Heap} (k : Kp N h h') {x : AV} {l : List Int} (e : LR h x l) (hm : ∀ q,blk x = some q → ¬ N q) : LR h' x l:=by
 rcases e with e | e
 ·exact .inl (listOf_kp k e hm)
 ·exact .inr e
theorem LR.blt {h : Heap} {x : AV} {l : List Int} (e : LR h x l) {q : Nat} (hq : blk x = some q) : q < h.size:=by
 rcases e with e | ⟨e,_⟩
 ·exact listOf_lt e hq
 ·rw [e] at hq; cases hq
def MRb (h : Heap) (bz : Option Nat) (y : AV) (M : List (List Int)) : Prop:=(y = .nils ∧ M = []) ∨ ∃ b v cs,y = .slice b 0 M.length v ∧ h.get b = .cells 1 v cs ∧ bz ≠ some b ∧ cs.length = M.length ∧ ∀ (i : Nat) r,cs[i]? = some r → ∃ l,M[i]? = some l ∧ LR h r l ∧ ∀ q,blk r = some q → bz ≠ some q
theorem MRb.mr {h : Heap} {bz : Option Nat} {y : AV} {M : List (List Int)} (t : MRb h bz y M) : MR h y M:=by
 rcases t with ⟨e,e2⟩ | ⟨b,v,cs,e,g,_,l,r⟩
 ·exact .inl ⟨.inl e,e2⟩
 ·exact .inr ⟨b,v,cs,e,g,l,fun i r' e => by obtain ⟨l,h1,h2,_⟩:=r i r' e; exact ⟨l,h1,h2⟩⟩
theorem MRb.kp {N : Nat → Prop} {h h' : Heap} {bz : Option Nat} {y : AV} {M : List (List Int)} (t : MRb h bz y M) (k : Kp N h h') (hN : ∀ q,N q → bz = some q) : MRb h' bz y M:=by
 rcases t with t | ⟨b,v,cs,e,g,n,l,r⟩
 ·exact .inl t
 ·exact .inr ⟨b,v,cs,e,k.at g (by simp) (fun m => n (hN _ m)),n,l,fun i r' e => by
   obtain ⟨l,h1,h2,h3⟩:=r i r' e
   exact ⟨l,h1,LR.kpm k h2 (fun q hq m => h3 q hq (hN _ m)),h3⟩⟩
theorem MRb.fresh {h : Heap} {bz bz' : Option Nat} {y : AV} {M : List (List Int)} (t : MRb h bz y M) (hb : ∀ q,bz' = some q → h.size ≤ q) : MRb h bz' y M:=by
 rcases t with t | ⟨b,v,cs,e,g,n,l,r⟩
 ·exact .inl t
 ·exact .inr ⟨b,v,cs,e,g,fun e => by have:=hb _ e; have:=get_lt g (by simp); omega,l,fun i r' e => by
   obtain ⟨l,h1,h2,h3⟩:=r i r' e
   exact ⟨l,h1,h2,fun q hq e => by have:=hb _ e; have:=LR.blt h2 hq; omega⟩⟩
theorem TG.mrb {H0 h : Heap} {x : AV} {M : List (List Int)} {bz : Option Nat} (t : TG H0 h x M) (hb : ∀ q,bz = some q → q < H0.size) : MRb h bz x M:=by
 obtain ⟨cs,l,hl,hr⟩:=t.r
 rcases l with ⟨rfl,rfl⟩ | ⟨b,rfl,g,n⟩
 ·exact .inl ⟨rfl,List.length_eq_zero_iff.1 hl.symm⟩
 ·refine .inr ⟨b,cs.length,cs,by rw [hl],g,fun e => ?_,hl,fun i r e => ?_⟩
  ·have:=hb _ e; have:=t.x0 b rfl; omega
  ·obtain ⟨l,h1,h2,h3⟩:=hr i r e
   exact ⟨l,h1,.inl h2,fun q hq e => by have:=hb _ e; have:=(h3 q hq).2.1; omega⟩
structure TW (H0 h : Heap) (x : AV) (Ms : List (List (List Int))) : Prop where
 k : Kp (fun _ => False) H0 h
 x0 : ∀ q,blk x = some q → H0.size ≤ q
 r : ∃ cs,LV h x cs ∧ cs.length = Ms.length ∧ ∀ (i : Nat) r,cs[i]? = some r → ∃ M,Ms[i]? = some M ∧ MRb h (blk x) r M
theorem TW.nil (H0 : Heap) : TW H0 H0 .nils []:=⟨Kp.refl _,fun _ e => (by cases e),[],LV.nil _,rfl,fun i r e => by simp at e⟩
theorem TW.kp {H0 h h' : Heap} {x : AV} {M : List (List (List Int))} (t : TW H0 h x M) (k : Kp (fun _ => False) h h') : TW H0 h' x M:=by
 obtain ⟨cs,l,hl,hr⟩:=t.r
 refine ⟨t.k.trans k,t.x0,cs,l.kp k (fun _ _ => id),hl,fun i r e => ?_⟩
 obtain ⟨l,h1,h2⟩:=hr i r e
 exact ⟨l,h1,h2.kp k (fun _ h => h.elim)⟩
theorem TW.app {H0 h : Heap} (h0 : Nat) {x v : AV} {Ms : List (List (List Int))} {M : List (List Int)} (t : TW H0 h x Ms) (hv : MRb h (blk x) v M) (hn : Ms.length ≤ 1000000) :
  ∃ x1 e h2,appA (h.plus [.cells 1 1 [v]]) h0 none 1 24 1 [v] x = some (x1,e) ∧ Eff.app e (h.plus [.cells 1 1 [v]]) = some h2 ∧ TW H0 h2 x1 (Ms ++ [M]) ∧ AV.cells x1 = some [x1]:=by
 obtain ⟨cs,lv,hl,hr⟩:=t.r
 have k1 : Kp (fun _ => False) h (h.plus [.cells 1 1 [v]]):=Kp.plus _ _
 obtain ⟨x1,e,h2,q1,q2,q3,q4,q5,q6⟩:=app_v (h.plus [.cells 1 1 [v]]) h0 24 v (lv.kp k1 (fun _ _ => id)) (by omega)
 have hsz : (h.plus [.cells 1 1 [v]]).size = h.size + 1:=by rw [plus_size]; rfl
 have up : ∀ {r N},MRb h (blk x) r N → MRb h2 (blk x1) r N:=fun {r N} m => by
  have m2:=(m.kp k1 (fun _ h => h.elim)).kp q4 (fun q hq => hq)
  rcases q5 with h' | ⟨_,h'⟩
  ·rw [h']; exact m2
  ·have m3 : MRb h (blk x1) r N:=m.fresh (fun q hq => by rw [h'] at hq; cases hq; omega)
   have:=(m3.kp k1 (fun _ h => h.elim))
   rename_i hx0
   exact this.kp q4 (fun q hq => by rw [hx0] at hq; cases hq)
 refine ⟨x1,e,h2,q1,q2,⟨(t.k.trans k1).late q4 t.x0,fun q hq => ?_,cs ++ [v],q3,by simp [hl],fun i r hi => ?_⟩,q6⟩
 ·rcases q5 with h' | ⟨_,h'⟩
  ·rw [h'] at hq; exact t.x0 q hq
  ·rw [h'] at hq; cases hq; have:=t.k.size; omega
 ·by_cases hi' : i < cs.length
  ·rw [List.getElem?_append_left hi'] at hi
   obtain ⟨l',h1,h2'⟩:=hr i r hi
   exact ⟨l',by rw [List.getElem?_append_left (by omega)]; exact h1,up h2'⟩
  ·rw [List.getElem?_append_right (by omega)] at hi
   have hi0 : i - cs.length = 0:=by
    rcases Nat.eq_zero_or_pos (i - cs.length) with e | e
    ·exact e
    ·rw [List.getElem?_eq_none (by simp; omega)] at hi; cases hi
   rw [hi0] at hi
   simp only [List.getElem?_cons_zero,Option.some.injEq] at hi
   subst hi
   exact ⟨M,by rw [List.getElem?_append_right (by omega),← hl,hi0]; rfl,up hv⟩
theorem TW.wt {H0 h : Heap} {x : AV} {Ms : List (List (List Int))} (t : TW H0 h x Ms) : WT h x Ms:=by
 obtain ⟨cs,l,hl,hr⟩:=t.r
 rcases l with ⟨rfl,rfl⟩ | ⟨b,rfl,g,n⟩
 ·exact .inl ⟨.inl rfl,List.length_eq_zero_iff.1 hl.symm⟩
 ·exact .inr ⟨b,cs.length,cs,by rw [hl],g,hl,fun i r e => by obtain ⟨M,h1,h2⟩:=hr i r e; exact ⟨M,h1,h2.mr⟩⟩
theorem MR.congr2 {h h' : Heap} (e : ∀ b,h.get b = h'.get b) {y : AV} {M : List (List Int)} (t : MR h y M) : MR h' y M:=by
 rcases t with t | ⟨b,v,cs,e1,g,l,r⟩
 ·exact .inl t
 ·exact .inr ⟨b,v,cs,e1,by rw [← e]; exact g,l,fun i r' hr => by
   obtain ⟨l,h1,h2⟩:=r i r' hr
   refine ⟨l,h1,?_⟩
   rcases h2 with h2 | h2
   ·exact .inl ((listOf_congr e r').symm.trans h2)
   ·exact .inr h2⟩
theorem WT.congr {h h' : Heap} (e : ∀ b,h.get b = h'.get b) {y : AV} {Ms : List (List (List Int))} (t : WT h y Ms) : WT h' y Ms:=by
 rcases t with t | ⟨b,v,cs,e1,g,l,r⟩
 ·exact .inl t
 ·exact .inr ⟨b,v,cs,e1,by rw [← e]; exact g,l,fun i r' hr => by
   obtain ⟨l,h1,h2⟩:=r i r' hr
   exact ⟨l,h1,h2.congr2 e⟩⟩
theorem TW.fr {h h' : Heap} {x : AV} {Ms : List (List (List Int))} (t : TW (frameOf h) h' x Ms) : WT (h.plus (if (one [x]).flat then [] else h'.own)) x Ms:=by
 have e:=Kp.own t.k
 have hg : ∀ b,h'.get b = (h.plus h'.own).get b:=fun b => by rw [e]; exact fr_get h _ b
 split
 ·rename_i hf
  obtain ⟨cs,lv,hl,_⟩:=t.r
  rcases lv with ⟨e1,rfl⟩ | ⟨b,e1,_,_⟩
  ·exact .inl ⟨.inl e1,List.length_eq_zero_iff.1 hl.symm⟩
  ·rw [e1] at hf; simp [one,AV.flat,AV.flats] at hf
 ·exact t.wt.congr hg
def wtV (Wt : List (List (List Int))) : List (List (List Int)):=(Wt.take 41).map cutM
theorem wtV_len (Wt : List (List (List Int))) : (wtV Wt).length ≤ 41:=by unfold wtV; rw [List.length_map,List.length_take]; omega
theorem wtV_big (Wt : List (List (List Int))) : ∀ M ∈ wtV Wt,M.length ≤ 1000000 ∧ ∀ l ∈ M,l.length ≤ 1000000:=fun M hM => by
 unfold wtV at hM
 obtain ⟨M',_,rfl⟩:=List.mem_map.1 hM
 unfold cutM
 refine ⟨by rw [List.length_map,List.length_take]; omega,fun l hl => ?_⟩
 obtain ⟨l',_,rfl⟩:=List.mem_map.1 hl
 rw [List.length_take]; omega
section
variable {Wt : List (List (List Int))}
set_option maxHeartbeats 1000000 in
theorem c50_l0_ok (J : CallF) (k66 : K66 J) {H0 : Heap} {x : AV} (hx : WT H0 x Wt) :
  Tr tbl J c50_l0 (fun s h => h = H0 ∧ s.get [] = x ∧ s.get [false,false] = .nils ∧ s.get [true,false] = G ((0 : Nat) : Int)) (.exit 0) (fun s h => ∃ z,TW H0 h z (wtV Wt) ∧ s.get [false,false] = z):=by
 obtain ⟨M,hM⟩ : ∃ M,M = min Wt.length 41:=⟨_,rfl⟩
 have fM : (Wt.take M).map cutM = wtV Wt:=by
  have tkM : Wt.take M = Wt.take 41:=by rw [List.take_eq_take_iff]; omega
  unfold wtV
  rw [tkM]
 refine Tr.pre (P:=fun s h => ∃ z,TW H0 h z ((Wt.take 0).map cutM) ∧ s.get [] = x ∧ s.get [false,false] = z ∧ s.get [true,false] = G ((0 : Nat) : Int)) (fun s h ⟨h0,q1,q2,q3⟩ => ⟨.nils,by rw [h0]; exact TW.nil _,q1,q2,q3⟩) ?_
 refine Tr.rounds (e:=.exit 0) (P:=fun i s h => ∃ z,TW H0 h z ((Wt.take i).map cutM) ∧ s.get [] = x ∧ s.get [false,false] = z ∧ s.get [true,false] = G (i : Nat)) (M:=M) (fun i hi => ?_) ?_ (by simp) 0 (by omega)
 ·refine Tr.w fun s1 H1 hp _ kR => W.trim ?_
  obtain ⟨z,tw,q⟩:=hp
  have hiL : i < Wt.length:=by omega
  have hxH:=hx.kp tw.k
  obtain ⟨b,v,cs,rfl,g,lc,hr⟩ : ∃ b v cs,x = .slice b 0 Wt.length v ∧ H1.get b = .cells 1 v cs ∧ cs.length = Wt.length ∧ ∀ (i : Nat) r,cs[i]? = some r → ∃ M,Wt[i]? = some M ∧ MR H1 r M:=by
   rcases hxH with ⟨_,e⟩ | h
   ·rw [e] at hiL; simp at hiL
   ·exact h
  obtain ⟨Mi,e1,my⟩:=hr i cs[i] (List.getElem?_eq_getElem (by omega))
  have ei : cs[i]? = some cs[i]:=List.getElem?_eq_getElem (by omega)
  have ei':=getI ei
  generalize cs[i]'(by omega) = y at *
  obtain ⟨w,own,e66,tg⟩:=k66 H1 y Mi my
  have tk1 : (Wt.take (i + 1)).map cutM = (Wt.take i).map cutM ++ [cutM Mi]:=by
   rw [List.take_add_one,e1,List.map_append]; rfl
  have lt : ∀ q,blk z = some q → q < H1.size:=fun q hq => by
   obtain ⟨cs,lv,_⟩:=tw.r
   exact lv.lt hq
  obtain ⟨x1,e,h2,q1,q2,tw2,q4⟩:=(tw.kp (Kp.plus _ own)).app H1.size (tg.mrb lt) (by rw [List.length_map,List.length_take]; omega)
  rw [← tk1] at tw2
  have sh:=tg.sh
  have i1 : ((i + 1 : Nat) : Int) = (i : Int) + 1:=by omega
  rw [i1] at kR
  have i40 : (i : Int) ≤ 40:=by omega
  have f1 : ((H1.plus own).plus [.cells 1 1 [w]]).get (H1.plus own).size = .cells 1 1 [w]:=plus_at0 _ _ _ _ rfl
  clear tw tg hx hxH hr my fM hM
  have hp0 : H1.plus [] = H1:=by simp [Heap.plus]
  have o1 : own = [] ∨ ∃ o os,own = o :: os:=by cases own <;> simp
  generalize Wt.length = nW at *
  rcases o1 with rfl | ⟨u1,v1,rfl⟩ <;> rcases sh with rfl | ⟨bw,nw,rfl⟩
  all_goals
   try rw [hp0] at f1 q1 q2
   refine W.assoc ?_
   refine zCh ?_
   simp (disch:=first|omega|exact zE rfl|exact zO|exact zL rfl) [c50_o3,zG,q,i40]
   refine zCh ?_
   simp (disch:=first|omega|exact zE rfl|exact zO|exact zL rfl) [zG,q]
   refine W.seq (W.block ?_)
   refine W.chunk ?_
   simp (disch:=first|omega|exact zE rfl|exact zO|exact zL rfl) [c50_o4,zG,q,g,lc,ei,ei',e66,q1,q2,f1,app_if,app_if',app1_at,elems,rdOf]
   refine W.chunk ?_
   simp (disch:=first|omega|exact zE rfl|exact zO|exact zL rfl) [c50_o5,zG,q]
   exact kR _ _ ⟨_,tw2,by simp [T.get,q]⟩
 ·rw [fM]
  have sx : (x = .nils ∧ Wt.length = 0) ∨ (x = .slice0 ∧ Wt.length = 0) ∨ ∃ b v,x = .slice b 0 Wt.length v:=by
   rcases hx with ⟨e | e,e2⟩ | ⟨b,v,_,e,_⟩
   ·exact .inl ⟨e,by rw [e2]; rfl⟩
   ·exact .inr (.inl ⟨e,by rw [e2]; rfl⟩)
   ·exact .inr (.inr ⟨b,v,e⟩)
  clear hx fM
  refine Tr.w fun s1 H1 hp _ kR => W.trim ?_
  obtain ⟨z,tw,q⟩:=hp
  generalize wtV Wt = wv at *
  generalize Wt.length = nW at *
  by_cases c : M = nW
  ·subst c
   rcases sx with ⟨rfl,h0⟩ | ⟨rfl,h0⟩ | ⟨b,v,rfl⟩
   ·subst h0
    refine W.assoc ?_
    refine zCh ?_
    simp (disch:=first|omega|exact zE rfl|exact zO|exact zL rfl) [c50_o3,zG,q]
    refine zCh ?_
    simp (disch:=first|omega|exact zE rfl|exact zO|exact zL rfl) [zG,q]
    exact kR _ _ ⟨_,tw,by simp [T.get,q]⟩
   ·subst h0
    refine W.assoc ?_
    refine zCh ?_
    simp (disch:=first|omega|exact zE rfl|exact zO|exact zL rfl) [c50_o3,zG,q]
    refine zCh ?_
    simp (disch:=first|omega|exact zE rfl|exact zO|exact zL rfl) [zG,q]
    exact kR _ _ ⟨_,tw,by simp [T.get,q]⟩
   ·refine W.assoc ?_
    refine zCh ?_
    simp (disch:=first|omega|exact zE rfl|exact zO|exact zL rfl) [c50_o3,zG,q]
    refine zCh ?_
    simp (disch:=first|omega|exact zE rfl|exact zO|exact zL rfl) [zG,q]
    exact kR _ _ ⟨_,tw,by simp [T.get,q]⟩
  ·have c1 : M = 41:=by omega
   subst c1
   have c2 : (41 : Int) < (nW : Int):=by omega
   have c3 : 41 < nW:=by omega
   rcases sx with ⟨rfl,h0⟩ | ⟨rfl,h0⟩ | ⟨b,v,rfl⟩
   ·omega
   ·omega
   ·refine W.assoc ?_
    refine zCh ?_
    simp (disch:=first|omega|exact zE rfl|exact zO|exact zL rfl) [c50_o3,zG,q,c2,c3]
    refine zCh ?_
    simp (disch:=first|omega|exact zE rfl|exact zO|exact zL rfl) [zG,q]
    exact kR _ _ ⟨_,tw,by simp [T.get,q]⟩
theorem c50_ok (J : CallF) (k66 : K66 J) (hJ : ∀ a h,J 50 a h = none) (h : Heap) {x : AV} (hx : WT h x Wt) : ∃ v own,CallsTo tbl J 50 [x] h (v,own,false) ∧ WT (h.plus own) v (wtV Wt):=by
 refine Tr.fny (cf:=c50) (e:=.ret) (s:=T.set .leaf [] x) (by decide) rfl (hJ _ _) rfl rfl (by simp) ?_
 have l0:=c50_l0_ok J k66 hx.fr
 refine Tr.w fun s1 H1 hp _ kR => ?_
 obtain ⟨rfl,rfl⟩:=hp
 have q : True:=trivial
 refine zCh ?_
 simp (disch:=first|omega|exact zE rfl|exact zO|exact zL rfl) [c50_o0,zG,q]
 refine zCh ?_
 simp (disch:=first|omega|exact zE rfl|exact zO|exact zL rfl) [c50_o1,zG,q]
 refine W.assoc ?_
 refine zCh ?_
 simp (disch:=first|omega|exact zE rfl|exact zO|exact zL rfl) [c50_o2,zG,q]
 refine W.seq (W.block ?_)
 refine W.use (l0) (by simp (disch:=first|omega|exact zE rfl|exact zO|exact zL rfl) [zG,q]) fun s1 H1 hp => ?_
 obtain ⟨z,tw,q⟩:=hp
 try simp only [zW,if_true]
 refine zCh ?_
 simp (disch:=first|omega|exact zE rfl|exact zO|exact zL rfl) [c50_o6,zG,q]
 refine W.ret ?_
 try simp only [zW,if_true]
 exact kR _ _ ⟨[z],by simp [T.get,c50,evRess,evRes,q],tw.fr⟩
end
structure A50 where
 x : AV
 Wt : List (List (List Int))
def Pre50 (b : A50) (args : List AV) (h : Heap) : Prop:=WT h b.x b.Wt ∧ args = [b.x]
noncomputable def U50 : CallF:=addK tbl T30 50 Pre50 (fun b h v own => WT (h.plus own) v (wtV b.Wt))
theorem u50 : Sound Go.Proofs.Try.prog U50:=Sound.addK follows ok t30 (by decide) _ _
abbrev K50 (J : CallF) : Prop:=∀ (h : Heap) (x : AV) (Wt : List (List (List Int))),WT h x Wt → ∃ v own,J 50 [x] h = some (v,own,false) ∧ WT (h.plus own) v (wtV Wt)
theorem k50u : K50 U50:=fun h x Wt o => by
 obtain ⟨v,own,e,l⟩:=addK_some (Pre:=Pre50) (Post:=fun b h v own => WT (h.plus own) v (wtV b.Wt)) (fun b args h hp => by
  obtain ⟨h1,rfl⟩:=hp
  exact c50_ok T30 k66 (fun _ _ => by simp (disch:=decide) only [T1,T2,T3,T4,T5,T6,T7,T8,T9,T10,T11,T12,T13,T14,T15,T16,T17,T18,T19,T20,T21,T22,T23,T24,T25,T26,T27,T28,T29,T30,addI_ne,addX_ne,addV_ne,addK_ne]; rfl) h h1) ⟨x,Wt⟩ _ h ⟨o,rfl⟩
 exact ⟨v,own,e,l⟩
structure A51 where
 a : AR
 x : AV
 Wt : List (List (List Int))
def Ok51 (b : A51) (h : Heap) : Prop:=OkR b.a h ∧ WT h b.x b.Wt ∧ b.Wt.length ≤ 1000000 ∧ ∀ M ∈ b.Wt,M.length ≤ 1000000 ∧ ∀ l ∈ M,l.length ≤ 1000000
def Pre51 (b : A51) (args : List AV) (h : Heap) : Prop:=Ok51 b h ∧ args = [b.a.v,b.x]
abbrev K51 (J : CallF) : Prop:=∀ (h : Heap) (b : A51),Ok51 b h → ∃ v own,J 51 [b.a.v,b.x] h = some (v,own,false) ∧ Post51 b.a b.Wt h v own
def Ok53 (b : A51) (h : Heap) : Prop:=OkR b.a h ∧ b.a.ru = true ∧ WT h b.x b.Wt ∧ wtB b.a.q.toNat b.Wt = true
def Pre53 (b : A51) (args : List AV) (h : Heap) : Prop:=Ok53 b h ∧ args = [b.a.v,b.x]
abbrev K53 (J : CallF) : Prop:=∀ (h : Heap) (b : A51),Ok53 b h → ∃ v own,J 53 [b.a.v,b.x] h = some (v,own,false) ∧ Post53 b.a b.Wt h v own
structure LawW (J : CallF) (H0 : Heap) (nq : Int) (x y z : AV) (Wt : List (List (List Int))) (a : AR) (w : AV) (own1 own2 : List AObj) (Ha Hb Hb2 Hc : Heap) : Prop where
 eq : a.q = nq
 ha : H0.plus [.cells 0 3 [G nq,x,y]] = Ha
 e24 : J 24 [.agg [G nq,x,y]] Ha = some (.agg [G a.q,a.x,a.y],own1,false)
 hb : Ha.plus own1 = Hb
 e50 : J 50 [z] Hb = some (w,own2,false)
 hb2 : Hb.plus own2 = Hb2
 hc : Hb2.plus [.cells 0 3 [G a.q,a.x,a.y]] = Hc
 gS : Ha.get H0.size = .cells 0 3 [G nq,x,y]
 gc : Hc.get Hb2.size = .cells 0 3 [G a.q,a.x,a.y]
 o : OkR a Hc
 rw : WT Hc w (wtV Wt)
theorem lawW (J : CallF) (k24 : K24 J) (k50 : K50 J) {H0 : Heap} {nq : Int} {x y z : AV} {X Y : List (List Int)} {Wt : List (List (List Int))} (mx : MR H0 x X) (my : MR H0 y Y) (mz : WT H0 z Wt) : ∃ a w own1 own2 Ha Hb Hb2 Hc,LawW J H0 nq x y z Wt a w own1 own2 Ha Hb Hb2 Hc:=by
 have k1 : Kp (fun _ => False) H0 (H0.plus [.cells 0 3 [G nq,x,y]]):=Kp.plus _ _
 obtain ⟨x',y',own,e,t1,t2⟩:=k24 (H0.plus [.cells 0 3 [G nq,x,y]]) ⟨nq,x,y,X,Y⟩ ⟨mx.kp k1,my.kp k1⟩
 have k1b : Kp (fun _ => False) (H0.plus [.cells 0 3 [G nq,x,y]]) ((H0.plus [.cells 0 3 [G nq,x,y]]).plus own):=Kp.plus _ _
 obtain ⟨w,own2,e2,rv⟩:=k50 _ z Wt ((mz.kp k1).kp k1b)
 have k2 : Kp (fun _ => False) ((H0.plus [.cells 0 3 [G nq,x,y]]).plus own) (((H0.plus [.cells 0 3 [G nq,x,y]]).plus own).plus own2):=Kp.plus _ _
 have k3 : Kp (fun _ => False) (((H0.plus [.cells 0 3 [G nq,x,y]]).plus own).plus own2) ((((H0.plus [.cells 0 3 [G nq,x,y]]).plus own).plus own2).plus [.cells 0 3 [G nq,x',y']]):=Kp.plus _ _
 have u1:=t1.kp (k2.trans k3)
 have u2:=t2.kp (k2.trans k3)
 exact ⟨⟨nq,x',y',cutM X,cutM Y⟩,w,own,own2,_,_,_,_,rfl,rfl,e,rfl,e2,rfl,rfl,plus_at0 _ _ _ _ rfl,plus_at0 _ _ _ _ rfl,⟨u1.mr,u2.mr,cutM_small _,cutM_small _⟩,rv.kp k3⟩
structure KnBt (J : CallF) : Prop where
 k24 : K24 J
 k27 : KR 27 J
 k29 : K29 J
 k50 : K50 J
 k51 : K51 J
 k52 : K52 J
 k53 : K53 J
 k23 : ∀ h,J 23 [] h = some (.bool true,[],false)
section
variable {nq : Int} {X Y : List (List Int)} {Wt : List (List (List Int))}
set_option maxHeartbeats 2000000 in
theorem c11_ok (J : CallF) (K : KnBt J) (hJ : ∀ a h,J 11 a h = none) (h : Heap) {x y z : AV} (mx : MR h x X) (my : MR h y Y) (mz : WT h z Wt) : CallsTo tbl J 11 [.agg [G nq,x,y],z] h (.bool true,[],false):=by
 refine Tr.fnv (cf:=c11) (e:=.ret) (s:=T.set (T.set .leaf [] (.agg [G nq,x,y])) [false] z) (by decide) rfl (hJ _ _) rfl rfl rfl (by simp) ?_
 refine Tr.post (Q:=(fun s h => s.get [true,false] = .bool true)) (fun s h q => by simp [c11,q]) ?_
 obtain ⟨a,w,own1,own2,Ha,Hb,Hb2,Hc,eq,ha,e24,hb,e50,hb2,hc,gS,gc,o,rv⟩:=lawW (nq:=nq) J K.k24 K.k50 (mx.lo (h:=h) []) (my.lo (h:=h) []) mz.fr
 rw [show (⟨h.get,h.size,[]⟩ : Heap) = frameOf h from rfl] at ha gS
 have l41:=wtV_len Wt
 have big:=wtV_big Wt
 have e27:=K.k27 Hc a o
 obtain ⟨v51,own51,e51,p1,p2⟩:=K.k51 Hc ⟨a,w,wtV Wt⟩ ⟨o,rv,by show (wtV Wt).length ≤ _; omega,big⟩
 simp only at e51 p1 p2
 have k23:=K.k23
 have er : ruQ a.q a.B a.W = a.ru:=rfl
 rw [er] at e27
 have va : a.v = .agg [G a.q,a.x,a.y]:=rfl
 have hp0 : Hc.plus [] = Hc:=by simp [Heap.plus]
 cases r : a.ru
 ·obtain ⟨rfl,rfl⟩:=p1 (by unfold okB; rw [r]; rfl)
  rw [r] at e27
  rw [va] at e51
  clear K mx my mz o rv p1 p2 big er va
  generalize frameOf h = H0 at *
  refine Tr.w fun s1 H1 hp _ kR => ?_
  obtain ⟨rfl,rfl⟩:=hp
  have q : True:=trivial
  refine zCh ?_
  simp (disch:=first|omega|exact zE rfl|exact zO|exact zL rfl) [c11_o0,zG,q,ha]
  refine zCh ?_
  simp (disch:=first|omega|exact zE rfl|exact zO|exact zL rfl) [c11_o1,zG,q,gS,e24,e50,app_if,app_if',hb,hb2,hc]
  refine zCh ?_
  simp (disch:=first|omega|exact zE rfl|exact zO|exact zL rfl) [c11_o2,zG,q,gc,e51]
  refine W.assoc ?_
  refine zCh ?_
  simp (disch:=first|omega|exact zE rfl|exact zO|exact zL rfl) [c11_o3,zG,q,gc,e27]
  refine zCh ?_
  simp (disch:=first|omega|exact zE rfl|exact zO|exact zL rfl) [c11_o4,zG,q,k23]
  exact kR _ _ (by simp [T.get])
 ·rw [r] at e27
  have q3:=a.q3 r
  have qn : ((a.q.toNat : Nat) : Int) = a.q:=by omega
  have e52:=fun H (k : Kp (fun _ => False) Hc H) => K.k52 H ⟨a.q.toNat,a.x,a.y,w,wtV Wt⟩ ⟨rv.kp k,by show (wtV Wt).length ≤ _; omega,big⟩ (by show 1 ≤ a.q.toNat; omega) (by show a.q.toNat ≤ 3; omega)
  simp only [qn] at e52
  cases i : wtB a.q.toNat (wtV Wt)
  ·obtain ⟨rfl,rfl⟩:=p1 (by unfold okB; rw [r,i]; rfl)
   have e52:=e52 Hc (Kp.refl _)
   rw [i] at e52
   rw [va] at e51
   clear K mx my mz o rv p1 p2 big er va i
   generalize frameOf h = H0 at *
   refine Tr.w fun s1 H1 hp _ kR => ?_
   obtain ⟨rfl,rfl⟩:=hp
   have q : True:=trivial
   refine zCh ?_
   simp (disch:=first|omega|exact zE rfl|exact zO|exact zL rfl) [c11_o0,zG,q,ha]
   refine zCh ?_
   simp (disch:=first|omega|exact zE rfl|exact zO|exact zL rfl) [c11_o1,zG,q,gS,e24,e50,app_if,app_if',hb,hb2,hc]
   refine zCh ?_
   simp (disch:=first|omega|exact zE rfl|exact zO|exact zL rfl) [c11_o2,zG,q,gc,e51]
   refine W.assoc ?_
   refine zCh ?_
   simp (disch:=first|omega|exact zE rfl|exact zO|exact zL rfl) [c11_o3,zG,q,gc,e27,e52]
   refine zCh ?_
   simp (disch:=first|omega|exact zE rfl|exact zO|exact zL rfl) [c11_o4,zG,q,k23]
   exact kR _ _ (by simp [T.get])
  ·have p2:=p2 (by unfold okB; rw [r,i]; rfl) _ _ _ _ rfl rfl rfl rfl
   rw [i] at e52
   have e53:=fun H (k : Kp (fun _ => False) Hc H) => K.k53 H ⟨a,w,wtV Wt⟩ ⟨o.kp k,r,rv.kp k,i⟩
   simp only at e53
   have p53 : ∀ v own H,Post53 a (wtV Wt) H v own → _:=fun v own H hp => hp _ _ _ _ rfl rfl rfl rfl
   generalize uZ (wtV Wt) (a.rows (((wtV Wt).getD 0 []).length : Nat)) (wtV Wt).length ((wtV Wt).getD 0 []).length = u at *
   generalize a.steps (((wtV Wt).getD 0 []).length : Nat) = S at *
   generalize hRR : a.rows (((wtV Wt).getD 0 []).length : Nat) = R at *
   cases hb9 : bO (gv S u ((wtV Wt).length - 1)) none (List.range S.length) with
   | none =>
    obtain ⟨rfl,rfl⟩:=p2.1 hb9
    obtain ⟨v53,own53,e53,po⟩:=e53 Hc (Kp.refl _)
    obtain ⟨rfl,rfl⟩:=(p53 _ _ _ po).1 hb9
    have e52:=e52 Hc (Kp.refl _)
    rw [va] at e51 e53
    clear K mx my mz o rv p1 p2 big er va i p53 po
    generalize frameOf h = H0 at *
    refine Tr.w fun s1 H1 hp _ kR => ?_
    obtain ⟨rfl,rfl⟩:=hp
    have q : True:=trivial
    refine zCh ?_
    simp (disch:=first|omega|exact zE rfl|exact zO|exact zL rfl) [c11_o0,zG,q,ha]
    refine zCh ?_
    simp (disch:=first|omega|exact zE rfl|exact zO|exact zL rfl) [c11_o1,zG,q,gS,e24,e50,app_if,app_if',hb,hb2,hc]
    refine zCh ?_
    simp (disch:=first|omega|exact zE rfl|exact zO|exact zL rfl) [c11_o2,zG,q,gc,e51]
    refine W.assoc ?_
    refine zCh ?_
    simp (disch:=first|omega|exact zE rfl|exact zO|exact zL rfl) [c11_o3,zG,q,gc,e27,e52]
    refine zCh ?_
    simp (disch:=first|omega|exact zE rfl|exact zO|exact zL rfl) [c11_o4,zG,q]
    refine zCh ?_
    simp (disch:=first|omega|exact zE rfl|exact zO|exact zL rfl) [c11_o5,zG,q,gc,e53]
    refine W.assoc ?_
    refine zCh ?_
    simp (disch:=first|omega|exact zE rfl|exact zO|exact zL rfl) [c11_o6,zG,q]
    refine zCh ?_
    simp (disch:=first|omega|exact zE rfl|exact zO|exact zL rfl) [c11_o7,zG,q,k23]
    exact kR _ _ (by simp [T.get])
   | some pr =>
    obtain ⟨c,sv⟩:=pr
    obtain ⟨x1,rfl,_,rv1⟩:=p2.2 c sv hb9
    obtain ⟨Hd,hd⟩ : ∃ H,Hc.plus own51 = H:=⟨_,rfl⟩
    have kd : Kp (fun _ => False) Hc Hd:=by rw [← hd]; exact Kp.plus _ _
    rw [hd] at rv1
    obtain ⟨v53,own53,e53,po⟩:=e53 Hd kd
    obtain ⟨x2,rfl,_,rv2⟩:=(p53 _ _ _ po).2 c sv hb9
    obtain ⟨He,he⟩ : ∃ H,Hd.plus own53 = H:=⟨_,rfl⟩
    have ke : Kp (fun _ => False) Hd He:=by rw [← he]; exact Kp.plus _ _
    rw [he] at rv2
    have rv1':=rv1.kp ke (fun _ _ => id)
    have lE : ((rT2 R (bP S u (wtV Wt).length (List.range S.length))).map stW).length ≤ 1000000:=by
     rw [List.length_map,rT2_len,bP_len]; omega
    rw [ws_ss] at rv1' rv2
    have e29:=K.k29 He ⟨x1,x2,_,_⟩ rv1' rv2 lE lE
    simp only [decide_true] at e29
    have gcd:=kd.at gc (by simp) id
    have e27':=K.k27 Hd a (o.kp kd)
    have e52:=e52 Hd kd
    rw [er,r] at e27'
    rw [va] at e51 e53
    clear K mx my mz o rv p1 p2 big er va i p53 po rv1 rv1' rv2 lE kd ke q3 hp0
    generalize frameOf h = H0 at *
    refine Tr.w fun s1 H1 hp _ kR => ?_
    obtain ⟨rfl,rfl⟩:=hp
    have q : True:=trivial
    refine zCh ?_
    simp (disch:=first|omega|exact zE rfl|exact zO|exact zL rfl) [c11_o0,zG,q,ha]
    refine zCh ?_
    simp (disch:=first|omega|exact zE rfl|exact zO|exact zL rfl) [c11_o1,zG,q,gS,e24,e50,app_if,app_if',hb,hb2,hc]
    refine zCh ?_
    simp (disch:=first|omega|exact zE rfl|exact zO|exact zL rfl) [c11_o2,zG,q,gc,e51,app_if,app_if',hd]
    refine W.assoc ?_
    refine zCh ?_
    simp (disch:=first|omega|exact zE rfl|exact zO|exact zL rfl) [c11_o3,zG,q,gcd,e27',e52]
    refine zCh ?_
    simp (disch:=first|omega|exact zE rfl|exact zO|exact zL rfl) [c11_o4,zG,q]
    refine zCh ?_
    simp (disch:=first|omega|exact zE rfl|exact zO|exact zL rfl) [c11_o5,zG,q,gcd,e53,app_if,app_if',he]
    refine W.assoc ?_
    refine zCh ?_
    simp (disch:=first|omega|exact zE rfl|exact zO|exact zL rfl) [c11_o6,zG,q]
    refine zCh ?_
    simp (disch:=first|omega|exact zE rfl|exact zO|exact zL rfl) [c11_o7,zG,q]
    refine zCh ?_
    simp (disch:=first|omega|exact zE rfl|exact zO|exact zL rfl) [c11_o8,zG,q,e29,k23]
    refine W.ret ?_
    try simp only [zW,if_true]
    exact kR _ _ (by simp [T.get])
end
noncomputable def T86 : CallF:=addI T85 83 (V4 83)
theorem t86 : Sound Go.Proofs.Try.prog T86:=Sound.put t85 v4 83
noncomputable def T87 : CallF:=addI T86 84 (U84 84)
theorem t87 : Sound Go.Proofs.Try.prog T87:=Sound.put t86 u84 84
noncomputable def T88 : CallF:=addI T87 85 (U85 85)
theorem t88 : Sound Go.Proofs.Try.prog T88:=Sound.put t87 u85 85
theorem k57_88 : KR 57 T88:=fun h a o => by
 rw [show T88 57 [.agg [G a.q,a.x,a.y]] h = T10 57 [.agg [G a.q,a.x,a.y]] h from by simp (disch:=decide) only [T11,T12,T13,T14,T15,T16,T17,T18,T19,T20,T21,T22,T23,T24,T25,T26,T27,T28,T29,T30,T31,T32,T33,T34,T35,T36,T37,T38,T39,T40,T41,T42,T43,T44,T45,T46,T47,T48,T49,T50,T51,T52,T53,T54,T55,T56,T57,T58,T59,T60,T61,T62,T63,T64,T65,T66,T67,T68,T69,T70,T71,T72,T73,T74,T75,T76,T77,T78,T79,T80,T81,T82,T83,T84,T85,T86,T87,T88,addI_ne,addX_ne,addV_ne,addK_ne,addC_ne]]; exact k57 h a o
theorem k61_88 : K61 T88:=fun h a m o m5 => by
 obtain ⟨p,own,e,l⟩:=k61 h a m o m5
 exact ⟨p,own,by rw [show T88 61 [a.v,G m] h = T18 61 [a.v,G m] h from by simp (disch:=decide) only [T19,T20,T21,T22,T23,T24,T25,T26,T27,T28,T29,T30,T31,T32,T33,T34,T35,T36,T37,T38,T39,T40,T41,T42,T43,T44,T45,T46,T47,T48,T49,T50,T51,T52,T53,T54,T55,T56,T57,T58,T59,T60,T61,T62,T63,T64,T65,T66,T67,T68,T69,T70,T71,T72,T73,T74,T75,T76,T77,T78,T79,T80,T81,T82,T83,T84,T85,T86,T87,T88,addI_ne,addX_ne,addV_ne,addK_ne,addC_ne]]; exact e,l⟩
theorem k83_88 : K83 83 T88:=fun h b o => by
 rw [show T88 83 [.agg [G b.qq,b.x1,b.x2],b.x] h = T86 83 [.agg [G b.qq,b.x1,b.x2],b.x] h from by simp (disch:=decide) only [T87,T88,addI_ne,addX_ne,addV_ne,addK_ne,addC_ne]]
 exact (addI_eq _ _ _ _ _).trans (k83v h b o)
theorem k84_88 : K84 T88:=fun h b o => by
 rw [show T88 84 [.ptr b.p 0 3,.map b.mb,G b.j,G b.l] h = T87 84 [.ptr b.p 0 3,.map b.mb,G b.j,G b.l] h from by simp (disch:=decide) only [T88,addI_ne,addX_ne,addV_ne,addK_ne,addC_ne]]
 exact (addI_eq _ _ _ _ _).trans (k84u h b o)
theorem k85_88 : K85 85 T88:=fun h b o => (addI_eq _ _ _ _ _).trans (k85u h b o)
noncomputable def T89 : CallF:=addK tbl T88 51 Pre51 (fun b h v own => Post51 b.a b.Wt h v own)
theorem t89 : Sound Go.Proofs.Try.prog T89:=Sound.addK follows ok t88 (by decide) _ _
theorem k51 : K51 T89:=fun h b o => by
 obtain ⟨v,own,e,l⟩:=addK_some (Pre:=Pre51) (Post:=fun b h v own => Post51 b.a b.Wt h v own) (fun b args h hp => by
  obtain ⟨⟨h1,h2,h3,h4⟩,rfl⟩:=hp
  exact c51_ok T88 k57_88 k61_88 k83_88 k84_88 k85_88 (fun _ _ => by simp (disch:=decide) only [T1,T2,T3,T4,T5,T6,T7,T8,T9,T10,T11,T12,T13,T14,T15,T16,T17,T18,T19,T20,T21,T22,T23,T24,T25,T26,T27,T28,T29,T30,T31,T32,T33,T34,T35,T36,T37,T38,T39,T40,T41,T42,T43,T44,T45,T46,T47,T48,T49,T50,T51,T52,T53,T54,T55,T56,T57,T58,T59,T60,T61,T62,T63,T64,T65,T66,T67,T68,T69,T70,T71,T72,T73,T74,T75,T76,T77,T78,T79,T80,T81,T82,T83,T84,T85,T86,T87,T88,addI_ne,addX_ne,addV_ne,addK_ne,addC_ne]; rfl) h h1 h2 h3 h4) b _ h ⟨o,rfl⟩
 exact ⟨v,own,e,l⟩
noncomputable def T90 : CallF:=addI T89 52 (U52 52)
theorem t90 : Sound Go.Proofs.Try.prog T90:=Sound.put t89 u52 52
noncomputable def T91 : CallF:=addI T90 86 (U86 86)
theorem t91 : Sound Go.Proofs.Try.prog T91:=Sound.put t90 u86 86
theorem k30_91 : K30 T91:=fun h a m o m5 => by
 obtain ⟨v,own,e,l⟩:=k30 h a m o m5
 exact ⟨v,own,by rw [show T91 30 [a.v,G m] h = T24 30 [a.v,G m] h from by simp (disch:=decide) only [T25,T26,T27,T28,T29,T30,T31,T32,T33,T34,T35,T36,T37,T38,T39,T40,T41,T42,T43,T44,T45,T46,T47,T48,T49,T50,T51,T52,T53,T54,T55,T56,T57,T58,T59,T60,T61,T62,T63,T64,T65,T66,T67,T68,T69,T70,T71,T72,T73,T74,T75,T76,T77,T78,T79,T80,T81,T82,T83,T84,T85,T86,T87,T88,T89,T90,T91,addI_ne,addX_ne,addV_ne,addK_ne,addC_ne]]; exact e,l⟩
theorem k31_91 : K31 T91:=fun h a m o m5 => by
 obtain ⟨v,own,e,l⟩:=k31 h a m o m5
 exact ⟨v,own,by rw [show T91 31 [a.v,G m] h = T25 31 [a.v,G m] h from by simp (disch:=decide) only [T26,T27,T28,T29,T30,T31,T32,T33,T34,T35,T36,T37,T38,T39,T40,T41,T42,T43,T44,T45,T46,T47,T48,T49,T50,T51,T52,T53,T54,T55,T56,T57,T58,T59,T60,T61,T62,T63,T64,T65,T66,T67,T68,T69,T70,T71,T72,T73,T74,T75,T76,T77,T78,T79,T80,T81,T82,T83,T84,T85,T86,T87,T88,T89,T90,T91,addI_ne,addX_ne,addV_ne,addK_ne,addC_ne]]; exact e,l⟩
theorem k86_91 : K85 86 T91:=fun h b o => (addI_eq _ _ _ _ _).trans (k86u h b o)
noncomputable def T92 : CallF:=addK tbl T91 53 Pre53 (fun b h v own => Post53 b.a b.Wt h v own)
theorem t92 : Sound Go.Proofs.Try.prog T92:=Sound.addK follows ok t91 (by decide) _ _
theorem k53 : K53 T92:=fun h b o => by
 obtain ⟨v,own,e,l⟩:=addK_some (Pre:=Pre53) (Post:=fun b h v own => Post53 b.a b.Wt h v own) (fun b args h hp => by
  obtain ⟨⟨h1,h2,h3,h4⟩,rfl⟩:=hp
  exact c53_ok T91 k30_91 k31_91 k86_91 (fun _ _ => by simp (disch:=decide) only [T1,T2,T3,T4,T5,T6,T7,T8,T9,T10,T11,T12,T13,T14,T15,T16,T17,T18,T19,T20,T21,T22,T23,T24,T25,T26,T27,T28,T29,T30,T31,T32,T33,T34,T35,T36,T37,T38,T39,T40,T41,T42,T43,T44,T45,T46,T47,T48,T49,T50,T51,T52,T53,T54,T55,T56,T57,T58,T59,T60,T61,T62,T63,T64,T65,T66,T67,T68,T69,T70,T71,T72,T73,T74,T75,T76,T77,T78,T79,T80,T81,T82,T83,T84,T85,T86,T87,T88,T89,T90,T91,addI_ne,addX_ne,addV_ne,addK_ne,addC_ne]; rfl) h h1 h2 h3 h4) b _ h ⟨o,rfl⟩
 exact ⟨v,own,e,l⟩
noncomputable def T93 : CallF:=addI T92 50 (U50 50)
theorem t93 : Sound Go.Proofs.Try.prog T93:=Sound.put t92 u50 50
theorem kBt93 : KnBt T93 where
 k24:=fun h a o => by
  obtain ⟨x,y,own,e,l⟩:=k24 h a o
  exact ⟨x,y,own,by rw [show T93 24 [.agg [G a.q,a.x,a.y]] h = T31 24 [.agg [G a.q,a.x,a.y]] h from by simp (disch:=decide) only [T32,T33,T34,T35,T36,T37,T38,T39,T40,T41,T42,T43,T44,T45,T46,T47,T48,T49,T50,T51,T52,T53,T54,T55,T56,T57,T58,T59,T60,T61,T62,T63,T64,T65,T66,T67,T68,T69,T70,T71,T72,T73,T74,T75,T76,T77,T78,T79,T80,T81,T82,T83,T84,T85,T86,T87,T88,T89,T90,T91,T92,T93,addI_ne,addX_ne,addV_ne,addK_ne,addC_ne]]; exact e,l⟩
 k27:=fun h a o => by
  rw [show T93 27 [.agg [G a.q,a.x,a.y]] h = T12 27 [.agg [G a.q,a.x,a.y]] h from by simp (disch:=decide) only [T13,T14,T15,T16,T17,T18,T19,T20,T21,T22,T23,T24,T25,T26,T27,T28,T29,T30,T31,T32,T33,T34,T35,T36,T37,T38,T39,T40,T41,T42,T43,T44,T45,T46,T47,T48,T49,T50,T51,T52,T53,T54,T55,T56,T57,T58,T59,T60,T61,T62,T63,T64,T65,T66,T67,T68,T69,T70,T71,T72,T73,T74,T75,T76,T77,T78,T79,T80,T81,T82,T83,T84,T85,T86,T87,T88,T89,T90,T91,T92,T93,addI_ne,addX_ne,addV_ne,addK_ne,addC_ne]]; exact k27 h a o
 k29:=fun h b h1 h2 h3 h4 => by
  rw [show T93 29 [b.x,b.z] h = T84 29 [b.x,b.z] h from by simp (disch:=decide) only [T85,T86,T87,T88,T89,T90,T91,T92,T93,addI_ne,addX_ne,addV_ne,addK_ne,addC_ne]]; exact k29_84 h b h1 h2 h3 h4
 k50:=fun h x Wt o => by
  obtain ⟨v,own,e,l⟩:=k50u h x Wt o
  exact ⟨v,own,(addI_eq _ _ _ _ _).trans e,l⟩
 k51:=fun h b o => by
  obtain ⟨v,own,e,l⟩:=k51 h b o
  exact ⟨v,own,by rw [show T93 51 [b.a.v,b.x] h = T89 51 [b.a.v,b.x] h from by simp (disch:=decide) only [T90,T91,T92,T93,addI_ne,addX_ne,addV_ne,addK_ne,addC_ne]]; exact e,l⟩
 k52:=fun h b o h1 h2 => by
  rw [show T93 52 [.agg [G b.qq,b.x1,b.x2],b.x] h = T90 52 [.agg [G b.qq,b.x1,b.x2],b.x] h from by simp (disch:=decide) only [T91,T92,T93,addI_ne,addX_ne,addV_ne,addK_ne,addC_ne]]
  exact (addI_eq _ _ _ _ _).trans (k52u h b o h1 h2)
 k53:=fun h b o => by
  obtain ⟨v,own,e,l⟩:=k53 h b o
  exact ⟨v,own,by rw [show T93 53 [b.a.v,b.x] h = T92 53 [b.a.v,b.x] h from by simp (disch:=decide) only [T93,addI_ne,addX_ne,addV_ne,addK_ne,addC_ne]]; exact e,l⟩
 k23:=fun h => by
  rw [show T93 23 [] h = T2 23 [] h from by simp (disch:=decide) only [T3,T4,T5,T6,T7,T8,T9,T10,T11,T12,T13,T14,T15,T16,T17,T18,T19,T20,T21,T22,T23,T24,T25,T26,T27,T28,T29,T30,T31,T32,T33,T34,T35,T36,T37,T38,T39,T40,T41,T42,T43,T44,T45,T46,T47,T48,T49,T50,T51,T52,T53,T54,T55,T56,T57,T58,T59,T60,T61,T62,T63,T64,T65,T66,T67,T68,T69,T70,T71,T72,T73,T74,T75,T76,T77,T78,T79,T80,T81,T82,T83,T84,T85,T86,T87,T88,T89,T90,T91,T92,T93,addI_ne,addX_ne,addV_ne,addK_ne,addC_ne]]; exact k23 h
theorem stripBests_ok (h : Heap) {nq : Int} {x y z : AV} {B W : List (List Int)} {L : List (List (List Int))} (mx : MR h x B) (my : MR h y W) (mz : WT h z L) : CallsTo tbl T93 11 [.agg [G nq,x,y],z] h (.bool true,[],false):=c11_ok T93 kBt93 (fun _ _ => by simp (disch:=decide) only [T1,T2,T3,T4,T5,T6,T7,T8,T9,T10,T11,T12,T13,T14,T15,T16,T17,T18,T19,T20,T21,T22,T23,T24,T25,T26,T27,T28,T29,T30,T31,T32,T33,T34,T35,T36,T37,T38,T39,T40,T41,T42,T43,T44,T45,T46,T47,T48,T49,T50,T51,T52,T53,T54,T55,T56,T57,T58,T59,T60,T61,T62,T63,T64,T65,T66,T67,T68,T69,T70,T71,T72,T73,T74,T75,T76,T77,T78,T79,T80,T81,T82,T83,T84,T85,T86,T87,T88,T89,T90,T91,T92,T93,addI_ne,addX_ne,addV_ne,addK_ne,addC_ne]; rfl) h mx my mz
end Go.Proofs.Ytljgfdamdcikgaa.Ev
set_option linter.unusedVariables false
set_option linter.unusedSimpArgs false
namespace Go.AEv
open Go.ChangeShapes Go.WideShapes Go.Proofs.Ytljgfdamdcikgaa.Ev
theorem MR.ext {h h' : Heap} (e : Ext h h') {y : AV} {M : List (List Int)} (m : MR h y M) : MR h' y M:=by
 rcases m with m | ⟨b,v,cs,rfl,g,hl,hr⟩
 ·exact .inl m
 ·refine .inr ⟨b,v,cs,rfl,e _ _ g (by simp),hl,fun i r q => ?_⟩
  obtain ⟨l,h1,h2⟩:=hr i r q
  exact ⟨l,h1,LR.ext e h2⟩
theorem rows_lo {CK : CKT} {w : World} {H : Type} {enc : TypeId × Value → H} {P : Program} {e i : TypeId} (he : P.underlying e = some (.slice i)) (hi : P.underlying i = some (.int .i64)) (hc : P.cellsOf i = 1) :
  ∀ (vs : List Value) {φ : Nat → Emb} {h : Heap} (ho : h.own = []) (hr : HR CK w [] φ h w),(∀ u ∈ vs,∃ fuel z,DataW.trod enc P w 0 (fun _ => true) true fuel e [u] = some z) →
  ∃ φ' h',∃ (rs : List AV) (ls : List (List Int)),h'.own = [] ∧ HR CK w [] φ' h' w ∧ Stp φ h φ' h' ∧ Ext h h' ∧ rs.length = vs.length ∧ ls.length = vs.length ∧ ∀ (j : Nat) u r,vs[j]? = some u → rs[j]? = some r → VR φ' h' r u ∧ Value.oneCell' u = true ∧ ∃ l,ls[j]? = some l ∧ LR h' r l
 | [],φ,h,ho,hr,_ => ⟨φ,h,[],[],ho,hr,Stp.refl φ h,Ext.refl h,rfl,rfl,fun j u r q => by simp at q⟩
 | u :: us,φ,h,ho,hr,ht => by
  obtain ⟨fuel,z,hf⟩:=ht u (by simp)
  obtain ⟨φ1,h1,x,l,o1,r1,s1,e1,v1,p1,c1⟩:=ints_lo0 ho hr he hi hc hf
  obtain ⟨φ2,h2,rs,ls,o2,r2,s2,e2,l1,l2,q⟩:=rows_lo he hi hc us o1 r1 (fun u' hu => ht u' (by simp [hu]))
  refine ⟨φ2,h2,x :: rs,l :: ls,o2,r2,s1.trans s2,e1.trans e2,by simp [l1],by simp [l2],fun j u' r hu hr' => ?_⟩
  cases j with
  | zero =>
   simp only [List.getElem?_cons_zero,Option.some.injEq] at hu hr'
   subst hu hr'
   exact ⟨VR.step s2 _ _ v1,c1,l,rfl,p1.ext e2⟩
  | succ j =>
   simp only [List.getElem?_cons_succ] at hu hr' ⊢
   exact q j u' r hu hr'
theorem mat_lo0 {CK : CKT} {φ : Nat → Emb} {h : Heap} {w : World} (ho : h.own = []) (hr : HR CK w [] φ h w) {H : Type} {enc : TypeId × Value → H} {P : Program} {t e i : TypeId} {v : Value} {fuel : Nat} {z : DataW H × List MemPlace}
  (ht : P.underlying t = some (.slice e)) (he : P.underlying e = some (.slice i)) (hi : P.underlying i = some (.int .i64)) (hce : P.cellsOf e = 1) (hci : P.cellsOf i = 1) (hf : DataW.trod enc P w 0 (fun _ => true) true fuel t [v] = some z) :
  ∃ φ' h' x M,h'.own = [] ∧ HR CK w [] φ' h' w ∧ Stp φ h φ' h' ∧ Ext h h' ∧ VR φ' h' x v ∧ MR h' x M ∧ Value.oneCell' v = true:=by
 rcases DataW.trod_slice ht hf with ⟨hcs,_⟩ | ⟨a,len,cap,elems,rest,n,_,hcs,_,_,hl,hm,hlen,hel,hsp,_⟩
 ·have hcs' : v = .slice none 0 0:=(List.cons.inj hcs).1
  rw [hcs']
  exact ⟨φ,h,.nils,[],ho,hr,Stp.refl φ h,Ext.refl h,by simp [VR],.inl ⟨.inl rfl,rfl⟩,rfl⟩
 ·have hcs' : v = .slice (some a) len cap:=(List.cons.inj hcs).1
  rw [hcs']
  by_cases h0 : len = 0
  ·subst h0
   exact ⟨φ,h,.slice0,[],ho,hr,Stp.refl φ h,Ext.refl h,by simp [VR],.inl ⟨.inr rfl,rfl⟩,rfl⟩
  ·obtain ⟨hrl,hre⟩:=hsp rfl
   have each : ∀ j,j < cap → ∃ u,w.cell? (a.add j) = some u ∧ ∃ z,DataW.trod enc P w 0 (fun _ => true) true n e [u] = some z:=fun j hj => by
    have hb' : ∃ y,(w.cells? 0 (a.add (j * P.cellsOf e)) (P.cellsOf e)).bind (DataW.trod enc P w 0 (fun _ => true) true n e) = some y:=by
     by_cases hjl : j < len
     ·rw [hel j hjl,List.getElem?_eq_getElem (by omega)]; exact ⟨_,rfl⟩
     ·have:=hre (j - len) (by omega)
      rw [show len + (j - len) = j by omega] at this
      rw [this,List.getElem?_eq_getElem (by omega)]; exact ⟨_,rfl⟩
    obtain ⟨y,hy⟩:=hb'
    rw [hce,Nat.mul_one,Option.bind_eq_some_iff] at hy
    obtain ⟨cs',h1,h2⟩:=hy
    have hl1:=(World.cells?_some h1).2.1
    obtain ⟨u,rfl⟩ : ∃ u,cs' = [u]:=by
     cases cs' with
     | nil => simp at hl1
     | cons u r => cases r with
      | nil => exact ⟨u,rfl⟩
      | cons u' r => simp at hl1
    exact ⟨u,cell_of_cells?_one h1,y,h2⟩
   obtain ⟨f,hfe⟩ : ∃ f : Nat → Value,∀ j,j < cap → w.cell? (a.add j) = some (f j) ∧ ∃ z,DataW.trod enc P w 0 (fun _ => true) true n e [f j] = some z :=
    ⟨fun j => if hj : j < cap then Classical.choose (each j hj) else .nilFunc,fun j hj => by
     simp only [dif_pos hj]
     exact Classical.choose_spec (each j hj)⟩
   obtain ⟨b,off,spot⟩:=a
   have hspot : spot = none:=by simpa [Addr.add] using World.cell?_spot (hfe 0 (by omega)).1
   subst hspot
   have hcell : ∀ j,j < cap → w.cell? ⟨b,off + j,none⟩ = some (f j):=fun j hj => by rw [← Go.WideShapes.add_plain]; exact (hfe j hj).1
   obtain ⟨c,ty,fr,hb,hc0⟩:=cell_obj (hcell 0 (by omega))
   have hcj : ∀ j,j < cap → c[off + j]? = some (f j):=fun j hj => by
    obtain ⟨c',ty',fr',hb',hcj⟩:=cell_obj (hcell j hj)
    rw [hb] at hb'
    simp only [Option.some.injEq,Obj.cells.injEq] at hb'
    obtain ⟨rfl,_⟩:=hb'
    exact hcj
   have hsize : off + cap ≤ c.size:=by
    have:=(Array.getElem?_eq_some_iff.1 (hcj (cap - 1) (by omega))).1
    omega
   obtain ⟨φ1,h1,rs,ls,o1,r1,s1,e1,l1,l2,q⟩:=rows_lo he hi hci ((List.range len).map f) ho hr (fun u hu => by
    obtain ⟨j,hj,rfl⟩:=List.mem_map.1 hu
    obtain ⟨z,hz⟩:=(hfe j (by have:=List.mem_range.1 hj; omega)).2
    exact ⟨n,z,hz⟩)
   simp only [List.length_map,List.length_range] at l1 l2
   have hat : ∀ j,j < len → ((List.range len).map f)[j]? = some (f j):=fun j hj => by simp [hj]
   refine ⟨AEv.upd φ1 h1.N ⟨b,off,cap⟩,h1.more (.cells 1 len rs),.slice h1.N 0 len len,ls,rfl,lo_add o1 r1 _ _ ?_,s1.trans (lo_stp o1 _ _),e1.trans (more_ext h1 o1 _),?_,.inr ⟨h1.N,len,rs,by rw [l2],more_at _ _,by omega,fun j r hr' => ?_⟩,rfl⟩
   ·refine ⟨c,ty,fr,hb,hsize,by show rs.length ≤ cap; omega,fun j x hx => ?_⟩
    have hj : j < len:=by have:=(List.getElem?_eq_some_iff.1 hx).1; omega
    obtain ⟨q1,q2,_⟩:=q j (f j) x (hat j hj) hx
    exact ⟨f j,hcj j (by omega),VR.step (lo_stp o1 _ _) _ _ q1,q2⟩
   ·simp only [VR]
    exact ⟨_,cap,1,len,_,rfl,hl,more_at _ _,Nat.le_refl _,fun _ => ⟨by simp [AEv.upd],fun _ _ => by simp [AEv.upd]⟩⟩
   ·have hj : j < len:=by have:=(List.getElem?_eq_some_iff.1 hr').1; omega
    obtain ⟨_,_,l,q3,q4⟩:=q j (f j) r (hat j hj) hr'
    exact ⟨l,q3,q4.ext (more_ext h1 o1 _)⟩
structure RuleKey (P : Program) (k i t : TypeId) (f g l : Field) : Prop where
 hu : P.underlying k = some (.struct #[f,g,l])
 size : P.cellsOf k = 3
 ci : P.cellsOf i = 1
 ct : P.cellsOf t = 1
 f1 : f.type = i
 f2 : g.type = t
 f3 : l.type = t
 o1 : f.offset = 0
 o2 : g.offset = 1
 o3 : l.offset = 2
theorem okWide_rule {P : Program} {W : World} {k i t : TypeId} {f g l : Field} (A : RuleKey P k i t f g l) {r : Reach} {b0 : Nat} {v : Value} (h : Value.okWide P W r b0 k v) : ∃ c0 c1 c2,v = .agg #[c0,c1,c2]:=by
 simp only [Value.okWide,A.hu] at h
 obtain ⟨cs,h1,h2,_⟩:=h
 rw [A.size] at h2
 obtain ⟨l⟩:=cs
 match l,h2 with
 | [c0,c1,c2],_ => exact ⟨c0,c1,c2,h1⟩
theorem rule_lo {CK : CKT} {φ : Nat → Emb} {h : Heap} {w : World} (ho : h.own = []) (hr : HR CK w [] φ h w) {H : Type} {enc : TypeId × Value → H} {P : Program} {k i t e : TypeId} {f g l : Field} {v : Value} {d : DataW H} {p : List MemPlace} (A : RuleKey P k i t f g l)
  (ht : P.underlying t = some (.slice e)) (he : P.underlying e = some (.slice i)) (hi : P.underlying i = some (.int .i64)) (hce : P.cellsOf e = 1) {r : Reach} {b0 : Nat} (hval : Value.okWide P w r b0 k v) (kd : DataW.Trod enc P w 0 (fun _ => true) true k v d p) :
  ∃ φ' h' q x y B W,h'.own = [] ∧ HR CK w [] φ' h' w ∧ Stp φ h φ' h' ∧ Ext h h' ∧ VR φ' h' (.agg [.int .i64 q,x,y]) v ∧ MR h' x B ∧ MR h' y W:=by
 obtain ⟨c0,c1,c2,rfl⟩:=okWide_rule A hval
 obtain ⟨fuel,hf⟩:=kd
 cases fuel with
 | zero => simp [DataW.trod] at hf
 | succ n =>
  rw [DataW.trod_step] at hf
  unfold DataW.trodStep at hf
  simp only [A.hu,Value.cells] at hf
  rw [if_pos (by rw [A.size]; rfl)] at hf
  simp only [Option.map_eq_some_iff] at hf
  obtain ⟨xs,hx,e1⟩:=hf
  rw [List.mapM_cons,List.mapM_cons,List.mapM_cons,List.mapM_nil] at hx
  simp only [bind,Option.bind_eq_some_iff,pure,Option.some.injEq,A.ci,A.ct,A.f1,A.f2,A.f3,A.o1,A.o2,A.o3] at hx
  obtain ⟨y0,h0,_,⟨y1,h1,_,⟨y2,h2,_,rfl,rfl⟩,rfl⟩,rfl⟩:=hx
  have h0' : DataW.trod enc P w 0 (fun _ => true) true n i [c0] = some y0:=h0
  have h1' : DataW.trod enc P w 0 (fun _ => true) true n t [c1] = some y1:=h1
  have h2' : DataW.trod enc P w 0 (fun _ => true) true n t [c2] = some y2:=h2
  obtain ⟨a,ea,_,_⟩:=DataW.trod_int hi h0'
  obtain rfl : c0 = .int .i64 a:=by simpa using ea
  obtain ⟨φ1,m1,x,B,o1,r1,s1,x1,v1,p1,q1⟩:=mat_lo0 ho hr ht he hi hce A.ci h1'
  obtain ⟨φ2,m2,y,W,o2,r2,s2,x2,v2,p2,q2⟩:=mat_lo0 o1 r1 ht he hi hce A.ci h2'
  refine ⟨φ2,m2,a,x,y,B,W,o2,r2,s1.trans s2,x1.trans x2,?_,Go.AEv.MR.ext x2 p1,p2⟩
  simp only [VR,VRs]
  refine ⟨#[.int .i64 a,c1,c2],rfl,⟨_,[c1,c2],rfl,rfl,c1,[c2],rfl,VR.step s2 _ _ v1,c2,[],rfl,v2,rfl⟩,fun z hz => ?_⟩
  simp only [List.mem_cons,List.not_mem_nil,or_false] at hz
  rcases hz with rfl | rfl | rfl
  ·rfl
  ·exact q1
  ·exact q2
end Go.AEv
set_option linter.unusedVariables false
set_option linter.unusedSimpArgs false
namespace Go.AEv
open Go.ChangeShapes Go.WideShapes Go.Proofs.Ytljgfdamdcikgaa.Ev
theorem _root_.Go.Proofs.Ytljgfdamdcikgaa.Ev.WT.ext {h h' : Heap} {y : AV} {L : List (List (List Int))} (m : WT h y L) (e : Ext h h') : WT h' y L:=by
 rcases m with m | ⟨b,v,cs,e1,g,hl,hr⟩
 ·exact .inl m
 ·exact .inr ⟨b,v,cs,e1,e _ _ g (by simp),hl,fun i r q => by
   obtain ⟨M,h1,h2⟩:=hr i r q
   exact ⟨M,h1,MR.ext e h2⟩⟩
theorem mats_lo {CK : CKT} {w : World} {H : Type} {enc : TypeId × Value → H} {P : Program} {t e i : TypeId} (ht : P.underlying t = some (.slice e)) (he : P.underlying e = some (.slice i)) (hi : P.underlying i = some (.int .i64)) (hce : P.cellsOf e = 1) (hci : P.cellsOf i = 1) :
  ∀ (vs : List Value) {φ : Nat → Emb} {h : Heap} (ho : h.own = []) (hr : HR CK w [] φ h w),(∀ u ∈ vs,∃ fuel z,DataW.trod enc P w 0 (fun _ => true) true fuel t [u] = some z) →
  ∃ φ' h',∃ (rs : List AV) (ls : List (List (List Int))),h'.own = [] ∧ HR CK w [] φ' h' w ∧ Stp φ h φ' h' ∧ Ext h h' ∧ rs.length = vs.length ∧ ls.length = vs.length ∧ ∀ (j : Nat) u r,vs[j]? = some u → rs[j]? = some r → VR φ' h' r u ∧ Value.oneCell' u = true ∧ ∃ l,ls[j]? = some l ∧ MR h' r l
 | [],φ,h,ho,hr,_ => ⟨φ,h,[],[],ho,hr,Stp.refl φ h,Ext.refl h,rfl,rfl,fun j u r q => by simp at q⟩
 | u :: us,φ,h,ho,hr,hv => by
  obtain ⟨fuel,z,hf⟩:=hv u (by simp)
  obtain ⟨φ1,h1,x,l,o1,r1,s1,e1,v1,p1,c1⟩:=mat_lo0 ho hr ht he hi hce hci hf
  obtain ⟨φ2,h2,rs,ls,o2,r2,s2,e2,l1,l2,q⟩:=mats_lo ht he hi hce hci us o1 r1 (fun u' hu => hv u' (by simp [hu]))
  refine ⟨φ2,h2,x :: rs,l :: ls,o2,r2,s1.trans s2,e1.trans e2,by simp [l1],by simp [l2],fun j u' r hu hr' => ?_⟩
  cases j with
  | zero =>
   simp only [List.getElem?_cons_zero,Option.some.injEq] at hu hr'
   subst hu hr'
   exact ⟨VR.step s2 _ _ v1,c1,l,rfl,MR.ext e2 p1⟩
  | succ j =>
   simp only [List.getElem?_cons_succ] at hu hr' ⊢
   exact q j u' r hu hr'
theorem cube_lo {CK : CKT} {φ : Nat → Emb} {h : Heap} {w : World} (ho : h.own = []) (hr : HR CK w [] φ h w) {H : Type} {enc : TypeId × Value → H} {P : Program} {s t e i : TypeId} {v : Value} {d : DataW H} {p : List MemPlace}
  (hs : P.underlying s = some (.slice t)) (ht : P.underlying t = some (.slice e)) (he : P.underlying e = some (.slice i)) (hi : P.underlying i = some (.int .i64)) (hct : P.cellsOf t = 1) (hce : P.cellsOf e = 1) (hci : P.cellsOf i = 1) (hcs : ∃ a len cap,v = .slice a len cap) (k : DataW.Trod enc P w 0 (fun _ => true) true s v d p) :
  ∃ φ' h' x M,h'.own = [] ∧ HR CK w [] φ' h' w ∧ Stp φ h φ' h' ∧ Ext h h' ∧ VR φ' h' x v ∧ WT h' x M:=by
 obtain ⟨a0,n0,c0,rfl⟩:=hcs
 obtain ⟨fuel,hf⟩:=k
 have hf : DataW.trod enc P w 0 (fun _ => true) true fuel s [.slice a0 n0 c0] = some (d,p):=hf
 rcases DataW.trod_slice hs hf with ⟨hcs,_⟩ | ⟨a,len,cap,elems,rest,n,_,hcs,_,_,hl,hm,hlen,hel,hsp,_⟩
 ·have hcs' : Value.slice a0 n0 c0 = .slice none 0 0:=(List.cons.inj hcs).1
  rw [hcs']
  exact ⟨φ,h,.nils,[],ho,hr,Stp.refl φ h,Ext.refl h,by simp [VR],.inl ⟨.inl rfl,rfl⟩⟩
 ·have hcs' : Value.slice a0 n0 c0 = .slice (some a) len cap:=(List.cons.inj hcs).1
  rw [hcs']
  by_cases h0 : len = 0
  ·subst h0
   exact ⟨φ,h,.slice0,[],ho,hr,Stp.refl φ h,Ext.refl h,by simp [VR],.inl ⟨.inr rfl,rfl⟩⟩
  ·obtain ⟨hrl,hre⟩:=hsp rfl
   have each : ∀ j,j < cap → ∃ u,w.cell? (a.add j) = some u ∧ ∃ z,DataW.trod enc P w 0 (fun _ => true) true n t [u] = some z:=fun j hj => by
    have hb' : ∃ y,(w.cells? 0 (a.add (j * P.cellsOf t)) (P.cellsOf t)).bind (DataW.trod enc P w 0 (fun _ => true) true n t) = some y:=by
     by_cases hjl : j < len
     ·rw [hel j hjl,List.getElem?_eq_getElem (by omega)]; exact ⟨_,rfl⟩
     ·have:=hre (j - len) (by omega)
      rw [show len + (j - len) = j by omega] at this
      rw [this,List.getElem?_eq_getElem (by omega)]; exact ⟨_,rfl⟩
    obtain ⟨y,hy⟩:=hb'
    rw [hct,Nat.mul_one,Option.bind_eq_some_iff] at hy
    obtain ⟨cs',h1,h2⟩:=hy
    have hl1:=(World.cells?_some h1).2.1
    obtain ⟨u,rfl⟩ : ∃ u,cs' = [u]:=by
     cases cs' with
     | nil => simp at hl1
     | cons u r => cases r with
      | nil => exact ⟨u,rfl⟩
      | cons u' r => simp at hl1
    exact ⟨u,cell_of_cells?_one h1,y,h2⟩
   obtain ⟨f,hfe⟩ : ∃ f : Nat → Value,∀ j,j < cap → w.cell? (a.add j) = some (f j) ∧ ∃ z,DataW.trod enc P w 0 (fun _ => true) true n t [f j] = some z :=
    ⟨fun j => if hj : j < cap then Classical.choose (each j hj) else .nilFunc,fun j hj => by
     simp only [dif_pos hj]
     exact Classical.choose_spec (each j hj)⟩
   obtain ⟨b,off,spot⟩:=a
   have hspot : spot = none:=by simpa [Addr.add] using World.cell?_spot (hfe 0 (by omega)).1
   subst hspot
   have hcell : ∀ j,j < cap → w.cell? ⟨b,off + j,none⟩ = some (f j):=fun j hj => by rw [← Go.WideShapes.add_plain]; exact (hfe j hj).1
   obtain ⟨c,ty,fr,hb,hc0⟩:=cell_obj (hcell 0 (by omega))
   have hcj : ∀ j,j < cap → c[off + j]? = some (f j):=fun j hj => by
    obtain ⟨c',ty',fr',hb',hcj⟩:=cell_obj (hcell j hj)
    rw [hb] at hb'
    simp only [Option.some.injEq,Obj.cells.injEq] at hb'
    obtain ⟨rfl,_⟩:=hb'
    exact hcj
   have hsize : off + cap ≤ c.size:=by
    have:=(Array.getElem?_eq_some_iff.1 (hcj (cap - 1) (by omega))).1
    omega
   obtain ⟨φ1,h1,rs,ls,o1,r1,s1,e1,l1,l2,q⟩:=mats_lo ht he hi hce hci ((List.range len).map f) ho hr (fun u hu => by
    obtain ⟨j,hj,rfl⟩:=List.mem_map.1 hu
    obtain ⟨z,hz⟩:=(hfe j (by have:=List.mem_range.1 hj; omega)).2
    exact ⟨n,z,hz⟩)
   simp only [List.length_map,List.length_range] at l1 l2
   have hat : ∀ j,j < len → ((List.range len).map f)[j]? = some (f j):=fun j hj => by simp [hj]
   refine ⟨AEv.upd φ1 h1.N ⟨b,off,cap⟩,h1.more (.cells 1 len rs),.slice h1.N 0 len len,ls,rfl,lo_add o1 r1 _ _ ?_,s1.trans (lo_stp o1 _ _),e1.trans (more_ext h1 o1 _),?_,.inr ⟨h1.N,len,rs,by rw [l2],more_at _ _,by omega,fun j r hr' => ?_⟩⟩
   ·refine ⟨c,ty,fr,hb,hsize,by show rs.length ≤ cap; omega,fun j x hx => ?_⟩
    have hj : j < len:=by have:=(List.getElem?_eq_some_iff.1 hx).1; omega
    obtain ⟨q1,q2,_⟩:=q j (f j) x (hat j hj) hx
    exact ⟨f j,hcj j (by omega),VR.step (lo_stp o1 _ _) _ _ q1,q2⟩
   ·simp only [VR]
    exact ⟨_,cap,1,len,_,rfl,hl,more_at _ _,Nat.le_refl _,fun _ => ⟨by simp [AEv.upd],fun _ _ => by simp [AEv.upd]⟩⟩
   ·have hj : j < len:=by have:=(List.getElem?_eq_some_iff.1 hr').1; omega
    obtain ⟨_,_,l,q3,q4⟩:=q j (f j) r (hat j hj) hr'
    exact ⟨l,q3,MR.ext (more_ext h1 o1 _) q4⟩
end Go.AEv
