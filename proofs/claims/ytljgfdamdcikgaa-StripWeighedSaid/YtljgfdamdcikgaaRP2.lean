/-
 Of the functions that this law reaches,part 2: what they answer. No condition.
-/
import Derived.Test.YtljgfdamdcikgaaRP1
import Derived.Test.YtljgfdamdcikgaaEvW
import Derived.Test.YtljgfdamdcikgaaEvAny
set_option linter.unusedVariables false
set_option linter.unusedSimpArgs false
open Bool renaming true → zT, false → zF
open List renaming getElem?_eq_getElem → zq, getD_eq_getElem?_getD → zd
open Go.Proofs.Try renaming prog → zp
namespace Go.Proofs.Ytljgfdamdcikgaa.Ev
open Go Go.AEv
attribute [local simp] evFunc initS evOps_c evTrim_c evSkip_c evExit_c evRet_c evSeq_c evCond_c evBlock_c evDraw_c runOps_n runOps_c exec_n exec_g pure1_c act AOpd.ev T.get T.set T.put evBin evUn forceT_eq forceV_eq forceL_eq evRess evRes one keep runFP_n runFP_c app_none AV.flats AV.flat came_some List.getElem?_cons_zero List.getElem?_cons_succ beqT wrapI idxI tdivI tmodI decT decF ibT ibF inT inF evScope_c if_pos if_neg Cm_some thenW_n thenW_e thenW_r blkW_n blkW_e blkW_r goI kn putAt AV.cells fillA loadA takeA mk Eff.isAll Eff.isNone Eff.commutes Eff.spares okPair apart eqAgg fits LK.fits allEq aveq eqk mmA
section
variable {S R : List (List Nat)} {p N : Nat}
theorem c32_l0_ok (J : CallF) (k70 : K70 J) {Hb H : Heap} {z : AV} {L : List AV} (nv : NV Hb H z L) (hL : L.length ≤ 1000) (lf : LF H p S) {bo br bx v : Nat} {ros : List AV} (lo : ros.length = N) (g1 : H.get bo = .cells 1 N ros) {j : Nat} (er : ros[j]? = some (.slice br 0 S.length S.length)) (gr : H.get br = .cells 1 S.length (gn (rowC S j))) (hj : j < N) (h40 : N ≤ 40) (gx : H.get bx = .cells 1 v (wsL R)) (hR : R.length = S.length) (os : OkS S) {now : Int} (hw : now = -1 ∨ ∃ c : Nat,now = c ∧ c < S.length) (bd : ∀ i,i < S.length → cnt S j i ≤ 1152921504606846976) :
  ∀ d i k,i + d = S.length → k ≤ 1152921504606846976 → k < ft (pN S now) (cnt S j) d i →
  Tr tbl J c32_l0 (fun s h => h = H ∧ s.get [zF,zF] = G k ∧ s.get [zT,zT,zF] = .ptr p 0 3 ∧ s.get [zF,zF,zT] = .slice bo 0 N N ∧ s.get [zF,zF,zF,zF] = z ∧ s.get [zT,zF,zF,zF] = G now ∧ s.get [zF,zT,zF,zF] = G j ∧ s.get [zT,zF,zF,zT,zF,zF] = .slice bx 0 S.length v ∧ s.get [zF,zT,zF,zT,zF,zF] = G S.length ∧ s.get [zT,zT,zF,zT,zF,zF] = G i) (.exit 2)
   (fun s h => ∃ z',NV Hb h z' (L ++ [.str (stW (R.getD (fd (pN S now) (cnt S j) d i k).1 []))]) ∧ s.get [zF,zF] = G (fd (pN S now) (cnt S j) d i k).2 ∧ s.get [zT,zT,zF] = .ptr p 0 3 ∧ s.get [zF,zF,zT] = .slice bo 0 N N ∧ s.get [zF,zF,zF,zF] = z' ∧ s.get [zT,zF,zF,zF] = G (fd (pN S now) (cnt S j) d i k).1 ∧ s.get [zF,zT,zF,zF] = G j):=by
 intro d
 induction d with
 | zero => intro i k _ _ hk; simp [ft] at hk
 | succ d ih =>
  intro i k hi hk0 hk
  have n2:=os.n
  have hi' : i < S.length:=by omega
  have er':=getI er
  have e1:=gn_at (L:=rowC S j) (i:=i) (by rw [rowC_len]; exact hi')
  rw [rowC_at S j hi'] at e1
  have e1':=getI e1
  have l1 : (gn (rowC S j)).length = S.length:=by rw [gn_len,rowC_len]
  have bi:=bd i hi'
  have ew:=wsL_at (R:=R) (i:=i) (by omega)
  have ew':=getI ew
  have lw : (wsL R).length = S.length:=by rw [wsL_len,hR]
  have tst : (now = -1 ∧ pN S now i = zT) ∨ ∃ (c : Nat) (x : AV) (mb nb : Nat) (rs : List AV) (y : AV),now = c ∧ c < S.length ∧ H.get p = .cells 0 3 [x,.map mb,.slice nb 0 S.length S.length] ∧ H.get nb = .cells 1 S.length rs ∧ rs[c]? = some y ∧ J 70 [y,G i] H = some (.bool (pN S now i),[],zF):=by
   rcases hw with rfl | ⟨c,rfl,hc⟩
   ·exact .inl ⟨rfl,rfl⟩
   ·obtain ⟨x,mb,nb,rs,f1,_,f3,f4⟩:=lf
    obtain ⟨y,ey,rv⟩:=f4 c hc
    refine .inr ⟨c,x,mb,nb,rs,y,rfl,hc,f1,f3,ey,?_⟩
    rw [k70 H y i (S.getD c []) rv (by have:=os.len c; omega)]
    have e : pN S (c : Int) i = decide (i ∈ S.getD c []):=by
     unfold pN
     rw [show decide ((c : Int) < 0) = zF from decide_eq_false (by omega),Bool.false_or,Int.toNat_natCast]
    rw [e]
  have ihS:=fun k' => ih (i + 1) k' (by omega)
  obtain ⟨x1,e,H2,q1,q2,nv2,q4⟩:=nv.app H.size 16 (.str (stW (R.getD i []))) (by omega)
  unfold ft at hk
  unfold fd
  clear ih lf nv bd os hw
  generalize pN S now = pp at *
  generalize gn (rowC S j) = cs at *
  cases hp : pp i
  ·rw [hp] at tst
   rw [hp,if_neg (by simp),Nat.zero_add] at hk
   rw [if_neg (by simp)]
   have ihk:=ihS k hk0 hk
   obtain ⟨c,x,mb,nb,rs,y,rfl,hc,f1,f3,ey,k7⟩:=tst.resolve_left (fun e => by cases e.2)
   have ey':=getI ey
   have lrs : c < rs.length:=(List.getElem?_eq_some_iff.1 ey).1
   clear ihS tst nv2 q1 q2 q4
   generalize cnt S j i = w at *
   generalize stW (R.getD i []) = u at *
   have step : Tr tbl J (.trim [[zF,zF],[zT,zT,zF],[zF,zF,zT],[zF,zF,zF,zF],[zT,zF,zF,zF],[zF,zT,zF,zF],[zT,zF,zF,zT,zF,zF],[zF,zT,zF,zT,zF,zF],[zT,zT,zF,zT,zF,zF]] c32_b0) (fun s h => h = H ∧ s.get [zF,zF] = G k ∧ s.get [zT,zT,zF] = .ptr p 0 3 ∧ s.get [zF,zF,zT] = .slice bo 0 N N ∧ s.get [zF,zF,zF,zF] = z ∧ s.get [zT,zF,zF,zF] = G c ∧ s.get [zF,zT,zF,zF] = G j ∧ s.get [zT,zF,zF,zT,zF,zF] = .slice bx 0 S.length v ∧ s.get [zF,zT,zF,zT,zF,zF] = G S.length ∧ s.get [zT,zT,zF,zT,zF,zF] = G i) .normal (fun s h => h = H ∧ s.get [zF,zF] = G k ∧ s.get [zT,zT,zF] = .ptr p 0 3 ∧ s.get [zF,zF,zT] = .slice bo 0 N N ∧ s.get [zF,zF,zF,zF] = z ∧ s.get [zT,zF,zF,zF] = G c ∧ s.get [zF,zT,zF,zF] = G j ∧ s.get [zT,zF,zF,zT,zF,zF] = .slice bx 0 S.length v ∧ s.get [zF,zT,zF,zT,zF,zF] = G S.length ∧ s.get [zT,zT,zF,zT,zF,zF] = G ((i + 1 : Nat) : Int)):=by
    clear ihk
    generalize S.length = n at *
    refine Tr.w fun s1 H1 hp _ kR => W.trim ?_
    obtain ⟨rfl,q⟩:=hp
    refine zCh ?_
    simp (disch:=omega) [c32_o17,zG,q]
    refine zCh ?_
    simp (disch:=omega) [zG,q]
    refine W.seq (W.block ?_)
    refine zCh ?_
    simp (disch:=omega) [c32_o18,zG,q,gx,ew,ew',lw]
    refine W.assoc ?_
    refine zCh ?_
    simp (disch:=omega) [c32_o19,zG,q,f1,f3,ey,ey',k7]
    refine W.seq (W.cond (v:=zT) (by simp (disch:=omega) [zG,q]) ?_)
    simp only [if_true,if_false,Bool.false_eq_true]
    refine W.exit ?_
    try simp only [zW,if_true]
    refine W.chunk ?_
    simp (disch:=omega) [c32_o24,zG,q]
    exact kR _ _ (by simp [T.get,q])
   exact Tr.next step ihk
  ·rw [hp] at tst
   rw [hp,if_pos rfl] at hk
   rw [if_pos rfl]
   by_cases hlt : k < cnt S j i
   ·rw [if_pos hlt]
    clear ihS
    refine Tr.out ?_ (by simp)
    generalize cnt S j i = w at *
    generalize stW (R.getD i []) = u at *
    generalize S.length = n at *
    rcases tst with ⟨rfl,_⟩ | ⟨c,x,mb,nb,rs,y,rfl,hc,f1,f3,ey,k7⟩
    ·refine Tr.w fun s1 H1 hp _ kR => W.trim ?_
     obtain ⟨rfl,q⟩:=hp
     refine zCh ?_
     simp (disch:=omega) [c32_o17,zG,q]
     refine zCh ?_
     simp (disch:=omega) [zG,q]
     refine W.seq (W.block ?_)
     refine zCh ?_
     simp (disch:=omega) [c32_o18,zG,q,gx,ew,ew',lw]
     refine W.assoc ?_
     refine zCh ?_
     simp (disch:=omega) [c32_o19,zG,q]
     refine W.seq (W.cond (v:=zF) (by simp (disch:=omega) [zG,q]) ?_)
     simp only [if_true,if_false,Bool.false_eq_true]
     refine W.skip ?_
     try simp only [zW,if_true]
     refine W.assoc ?_
     refine zCh ?_
     simp (disch:=omega) [c32_o20,zG,q,g1,lo,er,er',gr,l1,e1,e1']
     refine W.seq (W.cond (v:=zT) (by simp (disch:=omega) [zG,q]) ?_)
     simp only [if_true,if_false,Bool.false_eq_true]
     refine zCh ?_
     simp (disch:=omega) [c32_o21,zG,q,q1,q2,app1_at,elems,rdOf]
     refine zCh ?_
     simp (disch:=omega) [c32_o22,zG,q]
     refine W.exit ?_
     try simp only [zW,if_true]
     exact kR _ _ ⟨_,nv2,by simp [T.get,q]⟩
    ·have ey':=getI ey
     have lrs : c < rs.length:=(List.getElem?_eq_some_iff.1 ey).1
     refine Tr.w fun s1 H1 hp _ kR => W.trim ?_
     obtain ⟨rfl,q⟩:=hp
     refine zCh ?_
     simp (disch:=omega) [c32_o17,zG,q]
     refine zCh ?_
     simp (disch:=omega) [zG,q]
     refine W.seq (W.block ?_)
     refine zCh ?_
     simp (disch:=omega) [c32_o18,zG,q,gx,ew,ew',lw]
     refine W.assoc ?_
     refine zCh ?_
     simp (disch:=omega) [c32_o19,zG,q,f1,f3,ey,ey',k7]
     refine W.seq (W.cond (v:=zF) (by simp (disch:=omega) [zG,q]) ?_)
     simp only [if_true,if_false,Bool.false_eq_true]
     refine W.skip ?_
     try simp only [zW,if_true]
     refine W.assoc ?_
     refine zCh ?_
     simp (disch:=omega) [c32_o20,zG,q,g1,lo,er,er',gr,l1,e1,e1']
     refine W.seq (W.cond (v:=zT) (by simp (disch:=omega) [zG,q]) ?_)
     simp only [if_true,if_false,Bool.false_eq_true]
     refine zCh ?_
     simp (disch:=omega) [c32_o21,zG,q,q1,q2,app1_at,elems,rdOf]
     refine zCh ?_
     simp (disch:=omega) [c32_o22,zG,q]
     refine W.exit ?_
     try simp only [zW,if_true]
     exact kR _ _ ⟨_,nv2,by simp [T.get,q]⟩
   ·rw [if_neg hlt]
    have ihk:=ihS (k - cnt S j i) (by omega) (by omega)
    have kk : ((k - cnt S j i : Nat) : Int) = (k : Int) - (cnt S j i : Int):=by omega
    rw [kk] at ihk
    clear ihS nv2 q1 q2 q4 kk
    have step : Tr tbl J (.trim [[zF,zF],[zT,zT,zF],[zF,zF,zT],[zF,zF,zF,zF],[zT,zF,zF,zF],[zF,zT,zF,zF],[zT,zF,zF,zT,zF,zF],[zF,zT,zF,zT,zF,zF],[zT,zT,zF,zT,zF,zF]] c32_b0) (fun s h => h = H ∧ s.get [zF,zF] = G k ∧ s.get [zT,zT,zF] = .ptr p 0 3 ∧ s.get [zF,zF,zT] = .slice bo 0 N N ∧ s.get [zF,zF,zF,zF] = z ∧ s.get [zT,zF,zF,zF] = G now ∧ s.get [zF,zT,zF,zF] = G j ∧ s.get [zT,zF,zF,zT,zF,zF] = .slice bx 0 S.length v ∧ s.get [zF,zT,zF,zT,zF,zF] = G S.length ∧ s.get [zT,zT,zF,zT,zF,zF] = G i) .normal (fun s h => h = H ∧ s.get [zF,zF] = G ((k : Int) - (cnt S j i : Int)) ∧ s.get [zT,zT,zF] = .ptr p 0 3 ∧ s.get [zF,zF,zT] = .slice bo 0 N N ∧ s.get [zF,zF,zF,zF] = z ∧ s.get [zT,zF,zF,zF] = G now ∧ s.get [zF,zT,zF,zF] = G j ∧ s.get [zT,zF,zF,zT,zF,zF] = .slice bx 0 S.length v ∧ s.get [zF,zT,zF,zT,zF,zF] = G S.length ∧ s.get [zT,zT,zF,zT,zF,zF] = G ((i + 1 : Nat) : Int)):=by
     clear ihk
     generalize cnt S j i = w at *
     generalize stW (R.getD i []) = u at *
     generalize S.length = n at *
     rcases tst with ⟨rfl,_⟩ | ⟨c,x,mb,nb,rs,y,rfl,hc,f1,f3,ey,k7⟩
     ·refine Tr.w fun s1 H1 hp _ kR => W.trim ?_
      obtain ⟨rfl,q⟩:=hp
      refine zCh ?_
      simp (disch:=omega) [c32_o17,zG,q]
      refine zCh ?_
      simp (disch:=omega) [zG,q]
      refine W.seq (W.block ?_)
      refine zCh ?_
      simp (disch:=omega) [c32_o18,zG,q,gx,ew,ew',lw]
      refine W.assoc ?_
      refine zCh ?_
      simp (disch:=omega) [c32_o19,zG,q]
      refine W.seq (W.cond (v:=zF) (by simp (disch:=omega) [zG,q]) ?_)
      simp only [if_true,if_false,Bool.false_eq_true]
      refine W.skip ?_
      try simp only [zW,if_true]
      refine W.assoc ?_
      refine zCh ?_
      simp (disch:=omega) [c32_o20,zG,q,g1,lo,er,er',gr,l1,e1,e1']
      refine zCh ?_
      simp (disch:=omega) [c32_o21,c32_o22,zG,q]
      refine W.chunk ?_
      simp (disch:=omega) [c32_o23,zG,q,g1,lo,er,er',gr,l1,e1,e1']
      refine W.chunk ?_
      simp (disch:=omega) [c32_o24,zG,q]
      exact kR _ _ (by simp [T.get,q])
     ·have ey':=getI ey
      have lrs : c < rs.length:=(List.getElem?_eq_some_iff.1 ey).1
      refine Tr.w fun s1 H1 hp _ kR => W.trim ?_
      obtain ⟨rfl,q⟩:=hp
      refine zCh ?_
      simp (disch:=omega) [c32_o17,zG,q]
      refine zCh ?_
      simp (disch:=omega) [zG,q]
      refine W.seq (W.block ?_)
      refine zCh ?_
      simp (disch:=omega) [c32_o18,zG,q,gx,ew,ew',lw]
      refine W.assoc ?_
      refine zCh ?_
      simp (disch:=omega) [c32_o19,zG,q,f1,f3,ey,ey',k7]
      refine W.seq (W.cond (v:=zF) (by simp (disch:=omega) [zG,q]) ?_)
      simp only [if_true,if_false,Bool.false_eq_true]
      refine W.skip ?_
      try simp only [zW,if_true]
      refine W.assoc ?_
      refine zCh ?_
      simp (disch:=omega) [c32_o20,zG,q,g1,lo,er,er',gr,l1,e1,e1']
      refine zCh ?_
      simp (disch:=omega) [c32_o21,c32_o22,zG,q]
      refine W.chunk ?_
      simp (disch:=omega) [c32_o23,zG,q,g1,lo,er,er',gr,l1,e1,e1']
      refine W.chunk ?_
      simp (disch:=omega) [c32_o24,zG,q]
      exact kR _ _ (by simp [T.get,q])
    exact Tr.next step ihk
theorem c32_l1_ok (J : CallF) (k70 : K70 J) {Hb : Heap} (lf : LF Hb p S) {x0 nx0 : AV} {mb : Nat} (f1 : Hb.get p = .cells 0 3 [x0,.map mb,nx0]) (rx : RV Hb x0 (wsL R)) (hR : R.length = S.length) (os : OkS S) (hs : Srt S) {bo : Nat} {ros : List AV} (gT : Hb.get bo = .cells 1 N ros) (lo : ros.length = N) (tb : ∀ j,j < N → ∃ br,ros[j]? = some (.slice br 0 S.length S.length) ∧ Hb.get br = .cells 1 S.length (gn (rowC S j))) (h40 : N ≤ 40) (bd : ∀ j,j < N → ∀ i,i < S.length → cnt S j i ≤ 1152921504606846976) :
  ∀ (j : Nat) (now : Int) (k : Nat) z L H,NV Hb H z L → L.length + j ≤ 40 → j ≤ N → (now = -1 ∨ ∃ c : Nat,now = c ∧ c < S.length) → k ≤ 1152921504606846976 → (∀ j',j = j' + 1 → k < ((nwL S now).map (cnt S j')).sum) →
  Tr tbl J c32_l1 (fun s h => h = H ∧ s.get [zF,zF] = G k ∧ s.get [zT,zT,zF] = .ptr p 0 3 ∧ s.get [zF,zF,zT] = .slice bo 0 N N ∧ s.get [zF,zF,zF,zF] = z ∧ s.get [zT,zF,zF,zF] = G now ∧ s.get [zF,zT,zF,zF] = G ((j : Int) - 1)) (.exit 0)
   (fun s h => ∃ z',NV Hb h z' (L ++ wsL ((itm S j (nwL S now) k).map fun c => R.getD c [])) ∧ s.get [zF,zF,zF,zF] = z'):=by
 intro j
 induction j with
 | zero =>
  intro now k z L H nv o1 o2 o3 o4 o5
  have nv : NV Hb H z (L ++ wsL ((itm S 0 (nwL S now) k).map fun c => R.getD c [])):=by
   show NV Hb H z (L ++ [])
   rw [List.append_nil]; exact nv
  generalize L ++ wsL ((itm S 0 (nwL S now) k).map fun c => R.getD c []) = L2 at *
  clear o1 o2 o3 o4 o5 lf f1 rx hR os hs gT tb bd lo
  refine Tr.out ?_ (by simp)
  refine Tr.w fun s1 H1 hp _ kR => W.trim ?_
  obtain ⟨rfl,q⟩:=hp
  refine W.assoc ?_
  refine zCh ?_
  simp (disch:=omega) [c32_o15,zG,q]
  refine zCh ?_
  simp (disch:=omega) [zG,q]
  exact kR _ _ ⟨_,nv,by simp [T.get,q]⟩
 | succ j ih =>
  intro now k z L H nv hl hj hw hk hs0
  have n2:=os.n
  have hk1:=hs0 j rfl
  have hn : 0 < S.length:=by
   rcases hw with rfl | ⟨c,rfl,hc⟩
   ·rcases Nat.eq_zero_or_pos S.length with h | h
    ·have : nwL S (-1) = []:=by
      unfold nwL
      rw [if_pos (by omega),h]; rfl
     rw [this] at hk1; simp at hk1
    ·exact h
   ·omega
  obtain ⟨bx,v,rfl,gx⟩ : ∃ b v,x0 = .slice b 0 S.length v ∧ Hb.get b = .cells 1 v (wsL R):=by
   rcases rx with ⟨_,e⟩ | ⟨b,v,e,g⟩
   ·have : (wsL R).length = 0:=by rw [e]; rfl
    rw [wsL_len,hR] at this; omega
   ·rw [wsL_len,hR] at e; exact ⟨b,v,e,g⟩
  obtain ⟨br,er,gr⟩:=tb j (by omega)
  have kH:=nv.k
  have f1':=kH.at f1 (by simp) id
  have fs:=ft_sum (pN S now) (cnt S j) S.length 0
  rw [nw_filter hs] at fs
  have hk2 : k < ft (pN S now) (cnt S j) S.length 0:=by rw [fs]; exact hk1
  have fp:=fd_pk hk2
  rw [nw_filter hs] at fp
  obtain ⟨p1,p2,p3⟩:=pk_ok hk1
  have l0:=c32_l0_ok (p:=p) J k70 nv (by omega) (lf.kp kH) lo (kH.at gT (by simp) id) er (kH.at gr (by simp) id) (by omega) h40 (kH.at gx (by simp) id) hR os hw (bd j (by omega)) S.length 0 k (by omega) hk hk2
  rw [fp] at l0
  have it : itm S (j + 1) (nwL S now) k = (pk (cnt S j) (nwL S now) k).1 :: itm S j (S.getD (pk (cnt S j) (nwL S now) k).1 []) (pk (cnt S j) (nwL S now) k).2:=rfl
  rw [it]
  generalize hc : (pk (cnt S j) (nwL S now) k).1 = c at *
  generalize hk' : (pk (cnt S j) (nwL S now) k).2 = k' at *
  have cn : c < S.length:=by
   unfold nwL at p1
   split at p1
   ·exact List.mem_range.1 p1
   ·exact os.lt _ _ p1
  have nc : nwL S (c : Int) = S.getD c []:=by
   unfold nwL
   rw [if_neg (by omega),Int.toNat_natCast]
  have ih':=fun z' H' nv' => ih (c : Int) k' z' (L ++ [.str (stW (R.getD c []))]) H' nv' (by rw [List.length_append,List.length_singleton]; omega) (by omega) (.inr ⟨c,rfl,cn⟩) (by omega) (fun j' e => by
   subst e
   rw [nc]; exact p2)
  rw [nc,List.append_assoc] at ih'
  have step : Tr tbl J (.trim [[zF,zF],[zT,zT,zF],[zF,zF,zT],[zF,zF,zF,zF],[zT,zF,zF,zF],[zF,zT,zF,zF]] c32_b1) (fun s h => h = H ∧ s.get [zF,zF] = G k ∧ s.get [zT,zT,zF] = .ptr p 0 3 ∧ s.get [zF,zF,zT] = .slice bo 0 N N ∧ s.get [zF,zF,zF,zF] = z ∧ s.get [zT,zF,zF,zF] = G now ∧ s.get [zF,zT,zF,zF] = G (((j + 1 : Nat) : Int) - 1)) .normal (fun s h => ∃ z',NV Hb h z' (L ++ [.str (stW (R.getD c []))]) ∧ s.get [zF,zF] = G k' ∧ s.get [zT,zT,zF] = .ptr p 0 3 ∧ s.get [zF,zF,zT] = .slice bo 0 N N ∧ s.get [zF,zF,zF,zF] = z' ∧ s.get [zT,zF,zF,zF] = G c ∧ s.get [zF,zT,zF,zF] = G ((j : Int) - 1)):=by
   clear ih ih' lf rx os hs tb bd hs0 fs hk2 fp it hc hk' nv gT gr
   rw [show ((j + 1 : Nat) : Int) - 1 = (j : Int) by omega]
   generalize L ++ [AV.str (stW (R.getD c []))] = L2 at *
   generalize S.length = n at *
   refine Tr.w fun s1 H1 hp _ kR => W.trim ?_
   obtain ⟨rfl,q⟩:=hp
   refine W.assoc ?_
   refine zCh ?_
   simp (disch:=omega) [c32_o15,zG,q]
   refine zCh ?_
   simp (disch:=omega) [zG,q]
   refine W.seq (W.block ?_)
   refine zCh ?_
   simp (disch:=omega) [c32_o16,zG,q,f1']
   refine W.block ?_
   refine W.use (l0) (by simp (disch:=omega) [zG,q]) fun s1 H1 hp => ?_
   obtain ⟨z2,nv2,q⟩:=hp
   try simp only [zW,if_true]
   refine W.chunk ?_
   simp (disch:=omega) [c32_o25,zG,q]
   exact kR _ _ ⟨_,nv2,by simp [T.get,q]⟩
  refine Tr.next step (fun s h hp => ?_)
  obtain ⟨z',nv',q⟩:=hp
  exact ih' z' h nv' s h ⟨rfl,q⟩
end
def AR.itR (a : AR) (m : Int) (n k : Nat) : List (List Nat):=(itm (a.steps m) n (List.range (a.steps m).length) k).map fun c => (a.rows m).getD c []
def Post32 (a : AR) (m n k : Int) (h : Heap) (v : AV) (own : List AObj) : Prop :=
 (a.gd m n 0 = zF → v = .tup [.nils,G 2] ∧ own = []) ∧
 (a.gd m n 0 = zT → okC (a.steps m) n.toNat = zF → v = .tup [.nils,G 5] ∧ own = []) ∧
 (a.gd m n 0 = zT → okC (a.steps m) n.toNat = zT → ¬ (0 ≤ k ∧ k < a.cn m n.toNat) → v = .tup [.nils,G 2] ∧ own = []) ∧
 (a.gd m n 0 = zT → okC (a.steps m) n.toNat = zT → (0 ≤ k ∧ k < a.cn m n.toNat) → ∃ x,v = .tup [x,G 0] ∧ RV (h.plus own) x (wsL (a.itR m n.toNat k.toNat)))
section
variable {a : AR} {m n k : Int}
theorem c32_0 (J : CallF) (k57 : KR 57 J) (k60 : K60 J) (hJ : ∀ a h,J 32 a h = none) (h : Heap) (o : OkR a h) (g : a.gd m n 0 = zF) : CallsTo tbl J 32 [a.v,G m,G n,G k] h (.tup [.nils,G 2],[],zF):=by
 refine Tr.fnv (cf:=c32) (e:=.ret) (s:=T.set (T.set (T.set (T.set .leaf [] a.v) [zF] (G m)) [zT] (G n)) [zF,zF] (G k)) (by decide) rfl (hJ _ _) rfl rfl rfl (by simp) ?_
 obtain ⟨k1,k2⟩:=rs_pre (m:=m) J k57 k60 o
 have k3:=k60 n 0 40 ⟨h.get,h.size,[.cells 0 3 [G a.q,a.x,a.y]]⟩
 refine Tr.post (Q:=(fun s h => s.get [zT,zF,zF] = .nils ∧ s.get [zF,zT,zF] = G 2)) (fun s h q => by simp [c32,q]) ?_
 unfold AR.gd AR.rm at g
 generalize a.ru = b1 at *
 generalize decide (1 ≤ m ∧ m ≤ 5) = b2 at *
 generalize decide (0 ≤ n ∧ n ≤ 40) = b3 at *
 refine Tr.w fun s1 H1 hp _ kR => ?_
 obtain ⟨rfl,rfl⟩:=hp
 have q : True:=trivial
 cases b1
 ·refine zCh ?_
  simp (disch:=first|omega|exact zE rfl|exact zO|exact zL rfl) [c32_o0,size_mk,get_mk_lt,get_mk_ge,frameOf,Eff.app,Heap.setOwn,q]
  refine W.assoc ?_
  refine zCh ?_
  simp (disch:=first|omega|exact zE rfl|exact zO|exact zL rfl) [c32_o1,size_mk,get_mk_lt,get_mk_ge,frameOf,Eff.app,Heap.setOwn,q,k1,k2,k3]
  refine zCh ?_
  simp (disch:=first|omega|exact zE rfl|exact zO|exact zL rfl) [c32_o2,size_mk,get_mk_lt,get_mk_ge,frameOf,Eff.app,Heap.setOwn,q]
  exact kR _ _ (by simp [T.get])
 ·cases b2
  ·refine zCh ?_
   simp (disch:=first|omega|exact zE rfl|exact zO|exact zL rfl) [c32_o0,size_mk,get_mk_lt,get_mk_ge,frameOf,Eff.app,Heap.setOwn,q]
   refine W.assoc ?_
   refine zCh ?_
   simp (disch:=first|omega|exact zE rfl|exact zO|exact zL rfl) [c32_o1,size_mk,get_mk_lt,get_mk_ge,frameOf,Eff.app,Heap.setOwn,q,k1,k2,k3]
   refine zCh ?_
   simp (disch:=first|omega|exact zE rfl|exact zO|exact zL rfl) [c32_o2,size_mk,get_mk_lt,get_mk_ge,frameOf,Eff.app,Heap.setOwn,q]
   exact kR _ _ (by simp [T.get])
  ·have : b3 = zF:=by simpa using g
   subst this
   refine zCh ?_
   simp (disch:=first|omega|exact zE rfl|exact zO|exact zL rfl) [c32_o0,size_mk,get_mk_lt,get_mk_ge,frameOf,Eff.app,Heap.setOwn,q]
   refine W.assoc ?_
   refine zCh ?_
   simp (disch:=first|omega|exact zE rfl|exact zO|exact zL rfl) [c32_o1,size_mk,get_mk_lt,get_mk_ge,frameOf,Eff.app,Heap.setOwn,q,k1,k2,k3]
   refine zCh ?_
   simp (disch:=first|omega|exact zE rfl|exact zO|exact zL rfl) [c32_o2,size_mk,get_mk_lt,get_mk_ge,frameOf,Eff.app,Heap.setOwn,q]
   exact kR _ _ (by simp [T.get])
theorem c32_1 (J : CallF) (k57 : KR 57 J) (k60 : K60 J) (k61 : K61 J) (k62 : K62 J) (hJ : ∀ a h,J 32 a h = none) (h : Heap) (o : OkR a h) (g : a.gd m n 0 = zT) (hc : okC (a.steps m) n.toNat = zF) : CallsTo tbl J 32 [a.v,G m,G n,G k] h (.tup [.nils,G 5],[],zF):=by
 unfold AR.gd at g
 simp only [Bool.and_eq_true,decide_eq_true_eq] at g
 obtain ⟨r,n1,n2⟩:=g
 obtain ⟨r1,r2⟩:=a.rm_iff r
 obtain ⟨os,s243,_⟩:=AR.steps_ok r
 obtain ⟨k1,k2⟩:=rs_pre (m:=m) J k57 k60 o
 have k3:=k60 n 0 40 ⟨h.get,h.size,[.cells 0 3 [G a.q,a.x,a.y]]⟩
 rw [r1] at k1
 rw [decide_eq_true r2] at k2
 rw [decide_eq_true ⟨n1,n2⟩] at k3
 obtain ⟨Hs,hHs⟩ : ∃ H,(⟨h.get,h.size,[.cells 0 3 [G a.q,a.x,a.y]]⟩ : Heap) = H:=⟨_,rfl⟩
 rw [hHs] at k1 k2 k3
 have oH : OkR a Hs:=by rw [← hHs]; exact o.lo _
 have gS : Hs.get h.size = .cells 0 3 [G a.q,a.x,a.y]:=by rw [← hHs,get_mk_ge _ _ _ _ (Nat.le_refl _),Nat.sub_self]; rfl
 obtain ⟨p,own,e61,lm⟩:=k61 Hs a.g m.toNat (oH.g r1) (by omega)
 rw [a.gv r1,show ((m.toNat : Nat) : Int) = m by omega] at e61
 obtain ⟨Z,hZ⟩ : ∃ Z,Hs.plus own = Z:=⟨_,rfl⟩
 rw [hZ] at lm
 have lf : LF Z p (a.steps m):=lm.lf
 obtain ⟨v,own2,e62,l62⟩:=k62 Z ⟨p,n.toNat,a.steps m⟩ ⟨os,s243,lf,by show n.toNat ≤ 40; omega⟩
 have nn : ((n.toNat : Nat) : Int) = n:=by omega
 simp only [nn] at e62
 obtain ⟨rfl,rfl⟩:=l62.2 hc
 refine Tr.fnv (cf:=c32) (e:=.ret) (s:=T.set (T.set (T.set (T.set .leaf [] a.v) [zF] (G m)) [zT] (G n)) [zF,zF] (G k)) (by decide) rfl (hJ _ _) rfl rfl rfl (by simp) ?_
 refine Tr.post (Q:=(fun s h => s.get [zT,zF,zF] = .nils ∧ s.get [zF,zT,zF] = G 5)) (fun s h q => by simp [c32,q]) ?_
 clear lf lm os oH o l62
 refine Tr.w fun s1 H1 hp _ kR => ?_
 obtain ⟨rfl,rfl⟩:=hp
 have q : True:=trivial
 refine zCh ?_
 simp (disch:=first|omega|exact zE rfl|exact zO|exact zL rfl) [c32_o0,size_mk,get_mk_lt,get_mk_ge,frameOf,Eff.app,Heap.setOwn,q,hHs]
 refine W.assoc ?_
 refine zCh ?_
 simp (disch:=omega) [c32_o1,zG,q,k1,k2,k3,gS]
 refine zCh ?_
 simp (disch:=first|omega|exact zE rfl|exact zO|exact zL rfl) [c32_o2,size_mk,get_mk_lt,get_mk_ge,frameOf,Eff.app,Heap.setOwn,q]
 refine zCh ?_
 simp (disch:=omega) [c32_o3,zG,q,gS,e61,app_if,app_if',hZ]
 refine zCh ?_
 simp (disch:=omega) [c32_o4,zG,q,e62]
 refine W.assoc ?_
 refine zCh ?_
 simp (disch:=first|omega|exact zE rfl|exact zO|exact zL rfl) [c32_o5,size_mk,get_mk_lt,get_mk_ge,frameOf,Eff.app,Heap.setOwn,q]
 refine zCh ?_
 simp (disch:=first|omega|exact zE rfl|exact zO|exact zL rfl) [c32_o6,size_mk,get_mk_lt,get_mk_ge,frameOf,Eff.app,Heap.setOwn,q]
 exact kR _ _ (by simp [T.get])
theorem c32_n0 (J : CallF) (k57 : KR 57 J) (k60 : K60 J) (k61 : K61 J) (k62 : K62 J) (k63 : K63 J) (hJ : ∀ a h,J 32 a h = none) (h : Heap) (o : OkR a h) (g : a.gd m 0 0 = zT) : CallsTo tbl J 32 [a.v,G m,G 0,G k] h (.tup [.nils,G (if 0 ≤ k ∧ k ≤ 0 then 0 else 2)],[],zF):=by
 unfold AR.gd at g
 simp only [Bool.and_eq_true,decide_eq_true_eq] at g
 obtain ⟨r,n1,n2⟩:=g
 obtain ⟨r1,r2⟩:=a.rm_iff r
 obtain ⟨os,s243,_⟩:=AR.steps_ok r
 obtain ⟨k1,k2⟩:=rs_pre (m:=m) J k57 k60 o
 have k3:=k60 0 0 40 ⟨h.get,h.size,[.cells 0 3 [G a.q,a.x,a.y]]⟩
 rw [r1] at k1
 rw [decide_eq_true r2] at k2
 rw [decide_eq_true ⟨n1,n2⟩] at k3
 obtain ⟨Hs,hHs⟩ : ∃ H,(⟨h.get,h.size,[.cells 0 3 [G a.q,a.x,a.y]]⟩ : Heap) = H:=⟨_,rfl⟩
 rw [hHs] at k1 k2 k3
 have oH : OkR a Hs:=by rw [← hHs]; exact o.lo _
 have gS : Hs.get h.size = .cells 0 3 [G a.q,a.x,a.y]:=by rw [← hHs,get_mk_ge _ _ _ _ (Nat.le_refl _),Nat.sub_self]; rfl
 obtain ⟨p,own,e61,lm⟩:=k61 Hs a.g m.toNat (oH.g r1) (by omega)
 rw [a.gv r1,show ((m.toNat : Nat) : Int) = m by omega] at e61
 obtain ⟨Z,hZ⟩ : ∃ Z,Hs.plus own = Z:=⟨_,rfl⟩
 rw [hZ] at lm
 have lf : LF Z p (a.steps m):=lm.lf
 obtain ⟨v,own2,e62,l62⟩:=k62 Z ⟨p,0,a.steps m⟩ ⟨os,s243,lf,by show 0 ≤ 40; omega⟩
 obtain ⟨x,rfl,tb⟩:=l62.1 rfl
 obtain ⟨Z2,hZ2⟩ : ∃ H,Z.plus own2 = H:=⟨_,rfl⟩
 rw [show (((⟨p,0,a.steps m⟩ : A62).nn : Nat) : Int) = 0 from rfl] at e62
 simp only at e62
 obtain ⟨Z3,hZ3⟩ : ∃ H,Z2.plus [.cells 1 1 [G 1]] = H:=⟨_,rfl⟩
 obtain ⟨Z4,hZ4⟩ : ∃ H,Z3.plus [.cells 1 1 [.slice Z2.size 0 1 1]] = H:=⟨_,rfl⟩
 have g3 : Z3.get Z2.size = .cells 1 1 [G 1]:=by rw [← hZ3]; exact plus_at0 _ _ _ _ rfl
 have g4 : Z4.get Z3.size = .cells 1 1 [.slice Z2.size 0 1 1]:=by rw [← hZ4]; exact plus_at0 _ _ _ _ rfl
 have k34 : Kp (fun _ => False) Z3 Z4:=by rw [← hZ4]; exact Kp.plus _ _
 have f63:=k63 Z4 (.slice Z2.size 0 1 1) [1] (.inr ⟨_,_,rfl,k34.at g3 (by simp) id⟩) (by simp) (by simp)
 rw [show tot [1] = .tup [G 1,.bool zT] from rfl] at f63
 have k4:=k60 k 0 0 Z4
 refine Tr.fnv (cf:=c32) (e:=.ret) (s:=T.set (T.set (T.set (T.set .leaf [] a.v) [zF] (G m)) [zT] (G 0)) [zF,zF] (G k)) (by decide) rfl (hJ _ _) rfl rfl rfl (by simp) ?_
 refine Tr.post (Q:=(fun s h => s.get [zT,zF,zF] = .nils ∧ s.get [zF,zT,zF] = G (if 0 ≤ k ∧ k ≤ 0 then 0 else 2))) (fun s h q => by simp [c32,q]) ?_
 clear lf lm os oH o l62 tb k34
 by_cases hk : 0 ≤ k ∧ k ≤ 0
 ·rw [if_pos hk]
  rw [decide_eq_true hk] at k4
  have l1 : Tr tbl J c32_l1 (fun s h => h = Z4 ∧ s.get [zF,zF] = G k ∧ s.get [zT,zT,zF] = .ptr p 0 3 ∧ s.get [zF,zF,zT] = .slice Z3.size 0 1 1 ∧ s.get [zF,zF,zF,zF] = .nils ∧ s.get [zT,zF,zF,zF] = G (-1) ∧ s.get [zF,zT,zF,zF] = G (-1)) (.exit 0) (fun s h => h = Z4 ∧ s.get [zF,zF,zF,zF] = .nils):=by
   refine Tr.out ?_ (by simp)
   refine Tr.w fun s1 H1 hp _ kR => W.trim ?_
   obtain ⟨rfl,q⟩:=hp
   refine W.assoc ?_
   refine zCh ?_
   simp (disch:=omega) [c32_o15,zG,q]
   refine zCh ?_
   simp (disch:=omega) [zG,q]
   exact kR _ _ (by simp [T.get,q])
  refine Tr.w fun s1 H1 hp _ kR => ?_
  obtain ⟨rfl,rfl⟩:=hp
  have q : True:=trivial
  refine zCh ?_
  simp (disch:=first|omega|exact zE rfl|exact zO|exact zL rfl) [c32_o0,size_mk,get_mk_lt,get_mk_ge,frameOf,Eff.app,Heap.setOwn,q,hHs]
  refine W.assoc ?_
  refine zCh ?_
  simp (disch:=omega) [c32_o1,zG,q,k1,k2,k3,gS]
  refine zCh ?_
  simp (disch:=omega) [c32_o2,zG,q]
  refine zCh ?_
  simp (disch:=omega) [c32_o3,zG,q,gS,e61,app_if,app_if',hZ]
  refine zCh ?_
  simp (disch:=omega) [c32_o4,zG,q,e62,app_if,app_if',hZ2]
  refine W.assoc ?_
  refine zCh ?_
  simp (disch:=omega) [c32_o5,zG,q]
  refine zCh ?_
  simp (disch:=omega) [c32_o6,zG,q]
  refine W.assoc ?_
  refine zCh ?_
  simp (disch:=omega) [c32_o7,zG,q]
  refine zCh ?_
  simp (disch:=omega) [c32_o8,zG,q,hZ3,hZ4]
  refine W.assoc ?_
  refine zCh ?_
  simp (disch:=omega) [c32_o9,zG,q,g4,f63]
  refine W.assoc ?_
  refine zCh ?_
  simp (disch:=omega) [c32_o10,zG,q,k4]
  refine zCh ?_
  simp (disch:=omega) [c32_o11,zG,q]
  refine zCh ?_
  simp (disch:=omega) [c32_o12,zG,q]
  refine zCh ?_
  simp (disch:=omega) [c32_o13,zG,q]
  refine W.assoc ?_
  refine zCh ?_
  simp (disch:=omega) [c32_o14,zG,q]
  refine W.seq (W.block ?_)
  refine W.use (l1) (by simp (disch:=omega) [zG,q]) fun s1 H1 hp => ?_
  obtain ⟨rfl,q⟩:=hp
  try simp only [zW,if_true]
  refine zCh ?_
  simp (disch:=omega) [c32_o26,zG,q]
  refine W.ret ?_
  try simp only [zW,if_true]
  exact kR _ _ (by simp [T.get,q])
 ·rw [if_neg hk]
  rw [decide_eq_false hk] at k4
  refine Tr.w fun s1 H1 hp _ kR => ?_
  obtain ⟨rfl,rfl⟩:=hp
  have q : True:=trivial
  refine zCh ?_
  simp (disch:=first|omega|exact zE rfl|exact zO|exact zL rfl) [c32_o0,size_mk,get_mk_lt,get_mk_ge,frameOf,Eff.app,Heap.setOwn,q,hHs]
  refine W.assoc ?_
  refine zCh ?_
  simp (disch:=omega) [c32_o1,zG,q,k1,k2,k3,gS]
  refine zCh ?_
  simp (disch:=omega) [c32_o2,zG,q]
  refine zCh ?_
  simp (disch:=omega) [c32_o3,zG,q,gS,e61,app_if,app_if',hZ]
  refine zCh ?_
  simp (disch:=omega) [c32_o4,zG,q,e62,app_if,app_if',hZ2]
  refine W.assoc ?_
  refine zCh ?_
  simp (disch:=omega) [c32_o5,zG,q]
  refine zCh ?_
  simp (disch:=omega) [c32_o6,zG,q]
  refine W.assoc ?_
  refine zCh ?_
  simp (disch:=omega) [c32_o7,zG,q]
  refine zCh ?_
  simp (disch:=omega) [c32_o8,zG,q,hZ3,hZ4]
  refine W.assoc ?_
  refine zCh ?_
  simp (disch:=omega) [c32_o9,zG,q,g4,f63]
  refine W.assoc ?_
  refine zCh ?_
  simp (disch:=omega) [c32_o10,zG,q,k4]
  refine zCh ?_
  simp (disch:=omega) [c32_o11,zG,q]
  exact kR _ _ (by simp [T.get])
theorem c32_2 (J : CallF) (k57 : KR 57 J) (k60 : K60 J) (k61 : K61 J) (k62 : K62 J) (k63 : K63 J) (k70 : K70 J) (hJ : ∀ a h,J 32 a h = none) (h : Heap) (o : OkR a h) {N : Nat} (g : a.gd m (N + 1 : Nat) 0 = zT) (hc : okC (a.steps m) (N + 1) = zT) :
  (¬ (0 ≤ k ∧ k < (rowC (a.steps m) N).sum) → CallsTo tbl J 32 [a.v,G m,G (N + 1 : Nat),G k] h (.tup [.nils,G 2],[],zF)) ∧
  (0 ≤ k ∧ k < (rowC (a.steps m) N).sum → ∃ v own,CallsTo tbl J 32 [a.v,G m,G (N + 1 : Nat),G k] h (v,own,zF) ∧ ∃ x,v = .tup [x,G 0] ∧ RV (h.plus own) x (wsL (a.itR m (N + 1) k.toNat))):=by
 unfold AR.gd at g
 simp only [Bool.and_eq_true,decide_eq_true_eq] at g
 obtain ⟨r,n1,n2⟩:=g
 obtain ⟨r1,r2⟩:=a.rm_iff r
 obtain ⟨os,s243,sr⟩:=AR.steps_ok r
 obtain ⟨k1,k2⟩:=rs_pre (m:=m) J k57 k60 o
 have k3:=k60 (N + 1 : Nat) 0 40 ⟨h.get,h.size,[.cells 0 3 [G a.q,a.x,a.y]]⟩
 rw [r1] at k1
 rw [decide_eq_true r2] at k2
 rw [decide_eq_true ⟨n1,n2⟩] at k3
 obtain ⟨Hs,hHs⟩ : ∃ H,(⟨h.get,h.size,[.cells 0 3 [G a.q,a.x,a.y]]⟩ : Heap) = H:=⟨_,rfl⟩
 have kHs : Kp (fun _ => False) (frameOf h) Hs:=by rw [← hHs]; exact Kp.plus (frameOf h) [.cells 0 3 [G a.q,a.x,a.y]]
 rw [hHs] at k1 k2 k3
 have oH : OkR a Hs:=by rw [← hHs]; exact o.lo _
 have gS : Hs.get h.size = .cells 0 3 [G a.q,a.x,a.y]:=by rw [← hHs,get_mk_ge _ _ _ _ (Nat.le_refl _),Nat.sub_self]; rfl
 obtain ⟨p,own,e61,lm⟩:=k61 Hs a.g m.toNat (oH.g r1) (by omega)
 rw [a.gv r1,show ((m.toNat : Nat) : Int) = m by omega] at e61
 obtain ⟨Z,hZ⟩ : ∃ Z,Hs.plus own = Z:=⟨_,rfl⟩
 have kZ : Kp (fun _ => False) Hs Z:=by rw [← hZ]; exact Kp.plus _ _
 rw [hZ] at lm
 have lf : LF Z p (a.steps m):=lm.lf
 obtain ⟨v,own2,e62,l62⟩:=k62 Z ⟨p,N + 1,a.steps m⟩ ⟨os,s243,lf,by show N + 1 ≤ 40; omega⟩
 simp only at e62
 obtain ⟨x,rfl,tb⟩:=l62.1 hc
 obtain ⟨Z2,hZ2⟩ : ∃ H,Z.plus own2 = H:=⟨_,rfl⟩
 have kZ2 : Kp (fun _ => False) Z Z2:=by rw [← hZ2]; exact Kp.plus _ _
 rw [hZ2] at tb
 simp only at tb
 obtain ⟨bo,ros,rfl,e2,e3,e4⟩:=tb.sl (i:=0) (by rw [rowsC_len]; omega)
 rw [rowsC_len] at e2 e3 e62
 have tbl' : ∀ j,j < N + 1 → ∃ br,ros[j]? = some (.slice br 0 (a.steps m).length (a.steps m).length) ∧ Z2.get br = .cells 1 (a.steps m).length (gn (rowC (a.steps m) j)):=fun j hj => by
  obtain ⟨br,e5,e6⟩:=e4 j _ (rowsC_at _ hj)
  rw [gn_len,rowC_len] at e5 e6
  exact ⟨br,e5,e6⟩
 obtain ⟨br,e5,e6⟩:=tbl' N (by omega)
 have e5':=getI e5
 have okk:=okC_iff.1 hc N (by omega)
 have f63:=k63 Z2 (.slice br 0 (a.steps m).length (a.steps m).length) (rowC (a.steps m) N) (.inr ⟨br,_,by rw [gn_len,rowC_len],e6⟩) (by rw [rowC_len]; omega) (row_le (lvlB_of okk))
 unfold tot at f63
 rw [if_pos okk] at f63
 have k4:=k60 k 0 (((rowC (a.steps m) N).sum : Int) - 1) Z2
 have nN : ((N + 1 : Nat) : Int) = (N : Int) + 1:=by omega
 constructor
 ·intro hk
  rw [decide_eq_false (by omega)] at k4
  rw [nN] at k3 e62
  rw [nN]
  refine Tr.fnv (cf:=c32) (e:=.ret) (s:=T.set (T.set (T.set (T.set .leaf [] a.v) [zF] (G m)) [zT] (G ((N : Int) + 1))) [zF,zF] (G k)) (by decide) rfl (hJ _ _) rfl rfl rfl (by simp) ?_
  refine Tr.post (Q:=(fun s h => s.get [zT,zF,zF] = .nils ∧ s.get [zF,zT,zF] = G 2)) (fun s h q => by simp [c32,q]) ?_
  clear lf lm os oH o l62 tb e4 e6 hc kHs kZ kZ2 tbl' hk
  generalize (rowC (a.steps m) N).sum = sm at *
  generalize (a.steps m).length = ln at *
  refine Tr.w fun s1 H1 hp _ kR => ?_
  obtain ⟨rfl,rfl⟩:=hp
  have q : True:=trivial
  refine zCh ?_
  simp (disch:=first|omega|exact zE rfl|exact zO|exact zL rfl) [c32_o0,size_mk,get_mk_lt,get_mk_ge,frameOf,Eff.app,Heap.setOwn,q,hHs]
  refine W.assoc ?_
  refine zCh ?_
  simp (disch:=omega) [c32_o1,zG,q,k1,k2,k3,gS]
  refine zCh ?_
  simp (disch:=omega) [c32_o2,zG,q]
  refine zCh ?_
  simp (disch:=omega) [c32_o3,zG,q,gS,e61,app_if,app_if',hZ]
  refine zCh ?_
  simp (disch:=omega) [c32_o4,zG,q,e62,app_if,app_if',hZ2]
  refine W.assoc ?_
  refine zCh ?_
  simp (disch:=omega) [c32_o5,zG,q]
  refine zCh ?_
  simp (disch:=omega) [c32_o6,zG,q]
  refine W.assoc ?_
  refine zCh ?_
  simp (disch:=omega) [c32_o7,zG,q]
  refine zCh ?_
  simp (disch:=omega) [c32_o8,zG,q]
  refine W.assoc ?_
  refine zCh ?_
  simp (disch:=omega) [c32_o9,zG,q,e2,e5,e5',e3,f63]
  refine W.assoc ?_
  refine zCh ?_
  simp (disch:=omega) [c32_o10,zG,q,k4]
  refine zCh ?_
  simp (disch:=omega) [c32_o11,zG,q]
  exact kR _ _ (by simp [T.get])
 ·intro hk
  rw [decide_eq_true (by omega)] at k4
  obtain ⟨K,hK⟩ : ∃ K : Nat,k = K:=⟨k.toNat,by omega⟩
  subst hK
  obtain ⟨x0,mb,nb,rs,f1,rx,_⟩:=lm
  have bd : ∀ j,j < N + 1 → ∀ i,i < (a.steps m).length → cnt (a.steps m) j i ≤ 1152921504606846976:=fun j hj i hi => Nat.le_trans (cnt_le _ j hi) (okC_iff.1 hc j hj)
  have hs : Srt (a.steps m):=srt_st _ _
  have l1:=c32_l1_ok (S:=a.steps m) (R:=a.rows m) (N:=N + 1) (p:=p) J k70 (lf.kp kZ2) (kZ2.at f1 (by simp) id) (rx.kp kZ2 (fun _ _ => id)) sr.symm os hs e2 e3 tbl' (by omega) bd (N + 1) (-1) K .nils [] Z2 (NV.nil Z2) (by simp; omega) (by omega) (.inl rfl) (by omega) (fun j' e => by
   obtain rfl : N = j':=by omega
   show K < ((List.range (a.steps m).length).map (cnt (a.steps m) N)).sum
   have : ((List.range (a.steps m).length).map (cnt (a.steps m) N)).sum = (rowC (a.steps m) N).sum:=rfl
   omega)
  rw [List.nil_append] at l1
  have it : (itm (a.steps m) (N + 1) (nwL (a.steps m) (-1)) K).map (fun c => (a.rows m).getD c []) = a.itR m (N + 1) K:=rfl
  rw [it] at l1
  rw [Int.toNat_natCast]
  have k0:=(kHs.trans kZ).trans kZ2
  rw [nN,show (N : Int) + 1 - 1 = N by omega] at l1
  rw [nN] at k3 e62
  rw [nN]
  refine Tr.fny (cf:=c32) (e:=.ret) (s:=T.set (T.set (T.set (T.set .leaf [] a.v) [zF] (G m)) [zT] (G ((N : Int) + 1))) [zF,zF] (G K)) (by decide) rfl (hJ _ _) rfl rfl (by simp) ?_
  clear lf os oH o l62 tb e4 e6 hc kHs kZ kZ2 tbl' hk bd hs f1 rx it
  generalize a.itR m (N + 1) K = out at *
  generalize (rowC (a.steps m) N).sum = sm at *
  generalize (a.steps m).length = ln at *
  refine Tr.w fun s1 H1 hp _ kR => ?_
  obtain ⟨rfl,rfl⟩:=hp
  have q : True:=trivial
  refine zCh ?_
  simp (disch:=first|omega|exact zE rfl|exact zO|exact zL rfl) [c32_o0,size_mk,get_mk_lt,get_mk_ge,frameOf,Eff.app,Heap.setOwn,q,hHs]
  refine W.assoc ?_
  refine zCh ?_
  simp (disch:=omega) [c32_o1,zG,q,k1,k2,k3,gS]
  refine zCh ?_
  simp (disch:=omega) [c32_o2,zG,q]
  refine zCh ?_
  simp (disch:=omega) [c32_o3,zG,q,gS,e61,app_if,app_if',hZ]
  refine zCh ?_
  simp (disch:=omega) [c32_o4,zG,q,e62,app_if,app_if',hZ2]
  refine W.assoc ?_
  refine zCh ?_
  simp (disch:=omega) [c32_o5,zG,q]
  refine zCh ?_
  simp (disch:=omega) [c32_o6,zG,q]
  refine W.assoc ?_
  refine zCh ?_
  simp (disch:=omega) [c32_o7,zG,q]
  refine zCh ?_
  simp (disch:=omega) [c32_o8,zG,q]
  refine W.assoc ?_
  refine zCh ?_
  simp (disch:=omega) [c32_o9,zG,q,e2,e5,e5',e3,f63]
  refine W.assoc ?_
  refine zCh ?_
  simp (disch:=omega) [c32_o10,zG,q,k4]
  refine zCh ?_
  simp (disch:=omega) [c32_o11,zG,q]
  refine zCh ?_
  simp (disch:=omega) [c32_o12,zG,q]
  refine zCh ?_
  simp (disch:=omega) [c32_o13,zG,q]
  refine W.assoc ?_
  refine zCh ?_
  simp (disch:=omega) [c32_o14,zG,q]
  refine W.seq (W.block ?_)
  refine W.use (l1) (by simp (disch:=omega) [zG,q]) fun s1 H1 hp => ?_
  obtain ⟨z2,nv2,q⟩:=hp
  try simp only [zW,if_true]
  refine zCh ?_
  simp (disch:=omega) [c32_o26,zG,q]
  refine W.ret ?_
  try simp only [zW,if_true]
  refine kR _ _ ?_
  refine ⟨[z2,G 0],by simp [T.get,c32,evRess,evRes,q],z2,rfl,?_⟩
  rw [show (one [z2,G 0]).flat = (one [z2]).flat from by simp [one,AV.flat,AV.flats]]
  exact nv2.rv.fr (k0.trans nv2.k)
end
structure ARk where
 a : AR
 m : Int
 n : Int
 k : Int
def Pre32 (b : ARk) (args : List AV) (h : Heap) : Prop:=OkR b.a h ∧ args = [b.a.v,G b.m,G b.n,G b.k]
def Po32 (b : ARk) (h : Heap) (v : AV) (own : List AObj) : Prop:=Post32 b.a b.m b.n b.k h v own
noncomputable def T50 : CallF:=addK tbl T49 32 Pre32 Po32
theorem t50 : Sound zp T50:=Sound.addK follows ok t49 (by decide) _ _
abbrev K32 (J : CallF) : Prop:=∀ (h : Heap) (a : AR) (m n k : Int),OkR a h → ∃ v own,J 32 [a.v,G m,G n,G k] h = some (v,own,zF) ∧ Post32 a m n k h v own
theorem k57_49 : KR 57 T49:=fun h a o => by
 rw [show T49 57 [.agg [G a.q,a.x,a.y]] h = T10 57 [.agg [G a.q,a.x,a.y]] h from by simp (disch:=decide) only [T11,T12,T13,T14,T15,T16,T17,T18,T19,T20,T21,T22,T23,T24,T25,T26,T27,T28,T29,T30,T31,T32,T33,T34,T35,T36,T37,T38,T39,T40,T41,T42,T43,T44,T45,T46,T47,T48,T49,addI_ne,addX_ne,addV_ne,addK_ne]]; exact k57 h a o
theorem k60_49 : K60 T49:=fun n lo hi h => by
 simp (disch:=decide) only [T1,T2,T3,T4,T5,T6,T7,T8,T9,T10,T11,T12,T13,T14,T15,T16,T17,T18,T19,T20,T21,T22,T23,T24,T25,T26,T27,T28,T29,T30,T31,T32,T33,T34,T35,T36,T37,T38,T39,T40,T41,T42,T43,T44,T45,T46,T47,T48,T49,addI_ne,addX_ne,addV_ne,addK_ne]
 exact k60 n lo hi h
theorem k61_49 : K61 T49:=fun h a m o m5 => by
 obtain ⟨p,own,e,l⟩:=k61 h a m o m5
 exact ⟨p,own,by rw [show T49 61 [a.v,G m] h = T18 61 [a.v,G m] h from by simp (disch:=decide) only [T19,T20,T21,T22,T23,T24,T25,T26,T27,T28,T29,T30,T31,T32,T33,T34,T35,T36,T37,T38,T39,T40,T41,T42,T43,T44,T45,T46,T47,T48,T49,addI_ne,addX_ne,addV_ne,addK_ne]]; exact e,l⟩
theorem k62_49 : K62 T49:=fun h b o => by
 obtain ⟨v,own,e,l⟩:=k62 h b o
 exact ⟨v,own,by rw [show T49 62 [.ptr b.p 0 3,G b.nn] h = T38 62 [.ptr b.p 0 3,G b.nn] h from by simp (disch:=decide) only [T39,T40,T41,T42,T43,T44,T45,T46,T47,T48,T49,addI_ne,addX_ne,addV_ne,addK_ne]]; exact e,l⟩
theorem k63_49 : K63 T49:=fun h x L h1 h2 h3 => by
 rw [show T49 63 [x,G 1152921504606846976] h = T37 63 [x,G 1152921504606846976] h from by simp (disch:=decide) only [T38,T39,T40,T41,T42,T43,T44,T45,T46,T47,T48,T49,addI_ne,addX_ne,addV_ne,addK_ne]]; exact k63 h x L h1 h2 h3
theorem k70_49 : K70 T49:=fun h x v L h1 h2 => by
 rw [show T49 70 [x,G v] h = T43 70 [x,G v] h from by simp (disch:=decide) only [T44,T45,T46,T47,T48,T49,addI_ne,addX_ne,addV_ne,addK_ne]]; exact k70 h x v L h1 h2
theorem k32 : K32 T50:=fun h a m n k o => by
 obtain ⟨v,own,e,l⟩:=addK_some (Pre:=Pre32) (Post:=Po32) (fun b args h hp => by
  obtain ⟨o,rfl⟩:=hp
  obtain ⟨a,m,n,k⟩:=b
  simp only at o ⊢
  unfold Po32 Post32
  simp only
  cases g : a.gd m n 0
  ·exact ⟨_,_,c32_0 T49 k57_49 k60_49 (fun _ _ => by simp (disch:=decide) only [T1,T2,T3,T4,T5,T6,T7,T8,T9,T10,T11,T12,T13,T14,T15,T16,T17,T18,T19,T20,T21,T22,T23,T24,T25,T26,T27,T28,T29,T30,T31,T32,T33,T34,T35,T36,T37,T38,T39,T40,T41,T42,T43,T44,T45,T46,T47,T48,T49,addI_ne,addX_ne,addV_ne,addK_ne]; rfl) h o g,fun _ => ⟨rfl,rfl⟩,fun h => by simp at h,fun h => by simp at h,fun h => by simp at h⟩
  ·have g':=g
   unfold AR.gd at g'
   simp only [Bool.and_eq_true,decide_eq_true_eq] at g'
   cases hc : okC (a.steps m) n.toNat
   ·exact ⟨_,_,c32_1 T49 k57_49 k60_49 k61_49 k62_49 (fun _ _ => by simp (disch:=decide) only [T1,T2,T3,T4,T5,T6,T7,T8,T9,T10,T11,T12,T13,T14,T15,T16,T17,T18,T19,T20,T21,T22,T23,T24,T25,T26,T27,T28,T29,T30,T31,T32,T33,T34,T35,T36,T37,T38,T39,T40,T41,T42,T43,T44,T45,T46,T47,T48,T49,addI_ne,addX_ne,addV_ne,addK_ne]; rfl) h o g hc,fun h => by simp at h,fun _ _ => ⟨rfl,rfl⟩,fun _ h => by simp at h,fun _ h => by simp at h⟩
   ·obtain ⟨N0,hN⟩ : ∃ N : Nat,n = N:=⟨n.toNat,by omega⟩
    subst hN
    rw [Int.toNat_natCast] at hc ⊢
    cases N0 with
    | zero =>
     have e:=c32_n0 (k:=k) T49 k57_49 k60_49 k61_49 k62_49 k63_49 (fun _ _ => by simp (disch:=decide) only [T1,T2,T3,T4,T5,T6,T7,T8,T9,T10,T11,T12,T13,T14,T15,T16,T17,T18,T19,T20,T21,T22,T23,T24,T25,T26,T27,T28,T29,T30,T31,T32,T33,T34,T35,T36,T37,T38,T39,T40,T41,T42,T43,T44,T45,T46,T47,T48,T49,addI_ne,addX_ne,addV_ne,addK_ne]; rfl) h o g
     have cn : a.cn m 0 = 1:=rfl
     rw [cn]
     refine ⟨_,_,e,fun h => by simp at h,fun _ h => by simp at h,fun _ _ hk => ?_,fun _ _ hk => ?_⟩
     ·rw [if_neg (by omega)]; exact ⟨rfl,rfl⟩
     ·rw [if_pos (by omega)]; exact ⟨_,rfl,.inl ⟨rfl,rfl⟩⟩
    | succ N =>
     have e:=c32_2 (k:=k) T49 k57_49 k60_49 k61_49 k62_49 k63_49 k70_49 (fun _ _ => by simp (disch:=decide) only [T1,T2,T3,T4,T5,T6,T7,T8,T9,T10,T11,T12,T13,T14,T15,T16,T17,T18,T19,T20,T21,T22,T23,T24,T25,T26,T27,T28,T29,T30,T31,T32,T33,T34,T35,T36,T37,T38,T39,T40,T41,T42,T43,T44,T45,T46,T47,T48,T49,addI_ne,addX_ne,addV_ne,addK_ne]; rfl) h o g hc
     have cn : a.cn m (N + 1) = (rowC (a.steps m) N).sum:=by
      unfold AR.cn
      rw [if_neg (by omega),Nat.add_sub_cancel]
     rw [cn]
     by_cases hk : 0 ≤ k ∧ k < ((rowC (a.steps m) N).sum : Nat)
     ·obtain ⟨v,own,e,l⟩:=e.2 hk
      exact ⟨v,own,e,fun h => by simp at h,fun _ h => by simp at h,fun _ _ h => absurd hk h,fun _ _ _ => l⟩
     ·exact ⟨_,_,e.1 hk,fun h => by simp at h,fun _ h => by simp at h,fun _ _ _ => ⟨rfl,rfl⟩,fun _ _ h => absurd h hk⟩) ⟨a,m,n,k⟩ _ h ⟨o,rfl⟩
 exact ⟨v,own,e,l⟩
section
variable {S R : List (List Nat)} {p N : Nat}
theorem gn_range (i : Nat) : gn (List.range (i + 1)) = gn (List.range i) ++ [G i]:=by simp [gn,List.range_succ]
end
structure ARq where
 a : AR
 m : Int
 n : Int
 k : Nat
def Pre34 (b : ARq) (args : List AV) (h : Heap) : Prop:=(OkR b.a h ∧ b.a.gd b.m b.n 0 = zT ∧ okC (b.a.steps b.m) b.n.toNat = zT ∧ b.k < b.a.cn b.m b.n.toNat) ∧ args = [b.a.v,G b.m,G b.n,G b.k]
def Post34 (b : ARq) (h : Heap) (v : AV) (own : List AObj) : Prop:=RV (h.plus own) v (wsL (b.a.itR b.m b.n.toNat b.k))
noncomputable def T51 : CallF:=addK tbl T50 34 Pre34 Post34
theorem t51 : Sound zp T51:=Sound.addK follows ok t50 (by decide) _ _
section
variable {nq m nn k : Int} {X Y : List (List Int)}
end
section
variable {S : List (List Nat)} {p bM bm bL bF : Nat}
theorem LS.ex (os : OkS S) : ∃ z,LS S z:=by
 by_cases c : ∃ i,i < S.length ∧ al S S.length i = zT
 ·exact ⟨-1,.inl ⟨rfl,c⟩⟩
 ·have : ∀ L : List Nat,(∀ i ∈ L,i < S.length) → ∃ m,MX S L.reverse m:=fun L => by
   induction L with
   | nil => exact fun _ => ⟨0,MX.nil⟩
   | cons i L ih =>
    intro h
    obtain ⟨m,hm⟩:=ih fun j hj => h j (by simp [hj])
    have hi : al S S.length i = zF:=by
     cases e : al S S.length i
     ·rfl
     ·exact absurd ⟨i,h i (by simp),e⟩ c
    obtain ⟨z,hz⟩:=LG.ex hi
    exact ⟨max m z,by rw [List.reverse_cons]; exact hm.snoc hz⟩
  obtain ⟨m,hm⟩:=this (List.range S.length).reverse fun i hi => List.mem_range.1 (List.mem_reverse.1 hi)
  rw [List.reverse_reverse] at hm
  exact ⟨m,hm.ls⟩
open Classical in
noncomputable def lsV (S : List (List Nat)) : Int:=if h : ∃ z,LS S z then Classical.choose h else 0
end
noncomputable def AR.lgV (a : AR) (m : Int) : AV:=if a.rm m then .tup [G (lsV (a.steps m)),G 0] else .tup [G 0,G 2]
section
variable {a : AR} {m : Int}
end
def Post35 (b : ARm) (h : Heap) (v : AV) (own : List AObj) : Prop:=v = b.a.lgV b.m ∧ own = []
noncomputable def T52 : CallF:=addK tbl T51 35 PreRm Post35
theorem t52 : Sound zp T52:=Sound.addK follows ok t51 (by decide) _ _
theorem W.loop {tbl : Nat → Option CFunc} {I : CallF} {live : List Path} {c : CCode} {s : T} {h : Heap} {Q : PQ} (x : W tbl I (.trim live c) s h (thenW tbl I (.loop live c) Q)) : W tbl I (.loop live c) s h Q:=by
 obtain ⟨e,s1,h1,⟨n,r⟩,q⟩:=x
 cases e with
 | normal =>
  obtain ⟨e2,s2,h2,r2,q2⟩:=q
  exact ⟨e2,s2,h2,Runs.loop_next ⟨n,r⟩ r2,q2⟩
 | exit i => exact ⟨_,s1,h1,Runs.loop_out ⟨n,r⟩ (by simp),q⟩
 | ret => exact ⟨_,s1,h1,Runs.loop_out ⟨n,r⟩ (by simp),q⟩
theorem gD_some {L : List Nat} {t : Nat} (h : t < L.length) : L[t]? = some (L.getD t 0):=by
 rw [zd,zq h]; rfl
theorem gn_app (L : List Nat) (c : Nat) : gn (L ++ [c]) = gn L ++ [G c]:=by simp [gn]
section
variable {S : List (List Nat)} {p f : Nat}
structure RM (h0 : Heap) (E : List (Nat × Int)) (xq : AV) (U : List Nat) (h : Heap) : Prop where
 kf : Kp (fun _ => False) (frameOf h0) h
 gm : h.get h0.size = .map (mv E)
 lq : ∃ b,xq = .slice b 0 U.length U.length ∧ h.get b = .cells 1 U.length (gn U) ∧ h0.size < b
theorem frS (h : Heap) : (frameOf h).size = h.size:=by simp [frameOf,Heap.size]
theorem RM.put {h0 h : Heap} {E : List (Nat × Int)} {xq : AV} {U : List Nat} (r : RM h0 E xq U h) (c : Nat) (z : Int) : ∃ H,Eff.app (.mput h0.size (mv (pm c z E))) h = some H ∧ RM h0 (pm c z E) xq U H:=by
 have hN : h.N = h0.size:=r.kf.N
 have blt:=get_lt r.gm (by simp)
 refine ⟨_,mput_gen h h0.size _ _ (by omega) r.gm,r.kf.updn _ _ (by omega) (by rw [frS]; omega),upd_same _ _ _ (by omega) blt,?_⟩
 obtain ⟨b,e1,e2,e3⟩:=r.lq
 exact ⟨b,e1,by rw [upd_ne _ _ _ _ (by omega) (by omega)]; exact e2,e3⟩
theorem RM.push {h0 h : Heap} {E : List (Nat × Int)} {xq : AV} {U : List Nat} (k0 : Nat) (r : RM h0 E xq U h) (c : Nat) (hn : U.length ≤ 1000) :
  ∃ x1 e H,appA (h.plus [.cells 1 1 [G c]]) k0 none 1 8 1 [G c] xq = some (x1,e) ∧ Eff.app e (h.plus [.cells 1 1 [G c]]) = some H ∧ RM h0 E x1 (U ++ [c]) H:=by
 have hN : h.N = h0.size:=r.kf.N
 obtain ⟨b,rfl,e2,e3⟩:=r.lq
 have g2:=plus_keep [.cells 1 1 [G (c : Int)]] e2 (by simp)
 have hN' : (h.plus [.cells 1 1 [G (c : Int)]]).N ≤ b:=by rw [plus_N]; omega
 have x:=ext_gen (h.plus [.cells 1 1 [G (c : Int)]]) b U.length 1 (gn U) [G c] hN' g2 (gn_len U)
 have blt:=get_lt e2 (by simp)
 refine ⟨.slice b 0 (U.length + 1) (U.length + 1),.ext b U.length 1 [G c],_,?_,x,(r.kf.trans (Kp.plus _ _)).updn _ _ hN' (by rw [frS]; omega),?_,b,by simp,?_,e3⟩
 ·simp only [appA,Nat.mul_one,Nat.one_mul]
  rw [if_neg (by decide),if_pos ⟨trivial,by simp,by omega⟩]
 ·rw [upd_ne _ _ _ _ hN' (by omega)]; exact plus_keep _ r.gm (by simp)
 ·rw [upd_same _ _ _ hN' (by rw [plus_size]; omega),gn_app]
  simp [gn_len]
structure RB7 (S : List (List Nat)) (f : Nat) (h0 : Heap) (k t : Nat) (E : List (Nat × Int)) (xq : AV) (U : List Nat) (d : Nat → Nat) (h : Heap) : Prop where
 bq : BQ S f d U k t
 nf : NF S f U k t
 pr : PRT S f d U E
 rm : RM h0 E xq U h
end
section
variable {S : List (List Nat)} {p f : Nat}
def OR (S : List (List Nat)) (p f : Nat) (h0 : Heap) (k : Nat) : SP:=fun s h => ∃ E xq U d,RB7 S f h0 k 0 E xq U d h ∧ k ≤ U.length ∧ s.get [] = .ptr p 0 3 ∧ s.get [zF] = G f ∧ s.get [zF,zT] = .map h0.size ∧ s.get [zT,zT] = xq ∧ s.get [zF,zF,zF] = G k
def Post74 (S : List (List Nat)) (f : Nat) (h : Heap) (v : AV) (own : List AObj) : Prop:=((∀ s,¬ Rw S (s + 1) f f) → v = .nils ∧ own = []) ∧ ((∃ s,Rw S (s + 1) f f) → ∃ L m,CY S f m ∧ RG S L ∧ L.length = m + 1 ∧ RV (h.plus own) v (gn L))
end
structure A74 where
 p : Nat
 f : Nat
 S : List (List Nat)
def Ok74 (b : A74) (h : Heap) : Prop:=OkS b.S ∧ LF h b.p b.S ∧ b.f < b.S.length
def Pre74 (b : A74) (args : List AV) (h : Heap) : Prop:=Ok74 b h ∧ args = [.ptr b.p 0 3,G b.f]
def Po74 (b : A74) (h : Heap) (v : AV) (own : List AObj) : Prop:=Post74 b.S b.f h v own
noncomputable def T53 : CallF:=addK tbl T52 74 Pre74 Po74
theorem t53 : Sound zp T53:=Sound.addK follows ok t52 (by decide) _ _
section
variable {S R : List (List Nat)} {p : Nat}
theorem MC.le {n m : Nat} (h : MC S n m) (os : OkS S) (hn : n ≤ S.length) : m ≤ S.length:=by
 rcases h with ⟨rfl,_⟩ | ⟨r,rfl,⟨f,h1,h2⟩,h3⟩
 ·omega
 ·have hf : f < S.length:=by omega
  apply Decidable.byContradiction
  intro c
  have key : ∃ g : Nat → Nat,g 0 = f ∧ ∀ t,t < r + 1 → Rw S t f (g t) ∧ g t < S.length ∧ Rw S (r + 1 - t) (g t) f:=by
   have gen : ∀ k i,Rw S k i f → ∃ g : Nat → Nat,g 0 = i ∧ ∀ t,t ≤ k → Rw S t i (g t) ∧ Rw S (k - t) (g t) f:=fun k => by
    induction k with
    | zero =>
     intro i w
     exact ⟨fun _ => i,rfl,fun t ht => by
      obtain rfl : t = 0:=by omega
      exact ⟨rfl,w⟩⟩
    | succ k ih =>
     intro i w
     obtain ⟨c,c1,c2⟩:=id w
     obtain ⟨g,g1,g2⟩:=ih c c2
     refine ⟨fun t => if t = 0 then i else g (t - 1),rfl,fun t ht => ?_⟩
     cases t with
     | zero => exact ⟨rfl,w⟩
     | succ t =>
      obtain ⟨a1,a2⟩:=g2 t (by omega)
      show Rw S (t + 1) i (g t) ∧ Rw S (k + 1 - (t + 1)) (g t) f
      rw [show k + 1 - (t + 1) = k - t by omega]
      exact ⟨⟨c,c1,a1⟩,a2⟩
   obtain ⟨g,g1,g2⟩:=gen (r + 1) f h2
   exact ⟨g,g1,fun t ht => ⟨(g2 t (by omega)).1,(g2 t (by omega)).1.lt os.lt hf,(g2 t (by omega)).2⟩⟩
  obtain ⟨g,g1,g2⟩:=key
  obtain ⟨a,b,ab,bn,e⟩:=pigeon S.length g (fun t ht => (g2 t (by omega)).2.1)
  have w1:=(g2 a (by omega)).1
  have w2:=(g2 b (by omega)).2.2
  rw [← e] at w2
  have w3:=w1.add w2
  rw [show a + (r + 1 - b) = (a + (r - b)) + 1 by omega] at w3
  have:=h3 f (a + (r - b)) h1 w3
  omega
def rT2 (R : List (List Nat)) (L : List Nat) : List (List Nat):=L.map fun c => R.getD c []
end
def Post36 (a : AR) (m : Int) (h : Heap) (v : AV) (own : List AObj) : Prop :=
 (a.rm m = zF → v = .tup [.nils,G 2] ∧ own = []) ∧
 (a.rm m = zT → MC (a.steps m) (a.steps m).length 0 → v = .tup [.nils,G 6] ∧ own = []) ∧
 (a.rm m = zT → ¬ MC (a.steps m) (a.steps m).length 0 → ∃ x L,v = .tup [x,G 0] ∧ L ≠ [] ∧ MC (a.steps m) (a.steps m).length L.length ∧ RG (a.steps m) L ∧ RV (h.plus own) x (wsL (rT2 (a.rows m) L)))
section
variable {a : AR} {m : Int}
end
def Po36 (b : ARm) (h : Heap) (v : AV) (own : List AObj) : Prop:=Post36 b.a b.m h v own
noncomputable def T54 : CallF:=addK tbl T53 36 PreRm Po36
theorem t54 : Sound zp T54:=Sound.addK follows ok t53 (by decide) _ _
def bb (p : Nat → Bool) (n : Nat) : List AV:=(List.range n).map fun i => .bool (p i)
theorem bb_len (p : Nat → Bool) (n : Nat) : (bb p n).length = n:=by simp [bb]
theorem bb_at (p : Nat → Bool) {n i : Nat} (h : i < n) : (bb p n)[i]? = some (.bool (p i)):=by
 unfold bb
 rw [List.getElem?_map,List.getElem?_range h]; rfl
theorem bb_ext {p r : Nat → Bool} {n : Nat} (h : ∀ t,t < n → p t = r t) : bb p n = bb r n:=by
 unfold bb
 apply List.map_congr_left
 intro t ht
 rw [h t (List.mem_range.1 ht)]
theorem bb_set (p : Nat → Bool) {n i : Nat} (h : i < n) (v : Bool) : (bb p n).set i (.bool v) = bb (fun t => if t = i then v else p t) n:=by
 apply List.ext_getElem?
 intro j
 by_cases hj : j < n
 ·rw [bb_at _ hj]
  by_cases e : i = j
  ·subst e
   rw [List.getElem?_set_self (by rw [bb_len]; exact h),if_pos rfl]
  ·rw [List.getElem?_set_ne e,bb_at _ hj,if_neg (fun h => e h.symm)]
 ·rw [List.getElem?_eq_none (by rw [List.length_set,bb_len]; omega),List.getElem?_eq_none (by rw [bb_len]; omega)]
structure BB (Hk h : Heap) (b n : Nat) (p : Nat → Bool) : Prop where
 kp : Kp (fun _ => False) Hk h
 g : h.get b = .cells 1 n (bb p n)
theorem BB.put {Hk h : Heap} {b n : Nat} {p : Nat → Bool} (t : BB Hk h b n p) (hb : Hk.size ≤ b) (hN : Hk.N ≤ b) {i : Nat} (hi : i < n) (v : Bool) : ∃ H,Eff.app (.put b n i [.bool v]) h = some H ∧ BB Hk H b n (fun t => if t = i then v else p t):=by
 have hNh : h.N ≤ b:=by rw [t.kp.N]; exact hN
 refine ⟨_,put_gen h b n i 1 _ _ hNh t.g (by rw [bb_len]; show i + 1 ≤ n; omega),t.kp.updn b _ hNh hb,?_⟩
 rw [upd_same _ _ _ hNh (get_lt t.g (by simp))]
 simp only [putAt]
 rw [bb_set _ hi]
theorem BB.ext {Hk h : Heap} {b n : Nat} {p r : Nat → Bool} (t : BB Hk h b n p) (e : ∀ u,u < n → p u = r u) : BB Hk h b n r:=⟨t.kp,by rw [← bb_ext e]; exact t.g⟩
section
variable {S : List (List Nat)}
def nq (S : List (List Nat)) (p : Nat → Bool) (i t u : Nat) : Bool:=if u < i then (S.getD u []).any p else if u = i then ((S.getD i []).take t).any p else zF
end
section
variable {S : List (List Nat)}
end
section
variable {a : AR} {m : Int}
end
def Pre37 (b : ARm) (args : List AV) (h : Heap) : Prop:=(OkR b.a h ∧ b.a.rm b.m = zT) ∧ args = [b.a.v,G b.m]
def Post37 (b : ARm) (h : Heap) (v : AV) (own : List AObj) : Prop:=v = G (lsV (b.a.steps b.m)) ∧ own = []
noncomputable def T55 : CallF:=addK tbl T54 37 Pre37 Post37
theorem t55 : Sound zp T55:=Sound.addK follows ok t54 (by decide) _ _
end Go.Proofs.Ytljgfdamdcikgaa.Ev
set_option linter.unusedVariables false
set_option linter.unusedSimpArgs false
namespace Go.Proofs.Ytljgfdamdcikgaa.Ev
open Go Go.AEv
section
variable {S : List (List Nat)} {f k t u : Nat} {d : Nat → Nat} {U : List Nat}
theorem cy_ex : (∃ s,Rw S (s + 1) f f) → ∃ m,CY S f m:=by
 rintro ⟨s,w⟩
 induction s using Nat.strongRecOn with
 | _ s ih =>
  by_cases c : ∃ r,r < s ∧ Rw S (r + 1) f f
  ·obtain ⟨r,h1,h2⟩:=c
   exact ih r h1 h2
  ·refine ⟨s,w,fun r hr => ?_⟩
   apply Decidable.byContradiction
   intro h
   exact c ⟨r,by omega,hr⟩
structure O8 (S : List (List Nat)) (f : Nat) (d : Nat → Nat) (U : List Nat) (k t M o : Nat) : Prop where
 v : o = M ∨ ∃ i,i ∈ U ∧ o = d i + 1 ∧ f ∈ S.getD i []
 c : ∀ (j i : Nat),j < k → U[j]? = some i → f ∈ S.getD i [] → o ≠ 0 ∧ o ≤ d i + 1
 n : ∀ i,U[k]? = some i → f ∈ (S.getD i []).take t → o ≠ 0 ∧ o ≤ d i + 1
 m : M ≠ 0 → o ≠ 0 ∧ o ≤ M
theorem O8.skip {M o c : Nat} (l : O8 S f d U k t M o) (hu : U[k]? = some u) (hc : (S.getD u [])[t]? = some c) (hn : c ≠ f) : O8 S f d U k (t + 1) M o :=
 ⟨l.v,l.c,fun i hi h => by
  rw [hu] at hi; cases hi
  rw [take_s hc] at h
  rcases List.mem_append.1 h with a | a
  ·exact l.n u hu a
  ·exact absurd (List.mem_singleton.1 a).symm hn,l.m⟩
theorem O8.push {M o c : Nat} (l : O8 S f d U k t M o) (hk : k < U.length) (hc : c ∉ U) (w : Nat) : O8 S f (fun z => if z = c then w else d z) (U ++ [c]) k t M o:=by
 have old : ∀ z,z ∈ U → (if z = c then w else d z) = d z:=fun z hz => if_neg fun e => hc (by rw [← e]; exact hz)
 have mem : ∀ {j z : Nat},U[j]? = some z → z ∈ U:=fun h => List.mem_iff_getElem?.2 ⟨_,h⟩
 refine ⟨?_,fun j i hj hi hf => ?_,fun i hi hf => ?_,l.m⟩
 ·rcases l.v with h | ⟨i,h1,h2,h3⟩
  ·exact .inl h
  ·refine .inr ⟨i,List.mem_append_left _ h1,?_,h3⟩
   show o = (if i = c then w else d i) + 1
   rw [old i h1]; exact h2
 ·rw [List.getElem?_append_left (by omega)] at hi
  show o ≠ 0 ∧ o ≤ (if i = c then w else d i) + 1
  rw [old i (mem hi)]
  exact l.c j i hj hi hf
 ·rw [List.getElem?_append_left hk] at hi
  show o ≠ 0 ∧ o ≤ (if i = c then w else d i) + 1
  rw [old i (mem hi)]
  exact l.n i hi hf
theorem O8.next {M o : Nat} (l : O8 S f d U k t M o) (hu : U[k]? = some u) (ht : t = (S.getD u []).length) : O8 S f d U (k + 1) 0 M o :=
 ⟨l.v,fun j i hj hi hf => by
  by_cases e : j = k
  ·subst e
   rw [hu] at hi; cases hi
   exact l.n u hu (by rw [ht,List.take_length]; exact hf)
  ·exact l.c j i (by omega) hi hf,fun i _ h => by simp at h,l.m⟩
theorem BQ.key (b : BQ S f d U U.length 0) : ∀ r z,Rw S r f z → z ∈ U ∧ d z ≤ r:=fun r => by
 induction r with
 | zero =>
  intro z hz
  have e : f = z:=hz
  rw [← e]; exact ⟨b.fQ,by rw [b.f0]; exact Nat.le_refl _⟩
 | succ r ih =>
  intro z hz
  obtain ⟨y,h1,h2⟩:=hz.last
  obtain ⟨h3,h4⟩:=ih y h1
  obtain ⟨j,hj⟩:=List.mem_iff_getElem?.1 h3
  have hjl:=(List.getElem?_eq_some_iff.1 hj).1
  obtain ⟨h5,h6⟩:=b.ch j y hjl hj z h2
  exact ⟨h5,by omega⟩
theorem O8.done {M o : Nat} (b : BQ S f d U U.length 0) (l : O8 S f d U U.length 0 M o) (mc : MC S f M) : MC S (f + 1) o:=by
 by_cases c : ∃ s,Rw S (s + 1) f f
 ·obtain ⟨m,cy⟩:=cy_ex c
  have:=mc.put cy
  obtain ⟨y,h1,h2⟩:=cy.1.last
  obtain ⟨h3,h4⟩:=b.key m y h1
  obtain ⟨j,hj⟩:=List.mem_iff_getElem?.1 h3
  have h5:=l.c j y (List.getElem?_eq_some_iff.1 hj).1 hj h2
  have h6:=l.m
  have e : (if M = 0 ∨ m + 1 < M then m + 1 else M) = o:=by
   rcases l.v with h | ⟨i,a1,a2,a3⟩
   ·rw [if_neg (by omega)]; exact h.symm
   ·have:=cy.2 _ ((b.wk i a1).snoc a3)
    by_cases c2 : M = 0 ∨ m + 1 < M
    ·rw [if_pos c2]; omega
    ·rw [if_neg c2]
     have:=h6 (by omega)
     omega
  rw [e] at this
  exact this
 ·have nc : ∀ s,¬ Rw S (s + 1) f f:=fun s w => c ⟨s,w⟩
  rcases l.v with h | ⟨i,a1,a2,a3⟩
  ·rw [h]; exact mc.skip nc
  ·exact absurd ((b.wk i a1).snoc a3) (nc _)
end
end Go.Proofs.Ytljgfdamdcikgaa.Ev
set_option linter.unusedVariables false
set_option linter.unusedSimpArgs false
namespace Go.Proofs.Ytljgfdamdcikgaa.Ev
open Go Go.AEv
attribute [local simp] evFunc initS evOps_c evTrim_c evSkip_c evExit_c evRet_c evSeq_c evCond_c evBlock_c evDraw_c runOps_n runOps_c exec_n exec_g pure1_c act AOpd.ev T.get T.set T.put evBin evUn forceT_eq forceV_eq forceL_eq evRess evRes one keep runFP_n runFP_c app_none AV.flats AV.flat came_some List.getElem?_cons_zero List.getElem?_cons_succ beqT wrapI idxI tdivI tmodI decT decF ibT ibF inT inF evScope_c if_pos if_neg Cm_some thenW_n thenW_e thenW_r blkW_n blkW_e blkW_r goI kn putAt AV.cells fillA loadA takeA mk Eff.isAll Eff.isNone Eff.commutes Eff.spares okPair apart eqAgg fits LK.fits allEq aveq eqk mmA
section
variable {S : List (List Nat)} {f : Nat}
structure M8 (Hk : Heap) (n : Nat) (b : Nat) (far : Nat → Nat) (xq : AV) (U : List Nat) (h : Heap) : Prop where
 kf : Kp (fun _ => False) Hk h
 gf : h.get b = .cells 1 n (gn (lN far n))
 lq : ∃ bq,xq = .slice bq 0 U.length U.length ∧ h.get bq = .cells 1 U.length (gn U) ∧ Hk.size ≤ bq ∧ bq ≠ b
theorem M8.set {Hk h : Heap} {n b : Nat} {far : Nat → Nat} {xq : AV} {U : List Nat} (r : M8 Hk n b far xq U h) (hb : Hk.size ≤ b) (hN : Hk.N ≤ b) {c : Nat} (hc : c < n) (v : Nat) : ∃ H,Eff.app (.put b n c [G v]) h = some H ∧ M8 Hk n b (fun z => if z = c then v else far z) xq U H:=by
 have hNh : h.N ≤ b:=by rw [r.kf.N]; exact hN
 obtain ⟨bq,e1,e2,e3,e4⟩:=r.lq
 refine ⟨_,put_gen h b n c 1 _ _ hNh r.gf (by rw [lN_len]; show c + 1 ≤ n; omega),r.kf.updn b _ hNh hb,?_,bq,e1,?_,e3,e4⟩
 ·rw [upd_same _ _ _ hNh (get_lt r.gf (by simp))]
  simp only [putAt]
  rw [lN_set _ hc]
 ·rw [upd_ne _ _ _ _ hNh e4.symm]; exact e2
theorem M8.push {Hk h : Heap} {n b : Nat} {far : Nat → Nat} {xq : AV} {U : List Nat} (k0 : Nat) (r : M8 Hk n b far xq U h) (hkN : Hk.N ≤ Hk.size) (c : Nat) (hn : U.length ≤ 1000) :
  ∃ x1 e H,appA (h.plus [.cells 1 1 [G c]]) k0 none 1 8 1 [G c] xq = some (x1,e) ∧ Eff.app e (h.plus [.cells 1 1 [G c]]) = some H ∧ M8 Hk n b far x1 (U ++ [c]) H:=by
 obtain ⟨bq,rfl,e2,e3,e4⟩:=r.lq
 have g2:=plus_keep [.cells 1 1 [G (c : Int)]] e2 (by simp)
 have hN' : (h.plus [.cells 1 1 [G (c : Int)]]).N ≤ bq:=by rw [plus_N,r.kf.N]; omega
 have x:=ext_gen (h.plus [.cells 1 1 [G (c : Int)]]) bq U.length 1 (gn U) [G c] hN' g2 (gn_len U)
 have blt:=get_lt e2 (by simp)
 refine ⟨.slice bq 0 (U.length + 1) (U.length + 1),.ext bq U.length 1 [G c],_,?_,x,(r.kf.trans (Kp.plus _ _)).updn _ _ hN' e3,?_,bq,by simp,?_,e3,e4⟩
 ·simp only [appA,Nat.mul_one,Nat.one_mul]
  rw [if_neg (by decide),if_pos ⟨trivial,by simp,by omega⟩]
 ·rw [upd_ne _ _ _ _ hN' e4]; exact plus_keep _ r.gf (by simp)
 ·rw [upd_same _ _ _ hN' (by rw [plus_size]; omega),gn_app]
  simp [gn_len]
end
section
variable {S : List (List Nat)} {f : Nat}
end
section
variable {a : AR} {m : Int}
end
def Post38 (b : ARm) (h : Heap) (v : AV) (own : List AObj) : Prop:=∃ z : Nat,v = G z ∧ own = [] ∧ MC (b.a.steps b.m) (b.a.steps b.m).length z
noncomputable def T56 : CallF:=addK tbl T55 38 Pre37 Post38
theorem t56 : Sound zp T56:=Sound.addK follows ok t55 (by decide) _ _
structure KS (a : AG) (m : Nat) (L : List (List Nat)) : Prop where
 w : ∀ w ∈ L,w.length = m ∧ (∀ c ∈ w,c < a.q) ∧ bsd a.B w = zT
 n : ∀ i,i + 1 < L.length → blw a.W (L.getD i []) (L.getD (i + 1) []) = zT
 l : L.length ≤ 1000
 m1 : 1 ≤ m
 m5 : m ≤ 5
section
variable {a : AG} {m : Nat} {L : List (List Nat)} {b v : Nat}
theorem KS.at {i : Nat} (k : KS a m L) (hi : i < L.length) : (L.getD i []).length = m ∧ (∀ c ∈ L.getD i [],c < a.q) ∧ bsd a.B (L.getD i []) = zT:=k.w _ (by
 rw [zd,zq hi]
 exact List.getElem_mem _)
end
section
variable {a : AG} {w : List Nat} {b v i : Nat} {ws : List AV}
theorem c39_l0_ok (J : CallF) (q3 : a.q ≤ 3) (hw : ∀ c ∈ w,c < a.q) (lw : w.length ≤ 1000) {H : Heap} {p : Nat} (gS : H.get p = .cells 0 3 [G a.q,a.x,a.y]) (g : H.get b = .cells 1 v ws) (hi : ws[i]? = some (.str (stW w))) :
  Tr tbl J c39_l0 (fun s h => h = H ∧ s.get [zF] = .slice b i 1 v ∧ s.get [zT] = .ptr p 0 3 ∧ s.get [zF,zT] = G 0 ∧ s.get [zT,zT] = G ((0 : Nat) : Int)) (.exit 2) (fun s h => h = H ∧ s.get [zF] = .slice b i 1 v ∧ s.get [zT] = .ptr p 0 3 ∧ s.get [zF,zT] = G 0):=by
 have hi':=getI hi
 have lwi:=(List.getElem?_eq_some_iff.1 hi).1
 refine Tr.rounds (P:=fun k => (fun s h => h = H ∧ s.get [zF] = .slice b i 1 v ∧ s.get [zT] = .ptr p 0 3 ∧ s.get [zF,zT] = G 0 ∧ s.get [zT,zT] = G (k : Nat))) (M:=w.length) (fun k hk => ?_) ?_ (by simp) 0 (by omega)
 ·have d1:=getD_lt hw hk
  have f1:=stW_at hw q3 hk
  have f1':=getI f1
  have lw':=stW_len w
  have n1:=u8_nat (show w.getD k 0 < 3 by omega)
  have w1:=wrap8 (w.getD k 0) (by omega)
  have dd : ¬ (a.q : Int) ≤ (w.getD k 0 : Nat):=by omega
  have d48 : ¬ (48 + (w.getD k 0 : Nat) : Int) < 48:=by omega
  clear hw
  generalize w.length = n at *
  generalize stW w = cw at *
  generalize UInt8.ofNat (48 + w.getD k 0) = u1 at *
  generalize w.getD k 0 = c1 at *
  obtain ⟨qq,x,y,tB,tW⟩:=a
  simp only at *
  refine Tr.w fun s1 H1 hp _ kR => W.trim ?_
  obtain ⟨rfl,q⟩:=hp
  refine W.assoc ?_
  refine zCh ?_
  simp (disch:=omega) [c39_o6,zG,q,g,hi,hi',lw']
  refine zCh ?_
  simp (disch:=omega) [zG,q]
  refine W.seq (W.block ?_)
  refine zCh ?_
  simp (disch:=omega) [-evDraw_c,c39_o7,zG,q,evDraw_0,gS,g,hi,hi',f1,f1',lw',n1,w1,dd,d48]
  refine W.chunk ?_
  simp (disch:=omega) [c39_o8,zG,q]
  refine W.chunk ?_
  simp (disch:=omega) [c39_o9,zG,q]
  exact kR _ _ (by simp [T.get,q])
 ·have lw':=stW_len w
  generalize w.length = n at *
  generalize stW w = cw at *
  refine Tr.w fun s1 H1 hp _ kR => W.trim ?_
  obtain ⟨rfl,q⟩:=hp
  refine W.assoc ?_
  refine zCh ?_
  simp (disch:=omega) [c39_o6,zG,q,g,hi,hi',lw']
  refine zCh ?_
  simp (disch:=omega) [zG,q]
  exact kR _ _ (by simp [T.get,q])
theorem c39_ok (J : CallF) (hJ : ∀ a h,J 39 a h = none) (h : Heap) (q3 : a.q ≤ 3) (hw : ∀ c ∈ w,c < a.q) (w1 : 1 ≤ w.length) (w5 : w.length ≤ 5) (g : h.get b = .cells 1 v ws) (hi : ws[i]? = some (.str (stW w))) : CallsTo tbl J 39 [a.v,.slice b i 1 v] h (.bool zT,[],zF):=by
 refine Tr.fnv (cf:=c39) (e:=.ret) (s:=T.set (T.set .leaf [] a.v) [zF] (.slice b i 1 v)) (by decide) rfl (hJ _ _) rfl rfl rfl (by simp) ?_
 refine Tr.post (Q:=(fun s h => s.get [zT,zF] = .bool zT)) (fun s h q => by simp [c39,q]) ?_
 have gF : (frameOf h).get b = .cells 1 v ws:=by
  unfold frameOf
  rw [get_mk_lt _ _ _ _ (get_lt g (by simp))]; exact g
 generalize frameOf h = H0 at *
 obtain ⟨H,hH⟩ : ∃ H,H0.plus [.cells 0 3 [G a.q,a.x,a.y]] = H:=⟨_,rfl⟩
 have kH : Kp (fun _ => False) H0 H:=by rw [← hH]; exact Kp.plus _ _
 have gS : H.get H0.size = .cells 0 3 [G a.q,a.x,a.y]:=by rw [← hH]; exact plus_at0 _ _ _ _ rfl
 have gH:=kH.at gF (by simp) id
 have hi':=getI hi
 have lwi:=(List.getElem?_eq_some_iff.1 hi).1
 have l0:=c39_l0_ok J q3 hw (by omega) gS gH hi
 have lw':=stW_len w
 have l1 : Tr tbl J c39_l1 (fun s h => h = H ∧ s.get [zF] = .slice b i 1 v ∧ s.get [zT] = .ptr H0.size 0 3 ∧ s.get [zF,zT] = G ((0 : Nat) : Int)) (.exit 0) (fun s h => h = H ∧ s.get [zF] = .slice b i 1 v):=by
  clear hw gF g hH kH
  refine Tr.rounds (P:=fun k => (fun s h => h = H ∧ s.get [zF] = .slice b i 1 v ∧ s.get [zT] = .ptr H0.size 0 3 ∧ s.get [zF,zT] = G (k : Nat))) (M:=1) (fun k hk => ?_) ?_ (by simp) 0 (by omega)
  ·obtain rfl : k = 0:=by omega
   generalize stW w = cw at *
   generalize w.length = n at *
   refine Tr.w fun s1 H1 hp _ kR => W.trim ?_
   obtain ⟨rfl,q⟩:=hp
   refine W.assoc ?_
   refine zCh ?_
   simp (disch:=omega) [c39_o2,zG,q]
   refine zCh ?_
   simp (disch:=omega) [zG,q]
   refine W.seq (W.block ?_)
   refine W.assoc ?_
   refine zCh ?_
   simp (disch:=omega) [-evDraw_c,c39_o3,zG,q,evDraw_0,gH,hi,hi',lw']
   refine zCh ?_
   simp (disch:=omega) [c39_o4,zG,q]
   refine zCh ?_
   simp (disch:=omega) [c39_o5,zG,q]
   refine W.block ?_
   refine W.use (l0) (by simp (disch:=omega) [zG,q]) fun s1 H1 hp => ?_
   obtain ⟨rfl,q⟩:=hp
   try simp only [zW,if_true]
   refine W.chunk ?_
   simp (disch:=omega) [c39_o10,zG,q]
   exact kR _ _ (by simp [T.get,q])
  ·refine Tr.w fun s1 H1 hp _ kR => W.trim ?_
   obtain ⟨rfl,q⟩:=hp
   refine W.assoc ?_
   refine zCh ?_
   simp (disch:=omega) [c39_o2,zG,q]
   refine zCh ?_
   simp (disch:=omega) [zG,q]
   exact kR _ _ (by simp [T.get,q])
 clear hw gF g kH l0
 generalize stW w = cw at *
 generalize w.length = n at *
 refine Tr.w fun s1 H1 hp _ kR => ?_
 obtain ⟨rfl,rfl⟩:=hp
 have q : True:=trivial
 refine zCh ?_
 simp (disch:=omega) [c39_o0,zG,q,hH]
 refine W.assoc ?_
 refine zCh ?_
 simp (disch:=omega) [c39_o1,zG,q]
 refine W.seq (W.block ?_)
 refine W.use (l1) (by simp (disch:=omega) [zG,q]) fun s1 H1 hp => ?_
 obtain ⟨rfl,q⟩:=hp
 try simp only [zW,if_true]
 refine zCh ?_
 simp (disch:=omega) [c39_o11,zG,q,gH,hi,hi',lw']
 refine W.ret ?_
 try simp only [zW,if_true]
 exact kR _ _ (by simp [T.get])
end
structure AK where
 a : AG
 m : Nat
 L : List (List Nat)
 b : Nat
 v : Nat
def Ok46 (b : AK) (h : Heap) : Prop:=OkG b.a h ∧ KS b.a b.m b.L ∧ h.get b.b = .cells 1 b.v (wsL b.L)
def Pre46 (b : AK) (args : List AV) (h : Heap) : Prop:=Ok46 b h ∧ args = [b.a.v,.slice b.b 0 b.L.length b.v]
def PostT (v : AV) (own : List AObj) : Prop:=v = .bool zT ∧ own = []
noncomputable def T57 : CallF:=addK tbl T56 46 Pre46 (fun _ _ v own => PostT v own)
theorem t57 : Sound zp T57:=Sound.addK follows ok t56 (by decide) _ _
def Ok40 (b : AK) (h : Heap) : Prop:=Ok46 b h ∧ b.L ≠ [] ∧ blw b.a.W (b.L.getD (b.L.length - 1) []) (b.L.getD 0 []) = zT
def Pre40 (b : AK) (args : List AV) (h : Heap) : Prop:=Ok40 b h ∧ args = [b.a.v,.slice b.b 0 b.L.length b.v]
noncomputable def T58 : CallF:=addK tbl T57 40 Pre40 (fun _ _ v own => PostT v own)
theorem t58 : Sound zp T58:=Sound.addK follows ok t57 (by decide) _ _
structure A39 where
 a : AG
 w : List Nat
 ws : List AV
 b : Nat
 v : Nat
 i : Nat
def Ok39 (b : A39) (h : Heap) : Prop:=b.a.q ≤ 3 ∧ (∀ c ∈ b.w,c < b.a.q) ∧ 1 ≤ b.w.length ∧ b.w.length ≤ 5 ∧ h.get b.b = .cells 1 b.v b.ws ∧ b.ws[b.i]? = some (.str (stW b.w))
def Pre39 (b : A39) (args : List AV) (h : Heap) : Prop:=Ok39 b h ∧ args = [b.a.v,.slice b.b b.i 1 b.v]
noncomputable def T59 : CallF:=addK tbl T58 39 Pre39 (fun _ _ v own => PostT v own)
theorem t59 : Sound zp T59:=Sound.addK follows ok t58 (by decide) _ _
abbrev K39 (J : CallF) : Prop:=∀ (h : Heap) (a : AG) (w : List Nat) (ws : List AV) (b v i : Nat),a.q ≤ 3 → (∀ c ∈ w,c < a.q) → 1 ≤ w.length → w.length ≤ 5 → h.get b = .cells 1 v ws → ws[i]? = some (.str (stW w)) → J 39 [a.v,.slice b i 1 v] h = some (.bool zT,[],zF)
theorem k39 : K39 T59:=fun h a w ws b v i h1 h2 h3 h4 h5 h6 => by
 obtain ⟨v,own,e,rfl,rfl⟩:=addK_some (Pre:=Pre39) (Post:=fun _ _ v own => PostT v own) (fun b args h hp => by
  obtain ⟨⟨h1,h2,h3,h4,h5,h6⟩,rfl⟩:=hp
  exact ⟨_,_,c39_ok T58 (fun _ _ => by simp (disch:=decide) only [T1,T2,T3,T4,T5,T6,T7,T8,T9,T10,T11,T12,T13,T14,T15,T16,T17,T18,T19,T20,T21,T22,T23,T24,T25,T26,T27,T28,T29,T30,T31,T32,T33,T34,T35,T36,T37,T38,T39,T40,T41,T42,T43,T44,T45,T46,T47,T48,T49,T50,T51,T52,T53,T54,T55,T56,T57,T58,addI_ne,addX_ne,addV_ne,addK_ne]; rfl) h h1 h2 h3 h4 h5 h6,rfl,rfl⟩) ⟨a,w,ws,b,v,i⟩ _ h ⟨⟨h1,h2,h3,h4,h5,h6⟩,rfl⟩
 exact e
theorem gw_mem {L : List Nat} {R : List (List Nat)} {w : List Nat} (h : w ∈ rT2 R L) : ∃ c,c ∈ L ∧ w = R.getD c []:=by
 obtain ⟨c,h1,h2⟩:=List.mem_map.1 h
 exact ⟨c,h1,h2.symm⟩
theorem rT2_at {L : List Nat} {R : List (List Nat)} {i : Nat} (hi : i < L.length) : (rT2 R L).getD i [] = R.getD (L.getD i 0) []:=by
 unfold rT2
 rw [zd,List.getElem?_map,gD_some hi]; rfl
section
variable {nq m : Int} {X Y : List (List Int)}
end
theorem ba_get {c : List UInt8} {i : Nat} {u : UInt8} (h : c[i]? = some u) : (⟨c.toArray⟩ : ByteArray).get! i = u:=by
 show c.toArray[i]! = u
 simp [Array.getElem!_eq_getD,h]
theorem dec_lo {c : List UInt8} {pos : Nat} {u : UInt8} (h : c[pos]? = some u) (hu : u.toNat < 128) : Utf8.decode ⟨c.toArray⟩ pos = (u.toNat,1):=by
 unfold Utf8.decode
 simp only [Nat.add_zero,ba_get h]
 rw [if_pos hu]
theorem dec_hi {c : List UInt8} {pos : Nat} {u : UInt8} (h : c[pos]? = some u) (hu : 128 ≤ u.toNat) : 128 ≤ (Utf8.decode ⟨c.toArray⟩ pos).1 ∧ (Utf8.decode ⟨c.toArray⟩ pos).1 ≤ 1114111:=by
 unfold Utf8.decode
 simp only [Nat.add_zero,ba_get h]
 rw [if_neg (by omega)]
 have re : Utf8.runeError = 65533:=rfl
 have vd : ∀ r : Nat,Utf8.valid (r : Int) = zT → r ≤ 1114111:=fun r hr => by
  unfold Utf8.valid at hr
  simp only [Bool.or_eq_true,Bool.and_eq_true,decide_eq_true_eq] at hr
  omega
 split
 ·split
  ·simp only
   omega
  ·simp only [re]; omega
 ·split
  ·split
   ·rename_i h1
    simp only [Bool.and_eq_true,decide_eq_true_eq] at h1
    have:=vd _ h1.2
    simp only
    omega
   ·simp only [re]; omega
  ·split
   ·split
    ·rename_i h1
     simp only [Bool.and_eq_true,decide_eq_true_eq] at h1
     have:=vd _ h1.2
     simp only
     omega
    ·simp only [re]; omega
   ·simp only [re]; omega
def goodB (q : Nat) (u : UInt8) : Bool:=decide (48 ≤ u.toNat ∧ u.toNat < 48 + q)
def goodS (q : Nat) (s : List UInt8) : Bool:=s.all (goodB q)
theorem inext0 (h : Heap) (c : List UInt8) (p p' : Nat) (b : Nat) (hb : h.size = b) : Eff.app (.inext b p') (h.plus [.iter c p]) = some (h.plus [.iter c p']):=by
 subst hb
 have hn : h.N ≤ h.size:=by unfold Heap.size; omega
 have e1 : (h.plus [.iter c p]).own[h.size - h.N]? = some (.iter c p):=by
  show (h.own ++ [.iter c p])[h.size - h.N]? = _
  rw [show h.size - h.N = h.own.length by unfold Heap.size; omega]
  simp
 simp only [Eff.app]
 rw [if_neg (by rw [plus_N]; omega),plus_N,e1]
 simp only [Heap.setOwn,forceL_eq,plus_N]
 congr 1
 unfold Heap.plus
 congr 1
 rw [show h.size - h.N = h.own.length by unfold Heap.size; omega]
 simp
def spec98 : SpecF:=fun args h => match args with
 | [.int .i32 c,.ptr b 0 3] => match h.get b with
  | .cells 0 3 [.int .i64 q,x,y] => if 0 ≤ c ∧ c ≤ 1114111 ∧ 0 ≤ q ∧ q ≤ 1000 then some (.bool (!decide (0 ≤ c - 48 ∧ c - 48 ≤ q - 1)),h.own,zT) else none
  | _ => none
 | _ => none
theorem c98_ok (J : CallF) (k60 : K60 J) (hJ : ∀ a h,J 98 a h = none) (h : Heap) {b : Nat} {qq c : Int} {x y : AV} (gb : h.get b = .cells 0 3 [G qq,x,y]) (hc : 0 ≤ c ∧ c ≤ 1114111) (hq : 0 ≤ qq ∧ qq ≤ 1000) : CallsTo tbl J 98 [.int .i32 c,.ptr b 0 3] h (.bool (!decide (0 ≤ c - 48 ∧ c - 48 ≤ qq - 1)),h.own,zT):=by
 refine Tr.sh (cf:=c98) (e:=.ret) (s:=T.set (T.set .leaf [] (.int .i32 c)) [zF] (.ptr b 0 3)) (by decide) rfl (hJ _ _) rfl rfl (by simp) ?_
 have kk:=k60 (c - 48) 0 (qq - 1) h
 generalize decide (0 ≤ c - 48 ∧ c - 48 ≤ qq - 1) = z at *
 refine Tr.w fun s1 H1 hp R kR => ?_
 obtain ⟨rfl,rfl⟩:=hp
 have q : True:=trivial
 refine zCh ?_
 simp (disch:=omega) [c98_o0,zG,q]
 refine zCh ?_
 simp (disch:=omega) [c98_o1,zG,q,gb,kk,app_if,app_if']
 refine W.ret ?_
 try simp only [zW,if_true]
 exact kR _ _ ⟨⟨[.bool (!z)],by simp [T.get,c98,evRess,evRes],rfl⟩,rfl⟩
noncomputable def T60 : CallF:=addI T59 98 spec98
theorem k60_59 : K60 T59:=fun n lo hi h => by
 simp (disch:=decide) only [T1,T2,T3,T4,T5,T6,T7,T8,T9,T10,T11,T12,T13,T14,T15,T16,T17,T18,T19,T20,T21,T22,T23,T24,T25,T26,T27,T28,T29,T30,T31,T32,T33,T34,T35,T36,T37,T38,T39,T40,T41,T42,T43,T44,T45,T46,T47,T48,T49,T50,T51,T52,T53,T54,T55,T56,T57,T58,T59,addI_ne,addX_ne,addV_ne,addK_ne]
 exact k60 n lo hi h
theorem t60 : Sound zp T60:=Sound.add follows ok t59 (by decide) (fun args h x e => by
 unfold spec98 at e
 split at e
 ·split at e
  ·rename_i g1
   split at e
   ·rename_i hn
    simp only [Option.some.injEq] at e; subst e
    exact c98_ok T59 k60_59 (fun _ _ => by simp (disch:=decide) only [T1,T2,T3,T4,T5,T6,T7,T8,T9,T10,T11,T12,T13,T14,T15,T16,T17,T18,T19,T20,T21,T22,T23,T24,T25,T26,T27,T28,T29,T30,T31,T32,T33,T34,T35,T36,T37,T38,T39,T40,T41,T42,T43,T44,T45,T46,T47,T48,T49,T50,T51,T52,T53,T54,T55,T56,T57,T58,T59,addI_ne,addX_ne,addV_ne,addK_ne]; rfl) h g1 ⟨hn.1,hn.2.1⟩ hn.2.2
   ·cases e
  ·cases e
 ·cases e)
abbrev K98 (J : CallF) : Prop:=∀ (h : Heap) (b : Nat) (q c : Int) (x y : AV),h.get b = .cells 0 3 [G q,x,y] → 0 ≤ c → c ≤ 1114111 → 0 ≤ q → q ≤ 1000 → J 98 [.int .i32 c,.ptr b 0 3] h = some (.bool (!decide (0 ≤ c - 48 ∧ c - 48 ≤ q - 1)),h.own,zT)
theorem k98 : K98 T60:=fun h b q c x y g h1 h2 h3 h4 => by simp only [T60,addI,if_true,spec98,g]; rw [if_pos ⟨h1,h2,h3,h4⟩]
section
variable {b : Nat} {qq : Nat} {x y : AV} {c : List UInt8}
def ixS (qq : Nat) : List UInt8 → Nat → Int
 | [],_ => -1
 | u :: c,i => if goodB qq u then ixS qq c (i + 1) else i
theorem ixS_iff (qq : Nat) : ∀ (c : List UInt8) (i : Nat),(ixS qq c i = -1 ∨ 0 ≤ ixS qq c i) ∧ (decide (0 ≤ ixS qq c i) = !goodS qq c)
 | [],i => ⟨.inl rfl,rfl⟩
 | u :: c,i => by
  have ih:=ixS_iff qq c (i + 1)
  unfold ixS goodS
  rw [List.all_cons]
  cases h : goodB qq u
  ·rw [if_neg (by simp)]
   exact ⟨.inr (by omega),by simp⟩
  ·rw [if_pos rfl]
   exact ⟨ih.1,by rw [ih.2]; rfl⟩
set_option maxHeartbeats 1000000 in
theorem c112_l0_ok (J : CallF) (k98 : K98 J) {H0 : Heap} (gb : H0.get b = .cells 0 3 [G qq,x,y]) (q3 : qq ≤ 3) (hc : c.length ≤ 1000000) : ∀ (r : List UInt8) (i : Nat),c = c.take i ++ r → i + r.length = c.length →
  ∀ (s1 : T) (R : PQ),(s1.get [zF] = .func 98 [.ptr b 0 3] ∧ s1.get [zT] = .bool zT ∧ s1.get [zT,zT,zF] = .itr H0.size) → (ixS qq r i = -1 → ∀ s' h',True → R (.exit 0) s' h') → (ixS qq r i ≠ -1 → ∀ s' h',s'.get [zT,zT] = G (ixS qq r i) → R .ret s' h') → W tbl J c112_l0 s1 (H0.plus [.iter c i]) R:=by
 intro r
 induction r with
 | nil =>
  intro i e1 e2 s1 R q0 kA kB
  have kR:=kA rfl
  obtain rfl : i = c.length:=by simpa using e2
  have gI : (H0.plus [.iter c c.length]).get H0.size = .iter c c.length:=plus_at0 _ _ _ _ rfl
  have q:=q0
  clear kA kB e1 e2 gb q0
  generalize H0.plus [.iter c c.length] = H1 at *
  generalize hl : c.length = l at *
  refine W.loop (W.trim ?_)
  refine zCh ?_
  simp (disch:=omega) [c112_o2,zG,q,gI,hl]
  refine zCh ?_
  simp (disch:=omega) [zG,q]
  exact kR _ _ trivial
 | cons u r ih =>
  intro i e1 e2 s1 R q0 kA kB
  have hlt : i < c.length:=by simp at e2; omega
  have hu : c[i]? = some u:=by
   rw [e1,List.getElem?_append_right (by rw [List.length_take]; omega),List.length_take,Nat.min_eq_left (by omega),Nat.sub_self]; rfl
  have gI : (H0.plus [.iter c i]).get H0.size = .iter c i:=plus_at0 _ _ _ _ rfl
  have gbI : (H0.plus [.iter c i]).get b = .cells 0 3 [G qq,x,y]:=plus_keep _ gb (by simp)
  replace ih:=ih (i + 1) (by
   rw [List.take_add_one,hu]
   show c = c.take i ++ [u] ++ r
   rw [List.append_assoc]; exact e1) (by simp at e2; omega)
  have p1:=fun w => inext0 H0 c i (i + w) H0.size rfl
  have gb2 : ∀ w,(H0.plus [.iter c (i + w)]).get b = .cells 0 3 [G qq,x,y]:=fun w => plus_keep _ gb (by simp)
  have un : (ixS qq (u :: r) i) = if goodB qq u then ixS qq r (i + 1) else (i : Int):=rfl
  rw [un] at kA kB
  have q:=q0
  by_cases hhi : 128 ≤ u.toNat
  ·obtain ⟨d1,d2⟩:=dec_hi hu hhi
   have ng : goodB qq u = zF:=by
    unfold goodB
    exact decide_eq_false (by omega)
   rw [if_neg (by rw [ng]; simp)] at kB
   have kR:=kB (by omega)
   obtain ⟨rn,w,hd⟩ : ∃ rn w,Utf8.decode ⟨c.toArray⟩ i = (rn,w):=⟨_,_,rfl⟩
   rw [hd] at d1 d2
   simp only at d1 d2
   have k:=k98 (H0.plus [.iter c (i + w)]) b qq rn x y (gb2 w) (by omega) (by omega) (by omega) (by omega)
   rw [decide_eq_false (by omega)] at k
   have p1:=p1 w
   have ow : (⟨(H0.plus [.iter c (i + w)]).lo,(H0.plus [.iter c (i + w)]).N,(H0.plus [.iter c (i + w)]).own⟩ : Heap) = H0.plus [.iter c (i + w)]:=rfl
   clear kA kB ih e1 e2 gb gb2 un q0 hu ng
   generalize H0.plus [.iter c (i + w)] = H2 at *
   generalize H0.plus [.iter c i] = H1 at *
   generalize hl : c.length = l at *
   refine W.loop (W.trim ?_)
   refine zCh ?_
   simp (disch:=omega) [c112_o2,zG,q,gI,hl,hd,p1]
   refine zCh ?_
   simp (disch:=omega) [zG,q]
   refine W.block ?_
   refine zCh ?_
   simp (disch:=omega) [c112_o3,zG,q]
   refine zCh ?_
   simp (disch:=omega) [c112_o4,zG,q,k,ow]
   refine W.chunk ?_
   simp (disch:=omega) [c112_o5,zG,q]
   exact kR _ _ (by simp [T.get,q])
  ·have hd:=dec_lo hu (by omega)
   have k:=k98 (H0.plus [.iter c (i + 1)]) b qq u.toNat x y (gb2 1) (by omega) (by omega) (by omega) (by omega)
   have p1:=p1 1
   have ow : (⟨(H0.plus [.iter c (i + 1)]).lo,(H0.plus [.iter c (i + 1)]).N,(H0.plus [.iter c (i + 1)]).own⟩ : Heap) = H0.plus [.iter c (i + 1)]:=rfl
   have gd : goodB qq u = decide (48 ≤ u.toNat ∧ u.toNat < 48 + qq):=rfl
   by_cases hg : 48 ≤ u.toNat ∧ u.toNat < 48 + qq
   ·rw [decide_eq_true hg] at gd
    rw [if_pos gd] at kA kB
    rw [decide_eq_true (by omega)] at k
    replace ih:=fun s' h2 => ih s' R h2 kA kB
    have i1 : ((i + 1 : Nat) : Int) = (i : Int) + 1:=by omega
    clear kA kB e1 e2 gb gb2 un q0 hu gd
    generalize H0.plus [.iter c (i + 1)] = H2 at *
    generalize H0.plus [.iter c i] = H1 at *
    generalize hl : c.length = l at *
    generalize u.toNat = un at *
    refine W.loop (W.trim ?_)
    refine zCh ?_
    simp (disch:=omega) [c112_o2,zG,q,gI,hl,hd,p1]
    refine zCh ?_
    simp (disch:=omega) [zG,q]
    refine W.block ?_
    refine zCh ?_
    simp (disch:=omega) [c112_o3,zG,q]
    refine zCh ?_
    simp (disch:=omega) [c112_o4,zG,q,k,ow]
    refine W.chunk ?_
    simp (disch:=omega) [c112_o5,zG,q]
    refine ih _ ?_
    simp [T.get,q]
   ·rw [decide_eq_false hg] at gd
    rw [if_neg (by rw [gd]; simp)] at kB
    have kR:=kB (by omega)
    rw [decide_eq_false (by omega)] at k
    clear kA kB ih e1 e2 gb gb2 un q0 hu gd
    generalize H0.plus [.iter c (i + 1)] = H2 at *
    generalize H0.plus [.iter c i] = H1 at *
    generalize hl : c.length = l at *
    generalize u.toNat = un at *
    refine W.loop (W.trim ?_)
    refine zCh ?_
    simp (disch:=omega) [c112_o2,zG,q,gI,hl,hd,p1]
    refine zCh ?_
    simp (disch:=omega) [zG,q]
    refine W.block ?_
    refine zCh ?_
    simp (disch:=omega) [c112_o3,zG,q]
    refine zCh ?_
    simp (disch:=omega) [c112_o4,zG,q,k,ow]
    refine W.chunk ?_
    simp (disch:=omega) [c112_o5,zG,q]
    exact kR _ _ (by simp [T.get,q])
end
section
variable {b qq : Nat} {x y : AV} {c : List UInt8}
theorem c112_ok (J : CallF) (k98 : K98 J) (hJ : ∀ a h,J 112 a h = none) (h : Heap) (gb : h.get b = .cells 0 3 [G qq,x,y]) (q3 : qq ≤ 3) (hc : c.length ≤ 1000000) : CallsTo tbl J 112 [.str c,.func 98 [.ptr b 0 3],.bool zT] h (G (ixS qq c 0),[],zF):=by
 refine Tr.fnv (cf:=c112) (e:=.ret) (s:=T.set (T.set (T.set .leaf [] (.str c)) [zF] (.func 98 [.ptr b 0 3])) [zT] (.bool zT)) (by decide) rfl (hJ _ _) rfl rfl rfl (by simp) ?_
 refine Tr.post (Q:=(fun s h => s.get [zT,zT] = G (ixS qq c 0))) (fun s h q => by simp [c112,q]) ?_
 have gF : (frameOf h).get b = .cells 0 3 [G qq,x,y]:=by
  unfold frameOf
  rw [get_mk_lt _ _ _ _ (get_lt gb (by simp))]; exact gb
 generalize frameOf h = H0 at *
 have lw:=c112_l0_ok J k98 gF q3 hc c 0 (by simp) (by simp)
 by_cases e : ixS qq c 0 = -1
 ·have l0 : Tr tbl J c112_l0 (fun s h => h = H0.plus [.iter c 0] ∧ s.get [zF] = .func 98 [.ptr b 0 3] ∧ s.get [zT] = .bool zT ∧ s.get [zT,zT,zF] = .itr H0.size) (.exit 0) (fun s h => True):=by
   refine Tr.w fun s1 H1 hp R kR => ?_
   obtain ⟨rfl,q⟩:=hp
   exact lw s1 R q (fun _ => kR) (fun e' => absurd e e')
  rw [e]
  clear lw gF gb
  refine Tr.w fun s1 H1 hp _ kR => ?_
  obtain ⟨rfl,rfl⟩:=hp
  have q : True:=trivial
  refine zCh ?_
  simp (disch:=omega) [c112_o0,zG,q]
  refine W.assoc ?_
  refine zCh ?_
  simp (disch:=omega) [c112_o1,zG,q]
  refine W.seq (W.block ?_)
  refine W.use (l0) (by simp (disch:=omega) [zG,q]) fun s1 H1 hp => ?_
  obtain _:=hp
  try simp only [zW,if_true]
  refine zCh ?_
  simp (disch:=omega) [c112_o6,zG,q]
  refine W.ret ?_
  try simp only [zW,if_true]
  exact kR _ _ (by simp [T.get])
 ·have l0 : Tr tbl J c112_l0 (fun s h => h = H0.plus [.iter c 0] ∧ s.get [zF] = .func 98 [.ptr b 0 3] ∧ s.get [zT] = .bool zT ∧ s.get [zT,zT,zF] = .itr H0.size) .ret (fun s h => s.get [zT,zT] = G (ixS qq c 0)):=by
   refine Tr.w fun s1 H1 hp R kR => ?_
   obtain ⟨rfl,q⟩:=hp
   exact lw s1 R q (fun e' => absurd e' e) (fun _ => kR)
  clear lw gF gb
  generalize ixS qq c 0 = z at *
  refine Tr.w fun s1 H1 hp _ kR => ?_
  obtain ⟨rfl,rfl⟩:=hp
  have q : True:=trivial
  refine zCh ?_
  simp (disch:=omega) [c112_o0,zG,q]
  refine W.assoc ?_
  refine zCh ?_
  simp (disch:=omega) [c112_o1,zG,q]
  refine W.seq (W.block ?_)
  refine W.use (l0) (by simp (disch:=omega) [zG,q]) fun s1 H1 hp => ?_
  try simp only [zW,if_true]
  exact kR _ _ hp
theorem c108_ok (J : CallF) (hJ : ∀ a h,J 108 a h = none) (k112 : ∀ h : Heap,h.get b = .cells 0 3 [G qq,x,y] → J 112 [.str c,.func 98 [.ptr b 0 3],.bool zT] h = some (G (ixS qq c 0),[],zF)) (h : Heap) (gb : h.get b = .cells 0 3 [G qq,x,y]) : CallsTo tbl J 108 [.str c,.func 98 [.ptr b 0 3]] h (G (ixS qq c 0),[],zF):=by
 refine Tr.fnv (cf:=c108) (e:=.ret) (s:=T.set (T.set .leaf [] (.str c)) [zF] (.func 98 [.ptr b 0 3])) (by decide) rfl (hJ _ _) rfl rfl rfl (by simp) ?_
 refine Tr.post (Q:=(fun s h => s.get [zT,zF] = G (ixS qq c 0))) (fun s h q => by simp [c108,q]) ?_
 have gF : (frameOf h).get b = .cells 0 3 [G qq,x,y]:=by
  unfold frameOf
  rw [get_mk_lt _ _ _ _ (get_lt gb (by simp))]; exact gb
 generalize frameOf h = H0 at *
 have k:=k112 H0 gF
 clear k112 gF gb
 generalize ixS qq c 0 = z at *
 refine Tr.w fun s1 H1 hp _ kR => ?_
 obtain ⟨rfl,rfl⟩:=hp
 have q : True:=trivial
 refine zCh ?_
 simp (disch:=omega) [c108_o0,zG,q]
 refine zCh ?_
 simp (disch:=omega) [c108_o1,zG,q,k]
 refine W.ret ?_
 try simp only [zW,if_true]
 exact kR _ _ (by simp [T.get])
theorem c97_ok (J : CallF) (hJ : ∀ a h,J 97 a h = none) (k108 : ∀ h : Heap,h.get b = .cells 0 3 [G qq,x,y] → J 108 [.str c,.func 98 [.ptr b 0 3]] h = some (G (ixS qq c 0),[],zF)) (h : Heap) (gb : h.get b = .cells 0 3 [G qq,x,y]) : CallsTo tbl J 97 [.str c,.func 98 [.ptr b 0 3]] h (.bool (!goodS qq c),[],zF):=by
 refine Tr.fnv (cf:=c97) (e:=.ret) (s:=T.set (T.set .leaf [] (.str c)) [zF] (.func 98 [.ptr b 0 3])) (by decide) rfl (hJ _ _) rfl rfl rfl (by simp) ?_
 refine Tr.post (Q:=(fun s h => s.get [zT,zF] = .bool (!goodS qq c))) (fun s h q => by simp [c97,q]) ?_
 have gF : (frameOf h).get b = .cells 0 3 [G qq,x,y]:=by
  unfold frameOf
  rw [get_mk_lt _ _ _ _ (get_lt gb (by simp))]; exact gb
 generalize frameOf h = H0 at *
 have k:=k108 H0 gF
 have e:=(ixS_iff qq c 0).2
 rw [← e]
 clear k108 gF gb e
 generalize ixS qq c 0 = z at *
 refine Tr.w fun s1 H1 hp _ kR => ?_
 obtain ⟨rfl,rfl⟩:=hp
 have q : True:=trivial
 refine zCh ?_
 simp (disch:=omega) [c97_o0,zG,q]
 refine zCh ?_
 simp (disch:=omega) [c97_o1,zG,q,k]
 refine W.ret ?_
 try simp only [zW,if_true]
 exact kR _ _ (by simp [T.get])
end
structure A112 where
 c : List UInt8
 b : Nat
 qq : Nat
 x : AV
 y : AV
def Ok112 (a : A112) (h : Heap) : Prop:=h.get a.b = .cells 0 3 [G a.qq,a.x,a.y] ∧ a.qq ≤ 3 ∧ a.c.length ≤ 1000000
def Pre112 (a : A112) (args : List AV) (h : Heap) : Prop:=Ok112 a h ∧ args = [.str a.c,.func 98 [.ptr a.b 0 3],.bool zT]
def Post112 (a : A112) (h : Heap) (v : AV) (own : List AObj) : Prop:=v = G (ixS a.qq a.c 0) ∧ own = []
noncomputable def T61 : CallF:=addK tbl T60 112 Pre112 Post112
theorem t61 : Sound zp T61:=Sound.addK follows ok t60 (by decide) _ _
theorem k112 (h : Heap) (a : A112) (o : Ok112 a h) : T61 112 [.str a.c,.func 98 [.ptr a.b 0 3],.bool zT] h = some (G (ixS a.qq a.c 0),[],zF):=by
 obtain ⟨v,own,e,rfl,rfl⟩:=addK_some (Pre:=Pre112) (Post:=Post112) (fun a args h hp => by
  obtain ⟨⟨h1,h2,h3⟩,rfl⟩:=hp
  exact ⟨_,_,c112_ok T60 k98 (fun _ _ => by simp (disch:=decide) only [T1,T2,T3,T4,T5,T6,T7,T8,T9,T10,T11,T12,T13,T14,T15,T16,T17,T18,T19,T20,T21,T22,T23,T24,T25,T26,T27,T28,T29,T30,T31,T32,T33,T34,T35,T36,T37,T38,T39,T40,T41,T42,T43,T44,T45,T46,T47,T48,T49,T50,T51,T52,T53,T54,T55,T56,T57,T58,T59,T60,addI_ne,addX_ne,addV_ne,addK_ne]; rfl) h h1 h2 h3,rfl,rfl⟩) a _ h ⟨o,rfl⟩
 exact e
def Pre108 (a : A112) (args : List AV) (h : Heap) : Prop:=Ok112 a h ∧ args = [.str a.c,.func 98 [.ptr a.b 0 3]]
noncomputable def T62 : CallF:=addK tbl T61 108 Pre108 Post112
theorem t62 : Sound zp T62:=Sound.addK follows ok t61 (by decide) _ _
theorem k108 (h : Heap) (a : A112) (o : Ok112 a h) : T62 108 [.str a.c,.func 98 [.ptr a.b 0 3]] h = some (G (ixS a.qq a.c 0),[],zF):=by
 obtain ⟨v,own,e,rfl,rfl⟩:=addK_some (Pre:=Pre108) (Post:=Post112) (fun a args h hp => by
  obtain ⟨⟨h1,h2,h3⟩,rfl⟩:=hp
  exact ⟨_,_,c108_ok T61 (fun _ _ => by simp (disch:=decide) only [T1,T2,T3,T4,T5,T6,T7,T8,T9,T10,T11,T12,T13,T14,T15,T16,T17,T18,T19,T20,T21,T22,T23,T24,T25,T26,T27,T28,T29,T30,T31,T32,T33,T34,T35,T36,T37,T38,T39,T40,T41,T42,T43,T44,T45,T46,T47,T48,T49,T50,T51,T52,T53,T54,T55,T56,T57,T58,T59,T60,T61,addI_ne,addX_ne,addV_ne,addK_ne]; rfl) (fun h g => k112 h ⟨a.c,a.b,a.qq,a.x,a.y⟩ ⟨g,h2,h3⟩) h h1,rfl,rfl⟩) a _ h ⟨o,rfl⟩
 exact e
def Post97 (a : A112) (h : Heap) (v : AV) (own : List AObj) : Prop:=v = .bool (!goodS a.qq a.c) ∧ own = []
noncomputable def T63 : CallF:=addK tbl T62 97 Pre108 Post97
theorem t63 : Sound zp T63:=Sound.addK follows ok t62 (by decide) _ _
theorem k97 (h : Heap) (a : A112) (o : Ok112 a h) : T63 97 [.str a.c,.func 98 [.ptr a.b 0 3]] h = some (.bool (!goodS a.qq a.c),[],zF):=by
 obtain ⟨v,own,e,rfl,rfl⟩:=addK_some (Pre:=Pre108) (Post:=Post97) (fun a args h hp => by
  obtain ⟨⟨h1,h2,h3⟩,rfl⟩:=hp
  exact ⟨_,_,c97_ok T62 (fun _ _ => by simp (disch:=decide) only [T1,T2,T3,T4,T5,T6,T7,T8,T9,T10,T11,T12,T13,T14,T15,T16,T17,T18,T19,T20,T21,T22,T23,T24,T25,T26,T27,T28,T29,T30,T31,T32,T33,T34,T35,T36,T37,T38,T39,T40,T41,T42,T43,T44,T45,T46,T47,T48,T49,T50,T51,T52,T53,T54,T55,T56,T57,T58,T59,T60,T61,T62,addI_ne,addX_ne,addV_ne,addK_ne]; rfl) (fun h g => k108 h ⟨a.c,a.b,a.qq,a.x,a.y⟩ ⟨g,h2,h3⟩) h h1,rfl,rfl⟩) a _ h ⟨o,rfl⟩
 exact e
section
open Classical in
noncomputable def specS (tbl : Nat → Option CFunc) (I : CallF) (f : Nat) : SpecF:=fun args h => if hx : ∃ v,CallsTo tbl I f args h (v,h.own,zT) then some (Classical.choose hx,h.own,zT) else none
theorem specS_at {tbl : Nat → Option CFunc} {I : CallF} {f : Nat} {args : List AV} {h : Heap} {v : AV} (c : CallsTo tbl I f args h (v,h.own,zT)) : specS tbl I f args h = some (v,h.own,zT):=by
 have hx : ∃ v,CallsTo tbl I f args h (v,h.own,zT):=⟨v,c⟩
 unfold specS
 rw [dif_pos hx]
 have:=CallsTo.det (Classical.choose_spec hx) c
 rw [(Prod.mk.inj this).1]
theorem specS_ok {tbl : Nat → Option CFunc} {I : CallF} {f : Nat} (args : List AV) (h : Heap) (x : AV × List AObj × Bool) (e : specS tbl I f args h = some x) : CallsTo tbl I f args h x:=by
 unfold specS at e
 split at e
 ·rename_i hx
  simp only [Option.some.injEq] at e
  subst e
  exact Classical.choose_spec hx
 ·cases e
end
theorem c96_ok (J : CallF) (hJ : ∀ a h,J 96 a h = none) (k97 : ∀ (h : Heap) (a : A112),Ok112 a h → J 97 [.str a.c,.func 98 [.ptr a.b 0 3]] h = some (.bool (!goodS a.qq a.c),[],zF)) (h : Heap) {su tu : List UInt8} {b3 b2 bs n v qq : Nat} {x y : AV} {cs : List AV}
  (g3 : h.get b3 = .cells 0 1 [.slice bs 0 n v]) (g2 : h.get b2 = .cells 0 3 [G qq,x,y]) (gs0 : h.get bs = .cells 1 v cs) (ht : cs[0]? = some (.str tu)) (hn : 0 < n) (q3 : qq ≤ 3) (l1 : su.length ≤ 1000000) (l2 : tu.length ≤ 1000000) :
  CallsTo tbl J 96 [.str su,.ptr b3 0 1,.ptr b2 0 3] h (.bool (decide (su.length ≠ tu.length) || !goodS qq su),h.own,zT):=by
 refine Tr.sh (cf:=c96) (e:=.ret) (s:=T.set (T.set (T.set .leaf [] (.str su)) [zF] (.ptr b3 0 1)) [zT] (.ptr b2 0 3)) (by decide) rfl (hJ _ _) rfl rfl (by simp) ?_
 have kk:=k97 h ⟨su,b2,qq,x,y⟩ ⟨g2,q3,l1⟩
 simp only at kk
 have ht':=getI ht
 have lcs:=(List.getElem?_eq_some_iff.1 ht).1
 clear k97
 generalize goodS qq su = z at *
 refine Tr.w fun s1 H1 hp R kR => ?_
 obtain ⟨rfl,rfl⟩:=hp
 have q : True:=trivial
 by_cases e : su.length = tu.length
 ·rw [decide_eq_false (by simp [e])] at kR
  rw [Bool.false_or] at kR
  generalize hl : su.length = n1 at *
  generalize hl2 : tu.length = n2 at *
  subst e
  refine zCh ?_
  simp (disch:=omega) [c96_o0,zG,q]
  refine zCh ?_
  simp (disch:=omega) [c96_o1,zG,q,g3,gs0,ht,ht',hl,hl2,kk,app_if,app_if']
  refine W.ret ?_
  try simp only [zW,if_true]
  exact kR _ _ ⟨⟨[.bool (!z)],by simp [T.get,c96,evRess,evRes],rfl⟩,rfl⟩
 ·rw [decide_eq_true e,Bool.true_or] at kR
  generalize hl : su.length = n1 at *
  generalize hl2 : tu.length = n2 at *
  have e' : ¬ (n1 : Int) = n2:=by omega
  refine zCh ?_
  simp (disch:=omega) [c96_o0,zG,q]
  refine zCh ?_
  simp (disch:=omega) [c96_o1,zG,q,g3,gs0,ht,ht',hl,hl2,e,e']
  refine W.ret ?_
  try simp only [zW,if_true]
  exact kR _ _ ⟨⟨[.bool zT],by simp [T.get,c96,evRess,evRes],rfl⟩,rfl⟩
noncomputable def T64 : CallF:=addI T63 96 (specS tbl T63 96)
theorem t64 : Sound zp T64:=Sound.add follows ok t63 (by decide) specS_ok
theorem k96 {h : Heap} {su tu : List UInt8} {b3 b2 bs n v qq : Nat} {x y : AV} {cs : List AV} (g3 : h.get b3 = .cells 0 1 [.slice bs 0 n v]) (g2 : h.get b2 = .cells 0 3 [G qq,x,y]) (gs0 : h.get bs = .cells 1 v cs) (ht : cs[0]? = some (.str tu)) (hn : 0 < n) (q3 : qq ≤ 3) (l1 : su.length ≤ 1000000) (l2 : tu.length ≤ 1000000) :
  T64 96 [.str su,.ptr b3 0 1,.ptr b2 0 3] h = some (.bool (decide (su.length ≠ tu.length) || !goodS qq su),h.own,zT):=by
 have e : T64 96 [.str su,.ptr b3 0 1,.ptr b2 0 3] h = specS tbl T63 96 [.str su,.ptr b3 0 1,.ptr b2 0 3] h:=by simp only [T64,addI,if_true]
 rw [e]
 exact specS_at (c96_ok T63 (fun _ _ => by simp (disch:=decide) only [T1,T2,T3,T4,T5,T6,T7,T8,T9,T10,T11,T12,T13,T14,T15,T16,T17,T18,T19,T20,T21,T22,T23,T24,T25,T26,T27,T28,T29,T30,T31,T32,T33,T34,T35,T36,T37,T38,T39,T40,T41,T42,T43,T44,T45,T46,T47,T48,T49,T50,T51,T52,T53,T54,T55,T56,T57,T58,T59,T60,T61,T62,T63,addI_ne,addX_ne,addV_ne,addK_ne]; rfl) k97 h g3 g2 gs0 ht hn q3 l1 l2)
section
variable {f : Nat} {cap cs : List AV} {p : Nat → Bool} {b v n : Nat}
theorem c107_loop (J : CallF) (hf0 : f ≠ 0) (h : Heap) (ha : h.get b = .cells 1 v cs) (la : cs.length = n) (hn : n < 9223372036854775808) (kp : FindP J f cap p cs h) :
  ∀ j i,i + j = n → (fi p i j = -1 → Tr tbl J c107_l0 (fun s h' => s.get [] = .slice b 0 n v ∧ s.get [zF] = .func f cap ∧ s.get [zF,zF,zF] = G n ∧ s.get [zT,zF,zF] = G i ∧ h' = ⟨h.get,h.size,[]⟩) (.exit 0) (fun s h => True)) ∧
   (fi p i j ≠ -1 → Tr tbl J c107_l0 (fun s h' => s.get [] = .slice b 0 n v ∧ s.get [zF] = .func f cap ∧ s.get [zF,zF,zF] = G n ∧ s.get [zT,zF,zF] = G i ∧ h' = ⟨h.get,h.size,[]⟩) .ret (fun s h => s.get [zT,zF] = G (fi p i j))):=by
 have h1:=get_lt ha (by simp)
 intro j
 induction j with
 | zero =>
  intro i hi'
  obtain rfl : i = n:=by omega
  refine ⟨fun _ => ?_,fun hne => absurd rfl hne⟩
  have t : Tr tbl J ((.trim [[],[zF],[zF,zF,zF],[zT,zF,zF]] c107_b0)) (fun s h' => s.get [] = .slice b 0 i v ∧ s.get [zF] = .func f cap ∧ s.get [zF,zF,zF] = G i ∧ s.get [zT,zF,zF] = G i ∧ h' = ⟨h.get,h.size,[]⟩) (.exit 0) (fun s h => True):=Tr.region fun s h hp => by
   obtain ⟨g0,g1,g2,g3,rfl⟩:=hp
   simp (disch:=first|omega|exact zE rfl|exact zO|exact zL rfl) [c107_b0,c107_o2,size_mk,get_mk_lt,get_mk_ge,frameOf,Eff.app,Heap.setOwn,g0,g1,g2,g3]
  exact Tr.out t (by simp)
 | succ j ih =>
  intro i hi'
  have xa : cs[i]? = some cs[i]:=zq (by omega)
  have kk:=kp i _ xa
  have xa':=getI xa
  generalize cs[i]'(by omega) = c at *
  have ih':=ih (i + 1) (by omega)
  show ((if p i then (i : Int) else fi p (i + 1) j) = -1 → _) ∧ ((if p i then (i : Int) else fi p (i + 1) j) ≠ -1 → Tr tbl J c107_l0 _ .ret (fun s h => s.get [zT,zF] = G (if p i then (i : Int) else fi p (i + 1) j)))
  cases hp : p i
  ·rw [hp] at kk
   have t : Tr tbl J ((.trim [[],[zF],[zF,zF,zF],[zT,zF,zF]] c107_b0)) (fun s h' => s.get [] = .slice b 0 n v ∧ s.get [zF] = .func f cap ∧ s.get [zF,zF,zF] = G n ∧ s.get [zT,zF,zF] = G i ∧ h' = ⟨h.get,h.size,[]⟩) .normal (fun s h' => s.get [] = .slice b 0 n v ∧ s.get [zF] = .func f cap ∧ s.get [zF,zF,zF] = G n ∧ s.get [zT,zF,zF] = G ((i + 1 : Nat) : Int) ∧ h' = ⟨h.get,h.size,[]⟩):=Tr.region fun s h hp => by
    obtain ⟨g0,g1,g2,g3,rfl⟩:=hp
    simp (disch:=first|omega|exact zE rfl|exact zO|exact zL rfl) [c107_b0,c107_o2,c107_o3,c107_o4,c107_o6,size_mk,get_mk_lt,get_mk_ge,frameOf,Eff.app,Heap.setOwn,g0,g1,g2,g3,ha,xa,xa',kk,hf0]
   rw [if_neg (by simp)]
   exact ⟨fun e => Tr.next t (ih'.1 e),fun e => Tr.next t (ih'.2 e)⟩
  ·rw [hp] at kk
   rw [if_pos rfl]
   refine ⟨fun e => absurd e (by omega),fun _ => ?_⟩
   have t : Tr tbl J ((.trim [[],[zF],[zF,zF,zF],[zT,zF,zF]] c107_b0)) (fun s h' => s.get [] = .slice b 0 n v ∧ s.get [zF] = .func f cap ∧ s.get [zF,zF,zF] = G n ∧ s.get [zT,zF,zF] = G i ∧ h' = ⟨h.get,h.size,[]⟩) .ret (fun s h => s.get [zT,zF] = G i):=Tr.region fun s h hp => by
    obtain ⟨g0,g1,g2,g3,rfl⟩:=hp
    simp (disch:=first|omega|exact zE rfl|exact zO|exact zL rfl) [c107_b0,c107_o2,c107_o3,c107_o4,c107_o5,size_mk,get_mk_lt,get_mk_ge,frameOf,Eff.app,Heap.setOwn,g0,g1,g2,g3,ha,xa,xa',kk,hf0]
   exact Tr.out t (by simp)
theorem c107_ok (J : CallF) (hJ : ∀ a h,J 107 a h = none) (hf0 : f ≠ 0) (h : Heap) {x : AV} (hx : EL h x cs) (hn : cs.length < 9223372036854775808) (kp : FindP J f cap p cs h) : CallsTo tbl J 107 [x,.func f cap] h (G (fi p 0 cs.length),[],zF):=by
 refine Tr.fnv (cf:=c107) (e:=.ret) (s:=T.set (T.set .leaf [] x) [zF] (.func f cap)) (by decide) rfl (hJ _ _) rfl rfl rfl (by simp) ?_
 have t0 : Tr tbl J (c107_o0) (fun s h' => s = T.set (T.set .leaf [] x) [zF] (.func f cap) ∧ h' = frameOf h) .normal (fun s h' => s.get [] = x ∧ s.get [zF] = .func f cap ∧ h' = ⟨h.get,h.size,[]⟩):=Tr.region fun s h hp => by
  obtain ⟨rfl,rfl⟩:=hp
  simp (disch:=first|omega|exact zE rfl|exact zO|exact zL rfl) [c107_o0,frameOf,Heap.size,Heap.get,Eff.app,Heap.setOwn]
 have t3 : Tr tbl J ((.seq c107_o7 .ret)) (fun s h => True) .ret (fun s h => s.get [zT,zF] = G (-1)):=Tr.region fun s h hp => by
  simp (disch:=first|omega|exact zE rfl|exact zO|exact zL rfl) [c107_o7,frameOf,Heap.size,Heap.get,Eff.app,Heap.setOwn]
 have nil : ∀ y,(y = .nils ∨ y = .slice0) → x = y → Tr tbl J (.seq c107_o1 (.block 0 c107_l0)) (fun s h' => s.get [] = x ∧ s.get [zF] = .func f cap ∧ h' = ⟨h.get,h.size,[]⟩) .normal (fun s h => True):=fun y hy e => by
  subst e
  have t1 : Tr tbl J (c107_o1) (fun s h' => s.get [] = x ∧ s.get [zF] = .func f cap ∧ h' = ⟨h.get,h.size,[]⟩) .normal (fun s h' => s.get [] = x ∧ s.get [zF] = .func f cap ∧ s.get [zF,zF,zF] = G ((0 : Nat) : Int) ∧ s.get [zT,zF,zF] = G ((0 : Nat) : Int) ∧ h' = ⟨h.get,h.size,[]⟩):=Tr.region fun s h hp => by
   obtain ⟨g0,g1,rfl⟩:=hp
   rcases hy with rfl | rfl <;> simp (disch:=first|omega|exact zE rfl|exact zO|exact zL rfl) [c107_o1,size_mk,get_mk_lt,get_mk_ge,frameOf,Eff.app,Heap.setOwn,g0,g1]
  have t2 : Tr tbl J ((.trim [[],[zF],[zF,zF,zF],[zT,zF,zF]] c107_b0)) (fun s h' => s.get [] = x ∧ s.get [zF] = .func f cap ∧ s.get [zF,zF,zF] = G ((0 : Nat) : Int) ∧ s.get [zT,zF,zF] = G ((0 : Nat) : Int) ∧ h' = ⟨h.get,h.size,[]⟩) (.exit 0) (fun s h => True):=Tr.region fun s h hp => by
   obtain ⟨g0,g1,g2,g3,rfl⟩:=hp
   simp (disch:=first|omega|exact zE rfl|exact zO|exact zL rfl) [c107_b0,c107_o2,size_mk,get_mk_lt,get_mk_ge,frameOf,Eff.app,Heap.setOwn,g0,g1,g2,g3]
  exact Tr.seq t1 (Tr.block (Tr.out t2 (by simp)))
 rcases hx with ⟨e,rfl⟩ | ⟨b,v,rfl,g⟩
 ·have t1:=nil x e rfl
  exact Tr.post (fun s h q => by simp [c107,q,fi]) (Tr.seq t0 (Tr.seq t1 t3))
 ·
  have t1 : Tr tbl J (c107_o1) (fun s h' => s.get [] = .slice b 0 cs.length v ∧ s.get [zF] = .func f cap ∧ h' = ⟨h.get,h.size,[]⟩) .normal (fun s h' => s.get [] = .slice b 0 cs.length v ∧ s.get [zF] = .func f cap ∧ s.get [zF,zF,zF] = G cs.length ∧ s.get [zT,zF,zF] = G ((0 : Nat) : Int) ∧ h' = ⟨h.get,h.size,[]⟩):=Tr.region fun s h hp => by
   obtain ⟨g0,g1,rfl⟩:=hp
   simp (disch:=first|omega|exact zE rfl|exact zO|exact zL rfl) [c107_o1,size_mk,get_mk_lt,get_mk_ge,frameOf,Eff.app,Heap.setOwn,g0,g1]
  obtain ⟨l1,l2⟩:=c107_loop J hf0 h g rfl hn kp cs.length 0 (by omega)
  by_cases e : fi p 0 cs.length = -1
  ·rw [e]
   exact Tr.post (fun s h q => by simp [c107,q]) (Tr.seq t0 (Tr.seq (Tr.seq t1 (Tr.block (l1 e))) t3))
  ·exact Tr.post (fun s h q => by simp [c107,q]) (Tr.seq t0 (Tr.seq_out (Tr.seq t1 (Tr.block_out (l2 e) (by simp))) (by simp)))
end
def Pre107 (a : A111) (args : List AV) (h : Heap) : Prop:=Ok111 T64 a h ∧ args = [a.x,.func a.f a.cap]
noncomputable def T65 : CallF:=addK tbl T64 107 Pre107 Post111
theorem t65 : Sound zp T65:=Sound.addK follows ok t64 (by decide) _ _
abbrev K107 (J0 J : CallF) : Prop:=∀ (h : Heap) (a : A111),Ok111 J0 a h → J 107 [a.x,.func a.f a.cap] h = some (G (fi a.p 0 a.cs.length),[],zF)
theorem k107 : K107 T64 T65:=fun h a ha => by
 obtain ⟨v,own,e,rfl,rfl⟩:=addK_some (Pre:=Pre107) (Post:=Post111) (fun a args h hp => by
  obtain ⟨⟨h1,h2,h3,h4⟩,rfl⟩:=hp
  exact ⟨_,_,c107_ok T64 (fun _ _ => by simp (disch:=decide) only [T1,T2,T3,T4,T5,T6,T7,T8,T9,T10,T11,T12,T13,T14,T15,T16,T17,T18,T19,T20,T21,T22,T23,T24,T25,T26,T27,T28,T29,T30,T31,T32,T33,T34,T35,T36,T37,T38,T39,T40,T41,T42,T43,T44,T45,T46,T47,T48,T49,T50,T51,T52,T53,T54,T55,T56,T57,T58,T59,T60,T61,T62,T63,T64,addI_ne,addX_ne,addV_ne,addK_ne]; rfl) h1 h h2 h3 h4,rfl,rfl⟩) a _ h ⟨ha,rfl⟩
 exact e
theorem c95_ok (J J0 : CallF) (hJ : ∀ a h,J 95 a h = none) (k : K107 J0 J) (h : Heap) (a : A111) (ha : Ok111 J0 a h) : CallsTo tbl J 95 [a.x,.func a.f a.cap] h (.bool ((List.range a.cs.length).any a.p),[],zF):=by
 refine Tr.fnv (cf:=c95) (e:=.ret) (s:=T.set (T.set .leaf [] a.x) [zF] (.func a.f a.cap)) (by decide) rfl (hJ _ _) rfl rfl rfl (by simp) ?_
 have kk:=k ⟨h.get,h.size,[]⟩ a ⟨ha.1,ha.2.1.lo [],ha.2.2.1,ha.2.2.2.lo⟩
 have hb:=fi_any a.p a.cs.length
 rw [← hb]
 generalize fi a.p 0 a.cs.length = z at *
 generalize a.x = x at *
 generalize a.f = f at *
 generalize a.cap = cap at *
 have t : Tr tbl J ((.seq c95_o0 (.seq c95_o1 .ret))) (fun s h' => s = T.set (T.set .leaf [] x) [zF] (.func f cap) ∧ h' = frameOf h) .ret (fun s h => s.get [zT,zF] = .bool (decide (0 ≤ z))):=Tr.region fun s h hp => by
  obtain ⟨rfl,rfl⟩:=hp
  simp (disch:=first|omega|exact zE rfl|exact zO|exact zL rfl) [c95_o0,c95_o1,frameOf,size_mk,get_mk_lt,get_mk_ge,frameOf,Eff.app,Heap.setOwn,kk]
 exact Tr.post (fun s h q => by simp [c95,q]) t
noncomputable def T66 : CallF:=addK tbl T65 95 Pre107 Post102
theorem t66 : Sound zp T66:=Sound.addK follows ok t65 (by decide) _ _
theorem k95 (h : Heap) (a : A111) (ha : Ok111 T64 a h) : T66 95 [a.x,.func a.f a.cap] h = some (.bool ((List.range a.cs.length).any a.p),[],zF):=by
 obtain ⟨v,own,e,rfl,rfl⟩:=addK_some (Pre:=Pre107) (Post:=Post102) (fun a args h hp => by
  obtain ⟨h1,rfl⟩:=hp
  exact ⟨_,_,c95_ok T65 T64 (fun _ _ => by simp (disch:=decide) only [T1,T2,T3,T4,T5,T6,T7,T8,T9,T10,T11,T12,T13,T14,T15,T16,T17,T18,T19,T20,T21,T22,T23,T24,T25,T26,T27,T28,T29,T30,T31,T32,T33,T34,T35,T36,T37,T38,T39,T40,T41,T42,T43,T44,T45,T46,T47,T48,T49,T50,T51,T52,T53,T54,T55,T56,T57,T58,T59,T60,T61,T62,T63,T64,T65,addI_ne,addX_ne,addV_ne,addK_ne]; rfl) k107 h a h1,rfl,rfl⟩) a _ h ⟨ha,rfl⟩
 exact e
def rowOkS (qq : Nat) (L : List (List UInt8)) (s : List UInt8) : Bool:=decide (s.length = (L.getD 0 []).length) && goodS qq s
def isS (qq : Nat) (L : List (List UInt8)) : Bool:=decide (1 ≤ L.length ∧ L.length ≤ 40) && decide (1 ≤ (L.getD 0 []).length ∧ (L.getD 0 []).length ≤ 5) && L.all (rowOkS qq L)
def pS (qq : Nat) (L : List (List UInt8)) (i : Nat) : Bool:=decide ((L.getD i []).length ≠ (L.getD 0 []).length) || !goodS qq (L.getD i [])
theorem pS_any (qq : Nat) (L : List (List UInt8)) : (List.range L.length).any (pS qq L) = !L.all (rowOkS qq L):=by
 rw [← any_not_all L []]
 congr 1
 funext i
 unfold pS rowOkS
 rw [Bool.not_and]
 congr 1
 rw [Bool.eq_iff_iff]
 simp
section
variable {a : AR} {x : AV} {L : List (List UInt8)}
set_option maxHeartbeats 1000000 in
theorem c77_ok (J : CallF) (k60 : K60 J) (k95 : ∀ (h : Heap) (b : A111),Ok111 T64 b h → J 95 [b.x,.func b.f b.cap] h = some (.bool ((List.range b.cs.length).any b.p),[],zF)) (hJ : ∀ a h,J 77 a h = none) (h : Heap) (r : a.ru = zT) (hx : EL h x (ss L)) (lL : L.length ≤ 1000000) (ls : ∀ s ∈ L,s.length ≤ 1000000) :
  CallsTo tbl J 77 [a.v,x] h (.bool (isS a.q.toNat L),[],zF):=by
 refine Tr.fnv (cf:=c77) (e:=.ret) (s:=T.set (T.set .leaf [] a.v) [zF] x) (by decide) rfl (hJ _ _) rfl rfl rfl (by simp) ?_
 refine Tr.post (Q:=(fun s h => s.get [zT,zF] = .bool (isS a.q.toNat L))) (fun s h q => by simp [c77,q]) ?_
 have q3:=a.q3 r
 obtain ⟨qq,hq⟩ : ∃ qq : Nat,a.q = qq:=⟨a.q.toNat,by omega⟩
 have hqt : a.q.toNat = qq:=by omega
 rw [hqt]
 have hxF : EL (frameOf h) x (ss L):=hx.lo []
 generalize frameOf h = H0 at *
 obtain ⟨H1,hH1⟩ : ∃ H,H0.plus [.cells 0 3 [G a.q,a.x,a.y]] = H:=⟨_,rfl⟩
 obtain ⟨H2,hH2⟩ : ∃ H,H1.plus [.cells 0 1 [x]] = H:=⟨_,rfl⟩
 have k1 : Kp (fun _ => False) H0 H1:=by rw [← hH1]; exact Kp.plus _ _
 have k2 : Kp (fun _ => False) H1 H2:=by rw [← hH2]; exact Kp.plus _ _
 have g2 : H1.get H0.size = .cells 0 3 [G a.q,a.x,a.y]:=by rw [← hH1]; exact plus_at0 _ _ _ _ rfl
 have g2':=k2.at g2 (by simp) id
 have g3 : H2.get H1.size = .cells 0 1 [x]:=by rw [← hH2]; exact plus_at0 _ _ _ _ rfl
 have e60:=k60 L.length 1 40 H2
 have lss : (ss L).length = L.length:=by simp
 have es : isS qq L = (decide (1 ≤ L.length ∧ L.length ≤ 40) && decide (1 ≤ (L.getD 0 []).length ∧ (L.getD 0 []).length ≤ 5) && L.all (rowOkS qq L)):=rfl
 have cn : ∀ n : Nat,decide ((1 : Int) ≤ (n : Int) ∧ (n : Int) ≤ 40) = decide (1 ≤ n ∧ n ≤ 40):=fun n => by
  rw [Bool.eq_iff_iff,decide_eq_true_eq,decide_eq_true_eq]; omega
 rw [cn] at e60
 by_cases h1 : 1 ≤ L.length ∧ L.length ≤ 40
 ·rw [decide_eq_true h1] at e60 es
  have e60':=k60 (L.getD 0 []).length 1 5 H2
  have cn5 : decide ((1 : Int) ≤ ((L.getD 0 []).length : Int) ∧ ((L.getD 0 []).length : Int) ≤ 5) = decide (1 ≤ (L.getD 0 []).length ∧ (L.getD 0 []).length ≤ 5):=by
   rw [Bool.eq_iff_iff,decide_eq_true_eq,decide_eq_true_eq]; omega
  rw [cn5] at e60'
  have s0:=ss_at (L:=L) (i:=0) (by omega)
  have s0':=getI s0
  obtain ⟨_,e⟩ | ⟨b,v,e,g⟩:=hxF
  ·have : L.length = 0:=by rw [← lss,e]; rfl
   omega
  rw [lss] at e
  subst e
  have gH:=(k1.trans k2).at g (by simp) id
  by_cases h2 : 1 ≤ (L.getD 0 []).length ∧ (L.getD 0 []).length ≤ 5
  ·rw [decide_eq_true h2] at e60' es
   have ok95 : Ok111 T64 ⟨.slice b 0 L.length v,96,[.ptr H1.size 0 1,.ptr H0.size 0 3],ss L,pS qq L⟩ H2:=by
    refine ⟨show (96 : Nat) ≠ 0 by decide,.inr ⟨b,v,by rw [lss],gH⟩,by show (ss L).length < _; rw [lss]; omega,fun i c hi => ?_⟩
    have hlt : i < L.length:=by
     have:=(List.getElem?_eq_some_iff.1 hi).1
     rw [lss] at this; exact this
    rw [ss_at hlt] at hi
    cases hi
    have gl : ∀ b X,H2.get b = X → X ≠ .hole → (⟨H2.get,H2.size,[]⟩ : Heap).get b = X:=fun b X e hX => by rw [get_mk_lt _ _ _ _ (get_lt e hX)]; exact e
    have gi : L.getD i [] ∈ L:=by
     rw [zd,zq hlt]; exact List.getElem_mem _
    have g0 : L.getD 0 [] ∈ L:=by
     rw [zd,zq (by omega)]; exact List.getElem_mem _
    rw [hq] at g2'
    exact k96 (gl _ _ g3 (by simp)) (gl _ _ g2' (by simp)) (gl _ _ gH (by simp)) s0 (by omega) (by omega) (ls _ gi) (ls _ g0)
   have e95:=k95 H2 _ ok95
   simp only at e95
   rw [lss,pS_any] at e95
   rw [es]
   clear es ok95 k95 hx g k1 k2 ls e60' cn
   generalize L.all (rowOkS qq L) = z at *
   have lw:=(L.getD 0 []).length
   generalize hl0 : (L.getD 0 []).length = n0 at *
   have e60':=k60 n0 1 5 H2
   rw [decide_eq_true (by omega)] at e60'
   generalize hu0 : L.getD 0 [] = u0 at *
   generalize ss L = cs at *
   generalize hll : L.length = n at *
   clear k60
   refine Tr.w fun s1 H1 hp _ kR => ?_
   obtain ⟨rfl,rfl⟩:=hp
   have q : True:=trivial
   refine zCh ?_
   simp (disch:=omega) [c77_o0,zG,q,hH1,hH2]
   refine W.assoc ?_
   refine zCh ?_
   simp (disch:=omega) [c77_o1,zG,q,g3,e60,gH,s0,s0',lss,hl0,e60']
   refine zCh ?_
   simp (disch:=omega) [c77_o2,zG,q]
   refine zCh ?_
   simp (disch:=omega) [c77_o3,zG,q,g3,e95]
   refine W.ret ?_
   try simp only [zW,if_true]
   exact kR _ _ (by simp [T.get])
  ·rw [decide_eq_false h2] at e60' es
   rw [es]
   clear es k95 hx g k1 k2 ls cn k60 cn5
   generalize hl0 : (L.getD 0 []).length = n0 at *
   generalize hu0 : L.getD 0 [] = u0 at *
   generalize ss L = cs at *
   generalize hll : L.length = n at *
   refine Tr.w fun s1 H1 hp _ kR => ?_
   obtain ⟨rfl,rfl⟩:=hp
   have q : True:=trivial
   refine zCh ?_
   simp (disch:=omega) [c77_o0,zG,q,hH1,hH2]
   refine W.assoc ?_
   refine zCh ?_
   simp (disch:=omega) [c77_o1,zG,q,g3,e60,gH,s0,s0',lss,hl0,e60']
   refine zCh ?_
   simp (disch:=omega) [c77_o2,zG,q]
   exact kR _ _ (by simp [T.get])
 ·rw [decide_eq_false h1] at e60 es
  rw [es]
  have sx : (x = .nils ∧ L.length = 0) ∨ (x = .slice0 ∧ L.length = 0) ∨ ∃ b v,x = .slice b 0 L.length v:=by
   rcases hxF with ⟨e | e,e2⟩ | ⟨b,v,e,_⟩
   ·exact .inl ⟨e,by rw [← lss,e2]; rfl⟩
   ·exact .inr (.inl ⟨e,by rw [← lss,e2]; rfl⟩)
   ·exact .inr (.inr ⟨b,v,by rw [e,lss]⟩)
  clear es k95 hx k1 k2 ls cn hxF k60
  generalize hll : L.length = n at *
  rcases sx with ⟨rfl,rfl⟩ | ⟨rfl,rfl⟩ | ⟨b,v,rfl⟩
  all_goals
   try rw [show ((0 : Nat) : Int) = 0 from rfl] at e60
   refine Tr.w fun s1 H1 hp _ kR => ?_
   obtain ⟨rfl,rfl⟩:=hp
   have q : True:=trivial
   refine zCh ?_
   simp (disch:=omega) [c77_o0,zG,q,hH1,hH2]
   refine W.assoc ?_
   refine zCh ?_
   simp (disch:=omega) [c77_o1,zG,q,g3,e60]
   refine zCh ?_
   simp (disch:=omega) [c77_o2,zG,q]
   exact kR _ _ (by simp [T.get])
end
structure AS where
 a : AR
 x : AV
 L : List (List UInt8)
def OkAS (b : AS) (h : Heap) : Prop:=b.a.ru = zT ∧ EL h b.x (ss b.L) ∧ b.L.length ≤ 1000000 ∧ ∀ s ∈ b.L,s.length ≤ 1000000
def Pre77 (b : AS) (args : List AV) (h : Heap) : Prop:=OkAS b h ∧ args = [b.a.v,b.x]
def Post77 (b : AS) (h : Heap) (v : AV) (own : List AObj) : Prop:=v = .bool (isS b.a.q.toNat b.L) ∧ own = []
noncomputable def T67 : CallF:=addK tbl T66 77 Pre77 Post77
theorem t67 : Sound zp T67:=Sound.addK follows ok t66 (by decide) _ _
theorem k60_66 : K60 T66:=fun n lo hi h => by
 simp (disch:=decide) only [T1,T2,T3,T4,T5,T6,T7,T8,T9,T10,T11,T12,T13,T14,T15,T16,T17,T18,T19,T20,T21,T22,T23,T24,T25,T26,T27,T28,T29,T30,T31,T32,T33,T34,T35,T36,T37,T38,T39,T40,T41,T42,T43,T44,T45,T46,T47,T48,T49,T50,T51,T52,T53,T54,T55,T56,T57,T58,T59,T60,T61,T62,T63,T64,T65,T66,addI_ne,addX_ne,addV_ne,addK_ne]
 exact k60 n lo hi h
abbrev K77 (J : CallF) : Prop:=∀ (h : Heap) (b : AS),OkAS b h → J 77 [b.a.v,b.x] h = some (.bool (isS b.a.q.toNat b.L),[],zF)
theorem k77 : K77 T67:=fun h b o => by
 obtain ⟨v,own,e,rfl,rfl⟩:=addK_some (Pre:=Pre77) (Post:=Post77) (fun b args h hp => by
  obtain ⟨⟨h1,h2,h3,h4⟩,rfl⟩:=hp
  exact ⟨_,_,c77_ok T66 k60_66 k95 (fun _ _ => by simp (disch:=decide) only [T1,T2,T3,T4,T5,T6,T7,T8,T9,T10,T11,T12,T13,T14,T15,T16,T17,T18,T19,T20,T21,T22,T23,T24,T25,T26,T27,T28,T29,T30,T31,T32,T33,T34,T35,T36,T37,T38,T39,T40,T41,T42,T43,T44,T45,T46,T47,T48,T49,T50,T51,T52,T53,T54,T55,T56,T57,T58,T59,T60,T61,T62,T63,T64,T65,T66,addI_ne,addX_ne,addV_ne,addK_ne]; rfl) h h1 h2 h3 h4,rfl,rfl⟩) b _ h ⟨o,rfl⟩
 exact e
def kpB (a : AG) (R : List (List Nat)) (i : Nat) : Bool:=bsd a.B (R.getD i []) && (decide (i = 0) || blw a.W (R.getD (i - 1) []) (R.getD i []))
def kpS (a : AG) (R : List (List Nat)) : Bool:=af (kpB a R) 0 R.length
structure WS (a : AG) (m : Nat) (R : List (List Nat)) : Prop where
 w : ∀ w ∈ R,w.length = m ∧ ∀ c ∈ w,c < a.q
 l : R.length ≤ 1000
 m5 : m ≤ 1000
section
variable {a : AG} {m : Nat} {R : List (List Nat)} {b v : Nat}
theorem WS.at {i : Nat} (k : WS a m R) (hi : i < R.length) : (R.getD i []).length = m ∧ ∀ c ∈ R.getD i [],c < a.q:=k.w _ (by
 rw [zd,zq hi]
 exact List.getElem_mem _)
set_option maxHeartbeats 1000000 in
theorem c78_b0_ok (J : CallF) (k89 : KW 89 J) (k90 : KB 90 J) {H : Heap} {p : Nat} (o : OkG a H) (k : WS a m R) (gS : H.get p = .cells 0 3 [G a.q,a.x,a.y]) (gH : H.get b = .cells 1 v (wsL R)) {i : Nat} (hi : i < R.length) :
  (kpB a R i = zT → Tr tbl J (.trim [[zF],[zT],[zF,zF,zF],[zT,zF,zF],[zF,zT,zF]] c78_b0) (fun s h => h = H ∧ s.get [zF] = .slice b 0 R.length v ∧ s.get [zT] = .ptr p 0 3 ∧ s.get [zF,zF,zF] = .slice b 0 R.length v ∧ s.get [zT,zF,zF] = G R.length ∧ s.get [zF,zT,zF] = G (i : Nat)) .normal (fun s h => h = H ∧ s.get [zF] = .slice b 0 R.length v ∧ s.get [zT] = .ptr p 0 3 ∧ s.get [zF,zF,zF] = .slice b 0 R.length v ∧ s.get [zT,zF,zF] = G R.length ∧ s.get [zF,zT,zF] = G ((i + 1 : Nat) : Int))) ∧
  (kpB a R i = zF → Tr tbl J (.trim [[zF],[zT],[zF,zF,zF],[zT,zF,zF],[zF,zT,zF]] c78_b0) (fun s h => h = H ∧ s.get [zF] = .slice b 0 R.length v ∧ s.get [zT] = .ptr p 0 3 ∧ s.get [zF,zF,zF] = .slice b 0 R.length v ∧ s.get [zT,zF,zF] = G R.length ∧ s.get [zF,zT,zF] = G (i : Nat)) .ret (fun s h => s.get [zT,zF] = .bool zF)):=by
 have ki:=k.at hi
 have m5:=k.m5
 have e68:=k89 H a _ o ki.2 (by omega)
 have wi:=wsL_at (R:=R) hi
 have wi':=getI wi
 have lw:=wsL_len R
 have l1:=k.l
 have kb : kpB a R i = (bsd a.B (R.getD i []) && (decide (i = 0) || blw a.W (R.getD (i - 1) []) (R.getD i []))):=rfl
 rw [kb]
 have main : ∀ (s1 : T) (H1 : Heap) (Q : PQ),((fun s h => h = H ∧ s.get [zF] = .slice b 0 R.length v ∧ s.get [zT] = .ptr p 0 3 ∧ s.get [zF,zF,zF] = .slice b 0 R.length v ∧ s.get [zT,zF,zF] = G R.length ∧ s.get [zF,zT,zF] = G (i : Nat)) : SP) s1 H1 →
   ((bsd a.B (R.getD i []) && (decide (i = 0) || blw a.W (R.getD (i - 1) []) (R.getD i []))) = zT → ∀ s' h',((fun s h => h = H ∧ s.get [zF] = .slice b 0 R.length v ∧ s.get [zT] = .ptr p 0 3 ∧ s.get [zF,zF,zF] = .slice b 0 R.length v ∧ s.get [zT,zF,zF] = G R.length ∧ s.get [zF,zT,zF] = G ((i + 1 : Nat) : Int)) : SP) s' h' → Q .normal s' h') →
   ((bsd a.B (R.getD i []) && (decide (i = 0) || blw a.W (R.getD (i - 1) []) (R.getD i []))) = zF → ∀ s' h',((fun s h => s.get [zT,zF] = .bool zF) : SP) s' h' → Q .ret s' h') → W tbl J (.trim [[zF],[zT],[zF,zF,zF],[zT,zF,zF],[zF,zT,zF]] c78_b0) s1 H1 Q:=fun s1 H1 Q hp kA kB => by
  obtain ⟨rfl,q⟩:=hp
  cases i with
  | zero =>
   rw [decide_eq_true rfl,Bool.true_or,Bool.and_true] at kA kB
   clear o k ki kb k90
   generalize bsd a.B (R.getD 0 []) = z at *
   generalize stW (R.getD 0 []) = w0 at *
   generalize wsL R = ws at *
   generalize R.length = n at *
   cases z
   ·have kR:=kB rfl
    clear kA kB
    refine W.trim ?_
    refine zCh ?_
    simp (disch:=omega) [c78_o2,zG,q]
    refine zCh ?_
    simp (disch:=omega) [zG,q]
    refine W.seq (W.block ?_)
    refine zCh ?_
    simp (disch:=omega) [c78_o3,zG,q,gH,wi,wi',lw]
    refine zCh ?_
    simp (disch:=omega) [-evDraw_c,c78_o4,zG,q,evDraw_0,gS,gH,wi,wi',lw,e68,app_if,app_if']
    refine W.chunk ?_
    simp (disch:=omega) [c78_o5,zG,q]
    exact kR _ _ (by simp [T.get])
   ·have kR:=kA rfl
    clear kA kB
    refine W.trim ?_
    refine zCh ?_
    simp (disch:=omega) [c78_o2,zG,q]
    refine zCh ?_
    simp (disch:=omega) [zG,q]
    refine W.seq (W.block ?_)
    refine zCh ?_
    simp (disch:=omega) [c78_o3,zG,q,gH,wi,wi',lw]
    refine zCh ?_
    simp (disch:=omega) [-evDraw_c,c78_o4,zG,q,evDraw_0,gS,gH,wi,wi',lw,e68,app_if,app_if']
    refine W.chunk ?_
    simp (disch:=omega) [c78_o5,zG,q]
    refine W.chunk ?_
    simp (disch:=omega) [c78_o6,zG,q]
    exact kR _ _ (by simp [T.get,q])
  | succ i =>
   have kj:=k.at (i:=i) (by omega)
   have e69:=k90 H1 a (R.getD i []) (R.getD (i + 1) []) o kj.2 ki.2 (by omega) (by rw [ki.1,kj.1])
   rw [decide_eq_false (by omega),Bool.false_or,Nat.add_sub_cancel] at kA kB
   have wj:=wsL_at (R:=R) (i:=i) (by omega)
   have wj':=getI wj
   have n1 : ((i + 1 : Nat) : Int) = (i : Int) + 1:=by omega
   clear o k ki kj kb k90
   generalize bsd a.B (R.getD (i + 1) []) = z at *
   generalize blw a.W (R.getD i []) (R.getD (i + 1) []) = y at *
   generalize stW (R.getD (i + 1) []) = w1 at *
   generalize stW (R.getD i []) = w0 at *
   generalize wsL R = ws at *
   generalize R.length = n at *
   cases z
   ·have kR:=kB rfl
    clear kA kB
    refine W.trim ?_
    refine zCh ?_
    simp (disch:=omega) [c78_o2,zG,q]
    refine zCh ?_
    simp (disch:=omega) [zG,q]
    refine W.seq (W.block ?_)
    refine zCh ?_
    simp (disch:=omega) [c78_o3,zG,q,gH,wi,wi',lw]
    refine zCh ?_
    simp (disch:=omega) [-evDraw_c,c78_o4,zG,q,evDraw_0,gS,gH,wi,wi',wj,wj',lw,e68,e69,app_if,app_if']
    refine W.chunk ?_
    simp (disch:=omega) [c78_o5,zG,q]
    exact kR _ _ (by simp [T.get])
   ·cases y
    ·have kR:=kB rfl
     clear kA kB
     refine W.trim ?_
     refine zCh ?_
     simp (disch:=omega) [c78_o2,zG,q]
     refine zCh ?_
     simp (disch:=omega) [zG,q]
     refine W.seq (W.block ?_)
     refine zCh ?_
     simp (disch:=omega) [c78_o3,zG,q,gH,wi,wi',lw]
     refine zCh ?_
     simp (disch:=omega) [-evDraw_c,c78_o4,zG,q,evDraw_0,gS,gH,wi,wi',wj,wj',lw,e68,e69,app_if,app_if']
     refine W.chunk ?_
     simp (disch:=omega) [c78_o5,zG,q]
     exact kR _ _ (by simp [T.get])
    ·have kR:=kA rfl
     clear kA kB
     refine W.trim ?_
     refine zCh ?_
     simp (disch:=omega) [c78_o2,zG,q]
     refine zCh ?_
     simp (disch:=omega) [zG,q]
     refine W.seq (W.block ?_)
     refine zCh ?_
     simp (disch:=omega) [c78_o3,zG,q,gH,wi,wi',lw]
     refine zCh ?_
     simp (disch:=omega) [-evDraw_c,c78_o4,zG,q,evDraw_0,gS,gH,wi,wi',wj,wj',lw,e68,e69,app_if,app_if']
     refine W.chunk ?_
     simp (disch:=omega) [c78_o5,zG,q]
     refine W.chunk ?_
     simp (disch:=omega) [c78_o6,zG,q]
     exact kR _ _ (by simp [T.get,q])
 exact ⟨fun hs => Tr.w fun s1 H1 hp Q kR => main s1 H1 Q hp (fun _ => kR) (fun h => by rw [hs] at h; cases h),fun hs => Tr.w fun s1 H1 hp Q kR => main s1 H1 Q hp (fun h => by rw [hs] at h; cases h) (fun _ => kR)⟩
theorem c78_ok (J : CallF) (k89 : KW 89 J) (k90 : KB 90 J) (hJ : ∀ a h,J 78 a h = none) (h : Heap) (o : OkG a h) (k : WS a m R) (g : h.get b = .cells 1 v (wsL R)) : CallsTo tbl J 78 [a.v,.slice b 0 R.length v] h (.bool (kpS a R),[],zF):=by
 refine Tr.fnv (cf:=c78) (e:=.ret) (s:=T.set (T.set .leaf [] a.v) [zF] (.slice b 0 R.length v)) (by decide) rfl (hJ _ _) rfl rfl rfl (by simp) ?_
 refine Tr.post (Q:=(fun s h => s.get [zT,zF] = .bool (kpS a R))) (fun s h q => by simp [c78,q]) ?_
 have oF:=o.fr
 have gF : (frameOf h).get b = .cells 1 v (wsL R):=by
  unfold frameOf
  rw [get_mk_lt _ _ _ _ (get_lt g (by simp))]; exact g
 generalize frameOf h = H0 at *
 obtain ⟨H,hH⟩ : ∃ H,H0.plus [.cells 0 3 [G a.q,a.x,a.y]] = H:=⟨_,rfl⟩
 have kH : Kp (fun _ => False) H0 H:=by rw [← hH]; exact Kp.plus _ _
 have gS : H.get H0.size = .cells 0 3 [G a.q,a.x,a.y]:=by rw [← hH]; exact plus_at0 _ _ _ _ rfl
 have gH:=kH.at gF (by simp) id
 have b0:=fun {i} hi => c78_b0_ok J k89 k90 (oF.kp kH) k gS gH (i:=i) hi
 have l1:=k.l
 cases hk : kpS a R
 ·have l0 : Tr tbl J c78_l0 (fun s h => h = H ∧ s.get [zF] = .slice b 0 R.length v ∧ s.get [zT] = .ptr H0.size 0 3 ∧ s.get [zF,zF,zF] = .slice b 0 R.length v ∧ s.get [zT,zF,zF] = G R.length ∧ s.get [zF,zT,zF] = G ((0 : Nat) : Int)) .ret (fun s h => s.get [zT,zF] = .bool zF) :=
   Tr.allF (P:=fun i => (fun s h => h = H ∧ s.get [zF] = .slice b 0 R.length v ∧ s.get [zT] = .ptr H0.size 0 3 ∧ s.get [zF,zF,zF] = .slice b 0 R.length v ∧ s.get [zT,zF,zF] = G R.length ∧ s.get [zF,zT,zF] = G (i : Nat))) (p:=kpB a R) R.length (fun i hi hp => (b0 hi).1 hp) (fun i hi hp => (b0 hi).2 hp) (by simp) _ 0 (by omega) hk
  clear oF k gF o kH gH g b0 hk
  generalize R.length = n at *
  refine Tr.w fun s1 H1 hp _ kR => ?_
  obtain ⟨rfl,rfl⟩:=hp
  have q : True:=trivial
  refine zCh ?_
  simp (disch:=omega) [c78_o0,zG,q,hH]
  refine W.assoc ?_
  refine zCh ?_
  simp (disch:=omega) [c78_o1,zG,q]
  refine W.seq (W.block ?_)
  refine W.use (l0) (by simp (disch:=omega) [zG,q]) fun s1 H1 hp => ?_
  try simp only [zW,if_true]
  exact kR _ _ hp
 ·have fin : Tr tbl J (.trim [[zF],[zT],[zF,zF,zF],[zT,zF,zF],[zF,zT,zF]] c78_b0) (fun s h => h = H ∧ s.get [zF] = .slice b 0 R.length v ∧ s.get [zT] = .ptr H0.size 0 3 ∧ s.get [zF,zF,zF] = .slice b 0 R.length v ∧ s.get [zT,zF,zF] = G R.length ∧ s.get [zF,zT,zF] = G (R.length : Nat)) (.exit 0) (fun s h => h = H):=by
   clear b0 gS gH
   generalize R.length = n at *
   refine Tr.w fun s1 H1 hp _ kR => W.trim ?_
   obtain ⟨rfl,q⟩:=hp
   refine zCh ?_
   simp (disch:=omega) [c78_o2,zG,q]
   refine zCh ?_
   simp (disch:=omega) [zG,q]
   exact kR _ _ rfl
  have l0 : Tr tbl J c78_l0 (fun s h => h = H ∧ s.get [zF] = .slice b 0 R.length v ∧ s.get [zT] = .ptr H0.size 0 3 ∧ s.get [zF,zF,zF] = .slice b 0 R.length v ∧ s.get [zT,zF,zF] = G R.length ∧ s.get [zF,zT,zF] = G ((0 : Nat) : Int)) (.exit 0) (fun s h => h = H) :=
   Tr.allT (P:=fun i => (fun s h => h = H ∧ s.get [zF] = .slice b 0 R.length v ∧ s.get [zT] = .ptr H0.size 0 3 ∧ s.get [zF,zF,zF] = .slice b 0 R.length v ∧ s.get [zT,zF,zF] = G R.length ∧ s.get [zF,zT,zF] = G (i : Nat))) (p:=kpB a R) R.length (fun i hi hp => (b0 hi).1 hp) fin (by simp) _ 0 (by omega) hk
  clear oF k gF o kH gH g b0 hk fin
  generalize R.length = n at *
  refine Tr.w fun s1 H1 hp _ kR => ?_
  obtain ⟨rfl,rfl⟩:=hp
  have q : True:=trivial
  refine zCh ?_
  simp (disch:=omega) [c78_o0,zG,q,hH]
  refine W.assoc ?_
  refine zCh ?_
  simp (disch:=omega) [c78_o1,zG,q]
  refine W.seq (W.block ?_)
  refine W.use (l0) (by simp (disch:=omega) [zG,q]) fun s1 H1 hp => ?_
  obtain rfl:=hp
  try simp only [zW,if_true]
  refine zCh ?_
  simp (disch:=omega) [c78_o7,zG,q]
  refine W.ret ?_
  try simp only [zW,if_true]
  exact kR _ _ (by simp [T.get])
end
structure AWS where
 a : AG
 m : Nat
 R : List (List Nat)
 b : Nat
 v : Nat
def Ok78 (b : AWS) (h : Heap) : Prop:=OkG b.a h ∧ WS b.a b.m b.R ∧ h.get b.b = .cells 1 b.v (wsL b.R)
def Pre78 (b : AWS) (args : List AV) (h : Heap) : Prop:=Ok78 b h ∧ args = [b.a.v,.slice b.b 0 b.R.length b.v]
def Post78 (b : AWS) (h : Heap) (v : AV) (own : List AObj) : Prop:=v = .bool (kpS b.a b.R) ∧ own = []
noncomputable def T68 : CallF:=addK tbl T67 78 Pre78 Post78
theorem t68 : Sound zp T68:=Sound.addK follows ok t67 (by decide) _ _
theorem k89_67 : KW 89 T67:=fun h a w o hw lw => by
 rw [show T67 89 [a.v,.str (stW w)] h = T13 89 [a.v,.str (stW w)] h from by simp (disch:=decide) only [T14,T15,T16,T17,T18,T19,T20,T21,T22,T23,T24,T25,T26,T27,T28,T29,T30,T31,T32,T33,T34,T35,T36,T37,T38,T39,T40,T41,T42,T43,T44,T45,T46,T47,T48,T49,T50,T51,T52,T53,T54,T55,T56,T57,T58,T59,T60,T61,T62,T63,T64,T65,T66,T67,addI_ne,addX_ne,addV_ne,addK_ne]]; exact k89 h a w o hw lw
theorem k90_67 : KB 90 T67:=fun h a s t o hs ht ls lt => by
 rw [show T67 90 [a.v,.str (stW s),.str (stW t)] h = T15 90 [a.v,.str (stW s),.str (stW t)] h from by simp (disch:=decide) only [T16,T17,T18,T19,T20,T21,T22,T23,T24,T25,T26,T27,T28,T29,T30,T31,T32,T33,T34,T35,T36,T37,T38,T39,T40,T41,T42,T43,T44,T45,T46,T47,T48,T49,T50,T51,T52,T53,T54,T55,T56,T57,T58,T59,T60,T61,T62,T63,T64,T65,T66,T67,addI_ne,addX_ne,addV_ne,addK_ne]]; exact k90 h a s t o hs ht ls lt
abbrev K78 (J : CallF) : Prop:=∀ (h : Heap) (a : AG) (m : Nat) (R : List (List Nat)) (b v : Nat),OkG a h → WS a m R → h.get b = .cells 1 v (wsL R) → J 78 [a.v,.slice b 0 R.length v] h = some (.bool (kpS a R),[],zF)
theorem k78 : K78 T68:=fun h a m R b v o k g => by
 obtain ⟨v,own,e,rfl,rfl⟩:=addK_some (Pre:=Pre78) (Post:=Post78) (fun b args h hp => by
  obtain ⟨⟨o,k,g⟩,rfl⟩:=hp
  exact ⟨_,_,c78_ok T67 k89_67 k90_67 (fun _ _ => by simp (disch:=decide) only [T1,T2,T3,T4,T5,T6,T7,T8,T9,T10,T11,T12,T13,T14,T15,T16,T17,T18,T19,T20,T21,T22,T23,T24,T25,T26,T27,T28,T29,T30,T31,T32,T33,T34,T35,T36,T37,T38,T39,T40,T41,T42,T43,T44,T45,T46,T47,T48,T49,T50,T51,T52,T53,T54,T55,T56,T57,T58,T59,T60,T61,T62,T63,T64,T65,T66,T67,addI_ne,addX_ne,addV_ne,addK_ne]; rfl) h o k g,rfl,rfl⟩) ⟨a,m,R,b,v⟩ _ h ⟨⟨o,k,g⟩,rfl⟩
 exact e
theorem goodB_of {qq : Nat} {u : UInt8} (q3 : qq ≤ 3) (h : goodB qq u = zT) : ∃ c,c < qq ∧ UInt8.ofNat (48 + c) = u:=by
 unfold goodB at h
 rw [decide_eq_true_eq] at h
 refine ⟨u.toNat - 48,by omega,?_⟩
 rw [show 48 + (u.toNat - 48) = u.toNat by omega]
 exact UInt8.ofNat_toNat
theorem goodS_of {qq : Nat} (q3 : qq ≤ 3) : ∀ {s : List UInt8},goodS qq s = zT → ∃ w,stW w = s ∧ ∀ c ∈ w,c < qq
 | [],_ => ⟨[],rfl,fun c h => (by cases h)⟩
 | u :: s,h => by
  unfold goodS at h
  rw [List.all_cons,Bool.and_eq_true] at h
  obtain ⟨c,h1,h2⟩:=goodB_of q3 h.1
  obtain ⟨w,h3,h4⟩:=goodS_of q3 (s:=s) h.2
  refine ⟨c :: w,?_,fun d hd => ?_⟩
  ·show UInt8.ofNat (48 + c) :: stW w = u :: s
   rw [h2,h3]
  ·rcases List.mem_cons.1 hd with rfl | hd
   ·exact h1
   ·exact h4 d hd
theorem words_all {qq m : Nat} (q3 : qq ≤ 3) : ∀ {L : List (List UInt8)},(∀ s ∈ L,s.length = m ∧ goodS qq s = zT) → ∃ R : List (List Nat),L = R.map stW ∧ ∀ w ∈ R,w.length = m ∧ ∀ c ∈ w,c < qq
 | [],_ => ⟨[],rfl,fun w h => (by cases h)⟩
 | s :: L,h => by
  obtain ⟨h1,h2⟩:=h s (by simp)
  obtain ⟨w,h3,h4⟩:=goodS_of q3 h2
  obtain ⟨R,h5,h6⟩:=words_all q3 (L:=L) fun t ht => h t (by simp [ht])
  refine ⟨w :: R,by rw [h5,List.map_cons,h3],fun v hv => ?_⟩
  rcases List.mem_cons.1 hv with rfl | hv
  ·exact ⟨by rw [← h1,← h3,stW_len],h4⟩
  ·exact h6 v hv
theorem isS_words {qq : Nat} (q3 : qq ≤ 3) {L : List (List UInt8)} (h : isS qq L = zT) : ∃ (m : Nat) (R : List (List Nat)),L = R.map stW ∧ (∀ w ∈ R,w.length = m ∧ ∀ c ∈ w,c < qq) ∧ 1 ≤ m ∧ m ≤ 5 ∧ 1 ≤ R.length ∧ R.length ≤ 40 ∧ (L.getD 0 []).length = m:=by
 unfold isS at h
 simp only [Bool.and_eq_true,decide_eq_true_eq] at h
 obtain ⟨⟨h1,h2⟩,h3⟩:=h
 obtain ⟨R,h4,h5⟩:=words_all (m:=(L.getD 0 []).length) q3 fun s hs => by
  have:=List.all_eq_true.1 h3 s hs
  unfold rowOkS at this
  simpa only [Bool.and_eq_true,decide_eq_true_eq] using this
 have hl : R.length = L.length:=by rw [h4,List.length_map]
 exact ⟨_,R,h4,h5,h2.1,h2.2,by omega,by omega,rfl⟩
theorem goodS_st {qq : Nat} {w : List Nat} (q3 : qq ≤ 3) (h : ∀ c ∈ w,c < qq) : goodS qq (stW w) = zT:=by
 unfold goodS stW
 rw [List.all_eq_true]
 intro u hu
 obtain ⟨c,hc,rfl⟩:=List.mem_map.1 hu
 have:=h c hc
 unfold goodB
 rw [decide_eq_true_eq,UInt8.toNat_ofNat']
 omega
theorem isS_of {qq m : Nat} (q3 : qq ≤ 3) {R : List (List Nat)} (h : ∀ w ∈ R,w.length = m ∧ ∀ c ∈ w,c < qq) (h1 : 1 ≤ m) (h2 : m ≤ 5) (h3 : 1 ≤ R.length) (h4 : R.length ≤ 40) : isS qq (R.map stW) = zT:=by
 have h0 : ((R.map stW).getD 0 []).length = m:=by
  rw [zd,List.getElem?_map,zq (by omega)]
  show (stW R[0]).length = m
  rw [stW_len]
  exact (h _ (List.getElem_mem _)).1
 unfold isS
 rw [h0,List.length_map,decide_eq_true ⟨h3,h4⟩,decide_eq_true ⟨h1,h2⟩,Bool.true_and,Bool.true_and,List.all_eq_true]
 intro s hs
 obtain ⟨w,hw,rfl⟩:=List.mem_map.1 hs
 unfold rowOkS
 rw [h0,stW_len,(h w hw).1,decide_eq_true rfl,Bool.true_and]
 exact goodS_st q3 (h w hw).2
def Post45 (a : AR) (L : List (List UInt8)) (v : AV) (own : List AObj) : Prop:=own = [] ∧ ((a.ru && isS a.q.toNat L) = zF → v = .tup [.bool zF,G 2]) ∧ ((a.ru && isS a.q.toNat L) = zT → ∀ R : List (List Nat),L = R.map stW → (∀ w ∈ R,∀ c ∈ w,c < a.q.toNat) → v = .tup [.bool (kpS a.g R),G 0])
section
variable {a : AR} {x : AV} {L : List (List UInt8)}
theorem stW_map_inj {R R' : List (List Nat)} (h : ∀ w ∈ R,∀ c ∈ w,c < 3) (h' : ∀ w ∈ R',∀ c ∈ w,c < 3) (e : R.map stW = R'.map stW) : R = R':=by
 induction R generalizing R' with
 | nil =>
  cases R' with
  | nil => rfl
  | cons b R' => simp at e
 | cons b R ih =>
  cases R' with
  | nil => simp at e
  | cons b' R' =>
   simp only [List.map_cons,List.cons.injEq] at e
   rw [stW_inj (h b (by simp)) (h' b' (by simp)) e.1,ih (fun w hw => h w (by simp [hw])) (fun w hw => h' w (by simp [hw])) e.2]
set_option maxHeartbeats 1000000 in
theorem c45_ok (J : CallF) (k57 : KR 57 J) (k77 : K77 J) (k78 : K78 J) (hJ : ∀ a h,J 45 a h = none) (h : Heap) (o : OkR a h) (hx : EL h x (ss L)) (lL : L.length ≤ 1000000) (ls : ∀ s ∈ L,s.length ≤ 1000000) :
  ∃ v own,CallsTo tbl J 45 [a.v,x] h (v,own,zF) ∧ Post45 a L v own:=by
 obtain ⟨Hs,hHs⟩ : ∃ H,(frameOf h).plus [.cells 0 3 [G a.q,a.x,a.y]] = H:=⟨_,rfl⟩
 have kHs : Kp (fun _ => False) (frameOf h) Hs:=by rw [← hHs]; exact Kp.plus _ _
 have oH : OkR a Hs:=OkR.kp (o.lo []) kHs
 have gS : Hs.get h.size = .cells 0 3 [G a.q,a.x,a.y]:=by rw [← hHs]; exact plus_at0 _ _ _ _ (frS h)
 have e57:=k57 Hs a oH
 have er : ruQ a.q a.B a.W = a.ru:=rfl
 rw [er] at e57
 have hxF : EL (frameOf h) x (ss L):=hx.lo []
 have hxH : EL Hs x (ss L):=by
  rcases hxF with h | ⟨b,v,e,g⟩
  ·exact .inl h
  ·exact .inr ⟨b,v,e,kHs.at g (by simp) id⟩
 have fz:=frS h
 have av : a.v = .agg [G a.q,a.x,a.y]:=rfl
 cases r : a.ru
 ·have : CallsTo tbl J 45 [a.v,x] h (.tup [.bool zF,G 2],[],zF):=by
   refine Tr.fnv (cf:=c45) (e:=.ret) (s:=T.set (T.set .leaf [] a.v) [zF] x) (by decide) rfl (hJ _ _) rfl rfl rfl (by simp) ?_
   refine Tr.post (Q:=(fun s h => s.get [zT,zF] = .bool zF ∧ s.get [zF,zT] = G 2)) (fun s h q => by simp [c45,q]) ?_
   rw [r] at e57
   clear oH o hx hxF hxH ls kHs
   refine Tr.w fun s1 H1 hp _ kR => ?_
   obtain ⟨rfl,rfl⟩:=hp
   have q : True:=trivial
   refine zCh ?_
   simp (disch:=omega) [c45_o0,zG,q,hHs]
   refine W.assoc ?_
   refine zCh ?_
   simp (disch:=omega) [c45_o1,zG,q,fz,gS,e57]
   refine zCh ?_
   simp (disch:=omega) [c45_o2,zG,q]
   exact kR _ _ (by simp [T.get])
  exact ⟨_,_,this,rfl,fun _ => rfl,fun e => (by rw [r] at e; simp at e)⟩
 ·rw [r] at e57
  have e77:=k77 Hs ⟨a,x,L⟩ ⟨r,hxH,lL,ls⟩
  simp only at e77
  cases i : isS a.q.toNat L
  ·have : CallsTo tbl J 45 [a.v,x] h (.tup [.bool zF,G 2],[],zF):=by
    refine Tr.fnv (cf:=c45) (e:=.ret) (s:=T.set (T.set .leaf [] a.v) [zF] x) (by decide) rfl (hJ _ _) rfl rfl rfl (by simp) ?_
    refine Tr.post (Q:=(fun s h => s.get [zT,zF] = .bool zF ∧ s.get [zF,zT] = G 2)) (fun s h q => by simp [c45,q]) ?_
    rw [i] at e77
    clear oH o hx hxF hxH ls kHs
    refine Tr.w fun s1 H1 hp _ kR => ?_
    obtain ⟨rfl,rfl⟩:=hp
    have q : True:=trivial
    refine zCh ?_
    simp (disch:=omega) [c45_o0,zG,q,hHs]
    refine W.assoc ?_
    refine zCh ?_
    simp (disch:=omega) [c45_o1,zG,q,fz,gS,e57,e77]
    refine zCh ?_
    simp (disch:=omega) [c45_o2,zG,q]
    exact kR _ _ (by simp [T.get])
   exact ⟨_,_,this,rfl,fun _ => rfl,fun e => (by rw [i] at e; simp at e)⟩
  ·have q3:=a.q3 r
   obtain ⟨m,R,rfl,hw,m1,m5,n1,n40,_⟩:=isS_words (by omega) i
   have ws : WS a.g m R:=⟨hw,by omega,by omega⟩
   have lw:=wsL_len R
   obtain ⟨_,e⟩ | ⟨b,v,rfl,g⟩:=hxH
   ·rw [← ws_ss] at e
    have : (wsL R).length = 0:=by rw [e]; rfl
    omega
   rw [← ws_ss] at g
   have ls' : (ss (R.map stW)).length = R.length:=by simp
   rw [ls'] at e77
   have e78:=k78 Hs a.g m R b v (oH.g r) ws g
   rw [a.gv r,av] at e78
   rw [av] at e77
   have : CallsTo tbl J 45 [a.v,.slice b 0 R.length v] h (.tup [.bool (kpS a.g R),G 0],[],zF):=by
    refine Tr.fnv (cf:=c45) (e:=.ret) (s:=T.set (T.set .leaf [] a.v) [zF] (.slice b 0 R.length v)) (by decide) rfl (hJ _ _) rfl rfl rfl (by simp) ?_
    refine Tr.post (Q:=(fun s h => s.get [zT,zF] = .bool (kpS a.g R) ∧ s.get [zF,zT] = G 0)) (fun s h q => by simp [c45,q]) ?_
    rw [i] at e77
    clear oH o hx hxF ls kHs ws hw
    generalize kpS a.g R = z at *
    generalize R.length = n at *
    refine Tr.w fun s1 H1 hp _ kR => ?_
    obtain ⟨rfl,rfl⟩:=hp
    have q : True:=trivial
    refine zCh ?_
    simp (disch:=omega) [c45_o0,zG,q,hHs]
    refine W.assoc ?_
    refine zCh ?_
    simp (disch:=omega) [c45_o1,zG,q,fz,gS,e57,e77]
    refine zCh ?_
    simp (disch:=omega) [c45_o2,zG,q]
    refine zCh ?_
    simp (disch:=omega) [c45_o3,zG,q,fz,gS,e78]
    refine W.ret ?_
    try simp only [zW,if_true]
    exact kR _ _ (by simp [T.get])
   rw [ls'] at hx ⊢
   refine ⟨_,_,this,rfl,fun e => (by rw [r,i] at e; simp at e),fun _ R' e hR' => ?_⟩
   rw [stW_map_inj (fun w hw' c hc => by have:=(hw w hw').2 c hc; omega) (fun w hw' c hc => by have:=hR' w hw' c hc; omega) e]
end
structure A45 where
 a : AR
 x : AV
 L : List (List UInt8)
def Ok45 (b : A45) (h : Heap) : Prop:=OkR b.a h ∧ EL h b.x (ss b.L) ∧ b.L.length ≤ 1000000 ∧ ∀ s ∈ b.L,s.length ≤ 1000000
def Pre45 (b : A45) (args : List AV) (h : Heap) : Prop:=Ok45 b h ∧ args = [b.a.v,b.x]
noncomputable def T69 : CallF:=addK tbl T68 45 Pre45 (fun b _ v own => Post45 b.a b.L v own)
theorem t69 : Sound zp T69:=Sound.addK follows ok t68 (by decide) _ _
theorem k57_68 : KR 57 T68:=fun h a o => by
 rw [show T68 57 [.agg [G a.q,a.x,a.y]] h = T10 57 [.agg [G a.q,a.x,a.y]] h from by simp (disch:=decide) only [T11,T12,T13,T14,T15,T16,T17,T18,T19,T20,T21,T22,T23,T24,T25,T26,T27,T28,T29,T30,T31,T32,T33,T34,T35,T36,T37,T38,T39,T40,T41,T42,T43,T44,T45,T46,T47,T48,T49,T50,T51,T52,T53,T54,T55,T56,T57,T58,T59,T60,T61,T62,T63,T64,T65,T66,T67,T68,addI_ne,addX_ne,addV_ne,addK_ne]]; exact k57 h a o
theorem k77_68 : K77 T68:=fun h b o => by
 rw [show T68 77 [b.a.v,b.x] h = T67 77 [b.a.v,b.x] h from by simp (disch:=decide) only [T68,addI_ne,addX_ne,addV_ne,addK_ne]]; exact k77 h b o
abbrev K45 (J : CallF) : Prop:=∀ (h : Heap) (b : A45),Ok45 b h → ∃ v own,J 45 [b.a.v,b.x] h = some (v,own,zF) ∧ Post45 b.a b.L v own
theorem k45 : K45 T69:=fun h b o => by
 obtain ⟨v,own,e,l⟩:=addK_some (Pre:=Pre45) (Post:=fun b _ v own => Post45 b.a b.L v own) (fun b args h hp => by
  obtain ⟨⟨h1,h2,h3,h4⟩,rfl⟩:=hp
  exact c45_ok T68 k57_68 k77_68 k78 (fun _ _ => by simp (disch:=decide) only [T1,T2,T3,T4,T5,T6,T7,T8,T9,T10,T11,T12,T13,T14,T15,T16,T17,T18,T19,T20,T21,T22,T23,T24,T25,T26,T27,T28,T29,T30,T31,T32,T33,T34,T35,T36,T37,T38,T39,T40,T41,T42,T43,T44,T45,T46,T47,T48,T49,T50,T51,T52,T53,T54,T55,T56,T57,T58,T59,T60,T61,T62,T63,T64,T65,T66,T67,T68,addI_ne,addX_ne,addV_ne,addK_ne]; rfl) h h1 h2 h3 h4) b _ h ⟨o,rfl⟩
 exact ⟨v,own,e,l⟩
theorem own_all (own : List AObj) : Eff.isAll (if own = [] then Eff.none else Eff.grow own) = zF:=by
 split <;> rfl
theorem isAll_none : Eff.isAll Eff.none = zF:=rfl
theorem VC.lt {S : List (List Nat)} : ∀ {P : List Nat} {now : Int},VC S now P → ∀ c ∈ P,c < S.length
 | [],_,_,c,h => by cases h
 | d :: P,now,⟨h1,_,h3⟩,c,h => by
  rcases List.mem_cons.1 h with rfl | h
  ·exact h1
  ·exact h3.lt c h
theorem kpS_iff {a : AG} {R : List (List Nat)} : kpS a R = zT ↔ ∀ i,i < R.length → bsd a.B (R.getD i []) = zT ∧ (i = 0 ∨ blw a.W (R.getD (i - 1) []) (R.getD i []) = zT):=by
 unfold kpS
 rw [af_iff]
 constructor
 ·intro h i hi
  have:=h i (Nat.zero_le _) (by omega)
  unfold kpB at this
  simpa only [Bool.and_eq_true,Bool.or_eq_true,decide_eq_true_eq] using this
 ·intro h i _ hi
  have:=h i (by omega)
  unfold kpB
  simpa only [Bool.and_eq_true,Bool.or_eq_true,decide_eq_true_eq] using this
def Post44 (a : AR) (L : List (List UInt8)) (v : AV) (own : List AObj) : Prop:=own = [] ∧
 ((a.ru && isS a.q.toNat L) = zF → v = .tup [G 0,G 2]) ∧
 ((a.ru && isS a.q.toNat L) = zT → okC (a.steps (L.getD 0 []).length) L.length = zF → v = .tup [G 0,G 5]) ∧
 ((a.ru && isS a.q.toNat L) = zT → okC (a.steps (L.getD 0 []).length) L.length = zT → ∀ R : List (List Nat),L = R.map stW → (∀ w ∈ R,∀ c ∈ w,c < a.q.toNat) → (kpS a.g R = zF → v = .tup [G 0,G 6]) ∧
  ∀ P : List Nat,kpS a.g R = zT → R = rT2 (a.rows (L.getD 0 []).length) P → VC (a.steps (L.getD 0 []).length) (-1) P → v = .tup [G (ix (a.steps (L.getD 0 []).length) (-1) P),G 0])
section
variable {a : AR} {x : AV} {L : List (List UInt8)}
end
noncomputable def T70 : CallF:=addK tbl T69 44 Pre45 (fun b _ v own => Post44 b.a b.L v own)
theorem t70 : Sound zp T70:=Sound.addK follows ok t69 (by decide) _ _
def bfr : List (List UInt8) → List (List UInt8) → Bool
 | a :: L,b :: M => if a = b then bfr L M else Op.bytesLess a b
 | _,_ => zF
theorem bfr_at {x y : List UInt8} : ∀ {t : Nat} {L M : List (List UInt8)},(∀ u,u < t → L[u]? = M[u]?) → L[t]? = some x → M[t]? = some y → x ≠ y → bfr L M = Op.bytesLess x y
 | 0,a :: L,b :: M,_,h1,h2,hn => by
  simp only [List.getElem?_cons_zero,Option.some.injEq] at h1 h2
  subst h1; subst h2
  unfold bfr
  rw [if_neg hn]
 | t + 1,a :: L,b :: M,h,h1,h2,hn => by
  have h0:=h 0 (by omega)
  simp only [List.getElem?_cons_zero,Option.some.injEq] at h0
  unfold bfr
  rw [if_pos h0]
  exact bfr_at (t:=t) (fun u hu => h (u + 1) (by omega)) h1 h2 hn
 | 0,[],_,_,h1,_,_ => by cases h1
 | _ + 1,[],_,_,h1,_,_ => by cases h1
 | 0,_ :: _,[],_,_,h2,_ => by cases h2
 | _ + 1,_ :: _,[],_,_,h2,_ => by cases h2
theorem bless {c d : Nat} (hc : c < d) (hd : d < 3) (u v : List Nat) : ∀ s : List Nat,Op.bytesLess (stW (s ++ c :: u)) (stW (s ++ d :: v)) = zT
 | [] => by
  show (decide (UInt8.ofNat (48 + c) < UInt8.ofNat (48 + d)) || _) = zT
  rw [decide_eq_true (by rw [UInt8.lt_iff_toNat_lt,UInt8.toNat_ofNat',UInt8.toNat_ofNat']; omega)]; rfl
 | e :: s => by
  show (decide (UInt8.ofNat (48 + e) < UInt8.ofNat (48 + e)) || (UInt8.ofNat (48 + e) == UInt8.ofNat (48 + e) && Op.bytesLess (stW (s ++ c :: u)) (stW (s ++ d :: v)))) = zT
  rw [bless hc hd u v s]
  simp
theorem exL_srt {q : Nat} (q3 : q ≤ 3) : ∀ k s,(exL q k s).Pairwise fun x y => Op.bytesLess (stW x) (stW y) = zT
 | 0,s => by simp [exL]
 | k + 1,s => by
  show ((List.range q).flatMap fun c => exL q k (s ++ [c])).Pairwise _
  rw [List.pairwise_flatMap]
  refine ⟨fun c _ => exL_srt q3 k _,?_⟩
  have hr : (List.range q).Pairwise fun a b => a < b ∧ b < q:=by
   rw [List.pairwise_iff_getElem]
   intro i j hi hj hij
   rw [List.getElem_range,List.getElem_range]
   rw [List.length_range] at hj
   exact ⟨hij,hj⟩
  refine hr.imp fun {c d} hcd x hx y hy => ?_
  obtain ⟨u,rfl,_⟩:=exL_mem _ _ _ hx
  obtain ⟨v,rfl,_⟩:=exL_mem _ _ _ hy
  rw [List.append_assoc,List.append_assoc]
  exact bless hcd.1 (by omega) u v s
theorem rows_srt {q m : Nat} {B : List (List Int)} (q3 : q ≤ 3) {x y : Nat} (h : x < y) (hy : y < (rwL q B m).length) : Op.bytesLess (stW ((rwL q B m).getD x [])) (stW ((rwL q B m).getD y [])) = zT:=by
 have:=(exL_srt q3 m []).filter (bsd B)
 rw [List.pairwise_iff_getElem] at this
 have:=this x y (show x < (rwL q B m).length by omega) hy h
 rw [zd,zd,zq (by omega : x < (rwL q B m).length),zq hy]
 exact this
theorem bl_irr : ∀ s : List UInt8,Op.bytesLess s s = zF
 | [] => rfl
 | a :: s => by
  show (decide (a < a) || (a == a && Op.bytesLess s s)) = zF
  rw [bl_irr s]
  simp
section
variable {L M : List (List UInt8)} {b1 v1 b2 v2 n : Nat}
set_option maxHeartbeats 1000000 in
theorem c54_l0_w (J : CallF) {H : Heap} (g1 : H.get b1 = .cells 1 v1 (ss L)) (g2 : H.get b2 = .cells 1 v2 (ss M)) (l1 : L.length = n) (l2 : M.length = n) (hn : n ≤ 1000000) : ∀ d i,i + d = n → ∀ (s1 : T) (R : PQ),(s1.get [] = .slice b1 0 n v1 ∧ s1.get [zF] = .slice b2 0 n v2 ∧ s1.get [zF,zT] = G i) →
  (af (sE L M) i d = zT → ∀ s' h',True → R (.exit 0) s' h') → (af (sE L M) i d = zF → ∀ s' h',s'.get [zT,zF] = .bool (bfr (L.drop i) (M.drop i)) → R .ret s' h') → W tbl J c54_l0 s1 H R:=by
 have sl1 : (ss L).length = n:=by simp [l1]
 have sl2 : (ss M).length = n:=by simp [l2]
 intro d
 induction d with
 | zero =>
  intro i hi s1 R q0 kA kB
  have kR:=kA rfl
  obtain rfl : i = n:=by omega
  have q:=q0
  clear kA kB q0
  refine W.loop (W.trim ?_)
  refine W.assoc ?_
  refine zCh ?_
  simp (disch:=omega) [c54_o2,zG,q]
  refine zCh ?_
  simp (disch:=omega) [zG,q]
  exact kR _ _ trivial
 | succ d ih =>
  intro i hi s1 R q0 kA kB
  replace ih:=ih (i + 1) (by omega)
  have e1:=ss_at (L:=L) (i:=i) (by omega)
  have e2:=ss_at (L:=M) (i:=i) (by omega)
  have e1':=getI e1
  have e2':=getI e2
  have d1 : L.drop i = L.getD i [] :: L.drop (i + 1):=by
   rw [List.drop_eq_getElem_cons (by omega),zd,zq (by omega)]; rfl
  have d2 : M.drop i = M.getD i [] :: M.drop (i + 1):=by
   rw [List.drop_eq_getElem_cons (by omega),zd,zq (by omega)]; rfl
  have ea : af (sE L M) i (d + 1) = (sE L M i && af (sE L M) (i + 1) d):=rfl
  have es : sE L M i = decide (L.getD i [] = M.getD i []):=rfl
  have eb : bfr (L.getD i [] :: L.drop (i + 1)) (M.getD i [] :: M.drop (i + 1)) = if L.getD i [] = M.getD i [] then bfr (L.drop (i + 1)) (M.drop (i + 1)) else Op.bytesLess (L.getD i []) (M.getD i []):=rfl
  rw [ea] at kA kB
  rw [d1,d2,eb] at kB
  have q:=q0
  by_cases c : L.getD i [] = M.getD i []
  ·rw [if_pos c] at kB
   rw [es,decide_eq_true c,Bool.true_and] at kA kB
   replace ih:=fun s' h2 => ih s' R h2 kA kB
   rw [c] at e1 e1'
   clear kA kB q0 ea es eb d1 d2
   generalize M.getD i [] = u at *
   generalize ss L = sl at *
   generalize ss M = sm at *
   refine W.loop (W.trim ?_)
   refine W.assoc ?_
   refine zCh ?_
   simp (disch:=omega) [c54_o2,zG,q]
   refine zCh ?_
   simp (disch:=omega) [zG,q]
   refine W.seq (W.block ?_)
   refine zCh ?_
   simp (disch:=omega) [-evDraw_c,c54_o3,zG,q,evDraw_0,g1,g2,e1,e1',e2,e2',sl1,sl2]
   refine W.chunk ?_
   simp (disch:=omega) [c54_o4,zG,q,-evDraw_c,evDraw_0]
   refine W.chunk ?_
   simp (disch:=omega) [c54_o5,zG,q]
   refine ih _ ?_
   simp [T.get,q]
  ·rw [if_neg c] at kB
   rw [es,decide_eq_false c,Bool.false_and] at kB
   have kR:=kB rfl
   clear kA kB q0 ea es eb d1 d2 ih
   generalize M.getD i [] = u at *
   generalize L.getD i [] = w at *
   generalize ss L = sl at *
   generalize ss M = sm at *
   have c' : (w == u) = zF:=by simp [c]
   refine W.loop (W.trim ?_)
   refine W.assoc ?_
   refine zCh ?_
   simp (disch:=omega) [c54_o2,zG,q]
   refine zCh ?_
   simp (disch:=omega) [zG,q]
   refine W.seq (W.block ?_)
   refine zCh ?_
   simp (disch:=omega) [-evDraw_c,c54_o3,zG,q,evDraw_0,g1,g2,e1,e1',e2,e2',sl1,sl2,c',c]
   refine W.chunk ?_
   simp (disch:=omega) [c54_o4,zG,q,-evDraw_c,evDraw_0,g1,g2,e1,e1',e2,e2',sl1,sl2]
   exact kR _ _ (by simp [T.get])
theorem bfr_same : ∀ L : List (List UInt8),bfr L L = zF
 | [] => rfl
 | a :: L => by unfold bfr; rw [if_pos rfl]; exact bfr_same L
theorem c54_ok (J : CallF) (hJ : ∀ a h,J 54 a h = none) (h : Heap) (g1 : h.get b1 = .cells 1 v1 (ss L)) (g2 : h.get b2 = .cells 1 v2 (ss M)) (l1 : L.length = n) (l2 : M.length = n) (hn : n ≤ 1000000) : CallsTo tbl J 54 [.slice b1 0 n v1,.slice b2 0 n v2] h (.bool (bfr L M),[],zF):=by
 refine Tr.fnv (cf:=c54) (e:=.ret) (s:=T.set (T.set .leaf [] (.slice b1 0 n v1)) [zF] (.slice b2 0 n v2)) (by decide) rfl (hJ _ _) rfl rfl rfl (by simp) ?_
 refine Tr.post (Q:=(fun s h => s.get [zT,zF] = .bool (bfr L M))) (fun s h q => by simp [c54,q]) ?_
 have gl : ∀ b X,h.get b = X → X ≠ .hole → (frameOf h).get b = X:=fun b X e hX => by
  unfold frameOf
  rw [get_mk_lt _ _ _ _ (get_lt e hX)]; exact e
 have f1:=gl _ _ g1 (by simp)
 have f2:=gl _ _ g2 (by simp)
 generalize frameOf h = H0 at *
 have lw:=c54_l0_w J f1 f2 l1 l2 hn n 0 (by omega)
 rw [List.drop_zero,List.drop_zero] at lw
 cases e : af (sE L M) 0 n
 ·have l0 : Tr tbl J c54_l0 (fun s h => h = H0 ∧ s.get [] = .slice b1 0 n v1 ∧ s.get [zF] = .slice b2 0 n v2 ∧ s.get [zF,zT] = G ((0 : Nat) : Int)) .ret (fun s h => s.get [zT,zF] = .bool (bfr L M)):=by
   refine Tr.w fun s1 H1 hp R kR => ?_
   obtain ⟨rfl,q⟩:=hp
   exact lw s1 R q (fun e' => (by rw [e] at e'; cases e')) (fun _ => kR)
  clear lw gl g1 g2 f1 f2
  generalize bfr L M = z at *
  refine Tr.w fun s1 H1 hp _ kR => ?_
  obtain ⟨rfl,rfl⟩:=hp
  have q : True:=trivial
  refine zCh ?_
  simp (disch:=omega) [c54_o0,zG,q]
  refine W.assoc ?_
  refine zCh ?_
  simp (disch:=omega) [c54_o1,zG,q]
  refine W.seq (W.block ?_)
  refine W.use (l0) (by simp (disch:=omega) [zG,q]) fun s1 H1 hp => ?_
  try simp only [zW,if_true]
  exact kR _ _ hp
 ·have l0 : Tr tbl J c54_l0 (fun s h => h = H0 ∧ s.get [] = .slice b1 0 n v1 ∧ s.get [zF] = .slice b2 0 n v2 ∧ s.get [zF,zT] = G ((0 : Nat) : Int)) (.exit 0) (fun s h => True):=by
   refine Tr.w fun s1 H1 hp R kR => ?_
   obtain ⟨rfl,q⟩:=hp
   exact lw s1 R q (fun _ => kR) (fun e' => (by rw [e] at e'; cases e'))
  have ef : bfr L M = zF:=by
   rw [← l1] at e
   rw [sE_all (by omega),decide_eq_true_eq] at e
   rw [e]; exact bfr_same M
  rw [ef]
  clear lw gl g1 g2 f1 f2
  refine Tr.w fun s1 H1 hp _ kR => ?_
  obtain ⟨rfl,rfl⟩:=hp
  have q : True:=trivial
  refine zCh ?_
  simp (disch:=omega) [c54_o0,zG,q]
  refine W.assoc ?_
  refine zCh ?_
  simp (disch:=omega) [c54_o1,zG,q]
  refine W.seq (W.block ?_)
  refine W.use (l0) (by simp (disch:=omega) [zG,q]) fun s1 H1 hp => ?_
  obtain _:=hp
  try simp only [zW,if_true]
  refine zCh ?_
  simp (disch:=omega) [c54_o6,zG,q]
  refine W.ret ?_
  try simp only [zW,if_true]
  exact kR _ _ (by simp [T.get])
end
structure A54 where
 L : List (List UInt8)
 M : List (List UInt8)
 b1 : Nat
 v1 : Nat
 b2 : Nat
 v2 : Nat
 n : Nat
def Ok54 (a : A54) (h : Heap) : Prop:=h.get a.b1 = .cells 1 a.v1 (ss a.L) ∧ h.get a.b2 = .cells 1 a.v2 (ss a.M) ∧ a.L.length = a.n ∧ a.M.length = a.n ∧ a.n ≤ 1000000
def Pre54 (a : A54) (args : List AV) (h : Heap) : Prop:=Ok54 a h ∧ args = [.slice a.b1 0 a.n a.v1,.slice a.b2 0 a.n a.v2]
def Post54 (a : A54) (h : Heap) (v : AV) (own : List AObj) : Prop:=v = .bool (bfr a.L a.M) ∧ own = []
noncomputable def T71 : CallF:=addK tbl T70 54 Pre54 Post54
theorem t71 : Sound zp T71:=Sound.addK follows ok t70 (by decide) _ _
abbrev K54 (J : CallF) : Prop:=∀ (h : Heap) (a : A54),Ok54 a h → J 54 [.slice a.b1 0 a.n a.v1,.slice a.b2 0 a.n a.v2] h = some (.bool (bfr a.L a.M),[],zF)
theorem k54 : K54 T71:=fun h a o => by
 obtain ⟨v,own,e,rfl,rfl⟩:=addK_some (Pre:=Pre54) (Post:=Post54) (fun a args h hp => by
  obtain ⟨⟨h1,h2,h3,h4,h5⟩,rfl⟩:=hp
  exact ⟨_,_,c54_ok T70 (fun _ _ => by simp (disch:=decide) only [T1,T2,T3,T4,T5,T6,T7,T8,T9,T10,T11,T12,T13,T14,T15,T16,T17,T18,T19,T20,T21,T22,T23,T24,T25,T26,T27,T28,T29,T30,T31,T32,T33,T34,T35,T36,T37,T38,T39,T40,T41,T42,T43,T44,T45,T46,T47,T48,T49,T50,T51,T52,T53,T54,T55,T56,T57,T58,T59,T60,T61,T62,T63,T64,T65,T66,T67,T68,T69,T70,addI_ne,addX_ne,addV_ne,addK_ne]; rfl) h h1 h2 h3 h4 h5,rfl,rfl⟩) a _ h ⟨o,rfl⟩
 exact e
def RBb (n m : Nat) (x : Bool) : List AV:=List.replicate m (.bool x) ++ List.replicate (n - m) (.bool zF)
theorem RBb_len {n m : Nat} {x : Bool} (h : m ≤ n) : (RBb n m x).length = n:=by simp [RBb]; omega
theorem RBb_take (n m : Nat) (x : Bool) : (RBb n m x).take m = List.replicate m (.bool x):=by simp [RBb]
theorem RBb_all (n : Nat) (x : Bool) : RBb n n x = List.replicate n (.bool x):=by simp [RBb]
theorem RBb_put {n m k : Nat} {x : Bool} (h : m + k ≤ n) : putAt (RBb n m x) m (List.replicate k (.bool x)) = RBb n (m + k) x:=by
 unfold RBb
 rw [rep_put _ _ _ _ (by simp; omega),List.drop_replicate,Nat.sub_sub]
section
variable {n : Nat} {x : Bool}
abbrev P79 (h : Heap) (n : Nat) (x : Bool) (m : Nat) : SP:=(fun s h' => s.get [zF,zF,zF] = .slice h.size 0 n n ∧ s.get [zT,zF,zF] = G m ∧ h' = ⟨h.get,h.size,[.cells 1 n (RBb n m x)]⟩)
theorem repb_loop (J : CallF) (h : Heap) (hn : n ≤ 243) : ∀ (j m : Nat),n - m ≤ j → 1 ≤ m → m ≤ n → Tr tbl J c79_l0 (P79 h n x m) (.exit 0) (P79 h n x n):=by
 intro j
 induction j with
 | zero =>
  intro m hj h1 h2
  obtain rfl : m = n:=by omega
  have t : Tr tbl J ((.trim [[zF,zF,zF],[zT,zF,zF]] c79_b0)) (fun s h' => s.get [zF,zF,zF] = .slice h.size 0 m m ∧ s.get [zT,zF,zF] = G m ∧ h' = ⟨h.get,h.size,[.cells 1 m (RBb m m x)]⟩) (.exit 0) (fun s h' => s.get [zF,zF,zF] = .slice h.size 0 m m ∧ s.get [zT,zF,zF] = G m ∧ h' = ⟨h.get,h.size,[.cells 1 m (RBb m m x)]⟩):=Tr.region fun s h hp => by
   obtain ⟨g0,g1,rfl⟩:=hp
   simp (disch:=first|omega|exact zE rfl|exact zO|exact zL rfl) [c79_b0,c79_o8,frameOf,Heap.size,Heap.get,Eff.app,Heap.setOwn,g0,g1]
  exact Tr.out t (by simp)
 | succ j ih =>
  intro m hj h1 h2
  by_cases hm : m = n
  ·exact ih m (by omega) h1 h2
  ·obtain ⟨k,hk⟩ : ∃ k,k = min m (n - m):=⟨_,rfl⟩
   have hkm : m + k ≤ n:=by omega
   have e1:=RBb_len (n:=n) (m:=m) (x:=x) h2
   have e2:=RBb_take n m x
   have e3:=RBb_put (n:=n) (m:=m) (k:=k) (x:=x) hkm
   have e4 : min m (n - m) = k:=hk.symm
   have e5 : min k m = k:=by omega
   obtain ⟨cs,hcs⟩ : ∃ cs,RBb n m x = cs:=⟨_,rfl⟩
   rw [hcs] at e1 e2 e3
   have hm0 : ¬ (m = n ∧ 0 < n):=by omega
   have hm1 : ¬ (0 = n ∧ 0 < n):=by omega
   have t : Tr tbl J ((.trim [[zF,zF,zF],[zT,zF,zF]] c79_b0)) (fun s h' => s.get [zF,zF,zF] = .slice h.size 0 n n ∧ s.get [zT,zF,zF] = G m ∧ h' = ⟨h.get,h.size,[.cells 1 n cs]⟩) .normal (fun s h' => s.get [zF,zF,zF] = .slice h.size 0 n n ∧ s.get [zT,zF,zF] = G ((m + k : Nat) : Int) ∧ h' = ⟨h.get,h.size,[.cells 1 n (RBb n (m + k) x)]⟩):=Tr.region fun s h hp => by
    obtain ⟨g0,g1,rfl⟩:=hp
    simp (disch:=first|omega|exact zE rfl|exact zO|exact zL rfl) [c79_b0,c79_o8,c79_o9,frameOf,Heap.size,Heap.get,Eff.app,Heap.setOwn,g0,g1,slSlA,bounds,elems,copyA,rdOf,hm0,hm1,e1,e2,e3,e4,e5,List.take_replicate]
    omega
   rw [← hcs] at t
   exact Tr.next t (ih (m + k) (by omega) (by omega) (by omega))
theorem c79_ok (J : CallF) (k99 : ∀ (h : Heap) (n : Int),0 ≤ n → n < 244 → J 99 [.int .u64 1,.int .u64 n] h = some (.tup [.int .u64 0,.int .u64 n],[],zF)) (hJ : ∀ a h,J 79 a h = none) (h : Heap) (b : Nat) (hb : h.get b = .cells 1 1 [.bool x]) (h1 : 1 ≤ n) (h2 : n ≤ 243) :
  CallsTo tbl J 79 [.slice b 0 1 1,G n] h (.slice h.size 0 n n,[.cells 1 n (List.replicate n (.bool x))],zF):=by
 have hlt:=get_lt hb (by simp)
 have wu : ∀ z : Int,0 ≤ z → z < 244 → IntKind.u64.wrap z = z:=fun z _ _ => by unfold IntKind.wrap IntKind.bits IntKind.signed; simp; omega
 refine Tr.fnh (cf:=c79) (e:=.ret) (s:=T.set (T.set .leaf [] (.slice b 0 1 1)) [zF] (G n)) (by decide) rfl (hJ _ _) rfl rfl rfl (by simp) ?_
 have t0 : Tr tbl J (c79_o0) (fun s h' => s = T.set (T.set .leaf [] (.slice b 0 1 1)) [zF] (G n) ∧ h' = frameOf h) .normal (fun s h' => s.get [] = .slice b 0 1 1 ∧ s.get [zF] = G n ∧ h' = ⟨h.get,h.size,[]⟩):=Tr.region fun s h hp => by
  obtain ⟨rfl,rfl⟩:=hp
  simp (disch:=first|omega|exact zE rfl|exact zO|exact zL rfl) [c79_o0,frameOf,Heap.size,Heap.get,Eff.app,Heap.setOwn]
 have t1 : Tr tbl J ((.seq c79_o1 (.cond (.s [zT,zT,zF]) c79_o2 .skip))) (fun s h' => s.get [] = .slice b 0 1 1 ∧ s.get [zF] = G n ∧ h' = ⟨h.get,h.size,[]⟩) .normal (fun s h' => s.get [] = .slice b 0 1 1 ∧ s.get [zF] = G n ∧ h' = ⟨h.get,h.size,[]⟩):=Tr.region fun s h hp => by
  obtain ⟨g0,g1,rfl⟩:=hp
  simp (disch:=first|omega|exact zE rfl|exact zO|exact zL rfl) [c79_o1,frameOf,Heap.size,Heap.get,Eff.app,Heap.setOwn,g0,g1]
 have t2 : Tr tbl J (c79_o3) (fun s h' => s.get [] = .slice b 0 1 1 ∧ s.get [zF] = G n ∧ h' = ⟨h.get,h.size,[]⟩) .normal (fun s h' => s.get [] = .slice b 0 1 1 ∧ s.get [zF,zT] = .int .u64 0 ∧ s.get [zT,zT] = .int .u64 n ∧ h' = ⟨h.get,h.size,[]⟩):=Tr.region fun s h hp => by
  obtain ⟨g0,g1,rfl⟩:=hp
  simp (disch:=first|omega|exact zE rfl|exact zO|exact zL rfl) [c79_o3,frameOf,Heap.size,Heap.get,Eff.app,Heap.setOwn,g0,g1,wu,k99]
 have t3 : Tr tbl J ((.seq c79_o4 (.cond (.s [zT,zT,zF,zT]) c79_o5 .skip))) (fun s h' => s.get [] = .slice b 0 1 1 ∧ s.get [zF,zT] = .int .u64 0 ∧ s.get [zT,zT] = .int .u64 n ∧ h' = ⟨h.get,h.size,[]⟩) .normal (fun s h' => s.get [] = .slice b 0 1 1 ∧ s.get [zT,zT] = .int .u64 n ∧ h' = ⟨h.get,h.size,[]⟩):=Tr.region fun s h hp => by
  obtain ⟨g0,g1,g2,rfl⟩:=hp
  simp (disch:=first|omega|exact zE rfl|exact zO|exact zL rfl) [c79_o4,frameOf,Heap.size,Heap.get,Eff.app,Heap.setOwn,g0,g1,g2]
 have e0 : RBb n 1 x = (List.replicate n (.bool zF)).set 0 (.bool x):=by
  obtain ⟨N,rfl⟩ : ∃ N,n = N + 1:=⟨n - 1,by omega⟩
  simp [RBb,List.replicate_succ]
 have t4 : Tr tbl J ((.seq c79_o6 c79_o7)) (fun s h' => s.get [] = .slice b 0 1 1 ∧ s.get [zT,zT] = .int .u64 n ∧ h' = ⟨h.get,h.size,[]⟩) .normal (fun s h' => s.get [zF,zF,zF] = .slice h.size 0 n n ∧ s.get [zT,zF,zF] = G ((1 : Nat) : Int) ∧ h' = ⟨h.get,h.size,[.cells 1 n (RBb n 1 x)]⟩):=Tr.region fun s h hp => by
  obtain ⟨g0,g1,rfl⟩:=hp
  rw [e0]
  simp (disch:=first|omega|exact zE rfl|exact zO|exact zL rfl) [c79_o6,c79_o7,size_mk,get_mk_lt,get_mk_ge,frameOf,Eff.app,Heap.setOwn,g0,g1,repl,elems,copyA,rdOf,hb]
  omega
 have t5 : Tr tbl J ((.seq c79_o10 .ret)) (fun s h' => s.get [zF,zF,zF] = .slice h.size 0 n n ∧ s.get [zT,zF,zF] = G n ∧ h' = ⟨h.get,h.size,[.cells 1 n (RBb n n x)]⟩) .ret (fun s h' => s.get [zT,zF] = .slice h.size 0 n n ∧ h' = ⟨h.get,h.size,[.cells 1 n (RBb n n x)]⟩):=Tr.region fun s h hp => by
  obtain ⟨g0,g1,rfl⟩:=hp
  simp (disch:=first|omega|exact zE rfl|exact zO|exact zL rfl) [c79_o10,frameOf,Heap.size,Heap.get,Eff.app,Heap.setOwn,g0,g1]
 refine Tr.post (fun s h' q => ?_) (Tr.seq t0 (Tr.seq t1 (Tr.seq t2 (Tr.seq t3 (Tr.app2 t4 (Tr.seq (Tr.block (repb_loop J h h2 n 1 (by omega) (by omega) h1)) t5))))))
 obtain ⟨q1,rfl⟩:=q
 simp [c79,q1,RBb_all]
theorem c79_0 (J : CallF) (k99 : ∀ (h : Heap) (n : Int),0 ≤ n → n < 244 → J 99 [.int .u64 1,.int .u64 n] h = some (.tup [.int .u64 0,.int .u64 n],[],zF)) (hJ : ∀ a h,J 79 a h = none) (h : Heap) (b : Nat) (hb : h.get b = .cells 1 1 [.bool x]) :
  CallsTo tbl J 79 [.slice b 0 1 1,G 0] h (.slice h.size 0 0 0,[.cells 1 0 []],zF):=by
 have hlt:=get_lt hb (by simp)
 have wu : ∀ z : Int,0 ≤ z → z < 244 → IntKind.u64.wrap z = z:=fun z _ _ => by unfold IntKind.wrap IntKind.bits IntKind.signed; simp; omega
 refine Tr.fnh (cf:=c79) (e:=.ret) (s:=T.set (T.set .leaf [] (.slice b 0 1 1)) [zF] (G 0)) (by decide) rfl (hJ _ _) rfl rfl rfl (by simp) ?_
 refine Tr.post (Q:=(fun s h' => h' = ⟨h.get,h.size,[.cells 1 0 []]⟩ ∧ s.get [zT,zF] = .slice h.size 0 0 0)) (fun s h' q => by
  obtain ⟨rfl,q1⟩:=q
  simp [c79,q1]) ?_
 have l0 : Tr tbl J c79_l0 (fun s h' => h' = ⟨h.get,h.size,[.cells 1 0 []]⟩ ∧ s.get [zF,zF,zF] = .slice h.size 0 0 0 ∧ s.get [zT,zF,zF] = G 0) (.exit 0) (fun s h' => h' = ⟨h.get,h.size,[.cells 1 0 []]⟩ ∧ s.get [zF,zF,zF] = .slice h.size 0 0 0):=by
  refine Tr.out ?_ (by simp)
  refine Tr.w fun s1 H1 hp _ kR => W.trim ?_
  obtain ⟨rfl,q⟩:=hp
  refine W.assoc ?_
  refine zCh ?_
  simp (disch:=first|omega|exact zE rfl|exact zO|exact zL rfl) [c79_o8,size_mk,get_mk_lt,get_mk_ge,frameOf,Eff.app,Heap.setOwn,q]
  refine zCh ?_
  simp (disch:=first|omega|exact zE rfl|exact zO|exact zL rfl) [size_mk,get_mk_lt,get_mk_ge,frameOf,Eff.app,Heap.setOwn,q]
  exact kR _ _ (by simp [T.get,q])
 refine Tr.w fun s1 H1 hp _ kR => ?_
 obtain ⟨rfl,rfl⟩:=hp
 have q : True:=trivial
 refine zCh ?_
 simp (disch:=first|omega|exact zE rfl|exact zO|exact zL rfl) [c79_o0,size_mk,get_mk_lt,get_mk_ge,frameOf,Eff.app,Heap.setOwn,q]
 refine W.assoc ?_
 refine zCh ?_
 simp (disch:=first|omega|exact zE rfl|exact zO|exact zL rfl) [c79_o1,size_mk,get_mk_lt,get_mk_ge,frameOf,Eff.app,Heap.setOwn,q]
 refine zCh ?_
 simp (disch:=first|omega|exact zE rfl|exact zO|exact zL rfl) [c79_o2,size_mk,get_mk_lt,get_mk_ge,frameOf,Eff.app,Heap.setOwn,q]
 refine zCh ?_
 simp (disch:=first|omega|exact zE rfl|exact zO|exact zL rfl) [c79_o3,size_mk,get_mk_lt,get_mk_ge,frameOf,Eff.app,Heap.setOwn,q,wu,k99]
 refine W.assoc ?_
 refine zCh ?_
 simp (disch:=first|omega|exact zE rfl|exact zO|exact zL rfl) [c79_o4,size_mk,get_mk_lt,get_mk_ge,frameOf,Eff.app,Heap.setOwn,q]
 refine zCh ?_
 simp (disch:=first|omega|exact zE rfl|exact zO|exact zL rfl) [c79_o5,size_mk,get_mk_lt,get_mk_ge,frameOf,Eff.app,Heap.setOwn,q]
 refine zCh ?_
 simp (disch:=first|omega|exact zE rfl|exact zO|exact zL rfl) [c79_o6,size_mk,get_mk_lt,get_mk_ge,frameOf,Eff.app,Heap.setOwn,q,repl]
 refine zCh ?_
 simp (disch:=first|omega|exact zE rfl|exact zO|exact zL rfl) [c79_o7,size_mk,get_mk_lt,get_mk_ge,frameOf,Eff.app,Heap.setOwn,q,elems,copyA,rdOf,hb]
 refine W.seq (W.block ?_)
 refine W.use (l0) (by simp (disch:=first|omega|exact zE rfl|exact zO|exact zL rfl) [size_mk,get_mk_lt,get_mk_ge,frameOf,Eff.app,Heap.setOwn,q,(show min 1 0 = 0 from rfl),(show min (1 : Int) 0 = 0 from rfl)]) fun s1 H1 hp => ?_
 obtain ⟨rfl,q⟩:=hp
 try simp only [zW,if_true]
 refine zCh ?_
 simp (disch:=first|omega|exact zE rfl|exact zO|exact zL rfl) [c79_o10,size_mk,get_mk_lt,get_mk_ge,frameOf,Eff.app,Heap.setOwn,q]
 refine W.ret ?_
 try simp only [zW,if_true]
 exact kR _ _ (by simp [T.get,q])
end
def spec79 : SpecF:=fun args h => match args with
 | [.slice b 0 1 1,.int .i64 n] => match h.get b with
  | .cells 1 1 [.bool x] => if 0 ≤ n ∧ n ≤ 243 then some (.slice h.size 0 n.toNat n.toNat,[.cells 1 n.toNat (List.replicate n.toNat (.bool x))],zF) else none
  | _ => none
 | _ => none
theorem k99_71 (h : Heap) (n : Int) (h1 : 0 ≤ n) (h2 : n < 244) : T71 99 [.int .u64 1,.int .u64 n] h = some (.tup [.int .u64 0,.int .u64 n],[],zF):=by
 rw [show T71 99 [.int .u64 1,.int .u64 n] h = T33 99 [.int .u64 1,.int .u64 n] h from by simp (disch:=decide) only [T34,T35,T36,T37,T38,T39,T40,T41,T42,T43,T44,T45,T46,T47,T48,T49,T50,T51,T52,T53,T54,T55,T56,T57,T58,T59,T60,T61,T62,T63,T64,T65,T66,T67,T68,T69,T70,T71,addI_ne,addX_ne,addV_ne,addK_ne]]; exact k99 h n h1 h2
noncomputable def T72 : CallF:=addI T71 79 spec79
theorem t72 : Sound zp T72:=Sound.add follows ok t71 (by decide) (fun args h x e => by
 unfold spec79 at e
 split at e
 ·split at e
  ·split at e
   ·rename_i b n _ xv hg hh
    simp only [Option.some.injEq] at e; subst e
    obtain ⟨N,rfl⟩ : ∃ N : Nat,n = N:=⟨n.toNat,by omega⟩
    rcases Nat.eq_zero_or_pos N with rfl | hN
    ·exact c79_0 T71 k99_71 (fun _ _ => by simp (disch:=decide) only [T1,T2,T3,T4,T5,T6,T7,T8,T9,T10,T11,T12,T13,T14,T15,T16,T17,T18,T19,T20,T21,T22,T23,T24,T25,T26,T27,T28,T29,T30,T31,T32,T33,T34,T35,T36,T37,T38,T39,T40,T41,T42,T43,T44,T45,T46,T47,T48,T49,T50,T51,T52,T53,T54,T55,T56,T57,T58,T59,T60,T61,T62,T63,T64,T65,T66,T67,T68,T69,T70,T71,addI_ne,addX_ne,addV_ne,addK_ne]; rfl) h b hg
    ·exact c79_ok T71 k99_71 (fun _ _ => by simp (disch:=decide) only [T1,T2,T3,T4,T5,T6,T7,T8,T9,T10,T11,T12,T13,T14,T15,T16,T17,T18,T19,T20,T21,T22,T23,T24,T25,T26,T27,T28,T29,T30,T31,T32,T33,T34,T35,T36,T37,T38,T39,T40,T41,T42,T43,T44,T45,T46,T47,T48,T49,T50,T51,T52,T53,T54,T55,T56,T57,T58,T59,T60,T61,T62,T63,T64,T65,T66,T67,T68,T69,T70,T71,addI_ne,addX_ne,addV_ne,addK_ne]; rfl) h b hg (by omega) (by omega)
   ·cases e
  ·cases e
 ·cases e)
def Pre82 (a : A59) (args : List AV) (h : Heap) : Prop:=Ok59 a h ∧ args = [.slice a.b 0 a.n a.v]
noncomputable def T73 : CallF:=addK tbl T72 82 Pre82 Post59
theorem t73 : Sound zp T73:=Sound.addK follows ok t72 (by decide) _ _
structure CK (h : Heap) (pc pk : Nat) (k j : Nat) (y : Bool) : Prop where
 c : ∃ bo n v ros br m w bs,h.get pc = .cells 0 1 [.slice bo 0 n v] ∧ h.get bo = .cells 1 v ros ∧ k < n ∧ ros.length = n ∧ ros[k]? = some (.slice br 0 m w) ∧ h.get br = .cells 1 w bs ∧ j < m ∧ bs.length = m ∧ bs[j]? = some (.bool y)
 k : h.get pk = .cells 0 1 [G k]
open Classical in
noncomputable def spec81 : SpecF:=fun args h => if hx : ∃ v,CallsTo tbl T3 81 args h (v,h.own,zT) then some (Classical.choose hx,h.own,zT) else none
noncomputable def U1 : CallF:=addI T3 81 spec81
theorem u1 : Sound zp U1:=Sound.add follows ok t3 (by decide) (fun args h x e => by
 unfold spec81 at e
 split at e
 ·rename_i hx
  simp only [Option.some.injEq] at e; subst e
  exact Classical.choose_spec hx
 ·cases e)
def Pre100u (a : A100) (args : List AV) (h : Heap) : Prop:=Ok100 U1 a h ∧ args = [a.x,.func a.f a.cap]
noncomputable def U2 : CallF:=addK tbl U1 100 Pre100u Post100
theorem u2 : Sound zp U2:=Sound.addK follows ok u1 (by decide) _ _
noncomputable def U3 : CallF:=addK tbl U2 80 Pre100u Post80
theorem u3 : Sound zp U3:=Sound.addK follows ok u2 (by decide) _ _
theorem Sound.put {P : Program} {I U : CallF} (hI : Sound P I) (hU : Sound P U) (f : Nat) : Sound P (addI I f (U f)):=fun g args h v own sh e => by
 unfold addI at e
 split at e
 ·rename_i hg
  subst hg
  exact hU _ args h v own sh e
 ·exact hI g args h v own sh e
noncomputable def T74 : CallF:=addI T73 80 (U3 80)
theorem t74 : Sound zp T74:=Sound.put t73 u3 80
def lB (f : Nat → Bool) (n : Nat) : List AV:=(List.range n).map fun i => .bool (f i)
theorem lB_len (f : Nat → Bool) (n : Nat) : (lB f n).length = n:=by simp [lB]
def rowsA (S : List (List Nat)) (k : Nat) : List (List AV):=(List.range k).map fun j => lB (al S j) S.length
theorem rowsA_len (S : List (List Nat)) (k : Nat) : (rowsA S k).length = k:=by simp [rowsA]
theorem rowsA_at (S : List (List Nat)) {k i : Nat} (h : i < k) : (rowsA S k)[i]? = some (lB (al S i) S.length):=by
 unfold rowsA
 rw [List.getElem?_map,List.getElem?_range h]; rfl
section
variable {S : List (List Nat)} {p pc : Nat}
structure CQ (S : List (List Nat)) (h : Heap) (pc k : Nat) (bo : Nat) (ros : List AV) : Prop where
 gp : h.get pc = .cells 0 1 [.slice bo 0 (k + 1) (k + 1)]
 go : h.get bo = .cells 1 (k + 1) ros
 lo : ros.length = k + 1
 r : ∀ i,i < k + 1 → ∃ b,ros[i]? = some (.slice b 0 S.length S.length) ∧ h.get b = .cells 1 S.length (lB (al S i) S.length)
theorem CQ.kp {h h' : Heap} {k bo : Nat} {ros : List AV} (c : CQ S h pc k bo ros) (kk : Kp (fun _ => False) h h') : CQ S h' pc k bo ros :=
 ⟨kk.at c.gp (by simp) id,kk.at c.go (by simp) id,c.lo,fun i hi => by
  obtain ⟨b,e1,e2⟩:=c.r i hi
  exact ⟨b,e1,kk.at e2 (by simp) id⟩⟩
end
def okX (a : AR) (L : List (List UInt8)) (n : Int) : Bool:=a.ru && isS a.q.toNat L && decide ((L.length : Int) ≤ n ∧ n ≤ 40)
def extR (a : AR) (m : Nat) (D i : Nat) : List (List Nat):=rT2 (a.rows m) (ext (a.steps m) D i)
def Post48 (a : AR) (L : List (List UInt8)) (n : Int) (h : Heap) (v : AV) (own : List AObj) : Prop :=
 (okX a L n = zF → v = .tup [.nils,G 2] ∧ own = []) ∧
 (okX a L n = zT → ∀ R : List (List Nat),L = R.map stW → (∀ w ∈ R,∀ c ∈ w,c < a.q.toNat) → (kpS a.g R = zF → v = .tup [.nils,G 6] ∧ own = []) ∧
  ∀ P : List Nat,kpS a.g R = zT → R = rT2 (a.rows (L.getD 0 []).length) P → VC (a.steps (L.getD 0 []).length) (-1) P →
   (al (a.steps (L.getD 0 []).length) (n.toNat - L.length) (P.getD (L.length - 1) 0) = zF → v = .tup [.nils,G 6] ∧ own = []) ∧
   (al (a.steps (L.getD 0 []).length) (n.toNat - L.length) (P.getD (L.length - 1) 0) = zT → ∃ x,v = .tup [x,G 0] ∧ (∀ q,blk x = some q → h.size ≤ q) ∧ RV (h.plus own) x (wsL (R ++ extR a (L.getD 0 []).length (n.toNat - L.length) (P.getD (L.length - 1) 0)))))
section
variable {a : AR} {x : AV} {L : List (List UInt8)} {n : Int}
end
structure A48 where
 a : AR
 x : AV
 L : List (List UInt8)
 n : Int
def Ok48 (b : A48) (h : Heap) : Prop:=OkR b.a h ∧ EL h b.x (ss b.L) ∧ b.L.length ≤ 1000000 ∧ ∀ s ∈ b.L,s.length ≤ 1000000
def Pre48 (b : A48) (args : List AV) (h : Heap) : Prop:=Ok48 b h ∧ args = [b.a.v,b.x,G b.n]
noncomputable def T75 : CallF:=addK tbl T74 48 Pre48 (fun b h v own => Post48 b.a b.L b.n h v own)
theorem t75 : Sound zp T75:=Sound.addK follows ok t74 (by decide) _ _
end Go.Proofs.Ytljgfdamdcikgaa.Ev
set_option linter.unusedVariables false
set_option linter.unusedSimpArgs false
namespace Go.AEv
def Ct (X Y : AObj) : Prop:=Y = X ∨ ∃ g v cs n,X = .cells g v cs ∧ Y = .cells g v (cs.take n)
theorem Ct.hole {Y : AObj} (c : Ct .hole Y) : Y = .hole:=by
 rcases c with h | ⟨g,v,cs,n,h,_⟩
 ·exact h
 ·cases h
theorem Ct.ne {X Y : AObj} (c : Ct X Y) (h : Y ≠ .hole) : X ≠ .hole:=fun e => by subst e; exact h c.hole
theorem Ct.ne' {X Y : AObj} (c : Ct X Y) (h : X ≠ .hole) : Y ≠ .hole:=fun e => by
 rcases c with h' | ⟨g,v,cs,n,h1,h2⟩
 ·exact h (h' ▸ e)
 ·rw [h2] at e; cases e
theorem Ct.or {CK : CKT} {φ : Nat → Emb} {H : Heap} {w : World} {e : Emb} {X Y : AObj} (c : Ct X Y) (o : OR CK φ H w e X) : OR CK φ H w e Y:=by
 rcases c with rfl | ⟨g,v,cs,n,rfl,rfl⟩
 ·exact o
 ·simp only [OR] at o ⊢
  obtain ⟨c,t,fr,h1,h2,h3,h4⟩:=o
  refine ⟨c,t,fr,h1,h2,by rw [List.length_take]; omega,fun j v hv => h4 j v ?_⟩
  rw [List.getElem?_take] at hv
  split at hv
  ·exact hv
  ·cases hv
theorem Ct.stp {φ : Nat → Emb} {H H' : Heap} (c : ∀ b,Ct (H.get b) (H'.get b)) : Stp φ H φ H':=fun b => by
 have cb:=c b
 refine ⟨fun g n cs e => ?_,fun es e => ?_,fun st pend s ps x y e => ?_,fun cc pos e => ?_⟩
 ·rw [e] at cb
  rcases cb with h | ⟨g',v',cs',n',h1,h2⟩
  ·exact ⟨n,cs,h,Nat.le_refl _,fun _ => rfl⟩
  ·cases h1; exact ⟨n,_,h2,Nat.le_refl _,fun _ => rfl⟩
 ·rw [e] at cb
  rcases cb with h | ⟨g',v',cs',n',h1,h2⟩
  ·exact ⟨es,h,rfl⟩
  ·cases h1
 ·rw [e] at cb
  rcases cb with h | ⟨g',v',cs',n',h1,h2⟩
  ·exact ⟨_,_,_,_,_,_,h,rfl⟩
  ·cases h1
 ·rw [e] at cb
  rcases cb with h | ⟨g',v',cs',n',h1,h2⟩
  ·exact ⟨_,_,h,rfl⟩
  ·cases h1
theorem Ct.pts {φ : Nat → Emb} {H H' : Heap} (c : ∀ b,Ct (H.get b) (H'.get b)) : Stp φ H' φ H:=fun b => by
 have cb:=c b
 refine ⟨fun g n cs e => ?_,fun es e => ?_,fun st pend s ps x y e => ?_,fun cc pos e => ?_⟩
 ·rcases cb with h | ⟨g',v',cs',n',h1,h2⟩
  ·exact ⟨n,cs,by rw [← h]; exact e,Nat.le_refl _,fun _ => rfl⟩
  ·rw [e] at h2; cases h2; exact ⟨n,_,h1,Nat.le_refl _,fun _ => rfl⟩
 ·rcases cb with h | ⟨g',v',cs',n',h1,h2⟩
  ·exact ⟨es,by rw [← h]; exact e,rfl⟩
  ·rw [e] at h2; cases h2
 ·rcases cb with h | ⟨g',v',cs',n',h1,h2⟩
  ·exact ⟨_,_,_,_,_,_,by rw [← h]; exact e,rfl⟩
  ·rw [e] at h2; cases h2
 ·rcases cb with h | ⟨g',v',cs',n',h1,h2⟩
  ·exact ⟨_,_,by rw [← h]; exact e,rfl⟩
  ·rw [e] at h2; cases h2
def cutOf (c : Nat → AObj) (h : Heap) : Heap:=⟨c,h.size,[]⟩
theorem get_ge (h : Heap) {i : Nat} (hi : h.size ≤ i) : h.get i = .hole:=by
 cases hq : h.get i with
 | hole => rfl
 | _ => have:=Heap.get_lt (H:=h) (i:=i) (by rw [hq]; simp); simp only [Heap.size] at this hi; omega
theorem cut_get {c : Nat → AObj} {h : Heap} (hc : ∀ b,Ct (h.get b) (c b)) (i : Nat) : (cutOf c h).get i = c i:=by
 by_cases hi : i < h.size
 ·show (if i < h.size then c i else _) = _
  rw [if_pos hi]
 ·have e:=hc i
  rw [get_ge h (by omega)] at e
  rw [e.hole]
  show (if i < h.size then c i else ([] : List AObj).getD (i - h.size) .hole) = _
  rw [if_neg hi]; simp
theorem cut_hr {CK : CKT} {w0 : World} {K : List Nat} {φ : Nat → Emb} {h : Heap} {w : World} (hr : HR CK w0 K φ h w) {c : Nat → AObj} (hc : ∀ b,Ct (h.get b) (c b)) : HR CK w [] φ (cutOf c h) w ∧ Stp φ h φ (cutOf c h):=by
 have hc' : ∀ b,Ct (h.get b) ((cutOf c h).get b):=fun b => by rw [cut_get hc]; exact hc b
 have hs : Stp φ h φ (cutOf c h):=Ct.stp hc'
 refine ⟨⟨Nat.le_refl _,fun _ _ => rfl,fun i => OR.step hs (fun _ => rfl) ((hc' i).or (hr.obj i)),fun i hi hh => ?_,fun i j hj _ hh _ => ?_,by simp,by simp,Env.refl w⟩,hs⟩
 ·have:=(hc' i).ne hh
  rw [get_ge h hi] at this; exact absurd rfl this
 ·have:=(hc' j).ne hh
  rw [get_ge h hj] at this; exact absurd rfl this
theorem cut_back {CK : CKT} {w0 : World} {K : List Nat} {φ φ' : Nat → Emb} {h : Heap} {own : List AObj} {w w' : World} (hr : HR CK w0 K φ h w) {c : Nat → AObj} (hc : ∀ b,Ct (h.get b) (c b)) (hr' : HR CK w [] φ' ((cutOf c h).plus own) w') (hs : Stp φ (cutOf c h) φ' ((cutOf c h).plus own)) :
  HR CK w0 K φ' (h.plus own) w' ∧ Stp φ' ((cutOf c h).plus own) φ' (h.plus own) ∧ Stp φ h φ' (h.plus own):=by
 have hsz : (cutOf c h).size = h.size:=by simp [cutOf,Heap.size]
 have hsame : ∀ b,b < w.heap.size → w'.heap[b]? = w.heap[b]?:=hr'.old
 have hct : ∀ b,Ct ((h.plus own).get b) (((cutOf c h).plus own).get b):=fun b => by
  by_cases hb : b < h.size
  ·rw [plus_lt _ _ _ hb,plus_lt _ _ _ (by omega),cut_get hc]; exact hc b
  ·rw [plus_ge _ _ _ (by omega),plus_ge _ _ _ (by omega),hsz]; exact .inl rfl
 have back : Stp φ' ((cutOf c h).plus own) φ' (h.plus own):=Ct.pts hct
 have hge : ∀ i,h.get i ≠ .hole → i < h.size:=fun i hh => by
  have:=Heap.get_lt (H:=h) (i:=i) hh
  simp only [Heap.size] at this ⊢; omega
 have hlow : ∀ i,i < h.size → (h.plus own).get i = h.get i:=fun i hi => plus_lt _ _ _ hi
 have hφ : ∀ i,h.get i ≠ .hole → φ' i = φ i:=fun i hh => by
  have hi:=hge i hh
  have:=hs i
  have e0 : ((cutOf c h).plus own).get i = (cutOf c h).get i:=plus_lt _ _ _ (by omega)
  have hh' : (cutOf c h).get i ≠ .hole:=by rw [cut_get hc]; exact (hc i).ne' hh
  cases hq : (cutOf c h).get i with
  | hole => exact absurd hq hh'
  | cells g n cs =>
   obtain ⟨n',cs',e1,e2,e3⟩:=this.1 g n cs hq
   rw [e0,hq] at e1
   simp only [AObj.cells.injEq] at e1
   exact e3 e1.2.1.symm
  | map es => obtain ⟨_,_,e3⟩:=this.2.1 es hq; exact e3
  | loop st pend s ps x y => obtain ⟨_,_,_,_,_,_,_,e3⟩:=this.2.2.1 _ _ _ _ _ _ hq; exact e3
  | iter c pos => obtain ⟨_,_,_,e3⟩:=this.2.2.2 _ _ hq; exact e3
 have fwd : Stp φ h φ' (h.plus own):=fun b => by
  refine ⟨fun g n cs e => ?_,fun es e => ?_,fun st pend s ps x y e => ?_,fun cc pos e => ?_⟩
  ·have hh : h.get b ≠ .hole:=by rw [e]; simp
   exact ⟨n,cs,by rw [hlow b (hge b hh)]; exact e,Nat.le_refl _,fun _ => hφ b hh⟩
  ·have hh : h.get b ≠ .hole:=by rw [e]; simp
   exact ⟨es,by rw [hlow b (hge b hh)]; exact e,hφ b hh⟩
  ·have hh : h.get b ≠ .hole:=by rw [e]; simp
   exact ⟨_,_,_,_,_,_,by rw [hlow b (hge b hh)]; exact e,hφ b hh⟩
  ·have hh : h.get b ≠ .hole:=by rw [e]; simp
   exact ⟨_,_,by rw [hlow b (hge b hh)]; exact e,hφ b hh⟩
 have hN : (h.plus own).N = h.N:=rfl
 refine ⟨⟨Nat.le_trans hr.size hr'.size,fun b hb => ?_,fun i => ?_,fun i hi hh => ?_,fun i j hj hh1 hh2 hij => ?_,fun k hk => ?_,hr.nodup,hr.env.trans hr'.env⟩,back,fwd⟩
 ·rw [hsame b (by have:=hr.size; omega)]; exact hr.old b hb
 ·by_cases hi : i < h.size
  ·rw [hlow i hi]
   by_cases hh : h.get i = .hole
   ·rw [hh]; trivial
   ·rw [hφ i hh]
    exact OR.step fwd (fun hh => hsame _ (OR.lt (hr.obj i) hh)) (hr.obj i)
  ·have e : (h.plus own).get i = ((cutOf c h).plus own).get i:=by rw [plus_ge _ _ _ (by omega),plus_ge _ _ _ (by omega),hsz]
   rw [e]
   exact OR.step back (fun _ => rfl) (hr'.obj i)
 ·by_cases hlt : i < h.size
  ·rw [hlow i hlt] at hh
   rw [hφ i hh,hsame _ (OR.lt (hr.obj i) hh)]
   exact hr.own i hi hh
  ·have e : (h.plus own).get i = ((cutOf c h).plus own).get i:=by rw [plus_ge _ _ _ (by omega),plus_ge _ _ _ (by omega),hsz]
   rw [e] at hh
   obtain ⟨a1,a2,a3⟩:=hr'.own i (by show h.size ≤ i; omega) hh
   exact ⟨Nat.le_trans hr.size a1,a2,a3⟩
 ·have tr : ∀ i,(h.plus own).get i ≠ .hole → ((cutOf c h).plus own).get i ≠ .hole:=fun i hh => (hct i).ne' hh
  by_cases hjl : j < h.size
  ·by_cases hil : i < h.size
   ·rw [hlow i hil] at hh1; rw [hlow j hjl] at hh2
    rw [hφ i hh1,hφ j hh2]
    exact hr.sep i j hj hh1 hh2 hij
   ·exact fun e => hr'.sep j i (by show h.size ≤ i; omega) (tr j hh2) (tr i hh1) (fun e => hij e.symm) e.symm
  ·exact hr'.sep i j (by show h.size ≤ j; omega) (tr i hh1) (tr j hh2) hij
 ·obtain ⟨k1,k2⟩:=hr.keep k hk
  rw [hsame k (Array.getElem?_eq_some_iff.1 k2).1]; exact ⟨k1,k2⟩
def cutX (n : Nat) : AObj → AObj
 | .cells g v cs => .cells g v (cs.take n)
 | X => X
def cutO : List AV → Nat → AObj → AObj
 | [],_,X => X
 | .slice b 0 n v :: l,i,X => if b = i then cutX n X else cutO l i X
 | _ :: l,i,X => cutO l i X
theorem cutX_ct (n : Nat) (X : AObj) : Ct X (cutX n X):=by
 cases X with
 | cells g v cs => exact .inr ⟨g,v,cs,n,rfl,rfl⟩
 | _ => exact .inl rfl
theorem cutO_ct : ∀ (l : List AV) (i : Nat) (X : AObj),Ct X (cutO l i X):=fun l i X => by
 fun_induction cutO l i X with
 | case1 => exact .inl rfl
 | case2 => exact cutX_ct _ _
 | case3 => assumption
 | case4 => assumption
def cutA (args : List AV) (h : Heap) : Heap:=cutOf (fun i => cutO args i (h.get i)) h
def addC (I : CallF) (f : Nat) : CallF:=fun g args h => if g = f then (match I f args (cutA args h) with
 | some (v,own,zF) => some (v,own,zF)
 | _ => none) else I g args h
theorem Sound.addC {P : Program} {I : CallF} (hI : Sound P I) (f : Nat) : Sound P (addC I f):=fun g args h v own sh e => by
 unfold AEv.addC at e
 split at e
 ·rename_i hg
  subst hg
  split at e
  ·rename_i v' own' e'
   simp only [Option.some.injEq,Prod.mk.injEq] at e
   obtain ⟨rfl,rfl,rfl⟩:=e
   obtain ⟨hent,hc⟩:=hI _ _ _ _ _ _ e'
   refine ⟨hent,fun w0 K φ w vals hr hv => ?_⟩
   have hct : ∀ b,Ct (h.get b) (cutO args b (h.get b)):=fun b => cutO_ct args b _
   obtain ⟨h1,h2⟩:=cut_hr hr hct
   refine CallsIn.mono (hc w [] φ w vals h1 (VRs.step h2 _ _ hv)) ?_
   rintro en w' ⟨φ',x,rfl,q1,q2,q3⟩
   have m1 : mrg (cutA args h) own' zF = (cutOf (fun i => cutO args i (h.get i)) h).plus own':=by simp [mrg,cutA,Heap.plus]
   have m2 : mrg h own' zF = h.plus own':=by simp [mrg,Heap.plus]
   rw [m1] at q1 q2 q3
   rw [m2]
   obtain ⟨b1,b2,b3⟩:=cut_back hr hct q2 q3
   exact ⟨φ',x,rfl,VR.step b2 _ _ q1,b1,b3⟩
  ·cases e
 ·exact hI g args h v own sh e
theorem addC_ne {I : CallF} {f g : Nat} (hg : g ≠ f) (args : List AV) (h : Heap) : addC I f g args h = I g args h:=by
 unfold addC; rw [if_neg hg]
end Go.AEv
set_option linter.unusedVariables false
set_option linter.unusedSimpArgs false
namespace Go.Proofs.Ytljgfdamdcikgaa.Ev
open Go Go.AEv
attribute [local simp] evFunc initS evOps_c evTrim_c evSkip_c evExit_c evRet_c evSeq_c evCond_c evBlock_c evDraw_c runOps_n runOps_c exec_n exec_g pure1_c act AOpd.ev T.get T.set T.put evBin evUn forceT_eq forceV_eq forceL_eq evRess evRes one keep runFP_n runFP_c app_none AV.flats AV.flat came_some List.getElem?_cons_zero List.getElem?_cons_succ beqT wrapI idxI tdivI tmodI decT decF ibT ibF inT inF evScope_c if_pos if_neg Cm_some thenW_n thenW_e thenW_r blkW_n blkW_e blkW_r goI kn putAt AV.cells fillA loadA takeA mk Eff.isAll Eff.isNone Eff.commutes Eff.spares okPair apart eqAgg fits LK.fits allEq aveq eqk mmA
def PL (h : Heap) (x : AV) (cs : List AV) : Prop:=(x = .nils ∧ cs = []) ∨ ∃ b v rest,x = .slice b 0 cs.length v ∧ h.get b = .cells 1 v (cs ++ rest)
theorem PL.kp {h h' : Heap} {x : AV} {cs : List AV} (r : PL h x cs) (k : Kp (fun _ => False) h h') : PL h' x cs:=by
 rcases r with h | ⟨b,v,rest,e,g⟩
 ·exact .inl h
 ·exact .inr ⟨b,v,rest,e,k.at g (by simp) id⟩
theorem RV.back {h h' : Heap} (hs : h'.size = h.size) {own : List AObj} {x : AV} {cs : List AV} (r : RV (h'.plus own) x cs) (f : ∀ q,blk x = some q → h'.size ≤ q) : RV (h.plus own) x cs:=by
 rcases r with h | ⟨b,v,rfl,g⟩
 ·exact .inl h
 ·have:=f b rfl
  refine .inr ⟨b,v,rfl,?_⟩
  rw [plus_ge _ _ _ this] at g
  rw [plus_ge _ _ _ (by omega),← hs]; exact g
theorem Post48.back {h h' : Heap} (hs : h'.size = h.size) {a : AR} {L : List (List UInt8)} {n : Int} {v : AV} {own : List AObj} (p : Post48 a L n h' v own) : Post48 a L n h v own :=
 ⟨p.1,fun e R hL hR => ⟨(p.2 e R hL hR).1,fun P k eP vc => ⟨((p.2 e R hL hR).2 P k eP vc).1,fun ha => by
  obtain ⟨x,e1,e2,e3⟩:=((p.2 e R hL hR).2 P k eP vc).2 ha
  exact ⟨x,e1,fun q hq => by rw [← hs]; exact e2 q hq,RV.back hs e3 e2⟩⟩⟩⟩
noncomputable def T76 : CallF:=addC T75 48
theorem t76 : Sound zp T76:=t75.addC 48
noncomputable def T77 : CallF:=addC T76 29
theorem t77 : Sound zp T77:=t76.addC 29
def fewL (L : List (List UInt8)) : List (List UInt8):=(L.take 41).map fun s => s.take 7
section
variable {L : List (List UInt8)}
end
structure A43 where
 x : AV
 L : List (List UInt8)
def Pre43 (b : A43) (args : List AV) (h : Heap) : Prop:=EL h b.x (ss b.L) ∧ args = [b.x]
noncomputable def T78 : CallF:=addK tbl T77 43 Pre43 (fun b h v own => RV (h.plus own) v (ss (fewL b.L)))
theorem t78 : Sound zp T78:=Sound.addK follows ok t77 (by decide) _ _
end Go.Proofs.Ytljgfdamdcikgaa.Ev
