/-
 Of the functions that this law reaches,part 1: what they answer. No condition.
-/
import Derived.Test.YtljgfdamdcikgaaRP0
set_option linter.unusedVariables false
set_option linter.unusedSimpArgs false
namespace Go.Proofs.Ytljgfdamdcikgaa.Ev
open Go Go.AEv
attribute [local simp] evFunc initS evOps_c evTrim_c evSkip_c evExit_c evRet_c evSeq_c evCond_c evBlock_c evDraw_c runOps_n runOps_c exec_n exec_g pure1_c act AOpd.ev T.get T.set T.put evBin evUn forceT_eq forceV_eq forceL_eq evRess evRes one keep runFP_n runFP_c app_none AV.flats AV.flat came_some List.getElem?_cons_zero List.getElem?_cons_succ beqT wrapI idxI tdivI tmodI decT decF ibT ibF inT inF evScope_c if_pos if_neg Cm_some thenW_n thenW_e thenW_r blkW_n blkW_e blkW_r goI kn putAt AV.cells fillA loadA takeA mk Eff.isAll Eff.isNone Eff.commutes Eff.spares okPair apart eqAgg fits LK.fits allEq aveq eqk mmA
structure NV (H0 h : Heap) (x : AV) (L : List AV) : Prop where
 k : Kp (fun _ => False) H0 h
 x0 : ∀ q,blk x = some q → H0.size ≤ q
 l : LV h x L
theorem NV.nil (H0 : Heap) : NV H0 H0 .nils []:=⟨Kp.refl _,fun _ e => (by cases e),LV.nil _⟩
theorem NV.kp {H0 h h' : Heap} {x : AV} {L : List AV} (t : NV H0 h x L) (k : Kp (fun _ => False) h h') : NV H0 h' x L:=⟨t.k.trans k,t.x0,t.l.kp k (fun _ _ => id)⟩
theorem NV.app {H0 h : Heap} (h0 bytes : Nat) {x : AV} {L : List AV} (t : NV H0 h x L) (z : AV) (hn : (L.length + 1) * bytes ≤ 1099511627776) :
  ∃ x1 e h2,appA (h.plus [.cells 1 1 [z]]) h0 none 1 bytes 1 [z] x = some (x1,e) ∧ Eff.app e (h.plus [.cells 1 1 [z]]) = some h2 ∧ NV H0 h2 x1 (L ++ [z]) ∧ AV.cells x1 = some [x1]:=by
 have k1 : Kp (fun _ => False) h (h.plus [.cells 1 1 [z]]):=Kp.plus _ _
 obtain ⟨x1,e,h2,q1,q2,q3,q4,q5,q6⟩:=app_v (h.plus [.cells 1 1 [z]]) h0 bytes z (t.l.kp k1 (fun _ _ => id)) hn
 refine ⟨x1,e,h2,q1,q2,⟨(t.k.trans k1).late q4 t.x0,fun q hq => ?_,q3⟩,q6⟩
 rcases q5 with h' | ⟨_,h'⟩
 ·rw [h'] at hq; exact t.x0 q hq
 ·rw [h'] at hq; cases hq; have:=t.k.size; have:=k1.size; omega
theorem NV.base {H0 H1 H : Heap} {x : AV} {L : List AV} (k : Kp (fun _ => False) H0 H1) (t : NV H1 H x L) : NV H0 H x L:=⟨k.trans t.k,fun q hq => Nat.le_trans k.size (t.x0 q hq),t.l⟩
def xtL (q : Nat) (L : List (List Nat)) : List (List Nat):=L.flatMap fun t => (List.range q).map fun c => t ++ [c]
def xtP (q : Nat) (B : List (List Int)) (L : List (List Nat)) (k c : Nat) : List (List Nat):=(xtL q (L.take k)).filter (bsd B) ++ ((List.range c).map fun c => L.getD k [] ++ [c]).filter (bsd B)
theorem xtP_c (q : Nat) (B : List (List Int)) (L : List (List Nat)) (k c : Nat) : xtP q B L k (c + 1) = xtP q B L k c ++ if bsd B (L.getD k [] ++ [c]) then [L.getD k [] ++ [c]] else []:=by
 unfold xtP
 rw [List.range_succ,List.map_append,List.filter_append,List.append_assoc,List.map_singleton,List.filter_cons]
 cases bsd B (L.getD k [] ++ [c]) <;> rfl
theorem xtP_k (q : Nat) (B : List (List Int)) (L : List (List Nat)) {k : Nat} (hk : k < L.length) : xtP q B L (k + 1) 0 = xtP q B L k q:=by
 unfold xtP xtL
 rw [List.take_add_one,List.getElem?_eq_getElem hk,List.flatMap_append,List.filter_append]
 simp [List.getD_eq_getElem?_getD,List.getElem?_eq_getElem hk]
theorem xtP_0 (q : Nat) (B : List (List Int)) (L : List (List Nat)) : xtP q B L 0 0 = []:=by simp [xtP,xtL]
theorem xtP_n (q : Nat) (B : List (List Int)) (m : Nat) : xtP q B (rwL q B m) (rwL q B m).length 0 = rwL q B (m + 1):=by
 rw [rwL_succ]
 simp [xtP,xtL]
theorem xtL_len (q : Nat) : ∀ L : List (List Nat),(xtL q L).length = L.length * q
 | [] => by simp [xtL]
 | t :: L => by
  have:=xtL_len q L
  unfold xtL at *
  rw [List.flatMap_cons,List.length_append,this,List.length_map,List.length_range,List.length_cons,Nat.succ_mul,Nat.add_comm]
theorem xtP_len (q : Nat) (B : List (List Int)) (L : List (List Nat)) {k c : Nat} (hc : c ≤ q) (hq : q ≤ 3) (hL : L.length ≤ 243) : (xtP q B L k c).length ≤ 1000:=by
 unfold xtP
 rw [List.length_append]
 have a:=List.length_filter_le (bsd B) (xtL q (L.take k))
 have b:=List.length_filter_le (bsd B) ((List.range c).map fun c => L.getD k [] ++ [c])
 rw [xtL_len,List.length_take] at a
 rw [List.length_map,List.length_range] at b
 have : min k L.length * q ≤ 243 * 3:=Nat.mul_le_mul (by omega) hq
 omega
theorem wsL_app (L : List (List Nat)) (w : List Nat) : wsL (L ++ [w]) = wsL L ++ [.str (stW w)]:=by simp [wsL]
section
variable {a : AG} {S : Nat}
abbrev G30 (a : AG) (S : Nat) (h : Heap) : Prop:=h.get S = .cells 0 3 [G a.q,a.x,a.y]
theorem c30_l0_ok (J : CallF) (k68 : KW 68 J) {H0 : Heap} (o : OkG a H0) (gS : G30 a S H0) {bx v i : Nat} {L : List (List Nat)} (gb : H0.get bx = .cells 1 v (wsL L)) (hL : L.length ≤ 243) {k mm : Nat} (hk : k < L.length) (rk : ∀ c ∈ L.getD k [],c < a.q) (lk : (L.getD k []).length ≤ 5) :
  Tr tbl J c30_l0 (fun s h => ∃ y,NV H0 h y (wsL (xtP a.q a.B L k 0)) ∧ s.get [false] = G mm ∧ s.get [true] = .ptr S 0 3 ∧ s.get [false,true] = .slice bx 0 L.length v ∧ s.get [true,true] = G i ∧ s.get [false,false,false] = y ∧ s.get [true,false,false] = G k ∧ s.get [false,true,false] = G ((0 : Nat) : Int)) (.exit 4)
   (fun s h => ∃ y,NV H0 h y (wsL (xtP a.q a.B L k a.q)) ∧ s.get [false] = G mm ∧ s.get [true] = .ptr S 0 3 ∧ s.get [false,true] = .slice bx 0 L.length v ∧ s.get [true,true] = G i ∧ s.get [false,false,false] = y ∧ s.get [true,false,false] = G k):=by
 have q3:=o.q1
 refine Tr.rounds (e:=.exit 4) (P:=fun c s h => ∃ y,NV H0 h y (wsL (xtP a.q a.B L k c)) ∧ s.get [false] = G mm ∧ s.get [true] = .ptr S 0 3 ∧ s.get [false,true] = .slice bx 0 L.length v ∧ s.get [true,true] = G i ∧ s.get [false,false,false] = y ∧ s.get [true,false,false] = G k ∧ s.get [false,true,false] = G c) (M:=a.q) (fun c hc => ?_) ?_ (by simp) 0 (by omega)
 ·refine Tr.w fun s1 H1 hp _ kR => W.trim ?_
  obtain ⟨y,nv,q⟩:=hp
  have gS1:=nv.k.at gS (by simp) id
  have gb1:=nv.k.at gb (by simp) id
  have bl:=get_lt gb1 (by simp)
  have Sl:=get_lt gS1 (by simp)
  have wk:=wsL_at hk
  have wk':=getI wk
  have lw:=wsL_len L
  have ka : Kp (fun _ => False) H1 (H1.plus [.cells 1 1 [.int .u8 (48 + c)]]):=Kp.plus _ _
  have kc:=k68 (H1.plus [.cells 1 1 [.int .u8 (48 + c)]]) a (L.getD k [] ++ [c]) ((o.kp nv.k).kp ka) (fun d hd => by
   rcases List.mem_append.1 hd with hd | hd
   ·exact rk d hd
   ·rw [List.mem_singleton.1 hd]; exact hc) (by rw [List.length_append,List.length_singleton]; omega)
  have xs:=xtP_c a.q a.B L k c
  have xl:=xtP_len a.q a.B L (k:=k) (c:=c) (by omega) q3.2 hL
  obtain ⟨x1,e,H2,q1,q2,nv2,q4⟩:=(nv.kp ka).app (H1.plus [.cells 1 1 [.int .u8 (48 + c)]]).size 16 (.str (stW (L.getD k [] ++ [c]))) (by rw [wsL_len]; omega)
  rw [← wsL_app] at nv2
  have nv3:=nv.kp ka
  have fl : Eff.app (.fill H1.size (.cells 1 1 [.int .u8 (48 + c)])) (H1.plus [.hole]) = some (H1.plus [.cells 1 1 [.int .u8 (48 + c)]]):=fill_plus0 _ _ rfl _ _
  have vb:=fun xs => plus_keep (h:=H1) xs gb1 (by simp)
  have ls : (stW (L.getD k [])).length ≤ 5:=by rw [stW_len]; exact lk
  have sa:=stW_add (L.getD k []) c
  have w8 : IntKind.u8.wrap (48 + (c : Int)) = 48 + c:=by unfold IntKind.wrap IntKind.bits IntKind.signed; simp; omega
  have nu : UInt8.ofNat ((48 : Int) + c).toNat = UInt8.ofNat (48 + c):=by rw [show ((48 : Int) + c).toNat = 48 + c by omega]
  have nu2 : (48 : UInt8) + UInt8.ofNat c = UInt8.ofNat (48 + c):=by rw [UInt8.ofNat_add]; rfl
  have gS2:=plus_keep (h:=H1) [.cells 1 1 [.int .u8 (48 + c)]] gS1 (by simp)
  rw [sa] at q1 q2 kc
  simp only [xs] at kR
  have e0 : (H1.plus [.cells 1 1 [.int .u8 (48 + c)]]).get H1.size = .cells 1 1 [.int .u8 (48 + c)]:=plus_at0 _ _ _ _ rfl
  clear nv xs rk lk o gS gb sa ka
  generalize stW (L.getD k []) = w at *
  generalize UInt8.ofNat (48 + c) = u at *
  cases hb : bsd a.B (L.getD k [] ++ [c])
  ·rw [hb] at kc kR
   rw [if_neg (by simp),List.append_nil] at kR
   clear nv2 q1 q2 hb
   generalize L.length = n at *
   refine W.assoc ?_
   refine zCh ?_
   simp (disch:=first|omega|exact zE rfl|exact zO|exact zL rfl) [c30_o8,zG,q,gS1]
   refine zCh ?_
   simp (disch:=first|omega|exact zE rfl|exact zO|exact zL rfl) [zG,q]
   refine W.seq (W.block ?_)
   refine zCh ?_
   simp (disch:=first|omega|exact zE rfl|exact zO|exact zL rfl) [-evDraw_c,c30_o9,zG,q,evDraw_k,gb1,vb,wk,wk',lw,fl,w8,nu,nu2,e0,isStrA,elems,bytesN,rdOf,ls]
   refine zCh ?_
   simp (disch:=first|omega|exact zE rfl|exact zO|exact zL rfl) [c30_o10,zG,q,gS2,kc]
   refine W.chunk ?_
   simp (disch:=first|omega|exact zE rfl|exact zO|exact zL rfl) [c30_o11,zG,q]
   refine W.chunk ?_
   simp (disch:=first|omega|exact zE rfl|exact zO|exact zL rfl) [c30_o12,zG,q]
   exact kR _ _ ⟨_,nv3,by simp [T.get,q]⟩
  ·rw [hb] at kc kR
   rw [if_pos rfl] at kR
   clear nv3 hb
   generalize L.length = n at *
   refine W.assoc ?_
   refine zCh ?_
   simp (disch:=first|omega|exact zE rfl|exact zO|exact zL rfl) [c30_o8,zG,q,gS1]
   refine zCh ?_
   simp (disch:=first|omega|exact zE rfl|exact zO|exact zL rfl) [zG,q]
   refine W.seq (W.block ?_)
   refine zCh ?_
   simp (disch:=first|omega|exact zE rfl|exact zO|exact zL rfl) [-evDraw_c,c30_o9,zG,q,evDraw_k,gb1,vb,wk,wk',lw,fl,w8,nu,nu2,e0,isStrA,elems,bytesN,rdOf,ls]
   refine zCh ?_
   simp (disch:=first|omega|exact zE rfl|exact zO|exact zL rfl) [c30_o10,zG,q,gS2,kc]
   refine W.chunk ?_
   simp (disch:=first|omega|exact zE rfl|exact zO|exact zL rfl) [c30_o11,zG,q,q1,q2,app1_at,elems,rdOf]
   refine W.chunk ?_
   simp (disch:=first|omega|exact zE rfl|exact zO|exact zL rfl) [c30_o12,zG,q]
   exact kR _ _ ⟨_,nv2,by simp [T.get,q]⟩
 ·refine Tr.w fun s1 H1 hp _ kR => W.trim ?_
  obtain ⟨y,nv,q⟩:=hp
  have gS1:=nv.k.at gS (by simp) id
  clear o gS gb rk
  generalize L.length = n at *
  refine W.assoc ?_
  refine zCh ?_
  simp (disch:=first|omega|exact zE rfl|exact zO|exact zL rfl) [c30_o8,zG,q,gS1]
  refine zCh ?_
  simp (disch:=first|omega|exact zE rfl|exact zO|exact zL rfl) [zG,q]
  exact kR _ _ ⟨_,nv,by simp [T.get,q]⟩
theorem c30_l1_ok (J : CallF) (k68 : KW 68 J) {H0 : Heap} (o : OkG a H0) (gS : G30 a S H0) {bx v i : Nat} {L : List (List Nat)} (gb : H0.get bx = .cells 1 v (wsL L)) (hL : L.length ≤ 243) {mm : Nat} (rk : ∀ k,k < L.length → (∀ c ∈ L.getD k [],c < a.q) ∧ (L.getD k []).length ≤ 5) :
  Tr tbl J c30_l1 (fun s h => h = H0 ∧ s.get [false] = G mm ∧ s.get [true] = .ptr S 0 3 ∧ s.get [false,true] = .slice bx 0 L.length v ∧ s.get [true,true] = G i ∧ s.get [false,false,false] = .nils ∧ s.get [true,false,false] = G ((0 : Nat) : Int)) (.exit 2)
   (fun s h => ∃ y,NV H0 h y (wsL (xtP a.q a.B L L.length 0)) ∧ s.get [false] = G mm ∧ s.get [true] = .ptr S 0 3 ∧ s.get [true,true] = G i ∧ s.get [false,false,false] = y):=by
 refine Tr.pre (P:=fun s h => ∃ y,NV H0 h y (wsL (xtP a.q a.B L 0 0)) ∧ s.get [false] = G mm ∧ s.get [true] = .ptr S 0 3 ∧ s.get [false,true] = .slice bx 0 L.length v ∧ s.get [true,true] = G i ∧ s.get [false,false,false] = y ∧ s.get [true,false,false] = G ((0 : Nat) : Int)) (fun s h hp => ⟨.nils,by rw [hp.1,xtP_0]; exact NV.nil H0,hp.2⟩) ?_
 refine Tr.rounds (e:=.exit 2) (P:=fun k s h => ∃ y,NV H0 h y (wsL (xtP a.q a.B L k 0)) ∧ s.get [false] = G mm ∧ s.get [true] = .ptr S 0 3 ∧ s.get [false,true] = .slice bx 0 L.length v ∧ s.get [true,true] = G i ∧ s.get [false,false,false] = y ∧ s.get [true,false,false] = G k) (M:=L.length) (fun k hk => ?_) ?_ (by simp) 0 (by omega)
 ·refine Tr.w fun s1 H1 hp _ kR => W.trim ?_
  obtain ⟨y,nv,q⟩:=hp
  have l0:=c30_l0_ok (i:=i) (mm:=mm) J k68 o gS gb hL hk (rk k hk).1 (rk k hk).2
  have ek:=xtP_k a.q a.B L hk
  simp only [ek] at kR
  have ex : ∃ y,NV H0 H1 y (wsL (xtP a.q a.B L k 0)) ∧ G mm = G mm ∧ y = y:=⟨y,nv,rfl,rfl⟩
  clear ek rk gS o gb
  generalize L.length = n at *
  refine W.assoc ?_
  refine zCh ?_
  simp (disch:=first|omega|exact zE rfl|exact zO|exact zL rfl) [c30_o6,zG,q]
  refine zCh ?_
  simp (disch:=first|omega|exact zE rfl|exact zO|exact zL rfl) [zG,q]
  refine W.seq (W.block ?_)
  refine zCh ?_
  simp (disch:=first|omega|exact zE rfl|exact zO|exact zL rfl) [c30_o7,zG,q]
  refine W.block ?_
  refine W.use (l0) (by simp (disch:=first|omega|exact zE rfl|exact zO|exact zL rfl) [zG,q,nv]) fun s1 H1 hp => ?_
  obtain ⟨y2,nv2,q⟩:=hp
  try simp only [zW,if_true]
  refine W.chunk ?_
  simp (disch:=first|omega|exact zE rfl|exact zO|exact zL rfl) [c30_o13,zG,q]
  exact kR _ _ ⟨_,nv2,by simp [T.get,q]⟩
 ·refine Tr.w fun s1 H1 hp _ kR => W.trim ?_
  obtain ⟨y,nv,q⟩:=hp
  clear o gS gb rk
  generalize L.length = n at *
  refine W.assoc ?_
  refine zCh ?_
  simp (disch:=first|omega|exact zE rfl|exact zO|exact zL rfl) [c30_o6,zG,q]
  refine zCh ?_
  simp (disch:=first|omega|exact zE rfl|exact zO|exact zL rfl) [zG,q]
  exact kR _ _ ⟨_,nv,by simp [T.get,q]⟩
theorem c30_l2_ok (J : CallF) (k68 : KW 68 J) {H0 : Heap} (o : OkG a H0) (gS : G30 a S H0) {mm : Nat} (m5 : mm ≤ 5) :
  Tr tbl J c30_l2 (fun s h => ∃ y,NV H0 h y (wsL (rwL a.q a.B 0)) ∧ s.get [false] = G mm ∧ s.get [true] = .ptr S 0 3 ∧ s.get [false,true] = y ∧ s.get [true,true] = G ((0 : Nat) : Int)) (.exit 0)
   (fun s h => ∃ y,NV H0 h y (wsL (rwL a.q a.B mm)) ∧ s.get [false,true] = y):=by
 have q3:=o.q1
 refine Tr.rounds (e:=.exit 0) (P:=fun i s h => ∃ y,NV H0 h y (wsL (rwL a.q a.B i)) ∧ s.get [false] = G mm ∧ s.get [true] = .ptr S 0 3 ∧ s.get [false,true] = y ∧ s.get [true,true] = G i) (M:=mm) (fun i hi => ?_) ?_ (by simp) 0 (by omega)
 ·refine Tr.w fun s1 H1 hp _ kR => W.trim ?_
  obtain ⟨y,nv,q⟩:=hp
  have kk:=nv.k
  have small:=rwL_small (m:=i) (B:=a.B) q3.2 (by omega)
  have lv:=nv.l
  have en:=xtP_n a.q a.B i
  have lw:=wsL_len (rwL a.q a.B i)
  have e0 : rwL a.q a.B (i + 1) = if rwL a.q a.B i = [] then [] else rwL a.q a.B (i + 1):=by
   split
   ·rename_i h0; rw [← en,h0]; simp [xtP,xtL]
   ·rfl
  rcases lv with ⟨rfl,e⟩ | ⟨b,rfl,g,_⟩
  ·have hz : rwL a.q a.B i = []:=by simpa [wsL] using e
   rw [hz,if_pos rfl] at e0
   simp only [e0] at kR
   have nv0 : NV H0 H1 .nils (wsL []):=NV.base kk (NV.nil H1)
   clear nv e0 en o gS
   have l1 : Tr tbl J c30_l1 (fun s h => h = H1 ∧ s.get [false] = G mm ∧ s.get [true] = .ptr S 0 3 ∧ s.get [false,true] = .nils ∧ s.get [true,true] = G i ∧ s.get [false,false,false] = .nils ∧ s.get [true,false,false] = G 0) (.exit 2) (fun s h => h = H1 ∧ s.get [false] = G mm ∧ s.get [true] = .ptr S 0 3 ∧ s.get [true,true] = G i ∧ s.get [false,false,false] = .nils):=by
    refine Tr.out ?_ (by simp)
    refine Tr.w fun s1 H1 hp _ kR => W.trim ?_
    obtain ⟨rfl,q⟩:=hp
    refine W.assoc ?_
    refine zCh ?_
    simp (disch:=first|omega|exact zE rfl|exact zO|exact zL rfl) [c30_o6,zG,q]
    refine zCh ?_
    simp (disch:=first|omega|exact zE rfl|exact zO|exact zL rfl) [zG,q]
    exact kR _ _ (by simp [T.get,q])
   refine W.assoc ?_
   refine zCh ?_
   simp (disch:=first|omega|exact zE rfl|exact zO|exact zL rfl) [c30_o3,zG,q]
   refine zCh ?_
   simp (disch:=first|omega|exact zE rfl|exact zO|exact zL rfl) [zG,q]
   refine W.seq (W.block ?_)
   refine zCh ?_
   simp (disch:=first|omega|exact zE rfl|exact zO|exact zL rfl) [c30_o4,zG,q]
   refine W.assoc ?_
   refine zCh ?_
   simp (disch:=first|omega|exact zE rfl|exact zO|exact zL rfl) [c30_o5,zG,q]
   refine W.seq (W.block ?_)
   refine W.use (l1) (by simp (disch:=first|omega|exact zE rfl|exact zO|exact zL rfl) [zG,q]) fun s1 H1 hp => ?_
   obtain ⟨rfl,q⟩:=hp
   try simp only [zW,if_true]
   refine W.chunk ?_
   simp (disch:=first|omega|exact zE rfl|exact zO|exact zL rfl) [c30_o14,zG,q]
   refine W.chunk ?_
   simp (disch:=first|omega|exact zE rfl|exact zO|exact zL rfl) [c30_o15,zG,q]
   exact kR _ _ ⟨_,nv0,by simp [T.get,q]⟩
  ·rw [lw] at g
   have l1:=c30_l1_ok (i:=i) (mm:=mm) J k68 (o.kp kk) (kk.at gS (by simp) id) g small (fun k hk => by
    have:=rows_ok (B:=a.B) k hk
    exact ⟨this.2,by omega⟩)
   rw [en] at l1
   rw [lw] at q
   clear nv e0 en o gS
   generalize (rwL a.q a.B i).length = n at *
   refine W.assoc ?_
   refine zCh ?_
   simp (disch:=first|omega|exact zE rfl|exact zO|exact zL rfl) [c30_o3,zG,q]
   refine zCh ?_
   simp (disch:=first|omega|exact zE rfl|exact zO|exact zL rfl) [zG,q]
   refine W.seq (W.block ?_)
   refine zCh ?_
   simp (disch:=first|omega|exact zE rfl|exact zO|exact zL rfl) [c30_o4,zG,q]
   refine W.assoc ?_
   refine zCh ?_
   simp (disch:=first|omega|exact zE rfl|exact zO|exact zL rfl) [c30_o5,zG,q]
   refine W.seq (W.block ?_)
   refine W.use (l1) (by simp (disch:=first|omega|exact zE rfl|exact zO|exact zL rfl) [zG,q]) fun s1 H1 hp => ?_
   obtain ⟨y2,nv2,q⟩:=hp
   try simp only [zW,if_true]
   refine W.chunk ?_
   simp (disch:=first|omega|exact zE rfl|exact zO|exact zL rfl) [c30_o14,zG,q]
   refine W.chunk ?_
   simp (disch:=first|omega|exact zE rfl|exact zO|exact zL rfl) [c30_o15,zG,q]
   exact kR _ _ ⟨_,nv2.base kk,by simp [T.get,q]⟩
 ·refine Tr.w fun s1 H1 hp _ kR => W.trim ?_
  obtain ⟨y,nv,q⟩:=hp
  clear o gS
  refine W.assoc ?_
  refine zCh ?_
  simp (disch:=first|omega|exact zE rfl|exact zO|exact zL rfl) [c30_o3,zG,q]
  refine zCh ?_
  simp (disch:=first|omega|exact zE rfl|exact zO|exact zL rfl) [zG,q]
  exact kR _ _ ⟨_,nv,by simp [T.get,q]⟩
theorem NV.rv {H0 h : Heap} {x : AV} {L : List AV} (t : NV H0 h x L) : RV h x L:=t.l.rv
theorem RV.fr {h H' : Heap} {x : AV} {L : List AV} (t : RV H' x L) (k : Kp (fun _ => False) (frameOf h) H') : RV (h.plus (if (one [x]).flat then [] else H'.own)) x L:=by
 split
 ·rename_i hf
  rcases t with ⟨rfl,e2⟩ | ⟨b,v,rfl,g⟩
  ·exact .inl ⟨rfl,e2⟩
  ·simp [one,AV.flat,AV.flats] at hf
 ·have e:=Kp.own k
  exact t.congr fun b => by rw [e]; exact fr_get h _ b
theorem c30_ok (J : CallF) (k68 : KW 68 J) (hJ : ∀ a h,J 30 a h = none) (h : Heap) (o : OkG a h) {m : Nat} (m5 : m ≤ 5) : ∃ v own,CallsTo tbl J 30 [a.v,G m] h (v,own,false) ∧ RV (h.plus own) v (wsL (rwL a.q a.B m)) ∧ ∀ b,blk v = some b → h.size ≤ b:=by
 refine Tr.fny (cf:=c30) (e:=.ret) (s:=T.set (T.set .leaf [] a.v) [false] (G m)) (by decide) rfl (hJ _ _) rfl rfl (by simp) ?_
 have oH:=o.lo [.cells 0 3 [G a.q,a.x,a.y]]
 have gS : G30 a h.size ⟨h.get,h.size,[.cells 0 3 [G a.q,a.x,a.y]]⟩:=by show Heap.get _ _ = _; rw [get_mk_ge _ _ _ _ (Nat.le_refl _),Nat.sub_self]; rfl
 have l2:=c30_l2_ok J k68 oH gS m5
 have nv0 : NV ⟨h.get,h.size,[.cells 0 3 [G a.q,a.x,a.y]]⟩ ⟨h.get,h.size,[.cells 0 3 [G a.q,a.x,a.y],.cells 1 1 [.str []]]⟩ (.slice (h.size + 1) 0 1 1) (wsL (rwL a.q a.B 0)):=by
  refine ⟨Kp.plus ⟨h.get,h.size,[.cells 0 3 [G a.q,a.x,a.y]]⟩ [.cells 1 1 [.str []]],fun b e => by cases e; exact Nat.le_refl _,.inr ⟨h.size + 1,rfl,?_,Nat.le_succ _⟩⟩
  rw [get_mk_ge _ _ _ _ (by omega),Nat.add_sub_cancel_left]; rfl
 have kb : Kp (fun _ => False) (frameOf h) ⟨h.get,h.size,[.cells 0 3 [G a.q,a.x,a.y]]⟩:=Kp.plus (frameOf h) [.cells 0 3 [G a.q,a.x,a.y]]
 have nv0' : ∃ y,NV ⟨h.get,h.size,[.cells 0 3 [G a.q,a.x,a.y]]⟩ ⟨h.get,h.size,[.cells 0 3 [G a.q,a.x,a.y],.cells 1 1 [.str []]]⟩ y (wsL (rwL a.q a.B 0)) ∧ AV.slice (h.size + 1) 0 1 1 = y:=⟨_,nv0,rfl⟩
 clear o oH gS
 refine Tr.w fun s1 H1 hp _ kR => ?_
 obtain ⟨rfl,rfl⟩:=hp
 have q : True:=trivial
 refine zCh ?_
 simp (disch:=first|omega|exact zE rfl|exact zO|exact zL rfl) [c30_o0,size_mk,get_mk_lt,get_mk_ge,frameOf,Eff.app,Heap.setOwn,q]
 refine zCh ?_
 simp (disch:=first|omega|exact zE rfl|exact zO|exact zL rfl) [c30_o1,size_mk,get_mk_lt,get_mk_ge,frameOf,Eff.app,Heap.setOwn,q]
 refine W.assoc ?_
 refine zCh ?_
 simp (disch:=first|omega|exact zE rfl|exact zO|exact zL rfl) [c30_o2,size_mk,get_mk_lt,get_mk_ge,frameOf,Eff.app,Heap.setOwn,q]
 refine W.seq (W.block ?_)
 refine W.use (l2) (by simp (disch:=first|omega|exact zE rfl|exact zO|exact zL rfl) [size_mk,get_mk_lt,get_mk_ge,frameOf,Eff.app,Heap.setOwn,q,nv0]) fun s1 H1 hp => ?_
 obtain ⟨y,nv,q⟩:=hp
 try simp only [zW,if_true]
 refine zCh ?_
 simp (disch:=first|omega|exact zE rfl|exact zO|exact zL rfl) [c30_o16,size_mk,get_mk_lt,get_mk_ge,frameOf,Eff.app,Heap.setOwn,q]
 refine W.ret ?_
 try simp only [zW,if_true]
 have nb:=nv.base kb
 refine kR _ _ ?_
 refine ⟨[y],by simp [T.get,c30,evRess,evRes,q],nb.rv.fr nb.k,fun b e => nb.x0 b e⟩
end
def Pre30 (b : AM) (args : List AV) (h : Heap) : Prop:=(OkG b.a h ∧ b.m ≤ 5) ∧ args = [b.a.v,G b.m]
def Post30 (b : AM) (h : Heap) (v : AV) (own : List AObj) : Prop:=RV (h.plus own) v (wsL (rwL b.a.q b.a.B b.m)) ∧ ∀ c,blk v = some c → h.size ≤ c
noncomputable def T24 : CallF:=addK tbl T23 30 Pre30 Post30
theorem t24 : Sound Go.Proofs.Try.prog T24:=Sound.addK follows ok t23 (by decide) _ _
abbrev K30 (J : CallF) : Prop:=∀ (h : Heap) (a : AG) (m : Nat),OkG a h → m ≤ 5 → ∃ v own,J 30 [a.v,G m] h = some (v,own,false) ∧ RV (h.plus own) v (wsL (rwL a.q a.B m)) ∧ ∀ c,blk v = some c → h.size ≤ c
theorem k68_23 : KW 68 T23:=fun h a w o hw lw => by
 have e:=k68 h a w o hw lw
 rw [show T23 68 [a.v,.str (stW w)] h = T14 68 [a.v,.str (stW w)] h from by simp (disch:=decide) only [T1,T2,T3,T4,T5,T6,T7,T8,T9,T10,T11,T12,T13,T14,T15,T16,T17,T18,T19,T20,T21,T22,T23,addI_ne,addX_ne,addV_ne,addK_ne]]
 exact e
theorem k30 : K30 T24:=fun h a m o m5 => by
 obtain ⟨v,own,e,l⟩:=addK_some (Pre:=Pre30) (Post:=Post30) (fun b args h hp => by
  obtain ⟨⟨h1,h2⟩,rfl⟩:=hp
  exact c30_ok T23 k68_23 (fun _ _ => by simp (disch:=decide) only [T1,T2,T3,T4,T5,T6,T7,T8,T9,T10,T11,T12,T13,T14,T15,T16,T17,T18,T19,T20,T21,T22,T23,addI_ne,addX_ne,addV_ne,addK_ne]; rfl) h h1 h2) ⟨a,m⟩ _ h ⟨⟨o,m5⟩,rfl⟩
 exact ⟨v,own,e,l⟩
def nI (L : List Nat) : List Int:=L.map fun (k : Nat) => (k : Int)
theorem nI_app (L : List Nat) (j : Nat) : nI (L ++ [j]) = nI L ++ [(j : Int)]:=by simp [nI]
theorem nI_len (L : List Nat) : (nI L).length = L.length:=by simp [nI]
section
variable {a : AG} {S : Nat} {bx v : Nat} {R : List (List Nat)}
theorem c31_l0_ok (J : CallF) (k69 : KB 69 J) {H0 : Heap} (o : OkG a H0) (gS : G30 a S H0) (gb : H0.get bx = .cells 1 v (wsL R)) (hn : R.length ≤ 243) {m : Nat} (m5 : m ≤ 5) (hR : RowsOk a.q m R) {i : Nat} (hi : i < R.length) {z : AV} :
  Tr tbl J c31_l0 (fun s h => h = H0 ∧ s.get [true] = .ptr S 0 3 ∧ s.get [false,true] = .slice bx 0 R.length v ∧ s.get [true,true] = z ∧ s.get [false,false,false] = G i ∧ s.get [true,false,false] = .nils ∧ s.get [false,true,false] = G ((0 : Nat) : Int)) (.exit 2)
   (fun s h => ∃ y,NG H0 h y (nI (nxL a.W R (R.getD i []))) ∧ s.get [true] = .ptr S 0 3 ∧ s.get [false,true] = .slice bx 0 R.length v ∧ s.get [true,true] = z ∧ s.get [false,false,false] = G i ∧ s.get [true,false,false] = y):=by
 refine Tr.pre (P:=fun s h => ∃ y,NG H0 h y (nI (nxP a.W R (R.getD i []) 0)) ∧ s.get [true] = .ptr S 0 3 ∧ s.get [false,true] = .slice bx 0 R.length v ∧ s.get [true,true] = z ∧ s.get [false,false,false] = G i ∧ s.get [true,false,false] = y ∧ s.get [false,true,false] = G ((0 : Nat) : Int)) (fun s h hp => ⟨.nils,by rw [hp.1]; exact NG.nil H0,hp.2⟩) ?_
 refine Tr.rounds (e:=.exit 2) (P:=fun j s h => ∃ y,NG H0 h y (nI (nxP a.W R (R.getD i []) j)) ∧ s.get [true] = .ptr S 0 3 ∧ s.get [false,true] = .slice bx 0 R.length v ∧ s.get [true,true] = z ∧ s.get [false,false,false] = G i ∧ s.get [true,false,false] = y ∧ s.get [false,true,false] = G j) (M:=R.length) (fun j hj => ?_) ?_ (by simp) 0 (by omega)
 ·refine Tr.w fun s1 H1 hp _ kR => W.trim ?_
  obtain ⟨y,ng,q⟩:=hp
  have gS1:=ng.k.at gS (by simp) id
  have gb1:=ng.k.at gb (by simp) id
  have wi:=wsL_at hi
  have wi':=getI wi
  have wj:=wsL_at hj
  have wj':=getI wj
  have lw:=wsL_len R
  have k:=k69 H1 a _ _ (o.kp ng.k) (hR i hi).2 (hR j hj).2 (by rw [(hR i hi).1]; omega) (by rw [(hR i hi).1,(hR j hj).1])
  have sc:=nxP_succ a.W R (R.getD i []) j
  have nl:=nxP_len a.W R (R.getD i []) j
  obtain ⟨x1,e,H2,q1,q2,ng2,q4⟩:=ng.app H1.size (j : Int) (by rw [nI_len]; omega)
  rw [← nI_app] at ng2
  simp only [sc] at kR
  clear sc hR gS gb o
  generalize stW (R.getD i []) = u at *
  generalize stW (R.getD j []) = u' at *
  cases hb : blw a.W (R.getD i []) (R.getD j [])
  ·rw [hb] at k kR
   rw [if_neg (by simp),List.append_nil] at kR
   clear hb ng2
   generalize R.length = n at *
   refine W.assoc ?_
   refine zCh ?_
   simp (disch:=first|omega|exact zE rfl|exact zO|exact zL rfl) [c31_o7,zG,q]
   refine zCh ?_
   simp (disch:=first|omega|exact zE rfl|exact zO|exact zL rfl) [zG,q]
   refine W.seq (W.block ?_)
   refine zCh ?_
   simp (disch:=first|omega|exact zE rfl|exact zO|exact zL rfl) [c31_o8,zG,q,gS1,gb1,wi,wi',wj,wj',lw,k,-evDraw_c,evDraw_0]
   refine W.chunk ?_
   simp (disch:=first|omega|exact zE rfl|exact zO|exact zL rfl) [c31_o9,zG,q]
   refine W.chunk ?_
   simp (disch:=first|omega|exact zE rfl|exact zO|exact zL rfl) [c31_o10,zG,q]
   exact kR _ _ ⟨_,ng,by simp [T.get,q]⟩
  ·rw [hb] at k kR
   rw [if_pos rfl] at kR
   clear hb ng
   generalize R.length = n at *
   refine W.assoc ?_
   refine zCh ?_
   simp (disch:=first|omega|exact zE rfl|exact zO|exact zL rfl) [c31_o7,zG,q]
   refine zCh ?_
   simp (disch:=first|omega|exact zE rfl|exact zO|exact zL rfl) [zG,q]
   refine W.seq (W.block ?_)
   refine zCh ?_
   simp (disch:=first|omega|exact zE rfl|exact zO|exact zL rfl) [c31_o8,zG,q,gS1,gb1,wi,wi',wj,wj',lw,k,-evDraw_c,evDraw_0]
   refine W.chunk ?_
   simp (disch:=first|omega|exact zE rfl|exact zO|exact zL rfl) [c31_o9,zG,q,q1,q2,app1_at,elems,rdOf]
   refine W.chunk ?_
   simp (disch:=first|omega|exact zE rfl|exact zO|exact zL rfl) [c31_o10,zG,q]
   exact kR _ _ ⟨_,ng2,by simp [T.get,q]⟩
 ·refine Tr.w fun s1 H1 hp _ kR => W.trim ?_
  obtain ⟨y,ng,q⟩:=hp
  have en : nxP a.W R (R.getD i []) R.length = nxL a.W R (R.getD i []):=rfl
  rw [en] at ng
  clear en hR gS gb o
  generalize R.length = n at *
  refine W.assoc ?_
  refine zCh ?_
  simp (disch:=first|omega|exact zE rfl|exact zO|exact zL rfl) [c31_o7,zG,q]
  refine zCh ?_
  simp (disch:=first|omega|exact zE rfl|exact zO|exact zL rfl) [zG,q]
  exact kR _ _ ⟨_,ng,by simp [T.get,q]⟩
theorem stL_take (W : List (List Int)) (R : List (List Nat)) {i : Nat} (hi : i < R.length) : ntI ((stL W R).take (i + 1)) = ntI ((stL W R).take i) ++ [nI (nxL W R (R.getD i []))]:=by
 unfold ntI stL
 rw [List.take_add_one,List.map_append,List.getElem?_map,List.getElem?_eq_getElem hi,List.getD_eq_getElem?_getD,List.getElem?_eq_getElem hi]
 rfl
theorem RV.sl {h : Heap} {x : AV} {cs : List AV} (r : RV h x cs) : (x = .nils ∧ cs.length = 0) ∨ ∃ b v,x = .slice b 0 cs.length v:=by
 rcases r with ⟨e,e2⟩ | ⟨b,v,e,_⟩
 ·exact .inl ⟨e,by rw [e2]; rfl⟩
 ·exact .inr ⟨b,v,e⟩
theorem LV.sh {h : Heap} {x : AV} {cs : List AV} (r : LV h x cs) : x = .nils ∨ ∃ b n,x = .slice b 0 n n:=by
 rcases r with ⟨e,_⟩ | ⟨b,e,_⟩
 ·exact .inl e
 ·exact .inr ⟨b,_,e⟩
theorem c31_o11_ok (J : CallF) {H H3 : Heap} {x y y2 x1 : AV} {e : Eff} {i : Nat} (hy : y2 = .nils ∨ ∃ b n,y2 = .slice b 0 n n) (q1 : appA (H.plus [.cells 1 1 [y2]]) H.size none 1 24 1 [y2] y = some (x1,e)) (q2 : Eff.app e (H.plus [.cells 1 1 [y2]]) = some H3) :
  Tr tbl J c31_o11 (fun s h => h = H ∧ s.get [true] = .ptr S 0 3 ∧ s.get [false,true] = x ∧ s.get [true,true] = y ∧ s.get [false,false,false] = G i ∧ s.get [true,false,false] = y2) .normal (fun s h => h = H3 ∧ s.get [true] = .ptr S 0 3 ∧ s.get [false,true] = x ∧ s.get [true,true] = x1 ∧ s.get [false,false,false] = G i):=by
 have f1 : (H.plus [.cells 1 1 [y2]]).get H.size = .cells 1 1 [y2]:=plus_at0 _ _ _ _ rfl
 rcases hy with rfl | ⟨b,n,rfl⟩
 all_goals
  refine Tr.w fun s1 H1 hp _ kR => ?_
  obtain ⟨rfl,q⟩:=hp
  refine W.chunk ?_
  simp (disch:=first|omega|exact zE rfl|exact zO|exact zL rfl) [c31_o11,zG,q,q1,q2,f1,elems,rdOf]
  exact kR _ _ (by simp [T.get,q])
theorem c31_l1_ok (J : CallF) (k69 : KB 69 J) {H0 : Heap} (o : OkG a H0) (gS : G30 a S H0) {x : AV} (rv : RV H0 x (wsL R)) (hn : R.length ≤ 243) {m : Nat} (m5 : m ≤ 5) (hR : RowsOk a.q m R) :
  Tr tbl J c31_l1 (fun s h => h = H0 ∧ s.get [true] = .ptr S 0 3 ∧ s.get [false,true] = x ∧ s.get [true,true] = .nils ∧ s.get [false,false,false] = G ((0 : Nat) : Int)) (.exit 0)
   (fun s h => ∃ y,TG H0 h y (ntI (stL a.W R)) ∧ s.get [true,true] = y):=by
 refine Tr.pre (P:=fun s h => ∃ y,TG H0 h y (ntI ((stL a.W R).take 0)) ∧ s.get [true] = .ptr S 0 3 ∧ s.get [false,true] = x ∧ s.get [true,true] = y ∧ s.get [false,false,false] = G ((0 : Nat) : Int)) (fun s h hp => ⟨.nils,by rw [hp.1]; exact TG.nil H0,hp.2⟩) ?_
 have lw:=wsL_len R
 refine Tr.rounds (e:=.exit 0) (P:=fun i s h => ∃ y,TG H0 h y (ntI ((stL a.W R).take i)) ∧ s.get [true] = .ptr S 0 3 ∧ s.get [false,true] = x ∧ s.get [true,true] = y ∧ s.get [false,false,false] = G i) (M:=R.length) (fun i hi => ?_) ?_ (by simp) 0 (by omega)
 ·obtain ⟨bx,v,rfl,gb⟩ : ∃ bx v,x = .slice bx 0 R.length v ∧ H0.get bx = .cells 1 v (wsL R):=by
   rcases rv with ⟨_,e⟩ | ⟨b,v,e,g⟩
   ·rw [e] at lw; simp at lw; omega
   ·rw [lw] at e; exact ⟨b,v,e,g⟩
  refine Tr.w fun s1 H1 hp _ kR => W.trim ?_
  obtain ⟨y,tg,q⟩:=hp
  have l0:=c31_l0_ok (z:=y) J k69 (o.kp tg.k) (tg.k.at gS (by simp) id) (tg.k.at gb (by simp) id) hn m5 hR hi
  have st:=stL_take a.W R hi
  have ln : (ntI ((stL a.W R).take i)).length ≤ 243:=by
   unfold ntI stL
   rw [List.length_map,List.length_take,List.length_map]; omega
  have app : ∀ H2 y2,NG H1 H2 y2 (nI (nxL a.W R (R.getD i []))) → ∃ x1 e H3,appA (H2.plus [.cells 1 1 [y2]]) H2.size none 1 24 1 [y2] y = some (x1,e) ∧ Eff.app e (H2.plus [.cells 1 1 [y2]]) = some H3 ∧ TG H0 H3 x1 (ntI ((stL a.W R).take (i + 1))) ∧ (y2 = .nils ∨ ∃ b n,y2 = .slice b 0 n n):=fun H2 y2 ng => by
   obtain ⟨x1,e,H3,q1,q2,q3,q4⟩:=(tg.kp ng.k).app H2.size ng.list (fun b hb => ⟨fun hy => by
    have h1:=ng.x0 b hb
    obtain ⟨cs,lv,_⟩:=tg.r
    have:=lv.lt hy
    omega,Nat.le_trans tg.k.size (ng.x0 b hb)⟩) (by omega)
   rw [st]
   exact ⟨x1,e,H3,q1,q2,q3,ng.l.sh⟩
  clear st tg hR o gS gb rv ln
  generalize R.length = n at *
  refine W.assoc ?_
  refine zCh ?_
  simp (disch:=first|omega|exact zE rfl|exact zO|exact zL rfl) [c31_o4,zG,q]
  refine zCh ?_
  simp (disch:=first|omega|exact zE rfl|exact zO|exact zL rfl) [zG,q]
  refine W.seq (W.block ?_)
  refine zCh ?_
  simp (disch:=first|omega|exact zE rfl|exact zO|exact zL rfl) [c31_o5,zG,q]
  refine W.assoc ?_
  refine zCh ?_
  simp (disch:=first|omega|exact zE rfl|exact zO|exact zL rfl) [c31_o6,zG,q]
  refine W.seq (W.block ?_)
  refine W.use (l0) (by simp (disch:=first|omega|exact zE rfl|exact zO|exact zL rfl) [zG,q]) fun s1 H1 hp => ?_
  obtain ⟨y2,ng,q⟩:=hp
  try simp only [zW,if_true]
  obtain ⟨x1,e,H3,q1,q2,q3,q5⟩:=app _ _ ng
  refine W.use (c31_o11_ok (S:=S) (x:=.slice bx 0 n v) (i:=i) J q5 q1 q2) (by simp (disch:=first|omega|exact zE rfl|exact zO|exact zL rfl) [zG,q]) fun s1 H1 hp => ?_
  obtain ⟨rfl,q⟩:=hp
  try simp only [zW,if_true]
  refine W.chunk ?_
  simp (disch:=first|omega|exact zE rfl|exact zO|exact zL rfl) [c31_o12,zG,q]
  exact kR _ _ ⟨_,q3,by simp [T.get,q]⟩
 ·refine Tr.w fun s1 H1 hp _ kR => W.trim ?_
  obtain ⟨y,tg,q⟩:=hp
  rw [show (stL a.W R).take R.length = stL a.W R from List.take_of_length_le (by simp [stL])] at tg
  have sl:=rv.sl
  rw [lw] at sl
  clear o gS hR rv
  generalize R.length = n at *
  rcases sl with ⟨rfl,rfl⟩ | ⟨b,v,rfl⟩
  all_goals
   refine W.assoc ?_
   refine zCh ?_
   simp (disch:=first|omega|exact zE rfl|exact zO|exact zL rfl) [c31_o4,zG,q]
   refine zCh ?_
   simp (disch:=first|omega|exact zE rfl|exact zO|exact zL rfl) [zG,q]
   exact kR _ _ ⟨_,tg,by simp [T.get,q]⟩
theorem TG.base {H0 H1 H : Heap} {x : AV} {L : List (List Int)} (k : Kp (fun _ => False) H0 H1) (t : TG H1 H x L) : TG H0 H x L:=by
 obtain ⟨cs,lv,hl,hr⟩:=t.r
 exact ⟨k.trans t.k,fun q hq => Nat.le_trans k.size (t.x0 q hq),cs,lv,hl,fun i r hi => by
  obtain ⟨l,h1,h2,h3⟩:=hr i r hi
  exact ⟨l,h1,h2,fun q hq => ⟨(h3 q hq).1,Nat.le_trans k.size (h3 q hq).2.1,(h3 q hq).2.2⟩⟩⟩
theorem LT.fr {h H' : Heap} {x : AV} {L : List (List Int)} (t : LT H' x L) (k : Kp (fun _ => False) (frameOf h) H') : LT (h.plus (if (one [x]).flat then [] else H'.own)) x L:=by
 split
 ·rename_i hf
  obtain ⟨rs,lv,hl,hr⟩:=t
  rcases lv with ⟨rfl,e2⟩ | ⟨b,rfl,g⟩
  ·subst e2
   exact ⟨[],.inl ⟨rfl,rfl⟩,hl,fun i r e => by simp at e⟩
  ·simp [one,AV.flat,AV.flats] at hf
 ·have e:=Kp.own k
  exact t.congr fun b => by rw [e]; exact fr_get h _ b
theorem c31_ok (J : CallF) (k30 : K30 J) (k69 : KB 69 J) (hJ : ∀ a h,J 31 a h = none) (h : Heap) (o : OkG a h) {m : Nat} (m5 : m ≤ 5) : ∃ v own,CallsTo tbl J 31 [a.v,G m] h (v,own,false) ∧ LT (h.plus own) v (ntI (stL a.W (rwL a.q a.B m))):=by
 refine Tr.fny (cf:=c31) (e:=.ret) (s:=T.set (T.set .leaf [] a.v) [false] (G m)) (by decide) rfl (hJ _ _) rfl rfl (by simp) ?_
 obtain ⟨Hs,hHs⟩ : ∃ H,(⟨h.get,h.size,[.cells 0 3 [G a.q,a.x,a.y]]⟩ : Heap) = H:=⟨_,rfl⟩
 have oH : OkG a Hs:=by rw [← hHs]; exact o.lo _
 have gS : G30 a h.size Hs:=by show Heap.get _ _ = _; rw [← hHs,get_mk_ge _ _ _ _ (Nat.le_refl _),Nat.sub_self]; rfl
 have kb : Kp (fun _ => False) (frameOf h) Hs:=by rw [← hHs]; exact Kp.plus (frameOf h) [.cells 0 3 [G a.q,a.x,a.y]]
 obtain ⟨x,own,e,rv,_⟩:=k30 Hs a m oH m5
 have kp : Kp (fun _ => False) Hs (Hs.plus own):=Kp.plus _ _
 have q3:=o.q1
 have l1:=c31_l1_ok (S:=h.size) J k69 (oH.kp kp) (kp.at gS (by simp) id) rv (rwL_small q3.2 m5) m5 rows_ok
 have gS' : Hs.get h.size = .cells 0 3 [G a.q,a.x,a.y]:=gS
 clear o oH gS rv
 refine Tr.w fun s1 H1 hp _ kR => ?_
 obtain ⟨rfl,rfl⟩:=hp
 have q : True:=trivial
 refine zCh ?_
 simp (disch:=first|omega|exact zE rfl|exact zO|exact zL rfl) [c31_o0,size_mk,get_mk_lt,get_mk_ge,frameOf,Eff.app,Heap.setOwn,q,hHs]
 refine zCh ?_
 simp (disch:=first|omega|exact zE rfl|exact zO|exact zL rfl) [c31_o1,zG,q,gS',e,app_if,app_if']
 refine zCh ?_
 simp (disch:=first|omega|exact zE rfl|exact zO|exact zL rfl) [c31_o2,size_mk,get_mk_lt,get_mk_ge,frameOf,Eff.app,Heap.setOwn,q]
 refine W.assoc ?_
 refine zCh ?_
 simp (disch:=first|omega|exact zE rfl|exact zO|exact zL rfl) [c31_o3,size_mk,get_mk_lt,get_mk_ge,frameOf,Eff.app,Heap.setOwn,q]
 refine W.seq (W.block ?_)
 refine W.use (l1) (by simp (disch:=first|omega|exact zE rfl|exact zO|exact zL rfl) [size_mk,get_mk_lt,get_mk_ge,frameOf,Eff.app,Heap.setOwn,q]) fun s1 H1 hp => ?_
 obtain ⟨y,tg,q⟩:=hp
 try simp only [zW,if_true]
 refine zCh ?_
 simp (disch:=first|omega|exact zE rfl|exact zO|exact zL rfl) [c31_o13,size_mk,get_mk_lt,get_mk_ge,frameOf,Eff.app,Heap.setOwn,q]
 refine W.ret ?_
 try simp only [zW,if_true]
 have tb:=tg.base (kb.trans kp)
 refine kR _ _ ?_
 refine ⟨[y],by simp [T.get,c31,evRess,evRes,q],tb.lt.fr tb.k⟩
end
def Post31 (b : AM) (h : Heap) (v : AV) (own : List AObj) : Prop:=LT (h.plus own) v (ntI (stL b.a.W (rwL b.a.q b.a.B b.m)))
noncomputable def T25 : CallF:=addK tbl T24 31 Pre30 Post31
theorem t25 : Sound Go.Proofs.Try.prog T25:=Sound.addK follows ok t24 (by decide) _ _
abbrev K31 (J : CallF) : Prop:=∀ (h : Heap) (a : AG) (m : Nat),OkG a h → m ≤ 5 → ∃ v own,J 31 [a.v,G m] h = some (v,own,false) ∧ LT (h.plus own) v (ntI (stL a.W (rwL a.q a.B m)))
theorem k69_24 : KB 69 T24:=fun h a s t o hs ht ls lt => by
 have e:=k69 h a s t o hs ht ls lt
 rw [show T24 69 [a.v,.str (stW s),.str (stW t)] h = T16 69 [a.v,.str (stW s),.str (stW t)] h from by simp (disch:=decide) only [T1,T2,T3,T4,T5,T6,T7,T8,T9,T10,T11,T12,T13,T14,T15,T16,T17,T18,T19,T20,T21,T22,T23,T24,addI_ne,addX_ne,addV_ne,addK_ne]]
 exact e
theorem k31 : K31 T25:=fun h a m o m5 => by
 obtain ⟨v,own,e,l⟩:=addK_some (Pre:=Pre30) (Post:=Post31) (fun b args h hp => by
  obtain ⟨⟨h1,h2⟩,rfl⟩:=hp
  exact c31_ok T24 k30 k69_24 (fun _ _ => by simp (disch:=decide) only [T1,T2,T3,T4,T5,T6,T7,T8,T9,T10,T11,T12,T13,T14,T15,T16,T17,T18,T19,T20,T21,T22,T23,T24,addI_ne,addX_ne,addV_ne,addK_ne]; rfl) h h1 h2) ⟨a,m⟩ _ h ⟨⟨o,m5⟩,rfl⟩
 exact ⟨v,own,e,l⟩
section
variable {a b : List Int} {b1 b2 v1 v2 n : Nat}
theorem ints_loop (J : CallF) (h : Heap) {ca cb : List AV} (ha : h.get b1 = .cells 1 v1 ca) (hb : h.get b2 = .cells 1 v2 cb) (hca : ∀ i : Nat,ca[i]? = (a[i]?).map fun n => AV.int .i64 n) (hcb : ∀ i : Nat,cb[i]? = (b[i]?).map fun n => AV.int .i64 n) (la : a.length = n) (lb : b.length = n) (hn : n ≤ 1000000) :
  ∀ j i,i + j = n → (a.drop i = b.drop i → Tr tbl J c64_l0 (fun s h' => s.get [] = .slice b1 0 n v1 ∧ s.get [false] = .slice b2 0 n v2 ∧ s.get [false,true] = G i ∧ h' = ⟨h.get,h.size,[]⟩) (.exit 0) (fun s h => True)) ∧
   (a.drop i ≠ b.drop i → Tr tbl J c64_l0 (fun s h' => s.get [] = .slice b1 0 n v1 ∧ s.get [false] = .slice b2 0 n v2 ∧ s.get [false,true] = G i ∧ h' = ⟨h.get,h.size,[]⟩) .ret (fun s h => s.get [true,false] = .bool false)):=by
 have h1:=get_lt ha (by simp)
 have h2:=get_lt hb (by simp)
 intro j
 induction j with
 | zero =>
  intro i hi
  obtain rfl : i = n:=by omega
  have e1 : a.drop i = []:=List.drop_of_length_le (by omega)
  have e2 : b.drop i = []:=List.drop_of_length_le (by omega)
  refine ⟨fun _ => ?_,fun hne => absurd (e1.trans e2.symm) hne⟩
  have t : Tr tbl J ((.trim [[],[false],[false,true]] c64_b0)) (fun s h' => s.get [] = .slice b1 0 i v1 ∧ s.get [false] = .slice b2 0 i v2 ∧ s.get [false,true] = G i ∧ h' = ⟨h.get,h.size,[]⟩) (.exit 0) (fun s h => True):=Tr.region fun s h hp => by
   obtain ⟨g0,g1,g2,rfl⟩:=hp
   simp (disch:=first|omega|exact zE rfl|exact zO|exact zL rfl) [c64_b0,c64_o4,size_mk,get_mk_lt,get_mk_ge,frameOf,Eff.app,Heap.setOwn,g0,g1,g2]
  exact Tr.out t (by simp)
 | succ j ih =>
  intro i hi
  have hia : i < a.length:=by omega
  have hib : i < b.length:=by omega
  have ea : a[i]? = some a[i]:=List.getElem?_eq_getElem hia
  have eb : b[i]? = some b[i]:=List.getElem?_eq_getElem hib
  have da : a.drop i = a[i] :: a.drop (i + 1):=List.drop_eq_getElem_cons hia
  have db : b.drop i = b[i] :: b.drop (i + 1):=List.drop_eq_getElem_cons hib
  rw [da,db]
  have xa:=hca i
  have xb:=hcb i
  rw [ea] at xa
  rw [eb] at xb
  simp only [Option.map_some] at xa xb
  clear ea eb da db hca hcb
  generalize a[i] = p at *
  generalize b[i] = q at *
  have ih':=ih (i + 1) (by omega)
  by_cases hpq : p = q
  ·subst hpq
   have t : Tr tbl J ((.trim [[],[false],[false,true]] c64_b0)) (fun s h' => s.get [] = .slice b1 0 n v1 ∧ s.get [false] = .slice b2 0 n v2 ∧ s.get [false,true] = G i ∧ h' = ⟨h.get,h.size,[]⟩) .normal (fun s h' => s.get [] = .slice b1 0 n v1 ∧ s.get [false] = .slice b2 0 n v2 ∧ s.get [false,true] = G ((i + 1 : Nat) : Int) ∧ h' = ⟨h.get,h.size,[]⟩):=Tr.region fun s h hp => by
    obtain ⟨g0,g1,g2,rfl⟩:=hp
    simp (disch:=first|omega|exact zE rfl|exact zO|exact zL rfl) [c64_b0,c64_o4,c64_o5,c64_o7,size_mk,get_mk_lt,get_mk_ge,frameOf,Eff.app,Heap.setOwn,g0,g1,g2,ha,hb,xa,xb]
   exact ⟨fun e => Tr.next t (ih'.1 (by simpa using e)),fun e => Tr.next t (ih'.2 (by simpa using e))⟩
  ·refine ⟨fun e => absurd (List.cons.inj e).1 hpq,fun _ => ?_⟩
   have t : Tr tbl J ((.trim [[],[false],[false,true]] c64_b0)) (fun s h' => s.get [] = .slice b1 0 n v1 ∧ s.get [false] = .slice b2 0 n v2 ∧ s.get [false,true] = G i ∧ h' = ⟨h.get,h.size,[]⟩) .ret (fun s h => s.get [true,false] = .bool false):=Tr.region fun s h hp => by
    obtain ⟨g0,g1,g2,rfl⟩:=hp
    simp (disch:=first|omega|exact zE rfl|exact zO|exact zL rfl) [c64_b0,c64_o4,c64_o5,c64_o6,size_mk,get_mk_lt,get_mk_ge,frameOf,Eff.app,Heap.setOwn,g0,g1,g2,ha,hb,xa,xb,hpq]
   exact Tr.out t (by simp)
theorem ints_nn (J : CallF) (hJ : ∀ a h,J 64 a h = none) (h : Heap)  : CallsTo tbl J 64 [.nils,.nils] h (.bool (decide (([] : List Int) = [])),[],false):=by
 refine Tr.fnv (cf:=c64) (e:=.ret) (s:=T.set (T.set .leaf [] (.nils)) [false] (.nils)) (by decide) rfl (hJ _ _) rfl rfl rfl (by simp) ?_
 have t0 : Tr tbl J (c64_o0) (fun s h' => s = T.set (T.set .leaf [] (.nils)) [false] (.nils) ∧ h' = frameOf h) .normal (fun s h' => s.get [] = .nils ∧ s.get [false] = .nils ∧ h' = ⟨h.get,h.size,[]⟩):=Tr.region fun s h hp => by
  obtain ⟨rfl,rfl⟩:=hp
  simp (disch:=first|omega|exact zE rfl|exact zO|exact zL rfl) [c64_o0,frameOf,Heap.size,Heap.get,Eff.app,Heap.setOwn]
 by_cases hab : (0) = 0
 ·
  have t1 : Tr tbl J ((.seq c64_o1 (.cond (.s [true,true,false]) (.seq c64_o2 .ret) .skip))) (fun s h' => s.get [] = .nils ∧ s.get [false] = .nils ∧ h' = ⟨h.get,h.size,[]⟩) .normal (fun s h' => s.get [] = .nils ∧ s.get [false] = .nils ∧ h' = ⟨h.get,h.size,[]⟩):=Tr.region fun s h hp => by
   obtain ⟨g0,g1,rfl⟩:=hp
   simp (disch:=first|omega|exact zE rfl|exact zO|exact zL rfl) [c64_o1,size_mk,get_mk_lt,get_mk_ge,frameOf,Eff.app,Heap.setOwn,g0,g1,hab]
  have t2 : Tr tbl J (c64_o3) (fun s h' => s.get [] = .nils ∧ s.get [false] = .nils ∧ h' = ⟨h.get,h.size,[]⟩) .normal (fun s h' => s.get [] = .nils ∧ s.get [false] = .nils ∧ s.get [false,true] = G ((0 : Nat) : Int) ∧ h' = ⟨h.get,h.size,[]⟩):=Tr.region fun s h hp => by
   obtain ⟨g0,g1,rfl⟩:=hp
   simp (disch:=first|omega|exact zE rfl|exact zO|exact zL rfl) [c64_o3,size_mk,get_mk_lt,get_mk_ge,frameOf,Eff.app,Heap.setOwn,g0,g1]
  have t3 : Tr tbl J ((.seq c64_o8 .ret)) (fun s h => True) .ret (fun s h => s.get [true,false] = .bool true):=Tr.region fun s h hp => by
   simp (disch:=first|omega|exact zE rfl|exact zO|exact zL rfl) [c64_o8,frameOf,Heap.size,Heap.get,Eff.app,Heap.setOwn]
  have t4 : Tr tbl J ((.trim [[],[false],[false,true]] c64_b0)) (fun s h' => s.get [] = .nils ∧ s.get [false] = .nils ∧ s.get [false,true] = G ((0 : Nat) : Int) ∧ h' = ⟨h.get,h.size,[]⟩) (.exit 0) (fun s h => True):=Tr.region fun s h hp => by
   obtain ⟨g0,g1,g2,rfl⟩:=hp
   simp (disch:=first|omega|exact zE rfl|exact zO|exact zL rfl) [c64_b0,c64_o4,size_mk,get_mk_lt,get_mk_ge,frameOf,Eff.app,Heap.setOwn,g0,g1,g2,hab]
  exact Tr.post (fun s h q => by simp [c64,q]) (Tr.seq t0 (Tr.seq t1 (Tr.seq (Tr.seq t2 (Tr.block (Tr.out t4 (by simp)))) t3)))
 ·exact absurd rfl hab
theorem ints_ns (J : CallF) (hJ : ∀ a h,J 64 a h = none) (h : Heap)  : CallsTo tbl J 64 [.nils,.slice b2 0 b.length v2] h (.bool (decide (([] : List Int) = b)),[],false):=by
 refine Tr.fnv (cf:=c64) (e:=.ret) (s:=T.set (T.set .leaf [] (.nils)) [false] (.slice b2 0 b.length v2)) (by decide) rfl (hJ _ _) rfl rfl rfl (by simp) ?_
 have t0 : Tr tbl J (c64_o0) (fun s h' => s = T.set (T.set .leaf [] (.nils)) [false] (.slice b2 0 b.length v2) ∧ h' = frameOf h) .normal (fun s h' => s.get [] = .nils ∧ s.get [false] = .slice b2 0 b.length v2 ∧ h' = ⟨h.get,h.size,[]⟩):=Tr.region fun s h hp => by
  obtain ⟨rfl,rfl⟩:=hp
  simp (disch:=first|omega|exact zE rfl|exact zO|exact zL rfl) [c64_o0,frameOf,Heap.size,Heap.get,Eff.app,Heap.setOwn]
 by_cases hab : (0) = b.length
 ·
  have t1 : Tr tbl J ((.seq c64_o1 (.cond (.s [true,true,false]) (.seq c64_o2 .ret) .skip))) (fun s h' => s.get [] = .nils ∧ s.get [false] = .slice b2 0 b.length v2 ∧ h' = ⟨h.get,h.size,[]⟩) .normal (fun s h' => s.get [] = .nils ∧ s.get [false] = .slice b2 0 b.length v2 ∧ h' = ⟨h.get,h.size,[]⟩):=Tr.region fun s h hp => by
   obtain ⟨g0,g1,rfl⟩:=hp
   simp (disch:=first|omega|exact zE rfl|exact zO|exact zL rfl) [c64_o1,size_mk,get_mk_lt,get_mk_ge,frameOf,Eff.app,Heap.setOwn,g0,g1,hab]
  have t2 : Tr tbl J (c64_o3) (fun s h' => s.get [] = .nils ∧ s.get [false] = .slice b2 0 b.length v2 ∧ h' = ⟨h.get,h.size,[]⟩) .normal (fun s h' => s.get [] = .nils ∧ s.get [false] = .slice b2 0 b.length v2 ∧ s.get [false,true] = G ((0 : Nat) : Int) ∧ h' = ⟨h.get,h.size,[]⟩):=Tr.region fun s h hp => by
   obtain ⟨g0,g1,rfl⟩:=hp
   simp (disch:=first|omega|exact zE rfl|exact zO|exact zL rfl) [c64_o3,size_mk,get_mk_lt,get_mk_ge,frameOf,Eff.app,Heap.setOwn,g0,g1]
  have t3 : Tr tbl J ((.seq c64_o8 .ret)) (fun s h => True) .ret (fun s h => s.get [true,false] = .bool true):=Tr.region fun s h hp => by
   simp (disch:=first|omega|exact zE rfl|exact zO|exact zL rfl) [c64_o8,frameOf,Heap.size,Heap.get,Eff.app,Heap.setOwn]
  have t4 : Tr tbl J ((.trim [[],[false],[false,true]] c64_b0)) (fun s h' => s.get [] = .nils ∧ s.get [false] = .slice b2 0 b.length v2 ∧ s.get [false,true] = G ((0 : Nat) : Int) ∧ h' = ⟨h.get,h.size,[]⟩) (.exit 0) (fun s h => True):=Tr.region fun s h hp => by
   obtain ⟨g0,g1,g2,rfl⟩:=hp
   simp (disch:=first|omega|exact zE rfl|exact zO|exact zL rfl) [c64_b0,c64_o4,size_mk,get_mk_lt,get_mk_ge,frameOf,Eff.app,Heap.setOwn,g0,g1,g2,hab]
  have e1 : b = []:=List.length_eq_zero_iff.1 hab.symm
  exact Tr.post (fun s h q => by simp [c64,q,e1]) (Tr.seq t0 (Tr.seq t1 (Tr.seq (Tr.seq t2 (Tr.block (Tr.out t4 (by simp)))) t3)))
 ·
  have t1 : Tr tbl J ((.seq c64_o1 (.cond (.s [true,true,false]) (.seq c64_o2 .ret) .skip))) (fun s h' => s.get [] = .nils ∧ s.get [false] = .slice b2 0 b.length v2 ∧ h' = ⟨h.get,h.size,[]⟩) .ret (fun s h => s.get [true,false] = .bool false):=Tr.region fun s h hp => by
   obtain ⟨g0,g1,rfl⟩:=hp
   simp (disch:=first|omega|exact zE rfl|exact zO|exact zL rfl) [c64_o1,c64_o2,size_mk,get_mk_lt,get_mk_ge,frameOf,Eff.app,Heap.setOwn,g0,g1,hab]
  refine Tr.post (fun s h q => ?_) (Tr.seq t0 (Tr.seq_out t1 (by simp)))
  have hne : ¬ b = []:=fun e => hab (by rw [e]; rfl)
  simp [c64,q,hne]
theorem ints_sn (J : CallF) (hJ : ∀ a h,J 64 a h = none) (h : Heap)  : CallsTo tbl J 64 [.slice b1 0 a.length v1,.nils] h (.bool (decide (a = [])),[],false):=by
 refine Tr.fnv (cf:=c64) (e:=.ret) (s:=T.set (T.set .leaf [] (.slice b1 0 a.length v1)) [false] (.nils)) (by decide) rfl (hJ _ _) rfl rfl rfl (by simp) ?_
 have t0 : Tr tbl J (c64_o0) (fun s h' => s = T.set (T.set .leaf [] (.slice b1 0 a.length v1)) [false] (.nils) ∧ h' = frameOf h) .normal (fun s h' => s.get [] = .slice b1 0 a.length v1 ∧ s.get [false] = .nils ∧ h' = ⟨h.get,h.size,[]⟩):=Tr.region fun s h hp => by
  obtain ⟨rfl,rfl⟩:=hp
  simp (disch:=first|omega|exact zE rfl|exact zO|exact zL rfl) [c64_o0,frameOf,Heap.size,Heap.get,Eff.app,Heap.setOwn]
 by_cases hab : (a.length) = 0
 ·
  have t1 : Tr tbl J ((.seq c64_o1 (.cond (.s [true,true,false]) (.seq c64_o2 .ret) .skip))) (fun s h' => s.get [] = .slice b1 0 a.length v1 ∧ s.get [false] = .nils ∧ h' = ⟨h.get,h.size,[]⟩) .normal (fun s h' => s.get [] = .slice b1 0 a.length v1 ∧ s.get [false] = .nils ∧ h' = ⟨h.get,h.size,[]⟩):=Tr.region fun s h hp => by
   obtain ⟨g0,g1,rfl⟩:=hp
   simp (disch:=first|omega|exact zE rfl|exact zO|exact zL rfl) [c64_o1,size_mk,get_mk_lt,get_mk_ge,frameOf,Eff.app,Heap.setOwn,g0,g1,hab]
  have t2 : Tr tbl J (c64_o3) (fun s h' => s.get [] = .slice b1 0 a.length v1 ∧ s.get [false] = .nils ∧ h' = ⟨h.get,h.size,[]⟩) .normal (fun s h' => s.get [] = .slice b1 0 a.length v1 ∧ s.get [false] = .nils ∧ s.get [false,true] = G ((0 : Nat) : Int) ∧ h' = ⟨h.get,h.size,[]⟩):=Tr.region fun s h hp => by
   obtain ⟨g0,g1,rfl⟩:=hp
   simp (disch:=first|omega|exact zE rfl|exact zO|exact zL rfl) [c64_o3,size_mk,get_mk_lt,get_mk_ge,frameOf,Eff.app,Heap.setOwn,g0,g1]
  have t3 : Tr tbl J ((.seq c64_o8 .ret)) (fun s h => True) .ret (fun s h => s.get [true,false] = .bool true):=Tr.region fun s h hp => by
   simp (disch:=first|omega|exact zE rfl|exact zO|exact zL rfl) [c64_o8,frameOf,Heap.size,Heap.get,Eff.app,Heap.setOwn]
  have t4 : Tr tbl J ((.trim [[],[false],[false,true]] c64_b0)) (fun s h' => s.get [] = .slice b1 0 a.length v1 ∧ s.get [false] = .nils ∧ s.get [false,true] = G ((0 : Nat) : Int) ∧ h' = ⟨h.get,h.size,[]⟩) (.exit 0) (fun s h => True):=Tr.region fun s h hp => by
   obtain ⟨g0,g1,g2,rfl⟩:=hp
   simp (disch:=first|omega|exact zE rfl|exact zO|exact zL rfl) [c64_b0,c64_o4,size_mk,get_mk_lt,get_mk_ge,frameOf,Eff.app,Heap.setOwn,g0,g1,g2,hab]
  have e1 : a = []:=List.length_eq_zero_iff.1 hab
  exact Tr.post (fun s h q => by simp [c64,q,e1]) (Tr.seq t0 (Tr.seq t1 (Tr.seq (Tr.seq t2 (Tr.block (Tr.out t4 (by simp)))) t3)))
 ·
  have t1 : Tr tbl J ((.seq c64_o1 (.cond (.s [true,true,false]) (.seq c64_o2 .ret) .skip))) (fun s h' => s.get [] = .slice b1 0 a.length v1 ∧ s.get [false] = .nils ∧ h' = ⟨h.get,h.size,[]⟩) .ret (fun s h => s.get [true,false] = .bool false):=Tr.region fun s h hp => by
   obtain ⟨g0,g1,rfl⟩:=hp
   simp (disch:=first|omega|exact zE rfl|exact zO|exact zL rfl) [c64_o1,c64_o2,size_mk,get_mk_lt,get_mk_ge,frameOf,Eff.app,Heap.setOwn,g0,g1,hab]
  refine Tr.post (fun s h q => ?_) (Tr.seq t0 (Tr.seq_out t1 (by simp)))
  have hne : ¬ a = []:=fun e => hab (by rw [e]; rfl)
  simp [c64,q,hne]
theorem ints_ss (J : CallF) (hJ : ∀ a h,J 64 a h = none) (h : Heap) (hn : a.length ≤ 1000000) {ca cb : List AV} (ha : h.get b1 = .cells 1 v1 ca) (hb : h.get b2 = .cells 1 v2 cb) (hca : ∀ i : Nat,ca[i]? = (a[i]?).map fun n => AV.int .i64 n) (hcb : ∀ i : Nat,cb[i]? = (b[i]?).map fun n => AV.int .i64 n) : CallsTo tbl J 64 [.slice b1 0 a.length v1,.slice b2 0 b.length v2] h (.bool (decide (a = b)),[],false):=by
 refine Tr.fnv (cf:=c64) (e:=.ret) (s:=T.set (T.set .leaf [] (.slice b1 0 a.length v1)) [false] (.slice b2 0 b.length v2)) (by decide) rfl (hJ _ _) rfl rfl rfl (by simp) ?_
 have t0 : Tr tbl J (c64_o0) (fun s h' => s = T.set (T.set .leaf [] (.slice b1 0 a.length v1)) [false] (.slice b2 0 b.length v2) ∧ h' = frameOf h) .normal (fun s h' => s.get [] = .slice b1 0 a.length v1 ∧ s.get [false] = .slice b2 0 b.length v2 ∧ h' = ⟨h.get,h.size,[]⟩):=Tr.region fun s h hp => by
  obtain ⟨rfl,rfl⟩:=hp
  simp (disch:=first|omega|exact zE rfl|exact zO|exact zL rfl) [c64_o0,frameOf,Heap.size,Heap.get,Eff.app,Heap.setOwn]
 by_cases hab : (a.length) = b.length
 ·
  have t1 : Tr tbl J ((.seq c64_o1 (.cond (.s [true,true,false]) (.seq c64_o2 .ret) .skip))) (fun s h' => s.get [] = .slice b1 0 a.length v1 ∧ s.get [false] = .slice b2 0 b.length v2 ∧ h' = ⟨h.get,h.size,[]⟩) .normal (fun s h' => s.get [] = .slice b1 0 a.length v1 ∧ s.get [false] = .slice b2 0 b.length v2 ∧ h' = ⟨h.get,h.size,[]⟩):=Tr.region fun s h hp => by
   obtain ⟨g0,g1,rfl⟩:=hp
   simp (disch:=first|omega|exact zE rfl|exact zO|exact zL rfl) [c64_o1,size_mk,get_mk_lt,get_mk_ge,frameOf,Eff.app,Heap.setOwn,g0,g1,hab]
  have t2 : Tr tbl J (c64_o3) (fun s h' => s.get [] = .slice b1 0 a.length v1 ∧ s.get [false] = .slice b2 0 b.length v2 ∧ h' = ⟨h.get,h.size,[]⟩) .normal (fun s h' => s.get [] = .slice b1 0 a.length v1 ∧ s.get [false] = .slice b2 0 b.length v2 ∧ s.get [false,true] = G ((0 : Nat) : Int) ∧ h' = ⟨h.get,h.size,[]⟩):=Tr.region fun s h hp => by
   obtain ⟨g0,g1,rfl⟩:=hp
   simp (disch:=first|omega|exact zE rfl|exact zO|exact zL rfl) [c64_o3,size_mk,get_mk_lt,get_mk_ge,frameOf,Eff.app,Heap.setOwn,g0,g1]
  have t3 : Tr tbl J ((.seq c64_o8 .ret)) (fun s h => True) .ret (fun s h => s.get [true,false] = .bool true):=Tr.region fun s h hp => by
   simp (disch:=first|omega|exact zE rfl|exact zO|exact zL rfl) [c64_o8,frameOf,Heap.size,Heap.get,Eff.app,Heap.setOwn]
  obtain ⟨l1,l2⟩:=ints_loop J h ha hb hca hcb rfl hab.symm hn a.length 0 (by omega)
  simp only [List.drop_zero] at l1 l2
  rw [← hab] at t0 t1 t2
  by_cases e : a = b
  ·rw [decide_eq_true e]
   exact Tr.post (fun s h q => by simp [c64,q]) (Tr.seq (by rw [← hab]; exact t0) (Tr.seq t1 (Tr.seq (Tr.seq t2 (Tr.block (l1 e))) t3)))
  ·rw [decide_eq_false e]
   exact Tr.post (fun s h q => by simp [c64,q]) (Tr.seq (by rw [← hab]; exact t0) (Tr.seq t1 (Tr.seq_out (Tr.seq t2 (Tr.block_out (l2 e) (by simp))) (by simp))))
 ·
  have t1 : Tr tbl J ((.seq c64_o1 (.cond (.s [true,true,false]) (.seq c64_o2 .ret) .skip))) (fun s h' => s.get [] = .slice b1 0 a.length v1 ∧ s.get [false] = .slice b2 0 b.length v2 ∧ h' = ⟨h.get,h.size,[]⟩) .ret (fun s h => s.get [true,false] = .bool false):=Tr.region fun s h hp => by
   obtain ⟨g0,g1,rfl⟩:=hp
   simp (disch:=first|omega|exact zE rfl|exact zO|exact zL rfl) [c64_o1,c64_o2,size_mk,get_mk_lt,get_mk_ge,frameOf,Eff.app,Heap.setOwn,g0,g1,hab]
  refine Tr.post (fun s h q => ?_) (Tr.seq t0 (Tr.seq_out t1 (by simp)))
  have hne : ¬ a = b:=fun e => hab (by rw [e])
  simp [c64,q,hne]
theorem c64_ok (J : CallF) (hJ : ∀ a h,J 64 a h = none) (h : Heap) (x y : AV) (hx : listOf h x = some a) (hy : listOf h y = some b) (hn : a.length ≤ 1000000) : CallsTo tbl J 64 [x,y] h (.bool (decide (a = b)),[],false):=by
 rcases listOf_some hx with ⟨rfl,rfl⟩ | ⟨b1,v1,rfl,g1⟩ <;> rcases listOf_some hy with ⟨rfl,rfl⟩ | ⟨b2,v2,rfl,g2⟩
 ·exact ints_nn J hJ h
 ·exact ints_ns J hJ h
 ·exact ints_sn J hJ h
 ·exact ints_ss J hJ h hn g1 g2 (fun i => List.getElem?_map) (fun i => List.getElem?_map)
end
def spec64 : SpecF:=fun args h => match args with
 | [x,y] => match listOf h x,listOf h y with
  | some a,some b => if a.length ≤ 1000000 then some (.bool (decide (a = b)),[],false) else none
  | _,_ => none
 | _ => none
noncomputable def T26 : CallF:=addI T25 64 spec64
theorem t26 : Sound Go.Proofs.Try.prog T26:=Sound.add follows ok t25 (by decide) fun args h x e => by
 unfold spec64 at e
 split at e
 ·split at e
  ·rename_i h1 h2
   split at e
   ·rename_i hn
    simp only [Option.some.injEq] at e; subst e; exact c64_ok T25 (fun _ _ => by simp (disch:=decide) only [T1,T2,T3,T4,T5,T6,T7,T8,T9,T10,T11,T12,T13,T14,T15,T16,T17,T18,T19,T20,T21,T22,T23,T24,T25,addI_ne,addX_ne,addV_ne,addK_ne]; rfl) h _ _ h1 h2 hn
   ·cases e
  ·cases e
 ·cases e
abbrev ss (L : List (List UInt8)) : List AV:=L.map AV.str
theorem ss_at {L : List (List UInt8)} {i : Nat} (hi : i < L.length) : (ss L)[i]? = some (.str (L.getD i [])):=by
 rw [List.getElem?_map,List.getD_eq_getElem?_getD,List.getElem?_eq_getElem hi]; rfl
def sE (L M : List (List UInt8)) (i : Nat) : Bool:=decide (L.getD i [] = M.getD i [])
theorem sE_all {L M : List (List UInt8)} (h : L.length = M.length) : af (sE L M) 0 L.length = decide (L = M):=by
 rw [Bool.eq_iff_iff,af_iff,decide_eq_true_eq]
 constructor
 ·intro a
  apply List.ext_getElem?
  intro i
  by_cases hi : i < L.length
  ·have:=a i (Nat.zero_le _) (by omega)
   unfold sE at this
   rw [decide_eq_true_eq,List.getD_eq_getElem?_getD,List.getD_eq_getElem?_getD,List.getElem?_eq_getElem hi,List.getElem?_eq_getElem (by omega : i < M.length)] at this
   rw [List.getElem?_eq_getElem hi,List.getElem?_eq_getElem (by omega : i < M.length)]
   exact congrArg some this
  ·rw [List.getElem?_eq_none (by omega),List.getElem?_eq_none (by omega)]
 ·rintro rfl k _ _
  simp [sE]
section
variable {L M : List (List UInt8)}
theorem c29_l (J : CallF) {H : Heap} {b1 v1 b2 v2 n : Nat} (g1 : H.get b1 = .cells 1 v1 (ss L)) (g2 : H.get b2 = .cells 1 v2 (ss M)) (l1 : L.length = n) (l2 : M.length = n) (hn : n ≤ 1000000) :
  (af (sE L M) 0 n = true → Tr tbl J c29_l0 (fun s h => h = H ∧ s.get [] = .slice b1 0 n v1 ∧ s.get [false] = .slice b2 0 n v2 ∧ s.get [false,true] = G ((0 : Nat) : Int)) (.exit 0) (fun s h => True)) ∧
  (af (sE L M) 0 n = false → Tr tbl J c29_l0 (fun s h => h = H ∧ s.get [] = .slice b1 0 n v1 ∧ s.get [false] = .slice b2 0 n v2 ∧ s.get [false,true] = G ((0 : Nat) : Int)) .ret (fun s h => s.get [true,false] = .bool false)):=by
 have sl1 : (ss L).length = n:=by simp [l1]
 have sl2 : (ss M).length = n:=by simp [l2]
 have key : ∀ i,i < n → Tr tbl J (.trim [[],[false],[false,true]] c29_b0) (fun s h => h = H ∧ s.get [] = .slice b1 0 n v1 ∧ s.get [false] = .slice b2 0 n v2 ∧ s.get [false,true] = G i) (if sE L M i then .normal else .ret)
   (if sE L M i then (fun s h => h = H ∧ s.get [] = .slice b1 0 n v1 ∧ s.get [false] = .slice b2 0 n v2 ∧ s.get [false,true] = G ((i + 1 : Nat) : Int)) else (fun s h => s.get [true,false] = .bool false)):=fun i hi => by
  have e1:=ss_at (L:=L) (i:=i) (by omega)
  have e2:=ss_at (L:=M) (i:=i) (by omega)
  have e1':=getI e1
  have e2':=getI e2
  unfold sE
  by_cases c : L.getD i [] = M.getD i []
  ·rw [decide_eq_true c,if_pos rfl,if_pos rfl]
   rw [c] at e1 e1'
   generalize M.getD i [] = u at *
   generalize ss L = sl at *
   generalize ss M = sm at *
   refine Tr.w fun s1 H1 hp _ kR => W.trim ?_
   obtain ⟨rfl,q⟩:=hp
   refine W.assoc ?_
   refine zCh ?_
   simp (disch:=first|omega|exact zE rfl|exact zO|exact zL rfl) [c29_o4,zG,q]
   refine zCh ?_
   simp (disch:=first|omega|exact zE rfl|exact zO|exact zL rfl) [zG,q]
   refine W.seq (W.block ?_)
   refine zCh ?_
   simp (disch:=first|omega|exact zE rfl|exact zO|exact zL rfl) [c29_o5,zG,q,g1,g2,e1,e1',e2,e2',sl1,sl2,-evDraw_c,evDraw_0]
   refine W.chunk ?_
   simp (disch:=first|omega|exact zE rfl|exact zO|exact zL rfl) [c29_o6,zG,q]
   refine W.chunk ?_
   simp (disch:=first|omega|exact zE rfl|exact zO|exact zL rfl) [c29_o7,zG,q]
   exact kR _ _ (by simp [T.get,q])
  ·rw [decide_eq_false c,if_neg (by simp),if_neg (by simp)]
   generalize M.getD i [] = u at *
   generalize L.getD i [] = w at *
   generalize ss L = sl at *
   generalize ss M = sm at *
   refine Tr.w fun s1 H1 hp _ kR => W.trim ?_
   obtain ⟨rfl,q⟩:=hp
   refine W.assoc ?_
   refine zCh ?_
   simp (disch:=first|omega|exact zE rfl|exact zO|exact zL rfl) [c29_o4,zG,q]
   refine zCh ?_
   simp (disch:=first|omega|exact zE rfl|exact zO|exact zL rfl) [zG,q]
   refine W.seq (W.block ?_)
   refine zCh ?_
   simp (disch:=first|omega|exact zE rfl|exact zO|exact zL rfl) [c29_o5,zG,q,g1,g2,e1,e1',e2,e2',sl1,sl2,c,-evDraw_c,evDraw_0]
   refine W.chunk ?_
   simp (disch:=first|omega|exact zE rfl|exact zO|exact zL rfl) [c29_o6,zG,q]
   exact kR _ _ (by simp [T.get,q])
 have fin : Tr tbl J (.trim [[],[false],[false,true]] c29_b0) (fun s h => h = H ∧ s.get [] = .slice b1 0 n v1 ∧ s.get [false] = .slice b2 0 n v2 ∧ s.get [false,true] = G n) (.exit 0) (fun s h => True):=by
  refine Tr.w fun s1 H1 hp _ kR => W.trim ?_
  obtain ⟨rfl,q⟩:=hp
  refine W.assoc ?_
  refine zCh ?_
  simp (disch:=first|omega|exact zE rfl|exact zO|exact zL rfl) [c29_o4,zG,q]
  refine zCh ?_
  simp (disch:=first|omega|exact zE rfl|exact zO|exact zL rfl) [zG,q]
  exact kR _ _ trivial
 exact ⟨Tr.allT (P:=fun i => (fun s h => h = H ∧ s.get [] = .slice b1 0 n v1 ∧ s.get [false] = .slice b2 0 n v2 ∧ s.get [false,true] = G i)) n (fun i hi hp => by have:=key i hi; rw [if_pos hp,if_pos hp] at this; exact this) fin (by simp) _ 0 (by omega),
  Tr.allF (P:=fun i => (fun s h => h = H ∧ s.get [] = .slice b1 0 n v1 ∧ s.get [false] = .slice b2 0 n v2 ∧ s.get [false,true] = G i)) n (fun i hi hp => by have:=key i hi; rw [if_pos hp,if_pos hp] at this; exact this) (fun i hi hp => by have:=key i hi; rw [if_neg (by rw [hp]; simp),if_neg (by rw [hp]; simp)] at this; exact this) (by simp) _ 0 (by omega)⟩
theorem c29_e (J : CallF) {x z : AV} (H : Heap) (hx : x = .nils ∨ ∃ b v,x = .slice b 0 0 v) : Tr tbl J c29_l0 (fun s h => h = H ∧ s.get [] = x ∧ s.get [false] = z ∧ s.get [false,true] = G ((0 : Nat) : Int)) (.exit 0) (fun s h => True):=by
 refine Tr.out ?_ (by simp)
 rcases hx with rfl | ⟨b,v,rfl⟩
 all_goals
  refine Tr.w fun s1 H1 hp _ kR => W.trim ?_
  obtain ⟨rfl,q⟩:=hp
  refine W.assoc ?_
  refine zCh ?_
  simp (disch:=first|omega|exact zE rfl|exact zO|exact zL rfl) [c29_o4,zG,q]
  refine zCh ?_
  simp (disch:=first|omega|exact zE rfl|exact zO|exact zL rfl) [zG,q]
  exact kR _ _ trivial
theorem c29_ok (J : CallF) (hJ : ∀ a h,J 29 a h = none) (h : Heap) {x z : AV} (hx : RV h x (ss L)) (hz : RV h z (ss M)) (hn : L.length ≤ 1000000) (hm : M.length ≤ 1000000) : CallsTo tbl J 29 [x,z] h (.bool (decide (L = M)),[],false):=by
 refine Tr.fnv (cf:=c29) (e:=.ret) (s:=T.set (T.set .leaf [] x) [false] z) (by decide) rfl (hJ _ _) rfl rfl rfl (by simp) ?_
 refine Tr.post (Q:=(fun s h => s.get [true,false] = .bool (decide (L = M)))) (fun s h q => by simp [c29,q]) ?_
 have sx:=hx.sl
 have sz:=hz.sl
 rw [List.length_map] at sx sz
 have ex : ∀ b v,x = .slice b 0 L.length v → (frameOf h).get b = .cells 1 v (ss L):=fun b v e => by
  rcases hx with ⟨rfl,_⟩ | ⟨b',v',e',g⟩
  ·cases e
  ·rw [e,AV.slice.injEq] at e'
   obtain ⟨rfl,_,_,rfl⟩:=e'
   have:=get_lt g (by simp)
   unfold frameOf
   rw [get_mk_lt _ _ _ _ this]; exact g
 have ez : ∀ b v,z = .slice b 0 M.length v → (frameOf h).get b = .cells 1 v (ss M):=fun b v e => by
  rcases hz with ⟨rfl,_⟩ | ⟨b',v',e',g⟩
  ·cases e
  ·rw [e,AV.slice.injEq] at e'
   obtain ⟨rfl,_,_,rfl⟩:=e'
   have:=get_lt g (by simp)
   unfold frameOf
   rw [get_mk_lt _ _ _ _ this]; exact g
 clear hx hz
 by_cases hl : L.length = M.length
 ·have se:=sE_all hl
  by_cases h0 : L.length = 0
  ·have eL : L = []:=List.length_eq_zero_iff.1 h0
   have eM : M = []:=List.length_eq_zero_iff.1 (by omega)
   rw [decide_eq_true (by rw [eL,eM])]
   rw [h0] at sx
   rw [← hl,h0] at sz
   have sx' : x = .nils ∨ ∃ b v,x = .slice b 0 0 v:=sx.imp (fun q => q.1) id
   have l0:=fun H => c29_e J (z:=z) H sx'
   clear ex ez se
   refine Tr.w fun s1 H1 hp _ kR => ?_
   obtain ⟨rfl,rfl⟩:=hp
   have q : True:=trivial
   rcases sx with ⟨rfl,_⟩ | ⟨b,v,rfl⟩ <;> rcases sz with ⟨rfl,_⟩ | ⟨b',v',rfl⟩
   all_goals
    have l0:=l0 (frameOf h)
    refine zCh ?_
    simp (disch:=first|omega|exact zE rfl|exact zO|exact zL rfl) [c29_o0,zG,q]
    refine W.assoc ?_
    refine zCh ?_
    simp (disch:=first|omega|exact zE rfl|exact zO|exact zL rfl) [c29_o1,zG,q]
    refine zCh ?_
    simp (disch:=first|omega|exact zE rfl|exact zO|exact zL rfl) [c29_o2,zG,q]
    refine W.assoc ?_
    refine zCh ?_
    simp (disch:=first|omega|exact zE rfl|exact zO|exact zL rfl) [c29_o3,zG,q]
    refine W.seq (W.block ?_)
    refine W.use (l0) (by simp (disch:=first|omega|exact zE rfl|exact zO|exact zL rfl) [zG,q]) fun s1 H1 hp => ?_
    try simp only [zW,if_true]
    refine zCh ?_
    simp (disch:=first|omega|exact zE rfl|exact zO|exact zL rfl) [c29_o8,zG,q]
    refine W.ret ?_
    try simp only [zW,if_true]
    exact kR _ _ (by simp [T.get])
  ·obtain ⟨b,v,rfl⟩:=sx.resolve_left (fun q => h0 q.2)
   obtain ⟨b',v',rfl⟩:=sz.resolve_left (fun q => h0 (by omega))
   have g1:=ex _ _ rfl
   have g2:=ez _ _ rfl
   have l0:=c29_l J g1 g2 rfl hl.symm hn
   rw [← se]
   rw [← hl] at sz ⊢
   clear ex ez se sx sz g1 g2
   generalize hnn : L.length = n at *
   cases c : af (sE L M) 0 n
   ·have l0:=l0.2 c
    refine Tr.w fun s1 H1 hp _ kR => ?_
    obtain ⟨rfl,rfl⟩:=hp
    have q : True:=trivial
    refine zCh ?_
    simp (disch:=first|omega|exact zE rfl|exact zO|exact zL rfl) [c29_o0,zG,q]
    refine W.assoc ?_
    refine zCh ?_
    simp (disch:=first|omega|exact zE rfl|exact zO|exact zL rfl) [c29_o1,zG,q]
    refine zCh ?_
    simp (disch:=first|omega|exact zE rfl|exact zO|exact zL rfl) [c29_o2,zG,q]
    refine W.assoc ?_
    refine zCh ?_
    simp (disch:=first|omega|exact zE rfl|exact zO|exact zL rfl) [c29_o3,zG,q]
    refine W.seq (W.block ?_)
    refine W.use (l0) (by simp (disch:=first|omega|exact zE rfl|exact zO|exact zL rfl) [zG,q]) fun s1 H1 hp => ?_
    try simp only [zW,if_true]
    exact kR _ _ hp
   ·have l0:=l0.1 c
    refine Tr.w fun s1 H1 hp _ kR => ?_
    obtain ⟨rfl,rfl⟩:=hp
    have q : True:=trivial
    refine zCh ?_
    simp (disch:=first|omega|exact zE rfl|exact zO|exact zL rfl) [c29_o0,zG,q]
    refine W.assoc ?_
    refine zCh ?_
    simp (disch:=first|omega|exact zE rfl|exact zO|exact zL rfl) [c29_o1,zG,q]
    refine zCh ?_
    simp (disch:=first|omega|exact zE rfl|exact zO|exact zL rfl) [c29_o2,zG,q]
    refine W.assoc ?_
    refine zCh ?_
    simp (disch:=first|omega|exact zE rfl|exact zO|exact zL rfl) [c29_o3,zG,q]
    refine W.seq (W.block ?_)
    refine W.use (l0) (by simp (disch:=first|omega|exact zE rfl|exact zO|exact zL rfl) [zG,q]) fun s1 H1 hp => ?_
    try simp only [zW,if_true]
    refine zCh ?_
    simp (disch:=first|omega|exact zE rfl|exact zO|exact zL rfl) [c29_o8,zG,q]
    refine W.ret ?_
    try simp only [zW,if_true]
    exact kR _ _ (by simp [T.get])
 ·rw [decide_eq_false (fun e => hl (by rw [e]))]
  generalize L.length = n at *
  generalize M.length = m at *
  clear ex ez
  refine Tr.w fun s1 H1 hp _ kR => ?_
  obtain ⟨rfl,rfl⟩:=hp
  have q : True:=trivial
  rcases sx with ⟨rfl,rfl⟩ | ⟨b,v,rfl⟩ <;> rcases sz with ⟨rfl,rfl⟩ | ⟨b',v',rfl⟩
  all_goals try (exfalso; omega)
  all_goals
   refine zCh ?_
   simp (disch:=first|omega|exact zE rfl|exact zO|exact zL rfl) [c29_o0,zG,q,hl]
   refine W.assoc ?_
   refine zCh ?_
   simp (disch:=first|omega|exact zE rfl|exact zO|exact zL rfl) [c29_o1,zG,q,hl]
   refine zCh ?_
   simp (disch:=first|omega|exact zE rfl|exact zO|exact zL rfl) [c29_o2,zG,q,hl]
   exact kR _ _ (by simp [T.get])
end
structure A29 where
 x : AV
 z : AV
 L : List (List UInt8)
 M : List (List UInt8)
def Pre29 (b : A29) (args : List AV) (h : Heap) : Prop:=(RV h b.x (ss b.L) ∧ RV h b.z (ss b.M) ∧ b.L.length ≤ 1000000 ∧ b.M.length ≤ 1000000) ∧ args = [b.x,b.z]
def Post29 (b : A29) (h : Heap) (v : AV) (own : List AObj) : Prop:=v = .bool (decide (b.L = b.M)) ∧ own = []
noncomputable def T27 : CallF:=addK tbl T26 29 Pre29 Post29
theorem t27 : Sound Go.Proofs.Try.prog T27:=Sound.addK follows ok t26 (by decide) _ _
abbrev K29 (J : CallF) : Prop:=∀ (h : Heap) (b : A29),RV h b.x (ss b.L) → RV h b.z (ss b.M) → b.L.length ≤ 1000000 → b.M.length ≤ 1000000 → J 29 [b.x,b.z] h = some (.bool (decide (b.L = b.M)),[],false)
theorem k29 : K29 T27:=fun h b h1 h2 h3 h4 => by
 obtain ⟨v,own,e,rfl,rfl⟩:=addK_some (Pre:=Pre29) (Post:=Post29) (fun b args h hp => by
  obtain ⟨⟨h1,h2,h3,h4⟩,rfl⟩:=hp
  exact ⟨_,_,c29_ok T26 (fun _ _ => by simp (disch:=decide) only [T1,T2,T3,T4,T5,T6,T7,T8,T9,T10,T11,T12,T13,T14,T15,T16,T17,T18,T19,T20,T21,T22,T23,T24,T25,T26,addI_ne,addX_ne,addV_ne,addK_ne]; rfl) h h1 h2 h3 h4,rfl,rfl⟩) b _ h ⟨⟨h1,h2,h3,h4⟩,rfl⟩
 exact e
section
variable {A B : List (List Int)}
end
structure A47 where
 A : List (List Int)
 B : List (List Int)
 x : AV
 z : AV
def Ok47 (a : A47) (h : Heap) : Prop:=LT h a.x a.A ∧ LT h a.z a.B ∧ a.A.length ≤ 1000000 ∧ a.B.length ≤ 1000000 ∧ ∀ l ∈ a.A,l.length ≤ 1000000
def Pre22 (a : A47) (args : List AV) (h : Heap) : Prop:=Ok47 a h ∧ args = [a.x,a.z]
def Post22 (a : A47) (h : Heap) (v : AV) (own : List AObj) : Prop:=v = .bool (decide (a.A = a.B)) ∧ own = []
noncomputable def T28 : CallF:=addK tbl T27 22 Pre22 Post22
theorem t28 : Sound Go.Proofs.Try.prog T28:=Sound.addK follows ok t27 (by decide) _ _
theorem c92_nil (J : CallF) (hJ : ∀ a h,J 92 a h = none) (h : Heap) {x : AV} (hx : x = .nils ∨ x = .slice0) : CallsTo tbl J 92 [x] h (.nils,[],false):=by
 refine Tr.fnv (cf:=c92) (e:=.ret) (s:=T.set .leaf [] x) (by decide) rfl (hJ _ _) rfl rfl rfl (by simp) ?_
 refine Tr.post (Q:=(fun s h => s.get [true] = .nils)) (fun s h q => by simp [c92,q]) ?_
 have t : Tr tbl J ((.seq c92_o0 (.seq c92_o1 (.seq c92_o2 .ret)))) (fun s h' => s = T.set .leaf [] x ∧ h' = frameOf h) .ret (fun s h => s.get [true] = .nils):=Tr.region fun s h hp => by
  obtain ⟨rfl,rfl⟩:=hp
  rcases hx with rfl | rfl <;> simp (disch:=first|omega|exact zE rfl|exact zO|exact zL rfl) [c92_o0,c92_o1,c92_o2,size_mk,get_mk_lt,get_mk_ge,frameOf,Eff.app,Heap.setOwn,slSlA,bounds,elems,rdOf,appA]
 exact t
theorem c92_nil2 (J : CallF) (hJ : ∀ a h,J 92 a h = none) (h : Heap) {b v : Nat} (hb : h.get b = .cells 1 v []) : CallsTo tbl J 92 [.slice b 0 0 v] h (.nils,[],false):=by
 have hlt:=get_lt hb (by simp)
 refine Tr.fnv (cf:=c92) (e:=.ret) (s:=T.set .leaf [] (.slice b 0 0 v)) (by decide) rfl (hJ _ _) rfl rfl rfl (by simp) ?_
 refine Tr.post (Q:=(fun s h => s.get [true] = .nils)) (fun s h q => by simp [c92,q]) ?_
 have t : Tr tbl J ((.seq c92_o0 (.seq c92_o1 (.seq c92_o2 .ret)))) (fun s h' => s = T.set .leaf [] (.slice b 0 0 v) ∧ h' = frameOf h) .ret (fun s h => s.get [true] = .nils):=Tr.region fun s h hp => by
  obtain ⟨rfl,rfl⟩:=hp
  simp (disch:=first|omega|exact zE rfl|exact zO|exact zL rfl) [c92_o0,c92_o1,c92_o2,frameOf,size_mk,get_mk_lt,get_mk_ge,frameOf,Eff.app,Heap.setOwn,slSlA,bounds,elems,rdOf,appA,hb]
 exact t
theorem c92_ok (J : CallF) (hJ : ∀ a h,J 92 a h = none) (h : Heap) {b v : Nat} {A : List Int} (hb : h.get b = .cells 1 v (gs A)) (hA : A ≠ []) :
  CallsTo tbl J 92 [.slice b 0 A.length v] h (.slice h.size 0 (A.take 6).length (A.take 6).length,[.cells 1 (A.take 6).length (gs (A.take 6))],false):=by
 have hlt:=get_lt hb (by simp)
 have hl : (A.take 6).length = min 6 A.length:=List.length_take
 have hp : 0 < A.length:=List.length_pos_iff.2 hA
 obtain ⟨m,hm⟩ : ∃ m,(A.take 6).length = m:=⟨_,rfl⟩
 rw [hm] at hl ⊢
 have e1 : (gs A).take m = gs (A.take 6):=by
  rw [← List.map_take]
  congr 1
  by_cases hA : A.length ≤ 6
  ·rw [List.take_of_length_le (by omega),List.take_of_length_le hA]
  ·rw [show m = 6 by omega]
 have e2 : (gs (A.take 6)).length = m:=by simp; omega
 obtain ⟨L,hL⟩ : ∃ L,A.length = L:=⟨_,rfl⟩
 rw [hL] at hl hp ⊢
 have e3 : (if (6 : Int) < (L : Int) then (6 : Int) else (L : Int)) = m:=by split <;> omega
 have e4 : ¬ (0 = L ∧ 0 < L):=by omega
 generalize gs (A.take 6) = cs at *
 generalize gs A = ca at *
 refine Tr.fnh (cf:=c92) (e:=.ret) (s:=T.set .leaf [] (.slice b 0 L v)) (by decide) rfl (hJ _ _) rfl rfl rfl (by simp) ?_
 refine Tr.post (Q:=(fun s h' => s.get [true] = .slice h.size 0 m m ∧ h' = ⟨h.get,h.size,[.cells 1 m cs]⟩)) (fun s h' q => by
  obtain ⟨q1,rfl⟩:=q
  simp [c92,q1]) ?_
 have t : Tr tbl J ((.seq c92_o0 (.seq c92_o1 (.seq c92_o2 .ret)))) (fun s h' => s = T.set .leaf [] (.slice b 0 L v) ∧ h' = frameOf h) .ret (fun s h' => s.get [true] = .slice h.size 0 m m ∧ h' = ⟨h.get,h.size,[.cells 1 m cs]⟩):=Tr.region fun s h hp => by
  obtain ⟨rfl,rfl⟩:=hp
  simp (disch:=first|omega|exact zE rfl|exact zO|exact zL rfl) [c92_o0,c92_o1,c92_o2,frameOf,size_mk,get_mk_lt,get_mk_ge,frameOf,Eff.app,Heap.setOwn,slSlA,bounds,elems,rdOf,appA,hb,e1,e2,e3,e4]
 exact t
def spec92 : SpecF:=fun args h => match args with
 | [.nils] => some (.nils,[],false)
 | [.slice0] => some (.nils,[],false)
 | [.slice b o len v] => match listOf h (.slice b o len v) with
  | some A => if A = [] then some (.nils,[],false) else some (.slice h.size 0 (A.take 6).length (A.take 6).length,[.cells 1 (A.take 6).length (gs (A.take 6))],false)
  | none => none
 | _ => none
theorem spec92_ok (J : CallF) (hJ : ∀ a h,J 92 a h = none) (args : List AV) (h : Heap) (x : AV × List AObj × Bool) (e : spec92 args h = some x) : CallsTo tbl J 92 args h x:=by
 unfold spec92 at e
 split at e
 ·simp only [Option.some.injEq] at e; subst e; exact c92_nil J hJ h (.inl rfl)
 ·simp only [Option.some.injEq] at e; subst e; exact c92_nil J hJ h (.inr rfl)
 ·split at e
  ·rename_i hl
   split at e
   ·rename_i hA
    subst hA
    simp only [Option.some.injEq] at e; subst e
    rcases listOf_some hl with ⟨h1,_⟩ | ⟨b',v',h1,g⟩
    ·cases h1
    ·cases h1; exact c92_nil2 J hJ h g
   ·rename_i hA
    simp only [Option.some.injEq] at e; subst e
    rcases listOf_some hl with ⟨h1,_⟩ | ⟨b',v',h1,g⟩
    ·cases h1
    ·cases h1; exact c92_ok J hJ h g hA
  ·cases e
 ·cases e
def cpV (S : Nat) (A : List Int) : AV:=if A = [] then .nils else .slice S 0 (A.take 6).length (A.take 6).length
def cpO (A : List Int) : List AObj:=if A = [] then [] else [.cells 1 (A.take 6).length (gs (A.take 6))]
theorem s92e {h : Heap} {x : AV} {A : List Int} (hx : LR h x A) : spec92 [x] h = some (cpV h.size A,cpO A,false):=by
 rcases hx.cases with ⟨rfl,rfl⟩ | ⟨rfl,rfl⟩ | ⟨b,v,rfl,g⟩
 ·rfl
 ·rfl
 ·have hl : listOf h (.slice b 0 A.length v) = some A:=listOf_cells g rfl
  unfold cpV cpO
  by_cases hA : A = []
  ·subst hA
   have hl' : listOf h (.slice b 0 0 v) = some []:=hl
   simp only [List.length_nil,spec92,hl',if_true]
  ·simp only [spec92,hl,if_neg hA]
theorem cp_list (h : Heap) (A : List Int) : listOf (h.plus (cpO A)) (cpV h.size A) = some (A.take 6):=by
 unfold cpO cpV
 by_cases hA : A = []
 ·subst hA; rfl
 ·rw [if_neg hA,if_neg hA]; exact listOf_cells (plus_at0 _ _ _ _ rfl) rfl
theorem cp_blk {S : Nat} {A : List Int} {q : Nat} (e : blk (cpV S A) = some q) : q = S:=by
 unfold cpV at e
 split at e
 ·cases e
 ·cases e; rfl
noncomputable def T29 : CallF:=addI T28 92 spec92
theorem t29 : Sound Go.Proofs.Try.prog T29:=Sound.add follows ok t28 (by decide) (fun args h x e => spec92_ok _ (fun _ _ => by simp (disch:=decide) only [T1,T2,T3,T4,T5,T6,T7,T8,T9,T10,T11,T12,T13,T14,T15,T16,T17,T18,T19,T20,T21,T22,T23,T24,T25,T26,T27,T28,addI_ne,addX_ne,addV_ne,addK_ne]; rfl) args h x e)
abbrev K92 (J : CallF) : Prop:=∀ (h : Heap) (x : AV) (A : List Int),LR h x A → J 92 [x] h = some (cpV h.size A,cpO A,false)
theorem k92 : K92 T29:=fun h x A hx => by
 have : T29 92 [x] h = spec92 [x] h:=by simp only [T29,addI,if_true]
 rw [this]; exact s92e hx
def cutM (M : List (List Int)) : List (List Int):=(M.take 7).map (·.take 6)
section
variable {M : List (List Int)} {y : AV}
abbrev L66 : List Path:=[[],[false,false],[true,false]]
theorem c66_o4_ok (J : CallF) (H : Heap) {x x1 : AV} {i n b v : Nat} {cs : List AV} {l : List Int} {e : Eff} {h2 : Heap} (k92 : K92 J) (g : H.get b = .cells 1 v cs) {r : AV} (er : cs[i]? = some r) (hr : LR H r l) (hi : i < n)
  (q1 : appA ((H.plus (cpO l)).plus [.cells 1 1 [cpV H.size l]]) H.size none 1 24 1 [cpV H.size l] x = some (x1,e)) (q2 : Eff.app e ((H.plus (cpO l)).plus [.cells 1 1 [cpV H.size l]]) = some h2) (q3 : AV.cells x1 = some [x1]) :
  Tr tbl J c66_o4 (fun s h => s.get [] = .slice b 0 n v ∧ s.get [false,false] = x ∧ s.get [true,false] = G i ∧ h = H) .normal (fun s h => s.get [] = .slice b 0 n v ∧ s.get [false,false] = x1 ∧ s.get [true,false] = G i ∧ h = h2):=by
 have k:=k92 H r l hr
 have hw : cpV H.size l = .nils ∨ ∃ q m,cpV H.size l = .slice q 0 m m:=by
  unfold cpV; split
  ·exact .inl rfl
  ·exact .inr ⟨_,_,rfl⟩
 have er' : ∀ h : i < cs.length,cs[i] = r:=fun h => by rw [List.getElem?_eq_getElem h] at er; exact Option.some.inj er
 generalize cpV H.size l = w at *
 generalize cpO l = own at *
 have f1 : ((H.plus own).plus [.cells 1 1 [w]]).get (H.plus own).size = .cells 1 1 [w]:=plus_at0 _ _ _ _ rfl
 have t : Tr tbl J (c66_o4) (fun s h => s.get [] = .slice b 0 n v ∧ s.get [false,false] = x ∧ s.get [true,false] = G i ∧ h = H) .normal (fun s h => s.get [] = .slice b 0 n v ∧ s.get [false,false] = x1 ∧ s.get [true,false] = G i ∧ h = h2):=Tr.region fun s h hp => by
  obtain ⟨g0,g1,g2,rfl⟩:=hp
  rcases hw with rfl | ⟨q,m,rfl⟩ <;> simp (disch:=first|omega|exact zE rfl|exact zO|exact zL rfl) [c66_o4,zG,g0,g1,g2,g,er,er',k,app_if,app_if',elems,rdOf,f1,q1,q2,q3]
 exact t
theorem c66_step (J : CallF) (k92 : K92 J) {H0 H : Heap} {x : AV} {i : Nat} (hy : MR H0 y M) (hi : i < M.length) (h9 : i ≤ 6) (t : TG H0 H x ((M.take i).map (·.take 6))) :
  Tr tbl J (.trim L66 c66_b0) (fun s h => s.get [] = y ∧ s.get [false,false] = x ∧ s.get [true,false] = G i ∧ h = H) .normal (fun s h => ∃ x1,s.get [] = y ∧ s.get [false,false] = x1 ∧ s.get [true,false] = G ((i + 1 : Nat) : Int) ∧ TG H0 h x1 ((M.take (i + 1)).map (·.take 6))):=by
 have hyH:=hy.kp t.k
 obtain ⟨b,v,cs,r,rfl,g,er,hr⟩:=hyH.row hi
 obtain ⟨l,hl⟩ : ∃ l,M.getD i [] = l:=⟨_,rfl⟩
 rw [hl] at hr
 have hM : M.take (i + 1) = M.take i ++ [l]:=by
  rw [List.take_add_one,← hl,List.getD_eq_getElem?_getD,List.getElem?_eq_getElem hi]; rfl
 have ko : Kp (fun _ => False) H (H.plus (cpO l)):=Kp.plus _ _
 obtain ⟨x1,e,h2,q1,q2,q3,q4⟩:=(t.kp ko).app H.size (cp_list H l) (fun q hq => ⟨fun e => by
   obtain rfl:=cp_blk hq
   obtain ⟨cs',lv,_⟩:=t.r
   have:=lv.lt e; omega,by
   obtain rfl:=cp_blk hq
   exact t.k.size⟩) (by simp; omega)
 have t4:=c66_o4_ok J H k92 g er hr hi q1 q2 q4
 have t3 : Tr tbl J ((.trim L66 (.seq c66_o3 (.cond (.s [true,false,true]) .skip (.exit 0))))) (fun s h => s.get [] = .slice b 0 M.length v ∧ s.get [false,false] = x ∧ s.get [true,false] = G i ∧ h = H) .normal (fun s h => s.get [] = .slice b 0 M.length v ∧ s.get [false,false] = x ∧ s.get [true,false] = G i ∧ h = H):=Tr.region fun s h hp => by
  obtain ⟨g0,g1,g2,rfl⟩:=hp
  simp (disch:=first|omega|exact zE rfl|exact zO|exact zL rfl) [c66_o3,zG,g0,g1,g2]
 have t5 : Tr tbl J (c66_o5) (fun s h => s.get [] = .slice b 0 M.length v ∧ s.get [false,false] = x1 ∧ s.get [true,false] = G i ∧ h = h2) .normal (fun s h => s.get [] = .slice b 0 M.length v ∧ s.get [false,false] = x1 ∧ s.get [true,false] = G ((i + 1 : Nat) : Int) ∧ h = h2):=Tr.region fun s h hp => by
  obtain ⟨g0,g1,g2,rfl⟩:=hp
  simp (disch:=first|omega|exact zE rfl|exact zO|exact zL rfl) [c66_o5,zG,g0,g1,g2]
 refine Tr.post (fun s h q => ?_) (Tr.trim_seq t3 (Tr.seq (Tr.block_out t4 (by simp)) t5))
 obtain ⟨a1,a2,a3,rfl⟩:=q
 refine ⟨x1,a1,a2,a3,?_⟩
 rw [hM,List.map_append]
 exact q3
theorem c66_ok (J : CallF) (k92 : K92 J) (hJ : ∀ a h,J 66 a h = none) (h : Heap) (hy : MR h y M) : ∃ v own,CallsTo tbl J 66 [y] h (v,own,false) ∧ TG h (h.plus own) v (cutM M):=by
 refine Tr.fny (cf:=c66) (e:=.ret) (s:=T.set .leaf [] y) (by decide) rfl (hJ _ _) rfl rfl (by simp) ?_
 have hy0 : MR (frameOf h) y M:=hy.lo []
 have hs:=hy.sl
 have t0 : Tr tbl J ((.seq c66_o0 c66_o1)) (fun s h' => s = T.set .leaf [] y ∧ h' = frameOf h) .normal (fun s h' => s.get [] = y ∧ s.get [false,false] = .nils ∧ h' = frameOf h):=Tr.region fun s h hp => by
  obtain ⟨rfl,rfl⟩:=hp
  simp (disch:=first|omega|exact zE rfl|exact zO|exact zL rfl) [c66_o0,c66_o1,zG]
 have t00 : Tr tbl J (c66_o2) (fun s h' => s.get [] = y ∧ s.get [false,false] = .nils ∧ h' = frameOf h) .normal (fun s h' => s.get [] = y ∧ s.get [false,false] = .nils ∧ s.get [true,false] = G ((0 : Nat) : Int) ∧ h' = frameOf h):=Tr.region fun s h hp => by
  obtain ⟨g0,g1,rfl⟩:=hp
  simp (disch:=first|omega|exact zE rfl|exact zO|exact zL rfl) [c66_o2,zG,g0,g1]
 obtain ⟨N,hN⟩ : ∃ N,min M.length 7 = N:=⟨_,rfl⟩
 have hcut : (M.take N).map (·.take 6) = cutM M:=by
  unfold cutM
  rw [← hN]
  by_cases c : M.length ≤ 7
  ·rw [Nat.min_eq_left c,List.take_of_length_le (by omega),List.take_of_length_le (by omega)]
  ·rw [Nat.min_eq_right (by omega)]
 have tl:=Tr.rounds (P:=fun i s h' => ∃ x,s.get [] = y ∧ s.get [false,false] = x ∧ s.get [true,false] = G (i : Nat) ∧ TG (frameOf h) h' x ((M.take i).map (·.take 6))) (M:=N) (tbl:=tbl) (I:=J) (live:=L66) (c:=c66_b0) (e:=.exit 0)
  (Q:=fun s h' => ∃ x,s.get [false,false] = x ∧ TG (frameOf h) h' x (cutM M))
  (fun i hi => Tr.exx fun x => Tr.fix (F:=fun H => TG (frameOf h) H x ((M.take i).map (·.take 6))) (P':=fun H s h' => s.get [] = y ∧ s.get [false,false] = x ∧ s.get [true,false] = G (i : Nat) ∧ h' = H)
   (fun H tg => c66_step J k92 hy0 (by omega) (by omega) tg) (fun s h' q => ⟨q.2.2.2,q.1,q.2.1,q.2.2.1,rfl⟩))
  (Tr.exx fun x => Tr.fix (F:=fun H => TG (frameOf h) H x ((M.take N).map (·.take 6))) (P':=fun H s h' => s.get [] = y ∧ s.get [false,false] = x ∧ s.get [true,false] = G (N : Nat) ∧ h' = H)
   (fun H tg => by
    rw [hcut] at tg
    have t : Tr tbl J ((.trim L66 c66_b0)) (fun s h' => s.get [] = y ∧ s.get [false,false] = x ∧ s.get [true,false] = G (N : Nat) ∧ h' = H) (.exit 0) (fun s h' => s.get [false,false] = x ∧ h' = H):=Tr.region fun s h hp => by
     obtain ⟨g0,g1,g2,rfl⟩:=hp
     obtain ⟨n,hn⟩ : ∃ n,M.length = n:=⟨_,rfl⟩
     rw [hn] at hs hN
     by_cases c : n ≤ 6
     ·have hNn : N = n:=by omega
      subst hNn
      rcases hs with ⟨rfl,rfl⟩ | ⟨rfl,rfl⟩ | ⟨b,v,rfl⟩ <;> simp (disch:=first|omega|exact zE rfl|exact zO|exact zL rfl) [c66_b0,c66_o3,zG,g0,g1,g2]
     ·have hNn : N = 7:=by omega
      subst hNn
      by_cases c2 : n = 7
      ·subst c2; rcases hs with ⟨rfl,h'⟩ | ⟨rfl,h'⟩ | ⟨b,v,rfl⟩ <;> first | omega | simp (disch:=first|omega|exact zE rfl|exact zO|exact zL rfl) [c66_b0,c66_o3,zG,g0,g1,g2]
      ·rcases hs with ⟨rfl,h'⟩ | ⟨rfl,h'⟩ | ⟨b,v,rfl⟩ <;> first | omega | simp (disch:=first|omega|exact zE rfl|exact zO|exact zL rfl) [c66_b0,c66_o3,zG,g0,g1,g2]
    exact Tr.post (fun s h' q => ⟨x,q.1,by rw [q.2]; exact tg⟩) t) (fun s h' q => ⟨q.2.2.2,q.1,q.2.1,q.2.2.1,rfl⟩))
  (by simp) 0 (by omega)
 refine Tr.post ?_ (Tr.app2 t0 (Tr.seq (Tr.seq t00 (Tr.block (Tr.pre ?_ tl))) (Tr.exx fun x => Tr.fix (F:=fun H => TG (frameOf h) H x (cutM M)) (P':=fun H s h' => s.get [false,false] = x ∧ h' = H) (Q:=fun s h' => TG (frameOf h) h' (s.get [true]) (cutM M)) (fun H tg => ?_) (fun s h' q => ⟨q.2,q.1,rfl⟩))))
 ·intro s h' q
  refine ⟨[s.get [true]],by simp [c66],?_⟩
  show TG h _ (s.get [true]) _
  split
  ·rename_i hf
   obtain ⟨cs,lv,hl,_⟩:=q.r
   rcases lv with ⟨e1,rfl⟩ | ⟨b,e1,_,_⟩
   ·rw [e1,List.length_eq_zero_iff.1 hl.symm]
    have : h.plus [] = h:=by simp [Heap.plus]
    rw [this]; exact TG.nil h
   ·rw [e1] at hf; simp [one,AV.flat,AV.flats] at hf
  ·exact q.fr
 ·intro s h' q
  exact ⟨.nils,q.1,q.2.1,q.2.2.1,by rw [q.2.2.2]; exact TG.nil _⟩
 ·
  have t : Tr tbl J ((.seq c66_o6 .ret)) (fun s h' => s.get [false,false] = x ∧ h' = H) .ret (fun s h' => s.get [true] = x ∧ h' = H):=Tr.region fun s h hp => by
   obtain ⟨g0,rfl⟩:=hp
   simp (disch:=first|omega|exact zE rfl|exact zO|exact zL rfl) [c66_o6,zG,g0]
  exact Tr.post (fun s h' q => by rw [q.1,q.2]; exact tg) t
end
def Pre66 (b : AV × List (List Int)) (args : List AV) (h : Heap) : Prop:=MR h b.1 b.2 ∧ args = [b.1]
def Post66 (b : AV × List (List Int)) (h : Heap) (v : AV) (own : List AObj) : Prop:=TG h (h.plus own) v (cutM b.2)
noncomputable def T30 : CallF:=addK tbl T29 66 Pre66 Post66
theorem t30 : Sound Go.Proofs.Try.prog T30:=Sound.addK follows ok t29 (by decide) _ _
abbrev K66 (J : CallF) : Prop:=∀ (h : Heap) (y : AV) (M : List (List Int)),MR h y M → ∃ v own,J 66 [y] h = some (v,own,false) ∧ TG h (h.plus own) v (cutM M)
theorem k66 : K66 T30:=fun h y M hy => by
 obtain ⟨v,own,e,l⟩:=addK_some (Pre:=Pre66) (Post:=Post66) (fun b args h hp => by
  obtain ⟨o,rfl⟩:=hp
  exact c66_ok T29 k92 (fun _ _ => by simp (disch:=decide) only [T1,T2,T3,T4,T5,T6,T7,T8,T9,T10,T11,T12,T13,T14,T15,T16,T17,T18,T19,T20,T21,T22,T23,T24,T25,T26,T27,T28,T29,addI_ne,addX_ne,addV_ne,addK_ne]; rfl) h o) (y,M) _ h ⟨hy,rfl⟩
 exact ⟨v,own,e,l⟩
theorem TG.kpm {M : Nat → Prop} {Hb H0 h h' : Heap} {x : AV} {L : List (List Int)} (t : TG H0 h x L) (k : Kp M h h') (hM : ∀ b,M b → b < H0.size) (k0 : Kp (fun _ => False) Hb h') (hs : Hb.size ≤ H0.size) : TG Hb h' x L:=by
 obtain ⟨rs,lv,hl,hr⟩:=t.r
 refine ⟨k0,fun q hq => Nat.le_trans hs (t.x0 q hq),rs,lv.kp k (fun b hb m => by have:=t.x0 b hb; have:=hM b m; omega),hl,fun i r hi => ?_⟩
 obtain ⟨l,h1,h2,h3⟩:=hr i r hi
 exact ⟨l,h1,listOf_kp k h2 (fun q hq m => by have:=hM q m; have:=h3 q hq; omega),fun q hq => ⟨(h3 q hq).1,Nat.le_trans hs (h3 q hq).2.1,Nat.lt_of_lt_of_le (h3 q hq).2.2 k.size⟩⟩
theorem TG.sh {H0 h : Heap} {x : AV} {L : List (List Int)} (t : TG H0 h x L) : x = .nils ∨ ∃ b n,x = .slice b 0 n n:=by
 obtain ⟨rs,lv,_⟩:=t.r
 exact lv.sh
theorem TG.of_nils {H0 h : Heap} {L : List (List Int)} (t : TG H0 h .nils L) : L = []:=by
 obtain ⟨rs,lv,hl,_⟩:=t.r
 rcases lv with ⟨_,e⟩ | ⟨b,e,_⟩
 ·rw [e] at hl; exact List.length_eq_zero_iff.1 hl.symm
 ·cases e
theorem TG.slp {H0 h : Heap} {own : List AObj} {b n : Nat} {L : List (List Int)} (t : TG H0 (h.plus own) (.slice b 0 n n) L) (hs : h.size = H0.size) : own ≠ []:=fun e => by
 have h1:=t.x0 b rfl
 obtain ⟨rs,lv,_⟩:=t.r
 have:=lv.lt (b:=b) rfl
 rw [plus_size,e] at this
 simp at this; omega
structure ATs where
 q : Int
 x : AV
 y : AV
 B : List (List Int)
 W : List (List Int)
def Ok24 (a : ATs) (h : Heap) : Prop:=MR h a.x a.B ∧ MR h a.y a.W
section
variable {a : ATs}
theorem c24_ok (J : CallF) (k66 : K66 J) (hJ : ∀ a h,J 24 a h = none) (h : Heap) (o : Ok24 a h) :
  ∃ v own,CallsTo tbl J 24 [.agg [G a.q,a.x,a.y]] h (v,own,false) ∧ ∃ x y,v = .agg [G a.q,x,y] ∧ TG h (h.plus own) x (cutM a.B) ∧ TG h (h.plus own) y (cutM a.W):=by
 refine Tr.fny (cf:=c24) (e:=.ret) (s:=T.set .leaf [] (.agg [G a.q,a.x,a.y])) (by decide) rfl (hJ _ _) rfl rfl (by simp) ?_
 obtain ⟨Hs,hHs⟩ : ∃ H,(⟨h.get,h.size,[.cells 0 3 [G a.q,a.x,a.y],.cells 0 3 [G 0,.nils,.nils]]⟩ : Heap) = H:=⟨_,rfl⟩
 have mx : MR Hs a.x a.B:=by rw [← hHs]; exact o.1.lo _
 have my : MR Hs a.y a.W:=by rw [← hHs]; exact o.2.lo _
 obtain ⟨x,own1,e1,tb1⟩:=k66 Hs a.x a.B mx
 have kp1 : Kp (fun _ => False) Hs (Hs.plus own1):=Kp.plus _ _
 obtain ⟨y,own2,e2,tb2⟩:=k66 (Hs.plus own1) a.y a.W (my.kp kp1)
 have kp2 : Kp (fun _ => False) (Hs.plus own1) ((Hs.plus own1).plus own2):=Kp.plus _ _
 have hS : Hs.size = h.size + 2:=by rw [← hHs]; rfl
 have hN : Hs.N = h.size:=by rw [← hHs]
 have gS : Hs.get h.size = .cells 0 3 [G a.q,a.x,a.y]:=by rw [← hHs,get_mk_ge _ _ _ _ (Nat.le_refl _),Nat.sub_self]; rfl
 have gR : Hs.get (h.size + 1) = .cells 0 3 [G 0,.nils,.nils]:=by rw [← hHs,get_mk_ge _ _ _ _ (by omega),Nat.add_sub_cancel_left]; rfl
 obtain ⟨Z,hZ⟩ : ∃ Z,(Hs.plus own1).plus own2 = Z:=⟨_,rfl⟩
 have gS1:=kp1.at gS (by simp) id
 have gRZ : Z.get (h.size + 1) = .cells 0 3 [G 0,.nils,.nils]:=by rw [← hZ]; exact kp2.at (kp1.at gR (by simp) id) (by simp) id
 have ZN : Z.N = h.size:=by rw [← hZ]; exact hN
 have ZS : h.size + 2 ≤ Z.size:=by rw [← hZ,plus_size,plus_size,hS]; omega
 have p : Eff.app (.put (h.size + 1) 3 0 [G a.q,x,y]) Z = some (Z.upd (h.size + 1) (.cells 0 3 [G a.q,x,y])):=by
  rw [put_gen _ _ _ _ _ _ _ (by omega) gRZ (by simp)]; rfl
 have gU : (Z.upd (h.size + 1) (.cells 0 3 [G a.q,x,y])).get (h.size + 1) = .cells 0 3 [G a.q,x,y]:=upd_same _ _ _ (by omega) (by omega)
 have kU : Kp (· = h.size + 1) Z (Z.upd (h.size + 1) (.cells 0 3 [G a.q,x,y])):=Kp.upd _ _ _ (by omega) rfl
 have lowU : Kp (fun _ => False) (frameOf h) (Z.upd (h.size + 1) (.cells 0 3 [G a.q,x,y])):=Kp.low (by show Z.lo = _; rw [← hZ,← hHs]; rfl) ZN
 have t1 : TG (frameOf h) (Z.upd (h.size + 1) (.cells 0 3 [G a.q,x,y])) x (cutM a.B):=by
  refine TG.kpm (H0:=Hs) (h:=Z) ?_ kU (fun b e => by omega) lowU (by show h.size + 0 ≤ _; omega)
  rw [← hZ]; exact tb1.kp kp2
 have t2 : TG (frameOf h) (Z.upd (h.size + 1) (.cells 0 3 [G a.q,x,y])) y (cutM a.W):=by
  refine TG.kpm (H0:=Hs.plus own1) (h:=Z) ?_ kU (fun b e => by rw [plus_size]; omega) lowU (by show h.size + 0 ≤ _; rw [plus_size]; omega)
  rw [← hZ]; exact tb2
 have s1' : (x = .nils) ∨ (∃ b n,x = .slice b 0 n n) ∧ own1 ≠ []:=by
  rcases tb1.sh with e | ⟨b,n,e⟩
  ·exact .inl e
  ·subst e; exact .inr ⟨⟨b,n,rfl⟩,tb1.slp rfl⟩
 have s2' : (y = .nils) ∨ (∃ b n,y = .slice b 0 n n) ∧ own2 ≠ []:=by
  rcases tb2.sh with e | ⟨b,n,e⟩
  ·exact .inl e
  ·subst e; exact .inr ⟨⟨b,n,rfl⟩,tb2.slp rfl⟩
 clear tb1 tb2 kp1 kp2 lowU kU gRZ gR mx my o
 generalize hU : Z.upd (h.size + 1) (.cells 0 3 [G a.q,x,y]) = U at *
 have fin : ∀ (z : AV) (L : List (List Int)),TG (frameOf h) U z L → (z = x ∨ z = y) → TG h (h.plus (if (one [.agg [G a.q,x,y]]).flat then [] else U.own)) z L:=fun z L t hz => by
  split
  ·rename_i hf
   have zn : z = .nils:=by
    rcases t.sh with e | ⟨b,n,e⟩
    ·exact e
    ·subst e
     rcases hz with e | e <;> simp [one,AV.flat,AV.flats,← e] at hf
   subst zn
   have e0:=t.of_nils
   subst e0
   have : h.plus [] = h:=by simp [Heap.plus]
   rw [this]; exact TG.nil h
  ·exact t.fr
 have f1:=fin _ _ t1 (.inl rfl)
 have f2:=fin _ _ t2 (.inr rfl)
 clear fin t1 t2
 have o1 : own1 = [] ∨ ∃ o os,own1 = o :: os:=by cases own1 <;> simp
 have o2 : own2 = [] ∨ ∃ o os,own2 = o :: os:=by cases own2 <;> simp
 have g0 : ∀ xs,h.plus xs = h.plus xs:=fun _ => rfl
 have hp0 : ∀ H : Heap,H.plus [] = H:=fun H => by simp [Heap.plus]
 have w : Tr tbl J c24.body (fun s' h' => s' = T.set .leaf [] (.agg [G a.q,a.x,a.y]) ∧ h' = frameOf h) .ret (fun s h' => s.get [true] = .ptr (h.size + 1) 0 3 ∧ h' = U):=by
  clear f1 f2
  rcases s1' with rfl | ⟨⟨bx,nx,rfl⟩,n1⟩ <;> rcases s2' with rfl | ⟨⟨by',ny,rfl⟩,n2⟩
  all_goals
   rcases o1 with rfl | ⟨u1,v1,rfl⟩ <;> rcases o2 with rfl | ⟨u2,v2,rfl⟩
  all_goals first | exact absurd rfl n1 | exact absurd rfl n2 | skip
  all_goals
   try rw [hp0] at hZ
   try rw [hp0] at hZ
   try rw [hp0] at gS1
   try rw [hp0] at e2
   subst hZ
   refine Tr.w fun s1 H1 hp _ kR => ?_
   obtain ⟨rfl,rfl⟩:=hp
   have q : True:=trivial
   refine zCh ?_
   simp (disch:=first|omega|exact zE rfl|exact zO|exact zL rfl) [c24_o0,size_mk,get_mk_lt,get_mk_ge,frameOf,Eff.app,Heap.setOwn,q,hHs]
   refine zCh ?_
   simp (disch:=first|omega|exact zE rfl|exact zO|exact zL rfl) [c24_o1,zG,q,gS,gS1,e1,e2,p,-evDraw_c,evDraw_0]
   refine W.ret ?_
   try simp only [zW,if_true]
   exact kR _ _ (by simp [T.get])
 refine Tr.post (fun s h' q => ?_) w
 obtain ⟨q,rfl⟩:=q
 exact ⟨[.agg [G a.q,x,y]],by simp [c24,evRess,evRes,loadA,q,gU,takeA],x,y,rfl,f1,f2⟩
end
def Pre24 (a : ATs) (args : List AV) (h : Heap) : Prop:=Ok24 a h ∧ args = [.agg [G a.q,a.x,a.y]]
def Post24 (a : ATs) (h : Heap) (v : AV) (own : List AObj) : Prop:=∃ x y,v = .agg [G a.q,x,y] ∧ TG h (h.plus own) x (cutM a.B) ∧ TG h (h.plus own) y (cutM a.W)
noncomputable def T31 : CallF:=addK tbl T30 24 Pre24 Post24
theorem t31 : Sound Go.Proofs.Try.prog T31:=Sound.addK follows ok t30 (by decide) _ _
abbrev K24 (J : CallF) : Prop:=∀ (h : Heap) (a : ATs),Ok24 a h → ∃ x y own,J 24 [.agg [G a.q,a.x,a.y]] h = some (.agg [G a.q,x,y],own,false) ∧ TG h (h.plus own) x (cutM a.B) ∧ TG h (h.plus own) y (cutM a.W)
theorem k24 : K24 T31:=fun h a o => by
 obtain ⟨v,own,e,x,y,rfl,l⟩:=addK_some (Pre:=Pre24) (Post:=Post24) (fun a args h hp => by
  obtain ⟨o,rfl⟩:=hp
  exact c24_ok T30 k66 (fun _ _ => by simp (disch:=decide) only [T1,T2,T3,T4,T5,T6,T7,T8,T9,T10,T11,T12,T13,T14,T15,T16,T17,T18,T19,T20,T21,T22,T23,T24,T25,T26,T27,T28,T29,T30,addI_ne,addX_ne,addV_ne,addK_ne]; rfl) h o) a _ h ⟨o,rfl⟩
 exact ⟨x,y,own,e,l⟩
theorem cutM_small (M : List (List Int)) : smallM (cutM M):=by
 unfold smallM cutM
 refine ⟨by simp; omega,fun i => ?_⟩
 rw [List.getD_eq_getElem?_getD,List.getElem?_map]
 cases (M.take 7)[i]? with
 | none => simp
 | some l => simp; omega
section
variable {a : AR} {m : Int}
end
def Post28 (b : ARm) (h : Heap) (v : AV) (own : List AObj) : Prop:=v = .bool (b.a.rm b.m) ∧ own = []
noncomputable def T32 : CallF:=addK tbl T31 28 PreRm Post28
theorem t32 : Sound Go.Proofs.Try.prog T32:=Sound.addK follows ok t31 (by decide) _ _
end Go.Proofs.Ytljgfdamdcikgaa.Ev
set_option linter.unusedVariables false
set_option linter.unusedSimpArgs false
namespace Go.Proofs.Ytljgfdamdcikgaa.Ev
open Go Go.AEv
def chk99 (n : Nat) : Bool:=match (evW tbl noIntr 12).call 99 [.int .u64 1,.int .u64 n] e0 with
 | some (.tup [.int .u64 0,.int .u64 m],[],false) => m == n
 | _ => false
theorem chk99_all : (List.range 244).all chk99 = true:=by decide +kernel
theorem c99_ok (n : Nat) (h : n < 244) : CallsTo tbl noIntr 99 [.int .u64 1,.int .u64 n] e0 (.tup [.int .u64 0,.int .u64 n],[],false):=by
 have:=List.all_eq_true.1 chk99_all n (List.mem_range.2 h)
 unfold chk99 at this
 split at this
 ·rename_i m e
  simp only [beq_iff_eq] at this
  subst this
  exact ⟨12,e⟩
 ·cases this
def spec99 : SpecV
 | [.int .u64 a,.int .u64 n] => if a = 1 ∧ 0 ≤ n ∧ n < 244 then some (.tup [.int .u64 0,.int .u64 n]) else none
 | _ => none
end Go.Proofs.Ytljgfdamdcikgaa.Ev
set_option linter.unusedVariables false
set_option linter.unusedSimpArgs false
namespace Go.Proofs.Ytljgfdamdcikgaa.Ev
open Go Go.AEv
attribute [local simp] evFunc initS evOps_c evTrim_c evSkip_c evExit_c evRet_c evSeq_c evCond_c evBlock_c evDraw_c runOps_n runOps_c exec_n exec_g pure1_c act AOpd.ev T.get T.set T.put evBin evUn forceT_eq forceV_eq forceL_eq evRess evRes one keep runFP_n runFP_c app_none AV.flats AV.flat came_some List.getElem?_cons_zero List.getElem?_cons_succ beqT wrapI idxI tdivI tmodI decT decF ibT ibF inT inF evScope_c if_pos if_neg Cm_some thenW_n thenW_e thenW_r blkW_n blkW_e blkW_r goI kn putAt AV.cells fillA loadA takeA mk Eff.isAll Eff.isNone Eff.commutes Eff.spares okPair apart eqAgg fits LK.fits allEq aveq eqk mmA
def RB (n m : Nat) (x : Int) : List AV:=List.replicate m (G x) ++ List.replicate (n - m) (G 0)
theorem RB_len {n m : Nat} {x : Int} (h : m ≤ n) : (RB n m x).length = n:=by simp [RB]; omega
theorem RB_take (n m : Nat) (x : Int) : (RB n m x).take m = List.replicate m (G x):=by simp [RB]
theorem RB_all (n : Nat) (x : Int) : RB n n x = List.replicate n (G x):=by simp [RB]
theorem rep_put : ∀ (k a : Nat) (y : AV) (cs : List AV),k ≤ cs.length → putAt (List.replicate a y ++ cs) a (List.replicate k y) = List.replicate (a + k) y ++ cs.drop k:=by
 intro k
 induction k with
 | zero => intro a y cs _; simp [putAt]
 | succ k ih =>
  intro a y cs hk
  cases cs with
  | nil => simp at hk
  | cons c cs =>
   rw [List.replicate_succ,putAt,List.set_append_right _ _ (by simp),List.length_replicate,Nat.sub_self,List.set_cons_zero]
   rw [show List.replicate a y ++ y :: cs = List.replicate (a + 1) y ++ cs by rw [List.replicate_succ',List.append_assoc]; rfl]
   rw [ih _ _ _ (by simpa using hk),show a + 1 + k = a + (k + 1) by omega]; rfl
theorem RB_put {n m k : Nat} {x : Int} (h : m + k ≤ n) : putAt (RB n m x) m (List.replicate k (G x)) = RB n (m + k) x:=by
 unfold RB
 rw [rep_put _ _ _ _ (by simp; omega),List.drop_replicate,Nat.sub_sub]
section
variable {n : Nat} {x : Int}
abbrev P91 (h : Heap) (n : Nat) (x : Int) (m : Nat) : SP:=(fun s h' => s.get [false,false,false] = .slice h.size 0 n n ∧ s.get [true,false,false] = G m ∧ h' = ⟨h.get,h.size,[.cells 1 n (RB n m x)]⟩)
theorem rep_loop (J : CallF) (h : Heap) (hn : n ≤ 243) : ∀ (j m : Nat),n - m ≤ j → 1 ≤ m → m ≤ n → Tr tbl J c91_l0 (P91 h n x m) (.exit 0) (P91 h n x n):=by
 intro j
 induction j with
 | zero =>
  intro m hj h1 h2
  obtain rfl : m = n:=by omega
  have t : Tr tbl J ((.trim [[false,false,false],[true,false,false]] c91_b0)) (fun s h' => s.get [false,false,false] = .slice h.size 0 m m ∧ s.get [true,false,false] = G m ∧ h' = ⟨h.get,h.size,[.cells 1 m (RB m m x)]⟩) (.exit 0) (fun s h' => s.get [false,false,false] = .slice h.size 0 m m ∧ s.get [true,false,false] = G m ∧ h' = ⟨h.get,h.size,[.cells 1 m (RB m m x)]⟩):=Tr.region fun s h hp => by
   obtain ⟨g0,g1,rfl⟩:=hp
   simp (disch:=first|omega|exact zE rfl|exact zO|exact zL rfl) [c91_b0,c91_o8,frameOf,Heap.size,Heap.get,Eff.app,Heap.setOwn,g0,g1]
  exact Tr.out t (by simp)
 | succ j ih =>
  intro m hj h1 h2
  by_cases hm : m = n
  ·exact ih m (by omega) h1 h2
  ·obtain ⟨k,hk⟩ : ∃ k,k = min m (n - m):=⟨_,rfl⟩
   have hkm : m + k ≤ n:=by omega
   have e1:=RB_len (n:=n) (m:=m) (x:=x) h2
   have e2:=RB_take n m x
   have e3:=RB_put (n:=n) (m:=m) (k:=k) (x:=x) hkm
   have e4 : min m (n - m) = k:=hk.symm
   have e5 : min k m = k:=by omega
   obtain ⟨cs,hcs⟩ : ∃ cs,RB n m x = cs:=⟨_,rfl⟩
   rw [hcs] at e1 e2 e3
   have hm0 : ¬ (m = n ∧ 0 < n):=by omega
   have hm1 : ¬ (0 = n ∧ 0 < n):=by omega
   have t : Tr tbl J ((.trim [[false,false,false],[true,false,false]] c91_b0)) (fun s h' => s.get [false,false,false] = .slice h.size 0 n n ∧ s.get [true,false,false] = G m ∧ h' = ⟨h.get,h.size,[.cells 1 n cs]⟩) .normal (fun s h' => s.get [false,false,false] = .slice h.size 0 n n ∧ s.get [true,false,false] = G ((m + k : Nat) : Int) ∧ h' = ⟨h.get,h.size,[.cells 1 n (RB n (m + k) x)]⟩):=Tr.region fun s h hp => by
    obtain ⟨g0,g1,rfl⟩:=hp
    simp (disch:=first|omega|exact zE rfl|exact zO|exact zL rfl) [c91_b0,c91_o8,c91_o9,frameOf,Heap.size,Heap.get,Eff.app,Heap.setOwn,g0,g1,slSlA,bounds,elems,copyA,rdOf,hm0,hm1,e1,e2,e3,e4,e5,List.take_replicate]
    omega
   rw [← hcs] at t
   exact Tr.next t (ih (m + k) (by omega) (by omega) (by omega))
theorem c91_ok (J : CallF) (k99 : ∀ (h : Heap) (n : Int),0 ≤ n → n < 244 → J 99 [.int .u64 1,.int .u64 n] h = some (.tup [.int .u64 0,.int .u64 n],[],false)) (hJ : ∀ a h,J 91 a h = none) (h : Heap) (b : Nat) (hb : h.get b = .cells 1 1 [G x]) (h1 : 1 ≤ n) (h2 : n ≤ 243) :
  CallsTo tbl J 91 [.slice b 0 1 1,G n] h (.slice h.size 0 n n,[.cells 1 n (List.replicate n (G x))],false):=by
 have hlt:=get_lt hb (by simp)
 have wu : ∀ z : Int,0 ≤ z → z < 244 → IntKind.u64.wrap z = z:=fun z _ _ => by unfold IntKind.wrap IntKind.bits IntKind.signed; simp; omega
 refine Tr.fnh (cf:=c91) (e:=.ret) (s:=T.set (T.set .leaf [] (.slice b 0 1 1)) [false] (G n)) (by decide) rfl (hJ _ _) rfl rfl rfl (by simp) ?_
 have t0 : Tr tbl J (c91_o0) (fun s h' => s = T.set (T.set .leaf [] (.slice b 0 1 1)) [false] (G n) ∧ h' = frameOf h) .normal (fun s h' => s.get [] = .slice b 0 1 1 ∧ s.get [false] = G n ∧ h' = ⟨h.get,h.size,[]⟩):=Tr.region fun s h hp => by
  obtain ⟨rfl,rfl⟩:=hp
  simp (disch:=first|omega|exact zE rfl|exact zO|exact zL rfl) [c91_o0,frameOf,Heap.size,Heap.get,Eff.app,Heap.setOwn]
 have t1 : Tr tbl J ((.seq c91_o1 (.cond (.s [true,true,false]) c91_o2 .skip))) (fun s h' => s.get [] = .slice b 0 1 1 ∧ s.get [false] = G n ∧ h' = ⟨h.get,h.size,[]⟩) .normal (fun s h' => s.get [] = .slice b 0 1 1 ∧ s.get [false] = G n ∧ h' = ⟨h.get,h.size,[]⟩):=Tr.region fun s h hp => by
  obtain ⟨g0,g1,rfl⟩:=hp
  simp (disch:=first|omega|exact zE rfl|exact zO|exact zL rfl) [c91_o1,frameOf,Heap.size,Heap.get,Eff.app,Heap.setOwn,g0,g1]
 have t2 : Tr tbl J (c91_o3) (fun s h' => s.get [] = .slice b 0 1 1 ∧ s.get [false] = G n ∧ h' = ⟨h.get,h.size,[]⟩) .normal (fun s h' => s.get [] = .slice b 0 1 1 ∧ s.get [false,true] = .int .u64 0 ∧ s.get [true,true] = .int .u64 n ∧ h' = ⟨h.get,h.size,[]⟩):=Tr.region fun s h hp => by
  obtain ⟨g0,g1,rfl⟩:=hp
  simp (disch:=first|omega|exact zE rfl|exact zO|exact zL rfl) [c91_o3,frameOf,Heap.size,Heap.get,Eff.app,Heap.setOwn,g0,g1,wu,k99]
 have t3 : Tr tbl J ((.seq c91_o4 (.cond (.s [true,true,false,true]) c91_o5 .skip))) (fun s h' => s.get [] = .slice b 0 1 1 ∧ s.get [false,true] = .int .u64 0 ∧ s.get [true,true] = .int .u64 n ∧ h' = ⟨h.get,h.size,[]⟩) .normal (fun s h' => s.get [] = .slice b 0 1 1 ∧ s.get [true,true] = .int .u64 n ∧ h' = ⟨h.get,h.size,[]⟩):=Tr.region fun s h hp => by
  obtain ⟨g0,g1,g2,rfl⟩:=hp
  simp (disch:=first|omega|exact zE rfl|exact zO|exact zL rfl) [c91_o4,frameOf,Heap.size,Heap.get,Eff.app,Heap.setOwn,g0,g1,g2]
 have e0 : RB n 1 x = (List.replicate n (G 0)).set 0 (G x):=by
  obtain ⟨N,rfl⟩ : ∃ N,n = N + 1:=⟨n - 1,by omega⟩
  simp [RB,List.replicate_succ]
 have t4 : Tr tbl J ((.seq c91_o6 c91_o7)) (fun s h' => s.get [] = .slice b 0 1 1 ∧ s.get [true,true] = .int .u64 n ∧ h' = ⟨h.get,h.size,[]⟩) .normal (fun s h' => s.get [false,false,false] = .slice h.size 0 n n ∧ s.get [true,false,false] = G ((1 : Nat) : Int) ∧ h' = ⟨h.get,h.size,[.cells 1 n (RB n 1 x)]⟩):=Tr.region fun s h hp => by
  obtain ⟨g0,g1,rfl⟩:=hp
  rw [e0]
  simp (disch:=first|omega|exact zE rfl|exact zO|exact zL rfl) [c91_o6,c91_o7,size_mk,get_mk_lt,get_mk_ge,frameOf,Eff.app,Heap.setOwn,g0,g1,repl,elems,copyA,rdOf,hb]
  omega
 have t5 : Tr tbl J ((.seq c91_o10 .ret)) (fun s h' => s.get [false,false,false] = .slice h.size 0 n n ∧ s.get [true,false,false] = G n ∧ h' = ⟨h.get,h.size,[.cells 1 n (RB n n x)]⟩) .ret (fun s h' => s.get [true,false] = .slice h.size 0 n n ∧ h' = ⟨h.get,h.size,[.cells 1 n (RB n n x)]⟩):=Tr.region fun s h hp => by
  obtain ⟨g0,g1,rfl⟩:=hp
  simp (disch:=first|omega|exact zE rfl|exact zO|exact zL rfl) [c91_o10,frameOf,Heap.size,Heap.get,Eff.app,Heap.setOwn,g0,g1]
 refine Tr.post (fun s h' q => ?_) (Tr.seq t0 (Tr.seq t1 (Tr.seq t2 (Tr.seq t3 (Tr.app2 t4 (Tr.seq (Tr.block (rep_loop J h h2 n 1 (by omega) (by omega) h1)) t5))))))
 obtain ⟨q1,rfl⟩:=q
 simp [c91,q1,RB_all]
theorem c91_0 (J : CallF) (k99 : ∀ (h : Heap) (n : Int),0 ≤ n → n < 244 → J 99 [.int .u64 1,.int .u64 n] h = some (.tup [.int .u64 0,.int .u64 n],[],false)) (hJ : ∀ a h,J 91 a h = none) (h : Heap) (b : Nat) (hb : h.get b = .cells 1 1 [G x]) :
  CallsTo tbl J 91 [.slice b 0 1 1,G 0] h (.slice h.size 0 0 0,[.cells 1 0 []],false):=by
 have hlt:=get_lt hb (by simp)
 have wu : ∀ z : Int,0 ≤ z → z < 244 → IntKind.u64.wrap z = z:=fun z _ _ => by unfold IntKind.wrap IntKind.bits IntKind.signed; simp; omega
 refine Tr.fnh (cf:=c91) (e:=.ret) (s:=T.set (T.set .leaf [] (.slice b 0 1 1)) [false] (G 0)) (by decide) rfl (hJ _ _) rfl rfl rfl (by simp) ?_
 refine Tr.post (Q:=(fun s h' => h' = ⟨h.get,h.size,[.cells 1 0 []]⟩ ∧ s.get [true,false] = .slice h.size 0 0 0)) (fun s h' q => by
  obtain ⟨rfl,q1⟩:=q
  simp [c91,q1]) ?_
 have l0 : Tr tbl J c91_l0 (fun s h' => h' = ⟨h.get,h.size,[.cells 1 0 []]⟩ ∧ s.get [false,false,false] = .slice h.size 0 0 0 ∧ s.get [true,false,false] = G 0) (.exit 0) (fun s h' => h' = ⟨h.get,h.size,[.cells 1 0 []]⟩ ∧ s.get [false,false,false] = .slice h.size 0 0 0):=by
  refine Tr.out ?_ (by simp)
  refine Tr.w fun s1 H1 hp _ kR => W.trim ?_
  obtain ⟨rfl,q⟩:=hp
  refine W.assoc ?_
  refine zCh ?_
  simp (disch:=first|omega|exact zE rfl|exact zO|exact zL rfl) [c91_o8,size_mk,get_mk_lt,get_mk_ge,frameOf,Eff.app,Heap.setOwn,q]
  refine zCh ?_
  simp (disch:=first|omega|exact zE rfl|exact zO|exact zL rfl) [size_mk,get_mk_lt,get_mk_ge,frameOf,Eff.app,Heap.setOwn,q]
  exact kR _ _ (by simp [T.get,q])
 refine Tr.w fun s1 H1 hp _ kR => ?_
 obtain ⟨rfl,rfl⟩:=hp
 have q : True:=trivial
 refine zCh ?_
 simp (disch:=first|omega|exact zE rfl|exact zO|exact zL rfl) [c91_o0,size_mk,get_mk_lt,get_mk_ge,frameOf,Eff.app,Heap.setOwn,q]
 refine W.assoc ?_
 refine zCh ?_
 simp (disch:=first|omega|exact zE rfl|exact zO|exact zL rfl) [c91_o1,size_mk,get_mk_lt,get_mk_ge,frameOf,Eff.app,Heap.setOwn,q]
 refine zCh ?_
 simp (disch:=first|omega|exact zE rfl|exact zO|exact zL rfl) [c91_o2,size_mk,get_mk_lt,get_mk_ge,frameOf,Eff.app,Heap.setOwn,q]
 refine zCh ?_
 simp (disch:=first|omega|exact zE rfl|exact zO|exact zL rfl) [c91_o3,size_mk,get_mk_lt,get_mk_ge,frameOf,Eff.app,Heap.setOwn,q,wu,k99]
 refine W.assoc ?_
 refine zCh ?_
 simp (disch:=first|omega|exact zE rfl|exact zO|exact zL rfl) [c91_o4,size_mk,get_mk_lt,get_mk_ge,frameOf,Eff.app,Heap.setOwn,q]
 refine zCh ?_
 simp (disch:=first|omega|exact zE rfl|exact zO|exact zL rfl) [c91_o5,size_mk,get_mk_lt,get_mk_ge,frameOf,Eff.app,Heap.setOwn,q]
 refine zCh ?_
 simp (disch:=first|omega|exact zE rfl|exact zO|exact zL rfl) [c91_o6,size_mk,get_mk_lt,get_mk_ge,frameOf,Eff.app,Heap.setOwn,q,repl]
 refine zCh ?_
 simp (disch:=first|omega|exact zE rfl|exact zO|exact zL rfl) [c91_o7,size_mk,get_mk_lt,get_mk_ge,frameOf,Eff.app,Heap.setOwn,q,elems,copyA,rdOf,hb]
 refine W.seq (W.block ?_)
 refine W.use (l0) (by simp (disch:=first|omega|exact zE rfl|exact zO|exact zL rfl) [size_mk,get_mk_lt,get_mk_ge,frameOf,Eff.app,Heap.setOwn,q,(show min 1 0 = 0 from rfl),(show min (1 : Int) 0 = 0 from rfl)]) fun s1 H1 hp => ?_
 obtain ⟨rfl,q⟩:=hp
 try simp only [zW,if_true]
 refine zCh ?_
 simp (disch:=first|omega|exact zE rfl|exact zO|exact zL rfl) [c91_o10,size_mk,get_mk_lt,get_mk_ge,frameOf,Eff.app,Heap.setOwn,q]
 refine W.ret ?_
 try simp only [zW,if_true]
 exact kR _ _ (by simp [T.get,q])
end
def spec91 : SpecF:=fun args h => match args with
 | [.slice b 0 1 1,.int .i64 n] => match h.get b with
  | .cells 1 1 [.int .i64 x] => if 0 ≤ n ∧ n ≤ 243 then some (.slice h.size 0 n.toNat n.toNat,[.cells 1 n.toNat (List.replicate n.toNat (G x))],false) else none
  | _ => none
 | _ => none
noncomputable def T33 : CallF:=addV T32 99 spec99
theorem t33 : Sound Go.Proofs.Try.prog T33:=Sound.addV2 follows ok t32 Sound.empty (by decide) (fun args v h => by
 unfold spec99 at h
 split at h
 ·split at h
  ·rename_i a n hh
   obtain ⟨rfl,h1,h2⟩:=hh
   obtain ⟨N,rfl⟩ : ∃ N : Nat,n = N:=⟨n.toNat,by omega⟩
   simp only [Option.some.injEq] at h; subst h; exact c99_ok N (by omega)
  ·cases h
 ·cases h)
theorem k99 (h : Heap) (n : Int) (h1 : 0 ≤ n) (h2 : n < 244) : T33 99 [.int .u64 1,.int .u64 n] h = some (.tup [.int .u64 0,.int .u64 n],[],false):=by simp [T33,AEv.addV,spec99,h1,h2,AV.flats,AV.flat]
noncomputable def T34 : CallF:=addI T33 91 spec91
theorem t34 : Sound Go.Proofs.Try.prog T34:=Sound.add follows ok t33 (by decide) (fun args h x e => by
 unfold spec91 at e
 split at e
 ·split at e
  ·split at e
   ·rename_i b n _ xv hg hh
    simp only [Option.some.injEq] at e; subst e
    obtain ⟨N,rfl⟩ : ∃ N : Nat,n = N:=⟨n.toNat,by omega⟩
    rcases Nat.eq_zero_or_pos N with rfl | hN
    ·exact c91_0 T33 k99 (fun _ _ => by simp (disch:=decide) only [T1,T2,T3,T4,T5,T6,T7,T8,T9,T10,T11,T12,T13,T14,T15,T16,T17,T18,T19,T20,T21,T22,T23,T24,T25,T26,T27,T28,T29,T30,T31,T32,T33,addI_ne,addX_ne,addV_ne,addK_ne]; rfl) h b hg
    ·exact c91_ok T33 k99 (fun _ _ => by simp (disch:=decide) only [T1,T2,T3,T4,T5,T6,T7,T8,T9,T10,T11,T12,T13,T14,T15,T16,T17,T18,T19,T20,T21,T22,T23,T24,T25,T26,T27,T28,T29,T30,T31,T32,T33,addI_ne,addX_ne,addV_ne,addK_ne]; rfl) h b hg (by omega) (by omega)
   ·cases e
  ·cases e
 ·cases e)
def sat (n : Nat) : Nat:=min n (1152921504606846977)
def ps (L : List Nat) (i : Nat) : Nat:=(L.take i).sum
theorem gn_at {L : List Nat} {i : Nat} (h : i < L.length) : (gn L)[i]? = some (G (L.getD i 0)):=by
 unfold gn
 rw [List.getElem?_map,List.getD_eq_getElem?_getD,List.getElem?_eq_getElem h]; rfl
section
variable {L : List Nat}
theorem RV.frame {h : Heap} {x : AV} {cs : List AV} (r : RV h x cs) : RV (frameOf h) x cs:=by
 rcases r with r | ⟨b,v,e,g⟩
 ·exact .inl r
 ·refine .inr ⟨b,v,e,?_⟩
  unfold frameOf
  rw [get_mk_lt _ _ _ _ (get_lt g (by simp))]; exact g
def tot (L : List Nat) : AV:=if L.sum ≤ 1152921504606846976 then .tup [G L.sum,.bool true] else .tup [G 0,.bool false]
end
def Pre76 (b : Nat × Nat) (args : List AV) (h : Heap) : Prop:=(b.1 ≤ 2305843009213693952 ∧ b.2 ≤ 2305843009213693952) ∧ args = [G b.1,G b.2]
def Post76 (b : Nat × Nat) (h : Heap) (v : AV) (own : List AObj) : Prop:=v = G (sat (b.1 + b.2)) ∧ own = []
noncomputable def T35 : CallF:=addK tbl T34 76 Pre76 Post76
theorem t35 : Sound Go.Proofs.Try.prog T35:=Sound.addK follows ok t34 (by decide) _ _
def Pre72 (b : AV × List Nat) (args : List AV) (h : Heap) : Prop:=(RV h b.1 (gn b.2) ∧ b.2.length ≤ 1000000 ∧ ∀ x ∈ b.2,x ≤ 2305843009213693952) ∧ args = [b.1]
def Post72 (b : AV × List Nat) (h : Heap) (v : AV) (own : List AObj) : Prop:=v = G (sat b.2.sum) ∧ own = []
noncomputable def T36 : CallF:=addK tbl T35 72 Pre72 Post72
theorem t36 : Sound Go.Proofs.Try.prog T36:=Sound.addK follows ok t35 (by decide) _ _
def Pre63 (b : AV × List Nat) (args : List AV) (h : Heap) : Prop:=(RV h b.1 (gn b.2) ∧ b.2.length ≤ 1000000 ∧ ∀ x ∈ b.2,x ≤ 1152921504606846976) ∧ args = [b.1,G 1152921504606846976]
def Post63 (b : AV × List Nat) (h : Heap) (v : AV) (own : List AObj) : Prop:=v = tot b.2 ∧ own = []
noncomputable def T37 : CallF:=addK tbl T36 63 Pre63 Post63
theorem t37 : Sound Go.Proofs.Try.prog T37:=Sound.addK follows ok t36 (by decide) _ _
def cnt (S : List (List Nat)) : Nat → Nat → Nat
 | 0,_ => 1
 | k + 1,i => ((S.getD i []).map (cnt S k)).sum
def rowC (S : List (List Nat)) (k : Nat) : List Nat:=(List.range S.length).map (cnt S k)
def okC (S : List (List Nat)) (n : Nat) : Bool:=af (fun k => decide ((rowC S k).sum ≤ 1152921504606846976)) 0 n
def LF (h : Heap) (p : Nat) (S : List (List Nat)) : Prop:=∃ x mb nb rs,h.get p = .cells 0 3 [x,.map mb,.slice nb 0 S.length S.length] ∧ ((x = .nils ∧ S.length = 0) ∨ ∃ b v,x = .slice b 0 S.length v) ∧ h.get nb = .cells 1 S.length rs ∧ ∀ k,k < S.length → ∃ y,rs[k]? = some y ∧ RV h y (gn (S.getD k []))
theorem LF.kp {h h' : Heap} {p : Nat} {S : List (List Nat)} (l : LF h p S) (k : Kp (fun _ => False) h h') : LF h' p S:=by
 obtain ⟨x,mb,nb,rs,h1,h2,h3,h4⟩:=l
 refine ⟨x,mb,nb,rs,k.at h1 (by simp) id,h2,k.at h3 (by simp) id,fun i hi => ?_⟩
 obtain ⟨y,e1,e2⟩:=h4 i hi
 exact ⟨y,e1,e2.kp k (fun _ _ => id)⟩
theorem LM.lf {h : Heap} {p B : Nat} {W : List (List Int)} {R : List (List Nat)} (l : LM h p B W R) : LF h p (stL W R):=by
 obtain ⟨x,mb,nb,rs,h1,h2,h3,h4,h5,h6,h7⟩:=l
 have e : (stL W R).length = R.length:=by simp [stL]
 unfold LF
 rw [e]
 have hs:=h2.sl
 rw [wsL_len] at hs
 refine ⟨x,mb,nb,rs,h1,hs,h4,fun k hk => ?_⟩
 obtain ⟨y,e1,e2,_⟩:=h7 k hk
 refine ⟨y,e1,?_⟩
 have : (stL W R).getD k [] = nxL W R (R.getD k []):=by
  unfold stL
  rw [List.getD_eq_getElem?_getD,List.getElem?_map,List.getElem?_eq_getElem hk,List.getD_eq_getElem?_getD,List.getElem?_eq_getElem hk]; rfl
 rw [this]; exact e2
section
variable {S : List (List Nat)} {p kk nn : Nat}
structure PR (S : List (List Nat)) (xo : AV) (kk : Nat) (h : Heap) (bo br : Nat) (ros : List AV) : Prop where
 e : xo = .slice bo 0 (kk + 1) (kk + 1)
 g : h.get bo = .cells 1 (kk + 1) ros
 r : ros[kk]? = some (.slice br 0 S.length S.length)
 l : ros.length = kk + 1
 gr : h.get br = .cells 1 S.length (gn (rowC S kk))
theorem PR.kp {xo : AV} {h h' : Heap} {bo br : Nat} {ros : List AV} (t : PR S xo kk h bo br ros) (k : Kp (fun _ => False) h h') : PR S xo kk h' bo br ros:=⟨t.e,k.at t.g (by simp) id,t.r,t.l,k.at t.gr (by simp) id⟩
end
def rowsC (S : List (List Nat)) (k : Nat) : List (List AV):=(List.range k).map fun k => gn (rowC S k)
structure OkS (S : List (List Nat)) : Prop where
 lt : ∀ i,∀ j ∈ S.getD i [],j < S.length
 len : ∀ i,(S.getD i []).length ≤ 1000
 n : S.length ≤ 1000
section
variable {S : List (List Nat)} {p nn : Nat}
theorem LF.fr {h : Heap} (l : LF h p S) : LF (frameOf h) p S:=by
 have gl : ∀ {b y},h.get b = y → y ≠ .hole → (frameOf h).get b = y:=fun e hx => by
  unfold frameOf; rw [get_mk_lt _ _ _ _ (get_lt e hx)]; exact e
 obtain ⟨x,mb,nb,rs,h1,h2,h3,h4⟩:=l
 refine ⟨x,mb,nb,rs,gl h1 (by simp),h2,gl h3 (by simp),fun i hi => ?_⟩
 obtain ⟨y,e1,e2⟩:=h4 i hi
 exact ⟨y,e1,e2.frame⟩
end
structure A62 where
 p : Nat
 nn : Nat
 S : List (List Nat)
def Ok62 (b : A62) (h : Heap) : Prop:=OkS b.S ∧ b.S.length ≤ 243 ∧ LF h b.p b.S ∧ b.nn ≤ 40
def Pre62 (b : A62) (args : List AV) (h : Heap) : Prop:=Ok62 b h ∧ args = [.ptr b.p 0 3,G b.nn]
def Post62 (b : A62) (h : Heap) (v : AV) (own : List AObj) : Prop:=(okC b.S b.nn = true → ∃ x,v = .tup [x,.bool true] ∧ TB h (h.plus own) x (rowsC b.S b.nn)) ∧ (okC b.S b.nn = false → v = .tup [.nils,.bool false] ∧ own = [])
noncomputable def T38 : CallF:=addK tbl T37 62 Pre62 Post62
theorem t38 : Sound Go.Proofs.Try.prog T38:=Sound.addK follows ok t37 (by decide) _ _
theorem stL_ok {W : List (List Int)} {R : List (List Nat)} (hn : R.length ≤ 243) : OkS (stL W R):=by
 have e : (stL W R).length = R.length:=by simp [stL]
 have g : ∀ i,∃ s,(stL W R).getD i [] = nxL W R s ∨ (stL W R).getD i [] = []:=fun i => by
  unfold stL
  rw [List.getD_eq_getElem?_getD,List.getElem?_map]
  cases R[i]? with
  | none => exact ⟨[],.inr rfl⟩
  | some s => exact ⟨s,.inl rfl⟩
 refine ⟨fun i j hj => ?_,fun i => ?_,by omega⟩
 ·rw [e]
  obtain ⟨s,h | h⟩:=g i
  ·rw [h] at hj; exact nxL_lt hj
  ·rw [h] at hj; cases hj
 ·obtain ⟨s,h | h⟩:=g i
  ·rw [h]; have:=nxL_len W R s; omega
  ·rw [h]; simp
def AR.gd (a : AR) (m n lo : Int) : Bool:=a.rm m && decide (lo ≤ n ∧ n ≤ 40)
def AR.cn (a : AR) (m : Int) (n : Nat) : Nat:=if n = 0 then 1 else (rowC (a.steps m) (n - 1)).sum
def AR.cntV (a : AR) (m n : Int) : AV:=if a.gd m n 0 then (if okC (a.steps m) n.toNat then .tup [G (a.cn m n.toNat),G 0] else .tup [G 0,G 5]) else .tup [G 0,G 2]
theorem AR.rm_iff {a : AR} {m : Int} (h : a.rm m = true) : a.ru = true ∧ 1 ≤ m ∧ m ≤ 5:=by
 unfold AR.rm at h
 simpa using h
theorem AR.steps_ok {a : AR} {m : Int} (h : a.rm m = true) : OkS (a.steps m) ∧ (a.steps m).length ≤ 243 ∧ (a.steps m).length = (a.rows m).length:=by
 obtain ⟨h1,h2⟩:=a.rm_iff h
 have q3:=a.q3 h1
 have sm:=rwL_small (q:=a.q.toNat) (B:=a.B) (m:=m.toNat) (by omega) (by omega)
 have e : (a.steps m).length = (a.rows m).length:=by simp [AR.steps,stL]
 exact ⟨stL_ok sm,by rw [e]; exact sm,e⟩
section
variable {a : AR} {m n : Int}
end
structure ARmn where
 a : AR
 m : Int
 n : Int
def PreMn (b : ARmn) (args : List AV) (h : Heap) : Prop:=OkR b.a h ∧ args = [b.a.v,G b.m,G b.n]
def Post21 (b : ARmn) (h : Heap) (v : AV) (own : List AObj) : Prop:=v = b.a.cntV b.m b.n ∧ own = []
noncomputable def T39 : CallF:=addK tbl T38 21 PreMn Post21
theorem t39 : Sound Go.Proofs.Try.prog T39:=Sound.addK follows ok t38 (by decide) _ _
end Go.Proofs.Ytljgfdamdcikgaa.Ev
set_option linter.unusedVariables false
set_option linter.unusedSimpArgs false
namespace Go.Proofs.Ytljgfdamdcikgaa.Ev
open Go Go.AEv
def al (S : List (List Nat)) : Nat → Nat → Bool
 | 0,_ => true
 | k + 1,i => (S.getD i []).any (al S k)
theorem al_down {S : List (List Nat)} : ∀ {k i : Nat},al S (k + 1) i = true → al S k i = true
 | 0,_,_ => rfl
 | k + 1,i,h => by
  unfold al at h ⊢
  obtain ⟨c,h1,h2⟩:=List.any_eq_true.1 h
  exact List.any_eq_true.2 ⟨c,h1,al_down h2⟩
theorem al_le {S : List (List Nat)} {i : Nat} : ∀ {k d : Nat},al S (k + d) i = true → al S k i = true
 | k,0,h => h
 | k,d + 1,h => al_le (d:=d) (al_down h)
theorem al_iff {S : List (List Nat)} : ∀ {k i : Nat},al S k i = true ↔ ∃ f : Nat → Nat,f 0 = i ∧ ∀ t,t < k → f (t + 1) ∈ S.getD (f t) []
 | 0,i => ⟨fun _ => ⟨fun _ => i,rfl,fun t h => absurd h (by omega)⟩,fun _ => rfl⟩
 | k + 1,i => by
  have a : al S (k + 1) i = (S.getD i []).any (al S k):=rfl
  rw [a,List.any_eq_true]
  constructor
  ·rintro ⟨c,h1,h2⟩
   obtain ⟨f,h3,h4⟩:=al_iff.1 h2
   refine ⟨fun t => if t = 0 then i else f (t - 1),rfl,fun t ht => ?_⟩
   cases t with
   | zero =>
    show f 0 ∈ S.getD i []
    rw [h3]; exact h1
   | succ t =>
    exact h4 t (by omega)
  ·rintro ⟨f,h1,h2⟩
   have:=h2 0 (by omega)
   rw [h1] at this
   exact ⟨f 1,this,al_iff.2 ⟨fun t => f (t + 1),rfl,fun t ht => h2 (t + 1) (by omega)⟩⟩
theorem pigeon : ∀ (n : Nat) (f : Nat → Nat),(∀ i,i ≤ n → f i < n) → ∃ i j,i < j ∧ j ≤ n ∧ f i = f j
 | 0,f,h => absurd (h 0 (Nat.le_refl _)) (by omega)
 | n + 1,f,h => by
  by_cases c : ∃ i,i ≤ n ∧ f i = f (n + 1)
  ·obtain ⟨i,a,b⟩:=c
   exact ⟨i,n + 1,by omega,Nat.le_refl _,b⟩
  ·have c' : ∀ i,i ≤ n → f i ≠ f (n + 1):=fun i a b => c ⟨i,a,b⟩
   obtain ⟨i,j,a1,a2,a3⟩:=pigeon n (fun i => if f i = n then f (n + 1) else f i) (fun i hi => by
    have h1:=h i (by omega)
    have h2:=h (n + 1) (Nat.le_refl _)
    have h3:=c' i hi
    by_cases e : f i = n
    ·simp only [e,if_true]; omega
    ·simp only [e,if_false]; omega)
   refine ⟨i,j,a1,by omega,?_⟩
   have h3:=c' i (by omega)
   have h4:=c' j (by omega)
   by_cases e1 : f i = n
   ·by_cases e2 : f j = n
    ·omega
    ·simp only [e1,e2,if_true,if_false] at a3; omega
   ·by_cases e2 : f j = n
    ·simp only [e1,e2,if_true,if_false] at a3; omega
    ·simp only [e1,e2,if_false] at a3; exact a3
variable {M : List (List Int)}
theorem al_big {S : List (List Nat)} (lt : ∀ i,∀ j ∈ S.getD i [],j < S.length) {i : Nat} (hi : i < S.length) (h : al S S.length i = true) (k : Nat) : al S k i = true:=by
 obtain ⟨f,h0,hf⟩:=al_iff.1 h
 have hl : ∀ t,t ≤ S.length → f t < S.length:=fun t ht => by
  cases t with
  | zero => rw [h0]; exact hi
  | succ t => exact lt _ _ (hf t (by omega))
 obtain ⟨a,b,hab,hb,e⟩:=pigeon S.length f hl
 refine al_iff.2 ⟨fun t => if t < a then f t else f (a + (t - a) % (b - a)),?_,fun t _ => ?_⟩
 ·by_cases c : 0 < a
  ·simp only [c,if_true]; exact h0
  ·have : a = 0:=by omega
   subst this
   simp only [Nat.lt_irrefl,if_false,Nat.zero_sub,Nat.zero_mod,Nat.add_zero]; exact h0
 ·simp only
  by_cases c : t + 1 < a
  ·rw [if_pos c,if_pos (by omega)]
   exact hf t (by omega)
  ·rw [if_neg c]
   by_cases c2 : t < a
   ·rw [if_pos c2]
    have : t + 1 - a = 0:=by omega
    rw [this,Nat.zero_mod,Nat.add_zero]
    have:=hf t (by omega)
    rw [show t + 1 = a by omega] at this
    exact this
   ·rw [if_neg c2]
    have hm : (t - a) % (b - a) < b - a:=Nat.mod_lt _ (by omega)
    have h2:=hf (a + (t - a) % (b - a)) (by omega)
    have e2 : t + 1 - a = (t - a) + 1:=by omega
    rw [e2]
    by_cases c3 : (t - a) % (b - a) + 1 = b - a
    ·have : ((t - a) + 1) % (b - a) = 0:=by
      rw [Nat.add_mod]
      by_cases d1 : b - a = 1
      ·rw [d1]; omega
      ·rw [Nat.mod_eq_of_lt (show 1 < b - a by omega),c3,Nat.mod_self]
     rw [this,Nat.add_zero]
     rw [show a + (t - a) % (b - a) + 1 = b by omega,← e] at h2
     exact h2
    ·have : ((t - a) + 1) % (b - a) = (t - a) % (b - a) + 1:=by
      rw [Nat.add_mod,Nat.mod_eq_of_lt (show 1 < b - a by omega),Nat.mod_eq_of_lt (by omega)]
     rw [this,← Nat.add_assoc]
     exact h2
def fd (p : Nat → Bool) (w : Nat → Nat) : Nat → Nat → Nat → Nat × Nat
 | 0,i,k => (i,k)
 | d + 1,i,k => if p i = true then (if k < w i then (i,k) else fd p w d (i + 1) (k - w i)) else fd p w d (i + 1) k
def ft (p : Nat → Bool) (w : Nat → Nat) : Nat → Nat → Nat
 | 0,_ => 0
 | d + 1,i => (if p i = true then w i else 0) + ft p w d (i + 1)
def pk (w : Nat → Nat) : List Nat → Nat → Nat × Nat
 | [],k => (0,k)
 | c :: L,k => if k < w c then (c,k) else pk w L (k - w c)
def itm (S : List (List Nat)) : Nat → List Nat → Nat → List Nat
 | 0,_,_ => []
 | j + 1,L,k => (pk (cnt S j) L k).1 :: itm S j (S.getD (pk (cnt S j) L k).1 []) (pk (cnt S j) L k).2
def pN (S : List (List Nat)) (now : Int) (i : Nat) : Bool:=decide (now < 0) || decide (i ∈ S.getD now.toNat [])
theorem gD_mem {L : List Nat} {t : Nat} (h : t < L.length) : L.getD t 0 ∈ L:=by
 rw [List.getD_eq_getElem?_getD,List.getElem?_eq_getElem h]
 exact List.getElem_mem h
def Rw (S : List (List Nat)) : Nat → Nat → Nat → Prop
 | 0,i,j => i = j
 | k + 1,i,j => ∃ c,c ∈ S.getD i [] ∧ Rw S k c j
section
variable {S : List (List Nat)}
theorem Rw.add {l j m : Nat} : ∀ {k i : Nat},Rw S k i j → Rw S l j m → Rw S (k + l) i m
 | 0,i,h,g => by
  have e : i = j:=h
  subst e
  rw [Nat.zero_add]; exact g
 | k + 1,i,h,g => by
  obtain ⟨c,h1,h2⟩:=h
  rw [show k + 1 + l = (k + l) + 1 by omega]
  exact ⟨c,h1,h2.add g⟩
theorem Rw.one {i j : Nat} (h : j ∈ S.getD i []) : Rw S 1 i j:=⟨j,h,rfl⟩
theorem Rw.snoc {k i j c : Nat} (h : Rw S k i j) (g : c ∈ S.getD j []) : Rw S (k + 1) i c:=h.add (Rw.one g)
theorem Rw.last {j : Nat} : ∀ {k i : Nat},Rw S (k + 1) i j → ∃ c,Rw S k i c ∧ j ∈ S.getD c []
 | 0,i,h => by
  obtain ⟨c,h1,h2⟩:=h
  have e : c = j:=h2
  subst e
  exact ⟨i,rfl,h1⟩
 | k + 1,i,h => by
  obtain ⟨c,h1,h2⟩:=h
  obtain ⟨d,h3,h4⟩:=Rw.last h2
  exact ⟨d,⟨c,h1,h3⟩,h4⟩
theorem Rw.al {j m : Nat} : ∀ {k i : Nat},Rw S k i j → al S m j = true → al S (m + k) i = true
 | 0,i,h,g => by
  have e : i = j:=h
  subst e
  exact g
 | k + 1,i,h,g => by
  obtain ⟨c,h1,h2⟩:=h
  show (S.getD i []).any (Ev.al S (m + k)) = true
  exact List.any_eq_true.2 ⟨c,h1,h2.al g⟩
theorem Rw.lt (lt : ∀ i,∀ j ∈ S.getD i [],j < S.length) {j : Nat} : ∀ {k i : Nat},Rw S k i j → i < S.length → j < S.length
 | 0,i,h,g => by
  have e : i = j:=h
  rw [← e]; exact g
 | k + 1,i,⟨c,h1,h2⟩,g => h2.lt lt (lt _ _ h1)
def LG (S : List (List Nat)) (i z : Nat) : Prop:=∀ k,al S k i = true ↔ k < z
theorem LG.nc {i z : Nat} (h : LG S i z) (lt : ∀ i,∀ j ∈ S.getD i [],j < S.length) (hi : i < S.length) : al S S.length i = false:=by
 cases c : al S S.length i
 ·rfl
 ·have:=(h z).1 (al_big lt hi c z)
  omega
theorem LG.pos {i z : Nat} (h : LG S i z) : 0 < z:=(h 0).1 rfl
def MX (S : List (List Nat)) (L : List Nat) (m : Nat) : Prop:=(∀ c ∈ L,∃ z,LG S c z ∧ z ≤ m) ∧ (m = 0 ∨ ∃ c ∈ L,LG S c m)
theorem MX.nil : MX S [] 0:=⟨fun _ h => (by cases h),.inl rfl⟩
theorem MX.snoc {L : List Nat} {m c z : Nat} (h : MX S L m) (g : LG S c z) : MX S (L ++ [c]) (max m z):=by
 constructor
 ·intro x hx
  rcases List.mem_append.1 hx with a | a
  ·obtain ⟨y,h1,h2⟩:=h.1 x a
   exact ⟨y,h1,by omega⟩
  ·rw [List.mem_singleton.1 a]
   exact ⟨z,g,by omega⟩
 ·by_cases e : m ≤ z
  ·rw [Nat.max_eq_right e]
   exact .inr ⟨c,by simp,g⟩
  ·rw [Nat.max_eq_left (by omega)]
   rcases h.2 with a | ⟨x,h1,h2⟩
   ·exact .inl a
   ·exact .inr ⟨x,List.mem_append_left _ h1,h2⟩
theorem MX.take {L : List Nat} {t m z : Nat} (ht : t < L.length) (h : MX S (L.take t) m) (g : LG S (L.getD t 0) z) : MX S (L.take (t + 1)) (max m z):=by
 have e : L.take (t + 1) = L.take t ++ [L.getD t 0]:=by
  rw [List.take_add_one,List.getElem?_eq_getElem ht,List.getD_eq_getElem?_getD,List.getElem?_eq_getElem ht]; rfl
 rw [e]; exact h.snoc g
theorem MX.lg {v m : Nat} (h : MX S (S.getD v []) m) : LG S v (m + 1):=fun k => by
 cases k with
 | zero => exact ⟨fun _ => by omega,fun _ => rfl⟩
 | succ k =>
  have a : al S (k + 1) v = (S.getD v []).any (al S k):=rfl
  rw [a,List.any_eq_true]
  constructor
  ·rintro ⟨c,h1,h2⟩
   obtain ⟨z,h3,h4⟩:=h.1 c h1
   have:=(h3 k).1 h2
   omega
  ·intro hk
   rcases h.2 with e | ⟨c,h1,h2⟩
   ·omega
   ·exact ⟨c,h1,(h2 k).2 (by omega)⟩
def LS (S : List (List Nat)) (z : Int) : Prop:=(z = -1 ∧ ∃ i,i < S.length ∧ al S S.length i = true) ∨ ∃ m : Nat,z = m ∧ ∀ k,(∃ i,i < S.length ∧ al S k i = true) ↔ k < m
theorem MX.ls {m : Nat} (h : MX S (List.range S.length) m) : LS S m:=.inr ⟨m,rfl,fun k => by
 constructor
 ·rintro ⟨i,h1,h2⟩
  obtain ⟨z,h3,h4⟩:=h.1 i (List.mem_range.2 h1)
  have:=(h3 k).1 h2
  omega
 ·intro hk
  rcases h.2 with e | ⟨c,h1,h2⟩
  ·omega
  ·exact ⟨c,List.mem_range.1 h1,(h2 k).2 hk⟩⟩
end
def fm (k : Nat) : List (Nat × Int) → Option Int
 | [] => none
 | (c,w) :: E => if k = c then some w else fm k E
def pm (k : Nat) (z : Int) : List (Nat × Int) → List (Nat × Int)
 | [] => [(k,z)]
 | (c,w) :: E => if k = c then (k,z) :: E else (c,w) :: pm k z E
theorem fm_pm (k : Nat) (z : Int) (j : Nat) : ∀ E,fm j (pm k z E) = if j = k then some z else fm j E
 | [] => rfl
 | (c,w) :: E => by
  unfold pm
  by_cases e : k = c
  ·rw [if_pos e]
   show (if j = k then some z else fm j E) = if j = k then some z else (if j = c then some w else fm j E)
   by_cases d : j = k
   ·rw [if_pos d,if_pos d]
   ·rw [if_neg d,if_neg d,if_neg (by omega)]
  ·rw [if_neg e]
   show (if j = c then some w else fm j (pm k z E)) = if j = k then some z else (if j = c then some w else fm j E)
   rw [fm_pm k z j E]
   by_cases d : j = c
   ·rw [if_pos d,if_pos d,if_neg (by omega)]
   ·rw [if_neg d,if_neg d]
def mv (E : List (Nat × Int)) : List (AV × AV):=E.map fun e => (G e.1,G e.2)
def cf (E : List (Nat × Int)) : Nat → Nat
 | 0 => 0
 | m + 1 => cf E m + (if fm m E = none then 1 else 0)
section
variable {S : List (List Nat)}
structure BQ (S : List (List Nat)) (f : Nat) (d : Nat → Nat) (Q : List Nat) (k t : Nat) : Prop where
 q0 : Q[0]? = some f
 f0 : d f = 0
 nd : Q.Nodup
 lt : ∀ z ∈ Q,z < S.length
 wk : ∀ z ∈ Q,Rw S (d z) f z
 so : ∀ (i j u w : Nat),i ≤ j → Q[i]? = some u → Q[j]? = some w → d u ≤ d w
 la : ∀ (j u w : Nat),Q[k]? = some u → Q[j]? = some w → d w ≤ d u + 1
 dl : ∀ (j w : Nat),Q[j]? = some w → d w ≤ j
 ch : ∀ (i u : Nat),i < k → Q[i]? = some u → ∀ c ∈ S.getD u [],c ∈ Q ∧ d c ≤ d u + 1
 ct : ∀ u,Q[k]? = some u → ∀ c ∈ (S.getD u []).take t,c ∈ Q ∧ d c ≤ d u + 1
theorem nd_cap {n : Nat} : ∀ {Q : List Nat},Q.Nodup → (∀ z ∈ Q,z < n) → Q.length ≤ n:=fun {Q} nd lt => by
 apply Decidable.byContradiction
 intro hc
 obtain ⟨i,j,h1,h2,h3⟩:=pigeon n (fun i => Q.getD i 0) (fun i hi => by
  have hl : i < Q.length:=by omega
  simp only [List.getD_eq_getElem?_getD,List.getElem?_eq_getElem hl,Option.getD_some]
  exact lt _ (List.getElem_mem hl))
 have hj : j < Q.length:=by omega
 have hi : i < Q.length:=by omega
 simp only [List.getD_eq_getElem?_getD,List.getElem?_eq_getElem hi,List.getElem?_eq_getElem hj,Option.getD_some] at h3
 have:=(List.pairwise_iff_getElem.1 nd) i j hi hj h1
 exact this h3
variable {f k t u : Nat} {d : Nat → Nat} {Q : List Nat}
theorem BQ.len (b : BQ S f d Q k t) : Q.length ≤ S.length:=nd_cap b.nd b.lt
theorem BQ.fQ (b : BQ S f d Q k t) : f ∈ Q:=List.mem_iff_getElem?.2 ⟨0,b.q0⟩
theorem BQ.uQ (b : BQ S f d Q k t) (hu : Q[k]? = some u) : u ∈ Q:=List.mem_iff_getElem?.2 ⟨k,hu⟩
theorem take_s {L : List Nat} {t c : Nat} (h : L[t]? = some c) : L.take (t + 1) = L.take t ++ [c]:=by
 rw [List.take_add_one,h]; rfl
theorem BQ.old (b : BQ S f d Q k t) (hu : Q[k]? = some u) {c : Nat} (hc : (S.getD u [])[t]? = some c) (hQ : c ∈ Q) : BQ S f d Q k (t + 1) :=
 ⟨b.q0,b.f0,b.nd,b.lt,b.wk,b.so,b.la,b.dl,b.ch,fun u' hu' x hx => by
  rw [hu] at hu'; cases hu'
  rw [take_s hc] at hx
  rcases List.mem_append.1 hx with a | a
  ·exact b.ct u hu x a
  ·rw [List.mem_singleton.1 a]
   obtain ⟨j,hj⟩:=List.mem_iff_getElem?.1 hQ
   exact ⟨hQ,b.la j u c hu hj⟩⟩
theorem BQ.new (lt : ∀ i,∀ j ∈ S.getD i [],j < S.length) (b : BQ S f d Q k t) (hu : Q[k]? = some u) {c : Nat} (hc : (S.getD u [])[t]? = some c) (hQ : c ∉ Q) : BQ S f (fun z => if z = c then d u + 1 else d z) (Q ++ [c]) k (t + 1):=by
 have old : ∀ z,z ∈ Q → (if z = c then d u + 1 else d z) = d z:=fun z hz => if_neg fun e => hQ (by rw [← e]; exact hz)
 have cS : c ∈ S.getD u []:=List.mem_iff_getElem?.2 ⟨t,hc⟩
 have uQ:=b.uQ hu
 have hk:=(List.getElem?_eq_some_iff.1 hu).1
 have app : ∀ {j w : Nat},(Q ++ [c])[j]? = some w → Q[j]? = some w ∨ (j = Q.length ∧ w = c):=fun {j w} h => by
  by_cases hj : j < Q.length
  ·left; rwa [List.getElem?_append_left hj] at h
  ·right
   have h3:=(List.getElem?_eq_some_iff.1 h).1
   simp only [List.length_append,List.length_singleton] at h3
   have e : j = Q.length:=by omega
   subst e
   rw [List.getElem?_append_right (Nat.le_refl _),Nat.sub_self] at h
   exact ⟨rfl,(Option.some.inj h).symm⟩
 have mem : ∀ {j w : Nat},Q[j]? = some w → w ∈ Q:=fun h => List.mem_iff_getElem?.2 ⟨_,h⟩
 have hu' : (Q ++ [c])[k]? = some u:=by rw [List.getElem?_append_left hk]; exact hu
 constructor
 ·have : 0 < Q.length:=(List.getElem?_eq_some_iff.1 b.q0).1
  rw [List.getElem?_append_left this]; exact b.q0
 ·show (if f = c then d u + 1 else d f) = 0
  rw [old f b.fQ,b.f0]
 ·rw [List.nodup_append]
  exact ⟨b.nd,by simp,fun x hx y hy e => hQ (by rw [← List.mem_singleton.1 hy,← e]; exact hx)⟩
 ·intro z hz
  rcases List.mem_append.1 hz with a | a
  ·exact b.lt z a
  ·rw [List.mem_singleton.1 a]; exact lt _ _ cS
 ·intro z hz
  rcases List.mem_append.1 hz with a | a
  ·show Rw S (if z = c then d u + 1 else d z) f z
   rw [old z a]; exact b.wk z a
  ·rw [List.mem_singleton.1 a]
   show Rw S (if c = c then d u + 1 else d c) f c
   rw [if_pos rfl]
   exact (b.wk u uQ).snoc cS
 ·intro i j x w hij hx hw
  show (if x = c then d u + 1 else d x) ≤ (if w = c then d u + 1 else d w)
  rcases app hx with a | ⟨a,rfl⟩
  ·rw [old x (mem a)]
   rcases app hw with a' | ⟨a',rfl⟩
   ·rw [old w (mem a')]; exact b.so i j x w hij a a'
   ·rw [if_pos rfl]; exact b.la i u x hu a
  ·rcases app hw with a' | ⟨a',rfl⟩
   ·have:=(List.getElem?_eq_some_iff.1 a').1
    omega
   ·rw [if_pos rfl]; exact Nat.le_refl _
 ·intro j x w hx hw
  rw [hu'] at hx; cases hx
  show (if w = c then d u + 1 else d w) ≤ (if u = c then d u + 1 else d u) + 1
  rw [old u uQ]
  rcases app hw with a' | ⟨a',rfl⟩
  ·rw [old w (mem a')]; exact b.la j u w hu a'
  ·rw [if_pos rfl]; exact Nat.le_refl _
 ·intro j w hw
  show (if w = c then d u + 1 else d w) ≤ j
  rcases app hw with a' | ⟨a',rfl⟩
  ·rw [old w (mem a')]; exact b.dl j w a'
  ·rw [if_pos rfl]
   have:=b.dl k u hu
   omega
 ·intro i x hi hx y hy
  rcases app hx with a | ⟨a,rfl⟩
  ·obtain ⟨h1,h2⟩:=b.ch i x hi a y hy
   refine ⟨List.mem_append_left _ h1,?_⟩
   show (if y = c then d u + 1 else d y) ≤ (if x = c then d u + 1 else d x) + 1
   rw [old y h1,old x (mem a)]; exact h2
  ·omega
 ·intro x hx y hy
  rw [hu'] at hx; cases hx
  rw [take_s hc] at hy
  show y ∈ Q ++ [c] ∧ (if y = c then d u + 1 else d y) ≤ (if u = c then d u + 1 else d u) + 1
  rw [old u uQ]
  rcases List.mem_append.1 hy with a | a
  ·obtain ⟨h1,h2⟩:=b.ct u hu y a
   rw [old y h1]
   exact ⟨List.mem_append_left _ h1,h2⟩
  ·rw [List.mem_singleton.1 a,if_pos rfl]
   exact ⟨by simp,Nat.le_refl _⟩
theorem BQ.next (b : BQ S f d Q k t) (hu : Q[k]? = some u) (ht : t = (S.getD u []).length) : BQ S f d Q (k + 1) 0 where
 q0:=b.q0
 f0:=b.f0
 nd:=b.nd
 lt:=b.lt
 wk:=b.wk
 so:=b.so
 la:=fun j x w hx hw => by
  have h1:=b.la j u w hu hw
  have h2:=b.so k (k + 1) u x (by omega) hu hx
  omega
 dl:=b.dl
 ch:=fun i x hi hx c hc => by
  by_cases e : i = k
  ·subst e
   rw [hu] at hx; cases hx
   exact b.ct u hu c (by rw [ht,List.take_length]; exact hc)
  ·exact b.ch i x (by omega) hx c hc
 ct:=fun u hu c hc => by simp at hc
def NF (S : List (List Nat)) (f : Nat) (Q : List Nat) (k t : Nat) : Prop:=(∀ (i u : Nat),i < k → Q[i]? = some u → f ∉ S.getD u []) ∧ ∀ u,Q[k]? = some u → f ∉ (S.getD u []).take t
theorem BQ.reach (b : BQ S f d Q k t) {s D : Nat} (hD : ∀ u,Q[k]? = some u → D ≤ d u) (hk : k ≤ Q.length) (hs : s < D ∨ Q.length = k) (nf : ∀ (i u : Nat),i < k → Q[i]? = some u → f ∉ S.getD u []) (w : Rw S (s + 1) f f) : False:=by
 have key : ∀ r z,Rw S r f z → r ≤ s → z ∈ Q ∧ d z ≤ r:=fun r => by
  induction r with
  | zero =>
   intro z hz _
   have e : f = z:=hz
   rw [← e]; exact ⟨b.fQ,by rw [b.f0]; exact Nat.le_refl _⟩
  | succ r ih =>
   intro z hz hr
   obtain ⟨y,h1,h2⟩:=hz.last
   obtain ⟨h3,h4⟩:=ih y h1 (by omega)
   obtain ⟨j,hj⟩:=List.mem_iff_getElem?.1 h3
   have hjl:=(List.getElem?_eq_some_iff.1 hj).1
   have : j < k:=by
    apply Decidable.byContradiction
    intro c
    have hkl : k < Q.length:=by omega
    have hkk:=List.getElem?_eq_getElem hkl
    have h5:=b.so k j _ y (by omega) hkk hj
    have h6:=hD _ hkk
    omega
   obtain ⟨h5,h6⟩:=b.ch j y this hj z h2
   exact ⟨h5,by omega⟩
 obtain ⟨y,h1,h2⟩:=w.last
 obtain ⟨h3,h4⟩:=key s y h1 (Nat.le_refl _)
 obtain ⟨j,hj⟩:=List.mem_iff_getElem?.1 h3
 have hjl:=(List.getElem?_eq_some_iff.1 hj).1
 have : j < k:=by
  apply Decidable.byContradiction
  intro c
  have hkl : k < Q.length:=by omega
  have hkk:=List.getElem?_eq_getElem hkl
  have h5:=b.so k j _ y (by omega) hkk hj
  have h6:=hD _ hkk
  omega
 exact nf j y this hj h2
def CY (S : List (List Nat)) (f m : Nat) : Prop:=Rw S (m + 1) f f ∧ ∀ s,Rw S (s + 1) f f → m ≤ s
theorem BQ.none (b : BQ S f d Q Q.length 0) (nf : NF S f Q Q.length 0) : ∀ s,¬ Rw S (s + 1) f f:=fun s w =>
 b.reach (D:=0) (fun u hu => Nat.zero_le _) (Nat.le_refl _) (.inr rfl) nf.1 w
theorem NF.skip (n : NF S f Q k t) (hu : Q[k]? = some u) {c : Nat} (hc : (S.getD u [])[t]? = some c) (hn : c ≠ f) : NF S f Q k (t + 1) :=
 ⟨n.1,fun u' hu' => by
  rw [hu] at hu'; cases hu'
  rw [take_s hc]
  intro hx
  rcases List.mem_append.1 hx with a | a
  ·exact n.2 u hu a
  ·exact hn (List.mem_singleton.1 a).symm⟩
theorem NF.push (n : NF S f Q k t) (hk : k < Q.length) (c : Nat) : NF S f (Q ++ [c]) k t :=
 ⟨fun i u hi hu => n.1 i u hi (by rwa [List.getElem?_append_left (by omega)] at hu),fun u hu => n.2 u (by rwa [List.getElem?_append_left hk] at hu)⟩
theorem NF.next (n : NF S f Q k t) (hu : Q[k]? = some u) (ht : t = (S.getD u []).length) : NF S f Q (k + 1) 0 :=
 ⟨fun i x hi hx => by
  by_cases e : i = k
  ·subst e
   rw [hu] at hx; cases hx
   have:=n.2 u hu
   rwa [ht,List.take_length] at this
  ·exact n.1 i x (by omega) hx,fun x hx => by simp⟩
def PRT (S : List (List Nat)) (f : Nat) (d : Nat → Nat) (Q : List Nat) (E : List (Nat × Int)) : Prop :=
 fm f E = none ∧ ∀ z,z ≠ f → (z ∉ Q → fm z E = none) ∧ (z ∈ Q → ∃ p : Nat,fm z E = some (p : Int) ∧ p ∈ Q ∧ z ∈ S.getD p [] ∧ d z = d p + 1)
theorem PRT.new {E : List (Nat × Int)} (p : PRT S f d Q E) (uQ : u ∈ Q) (fQ : f ∈ Q) {c : Nat} (hc : c ∈ S.getD u []) (hQ : c ∉ Q) : PRT S f (fun z => if z = c then d u + 1 else d z) (Q ++ [c]) (pm c (u : Int) E):=by
 have cf : ¬ f = c:=fun e => hQ (by rw [← e]; exact fQ)
 have old : ∀ z,z ∈ Q → (if z = c then d u + 1 else d z) = d z:=fun z hz => if_neg fun e => hQ (by rw [← e]; exact hz)
 refine ⟨by rw [fm_pm,if_neg cf]; exact p.1,fun z hz => ⟨fun h => ?_,fun h => ?_⟩⟩
 ·rw [fm_pm,if_neg (fun e => h (by rw [e]; simp))]
  exact (p.2 z hz).1 fun e => h (List.mem_append_left _ e)
 ·by_cases e : z = c
  ·subst e
   refine ⟨u,by rw [fm_pm,if_pos rfl],List.mem_append_left _ uQ,hc,?_⟩
   show (if z = z then d u + 1 else d z) = (if u = z then d u + 1 else d u) + 1
   rw [if_pos rfl,old u uQ]
  ·have hzQ : z ∈ Q:=by
    rcases List.mem_append.1 h with a | a
    ·exact a
    ·exact absurd (List.mem_singleton.1 a) e
   obtain ⟨q,h1,h2,h3,h4⟩:=(p.2 z hz).2 hzQ
   refine ⟨q,by rw [fm_pm,if_neg e]; exact h1,List.mem_append_left _ h2,h3,?_⟩
   show (if z = c then d u + 1 else d z) = (if q = c then d u + 1 else d q) + 1
   rw [old z hzQ,old q h2]; exact h4
def par (E : List (Nat × Int)) (i : Nat) : Nat:=match fm i E with | some z => z.toNat | none => 0
def itp (E : List (Nat × Int)) : Nat → Nat → Nat
 | 0,i => i
 | s + 1,i => itp E s (par E i)
theorem itp_succ (E : List (Nat × Int)) : ∀ s i,itp E (s + 1) i = par E (itp E s i)
 | 0,i => rfl
 | s + 1,i => itp_succ E s (par E i)
theorem PRT.step {E : List (Nat × Int)} (p : PRT S f d Q E) {z : Nat} (hz : z ∈ Q) (hn : z ≠ f) : fm z E = some (par E z : Int) ∧ par E z ∈ Q ∧ z ∈ S.getD (par E z) [] ∧ d z = d (par E z) + 1:=by
 obtain ⟨q,h1,h2,h3,h4⟩:=(p.2 z hn).2 hz
 have e : par E z = q:=by unfold par; rw [h1]; simp
 rw [e]
 exact ⟨h1,h2,h3,h4⟩
theorem PRT.back {E : List (Nat × Int)} (b : BQ S f d Q k t) (p : PRT S f d Q E) (hu : u ∈ Q) : ∀ {s},s ≤ d u → itp E s u ∈ Q ∧ d (itp E s u) + s = d u
 | 0,_ => ⟨hu,rfl⟩
 | s + 1,h => by
  obtain ⟨h1,h2⟩:=PRT.back b p hu (s:=s) (by omega)
  have hn : itp E s u ≠ f:=fun e => by rw [e,b.f0] at h2; omega
  obtain ⟨_,h3,_,h4⟩:=p.step h1 hn
  rw [itp_succ]
  exact ⟨h3,by omega⟩
def RG (S : List (List Nat)) (L : List Nat) : Prop:=(∀ c ∈ L,c < S.length) ∧ (∀ (t a b : Nat),L[t]? = some a → L[t + 1]? = some b → b ∈ S.getD a []) ∧ ∀ a b : Nat,L[0]? = some a → L[L.length - 1]? = some b → a ∈ S.getD b []
def MC (S : List (List Nat)) (n : Nat) (m : Nat) : Prop:=(m = 0 ∧ ∀ f s,f < n → ¬ Rw S (s + 1) f f) ∨ ∃ r,m = r + 1 ∧ (∃ f,f < n ∧ Rw S (r + 1) f f) ∧ ∀ f s,f < n → Rw S (s + 1) f f → r ≤ s
theorem MC.nil : MC S 0 0:=.inl ⟨rfl,fun f s h => absurd h (by omega)⟩
theorem MC.skip {n m : Nat} (h : MC S n m) (g : ∀ s,¬ Rw S (s + 1) n n) : MC S (n + 1) m:=by
 have sp : ∀ {P : Nat → Prop},(∀ f,f < n → P f) → P n → ∀ f,f < n + 1 → P f:=fun h1 h2 f hf => by
  by_cases e : f = n
  ·rw [e]; exact h2
  ·exact h1 f (by omega)
 rcases h with ⟨rfl,h⟩ | ⟨r,rfl,⟨f,h1,h2⟩,h3⟩
 ·exact .inl ⟨rfl,fun f s hf => sp (P:=fun f => ¬ Rw S (s + 1) f f) (fun f hf => h f s hf) (g s) f hf⟩
 ·exact .inr ⟨r,rfl,⟨f,by omega,h2⟩,fun f s hf => sp (P:=fun f => Rw S (s + 1) f f → r ≤ s) (fun f hf => h3 f s hf) (fun w => absurd w (g s)) f hf⟩
theorem MC.put {n m r : Nat} (h : MC S n m) (g : CY S n r) : MC S (n + 1) (if m = 0 ∨ r + 1 < m then r + 1 else m):=by
 have sp : ∀ {P : Nat → Prop},(∀ f,f < n → P f) → P n → ∀ f,f < n + 1 → P f:=fun h1 h2 f hf => by
  by_cases e : f = n
  ·rw [e]; exact h2
  ·exact h1 f (by omega)
 rcases h with ⟨rfl,h⟩ | ⟨q,rfl,⟨f,h1,h2⟩,h3⟩
 ·rw [if_pos (.inl rfl)]
  exact .inr ⟨r,rfl,⟨n,by omega,g.1⟩,fun f s hf => sp (P:=fun f => Rw S (s + 1) f f → r ≤ s) (fun f hf w => absurd w (h f s hf)) (g.2 s) f hf⟩
 ·by_cases c : r + 1 < q + 1
  ·rw [if_pos (.inr c)]
   exact .inr ⟨r,rfl,⟨n,by omega,g.1⟩,fun f s hf => sp (P:=fun f => Rw S (s + 1) f f → r ≤ s) (fun f hf w => Nat.le_trans (by omega) (h3 f s hf w)) (g.2 s) f hf⟩
  ·rw [if_neg (by omega)]
   exact .inr ⟨q,rfl,⟨f,by omega,h2⟩,fun f s hf => sp (P:=fun f => Rw S (s + 1) f f → q ≤ s) (fun f hf => h3 f s hf) (fun w => Nat.le_trans (by omega) (g.2 s w)) f hf⟩
end
end Go.Proofs.Ytljgfdamdcikgaa.Ev
set_option linter.unusedVariables false
set_option linter.unusedSimpArgs false
namespace Go.Proofs.Ytljgfdamdcikgaa.Ev
open Go Go.AEv
attribute [local simp] evFunc initS evOps_c evTrim_c evSkip_c evExit_c evRet_c evSeq_c evCond_c evBlock_c evDraw_c runOps_n runOps_c exec_n exec_g pure1_c act AOpd.ev T.get T.set T.put evBin evUn forceT_eq forceV_eq forceL_eq evRess evRes one keep runFP_n runFP_c app_none AV.flats AV.flat came_some List.getElem?_cons_zero List.getElem?_cons_succ beqT wrapI idxI tdivI tmodI decT decF ibT ibF inT inF evScope_c if_pos if_neg Cm_some thenW_n thenW_e thenW_r blkW_n blkW_e blkW_r goI kn putAt AV.cells fillA loadA takeA mk Eff.isAll Eff.isNone Eff.commutes Eff.spares okPair apart eqAgg fits LK.fits allEq aveq eqk mmA
def lN (f : Nat → Nat) (n : Nat) : List Nat:=(List.range n).map f
theorem lN_len (f : Nat → Nat) (n : Nat) : (gn (lN f n)).length = n:=by simp [gn,lN]
theorem lN_at (f : Nat → Nat) {n i : Nat} (h : i < n) : (gn (lN f n))[i]? = some (G (f i)):=by
 unfold gn lN
 rw [List.map_map,List.getElem?_map,List.getElem?_range h]; rfl
theorem lN_set (f : Nat → Nat) {n i : Nat} (h : i < n) (v : Nat) : (gn (lN f n)).set i (G v) = gn (lN (fun t => if t = i then v else f t) n):=by
 apply List.ext_getElem?
 intro j
 by_cases hj : j < n
 ·rw [lN_at _ hj]
  by_cases e : i = j
  ·subst e
   rw [List.getElem?_set_self (by rw [lN_len]; exact h),if_pos rfl]
  ·rw [List.getElem?_set_ne e,lN_at _ hj,if_neg (fun h => e h.symm)]
 ·rw [List.getElem?_eq_none (by rw [List.length_set,lN_len]; omega),List.getElem?_eq_none (by rw [lN_len]; omega)]
def rowS (S : List (List Nat)) (k : Nat) : List Nat:=lN (fun i => sat (cnt S k i)) S.length
def rowsS (S : List (List Nat)) (k : Nat) : List (List AV):=(List.range k).map fun k => gn (rowS S k)
def LN (h : Heap) (x : AV) (S : List (List Nat)) : Prop:=∃ rs,((x = .nils ∧ S.length = 0) ∨ ∃ b,x = .slice b 0 S.length S.length ∧ h.get b = .cells 1 S.length rs) ∧ rs.length = S.length ∧ ∀ k,k < S.length → ∃ y,rs[k]? = some y ∧ RV h y (gn (S.getD k []))
theorem LN.kp {h h' : Heap} {x : AV} {S : List (List Nat)} (l : LN h x S) (k : Kp (fun _ => False) h h') : LN h' x S:=by
 obtain ⟨rs,h1,h2,h3⟩:=l
 refine ⟨rs,?_,h2,fun i hi => ?_⟩
 ·rcases h1 with h | ⟨b,e,g⟩
  ·exact .inl h
  ·exact .inr ⟨b,e,k.at g (by simp) id⟩
 ·obtain ⟨y,e1,e2⟩:=h3 i hi
  exact ⟨y,e1,e2.kp k (fun _ _ => id)⟩
theorem LN.fr {h : Heap} {x : AV} {S : List (List Nat)} (l : LN h x S) : LN (frameOf h) x S:=by
 obtain ⟨rs,h1,h2,h3⟩:=l
 refine ⟨rs,?_,h2,fun i hi => ?_⟩
 ·rcases h1 with h | ⟨b,e,g⟩
  ·exact .inl h
  ·refine .inr ⟨b,e,?_⟩
   unfold frameOf
   rw [get_mk_lt _ _ _ _ (get_lt g (by simp))]; exact g
 ·obtain ⟨y,e1,e2⟩:=h3 i hi
  exact ⟨y,e1,e2.frame⟩
theorem listOf_rv {h : Heap} {y : AV} {L : List Nat} (e : listOf h y = some (L.map fun (k : Nat) => (k : Int))) : RV h y (gn L):=by
 rcases listOf_some e with ⟨rfl,e2⟩ | ⟨b,v,rfl,g⟩
 ·have : L = []:=by simpa using e2
  subst this; exact .inl ⟨rfl,rfl⟩
 ·refine .inr ⟨b,v,by simp [gn],?_⟩
  rw [g,gn_gs]
theorem LT.ln {h : Heap} {x : AV} {S : List (List Nat)} (l : LT h x (ntI S)) : LN h x S:=by
 obtain ⟨rs,lv,hl,hr⟩:=l
 have hl : rs.length = S.length:=by simpa [ntI] using hl
 refine ⟨rs,?_,hl,fun k hk => ?_⟩
 ·rcases lv with ⟨e,e2⟩ | ⟨b,e,g⟩
  ·exact .inl ⟨e,by rw [← hl,e2]; rfl⟩
  ·rw [hl] at e g; exact .inr ⟨b,e,g⟩
 ·obtain ⟨l,e1,e2⟩:=hr k rs[k] (List.getElem?_eq_getElem (by omega))
  refine ⟨rs[k],List.getElem?_eq_getElem (by omega),?_⟩
  unfold ntI at e1
  rw [List.getElem?_map,List.getElem?_eq_getElem hk] at e1
  simp only [Option.map_some,Option.some.injEq] at e1
  subst e1
  rw [List.getD_eq_getElem?_getD,List.getElem?_eq_getElem hk]
  exact listOf_rv e2
section
variable {S : List (List Nat)} {kk nn : Nat}
def mz (S : List (List Nat)) (k i t : Nat) : Nat:=if t < i then sat (cnt S k t) else 0
structure PS (S : List (List Nat)) (xo : AV) (kk : Nat) (h : Heap) (bo br : Nat) (ros : List AV) : Prop where
 e : xo = .slice bo 0 (kk + 1) (kk + 1)
 g : h.get bo = .cells 1 (kk + 1) ros
 r : ros[kk]? = some (.slice br 0 S.length S.length)
 l : ros.length = kk + 1
 gr : h.get br = .cells 1 S.length (gn (rowS S kk))
theorem PS.kp {xo : AV} {h h' : Heap} {bo br : Nat} {ros : List AV} (t : PS S xo kk h bo br ros) (k : Kp (fun _ => False) h h') : PS S xo kk h' bo br ros:=⟨t.e,k.at t.g (by simp) id,t.r,t.l,k.at t.gr (by simp) id⟩
theorem LN.sx {h : Heap} {x : AV} (l : LN h x S) : (x = .nils ∧ S.length = 0) ∨ ∃ b,x = .slice b 0 S.length S.length:=by
 obtain ⟨rs,h1,_⟩:=l
 rcases h1 with h | ⟨b,e,_⟩
 ·exact .inl h
 ·exact .inr ⟨b,e⟩
end
structure A71 where
 x : AV
 nn : Nat
 S : List (List Nat)
def Pre71 (b : A71) (args : List AV) (h : Heap) : Prop:=(OkS b.S ∧ LN h b.x b.S ∧ b.nn ≤ 40) ∧ args = [b.x,G b.nn]
def Post71 (b : A71) (h : Heap) (v : AV) (own : List AObj) : Prop:=TB h (h.plus own) v (rowsS b.S b.nn)
noncomputable def T40 : CallF:=addK tbl T39 71 Pre71 Post71
theorem t40 : Sound Go.Proofs.Try.prog T40:=Sound.addK follows ok t39 (by decide) _ _
section
variable {S : List (List Nat)} {nn : Nat}
end
section
variable {a : AR} {m n : Int}
def AR.rcV (a : AR) (m n : Int) : AV:=if okC (a.steps m) n.toNat then .tup [G (a.cn m n.toNat),.bool true] else .tup [G 0,.bool false]
end
def Pre33 (b : ARmn) (args : List AV) (h : Heap) : Prop:=(OkR b.a h ∧ b.a.gd b.m b.n 0 = true) ∧ args = [b.a.v,G b.m,G b.n]
def Post33 (b : ARmn) (h : Heap) (v : AV) (own : List AObj) : Prop:=v = b.a.rcV b.m b.n ∧ own = []
noncomputable def T41 : CallF:=addK tbl T40 33 Pre33 Post33
theorem t41 : Sound Go.Proofs.Try.prog T41:=Sound.addK follows ok t40 (by decide) _ _
section
variable {L : List Nat} {v : Nat}
end
def Pre93 (b : AV × Nat × List Nat) (args : List AV) (h : Heap) : Prop:=(RV h b.1 (gn b.2.2) ∧ b.2.2.length ≤ 1000000) ∧ args = [b.1,G b.2.1]
def Post93 (b : AV × Nat × List Nat) (h : Heap) (v : AV) (own : List AObj) : Prop:=(∃ k : Int,v = G k ∧ (decide (0 ≤ k) = decide (b.2.1 ∈ b.2.2))) ∧ own = []
noncomputable def T42 : CallF:=addK tbl T41 93 Pre93 Post93
theorem t42 : Sound Go.Proofs.Try.prog T42:=Sound.addK follows ok t41 (by decide) _ _
def Post70 (b : AV × Nat × List Nat) (h : Heap) (v : AV) (own : List AObj) : Prop:=v = .bool (decide (b.2.1 ∈ b.2.2)) ∧ own = []
noncomputable def T43 : CallF:=addK tbl T42 70 Pre93 Post70
theorem t43 : Sound Go.Proofs.Try.prog T43:=Sound.addK follows ok t42 (by decide) _ _
def pE (S : List (List Nat)) (g : Nat → Nat) (i j : Nat) : Nat:=((List.range i).map fun i' => ((S.getD i' []).count j) * g i').sum
def ev (S : List (List Nat)) (f : Nat) : Nat → Nat → Nat
 | 0,j => if j = f then 1 else 0
 | k + 1,j => pE S (ev S f k) S.length j
def vE (S : List (List Nat)) (f k : Nat) : List Nat:=lN (ev S f k) S.length
section
variable {S : List (List Nat)} {p w26 w27 : Nat}
end
section
variable {S : List (List Nat)} {p w26 w27 : Nat}
def okE (S : List (List Nat)) (f nn : Nat) : Bool:=af (fun k => decide ((vE S f (k + 1)).sum ≤ 1152921504606846976)) 0 (nn - 1)
end
structure A75 where
 p : Nat
 f : Nat
 N : Nat
 S : List (List Nat)
def Ok75 (b : A75) (h : Heap) : Prop:=OkS b.S ∧ LF h b.p b.S ∧ b.f < b.S.length ∧ b.N + 1 ≤ 40
def Pre75 (b : A75) (args : List AV) (h : Heap) : Prop:=Ok75 b h ∧ args = [.ptr b.p 0 3,G b.f,G (b.N + 1 : Nat)]
def Post75 (b : A75) (h : Heap) (v : AV) (own : List AObj) : Prop:=(okE b.S b.f (b.N + 1) = true → ∃ x,v = .tup [x,.bool true] ∧ RV (h.plus own) x (gn (vE b.S b.f b.N))) ∧ (okE b.S b.f (b.N + 1) = false → v = .tup [.nils,.bool false] ∧ own = [])
noncomputable def T44 : CallF:=addK tbl T43 75 Pre75 Post75
theorem t44 : Sound Go.Proofs.Try.prog T44:=Sound.addK follows ok t43 (by decide) _ _
def rT (S : List (List Nat)) (N f i : Nat) : Nat:=if f ∈ S.getD i [] then ev S f N i else 0
def rP (S : List (List Nat)) (N f i : Nat) : Nat:=((List.range i).map (rT S N f)).sum
def rA (S : List (List Nat)) (N f : Nat) : Nat:=((List.range f).map fun f' => rP S N f' S.length).sum
def gE (S : List (List Nat)) (N f : Nat) : Bool:=okE S f (N + 1) && decide (rA S N (f + 1) ≤ 1152921504606846976)
def okR (S : List (List Nat)) (N : Nat) : Bool:=af (gE S N) 0 S.length
section
variable {S : List (List Nat)} {p N : Nat}
end
def AR.rn (a : AR) (m : Int) (n : Nat) : Nat:=rA (a.steps m) (n - 1) (a.steps m).length
def AR.okr (a : AR) (m : Int) (n : Nat) : Bool:=okR (a.steps m) (n - 1)
def AR.rngV (a : AR) (m n : Int) : AV:=if a.gd m n 1 then (if a.okr m n.toNat then .tup [G (a.rn m n.toNat),G 0] else .tup [G 0,G 5]) else .tup [G 0,G 2]
section
variable {a : AR} {m n : Int}
end
def Post41 (b : ARmn) (h : Heap) (v : AV) (own : List AObj) : Prop:=v = b.a.rngV b.m b.n ∧ own = []
noncomputable def T45 : CallF:=addK tbl T44 41 PreMn Post41
theorem t45 : Sound Go.Proofs.Try.prog T45:=Sound.addK follows ok t44 (by decide) _ _
def okA (S : List (List Nat)) (N : Nat) : Bool:=af (fun f => okE S f (N + 1)) 0 S.length
section
variable {a : AG} {m N p : Nat} {R : List (List Nat)}
end
def AR.oka (a : AR) (m : Int) (n : Nat) : Bool:=okA (a.steps m) (n - 1)
def AR.rrV (a : AR) (m n : Int) : AV:=if a.oka m n.toNat then .tup [G (sat (a.rn m n.toNat)),.bool (decide (sat (a.rn m n.toNat) ≤ 1152921504606846976))] else .tup [G 0,.bool false]
section
variable {a : AR} {m n : Int}
end
def Pre42 (b : ARmn) (args : List AV) (h : Heap) : Prop:=(OkR b.a h ∧ b.a.gd b.m b.n 1 = true) ∧ args = [b.a.v,G b.m,G b.n]
def Post42 (b : ARmn) (h : Heap) (v : AV) (own : List AObj) : Prop:=v = b.a.rrV b.m b.n ∧ own = []
noncomputable def T46 : CallF:=addK tbl T45 42 Pre42 Post42
theorem t46 : Sound Go.Proofs.Try.prog T46:=Sound.addK follows ok t45 (by decide) _ _
theorem ws_ss (R : List (List Nat)) : wsL R = ss (R.map stW):=by simp [wsL]
theorem TB.lt' {H0 h h' : Heap} {x : AV} {N : List (List Int)} (t : TB H0 h x (N.map gs)) (k : Kp (fun _ => False) h h') : LT h' x N:=t.lt.kp k
section
variable {nq m : Int} {X Y : List (List Int)}
end
def mdZ (x n : Int) : Int:=(x % 18446744073709551616) % n
def spec19 : SpecV
 | [.int .i64 x,.int .i64 n] => if 0 < n ∧ n < 9223372036854775808 then some (G (mdZ x n)) else none
 | _ => none
theorem wrap_u64 (n : Int) : IntKind.u64.wrap n = n % 18446744073709551616:=by
 unfold IntKind.wrap IntKind.bits IntKind.signed
 simp
theorem c19_ok (J : CallF) (hJ : ∀ a h,J 19 a h = none) (x n : Int) (h1 : 0 < n) (h2 : n < 9223372036854775808) : CallsTo tbl J 19 [G x,G n] e0 (G (mdZ x n),[],false):=by
 unfold mdZ
 refine CallsTo.plain (cf:=c19) (h':=frameOf e0) (by decide) rfl (hJ _ _) rfl rfl ?_
 have w : n % 18446744073709551616 = n:=Int.emod_eq_of_lt (by omega) (by omega)
 have hz : ¬ n = 0:=by omega
 have hm : (x % 18446744073709551616).tmod n = (x % 18446744073709551616) % n:=Int.tmod_eq_emod_of_nonneg (Int.emod_nonneg _ (by decide))
 have a1:=Int.emod_nonneg (x % 18446744073709551616) hz
 have a2:=Int.emod_lt_of_pos (x % 18446744073709551616) h1
 simp [c19,c19_o0,c19_o1,wrap_u64,w,hz,hm,wrapI ((x % 18446744073709551616) % n) (by omega) (by omega)]
noncomputable def T47 : CallF:=addV T46 19 spec19
theorem t47 : Sound Go.Proofs.Try.prog T47:=Sound.addV follows ok t46 (by decide) (fun args v h => by
 unfold spec19 at h
 split at h
 ·split at h
  ·rename_i hn
   simp only [Option.some.injEq] at h; subst h
   exact c19_ok T46 (fun _ _ => by simp (disch:=decide) only [T1,T2,T3,T4,T5,T6,T7,T8,T9,T10,T11,T12,T13,T14,T15,T16,T17,T18,T19,T20,T21,T22,T23,T24,T25,T26,T27,T28,T29,T30,T31,T32,T33,T34,T35,T36,T37,T38,T39,T40,T41,T42,T43,T44,T45,T46,addI_ne,addX_ne,addV_ne,addK_ne]; rfl) _ _ hn.1 hn.2
  ·cases h
 ·cases h)
structure A56 where
 x : AV
 M : List (List Int)
 i : Nat
 k : Nat
def Pre56 (b : A56) (args : List AV) (h : Heap) : Prop:=(MR h b.x b.M ∧ b.i ≤ 1000 ∧ b.k ≤ 1000) ∧ args = [b.x,G b.i,G b.k]
def Post56 (b : A56) (h : Heap) (v : AV) (own : List AObj) : Prop:=(∃ b : Int,v = G b ∧ 0 ≤ b ∧ b ≤ 1) ∧ own = []
noncomputable def T48 : CallF:=addK tbl T47 56 Pre56 Post56
theorem t48 : Sound Go.Proofs.Try.prog T48:=Sound.addK follows ok t47 (by decide) _ _
end Go.Proofs.Ytljgfdamdcikgaa.Ev
set_option linter.unusedVariables false
set_option linter.unusedSimpArgs false
namespace Go.Proofs.Ytljgfdamdcikgaa.Ev
open Go Go.AEv
structure N2 (H0 h : Heap) (xa xb : AV) (La Lb : List Int) : Prop where
 k : Kp (fun _ => False) H0 h
 a0 : ∀ q,blk xa = some q → H0.size ≤ q
 b0 : ∀ q,blk xb = some q → H0.size ≤ q
 la : LV h xa (gs La)
 lb : LV h xb (gs Lb)
 d : ∀ q,blk xa = some q → blk xb ≠ some q
theorem N2.nil (H0 : Heap) : N2 H0 H0 .nils .nils [] []:=⟨Kp.refl _,fun _ e => (by cases e),fun _ e => (by cases e),LV.nil _,LV.nil _,fun _ e => (by cases e)⟩
theorem N2.swap {H0 h : Heap} {xa xb : AV} {La Lb : List Int} (t : N2 H0 h xa xb La Lb) : N2 H0 h xb xa Lb La:=⟨t.k,t.b0,t.a0,t.lb,t.la,fun q e1 e2 => t.d q e2 e1⟩
theorem N2.app {H0 h : Heap} (h0 : Nat) {xa xb : AV} {La Lb : List Int} (t : N2 H0 h xa xb La Lb) (z : Int) (hn : La.length ≤ 1000000) :
  ∃ x1 e h2,appA (h.plus [.cells 1 1 [G z]]) h0 none 1 8 1 [G z] xa = some (x1,e) ∧ Eff.app e (h.plus [.cells 1 1 [G z]]) = some h2 ∧ N2 H0 h2 x1 xb (La ++ [z]) Lb:=by
 have k1 : Kp (fun _ => False) h (h.plus [.cells 1 1 [G z]]):=Kp.plus _ _
 obtain ⟨x1,e,h2,q1,q2,q3,q4,q5,q6⟩:=app_v (h.plus [.cells 1 1 [G z]]) h0 8 (G z) (t.la.kp k1 (fun _ _ => id)) (by simp; omega)
 have hsz : (h.plus [.cells 1 1 [G z]]).size = h.size + 1:=by rw [plus_size]; rfl
 refine ⟨x1,e,h2,q1,q2,⟨(t.k.trans k1).late q4 t.a0,fun q hq => ?_,t.b0,by simpa using q3,(t.lb.kp k1 (fun _ _ => id)).kp q4 (fun q e1 e2 => t.d q e2 e1),fun q hq e => ?_⟩⟩
 ·rcases q5 with h' | ⟨_,h'⟩
  ·rw [h'] at hq; exact t.a0 q hq
  ·rw [h'] at hq; cases hq; have:=t.k.size; omega
 ·rcases q5 with h' | ⟨_,h'⟩
  ·rw [h'] at hq; exact t.d q hq e
  ·rw [h'] at hq; cases hq; have:=t.lb.lt e; omega
def TR (H0 h : Heap) (xb xw : AV) (M : List (List AV)) : Prop:=∃ rs,LV h xb rs ∧ rs.length = M.length ∧ ∀ (i : Nat) r,rs[i]? = some r → ∃ cs b,M[i]? = some cs ∧ r = .slice b 0 cs.length cs.length ∧ h.get b = .cells 1 cs.length cs ∧ blk xb ≠ some b ∧ blk xw ≠ some b ∧ H0.size ≤ b
structure T2t (H0 h : Heap) (s3 : Nat) (xb xw : AV) (M N : List (List AV)) : Prop where
 k : Kp (· = s3) H0 h
 b0 : ∀ c,blk xb = some c → H0.size ≤ c
 w0 : ∀ c,blk xw = some c → H0.size ≤ c
 rb : TR H0 h xb xw M
 rw' : TR H0 h xw xb N
 d : ∀ c,blk xb = some c → blk xw ≠ some c
theorem T2t.nil (H0 : Heap) (s3 : Nat) : T2t H0 H0 s3 .nils .nils [] []:=⟨Kp.refl _,fun _ e => (by cases e),fun _ e => (by cases e),⟨[],LV.nil _,rfl,fun i r e => by simp at e⟩,⟨[],LV.nil _,rfl,fun i r e => by simp at e⟩,fun _ e => (by cases e)⟩
theorem T2t.swap {H0 h : Heap} {s3 : Nat} {xb xw : AV} {M N : List (List AV)} (t : T2t H0 h s3 xb xw M N) : T2t H0 h s3 xw xb N M:=⟨t.k,t.w0,t.b0,t.rw',t.rb,fun c e1 e2 => t.d c e2 e1⟩
theorem TR.kp {X : Nat → Prop} {H0 h h' : Heap} {xb xw : AV} {M : List (List AV)} (t : TR H0 h xb xw M) (k : Kp X h h') (h1 : ∀ b,blk xb = some b → ¬ X b) (h2 : ∀ b,H0.size ≤ b → blk xw ≠ some b → ¬ X b) : TR H0 h' xb xw M:=by
 obtain ⟨rs,lv,hl,hr⟩:=t
 refine ⟨rs,lv.kp k h1,hl,fun i r e => ?_⟩
 obtain ⟨cs,b,e1,e2,e3,e4,e5,e6⟩:=hr i r e
 exact ⟨cs,b,e1,e2,k.at e3 (by simp) (h2 b e6 e5),e4,e5,e6⟩
theorem T2t.kp {H0 h h' : Heap} {s3 : Nat} {xb xw : AV} {M N : List (List AV)} (t : T2t H0 h s3 xb xw M N) (k : Kp (fun _ => False) h h') : T2t H0 h' s3 xb xw M N :=
 ⟨t.k.trans (k.mono fun _ _ e => e.elim),t.b0,t.w0,t.rb.kp k (fun _ _ => id) (fun _ _ _ => id),t.rw'.kp k (fun _ _ => id) (fun _ _ _ => id),t.d⟩
theorem T2t.upd {H0 h : Heap} {s3 : Nat} {xb xw : AV} {M N : List (List AV)} (t : T2t H0 h s3 xb xw M N) (X : AObj) (hN : h.N ≤ s3) (hs : s3 < H0.size) : T2t H0 (h.upd s3 X) s3 xb xw M N:=by
 have k : Kp (· = s3) h (h.upd s3 X):=Kp.upd _ _ _ hN rfl
 exact ⟨t.k.trans k,t.b0,t.w0,t.rb.kp k (fun b e q => by have:=t.b0 b e; omega) (fun b e _ q => by omega),t.rw'.kp k (fun b e q => by have:=t.w0 b e; omega) (fun b e _ q => by omega),t.d⟩
theorem T2t.app {H0 h : Heap} (h0 : Nat) {s3 : Nat} {xb xw : AV} {M N : List (List AV)} {b : Nat} {cs : List AV} (t : T2t H0 h s3 xb xw M N) (hs : s3 < H0.size) (hv : h.get b = .cells 1 cs.length cs) (hb : blk xb ≠ some b ∧ blk xw ≠ some b ∧ H0.size ≤ b) (hn : M.length ≤ 1000000) :
  ∃ x1 e h2,appA (h.plus [.cells 1 1 [.slice b 0 cs.length cs.length]]) h0 none 1 24 1 [.slice b 0 cs.length cs.length] xb = some (x1,e) ∧ Eff.app e (h.plus [.cells 1 1 [.slice b 0 cs.length cs.length]]) = some h2 ∧ T2t H0 h2 s3 x1 xw (M ++ [cs]) N ∧ Kp (fun c => blk xb = some c) h h2 ∧ (∀ c,c < h.size → blk xb ≠ some c → blk x1 ≠ some c):=by
 obtain ⟨rs,lv,hl,hr⟩:=t.rb
 generalize hvv : AV.slice b 0 cs.length cs.length = v
 have k1 : Kp (fun _ => False) h (h.plus [.cells 1 1 [v]]):=Kp.plus _ _
 obtain ⟨x1,e,h2,q1,q2,q3,q4,q5,q6⟩:=app_v (h.plus [.cells 1 1 [v]]) h0 24 v (lv.kp k1 (fun _ _ => id)) (by omega)
 have hsz : (h.plus [.cells 1 1 [v]]).size = h.size + 1:=by rw [plus_size]; rfl
 have hx1 : ∀ q,q < h.size → blk xb ≠ some q → blk x1 ≠ some q:=fun q hq hne hx1 => by
  rcases q5 with h' | ⟨_,h'⟩
  ·rw [h'] at hx1; exact hne hx1
  ·rw [h'] at hx1; cases hx1; omega
 have kk : Kp (fun c => blk xb = some c) h h2:=(k1.mono fun _ _ e => e.elim).trans q4
 have hxn : ∀ c,blk x1 = some c → blk xw ≠ some c ∧ H0.size ≤ c:=fun c hc => by
  rcases q5 with h' | ⟨_,h'⟩
  ·rw [h'] at hc; exact ⟨t.d c hc,t.b0 c hc⟩
  ·rw [h'] at hc; cases hc
   refine ⟨fun e => ?_,by have:=t.k.size; omega⟩
   obtain ⟨rs',lv',_⟩:=t.rw'
   have:=lv'.lt e; omega
 refine ⟨x1,e,h2,q1,q2,⟨?_,fun c hc => (hxn c hc).2,t.w0,⟨rs ++ [v],q3,by simp [hl],fun i r hi => ?_⟩,?_,fun c hc => (hxn c hc).1⟩,kk,hx1⟩
 ·refine ⟨by rw [kk.lo,t.k.lo],by rw [kk.N,t.k.N],Nat.le_trans t.k.size kk.size,fun c hc hm => ?_⟩
  rw [kk.get c (Nat.lt_of_lt_of_le hc t.k.size) (fun e => by have:=t.b0 c e; omega),t.k.get c hc hm]
 ·by_cases hi' : i < rs.length
  ·rw [List.getElem?_append_left hi'] at hi
   obtain ⟨l',b',h1,h2',h3,h4,h5,h6⟩:=hr i r hi
   have hlt:=get_lt h3 (by simp)
   exact ⟨l',b',by rw [List.getElem?_append_left (by omega)]; exact h1,h2',kk.at h3 (by simp) (fun q => h4 q),hx1 b' hlt h4,h5,h6⟩
  ·rw [List.getElem?_append_right (by omega)] at hi
   have hi0 : i - rs.length = 0:=by
    rcases Nat.eq_zero_or_pos (i - rs.length) with e | e
    ·exact e
    ·rw [List.getElem?_eq_none (by simp; omega)] at hi; cases hi
   rw [hi0] at hi
   simp only [List.getElem?_cons_zero,Option.some.injEq] at hi
   subst hi
   exact ⟨cs,b,by rw [List.getElem?_append_right (by omega),← hl,hi0]; rfl,hvv.symm,kk.at hv (by simp) (fun q => hb.1 q),hx1 b (get_lt hv (by simp)) hb.1,hb.2.1,hb.2.2⟩
 ·obtain ⟨rs',lv',hl',hr'⟩:=t.rw'
  refine ⟨rs',lv'.kp kk (fun c e1 e2 => t.d c e2 e1),hl',fun i r hi => ?_⟩
  obtain ⟨l',b',h1,h2',h3,h4,h5,h6⟩:=hr' i r hi
  exact ⟨l',b',h1,h2',kk.at h3 (by simp) (fun q => h5 q),h4,hx1 b' (get_lt h3 (by simp)) h5,h6⟩
theorem T2t.sh {H0 h : Heap} {s3 : Nat} {xb xw : AV} {M N : List (List AV)} {cs : List AV} (t : T2t H0 h s3 xb xw (M ++ [cs]) N) : ∃ c m,xb = .slice c 0 m m:=by
 obtain ⟨rs,lv,hl,_⟩:=t.rb
 obtain ⟨c,e,_⟩:=lv.sl (by intro e; rw [e] at hl; simp at hl)
 exact ⟨c,_,e⟩
theorem T2t.tb {H0 h : Heap} {s3 : Nat} {xb xw : AV} {M N : List (List AV)} (t : T2t H0 h s3 xb xw M N) {Hb : Heap} (k0 : Kp (fun _ => False) Hb h) (hs : Hb.size ≤ H0.size) : TB Hb h xb M:=by
 obtain ⟨rs,lv,hl,hr⟩:=t.rb
 exact ⟨k0,fun q hq => Nat.le_trans hs (t.b0 q hq),rs,lv,hl,fun i r hi => by
  obtain ⟨cs,b,h1,h2,h3,h4,h5,h6⟩:=hr i r hi
  exact ⟨cs,b,h1,h2,h3,h4,Nat.le_trans hs h6⟩⟩
end Go.Proofs.Ytljgfdamdcikgaa.Ev
set_option linter.unusedVariables false
set_option linter.unusedSimpArgs false
namespace Go.Proofs.Ytljgfdamdcikgaa.Ev
open Go Go.AEv
attribute [local simp] evFunc initS evOps_c evTrim_c evSkip_c evExit_c evRet_c evSeq_c evCond_c evBlock_c evDraw_c runOps_n runOps_c exec_n exec_g pure1_c act AOpd.ev T.get T.set T.put evBin evUn forceT_eq forceV_eq forceL_eq evRess evRes one keep runFP_n runFP_c app_none AV.flats AV.flat came_some List.getElem?_cons_zero List.getElem?_cons_succ beqT wrapI idxI tdivI tmodI decT decF ibT ibF inT inF evScope_c if_pos if_neg Cm_some thenW_n thenW_e thenW_r blkW_n blkW_e blkW_r goI kn putAt AV.cells fillA loadA takeA mk Eff.isAll Eff.isNone Eff.commutes Eff.spares okPair apart eqAgg fits LK.fits allEq aveq eqk mmA
section
variable {X Y : List (List Int)} {x y : AV} {nq S : Nat}
structure RD (S nq : Nat) (nz : Int) (x y : AV) (X Y : List (List Int)) (h : Heap) : Prop where
 gS : h.get S = .cells 0 3 [G nz,x,y]
 g3 : ∃ xb xw,h.get (S + 2) = .cells 0 3 [G nq,xb,xw]
 mx : MR h x X
 my : MR h y Y
theorem RD.kp {nz : Int} {h h' : Heap} (r : RD S nq nz x y X Y h) (k : Kp (fun _ => False) h h') : RD S nq nz x y X Y h':=by
 obtain ⟨xb,xw,g⟩:=r.g3
 exact ⟨k.at r.gS (by simp) id,⟨xb,xw,k.at g (by simp) id⟩,r.mx.kp k,r.my.kp k⟩
end
def Pre18 (a : ATs) (args : List AV) (h : Heap) : Prop:=Ok24 a h ∧ args = [.agg [G a.q,a.x,a.y]]
def Post18 (a : ATs) (h : Heap) (v : AV) (own : List AObj) : Prop:=∃ n x' y' B W,v = .agg [G (n : Nat),x',y'] ∧ (1 ≤ n ∧ n ≤ 3) ∧ (TB h (h.plus own) x' (B.map gs) ∧ tabQ n B = true) ∧ TB h (h.plus own) y' (W.map gs) ∧ tabQ n W = true
noncomputable def T49 : CallF:=addK tbl T48 18 Pre18 Post18
theorem t49 : Sound Go.Proofs.Try.prog T49:=Sound.addK follows ok t48 (by decide) _ _
end Go.Proofs.Ytljgfdamdcikgaa.Ev
set_option linter.unusedVariables false
set_option linter.unusedSimpArgs false
namespace Go.Proofs.Ytljgfdamdcikgaa.Ev
open Go Go.AEv
def ge (g : List (List Nat)) (i j : Nat) : Nat:=(g.getD i []).getD j 0
def pf (f : Nat → Nat) (a : Nat) : Nat:=((List.range a).map f).sum
section
variable {S : List (List Nat)}
def eS (S : List (List Nat)) (a b : Nat) : Nat:=(S.getD a []).getD b 0
def lS (S : List (List Nat)) (a : Nat) : Nat:=(S.getD a []).length
def w2 (S : List (List Nat)) (a b : Nat) : Nat:=pf (fun b => lS S (eS S a b)) b
def w3 (S : List (List Nat)) (a b : Nat) : Nat:=pf (fun b => if eS S a b = a then 1 else 0) b
variable (nd : ∀ i,(S.getD i []).Nodup)
include nd
omit nd in
end
structure BdS (S : List (List Nat)) : Prop where
 l : ∀ a,lS S a ≤ 1000
 n : S.length ≤ 1000
section
variable {S : List (List Nat)} (o : BdS S)
include o
omit o in
omit o in
end
section
variable {S : List (List Nat)}
def wl (S : List (List Nat)) : Nat → Nat → List (List Nat)
 | 0,i => [[i]]
 | k + 1,i => (S.getD i []).flatMap fun c => (wl S k c).map (i :: ·)
end
def ix (S : List (List Nat)) : Int → List Nat → Nat
 | _,[] => 0
 | now,c :: L => ft (pN S now) (cnt S L.length) c 0 + ix S (c : Int) L
def VC (S : List (List Nat)) : Int → List Nat → Prop
 | _,[] => True
 | now,c :: L => c < S.length ∧ pN S now c = true ∧ VC S (c : Int) L
section
variable {S : List (List Nat)}
end
def exC (S : List (List Nat)) (k i : Nat) : Nat:=((S.getD i []).find? (al S k)).getD 0
def ext (S : List (List Nat)) : Nat → Nat → List Nat
 | 0,_ => []
 | k + 1,i => exC S k i :: ext S k (exC S k i)
section
variable {S : List (List Nat)}
end
def stO (f : Nat → Option Int) (acc : Option (Nat × Int)) (j : Nat) : Option (Nat × Int):=match f j with
 | none => acc
 | some n => match acc with
  | none => some (j,n)
  | some (a,b) => if b < n then some (j,n) else some (a,b)
def bO (f : Nat → Option Int) : Option (Nat × Int) → List Nat → Option (Nat × Int)
 | acc,[] => acc
 | acc,j :: L => bO f (stO f acc j) L
section
variable {f : Nat → Option Int}
theorem stO_none {acc : Option (Nat × Int)} {j : Nat} (h : f j = none) : stO f acc j = acc:=by unfold stO; rw [h]
theorem stO_new {j : Nat} {n : Int} (h : f j = some n) : stO f none j = some (j,n):=by unfold stO; rw [h]
theorem stO_gt {a j : Nat} {b n : Int} (h : f j = some n) (c : b < n) : stO f (some (a,b)) j = some (j,n):=by
 unfold stO; rw [h]; exact if_pos c
theorem stO_le {a j : Nat} {b n : Int} (h : f j = some n) (c : ¬ b < n) : stO f (some (a,b)) j = some (a,b):=by
 unfold stO; rw [h]; exact if_neg c
theorem bO_app : ∀ (L M : List Nat) (acc : Option (Nat × Int)),bO f acc (L ++ M) = bO f (bO f acc L) M
 | [],_,_ => rfl
 | j :: L,M,acc => bO_app L M (stO f acc j)
theorem bO_some : ∀ (L : List Nat) (a : Nat) (b : Int),∃ j n,bO f (some (a,b)) L = some (j,n) ∧ ((j = a ∧ n = b ∧ ∀ k ∈ L,∀ m,f k = some m → m ≤ n) ∨ (∃ A B,L = A ++ j :: B ∧ f j = some n ∧ b < n ∧ (∀ k ∈ A,∀ m,f k = some m → m < n) ∧ ∀ k ∈ B,∀ m,f k = some m → m ≤ n))
 | [],a,b => ⟨a,b,rfl,.inl ⟨rfl,rfl,fun k h => by cases h⟩⟩
 | c :: L,a,b => by
  show ∃ j n,bO f (stO f (some (a,b)) c) L = some (j,n) ∧ _
  cases e : f c with
  | none =>
   rw [stO_none e]
   obtain ⟨j,n,h1,h2⟩:=bO_some L a b
   refine ⟨j,n,h1,?_⟩
   rcases h2 with ⟨h3,h4,h5⟩ | ⟨A,B,h3,h4,h5,h6,h7⟩
   ·refine .inl ⟨h3,h4,fun k hk m hm => ?_⟩
    rcases List.mem_cons.1 hk with rfl | hk
    ·rw [e] at hm; cases hm
    ·exact h5 k hk m hm
   ·refine .inr ⟨c :: A,B,by rw [h3]; rfl,h4,h5,fun k hk m hm => ?_,h7⟩
    rcases List.mem_cons.1 hk with rfl | hk
    ·rw [e] at hm; cases hm
    ·exact h6 k hk m hm
  | some x =>
   by_cases hx : b < x
   ·rw [stO_gt e hx]
    obtain ⟨j,n,h1,h2⟩:=bO_some L c x
    refine ⟨j,n,h1,.inr ?_⟩
    rcases h2 with ⟨h3,h4,h5⟩ | ⟨A,B,h3,h4,h5,h6,h7⟩
    ·subst h3; subst h4
     exact ⟨[],L,rfl,e,hx,fun k hk => (by cases hk),h5⟩
    ·refine ⟨c :: A,B,by rw [h3]; rfl,h4,by omega,fun k hk m hm => ?_,h7⟩
     rcases List.mem_cons.1 hk with rfl | hk
     ·rw [e] at hm; cases hm; exact h5
     ·exact h6 k hk m hm
   ·rw [stO_le e hx]
    obtain ⟨j,n,h1,h2⟩:=bO_some L a b
    refine ⟨j,n,h1,?_⟩
    rcases h2 with ⟨h3,h4,h5⟩ | ⟨A,B,h3,h4,h5,h6,h7⟩
    ·refine .inl ⟨h3,h4,fun k hk m hm => ?_⟩
     rcases List.mem_cons.1 hk with rfl | hk
     ·rw [e] at hm; cases hm; omega
     ·exact h5 k hk m hm
    ·refine .inr ⟨c :: A,B,by rw [h3]; rfl,h4,h5,fun k hk m hm => ?_,h7⟩
     rcases List.mem_cons.1 hk with rfl | hk
     ·rw [e] at hm; cases hm; omega
     ·exact h6 k hk m hm
theorem bO_none : ∀ (L : List Nat),(bO f none L = none ∧ ∀ k ∈ L,f k = none) ∨ ∃ j n A B,bO f none L = some (j,n) ∧ L = A ++ j :: B ∧ f j = some n ∧ (∀ k ∈ A,∀ m,f k = some m → m < n) ∧ ∀ k ∈ B,∀ m,f k = some m → m ≤ n
 | [] => .inl ⟨rfl,fun k h => by cases h⟩
 | c :: L => by
  show (bO f (stO f none c) L = none ∧ _) ∨ ∃ j n A B,bO f (stO f none c) L = some (j,n) ∧ _
  cases e : f c with
  | none =>
   rw [stO_none e]
   rcases bO_none L with ⟨h1,h2⟩ | ⟨j,n,A,B,h1,h2,h3,h4,h5⟩
   ·refine .inl ⟨h1,fun k hk => ?_⟩
    rcases List.mem_cons.1 hk with rfl | hk
    ·exact e
    ·exact h2 k hk
   ·refine .inr ⟨j,n,c :: A,B,h1,by rw [h2]; rfl,h3,fun k hk m hm => ?_,h5⟩
    rcases List.mem_cons.1 hk with rfl | hk
    ·rw [e] at hm; cases hm
    ·exact h4 k hk m hm
  | some x =>
   rw [stO_new e]
   obtain ⟨j,n,h1,h2⟩:=bO_some (f:=f) L c x
   refine .inr ⟨j,n,?_⟩
   rcases h2 with ⟨h3,h4,h5⟩ | ⟨A,B,h3,h4,h5,h6,h7⟩
   ·subst h3; subst h4
    exact ⟨[],L,h1,rfl,e,fun k hk => (by cases hk),h5⟩
   ·refine ⟨c :: A,B,h1,by rw [h3]; rfl,h4,fun k hk m hm => ?_,h7⟩
    rcases List.mem_cons.1 hk with rfl | hk
    ·rw [e] at hm; cases hm; exact h5
    ·exact h6 k hk m hm
theorem bO_mem {L : List Nat} {j : Nat} {n : Int} (h : bO f none L = some (j,n)) : ∃ A B,L = A ++ j :: B ∧ f j = some n ∧ (∀ k ∈ A,∀ m,f k = some m → m < n) ∧ ∀ k ∈ L,∀ m,f k = some m → m ≤ n:=by
 rcases bO_none (f:=f) L with ⟨h1,_⟩ | ⟨j',n',A,B,h1,h2,h3,h4,h5⟩
 ·rw [h] at h1; cases h1
 ·rw [h] at h1
  obtain ⟨rfl,rfl⟩:=Prod.mk.inj (Option.some.inj h1)
  refine ⟨A,B,h2,h3,h4,fun k hk m hm => ?_⟩
  rw [h2] at hk
  rcases List.mem_append.1 hk with hk | hk
  ·exact Int.le_of_lt (h4 k hk m hm)
  ·rcases List.mem_cons.1 hk with rfl | hk
   ·rw [h3] at hm; cases hm; exact Int.le_refl _
   ·exact h5 k hk m hm
end
def gv (S : List (List Nat)) (u : Nat → Nat → Int) : Nat → Nat → Option Int
 | 0,i => some (u 0 i)
 | l + 1,i => (bO (gv S u l) none (S.getD i [])).map fun p => p.2 + u (l + 1) i
def bC (S : List (List Nat)) (u : Nat → Nat → Int) (l : Nat) (L : List Nat) : Nat:=((bO (gv S u l) none L).map (·.1)).getD 0
def bP (S : List (List Nat)) (u : Nat → Nat → Int) : Nat → List Nat → List Nat
 | 0,_ => []
 | l + 1,L => bC S u l L :: bP S u l (S.getD (bC S u l L) [])
theorem bP_len (S : List (List Nat)) (u : Nat → Nat → Int) : ∀ l L,(bP S u l L).length = l
 | 0,_ => rfl
 | l + 1,L => by
  show (bC S u l L :: bP S u l _).length = _
  rw [List.length_cons,bP_len]
section
variable {S : List (List Nat)} {u : Nat → Nat → Int}
theorem gv_next {l i : Nat} {n : Int} (h : gv S u (l + 1) i = some n) : bO (gv S u l) none (S.getD i []) = some (bC S u l (S.getD i []),n - u (l + 1) i):=by
 have e : gv S u (l + 1) i = (bO (gv S u l) none (S.getD i [])).map fun p => p.2 + u (l + 1) i:=rfl
 rw [e,Option.map_eq_some_iff] at h
 obtain ⟨⟨a,b⟩,h1,h2⟩:=h
 unfold bC
 rw [h1]
 simp only [Option.map_some,Option.getD_some]
 rw [← h2,Int.add_sub_cancel]
def br (u : Nat → Nat → Int) : List Nat → Int
 | [] => 0
 | c :: P => u P.length c + br u P
def noneZ : Int:=-1000000000
def fmx (f : Nat → Int) : Int → List Nat → Int
 | r,[] => r
 | r,k :: L => fmx f (max r (f k)) L
def bsZ (S : List (List Nat)) (u : Nat → Nat → Int) : Nat → Nat → Int
 | 0,i => max noneZ (0 + u 0 i)
 | l + 1,i => max noneZ (fmx (bsZ S u l) noneZ (S.getD i []) + u (l + 1) i)
theorem fmx_ge (f : Nat → Int) : ∀ (L : List Nat) (r : Int),r ≤ fmx f r L ∧ ∀ k ∈ L,f k ≤ fmx f r L
 | [],r => ⟨Int.le_refl _,fun k h => by cases h⟩
 | k :: L,r => by
  obtain ⟨h1,h2⟩:=fmx_ge f L (max r (f k))
  show r ≤ fmx f (max r (f k)) L ∧ ∀ c ∈ k :: L,f c ≤ fmx f (max r (f k)) L
  refine ⟨by omega,fun c hc => ?_⟩
  rcases List.mem_cons.1 hc with rfl | hc
  ·omega
  ·exact h2 c hc
theorem fmx_le (f : Nat → Int) {b : Int} : ∀ (L : List Nat) (r : Int),r ≤ b → (∀ k ∈ L,f k ≤ b) → fmx f r L ≤ b
 | [],r,h,_ => h
 | k :: L,r,h,h2 => by
  have:=h2 k (by simp)
  exact fmx_le f L (max r (f k)) (by omega) fun c hc => h2 c (by simp [hc])
theorem bs_gv {N : Nat} (hu : ∀ l,l ≤ N → ∀ i,-5000 ≤ u l i ∧ u l i ≤ 5000) (hN : N ≤ 40) : ∀ l,l ≤ N → ∀ i,(∀ n,gv S u l i = some n → bsZ S u l i = n ∧ -5000 * ((l : Int) + 1) ≤ n ∧ n ≤ 5000 * ((l : Int) + 1)) ∧ (gv S u l i = none → noneZ ≤ bsZ S u l i ∧ bsZ S u l i ≤ noneZ + 5000 * (l : Int))
 | 0,hl,i => by
  have h0:=hu 0 hl i
  refine ⟨fun n h => ?_,fun h => (by cases h)⟩
  have e : gv S u 0 i = some (u 0 i):=rfl
  rw [e] at h
  have h:=Option.some.inj h
  have e2 : bsZ S u 0 i = max noneZ (0 + u 0 i):=rfl
  rw [e2]
  unfold noneZ
  omega
 | l + 1,hl,i => by
  have ih:=bs_gv hu hN l (by omega)
  have h0:=hu (l + 1) hl i
  have e : gv S u (l + 1) i = (bO (gv S u l) none (S.getD i [])).map fun p => p.2 + u (l + 1) i:=rfl
  have e2 : bsZ S u (l + 1) i = max noneZ (fmx (bsZ S u l) noneZ (S.getD i []) + u (l + 1) i):=rfl
  have nz : noneZ = -1000000000:=rfl
  rw [e,e2]
  rcases bO_none (f:=gv S u l) (S.getD i []) with ⟨h1,h2⟩ | ⟨j,n,A,B,h1,h2,h3,h4,h5⟩
  ·rw [h1]
   refine ⟨fun n h => (by cases h),fun _ => ?_⟩
   have g1:=(fmx_ge (bsZ S u l) (S.getD i []) noneZ).1
   have g2:=fmx_le (bsZ S u l) (b:=noneZ + 5000 * (l : Int)) (S.getD i []) noneZ (by omega) fun k hk => ((ih k).2 (h2 k hk)).2
   omega
  ·rw [h1]
   obtain ⟨_,_,_,_,_,mx⟩:=bO_mem h1
   have hj:=(ih j).1 n h3
   have g1:=(fmx_ge (bsZ S u l) (S.getD i []) noneZ).2 j (by rw [h2]; simp)
   have g2:=fmx_le (bsZ S u l) (b:=n) (S.getD i []) noneZ (by omega) fun k hk => by
    cases hg : gv S u l k with
    | none => have:=((ih k).2 hg).2; omega
    | some m => rw [((ih k).1 m hg).1]; exact mx k hk m hg
   refine ⟨fun n' h => ?_,fun h => (by cases h)⟩
   simp only [Option.map_some,Option.some.injEq] at h
   omega
theorem fmx_bO {N : Nat} (hu : ∀ l,l ≤ N → ∀ i,-5000 ≤ u l i ∧ u l i ≤ 5000) (hN : N ≤ 39) {l : Nat} (hl : l ≤ N) (L : List Nat) :
  (bO (gv S u l) none L = none → fmx (bsZ S u l) noneZ L < -200000) ∧ (∀ c n,bO (gv S u l) none L = some (c,n) → fmx (bsZ S u l) noneZ L = n ∧ -200000 ≤ n ∧ n ≤ 200000 ∧ ∃ A B,L = A ++ c :: B ∧ bsZ S u l c = n ∧ ∀ k ∈ A,bsZ S u l k ≠ n):=by
 have ih:=bs_gv (S:=S) hu (show N ≤ 40 by omega) l hl
 have nz : noneZ = -1000000000:=rfl
 constructor
 ·intro h
  rcases bO_none (f:=gv S u l) L with ⟨h1,h2⟩ | ⟨j,n,A,B,h1,_⟩
  ·have g2:=fmx_le (bsZ S u l) (b:=noneZ + 5000 * (l : Int)) L noneZ (by omega) fun k hk => ((ih k).2 (h2 k hk)).2
   omega
  ·rw [h] at h1; cases h1
 ·intro c n h
  obtain ⟨A,B,h2,h3,h4,mx⟩:=bO_mem h
  have hj:=(ih c).1 n h3
  have g1:=(fmx_ge (bsZ S u l) L noneZ).2 c (by rw [h2]; simp)
  have g2:=fmx_le (bsZ S u l) (b:=n) L noneZ (by omega) fun k hk => by
   cases hg : gv S u l k with
   | none => have:=((ih k).2 hg).2; omega
   | some m => rw [((ih k).1 m hg).1]; exact mx k hk m hg
  refine ⟨by omega,by omega,by omega,A,B,h2,hj.1,fun k hk e => ?_⟩
  cases hg : gv S u l k with
  | none => have:=((ih k).2 hg).2; omega
  | some m =>
   have:=((ih k).1 m hg).1
   have:=h4 k hk m hg
   omega
end
end Go.Proofs.Ytljgfdamdcikgaa.Ev
set_option linter.unusedVariables false
set_option linter.unusedSimpArgs false
namespace Go.Proofs.Ytljgfdamdcikgaa.Ev
open Go Go.AEv
attribute [local simp] evFunc initS evOps_c evTrim_c evSkip_c evExit_c evRet_c evSeq_c evCond_c evBlock_c evDraw_c runOps_n runOps_c exec_n exec_g pure1_c act AOpd.ev T.get T.set T.put evBin evUn forceT_eq forceV_eq forceL_eq evRess evRes one keep runFP_n runFP_c app_none AV.flats AV.flat came_some List.getElem?_cons_zero List.getElem?_cons_succ beqT wrapI idxI tdivI tmodI decT decF ibT ibF inT inF evScope_c if_pos if_neg Cm_some thenW_n thenW_e thenW_r blkW_n blkW_e blkW_r goI kn putAt AV.cells fillA loadA takeA mk Eff.isAll Eff.isNone Eff.commutes Eff.spares okPair apart eqAgg fits LK.fits allEq aveq eqk mmA
def TRw (h : Heap) (x : AV) (m q : Nat) (M : List (List Int)) : Prop:=∃ b v cs,x = .slice b 0 m v ∧ h.get b = .cells 1 v cs ∧ cs.length = m ∧ ∀ i,i < m → ∃ rb rv,cs[i]? = some (.slice rb 0 q rv) ∧ h.get rb = .cells 1 rv (gs (M.getD i [])) ∧ (M.getD i []).length = q
theorem TRw.kp {h h' : Heap} {x : AV} {m q : Nat} {M : List (List Int)} (t : TRw h x m q M) (k : Kp (fun _ => False) h h') : TRw h' x m q M:=by
 obtain ⟨b,v,cs,e,g,l,r⟩:=t
 exact ⟨b,v,cs,e,k.at g (by simp) id,l,fun i hi => by obtain ⟨rb,rv,e1,e2,e3⟩:=r i hi; exact ⟨rb,rv,e1,k.at e2 (by simp) id,e3⟩⟩
theorem TRw.fr {h : Heap} {x : AV} {m q : Nat} {M : List (List Int)} (t : TRw h x m q M) : TRw (frameOf h) x m q M:=by
 have at' : ∀ {b : Nat} {o : AObj},h.get b = o → o ≠ .hole → (frameOf h).get b = o:=fun g hx => by
  unfold frameOf
  rw [get_mk_lt _ _ _ _ (get_lt g hx)]; exact g
 obtain ⟨b,v,cs,e,g,l,r⟩:=t
 exact ⟨b,v,cs,e,at' g (by simp),l,fun i hi => by obtain ⟨rb,rv,e1,e2,e3⟩:=r i hi; exact ⟨rb,rv,e1,at' e2 (by simp),e3⟩⟩
theorem MR.trw {h : Heap} {x : AV} {m q : Nat} {M : List (List Int)} (t : MR h x M) (hm : M.length = m) (hr : ∀ l ∈ M,l.length = q) (m1 : 1 ≤ m) (q1 : 1 ≤ q) : TRw h x m q M:=by
 rcases t with ⟨_,e⟩ | ⟨b,v,cs,rfl,g,hl,hr'⟩
 ·rw [e] at hm; simp at hm; omega
 ·refine ⟨b,v,cs,by rw [hm],g,by omega,fun i hi => ?_⟩
  obtain ⟨l,e1,e2⟩:=hr' i cs[i] (List.getElem?_eq_getElem (by omega))
  have e3 : M.getD i [] = l:=by rw [List.getD_eq_getElem?_getD,e1]; rfl
  have e4:=hr l (List.mem_of_getElem? e1)
  rcases e2.cases with ⟨_,e⟩ | ⟨_,e⟩ | ⟨rb,rv,e,g'⟩
  ·rw [e] at e4; simp at e4; omega
  ·rw [e] at e4; simp at e4; omega
  ·exact ⟨rb,rv,by rw [List.getElem?_eq_getElem (by omega),e,e4],by rw [e3]; exact g',by rw [e3]; exact e4⟩
def rvA (M : List (List Int)) (w : List Nat) : Nat → Int
 | 0 => 0
 | k + 1 => rvA M w k + ent M k (w.getD k 0)
def SmW (m q : Nat) (M : List (List Int)) : Prop:=∀ i j,i < m → j < q → -1000 ≤ ent M i j ∧ ent M i j ≤ 1000
theorem rvA_bd {M : List (List Int)} {w : List Nat} {m q : Nat} (hs : SmW m q M) (hw : ∀ c ∈ w,c < q) (hl : w.length = m) : ∀ k,k ≤ m → -1000 * (k : Int) ≤ rvA M w k ∧ rvA M w k ≤ 1000 * (k : Int)
 | 0,_ => by simp [rvA]
 | k + 1,hk => by
  have ih:=rvA_bd hs hw hl k (by omega)
  have h1:=hs k (w.getD k 0) (by omega) (getD_lt hw (by omega))
  show -1000 * ((k + 1 : Nat) : Int) ≤ rvA M w k + ent M k (w.getD k 0) ∧ rvA M w k + ent M k (w.getD k 0) ≤ _
  omega
section
variable {m q : Nat} {M : List (List Int)} {w : List Nat}
theorem c85_ok (J : CallF) (hJ : ∀ a h,J 85 a h = none) (h : Heap) {x : AV} (t : TRw h x m q M) (hw : ∀ c ∈ w,c < q) (hl : w.length = m) (q3 : q ≤ 3) (m5 : m ≤ 1000) (hs : SmW m q M) : CallsTo tbl J 85 [x,.str (stW w)] h (G (rvA M w m),[],false):=by
 refine Tr.fnv (cf:=c85) (e:=.ret) (s:=T.set (T.set .leaf [] x) [false] (.str (stW w))) (by decide) rfl (hJ _ _) rfl rfl rfl (by simp) ?_
 refine Tr.post (Q:=(fun s h => s.get [true,false] = G (rvA M w m))) (fun s h q => by simp [c85,q]) ?_
 have tF:=t.fr
 generalize frameOf h = H at *
 have lw:=stW_len w
 rw [hl] at lw
 obtain ⟨b,v,cs,rfl,g,lc,hr⟩:=tF
 have l0 : Tr tbl J c85_l0 (fun s h => h = H ∧ s.get [] = .slice b 0 m v ∧ s.get [false] = .str (stW w) ∧ s.get [false,true] = G (rvA M w 0) ∧ s.get [true,false,false] = G m ∧ s.get [false,true,false] = G ((0 : Nat) : Int)) (.exit 0) (fun s h => h = H ∧ s.get [false,true] = G (rvA M w m)):=by
  refine Tr.rounds (e:=.exit 0) (P:=fun k => (fun s h => h = H ∧ s.get [] = .slice b 0 m v ∧ s.get [false] = .str (stW w) ∧ s.get [false,true] = G (rvA M w k) ∧ s.get [true,false,false] = G m ∧ s.get [false,true,false] = G (k : Nat))) (M:=m) (fun k hk => ?_) ?_ (by simp) 0 (by omega)
  ·refine Tr.w fun s1 H1 hp _ kR => W.trim ?_
   obtain ⟨rfl,q'⟩:=hp
   obtain ⟨rb,rv,e1,g1,l1⟩:=hr k hk
   have e1':=getI e1
   have d1:=getD_lt hw (show k < w.length by omega)
   have f1:=stW_at hw q3 (show k < w.length by omega)
   have f1':=getI f1
   have n1:=u8_nat (show w.getD k 0 < 3 by omega)
   have w1:=wrap8 (w.getD k 0) (by omega)
   have e2:=ent_at l1 d1
   have e2':=getI e2
   have l2 : (gs (M.getD k [])).length = q:=by rw [← l1]; simp
   have bd:=rvA_bd hs hw hl k (by omega)
   have bd2:=hs k (w.getD k 0) hk d1
   have k1 : rvA M w (k + 1) = rvA M w k + ent M k (w.getD k 0):=rfl
   rw [k1] at kR
   rw [show ((k + 1 : Nat) : Int) = (k : Int) + 1 by omega] at kR
   clear hr hs hw t k1
   generalize rvA M w k = r0 at *
   generalize ent M k (w.getD k 0) = z at *
   generalize stW w = cw at *
   generalize UInt8.ofNat (48 + w.getD k 0) = u1 at *
   generalize w.getD k 0 = c1 at *
   generalize gs (M.getD k []) = cr at *
   refine zCh ?_
   simp (disch:=first|omega|exact zE rfl|exact zO|exact zL rfl) [c85_o3,zG,q']
   refine zCh ?_
   simp (disch:=first|omega|exact zE rfl|exact zO|exact zL rfl) [zG,q']
   refine W.seq (W.block ?_)
   refine zCh ?_
   simp (disch:=first|omega|exact zE rfl|exact zO|exact zL rfl) [c85_o4,zG,q']
   refine W.chunk ?_
   simp (disch:=first|omega|exact zE rfl|exact zO|exact zL rfl) [c85_o5,zG,q',g,e1,e1',lc,g1,e2,e2',l2,f1,f1',n1,w1,lw,-evDraw_c,evDraw_0]
   refine W.chunk ?_
   simp (disch:=first|omega|exact zE rfl|exact zO|exact zL rfl) [c85_o6,zG,q']
   exact kR _ _ (by simp [T.get,q'])
  ·refine Tr.w fun s1 H1 hp _ kR => W.trim ?_
   obtain ⟨rfl,q'⟩:=hp
   clear hr hs hw t
   generalize rvA M w m = r0 at *
   generalize stW w = cw at *
   refine zCh ?_
   simp (disch:=first|omega|exact zE rfl|exact zO|exact zL rfl) [c85_o3,zG,q',lw]
   refine zCh ?_
   simp (disch:=first|omega|exact zE rfl|exact zO|exact zL rfl) [zG,q']
   exact kR _ _ (by simp [T.get,q'])
 clear hr hs hw t
 have z0 : rvA M w 0 = 0:=rfl
 rw [z0] at l0
 generalize rvA M w m = r0 at *
 generalize stW w = cw at *
 refine Tr.w fun s1 H1 hp _ kR => ?_
 obtain ⟨rfl,rfl⟩:=hp
 have q' : True:=trivial
 refine zCh ?_
 simp (disch:=first|omega|exact zE rfl|exact zO|exact zL rfl) [c85_o0,zG,q']
 refine zCh ?_
 simp (disch:=first|omega|exact zE rfl|exact zO|exact zL rfl) [c85_o1,zG,q']
 refine W.assoc ?_
 refine zCh ?_
 simp (disch:=first|omega|exact zE rfl|exact zO|exact zL rfl) [c85_o2,zG,q',lw]
 refine W.seq (W.block ?_)
 refine W.use (l0) (by simp (disch:=first|omega|exact zE rfl|exact zO|exact zL rfl) [zG,q']) fun s1 H1 hp => ?_
 obtain ⟨rfl,q'⟩:=hp
 try simp only [zW,if_true]
 refine zCh ?_
 simp (disch:=first|omega|exact zE rfl|exact zO|exact zL rfl) [c85_o7,zG,q']
 refine W.ret ?_
 try simp only [zW,if_true]
 exact kR _ _ (by simp [T.get,q'])
theorem c86_ok (J : CallF) (hJ : ∀ a h,J 86 a h = none) (h : Heap) {x : AV} (t : TRw h x m q M) (hw : ∀ c ∈ w,c < q) (hl : w.length = m) (q3 : q ≤ 3) (m5 : m ≤ 1000) (hs : SmW m q M) : CallsTo tbl J 86 [x,.str (stW w)] h (G (rvA M w m),[],false):=by
 refine Tr.fnv (cf:=c86) (e:=.ret) (s:=T.set (T.set .leaf [] x) [false] (.str (stW w))) (by decide) rfl (hJ _ _) rfl rfl rfl (by simp) ?_
 refine Tr.post (Q:=(fun s h => s.get [true,false] = G (rvA M w m))) (fun s h q => by simp [c86,q]) ?_
 have tF:=t.fr
 generalize frameOf h = H at *
 have lw:=stW_len w
 rw [hl] at lw
 obtain ⟨b,v,cs,rfl,g,lc,hr⟩:=tF
 have l0 : Tr tbl J c86_l0 (fun s h => h = H ∧ s.get [] = .slice b 0 m v ∧ s.get [false] = .str (stW w) ∧ s.get [false,true] = G (rvA M w 0) ∧ s.get [true,true] = G ((0 : Nat) : Int)) (.exit 0) (fun s h => h = H ∧ s.get [false,true] = G (rvA M w m)):=by
  refine Tr.rounds (e:=.exit 0) (P:=fun k => (fun s h => h = H ∧ s.get [] = .slice b 0 m v ∧ s.get [false] = .str (stW w) ∧ s.get [false,true] = G (rvA M w k) ∧ s.get [true,true] = G (k : Nat))) (M:=m) (fun k hk => ?_) ?_ (by simp) 0 (by omega)
  ·refine Tr.w fun s1 H1 hp _ kR => W.trim ?_
   obtain ⟨rfl,q'⟩:=hp
   obtain ⟨rb,rv,e1,g1,l1⟩:=hr k hk
   have e1':=getI e1
   have d1:=getD_lt hw (show k < w.length by omega)
   have f1:=stW_at hw q3 (show k < w.length by omega)
   have f1':=getI f1
   have n1:=u8_nat (show w.getD k 0 < 3 by omega)
   have w1:=wrap8 (w.getD k 0) (by omega)
   have e2:=ent_at l1 d1
   have e2':=getI e2
   have l2 : (gs (M.getD k [])).length = q:=by rw [← l1]; simp
   have bd:=rvA_bd hs hw hl k (by omega)
   have bd2:=hs k (w.getD k 0) hk d1
   have k1 : rvA M w (k + 1) = rvA M w k + ent M k (w.getD k 0):=rfl
   rw [k1] at kR
   rw [show ((k + 1 : Nat) : Int) = (k : Int) + 1 by omega] at kR
   clear hr hs hw t k1
   generalize rvA M w k = r0 at *
   generalize ent M k (w.getD k 0) = z at *
   generalize stW w = cw at *
   generalize UInt8.ofNat (48 + w.getD k 0) = u1 at *
   generalize w.getD k 0 = c1 at *
   generalize gs (M.getD k []) = cr at *
   refine W.assoc ?_
   refine zCh ?_
   simp (disch:=first|omega|exact zE rfl|exact zO|exact zL rfl) [c86_o3,zG,q']
   refine zCh ?_
   simp (disch:=first|omega|exact zE rfl|exact zO|exact zL rfl) [zG,q']
   refine W.seq (W.block ?_)
   refine W.chunk ?_
   simp (disch:=first|omega|exact zE rfl|exact zO|exact zL rfl) [c86_o4,zG,q',g,e1,e1',lc,g1,e2,e2',l2,f1,f1',n1,w1,lw,-evDraw_c,evDraw_0]
   refine W.chunk ?_
   simp (disch:=first|omega|exact zE rfl|exact zO|exact zL rfl) [c86_o5,zG,q']
   exact kR _ _ (by simp [T.get,q'])
  ·refine Tr.w fun s1 H1 hp _ kR => W.trim ?_
   obtain ⟨rfl,q'⟩:=hp
   clear hr hs hw t
   generalize rvA M w m = r0 at *
   generalize stW w = cw at *
   refine W.assoc ?_
   refine zCh ?_
   simp (disch:=first|omega|exact zE rfl|exact zO|exact zL rfl) [c86_o3,zG,q',lw]
   refine zCh ?_
   simp (disch:=first|omega|exact zE rfl|exact zO|exact zL rfl) [zG,q']
   exact kR _ _ (by simp [T.get,q'])
 clear hr hs hw t
 have z0 : rvA M w 0 = 0:=rfl
 rw [z0] at l0
 generalize rvA M w m = r0 at *
 generalize stW w = cw at *
 refine Tr.w fun s1 H1 hp _ kR => ?_
 obtain ⟨rfl,rfl⟩:=hp
 have q' : True:=trivial
 refine zCh ?_
 simp (disch:=first|omega|exact zE rfl|exact zO|exact zL rfl) [c86_o0,zG,q']
 refine zCh ?_
 simp (disch:=first|omega|exact zE rfl|exact zO|exact zL rfl) [c86_o1,zG,q']
 refine W.assoc ?_
 refine zCh ?_
 simp (disch:=first|omega|exact zE rfl|exact zO|exact zL rfl) [c86_o2,zG,q',lw]
 refine W.seq (W.block ?_)
 refine W.use (l0) (by simp (disch:=first|omega|exact zE rfl|exact zO|exact zL rfl) [zG,q']) fun s1 H1 hp => ?_
 obtain ⟨rfl,q'⟩:=hp
 try simp only [zW,if_true]
 refine zCh ?_
 simp (disch:=first|omega|exact zE rfl|exact zO|exact zL rfl) [c86_o6,zG,q']
 refine W.ret ?_
 try simp only [zW,if_true]
 exact kR _ _ (by simp [T.get,q'])
end
structure A85 where
 x : AV
 m : Nat
 q : Nat
 M : List (List Int)
 w : List Nat
def Ok85 (b : A85) (h : Heap) : Prop:=TRw h b.x b.m b.q b.M ∧ (∀ c ∈ b.w,c < b.q) ∧ b.w.length = b.m ∧ b.q ≤ 3 ∧ b.m ≤ 1000 ∧ SmW b.m b.q b.M
def Pre85 (b : A85) (args : List AV) (h : Heap) : Prop:=Ok85 b h ∧ args = [b.x,.str (stW b.w)]
def Post85 (b : A85) (h : Heap) (v : AV) (own : List AObj) : Prop:=v = G (rvA b.M b.w b.m) ∧ own = []
abbrev K85 (f : Nat) (J : CallF) : Prop:=∀ (h : Heap) (b : A85),Ok85 b h → J f [b.x,.str (stW b.w)] h = some (G (rvA b.M b.w b.m),[],false)
noncomputable def U85 : CallF:=addK tbl noIntr 85 Pre85 Post85
theorem u85 : Sound Go.Proofs.Try.prog U85:=Sound.addK follows ok Sound.empty (by decide) _ _
theorem k85u : K85 85 U85:=fun h b o => by
 obtain ⟨v,own,e,rfl,rfl⟩:=addK_some (Pre:=Pre85) (Post:=Post85) (fun b args h hp => by
  obtain ⟨⟨h1,h2,h3,h4,h5,h6⟩,rfl⟩:=hp
  exact ⟨_,_,c85_ok noIntr (fun _ _ => rfl) h h1 h2 h3 h4 h5 h6,rfl,rfl⟩) b _ h ⟨o,rfl⟩
 exact e
noncomputable def U86 : CallF:=addK tbl noIntr 86 Pre85 Post85
theorem u86 : Sound Go.Proofs.Try.prog U86:=Sound.addK follows ok Sound.empty (by decide) _ _
theorem k86u : K85 86 U86:=fun h b o => by
 obtain ⟨v,own,e,rfl,rfl⟩:=addK_some (Pre:=Pre85) (Post:=Post85) (fun b args h hp => by
  obtain ⟨⟨h1,h2,h3,h4,h5,h6⟩,rfl⟩:=hp
  exact ⟨_,_,c86_ok noIntr (fun _ _ => rfl) h h1 h2 h3 h4 h5 h6,rfl,rfl⟩) b _ h ⟨o,rfl⟩
 exact e
def capL (bM bL bF : Nat) : List AV:=[.ptr bM 0 1,.ptr bL 0 1,.ptr bF 0 1]
structure CM (K : Heap) (S : List (List Nat)) (p bM bm bL bF : Nat) : Prop where
 gM : K.get bM = .cells 0 1 [.map bm]
 gL : K.get bL = .cells 0 1 [.ptr p 0 3]
 gF : K.get bF = .cells 0 1 [.func 73 (capL bM bL bF)]
 lf : LF K p S
 hN : K.N ≤ bm
def KN (S : List (List Nat)) (E : List (Nat × Int)) : Prop:=∀ c z,fm c E = some z → z ≠ 0 → ∃ m : Nat,z = m ∧ LG S c m
def IZ (S : List (List Nat)) (E : List (Nat × Int)) (v : Nat) : Prop:=(∀ c,fm c E = some 0 → ∃ k,Rw S (k + 1) c v) ∧ KN S E
def PE (S : List (List Nat)) (E E' : List (Nat × Int)) : Prop:=(∀ c,fm c E' = some 0 ↔ fm c E = some 0) ∧ KN S E' ∧ ∀ c,fm c E ≠ none → fm c E' ≠ none
section
variable {S : List (List Nat)} {p bM bm bL bF : Nat}
theorem LF.kpm {h h' : Heap} {es : List (AV × AV)} (l : LF h p S) (g : h.get bm = .map es) (k : Kp (fun i => i = bm) h h') : LF h' p S:=by
 have nn : ∀ {b s n cs},h.get b = .cells s n cs → ¬ b = bm:=fun e q => by rw [q,g] at e; cases e
 obtain ⟨x,mb,nb,rs,h1,h2,h3,h4⟩:=l
 refine ⟨x,mb,nb,rs,k.at h1 (by simp) (nn h1),h2,k.at h3 (by simp) (nn h3),fun i hi => ?_⟩
 obtain ⟨y,e1,e2⟩:=h4 i hi
 refine ⟨y,e1,e2.kp k fun b hb => ?_⟩
 rcases e2 with ⟨rfl,_⟩ | ⟨b',v,rfl,g'⟩
 ·cases hb
 ·cases hb; exact nn g'
theorem CM.kp {K K' : Heap} {es : List (AV × AV)} (t : CM K S p bM bm bL bF) (g : K.get bm = .map es) (k : Kp (fun i => i = bm) K K') : CM K' S p bM bm bL bF:=by
 have nn : ∀ {b s n cs},K.get b = .cells s n cs → ¬ b = bm:=fun e q => by rw [q,g] at e; cases e
 exact ⟨k.at t.gM (by simp) (nn t.gM),k.at t.gL (by simp) (nn t.gL),k.at t.gF (by simp) (nn t.gF),t.lf.kpm g k,by rw [k.N]; exact t.hN⟩
theorem PE.refl {E : List (Nat × Int)} (k : KN S E) : PE S E E:=⟨fun _ => Iff.rfl,k,fun _ => id⟩
theorem PE.trans {A B C : List (Nat × Int)} (x : PE S A B) (y : PE S B C) : PE S A C:=⟨fun c => (y.1 c).trans (x.1 c),y.2.1,fun c h => y.2.2 c (x.2.2 c h)⟩
theorem IZ.mark {E : List (Nat × Int)} {v : Nat} (i : IZ S E v) : KN S (pm v 0 E) ∧ ∀ c,c ∈ S.getD v [] → ∀ E',PE S (pm v 0 E) E' → IZ S E' c:=by
 have k0 : KN S (pm v 0 E):=fun c z h hz => by
  rw [fm_pm] at h
  by_cases e : c = v
  ·rw [if_pos e] at h; cases h; exact absurd rfl hz
  ·rw [if_neg e] at h; exact i.2 c z h hz
 refine ⟨k0,fun c hc E' pe => ⟨fun x hx => ?_,pe.2.1⟩⟩
 have hx:=(pe.1 x).1 hx
 rw [fm_pm] at hx
 by_cases e : x = v
 ·rw [e]; exact ⟨0,Rw.one hc⟩
 ·rw [if_neg e] at hx
  obtain ⟨k,w⟩:=i.1 x hx
  exact ⟨k + 1,w.snoc hc⟩
theorem PE.done {E E' : List (Nat × Int)} {v m : Nat} (hv : fm v E = none) (pe : PE S (pm v 0 E) E') (l : LG S v (m + 1)) : PE S E (pm v (1 + (m : Int)) E'):=by
 refine ⟨fun c => ?_,fun c z h hz => ?_,fun c h => ?_⟩
 ·rw [fm_pm]
  by_cases e : c = v
  ·rw [if_pos e,e,hv]
   constructor
   ·intro h
    have:=Option.some.inj h
    omega
   ·intro h; cases h
  ·rw [if_neg e,pe.1 c,fm_pm,if_neg e]
 ·rw [fm_pm] at h
  by_cases e : c = v
  ·rw [if_pos e] at h
   cases h
   rw [e]
   exact ⟨m + 1,by omega,l⟩
  ·rw [if_neg e] at h
   exact pe.2.1 c z h hz
 ·rw [fm_pm]
  by_cases e : c = v
  ·rw [if_pos e]; simp
  ·rw [if_neg e]
   exact pe.2.2 c (by rw [fm_pm,if_neg e]; exact h)
end
section
variable {S : List (List Nat)} {p bM bm bL bF : Nat}
theorem LG.ex {i : Nat} : ∀ {N : Nat},al S N i = false → ∃ m,LG S i m
 | 0,h => by cases h
 | N + 1,h => by
  cases c : al S N i
  ·exact LG.ex c
  ·refine ⟨N + 1,fun k => ⟨fun hk => ?_,fun hk => ?_⟩⟩
   ·apply Decidable.byContradiction
    intro hn
    have:=al_le (k:=N + 1) (d:=k - (N + 1)) (by rw [show N + 1 + (k - (N + 1)) = k by omega]; exact hk)
    rw [h] at this; cases this
   ·exact al_le (k:=k) (d:=N - k) (by rw [show k + (N - k) = N by omega]; exact c)
end
def AR.itR (a : AR) (m : Int) (n k : Nat) : List (List Nat):=(itm (a.steps m) n (List.range (a.steps m).length) k).map fun c => (a.rows m).getD c []
def Post32 (a : AR) (m n k : Int) (h : Heap) (v : AV) (own : List AObj) : Prop :=
 (a.gd m n 0 = false → v = .tup [.nils,G 2] ∧ own = []) ∧
 (a.gd m n 0 = true → okC (a.steps m) n.toNat = false → v = .tup [.nils,G 5] ∧ own = []) ∧
 (a.gd m n 0 = true → okC (a.steps m) n.toNat = true → ¬ (0 ≤ k ∧ k < a.cn m n.toNat) → v = .tup [.nils,G 2] ∧ own = []) ∧
 (a.gd m n 0 = true → okC (a.steps m) n.toNat = true → (0 ≤ k ∧ k < a.cn m n.toNat) → ∃ x,v = .tup [x,G 0] ∧ RV (h.plus own) x (wsL (a.itR m n.toNat k.toNat)))
section
variable {a : AR} {m n k : Int}
end
structure ARk where
 a : AR
 m : Int
 n : Int
 k : Int
def Pre32 (b : ARk) (args : List AV) (h : Heap) : Prop:=OkR b.a h ∧ args = [b.a.v,G b.m,G b.n,G b.k]
def Po32 (b : ARk) (h : Heap) (v : AV) (own : List AObj) : Prop:=Post32 b.a b.m b.n b.k h v own
noncomputable def T50 : CallF:=addK tbl T49 32 Pre32 Po32
theorem t50 : Sound Go.Proofs.Try.prog T50:=Sound.addK follows ok t49 (by decide) _ _
section
variable {S R : List (List Nat)} {p N : Nat}
theorem gn_range (i : Nat) : gn (List.range (i + 1)) = gn (List.range i) ++ [G i]:=by simp [gn,List.range_succ]
end
structure ARq where
 a : AR
 m : Int
 n : Int
 k : Nat
def Pre34 (b : ARq) (args : List AV) (h : Heap) : Prop:=(OkR b.a h ∧ b.a.gd b.m b.n 0 = true ∧ okC (b.a.steps b.m) b.n.toNat = true ∧ b.k < b.a.cn b.m b.n.toNat) ∧ args = [b.a.v,G b.m,G b.n,G b.k]
def Post34 (b : ARq) (h : Heap) (v : AV) (own : List AObj) : Prop:=RV (h.plus own) v (wsL (b.a.itR b.m b.n.toNat b.k))
noncomputable def T51 : CallF:=addK tbl T50 34 Pre34 Post34
theorem t51 : Sound Go.Proofs.Try.prog T51:=Sound.addK follows ok t50 (by decide) _ _
section
variable {nq m nn k : Int} {X Y : List (List Int)}
end
section
variable {S : List (List Nat)} {p bM bm bL bF : Nat}
theorem LS.ex (os : OkS S) : ∃ z,LS S z:=by
 by_cases c : ∃ i,i < S.length ∧ al S S.length i = true
 ·exact ⟨-1,.inl ⟨rfl,c⟩⟩
 ·have : ∀ L : List Nat,(∀ i ∈ L,i < S.length) → ∃ m,MX S L.reverse m:=fun L => by
   induction L with
   | nil => exact fun _ => ⟨0,MX.nil⟩
   | cons i L ih =>
    intro h
    obtain ⟨m,hm⟩:=ih fun j hj => h j (by simp [hj])
    have hi : al S S.length i = false:=by
     cases e : al S S.length i
     ·rfl
     ·exact absurd ⟨i,h i (by simp),e⟩ c
    obtain ⟨z,hz⟩:=LG.ex hi
    exact ⟨max m z,by rw [List.reverse_cons]; exact hm.snoc hz⟩
  obtain ⟨m,hm⟩:=this (List.range S.length).reverse fun i hi => List.mem_range.1 (List.mem_reverse.1 hi)
  rw [List.reverse_reverse] at hm
  exact ⟨m,hm.ls⟩
open Classical in
noncomputable def lsV (S : List (List Nat)) : Int:=if h : ∃ z,LS S z then Classical.choose h else 0
end
noncomputable def AR.lgV (a : AR) (m : Int) : AV:=if a.rm m then .tup [G (lsV (a.steps m)),G 0] else .tup [G 0,G 2]
section
variable {a : AR} {m : Int}
end
def Post35 (b : ARm) (h : Heap) (v : AV) (own : List AObj) : Prop:=v = b.a.lgV b.m ∧ own = []
noncomputable def T52 : CallF:=addK tbl T51 35 PreRm Post35
theorem t52 : Sound Go.Proofs.Try.prog T52:=Sound.addK follows ok t51 (by decide) _ _
theorem W.loop {tbl : Nat → Option CFunc} {I : CallF} {live : List Path} {c : CCode} {s : T} {h : Heap} {Q : PQ} (x : W tbl I (.trim live c) s h (thenW tbl I (.loop live c) Q)) : W tbl I (.loop live c) s h Q:=by
 obtain ⟨e,s1,h1,⟨n,r⟩,q⟩:=x
 cases e with
 | normal =>
  obtain ⟨e2,s2,h2,r2,q2⟩:=q
  exact ⟨e2,s2,h2,Runs.loop_next ⟨n,r⟩ r2,q2⟩
 | exit i => exact ⟨_,s1,h1,Runs.loop_out ⟨n,r⟩ (by simp),q⟩
 | ret => exact ⟨_,s1,h1,Runs.loop_out ⟨n,r⟩ (by simp),q⟩
theorem gn_app (L : List Nat) (c : Nat) : gn (L ++ [c]) = gn L ++ [G c]:=by simp [gn]
section
variable {S : List (List Nat)} {p f : Nat}
structure RM (h0 : Heap) (E : List (Nat × Int)) (xq : AV) (U : List Nat) (h : Heap) : Prop where
 kf : Kp (fun _ => False) (frameOf h0) h
 gm : h.get h0.size = .map (mv E)
 lq : ∃ b,xq = .slice b 0 U.length U.length ∧ h.get b = .cells 1 U.length (gn U) ∧ h0.size < b
theorem frS (h : Heap) : (frameOf h).size = h.size:=by simp [frameOf,Heap.size]
theorem RM.put {h0 h : Heap} {E : List (Nat × Int)} {xq : AV} {U : List Nat} (r : RM h0 E xq U h) (c : Nat) (z : Int) : ∃ H,Eff.app (.mput h0.size (mv (pm c z E))) h = some H ∧ RM h0 (pm c z E) xq U H:=by
 have hN : h.N = h0.size:=r.kf.N
 have blt:=get_lt r.gm (by simp)
 refine ⟨_,mput_gen h h0.size _ _ (by omega) r.gm,r.kf.updn _ _ (by omega) (by rw [frS]; omega),upd_same _ _ _ (by omega) blt,?_⟩
 obtain ⟨b,e1,e2,e3⟩:=r.lq
 exact ⟨b,e1,by rw [upd_ne _ _ _ _ (by omega) (by omega)]; exact e2,e3⟩
theorem RM.push {h0 h : Heap} {E : List (Nat × Int)} {xq : AV} {U : List Nat} (k0 : Nat) (r : RM h0 E xq U h) (c : Nat) (hn : U.length ≤ 1000) :
  ∃ x1 e H,appA (h.plus [.cells 1 1 [G c]]) k0 none 1 8 1 [G c] xq = some (x1,e) ∧ Eff.app e (h.plus [.cells 1 1 [G c]]) = some H ∧ RM h0 E x1 (U ++ [c]) H:=by
 have hN : h.N = h0.size:=r.kf.N
 obtain ⟨b,rfl,e2,e3⟩:=r.lq
 have g2:=plus_keep [.cells 1 1 [G (c : Int)]] e2 (by simp)
 have hN' : (h.plus [.cells 1 1 [G (c : Int)]]).N ≤ b:=by rw [plus_N]; omega
 have x:=ext_gen (h.plus [.cells 1 1 [G (c : Int)]]) b U.length 1 (gn U) [G c] hN' g2 (gn_len U)
 have blt:=get_lt e2 (by simp)
 refine ⟨.slice b 0 (U.length + 1) (U.length + 1),.ext b U.length 1 [G c],_,?_,x,(r.kf.trans (Kp.plus _ _)).updn _ _ hN' (by rw [frS]; omega),?_,b,by simp,?_,e3⟩
 ·simp only [appA,Nat.mul_one,Nat.one_mul]
  rw [if_neg (by decide),if_pos ⟨trivial,by simp,by omega⟩]
 ·rw [upd_ne _ _ _ _ hN' (by omega)]; exact plus_keep _ r.gm (by simp)
 ·rw [upd_same _ _ _ hN' (by rw [plus_size]; omega),gn_app]
  simp [gn_len]
structure RB7 (S : List (List Nat)) (f : Nat) (h0 : Heap) (k t : Nat) (E : List (Nat × Int)) (xq : AV) (U : List Nat) (d : Nat → Nat) (h : Heap) : Prop where
 bq : BQ S f d U k t
 nf : NF S f U k t
 pr : PRT S f d U E
 rm : RM h0 E xq U h
end
section
variable {S : List (List Nat)} {p f : Nat}
def OR (S : List (List Nat)) (p f : Nat) (h0 : Heap) (k : Nat) : SP:=fun s h => ∃ E xq U d,RB7 S f h0 k 0 E xq U d h ∧ k ≤ U.length ∧ s.get [] = .ptr p 0 3 ∧ s.get [false] = G f ∧ s.get [false,true] = .map h0.size ∧ s.get [true,true] = xq ∧ s.get [false,false,false] = G k
def Post74 (S : List (List Nat)) (f : Nat) (h : Heap) (v : AV) (own : List AObj) : Prop:=((∀ s,¬ Rw S (s + 1) f f) → v = .nils ∧ own = []) ∧ ((∃ s,Rw S (s + 1) f f) → ∃ L m,CY S f m ∧ RG S L ∧ L.length = m + 1 ∧ RV (h.plus own) v (gn L))
end
structure A74 where
 p : Nat
 f : Nat
 S : List (List Nat)
def Ok74 (b : A74) (h : Heap) : Prop:=OkS b.S ∧ LF h b.p b.S ∧ b.f < b.S.length
def Pre74 (b : A74) (args : List AV) (h : Heap) : Prop:=Ok74 b h ∧ args = [.ptr b.p 0 3,G b.f]
def Po74 (b : A74) (h : Heap) (v : AV) (own : List AObj) : Prop:=Post74 b.S b.f h v own
noncomputable def T53 : CallF:=addK tbl T52 74 Pre74 Po74
theorem t53 : Sound Go.Proofs.Try.prog T53:=Sound.addK follows ok t52 (by decide) _ _
section
variable {S R : List (List Nat)} {p : Nat}
def rT2 (R : List (List Nat)) (L : List Nat) : List (List Nat):=L.map fun c => R.getD c []
end
def Post36 (a : AR) (m : Int) (h : Heap) (v : AV) (own : List AObj) : Prop :=
 (a.rm m = false → v = .tup [.nils,G 2] ∧ own = []) ∧
 (a.rm m = true → MC (a.steps m) (a.steps m).length 0 → v = .tup [.nils,G 6] ∧ own = []) ∧
 (a.rm m = true → ¬ MC (a.steps m) (a.steps m).length 0 → ∃ x L,v = .tup [x,G 0] ∧ L ≠ [] ∧ MC (a.steps m) (a.steps m).length L.length ∧ RG (a.steps m) L ∧ RV (h.plus own) x (wsL (rT2 (a.rows m) L)))
section
variable {a : AR} {m : Int}
end
def Po36 (b : ARm) (h : Heap) (v : AV) (own : List AObj) : Prop:=Post36 b.a b.m h v own
noncomputable def T54 : CallF:=addK tbl T53 36 PreRm Po36
theorem t54 : Sound Go.Proofs.Try.prog T54:=Sound.addK follows ok t53 (by decide) _ _
def bb (p : Nat → Bool) (n : Nat) : List AV:=(List.range n).map fun i => .bool (p i)
theorem bb_len (p : Nat → Bool) (n : Nat) : (bb p n).length = n:=by simp [bb]
theorem bb_at (p : Nat → Bool) {n i : Nat} (h : i < n) : (bb p n)[i]? = some (.bool (p i)):=by
 unfold bb
 rw [List.getElem?_map,List.getElem?_range h]; rfl
theorem bb_ext {p r : Nat → Bool} {n : Nat} (h : ∀ t,t < n → p t = r t) : bb p n = bb r n:=by
 unfold bb
 apply List.map_congr_left
 intro t ht
 rw [h t (List.mem_range.1 ht)]
theorem bb_set (p : Nat → Bool) {n i : Nat} (h : i < n) (v : Bool) : (bb p n).set i (.bool v) = bb (fun t => if t = i then v else p t) n:=by
 apply List.ext_getElem?
 intro j
 by_cases hj : j < n
 ·rw [bb_at _ hj]
  by_cases e : i = j
  ·subst e
   rw [List.getElem?_set_self (by rw [bb_len]; exact h),if_pos rfl]
  ·rw [List.getElem?_set_ne e,bb_at _ hj,if_neg (fun h => e h.symm)]
 ·rw [List.getElem?_eq_none (by rw [List.length_set,bb_len]; omega),List.getElem?_eq_none (by rw [bb_len]; omega)]
structure BB (Hk h : Heap) (b n : Nat) (p : Nat → Bool) : Prop where
 kp : Kp (fun _ => False) Hk h
 g : h.get b = .cells 1 n (bb p n)
theorem BB.put {Hk h : Heap} {b n : Nat} {p : Nat → Bool} (t : BB Hk h b n p) (hb : Hk.size ≤ b) (hN : Hk.N ≤ b) {i : Nat} (hi : i < n) (v : Bool) : ∃ H,Eff.app (.put b n i [.bool v]) h = some H ∧ BB Hk H b n (fun t => if t = i then v else p t):=by
 have hNh : h.N ≤ b:=by rw [t.kp.N]; exact hN
 refine ⟨_,put_gen h b n i 1 _ _ hNh t.g (by rw [bb_len]; show i + 1 ≤ n; omega),t.kp.updn b _ hNh hb,?_⟩
 rw [upd_same _ _ _ hNh (get_lt t.g (by simp))]
 simp only [putAt]
 rw [bb_set _ hi]
theorem BB.ext {Hk h : Heap} {b n : Nat} {p r : Nat → Bool} (t : BB Hk h b n p) (e : ∀ u,u < n → p u = r u) : BB Hk h b n r:=⟨t.kp,by rw [← bb_ext e]; exact t.g⟩
section
variable {S : List (List Nat)}
def nq (S : List (List Nat)) (p : Nat → Bool) (i t u : Nat) : Bool:=if u < i then (S.getD u []).any p else if u = i then ((S.getD i []).take t).any p else false
end
section
variable {S : List (List Nat)}
end
section
variable {a : AR} {m : Int}
end
def Pre37 (b : ARm) (args : List AV) (h : Heap) : Prop:=(OkR b.a h ∧ b.a.rm b.m = true) ∧ args = [b.a.v,G b.m]
def Post37 (b : ARm) (h : Heap) (v : AV) (own : List AObj) : Prop:=v = G (lsV (b.a.steps b.m)) ∧ own = []
noncomputable def T55 : CallF:=addK tbl T54 37 Pre37 Post37
theorem t55 : Sound Go.Proofs.Try.prog T55:=Sound.addK follows ok t54 (by decide) _ _
end Go.Proofs.Ytljgfdamdcikgaa.Ev
set_option linter.unusedVariables false
set_option linter.unusedSimpArgs false
namespace Go.Proofs.Ytljgfdamdcikgaa.Ev
open Go Go.AEv
section
variable {S : List (List Nat)} {f k t u : Nat} {d : Nat → Nat} {U : List Nat}
theorem cy_ex : (∃ s,Rw S (s + 1) f f) → ∃ m,CY S f m:=by
 rintro ⟨s,w⟩
 induction s using Nat.strongRecOn with
 | _ s ih =>
  by_cases c : ∃ r,r < s ∧ Rw S (r + 1) f f
  ·obtain ⟨r,h1,h2⟩:=c
   exact ih r h1 h2
  ·refine ⟨s,w,fun r hr => ?_⟩
   apply Decidable.byContradiction
   intro h
   exact c ⟨r,by omega,hr⟩
structure O8 (S : List (List Nat)) (f : Nat) (d : Nat → Nat) (U : List Nat) (k t M o : Nat) : Prop where
 v : o = M ∨ ∃ i,i ∈ U ∧ o = d i + 1 ∧ f ∈ S.getD i []
 c : ∀ (j i : Nat),j < k → U[j]? = some i → f ∈ S.getD i [] → o ≠ 0 ∧ o ≤ d i + 1
 n : ∀ i,U[k]? = some i → f ∈ (S.getD i []).take t → o ≠ 0 ∧ o ≤ d i + 1
 m : M ≠ 0 → o ≠ 0 ∧ o ≤ M
theorem O8.skip {M o c : Nat} (l : O8 S f d U k t M o) (hu : U[k]? = some u) (hc : (S.getD u [])[t]? = some c) (hn : c ≠ f) : O8 S f d U k (t + 1) M o :=
 ⟨l.v,l.c,fun i hi h => by
  rw [hu] at hi; cases hi
  rw [take_s hc] at h
  rcases List.mem_append.1 h with a | a
  ·exact l.n u hu a
  ·exact absurd (List.mem_singleton.1 a).symm hn,l.m⟩
theorem O8.push {M o c : Nat} (l : O8 S f d U k t M o) (hk : k < U.length) (hc : c ∉ U) (w : Nat) : O8 S f (fun z => if z = c then w else d z) (U ++ [c]) k t M o:=by
 have old : ∀ z,z ∈ U → (if z = c then w else d z) = d z:=fun z hz => if_neg fun e => hc (by rw [← e]; exact hz)
 have mem : ∀ {j z : Nat},U[j]? = some z → z ∈ U:=fun h => List.mem_iff_getElem?.2 ⟨_,h⟩
 refine ⟨?_,fun j i hj hi hf => ?_,fun i hi hf => ?_,l.m⟩
 ·rcases l.v with h | ⟨i,h1,h2,h3⟩
  ·exact .inl h
  ·refine .inr ⟨i,List.mem_append_left _ h1,?_,h3⟩
   show o = (if i = c then w else d i) + 1
   rw [old i h1]; exact h2
 ·rw [List.getElem?_append_left (by omega)] at hi
  show o ≠ 0 ∧ o ≤ (if i = c then w else d i) + 1
  rw [old i (mem hi)]
  exact l.c j i hj hi hf
 ·rw [List.getElem?_append_left hk] at hi
  show o ≠ 0 ∧ o ≤ (if i = c then w else d i) + 1
  rw [old i (mem hi)]
  exact l.n i hi hf
theorem O8.next {M o : Nat} (l : O8 S f d U k t M o) (hu : U[k]? = some u) (ht : t = (S.getD u []).length) : O8 S f d U (k + 1) 0 M o :=
 ⟨l.v,fun j i hj hi hf => by
  by_cases e : j = k
  ·subst e
   rw [hu] at hi; cases hi
   exact l.n u hu (by rw [ht,List.take_length]; exact hf)
  ·exact l.c j i (by omega) hi hf,fun i _ h => by simp at h,l.m⟩
theorem BQ.key (b : BQ S f d U U.length 0) : ∀ r z,Rw S r f z → z ∈ U ∧ d z ≤ r:=fun r => by
 induction r with
 | zero =>
  intro z hz
  have e : f = z:=hz
  rw [← e]; exact ⟨b.fQ,by rw [b.f0]; exact Nat.le_refl _⟩
 | succ r ih =>
  intro z hz
  obtain ⟨y,h1,h2⟩:=hz.last
  obtain ⟨h3,h4⟩:=ih y h1
  obtain ⟨j,hj⟩:=List.mem_iff_getElem?.1 h3
  have hjl:=(List.getElem?_eq_some_iff.1 hj).1
  obtain ⟨h5,h6⟩:=b.ch j y hjl hj z h2
  exact ⟨h5,by omega⟩
theorem O8.done {M o : Nat} (b : BQ S f d U U.length 0) (l : O8 S f d U U.length 0 M o) (mc : MC S f M) : MC S (f + 1) o:=by
 by_cases c : ∃ s,Rw S (s + 1) f f
 ·obtain ⟨m,cy⟩:=cy_ex c
  have:=mc.put cy
  obtain ⟨y,h1,h2⟩:=cy.1.last
  obtain ⟨h3,h4⟩:=b.key m y h1
  obtain ⟨j,hj⟩:=List.mem_iff_getElem?.1 h3
  have h5:=l.c j y (List.getElem?_eq_some_iff.1 hj).1 hj h2
  have h6:=l.m
  have e : (if M = 0 ∨ m + 1 < M then m + 1 else M) = o:=by
   rcases l.v with h | ⟨i,a1,a2,a3⟩
   ·rw [if_neg (by omega)]; exact h.symm
   ·have:=cy.2 _ ((b.wk i a1).snoc a3)
    by_cases c2 : M = 0 ∨ m + 1 < M
    ·rw [if_pos c2]; omega
    ·rw [if_neg c2]
     have:=h6 (by omega)
     omega
  rw [e] at this
  exact this
 ·have nc : ∀ s,¬ Rw S (s + 1) f f:=fun s w => c ⟨s,w⟩
  rcases l.v with h | ⟨i,a1,a2,a3⟩
  ·rw [h]; exact mc.skip nc
  ·exact absurd ((b.wk i a1).snoc a3) (nc _)
end
end Go.Proofs.Ytljgfdamdcikgaa.Ev
set_option linter.unusedVariables false
set_option linter.unusedSimpArgs false
namespace Go.Proofs.Ytljgfdamdcikgaa.Ev
open Go Go.AEv
attribute [local simp] evFunc initS evOps_c evTrim_c evSkip_c evExit_c evRet_c evSeq_c evCond_c evBlock_c evDraw_c runOps_n runOps_c exec_n exec_g pure1_c act AOpd.ev T.get T.set T.put evBin evUn forceT_eq forceV_eq forceL_eq evRess evRes one keep runFP_n runFP_c app_none AV.flats AV.flat came_some List.getElem?_cons_zero List.getElem?_cons_succ beqT wrapI idxI tdivI tmodI decT decF ibT ibF inT inF evScope_c if_pos if_neg Cm_some thenW_n thenW_e thenW_r blkW_n blkW_e blkW_r goI kn putAt AV.cells fillA loadA takeA mk Eff.isAll Eff.isNone Eff.commutes Eff.spares okPair apart eqAgg fits LK.fits allEq aveq eqk mmA
section
variable {S : List (List Nat)} {f : Nat}
structure M8 (Hk : Heap) (n : Nat) (b : Nat) (far : Nat → Nat) (xq : AV) (U : List Nat) (h : Heap) : Prop where
 kf : Kp (fun _ => False) Hk h
 gf : h.get b = .cells 1 n (gn (lN far n))
 lq : ∃ bq,xq = .slice bq 0 U.length U.length ∧ h.get bq = .cells 1 U.length (gn U) ∧ Hk.size ≤ bq ∧ bq ≠ b
theorem M8.set {Hk h : Heap} {n b : Nat} {far : Nat → Nat} {xq : AV} {U : List Nat} (r : M8 Hk n b far xq U h) (hb : Hk.size ≤ b) (hN : Hk.N ≤ b) {c : Nat} (hc : c < n) (v : Nat) : ∃ H,Eff.app (.put b n c [G v]) h = some H ∧ M8 Hk n b (fun z => if z = c then v else far z) xq U H:=by
 have hNh : h.N ≤ b:=by rw [r.kf.N]; exact hN
 obtain ⟨bq,e1,e2,e3,e4⟩:=r.lq
 refine ⟨_,put_gen h b n c 1 _ _ hNh r.gf (by rw [lN_len]; show c + 1 ≤ n; omega),r.kf.updn b _ hNh hb,?_,bq,e1,?_,e3,e4⟩
 ·rw [upd_same _ _ _ hNh (get_lt r.gf (by simp))]
  simp only [putAt]
  rw [lN_set _ hc]
 ·rw [upd_ne _ _ _ _ hNh e4.symm]; exact e2
theorem M8.push {Hk h : Heap} {n b : Nat} {far : Nat → Nat} {xq : AV} {U : List Nat} (k0 : Nat) (r : M8 Hk n b far xq U h) (hkN : Hk.N ≤ Hk.size) (c : Nat) (hn : U.length ≤ 1000) :
  ∃ x1 e H,appA (h.plus [.cells 1 1 [G c]]) k0 none 1 8 1 [G c] xq = some (x1,e) ∧ Eff.app e (h.plus [.cells 1 1 [G c]]) = some H ∧ M8 Hk n b far x1 (U ++ [c]) H:=by
 obtain ⟨bq,rfl,e2,e3,e4⟩:=r.lq
 have g2:=plus_keep [.cells 1 1 [G (c : Int)]] e2 (by simp)
 have hN' : (h.plus [.cells 1 1 [G (c : Int)]]).N ≤ bq:=by rw [plus_N,r.kf.N]; omega
 have x:=ext_gen (h.plus [.cells 1 1 [G (c : Int)]]) bq U.length 1 (gn U) [G c] hN' g2 (gn_len U)
 have blt:=get_lt e2 (by simp)
 refine ⟨.slice bq 0 (U.length + 1) (U.length + 1),.ext bq U.length 1 [G c],_,?_,x,(r.kf.trans (Kp.plus _ _)).updn _ _ hN' e3,?_,bq,by simp,?_,e3,e4⟩
 ·simp only [appA,Nat.mul_one,Nat.one_mul]
  rw [if_neg (by decide),if_pos ⟨trivial,by simp,by omega⟩]
 ·rw [upd_ne _ _ _ _ hN' e4]; exact plus_keep _ r.gf (by simp)
 ·rw [upd_same _ _ _ hN' (by rw [plus_size]; omega),gn_app]
  simp [gn_len]
end
section
variable {S : List (List Nat)} {f : Nat}
end
section
variable {a : AR} {m : Int}
end
def Post38 (b : ARm) (h : Heap) (v : AV) (own : List AObj) : Prop:=∃ z : Nat,v = G z ∧ own = [] ∧ MC (b.a.steps b.m) (b.a.steps b.m).length z
noncomputable def T56 : CallF:=addK tbl T55 38 Pre37 Post38
theorem t56 : Sound Go.Proofs.Try.prog T56:=Sound.addK follows ok t55 (by decide) _ _
end Go.Proofs.Ytljgfdamdcikgaa.Ev
