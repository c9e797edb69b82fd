/-
 Of the functions that this law reaches,part 1: what they answer. No condition.
-/
import Derived.Test.YtljgfdamdcikgaaRP0
set_option linter.unusedVariables false
set_option linter.unusedSimpArgs false
namespace Go.Proofs.Ytljgfdamdcikgaa.Ev
open Go Go.AEv
attribute [local simp] evFunc initS evOps_c evTrim_c evSkip_c evExit_c evRet_c evSeq_c evCond_c evBlock_c evDraw_c runOps_n runOps_c exec_n exec_g pure1_c act AOpd.ev T.get T.set T.put evBin evUn forceT_eq forceV_eq forceL_eq evRess evRes one keep runFP_n runFP_c app_none AV.flats AV.flat came_some List.getElem?_cons_zero List.getElem?_cons_succ beqT wrapI idxI tdivI tmodI decT decF ibT ibF inT inF evScope_c if_pos if_neg Cm_some thenW_n thenW_e thenW_r blkW_n blkW_e blkW_r goI kn putAt AV.cells fillA loadA takeA mk Eff.isAll Eff.isNone Eff.commutes Eff.spares okPair apart eqAgg fits LK.fits allEq aveq eqk mmA
structure NV (H0 h : Heap) (x : AV) (L : List AV) : Prop where
 k : Kp (fun _ => False) H0 h
 x0 : ∀ q,blk x = some q → H0.size ≤ q
 l : LV h x L
theorem NV.nil (H0 : Heap) : NV H0 H0 .nils []:=⟨Kp.refl _,fun _ e => (by cases e),LV.nil _⟩
theorem NV.kp {H0 h h' : Heap} {x : AV} {L : List AV} (t : NV H0 h x L) (k : Kp (fun _ => False) h h') : NV H0 h' x L:=⟨t.k.trans k,t.x0,t.l.kp k (fun _ _ => id)⟩
theorem NV.app {H0 h : Heap} (h0 bytes : Nat) {x : AV} {L : List AV} (t : NV H0 h x L) (z : AV) (hn : (L.length + 1) * bytes ≤ 1099511627776) :
  ∃ x1 e h2,appA (h.plus [.cells 1 1 [z]]) h0 none 1 bytes 1 [z] x = some (x1,e) ∧ Eff.app e (h.plus [.cells 1 1 [z]]) = some h2 ∧ NV H0 h2 x1 (L ++ [z]) ∧ AV.cells x1 = some [x1]:=by
 have k1 : Kp (fun _ => False) h (h.plus [.cells 1 1 [z]]):=Kp.plus _ _
 obtain ⟨x1,e,h2,q1,q2,q3,q4,q5,q6⟩:=app_v (h.plus [.cells 1 1 [z]]) h0 bytes z (t.l.kp k1 (fun _ _ => id)) hn
 refine ⟨x1,e,h2,q1,q2,⟨(t.k.trans k1).late q4 t.x0,fun q hq => ?_,q3⟩,q6⟩
 rcases q5 with h' | ⟨_,h'⟩
 ·rw [h'] at hq; exact t.x0 q hq
 ·rw [h'] at hq; cases hq; have:=t.k.size; have:=k1.size; omega
theorem NV.base {H0 H1 H : Heap} {x : AV} {L : List AV} (k : Kp (fun _ => False) H0 H1) (t : NV H1 H x L) : NV H0 H x L:=⟨k.trans t.k,fun q hq => Nat.le_trans k.size (t.x0 q hq),t.l⟩
def xtL (q : Nat) (L : List (List Nat)) : List (List Nat):=L.flatMap fun t => (List.range q).map fun c => t ++ [c]
def xtP (q : Nat) (B : List (List Int)) (L : List (List Nat)) (k c : Nat) : List (List Nat):=(xtL q (L.take k)).filter (bsd B) ++ ((List.range c).map fun c => L.getD k [] ++ [c]).filter (bsd B)
theorem xtP_c (q : Nat) (B : List (List Int)) (L : List (List Nat)) (k c : Nat) : xtP q B L k (c + 1) = xtP q B L k c ++ if bsd B (L.getD k [] ++ [c]) then [L.getD k [] ++ [c]] else []:=by
 unfold xtP
 rw [List.range_succ,List.map_append,List.filter_append,List.append_assoc,List.map_singleton,List.filter_cons]
 cases bsd B (L.getD k [] ++ [c]) <;> rfl
theorem xtP_k (q : Nat) (B : List (List Int)) (L : List (List Nat)) {k : Nat} (hk : k < L.length) : xtP q B L (k + 1) 0 = xtP q B L k q:=by
 unfold xtP xtL
 rw [List.take_add_one,List.getElem?_eq_getElem hk,List.flatMap_append,List.filter_append]
 simp [List.getD_eq_getElem?_getD,List.getElem?_eq_getElem hk]
theorem xtP_0 (q : Nat) (B : List (List Int)) (L : List (List Nat)) : xtP q B L 0 0 = []:=by simp [xtP,xtL]
theorem xtP_n (q : Nat) (B : List (List Int)) (m : Nat) : xtP q B (rwL q B m) (rwL q B m).length 0 = rwL q B (m + 1):=by
 rw [rwL_succ]
 simp [xtP,xtL]
theorem xtL_len (q : Nat) : ∀ L : List (List Nat),(xtL q L).length = L.length * q
 | [] => by simp [xtL]
 | t :: L => by
  have:=xtL_len q L
  unfold xtL at *
  rw [List.flatMap_cons,List.length_append,this,List.length_map,List.length_range,List.length_cons,Nat.succ_mul,Nat.add_comm]
theorem xtP_len (q : Nat) (B : List (List Int)) (L : List (List Nat)) {k c : Nat} (hc : c ≤ q) (hq : q ≤ 3) (hL : L.length ≤ 243) : (xtP q B L k c).length ≤ 1000:=by
 unfold xtP
 rw [List.length_append]
 have a:=List.length_filter_le (bsd B) (xtL q (L.take k))
 have b:=List.length_filter_le (bsd B) ((List.range c).map fun c => L.getD k [] ++ [c])
 rw [xtL_len,List.length_take] at a
 rw [List.length_map,List.length_range] at b
 have : min k L.length * q ≤ 243 * 3:=Nat.mul_le_mul (by omega) hq
 omega
theorem wsL_app (L : List (List Nat)) (w : List Nat) : wsL (L ++ [w]) = wsL L ++ [.str (stW w)]:=by simp [wsL]
section
variable {a : AG} {S : Nat}
abbrev G30 (a : AG) (S : Nat) (h : Heap) : Prop:=h.get S = .cells 0 3 [G a.q,a.x,a.y]
theorem c30_l0_ok (J : CallF) (k68 : KW 68 J) {H0 : Heap} (o : OkG a H0) (gS : G30 a S H0) {bx v i : Nat} {L : List (List Nat)} (gb : H0.get bx = .cells 1 v (wsL L)) (hL : L.length ≤ 243) {k mm : Nat} (hk : k < L.length) (rk : ∀ c ∈ L.getD k [],c < a.q) (lk : (L.getD k []).length ≤ 5) :
  Tr tbl J c30_l0 (fun s h => ∃ y,NV H0 h y (wsL (xtP a.q a.B L k 0)) ∧ s.get [false] = G mm ∧ s.get [true] = .ptr S 0 3 ∧ s.get [false,true] = .slice bx 0 L.length v ∧ s.get [true,true] = G i ∧ s.get [false,false,false] = y ∧ s.get [true,false,false] = G k ∧ s.get [false,true,false] = G ((0 : Nat) : Int)) (.exit 4)
   (fun s h => ∃ y,NV H0 h y (wsL (xtP a.q a.B L k a.q)) ∧ s.get [false] = G mm ∧ s.get [true] = .ptr S 0 3 ∧ s.get [false,true] = .slice bx 0 L.length v ∧ s.get [true,true] = G i ∧ s.get [false,false,false] = y ∧ s.get [true,false,false] = G k):=by
 have q3:=o.q1
 refine Tr.rounds (e:=.exit 4) (P:=fun c s h => ∃ y,NV H0 h y (wsL (xtP a.q a.B L k c)) ∧ s.get [false] = G mm ∧ s.get [true] = .ptr S 0 3 ∧ s.get [false,true] = .slice bx 0 L.length v ∧ s.get [true,true] = G i ∧ s.get [false,false,false] = y ∧ s.get [true,false,false] = G k ∧ s.get [false,true,false] = G c) (M:=a.q) (fun c hc => ?_) ?_ (by simp) 0 (by omega)
 ·refine Tr.w fun s1 H1 hp _ kR => W.trim ?_
  obtain ⟨y,nv,q⟩:=hp
  have gS1:=nv.k.at gS (by simp) id
  have gb1:=nv.k.at gb (by simp) id
  have bl:=get_lt gb1 (by simp)
  have Sl:=get_lt gS1 (by simp)
  have wk:=wsL_at hk
  have wk':=getI wk
  have lw:=wsL_len L
  have ka : Kp (fun _ => False) H1 (H1.plus [.cells 1 1 [.int .u8 (48 + c)]]):=Kp.plus _ _
  have kc:=k68 (H1.plus [.cells 1 1 [.int .u8 (48 + c)]]) a (L.getD k [] ++ [c]) ((o.kp nv.k).kp ka) (fun d hd => by
   rcases List.mem_append.1 hd with hd | hd
   ·exact rk d hd
   ·rw [List.mem_singleton.1 hd]; exact hc) (by rw [List.length_append,List.length_singleton]; omega)
  have xs:=xtP_c a.q a.B L k c
  have xl:=xtP_len a.q a.B L (k:=k) (c:=c) (by omega) q3.2 hL
  obtain ⟨x1,e,H2,q1,q2,nv2,q4⟩:=(nv.kp ka).app (H1.plus [.cells 1 1 [.int .u8 (48 + c)]]).size 16 (.str (stW (L.getD k [] ++ [c]))) (by rw [wsL_len]; omega)
  rw [← wsL_app] at nv2
  have nv3:=nv.kp ka
  have fl : Eff.app (.fill H1.size (.cells 1 1 [.int .u8 (48 + c)])) (H1.plus [.hole]) = some (H1.plus [.cells 1 1 [.int .u8 (48 + c)]]):=fill_plus0 _ _ rfl _ _
  have vb:=fun xs => plus_keep (h:=H1) xs gb1 (by simp)
  have ls : (stW (L.getD k [])).length ≤ 5:=by rw [stW_len]; exact lk
  have sa:=stW_add (L.getD k []) c
  have w8 : IntKind.u8.wrap (48 + (c : Int)) = 48 + c:=by unfold IntKind.wrap IntKind.bits IntKind.signed; simp; omega
  have nu : UInt8.ofNat ((48 : Int) + c).toNat = UInt8.ofNat (48 + c):=by rw [show ((48 : Int) + c).toNat = 48 + c by omega]
  have nu2 : (48 : UInt8) + UInt8.ofNat c = UInt8.ofNat (48 + c):=by rw [UInt8.ofNat_add]; rfl
  have gS2:=plus_keep (h:=H1) [.cells 1 1 [.int .u8 (48 + c)]] gS1 (by simp)
  rw [sa] at q1 q2 kc
  simp only [xs] at kR
  have e0 : (H1.plus [.cells 1 1 [.int .u8 (48 + c)]]).get H1.size = .cells 1 1 [.int .u8 (48 + c)]:=plus_at0 _ _ _ _ rfl
  clear nv xs rk lk o gS gb sa ka
  generalize stW (L.getD k []) = w at *
  generalize UInt8.ofNat (48 + c) = u at *
  cases hb : bsd a.B (L.getD k [] ++ [c])
  ·rw [hb] at kc kR
   rw [if_neg (by simp),List.append_nil] at kR
   clear nv2 q1 q2 hb
   generalize L.length = n at *
   refine W.assoc ?_
   refine zCh ?_
   simp (disch:=first|omega|exact zE rfl|exact zO|exact zL rfl) [c30_o8,zG,q,gS1]
   refine zCh ?_
   simp (disch:=first|omega|exact zE rfl|exact zO|exact zL rfl) [zG,q]
   refine W.seq (W.block ?_)
   refine zCh ?_
   simp (disch:=first|omega|exact zE rfl|exact zO|exact zL rfl) [-evDraw_c,c30_o9,zG,q,evDraw_k,gb1,vb,wk,wk',lw,fl,w8,nu,nu2,e0,isStrA,elems,bytesN,rdOf,ls]
   refine zCh ?_
   simp (disch:=first|omega|exact zE rfl|exact zO|exact zL rfl) [c30_o10,zG,q,gS2,kc]
   refine W.chunk ?_
   simp (disch:=first|omega|exact zE rfl|exact zO|exact zL rfl) [c30_o11,zG,q]
   refine W.chunk ?_
   simp (disch:=first|omega|exact zE rfl|exact zO|exact zL rfl) [c30_o12,zG,q]
   exact kR _ _ ⟨_,nv3,by simp [T.get,q]⟩
  ·rw [hb] at kc kR
   rw [if_pos rfl] at kR
   clear nv3 hb
   generalize L.length = n at *
   refine W.assoc ?_
   refine zCh ?_
   simp (disch:=first|omega|exact zE rfl|exact zO|exact zL rfl) [c30_o8,zG,q,gS1]
   refine zCh ?_
   simp (disch:=first|omega|exact zE rfl|exact zO|exact zL rfl) [zG,q]
   refine W.seq (W.block ?_)
   refine zCh ?_
   simp (disch:=first|omega|exact zE rfl|exact zO|exact zL rfl) [-evDraw_c,c30_o9,zG,q,evDraw_k,gb1,vb,wk,wk',lw,fl,w8,nu,nu2,e0,isStrA,elems,bytesN,rdOf,ls]
   refine zCh ?_
   simp (disch:=first|omega|exact zE rfl|exact zO|exact zL rfl) [c30_o10,zG,q,gS2,kc]
   refine W.chunk ?_
   simp (disch:=first|omega|exact zE rfl|exact zO|exact zL rfl) [c30_o11,zG,q,q1,q2,app1_at,elems,rdOf]
   refine W.chunk ?_
   simp (disch:=first|omega|exact zE rfl|exact zO|exact zL rfl) [c30_o12,zG,q]
   exact kR _ _ ⟨_,nv2,by simp [T.get,q]⟩
 ·refine Tr.w fun s1 H1 hp _ kR => W.trim ?_
  obtain ⟨y,nv,q⟩:=hp
  have gS1:=nv.k.at gS (by simp) id
  clear o gS gb rk
  generalize L.length = n at *
  refine W.assoc ?_
  refine zCh ?_
  simp (disch:=first|omega|exact zE rfl|exact zO|exact zL rfl) [c30_o8,zG,q,gS1]
  refine zCh ?_
  simp (disch:=first|omega|exact zE rfl|exact zO|exact zL rfl) [zG,q]
  exact kR _ _ ⟨_,nv,by simp [T.get,q]⟩
theorem c30_l1_ok (J : CallF) (k68 : KW 68 J) {H0 : Heap} (o : OkG a H0) (gS : G30 a S H0) {bx v i : Nat} {L : List (List Nat)} (gb : H0.get bx = .cells 1 v (wsL L)) (hL : L.length ≤ 243) {mm : Nat} (rk : ∀ k,k < L.length → (∀ c ∈ L.getD k [],c < a.q) ∧ (L.getD k []).length ≤ 5) :
  Tr tbl J c30_l1 (fun s h => h = H0 ∧ s.get [false] = G mm ∧ s.get [true] = .ptr S 0 3 ∧ s.get [false,true] = .slice bx 0 L.length v ∧ s.get [true,true] = G i ∧ s.get [false,false,false] = .nils ∧ s.get [true,false,false] = G ((0 : Nat) : Int)) (.exit 2)
   (fun s h => ∃ y,NV H0 h y (wsL (xtP a.q a.B L L.length 0)) ∧ s.get [false] = G mm ∧ s.get [true] = .ptr S 0 3 ∧ s.get [true,true] = G i ∧ s.get [false,false,false] = y):=by
 refine Tr.pre (P:=fun s h => ∃ y,NV H0 h y (wsL (xtP a.q a.B L 0 0)) ∧ s.get [false] = G mm ∧ s.get [true] = .ptr S 0 3 ∧ s.get [false,true] = .slice bx 0 L.length v ∧ s.get [true,true] = G i ∧ s.get [false,false,false] = y ∧ s.get [true,false,false] = G ((0 : Nat) : Int)) (fun s h hp => ⟨.nils,by rw [hp.1,xtP_0]; exact NV.nil H0,hp.2⟩) ?_
 refine Tr.rounds (e:=.exit 2) (P:=fun k s h => ∃ y,NV H0 h y (wsL (xtP a.q a.B L k 0)) ∧ s.get [false] = G mm ∧ s.get [true] = .ptr S 0 3 ∧ s.get [false,true] = .slice bx 0 L.length v ∧ s.get [true,true] = G i ∧ s.get [false,false,false] = y ∧ s.get [true,false,false] = G k) (M:=L.length) (fun k hk => ?_) ?_ (by simp) 0 (by omega)
 ·refine Tr.w fun s1 H1 hp _ kR => W.trim ?_
  obtain ⟨y,nv,q⟩:=hp
  have l0:=c30_l0_ok (i:=i) (mm:=mm) J k68 o gS gb hL hk (rk k hk).1 (rk k hk).2
  have ek:=xtP_k a.q a.B L hk
  simp only [ek] at kR
  have ex : ∃ y,NV H0 H1 y (wsL (xtP a.q a.B L k 0)) ∧ G mm = G mm ∧ y = y:=⟨y,nv,rfl,rfl⟩
  clear ek rk gS o gb
  generalize L.length = n at *
  refine W.assoc ?_
  refine zCh ?_
  simp (disch:=first|omega|exact zE rfl|exact zO|exact zL rfl) [c30_o6,zG,q]
  refine zCh ?_
  simp (disch:=first|omega|exact zE rfl|exact zO|exact zL rfl) [zG,q]
  refine W.seq (W.block ?_)
  refine zCh ?_
  simp (disch:=first|omega|exact zE rfl|exact zO|exact zL rfl) [c30_o7,zG,q]
  refine W.block ?_
  refine W.use (l0) (by simp (disch:=first|omega|exact zE rfl|exact zO|exact zL rfl) [zG,q,nv]) fun s1 H1 hp => ?_
  obtain ⟨y2,nv2,q⟩:=hp
  try simp only [zW,if_true]
  refine W.chunk ?_
  simp (disch:=first|omega|exact zE rfl|exact zO|exact zL rfl) [c30_o13,zG,q]
  exact kR _ _ ⟨_,nv2,by simp [T.get,q]⟩
 ·refine Tr.w fun s1 H1 hp _ kR => W.trim ?_
  obtain ⟨y,nv,q⟩:=hp
  clear o gS gb rk
  generalize L.length = n at *
  refine W.assoc ?_
  refine zCh ?_
  simp (disch:=first|omega|exact zE rfl|exact zO|exact zL rfl) [c30_o6,zG,q]
  refine zCh ?_
  simp (disch:=first|omega|exact zE rfl|exact zO|exact zL rfl) [zG,q]
  exact kR _ _ ⟨_,nv,by simp [T.get,q]⟩
theorem c30_l2_ok (J : CallF) (k68 : KW 68 J) {H0 : Heap} (o : OkG a H0) (gS : G30 a S H0) {mm : Nat} (m5 : mm ≤ 5) :
  Tr tbl J c30_l2 (fun s h => ∃ y,NV H0 h y (wsL (rwL a.q a.B 0)) ∧ s.get [false] = G mm ∧ s.get [true] = .ptr S 0 3 ∧ s.get [false,true] = y ∧ s.get [true,true] = G ((0 : Nat) : Int)) (.exit 0)
   (fun s h => ∃ y,NV H0 h y (wsL (rwL a.q a.B mm)) ∧ s.get [false,true] = y):=by
 have q3:=o.q1
 refine Tr.rounds (e:=.exit 0) (P:=fun i s h => ∃ y,NV H0 h y (wsL (rwL a.q a.B i)) ∧ s.get [false] = G mm ∧ s.get [true] = .ptr S 0 3 ∧ s.get [false,true] = y ∧ s.get [true,true] = G i) (M:=mm) (fun i hi => ?_) ?_ (by simp) 0 (by omega)
 ·refine Tr.w fun s1 H1 hp _ kR => W.trim ?_
  obtain ⟨y,nv,q⟩:=hp
  have kk:=nv.k
  have small:=rwL_small (m:=i) (B:=a.B) q3.2 (by omega)
  have lv:=nv.l
  have en:=xtP_n a.q a.B i
  have lw:=wsL_len (rwL a.q a.B i)
  have e0 : rwL a.q a.B (i + 1) = if rwL a.q a.B i = [] then [] else rwL a.q a.B (i + 1):=by
   split
   ·rename_i h0; rw [← en,h0]; simp [xtP,xtL]
   ·rfl
  rcases lv with ⟨rfl,e⟩ | ⟨b,rfl,g,_⟩
  ·have hz : rwL a.q a.B i = []:=by simpa [wsL] using e
   rw [hz,if_pos rfl] at e0
   simp only [e0] at kR
   have nv0 : NV H0 H1 .nils (wsL []):=NV.base kk (NV.nil H1)
   clear nv e0 en o gS
   have l1 : Tr tbl J c30_l1 (fun s h => h = H1 ∧ s.get [false] = G mm ∧ s.get [true] = .ptr S 0 3 ∧ s.get [false,true] = .nils ∧ s.get [true,true] = G i ∧ s.get [false,false,false] = .nils ∧ s.get [true,false,false] = G 0) (.exit 2) (fun s h => h = H1 ∧ s.get [false] = G mm ∧ s.get [true] = .ptr S 0 3 ∧ s.get [true,true] = G i ∧ s.get [false,false,false] = .nils):=by
    refine Tr.out ?_ (by simp)
    refine Tr.w fun s1 H1 hp _ kR => W.trim ?_
    obtain ⟨rfl,q⟩:=hp
    refine W.assoc ?_
    refine zCh ?_
    simp (disch:=first|omega|exact zE rfl|exact zO|exact zL rfl) [c30_o6,zG,q]
    refine zCh ?_
    simp (disch:=first|omega|exact zE rfl|exact zO|exact zL rfl) [zG,q]
    exact kR _ _ (by simp [T.get,q])
   refine W.assoc ?_
   refine zCh ?_
   simp (disch:=first|omega|exact zE rfl|exact zO|exact zL rfl) [c30_o3,zG,q]
   refine zCh ?_
   simp (disch:=first|omega|exact zE rfl|exact zO|exact zL rfl) [zG,q]
   refine W.seq (W.block ?_)
   refine zCh ?_
   simp (disch:=first|omega|exact zE rfl|exact zO|exact zL rfl) [c30_o4,zG,q]
   refine W.assoc ?_
   refine zCh ?_
   simp (disch:=first|omega|exact zE rfl|exact zO|exact zL rfl) [c30_o5,zG,q]
   refine W.seq (W.block ?_)
   refine W.use (l1) (by simp (disch:=first|omega|exact zE rfl|exact zO|exact zL rfl) [zG,q]) fun s1 H1 hp => ?_
   obtain ⟨rfl,q⟩:=hp
   try simp only [zW,if_true]
   refine W.chunk ?_
   simp (disch:=first|omega|exact zE rfl|exact zO|exact zL rfl) [c30_o14,zG,q]
   refine W.chunk ?_
   simp (disch:=first|omega|exact zE rfl|exact zO|exact zL rfl) [c30_o15,zG,q]
   exact kR _ _ ⟨_,nv0,by simp [T.get,q]⟩
  ·rw [lw] at g
   have l1:=c30_l1_ok (i:=i) (mm:=mm) J k68 (o.kp kk) (kk.at gS (by simp) id) g small (fun k hk => by
    have:=rows_ok (B:=a.B) k hk
    exact ⟨this.2,by omega⟩)
   rw [en] at l1
   rw [lw] at q
   clear nv e0 en o gS
   generalize (rwL a.q a.B i).length = n at *
   refine W.assoc ?_
   refine zCh ?_
   simp (disch:=first|omega|exact zE rfl|exact zO|exact zL rfl) [c30_o3,zG,q]
   refine zCh ?_
   simp (disch:=first|omega|exact zE rfl|exact zO|exact zL rfl) [zG,q]
   refine W.seq (W.block ?_)
   refine zCh ?_
   simp (disch:=first|omega|exact zE rfl|exact zO|exact zL rfl) [c30_o4,zG,q]
   refine W.assoc ?_
   refine zCh ?_
   simp (disch:=first|omega|exact zE rfl|exact zO|exact zL rfl) [c30_o5,zG,q]
   refine W.seq (W.block ?_)
   refine W.use (l1) (by simp (disch:=first|omega|exact zE rfl|exact zO|exact zL rfl) [zG,q]) fun s1 H1 hp => ?_
   obtain ⟨y2,nv2,q⟩:=hp
   try simp only [zW,if_true]
   refine W.chunk ?_
   simp (disch:=first|omega|exact zE rfl|exact zO|exact zL rfl) [c30_o14,zG,q]
   refine W.chunk ?_
   simp (disch:=first|omega|exact zE rfl|exact zO|exact zL rfl) [c30_o15,zG,q]
   exact kR _ _ ⟨_,nv2.base kk,by simp [T.get,q]⟩
 ·refine Tr.w fun s1 H1 hp _ kR => W.trim ?_
  obtain ⟨y,nv,q⟩:=hp
  clear o gS
  refine W.assoc ?_
  refine zCh ?_
  simp (disch:=first|omega|exact zE rfl|exact zO|exact zL rfl) [c30_o3,zG,q]
  refine zCh ?_
  simp (disch:=first|omega|exact zE rfl|exact zO|exact zL rfl) [zG,q]
  exact kR _ _ ⟨_,nv,by simp [T.get,q]⟩
theorem NV.rv {H0 h : Heap} {x : AV} {L : List AV} (t : NV H0 h x L) : RV h x L:=t.l.rv
theorem RV.fr {h H' : Heap} {x : AV} {L : List AV} (t : RV H' x L) (k : Kp (fun _ => False) (frameOf h) H') : RV (h.plus (if (one [x]).flat then [] else H'.own)) x L:=by
 split
 ·rename_i hf
  rcases t with ⟨rfl,e2⟩ | ⟨b,v,rfl,g⟩
  ·exact .inl ⟨rfl,e2⟩
  ·simp [one,AV.flat,AV.flats] at hf
 ·have e:=Kp.own k
  exact t.congr fun b => by rw [e]; exact fr_get h _ b
theorem c30_ok (J : CallF) (k68 : KW 68 J) (hJ : ∀ a h,J 30 a h = none) (h : Heap) (o : OkG a h) {m : Nat} (m5 : m ≤ 5) : ∃ v own,CallsTo tbl J 30 [a.v,G m] h (v,own,false) ∧ RV (h.plus own) v (wsL (rwL a.q a.B m)) ∧ ∀ b,blk v = some b → h.size ≤ b:=by
 refine Tr.fny (cf:=c30) (e:=.ret) (s:=T.set (T.set .leaf [] a.v) [false] (G m)) (by decide) rfl (hJ _ _) rfl rfl (by simp) ?_
 have oH:=o.lo [.cells 0 3 [G a.q,a.x,a.y]]
 have gS : G30 a h.size ⟨h.get,h.size,[.cells 0 3 [G a.q,a.x,a.y]]⟩:=by show Heap.get _ _ = _; rw [get_mk_ge _ _ _ _ (Nat.le_refl _),Nat.sub_self]; rfl
 have l2:=c30_l2_ok J k68 oH gS m5
 have nv0 : NV ⟨h.get,h.size,[.cells 0 3 [G a.q,a.x,a.y]]⟩ ⟨h.get,h.size,[.cells 0 3 [G a.q,a.x,a.y],.cells 1 1 [.str []]]⟩ (.slice (h.size + 1) 0 1 1) (wsL (rwL a.q a.B 0)):=by
  refine ⟨Kp.plus ⟨h.get,h.size,[.cells 0 3 [G a.q,a.x,a.y]]⟩ [.cells 1 1 [.str []]],fun b e => by cases e; exact Nat.le_refl _,.inr ⟨h.size + 1,rfl,?_,Nat.le_succ _⟩⟩
  rw [get_mk_ge _ _ _ _ (by omega),Nat.add_sub_cancel_left]; rfl
 have kb : Kp (fun _ => False) (frameOf h) ⟨h.get,h.size,[.cells 0 3 [G a.q,a.x,a.y]]⟩:=Kp.plus (frameOf h) [.cells 0 3 [G a.q,a.x,a.y]]
 have nv0' : ∃ y,NV ⟨h.get,h.size,[.cells 0 3 [G a.q,a.x,a.y]]⟩ ⟨h.get,h.size,[.cells 0 3 [G a.q,a.x,a.y],.cells 1 1 [.str []]]⟩ y (wsL (rwL a.q a.B 0)) ∧ AV.slice (h.size + 1) 0 1 1 = y:=⟨_,nv0,rfl⟩
 clear o oH gS
 refine Tr.w fun s1 H1 hp _ kR => ?_
 obtain ⟨rfl,rfl⟩:=hp
 have q : True:=trivial
 refine zCh ?_
 simp (disch:=first|omega|exact zE rfl|exact zO|exact zL rfl) [c30_o0,size_mk,get_mk_lt,get_mk_ge,frameOf,Eff.app,Heap.setOwn,q]
 refine zCh ?_
 simp (disch:=first|omega|exact zE rfl|exact zO|exact zL rfl) [c30_o1,size_mk,get_mk_lt,get_mk_ge,frameOf,Eff.app,Heap.setOwn,q]
 refine W.assoc ?_
 refine zCh ?_
 simp (disch:=first|omega|exact zE rfl|exact zO|exact zL rfl) [c30_o2,size_mk,get_mk_lt,get_mk_ge,frameOf,Eff.app,Heap.setOwn,q]
 refine W.seq (W.block ?_)
 refine W.use (l2) (by simp (disch:=first|omega|exact zE rfl|exact zO|exact zL rfl) [size_mk,get_mk_lt,get_mk_ge,frameOf,Eff.app,Heap.setOwn,q,nv0]) fun s1 H1 hp => ?_
 obtain ⟨y,nv,q⟩:=hp
 try simp only [zW,if_true]
 refine zCh ?_
 simp (disch:=first|omega|exact zE rfl|exact zO|exact zL rfl) [c30_o16,size_mk,get_mk_lt,get_mk_ge,frameOf,Eff.app,Heap.setOwn,q]
 refine W.ret ?_
 try simp only [zW,if_true]
 have nb:=nv.base kb
 refine kR _ _ ?_
 refine ⟨[y],by simp [T.get,c30,evRess,evRes,q],nb.rv.fr nb.k,fun b e => nb.x0 b e⟩
end
def Pre30 (b : AM) (args : List AV) (h : Heap) : Prop:=(OkG b.a h ∧ b.m ≤ 5) ∧ args = [b.a.v,G b.m]
def Post30 (b : AM) (h : Heap) (v : AV) (own : List AObj) : Prop:=RV (h.plus own) v (wsL (rwL b.a.q b.a.B b.m)) ∧ ∀ c,blk v = some c → h.size ≤ c
noncomputable def T24 : CallF:=addK tbl T23 30 Pre30 Post30
theorem t24 : Sound Go.Proofs.Try.prog T24:=Sound.addK follows ok t23 (by decide) _ _
abbrev K30 (J : CallF) : Prop:=∀ (h : Heap) (a : AG) (m : Nat),OkG a h → m ≤ 5 → ∃ v own,J 30 [a.v,G m] h = some (v,own,false) ∧ RV (h.plus own) v (wsL (rwL a.q a.B m)) ∧ ∀ c,blk v = some c → h.size ≤ c
theorem k68_23 : KW 68 T23:=fun h a w o hw lw => by
 have e:=k68 h a w o hw lw
 rw [show T23 68 [a.v,.str (stW w)] h = T14 68 [a.v,.str (stW w)] h from by simp (disch:=decide) only [T1,T2,T3,T4,T5,T6,T7,T8,T9,T10,T11,T12,T13,T14,T15,T16,T17,T18,T19,T20,T21,T22,T23,addI_ne,addX_ne,addV_ne,addK_ne]]
 exact e
theorem k30 : K30 T24:=fun h a m o m5 => by
 obtain ⟨v,own,e,l⟩:=addK_some (Pre:=Pre30) (Post:=Post30) (fun b args h hp => by
  obtain ⟨⟨h1,h2⟩,rfl⟩:=hp
  exact c30_ok T23 k68_23 (fun _ _ => by simp (disch:=decide) only [T1,T2,T3,T4,T5,T6,T7,T8,T9,T10,T11,T12,T13,T14,T15,T16,T17,T18,T19,T20,T21,T22,T23,addI_ne,addX_ne,addV_ne,addK_ne]; rfl) h h1 h2) ⟨a,m⟩ _ h ⟨⟨o,m5⟩,rfl⟩
 exact ⟨v,own,e,l⟩
section
variable {a : AG} {S : Nat} {bx v : Nat} {R : List (List Nat)}
theorem RV.sl {h : Heap} {x : AV} {cs : List AV} (r : RV h x cs) : (x = .nils ∧ cs.length = 0) ∨ ∃ b v,x = .slice b 0 cs.length v:=by
 rcases r with ⟨e,e2⟩ | ⟨b,v,e,_⟩
 ·exact .inl ⟨e,by rw [e2]; rfl⟩
 ·exact .inr ⟨b,v,e⟩
theorem LV.sh {h : Heap} {x : AV} {cs : List AV} (r : LV h x cs) : x = .nils ∨ ∃ b n,x = .slice b 0 n n:=by
 rcases r with ⟨e,_⟩ | ⟨b,e,_⟩
 ·exact .inl e
 ·exact .inr ⟨b,_,e⟩
theorem TG.base {H0 H1 H : Heap} {x : AV} {L : List (List Int)} (k : Kp (fun _ => False) H0 H1) (t : TG H1 H x L) : TG H0 H x L:=by
 obtain ⟨cs,lv,hl,hr⟩:=t.r
 exact ⟨k.trans t.k,fun q hq => Nat.le_trans k.size (t.x0 q hq),cs,lv,hl,fun i r hi => by
  obtain ⟨l,h1,h2,h3⟩:=hr i r hi
  exact ⟨l,h1,h2,fun q hq => ⟨(h3 q hq).1,Nat.le_trans k.size (h3 q hq).2.1,(h3 q hq).2.2⟩⟩⟩
theorem LT.fr {h H' : Heap} {x : AV} {L : List (List Int)} (t : LT H' x L) (k : Kp (fun _ => False) (frameOf h) H') : LT (h.plus (if (one [x]).flat then [] else H'.own)) x L:=by
 split
 ·rename_i hf
  obtain ⟨rs,lv,hl,hr⟩:=t
  rcases lv with ⟨rfl,e2⟩ | ⟨b,rfl,g⟩
  ·subst e2
   exact ⟨[],.inl ⟨rfl,rfl⟩,hl,fun i r e => by simp at e⟩
  ·simp [one,AV.flat,AV.flats] at hf
 ·have e:=Kp.own k
  exact t.congr fun b => by rw [e]; exact fr_get h _ b
end
def Post31 (b : AM) (h : Heap) (v : AV) (own : List AObj) : Prop:=LT (h.plus own) v (ntI (stL b.a.W (rwL b.a.q b.a.B b.m)))
noncomputable def T25 : CallF:=addK tbl T24 31 Pre30 Post31
theorem t25 : Sound Go.Proofs.Try.prog T25:=Sound.addK follows ok t24 (by decide) _ _
section
variable {a b : List Int} {b1 b2 v1 v2 n : Nat}
theorem ints_loop (J : CallF) (h : Heap) {ca cb : List AV} (ha : h.get b1 = .cells 1 v1 ca) (hb : h.get b2 = .cells 1 v2 cb) (hca : ∀ i : Nat,ca[i]? = (a[i]?).map fun n => AV.int .i64 n) (hcb : ∀ i : Nat,cb[i]? = (b[i]?).map fun n => AV.int .i64 n) (la : a.length = n) (lb : b.length = n) (hn : n ≤ 1000000) :
  ∀ j i,i + j = n → (a.drop i = b.drop i → Tr tbl J c64_l0 (fun s h' => s.get [] = .slice b1 0 n v1 ∧ s.get [false] = .slice b2 0 n v2 ∧ s.get [false,true] = G i ∧ h' = ⟨h.get,h.size,[]⟩) (.exit 0) (fun s h => True)) ∧
   (a.drop i ≠ b.drop i → Tr tbl J c64_l0 (fun s h' => s.get [] = .slice b1 0 n v1 ∧ s.get [false] = .slice b2 0 n v2 ∧ s.get [false,true] = G i ∧ h' = ⟨h.get,h.size,[]⟩) .ret (fun s h => s.get [true,false] = .bool false)):=by
 have h1:=get_lt ha (by simp)
 have h2:=get_lt hb (by simp)
 intro j
 induction j with
 | zero =>
  intro i hi
  obtain rfl : i = n:=by omega
  have e1 : a.drop i = []:=List.drop_of_length_le (by omega)
  have e2 : b.drop i = []:=List.drop_of_length_le (by omega)
  refine ⟨fun _ => ?_,fun hne => absurd (e1.trans e2.symm) hne⟩
  have t : Tr tbl J ((.trim [[],[false],[false,true]] c64_b0)) (fun s h' => s.get [] = .slice b1 0 i v1 ∧ s.get [false] = .slice b2 0 i v2 ∧ s.get [false,true] = G i ∧ h' = ⟨h.get,h.size,[]⟩) (.exit 0) (fun s h => True):=Tr.region fun s h hp => by
   obtain ⟨g0,g1,g2,rfl⟩:=hp
   simp (disch:=first|omega|exact zE rfl|exact zO|exact zL rfl) [c64_b0,c64_o4,size_mk,get_mk_lt,get_mk_ge,frameOf,Eff.app,Heap.setOwn,g0,g1,g2]
  exact Tr.out t (by simp)
 | succ j ih =>
  intro i hi
  have hia : i < a.length:=by omega
  have hib : i < b.length:=by omega
  have ea : a[i]? = some a[i]:=List.getElem?_eq_getElem hia
  have eb : b[i]? = some b[i]:=List.getElem?_eq_getElem hib
  have da : a.drop i = a[i] :: a.drop (i + 1):=List.drop_eq_getElem_cons hia
  have db : b.drop i = b[i] :: b.drop (i + 1):=List.drop_eq_getElem_cons hib
  rw [da,db]
  have xa:=hca i
  have xb:=hcb i
  rw [ea] at xa
  rw [eb] at xb
  simp only [Option.map_some] at xa xb
  clear ea eb da db hca hcb
  generalize a[i] = p at *
  generalize b[i] = q at *
  have ih':=ih (i + 1) (by omega)
  by_cases hpq : p = q
  ·subst hpq
   have t : Tr tbl J ((.trim [[],[false],[false,true]] c64_b0)) (fun s h' => s.get [] = .slice b1 0 n v1 ∧ s.get [false] = .slice b2 0 n v2 ∧ s.get [false,true] = G i ∧ h' = ⟨h.get,h.size,[]⟩) .normal (fun s h' => s.get [] = .slice b1 0 n v1 ∧ s.get [false] = .slice b2 0 n v2 ∧ s.get [false,true] = G ((i + 1 : Nat) : Int) ∧ h' = ⟨h.get,h.size,[]⟩):=Tr.region fun s h hp => by
    obtain ⟨g0,g1,g2,rfl⟩:=hp
    simp (disch:=first|omega|exact zE rfl|exact zO|exact zL rfl) [c64_b0,c64_o4,c64_o5,c64_o7,size_mk,get_mk_lt,get_mk_ge,frameOf,Eff.app,Heap.setOwn,g0,g1,g2,ha,hb,xa,xb]
   exact ⟨fun e => Tr.next t (ih'.1 (by simpa using e)),fun e => Tr.next t (ih'.2 (by simpa using e))⟩
  ·refine ⟨fun e => absurd (List.cons.inj e).1 hpq,fun _ => ?_⟩
   have t : Tr tbl J ((.trim [[],[false],[false,true]] c64_b0)) (fun s h' => s.get [] = .slice b1 0 n v1 ∧ s.get [false] = .slice b2 0 n v2 ∧ s.get [false,true] = G i ∧ h' = ⟨h.get,h.size,[]⟩) .ret (fun s h => s.get [true,false] = .bool false):=Tr.region fun s h hp => by
    obtain ⟨g0,g1,g2,rfl⟩:=hp
    simp (disch:=first|omega|exact zE rfl|exact zO|exact zL rfl) [c64_b0,c64_o4,c64_o5,c64_o6,size_mk,get_mk_lt,get_mk_ge,frameOf,Eff.app,Heap.setOwn,g0,g1,g2,ha,hb,xa,xb,hpq]
   exact Tr.out t (by simp)
theorem ints_nn (J : CallF) (hJ : ∀ a h,J 64 a h = none) (h : Heap)  : CallsTo tbl J 64 [.nils,.nils] h (.bool (decide (([] : List Int) = [])),[],false):=by
 refine Tr.fnv (cf:=c64) (e:=.ret) (s:=T.set (T.set .leaf [] (.nils)) [false] (.nils)) (by decide) rfl (hJ _ _) rfl rfl rfl (by simp) ?_
 have t0 : Tr tbl J (c64_o0) (fun s h' => s = T.set (T.set .leaf [] (.nils)) [false] (.nils) ∧ h' = frameOf h) .normal (fun s h' => s.get [] = .nils ∧ s.get [false] = .nils ∧ h' = ⟨h.get,h.size,[]⟩):=Tr.region fun s h hp => by
  obtain ⟨rfl,rfl⟩:=hp
  simp (disch:=first|omega|exact zE rfl|exact zO|exact zL rfl) [c64_o0,frameOf,Heap.size,Heap.get,Eff.app,Heap.setOwn]
 by_cases hab : (0) = 0
 ·
  have t1 : Tr tbl J ((.seq c64_o1 (.cond (.s [true,true,false]) (.seq c64_o2 .ret) .skip))) (fun s h' => s.get [] = .nils ∧ s.get [false] = .nils ∧ h' = ⟨h.get,h.size,[]⟩) .normal (fun s h' => s.get [] = .nils ∧ s.get [false] = .nils ∧ h' = ⟨h.get,h.size,[]⟩):=Tr.region fun s h hp => by
   obtain ⟨g0,g1,rfl⟩:=hp
   simp (disch:=first|omega|exact zE rfl|exact zO|exact zL rfl) [c64_o1,size_mk,get_mk_lt,get_mk_ge,frameOf,Eff.app,Heap.setOwn,g0,g1,hab]
  have t2 : Tr tbl J (c64_o3) (fun s h' => s.get [] = .nils ∧ s.get [false] = .nils ∧ h' = ⟨h.get,h.size,[]⟩) .normal (fun s h' => s.get [] = .nils ∧ s.get [false] = .nils ∧ s.get [false,true] = G ((0 : Nat) : Int) ∧ h' = ⟨h.get,h.size,[]⟩):=Tr.region fun s h hp => by
   obtain ⟨g0,g1,rfl⟩:=hp
   simp (disch:=first|omega|exact zE rfl|exact zO|exact zL rfl) [c64_o3,size_mk,get_mk_lt,get_mk_ge,frameOf,Eff.app,Heap.setOwn,g0,g1]
  have t3 : Tr tbl J ((.seq c64_o8 .ret)) (fun s h => True) .ret (fun s h => s.get [true,false] = .bool true):=Tr.region fun s h hp => by
   simp (disch:=first|omega|exact zE rfl|exact zO|exact zL rfl) [c64_o8,frameOf,Heap.size,Heap.get,Eff.app,Heap.setOwn]
  have t4 : Tr tbl J ((.trim [[],[false],[false,true]] c64_b0)) (fun s h' => s.get [] = .nils ∧ s.get [false] = .nils ∧ s.get [false,true] = G ((0 : Nat) : Int) ∧ h' = ⟨h.get,h.size,[]⟩) (.exit 0) (fun s h => True):=Tr.region fun s h hp => by
   obtain ⟨g0,g1,g2,rfl⟩:=hp
   simp (disch:=first|omega|exact zE rfl|exact zO|exact zL rfl) [c64_b0,c64_o4,size_mk,get_mk_lt,get_mk_ge,frameOf,Eff.app,Heap.setOwn,g0,g1,g2,hab]
  exact Tr.post (fun s h q => by simp [c64,q]) (Tr.seq t0 (Tr.seq t1 (Tr.seq (Tr.seq t2 (Tr.block (Tr.out t4 (by simp)))) t3)))
 ·exact absurd rfl hab
theorem ints_ns (J : CallF) (hJ : ∀ a h,J 64 a h = none) (h : Heap)  : CallsTo tbl J 64 [.nils,.slice b2 0 b.length v2] h (.bool (decide (([] : List Int) = b)),[],false):=by
 refine Tr.fnv (cf:=c64) (e:=.ret) (s:=T.set (T.set .leaf [] (.nils)) [false] (.slice b2 0 b.length v2)) (by decide) rfl (hJ _ _) rfl rfl rfl (by simp) ?_
 have t0 : Tr tbl J (c64_o0) (fun s h' => s = T.set (T.set .leaf [] (.nils)) [false] (.slice b2 0 b.length v2) ∧ h' = frameOf h) .normal (fun s h' => s.get [] = .nils ∧ s.get [false] = .slice b2 0 b.length v2 ∧ h' = ⟨h.get,h.size,[]⟩):=Tr.region fun s h hp => by
  obtain ⟨rfl,rfl⟩:=hp
  simp (disch:=first|omega|exact zE rfl|exact zO|exact zL rfl) [c64_o0,frameOf,Heap.size,Heap.get,Eff.app,Heap.setOwn]
 by_cases hab : (0) = b.length
 ·
  have t1 : Tr tbl J ((.seq c64_o1 (.cond (.s [true,true,false]) (.seq c64_o2 .ret) .skip))) (fun s h' => s.get [] = .nils ∧ s.get [false] = .slice b2 0 b.length v2 ∧ h' = ⟨h.get,h.size,[]⟩) .normal (fun s h' => s.get [] = .nils ∧ s.get [false] = .slice b2 0 b.length v2 ∧ h' = ⟨h.get,h.size,[]⟩):=Tr.region fun s h hp => by
   obtain ⟨g0,g1,rfl⟩:=hp
   simp (disch:=first|omega|exact zE rfl|exact zO|exact zL rfl) [c64_o1,size_mk,get_mk_lt,get_mk_ge,frameOf,Eff.app,Heap.setOwn,g0,g1,hab]
  have t2 : Tr tbl J (c64_o3) (fun s h' => s.get [] = .nils ∧ s.get [false] = .slice b2 0 b.length v2 ∧ h' = ⟨h.get,h.size,[]⟩) .normal (fun s h' => s.get [] = .nils ∧ s.get [false] = .slice b2 0 b.length v2 ∧ s.get [false,true] = G ((0 : Nat) : Int) ∧ h' = ⟨h.get,h.size,[]⟩):=Tr.region fun s h hp => by
   obtain ⟨g0,g1,rfl⟩:=hp
   simp (disch:=first|omega|exact zE rfl|exact zO|exact zL rfl) [c64_o3,size_mk,get_mk_lt,get_mk_ge,frameOf,Eff.app,Heap.setOwn,g0,g1]
  have t3 : Tr tbl J ((.seq c64_o8 .ret)) (fun s h => True) .ret (fun s h => s.get [true,false] = .bool true):=Tr.region fun s h hp => by
   simp (disch:=first|omega|exact zE rfl|exact zO|exact zL rfl) [c64_o8,frameOf,Heap.size,Heap.get,Eff.app,Heap.setOwn]
  have t4 : Tr tbl J ((.trim [[],[false],[false,true]] c64_b0)) (fun s h' => s.get [] = .nils ∧ s.get [false] = .slice b2 0 b.length v2 ∧ s.get [false,true] = G ((0 : Nat) : Int) ∧ h' = ⟨h.get,h.size,[]⟩) (.exit 0) (fun s h => True):=Tr.region fun s h hp => by
   obtain ⟨g0,g1,g2,rfl⟩:=hp
   simp (disch:=first|omega|exact zE rfl|exact zO|exact zL rfl) [c64_b0,c64_o4,size_mk,get_mk_lt,get_mk_ge,frameOf,Eff.app,Heap.setOwn,g0,g1,g2,hab]
  have e1 : b = []:=List.length_eq_zero_iff.1 hab.symm
  exact Tr.post (fun s h q => by simp [c64,q,e1]) (Tr.seq t0 (Tr.seq t1 (Tr.seq (Tr.seq t2 (Tr.block (Tr.out t4 (by simp)))) t3)))
 ·
  have t1 : Tr tbl J ((.seq c64_o1 (.cond (.s [true,true,false]) (.seq c64_o2 .ret) .skip))) (fun s h' => s.get [] = .nils ∧ s.get [false] = .slice b2 0 b.length v2 ∧ h' = ⟨h.get,h.size,[]⟩) .ret (fun s h => s.get [true,false] = .bool false):=Tr.region fun s h hp => by
   obtain ⟨g0,g1,rfl⟩:=hp
   simp (disch:=first|omega|exact zE rfl|exact zO|exact zL rfl) [c64_o1,c64_o2,size_mk,get_mk_lt,get_mk_ge,frameOf,Eff.app,Heap.setOwn,g0,g1,hab]
  refine Tr.post (fun s h q => ?_) (Tr.seq t0 (Tr.seq_out t1 (by simp)))
  have hne : ¬ b = []:=fun e => hab (by rw [e]; rfl)
  simp [c64,q,hne]
theorem ints_sn (J : CallF) (hJ : ∀ a h,J 64 a h = none) (h : Heap)  : CallsTo tbl J 64 [.slice b1 0 a.length v1,.nils] h (.bool (decide (a = [])),[],false):=by
 refine Tr.fnv (cf:=c64) (e:=.ret) (s:=T.set (T.set .leaf [] (.slice b1 0 a.length v1)) [false] (.nils)) (by decide) rfl (hJ _ _) rfl rfl rfl (by simp) ?_
 have t0 : Tr tbl J (c64_o0) (fun s h' => s = T.set (T.set .leaf [] (.slice b1 0 a.length v1)) [false] (.nils) ∧ h' = frameOf h) .normal (fun s h' => s.get [] = .slice b1 0 a.length v1 ∧ s.get [false] = .nils ∧ h' = ⟨h.get,h.size,[]⟩):=Tr.region fun s h hp => by
  obtain ⟨rfl,rfl⟩:=hp
  simp (disch:=first|omega|exact zE rfl|exact zO|exact zL rfl) [c64_o0,frameOf,Heap.size,Heap.get,Eff.app,Heap.setOwn]
 by_cases hab : (a.length) = 0
 ·
  have t1 : Tr tbl J ((.seq c64_o1 (.cond (.s [true,true,false]) (.seq c64_o2 .ret) .skip))) (fun s h' => s.get [] = .slice b1 0 a.length v1 ∧ s.get [false] = .nils ∧ h' = ⟨h.get,h.size,[]⟩) .normal (fun s h' => s.get [] = .slice b1 0 a.length v1 ∧ s.get [false] = .nils ∧ h' = ⟨h.get,h.size,[]⟩):=Tr.region fun s h hp => by
   obtain ⟨g0,g1,rfl⟩:=hp
   simp (disch:=first|omega|exact zE rfl|exact zO|exact zL rfl) [c64_o1,size_mk,get_mk_lt,get_mk_ge,frameOf,Eff.app,Heap.setOwn,g0,g1,hab]
  have t2 : Tr tbl J (c64_o3) (fun s h' => s.get [] = .slice b1 0 a.length v1 ∧ s.get [false] = .nils ∧ h' = ⟨h.get,h.size,[]⟩) .normal (fun s h' => s.get [] = .slice b1 0 a.length v1 ∧ s.get [false] = .nils ∧ s.get [false,true] = G ((0 : Nat) : Int) ∧ h' = ⟨h.get,h.size,[]⟩):=Tr.region fun s h hp => by
   obtain ⟨g0,g1,rfl⟩:=hp
   simp (disch:=first|omega|exact zE rfl|exact zO|exact zL rfl) [c64_o3,size_mk,get_mk_lt,get_mk_ge,frameOf,Eff.app,Heap.setOwn,g0,g1]
  have t3 : Tr tbl J ((.seq c64_o8 .ret)) (fun s h => True) .ret (fun s h => s.get [true,false] = .bool true):=Tr.region fun s h hp => by
   simp (disch:=first|omega|exact zE rfl|exact zO|exact zL rfl) [c64_o8,frameOf,Heap.size,Heap.get,Eff.app,Heap.setOwn]
  have t4 : Tr tbl J ((.trim [[],[false],[false,true]] c64_b0)) (fun s h' => s.get [] = .slice b1 0 a.length v1 ∧ s.get [false] = .nils ∧ s.get [false,true] = G ((0 : Nat) : Int) ∧ h' = ⟨h.get,h.size,[]⟩) (.exit 0) (fun s h => True):=Tr.region fun s h hp => by
   obtain ⟨g0,g1,g2,rfl⟩:=hp
   simp (disch:=first|omega|exact zE rfl|exact zO|exact zL rfl) [c64_b0,c64_o4,size_mk,get_mk_lt,get_mk_ge,frameOf,Eff.app,Heap.setOwn,g0,g1,g2,hab]
  have e1 : a = []:=List.length_eq_zero_iff.1 hab
  exact Tr.post (fun s h q => by simp [c64,q,e1]) (Tr.seq t0 (Tr.seq t1 (Tr.seq (Tr.seq t2 (Tr.block (Tr.out t4 (by simp)))) t3)))
 ·
  have t1 : Tr tbl J ((.seq c64_o1 (.cond (.s [true,true,false]) (.seq c64_o2 .ret) .skip))) (fun s h' => s.get [] = .slice b1 0 a.length v1 ∧ s.get [false] = .nils ∧ h' = ⟨h.get,h.size,[]⟩) .ret (fun s h => s.get [true,false] = .bool false):=Tr.region fun s h hp => by
   obtain ⟨g0,g1,rfl⟩:=hp
   simp (disch:=first|omega|exact zE rfl|exact zO|exact zL rfl) [c64_o1,c64_o2,size_mk,get_mk_lt,get_mk_ge,frameOf,Eff.app,Heap.setOwn,g0,g1,hab]
  refine Tr.post (fun s h q => ?_) (Tr.seq t0 (Tr.seq_out t1 (by simp)))
  have hne : ¬ a = []:=fun e => hab (by rw [e]; rfl)
  simp [c64,q,hne]
theorem ints_ss (J : CallF) (hJ : ∀ a h,J 64 a h = none) (h : Heap) (hn : a.length ≤ 1000000) {ca cb : List AV} (ha : h.get b1 = .cells 1 v1 ca) (hb : h.get b2 = .cells 1 v2 cb) (hca : ∀ i : Nat,ca[i]? = (a[i]?).map fun n => AV.int .i64 n) (hcb : ∀ i : Nat,cb[i]? = (b[i]?).map fun n => AV.int .i64 n) : CallsTo tbl J 64 [.slice b1 0 a.length v1,.slice b2 0 b.length v2] h (.bool (decide (a = b)),[],false):=by
 refine Tr.fnv (cf:=c64) (e:=.ret) (s:=T.set (T.set .leaf [] (.slice b1 0 a.length v1)) [false] (.slice b2 0 b.length v2)) (by decide) rfl (hJ _ _) rfl rfl rfl (by simp) ?_
 have t0 : Tr tbl J (c64_o0) (fun s h' => s = T.set (T.set .leaf [] (.slice b1 0 a.length v1)) [false] (.slice b2 0 b.length v2) ∧ h' = frameOf h) .normal (fun s h' => s.get [] = .slice b1 0 a.length v1 ∧ s.get [false] = .slice b2 0 b.length v2 ∧ h' = ⟨h.get,h.size,[]⟩):=Tr.region fun s h hp => by
  obtain ⟨rfl,rfl⟩:=hp
  simp (disch:=first|omega|exact zE rfl|exact zO|exact zL rfl) [c64_o0,frameOf,Heap.size,Heap.get,Eff.app,Heap.setOwn]
 by_cases hab : (a.length) = b.length
 ·
  have t1 : Tr tbl J ((.seq c64_o1 (.cond (.s [true,true,false]) (.seq c64_o2 .ret) .skip))) (fun s h' => s.get [] = .slice b1 0 a.length v1 ∧ s.get [false] = .slice b2 0 b.length v2 ∧ h' = ⟨h.get,h.size,[]⟩) .normal (fun s h' => s.get [] = .slice b1 0 a.length v1 ∧ s.get [false] = .slice b2 0 b.length v2 ∧ h' = ⟨h.get,h.size,[]⟩):=Tr.region fun s h hp => by
   obtain ⟨g0,g1,rfl⟩:=hp
   simp (disch:=first|omega|exact zE rfl|exact zO|exact zL rfl) [c64_o1,size_mk,get_mk_lt,get_mk_ge,frameOf,Eff.app,Heap.setOwn,g0,g1,hab]
  have t2 : Tr tbl J (c64_o3) (fun s h' => s.get [] = .slice b1 0 a.length v1 ∧ s.get [false] = .slice b2 0 b.length v2 ∧ h' = ⟨h.get,h.size,[]⟩) .normal (fun s h' => s.get [] = .slice b1 0 a.length v1 ∧ s.get [false] = .slice b2 0 b.length v2 ∧ s.get [false,true] = G ((0 : Nat) : Int) ∧ h' = ⟨h.get,h.size,[]⟩):=Tr.region fun s h hp => by
   obtain ⟨g0,g1,rfl⟩:=hp
   simp (disch:=first|omega|exact zE rfl|exact zO|exact zL rfl) [c64_o3,size_mk,get_mk_lt,get_mk_ge,frameOf,Eff.app,Heap.setOwn,g0,g1]
  have t3 : Tr tbl J ((.seq c64_o8 .ret)) (fun s h => True) .ret (fun s h => s.get [true,false] = .bool true):=Tr.region fun s h hp => by
   simp (disch:=first|omega|exact zE rfl|exact zO|exact zL rfl) [c64_o8,frameOf,Heap.size,Heap.get,Eff.app,Heap.setOwn]
  obtain ⟨l1,l2⟩:=ints_loop J h ha hb hca hcb rfl hab.symm hn a.length 0 (by omega)
  simp only [List.drop_zero] at l1 l2
  rw [← hab] at t0 t1 t2
  by_cases e : a = b
  ·rw [decide_eq_true e]
   exact Tr.post (fun s h q => by simp [c64,q]) (Tr.seq (by rw [← hab]; exact t0) (Tr.seq t1 (Tr.seq (Tr.seq t2 (Tr.block (l1 e))) t3)))
  ·rw [decide_eq_false e]
   exact Tr.post (fun s h q => by simp [c64,q]) (Tr.seq (by rw [← hab]; exact t0) (Tr.seq t1 (Tr.seq_out (Tr.seq t2 (Tr.block_out (l2 e) (by simp))) (by simp))))
 ·
  have t1 : Tr tbl J ((.seq c64_o1 (.cond (.s [true,true,false]) (.seq c64_o2 .ret) .skip))) (fun s h' => s.get [] = .slice b1 0 a.length v1 ∧ s.get [false] = .slice b2 0 b.length v2 ∧ h' = ⟨h.get,h.size,[]⟩) .ret (fun s h => s.get [true,false] = .bool false):=Tr.region fun s h hp => by
   obtain ⟨g0,g1,rfl⟩:=hp
   simp (disch:=first|omega|exact zE rfl|exact zO|exact zL rfl) [c64_o1,c64_o2,size_mk,get_mk_lt,get_mk_ge,frameOf,Eff.app,Heap.setOwn,g0,g1,hab]
  refine Tr.post (fun s h q => ?_) (Tr.seq t0 (Tr.seq_out t1 (by simp)))
  have hne : ¬ a = b:=fun e => hab (by rw [e])
  simp [c64,q,hne]
theorem c64_ok (J : CallF) (hJ : ∀ a h,J 64 a h = none) (h : Heap) (x y : AV) (hx : listOf h x = some a) (hy : listOf h y = some b) (hn : a.length ≤ 1000000) : CallsTo tbl J 64 [x,y] h (.bool (decide (a = b)),[],false):=by
 rcases listOf_some hx with ⟨rfl,rfl⟩ | ⟨b1,v1,rfl,g1⟩ <;> rcases listOf_some hy with ⟨rfl,rfl⟩ | ⟨b2,v2,rfl,g2⟩
 ·exact ints_nn J hJ h
 ·exact ints_ns J hJ h
 ·exact ints_sn J hJ h
 ·exact ints_ss J hJ h hn g1 g2 (fun i => List.getElem?_map) (fun i => List.getElem?_map)
end
def spec64 : SpecF:=fun args h => match args with
 | [x,y] => match listOf h x,listOf h y with
  | some a,some b => if a.length ≤ 1000000 then some (.bool (decide (a = b)),[],false) else none
  | _,_ => none
 | _ => none
noncomputable def T26 : CallF:=addI T25 64 spec64
theorem t26 : Sound Go.Proofs.Try.prog T26:=Sound.add follows ok t25 (by decide) fun args h x e => by
 unfold spec64 at e
 split at e
 ·split at e
  ·rename_i h1 h2
   split at e
   ·rename_i hn
    simp only [Option.some.injEq] at e; subst e; exact c64_ok T25 (fun _ _ => by simp (disch:=decide) only [T1,T2,T3,T4,T5,T6,T7,T8,T9,T10,T11,T12,T13,T14,T15,T16,T17,T18,T19,T20,T21,T22,T23,T24,T25,addI_ne,addX_ne,addV_ne,addK_ne]; rfl) h _ _ h1 h2 hn
   ·cases e
  ·cases e
 ·cases e
abbrev K64 (J : CallF) : Prop:=∀ (h : Heap) (x y : AV) (a b : List Int),listOf h x = some a → listOf h y = some b → a.length ≤ 1000000 → J 64 [x,y] h = some (.bool (decide (a = b)),[],false)
theorem k64 : K64 T26:=fun h x y a b hx hy hn => by
 have : T26 64 [x,y] h = spec64 [x,y] h:=by simp only [T26,addI,if_true]
 rw [this]
 simp [spec64,hx,hy,hn]
abbrev ss (L : List (List UInt8)) : List AV:=L.map AV.str
theorem ss_at {L : List (List UInt8)} {i : Nat} (hi : i < L.length) : (ss L)[i]? = some (.str (L.getD i [])):=by
 rw [List.getElem?_map,List.getD_eq_getElem?_getD,List.getElem?_eq_getElem hi]; rfl
def sE (L M : List (List UInt8)) (i : Nat) : Bool:=decide (L.getD i [] = M.getD i [])
theorem sE_all {L M : List (List UInt8)} (h : L.length = M.length) : af (sE L M) 0 L.length = decide (L = M):=by
 rw [Bool.eq_iff_iff,af_iff,decide_eq_true_eq]
 constructor
 ·intro a
  apply List.ext_getElem?
  intro i
  by_cases hi : i < L.length
  ·have:=a i (Nat.zero_le _) (by omega)
   unfold sE at this
   rw [decide_eq_true_eq,List.getD_eq_getElem?_getD,List.getD_eq_getElem?_getD,List.getElem?_eq_getElem hi,List.getElem?_eq_getElem (by omega : i < M.length)] at this
   rw [List.getElem?_eq_getElem hi,List.getElem?_eq_getElem (by omega : i < M.length)]
   exact congrArg some this
  ·rw [List.getElem?_eq_none (by omega),List.getElem?_eq_none (by omega)]
 ·rintro rfl k _ _
  simp [sE]
section
variable {L M : List (List UInt8)}
theorem c29_l (J : CallF) {H : Heap} {b1 v1 b2 v2 n : Nat} (g1 : H.get b1 = .cells 1 v1 (ss L)) (g2 : H.get b2 = .cells 1 v2 (ss M)) (l1 : L.length = n) (l2 : M.length = n) (hn : n ≤ 1000000) :
  (af (sE L M) 0 n = true → Tr tbl J c29_l0 (fun s h => h = H ∧ s.get [] = .slice b1 0 n v1 ∧ s.get [false] = .slice b2 0 n v2 ∧ s.get [false,true] = G ((0 : Nat) : Int)) (.exit 0) (fun s h => True)) ∧
  (af (sE L M) 0 n = false → Tr tbl J c29_l0 (fun s h => h = H ∧ s.get [] = .slice b1 0 n v1 ∧ s.get [false] = .slice b2 0 n v2 ∧ s.get [false,true] = G ((0 : Nat) : Int)) .ret (fun s h => s.get [true,false] = .bool false)):=by
 have sl1 : (ss L).length = n:=by simp [l1]
 have sl2 : (ss M).length = n:=by simp [l2]
 have key : ∀ i,i < n → Tr tbl J (.trim [[],[false],[false,true]] c29_b0) (fun s h => h = H ∧ s.get [] = .slice b1 0 n v1 ∧ s.get [false] = .slice b2 0 n v2 ∧ s.get [false,true] = G i) (if sE L M i then .normal else .ret)
   (if sE L M i then (fun s h => h = H ∧ s.get [] = .slice b1 0 n v1 ∧ s.get [false] = .slice b2 0 n v2 ∧ s.get [false,true] = G ((i + 1 : Nat) : Int)) else (fun s h => s.get [true,false] = .bool false)):=fun i hi => by
  have e1:=ss_at (L:=L) (i:=i) (by omega)
  have e2:=ss_at (L:=M) (i:=i) (by omega)
  have e1':=getI e1
  have e2':=getI e2
  unfold sE
  by_cases c : L.getD i [] = M.getD i []
  ·rw [decide_eq_true c,if_pos rfl,if_pos rfl]
   rw [c] at e1 e1'
   generalize M.getD i [] = u at *
   generalize ss L = sl at *
   generalize ss M = sm at *
   refine Tr.w fun s1 H1 hp _ kR => W.trim ?_
   obtain ⟨rfl,q⟩:=hp
   refine W.assoc ?_
   refine zCh ?_
   simp (disch:=first|omega|exact zE rfl|exact zO|exact zL rfl) [c29_o4,zG,q]
   refine zCh ?_
   simp (disch:=first|omega|exact zE rfl|exact zO|exact zL rfl) [zG,q]
   refine W.seq (W.block ?_)
   refine zCh ?_
   simp (disch:=first|omega|exact zE rfl|exact zO|exact zL rfl) [c29_o5,zG,q,g1,g2,e1,e1',e2,e2',sl1,sl2,-evDraw_c,evDraw_0]
   refine W.chunk ?_
   simp (disch:=first|omega|exact zE rfl|exact zO|exact zL rfl) [c29_o6,zG,q]
   refine W.chunk ?_
   simp (disch:=first|omega|exact zE rfl|exact zO|exact zL rfl) [c29_o7,zG,q]
   exact kR _ _ (by simp [T.get,q])
  ·rw [decide_eq_false c,if_neg (by simp),if_neg (by simp)]
   generalize M.getD i [] = u at *
   generalize L.getD i [] = w at *
   generalize ss L = sl at *
   generalize ss M = sm at *
   refine Tr.w fun s1 H1 hp _ kR => W.trim ?_
   obtain ⟨rfl,q⟩:=hp
   refine W.assoc ?_
   refine zCh ?_
   simp (disch:=first|omega|exact zE rfl|exact zO|exact zL rfl) [c29_o4,zG,q]
   refine zCh ?_
   simp (disch:=first|omega|exact zE rfl|exact zO|exact zL rfl) [zG,q]
   refine W.seq (W.block ?_)
   refine zCh ?_
   simp (disch:=first|omega|exact zE rfl|exact zO|exact zL rfl) [c29_o5,zG,q,g1,g2,e1,e1',e2,e2',sl1,sl2,c,-evDraw_c,evDraw_0]
   refine W.chunk ?_
   simp (disch:=first|omega|exact zE rfl|exact zO|exact zL rfl) [c29_o6,zG,q]
   exact kR _ _ (by simp [T.get,q])
 have fin : Tr tbl J (.trim [[],[false],[false,true]] c29_b0) (fun s h => h = H ∧ s.get [] = .slice b1 0 n v1 ∧ s.get [false] = .slice b2 0 n v2 ∧ s.get [false,true] = G n) (.exit 0) (fun s h => True):=by
  refine Tr.w fun s1 H1 hp _ kR => W.trim ?_
  obtain ⟨rfl,q⟩:=hp
  refine W.assoc ?_
  refine zCh ?_
  simp (disch:=first|omega|exact zE rfl|exact zO|exact zL rfl) [c29_o4,zG,q]
  refine zCh ?_
  simp (disch:=first|omega|exact zE rfl|exact zO|exact zL rfl) [zG,q]
  exact kR _ _ trivial
 exact ⟨Tr.allT (P:=fun i => (fun s h => h = H ∧ s.get [] = .slice b1 0 n v1 ∧ s.get [false] = .slice b2 0 n v2 ∧ s.get [false,true] = G i)) n (fun i hi hp => by have:=key i hi; rw [if_pos hp,if_pos hp] at this; exact this) fin (by simp) _ 0 (by omega),
  Tr.allF (P:=fun i => (fun s h => h = H ∧ s.get [] = .slice b1 0 n v1 ∧ s.get [false] = .slice b2 0 n v2 ∧ s.get [false,true] = G i)) n (fun i hi hp => by have:=key i hi; rw [if_pos hp,if_pos hp] at this; exact this) (fun i hi hp => by have:=key i hi; rw [if_neg (by rw [hp]; simp),if_neg (by rw [hp]; simp)] at this; exact this) (by simp) _ 0 (by omega)⟩
theorem c29_e (J : CallF) {x z : AV} (H : Heap) (hx : x = .nils ∨ ∃ b v,x = .slice b 0 0 v) : Tr tbl J c29_l0 (fun s h => h = H ∧ s.get [] = x ∧ s.get [false] = z ∧ s.get [false,true] = G ((0 : Nat) : Int)) (.exit 0) (fun s h => True):=by
 refine Tr.out ?_ (by simp)
 rcases hx with rfl | ⟨b,v,rfl⟩
 all_goals
  refine Tr.w fun s1 H1 hp _ kR => W.trim ?_
  obtain ⟨rfl,q⟩:=hp
  refine W.assoc ?_
  refine zCh ?_
  simp (disch:=first|omega|exact zE rfl|exact zO|exact zL rfl) [c29_o4,zG,q]
  refine zCh ?_
  simp (disch:=first|omega|exact zE rfl|exact zO|exact zL rfl) [zG,q]
  exact kR _ _ trivial
theorem c29_ok (J : CallF) (hJ : ∀ a h,J 29 a h = none) (h : Heap) {x z : AV} (hx : RV h x (ss L)) (hz : RV h z (ss M)) (hn : L.length ≤ 1000000) (hm : M.length ≤ 1000000) : CallsTo tbl J 29 [x,z] h (.bool (decide (L = M)),[],false):=by
 refine Tr.fnv (cf:=c29) (e:=.ret) (s:=T.set (T.set .leaf [] x) [false] z) (by decide) rfl (hJ _ _) rfl rfl rfl (by simp) ?_
 refine Tr.post (Q:=(fun s h => s.get [true,false] = .bool (decide (L = M)))) (fun s h q => by simp [c29,q]) ?_
 have sx:=hx.sl
 have sz:=hz.sl
 rw [List.length_map] at sx sz
 have ex : ∀ b v,x = .slice b 0 L.length v → (frameOf h).get b = .cells 1 v (ss L):=fun b v e => by
  rcases hx with ⟨rfl,_⟩ | ⟨b',v',e',g⟩
  ·cases e
  ·rw [e,AV.slice.injEq] at e'
   obtain ⟨rfl,_,_,rfl⟩:=e'
   have:=get_lt g (by simp)
   unfold frameOf
   rw [get_mk_lt _ _ _ _ this]; exact g
 have ez : ∀ b v,z = .slice b 0 M.length v → (frameOf h).get b = .cells 1 v (ss M):=fun b v e => by
  rcases hz with ⟨rfl,_⟩ | ⟨b',v',e',g⟩
  ·cases e
  ·rw [e,AV.slice.injEq] at e'
   obtain ⟨rfl,_,_,rfl⟩:=e'
   have:=get_lt g (by simp)
   unfold frameOf
   rw [get_mk_lt _ _ _ _ this]; exact g
 clear hx hz
 by_cases hl : L.length = M.length
 ·have se:=sE_all hl
  by_cases h0 : L.length = 0
  ·have eL : L = []:=List.length_eq_zero_iff.1 h0
   have eM : M = []:=List.length_eq_zero_iff.1 (by omega)
   rw [decide_eq_true (by rw [eL,eM])]
   rw [h0] at sx
   rw [← hl,h0] at sz
   have sx' : x = .nils ∨ ∃ b v,x = .slice b 0 0 v:=sx.imp (fun q => q.1) id
   have l0:=fun H => c29_e J (z:=z) H sx'
   clear ex ez se
   refine Tr.w fun s1 H1 hp _ kR => ?_
   obtain ⟨rfl,rfl⟩:=hp
   have q : True:=trivial
   rcases sx with ⟨rfl,_⟩ | ⟨b,v,rfl⟩ <;> rcases sz with ⟨rfl,_⟩ | ⟨b',v',rfl⟩
   all_goals
    have l0:=l0 (frameOf h)
    refine zCh ?_
    simp (disch:=first|omega|exact zE rfl|exact zO|exact zL rfl) [c29_o0,zG,q]
    refine W.assoc ?_
    refine zCh ?_
    simp (disch:=first|omega|exact zE rfl|exact zO|exact zL rfl) [c29_o1,zG,q]
    refine zCh ?_
    simp (disch:=first|omega|exact zE rfl|exact zO|exact zL rfl) [c29_o2,zG,q]
    refine W.assoc ?_
    refine zCh ?_
    simp (disch:=first|omega|exact zE rfl|exact zO|exact zL rfl) [c29_o3,zG,q]
    refine W.seq (W.block ?_)
    refine W.use (l0) (by simp (disch:=first|omega|exact zE rfl|exact zO|exact zL rfl) [zG,q]) fun s1 H1 hp => ?_
    try simp only [zW,if_true]
    refine zCh ?_
    simp (disch:=first|omega|exact zE rfl|exact zO|exact zL rfl) [c29_o8,zG,q]
    refine W.ret ?_
    try simp only [zW,if_true]
    exact kR _ _ (by simp [T.get])
  ·obtain ⟨b,v,rfl⟩:=sx.resolve_left (fun q => h0 q.2)
   obtain ⟨b',v',rfl⟩:=sz.resolve_left (fun q => h0 (by omega))
   have g1:=ex _ _ rfl
   have g2:=ez _ _ rfl
   have l0:=c29_l J g1 g2 rfl hl.symm hn
   rw [← se]
   rw [← hl] at sz ⊢
   clear ex ez se sx sz g1 g2
   generalize hnn : L.length = n at *
   cases c : af (sE L M) 0 n
   ·have l0:=l0.2 c
    refine Tr.w fun s1 H1 hp _ kR => ?_
    obtain ⟨rfl,rfl⟩:=hp
    have q : True:=trivial
    refine zCh ?_
    simp (disch:=first|omega|exact zE rfl|exact zO|exact zL rfl) [c29_o0,zG,q]
    refine W.assoc ?_
    refine zCh ?_
    simp (disch:=first|omega|exact zE rfl|exact zO|exact zL rfl) [c29_o1,zG,q]
    refine zCh ?_
    simp (disch:=first|omega|exact zE rfl|exact zO|exact zL rfl) [c29_o2,zG,q]
    refine W.assoc ?_
    refine zCh ?_
    simp (disch:=first|omega|exact zE rfl|exact zO|exact zL rfl) [c29_o3,zG,q]
    refine W.seq (W.block ?_)
    refine W.use (l0) (by simp (disch:=first|omega|exact zE rfl|exact zO|exact zL rfl) [zG,q]) fun s1 H1 hp => ?_
    try simp only [zW,if_true]
    exact kR _ _ hp
   ·have l0:=l0.1 c
    refine Tr.w fun s1 H1 hp _ kR => ?_
    obtain ⟨rfl,rfl⟩:=hp
    have q : True:=trivial
    refine zCh ?_
    simp (disch:=first|omega|exact zE rfl|exact zO|exact zL rfl) [c29_o0,zG,q]
    refine W.assoc ?_
    refine zCh ?_
    simp (disch:=first|omega|exact zE rfl|exact zO|exact zL rfl) [c29_o1,zG,q]
    refine zCh ?_
    simp (disch:=first|omega|exact zE rfl|exact zO|exact zL rfl) [c29_o2,zG,q]
    refine W.assoc ?_
    refine zCh ?_
    simp (disch:=first|omega|exact zE rfl|exact zO|exact zL rfl) [c29_o3,zG,q]
    refine W.seq (W.block ?_)
    refine W.use (l0) (by simp (disch:=first|omega|exact zE rfl|exact zO|exact zL rfl) [zG,q]) fun s1 H1 hp => ?_
    try simp only [zW,if_true]
    refine zCh ?_
    simp (disch:=first|omega|exact zE rfl|exact zO|exact zL rfl) [c29_o8,zG,q]
    refine W.ret ?_
    try simp only [zW,if_true]
    exact kR _ _ (by simp [T.get])
 ·rw [decide_eq_false (fun e => hl (by rw [e]))]
  generalize L.length = n at *
  generalize M.length = m at *
  clear ex ez
  refine Tr.w fun s1 H1 hp _ kR => ?_
  obtain ⟨rfl,rfl⟩:=hp
  have q : True:=trivial
  rcases sx with ⟨rfl,rfl⟩ | ⟨b,v,rfl⟩ <;> rcases sz with ⟨rfl,rfl⟩ | ⟨b',v',rfl⟩
  all_goals try (exfalso; omega)
  all_goals
   refine zCh ?_
   simp (disch:=first|omega|exact zE rfl|exact zO|exact zL rfl) [c29_o0,zG,q,hl]
   refine W.assoc ?_
   refine zCh ?_
   simp (disch:=first|omega|exact zE rfl|exact zO|exact zL rfl) [c29_o1,zG,q,hl]
   refine zCh ?_
   simp (disch:=first|omega|exact zE rfl|exact zO|exact zL rfl) [c29_o2,zG,q,hl]
   exact kR _ _ (by simp [T.get])
end
structure A29 where
 x : AV
 z : AV
 L : List (List UInt8)
 M : List (List UInt8)
def Pre29 (b : A29) (args : List AV) (h : Heap) : Prop:=(RV h b.x (ss b.L) ∧ RV h b.z (ss b.M) ∧ b.L.length ≤ 1000000 ∧ b.M.length ≤ 1000000) ∧ args = [b.x,b.z]
def Post29 (b : A29) (h : Heap) (v : AV) (own : List AObj) : Prop:=v = .bool (decide (b.L = b.M)) ∧ own = []
noncomputable def T27 : CallF:=addK tbl T26 29 Pre29 Post29
theorem t27 : Sound Go.Proofs.Try.prog T27:=Sound.addK follows ok t26 (by decide) _ _
abbrev K29 (J : CallF) : Prop:=∀ (h : Heap) (b : A29),RV h b.x (ss b.L) → RV h b.z (ss b.M) → b.L.length ≤ 1000000 → b.M.length ≤ 1000000 → J 29 [b.x,b.z] h = some (.bool (decide (b.L = b.M)),[],false)
theorem k29 : K29 T27:=fun h b h1 h2 h3 h4 => by
 obtain ⟨v,own,e,rfl,rfl⟩:=addK_some (Pre:=Pre29) (Post:=Post29) (fun b args h hp => by
  obtain ⟨⟨h1,h2,h3,h4⟩,rfl⟩:=hp
  exact ⟨_,_,c29_ok T26 (fun _ _ => by simp (disch:=decide) only [T1,T2,T3,T4,T5,T6,T7,T8,T9,T10,T11,T12,T13,T14,T15,T16,T17,T18,T19,T20,T21,T22,T23,T24,T25,T26,addI_ne,addX_ne,addV_ne,addK_ne]; rfl) h h1 h2 h3 h4,rfl,rfl⟩) b _ h ⟨⟨h1,h2,h3,h4⟩,rfl⟩
 exact e
section
variable {A B : List (List Int)}
theorem c22_loop (J : CallF) (k64 : K64 J) {H : Heap} {bx bz : Nat} {rx rz : List AV} {n : Nat} (gx : H.get bx = .cells 1 n rx) (gz : H.get bz = .cells 1 n rz) (lx : rx.length = n) (lz : rz.length = n) (hn : n ≤ 1000000) (hA : A.length = n) (hB : B.length = n) (hs : ∀ l ∈ A,l.length ≤ 1000000)
  (hx : ∀ (i : Nat) r,rx[i]? = some r → ∃ l,A[i]? = some l ∧ listOf H r = some l) (hz : ∀ (i : Nat) r,rz[i]? = some r → ∃ l,B[i]? = some l ∧ listOf H r = some l) : ∀ d i,i + d = n →
  (A.drop i = B.drop i → Tr tbl J c22_l0 (fun s h => h = H ∧ s.get [] = .slice bx 0 n n ∧ s.get [false] = .slice bz 0 n n ∧ s.get [false,true] = G i) (.exit 0) (fun _ _ => True)) ∧
  (A.drop i ≠ B.drop i → Tr tbl J c22_l0 (fun s h => h = H ∧ s.get [] = .slice bx 0 n n ∧ s.get [false] = .slice bz 0 n n ∧ s.get [false,true] = G i) .ret (fun s h => s.get [true,false] = .bool false)):=by
 intro d
 induction d with
 | zero =>
  intro i hi
  obtain rfl : i = n:=by omega
  refine ⟨fun _ => Tr.out ?_ (by simp),fun c => absurd (by rw [List.drop_of_length_le (by omega),List.drop_of_length_le (by omega)]) c⟩
  refine Tr.w fun s1 H1 hp _ kR => W.trim ?_
  obtain ⟨rfl,q⟩:=hp
  refine W.assoc ?_
  refine zCh ?_
  simp (disch:=first|omega|exact zE rfl|exact zO|exact zL rfl) [c22_o4,zG,q]
  refine zCh ?_
  simp (disch:=first|omega|exact zE rfl|exact zO|exact zL rfl) [zG,q]
  exact kR _ _ trivial
 | succ d ih =>
  intro i hi
  obtain ⟨ih1,ih2⟩:=ih (i + 1) (by omega)
  have e1 : rx[i]? = some rx[i]:=List.getElem?_eq_getElem (by omega)
  have e2 : rz[i]? = some rz[i]:=List.getElem?_eq_getElem (by omega)
  obtain ⟨la,a1,a2⟩:=hx i _ e1
  obtain ⟨lb,b1,b2⟩:=hz i _ e2
  have k:=k64 H _ _ la lb a2 b2 (hs la (List.mem_of_getElem? a1))
  have da : A.drop i = la :: A.drop (i + 1):=by rw [List.drop_eq_getElem_cons (by omega)]; congr 1; rw [List.getElem?_eq_getElem (by omega)] at a1; exact Option.some.inj a1
  have db : B.drop i = lb :: B.drop (i + 1):=by rw [List.drop_eq_getElem_cons (by omega)]; congr 1; rw [List.getElem?_eq_getElem (by omega)] at b1; exact Option.some.inj b1
  rw [da,db]
  generalize rx[i] = ra at *
  generalize rz[i] = rb at *
  have e1':=getI e1
  have e2':=getI e2
  clear hx hz ih
  by_cases c : la = lb
  ·rw [decide_eq_true c] at k
   have step : Tr tbl J (.trim [[],[false],[false,true]] c22_b0) (fun s h => h = H ∧ s.get [] = .slice bx 0 n n ∧ s.get [false] = .slice bz 0 n n ∧ s.get [false,true] = G i) .normal (fun s h => h = H ∧ s.get [] = .slice bx 0 n n ∧ s.get [false] = .slice bz 0 n n ∧ s.get [false,true] = G ((i + 1 : Nat) : Int)):=by
    refine Tr.w fun s1 H1 hp _ kR => W.trim ?_
    obtain ⟨rfl,q⟩:=hp
    refine W.assoc ?_
    refine zCh ?_
    simp (disch:=first|omega|exact zE rfl|exact zO|exact zL rfl) [c22_o4,zG,q]
    refine zCh ?_
    simp (disch:=first|omega|exact zE rfl|exact zO|exact zL rfl) [zG,q]
    refine W.seq (W.block ?_)
    refine zCh ?_
    simp (disch:=first|omega|exact zE rfl|exact zO|exact zL rfl) [c22_o5,zG,q,gx,gz,e1,e1',e2,e2',k,-evDraw_c,evDraw_0]
    refine W.chunk ?_
    simp (disch:=first|omega|exact zE rfl|exact zO|exact zL rfl) [c22_o6,zG,q]
    refine W.chunk ?_
    simp (disch:=first|omega|exact zE rfl|exact zO|exact zL rfl) [c22_o7,zG,q]
    exact kR _ _ (by simp [T.get,q])
   subst c
   exact ⟨fun q => Tr.next step (ih1 (List.cons.inj q).2),fun q => Tr.next step (ih2 fun r => q (by rw [r]))⟩
  ·rw [decide_eq_false c] at k
   refine ⟨fun q => absurd (List.cons.inj q).1 c,fun _ => Tr.out ?_ (by simp)⟩
   refine Tr.w fun s1 H1 hp _ kR => W.trim ?_
   obtain ⟨rfl,q⟩:=hp
   refine W.assoc ?_
   refine zCh ?_
   simp (disch:=first|omega|exact zE rfl|exact zO|exact zL rfl) [c22_o4,zG,q]
   refine zCh ?_
   simp (disch:=first|omega|exact zE rfl|exact zO|exact zL rfl) [zG,q]
   refine W.seq (W.block ?_)
   refine zCh ?_
   simp (disch:=first|omega|exact zE rfl|exact zO|exact zL rfl) [c22_o5,zG,q,gx,gz,e1,e1',e2,e2',k,-evDraw_c,evDraw_0]
   refine W.chunk ?_
   simp (disch:=first|omega|exact zE rfl|exact zO|exact zL rfl) [c22_o6,zG,q]
   exact kR _ _ (by simp [T.get,q])
theorem c22_l00 (J : CallF) {H : Heap} {y z : AV} (hy : y = .nils ∨ ∃ b,y = .slice b 0 0 0) : Tr tbl J c22_l0 (fun s h => h = H ∧ s.get [] = y ∧ s.get [false] = z ∧ s.get [false,true] = G 0) (.exit 0) (fun _ _ => True):=by
 refine Tr.out ?_ (by simp)
 rcases hy with rfl | ⟨b,rfl⟩
 all_goals
  refine Tr.w fun s1 H1 hp _ kR => W.trim ?_
  obtain ⟨rfl,q⟩:=hp
  refine W.assoc ?_
  refine zCh ?_
  simp (disch:=first|omega|exact zE rfl|exact zO|exact zL rfl) [c22_o4,zG,q]
  refine zCh ?_
  simp (disch:=first|omega|exact zE rfl|exact zO|exact zL rfl) [zG,q]
  exact kR _ _ trivial
theorem c22_ok (J : CallF) (k64 : K64 J) (hJ : ∀ a h,J 22 a h = none) (h : Heap) {x z : AV} (hx : LT h x A) (hz : LT h z B) (hA : A.length ≤ 1000000) (hB : B.length ≤ 1000000) (hs : ∀ l ∈ A,l.length ≤ 1000000) : CallsTo tbl J 22 [x,z] h (.bool (decide (A = B)),[],false):=by
 refine Tr.fnv (cf:=c22) (e:=.ret) (s:=T.set (T.set .leaf [] x) [false] z) (by decide) rfl (hJ _ _) rfl rfl rfl (by simp) ?_
 obtain ⟨rx,vx,lx,hxr⟩:=hx.lo []
 obtain ⟨rz,vz,lz,hzr⟩:=hz.lo []
 have fe : (⟨h.get,h.size,[]⟩ : Heap) = frameOf h:=rfl
 rw [fe] at vx vz hxr hzr
 refine Tr.w fun s1 H1 hp R kR => ?_
 obtain ⟨rfl,rfl⟩:=hp
 have q : True:=trivial
 have fin : ∀ b : Bool,decide (A = B) = b → ∀ s h',s.get [true,false] = .bool b → R .ret s h':=fun b e s h' a => kR _ _ ⟨[.bool b],by simp [c22,evRess,evRes,a],by rw [e]; rfl⟩
 clear kR
 rw [lx] at vx
 rw [lz] at vz
 by_cases hl : A.length = B.length
 ·by_cases h0 : A.length = 0
  ·have hA0 : A = []:=List.length_eq_zero_iff.1 h0
   have hB0 : B = []:=List.length_eq_zero_iff.1 (by omega)
   subst hA0 hB0
   have fin:=fin true rfl
   have sx : x = .nils ∨ ∃ b,x = .slice b 0 0 0:=by
    rcases vx with ⟨e,_⟩ | ⟨b,e,_⟩
    ·exact .inl e
    ·exact .inr ⟨b,e⟩
   have sz : z = .nils ∨ ∃ b,z = .slice b 0 0 0:=by
    rcases vz with ⟨e,_⟩ | ⟨b,e,_⟩
    ·exact .inl e
    ·exact .inr ⟨b,e⟩
   have l0:=c22_l00 (z:=z) (H:=frameOf h) J sx
   clear vx vz hxr hzr hx hz
   rcases sx with rfl | ⟨b,rfl⟩ <;> rcases sz with rfl | ⟨b',rfl⟩
   all_goals
    refine zCh ?_
    simp (disch:=first|omega|exact zE rfl|exact zO|exact zL rfl) [c22_o0,zG,q]
    refine W.assoc ?_
    refine zCh ?_
    simp (disch:=first|omega|exact zE rfl|exact zO|exact zL rfl) [c22_o1,zG,q]
    refine zCh ?_
    simp (disch:=first|omega|exact zE rfl|exact zO|exact zL rfl) [c22_o2,zG,q]
    refine W.assoc ?_
    refine zCh ?_
    simp (disch:=first|omega|exact zE rfl|exact zO|exact zL rfl) [c22_o3,zG,q]
    refine W.seq (W.block ?_)
    refine W.use (l0) (by simp (disch:=first|omega|exact zE rfl|exact zO|exact zL rfl) [zG,q]) fun s1 H1 hp => ?_
    try simp only [zW,if_true]
    refine zCh ?_
    simp (disch:=first|omega|exact zE rfl|exact zO|exact zL rfl) [c22_o8,zG,q]
    refine W.ret ?_
    try simp only [zW,if_true]
    exact fin _ _ (by simp [T.get])
  ·rcases vx with ⟨rfl,e⟩ | ⟨bx,rfl,gx⟩
   ·rw [e] at lx; simp at lx; omega
   rcases vz with ⟨rfl,e⟩ | ⟨bz,rfl,gz⟩
   ·rw [e] at lz; simp at lz; omega
   rw [← hl] at lz gz ⊢
   obtain ⟨l1,l2⟩:=c22_loop (A:=A) (B:=B) J k64 gx gz lx lz hA rfl hl.symm hs hxr hzr A.length 0 (by omega)
   rw [List.drop_zero,List.drop_zero] at l1 l2
   clear hxr hzr hx hz hs
   generalize A.length = n at *
   by_cases c : A = B
   ·have l1:=l1 c
    have fin:=fin true (decide_eq_true c)
    refine zCh ?_
    simp (disch:=first|omega|exact zE rfl|exact zO|exact zL rfl) [c22_o0,zG,q]
    refine W.assoc ?_
    refine zCh ?_
    simp (disch:=first|omega|exact zE rfl|exact zO|exact zL rfl) [c22_o1,zG,q]
    refine zCh ?_
    simp (disch:=first|omega|exact zE rfl|exact zO|exact zL rfl) [c22_o2,zG,q]
    refine W.assoc ?_
    refine zCh ?_
    simp (disch:=first|omega|exact zE rfl|exact zO|exact zL rfl) [c22_o3,zG,q]
    refine W.seq (W.block ?_)
    refine W.use (l1) (by simp (disch:=first|omega|exact zE rfl|exact zO|exact zL rfl) [zG,q]) fun s1 H1 hp => ?_
    try simp only [zW,if_true]
    refine zCh ?_
    simp (disch:=first|omega|exact zE rfl|exact zO|exact zL rfl) [c22_o8,zG,q]
    refine W.ret ?_
    try simp only [zW,if_true]
    exact fin _ _ (by simp [T.get])
   ·have l2:=l2 c
    have fin:=fin false (decide_eq_false c)
    refine zCh ?_
    simp (disch:=first|omega|exact zE rfl|exact zO|exact zL rfl) [c22_o0,zG,q]
    refine W.assoc ?_
    refine zCh ?_
    simp (disch:=first|omega|exact zE rfl|exact zO|exact zL rfl) [c22_o1,zG,q]
    refine zCh ?_
    simp (disch:=first|omega|exact zE rfl|exact zO|exact zL rfl) [c22_o2,zG,q]
    refine W.assoc ?_
    refine zCh ?_
    simp (disch:=first|omega|exact zE rfl|exact zO|exact zL rfl) [c22_o3,zG,q]
    refine W.seq (W.block ?_)
    refine W.use (l2) (by simp (disch:=first|omega|exact zE rfl|exact zO|exact zL rfl) [zG,q]) fun s1 H1 hp => ?_
    try simp only [zW,if_true]
    exact fin _ _ hp
 ·have fin:=fin false (decide_eq_false fun e => hl (by rw [e]))
  clear hxr hzr hx hz hs
  generalize A.length = n at *
  generalize B.length = m at *
  have sx : (x = .nils ∧ n = 0) ∨ ∃ b,x = .slice b 0 n n:=by
   rcases vx with ⟨e,e2⟩ | ⟨b,e,_⟩
   ·exact .inl ⟨e,by rw [← lx,e2]; rfl⟩
   ·exact .inr ⟨b,e⟩
  have sz : (z = .nils ∧ m = 0) ∨ ∃ b,z = .slice b 0 m m:=by
   rcases vz with ⟨e,e2⟩ | ⟨b,e,_⟩
   ·exact .inl ⟨e,by rw [← lz,e2]; rfl⟩
   ·exact .inr ⟨b,e⟩
  clear vx vz
  rcases sx with ⟨rfl,rfl⟩ | ⟨b,rfl⟩ <;> rcases sz with ⟨rfl,rfl⟩ | ⟨b',rfl⟩
  all_goals try (exfalso; omega)
  all_goals
   refine zCh ?_
   simp (disch:=first|omega|exact zE rfl|exact zO|exact zL rfl) [c22_o0,zG,q]
   refine W.assoc ?_
   refine zCh ?_
   simp (disch:=first|omega|exact zE rfl|exact zO|exact zL rfl) [c22_o1,zG,q]
   refine zCh ?_
   simp (disch:=first|omega|exact zE rfl|exact zO|exact zL rfl) [c22_o2,zG,q]
   exact fin _ _ (by simp [T.get])
end
structure A47 where
 A : List (List Int)
 B : List (List Int)
 x : AV
 z : AV
def Ok47 (a : A47) (h : Heap) : Prop:=LT h a.x a.A ∧ LT h a.z a.B ∧ a.A.length ≤ 1000000 ∧ a.B.length ≤ 1000000 ∧ ∀ l ∈ a.A,l.length ≤ 1000000
def Pre22 (a : A47) (args : List AV) (h : Heap) : Prop:=Ok47 a h ∧ args = [a.x,a.z]
def Post22 (a : A47) (h : Heap) (v : AV) (own : List AObj) : Prop:=v = .bool (decide (a.A = a.B)) ∧ own = []
noncomputable def T28 : CallF:=addK tbl T27 22 Pre22 Post22
theorem t28 : Sound Go.Proofs.Try.prog T28:=Sound.addK follows ok t27 (by decide) _ _
abbrev K22 (J : CallF) : Prop:=∀ (h : Heap) (a : A47),Ok47 a h → J 22 [a.x,a.z] h = some (.bool (decide (a.A = a.B)),[],false)
theorem k64_27 : K64 T27:=fun h x y a b hx hy hn => by
 rw [show T27 64 [x,y] h = T26 64 [x,y] h from by simp (disch:=decide) only [T27,addK_ne]]
 exact k64 h x y a b hx hy hn
theorem k22 : K22 T28:=fun h a ha => by
 obtain ⟨v,own,e,rfl,rfl⟩:=addK_some (Pre:=Pre22) (Post:=Post22) (fun a args h hp => by
  obtain ⟨⟨h1,h2,h3,h4,h5⟩,rfl⟩:=hp
  exact ⟨_,_,c22_ok T27 k64_27 (fun _ _ => by simp (disch:=decide) only [T1,T2,T3,T4,T5,T6,T7,T8,T9,T10,T11,T12,T13,T14,T15,T16,T17,T18,T19,T20,T21,T22,T23,T24,T25,T26,T27,addI_ne,addX_ne,addV_ne,addK_ne]; rfl) h h1 h2 h3 h4 h5,rfl,rfl⟩) a _ h ⟨ha,rfl⟩
 exact e
theorem c92_nil (J : CallF) (hJ : ∀ a h,J 92 a h = none) (h : Heap) {x : AV} (hx : x = .nils ∨ x = .slice0) : CallsTo tbl J 92 [x] h (.nils,[],false):=by
 refine Tr.fnv (cf:=c92) (e:=.ret) (s:=T.set .leaf [] x) (by decide) rfl (hJ _ _) rfl rfl rfl (by simp) ?_
 refine Tr.post (Q:=(fun s h => s.get [true] = .nils)) (fun s h q => by simp [c92,q]) ?_
 have t : Tr tbl J ((.seq c92_o0 (.seq c92_o1 (.seq c92_o2 .ret)))) (fun s h' => s = T.set .leaf [] x ∧ h' = frameOf h) .ret (fun s h => s.get [true] = .nils):=Tr.region fun s h hp => by
  obtain ⟨rfl,rfl⟩:=hp
  rcases hx with rfl | rfl <;> simp (disch:=first|omega|exact zE rfl|exact zO|exact zL rfl) [c92_o0,c92_o1,c92_o2,size_mk,get_mk_lt,get_mk_ge,frameOf,Eff.app,Heap.setOwn,slSlA,bounds,elems,rdOf,appA]
 exact t
theorem c92_nil2 (J : CallF) (hJ : ∀ a h,J 92 a h = none) (h : Heap) {b v : Nat} (hb : h.get b = .cells 1 v []) : CallsTo tbl J 92 [.slice b 0 0 v] h (.nils,[],false):=by
 have hlt:=get_lt hb (by simp)
 refine Tr.fnv (cf:=c92) (e:=.ret) (s:=T.set .leaf [] (.slice b 0 0 v)) (by decide) rfl (hJ _ _) rfl rfl rfl (by simp) ?_
 refine Tr.post (Q:=(fun s h => s.get [true] = .nils)) (fun s h q => by simp [c92,q]) ?_
 have t : Tr tbl J ((.seq c92_o0 (.seq c92_o1 (.seq c92_o2 .ret)))) (fun s h' => s = T.set .leaf [] (.slice b 0 0 v) ∧ h' = frameOf h) .ret (fun s h => s.get [true] = .nils):=Tr.region fun s h hp => by
  obtain ⟨rfl,rfl⟩:=hp
  simp (disch:=first|omega|exact zE rfl|exact zO|exact zL rfl) [c92_o0,c92_o1,c92_o2,frameOf,size_mk,get_mk_lt,get_mk_ge,frameOf,Eff.app,Heap.setOwn,slSlA,bounds,elems,rdOf,appA,hb]
 exact t
theorem c92_ok (J : CallF) (hJ : ∀ a h,J 92 a h = none) (h : Heap) {b v : Nat} {A : List Int} (hb : h.get b = .cells 1 v (gs A)) (hA : A ≠ []) :
  CallsTo tbl J 92 [.slice b 0 A.length v] h (.slice h.size 0 (A.take 6).length (A.take 6).length,[.cells 1 (A.take 6).length (gs (A.take 6))],false):=by
 have hlt:=get_lt hb (by simp)
 have hl : (A.take 6).length = min 6 A.length:=List.length_take
 have hp : 0 < A.length:=List.length_pos_iff.2 hA
 obtain ⟨m,hm⟩ : ∃ m,(A.take 6).length = m:=⟨_,rfl⟩
 rw [hm] at hl ⊢
 have e1 : (gs A).take m = gs (A.take 6):=by
  rw [← List.map_take]
  congr 1
  by_cases hA : A.length ≤ 6
  ·rw [List.take_of_length_le (by omega),List.take_of_length_le hA]
  ·rw [show m = 6 by omega]
 have e2 : (gs (A.take 6)).length = m:=by simp; omega
 obtain ⟨L,hL⟩ : ∃ L,A.length = L:=⟨_,rfl⟩
 rw [hL] at hl hp ⊢
 have e3 : (if (6 : Int) < (L : Int) then (6 : Int) else (L : Int)) = m:=by split <;> omega
 have e4 : ¬ (0 = L ∧ 0 < L):=by omega
 generalize gs (A.take 6) = cs at *
 generalize gs A = ca at *
 refine Tr.fnh (cf:=c92) (e:=.ret) (s:=T.set .leaf [] (.slice b 0 L v)) (by decide) rfl (hJ _ _) rfl rfl rfl (by simp) ?_
 refine Tr.post (Q:=(fun s h' => s.get [true] = .slice h.size 0 m m ∧ h' = ⟨h.get,h.size,[.cells 1 m cs]⟩)) (fun s h' q => by
  obtain ⟨q1,rfl⟩:=q
  simp [c92,q1]) ?_
 have t : Tr tbl J ((.seq c92_o0 (.seq c92_o1 (.seq c92_o2 .ret)))) (fun s h' => s = T.set .leaf [] (.slice b 0 L v) ∧ h' = frameOf h) .ret (fun s h' => s.get [true] = .slice h.size 0 m m ∧ h' = ⟨h.get,h.size,[.cells 1 m cs]⟩):=Tr.region fun s h hp => by
  obtain ⟨rfl,rfl⟩:=hp
  simp (disch:=first|omega|exact zE rfl|exact zO|exact zL rfl) [c92_o0,c92_o1,c92_o2,frameOf,size_mk,get_mk_lt,get_mk_ge,frameOf,Eff.app,Heap.setOwn,slSlA,bounds,elems,rdOf,appA,hb,e1,e2,e3,e4]
 exact t
def spec92 : SpecF:=fun args h => match args with
 | [.nils] => some (.nils,[],false)
 | [.slice0] => some (.nils,[],false)
 | [.slice b o len v] => match listOf h (.slice b o len v) with
  | some A => if A = [] then some (.nils,[],false) else some (.slice h.size 0 (A.take 6).length (A.take 6).length,[.cells 1 (A.take 6).length (gs (A.take 6))],false)
  | none => none
 | _ => none
theorem spec92_ok (J : CallF) (hJ : ∀ a h,J 92 a h = none) (args : List AV) (h : Heap) (x : AV × List AObj × Bool) (e : spec92 args h = some x) : CallsTo tbl J 92 args h x:=by
 unfold spec92 at e
 split at e
 ·simp only [Option.some.injEq] at e; subst e; exact c92_nil J hJ h (.inl rfl)
 ·simp only [Option.some.injEq] at e; subst e; exact c92_nil J hJ h (.inr rfl)
 ·split at e
  ·rename_i hl
   split at e
   ·rename_i hA
    subst hA
    simp only [Option.some.injEq] at e; subst e
    rcases listOf_some hl with ⟨h1,_⟩ | ⟨b',v',h1,g⟩
    ·cases h1
    ·cases h1; exact c92_nil2 J hJ h g
   ·rename_i hA
    simp only [Option.some.injEq] at e; subst e
    rcases listOf_some hl with ⟨h1,_⟩ | ⟨b',v',h1,g⟩
    ·cases h1
    ·cases h1; exact c92_ok J hJ h g hA
  ·cases e
 ·cases e
def cpV (S : Nat) (A : List Int) : AV:=if A = [] then .nils else .slice S 0 (A.take 6).length (A.take 6).length
def cpO (A : List Int) : List AObj:=if A = [] then [] else [.cells 1 (A.take 6).length (gs (A.take 6))]
theorem s92e {h : Heap} {x : AV} {A : List Int} (hx : LR h x A) : spec92 [x] h = some (cpV h.size A,cpO A,false):=by
 rcases hx.cases with ⟨rfl,rfl⟩ | ⟨rfl,rfl⟩ | ⟨b,v,rfl,g⟩
 ·rfl
 ·rfl
 ·have hl : listOf h (.slice b 0 A.length v) = some A:=listOf_cells g rfl
  unfold cpV cpO
  by_cases hA : A = []
  ·subst hA
   have hl' : listOf h (.slice b 0 0 v) = some []:=hl
   simp only [List.length_nil,spec92,hl',if_true]
  ·simp only [spec92,hl,if_neg hA]
theorem cp_list (h : Heap) (A : List Int) : listOf (h.plus (cpO A)) (cpV h.size A) = some (A.take 6):=by
 unfold cpO cpV
 by_cases hA : A = []
 ·subst hA; rfl
 ·rw [if_neg hA,if_neg hA]; exact listOf_cells (plus_at0 _ _ _ _ rfl) rfl
theorem cp_blk {S : Nat} {A : List Int} {q : Nat} (e : blk (cpV S A) = some q) : q = S:=by
 unfold cpV at e
 split at e
 ·cases e
 ·cases e; rfl
noncomputable def T29 : CallF:=addI T28 92 spec92
theorem t29 : Sound Go.Proofs.Try.prog T29:=Sound.add follows ok t28 (by decide) (fun args h x e => spec92_ok _ (fun _ _ => by simp (disch:=decide) only [T1,T2,T3,T4,T5,T6,T7,T8,T9,T10,T11,T12,T13,T14,T15,T16,T17,T18,T19,T20,T21,T22,T23,T24,T25,T26,T27,T28,addI_ne,addX_ne,addV_ne,addK_ne]; rfl) args h x e)
abbrev K92 (J : CallF) : Prop:=∀ (h : Heap) (x : AV) (A : List Int),LR h x A → J 92 [x] h = some (cpV h.size A,cpO A,false)
theorem k92 : K92 T29:=fun h x A hx => by
 have : T29 92 [x] h = spec92 [x] h:=by simp only [T29,addI,if_true]
 rw [this]; exact s92e hx
def cutM (M : List (List Int)) : List (List Int):=(M.take 7).map (·.take 6)
section
variable {M : List (List Int)} {y : AV}
abbrev L66 : List Path:=[[],[false,false],[true,false]]
theorem c66_o4_ok (J : CallF) (H : Heap) {x x1 : AV} {i n b v : Nat} {cs : List AV} {l : List Int} {e : Eff} {h2 : Heap} (k92 : K92 J) (g : H.get b = .cells 1 v cs) {r : AV} (er : cs[i]? = some r) (hr : LR H r l) (hi : i < n)
  (q1 : appA ((H.plus (cpO l)).plus [.cells 1 1 [cpV H.size l]]) H.size none 1 24 1 [cpV H.size l] x = some (x1,e)) (q2 : Eff.app e ((H.plus (cpO l)).plus [.cells 1 1 [cpV H.size l]]) = some h2) (q3 : AV.cells x1 = some [x1]) :
  Tr tbl J c66_o4 (fun s h => s.get [] = .slice b 0 n v ∧ s.get [false,false] = x ∧ s.get [true,false] = G i ∧ h = H) .normal (fun s h => s.get [] = .slice b 0 n v ∧ s.get [false,false] = x1 ∧ s.get [true,false] = G i ∧ h = h2):=by
 have k:=k92 H r l hr
 have hw : cpV H.size l = .nils ∨ ∃ q m,cpV H.size l = .slice q 0 m m:=by
  unfold cpV; split
  ·exact .inl rfl
  ·exact .inr ⟨_,_,rfl⟩
 have er' : ∀ h : i < cs.length,cs[i] = r:=fun h => by rw [List.getElem?_eq_getElem h] at er; exact Option.some.inj er
 generalize cpV H.size l = w at *
 generalize cpO l = own at *
 have f1 : ((H.plus own).plus [.cells 1 1 [w]]).get (H.plus own).size = .cells 1 1 [w]:=plus_at0 _ _ _ _ rfl
 have t : Tr tbl J (c66_o4) (fun s h => s.get [] = .slice b 0 n v ∧ s.get [false,false] = x ∧ s.get [true,false] = G i ∧ h = H) .normal (fun s h => s.get [] = .slice b 0 n v ∧ s.get [false,false] = x1 ∧ s.get [true,false] = G i ∧ h = h2):=Tr.region fun s h hp => by
  obtain ⟨g0,g1,g2,rfl⟩:=hp
  rcases hw with rfl | ⟨q,m,rfl⟩ <;> simp (disch:=first|omega|exact zE rfl|exact zO|exact zL rfl) [c66_o4,zG,g0,g1,g2,g,er,er',k,app_if,app_if',elems,rdOf,f1,q1,q2,q3]
 exact t
theorem c66_step (J : CallF) (k92 : K92 J) {H0 H : Heap} {x : AV} {i : Nat} (hy : MR H0 y M) (hi : i < M.length) (h9 : i ≤ 6) (t : TG H0 H x ((M.take i).map (·.take 6))) :
  Tr tbl J (.trim L66 c66_b0) (fun s h => s.get [] = y ∧ s.get [false,false] = x ∧ s.get [true,false] = G i ∧ h = H) .normal (fun s h => ∃ x1,s.get [] = y ∧ s.get [false,false] = x1 ∧ s.get [true,false] = G ((i + 1 : Nat) : Int) ∧ TG H0 h x1 ((M.take (i + 1)).map (·.take 6))):=by
 have hyH:=hy.kp t.k
 obtain ⟨b,v,cs,r,rfl,g,er,hr⟩:=hyH.row hi
 obtain ⟨l,hl⟩ : ∃ l,M.getD i [] = l:=⟨_,rfl⟩
 rw [hl] at hr
 have hM : M.take (i + 1) = M.take i ++ [l]:=by
  rw [List.take_add_one,← hl,List.getD_eq_getElem?_getD,List.getElem?_eq_getElem hi]; rfl
 have ko : Kp (fun _ => False) H (H.plus (cpO l)):=Kp.plus _ _
 obtain ⟨x1,e,h2,q1,q2,q3,q4⟩:=(t.kp ko).app H.size (cp_list H l) (fun q hq => ⟨fun e => by
   obtain rfl:=cp_blk hq
   obtain ⟨cs',lv,_⟩:=t.r
   have:=lv.lt e; omega,by
   obtain rfl:=cp_blk hq
   exact t.k.size⟩) (by simp; omega)
 have t4:=c66_o4_ok J H k92 g er hr hi q1 q2 q4
 have t3 : Tr tbl J ((.trim L66 (.seq c66_o3 (.cond (.s [true,false,true]) .skip (.exit 0))))) (fun s h => s.get [] = .slice b 0 M.length v ∧ s.get [false,false] = x ∧ s.get [true,false] = G i ∧ h = H) .normal (fun s h => s.get [] = .slice b 0 M.length v ∧ s.get [false,false] = x ∧ s.get [true,false] = G i ∧ h = H):=Tr.region fun s h hp => by
  obtain ⟨g0,g1,g2,rfl⟩:=hp
  simp (disch:=first|omega|exact zE rfl|exact zO|exact zL rfl) [c66_o3,zG,g0,g1,g2]
 have t5 : Tr tbl J (c66_o5) (fun s h => s.get [] = .slice b 0 M.length v ∧ s.get [false,false] = x1 ∧ s.get [true,false] = G i ∧ h = h2) .normal (fun s h => s.get [] = .slice b 0 M.length v ∧ s.get [false,false] = x1 ∧ s.get [true,false] = G ((i + 1 : Nat) : Int) ∧ h = h2):=Tr.region fun s h hp => by
  obtain ⟨g0,g1,g2,rfl⟩:=hp
  simp (disch:=first|omega|exact zE rfl|exact zO|exact zL rfl) [c66_o5,zG,g0,g1,g2]
 refine Tr.post (fun s h q => ?_) (Tr.trim_seq t3 (Tr.seq (Tr.block_out t4 (by simp)) t5))
 obtain ⟨a1,a2,a3,rfl⟩:=q
 refine ⟨x1,a1,a2,a3,?_⟩
 rw [hM,List.map_append]
 exact q3
theorem c66_ok (J : CallF) (k92 : K92 J) (hJ : ∀ a h,J 66 a h = none) (h : Heap) (hy : MR h y M) : ∃ v own,CallsTo tbl J 66 [y] h (v,own,false) ∧ TG h (h.plus own) v (cutM M):=by
 refine Tr.fny (cf:=c66) (e:=.ret) (s:=T.set .leaf [] y) (by decide) rfl (hJ _ _) rfl rfl (by simp) ?_
 have hy0 : MR (frameOf h) y M:=hy.lo []
 have hs:=hy.sl
 have t0 : Tr tbl J ((.seq c66_o0 c66_o1)) (fun s h' => s = T.set .leaf [] y ∧ h' = frameOf h) .normal (fun s h' => s.get [] = y ∧ s.get [false,false] = .nils ∧ h' = frameOf h):=Tr.region fun s h hp => by
  obtain ⟨rfl,rfl⟩:=hp
  simp (disch:=first|omega|exact zE rfl|exact zO|exact zL rfl) [c66_o0,c66_o1,zG]
 have t00 : Tr tbl J (c66_o2) (fun s h' => s.get [] = y ∧ s.get [false,false] = .nils ∧ h' = frameOf h) .normal (fun s h' => s.get [] = y ∧ s.get [false,false] = .nils ∧ s.get [true,false] = G ((0 : Nat) : Int) ∧ h' = frameOf h):=Tr.region fun s h hp => by
  obtain ⟨g0,g1,rfl⟩:=hp
  simp (disch:=first|omega|exact zE rfl|exact zO|exact zL rfl) [c66_o2,zG,g0,g1]
 obtain ⟨N,hN⟩ : ∃ N,min M.length 7 = N:=⟨_,rfl⟩
 have hcut : (M.take N).map (·.take 6) = cutM M:=by
  unfold cutM
  rw [← hN]
  by_cases c : M.length ≤ 7
  ·rw [Nat.min_eq_left c,List.take_of_length_le (by omega),List.take_of_length_le (by omega)]
  ·rw [Nat.min_eq_right (by omega)]
 have tl:=Tr.rounds (P:=fun i s h' => ∃ x,s.get [] = y ∧ s.get [false,false] = x ∧ s.get [true,false] = G (i : Nat) ∧ TG (frameOf h) h' x ((M.take i).map (·.take 6))) (M:=N) (tbl:=tbl) (I:=J) (live:=L66) (c:=c66_b0) (e:=.exit 0)
  (Q:=fun s h' => ∃ x,s.get [false,false] = x ∧ TG (frameOf h) h' x (cutM M))
  (fun i hi => Tr.exx fun x => Tr.fix (F:=fun H => TG (frameOf h) H x ((M.take i).map (·.take 6))) (P':=fun H s h' => s.get [] = y ∧ s.get [false,false] = x ∧ s.get [true,false] = G (i : Nat) ∧ h' = H)
   (fun H tg => c66_step J k92 hy0 (by omega) (by omega) tg) (fun s h' q => ⟨q.2.2.2,q.1,q.2.1,q.2.2.1,rfl⟩))
  (Tr.exx fun x => Tr.fix (F:=fun H => TG (frameOf h) H x ((M.take N).map (·.take 6))) (P':=fun H s h' => s.get [] = y ∧ s.get [false,false] = x ∧ s.get [true,false] = G (N : Nat) ∧ h' = H)
   (fun H tg => by
    rw [hcut] at tg
    have t : Tr tbl J ((.trim L66 c66_b0)) (fun s h' => s.get [] = y ∧ s.get [false,false] = x ∧ s.get [true,false] = G (N : Nat) ∧ h' = H) (.exit 0) (fun s h' => s.get [false,false] = x ∧ h' = H):=Tr.region fun s h hp => by
     obtain ⟨g0,g1,g2,rfl⟩:=hp
     obtain ⟨n,hn⟩ : ∃ n,M.length = n:=⟨_,rfl⟩
     rw [hn] at hs hN
     by_cases c : n ≤ 6
     ·have hNn : N = n:=by omega
      subst hNn
      rcases hs with ⟨rfl,rfl⟩ | ⟨rfl,rfl⟩ | ⟨b,v,rfl⟩ <;> simp (disch:=first|omega|exact zE rfl|exact zO|exact zL rfl) [c66_b0,c66_o3,zG,g0,g1,g2]
     ·have hNn : N = 7:=by omega
      subst hNn
      by_cases c2 : n = 7
      ·subst c2; rcases hs with ⟨rfl,h'⟩ | ⟨rfl,h'⟩ | ⟨b,v,rfl⟩ <;> first | omega | simp (disch:=first|omega|exact zE rfl|exact zO|exact zL rfl) [c66_b0,c66_o3,zG,g0,g1,g2]
      ·rcases hs with ⟨rfl,h'⟩ | ⟨rfl,h'⟩ | ⟨b,v,rfl⟩ <;> first | omega | simp (disch:=first|omega|exact zE rfl|exact zO|exact zL rfl) [c66_b0,c66_o3,zG,g0,g1,g2]
    exact Tr.post (fun s h' q => ⟨x,q.1,by rw [q.2]; exact tg⟩) t) (fun s h' q => ⟨q.2.2.2,q.1,q.2.1,q.2.2.1,rfl⟩))
  (by simp) 0 (by omega)
 refine Tr.post ?_ (Tr.app2 t0 (Tr.seq (Tr.seq t00 (Tr.block (Tr.pre ?_ tl))) (Tr.exx fun x => Tr.fix (F:=fun H => TG (frameOf h) H x (cutM M)) (P':=fun H s h' => s.get [false,false] = x ∧ h' = H) (Q:=fun s h' => TG (frameOf h) h' (s.get [true]) (cutM M)) (fun H tg => ?_) (fun s h' q => ⟨q.2,q.1,rfl⟩))))
 ·intro s h' q
  refine ⟨[s.get [true]],by simp [c66],?_⟩
  show TG h _ (s.get [true]) _
  split
  ·rename_i hf
   obtain ⟨cs,lv,hl,_⟩:=q.r
   rcases lv with ⟨e1,rfl⟩ | ⟨b,e1,_,_⟩
   ·rw [e1,List.length_eq_zero_iff.1 hl.symm]
    have : h.plus [] = h:=by simp [Heap.plus]
    rw [this]; exact TG.nil h
   ·rw [e1] at hf; simp [one,AV.flat,AV.flats] at hf
  ·exact q.fr
 ·intro s h' q
  exact ⟨.nils,q.1,q.2.1,q.2.2.1,by rw [q.2.2.2]; exact TG.nil _⟩
 ·
  have t : Tr tbl J ((.seq c66_o6 .ret)) (fun s h' => s.get [false,false] = x ∧ h' = H) .ret (fun s h' => s.get [true] = x ∧ h' = H):=Tr.region fun s h hp => by
   obtain ⟨g0,rfl⟩:=hp
   simp (disch:=first|omega|exact zE rfl|exact zO|exact zL rfl) [c66_o6,zG,g0]
  exact Tr.post (fun s h' q => by rw [q.1,q.2]; exact tg) t
end
def Pre66 (b : AV × List (List Int)) (args : List AV) (h : Heap) : Prop:=MR h b.1 b.2 ∧ args = [b.1]
def Post66 (b : AV × List (List Int)) (h : Heap) (v : AV) (own : List AObj) : Prop:=TG h (h.plus own) v (cutM b.2)
noncomputable def T30 : CallF:=addK tbl T29 66 Pre66 Post66
theorem t30 : Sound Go.Proofs.Try.prog T30:=Sound.addK follows ok t29 (by decide) _ _
abbrev K66 (J : CallF) : Prop:=∀ (h : Heap) (y : AV) (M : List (List Int)),MR h y M → ∃ v own,J 66 [y] h = some (v,own,false) ∧ TG h (h.plus own) v (cutM M)
theorem k66 : K66 T30:=fun h y M hy => by
 obtain ⟨v,own,e,l⟩:=addK_some (Pre:=Pre66) (Post:=Post66) (fun b args h hp => by
  obtain ⟨o,rfl⟩:=hp
  exact c66_ok T29 k92 (fun _ _ => by simp (disch:=decide) only [T1,T2,T3,T4,T5,T6,T7,T8,T9,T10,T11,T12,T13,T14,T15,T16,T17,T18,T19,T20,T21,T22,T23,T24,T25,T26,T27,T28,T29,addI_ne,addX_ne,addV_ne,addK_ne]; rfl) h o) (y,M) _ h ⟨hy,rfl⟩
 exact ⟨v,own,e,l⟩
theorem TG.kpm {M : Nat → Prop} {Hb H0 h h' : Heap} {x : AV} {L : List (List Int)} (t : TG H0 h x L) (k : Kp M h h') (hM : ∀ b,M b → b < H0.size) (k0 : Kp (fun _ => False) Hb h') (hs : Hb.size ≤ H0.size) : TG Hb h' x L:=by
 obtain ⟨rs,lv,hl,hr⟩:=t.r
 refine ⟨k0,fun q hq => Nat.le_trans hs (t.x0 q hq),rs,lv.kp k (fun b hb m => by have:=t.x0 b hb; have:=hM b m; omega),hl,fun i r hi => ?_⟩
 obtain ⟨l,h1,h2,h3⟩:=hr i r hi
 exact ⟨l,h1,listOf_kp k h2 (fun q hq m => by have:=hM q m; have:=h3 q hq; omega),fun q hq => ⟨(h3 q hq).1,Nat.le_trans hs (h3 q hq).2.1,Nat.lt_of_lt_of_le (h3 q hq).2.2 k.size⟩⟩
theorem TG.sh {H0 h : Heap} {x : AV} {L : List (List Int)} (t : TG H0 h x L) : x = .nils ∨ ∃ b n,x = .slice b 0 n n:=by
 obtain ⟨rs,lv,_⟩:=t.r
 exact lv.sh
theorem TG.of_nils {H0 h : Heap} {L : List (List Int)} (t : TG H0 h .nils L) : L = []:=by
 obtain ⟨rs,lv,hl,_⟩:=t.r
 rcases lv with ⟨_,e⟩ | ⟨b,e,_⟩
 ·rw [e] at hl; exact List.length_eq_zero_iff.1 hl.symm
 ·cases e
theorem TG.slp {H0 h : Heap} {own : List AObj} {b n : Nat} {L : List (List Int)} (t : TG H0 (h.plus own) (.slice b 0 n n) L) (hs : h.size = H0.size) : own ≠ []:=fun e => by
 have h1:=t.x0 b rfl
 obtain ⟨rs,lv,_⟩:=t.r
 have:=lv.lt (b:=b) rfl
 rw [plus_size,e] at this
 simp at this; omega
structure ATs where
 q : Int
 x : AV
 y : AV
 B : List (List Int)
 W : List (List Int)
def Ok24 (a : ATs) (h : Heap) : Prop:=MR h a.x a.B ∧ MR h a.y a.W
section
variable {a : ATs}
theorem c24_ok (J : CallF) (k66 : K66 J) (hJ : ∀ a h,J 24 a h = none) (h : Heap) (o : Ok24 a h) :
  ∃ v own,CallsTo tbl J 24 [.agg [G a.q,a.x,a.y]] h (v,own,false) ∧ ∃ x y,v = .agg [G a.q,x,y] ∧ TG h (h.plus own) x (cutM a.B) ∧ TG h (h.plus own) y (cutM a.W):=by
 refine Tr.fny (cf:=c24) (e:=.ret) (s:=T.set .leaf [] (.agg [G a.q,a.x,a.y])) (by decide) rfl (hJ _ _) rfl rfl (by simp) ?_
 obtain ⟨Hs,hHs⟩ : ∃ H,(⟨h.get,h.size,[.cells 0 3 [G a.q,a.x,a.y],.cells 0 3 [G 0,.nils,.nils]]⟩ : Heap) = H:=⟨_,rfl⟩
 have mx : MR Hs a.x a.B:=by rw [← hHs]; exact o.1.lo _
 have my : MR Hs a.y a.W:=by rw [← hHs]; exact o.2.lo _
 obtain ⟨x,own1,e1,tb1⟩:=k66 Hs a.x a.B mx
 have kp1 : Kp (fun _ => False) Hs (Hs.plus own1):=Kp.plus _ _
 obtain ⟨y,own2,e2,tb2⟩:=k66 (Hs.plus own1) a.y a.W (my.kp kp1)
 have kp2 : Kp (fun _ => False) (Hs.plus own1) ((Hs.plus own1).plus own2):=Kp.plus _ _
 have hS : Hs.size = h.size + 2:=by rw [← hHs]; rfl
 have hN : Hs.N = h.size:=by rw [← hHs]
 have gS : Hs.get h.size = .cells 0 3 [G a.q,a.x,a.y]:=by rw [← hHs,get_mk_ge _ _ _ _ (Nat.le_refl _),Nat.sub_self]; rfl
 have gR : Hs.get (h.size + 1) = .cells 0 3 [G 0,.nils,.nils]:=by rw [← hHs,get_mk_ge _ _ _ _ (by omega),Nat.add_sub_cancel_left]; rfl
 obtain ⟨Z,hZ⟩ : ∃ Z,(Hs.plus own1).plus own2 = Z:=⟨_,rfl⟩
 have gS1:=kp1.at gS (by simp) id
 have gRZ : Z.get (h.size + 1) = .cells 0 3 [G 0,.nils,.nils]:=by rw [← hZ]; exact kp2.at (kp1.at gR (by simp) id) (by simp) id
 have ZN : Z.N = h.size:=by rw [← hZ]; exact hN
 have ZS : h.size + 2 ≤ Z.size:=by rw [← hZ,plus_size,plus_size,hS]; omega
 have p : Eff.app (.put (h.size + 1) 3 0 [G a.q,x,y]) Z = some (Z.upd (h.size + 1) (.cells 0 3 [G a.q,x,y])):=by
  rw [put_gen _ _ _ _ _ _ _ (by omega) gRZ (by simp)]; rfl
 have gU : (Z.upd (h.size + 1) (.cells 0 3 [G a.q,x,y])).get (h.size + 1) = .cells 0 3 [G a.q,x,y]:=upd_same _ _ _ (by omega) (by omega)
 have kU : Kp (· = h.size + 1) Z (Z.upd (h.size + 1) (.cells 0 3 [G a.q,x,y])):=Kp.upd _ _ _ (by omega) rfl
 have lowU : Kp (fun _ => False) (frameOf h) (Z.upd (h.size + 1) (.cells 0 3 [G a.q,x,y])):=Kp.low (by show Z.lo = _; rw [← hZ,← hHs]; rfl) ZN
 have t1 : TG (frameOf h) (Z.upd (h.size + 1) (.cells 0 3 [G a.q,x,y])) x (cutM a.B):=by
  refine TG.kpm (H0:=Hs) (h:=Z) ?_ kU (fun b e => by omega) lowU (by show h.size + 0 ≤ _; omega)
  rw [← hZ]; exact tb1.kp kp2
 have t2 : TG (frameOf h) (Z.upd (h.size + 1) (.cells 0 3 [G a.q,x,y])) y (cutM a.W):=by
  refine TG.kpm (H0:=Hs.plus own1) (h:=Z) ?_ kU (fun b e => by rw [plus_size]; omega) lowU (by show h.size + 0 ≤ _; rw [plus_size]; omega)
  rw [← hZ]; exact tb2
 have s1' : (x = .nils) ∨ (∃ b n,x = .slice b 0 n n) ∧ own1 ≠ []:=by
  rcases tb1.sh with e | ⟨b,n,e⟩
  ·exact .inl e
  ·subst e; exact .inr ⟨⟨b,n,rfl⟩,tb1.slp rfl⟩
 have s2' : (y = .nils) ∨ (∃ b n,y = .slice b 0 n n) ∧ own2 ≠ []:=by
  rcases tb2.sh with e | ⟨b,n,e⟩
  ·exact .inl e
  ·subst e; exact .inr ⟨⟨b,n,rfl⟩,tb2.slp rfl⟩
 clear tb1 tb2 kp1 kp2 lowU kU gRZ gR mx my o
 generalize hU : Z.upd (h.size + 1) (.cells 0 3 [G a.q,x,y]) = U at *
 have fin : ∀ (z : AV) (L : List (List Int)),TG (frameOf h) U z L → (z = x ∨ z = y) → TG h (h.plus (if (one [.agg [G a.q,x,y]]).flat then [] else U.own)) z L:=fun z L t hz => by
  split
  ·rename_i hf
   have zn : z = .nils:=by
    rcases t.sh with e | ⟨b,n,e⟩
    ·exact e
    ·subst e
     rcases hz with e | e <;> simp [one,AV.flat,AV.flats,← e] at hf
   subst zn
   have e0:=t.of_nils
   subst e0
   have : h.plus [] = h:=by simp [Heap.plus]
   rw [this]; exact TG.nil h
  ·exact t.fr
 have f1:=fin _ _ t1 (.inl rfl)
 have f2:=fin _ _ t2 (.inr rfl)
 clear fin t1 t2
 have o1 : own1 = [] ∨ ∃ o os,own1 = o :: os:=by cases own1 <;> simp
 have o2 : own2 = [] ∨ ∃ o os,own2 = o :: os:=by cases own2 <;> simp
 have g0 : ∀ xs,h.plus xs = h.plus xs:=fun _ => rfl
 have hp0 : ∀ H : Heap,H.plus [] = H:=fun H => by simp [Heap.plus]
 have w : Tr tbl J c24.body (fun s' h' => s' = T.set .leaf [] (.agg [G a.q,a.x,a.y]) ∧ h' = frameOf h) .ret (fun s h' => s.get [true] = .ptr (h.size + 1) 0 3 ∧ h' = U):=by
  clear f1 f2
  rcases s1' with rfl | ⟨⟨bx,nx,rfl⟩,n1⟩ <;> rcases s2' with rfl | ⟨⟨by',ny,rfl⟩,n2⟩
  all_goals
   rcases o1 with rfl | ⟨u1,v1,rfl⟩ <;> rcases o2 with rfl | ⟨u2,v2,rfl⟩
  all_goals first | exact absurd rfl n1 | exact absurd rfl n2 | skip
  all_goals
   try rw [hp0] at hZ
   try rw [hp0] at hZ
   try rw [hp0] at gS1
   try rw [hp0] at e2
   subst hZ
   refine Tr.w fun s1 H1 hp _ kR => ?_
   obtain ⟨rfl,rfl⟩:=hp
   have q : True:=trivial
   refine zCh ?_
   simp (disch:=first|omega|exact zE rfl|exact zO|exact zL rfl) [c24_o0,size_mk,get_mk_lt,get_mk_ge,frameOf,Eff.app,Heap.setOwn,q,hHs]
   refine zCh ?_
   simp (disch:=first|omega|exact zE rfl|exact zO|exact zL rfl) [c24_o1,zG,q,gS,gS1,e1,e2,p,-evDraw_c,evDraw_0]
   refine W.ret ?_
   try simp only [zW,if_true]
   exact kR _ _ (by simp [T.get])
 refine Tr.post (fun s h' q => ?_) w
 obtain ⟨q,rfl⟩:=q
 exact ⟨[.agg [G a.q,x,y]],by simp [c24,evRess,evRes,loadA,q,gU,takeA],x,y,rfl,f1,f2⟩
end
def Pre24 (a : ATs) (args : List AV) (h : Heap) : Prop:=Ok24 a h ∧ args = [.agg [G a.q,a.x,a.y]]
def Post24 (a : ATs) (h : Heap) (v : AV) (own : List AObj) : Prop:=∃ x y,v = .agg [G a.q,x,y] ∧ TG h (h.plus own) x (cutM a.B) ∧ TG h (h.plus own) y (cutM a.W)
noncomputable def T31 : CallF:=addK tbl T30 24 Pre24 Post24
theorem t31 : Sound Go.Proofs.Try.prog T31:=Sound.addK follows ok t30 (by decide) _ _
abbrev K24 (J : CallF) : Prop:=∀ (h : Heap) (a : ATs),Ok24 a h → ∃ x y own,J 24 [.agg [G a.q,a.x,a.y]] h = some (.agg [G a.q,x,y],own,false) ∧ TG h (h.plus own) x (cutM a.B) ∧ TG h (h.plus own) y (cutM a.W)
theorem k24 : K24 T31:=fun h a o => by
 obtain ⟨v,own,e,x,y,rfl,l⟩:=addK_some (Pre:=Pre24) (Post:=Post24) (fun a args h hp => by
  obtain ⟨o,rfl⟩:=hp
  exact c24_ok T30 k66 (fun _ _ => by simp (disch:=decide) only [T1,T2,T3,T4,T5,T6,T7,T8,T9,T10,T11,T12,T13,T14,T15,T16,T17,T18,T19,T20,T21,T22,T23,T24,T25,T26,T27,T28,T29,T30,addI_ne,addX_ne,addV_ne,addK_ne]; rfl) h o) a _ h ⟨o,rfl⟩
 exact ⟨x,y,own,e,l⟩
section
variable {a : AR} {m : Int}
end
def Post28 (b : ARm) (h : Heap) (v : AV) (own : List AObj) : Prop:=v = .bool (b.a.rm b.m) ∧ own = []
noncomputable def T32 : CallF:=addK tbl T31 28 PreRm Post28
theorem t32 : Sound Go.Proofs.Try.prog T32:=Sound.addK follows ok t31 (by decide) _ _
end Go.Proofs.Ytljgfdamdcikgaa.Ev
set_option linter.unusedVariables false
set_option linter.unusedSimpArgs false
namespace Go.Proofs.Ytljgfdamdcikgaa.Ev
open Go Go.AEv
def chk99 (n : Nat) : Bool:=match (evW tbl noIntr 12).call 99 [.int .u64 1,.int .u64 n] e0 with
 | some (.tup [.int .u64 0,.int .u64 m],[],false) => m == n
 | _ => false
theorem chk99_all : (List.range 244).all chk99 = true:=by decide +kernel
theorem c99_ok (n : Nat) (h : n < 244) : CallsTo tbl noIntr 99 [.int .u64 1,.int .u64 n] e0 (.tup [.int .u64 0,.int .u64 n],[],false):=by
 have:=List.all_eq_true.1 chk99_all n (List.mem_range.2 h)
 unfold chk99 at this
 split at this
 ·rename_i m e
  simp only [beq_iff_eq] at this
  subst this
  exact ⟨12,e⟩
 ·cases this
def spec99 : SpecV
 | [.int .u64 a,.int .u64 n] => if a = 1 ∧ 0 ≤ n ∧ n < 244 then some (.tup [.int .u64 0,.int .u64 n]) else none
 | _ => none
end Go.Proofs.Ytljgfdamdcikgaa.Ev
set_option linter.unusedVariables false
set_option linter.unusedSimpArgs false
namespace Go.Proofs.Ytljgfdamdcikgaa.Ev
open Go Go.AEv
attribute [local simp] evFunc initS evOps_c evTrim_c evSkip_c evExit_c evRet_c evSeq_c evCond_c evBlock_c evDraw_c runOps_n runOps_c exec_n exec_g pure1_c act AOpd.ev T.get T.set T.put evBin evUn forceT_eq forceV_eq forceL_eq evRess evRes one keep runFP_n runFP_c app_none AV.flats AV.flat came_some List.getElem?_cons_zero List.getElem?_cons_succ beqT wrapI idxI tdivI tmodI decT decF ibT ibF inT inF evScope_c if_pos if_neg Cm_some thenW_n thenW_e thenW_r blkW_n blkW_e blkW_r goI kn putAt AV.cells fillA loadA takeA mk Eff.isAll Eff.isNone Eff.commutes Eff.spares okPair apart eqAgg fits LK.fits allEq aveq eqk mmA
def RB (n m : Nat) (x : Int) : List AV:=List.replicate m (G x) ++ List.replicate (n - m) (G 0)
theorem RB_len {n m : Nat} {x : Int} (h : m ≤ n) : (RB n m x).length = n:=by simp [RB]; omega
theorem RB_take (n m : Nat) (x : Int) : (RB n m x).take m = List.replicate m (G x):=by simp [RB]
theorem RB_all (n : Nat) (x : Int) : RB n n x = List.replicate n (G x):=by simp [RB]
theorem rep_put : ∀ (k a : Nat) (y : AV) (cs : List AV),k ≤ cs.length → putAt (List.replicate a y ++ cs) a (List.replicate k y) = List.replicate (a + k) y ++ cs.drop k:=by
 intro k
 induction k with
 | zero => intro a y cs _; simp [putAt]
 | succ k ih =>
  intro a y cs hk
  cases cs with
  | nil => simp at hk
  | cons c cs =>
   rw [List.replicate_succ,putAt,List.set_append_right _ _ (by simp),List.length_replicate,Nat.sub_self,List.set_cons_zero]
   rw [show List.replicate a y ++ y :: cs = List.replicate (a + 1) y ++ cs by rw [List.replicate_succ',List.append_assoc]; rfl]
   rw [ih _ _ _ (by simpa using hk),show a + 1 + k = a + (k + 1) by omega]; rfl
theorem RB_put {n m k : Nat} {x : Int} (h : m + k ≤ n) : putAt (RB n m x) m (List.replicate k (G x)) = RB n (m + k) x:=by
 unfold RB
 rw [rep_put _ _ _ _ (by simp; omega),List.drop_replicate,Nat.sub_sub]
section
variable {n : Nat} {x : Int}
abbrev P91 (h : Heap) (n : Nat) (x : Int) (m : Nat) : SP:=(fun s h' => s.get [false,false,false] = .slice h.size 0 n n ∧ s.get [true,false,false] = G m ∧ h' = ⟨h.get,h.size,[.cells 1 n (RB n m x)]⟩)
theorem rep_loop (J : CallF) (h : Heap) (hn : n ≤ 243) : ∀ (j m : Nat),n - m ≤ j → 1 ≤ m → m ≤ n → Tr tbl J c91_l0 (P91 h n x m) (.exit 0) (P91 h n x n):=by
 intro j
 induction j with
 | zero =>
  intro m hj h1 h2
  obtain rfl : m = n:=by omega
  have t : Tr tbl J ((.trim [[false,false,false],[true,false,false]] c91_b0)) (fun s h' => s.get [false,false,false] = .slice h.size 0 m m ∧ s.get [true,false,false] = G m ∧ h' = ⟨h.get,h.size,[.cells 1 m (RB m m x)]⟩) (.exit 0) (fun s h' => s.get [false,false,false] = .slice h.size 0 m m ∧ s.get [true,false,false] = G m ∧ h' = ⟨h.get,h.size,[.cells 1 m (RB m m x)]⟩):=Tr.region fun s h hp => by
   obtain ⟨g0,g1,rfl⟩:=hp
   simp (disch:=first|omega|exact zE rfl|exact zO|exact zL rfl) [c91_b0,c91_o8,frameOf,Heap.size,Heap.get,Eff.app,Heap.setOwn,g0,g1]
  exact Tr.out t (by simp)
 | succ j ih =>
  intro m hj h1 h2
  by_cases hm : m = n
  ·exact ih m (by omega) h1 h2
  ·obtain ⟨k,hk⟩ : ∃ k,k = min m (n - m):=⟨_,rfl⟩
   have hkm : m + k ≤ n:=by omega
   have e1:=RB_len (n:=n) (m:=m) (x:=x) h2
   have e2:=RB_take n m x
   have e3:=RB_put (n:=n) (m:=m) (k:=k) (x:=x) hkm
   have e4 : min m (n - m) = k:=hk.symm
   have e5 : min k m = k:=by omega
   obtain ⟨cs,hcs⟩ : ∃ cs,RB n m x = cs:=⟨_,rfl⟩
   rw [hcs] at e1 e2 e3
   have hm0 : ¬ (m = n ∧ 0 < n):=by omega
   have hm1 : ¬ (0 = n ∧ 0 < n):=by omega
   have t : Tr tbl J ((.trim [[false,false,false],[true,false,false]] c91_b0)) (fun s h' => s.get [false,false,false] = .slice h.size 0 n n ∧ s.get [true,false,false] = G m ∧ h' = ⟨h.get,h.size,[.cells 1 n cs]⟩) .normal (fun s h' => s.get [false,false,false] = .slice h.size 0 n n ∧ s.get [true,false,false] = G ((m + k : Nat) : Int) ∧ h' = ⟨h.get,h.size,[.cells 1 n (RB n (m + k) x)]⟩):=Tr.region fun s h hp => by
    obtain ⟨g0,g1,rfl⟩:=hp
    simp (disch:=first|omega|exact zE rfl|exact zO|exact zL rfl) [c91_b0,c91_o8,c91_o9,frameOf,Heap.size,Heap.get,Eff.app,Heap.setOwn,g0,g1,slSlA,bounds,elems,copyA,rdOf,hm0,hm1,e1,e2,e3,e4,e5,List.take_replicate]
    omega
   rw [← hcs] at t
   exact Tr.next t (ih (m + k) (by omega) (by omega) (by omega))
theorem c91_ok (J : CallF) (k99 : ∀ (h : Heap) (n : Int),0 ≤ n → n < 244 → J 99 [.int .u64 1,.int .u64 n] h = some (.tup [.int .u64 0,.int .u64 n],[],false)) (hJ : ∀ a h,J 91 a h = none) (h : Heap) (b : Nat) (hb : h.get b = .cells 1 1 [G x]) (h1 : 1 ≤ n) (h2 : n ≤ 243) :
  CallsTo tbl J 91 [.slice b 0 1 1,G n] h (.slice h.size 0 n n,[.cells 1 n (List.replicate n (G x))],false):=by
 have hlt:=get_lt hb (by simp)
 have wu : ∀ z : Int,0 ≤ z → z < 244 → IntKind.u64.wrap z = z:=fun z _ _ => by unfold IntKind.wrap IntKind.bits IntKind.signed; simp; omega
 refine Tr.fnh (cf:=c91) (e:=.ret) (s:=T.set (T.set .leaf [] (.slice b 0 1 1)) [false] (G n)) (by decide) rfl (hJ _ _) rfl rfl rfl (by simp) ?_
 have t0 : Tr tbl J (c91_o0) (fun s h' => s = T.set (T.set .leaf [] (.slice b 0 1 1)) [false] (G n) ∧ h' = frameOf h) .normal (fun s h' => s.get [] = .slice b 0 1 1 ∧ s.get [false] = G n ∧ h' = ⟨h.get,h.size,[]⟩):=Tr.region fun s h hp => by
  obtain ⟨rfl,rfl⟩:=hp
  simp (disch:=first|omega|exact zE rfl|exact zO|exact zL rfl) [c91_o0,frameOf,Heap.size,Heap.get,Eff.app,Heap.setOwn]
 have t1 : Tr tbl J ((.seq c91_o1 (.cond (.s [true,true,false]) c91_o2 .skip))) (fun s h' => s.get [] = .slice b 0 1 1 ∧ s.get [false] = G n ∧ h' = ⟨h.get,h.size,[]⟩) .normal (fun s h' => s.get [] = .slice b 0 1 1 ∧ s.get [false] = G n ∧ h' = ⟨h.get,h.size,[]⟩):=Tr.region fun s h hp => by
  obtain ⟨g0,g1,rfl⟩:=hp
  simp (disch:=first|omega|exact zE rfl|exact zO|exact zL rfl) [c91_o1,frameOf,Heap.size,Heap.get,Eff.app,Heap.setOwn,g0,g1]
 have t2 : Tr tbl J (c91_o3) (fun s h' => s.get [] = .slice b 0 1 1 ∧ s.get [false] = G n ∧ h' = ⟨h.get,h.size,[]⟩) .normal (fun s h' => s.get [] = .slice b 0 1 1 ∧ s.get [false,true] = .int .u64 0 ∧ s.get [true,true] = .int .u64 n ∧ h' = ⟨h.get,h.size,[]⟩):=Tr.region fun s h hp => by
  obtain ⟨g0,g1,rfl⟩:=hp
  simp (disch:=first|omega|exact zE rfl|exact zO|exact zL rfl) [c91_o3,frameOf,Heap.size,Heap.get,Eff.app,Heap.setOwn,g0,g1,wu,k99]
 have t3 : Tr tbl J ((.seq c91_o4 (.cond (.s [true,true,false,true]) c91_o5 .skip))) (fun s h' => s.get [] = .slice b 0 1 1 ∧ s.get [false,true] = .int .u64 0 ∧ s.get [true,true] = .int .u64 n ∧ h' = ⟨h.get,h.size,[]⟩) .normal (fun s h' => s.get [] = .slice b 0 1 1 ∧ s.get [true,true] = .int .u64 n ∧ h' = ⟨h.get,h.size,[]⟩):=Tr.region fun s h hp => by
  obtain ⟨g0,g1,g2,rfl⟩:=hp
  simp (disch:=first|omega|exact zE rfl|exact zO|exact zL rfl) [c91_o4,frameOf,Heap.size,Heap.get,Eff.app,Heap.setOwn,g0,g1,g2]
 have e0 : RB n 1 x = (List.replicate n (G 0)).set 0 (G x):=by
  obtain ⟨N,rfl⟩ : ∃ N,n = N + 1:=⟨n - 1,by omega⟩
  simp [RB,List.replicate_succ]
 have t4 : Tr tbl J ((.seq c91_o6 c91_o7)) (fun s h' => s.get [] = .slice b 0 1 1 ∧ s.get [true,true] = .int .u64 n ∧ h' = ⟨h.get,h.size,[]⟩) .normal (fun s h' => s.get [false,false,false] = .slice h.size 0 n n ∧ s.get [true,false,false] = G ((1 : Nat) : Int) ∧ h' = ⟨h.get,h.size,[.cells 1 n (RB n 1 x)]⟩):=Tr.region fun s h hp => by
  obtain ⟨g0,g1,rfl⟩:=hp
  rw [e0]
  simp (disch:=first|omega|exact zE rfl|exact zO|exact zL rfl) [c91_o6,c91_o7,size_mk,get_mk_lt,get_mk_ge,frameOf,Eff.app,Heap.setOwn,g0,g1,repl,elems,copyA,rdOf,hb]
  omega
 have t5 : Tr tbl J ((.seq c91_o10 .ret)) (fun s h' => s.get [false,false,false] = .slice h.size 0 n n ∧ s.get [true,false,false] = G n ∧ h' = ⟨h.get,h.size,[.cells 1 n (RB n n x)]⟩) .ret (fun s h' => s.get [true,false] = .slice h.size 0 n n ∧ h' = ⟨h.get,h.size,[.cells 1 n (RB n n x)]⟩):=Tr.region fun s h hp => by
  obtain ⟨g0,g1,rfl⟩:=hp
  simp (disch:=first|omega|exact zE rfl|exact zO|exact zL rfl) [c91_o10,frameOf,Heap.size,Heap.get,Eff.app,Heap.setOwn,g0,g1]
 refine Tr.post (fun s h' q => ?_) (Tr.seq t0 (Tr.seq t1 (Tr.seq t2 (Tr.seq t3 (Tr.app2 t4 (Tr.seq (Tr.block (rep_loop J h h2 n 1 (by omega) (by omega) h1)) t5))))))
 obtain ⟨q1,rfl⟩:=q
 simp [c91,q1,RB_all]
theorem c91_0 (J : CallF) (k99 : ∀ (h : Heap) (n : Int),0 ≤ n → n < 244 → J 99 [.int .u64 1,.int .u64 n] h = some (.tup [.int .u64 0,.int .u64 n],[],false)) (hJ : ∀ a h,J 91 a h = none) (h : Heap) (b : Nat) (hb : h.get b = .cells 1 1 [G x]) :
  CallsTo tbl J 91 [.slice b 0 1 1,G 0] h (.slice h.size 0 0 0,[.cells 1 0 []],false):=by
 have hlt:=get_lt hb (by simp)
 have wu : ∀ z : Int,0 ≤ z → z < 244 → IntKind.u64.wrap z = z:=fun z _ _ => by unfold IntKind.wrap IntKind.bits IntKind.signed; simp; omega
 refine Tr.fnh (cf:=c91) (e:=.ret) (s:=T.set (T.set .leaf [] (.slice b 0 1 1)) [false] (G 0)) (by decide) rfl (hJ _ _) rfl rfl rfl (by simp) ?_
 refine Tr.post (Q:=(fun s h' => h' = ⟨h.get,h.size,[.cells 1 0 []]⟩ ∧ s.get [true,false] = .slice h.size 0 0 0)) (fun s h' q => by
  obtain ⟨rfl,q1⟩:=q
  simp [c91,q1]) ?_
 have l0 : Tr tbl J c91_l0 (fun s h' => h' = ⟨h.get,h.size,[.cells 1 0 []]⟩ ∧ s.get [false,false,false] = .slice h.size 0 0 0 ∧ s.get [true,false,false] = G 0) (.exit 0) (fun s h' => h' = ⟨h.get,h.size,[.cells 1 0 []]⟩ ∧ s.get [false,false,false] = .slice h.size 0 0 0):=by
  refine Tr.out ?_ (by simp)
  refine Tr.w fun s1 H1 hp _ kR => W.trim ?_
  obtain ⟨rfl,q⟩:=hp
  refine W.assoc ?_
  refine zCh ?_
  simp (disch:=first|omega|exact zE rfl|exact zO|exact zL rfl) [c91_o8,size_mk,get_mk_lt,get_mk_ge,frameOf,Eff.app,Heap.setOwn,q]
  refine zCh ?_
  simp (disch:=first|omega|exact zE rfl|exact zO|exact zL rfl) [size_mk,get_mk_lt,get_mk_ge,frameOf,Eff.app,Heap.setOwn,q]
  exact kR _ _ (by simp [T.get,q])
 refine Tr.w fun s1 H1 hp _ kR => ?_
 obtain ⟨rfl,rfl⟩:=hp
 have q : True:=trivial
 refine zCh ?_
 simp (disch:=first|omega|exact zE rfl|exact zO|exact zL rfl) [c91_o0,size_mk,get_mk_lt,get_mk_ge,frameOf,Eff.app,Heap.setOwn,q]
 refine W.assoc ?_
 refine zCh ?_
 simp (disch:=first|omega|exact zE rfl|exact zO|exact zL rfl) [c91_o1,size_mk,get_mk_lt,get_mk_ge,frameOf,Eff.app,Heap.setOwn,q]
 refine zCh ?_
 simp (disch:=first|omega|exact zE rfl|exact zO|exact zL rfl) [c91_o2,size_mk,get_mk_lt,get_mk_ge,frameOf,Eff.app,Heap.setOwn,q]
 refine zCh ?_
 simp (disch:=first|omega|exact zE rfl|exact zO|exact zL rfl) [c91_o3,size_mk,get_mk_lt,get_mk_ge,frameOf,Eff.app,Heap.setOwn,q,wu,k99]
 refine W.assoc ?_
 refine zCh ?_
 simp (disch:=first|omega|exact zE rfl|exact zO|exact zL rfl) [c91_o4,size_mk,get_mk_lt,get_mk_ge,frameOf,Eff.app,Heap.setOwn,q]
 refine zCh ?_
 simp (disch:=first|omega|exact zE rfl|exact zO|exact zL rfl) [c91_o5,size_mk,get_mk_lt,get_mk_ge,frameOf,Eff.app,Heap.setOwn,q]
 refine zCh ?_
 simp (disch:=first|omega|exact zE rfl|exact zO|exact zL rfl) [c91_o6,size_mk,get_mk_lt,get_mk_ge,frameOf,Eff.app,Heap.setOwn,q,repl]
 refine zCh ?_
 simp (disch:=first|omega|exact zE rfl|exact zO|exact zL rfl) [c91_o7,size_mk,get_mk_lt,get_mk_ge,frameOf,Eff.app,Heap.setOwn,q,elems,copyA,rdOf,hb]
 refine W.seq (W.block ?_)
 refine W.use (l0) (by simp (disch:=first|omega|exact zE rfl|exact zO|exact zL rfl) [size_mk,get_mk_lt,get_mk_ge,frameOf,Eff.app,Heap.setOwn,q,(show min 1 0 = 0 from rfl),(show min (1 : Int) 0 = 0 from rfl)]) fun s1 H1 hp => ?_
 obtain ⟨rfl,q⟩:=hp
 try simp only [zW,if_true]
 refine zCh ?_
 simp (disch:=first|omega|exact zE rfl|exact zO|exact zL rfl) [c91_o10,size_mk,get_mk_lt,get_mk_ge,frameOf,Eff.app,Heap.setOwn,q]
 refine W.ret ?_
 try simp only [zW,if_true]
 exact kR _ _ (by simp [T.get,q])
end
def spec91 : SpecF:=fun args h => match args with
 | [.slice b 0 1 1,.int .i64 n] => match h.get b with
  | .cells 1 1 [.int .i64 x] => if 0 ≤ n ∧ n ≤ 243 then some (.slice h.size 0 n.toNat n.toNat,[.cells 1 n.toNat (List.replicate n.toNat (G x))],false) else none
  | _ => none
 | _ => none
noncomputable def T33 : CallF:=addV T32 99 spec99
theorem t33 : Sound Go.Proofs.Try.prog T33:=Sound.addV2 follows ok t32 Sound.empty (by decide) (fun args v h => by
 unfold spec99 at h
 split at h
 ·split at h
  ·rename_i a n hh
   obtain ⟨rfl,h1,h2⟩:=hh
   obtain ⟨N,rfl⟩ : ∃ N : Nat,n = N:=⟨n.toNat,by omega⟩
   simp only [Option.some.injEq] at h; subst h; exact c99_ok N (by omega)
  ·cases h
 ·cases h)
theorem k99 (h : Heap) (n : Int) (h1 : 0 ≤ n) (h2 : n < 244) : T33 99 [.int .u64 1,.int .u64 n] h = some (.tup [.int .u64 0,.int .u64 n],[],false):=by simp [T33,AEv.addV,spec99,h1,h2,AV.flats,AV.flat]
noncomputable def T34 : CallF:=addI T33 91 spec91
theorem t34 : Sound Go.Proofs.Try.prog T34:=Sound.add follows ok t33 (by decide) (fun args h x e => by
 unfold spec91 at e
 split at e
 ·split at e
  ·split at e
   ·rename_i b n _ xv hg hh
    simp only [Option.some.injEq] at e; subst e
    obtain ⟨N,rfl⟩ : ∃ N : Nat,n = N:=⟨n.toNat,by omega⟩
    rcases Nat.eq_zero_or_pos N with rfl | hN
    ·exact c91_0 T33 k99 (fun _ _ => by simp (disch:=decide) only [T1,T2,T3,T4,T5,T6,T7,T8,T9,T10,T11,T12,T13,T14,T15,T16,T17,T18,T19,T20,T21,T22,T23,T24,T25,T26,T27,T28,T29,T30,T31,T32,T33,addI_ne,addX_ne,addV_ne,addK_ne]; rfl) h b hg
    ·exact c91_ok T33 k99 (fun _ _ => by simp (disch:=decide) only [T1,T2,T3,T4,T5,T6,T7,T8,T9,T10,T11,T12,T13,T14,T15,T16,T17,T18,T19,T20,T21,T22,T23,T24,T25,T26,T27,T28,T29,T30,T31,T32,T33,addI_ne,addX_ne,addV_ne,addK_ne]; rfl) h b hg (by omega) (by omega)
   ·cases e
  ·cases e
 ·cases e)
abbrev K91 (J : CallF) : Prop:=∀ (h : Heap) (b n : Nat) (x : Int),h.get b = .cells 1 1 [G x] → n ≤ 243 → J 91 [.slice b 0 1 1,G n] h = some (.slice h.size 0 n n,[.cells 1 n (List.replicate n (G x))],false)
theorem k91 : K91 T34:=fun h b n x hb h2 => by
 have : (n : Int) ≤ 243:=by omega
 simp [T34,addI,spec91,hb,this]
def sat (n : Nat) : Nat:=min n (1152921504606846977)
def ps (L : List Nat) (i : Nat) : Nat:=(L.take i).sum
theorem ps_succ (L : List Nat) {i : Nat} (h : i < L.length) : ps L (i + 1) = ps L i + L.getD i 0:=by
 unfold ps
 rw [List.take_add_one,List.getElem?_eq_getElem h,List.getD_eq_getElem?_getD,List.getElem?_eq_getElem h,List.sum_append]
 simp only [Option.toList,List.sum_cons,List.sum_nil,Option.getD_some,Nat.add_zero]
theorem ps_all (L : List Nat) : ps L L.length = L.sum:=by unfold ps; rw [List.take_length]
theorem ps_mono (L : List Nat) : ∀ j i,ps L i ≤ ps L (i + j)
 | 0,i => Nat.le_refl _
 | j + 1,i => by
  refine Nat.le_trans (ps_mono L j i) ?_
  rw [← Nat.add_assoc]
  by_cases h : i + j < L.length
  ·rw [ps_succ L h]; omega
  ·unfold ps
   rw [List.take_of_length_le (by omega),List.take_of_length_le (by omega)]
   exact Nat.le_refl _
theorem ps_le (L : List Nat) (i : Nat) : ps L i ≤ L.sum:=by
 by_cases h : i ≤ L.length
 ·rw [← ps_all L]
  have:=ps_mono L (L.length - i) i
  rwa [show i + (L.length - i) = L.length by omega] at this
 ·unfold ps; rw [List.take_of_length_le (by omega)]; exact Nat.le_refl _
theorem gn_at {L : List Nat} {i : Nat} (h : i < L.length) : (gn L)[i]? = some (G (L.getD i 0)):=by
 unfold gn
 rw [List.getElem?_map,List.getD_eq_getElem?_getD,List.getElem?_eq_getElem h]; rfl
section
variable {L : List Nat}
theorem RV.frame {h : Heap} {x : AV} {cs : List AV} (r : RV h x cs) : RV (frameOf h) x cs:=by
 rcases r with r | ⟨b,v,e,g⟩
 ·exact .inl r
 ·refine .inr ⟨b,v,e,?_⟩
  unfold frameOf
  rw [get_mk_lt _ _ _ _ (get_lt g (by simp))]; exact g
def tot (L : List Nat) : AV:=if L.sum ≤ 1152921504606846976 then .tup [G L.sum,.bool true] else .tup [G 0,.bool false]
theorem c63_l (J : CallF) {H : Heap} {b v : Nat} (gb : H.get b = .cells 1 v (gn L)) (hn : L.length ≤ 1000000) (hL : ∀ x ∈ L,x ≤ 1152921504606846976) :
  (L.sum ≤ 1152921504606846976 → Tr tbl J c63_l0 (fun s h => h = H ∧ s.get [false] = G 1152921504606846976 ∧ s.get [true,true] = G ((0 : Nat) : Int) ∧ s.get [false,true,false] = .slice b 0 L.length v ∧ s.get [true,true,false] = G L.length ∧ s.get [false,false,true] = G ((0 : Nat) : Int)) (.exit 0) (fun s h => h = H ∧ s.get [true,true] = G L.sum)) ∧
  (¬ L.sum ≤ 1152921504606846976 → Tr tbl J c63_l0 (fun s h => h = H ∧ s.get [false] = G 1152921504606846976 ∧ s.get [true,true] = G ((0 : Nat) : Int) ∧ s.get [false,true,false] = .slice b 0 L.length v ∧ s.get [true,true,false] = G L.length ∧ s.get [false,false,true] = G ((0 : Nat) : Int)) .ret (fun s h => s.get [true,false] = G 0 ∧ s.get [false,true] = .bool false)):=by
 have lg:=gn_len L
 have key : ∀ i,i < L.length → ps L i ≤ 1152921504606846976 → Tr tbl J (.trim [[false],[true,true],[false,true,false],[true,true,false],[false,false,true]] c63_b0) (fun s h => h = H ∧ s.get [false] = G 1152921504606846976 ∧ s.get [true,true] = G (ps L i) ∧ s.get [false,true,false] = .slice b 0 L.length v ∧ s.get [true,true,false] = G L.length ∧ s.get [false,false,true] = G i) (if ps L (i + 1) ≤ 1152921504606846976 then .normal else .ret)
   (if ps L (i + 1) ≤ 1152921504606846976 then (fun s h => h = H ∧ s.get [false] = G 1152921504606846976 ∧ s.get [true,true] = G (ps L (i + 1)) ∧ s.get [false,true,false] = .slice b 0 L.length v ∧ s.get [true,true,false] = G L.length ∧ s.get [false,false,true] = G ((i + 1 : Nat) : Int)) else (fun s h => s.get [true,false] = G 0 ∧ s.get [false,true] = .bool false)):=fun i hi hp => by
  have e1:=gn_at hi
  have e1':=getI e1
  have bx : L.getD i 0 ≤ 1152921504606846976:=by
   rw [List.getD_eq_getElem?_getD,List.getElem?_eq_getElem hi]
   exact hL _ (List.getElem_mem _)
  rw [ps_succ L hi]
  clear hL
  generalize gn L = cs at *
  generalize L.getD i 0 = x at *
  generalize L.length = n at *
  generalize ps L i = y at *
  by_cases c : y + x ≤ 1152921504606846976
  ·rw [if_pos c,if_pos c]
   refine Tr.w fun s1 H1 hp _ kR => W.trim ?_
   obtain ⟨rfl,q⟩:=hp
   refine zCh ?_
   simp (disch:=first|omega|exact zE rfl|exact zO|exact zL rfl) [c63_o3,zG,q]
   refine zCh ?_
   simp (disch:=first|omega|exact zE rfl|exact zO|exact zL rfl) [zG,q]
   refine W.seq (W.block ?_)
   refine zCh ?_
   simp (disch:=first|omega|exact zE rfl|exact zO|exact zL rfl) [c63_o4,zG,q,gb,e1,e1',lg]
   refine W.assoc ?_
   refine zCh ?_
   simp (disch:=first|omega|exact zE rfl|exact zO|exact zL rfl) [c63_o5,zG,q]
   refine zCh ?_
   simp (disch:=first|omega|exact zE rfl|exact zO|exact zL rfl) [c63_o6,zG,q]
   refine W.chunk ?_
   simp (disch:=first|omega|exact zE rfl|exact zO|exact zL rfl) [c63_o7,zG,q]
   refine W.chunk ?_
   simp (disch:=first|omega|exact zE rfl|exact zO|exact zL rfl) [c63_o8,zG,q]
   exact kR _ _ (by simp [T.get,q])
  ·rw [if_neg c,if_neg c]
   refine Tr.w fun s1 H1 hp _ kR => W.trim ?_
   obtain ⟨rfl,q⟩:=hp
   refine zCh ?_
   simp (disch:=first|omega|exact zE rfl|exact zO|exact zL rfl) [c63_o3,zG,q]
   refine zCh ?_
   simp (disch:=first|omega|exact zE rfl|exact zO|exact zL rfl) [zG,q]
   refine W.seq (W.block ?_)
   refine zCh ?_
   simp (disch:=first|omega|exact zE rfl|exact zO|exact zL rfl) [c63_o4,zG,q,gb,e1,e1',lg]
   refine W.assoc ?_
   refine zCh ?_
   simp (disch:=first|omega|exact zE rfl|exact zO|exact zL rfl) [c63_o5,zG,q]
   refine zCh ?_
   simp (disch:=first|omega|exact zE rfl|exact zO|exact zL rfl) [c63_o6,zG,q]
   exact kR _ _ (by simp [T.get,q])
 have fin : Tr tbl J (.trim [[false],[true,true],[false,true,false],[true,true,false],[false,false,true]] c63_b0) (fun s h => h = H ∧ s.get [false] = G 1152921504606846976 ∧ s.get [true,true] = G L.sum ∧ s.get [false,true,false] = .slice b 0 L.length v ∧ s.get [true,true,false] = G L.length ∧ s.get [false,false,true] = G L.length) (.exit 0) (fun s h => h = H ∧ s.get [true,true] = G L.sum):=by
  generalize L.length = n at *
  generalize L.sum = z at *
  refine Tr.w fun s1 H1 hp _ kR => W.trim ?_
  obtain ⟨rfl,q⟩:=hp
  refine zCh ?_
  simp (disch:=first|omega|exact zE rfl|exact zO|exact zL rfl) [c63_o3,zG,q]
  refine zCh ?_
  simp (disch:=first|omega|exact zE rfl|exact zO|exact zL rfl) [zG,q]
  exact kR _ _ (by simp [T.get,q])
 have p0 : ps L 0 = 0:=by simp [ps]
 constructor
 ·intro hs
  have : ∀ j i,i + j = L.length → Tr tbl J c63_l0 (fun s h => h = H ∧ s.get [false] = G 1152921504606846976 ∧ s.get [true,true] = G (ps L i) ∧ s.get [false,true,false] = .slice b 0 L.length v ∧ s.get [true,true,false] = G L.length ∧ s.get [false,false,true] = G i) (.exit 0) (fun s h => h = H ∧ s.get [true,true] = G L.sum):=fun j => by
   induction j with
   | zero =>
    intro i hi
    obtain rfl : i = L.length:=by omega
    rw [ps_all]
    exact Tr.out fin (by simp)
   | succ j ih =>
    intro i hi
    have h1:=ps_le L i
    have h2:=ps_le L (i + 1)
    have k:=key i (by omega) (by omega)
    rw [if_pos (by omega),if_pos (by omega)] at k
    exact Tr.next k (ih (i + 1) (by omega))
  have:=this L.length 0 (by omega)
  rwa [p0] at this
 ·intro hs
  have : ∀ j i,i + j = L.length → ps L i ≤ 1152921504606846976 → Tr tbl J c63_l0 (fun s h => h = H ∧ s.get [false] = G 1152921504606846976 ∧ s.get [true,true] = G (ps L i) ∧ s.get [false,true,false] = .slice b 0 L.length v ∧ s.get [true,true,false] = G L.length ∧ s.get [false,false,true] = G i) .ret (fun s h => s.get [true,false] = G 0 ∧ s.get [false,true] = .bool false):=fun j => by
   induction j with
   | zero =>
    intro i hi hp
    obtain rfl : i = L.length:=by omega
    rw [ps_all] at hp
    exact absurd hp hs
   | succ j ih =>
    intro i hi hp
    have k:=key i (by omega) hp
    by_cases c : ps L (i + 1) ≤ 1152921504606846976
    ·rw [if_pos c,if_pos c] at k
     exact Tr.next k (ih (i + 1) (by omega) c)
    ·rw [if_neg c,if_neg c] at k
     exact Tr.out k (by simp)
  have:=this L.length 0 (by omega) (by omega)
  rwa [p0] at this
theorem c63_ok (J : CallF) (hJ : ∀ a h,J 63 a h = none) (h : Heap) {x : AV} (rv : RV h x (gn L)) (hn : L.length ≤ 1000000) (hL : ∀ x ∈ L,x ≤ 1152921504606846976) : CallsTo tbl J 63 [x,G 1152921504606846976] h (tot L,[],false):=by
 have lg:=gn_len L
 unfold tot
 by_cases hs : L.sum ≤ 1152921504606846976
 ·rw [if_pos hs]
  refine Tr.fnv (cf:=c63) (e:=.ret) (s:=T.set (T.set .leaf [] x) [false] (G 1152921504606846976)) (by decide) rfl (hJ _ _) rfl rfl rfl (by simp) ?_
  refine Tr.post (Q:=(fun s h => s.get [true,false] = G L.sum ∧ s.get [false,true] = .bool true)) (fun s h q => by simp [c63,q]) ?_
  rcases rv.frame with ⟨rfl,e⟩ | ⟨b,v,rfl,g⟩
  ·have : L = []:=by simpa [gn] using e
   subst this
   have l0 : Tr tbl J c63_l0 (fun s h' => h' = frameOf h ∧ s.get [false] = G 1152921504606846976 ∧ s.get [true,true] = G 0 ∧ s.get [false,true,false] = .nils ∧ s.get [true,true,false] = G 0 ∧ s.get [false,false,true] = G 0) (.exit 0) (fun s h' => h' = frameOf h ∧ s.get [true,true] = G 0):=by
    refine Tr.out ?_ (by simp)
    refine Tr.w fun s1 H1 hp _ kR => W.trim ?_
    obtain ⟨rfl,q⟩:=hp
    refine zCh ?_
    simp (disch:=first|omega|exact zE rfl|exact zO|exact zL rfl) [c63_o3,zG,q]
    refine zCh ?_
    simp (disch:=first|omega|exact zE rfl|exact zO|exact zL rfl) [zG,q]
    exact kR _ _ (by simp [T.get,q])
   refine Tr.w fun s1 H1 hp _ kR => ?_
   obtain ⟨rfl,rfl⟩:=hp
   have q : True:=trivial
   refine zCh ?_
   simp (disch:=first|omega|exact zE rfl|exact zO|exact zL rfl) [c63_o0,zG,q]
   refine zCh ?_
   simp (disch:=first|omega|exact zE rfl|exact zO|exact zL rfl) [c63_o1,zG,q]
   refine W.assoc ?_
   refine zCh ?_
   simp (disch:=first|omega|exact zE rfl|exact zO|exact zL rfl) [c63_o2,zG,q]
   refine W.seq (W.block ?_)
   refine W.use (l0) (by simp (disch:=first|omega|exact zE rfl|exact zO|exact zL rfl) [zG,q]) fun s1 H1 hp => ?_
   obtain ⟨rfl,q⟩:=hp
   try simp only [zW,if_true]
   refine zCh ?_
   simp (disch:=first|omega|exact zE rfl|exact zO|exact zL rfl) [c63_o9,zG,q]
   refine W.ret ?_
   try simp only [zW,if_true]
   exact kR _ _ (by simp [T.get,q])
  ·rw [lg]
   have l0:=(c63_l J g hn hL).1 hs
   clear g rv hL
   generalize L.sum = z at *
   generalize L.length = n at *
   refine Tr.w fun s1 H1 hp _ kR => ?_
   obtain ⟨rfl,rfl⟩:=hp
   have q : True:=trivial
   refine zCh ?_
   simp (disch:=first|omega|exact zE rfl|exact zO|exact zL rfl) [c63_o0,zG,q]
   refine zCh ?_
   simp (disch:=first|omega|exact zE rfl|exact zO|exact zL rfl) [c63_o1,zG,q]
   refine W.assoc ?_
   refine zCh ?_
   simp (disch:=first|omega|exact zE rfl|exact zO|exact zL rfl) [c63_o2,zG,q]
   refine W.seq (W.block ?_)
   refine W.use (l0) (by simp (disch:=first|omega|exact zE rfl|exact zO|exact zL rfl) [zG,q]) fun s1 H1 hp => ?_
   obtain ⟨rfl,q⟩:=hp
   try simp only [zW,if_true]
   refine zCh ?_
   simp (disch:=first|omega|exact zE rfl|exact zO|exact zL rfl) [c63_o9,zG,q]
   refine W.ret ?_
   try simp only [zW,if_true]
   exact kR _ _ (by simp [T.get,q])
 ·rw [if_neg hs]
  refine Tr.fnv (cf:=c63) (e:=.ret) (s:=T.set (T.set .leaf [] x) [false] (G 1152921504606846976)) (by decide) rfl (hJ _ _) rfl rfl rfl (by simp) ?_
  refine Tr.post (Q:=(fun s h => s.get [true,false] = G 0 ∧ s.get [false,true] = .bool false)) (fun s h q => by simp [c63,q]) ?_
  rcases rv.frame with ⟨rfl,e⟩ | ⟨b,v,rfl,g⟩
  ·have : L = []:=by simpa [gn] using e
   subst this
   exact absurd (by simp) hs
  ·rw [lg]
   have l0:=(c63_l J g hn hL).2 hs
   clear g rv hL
   generalize L.length = n at *
   refine Tr.w fun s1 H1 hp _ kR => ?_
   obtain ⟨rfl,rfl⟩:=hp
   have q : True:=trivial
   refine zCh ?_
   simp (disch:=first|omega|exact zE rfl|exact zO|exact zL rfl) [c63_o0,zG,q]
   refine zCh ?_
   simp (disch:=first|omega|exact zE rfl|exact zO|exact zL rfl) [c63_o1,zG,q]
   refine W.assoc ?_
   refine zCh ?_
   simp (disch:=first|omega|exact zE rfl|exact zO|exact zL rfl) [c63_o2,zG,q]
   refine W.seq (W.block ?_)
   refine W.use (l0) (by simp (disch:=first|omega|exact zE rfl|exact zO|exact zL rfl) [zG,q]) fun s1 H1 hp => ?_
   try simp only [zW,if_true]
   exact kR _ _ hp
end
def Pre76 (b : Nat × Nat) (args : List AV) (h : Heap) : Prop:=(b.1 ≤ 2305843009213693952 ∧ b.2 ≤ 2305843009213693952) ∧ args = [G b.1,G b.2]
def Post76 (b : Nat × Nat) (h : Heap) (v : AV) (own : List AObj) : Prop:=v = G (sat (b.1 + b.2)) ∧ own = []
noncomputable def T35 : CallF:=addK tbl T34 76 Pre76 Post76
theorem t35 : Sound Go.Proofs.Try.prog T35:=Sound.addK follows ok t34 (by decide) _ _
def Pre72 (b : AV × List Nat) (args : List AV) (h : Heap) : Prop:=(RV h b.1 (gn b.2) ∧ b.2.length ≤ 1000000 ∧ ∀ x ∈ b.2,x ≤ 2305843009213693952) ∧ args = [b.1]
def Post72 (b : AV × List Nat) (h : Heap) (v : AV) (own : List AObj) : Prop:=v = G (sat b.2.sum) ∧ own = []
noncomputable def T36 : CallF:=addK tbl T35 72 Pre72 Post72
theorem t36 : Sound Go.Proofs.Try.prog T36:=Sound.addK follows ok t35 (by decide) _ _
def Pre63 (b : AV × List Nat) (args : List AV) (h : Heap) : Prop:=(RV h b.1 (gn b.2) ∧ b.2.length ≤ 1000000 ∧ ∀ x ∈ b.2,x ≤ 1152921504606846976) ∧ args = [b.1,G 1152921504606846976]
def Post63 (b : AV × List Nat) (h : Heap) (v : AV) (own : List AObj) : Prop:=v = tot b.2 ∧ own = []
noncomputable def T37 : CallF:=addK tbl T36 63 Pre63 Post63
theorem t37 : Sound Go.Proofs.Try.prog T37:=Sound.addK follows ok t36 (by decide) _ _
abbrev K63 (J : CallF) : Prop:=∀ h (x : AV) (L : List Nat),RV h x (gn L) → L.length ≤ 1000000 → (∀ x ∈ L,x ≤ 1152921504606846976) → J 63 [x,G 1152921504606846976] h = some (tot L,[],false)
theorem k63 : K63 T37:=fun h x L h1 h0 h2 => by
 obtain ⟨v,own,e,rfl,rfl⟩:=addK_some (Pre:=Pre63) (Post:=Post63) (fun b args h hp => by
  obtain ⟨⟨h1,h0,h2⟩,rfl⟩:=hp
  exact ⟨_,_,c63_ok T36 (fun _ _ => by simp (disch:=decide) only [T1,T2,T3,T4,T5,T6,T7,T8,T9,T10,T11,T12,T13,T14,T15,T16,T17,T18,T19,T20,T21,T22,T23,T24,T25,T26,T27,T28,T29,T30,T31,T32,T33,T34,T35,T36,addI_ne,addX_ne,addV_ne,addK_ne]; rfl) h h1 h0 h2,rfl,rfl⟩) (x,L) _ h ⟨⟨h1,h0,h2⟩,rfl⟩
 exact e
def cnt (S : List (List Nat)) : Nat → Nat → Nat
 | 0,_ => 1
 | k + 1,i => ((S.getD i []).map (cnt S k)).sum
def rowC (S : List (List Nat)) (k : Nat) : List Nat:=(List.range S.length).map (cnt S k)
theorem rowC_len (S : List (List Nat)) (k : Nat) : (rowC S k).length = S.length:=by simp [rowC]
theorem rowC_at (S : List (List Nat)) (k : Nat) {i : Nat} (h : i < S.length) : (rowC S k).getD i 0 = cnt S k i:=by
 unfold rowC
 rw [List.getD_eq_getElem?_getD,List.getElem?_map,List.getElem?_range h]; rfl
theorem sum_mem {L : List Nat} {x : Nat} (h : x ∈ L) : x ≤ L.sum:=by
 induction L with
 | nil => cases h
 | cons a L ih =>
  rw [List.sum_cons]
  rcases List.mem_cons.1 h with rfl | h
  ·omega
  ·have:=ih h; omega
theorem cnt_le (S : List (List Nat)) (k : Nat) {i : Nat} (h : i < S.length) : cnt S k i ≤ (rowC S k).sum:=sum_mem (by
 unfold rowC
 exact List.mem_map.2 ⟨i,List.mem_range.2 h,rfl⟩)
def okC (S : List (List Nat)) (n : Nat) : Bool:=af (fun k => decide ((rowC S k).sum ≤ 1152921504606846976)) 0 n
def mix (S : List (List Nat)) (k i : Nat) : List Nat:=(List.range S.length).map fun t => if t < i then cnt S k t else 1
theorem mix_len (S : List (List Nat)) (k i : Nat) : (mix S k i).length = S.length:=by simp [mix]
theorem mix_0 (S : List (List Nat)) (k : Nat) : gn (mix S k 0) = List.replicate S.length (G 1):=by
 unfold gn mix
 rw [List.map_map]
 apply List.ext_getElem?
 intro j
 rw [List.getElem?_map,List.getElem?_replicate]
 by_cases h : j < S.length
 ·rw [List.getElem?_range h,if_pos h]; rfl
 ·rw [List.getElem?_eq_none (by simp; omega),if_neg h]; rfl
theorem mix_n (S : List (List Nat)) (k : Nat) : mix S k S.length = rowC S k:=by
 unfold mix rowC
 apply List.map_congr_left
 intro t ht
 rw [if_pos (List.mem_range.1 ht)]
theorem rowC_0 (S : List (List Nat)) : gn (rowC S 0) = List.replicate S.length (G 1):=by
 rw [← mix_0 S 0]
 have : mix S 0 0 = rowC S 0:=by
  unfold mix rowC
  apply List.map_congr_left
  intro t ht
  rw [if_neg (by omega)]
  rfl
 rw [this]
theorem mix_set (S : List (List Nat)) (k : Nat) {i : Nat} (h : i < S.length) : (gn (mix S k i)).set i (G (cnt S k i)) = gn (mix S k (i + 1)):=by
 apply List.ext_getElem?
 intro j
 by_cases hj : j < S.length
 ·have e1 : (gn (mix S k (i + 1)))[j]? = some (G ((if j < i + 1 then cnt S k j else 1 : Nat) : Int)):=by
   unfold gn mix
   rw [List.map_map,List.getElem?_map,List.getElem?_range hj]; rfl
  rw [e1]
  by_cases e : i = j
  ·subst e
   rw [List.getElem?_set_self (by rw [gn_len,mix_len]; exact h),if_pos (by omega)]
  ·rw [List.getElem?_set_ne e]
   unfold gn mix
   rw [List.map_map,List.getElem?_map,List.getElem?_range hj]
   show some (G ((if j < i then cnt S k j else 1 : Nat) : Int)) = _
   by_cases c : j < i
   ·rw [if_pos c,if_pos (by omega)]
   ·rw [if_neg c,if_neg (by omega)]
 ·rw [List.getElem?_eq_none (by rw [List.length_set,gn_len,mix_len]; omega),List.getElem?_eq_none (by rw [gn_len,mix_len]; omega)]
def LF (h : Heap) (p : Nat) (S : List (List Nat)) : Prop:=∃ x mb nb rs,h.get p = .cells 0 3 [x,.map mb,.slice nb 0 S.length S.length] ∧ ((x = .nils ∧ S.length = 0) ∨ ∃ b v,x = .slice b 0 S.length v) ∧ h.get nb = .cells 1 S.length rs ∧ ∀ k,k < S.length → ∃ y,rs[k]? = some y ∧ RV h y (gn (S.getD k []))
theorem LF.kp {h h' : Heap} {p : Nat} {S : List (List Nat)} (l : LF h p S) (k : Kp (fun _ => False) h h') : LF h' p S:=by
 obtain ⟨x,mb,nb,rs,h1,h2,h3,h4⟩:=l
 refine ⟨x,mb,nb,rs,k.at h1 (by simp) id,h2,k.at h3 (by simp) id,fun i hi => ?_⟩
 obtain ⟨y,e1,e2⟩:=h4 i hi
 exact ⟨y,e1,e2.kp k (fun _ _ => id)⟩
theorem LM.lf {h : Heap} {p B : Nat} {W : List (List Int)} {R : List (List Nat)} (l : LM h p B W R) : LF h p (stL W R):=by
 obtain ⟨x,mb,nb,rs,h1,h2,h3,h4,h5,h6,h7⟩:=l
 have e : (stL W R).length = R.length:=by simp [stL]
 unfold LF
 rw [e]
 have hs:=h2.sl
 rw [wsL_len] at hs
 refine ⟨x,mb,nb,rs,h1,hs,h4,fun k hk => ?_⟩
 obtain ⟨y,e1,e2,_⟩:=h7 k hk
 refine ⟨y,e1,?_⟩
 have : (stL W R).getD k [] = nxL W R (R.getD k []):=by
  unfold stL
  rw [List.getD_eq_getElem?_getD,List.getElem?_map,List.getElem?_eq_getElem hk,List.getD_eq_getElem?_getD,List.getElem?_eq_getElem hk]; rfl
 rw [this]; exact e2
section
variable {S : List (List Nat)} {p kk nn : Nat}
structure PR (S : List (List Nat)) (xo : AV) (kk : Nat) (h : Heap) (bo br : Nat) (ros : List AV) : Prop where
 e : xo = .slice bo 0 (kk + 1) (kk + 1)
 g : h.get bo = .cells 1 (kk + 1) ros
 r : ros[kk]? = some (.slice br 0 S.length S.length)
 l : ros.length = kk + 1
 gr : h.get br = .cells 1 S.length (gn (rowC S kk))
theorem PR.kp {xo : AV} {h h' : Heap} {bo br : Nat} {ros : List AV} (t : PR S xo kk h bo br ros) (k : Kp (fun _ => False) h h') : PR S xo kk h' bo br ros:=⟨t.e,k.at t.g (by simp) id,t.r,t.l,k.at t.gr (by simp) id⟩
theorem c62_l0_ok (J : CallF) {Hi : Heap} {xo : AV} {bo br : Nat} {ros : List AV} (pr : PR S xo kk Hi bo br ros) (k40 : kk ≤ 1000) {Si : List Nat} (hSi : ∀ j ∈ Si,j < S.length) (hn : S.length ≤ 1000) (hl : Si.length ≤ 1000) {y z8 : AV} (rv : RV Hi y (gn Si)) {i : Nat} :
  Tr tbl J c62_l0 (fun s h => h = Hi ∧ s.get [] = .ptr p 0 3 ∧ s.get [true,true] = xo ∧ s.get [false,false,false] = G (kk + 1 : Nat) ∧ s.get [true,false,false] = z8 ∧ s.get [false,true,false] = G i ∧ s.get [true,true,false] = .nils ∧ s.get [false,true,false,false] = G nn ∧ s.get [true,true,false,false] = G (kk + 1 : Nat) ∧ s.get [false,true,true,true] = G S.length ∧ s.get [true,true,true,true] = G i ∧ s.get [false,true,false,true,false] = y ∧ s.get [true,true,false,true,false] = G Si.length ∧ s.get [false,false,true,true,false] = G ((0 : Nat) : Int)) (.exit 4)
   (fun s h => ∃ z,NV Hi h z (gn (Si.map (cnt S kk))) ∧ s.get [] = .ptr p 0 3 ∧ s.get [true,true] = xo ∧ s.get [false,false,false] = G (kk + 1 : Nat) ∧ s.get [true,false,false] = z8 ∧ s.get [false,true,false] = G i ∧ s.get [true,true,false] = z ∧ s.get [false,true,false,false] = G nn ∧ s.get [true,true,false,false] = G (kk + 1 : Nat) ∧ s.get [false,true,true,true] = G S.length ∧ s.get [true,true,true,true] = G i):=by
 refine Tr.pre (P:=fun s h => ∃ z,NV Hi h z (gn ((Si.take 0).map (cnt S kk))) ∧ s.get [] = .ptr p 0 3 ∧ s.get [true,true] = xo ∧ s.get [false,false,false] = G (kk + 1 : Nat) ∧ s.get [true,false,false] = z8 ∧ s.get [false,true,false] = G i ∧ s.get [true,true,false] = z ∧ s.get [false,true,false,false] = G nn ∧ s.get [true,true,false,false] = G (kk + 1 : Nat) ∧ s.get [false,true,true,true] = G S.length ∧ s.get [true,true,true,true] = G i ∧ s.get [false,true,false,true,false] = y ∧ s.get [true,true,false,true,false] = G Si.length ∧ s.get [false,false,true,true,false] = G ((0 : Nat) : Int)) (fun s h hp => by
  obtain ⟨h0,h1,h2,h3,h4,h5,h6,h7⟩:=hp
  exact ⟨.nils,by rw [h0]; exact NV.nil Hi,h1,h2,h3,h4,h5,h6,h7⟩) ?_
 refine Tr.rounds (e:=.exit 4) (P:=fun t s h => ∃ z,NV Hi h z (gn ((Si.take t).map (cnt S kk))) ∧ s.get [] = .ptr p 0 3 ∧ s.get [true,true] = xo ∧ s.get [false,false,false] = G (kk + 1 : Nat) ∧ s.get [true,false,false] = z8 ∧ s.get [false,true,false] = G i ∧ s.get [true,true,false] = z ∧ s.get [false,true,false,false] = G nn ∧ s.get [true,true,false,false] = G (kk + 1 : Nat) ∧ s.get [false,true,true,true] = G S.length ∧ s.get [true,true,true,true] = G i ∧ s.get [false,true,false,true,false] = y ∧ s.get [true,true,false,true,false] = G Si.length ∧ s.get [false,false,true,true,false] = G t) (M:=Si.length) (fun t ht => ?_) ?_ (by simp) 0 (by omega)
 ·obtain ⟨by',vy,rfl,gy⟩ : ∃ b v,y = .slice b 0 Si.length v ∧ Hi.get b = .cells 1 v (gn Si):=by
   rcases rv with ⟨_,e⟩ | ⟨b,v,e,g⟩
   ·have : (gn Si).length = 0:=by rw [e]; rfl
    rw [gn_len] at this; omega
   ·rw [gn_len] at e; exact ⟨b,v,e,g⟩
  refine Tr.w fun s1 H1 hp _ kR => W.trim ?_
  obtain ⟨z,nv,q⟩:=hp
  have prh:=pr.kp nv.k
  obtain ⟨rfl,go,er,lo,gr⟩:=prh
  have gy1:=nv.k.at gy (by simp) id
  have e1:=gn_at ht
  have e1':=getI e1
  have lg:=gn_len Si
  have hj : Si.getD t 0 < S.length:=hSi _ (by
   rw [List.getD_eq_getElem?_getD,List.getElem?_eq_getElem ht]; exact List.getElem_mem _)
  have e2:=gn_at (L:=rowC S kk) (i:=Si.getD t 0) (by rw [rowC_len]; exact hj)
  rw [rowC_at S kk hj] at e2
  have e2':=getI e2
  have er':=getI er
  have lr : (gn (rowC S kk)).length = S.length:=by rw [gn_len,rowC_len]
  have ts : (Si.take (t + 1)).map (cnt S kk) = (Si.take t).map (cnt S kk) ++ [cnt S kk (Si.getD t 0)]:=by
   rw [List.take_add_one,List.map_append,List.getElem?_eq_getElem ht,List.getD_eq_getElem?_getD,List.getElem?_eq_getElem ht]; rfl
  obtain ⟨x1,e,H2,q1,q2,nv2,q4⟩:=nv.app H1.size 8 (G (cnt S kk (Si.getD t 0))) (by rw [gn_len,List.length_map,List.length_take]; omega)
  have nv2' : NV Hi H2 x1 (gn ((Si.take (t + 1)).map (cnt S kk))):=by
   rw [ts]
   have : gn ((Si.take t).map (cnt S kk) ++ [cnt S kk (Si.getD t 0)]) = gn ((Si.take t).map (cnt S kk)) ++ [G (cnt S kk (Si.getD t 0))]:=by simp [gn]
   rw [this]; exact nv2
  have k1 : ((kk + 1 : Nat) : Int) = (kk : Int) + 1:=by omega
  rw [k1] at q
  rw [k1] at kR
  clear nv nv2 ts hSi pr rv gy k1
  generalize cnt S kk (Si.getD t 0) = c at *
  generalize gn (rowC S kk) = cr at *
  generalize gn Si = cs at *
  generalize Si.getD t 0 = j at *
  generalize S.length = n at *
  generalize Si.length = l at *
  refine zCh ?_
  simp (disch:=first|omega|exact zE rfl|exact zO|exact zL rfl) [c62_o12,zG,q]
  refine zCh ?_
  simp (disch:=first|omega|exact zE rfl|exact zO|exact zL rfl) [zG,q]
  refine W.seq (W.block ?_)
  refine zCh ?_
  simp (disch:=first|omega|exact zE rfl|exact zO|exact zL rfl) [c62_o13,zG,q,gy1,e1,e1',lg]
  refine W.chunk ?_
  simp (disch:=first|omega|exact zE rfl|exact zO|exact zL rfl) [c62_o14,zG,q,go,er,er',lo,gr,e2,e2',lr,q1,q2,app1_at,elems,rdOf]
  refine W.chunk ?_
  simp (disch:=first|omega|exact zE rfl|exact zO|exact zL rfl) [c62_o15,zG,q]
  exact kR _ _ ⟨_,nv2',by simp [T.get,q]⟩
 ·refine Tr.w fun s1 H1 hp _ kR => W.trim ?_
  obtain ⟨z,nv,q⟩:=hp
  rw [List.take_length] at nv
  clear hSi pr rv
  generalize Si.length = l at *
  refine zCh ?_
  simp (disch:=first|omega|exact zE rfl|exact zO|exact zL rfl) [c62_o12,zG,q]
  refine zCh ?_
  simp (disch:=first|omega|exact zE rfl|exact zO|exact zL rfl) [zG,q]
  exact kR _ _ ⟨_,nv,by simp [T.get,q]⟩
structure BI (S : List (List Nat)) (k b i : Nat) (Hk h : Heap) : Prop where
 kp : Kp (fun _ => False) Hk h
 g : h.get b = .cells 1 S.length (gn (mix S k i))
theorem c62_b1_ok (J : CallF) (k63 : K63 J) {Hk : Heap} (lf : LF Hk p S) {xo : AV} {bo br : Nat} {ros : List AV} (pr : PR S xo kk Hk bo br ros) (k40 : kk ≤ 1000) (hS : ∀ i,∀ j ∈ S.getD i [],j < S.length) (hl : ∀ i,(S.getD i []).length ≤ 1000) (hn : S.length ≤ 1000) {b : Nat} (hb : Hk.size ≤ b) (hN : Hk.N ≤ b) (prev : (rowC S kk).sum ≤ 1152921504606846976) {i : Nat} (hi : i < S.length) :
  Tr tbl J (.trim [[],[true,true],[false,false,false],[true,false,false],[false,true,false,false],[true,true,false,false],[false,true,true,true],[true,true,true,true]] c62_b1) (fun s h => BI S (kk + 1) b i Hk h ∧ s.get [] = .ptr p 0 3 ∧ s.get [true,true] = xo ∧ s.get [false,false,false] = G (kk + 1 : Nat) ∧ s.get [true,false,false] = .slice b 0 S.length S.length ∧ s.get [false,true,false,false] = G nn ∧ s.get [true,true,false,false] = G (kk + 1 : Nat) ∧ s.get [false,true,true,true] = G S.length ∧ s.get [true,true,true,true] = G i)
   (if decide (cnt S (kk + 1) i ≤ 1152921504606846976) = true then .normal else .ret)
   (if decide (cnt S (kk + 1) i ≤ 1152921504606846976) = true then (fun s h => BI S (kk + 1) b (i + 1) Hk h ∧ s.get [] = .ptr p 0 3 ∧ s.get [true,true] = xo ∧ s.get [false,false,false] = G (kk + 1 : Nat) ∧ s.get [true,false,false] = .slice b 0 S.length S.length ∧ s.get [false,true,false,false] = G nn ∧ s.get [true,true,false,false] = G (kk + 1 : Nat) ∧ s.get [false,true,true,true] = G S.length ∧ s.get [true,true,true,true] = G ((i + 1 : Nat) : Int)) else (fun s h => s.get [true,false] = .nils ∧ s.get [false,true] = .bool false)):=by
 have main : ∀ (s1 : T) (H1 : Heap) (Q : PQ),BI S (kk + 1) b i Hk H1 → (s1.get [] = .ptr p 0 3 ∧ s1.get [true,true] = xo ∧ s1.get [false,false,false] = G (kk + 1 : Nat) ∧ s1.get [true,false,false] = .slice b 0 S.length S.length ∧ s1.get [false,true,false,false] = G nn ∧ s1.get [true,true,false,false] = G (kk + 1 : Nat) ∧ s1.get [false,true,true,true] = G S.length ∧ s1.get [true,true,true,true] = G i) →
   (∀ s' h',(if decide (cnt S (kk + 1) i ≤ 1152921504606846976) = true then (fun s h => BI S (kk + 1) b (i + 1) Hk h ∧ s.get [] = .ptr p 0 3 ∧ s.get [true,true] = xo ∧ s.get [false,false,false] = G (kk + 1 : Nat) ∧ s.get [true,false,false] = .slice b 0 S.length S.length ∧ s.get [false,true,false,false] = G nn ∧ s.get [true,true,false,false] = G (kk + 1 : Nat) ∧ s.get [false,true,true,true] = G S.length ∧ s.get [true,true,true,true] = G ((i + 1 : Nat) : Int)) else (fun s h => s.get [true,false] = .nils ∧ s.get [false,true] = .bool false) : SP) s' h' → Q (if decide (cnt S (kk + 1) i ≤ 1152921504606846976) = true then .normal else .ret) s' h') →
   W tbl J (.trim [[],[true,true],[false,false,false],[true,false,false],[false,true,false,false],[true,true,false,false],[false,true,true,true],[true,true,true,true]] c62_b1) s1 H1 Q:=fun s1 H1 Q bi q kR => by
  have lf1:=lf.kp bi.kp
  obtain ⟨x,mb,nb,rs,g1,_,g3,g4⟩:=lf1
  obtain ⟨y,e1,rv⟩:=g4 i hi
  have e1':=getI e1
  have lrs : i < rs.length:=(List.getElem?_eq_some_iff.1 e1).1
  have l0:=c62_l0_ok (p:=p) (nn:=nn) (z8:=.slice b 0 S.length S.length) (i:=i) J (pr.kp bi.kp) k40 (hS i) hn (hl i) rv
  have sy:=rv.sl
  rw [gn_len] at sy
  have hNh : H1.N ≤ b:=by rw [bi.kp.N]; exact hN
  have lb:=get_lt bi.g (by simp)
  have lm : (gn (mix S (kk + 1) i)).length = S.length:=by rw [gn_len,mix_len]
  have fin : ∀ z h,NV H1 h z (gn ((S.getD i []).map (cnt S kk))) → J 63 [z,G 1152921504606846976] h = some (if cnt S (kk + 1) i ≤ 1152921504606846976 then .tup [G (cnt S (kk + 1) i),.bool true] else .tup [G 0,.bool false],[],false) ∧
    Eff.app (.put b S.length i [G (cnt S (kk + 1) i)]) h = some (h.upd b (.cells 1 S.length (gn (mix S (kk + 1) (i + 1))))) ∧ BI S (kk + 1) b (i + 1) Hk (h.upd b (.cells 1 S.length (gn (mix S (kk + 1) (i + 1))))) ∧ h.get b = .cells 1 S.length (gn (mix S (kk + 1) i)):=fun z h nv => by
   have hg:=nv.k.at bi.g (by simp) id
   have hh : h.N ≤ b:=by rw [nv.k.N]; exact hNh
   refine ⟨?_,?_,⟨(bi.kp.trans nv.k).updn b _ hh hb,upd_same _ _ _ hh (get_lt hg (by simp))⟩,hg⟩
   ·rw [k63 h z _ nv.rv (by rw [List.length_map]; have:=hl i; omega) (fun v hv => by
     obtain ⟨j,hj,rfl⟩:=List.mem_map.1 hv
     exact Nat.le_trans (cnt_le S kk (hS i j hj)) prev)]
    rfl
   ·rw [put_gen h b S.length i 1 _ _ hh hg (by rw [gn_len,mix_len]; simp; omega)]
    simp only [putAt]
    rw [mix_set S (kk + 1) hi]
  have k1 : ((kk + 1 : Nat) : Int) = (kk : Int) + 1:=by omega
  rw [k1] at q l0
  simp only [k1] at kR
  clear g4 hS hl lf pr rv k63 prev bi k1
  generalize gn (mix S (kk + 1) i) = cm at *
  generalize gn (mix S (kk + 1) (i + 1)) = cm' at *
  generalize cnt S (kk + 1) i = c at *
  generalize (S.getD i []).length = li at *
  generalize hnn : S.length = n at *
  by_cases hc : c ≤ 1152921504606846976
  ·rw [decide_eq_true hc,if_pos rfl,if_pos rfl] at kR
   simp only [if_pos hc] at fin
   rcases sy with ⟨rfl,rfl⟩ | ⟨b1,v1,rfl⟩
   all_goals
    refine W.trim ?_
    refine zCh ?_
    simp (disch:=first|omega|exact zE rfl|exact zO|exact zL rfl) [c62_o7,zG,q]
    refine zCh ?_
    simp (disch:=first|omega|exact zE rfl|exact zO|exact zL rfl) [zG,q]
    refine W.seq (W.block ?_)
    refine zCh ?_
    simp (disch:=first|omega|exact zE rfl|exact zO|exact zL rfl) [c62_o8,zG,q]
    refine W.assoc ?_
    refine zCh ?_
    simp (disch:=first|omega|exact zE rfl|exact zO|exact zL rfl) [c62_o9,zG,q]
    refine W.seq (W.cond (v:=false) (by simp (disch:=first|omega|exact zE rfl|exact zO|exact zL rfl) [zG,q]) ?_)
    simp only [if_true,if_false,Bool.false_eq_true]
    refine W.skip ?_
    try simp only [zW,if_true]
    refine zCh ?_
    simp (disch:=first|omega|exact zE rfl|exact zO|exact zL rfl) [c62_o10,zG,q]
    refine W.assoc ?_
    refine zCh ?_
    simp (disch:=first|omega|exact zE rfl|exact zO|exact zL rfl) [c62_o11,zG,q,g1,g3,e1,e1']
    refine W.seq (W.block ?_)
    refine W.use (l0) (by simp (disch:=first|omega|exact zE rfl|exact zO|exact zL rfl) [zG,q]) fun s1 H1 hp => ?_
    obtain ⟨z,nv,q⟩:=hp
    try simp only [zW,if_true]
    obtain ⟨f1,f2,f3,f4⟩:=fin _ _ nv
    refine zCh ?_
    simp (disch:=first|omega|exact zE rfl|exact zO|exact zL rfl) [c62_o16,zG,q,f1]
    refine W.assoc ?_
    refine zCh ?_
    simp (disch:=first|omega|exact zE rfl|exact zO|exact zL rfl) [c62_o17,zG,q]
    refine zCh ?_
    simp (disch:=first|omega|exact zE rfl|exact zO|exact zL rfl) [c62_o18,zG,q]
    refine W.chunk ?_
    simp (disch:=first|omega|exact zE rfl|exact zO|exact zL rfl) [c62_o19,zG,q,f2,f4,lm]
    refine W.chunk ?_
    simp (disch:=first|omega|exact zE rfl|exact zO|exact zL rfl) [c62_o20,zG,q]
    exact kR _ _ ⟨f3,by simp [T.get,q]⟩
  ·rw [decide_eq_false hc,if_neg (by simp),if_neg (by simp)] at kR
   simp only [if_neg hc] at fin
   rcases sy with ⟨rfl,rfl⟩ | ⟨b1,v1,rfl⟩
   all_goals
    refine W.trim ?_
    refine zCh ?_
    simp (disch:=first|omega|exact zE rfl|exact zO|exact zL rfl) [c62_o7,zG,q]
    refine zCh ?_
    simp (disch:=first|omega|exact zE rfl|exact zO|exact zL rfl) [zG,q]
    refine W.seq (W.block ?_)
    refine zCh ?_
    simp (disch:=first|omega|exact zE rfl|exact zO|exact zL rfl) [c62_o8,zG,q]
    refine W.assoc ?_
    refine zCh ?_
    simp (disch:=first|omega|exact zE rfl|exact zO|exact zL rfl) [c62_o9,zG,q]
    refine W.seq (W.cond (v:=false) (by simp (disch:=first|omega|exact zE rfl|exact zO|exact zL rfl) [zG,q]) ?_)
    simp only [if_true,if_false,Bool.false_eq_true]
    refine W.skip ?_
    try simp only [zW,if_true]
    refine zCh ?_
    simp (disch:=first|omega|exact zE rfl|exact zO|exact zL rfl) [c62_o10,zG,q]
    refine W.assoc ?_
    refine zCh ?_
    simp (disch:=first|omega|exact zE rfl|exact zO|exact zL rfl) [c62_o11,zG,q,g1,g3,e1,e1']
    refine W.seq (W.block ?_)
    refine W.use (l0) (by simp (disch:=first|omega|exact zE rfl|exact zO|exact zL rfl) [zG,q]) fun s1 H1 hp => ?_
    obtain ⟨z,nv,q⟩:=hp
    try simp only [zW,if_true]
    obtain ⟨f1,f2,f3,f4⟩:=fin _ _ nv
    refine zCh ?_
    simp (disch:=first|omega|exact zE rfl|exact zO|exact zL rfl) [c62_o16,zG,q,f1]
    refine W.assoc ?_
    refine zCh ?_
    simp (disch:=first|omega|exact zE rfl|exact zO|exact zL rfl) [c62_o17,zG,q]
    refine zCh ?_
    simp (disch:=first|omega|exact zE rfl|exact zO|exact zL rfl) [c62_o18,zG,q]
    exact kR _ _ (by simp [T.get,q])
 by_cases hc : decide (cnt S (kk + 1) i ≤ 1152921504606846976) = true
 ·simp only [if_pos hc] at main ⊢
  exact Tr.w fun s1 H1 hp Q kR => main s1 H1 Q hp.1 hp.2 kR
 ·simp only [if_neg hc] at main ⊢
  exact Tr.w fun s1 H1 hp Q kR => main s1 H1 Q hp.1 hp.2 kR
end
def rowsC (S : List (List Nat)) (k : Nat) : List (List AV):=(List.range k).map fun k => gn (rowC S k)
theorem rowsC_len (S : List (List Nat)) (k : Nat) : (rowsC S k).length = k:=by simp [rowsC]
theorem rowsC_succ (S : List (List Nat)) (k : Nat) : rowsC S (k + 1) = rowsC S k ++ [gn (rowC S k)]:=by simp [rowsC,List.range_succ]
theorem rowsC_at (S : List (List Nat)) {k i : Nat} (h : i < k) : (rowsC S k)[i]? = some (gn (rowC S i)):=by
 unfold rowsC
 rw [List.getElem?_map,List.getElem?_range h]; rfl
structure OkS (S : List (List Nat)) : Prop where
 lt : ∀ i,∀ j ∈ S.getD i [],j < S.length
 len : ∀ i,(S.getD i []).length ≤ 1000
 n : S.length ≤ 1000
section
variable {S : List (List Nat)} {p nn : Nat}
abbrev L1P (S : List (List Nat)) (p nn k b i : Nat) (xo : AV) (Hk : Heap) : SP:=fun s h => BI S k b i Hk h ∧ s.get [] = .ptr p 0 3 ∧ s.get [true,true] = xo ∧ s.get [false,false,false] = G k ∧ s.get [true,false,false] = .slice b 0 S.length S.length ∧ s.get [false,true,false,false] = G nn ∧ s.get [true,true,false,false] = G k ∧ s.get [false,true,true,true] = G S.length ∧ s.get [true,true,true,true] = G i
abbrev L1Q (S : List (List Nat)) (p nn k b : Nat) (xo : AV) (Hk : Heap) : SP:=fun s h => BI S k b S.length Hk h ∧ s.get [] = .ptr p 0 3 ∧ s.get [true,true] = xo ∧ s.get [true,false,false] = .slice b 0 S.length S.length ∧ s.get [false,true,false,false] = G nn ∧ s.get [true,true,false,false] = G k
theorem c62_l1_0 (J : CallF) {Hk : Heap} {xo : AV} {b : Nat} (hn : S.length ≤ 1000) : Tr tbl J c62_l1 (L1P S p nn 0 b 0 xo Hk) (.exit 2) (L1Q S p nn 0 b xo Hk):=by
 refine Tr.out ?_ (by simp)
 refine Tr.w fun s1 H1 hp _ kR => W.trim ?_
 obtain ⟨bi,q⟩:=hp
 have bi2 : BI S 0 b S.length Hk H1:=⟨bi.kp,by
  rw [bi.g,mix_0,mix_n,rowC_0]⟩
 clear bi
 dsimp only [L1Q] at kR
 generalize S.length = n at *
 rcases Nat.eq_zero_or_pos n with rfl | hp0
 ·refine zCh ?_
  simp (disch:=first|omega|exact zE rfl|exact zO|exact zL rfl) [c62_o7,zG,q]
  refine zCh ?_
  simp (disch:=first|omega|exact zE rfl|exact zO|exact zL rfl) [zG,q]
  exact kR _ _ ⟨bi2,by simp [T.get,q]⟩
 ·refine zCh ?_
  simp (disch:=first|omega|exact zE rfl|exact zO|exact zL rfl) [c62_o7,zG,q]
  refine zCh ?_
  simp (disch:=first|omega|exact zE rfl|exact zO|exact zL rfl) [zG,q]
  refine W.seq (W.block ?_)
  refine zCh ?_
  simp (disch:=first|omega|exact zE rfl|exact zO|exact zL rfl) [c62_o8,zG,q]
  refine W.assoc ?_
  refine zCh ?_
  simp (disch:=first|omega|exact zE rfl|exact zO|exact zL rfl) [c62_o9,zG,q]
  refine W.seq (W.cond (v:=true) (by simp (disch:=first|omega|exact zE rfl|exact zO|exact zL rfl) [zG,q]) ?_)
  simp only [if_true,if_false,Bool.false_eq_true]
  refine W.exit ?_
  try simp only [zW,if_true]
  exact kR _ _ ⟨bi2,by simp [T.get,q]⟩
theorem c62_l1_end (J : CallF) {k : Nat} {Hk : Heap} {xo : AV} {b : Nat} (hn : S.length ≤ 1000) : Tr tbl J (.trim [[],[true,true],[false,false,false],[true,false,false],[false,true,false,false],[true,true,false,false],[false,true,true,true],[true,true,true,true]] c62_b1) (L1P S p nn k b S.length xo Hk) (.exit 2) (L1Q S p nn k b xo Hk):=by
 refine Tr.w fun s1 H1 hp _ kR => W.trim ?_
 obtain ⟨bi,q⟩:=hp
 dsimp only [L1Q] at kR
 generalize hnn : S.length = n at *
 refine zCh ?_
 simp (disch:=first|omega|exact zE rfl|exact zO|exact zL rfl) [c62_o7,zG,q]
 refine zCh ?_
 simp (disch:=first|omega|exact zE rfl|exact zO|exact zL rfl) [zG,q]
 exact kR _ _ ⟨bi,by simp [T.get,q]⟩
def lvlB (S : List (List Nat)) (k : Nat) : Bool:=af (fun i => decide (cnt S k i ≤ 1152921504606846976)) 0 S.length
theorem c62_l1_t (J : CallF) (k63 : K63 J) {Hk : Heap} (os : OkS S) (lf : LF Hk p S) {xo : AV} {kk bo br : Nat} {ros : List AV} (pr : PR S xo kk Hk bo br ros) (k40 : kk ≤ 1000) {b : Nat} (hb : Hk.size ≤ b) (hN : Hk.N ≤ b) (prev : (rowC S kk).sum ≤ 1152921504606846976) :
  (lvlB S (kk + 1) = true → Tr tbl J c62_l1 (L1P S p nn (kk + 1) b 0 xo Hk) (.exit 2) (L1Q S p nn (kk + 1) b xo Hk)) ∧
  (lvlB S (kk + 1) = false → Tr tbl J c62_l1 (L1P S p nn (kk + 1) b 0 xo Hk) .ret (fun s h => s.get [true,false] = .nils ∧ s.get [false,true] = .bool false)):=by
 have key:=fun i hi => c62_b1_ok (p:=p) (nn:=nn) J k63 lf pr k40 os.lt os.len os.n hb hN prev (i:=i) hi
 refine ⟨fun h => Tr.allT (P:=fun i => L1P S p nn (kk + 1) b i xo Hk) (p:=fun i => decide (cnt S (kk + 1) i ≤ 1152921504606846976)) S.length (fun i hi hp => ?_) (c62_l1_end J os.n) (by simp) S.length 0 (by omega) h,fun h => Tr.allF (P:=fun i => L1P S p nn (kk + 1) b i xo Hk) (p:=fun i => decide (cnt S (kk + 1) i ≤ 1152921504606846976)) S.length (fun i hi hp => ?_) (fun i hi hp => ?_) (by simp) S.length 0 (by omega) h⟩
 ·have:=key i hi
  rw [if_pos hp,if_pos hp] at this
  exact this
 ·have:=key i hi
  rw [if_pos hp,if_pos hp] at this
  exact this
 ·have:=key i hi
  rw [if_neg (by rw [hp]; simp),if_neg (by rw [hp]; simp)] at this
  exact this
theorem lvlB_of {k : Nat} (h : (rowC S k).sum ≤ 1152921504606846976) : lvlB S k = true:=by
 unfold lvlB
 rw [af_iff]
 intro i _ hi
 rw [decide_eq_true_eq]
 exact Nat.le_trans (cnt_le S k (by omega)) h
theorem row_le {k : Nat} (h : lvlB S k = true) : ∀ x ∈ rowC S k,x ≤ 1152921504606846976:=fun x hx => by
 unfold rowC at hx
 obtain ⟨i,hi,rfl⟩:=List.mem_map.1 hx
 unfold lvlB at h
 rw [af_iff] at h
 have:=h i (Nat.zero_le _) (by have:=List.mem_range.1 hi; omega)
 rwa [decide_eq_true_eq] at this
abbrev L2P (S : List (List Nat)) (p nn k : Nat) (Hb : Heap) : SP:=fun s h => ∃ y,(TB Hb h y (rowsC S k) ∧ ∀ k',k' < k → (rowC S k').sum ≤ 1152921504606846976) ∧ s.get [] = .ptr p 0 3 ∧ s.get [true,true] = y ∧ s.get [false,true,false,false] = G nn ∧ s.get [true,true,false,false] = G k
theorem lvl_all (J : CallF) (k63 : K63 J) (os : OkS S) {Hb H : Heap} (lf : LF Hb p S) {k : Nat} (k40 : k ≤ 1000) {y : AV} (tb : TB Hb H y (rowsC S k)) (prev : ∀ k',k' < k → (rowC S k').sum ≤ 1152921504606846976) {Hk : Heap} (kH : Kp (fun _ => False) H Hk) {b : Nat} (hb : Hk.size = b) :
  (lvlB S k = true → Tr tbl J c62_l1 (L1P S p nn k b 0 y Hk) (.exit 2) (L1Q S p nn k b y Hk)) ∧
  (lvlB S k = false → Tr tbl J c62_l1 (L1P S p nn k b 0 y Hk) .ret (fun s h => s.get [true,false] = .nils ∧ s.get [false,true] = .bool false)):=by
 have hN : Hk.N ≤ b:=by rw [← hb]; unfold Heap.size; omega
 cases k with
 | zero =>
  refine ⟨fun _ => c62_l1_0 J os.n,fun h => ?_⟩
  have : lvlB S 0 = true:=by
   unfold lvlB
   rw [af_iff]
   intro i _ _
   simp [cnt]
  rw [this] at h; cases h
 | succ kk =>
  have t1:=tb.kp kH
  obtain ⟨bo,ros,e1,e2,e3,e4⟩:=t1.sl (i:=kk) (by rw [rowsC_len]; omega)
  rw [rowsC_len] at e1 e2 e3
  obtain ⟨br,e5,e6⟩:=e4 kk _ (rowsC_at S (Nat.lt_succ_self kk))
  rw [gn_len,rowC_len] at e5 e6
  have pr : PR S y kk Hk bo br ros:=⟨e1,e2,e5,e3,e6⟩
  exact c62_l1_t J k63 os ((lf.kp tb.k).kp kH) pr (by omega) (by omega) hN (prev kk (Nat.lt_succ_self kk))
theorem c62_b2_ok (J : CallF) (k63 : K63 J) (k91 : K91 J) (os : OkS S) (n243 : S.length ≤ 243) {Hb : Heap} (lf : LF Hb p S) {k : Nat} (hk : k < nn) (k40 : nn ≤ 40) :
  ((rowC S k).sum ≤ 1152921504606846976 → Tr tbl J (.trim [[],[true,true],[false,true,false,false],[true,true,false,false]] c62_b2) (L2P S p nn k Hb) .normal (L2P S p nn (k + 1) Hb)) ∧
  (¬ (rowC S k).sum ≤ 1152921504606846976 → Tr tbl J (.trim [[],[true,true],[false,true,false,false],[true,true,false,false]] c62_b2) (L2P S p nn k Hb) .ret (fun s h => s.get [true,false] = .nils ∧ s.get [false,true] = .bool false)):=by
 have pre : ∀ (H1 : Heap) (y : AV),TB Hb H1 y (rowsC S k) → ∃ Hk b,H1.plus [.cells 1 1 [G 1]] = Hk ∧ Hk.size = b ∧ Kp (fun _ => False) H1 Hk ∧ J 91 [.slice H1.size 0 1 1,G S.length] Hk = some (.slice b 0 S.length S.length,[.cells 1 S.length (List.replicate S.length (G 1))],false) ∧ BI S k b 0 Hk (Hk.plus [.cells 1 S.length (List.replicate S.length (G 1))]) ∧ LF Hk p S ∧ blk y ≠ some b ∧ Hb.size ≤ b:=fun H1 y tb => by
  have kH : Kp (fun _ => False) H1 (H1.plus [.cells 1 1 [G 1]]):=Kp.plus _ _
  refine ⟨_,_,rfl,rfl,kH,?_,⟨Kp.plus _ _,by rw [mix_0]; exact plus_at0 _ _ _ _ rfl⟩,(lf.kp tb.k).kp kH,fun e => ?_,Nat.le_trans tb.k.size kH.size⟩
  ·exact k91 _ H1.size S.length 1 (plus_at0 _ _ _ _ rfl) n243
  ·obtain ⟨rs,lv,_⟩:=tb.r
   have:=lv.lt e
   have:=kH.size
   rw [plus_size] at *
   simp at *
   omega
 have step : ∀ (H1 : Heap) (y : AV),TB Hb H1 y (rowsC S k) → (∀ k',k' < k → (rowC S k').sum ≤ 1152921504606846976) → lvlB S k = true → ∀ Hk b,Hk.size = b → Kp (fun _ => False) H1 Hk → blk y ≠ some b → Hb.size ≤ b → ∀ h,BI S k b S.length Hk h → J 63 [.slice b 0 S.length S.length,G 1152921504606846976] h = some (tot (rowC S k),[],false) ∧
   ∃ x1 e h2,appA (h.plus [.cells 1 1 [.slice b 0 S.length S.length]]) h.size none 1 24 1 [.slice b 0 S.length S.length] y = some (x1,e) ∧ Eff.app e (h.plus [.cells 1 1 [.slice b 0 S.length S.length]]) = some h2 ∧ TB Hb h2 x1 (rowsC S (k + 1)):=fun H1 y tb prev lv Hk b hb kH hy hb2 h bi => by
  have g:=bi.g
  rw [mix_n] at g
  have lr : (gn (rowC S k)).length = S.length:=by rw [gn_len,rowC_len]
  refine ⟨?_,?_⟩
  ·exact k63 h _ (rowC S k) (.inr ⟨b,S.length,by rw [lr],g⟩) (by rw [rowC_len]; omega) (row_le lv)
  ·obtain ⟨x1,e,h2,q1,q2,q3,_⟩:=((tb.kp kH).kp bi.kp).app h.size (b:=b) (cs:=gn (rowC S k)) (by rw [lr]; exact g) ⟨hy,hb2⟩ (by rw [rowsC_len]; omega)
   rw [lr] at q1 q2
   rw [rowsC_succ]
   exact ⟨x1,e,h2,q1,q2,q3⟩
 have main : ∀ (s1 : T) (H1 : Heap) (Q : PQ) (y : AV),TB Hb H1 y (rowsC S k) → (∀ k',k' < k → (rowC S k').sum ≤ 1152921504606846976) → (s1.get [] = .ptr p 0 3 ∧ s1.get [true,true] = y ∧ s1.get [false,true,false,false] = G nn ∧ s1.get [true,true,false,false] = G k) →
   ((rowC S k).sum ≤ 1152921504606846976 → ∀ s' h',L2P S p nn (k + 1) Hb s' h' → Q .normal s' h') → (¬ (rowC S k).sum ≤ 1152921504606846976 → ∀ s' h',((fun s h => s.get [true,false] = .nils ∧ s.get [false,true] = .bool false) : SP) s' h' → Q .ret s' h') → W tbl J (.trim [[],[true,true],[false,true,false,false],[true,true,false,false]] c62_b2) s1 H1 Q:=fun s1 H1 Q y tb prev q kA kB => by
  obtain ⟨Hk,b,hk1,hb,kH,e91,bi0,lfk,hy,hb2⟩:=pre H1 y tb
  have lall:=lvl_all (nn:=nn) J k63 os lf (by omega) tb prev kH hb
  have st:=step H1 y tb prev
  obtain ⟨x,mb,nb,rs,g1,sx,_,_⟩:=lfk
  have prev2 : (rowC S k).sum ≤ 1152921504606846976 → ∀ k',k' < k + 1 → (rowC S k').sum ≤ 1152921504606846976:=fun hs k' hk' => by
   by_cases e : k' = k
   ·rw [e]; exact hs
   ·exact prev k' (by omega)
  have t1:=lvlB_of (S:=S) (k:=k)
  cases lv : lvlB S k
  ·have ns : ¬ (rowC S k).sum ≤ 1152921504606846976:=fun h => by rw [t1 h] at lv; cases lv
   have kR:=kB ns
   have l1:=lall.2 lv
   clear lall st prev2 t1 kA kB prev tb pre step
   unfold L1P at l1
   generalize hnn : S.length = n at *
   have nz : n = 0 ∨ 0 < n:=Nat.eq_zero_or_pos n
   rcases sx with ⟨rfl,hz⟩ | ⟨b1,v1,rfl⟩
   ·subst hz
    exfalso
    unfold lvlB at lv
    rw [hnn] at lv
    cases lv
   ·refine W.trim ?_
    refine zCh ?_
    simp (disch:=first|omega|exact zE rfl|exact zO|exact zL rfl) [c62_o3,zG,q]
    refine zCh ?_
    simp (disch:=first|omega|exact zE rfl|exact zO|exact zL rfl) [zG,q]
    refine W.seq (W.block ?_)
    refine zCh ?_
    simp (disch:=first|omega|exact zE rfl|exact zO|exact zL rfl) [c62_o4,zG,q]
    refine zCh ?_
    simp (disch:=first|omega|exact zE rfl|exact zO|exact zL rfl) [c62_o5,zG,q,hk1,g1,e91]
    refine W.assoc ?_
    refine zCh ?_
    simp (disch:=first|omega|exact zE rfl|exact zO|exact zL rfl) [c62_o6,zG,q]
    refine W.seq (W.block ?_)
    refine W.use (l1) (by simp (disch:=first|omega|exact zE rfl|exact zO|exact zL rfl) [zG,q,bi0]) fun s1 H1 hp => ?_
    try simp only [zW,if_true]
    exact kR _ _ hp
  ·have l1:=lall.1 lv
   have st:=st lv Hk b hb kH hy hb2
   by_cases hs : (rowC S k).sum ≤ 1152921504606846976
   ·have kR:=kA hs
    have pv2:=prev2 hs
    have et : tot (rowC S k) = .tup [G (rowC S k).sum,.bool true]:=by unfold tot; rw [if_pos hs]
    rw [et] at st
    clear lall t1 kA kB prev tb pre step et prev2
    unfold L1P L1Q at l1
    generalize (rowC S k).sum = sm at *
    generalize hnn : S.length = n at *
    rcases sx with ⟨rfl,rfl⟩ | ⟨b1,v1,rfl⟩
    all_goals
     try rw [show ((0 : Nat) : Int) = 0 from rfl] at e91
     try rw [show List.replicate 0 (G 1) = [] from rfl] at e91 bi0
     refine W.trim ?_
     refine zCh ?_
     simp (disch:=first|omega|exact zE rfl|exact zO|exact zL rfl) [c62_o3,zG,q]
     refine zCh ?_
     simp (disch:=first|omega|exact zE rfl|exact zO|exact zL rfl) [zG,q]
     refine W.seq (W.block ?_)
     refine zCh ?_
     simp (disch:=first|omega|exact zE rfl|exact zO|exact zL rfl) [c62_o4,zG,q]
     refine zCh ?_
     simp (disch:=first|omega|exact zE rfl|exact zO|exact zL rfl) [c62_o5,zG,q,hk1,g1,e91]
     refine W.assoc ?_
     refine zCh ?_
     simp (disch:=first|omega|exact zE rfl|exact zO|exact zL rfl) [c62_o6,zG,q]
     refine W.seq (W.block ?_)
     refine W.use (l1) (by simp (disch:=first|omega|exact zE rfl|exact zO|exact zL rfl) [zG,q,bi0]) fun s1 H1 hp => ?_
     obtain ⟨bi,q⟩:=hp
     try simp only [zW,if_true]
     refine W.assoc ?_
     obtain ⟨f1,x1,e,h2,q1,q2,q3⟩:=st _ bi
     refine zCh ?_
     simp (disch:=first|omega|exact zE rfl|exact zO|exact zL rfl) [c62_o21,zG,q,f1]
     refine W.assoc ?_
     refine zCh ?_
     simp (disch:=first|omega|exact zE rfl|exact zO|exact zL rfl) [c62_o22,zG,q]
     refine zCh ?_
     simp (disch:=first|omega|exact zE rfl|exact zO|exact zL rfl) [c62_o23,zG,q]
     refine W.chunk ?_
     simp (disch:=first|omega|exact zE rfl|exact zO|exact zL rfl) [c62_o24,zG,q,q1,q2,app1_at,elems,rdOf]
     refine W.chunk ?_
     simp (disch:=first|omega|exact zE rfl|exact zO|exact zL rfl) [c62_o25,zG,q]
     exact kR _ _ ⟨_,⟨q3,pv2⟩,by simp [T.get,q]⟩
   ·have kR:=kB hs
    have et : tot (rowC S k) = .tup [G 0,.bool false]:=by unfold tot; rw [if_neg hs]
    rw [et] at st
    clear lall t1 kA kB prev tb pre step et prev2
    unfold L1P L1Q at l1
    generalize hnn : S.length = n at *
    rcases sx with ⟨rfl,rfl⟩ | ⟨b1,v1,rfl⟩
    all_goals
     try rw [show ((0 : Nat) : Int) = 0 from rfl] at e91
     try rw [show List.replicate 0 (G 1) = [] from rfl] at e91 bi0
     refine W.trim ?_
     refine zCh ?_
     simp (disch:=first|omega|exact zE rfl|exact zO|exact zL rfl) [c62_o3,zG,q]
     refine zCh ?_
     simp (disch:=first|omega|exact zE rfl|exact zO|exact zL rfl) [zG,q]
     refine W.seq (W.block ?_)
     refine zCh ?_
     simp (disch:=first|omega|exact zE rfl|exact zO|exact zL rfl) [c62_o4,zG,q]
     refine zCh ?_
     simp (disch:=first|omega|exact zE rfl|exact zO|exact zL rfl) [c62_o5,zG,q,hk1,g1,e91]
     refine W.assoc ?_
     refine zCh ?_
     simp (disch:=first|omega|exact zE rfl|exact zO|exact zL rfl) [c62_o6,zG,q]
     refine W.seq (W.block ?_)
     refine W.use (l1) (by simp (disch:=first|omega|exact zE rfl|exact zO|exact zL rfl) [zG,q,bi0]) fun s1 H1 hp => ?_
     obtain ⟨bi,q⟩:=hp
     try simp only [zW,if_true]
     refine W.assoc ?_
     obtain ⟨f1,x1,e,h2,q1,q2,q3⟩:=st _ bi
     refine zCh ?_
     simp (disch:=first|omega|exact zE rfl|exact zO|exact zL rfl) [c62_o21,zG,q,f1]
     refine W.assoc ?_
     refine zCh ?_
     simp (disch:=first|omega|exact zE rfl|exact zO|exact zL rfl) [c62_o22,zG,q]
     refine zCh ?_
     simp (disch:=first|omega|exact zE rfl|exact zO|exact zL rfl) [c62_o23,zG,q]
     exact kR _ _ (by simp [T.get,q])
 exact ⟨fun hs => Tr.w fun s1 H1 hp Q kR => by
  obtain ⟨y,⟨tb,prev⟩,q⟩:=hp
  exact main s1 H1 Q y tb prev q (fun _ => kR) (fun h => absurd hs h),fun hs => Tr.w fun s1 H1 hp Q kR => by
  obtain ⟨y,⟨tb,prev⟩,q⟩:=hp
  exact main s1 H1 Q y tb prev q (fun h => absurd h hs) (fun _ => kR)⟩
theorem LF.fr {h : Heap} (l : LF h p S) : LF (frameOf h) p S:=by
 have gl : ∀ {b y},h.get b = y → y ≠ .hole → (frameOf h).get b = y:=fun e hx => by
  unfold frameOf; rw [get_mk_lt _ _ _ _ (get_lt e hx)]; exact e
 obtain ⟨x,mb,nb,rs,h1,h2,h3,h4⟩:=l
 refine ⟨x,mb,nb,rs,gl h1 (by simp),h2,gl h3 (by simp),fun i hi => ?_⟩
 obtain ⟨y,e1,e2⟩:=h4 i hi
 exact ⟨y,e1,e2.frame⟩
theorem TB.fr1 {h h' : Heap} {x : AV} {b : Bool} {L : List (List AV)} (t : TB (frameOf h) h' x L) : TB h (h.plus (if (one [x,.bool b]).flat then [] else h'.own)) x L:=by
 split
 ·rename_i hf
  obtain ⟨rs,lv,hl,hr⟩:=t.r
  rcases lv with ⟨rfl,rfl⟩ | ⟨b,rfl,g,n⟩
  ·have : L = []:=List.length_eq_zero_iff.1 hl.symm
   subst this
   have : h.plus [] = h:=by simp [Heap.plus]
   rw [this]; exact TB.nil h
  ·simp [one,AV.flat,AV.flats] at hf
 ·exact t.fr
theorem okC_iff {S : List (List Nat)} {n : Nat} : okC S n = true ↔ ∀ k,k < n → (rowC S k).sum ≤ 1152921504606846976:=by
 unfold okC
 rw [af_iff]
 constructor
 ·intro h k hk
  have:=h k (Nat.zero_le _) (by omega)
  rwa [decide_eq_true_eq] at this
 ·intro h k _ hk
  rw [decide_eq_true_eq]
  exact h k (by omega)
theorem c62_l2_ok (J : CallF) (k63 : K63 J) (k91 : K91 J) (os : OkS S) (n243 : S.length ≤ 243) {Hb : Heap} (lf : LF Hb p S) (k40 : nn ≤ 40) :
  (okC S nn = true → Tr tbl J c62_l2 (fun s h => h = Hb ∧ s.get [] = .ptr p 0 3 ∧ s.get [true,true] = .nils ∧ s.get [false,true,false,false] = G nn ∧ s.get [true,true,false,false] = G ((0 : Nat) : Int)) (.exit 0) (fun s h => ∃ y,TB Hb h y (rowsC S nn) ∧ s.get [true,true] = y)) ∧
  (okC S nn = false → Tr tbl J c62_l2 (fun s h => h = Hb ∧ s.get [] = .ptr p 0 3 ∧ s.get [true,true] = .nils ∧ s.get [false,true,false,false] = G nn ∧ s.get [true,true,false,false] = G ((0 : Nat) : Int)) .ret (fun s h => s.get [true,false] = .nils ∧ s.get [false,true] = .bool false)):=by
 have p0 : ∀ s h,((fun s h => h = Hb ∧ s.get [] = .ptr p 0 3 ∧ s.get [true,true] = .nils ∧ s.get [false,true,false,false] = G nn ∧ s.get [true,true,false,false] = G ((0 : Nat) : Int)) : SP) s h → L2P S p nn 0 Hb s h:=fun s h hp => ⟨.nils,⟨by rw [hp.1]; exact TB.nil Hb,fun k hk => by omega⟩,hp.2⟩
 have fin : Tr tbl J (.trim [[],[true,true],[false,true,false,false],[true,true,false,false]] c62_b2) (L2P S p nn nn Hb) (.exit 0) (fun s h => ∃ y,TB Hb h y (rowsC S nn) ∧ s.get [true,true] = y):=by
  refine Tr.w fun s1 H1 hp _ kR => W.trim ?_
  obtain ⟨y,⟨tb,_⟩,q⟩:=hp
  refine zCh ?_
  simp (disch:=first|omega|exact zE rfl|exact zO|exact zL rfl) [c62_o3,zG,q]
  refine zCh ?_
  simp (disch:=first|omega|exact zE rfl|exact zO|exact zL rfl) [zG,q]
  exact kR _ _ ⟨_,tb,by simp [T.get,q]⟩
 refine ⟨fun h => Tr.pre p0 (Tr.allT (P:=fun k => L2P S p nn k Hb) (p:=fun k => decide ((rowC S k).sum ≤ 1152921504606846976)) nn (fun k hk hp => ?_) fin (by simp) nn 0 (by omega) h),fun h => Tr.pre p0 (Tr.allF (P:=fun k => L2P S p nn k Hb) (p:=fun k => decide ((rowC S k).sum ≤ 1152921504606846976)) nn (fun k hk hp => ?_) (fun k hk hp => ?_) (by simp) nn 0 (by omega) h)⟩
 ·exact (c62_b2_ok J k63 k91 os n243 lf hk k40).1 (of_decide_eq_true hp)
 ·exact (c62_b2_ok J k63 k91 os n243 lf hk k40).1 (of_decide_eq_true hp)
 ·exact (c62_b2_ok J k63 k91 os n243 lf hk k40).2 (of_decide_eq_false hp)
theorem c62_t (J : CallF) (k63 : K63 J) (k91 : K91 J) (hJ : ∀ a h,J 62 a h = none) (h : Heap) (os : OkS S) (n243 : S.length ≤ 243) (lf : LF h p S) (k40 : nn ≤ 40) (hc : okC S nn = true) :
  ∃ v own,CallsTo tbl J 62 [.ptr p 0 3,G nn] h (v,own,false) ∧ ∃ x,v = .tup [x,.bool true] ∧ TB h (h.plus own) x (rowsC S nn):=by
 refine Tr.fny (cf:=c62) (e:=.ret) (s:=T.set (T.set .leaf [] (.ptr p 0 3)) [false] (G nn)) (by decide) rfl (hJ _ _) rfl rfl (by simp) ?_
 have l2:=(c62_l2_ok J k63 k91 os n243 lf.fr k40).1 hc
 refine Tr.w fun s1 H1 hp _ kR => ?_
 obtain ⟨rfl,rfl⟩:=hp
 have q : True:=trivial
 refine zCh ?_
 simp (disch:=first|omega|exact zE rfl|exact zO|exact zL rfl) [c62_o0,zG,q]
 refine zCh ?_
 simp (disch:=first|omega|exact zE rfl|exact zO|exact zL rfl) [c62_o1,zG,q]
 refine W.assoc ?_
 refine zCh ?_
 simp (disch:=first|omega|exact zE rfl|exact zO|exact zL rfl) [c62_o2,zG,q]
 refine W.seq (W.block ?_)
 refine W.use (l2) (by simp (disch:=first|omega|exact zE rfl|exact zO|exact zL rfl) [zG,q]) fun s1 H1 hp => ?_
 obtain ⟨y,tb,q⟩:=hp
 try simp only [zW,if_true]
 refine zCh ?_
 simp (disch:=first|omega|exact zE rfl|exact zO|exact zL rfl) [c62_o26,zG,q]
 refine W.ret ?_
 try simp only [zW,if_true]
 refine kR _ _ ?_
 exact ⟨[y,.bool true],by simp [T.get,c62,evRess,evRes,q],y,rfl,tb.fr1⟩
theorem c62_f (J : CallF) (k63 : K63 J) (k91 : K91 J) (hJ : ∀ a h,J 62 a h = none) (h : Heap) (os : OkS S) (n243 : S.length ≤ 243) (lf : LF h p S) (k40 : nn ≤ 40) (hc : okC S nn = false) : CallsTo tbl J 62 [.ptr p 0 3,G nn] h (.tup [.nils,.bool false],[],false):=by
 refine Tr.fnv (cf:=c62) (e:=.ret) (s:=T.set (T.set .leaf [] (.ptr p 0 3)) [false] (G nn)) (by decide) rfl (hJ _ _) rfl rfl rfl (by simp) ?_
 refine Tr.post (Q:=(fun s h => s.get [true,false] = .nils ∧ s.get [false,true] = .bool false)) (fun s h q => by simp [c62,q]) ?_
 have l2:=(c62_l2_ok J k63 k91 os n243 lf.fr k40).2 hc
 refine Tr.w fun s1 H1 hp _ kR => ?_
 obtain ⟨rfl,rfl⟩:=hp
 have q : True:=trivial
 refine zCh ?_
 simp (disch:=first|omega|exact zE rfl|exact zO|exact zL rfl) [c62_o0,zG,q]
 refine zCh ?_
 simp (disch:=first|omega|exact zE rfl|exact zO|exact zL rfl) [c62_o1,zG,q]
 refine W.assoc ?_
 refine zCh ?_
 simp (disch:=first|omega|exact zE rfl|exact zO|exact zL rfl) [c62_o2,zG,q]
 refine W.seq (W.block ?_)
 refine W.use (l2) (by simp (disch:=first|omega|exact zE rfl|exact zO|exact zL rfl) [zG,q]) fun s1 H1 hp => ?_
 try simp only [zW,if_true]
 exact kR _ _ hp
end
structure A62 where
 p : Nat
 nn : Nat
 S : List (List Nat)
def Ok62 (b : A62) (h : Heap) : Prop:=OkS b.S ∧ b.S.length ≤ 243 ∧ LF h b.p b.S ∧ b.nn ≤ 40
def Pre62 (b : A62) (args : List AV) (h : Heap) : Prop:=Ok62 b h ∧ args = [.ptr b.p 0 3,G b.nn]
def Post62 (b : A62) (h : Heap) (v : AV) (own : List AObj) : Prop:=(okC b.S b.nn = true → ∃ x,v = .tup [x,.bool true] ∧ TB h (h.plus own) x (rowsC b.S b.nn)) ∧ (okC b.S b.nn = false → v = .tup [.nils,.bool false] ∧ own = [])
noncomputable def T38 : CallF:=addK tbl T37 62 Pre62 Post62
theorem t38 : Sound Go.Proofs.Try.prog T38:=Sound.addK follows ok t37 (by decide) _ _
abbrev K62 (J : CallF) : Prop:=∀ (h : Heap) (b : A62),Ok62 b h → ∃ v own,J 62 [.ptr b.p 0 3,G b.nn] h = some (v,own,false) ∧ Post62 b h v own
theorem k91_37 : K91 T37:=fun h b n x hb h2 => by
 rw [show T37 91 [.slice b 0 1 1,G n] h = T34 91 [.slice b 0 1 1,G n] h from by simp (disch:=decide) only [T35,T36,T37,addK_ne]]
 exact k91 h b n x hb h2
theorem k62 : K62 T38:=fun h b o => by
 obtain ⟨v,own,e,l⟩:=addK_some (Pre:=Pre62) (Post:=Post62) (fun b args h hp => by
  obtain ⟨⟨h1,h2,h3,h4⟩,rfl⟩:=hp
  cases hc : okC b.S b.nn
  ·exact ⟨_,_,c62_f T37 k63 k91_37 (fun _ _ => by simp (disch:=decide) only [T1,T2,T3,T4,T5,T6,T7,T8,T9,T10,T11,T12,T13,T14,T15,T16,T17,T18,T19,T20,T21,T22,T23,T24,T25,T26,T27,T28,T29,T30,T31,T32,T33,T34,T35,T36,T37,addI_ne,addX_ne,addV_ne,addK_ne]; rfl) h h1 h2 h3 h4 hc,fun q => (by rw [hc] at q; cases q),fun _ => ⟨rfl,rfl⟩⟩
  ·obtain ⟨v,own,e,x,rfl,tb⟩:=c62_t T37 k63 k91_37 (fun _ _ => by simp (disch:=decide) only [T1,T2,T3,T4,T5,T6,T7,T8,T9,T10,T11,T12,T13,T14,T15,T16,T17,T18,T19,T20,T21,T22,T23,T24,T25,T26,T27,T28,T29,T30,T31,T32,T33,T34,T35,T36,T37,addI_ne,addX_ne,addV_ne,addK_ne]; rfl) h h1 h2 h3 h4 hc
   exact ⟨_,_,e,fun _ => ⟨x,rfl,tb⟩,fun q => (by rw [hc] at q; cases q)⟩) b _ h ⟨o,rfl⟩
 exact ⟨v,own,e,l⟩
theorem stL_ok {W : List (List Int)} {R : List (List Nat)} (hn : R.length ≤ 243) : OkS (stL W R):=by
 have e : (stL W R).length = R.length:=by simp [stL]
 have g : ∀ i,∃ s,(stL W R).getD i [] = nxL W R s ∨ (stL W R).getD i [] = []:=fun i => by
  unfold stL
  rw [List.getD_eq_getElem?_getD,List.getElem?_map]
  cases R[i]? with
  | none => exact ⟨[],.inr rfl⟩
  | some s => exact ⟨s,.inl rfl⟩
 refine ⟨fun i j hj => ?_,fun i => ?_,by omega⟩
 ·rw [e]
  obtain ⟨s,h | h⟩:=g i
  ·rw [h] at hj; exact nxL_lt hj
  ·rw [h] at hj; cases hj
 ·obtain ⟨s,h | h⟩:=g i
  ·rw [h]; have:=nxL_len W R s; omega
  ·rw [h]; simp
def AR.gd (a : AR) (m n lo : Int) : Bool:=a.rm m && decide (lo ≤ n ∧ n ≤ 40)
def AR.cn (a : AR) (m : Int) (n : Nat) : Nat:=if n = 0 then 1 else (rowC (a.steps m) (n - 1)).sum
def AR.cntV (a : AR) (m n : Int) : AV:=if a.gd m n 0 then (if okC (a.steps m) n.toNat then .tup [G (a.cn m n.toNat),G 0] else .tup [G 0,G 5]) else .tup [G 0,G 2]
theorem AR.rm_iff {a : AR} {m : Int} (h : a.rm m = true) : a.ru = true ∧ 1 ≤ m ∧ m ≤ 5:=by
 unfold AR.rm at h
 simpa using h
theorem AR.steps_ok {a : AR} {m : Int} (h : a.rm m = true) : OkS (a.steps m) ∧ (a.steps m).length ≤ 243 ∧ (a.steps m).length = (a.rows m).length:=by
 obtain ⟨h1,h2⟩:=a.rm_iff h
 have q3:=a.q3 h1
 have sm:=rwL_small (q:=a.q.toNat) (B:=a.B) (m:=m.toNat) (by omega) (by omega)
 have e : (a.steps m).length = (a.rows m).length:=by simp [AR.steps,stL]
 exact ⟨stL_ok sm,by rw [e]; exact sm,e⟩
section
variable {a : AR} {m n : Int}
end
structure ARmn where
 a : AR
 m : Int
 n : Int
def PreMn (b : ARmn) (args : List AV) (h : Heap) : Prop:=OkR b.a h ∧ args = [b.a.v,G b.m,G b.n]
def Post21 (b : ARmn) (h : Heap) (v : AV) (own : List AObj) : Prop:=v = b.a.cntV b.m b.n ∧ own = []
noncomputable def T39 : CallF:=addK tbl T38 21 PreMn Post21
theorem t39 : Sound Go.Proofs.Try.prog T39:=Sound.addK follows ok t38 (by decide) _ _
end Go.Proofs.Ytljgfdamdcikgaa.Ev
set_option linter.unusedVariables false
set_option linter.unusedSimpArgs false
namespace Go.Proofs.Ytljgfdamdcikgaa.Ev
open Go Go.AEv
def al (S : List (List Nat)) : Nat → Nat → Bool
 | 0,_ => true
 | k + 1,i => (S.getD i []).any (al S k)
theorem al_down {S : List (List Nat)} : ∀ {k i : Nat},al S (k + 1) i = true → al S k i = true
 | 0,_,_ => rfl
 | k + 1,i,h => by
  unfold al at h ⊢
  obtain ⟨c,h1,h2⟩:=List.any_eq_true.1 h
  exact List.any_eq_true.2 ⟨c,h1,al_down h2⟩
theorem al_le {S : List (List Nat)} {i : Nat} : ∀ {k d : Nat},al S (k + d) i = true → al S k i = true
 | k,0,h => h
 | k,d + 1,h => al_le (d:=d) (al_down h)
theorem al_iff {S : List (List Nat)} : ∀ {k i : Nat},al S k i = true ↔ ∃ f : Nat → Nat,f 0 = i ∧ ∀ t,t < k → f (t + 1) ∈ S.getD (f t) []
 | 0,i => ⟨fun _ => ⟨fun _ => i,rfl,fun t h => absurd h (by omega)⟩,fun _ => rfl⟩
 | k + 1,i => by
  have a : al S (k + 1) i = (S.getD i []).any (al S k):=rfl
  rw [a,List.any_eq_true]
  constructor
  ·rintro ⟨c,h1,h2⟩
   obtain ⟨f,h3,h4⟩:=al_iff.1 h2
   refine ⟨fun t => if t = 0 then i else f (t - 1),rfl,fun t ht => ?_⟩
   cases t with
   | zero =>
    show f 0 ∈ S.getD i []
    rw [h3]; exact h1
   | succ t =>
    exact h4 t (by omega)
  ·rintro ⟨f,h1,h2⟩
   have:=h2 0 (by omega)
   rw [h1] at this
   exact ⟨f 1,this,al_iff.2 ⟨fun t => f (t + 1),rfl,fun t ht => h2 (t + 1) (by omega)⟩⟩
theorem pigeon : ∀ (n : Nat) (f : Nat → Nat),(∀ i,i ≤ n → f i < n) → ∃ i j,i < j ∧ j ≤ n ∧ f i = f j
 | 0,f,h => absurd (h 0 (Nat.le_refl _)) (by omega)
 | n + 1,f,h => by
  by_cases c : ∃ i,i ≤ n ∧ f i = f (n + 1)
  ·obtain ⟨i,a,b⟩:=c
   exact ⟨i,n + 1,by omega,Nat.le_refl _,b⟩
  ·have c' : ∀ i,i ≤ n → f i ≠ f (n + 1):=fun i a b => c ⟨i,a,b⟩
   obtain ⟨i,j,a1,a2,a3⟩:=pigeon n (fun i => if f i = n then f (n + 1) else f i) (fun i hi => by
    have h1:=h i (by omega)
    have h2:=h (n + 1) (Nat.le_refl _)
    have h3:=c' i hi
    by_cases e : f i = n
    ·simp only [e,if_true]; omega
    ·simp only [e,if_false]; omega)
   refine ⟨i,j,a1,by omega,?_⟩
   have h3:=c' i (by omega)
   have h4:=c' j (by omega)
   by_cases e1 : f i = n
   ·by_cases e2 : f j = n
    ·omega
    ·simp only [e1,e2,if_true,if_false] at a3; omega
   ·by_cases e2 : f j = n
    ·simp only [e1,e2,if_true,if_false] at a3; omega
    ·simp only [e1,e2,if_false] at a3; exact a3
variable {M : List (List Int)}
theorem al_big {S : List (List Nat)} (lt : ∀ i,∀ j ∈ S.getD i [],j < S.length) {i : Nat} (hi : i < S.length) (h : al S S.length i = true) (k : Nat) : al S k i = true:=by
 obtain ⟨f,h0,hf⟩:=al_iff.1 h
 have hl : ∀ t,t ≤ S.length → f t < S.length:=fun t ht => by
  cases t with
  | zero => rw [h0]; exact hi
  | succ t => exact lt _ _ (hf t (by omega))
 obtain ⟨a,b,hab,hb,e⟩:=pigeon S.length f hl
 refine al_iff.2 ⟨fun t => if t < a then f t else f (a + (t - a) % (b - a)),?_,fun t _ => ?_⟩
 ·by_cases c : 0 < a
  ·simp only [c,if_true]; exact h0
  ·have : a = 0:=by omega
   subst this
   simp only [Nat.lt_irrefl,if_false,Nat.zero_sub,Nat.zero_mod,Nat.add_zero]; exact h0
 ·simp only
  by_cases c : t + 1 < a
  ·rw [if_pos c,if_pos (by omega)]
   exact hf t (by omega)
  ·rw [if_neg c]
   by_cases c2 : t < a
   ·rw [if_pos c2]
    have : t + 1 - a = 0:=by omega
    rw [this,Nat.zero_mod,Nat.add_zero]
    have:=hf t (by omega)
    rw [show t + 1 = a by omega] at this
    exact this
   ·rw [if_neg c2]
    have hm : (t - a) % (b - a) < b - a:=Nat.mod_lt _ (by omega)
    have h2:=hf (a + (t - a) % (b - a)) (by omega)
    have e2 : t + 1 - a = (t - a) + 1:=by omega
    rw [e2]
    by_cases c3 : (t - a) % (b - a) + 1 = b - a
    ·have : ((t - a) + 1) % (b - a) = 0:=by
      rw [Nat.add_mod]
      by_cases d1 : b - a = 1
      ·rw [d1]; omega
      ·rw [Nat.mod_eq_of_lt (show 1 < b - a by omega),c3,Nat.mod_self]
     rw [this,Nat.add_zero]
     rw [show a + (t - a) % (b - a) + 1 = b by omega,← e] at h2
     exact h2
    ·have : ((t - a) + 1) % (b - a) = (t - a) % (b - a) + 1:=by
      rw [Nat.add_mod,Nat.mod_eq_of_lt (show 1 < b - a by omega),Nat.mod_eq_of_lt (by omega)]
     rw [this,← Nat.add_assoc]
     exact h2
theorem gD_mem {L : List Nat} {t : Nat} (h : t < L.length) : L.getD t 0 ∈ L:=by
 rw [List.getD_eq_getElem?_getD,List.getElem?_eq_getElem h]
 exact List.getElem_mem h
def Rw (S : List (List Nat)) : Nat → Nat → Nat → Prop
 | 0,i,j => i = j
 | k + 1,i,j => ∃ c,c ∈ S.getD i [] ∧ Rw S k c j
section
variable {S : List (List Nat)}
theorem Rw.add {l j m : Nat} : ∀ {k i : Nat},Rw S k i j → Rw S l j m → Rw S (k + l) i m
 | 0,i,h,g => by
  have e : i = j:=h
  subst e
  rw [Nat.zero_add]; exact g
 | k + 1,i,h,g => by
  obtain ⟨c,h1,h2⟩:=h
  rw [show k + 1 + l = (k + l) + 1 by omega]
  exact ⟨c,h1,h2.add g⟩
theorem Rw.one {i j : Nat} (h : j ∈ S.getD i []) : Rw S 1 i j:=⟨j,h,rfl⟩
theorem Rw.snoc {k i j c : Nat} (h : Rw S k i j) (g : c ∈ S.getD j []) : Rw S (k + 1) i c:=h.add (Rw.one g)
theorem Rw.last {j : Nat} : ∀ {k i : Nat},Rw S (k + 1) i j → ∃ c,Rw S k i c ∧ j ∈ S.getD c []
 | 0,i,h => by
  obtain ⟨c,h1,h2⟩:=h
  have e : c = j:=h2
  subst e
  exact ⟨i,rfl,h1⟩
 | k + 1,i,h => by
  obtain ⟨c,h1,h2⟩:=h
  obtain ⟨d,h3,h4⟩:=Rw.last h2
  exact ⟨d,⟨c,h1,h3⟩,h4⟩
theorem Rw.al {j m : Nat} : ∀ {k i : Nat},Rw S k i j → al S m j = true → al S (m + k) i = true
 | 0,i,h,g => by
  have e : i = j:=h
  subst e
  exact g
 | k + 1,i,h,g => by
  obtain ⟨c,h1,h2⟩:=h
  show (S.getD i []).any (Ev.al S (m + k)) = true
  exact List.any_eq_true.2 ⟨c,h1,h2.al g⟩
theorem Rw.lt (lt : ∀ i,∀ j ∈ S.getD i [],j < S.length) {j : Nat} : ∀ {k i : Nat},Rw S k i j → i < S.length → j < S.length
 | 0,i,h,g => by
  have e : i = j:=h
  rw [← e]; exact g
 | k + 1,i,⟨c,h1,h2⟩,g => h2.lt lt (lt _ _ h1)
def LG (S : List (List Nat)) (i z : Nat) : Prop:=∀ k,al S k i = true ↔ k < z
theorem LG.nc {i z : Nat} (h : LG S i z) (lt : ∀ i,∀ j ∈ S.getD i [],j < S.length) (hi : i < S.length) : al S S.length i = false:=by
 cases c : al S S.length i
 ·rfl
 ·have:=(h z).1 (al_big lt hi c z)
  omega
theorem LG.pos {i z : Nat} (h : LG S i z) : 0 < z:=(h 0).1 rfl
def MX (S : List (List Nat)) (L : List Nat) (m : Nat) : Prop:=(∀ c ∈ L,∃ z,LG S c z ∧ z ≤ m) ∧ (m = 0 ∨ ∃ c ∈ L,LG S c m)
theorem MX.nil : MX S [] 0:=⟨fun _ h => (by cases h),.inl rfl⟩
theorem MX.snoc {L : List Nat} {m c z : Nat} (h : MX S L m) (g : LG S c z) : MX S (L ++ [c]) (max m z):=by
 constructor
 ·intro x hx
  rcases List.mem_append.1 hx with a | a
  ·obtain ⟨y,h1,h2⟩:=h.1 x a
   exact ⟨y,h1,by omega⟩
  ·rw [List.mem_singleton.1 a]
   exact ⟨z,g,by omega⟩
 ·by_cases e : m ≤ z
  ·rw [Nat.max_eq_right e]
   exact .inr ⟨c,by simp,g⟩
  ·rw [Nat.max_eq_left (by omega)]
   rcases h.2 with a | ⟨x,h1,h2⟩
   ·exact .inl a
   ·exact .inr ⟨x,List.mem_append_left _ h1,h2⟩
theorem MX.take {L : List Nat} {t m z : Nat} (ht : t < L.length) (h : MX S (L.take t) m) (g : LG S (L.getD t 0) z) : MX S (L.take (t + 1)) (max m z):=by
 have e : L.take (t + 1) = L.take t ++ [L.getD t 0]:=by
  rw [List.take_add_one,List.getElem?_eq_getElem ht,List.getD_eq_getElem?_getD,List.getElem?_eq_getElem ht]; rfl
 rw [e]; exact h.snoc g
theorem MX.lg {v m : Nat} (h : MX S (S.getD v []) m) : LG S v (m + 1):=fun k => by
 cases k with
 | zero => exact ⟨fun _ => by omega,fun _ => rfl⟩
 | succ k =>
  have a : al S (k + 1) v = (S.getD v []).any (al S k):=rfl
  rw [a,List.any_eq_true]
  constructor
  ·rintro ⟨c,h1,h2⟩
   obtain ⟨z,h3,h4⟩:=h.1 c h1
   have:=(h3 k).1 h2
   omega
  ·intro hk
   rcases h.2 with e | ⟨c,h1,h2⟩
   ·omega
   ·exact ⟨c,h1,(h2 k).2 (by omega)⟩
def LS (S : List (List Nat)) (z : Int) : Prop:=(z = -1 ∧ ∃ i,i < S.length ∧ al S S.length i = true) ∨ ∃ m : Nat,z = m ∧ ∀ k,(∃ i,i < S.length ∧ al S k i = true) ↔ k < m
theorem MX.ls {m : Nat} (h : MX S (List.range S.length) m) : LS S m:=.inr ⟨m,rfl,fun k => by
 constructor
 ·rintro ⟨i,h1,h2⟩
  obtain ⟨z,h3,h4⟩:=h.1 i (List.mem_range.2 h1)
  have:=(h3 k).1 h2
  omega
 ·intro hk
  rcases h.2 with e | ⟨c,h1,h2⟩
  ·omega
  ·exact ⟨c,List.mem_range.1 h1,(h2 k).2 hk⟩⟩
end
def fm (k : Nat) : List (Nat × Int) → Option Int
 | [] => none
 | (c,w) :: E => if k = c then some w else fm k E
def pm (k : Nat) (z : Int) : List (Nat × Int) → List (Nat × Int)
 | [] => [(k,z)]
 | (c,w) :: E => if k = c then (k,z) :: E else (c,w) :: pm k z E
theorem fm_pm (k : Nat) (z : Int) (j : Nat) : ∀ E,fm j (pm k z E) = if j = k then some z else fm j E
 | [] => rfl
 | (c,w) :: E => by
  unfold pm
  by_cases e : k = c
  ·rw [if_pos e]
   show (if j = k then some z else fm j E) = if j = k then some z else (if j = c then some w else fm j E)
   by_cases d : j = k
   ·rw [if_pos d,if_pos d]
   ·rw [if_neg d,if_neg d,if_neg (by omega)]
  ·rw [if_neg e]
   show (if j = c then some w else fm j (pm k z E)) = if j = k then some z else (if j = c then some w else fm j E)
   rw [fm_pm k z j E]
   by_cases d : j = c
   ·rw [if_pos d,if_pos d,if_neg (by omega)]
   ·rw [if_neg d,if_neg d]
def mv (E : List (Nat × Int)) : List (AV × AV):=E.map fun e => (G e.1,G e.2)
def cf (E : List (Nat × Int)) : Nat → Nat
 | 0 => 0
 | m + 1 => cf E m + (if fm m E = none then 1 else 0)
end Go.Proofs.Ytljgfdamdcikgaa.Ev
set_option linter.unusedVariables false
set_option linter.unusedSimpArgs false
namespace Go.Proofs.Ytljgfdamdcikgaa.Ev
open Go Go.AEv
attribute [local simp] evFunc initS evOps_c evTrim_c evSkip_c evExit_c evRet_c evSeq_c evCond_c evBlock_c evDraw_c runOps_n runOps_c exec_n exec_g pure1_c act AOpd.ev T.get T.set T.put evBin evUn forceT_eq forceV_eq forceL_eq evRess evRes one keep runFP_n runFP_c app_none AV.flats AV.flat came_some List.getElem?_cons_zero List.getElem?_cons_succ beqT wrapI idxI tdivI tmodI decT decF ibT ibF inT inF evScope_c if_pos if_neg Cm_some thenW_n thenW_e thenW_r blkW_n blkW_e blkW_r goI kn putAt AV.cells fillA loadA takeA mk Eff.isAll Eff.isNone Eff.commutes Eff.spares okPair apart eqAgg fits LK.fits allEq aveq eqk mmA
def lN (f : Nat → Nat) (n : Nat) : List Nat:=(List.range n).map f
theorem lN_len (f : Nat → Nat) (n : Nat) : (gn (lN f n)).length = n:=by simp [gn,lN]
theorem lN_at (f : Nat → Nat) {n i : Nat} (h : i < n) : (gn (lN f n))[i]? = some (G (f i)):=by
 unfold gn lN
 rw [List.map_map,List.getElem?_map,List.getElem?_range h]; rfl
theorem lN_set (f : Nat → Nat) {n i : Nat} (h : i < n) (v : Nat) : (gn (lN f n)).set i (G v) = gn (lN (fun t => if t = i then v else f t) n):=by
 apply List.ext_getElem?
 intro j
 by_cases hj : j < n
 ·rw [lN_at _ hj]
  by_cases e : i = j
  ·subst e
   rw [List.getElem?_set_self (by rw [lN_len]; exact h),if_pos rfl]
  ·rw [List.getElem?_set_ne e,lN_at _ hj,if_neg (fun h => e h.symm)]
 ·rw [List.getElem?_eq_none (by rw [List.length_set,lN_len]; omega),List.getElem?_eq_none (by rw [lN_len]; omega)]
def rowS (S : List (List Nat)) (k : Nat) : List Nat:=lN (fun i => sat (cnt S k i)) S.length
def rowsS (S : List (List Nat)) (k : Nat) : List (List AV):=(List.range k).map fun k => gn (rowS S k)
def LN (h : Heap) (x : AV) (S : List (List Nat)) : Prop:=∃ rs,((x = .nils ∧ S.length = 0) ∨ ∃ b,x = .slice b 0 S.length S.length ∧ h.get b = .cells 1 S.length rs) ∧ rs.length = S.length ∧ ∀ k,k < S.length → ∃ y,rs[k]? = some y ∧ RV h y (gn (S.getD k []))
theorem LN.kp {h h' : Heap} {x : AV} {S : List (List Nat)} (l : LN h x S) (k : Kp (fun _ => False) h h') : LN h' x S:=by
 obtain ⟨rs,h1,h2,h3⟩:=l
 refine ⟨rs,?_,h2,fun i hi => ?_⟩
 ·rcases h1 with h | ⟨b,e,g⟩
  ·exact .inl h
  ·exact .inr ⟨b,e,k.at g (by simp) id⟩
 ·obtain ⟨y,e1,e2⟩:=h3 i hi
  exact ⟨y,e1,e2.kp k (fun _ _ => id)⟩
theorem LN.fr {h : Heap} {x : AV} {S : List (List Nat)} (l : LN h x S) : LN (frameOf h) x S:=by
 obtain ⟨rs,h1,h2,h3⟩:=l
 refine ⟨rs,?_,h2,fun i hi => ?_⟩
 ·rcases h1 with h | ⟨b,e,g⟩
  ·exact .inl h
  ·refine .inr ⟨b,e,?_⟩
   unfold frameOf
   rw [get_mk_lt _ _ _ _ (get_lt g (by simp))]; exact g
 ·obtain ⟨y,e1,e2⟩:=h3 i hi
  exact ⟨y,e1,e2.frame⟩
theorem listOf_rv {h : Heap} {y : AV} {L : List Nat} (e : listOf h y = some (L.map fun (k : Nat) => (k : Int))) : RV h y (gn L):=by
 rcases listOf_some e with ⟨rfl,e2⟩ | ⟨b,v,rfl,g⟩
 ·have : L = []:=by simpa using e2
  subst this; exact .inl ⟨rfl,rfl⟩
 ·refine .inr ⟨b,v,by simp [gn],?_⟩
  rw [g,gn_gs]
theorem LT.ln {h : Heap} {x : AV} {S : List (List Nat)} (l : LT h x (ntI S)) : LN h x S:=by
 obtain ⟨rs,lv,hl,hr⟩:=l
 have hl : rs.length = S.length:=by simpa [ntI] using hl
 refine ⟨rs,?_,hl,fun k hk => ?_⟩
 ·rcases lv with ⟨e,e2⟩ | ⟨b,e,g⟩
  ·exact .inl ⟨e,by rw [← hl,e2]; rfl⟩
  ·rw [hl] at e g; exact .inr ⟨b,e,g⟩
 ·obtain ⟨l,e1,e2⟩:=hr k rs[k] (List.getElem?_eq_getElem (by omega))
  refine ⟨rs[k],List.getElem?_eq_getElem (by omega),?_⟩
  unfold ntI at e1
  rw [List.getElem?_map,List.getElem?_eq_getElem hk] at e1
  simp only [Option.map_some,Option.some.injEq] at e1
  subst e1
  rw [List.getD_eq_getElem?_getD,List.getElem?_eq_getElem hk]
  exact listOf_rv e2
section
variable {S : List (List Nat)} {kk nn : Nat}
structure PS (S : List (List Nat)) (xo : AV) (kk : Nat) (h : Heap) (bo br : Nat) (ros : List AV) : Prop where
 e : xo = .slice bo 0 (kk + 1) (kk + 1)
 g : h.get bo = .cells 1 (kk + 1) ros
 r : ros[kk]? = some (.slice br 0 S.length S.length)
 l : ros.length = kk + 1
 gr : h.get br = .cells 1 S.length (gn (rowS S kk))
theorem PS.kp {xo : AV} {h h' : Heap} {bo br : Nat} {ros : List AV} (t : PS S xo kk h bo br ros) (k : Kp (fun _ => False) h h') : PS S xo kk h' bo br ros:=⟨t.e,k.at t.g (by simp) id,t.r,t.l,k.at t.gr (by simp) id⟩
theorem LN.sx {h : Heap} {x : AV} (l : LN h x S) : (x = .nils ∧ S.length = 0) ∨ ∃ b,x = .slice b 0 S.length S.length:=by
 obtain ⟨rs,h1,_⟩:=l
 rcases h1 with h | ⟨b,e,_⟩
 ·exact .inl h
 ·exact .inr ⟨b,e⟩
end
structure A71 where
 x : AV
 nn : Nat
 S : List (List Nat)
def Pre71 (b : A71) (args : List AV) (h : Heap) : Prop:=(OkS b.S ∧ LN h b.x b.S ∧ b.nn ≤ 40) ∧ args = [b.x,G b.nn]
def Post71 (b : A71) (h : Heap) (v : AV) (own : List AObj) : Prop:=TB h (h.plus own) v (rowsS b.S b.nn)
noncomputable def T40 : CallF:=addK tbl T39 71 Pre71 Post71
theorem t40 : Sound Go.Proofs.Try.prog T40:=Sound.addK follows ok t39 (by decide) _ _
section
variable {S : List (List Nat)} {nn : Nat}
end
section
variable {a : AR} {m n : Int}
def AR.rcV (a : AR) (m n : Int) : AV:=if okC (a.steps m) n.toNat then .tup [G (a.cn m n.toNat),.bool true] else .tup [G 0,.bool false]
end
def Pre33 (b : ARmn) (args : List AV) (h : Heap) : Prop:=(OkR b.a h ∧ b.a.gd b.m b.n 0 = true) ∧ args = [b.a.v,G b.m,G b.n]
def Post33 (b : ARmn) (h : Heap) (v : AV) (own : List AObj) : Prop:=v = b.a.rcV b.m b.n ∧ own = []
noncomputable def T41 : CallF:=addK tbl T40 33 Pre33 Post33
theorem t41 : Sound Go.Proofs.Try.prog T41:=Sound.addK follows ok t40 (by decide) _ _
def nE (L : List Nat) (v i : Nat) : Bool:=decide (L.getD i 0 ≠ v)
theorem nE_all {L : List Nat} {v : Nat} : af (nE L v) 0 L.length = decide (v ∉ L):=by
 rw [Bool.eq_iff_iff,af_iff,decide_eq_true_eq]
 constructor
 ·intro a hv
  obtain ⟨i,hi,rfl⟩:=List.mem_iff_getElem.1 hv
  have:=a i (Nat.zero_le _) (by omega)
  unfold nE at this
  rw [decide_eq_true_eq,List.getD_eq_getElem?_getD,List.getElem?_eq_getElem hi] at this
  exact this rfl
 ·intro hv i _ hi
  unfold nE
  rw [decide_eq_true_eq,List.getD_eq_getElem?_getD,List.getElem?_eq_getElem (by omega)]
  intro e
  exact hv (e ▸ List.getElem_mem _)
section
variable {L : List Nat} {v : Nat}
theorem c93_l (J : CallF) {H : Heap} {b w : Nat} (g : H.get b = .cells 1 w (gn L)) (hn : L.length ≤ 1000000) :
  (af (nE L v) 0 L.length = true → Tr tbl J c93_l0 (fun s h => h = H ∧ s.get [] = .slice b 0 L.length w ∧ s.get [false] = G v ∧ s.get [false,false,false] = G L.length ∧ s.get [true,false,false] = G ((0 : Nat) : Int)) (.exit 0) (fun s h => True)) ∧
  (af (nE L v) 0 L.length = false → Tr tbl J c93_l0 (fun s h => h = H ∧ s.get [] = .slice b 0 L.length w ∧ s.get [false] = G v ∧ s.get [false,false,false] = G L.length ∧ s.get [true,false,false] = G ((0 : Nat) : Int)) .ret (fun s h => ∃ z : Nat,s.get [true,false] = G z)):=by
 have lg:=gn_len L
 have key : ∀ i,i < L.length → Tr tbl J (.trim [[],[false],[false,false,false],[true,false,false]] c93_b0) (fun s h => h = H ∧ s.get [] = .slice b 0 L.length w ∧ s.get [false] = G v ∧ s.get [false,false,false] = G L.length ∧ s.get [true,false,false] = G i) (if nE L v i then .normal else .ret)
   (if nE L v i then (fun s h => h = H ∧ s.get [] = .slice b 0 L.length w ∧ s.get [false] = G v ∧ s.get [false,false,false] = G L.length ∧ s.get [true,false,false] = G ((i + 1 : Nat) : Int)) else (fun s h => ∃ z : Nat,s.get [true,false] = G z)):=fun i hi => by
  have e1:=gn_at hi
  have e1':=getI e1
  unfold nE
  generalize L.getD i 0 = x at *
  generalize L.length = n at *
  generalize gn L = cs at *
  by_cases c : x = v
  ·subst c
   rw [if_neg (by simp),if_neg (by simp)]
   refine Tr.w fun s1 H1 hp _ kR => W.trim ?_
   obtain ⟨rfl,q⟩:=hp
   refine zCh ?_
   simp (disch:=first|omega|exact zE rfl|exact zO|exact zL rfl) [c93_o2,zG,q]
   refine zCh ?_
   simp (disch:=first|omega|exact zE rfl|exact zO|exact zL rfl) [zG,q]
   refine W.seq (W.block ?_)
   refine zCh ?_
   simp (disch:=first|omega|exact zE rfl|exact zO|exact zL rfl) [c93_o3,zG,q]
   refine zCh ?_
   simp (disch:=first|omega|exact zE rfl|exact zO|exact zL rfl) [c93_o4,zG,q,g,e1,e1',lg]
   refine W.chunk ?_
   simp (disch:=first|omega|exact zE rfl|exact zO|exact zL rfl) [c93_o5,zG,q]
   exact kR _ _ ⟨i,by simp [T.get,q]⟩
  ·rw [if_pos (by simpa using c),if_pos (by simpa using c)]
   have c' : ¬ (v : Int) = x:=by omega
   refine Tr.w fun s1 H1 hp _ kR => W.trim ?_
   obtain ⟨rfl,q⟩:=hp
   refine zCh ?_
   simp (disch:=first|omega|exact zE rfl|exact zO|exact zL rfl) [c93_o2,zG,q]
   refine zCh ?_
   simp (disch:=first|omega|exact zE rfl|exact zO|exact zL rfl) [zG,q]
   refine W.seq (W.block ?_)
   refine zCh ?_
   simp (disch:=first|omega|exact zE rfl|exact zO|exact zL rfl) [c93_o3,zG,q]
   refine zCh ?_
   simp (disch:=first|omega|exact zE rfl|exact zO|exact zL rfl) [c93_o4,zG,q,g,e1,e1',lg,c']
   refine W.chunk ?_
   simp (disch:=first|omega|exact zE rfl|exact zO|exact zL rfl) [c93_o5,zG,q]
   refine W.chunk ?_
   simp (disch:=first|omega|exact zE rfl|exact zO|exact zL rfl) [c93_o6,zG,q]
   exact kR _ _ (by simp [T.get,q])
 have fin : Tr tbl J (.trim [[],[false],[false,false,false],[true,false,false]] c93_b0) (fun s h => h = H ∧ s.get [] = .slice b 0 L.length w ∧ s.get [false] = G v ∧ s.get [false,false,false] = G L.length ∧ s.get [true,false,false] = G L.length) (.exit 0) (fun s h => True):=by
  generalize L.length = n at *
  refine Tr.w fun s1 H1 hp _ kR => W.trim ?_
  obtain ⟨rfl,q⟩:=hp
  refine zCh ?_
  simp (disch:=first|omega|exact zE rfl|exact zO|exact zL rfl) [c93_o2,zG,q]
  refine zCh ?_
  simp (disch:=first|omega|exact zE rfl|exact zO|exact zL rfl) [zG,q]
  exact kR _ _ trivial
 exact ⟨Tr.allT (P:=fun i => (fun s h => h = H ∧ s.get [] = .slice b 0 L.length w ∧ s.get [false] = G v ∧ s.get [false,false,false] = G L.length ∧ s.get [true,false,false] = G i)) L.length (fun i hi hp => by have:=key i hi; rw [if_pos hp,if_pos hp] at this; exact this) fin (by simp) _ 0 (by omega),
  Tr.allF (P:=fun i => (fun s h => h = H ∧ s.get [] = .slice b 0 L.length w ∧ s.get [false] = G v ∧ s.get [false,false,false] = G L.length ∧ s.get [true,false,false] = G i)) L.length (fun i hi hp => by have:=key i hi; rw [if_pos hp,if_pos hp] at this; exact this) (fun i hi hp => by have:=key i hi; rw [if_neg (by rw [hp]; simp),if_neg (by rw [hp]; simp)] at this; exact this) (by simp) _ 0 (by omega)⟩
theorem c93_ok (J : CallF) (hJ : ∀ a h,J 93 a h = none) (h : Heap) {x : AV} (rv : RV h x (gn L)) (hn : L.length ≤ 1000000) : ∃ z own,CallsTo tbl J 93 [x,G v] h (z,own,false) ∧ (∃ k : Int,z = G k ∧ (decide (0 ≤ k) = decide (v ∈ L))) ∧ own = []:=by
 refine Tr.fny (Good:=fun z own => (∃ k : Int,z = G k ∧ (decide (0 ≤ k) = decide (v ∈ L))) ∧ own = []) (cf:=c93) (e:=.ret) (s:=T.set (T.set .leaf [] x) [false] (G v)) (by decide) rfl (hJ _ _) rfl rfl (by simp) ?_
 refine Tr.post (Q:=fun s h => ∃ k : Int,s.get [true,false] = G k ∧ decide (0 ≤ k) = decide (v ∈ L)) (fun s h' q => by
  obtain ⟨k,e,q2⟩:=q
  exact ⟨[G k],by simp [c93,evRess,evRes,e],⟨k,rfl,q2⟩,rfl⟩) ?_
 rcases rv.frame with ⟨rfl,e⟩ | ⟨b,w,rfl,g⟩
 ·have : L = []:=by simpa [gn] using e
  subst this
  have l0 : Tr tbl J c93_l0 (fun s h' => h' = frameOf h ∧ s.get [] = .nils ∧ s.get [false] = G v ∧ s.get [false,false,false] = G 0 ∧ s.get [true,false,false] = G 0) (.exit 0) (fun s h => True):=by
   refine Tr.out ?_ (by simp)
   refine Tr.w fun s1 H1 hp _ kR => W.trim ?_
   obtain ⟨rfl,q⟩:=hp
   refine zCh ?_
   simp (disch:=first|omega|exact zE rfl|exact zO|exact zL rfl) [c93_o2,zG,q]
   refine zCh ?_
   simp (disch:=first|omega|exact zE rfl|exact zO|exact zL rfl) [zG,q]
   exact kR _ _ trivial
  refine Tr.w fun s1 H1 hp _ kR => ?_
  obtain ⟨rfl,rfl⟩:=hp
  have q : True:=trivial
  refine zCh ?_
  simp (disch:=first|omega|exact zE rfl|exact zO|exact zL rfl) [c93_o0,zG,q]
  refine W.assoc ?_
  refine zCh ?_
  simp (disch:=first|omega|exact zE rfl|exact zO|exact zL rfl) [c93_o1,zG,q]
  refine W.seq (W.block ?_)
  refine W.use (l0) (by simp (disch:=first|omega|exact zE rfl|exact zO|exact zL rfl) [zG,q]) fun s1 H1 hp => ?_
  try simp only [zW,if_true]
  refine zCh ?_
  simp (disch:=first|omega|exact zE rfl|exact zO|exact zL rfl) [c93_o7,zG,q]
  refine W.ret ?_
  try simp only [zW,if_true]
  exact kR _ _ ⟨-1,by simp [T.get],by simp⟩
 ·rw [gn_len]
  have l0:=c93_l (v:=v) J g hn
  rw [nE_all] at l0
  clear g rv
  generalize L.length = n at *
  by_cases c : v ∈ L
  ·have l0:=l0.2 (by simp [c])
   refine Tr.w fun s1 H1 hp _ kR => ?_
   obtain ⟨rfl,rfl⟩:=hp
   have q : True:=trivial
   refine zCh ?_
   simp (disch:=first|omega|exact zE rfl|exact zO|exact zL rfl) [c93_o0,zG,q]
   refine W.assoc ?_
   refine zCh ?_
   simp (disch:=first|omega|exact zE rfl|exact zO|exact zL rfl) [c93_o1,zG,q]
   refine W.seq (W.block ?_)
   refine W.use (l0) (by simp (disch:=first|omega|exact zE rfl|exact zO|exact zL rfl) [zG,q]) fun s1 H1 hp => ?_
   try simp only [zW,if_true]
   obtain ⟨z,e⟩:=hp
   exact kR _ _ ⟨z,e,by simp [c]⟩
  ·have l0:=l0.1 (by simp [c])
   refine Tr.w fun s1 H1 hp _ kR => ?_
   obtain ⟨rfl,rfl⟩:=hp
   have q : True:=trivial
   refine zCh ?_
   simp (disch:=first|omega|exact zE rfl|exact zO|exact zL rfl) [c93_o0,zG,q]
   refine W.assoc ?_
   refine zCh ?_
   simp (disch:=first|omega|exact zE rfl|exact zO|exact zL rfl) [c93_o1,zG,q]
   refine W.seq (W.block ?_)
   refine W.use (l0) (by simp (disch:=first|omega|exact zE rfl|exact zO|exact zL rfl) [zG,q]) fun s1 H1 hp => ?_
   try simp only [zW,if_true]
   refine zCh ?_
   simp (disch:=first|omega|exact zE rfl|exact zO|exact zL rfl) [c93_o7,zG,q]
   refine W.ret ?_
   try simp only [zW,if_true]
   exact kR _ _ ⟨-1,by simp [T.get],by simp [c]⟩
theorem c70_ok (J : CallF) (k93 : ∀ (h : Heap) (x : AV) (v : Nat) (L : List Nat),RV h x (gn L) → L.length ≤ 1000000 → ∃ k : Int,J 93 [x,G v] h = some (G k,[],false) ∧ decide (0 ≤ k) = decide (v ∈ L)) (hJ : ∀ a h,J 70 a h = none) (h : Heap) {x : AV} (rv : RV h x (gn L)) (hn : L.length ≤ 1000000) : CallsTo tbl J 70 [x,G v] h (.bool (decide (v ∈ L)),[],false):=by
 refine Tr.fnv (cf:=c70) (e:=.ret) (s:=T.set (T.set .leaf [] x) [false] (G v)) (by decide) rfl (hJ _ _) rfl rfl rfl (by simp) ?_
 refine Tr.post (Q:=(fun s h => s.get [true,false] = .bool (decide (v ∈ L)))) (fun s h q => by simp [c70,q]) ?_
 obtain ⟨k,e,hk⟩:=k93 (frameOf h) x v L rv.frame hn
 rw [← hk]
 clear hk
 refine Tr.w fun s1 H1 hp _ kR => ?_
 obtain ⟨rfl,rfl⟩:=hp
 have q : True:=trivial
 by_cases c : 0 ≤ k
 ·refine zCh ?_
  simp (disch:=first|omega|exact zE rfl|exact zO|exact zL rfl) [c70_o0,zG,q]
  refine zCh ?_
  simp (disch:=first|omega|exact zE rfl|exact zO|exact zL rfl) [c70_o1,zG,q,e,c]
  refine W.ret ?_
  try simp only [zW,if_true]
  exact kR _ _ (by simp [T.get,c])
 ·refine zCh ?_
  simp (disch:=first|omega|exact zE rfl|exact zO|exact zL rfl) [c70_o0,zG,q]
  refine zCh ?_
  simp (disch:=first|omega|exact zE rfl|exact zO|exact zL rfl) [c70_o1,zG,q,e,c]
  refine W.ret ?_
  try simp only [zW,if_true]
  exact kR _ _ (by simp [T.get,c])
end
def Pre93 (b : AV × Nat × List Nat) (args : List AV) (h : Heap) : Prop:=(RV h b.1 (gn b.2.2) ∧ b.2.2.length ≤ 1000000) ∧ args = [b.1,G b.2.1]
def Post93 (b : AV × Nat × List Nat) (h : Heap) (v : AV) (own : List AObj) : Prop:=(∃ k : Int,v = G k ∧ (decide (0 ≤ k) = decide (b.2.1 ∈ b.2.2))) ∧ own = []
noncomputable def T42 : CallF:=addK tbl T41 93 Pre93 Post93
theorem t42 : Sound Go.Proofs.Try.prog T42:=Sound.addK follows ok t41 (by decide) _ _
theorem k93 : ∀ (h : Heap) (x : AV) (v : Nat) (L : List Nat),RV h x (gn L) → L.length ≤ 1000000 → ∃ k : Int,T42 93 [x,G v] h = some (G k,[],false) ∧ decide (0 ≤ k) = decide (v ∈ L):=fun h x v L h1 h2 => by
 obtain ⟨z,own,e,⟨k,rfl,hk⟩,rfl⟩:=addK_some (Pre:=Pre93) (Post:=Post93) (fun b args h hp => by
  obtain ⟨⟨h1,h2⟩,rfl⟩:=hp
  exact c93_ok T41 (fun _ _ => by simp (disch:=decide) only [T1,T2,T3,T4,T5,T6,T7,T8,T9,T10,T11,T12,T13,T14,T15,T16,T17,T18,T19,T20,T21,T22,T23,T24,T25,T26,T27,T28,T29,T30,T31,T32,T33,T34,T35,T36,T37,T38,T39,T40,T41,addI_ne,addX_ne,addV_ne,addK_ne]; rfl) h h1 h2) (x,v,L) _ h ⟨⟨h1,h2⟩,rfl⟩
 exact ⟨k,e,hk⟩
def Post70 (b : AV × Nat × List Nat) (h : Heap) (v : AV) (own : List AObj) : Prop:=v = .bool (decide (b.2.1 ∈ b.2.2)) ∧ own = []
noncomputable def T43 : CallF:=addK tbl T42 70 Pre93 Post70
theorem t43 : Sound Go.Proofs.Try.prog T43:=Sound.addK follows ok t42 (by decide) _ _
abbrev K70 (J : CallF) : Prop:=∀ (h : Heap) (x : AV) (v : Nat) (L : List Nat),RV h x (gn L) → L.length ≤ 1000000 → J 70 [x,G v] h = some (.bool (decide (v ∈ L)),[],false)
theorem k70 : K70 T43:=fun h x v L h1 h2 => by
 obtain ⟨z,own,e,rfl,rfl⟩:=addK_some (Pre:=Pre93) (Post:=Post70) (fun b args h hp => by
  obtain ⟨⟨h1,h2⟩,rfl⟩:=hp
  exact ⟨_,_,c70_ok T42 k93 (fun _ _ => by simp (disch:=decide) only [T1,T2,T3,T4,T5,T6,T7,T8,T9,T10,T11,T12,T13,T14,T15,T16,T17,T18,T19,T20,T21,T22,T23,T24,T25,T26,T27,T28,T29,T30,T31,T32,T33,T34,T35,T36,T37,T38,T39,T40,T41,T42,addI_ne,addX_ne,addV_ne,addK_ne]; rfl) h h1 h2,rfl,rfl⟩) (x,v,L) _ h ⟨⟨h1,h2⟩,rfl⟩
 exact e
def pE (S : List (List Nat)) (g : Nat → Nat) (i j : Nat) : Nat:=((List.range i).map fun i' => ((S.getD i' []).count j) * g i').sum
def ev (S : List (List Nat)) (f : Nat) : Nat → Nat → Nat
 | 0,j => if j = f then 1 else 0
 | k + 1,j => pE S (ev S f k) S.length j
def pT (S : List (List Nat)) (g : Nat → Nat) (i t j : Nat) : Nat:=pE S g i j + (((S.getD i []).take t).count j) * g i
def qE (S : List (List Nat)) (g : Nat → Nat) (i t : Nat) : Bool:=decide (pT S g i (t + 1) ((S.getD i []).getD t 0) ≤ 1152921504606846976)
def rE (S : List (List Nat)) (g : Nat → Nat) (i : Nat) : Bool:=decide (g i = 0) || af (qE S g i) 0 (S.getD i []).length
def vE (S : List (List Nat)) (f k : Nat) : List Nat:=lN (ev S f k) S.length
section
variable {S : List (List Nat)} {p w26 w27 : Nat}
end
section
variable {S : List (List Nat)} {p w26 w27 : Nat}
def okE (S : List (List Nat)) (f nn : Nat) : Bool:=af (fun k => decide ((vE S f (k + 1)).sum ≤ 1152921504606846976)) 0 (nn - 1)
end
structure A75 where
 p : Nat
 f : Nat
 N : Nat
 S : List (List Nat)
def Ok75 (b : A75) (h : Heap) : Prop:=OkS b.S ∧ LF h b.p b.S ∧ b.f < b.S.length ∧ b.N + 1 ≤ 40
def Pre75 (b : A75) (args : List AV) (h : Heap) : Prop:=Ok75 b h ∧ args = [.ptr b.p 0 3,G b.f,G (b.N + 1 : Nat)]
def Post75 (b : A75) (h : Heap) (v : AV) (own : List AObj) : Prop:=(okE b.S b.f (b.N + 1) = true → ∃ x,v = .tup [x,.bool true] ∧ RV (h.plus own) x (gn (vE b.S b.f b.N))) ∧ (okE b.S b.f (b.N + 1) = false → v = .tup [.nils,.bool false] ∧ own = [])
noncomputable def T44 : CallF:=addK tbl T43 75 Pre75 Post75
theorem t44 : Sound Go.Proofs.Try.prog T44:=Sound.addK follows ok t43 (by decide) _ _
def rT (S : List (List Nat)) (N f i : Nat) : Nat:=if f ∈ S.getD i [] then ev S f N i else 0
def rP (S : List (List Nat)) (N f i : Nat) : Nat:=((List.range i).map (rT S N f)).sum
def rA (S : List (List Nat)) (N f : Nat) : Nat:=((List.range f).map fun f' => rP S N f' S.length).sum
def gE (S : List (List Nat)) (N f : Nat) : Bool:=okE S f (N + 1) && decide (rA S N (f + 1) ≤ 1152921504606846976)
def okR (S : List (List Nat)) (N : Nat) : Bool:=af (gE S N) 0 S.length
section
variable {S : List (List Nat)} {p N : Nat}
end
def AR.rn (a : AR) (m : Int) (n : Nat) : Nat:=rA (a.steps m) (n - 1) (a.steps m).length
def AR.okr (a : AR) (m : Int) (n : Nat) : Bool:=okR (a.steps m) (n - 1)
def AR.rngV (a : AR) (m n : Int) : AV:=if a.gd m n 1 then (if a.okr m n.toNat then .tup [G (a.rn m n.toNat),G 0] else .tup [G 0,G 5]) else .tup [G 0,G 2]
section
variable {a : AR} {m n : Int}
end
def Post41 (b : ARmn) (h : Heap) (v : AV) (own : List AObj) : Prop:=v = b.a.rngV b.m b.n ∧ own = []
noncomputable def T45 : CallF:=addK tbl T44 41 PreMn Post41
theorem t45 : Sound Go.Proofs.Try.prog T45:=Sound.addK follows ok t44 (by decide) _ _
def capL (bM bL bF : Nat) : List AV:=[.ptr bM 0 1,.ptr bL 0 1,.ptr bF 0 1]
structure CM (K : Heap) (S : List (List Nat)) (p bM bm bL bF : Nat) : Prop where
 gM : K.get bM = .cells 0 1 [.map bm]
 gL : K.get bL = .cells 0 1 [.ptr p 0 3]
 gF : K.get bF = .cells 0 1 [.func 73 (capL bM bL bF)]
 lf : LF K p S
 hN : K.N ≤ bm
def KN (S : List (List Nat)) (E : List (Nat × Int)) : Prop:=∀ c z,fm c E = some z → z ≠ 0 → ∃ m : Nat,z = m ∧ LG S c m
def IZ (S : List (List Nat)) (E : List (Nat × Int)) (v : Nat) : Prop:=(∀ c,fm c E = some 0 → ∃ k,Rw S (k + 1) c v) ∧ KN S E
def PE (S : List (List Nat)) (E E' : List (Nat × Int)) : Prop:=(∀ c,fm c E' = some 0 ↔ fm c E = some 0) ∧ KN S E' ∧ ∀ c,fm c E ≠ none → fm c E' ≠ none
section
variable {S : List (List Nat)} {p bM bm bL bF : Nat}
theorem LF.kpm {h h' : Heap} {es : List (AV × AV)} (l : LF h p S) (g : h.get bm = .map es) (k : Kp (fun i => i = bm) h h') : LF h' p S:=by
 have nn : ∀ {b s n cs},h.get b = .cells s n cs → ¬ b = bm:=fun e q => by rw [q,g] at e; cases e
 obtain ⟨x,mb,nb,rs,h1,h2,h3,h4⟩:=l
 refine ⟨x,mb,nb,rs,k.at h1 (by simp) (nn h1),h2,k.at h3 (by simp) (nn h3),fun i hi => ?_⟩
 obtain ⟨y,e1,e2⟩:=h4 i hi
 refine ⟨y,e1,e2.kp k fun b hb => ?_⟩
 rcases e2 with ⟨rfl,_⟩ | ⟨b',v,rfl,g'⟩
 ·cases hb
 ·cases hb; exact nn g'
theorem CM.kp {K K' : Heap} {es : List (AV × AV)} (t : CM K S p bM bm bL bF) (g : K.get bm = .map es) (k : Kp (fun i => i = bm) K K') : CM K' S p bM bm bL bF:=by
 have nn : ∀ {b s n cs},K.get b = .cells s n cs → ¬ b = bm:=fun e q => by rw [q,g] at e; cases e
 exact ⟨k.at t.gM (by simp) (nn t.gM),k.at t.gL (by simp) (nn t.gL),k.at t.gF (by simp) (nn t.gF),t.lf.kpm g k,by rw [k.N]; exact t.hN⟩
theorem PE.refl {E : List (Nat × Int)} (k : KN S E) : PE S E E:=⟨fun _ => Iff.rfl,k,fun _ => id⟩
theorem PE.trans {A B C : List (Nat × Int)} (x : PE S A B) (y : PE S B C) : PE S A C:=⟨fun c => (y.1 c).trans (x.1 c),y.2.1,fun c h => y.2.2 c (x.2.2 c h)⟩
theorem IZ.mark {E : List (Nat × Int)} {v : Nat} (i : IZ S E v) : KN S (pm v 0 E) ∧ ∀ c,c ∈ S.getD v [] → ∀ E',PE S (pm v 0 E) E' → IZ S E' c:=by
 have k0 : KN S (pm v 0 E):=fun c z h hz => by
  rw [fm_pm] at h
  by_cases e : c = v
  ·rw [if_pos e] at h; cases h; exact absurd rfl hz
  ·rw [if_neg e] at h; exact i.2 c z h hz
 refine ⟨k0,fun c hc E' pe => ⟨fun x hx => ?_,pe.2.1⟩⟩
 have hx:=(pe.1 x).1 hx
 rw [fm_pm] at hx
 by_cases e : x = v
 ·rw [e]; exact ⟨0,Rw.one hc⟩
 ·rw [if_neg e] at hx
  obtain ⟨k,w⟩:=i.1 x hx
  exact ⟨k + 1,w.snoc hc⟩
theorem PE.done {E E' : List (Nat × Int)} {v m : Nat} (hv : fm v E = none) (pe : PE S (pm v 0 E) E') (l : LG S v (m + 1)) : PE S E (pm v (1 + (m : Int)) E'):=by
 refine ⟨fun c => ?_,fun c z h hz => ?_,fun c h => ?_⟩
 ·rw [fm_pm]
  by_cases e : c = v
  ·rw [if_pos e,e,hv]
   constructor
   ·intro h
    have:=Option.some.inj h
    omega
   ·intro h; cases h
  ·rw [if_neg e,pe.1 c,fm_pm,if_neg e]
 ·rw [fm_pm] at h
  by_cases e : c = v
  ·rw [if_pos e] at h
   cases h
   rw [e]
   exact ⟨m + 1,by omega,l⟩
  ·rw [if_neg e] at h
   exact pe.2.1 c z h hz
 ·rw [fm_pm]
  by_cases e : c = v
  ·rw [if_pos e]; simp
  ·rw [if_neg e]
   exact pe.2.2 c (by rw [fm_pm,if_neg e]; exact h)
end
section
variable {S : List (List Nat)} {p bM bm bL bF : Nat}
theorem LG.ex {i : Nat} : ∀ {N : Nat},al S N i = false → ∃ m,LG S i m
 | 0,h => by cases h
 | N + 1,h => by
  cases c : al S N i
  ·exact LG.ex c
  ·refine ⟨N + 1,fun k => ⟨fun hk => ?_,fun hk => ?_⟩⟩
   ·apply Decidable.byContradiction
    intro hn
    have:=al_le (k:=N + 1) (d:=k - (N + 1)) (by rw [show N + 1 + (k - (N + 1)) = k by omega]; exact hk)
    rw [h] at this; cases this
   ·exact al_le (k:=k) (d:=N - k) (by rw [show k + (N - k) = N by omega]; exact c)
end
def okA (S : List (List Nat)) (N : Nat) : Bool:=af (fun f => okE S f (N + 1)) 0 S.length
theorem stL_mem {W : List (List Int)} {R : List (List Nat)} {i f : Nat} (hi : i < R.length) (hf : f < R.length) : decide (f ∈ (stL W R).getD i []) = blw W (R.getD i []) (R.getD f []):=by
 have : (stL W R).getD i [] = nxL W R (R.getD i []):=by
  unfold stL
  rw [List.getD_eq_getElem?_getD,List.getElem?_map,List.getElem?_eq_getElem hi,List.getD_eq_getElem?_getD,List.getElem?_eq_getElem hi]; rfl
 rw [this]
 unfold nxL
 cases hb : blw W (R.getD i []) (R.getD f [])
 ·exact decide_eq_false fun h => by
   have:=(List.mem_filter.1 h).2
   rw [hb] at this; cases this
 ·exact decide_eq_true (List.mem_filter.2 ⟨List.mem_range.2 hf,hb⟩)
section
variable {a : AG} {m N p : Nat} {R : List (List Nat)}
end
def AR.oka (a : AR) (m : Int) (n : Nat) : Bool:=okA (a.steps m) (n - 1)
def AR.rrV (a : AR) (m n : Int) : AV:=if a.oka m n.toNat then .tup [G (sat (a.rn m n.toNat)),.bool (decide (sat (a.rn m n.toNat) ≤ 1152921504606846976))] else .tup [G 0,.bool false]
section
variable {a : AR} {m n : Int}
end
def Pre42 (b : ARmn) (args : List AV) (h : Heap) : Prop:=(OkR b.a h ∧ b.a.gd b.m b.n 1 = true) ∧ args = [b.a.v,G b.m,G b.n]
def Post42 (b : ARmn) (h : Heap) (v : AV) (own : List AObj) : Prop:=v = b.a.rrV b.m b.n ∧ own = []
noncomputable def T46 : CallF:=addK tbl T45 42 Pre42 Post42
theorem t46 : Sound Go.Proofs.Try.prog T46:=Sound.addK follows ok t45 (by decide) _ _
theorem ws_ss (R : List (List Nat)) : wsL R = ss (R.map stW):=by simp [wsL]
theorem TB.lt' {H0 h h' : Heap} {x : AV} {N : List (List Int)} (t : TB H0 h x (N.map gs)) (k : Kp (fun _ => False) h h') : LT h' x N:=t.lt.kp k
section
variable {nq m : Int} {X Y : List (List Int)}
end
end Go.Proofs.Ytljgfdamdcikgaa.Ev
