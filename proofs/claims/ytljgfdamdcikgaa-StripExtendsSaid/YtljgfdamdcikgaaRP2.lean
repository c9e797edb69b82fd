/-
 Of the functions that this law reaches,part 2: what they answer. No condition.
-/
import Derived.Test.YtljgfdamdcikgaaRP1
import Derived.Test.YtljgfdamdcikgaaEvW
import Derived.Test.YtljgfdamdcikgaaEvAny
set_option linter.unusedVariables false
set_option linter.unusedSimpArgs false
namespace Go.Proofs.Ytljgfdamdcikgaa.Ev
open Go Go.AEv
attribute [local simp] evFunc initS evOps_c evTrim_c evSkip_c evExit_c evRet_c evSeq_c evCond_c evBlock_c evDraw_c runOps_n runOps_c exec_n exec_g pure1_c act AOpd.ev T.get T.set T.put evBin evUn forceT_eq forceV_eq forceL_eq evRess evRes one keep runFP_n runFP_c app_none AV.flats AV.flat came_some List.getElem?_cons_zero List.getElem?_cons_succ beqT wrapI idxI tdivI tmodI decT decF ibT ibF inT inF evScope_c if_pos if_neg Cm_some thenW_n thenW_e thenW_r blkW_n blkW_e blkW_r goI kn putAt AV.cells fillA loadA takeA mk Eff.isAll Eff.isNone Eff.commutes Eff.spares okPair apart eqAgg fits LK.fits allEq aveq eqk mmA
theorem ba_get {c : List UInt8} {i : Nat} {u : UInt8} (h : c[i]? = some u) : (⟨c.toArray⟩ : ByteArray).get! i = u:=by
 show c.toArray[i]! = u
 simp [Array.getElem!_eq_getD,h]
theorem dec_lo {c : List UInt8} {pos : Nat} {u : UInt8} (h : c[pos]? = some u) (hu : u.toNat < 128) : Utf8.decode ⟨c.toArray⟩ pos = (u.toNat,1):=by
 unfold Utf8.decode
 simp only [Nat.add_zero,ba_get h]
 rw [if_pos hu]
theorem dec_hi {c : List UInt8} {pos : Nat} {u : UInt8} (h : c[pos]? = some u) (hu : 128 ≤ u.toNat) : 128 ≤ (Utf8.decode ⟨c.toArray⟩ pos).1 ∧ (Utf8.decode ⟨c.toArray⟩ pos).1 ≤ 1114111:=by
 unfold Utf8.decode
 simp only [Nat.add_zero,ba_get h]
 rw [if_neg (by omega)]
 have re : Utf8.runeError = 65533:=rfl
 have vd : ∀ r : Nat,Utf8.valid (r : Int) = true → r ≤ 1114111:=fun r hr => by
  unfold Utf8.valid at hr
  simp only [Bool.or_eq_true,Bool.and_eq_true,decide_eq_true_eq] at hr
  omega
 split
 ·split
  ·simp only
   omega
  ·simp only [re]; omega
 ·split
  ·split
   ·rename_i h1
    simp only [Bool.and_eq_true,decide_eq_true_eq] at h1
    have:=vd _ h1.2
    simp only
    omega
   ·simp only [re]; omega
  ·split
   ·split
    ·rename_i h1
     simp only [Bool.and_eq_true,decide_eq_true_eq] at h1
     have:=vd _ h1.2
     simp only
     omega
    ·simp only [re]; omega
   ·simp only [re]; omega
def goodB (q : Nat) (u : UInt8) : Bool:=decide (48 ≤ u.toNat ∧ u.toNat < 48 + q)
def goodS (q : Nat) (s : List UInt8) : Bool:=s.all (goodB q)
theorem inext0 (h : Heap) (c : List UInt8) (p p' : Nat) (b : Nat) (hb : h.size = b) : Eff.app (.inext b p') (h.plus [.iter c p]) = some (h.plus [.iter c p']):=by
 subst hb
 have hn : h.N ≤ h.size:=by unfold Heap.size; omega
 have e1 : (h.plus [.iter c p]).own[h.size - h.N]? = some (.iter c p):=by
  show (h.own ++ [.iter c p])[h.size - h.N]? = _
  rw [show h.size - h.N = h.own.length by unfold Heap.size; omega]
  simp
 simp only [Eff.app]
 rw [if_neg (by rw [plus_N]; omega),plus_N,e1]
 simp only [Heap.setOwn,forceL_eq,plus_N]
 congr 1
 unfold Heap.plus
 congr 1
 rw [show h.size - h.N = h.own.length by unfold Heap.size; omega]
 simp
def spec98 : SpecF:=fun args h => match args with
 | [.int .i32 c,.ptr b 0 3] => match h.get b with
  | .cells 0 3 [.int .i64 q,x,y] => if 0 ≤ c ∧ c ≤ 1114111 ∧ 0 ≤ q ∧ q ≤ 1000 then some (.bool (!decide (0 ≤ c - 48 ∧ c - 48 ≤ q - 1)),h.own,true) else none
  | _ => none
 | _ => none
theorem c98_ok (J : CallF) (k60 : K60 J) (hJ : ∀ a h,J 98 a h = none) (h : Heap) {b : Nat} {qq c : Int} {x y : AV} (gb : h.get b = .cells 0 3 [G qq,x,y]) (hc : 0 ≤ c ∧ c ≤ 1114111) (hq : 0 ≤ qq ∧ qq ≤ 1000) : CallsTo tbl J 98 [.int .i32 c,.ptr b 0 3] h (.bool (!decide (0 ≤ c - 48 ∧ c - 48 ≤ qq - 1)),h.own,true):=by
 refine Tr.sh (cf:=c98) (e:=.ret) (s:=T.set (T.set .leaf [] (.int .i32 c)) [false] (.ptr b 0 3)) (by decide) rfl (hJ _ _) rfl rfl (by simp) ?_
 have kk:=k60 (c - 48) 0 (qq - 1) h
 generalize decide (0 ≤ c - 48 ∧ c - 48 ≤ qq - 1) = z at *
 refine Tr.w fun s1 H1 hp R kR => ?_
 obtain ⟨rfl,rfl⟩:=hp
 have q : True:=trivial
 refine zCh ?_
 simp (disch:=first|omega|exact zE rfl|exact zO|exact zL rfl) [c98_o0,zG,q]
 refine zCh ?_
 simp (disch:=first|omega|exact zE rfl|exact zO|exact zL rfl) [c98_o1,zG,q,gb,kk,app_if,app_if']
 refine W.ret ?_
 try simp only [zW,if_true]
 exact kR _ _ ⟨⟨[.bool (!z)],by simp [T.get,c98,evRess,evRes],rfl⟩,rfl⟩
noncomputable def T60 : CallF:=addI T59 98 spec98
theorem k60_59 : K60 T59:=fun n lo hi h => by
 simp (disch:=decide) only [T1,T2,T3,T4,T5,T6,T7,T8,T9,T10,T11,T12,T13,T14,T15,T16,T17,T18,T19,T20,T21,T22,T23,T24,T25,T26,T27,T28,T29,T30,T31,T32,T33,T34,T35,T36,T37,T38,T39,T40,T41,T42,T43,T44,T45,T46,T47,T48,T49,T50,T51,T52,T53,T54,T55,T56,T57,T58,T59,addI_ne,addX_ne,addV_ne,addK_ne]
 exact k60 n lo hi h
theorem t60 : Sound Go.Proofs.Try.prog T60:=Sound.add follows ok t59 (by decide) (fun args h x e => by
 unfold spec98 at e
 split at e
 ·split at e
  ·rename_i g1
   split at e
   ·rename_i hn
    simp only [Option.some.injEq] at e; subst e
    exact c98_ok T59 k60_59 (fun _ _ => by simp (disch:=decide) only [T1,T2,T3,T4,T5,T6,T7,T8,T9,T10,T11,T12,T13,T14,T15,T16,T17,T18,T19,T20,T21,T22,T23,T24,T25,T26,T27,T28,T29,T30,T31,T32,T33,T34,T35,T36,T37,T38,T39,T40,T41,T42,T43,T44,T45,T46,T47,T48,T49,T50,T51,T52,T53,T54,T55,T56,T57,T58,T59,addI_ne,addX_ne,addV_ne,addK_ne]; rfl) h g1 ⟨hn.1,hn.2.1⟩ hn.2.2
   ·cases e
  ·cases e
 ·cases e)
abbrev K98 (J : CallF) : Prop:=∀ (h : Heap) (b : Nat) (q c : Int) (x y : AV),h.get b = .cells 0 3 [G q,x,y] → 0 ≤ c → c ≤ 1114111 → 0 ≤ q → q ≤ 1000 → J 98 [.int .i32 c,.ptr b 0 3] h = some (.bool (!decide (0 ≤ c - 48 ∧ c - 48 ≤ q - 1)),h.own,true)
theorem k98 : K98 T60:=fun h b q c x y g h1 h2 h3 h4 => by simp only [T60,addI,if_true,spec98,g]; rw [if_pos ⟨h1,h2,h3,h4⟩]
section
variable {b : Nat} {qq : Nat} {x y : AV} {c : List UInt8}
def ixS (qq : Nat) : List UInt8 → Nat → Int
 | [],_ => -1
 | u :: c,i => if goodB qq u then ixS qq c (i + 1) else i
theorem ixS_iff (qq : Nat) : ∀ (c : List UInt8) (i : Nat),(ixS qq c i = -1 ∨ 0 ≤ ixS qq c i) ∧ (decide (0 ≤ ixS qq c i) = !goodS qq c)
 | [],i => ⟨.inl rfl,rfl⟩
 | u :: c,i => by
  have ih:=ixS_iff qq c (i + 1)
  unfold ixS goodS
  rw [List.all_cons]
  cases h : goodB qq u
  ·rw [if_neg (by simp)]
   exact ⟨.inr (by omega),by simp⟩
  ·rw [if_pos rfl]
   exact ⟨ih.1,by rw [ih.2]; rfl⟩
set_option maxHeartbeats 1000000 in
theorem c112_l0_ok (J : CallF) (k98 : K98 J) {H0 : Heap} (gb : H0.get b = .cells 0 3 [G qq,x,y]) (q3 : qq ≤ 3) (hc : c.length ≤ 1000000) : ∀ (r : List UInt8) (i : Nat),c = c.take i ++ r → i + r.length = c.length →
  ∀ (s1 : T) (R : PQ),(s1.get [false] = .func 98 [.ptr b 0 3] ∧ s1.get [true] = .bool true ∧ s1.get [true,true,false] = .itr H0.size) → (ixS qq r i = -1 → ∀ s' h',True → R (.exit 0) s' h') → (ixS qq r i ≠ -1 → ∀ s' h',s'.get [true,true] = G (ixS qq r i) → R .ret s' h') → W tbl J c112_l0 s1 (H0.plus [.iter c i]) R:=by
 intro r
 induction r with
 | nil =>
  intro i e1 e2 s1 R q0 kA kB
  have kR:=kA rfl
  obtain rfl : i = c.length:=by simpa using e2
  have gI : (H0.plus [.iter c c.length]).get H0.size = .iter c c.length:=plus_at0 _ _ _ _ rfl
  have q:=q0
  clear kA kB e1 e2 gb q0
  generalize H0.plus [.iter c c.length] = H1 at *
  generalize hl : c.length = l at *
  refine W.loop (W.trim ?_)
  refine zCh ?_
  simp (disch:=first|omega|exact zE rfl|exact zO|exact zL rfl) [c112_o2,zG,q,gI,hl]
  refine zCh ?_
  simp (disch:=first|omega|exact zE rfl|exact zO|exact zL rfl) [zG,q]
  exact kR _ _ trivial
 | cons u r ih =>
  intro i e1 e2 s1 R q0 kA kB
  have hlt : i < c.length:=by simp at e2; omega
  have hu : c[i]? = some u:=by
   rw [e1,List.getElem?_append_right (by rw [List.length_take]; omega),List.length_take,Nat.min_eq_left (by omega),Nat.sub_self]; rfl
  have gI : (H0.plus [.iter c i]).get H0.size = .iter c i:=plus_at0 _ _ _ _ rfl
  have gbI : (H0.plus [.iter c i]).get b = .cells 0 3 [G qq,x,y]:=plus_keep _ gb (by simp)
  replace ih:=ih (i + 1) (by
   rw [List.take_add_one,hu]
   show c = c.take i ++ [u] ++ r
   rw [List.append_assoc]; exact e1) (by simp at e2; omega)
  have p1:=fun w => inext0 H0 c i (i + w) H0.size rfl
  have gb2 : ∀ w,(H0.plus [.iter c (i + w)]).get b = .cells 0 3 [G qq,x,y]:=fun w => plus_keep _ gb (by simp)
  have un : (ixS qq (u :: r) i) = if goodB qq u then ixS qq r (i + 1) else (i : Int):=rfl
  rw [un] at kA kB
  have q:=q0
  by_cases hhi : 128 ≤ u.toNat
  ·obtain ⟨d1,d2⟩:=dec_hi hu hhi
   have ng : goodB qq u = false:=by
    unfold goodB
    exact decide_eq_false (by omega)
   rw [if_neg (by rw [ng]; simp)] at kB
   have kR:=kB (by omega)
   obtain ⟨rn,w,hd⟩ : ∃ rn w,Utf8.decode ⟨c.toArray⟩ i = (rn,w):=⟨_,_,rfl⟩
   rw [hd] at d1 d2
   simp only at d1 d2
   have k:=k98 (H0.plus [.iter c (i + w)]) b qq rn x y (gb2 w) (by omega) (by omega) (by omega) (by omega)
   rw [decide_eq_false (by omega)] at k
   have p1:=p1 w
   have ow : (⟨(H0.plus [.iter c (i + w)]).lo,(H0.plus [.iter c (i + w)]).N,(H0.plus [.iter c (i + w)]).own⟩ : Heap) = H0.plus [.iter c (i + w)]:=rfl
   clear kA kB ih e1 e2 gb gb2 un q0 hu ng
   generalize H0.plus [.iter c (i + w)] = H2 at *
   generalize H0.plus [.iter c i] = H1 at *
   generalize hl : c.length = l at *
   refine W.loop (W.trim ?_)
   refine zCh ?_
   simp (disch:=first|omega|exact zE rfl|exact zO|exact zL rfl) [c112_o2,zG,q,gI,hl,hd,p1]
   refine zCh ?_
   simp (disch:=first|omega|exact zE rfl|exact zO|exact zL rfl) [zG,q]
   refine W.block ?_
   refine zCh ?_
   simp (disch:=first|omega|exact zE rfl|exact zO|exact zL rfl) [c112_o3,zG,q]
   refine zCh ?_
   simp (disch:=first|omega|exact zE rfl|exact zO|exact zL rfl) [c112_o4,zG,q,k,ow]
   refine W.chunk ?_
   simp (disch:=first|omega|exact zE rfl|exact zO|exact zL rfl) [c112_o5,zG,q]
   exact kR _ _ (by simp [T.get,q])
  ·have hd:=dec_lo hu (by omega)
   have k:=k98 (H0.plus [.iter c (i + 1)]) b qq u.toNat x y (gb2 1) (by omega) (by omega) (by omega) (by omega)
   have p1:=p1 1
   have ow : (⟨(H0.plus [.iter c (i + 1)]).lo,(H0.plus [.iter c (i + 1)]).N,(H0.plus [.iter c (i + 1)]).own⟩ : Heap) = H0.plus [.iter c (i + 1)]:=rfl
   have gd : goodB qq u = decide (48 ≤ u.toNat ∧ u.toNat < 48 + qq):=rfl
   by_cases hg : 48 ≤ u.toNat ∧ u.toNat < 48 + qq
   ·rw [decide_eq_true hg] at gd
    rw [if_pos gd] at kA kB
    rw [decide_eq_true (by omega)] at k
    replace ih:=fun s' h2 => ih s' R h2 kA kB
    have i1 : ((i + 1 : Nat) : Int) = (i : Int) + 1:=by omega
    clear kA kB e1 e2 gb gb2 un q0 hu gd
    generalize H0.plus [.iter c (i + 1)] = H2 at *
    generalize H0.plus [.iter c i] = H1 at *
    generalize hl : c.length = l at *
    generalize u.toNat = un at *
    refine W.loop (W.trim ?_)
    refine zCh ?_
    simp (disch:=first|omega|exact zE rfl|exact zO|exact zL rfl) [c112_o2,zG,q,gI,hl,hd,p1]
    refine zCh ?_
    simp (disch:=first|omega|exact zE rfl|exact zO|exact zL rfl) [zG,q]
    refine W.block ?_
    refine zCh ?_
    simp (disch:=first|omega|exact zE rfl|exact zO|exact zL rfl) [c112_o3,zG,q]
    refine zCh ?_
    simp (disch:=first|omega|exact zE rfl|exact zO|exact zL rfl) [c112_o4,zG,q,k,ow]
    refine W.chunk ?_
    simp (disch:=first|omega|exact zE rfl|exact zO|exact zL rfl) [c112_o5,zG,q]
    refine ih _ ?_
    simp [T.get,q]
   ·rw [decide_eq_false hg] at gd
    rw [if_neg (by rw [gd]; simp)] at kB
    have kR:=kB (by omega)
    rw [decide_eq_false (by omega)] at k
    clear kA kB ih e1 e2 gb gb2 un q0 hu gd
    generalize H0.plus [.iter c (i + 1)] = H2 at *
    generalize H0.plus [.iter c i] = H1 at *
    generalize hl : c.length = l at *
    generalize u.toNat = un at *
    refine W.loop (W.trim ?_)
    refine zCh ?_
    simp (disch:=first|omega|exact zE rfl|exact zO|exact zL rfl) [c112_o2,zG,q,gI,hl,hd,p1]
    refine zCh ?_
    simp (disch:=first|omega|exact zE rfl|exact zO|exact zL rfl) [zG,q]
    refine W.block ?_
    refine zCh ?_
    simp (disch:=first|omega|exact zE rfl|exact zO|exact zL rfl) [c112_o3,zG,q]
    refine zCh ?_
    simp (disch:=first|omega|exact zE rfl|exact zO|exact zL rfl) [c112_o4,zG,q,k,ow]
    refine W.chunk ?_
    simp (disch:=first|omega|exact zE rfl|exact zO|exact zL rfl) [c112_o5,zG,q]
    exact kR _ _ (by simp [T.get,q])
end
section
variable {b qq : Nat} {x y : AV} {c : List UInt8}
theorem c112_ok (J : CallF) (k98 : K98 J) (hJ : ∀ a h,J 112 a h = none) (h : Heap) (gb : h.get b = .cells 0 3 [G qq,x,y]) (q3 : qq ≤ 3) (hc : c.length ≤ 1000000) : CallsTo tbl J 112 [.str c,.func 98 [.ptr b 0 3],.bool true] h (G (ixS qq c 0),[],false):=by
 refine Tr.fnv (cf:=c112) (e:=.ret) (s:=T.set (T.set (T.set .leaf [] (.str c)) [false] (.func 98 [.ptr b 0 3])) [true] (.bool true)) (by decide) rfl (hJ _ _) rfl rfl rfl (by simp) ?_
 refine Tr.post (Q:=(fun s h => s.get [true,true] = G (ixS qq c 0))) (fun s h q => by simp [c112,q]) ?_
 have gF : (frameOf h).get b = .cells 0 3 [G qq,x,y]:=by
  unfold frameOf
  rw [get_mk_lt _ _ _ _ (get_lt gb (by simp))]; exact gb
 generalize frameOf h = H0 at *
 have lw:=c112_l0_ok J k98 gF q3 hc c 0 (by simp) (by simp)
 by_cases e : ixS qq c 0 = -1
 ·have l0 : Tr tbl J c112_l0 (fun s h => h = H0.plus [.iter c 0] ∧ s.get [false] = .func 98 [.ptr b 0 3] ∧ s.get [true] = .bool true ∧ s.get [true,true,false] = .itr H0.size) (.exit 0) (fun s h => True):=by
   refine Tr.w fun s1 H1 hp R kR => ?_
   obtain ⟨rfl,q⟩:=hp
   exact lw s1 R q (fun _ => kR) (fun e' => absurd e e')
  rw [e]
  clear lw gF gb
  refine Tr.w fun s1 H1 hp _ kR => ?_
  obtain ⟨rfl,rfl⟩:=hp
  have q : True:=trivial
  refine zCh ?_
  simp (disch:=first|omega|exact zE rfl|exact zO|exact zL rfl) [c112_o0,zG,q]
  refine W.assoc ?_
  refine zCh ?_
  simp (disch:=first|omega|exact zE rfl|exact zO|exact zL rfl) [c112_o1,zG,q]
  refine W.seq (W.block ?_)
  refine W.use (l0) (by simp (disch:=first|omega|exact zE rfl|exact zO|exact zL rfl) [zG,q]) fun s1 H1 hp => ?_
  obtain _:=hp
  try simp only [zW,if_true]
  refine zCh ?_
  simp (disch:=first|omega|exact zE rfl|exact zO|exact zL rfl) [c112_o6,zG,q]
  refine W.ret ?_
  try simp only [zW,if_true]
  exact kR _ _ (by simp [T.get])
 ·have l0 : Tr tbl J c112_l0 (fun s h => h = H0.plus [.iter c 0] ∧ s.get [false] = .func 98 [.ptr b 0 3] ∧ s.get [true] = .bool true ∧ s.get [true,true,false] = .itr H0.size) .ret (fun s h => s.get [true,true] = G (ixS qq c 0)):=by
   refine Tr.w fun s1 H1 hp R kR => ?_
   obtain ⟨rfl,q⟩:=hp
   exact lw s1 R q (fun e' => absurd e' e) (fun _ => kR)
  clear lw gF gb
  generalize ixS qq c 0 = z at *
  refine Tr.w fun s1 H1 hp _ kR => ?_
  obtain ⟨rfl,rfl⟩:=hp
  have q : True:=trivial
  refine zCh ?_
  simp (disch:=first|omega|exact zE rfl|exact zO|exact zL rfl) [c112_o0,zG,q]
  refine W.assoc ?_
  refine zCh ?_
  simp (disch:=first|omega|exact zE rfl|exact zO|exact zL rfl) [c112_o1,zG,q]
  refine W.seq (W.block ?_)
  refine W.use (l0) (by simp (disch:=first|omega|exact zE rfl|exact zO|exact zL rfl) [zG,q]) fun s1 H1 hp => ?_
  try simp only [zW,if_true]
  exact kR _ _ hp
theorem c108_ok (J : CallF) (hJ : ∀ a h,J 108 a h = none) (k112 : ∀ h : Heap,h.get b = .cells 0 3 [G qq,x,y] → J 112 [.str c,.func 98 [.ptr b 0 3],.bool true] h = some (G (ixS qq c 0),[],false)) (h : Heap) (gb : h.get b = .cells 0 3 [G qq,x,y]) : CallsTo tbl J 108 [.str c,.func 98 [.ptr b 0 3]] h (G (ixS qq c 0),[],false):=by
 refine Tr.fnv (cf:=c108) (e:=.ret) (s:=T.set (T.set .leaf [] (.str c)) [false] (.func 98 [.ptr b 0 3])) (by decide) rfl (hJ _ _) rfl rfl rfl (by simp) ?_
 refine Tr.post (Q:=(fun s h => s.get [true,false] = G (ixS qq c 0))) (fun s h q => by simp [c108,q]) ?_
 have gF : (frameOf h).get b = .cells 0 3 [G qq,x,y]:=by
  unfold frameOf
  rw [get_mk_lt _ _ _ _ (get_lt gb (by simp))]; exact gb
 generalize frameOf h = H0 at *
 have k:=k112 H0 gF
 clear k112 gF gb
 generalize ixS qq c 0 = z at *
 refine Tr.w fun s1 H1 hp _ kR => ?_
 obtain ⟨rfl,rfl⟩:=hp
 have q : True:=trivial
 refine zCh ?_
 simp (disch:=first|omega|exact zE rfl|exact zO|exact zL rfl) [c108_o0,zG,q]
 refine zCh ?_
 simp (disch:=first|omega|exact zE rfl|exact zO|exact zL rfl) [c108_o1,zG,q,k]
 refine W.ret ?_
 try simp only [zW,if_true]
 exact kR _ _ (by simp [T.get])
theorem c97_ok (J : CallF) (hJ : ∀ a h,J 97 a h = none) (k108 : ∀ h : Heap,h.get b = .cells 0 3 [G qq,x,y] → J 108 [.str c,.func 98 [.ptr b 0 3]] h = some (G (ixS qq c 0),[],false)) (h : Heap) (gb : h.get b = .cells 0 3 [G qq,x,y]) : CallsTo tbl J 97 [.str c,.func 98 [.ptr b 0 3]] h (.bool (!goodS qq c),[],false):=by
 refine Tr.fnv (cf:=c97) (e:=.ret) (s:=T.set (T.set .leaf [] (.str c)) [false] (.func 98 [.ptr b 0 3])) (by decide) rfl (hJ _ _) rfl rfl rfl (by simp) ?_
 refine Tr.post (Q:=(fun s h => s.get [true,false] = .bool (!goodS qq c))) (fun s h q => by simp [c97,q]) ?_
 have gF : (frameOf h).get b = .cells 0 3 [G qq,x,y]:=by
  unfold frameOf
  rw [get_mk_lt _ _ _ _ (get_lt gb (by simp))]; exact gb
 generalize frameOf h = H0 at *
 have k:=k108 H0 gF
 have e:=(ixS_iff qq c 0).2
 rw [← e]
 clear k108 gF gb e
 generalize ixS qq c 0 = z at *
 refine Tr.w fun s1 H1 hp _ kR => ?_
 obtain ⟨rfl,rfl⟩:=hp
 have q : True:=trivial
 refine zCh ?_
 simp (disch:=first|omega|exact zE rfl|exact zO|exact zL rfl) [c97_o0,zG,q]
 refine zCh ?_
 simp (disch:=first|omega|exact zE rfl|exact zO|exact zL rfl) [c97_o1,zG,q,k]
 refine W.ret ?_
 try simp only [zW,if_true]
 exact kR _ _ (by simp [T.get])
end
structure A112 where
 c : List UInt8
 b : Nat
 qq : Nat
 x : AV
 y : AV
def Ok112 (a : A112) (h : Heap) : Prop:=h.get a.b = .cells 0 3 [G a.qq,a.x,a.y] ∧ a.qq ≤ 3 ∧ a.c.length ≤ 1000000
def Pre112 (a : A112) (args : List AV) (h : Heap) : Prop:=Ok112 a h ∧ args = [.str a.c,.func 98 [.ptr a.b 0 3],.bool true]
def Post112 (a : A112) (h : Heap) (v : AV) (own : List AObj) : Prop:=v = G (ixS a.qq a.c 0) ∧ own = []
noncomputable def T61 : CallF:=addK tbl T60 112 Pre112 Post112
theorem t61 : Sound Go.Proofs.Try.prog T61:=Sound.addK follows ok t60 (by decide) _ _
theorem k112 (h : Heap) (a : A112) (o : Ok112 a h) : T61 112 [.str a.c,.func 98 [.ptr a.b 0 3],.bool true] h = some (G (ixS a.qq a.c 0),[],false):=by
 obtain ⟨v,own,e,rfl,rfl⟩:=addK_some (Pre:=Pre112) (Post:=Post112) (fun a args h hp => by
  obtain ⟨⟨h1,h2,h3⟩,rfl⟩:=hp
  exact ⟨_,_,c112_ok T60 k98 (fun _ _ => by simp (disch:=decide) only [T1,T2,T3,T4,T5,T6,T7,T8,T9,T10,T11,T12,T13,T14,T15,T16,T17,T18,T19,T20,T21,T22,T23,T24,T25,T26,T27,T28,T29,T30,T31,T32,T33,T34,T35,T36,T37,T38,T39,T40,T41,T42,T43,T44,T45,T46,T47,T48,T49,T50,T51,T52,T53,T54,T55,T56,T57,T58,T59,T60,addI_ne,addX_ne,addV_ne,addK_ne]; rfl) h h1 h2 h3,rfl,rfl⟩) a _ h ⟨o,rfl⟩
 exact e
def Pre108 (a : A112) (args : List AV) (h : Heap) : Prop:=Ok112 a h ∧ args = [.str a.c,.func 98 [.ptr a.b 0 3]]
noncomputable def T62 : CallF:=addK tbl T61 108 Pre108 Post112
theorem t62 : Sound Go.Proofs.Try.prog T62:=Sound.addK follows ok t61 (by decide) _ _
theorem k108 (h : Heap) (a : A112) (o : Ok112 a h) : T62 108 [.str a.c,.func 98 [.ptr a.b 0 3]] h = some (G (ixS a.qq a.c 0),[],false):=by
 obtain ⟨v,own,e,rfl,rfl⟩:=addK_some (Pre:=Pre108) (Post:=Post112) (fun a args h hp => by
  obtain ⟨⟨h1,h2,h3⟩,rfl⟩:=hp
  exact ⟨_,_,c108_ok T61 (fun _ _ => by simp (disch:=decide) only [T1,T2,T3,T4,T5,T6,T7,T8,T9,T10,T11,T12,T13,T14,T15,T16,T17,T18,T19,T20,T21,T22,T23,T24,T25,T26,T27,T28,T29,T30,T31,T32,T33,T34,T35,T36,T37,T38,T39,T40,T41,T42,T43,T44,T45,T46,T47,T48,T49,T50,T51,T52,T53,T54,T55,T56,T57,T58,T59,T60,T61,addI_ne,addX_ne,addV_ne,addK_ne]; rfl) (fun h g => k112 h ⟨a.c,a.b,a.qq,a.x,a.y⟩ ⟨g,h2,h3⟩) h h1,rfl,rfl⟩) a _ h ⟨o,rfl⟩
 exact e
def Post97 (a : A112) (h : Heap) (v : AV) (own : List AObj) : Prop:=v = .bool (!goodS a.qq a.c) ∧ own = []
noncomputable def T63 : CallF:=addK tbl T62 97 Pre108 Post97
theorem t63 : Sound Go.Proofs.Try.prog T63:=Sound.addK follows ok t62 (by decide) _ _
theorem k97 (h : Heap) (a : A112) (o : Ok112 a h) : T63 97 [.str a.c,.func 98 [.ptr a.b 0 3]] h = some (.bool (!goodS a.qq a.c),[],false):=by
 obtain ⟨v,own,e,rfl,rfl⟩:=addK_some (Pre:=Pre108) (Post:=Post97) (fun a args h hp => by
  obtain ⟨⟨h1,h2,h3⟩,rfl⟩:=hp
  exact ⟨_,_,c97_ok T62 (fun _ _ => by simp (disch:=decide) only [T1,T2,T3,T4,T5,T6,T7,T8,T9,T10,T11,T12,T13,T14,T15,T16,T17,T18,T19,T20,T21,T22,T23,T24,T25,T26,T27,T28,T29,T30,T31,T32,T33,T34,T35,T36,T37,T38,T39,T40,T41,T42,T43,T44,T45,T46,T47,T48,T49,T50,T51,T52,T53,T54,T55,T56,T57,T58,T59,T60,T61,T62,addI_ne,addX_ne,addV_ne,addK_ne]; rfl) (fun h g => k108 h ⟨a.c,a.b,a.qq,a.x,a.y⟩ ⟨g,h2,h3⟩) h h1,rfl,rfl⟩) a _ h ⟨o,rfl⟩
 exact e
section
open Classical in
noncomputable def specS (tbl : Nat → Option CFunc) (I : CallF) (f : Nat) : SpecF:=fun args h => if hx : ∃ v,CallsTo tbl I f args h (v,h.own,true) then some (Classical.choose hx,h.own,true) else none
theorem specS_at {tbl : Nat → Option CFunc} {I : CallF} {f : Nat} {args : List AV} {h : Heap} {v : AV} (c : CallsTo tbl I f args h (v,h.own,true)) : specS tbl I f args h = some (v,h.own,true):=by
 have hx : ∃ v,CallsTo tbl I f args h (v,h.own,true):=⟨v,c⟩
 unfold specS
 rw [dif_pos hx]
 have:=CallsTo.det (Classical.choose_spec hx) c
 rw [(Prod.mk.inj this).1]
theorem specS_ok {tbl : Nat → Option CFunc} {I : CallF} {f : Nat} (args : List AV) (h : Heap) (x : AV × List AObj × Bool) (e : specS tbl I f args h = some x) : CallsTo tbl I f args h x:=by
 unfold specS at e
 split at e
 ·rename_i hx
  simp only [Option.some.injEq] at e
  subst e
  exact Classical.choose_spec hx
 ·cases e
end
theorem c96_ok (J : CallF) (hJ : ∀ a h,J 96 a h = none) (k97 : ∀ (h : Heap) (a : A112),Ok112 a h → J 97 [.str a.c,.func 98 [.ptr a.b 0 3]] h = some (.bool (!goodS a.qq a.c),[],false)) (h : Heap) {su tu : List UInt8} {b3 b2 bs n v qq : Nat} {x y : AV} {cs : List AV}
  (g3 : h.get b3 = .cells 0 1 [.slice bs 0 n v]) (g2 : h.get b2 = .cells 0 3 [G qq,x,y]) (gs0 : h.get bs = .cells 1 v cs) (ht : cs[0]? = some (.str tu)) (hn : 0 < n) (q3 : qq ≤ 3) (l1 : su.length ≤ 1000000) (l2 : tu.length ≤ 1000000) :
  CallsTo tbl J 96 [.str su,.ptr b3 0 1,.ptr b2 0 3] h (.bool (decide (su.length ≠ tu.length) || !goodS qq su),h.own,true):=by
 refine Tr.sh (cf:=c96) (e:=.ret) (s:=T.set (T.set (T.set .leaf [] (.str su)) [false] (.ptr b3 0 1)) [true] (.ptr b2 0 3)) (by decide) rfl (hJ _ _) rfl rfl (by simp) ?_
 have kk:=k97 h ⟨su,b2,qq,x,y⟩ ⟨g2,q3,l1⟩
 simp only at kk
 have ht':=getI ht
 have lcs:=(List.getElem?_eq_some_iff.1 ht).1
 clear k97
 generalize goodS qq su = z at *
 refine Tr.w fun s1 H1 hp R kR => ?_
 obtain ⟨rfl,rfl⟩:=hp
 have q : True:=trivial
 by_cases e : su.length = tu.length
 ·rw [decide_eq_false (by simp [e])] at kR
  rw [Bool.false_or] at kR
  generalize hl : su.length = n1 at *
  generalize hl2 : tu.length = n2 at *
  subst e
  refine zCh ?_
  simp (disch:=first|omega|exact zE rfl|exact zO|exact zL rfl) [c96_o0,zG,q]
  refine zCh ?_
  simp (disch:=first|omega|exact zE rfl|exact zO|exact zL rfl) [c96_o1,zG,q,g3,gs0,ht,ht',hl,hl2,kk,app_if,app_if']
  refine W.ret ?_
  try simp only [zW,if_true]
  exact kR _ _ ⟨⟨[.bool (!z)],by simp [T.get,c96,evRess,evRes],rfl⟩,rfl⟩
 ·rw [decide_eq_true e,Bool.true_or] at kR
  generalize hl : su.length = n1 at *
  generalize hl2 : tu.length = n2 at *
  have e' : ¬ (n1 : Int) = n2:=by omega
  refine zCh ?_
  simp (disch:=first|omega|exact zE rfl|exact zO|exact zL rfl) [c96_o0,zG,q]
  refine zCh ?_
  simp (disch:=first|omega|exact zE rfl|exact zO|exact zL rfl) [c96_o1,zG,q,g3,gs0,ht,ht',hl,hl2,e,e']
  refine W.ret ?_
  try simp only [zW,if_true]
  exact kR _ _ ⟨⟨[.bool true],by simp [T.get,c96,evRess,evRes],rfl⟩,rfl⟩
noncomputable def T64 : CallF:=addI T63 96 (specS tbl T63 96)
theorem t64 : Sound Go.Proofs.Try.prog T64:=Sound.add follows ok t63 (by decide) specS_ok
theorem k96 {h : Heap} {su tu : List UInt8} {b3 b2 bs n v qq : Nat} {x y : AV} {cs : List AV} (g3 : h.get b3 = .cells 0 1 [.slice bs 0 n v]) (g2 : h.get b2 = .cells 0 3 [G qq,x,y]) (gs0 : h.get bs = .cells 1 v cs) (ht : cs[0]? = some (.str tu)) (hn : 0 < n) (q3 : qq ≤ 3) (l1 : su.length ≤ 1000000) (l2 : tu.length ≤ 1000000) :
  T64 96 [.str su,.ptr b3 0 1,.ptr b2 0 3] h = some (.bool (decide (su.length ≠ tu.length) || !goodS qq su),h.own,true):=by
 have e : T64 96 [.str su,.ptr b3 0 1,.ptr b2 0 3] h = specS tbl T63 96 [.str su,.ptr b3 0 1,.ptr b2 0 3] h:=by simp only [T64,addI,if_true]
 rw [e]
 exact specS_at (c96_ok T63 (fun _ _ => by simp (disch:=decide) only [T1,T2,T3,T4,T5,T6,T7,T8,T9,T10,T11,T12,T13,T14,T15,T16,T17,T18,T19,T20,T21,T22,T23,T24,T25,T26,T27,T28,T29,T30,T31,T32,T33,T34,T35,T36,T37,T38,T39,T40,T41,T42,T43,T44,T45,T46,T47,T48,T49,T50,T51,T52,T53,T54,T55,T56,T57,T58,T59,T60,T61,T62,T63,addI_ne,addX_ne,addV_ne,addK_ne]; rfl) k97 h g3 g2 gs0 ht hn q3 l1 l2)
section
variable {f : Nat} {cap cs : List AV} {p : Nat → Bool} {b v n : Nat}
theorem c107_loop (J : CallF) (hf0 : f ≠ 0) (h : Heap) (ha : h.get b = .cells 1 v cs) (la : cs.length = n) (hn : n < 9223372036854775808) (kp : FindP J f cap p cs h) :
  ∀ j i,i + j = n → (fi p i j = -1 → Tr tbl J c107_l0 (fun s h' => s.get [] = .slice b 0 n v ∧ s.get [false] = .func f cap ∧ s.get [false,false,false] = G n ∧ s.get [true,false,false] = G i ∧ h' = ⟨h.get,h.size,[]⟩) (.exit 0) (fun s h => True)) ∧
   (fi p i j ≠ -1 → Tr tbl J c107_l0 (fun s h' => s.get [] = .slice b 0 n v ∧ s.get [false] = .func f cap ∧ s.get [false,false,false] = G n ∧ s.get [true,false,false] = G i ∧ h' = ⟨h.get,h.size,[]⟩) .ret (fun s h => s.get [true,false] = G (fi p i j))):=by
 have h1:=get_lt ha (by simp)
 intro j
 induction j with
 | zero =>
  intro i hi'
  obtain rfl : i = n:=by omega
  refine ⟨fun _ => ?_,fun hne => absurd rfl hne⟩
  have t : Tr tbl J ((.trim [[],[false],[false,false,false],[true,false,false]] c107_b0)) (fun s h' => s.get [] = .slice b 0 i v ∧ s.get [false] = .func f cap ∧ s.get [false,false,false] = G i ∧ s.get [true,false,false] = G i ∧ h' = ⟨h.get,h.size,[]⟩) (.exit 0) (fun s h => True):=Tr.region fun s h hp => by
   obtain ⟨g0,g1,g2,g3,rfl⟩:=hp
   simp (disch:=first|omega|exact zE rfl|exact zO|exact zL rfl) [c107_b0,c107_o2,size_mk,get_mk_lt,get_mk_ge,frameOf,Eff.app,Heap.setOwn,g0,g1,g2,g3]
  exact Tr.out t (by simp)
 | succ j ih =>
  intro i hi'
  have xa : cs[i]? = some cs[i]:=List.getElem?_eq_getElem (by omega)
  have kk:=kp i _ xa
  have xa':=getI xa
  generalize cs[i]'(by omega) = c at *
  have ih':=ih (i + 1) (by omega)
  show ((if p i then (i : Int) else fi p (i + 1) j) = -1 → _) ∧ ((if p i then (i : Int) else fi p (i + 1) j) ≠ -1 → Tr tbl J c107_l0 _ .ret (fun s h => s.get [true,false] = G (if p i then (i : Int) else fi p (i + 1) j)))
  cases hp : p i
  ·rw [hp] at kk
   have t : Tr tbl J ((.trim [[],[false],[false,false,false],[true,false,false]] c107_b0)) (fun s h' => s.get [] = .slice b 0 n v ∧ s.get [false] = .func f cap ∧ s.get [false,false,false] = G n ∧ s.get [true,false,false] = G i ∧ h' = ⟨h.get,h.size,[]⟩) .normal (fun s h' => s.get [] = .slice b 0 n v ∧ s.get [false] = .func f cap ∧ s.get [false,false,false] = G n ∧ s.get [true,false,false] = G ((i + 1 : Nat) : Int) ∧ h' = ⟨h.get,h.size,[]⟩):=Tr.region fun s h hp => by
    obtain ⟨g0,g1,g2,g3,rfl⟩:=hp
    simp (disch:=first|omega|exact zE rfl|exact zO|exact zL rfl) [c107_b0,c107_o2,c107_o3,c107_o4,c107_o6,size_mk,get_mk_lt,get_mk_ge,frameOf,Eff.app,Heap.setOwn,g0,g1,g2,g3,ha,xa,xa',kk,hf0]
   rw [if_neg (by simp)]
   exact ⟨fun e => Tr.next t (ih'.1 e),fun e => Tr.next t (ih'.2 e)⟩
  ·rw [hp] at kk
   rw [if_pos rfl]
   refine ⟨fun e => absurd e (by omega),fun _ => ?_⟩
   have t : Tr tbl J ((.trim [[],[false],[false,false,false],[true,false,false]] c107_b0)) (fun s h' => s.get [] = .slice b 0 n v ∧ s.get [false] = .func f cap ∧ s.get [false,false,false] = G n ∧ s.get [true,false,false] = G i ∧ h' = ⟨h.get,h.size,[]⟩) .ret (fun s h => s.get [true,false] = G i):=Tr.region fun s h hp => by
    obtain ⟨g0,g1,g2,g3,rfl⟩:=hp
    simp (disch:=first|omega|exact zE rfl|exact zO|exact zL rfl) [c107_b0,c107_o2,c107_o3,c107_o4,c107_o5,size_mk,get_mk_lt,get_mk_ge,frameOf,Eff.app,Heap.setOwn,g0,g1,g2,g3,ha,xa,xa',kk,hf0]
   exact Tr.out t (by simp)
theorem c107_ok (J : CallF) (hJ : ∀ a h,J 107 a h = none) (hf0 : f ≠ 0) (h : Heap) {x : AV} (hx : EL h x cs) (hn : cs.length < 9223372036854775808) (kp : FindP J f cap p cs h) : CallsTo tbl J 107 [x,.func f cap] h (G (fi p 0 cs.length),[],false):=by
 refine Tr.fnv (cf:=c107) (e:=.ret) (s:=T.set (T.set .leaf [] x) [false] (.func f cap)) (by decide) rfl (hJ _ _) rfl rfl rfl (by simp) ?_
 have t0 : Tr tbl J (c107_o0) (fun s h' => s = T.set (T.set .leaf [] x) [false] (.func f cap) ∧ h' = frameOf h) .normal (fun s h' => s.get [] = x ∧ s.get [false] = .func f cap ∧ h' = ⟨h.get,h.size,[]⟩):=Tr.region fun s h hp => by
  obtain ⟨rfl,rfl⟩:=hp
  simp (disch:=first|omega|exact zE rfl|exact zO|exact zL rfl) [c107_o0,frameOf,Heap.size,Heap.get,Eff.app,Heap.setOwn]
 have t3 : Tr tbl J ((.seq c107_o7 .ret)) (fun s h => True) .ret (fun s h => s.get [true,false] = G (-1)):=Tr.region fun s h hp => by
  simp (disch:=first|omega|exact zE rfl|exact zO|exact zL rfl) [c107_o7,frameOf,Heap.size,Heap.get,Eff.app,Heap.setOwn]
 have nil : ∀ y,(y = .nils ∨ y = .slice0) → x = y → Tr tbl J (.seq c107_o1 (.block 0 c107_l0)) (fun s h' => s.get [] = x ∧ s.get [false] = .func f cap ∧ h' = ⟨h.get,h.size,[]⟩) .normal (fun s h => True):=fun y hy e => by
  subst e
  have t1 : Tr tbl J (c107_o1) (fun s h' => s.get [] = x ∧ s.get [false] = .func f cap ∧ h' = ⟨h.get,h.size,[]⟩) .normal (fun s h' => s.get [] = x ∧ s.get [false] = .func f cap ∧ s.get [false,false,false] = G ((0 : Nat) : Int) ∧ s.get [true,false,false] = G ((0 : Nat) : Int) ∧ h' = ⟨h.get,h.size,[]⟩):=Tr.region fun s h hp => by
   obtain ⟨g0,g1,rfl⟩:=hp
   rcases hy with rfl | rfl <;> simp (disch:=first|omega|exact zE rfl|exact zO|exact zL rfl) [c107_o1,size_mk,get_mk_lt,get_mk_ge,frameOf,Eff.app,Heap.setOwn,g0,g1]
  have t2 : Tr tbl J ((.trim [[],[false],[false,false,false],[true,false,false]] c107_b0)) (fun s h' => s.get [] = x ∧ s.get [false] = .func f cap ∧ s.get [false,false,false] = G ((0 : Nat) : Int) ∧ s.get [true,false,false] = G ((0 : Nat) : Int) ∧ h' = ⟨h.get,h.size,[]⟩) (.exit 0) (fun s h => True):=Tr.region fun s h hp => by
   obtain ⟨g0,g1,g2,g3,rfl⟩:=hp
   simp (disch:=first|omega|exact zE rfl|exact zO|exact zL rfl) [c107_b0,c107_o2,size_mk,get_mk_lt,get_mk_ge,frameOf,Eff.app,Heap.setOwn,g0,g1,g2,g3]
  exact Tr.seq t1 (Tr.block (Tr.out t2 (by simp)))
 rcases hx with ⟨e,rfl⟩ | ⟨b,v,rfl,g⟩
 ·have t1:=nil x e rfl
  exact Tr.post (fun s h q => by simp [c107,q,fi]) (Tr.seq t0 (Tr.seq t1 t3))
 ·
  have t1 : Tr tbl J (c107_o1) (fun s h' => s.get [] = .slice b 0 cs.length v ∧ s.get [false] = .func f cap ∧ h' = ⟨h.get,h.size,[]⟩) .normal (fun s h' => s.get [] = .slice b 0 cs.length v ∧ s.get [false] = .func f cap ∧ s.get [false,false,false] = G cs.length ∧ s.get [true,false,false] = G ((0 : Nat) : Int) ∧ h' = ⟨h.get,h.size,[]⟩):=Tr.region fun s h hp => by
   obtain ⟨g0,g1,rfl⟩:=hp
   simp (disch:=first|omega|exact zE rfl|exact zO|exact zL rfl) [c107_o1,size_mk,get_mk_lt,get_mk_ge,frameOf,Eff.app,Heap.setOwn,g0,g1]
  obtain ⟨l1,l2⟩:=c107_loop J hf0 h g rfl hn kp cs.length 0 (by omega)
  by_cases e : fi p 0 cs.length = -1
  ·rw [e]
   exact Tr.post (fun s h q => by simp [c107,q]) (Tr.seq t0 (Tr.seq (Tr.seq t1 (Tr.block (l1 e))) t3))
  ·exact Tr.post (fun s h q => by simp [c107,q]) (Tr.seq t0 (Tr.seq_out (Tr.seq t1 (Tr.block_out (l2 e) (by simp))) (by simp)))
end
def Pre107 (a : A111) (args : List AV) (h : Heap) : Prop:=Ok111 T64 a h ∧ args = [a.x,.func a.f a.cap]
noncomputable def T65 : CallF:=addK tbl T64 107 Pre107 Post111
theorem t65 : Sound Go.Proofs.Try.prog T65:=Sound.addK follows ok t64 (by decide) _ _
abbrev K107 (J0 J : CallF) : Prop:=∀ (h : Heap) (a : A111),Ok111 J0 a h → J 107 [a.x,.func a.f a.cap] h = some (G (fi a.p 0 a.cs.length),[],false)
theorem k107 : K107 T64 T65:=fun h a ha => by
 obtain ⟨v,own,e,rfl,rfl⟩:=addK_some (Pre:=Pre107) (Post:=Post111) (fun a args h hp => by
  obtain ⟨⟨h1,h2,h3,h4⟩,rfl⟩:=hp
  exact ⟨_,_,c107_ok T64 (fun _ _ => by simp (disch:=decide) only [T1,T2,T3,T4,T5,T6,T7,T8,T9,T10,T11,T12,T13,T14,T15,T16,T17,T18,T19,T20,T21,T22,T23,T24,T25,T26,T27,T28,T29,T30,T31,T32,T33,T34,T35,T36,T37,T38,T39,T40,T41,T42,T43,T44,T45,T46,T47,T48,T49,T50,T51,T52,T53,T54,T55,T56,T57,T58,T59,T60,T61,T62,T63,T64,addI_ne,addX_ne,addV_ne,addK_ne]; rfl) h1 h h2 h3 h4,rfl,rfl⟩) a _ h ⟨ha,rfl⟩
 exact e
theorem c95_ok (J J0 : CallF) (hJ : ∀ a h,J 95 a h = none) (k : K107 J0 J) (h : Heap) (a : A111) (ha : Ok111 J0 a h) : CallsTo tbl J 95 [a.x,.func a.f a.cap] h (.bool ((List.range a.cs.length).any a.p),[],false):=by
 refine Tr.fnv (cf:=c95) (e:=.ret) (s:=T.set (T.set .leaf [] a.x) [false] (.func a.f a.cap)) (by decide) rfl (hJ _ _) rfl rfl rfl (by simp) ?_
 have kk:=k ⟨h.get,h.size,[]⟩ a ⟨ha.1,ha.2.1.lo [],ha.2.2.1,ha.2.2.2.lo⟩
 have hb:=fi_any a.p a.cs.length
 rw [← hb]
 generalize fi a.p 0 a.cs.length = z at *
 generalize a.x = x at *
 generalize a.f = f at *
 generalize a.cap = cap at *
 have t : Tr tbl J ((.seq c95_o0 (.seq c95_o1 .ret))) (fun s h' => s = T.set (T.set .leaf [] x) [false] (.func f cap) ∧ h' = frameOf h) .ret (fun s h => s.get [true,false] = .bool (decide (0 ≤ z))):=Tr.region fun s h hp => by
  obtain ⟨rfl,rfl⟩:=hp
  simp (disch:=first|omega|exact zE rfl|exact zO|exact zL rfl) [c95_o0,c95_o1,frameOf,size_mk,get_mk_lt,get_mk_ge,frameOf,Eff.app,Heap.setOwn,kk]
 exact Tr.post (fun s h q => by simp [c95,q]) t
noncomputable def T66 : CallF:=addK tbl T65 95 Pre107 Post102
theorem t66 : Sound Go.Proofs.Try.prog T66:=Sound.addK follows ok t65 (by decide) _ _
theorem k95 (h : Heap) (a : A111) (ha : Ok111 T64 a h) : T66 95 [a.x,.func a.f a.cap] h = some (.bool ((List.range a.cs.length).any a.p),[],false):=by
 obtain ⟨v,own,e,rfl,rfl⟩:=addK_some (Pre:=Pre107) (Post:=Post102) (fun a args h hp => by
  obtain ⟨h1,rfl⟩:=hp
  exact ⟨_,_,c95_ok T65 T64 (fun _ _ => by simp (disch:=decide) only [T1,T2,T3,T4,T5,T6,T7,T8,T9,T10,T11,T12,T13,T14,T15,T16,T17,T18,T19,T20,T21,T22,T23,T24,T25,T26,T27,T28,T29,T30,T31,T32,T33,T34,T35,T36,T37,T38,T39,T40,T41,T42,T43,T44,T45,T46,T47,T48,T49,T50,T51,T52,T53,T54,T55,T56,T57,T58,T59,T60,T61,T62,T63,T64,T65,addI_ne,addX_ne,addV_ne,addK_ne]; rfl) k107 h a h1,rfl,rfl⟩) a _ h ⟨ha,rfl⟩
 exact e
def rowOkS (qq : Nat) (L : List (List UInt8)) (s : List UInt8) : Bool:=decide (s.length = (L.getD 0 []).length) && goodS qq s
def isS (qq : Nat) (L : List (List UInt8)) : Bool:=decide (1 ≤ L.length ∧ L.length ≤ 40) && decide (1 ≤ (L.getD 0 []).length ∧ (L.getD 0 []).length ≤ 5) && L.all (rowOkS qq L)
def pS (qq : Nat) (L : List (List UInt8)) (i : Nat) : Bool:=decide ((L.getD i []).length ≠ (L.getD 0 []).length) || !goodS qq (L.getD i [])
theorem pS_any (qq : Nat) (L : List (List UInt8)) : (List.range L.length).any (pS qq L) = !L.all (rowOkS qq L):=by
 rw [← any_not_all L []]
 congr 1
 funext i
 unfold pS rowOkS
 rw [Bool.not_and]
 congr 1
 rw [Bool.eq_iff_iff]
 simp
section
variable {a : AR} {x : AV} {L : List (List UInt8)}
set_option maxHeartbeats 1000000 in
theorem c77_ok (J : CallF) (k60 : K60 J) (k95 : ∀ (h : Heap) (b : A111),Ok111 T64 b h → J 95 [b.x,.func b.f b.cap] h = some (.bool ((List.range b.cs.length).any b.p),[],false)) (hJ : ∀ a h,J 77 a h = none) (h : Heap) (r : a.ru = true) (hx : EL h x (ss L)) (lL : L.length ≤ 1000000) (ls : ∀ s ∈ L,s.length ≤ 1000000) :
  CallsTo tbl J 77 [a.v,x] h (.bool (isS a.q.toNat L),[],false):=by
 refine Tr.fnv (cf:=c77) (e:=.ret) (s:=T.set (T.set .leaf [] a.v) [false] x) (by decide) rfl (hJ _ _) rfl rfl rfl (by simp) ?_
 refine Tr.post (Q:=(fun s h => s.get [true,false] = .bool (isS a.q.toNat L))) (fun s h q => by simp [c77,q]) ?_
 have q3:=a.q3 r
 obtain ⟨qq,hq⟩ : ∃ qq : Nat,a.q = qq:=⟨a.q.toNat,by omega⟩
 have hqt : a.q.toNat = qq:=by omega
 rw [hqt]
 have hxF : EL (frameOf h) x (ss L):=hx.lo []
 generalize frameOf h = H0 at *
 obtain ⟨H1,hH1⟩ : ∃ H,H0.plus [.cells 0 3 [G a.q,a.x,a.y]] = H:=⟨_,rfl⟩
 obtain ⟨H2,hH2⟩ : ∃ H,H1.plus [.cells 0 1 [x]] = H:=⟨_,rfl⟩
 have k1 : Kp (fun _ => False) H0 H1:=by rw [← hH1]; exact Kp.plus _ _
 have k2 : Kp (fun _ => False) H1 H2:=by rw [← hH2]; exact Kp.plus _ _
 have g2 : H1.get H0.size = .cells 0 3 [G a.q,a.x,a.y]:=by rw [← hH1]; exact plus_at0 _ _ _ _ rfl
 have g2':=k2.at g2 (by simp) id
 have g3 : H2.get H1.size = .cells 0 1 [x]:=by rw [← hH2]; exact plus_at0 _ _ _ _ rfl
 have e60:=k60 L.length 1 40 H2
 have lss : (ss L).length = L.length:=by simp
 have es : isS qq L = (decide (1 ≤ L.length ∧ L.length ≤ 40) && decide (1 ≤ (L.getD 0 []).length ∧ (L.getD 0 []).length ≤ 5) && L.all (rowOkS qq L)):=rfl
 have cn : ∀ n : Nat,decide ((1 : Int) ≤ (n : Int) ∧ (n : Int) ≤ 40) = decide (1 ≤ n ∧ n ≤ 40):=fun n => by
  rw [Bool.eq_iff_iff,decide_eq_true_eq,decide_eq_true_eq]; omega
 rw [cn] at e60
 by_cases h1 : 1 ≤ L.length ∧ L.length ≤ 40
 ·rw [decide_eq_true h1] at e60 es
  have e60':=k60 (L.getD 0 []).length 1 5 H2
  have cn5 : decide ((1 : Int) ≤ ((L.getD 0 []).length : Int) ∧ ((L.getD 0 []).length : Int) ≤ 5) = decide (1 ≤ (L.getD 0 []).length ∧ (L.getD 0 []).length ≤ 5):=by
   rw [Bool.eq_iff_iff,decide_eq_true_eq,decide_eq_true_eq]; omega
  rw [cn5] at e60'
  have s0:=ss_at (L:=L) (i:=0) (by omega)
  have s0':=getI s0
  obtain ⟨_,e⟩ | ⟨b,v,e,g⟩:=hxF
  ·have : L.length = 0:=by rw [← lss,e]; rfl
   omega
  rw [lss] at e
  subst e
  have gH:=(k1.trans k2).at g (by simp) id
  by_cases h2 : 1 ≤ (L.getD 0 []).length ∧ (L.getD 0 []).length ≤ 5
  ·rw [decide_eq_true h2] at e60' es
   have ok95 : Ok111 T64 ⟨.slice b 0 L.length v,96,[.ptr H1.size 0 1,.ptr H0.size 0 3],ss L,pS qq L⟩ H2:=by
    refine ⟨show (96 : Nat) ≠ 0 by decide,.inr ⟨b,v,by rw [lss],gH⟩,by show (ss L).length < _; rw [lss]; omega,fun i c hi => ?_⟩
    have hlt : i < L.length:=by
     have:=(List.getElem?_eq_some_iff.1 hi).1
     rw [lss] at this; exact this
    rw [ss_at hlt] at hi
    cases hi
    have gl : ∀ b X,H2.get b = X → X ≠ .hole → (⟨H2.get,H2.size,[]⟩ : Heap).get b = X:=fun b X e hX => by rw [get_mk_lt _ _ _ _ (get_lt e hX)]; exact e
    have gi : L.getD i [] ∈ L:=by
     rw [List.getD_eq_getElem?_getD,List.getElem?_eq_getElem hlt]; exact List.getElem_mem _
    have g0 : L.getD 0 [] ∈ L:=by
     rw [List.getD_eq_getElem?_getD,List.getElem?_eq_getElem (by omega)]; exact List.getElem_mem _
    rw [hq] at g2'
    exact k96 (gl _ _ g3 (by simp)) (gl _ _ g2' (by simp)) (gl _ _ gH (by simp)) s0 (by omega) (by omega) (ls _ gi) (ls _ g0)
   have e95:=k95 H2 _ ok95
   simp only at e95
   rw [lss,pS_any] at e95
   rw [es]
   clear es ok95 k95 hx g k1 k2 ls e60' cn
   generalize L.all (rowOkS qq L) = z at *
   have lw:=(L.getD 0 []).length
   generalize hl0 : (L.getD 0 []).length = n0 at *
   have e60':=k60 n0 1 5 H2
   rw [decide_eq_true (by omega)] at e60'
   generalize hu0 : L.getD 0 [] = u0 at *
   generalize ss L = cs at *
   generalize hll : L.length = n at *
   clear k60
   refine Tr.w fun s1 H1 hp _ kR => ?_
   obtain ⟨rfl,rfl⟩:=hp
   have q : True:=trivial
   refine zCh ?_
   simp (disch:=first|omega|exact zE rfl|exact zO|exact zL rfl) [c77_o0,zG,q,hH1,hH2]
   refine W.assoc ?_
   refine zCh ?_
   simp (disch:=first|omega|exact zE rfl|exact zO|exact zL rfl) [c77_o1,zG,q,g3,e60,gH,s0,s0',lss,hl0,e60']
   refine zCh ?_
   simp (disch:=first|omega|exact zE rfl|exact zO|exact zL rfl) [c77_o2,zG,q]
   refine zCh ?_
   simp (disch:=first|omega|exact zE rfl|exact zO|exact zL rfl) [c77_o3,zG,q,g3,e95]
   refine W.ret ?_
   try simp only [zW,if_true]
   exact kR _ _ (by simp [T.get])
  ·rw [decide_eq_false h2] at e60' es
   rw [es]
   clear es k95 hx g k1 k2 ls cn k60 cn5
   generalize hl0 : (L.getD 0 []).length = n0 at *
   generalize hu0 : L.getD 0 [] = u0 at *
   generalize ss L = cs at *
   generalize hll : L.length = n at *
   refine Tr.w fun s1 H1 hp _ kR => ?_
   obtain ⟨rfl,rfl⟩:=hp
   have q : True:=trivial
   refine zCh ?_
   simp (disch:=first|omega|exact zE rfl|exact zO|exact zL rfl) [c77_o0,zG,q,hH1,hH2]
   refine W.assoc ?_
   refine zCh ?_
   simp (disch:=first|omega|exact zE rfl|exact zO|exact zL rfl) [c77_o1,zG,q,g3,e60,gH,s0,s0',lss,hl0,e60']
   refine zCh ?_
   simp (disch:=first|omega|exact zE rfl|exact zO|exact zL rfl) [c77_o2,zG,q]
   exact kR _ _ (by simp [T.get])
 ·rw [decide_eq_false h1] at e60 es
  rw [es]
  have sx : (x = .nils ∧ L.length = 0) ∨ (x = .slice0 ∧ L.length = 0) ∨ ∃ b v,x = .slice b 0 L.length v:=by
   rcases hxF with ⟨e | e,e2⟩ | ⟨b,v,e,_⟩
   ·exact .inl ⟨e,by rw [← lss,e2]; rfl⟩
   ·exact .inr (.inl ⟨e,by rw [← lss,e2]; rfl⟩)
   ·exact .inr (.inr ⟨b,v,by rw [e,lss]⟩)
  clear es k95 hx k1 k2 ls cn hxF k60
  generalize hll : L.length = n at *
  rcases sx with ⟨rfl,rfl⟩ | ⟨rfl,rfl⟩ | ⟨b,v,rfl⟩
  all_goals
   try rw [show ((0 : Nat) : Int) = 0 from rfl] at e60
   refine Tr.w fun s1 H1 hp _ kR => ?_
   obtain ⟨rfl,rfl⟩:=hp
   have q : True:=trivial
   refine zCh ?_
   simp (disch:=first|omega|exact zE rfl|exact zO|exact zL rfl) [c77_o0,zG,q,hH1,hH2]
   refine W.assoc ?_
   refine zCh ?_
   simp (disch:=first|omega|exact zE rfl|exact zO|exact zL rfl) [c77_o1,zG,q,g3,e60]
   refine zCh ?_
   simp (disch:=first|omega|exact zE rfl|exact zO|exact zL rfl) [c77_o2,zG,q]
   exact kR _ _ (by simp [T.get])
end
structure AS where
 a : AR
 x : AV
 L : List (List UInt8)
def OkAS (b : AS) (h : Heap) : Prop:=b.a.ru = true ∧ EL h b.x (ss b.L) ∧ b.L.length ≤ 1000000 ∧ ∀ s ∈ b.L,s.length ≤ 1000000
def Pre77 (b : AS) (args : List AV) (h : Heap) : Prop:=OkAS b h ∧ args = [b.a.v,b.x]
def Post77 (b : AS) (h : Heap) (v : AV) (own : List AObj) : Prop:=v = .bool (isS b.a.q.toNat b.L) ∧ own = []
noncomputable def T67 : CallF:=addK tbl T66 77 Pre77 Post77
theorem t67 : Sound Go.Proofs.Try.prog T67:=Sound.addK follows ok t66 (by decide) _ _
theorem k60_66 : K60 T66:=fun n lo hi h => by
 simp (disch:=decide) only [T1,T2,T3,T4,T5,T6,T7,T8,T9,T10,T11,T12,T13,T14,T15,T16,T17,T18,T19,T20,T21,T22,T23,T24,T25,T26,T27,T28,T29,T30,T31,T32,T33,T34,T35,T36,T37,T38,T39,T40,T41,T42,T43,T44,T45,T46,T47,T48,T49,T50,T51,T52,T53,T54,T55,T56,T57,T58,T59,T60,T61,T62,T63,T64,T65,T66,addI_ne,addX_ne,addV_ne,addK_ne]
 exact k60 n lo hi h
abbrev K77 (J : CallF) : Prop:=∀ (h : Heap) (b : AS),OkAS b h → J 77 [b.a.v,b.x] h = some (.bool (isS b.a.q.toNat b.L),[],false)
theorem k77 : K77 T67:=fun h b o => by
 obtain ⟨v,own,e,rfl,rfl⟩:=addK_some (Pre:=Pre77) (Post:=Post77) (fun b args h hp => by
  obtain ⟨⟨h1,h2,h3,h4⟩,rfl⟩:=hp
  exact ⟨_,_,c77_ok T66 k60_66 k95 (fun _ _ => by simp (disch:=decide) only [T1,T2,T3,T4,T5,T6,T7,T8,T9,T10,T11,T12,T13,T14,T15,T16,T17,T18,T19,T20,T21,T22,T23,T24,T25,T26,T27,T28,T29,T30,T31,T32,T33,T34,T35,T36,T37,T38,T39,T40,T41,T42,T43,T44,T45,T46,T47,T48,T49,T50,T51,T52,T53,T54,T55,T56,T57,T58,T59,T60,T61,T62,T63,T64,T65,T66,addI_ne,addX_ne,addV_ne,addK_ne]; rfl) h h1 h2 h3 h4,rfl,rfl⟩) b _ h ⟨o,rfl⟩
 exact e
def kpB (a : AG) (R : List (List Nat)) (i : Nat) : Bool:=bsd a.B (R.getD i []) && (decide (i = 0) || blw a.W (R.getD (i - 1) []) (R.getD i []))
def kpS (a : AG) (R : List (List Nat)) : Bool:=af (kpB a R) 0 R.length
structure WS (a : AG) (m : Nat) (R : List (List Nat)) : Prop where
 w : ∀ w ∈ R,w.length = m ∧ ∀ c ∈ w,c < a.q
 l : R.length ≤ 1000
 m5 : m ≤ 1000
section
variable {a : AG} {m : Nat} {R : List (List Nat)} {b v : Nat}
theorem WS.at {i : Nat} (k : WS a m R) (hi : i < R.length) : (R.getD i []).length = m ∧ ∀ c ∈ R.getD i [],c < a.q:=k.w _ (by
 rw [List.getD_eq_getElem?_getD,List.getElem?_eq_getElem hi]
 exact List.getElem_mem _)
set_option maxHeartbeats 1000000 in
theorem c78_b0_ok (J : CallF) (k89 : KW 89 J) (k90 : KB 90 J) {H : Heap} {p : Nat} (o : OkG a H) (k : WS a m R) (gS : H.get p = .cells 0 3 [G a.q,a.x,a.y]) (gH : H.get b = .cells 1 v (wsL R)) {i : Nat} (hi : i < R.length) :
  (kpB a R i = true → Tr tbl J (.trim [[false],[true],[false,false,false],[true,false,false],[false,true,false]] c78_b0) (fun s h => h = H ∧ s.get [false] = .slice b 0 R.length v ∧ s.get [true] = .ptr p 0 3 ∧ s.get [false,false,false] = .slice b 0 R.length v ∧ s.get [true,false,false] = G R.length ∧ s.get [false,true,false] = G (i : Nat)) .normal (fun s h => h = H ∧ s.get [false] = .slice b 0 R.length v ∧ s.get [true] = .ptr p 0 3 ∧ s.get [false,false,false] = .slice b 0 R.length v ∧ s.get [true,false,false] = G R.length ∧ s.get [false,true,false] = G ((i + 1 : Nat) : Int))) ∧
  (kpB a R i = false → Tr tbl J (.trim [[false],[true],[false,false,false],[true,false,false],[false,true,false]] c78_b0) (fun s h => h = H ∧ s.get [false] = .slice b 0 R.length v ∧ s.get [true] = .ptr p 0 3 ∧ s.get [false,false,false] = .slice b 0 R.length v ∧ s.get [true,false,false] = G R.length ∧ s.get [false,true,false] = G (i : Nat)) .ret (fun s h => s.get [true,false] = .bool false)):=by
 have ki:=k.at hi
 have m5:=k.m5
 have e68:=k89 H a _ o ki.2 (by omega)
 have wi:=wsL_at (R:=R) hi
 have wi':=getI wi
 have lw:=wsL_len R
 have l1:=k.l
 have kb : kpB a R i = (bsd a.B (R.getD i []) && (decide (i = 0) || blw a.W (R.getD (i - 1) []) (R.getD i []))):=rfl
 rw [kb]
 have main : ∀ (s1 : T) (H1 : Heap) (Q : PQ),((fun s h => h = H ∧ s.get [false] = .slice b 0 R.length v ∧ s.get [true] = .ptr p 0 3 ∧ s.get [false,false,false] = .slice b 0 R.length v ∧ s.get [true,false,false] = G R.length ∧ s.get [false,true,false] = G (i : Nat)) : SP) s1 H1 →
   ((bsd a.B (R.getD i []) && (decide (i = 0) || blw a.W (R.getD (i - 1) []) (R.getD i []))) = true → ∀ s' h',((fun s h => h = H ∧ s.get [false] = .slice b 0 R.length v ∧ s.get [true] = .ptr p 0 3 ∧ s.get [false,false,false] = .slice b 0 R.length v ∧ s.get [true,false,false] = G R.length ∧ s.get [false,true,false] = G ((i + 1 : Nat) : Int)) : SP) s' h' → Q .normal s' h') →
   ((bsd a.B (R.getD i []) && (decide (i = 0) || blw a.W (R.getD (i - 1) []) (R.getD i []))) = false → ∀ s' h',((fun s h => s.get [true,false] = .bool false) : SP) s' h' → Q .ret s' h') → W tbl J (.trim [[false],[true],[false,false,false],[true,false,false],[false,true,false]] c78_b0) s1 H1 Q:=fun s1 H1 Q hp kA kB => by
  obtain ⟨rfl,q⟩:=hp
  cases i with
  | zero =>
   rw [decide_eq_true rfl,Bool.true_or,Bool.and_true] at kA kB
   clear o k ki kb k90
   generalize bsd a.B (R.getD 0 []) = z at *
   generalize stW (R.getD 0 []) = w0 at *
   generalize wsL R = ws at *
   generalize R.length = n at *
   cases z
   ·have kR:=kB rfl
    clear kA kB
    refine W.trim ?_
    refine zCh ?_
    simp (disch:=first|omega|exact zE rfl|exact zO|exact zL rfl) [c78_o2,zG,q]
    refine zCh ?_
    simp (disch:=first|omega|exact zE rfl|exact zO|exact zL rfl) [zG,q]
    refine W.seq (W.block ?_)
    refine zCh ?_
    simp (disch:=first|omega|exact zE rfl|exact zO|exact zL rfl) [c78_o3,zG,q,gH,wi,wi',lw]
    refine zCh ?_
    simp (disch:=first|omega|exact zE rfl|exact zO|exact zL rfl) [-evDraw_c,c78_o4,zG,q,evDraw_0,gS,gH,wi,wi',lw,e68,app_if,app_if']
    refine W.chunk ?_
    simp (disch:=first|omega|exact zE rfl|exact zO|exact zL rfl) [c78_o5,zG,q]
    exact kR _ _ (by simp [T.get])
   ·have kR:=kA rfl
    clear kA kB
    refine W.trim ?_
    refine zCh ?_
    simp (disch:=first|omega|exact zE rfl|exact zO|exact zL rfl) [c78_o2,zG,q]
    refine zCh ?_
    simp (disch:=first|omega|exact zE rfl|exact zO|exact zL rfl) [zG,q]
    refine W.seq (W.block ?_)
    refine zCh ?_
    simp (disch:=first|omega|exact zE rfl|exact zO|exact zL rfl) [c78_o3,zG,q,gH,wi,wi',lw]
    refine zCh ?_
    simp (disch:=first|omega|exact zE rfl|exact zO|exact zL rfl) [-evDraw_c,c78_o4,zG,q,evDraw_0,gS,gH,wi,wi',lw,e68,app_if,app_if']
    refine W.chunk ?_
    simp (disch:=first|omega|exact zE rfl|exact zO|exact zL rfl) [c78_o5,zG,q]
    refine W.chunk ?_
    simp (disch:=first|omega|exact zE rfl|exact zO|exact zL rfl) [c78_o6,zG,q]
    exact kR _ _ (by simp [T.get,q])
  | succ i =>
   have kj:=k.at (i:=i) (by omega)
   have e69:=k90 H1 a (R.getD i []) (R.getD (i + 1) []) o kj.2 ki.2 (by omega) (by rw [ki.1,kj.1])
   rw [decide_eq_false (by omega),Bool.false_or,Nat.add_sub_cancel] at kA kB
   have wj:=wsL_at (R:=R) (i:=i) (by omega)
   have wj':=getI wj
   have n1 : ((i + 1 : Nat) : Int) = (i : Int) + 1:=by omega
   clear o k ki kj kb k90
   generalize bsd a.B (R.getD (i + 1) []) = z at *
   generalize blw a.W (R.getD i []) (R.getD (i + 1) []) = y at *
   generalize stW (R.getD (i + 1) []) = w1 at *
   generalize stW (R.getD i []) = w0 at *
   generalize wsL R = ws at *
   generalize R.length = n at *
   cases z
   ·have kR:=kB rfl
    clear kA kB
    refine W.trim ?_
    refine zCh ?_
    simp (disch:=first|omega|exact zE rfl|exact zO|exact zL rfl) [c78_o2,zG,q]
    refine zCh ?_
    simp (disch:=first|omega|exact zE rfl|exact zO|exact zL rfl) [zG,q]
    refine W.seq (W.block ?_)
    refine zCh ?_
    simp (disch:=first|omega|exact zE rfl|exact zO|exact zL rfl) [c78_o3,zG,q,gH,wi,wi',lw]
    refine zCh ?_
    simp (disch:=first|omega|exact zE rfl|exact zO|exact zL rfl) [-evDraw_c,c78_o4,zG,q,evDraw_0,gS,gH,wi,wi',wj,wj',lw,e68,e69,app_if,app_if']
    refine W.chunk ?_
    simp (disch:=first|omega|exact zE rfl|exact zO|exact zL rfl) [c78_o5,zG,q]
    exact kR _ _ (by simp [T.get])
   ·cases y
    ·have kR:=kB rfl
     clear kA kB
     refine W.trim ?_
     refine zCh ?_
     simp (disch:=first|omega|exact zE rfl|exact zO|exact zL rfl) [c78_o2,zG,q]
     refine zCh ?_
     simp (disch:=first|omega|exact zE rfl|exact zO|exact zL rfl) [zG,q]
     refine W.seq (W.block ?_)
     refine zCh ?_
     simp (disch:=first|omega|exact zE rfl|exact zO|exact zL rfl) [c78_o3,zG,q,gH,wi,wi',lw]
     refine zCh ?_
     simp (disch:=first|omega|exact zE rfl|exact zO|exact zL rfl) [-evDraw_c,c78_o4,zG,q,evDraw_0,gS,gH,wi,wi',wj,wj',lw,e68,e69,app_if,app_if']
     refine W.chunk ?_
     simp (disch:=first|omega|exact zE rfl|exact zO|exact zL rfl) [c78_o5,zG,q]
     exact kR _ _ (by simp [T.get])
    ·have kR:=kA rfl
     clear kA kB
     refine W.trim ?_
     refine zCh ?_
     simp (disch:=first|omega|exact zE rfl|exact zO|exact zL rfl) [c78_o2,zG,q]
     refine zCh ?_
     simp (disch:=first|omega|exact zE rfl|exact zO|exact zL rfl) [zG,q]
     refine W.seq (W.block ?_)
     refine zCh ?_
     simp (disch:=first|omega|exact zE rfl|exact zO|exact zL rfl) [c78_o3,zG,q,gH,wi,wi',lw]
     refine zCh ?_
     simp (disch:=first|omega|exact zE rfl|exact zO|exact zL rfl) [-evDraw_c,c78_o4,zG,q,evDraw_0,gS,gH,wi,wi',wj,wj',lw,e68,e69,app_if,app_if']
     refine W.chunk ?_
     simp (disch:=first|omega|exact zE rfl|exact zO|exact zL rfl) [c78_o5,zG,q]
     refine W.chunk ?_
     simp (disch:=first|omega|exact zE rfl|exact zO|exact zL rfl) [c78_o6,zG,q]
     exact kR _ _ (by simp [T.get,q])
 exact ⟨fun hs => Tr.w fun s1 H1 hp Q kR => main s1 H1 Q hp (fun _ => kR) (fun h => by rw [hs] at h; cases h),fun hs => Tr.w fun s1 H1 hp Q kR => main s1 H1 Q hp (fun h => by rw [hs] at h; cases h) (fun _ => kR)⟩
theorem c78_ok (J : CallF) (k89 : KW 89 J) (k90 : KB 90 J) (hJ : ∀ a h,J 78 a h = none) (h : Heap) (o : OkG a h) (k : WS a m R) (g : h.get b = .cells 1 v (wsL R)) : CallsTo tbl J 78 [a.v,.slice b 0 R.length v] h (.bool (kpS a R),[],false):=by
 refine Tr.fnv (cf:=c78) (e:=.ret) (s:=T.set (T.set .leaf [] a.v) [false] (.slice b 0 R.length v)) (by decide) rfl (hJ _ _) rfl rfl rfl (by simp) ?_
 refine Tr.post (Q:=(fun s h => s.get [true,false] = .bool (kpS a R))) (fun s h q => by simp [c78,q]) ?_
 have oF:=o.fr
 have gF : (frameOf h).get b = .cells 1 v (wsL R):=by
  unfold frameOf
  rw [get_mk_lt _ _ _ _ (get_lt g (by simp))]; exact g
 generalize frameOf h = H0 at *
 obtain ⟨H,hH⟩ : ∃ H,H0.plus [.cells 0 3 [G a.q,a.x,a.y]] = H:=⟨_,rfl⟩
 have kH : Kp (fun _ => False) H0 H:=by rw [← hH]; exact Kp.plus _ _
 have gS : H.get H0.size = .cells 0 3 [G a.q,a.x,a.y]:=by rw [← hH]; exact plus_at0 _ _ _ _ rfl
 have gH:=kH.at gF (by simp) id
 have b0:=fun {i} hi => c78_b0_ok J k89 k90 (oF.kp kH) k gS gH (i:=i) hi
 have l1:=k.l
 cases hk : kpS a R
 ·have l0 : Tr tbl J c78_l0 (fun s h => h = H ∧ s.get [false] = .slice b 0 R.length v ∧ s.get [true] = .ptr H0.size 0 3 ∧ s.get [false,false,false] = .slice b 0 R.length v ∧ s.get [true,false,false] = G R.length ∧ s.get [false,true,false] = G ((0 : Nat) : Int)) .ret (fun s h => s.get [true,false] = .bool false) :=
   Tr.allF (P:=fun i => (fun s h => h = H ∧ s.get [false] = .slice b 0 R.length v ∧ s.get [true] = .ptr H0.size 0 3 ∧ s.get [false,false,false] = .slice b 0 R.length v ∧ s.get [true,false,false] = G R.length ∧ s.get [false,true,false] = G (i : Nat))) (p:=kpB a R) R.length (fun i hi hp => (b0 hi).1 hp) (fun i hi hp => (b0 hi).2 hp) (by simp) _ 0 (by omega) hk
  clear oF k gF o kH gH g b0 hk
  generalize R.length = n at *
  refine Tr.w fun s1 H1 hp _ kR => ?_
  obtain ⟨rfl,rfl⟩:=hp
  have q : True:=trivial
  refine zCh ?_
  simp (disch:=first|omega|exact zE rfl|exact zO|exact zL rfl) [c78_o0,zG,q,hH]
  refine W.assoc ?_
  refine zCh ?_
  simp (disch:=first|omega|exact zE rfl|exact zO|exact zL rfl) [c78_o1,zG,q]
  refine W.seq (W.block ?_)
  refine W.use (l0) (by simp (disch:=first|omega|exact zE rfl|exact zO|exact zL rfl) [zG,q]) fun s1 H1 hp => ?_
  try simp only [zW,if_true]
  exact kR _ _ hp
 ·have fin : Tr tbl J (.trim [[false],[true],[false,false,false],[true,false,false],[false,true,false]] c78_b0) (fun s h => h = H ∧ s.get [false] = .slice b 0 R.length v ∧ s.get [true] = .ptr H0.size 0 3 ∧ s.get [false,false,false] = .slice b 0 R.length v ∧ s.get [true,false,false] = G R.length ∧ s.get [false,true,false] = G (R.length : Nat)) (.exit 0) (fun s h => h = H):=by
   clear b0 gS gH
   generalize R.length = n at *
   refine Tr.w fun s1 H1 hp _ kR => W.trim ?_
   obtain ⟨rfl,q⟩:=hp
   refine zCh ?_
   simp (disch:=first|omega|exact zE rfl|exact zO|exact zL rfl) [c78_o2,zG,q]
   refine zCh ?_
   simp (disch:=first|omega|exact zE rfl|exact zO|exact zL rfl) [zG,q]
   exact kR _ _ rfl
  have l0 : Tr tbl J c78_l0 (fun s h => h = H ∧ s.get [false] = .slice b 0 R.length v ∧ s.get [true] = .ptr H0.size 0 3 ∧ s.get [false,false,false] = .slice b 0 R.length v ∧ s.get [true,false,false] = G R.length ∧ s.get [false,true,false] = G ((0 : Nat) : Int)) (.exit 0) (fun s h => h = H) :=
   Tr.allT (P:=fun i => (fun s h => h = H ∧ s.get [false] = .slice b 0 R.length v ∧ s.get [true] = .ptr H0.size 0 3 ∧ s.get [false,false,false] = .slice b 0 R.length v ∧ s.get [true,false,false] = G R.length ∧ s.get [false,true,false] = G (i : Nat))) (p:=kpB a R) R.length (fun i hi hp => (b0 hi).1 hp) fin (by simp) _ 0 (by omega) hk
  clear oF k gF o kH gH g b0 hk fin
  generalize R.length = n at *
  refine Tr.w fun s1 H1 hp _ kR => ?_
  obtain ⟨rfl,rfl⟩:=hp
  have q : True:=trivial
  refine zCh ?_
  simp (disch:=first|omega|exact zE rfl|exact zO|exact zL rfl) [c78_o0,zG,q,hH]
  refine W.assoc ?_
  refine zCh ?_
  simp (disch:=first|omega|exact zE rfl|exact zO|exact zL rfl) [c78_o1,zG,q]
  refine W.seq (W.block ?_)
  refine W.use (l0) (by simp (disch:=first|omega|exact zE rfl|exact zO|exact zL rfl) [zG,q]) fun s1 H1 hp => ?_
  obtain rfl:=hp
  try simp only [zW,if_true]
  refine zCh ?_
  simp (disch:=first|omega|exact zE rfl|exact zO|exact zL rfl) [c78_o7,zG,q]
  refine W.ret ?_
  try simp only [zW,if_true]
  exact kR _ _ (by simp [T.get])
end
structure AWS where
 a : AG
 m : Nat
 R : List (List Nat)
 b : Nat
 v : Nat
def Ok78 (b : AWS) (h : Heap) : Prop:=OkG b.a h ∧ WS b.a b.m b.R ∧ h.get b.b = .cells 1 b.v (wsL b.R)
def Pre78 (b : AWS) (args : List AV) (h : Heap) : Prop:=Ok78 b h ∧ args = [b.a.v,.slice b.b 0 b.R.length b.v]
def Post78 (b : AWS) (h : Heap) (v : AV) (own : List AObj) : Prop:=v = .bool (kpS b.a b.R) ∧ own = []
noncomputable def T68 : CallF:=addK tbl T67 78 Pre78 Post78
theorem t68 : Sound Go.Proofs.Try.prog T68:=Sound.addK follows ok t67 (by decide) _ _
theorem k89_67 : KW 89 T67:=fun h a w o hw lw => by
 rw [show T67 89 [a.v,.str (stW w)] h = T13 89 [a.v,.str (stW w)] h from by simp (disch:=decide) only [T14,T15,T16,T17,T18,T19,T20,T21,T22,T23,T24,T25,T26,T27,T28,T29,T30,T31,T32,T33,T34,T35,T36,T37,T38,T39,T40,T41,T42,T43,T44,T45,T46,T47,T48,T49,T50,T51,T52,T53,T54,T55,T56,T57,T58,T59,T60,T61,T62,T63,T64,T65,T66,T67,addI_ne,addX_ne,addV_ne,addK_ne]]; exact k89 h a w o hw lw
theorem k90_67 : KB 90 T67:=fun h a s t o hs ht ls lt => by
 rw [show T67 90 [a.v,.str (stW s),.str (stW t)] h = T15 90 [a.v,.str (stW s),.str (stW t)] h from by simp (disch:=decide) only [T16,T17,T18,T19,T20,T21,T22,T23,T24,T25,T26,T27,T28,T29,T30,T31,T32,T33,T34,T35,T36,T37,T38,T39,T40,T41,T42,T43,T44,T45,T46,T47,T48,T49,T50,T51,T52,T53,T54,T55,T56,T57,T58,T59,T60,T61,T62,T63,T64,T65,T66,T67,addI_ne,addX_ne,addV_ne,addK_ne]]; exact k90 h a s t o hs ht ls lt
abbrev K78 (J : CallF) : Prop:=∀ (h : Heap) (a : AG) (m : Nat) (R : List (List Nat)) (b v : Nat),OkG a h → WS a m R → h.get b = .cells 1 v (wsL R) → J 78 [a.v,.slice b 0 R.length v] h = some (.bool (kpS a R),[],false)
theorem k78 : K78 T68:=fun h a m R b v o k g => by
 obtain ⟨v,own,e,rfl,rfl⟩:=addK_some (Pre:=Pre78) (Post:=Post78) (fun b args h hp => by
  obtain ⟨⟨o,k,g⟩,rfl⟩:=hp
  exact ⟨_,_,c78_ok T67 k89_67 k90_67 (fun _ _ => by simp (disch:=decide) only [T1,T2,T3,T4,T5,T6,T7,T8,T9,T10,T11,T12,T13,T14,T15,T16,T17,T18,T19,T20,T21,T22,T23,T24,T25,T26,T27,T28,T29,T30,T31,T32,T33,T34,T35,T36,T37,T38,T39,T40,T41,T42,T43,T44,T45,T46,T47,T48,T49,T50,T51,T52,T53,T54,T55,T56,T57,T58,T59,T60,T61,T62,T63,T64,T65,T66,T67,addI_ne,addX_ne,addV_ne,addK_ne]; rfl) h o k g,rfl,rfl⟩) ⟨a,m,R,b,v⟩ _ h ⟨⟨o,k,g⟩,rfl⟩
 exact e
theorem goodB_of {qq : Nat} {u : UInt8} (q3 : qq ≤ 3) (h : goodB qq u = true) : ∃ c,c < qq ∧ UInt8.ofNat (48 + c) = u:=by
 unfold goodB at h
 rw [decide_eq_true_eq] at h
 refine ⟨u.toNat - 48,by omega,?_⟩
 rw [show 48 + (u.toNat - 48) = u.toNat by omega]
 exact UInt8.ofNat_toNat
theorem goodS_of {qq : Nat} (q3 : qq ≤ 3) : ∀ {s : List UInt8},goodS qq s = true → ∃ w,stW w = s ∧ ∀ c ∈ w,c < qq
 | [],_ => ⟨[],rfl,fun c h => (by cases h)⟩
 | u :: s,h => by
  unfold goodS at h
  rw [List.all_cons,Bool.and_eq_true] at h
  obtain ⟨c,h1,h2⟩:=goodB_of q3 h.1
  obtain ⟨w,h3,h4⟩:=goodS_of q3 (s:=s) h.2
  refine ⟨c :: w,?_,fun d hd => ?_⟩
  ·show UInt8.ofNat (48 + c) :: stW w = u :: s
   rw [h2,h3]
  ·rcases List.mem_cons.1 hd with rfl | hd
   ·exact h1
   ·exact h4 d hd
theorem words_all {qq m : Nat} (q3 : qq ≤ 3) : ∀ {L : List (List UInt8)},(∀ s ∈ L,s.length = m ∧ goodS qq s = true) → ∃ R : List (List Nat),L = R.map stW ∧ ∀ w ∈ R,w.length = m ∧ ∀ c ∈ w,c < qq
 | [],_ => ⟨[],rfl,fun w h => (by cases h)⟩
 | s :: L,h => by
  obtain ⟨h1,h2⟩:=h s (by simp)
  obtain ⟨w,h3,h4⟩:=goodS_of q3 h2
  obtain ⟨R,h5,h6⟩:=words_all q3 (L:=L) fun t ht => h t (by simp [ht])
  refine ⟨w :: R,by rw [h5,List.map_cons,h3],fun v hv => ?_⟩
  rcases List.mem_cons.1 hv with rfl | hv
  ·exact ⟨by rw [← h1,← h3,stW_len],h4⟩
  ·exact h6 v hv
theorem isS_words {qq : Nat} (q3 : qq ≤ 3) {L : List (List UInt8)} (h : isS qq L = true) : ∃ (m : Nat) (R : List (List Nat)),L = R.map stW ∧ (∀ w ∈ R,w.length = m ∧ ∀ c ∈ w,c < qq) ∧ 1 ≤ m ∧ m ≤ 5 ∧ 1 ≤ R.length ∧ R.length ≤ 40 ∧ (L.getD 0 []).length = m:=by
 unfold isS at h
 simp only [Bool.and_eq_true,decide_eq_true_eq] at h
 obtain ⟨⟨h1,h2⟩,h3⟩:=h
 obtain ⟨R,h4,h5⟩:=words_all (m:=(L.getD 0 []).length) q3 fun s hs => by
  have:=List.all_eq_true.1 h3 s hs
  unfold rowOkS at this
  simpa only [Bool.and_eq_true,decide_eq_true_eq] using this
 have hl : R.length = L.length:=by rw [h4,List.length_map]
 exact ⟨_,R,h4,h5,h2.1,h2.2,by omega,by omega,rfl⟩
def Post45 (a : AR) (L : List (List UInt8)) (v : AV) (own : List AObj) : Prop:=own = [] ∧ ((a.ru && isS a.q.toNat L) = false → v = .tup [.bool false,G 2]) ∧ ((a.ru && isS a.q.toNat L) = true → ∀ R : List (List Nat),L = R.map stW → (∀ w ∈ R,∀ c ∈ w,c < a.q.toNat) → v = .tup [.bool (kpS a.g R),G 0])
section
variable {a : AR} {x : AV} {L : List (List UInt8)}
theorem stW_map_inj {R R' : List (List Nat)} (h : ∀ w ∈ R,∀ c ∈ w,c < 3) (h' : ∀ w ∈ R',∀ c ∈ w,c < 3) (e : R.map stW = R'.map stW) : R = R':=by
 induction R generalizing R' with
 | nil =>
  cases R' with
  | nil => rfl
  | cons b R' => simp at e
 | cons b R ih =>
  cases R' with
  | nil => simp at e
  | cons b' R' =>
   simp only [List.map_cons,List.cons.injEq] at e
   rw [stW_inj (h b (by simp)) (h' b' (by simp)) e.1,ih (fun w hw => h w (by simp [hw])) (fun w hw => h' w (by simp [hw])) e.2]
end
structure A45 where
 a : AR
 x : AV
 L : List (List UInt8)
def Ok45 (b : A45) (h : Heap) : Prop:=OkR b.a h ∧ EL h b.x (ss b.L) ∧ b.L.length ≤ 1000000 ∧ ∀ s ∈ b.L,s.length ≤ 1000000
def Pre45 (b : A45) (args : List AV) (h : Heap) : Prop:=Ok45 b h ∧ args = [b.a.v,b.x]
noncomputable def T69 : CallF:=addK tbl T68 45 Pre45 (fun b _ v own => Post45 b.a b.L v own)
theorem t69 : Sound Go.Proofs.Try.prog T69:=Sound.addK follows ok t68 (by decide) _ _
end Go.Proofs.Ytljgfdamdcikgaa.Ev
set_option linter.unusedVariables false
set_option linter.unusedSimpArgs false
namespace Go.Proofs.Ytljgfdamdcikgaa.Ev
open Go Go.AEv
def ge (g : List (List Nat)) (i j : Nat) : Nat:=(g.getD i []).getD j 0
def pf (f : Nat → Nat) (a : Nat) : Nat:=((List.range a).map f).sum
section
variable {S : List (List Nat)}
def eS (S : List (List Nat)) (a b : Nat) : Nat:=(S.getD a []).getD b 0
def lS (S : List (List Nat)) (a : Nat) : Nat:=(S.getD a []).length
def w2 (S : List (List Nat)) (a b : Nat) : Nat:=pf (fun b => lS S (eS S a b)) b
def w3 (S : List (List Nat)) (a b : Nat) : Nat:=pf (fun b => if eS S a b = a then 1 else 0) b
variable (nd : ∀ i,(S.getD i []).Nodup)
include nd
omit nd in
end
structure BdS (S : List (List Nat)) : Prop where
 l : ∀ a,lS S a ≤ 1000
 n : S.length ≤ 1000
section
variable {S : List (List Nat)} (o : BdS S)
include o
omit o in
omit o in
end
section
variable {S : List (List Nat)}
def wl (S : List (List Nat)) : Nat → Nat → List (List Nat)
 | 0,i => [[i]]
 | k + 1,i => (S.getD i []).flatMap fun c => (wl S k c).map (i :: ·)
end
def ix (S : List (List Nat)) : Int → List Nat → Nat
 | _,[] => 0
 | now,c :: L => ft (pN S now) (cnt S L.length) c 0 + ix S (c : Int) L
def VC (S : List (List Nat)) : Int → List Nat → Prop
 | _,[] => True
 | now,c :: L => c < S.length ∧ pN S now c = true ∧ VC S (c : Int) L
section
variable {S : List (List Nat)}
end
end Go.Proofs.Ytljgfdamdcikgaa.Ev
set_option linter.unusedVariables false
set_option linter.unusedSimpArgs false
namespace Go.Proofs.Ytljgfdamdcikgaa.Ev
open Go Go.AEv
attribute [local simp] evFunc initS evOps_c evTrim_c evSkip_c evExit_c evRet_c evSeq_c evCond_c evBlock_c evDraw_c runOps_n runOps_c exec_n exec_g pure1_c act AOpd.ev T.get T.set T.put evBin evUn forceT_eq forceV_eq forceL_eq evRess evRes one keep runFP_n runFP_c app_none AV.flats AV.flat came_some List.getElem?_cons_zero List.getElem?_cons_succ beqT wrapI idxI tdivI tmodI decT decF ibT ibF inT inF evScope_c if_pos if_neg Cm_some thenW_n thenW_e thenW_r blkW_n blkW_e blkW_r goI kn putAt AV.cells fillA loadA takeA mk Eff.isAll Eff.isNone Eff.commutes Eff.spares okPair apart eqAgg fits LK.fits allEq aveq eqk mmA
theorem own_all (own : List AObj) : Eff.isAll (if own = [] then Eff.none else Eff.grow own) = false:=by
 split <;> rfl
theorem isAll_none : Eff.isAll Eff.none = false:=rfl
theorem pos_of {W : List (List Int)} {rows : List (List Nat)} : ∀ (R : List (List Nat)) (now : Int),(now = -1 ∨ ∃ c : Nat,now = c ∧ c < rows.length ∧ (∀ w,R[0]? = some w → blw W (rows.getD c []) w = true)) → (∀ w ∈ R,w ∈ rows) → (∀ i,i + 1 < R.length → blw W (R.getD i []) (R.getD (i + 1) []) = true) → ∃ P,R = rT2 rows P ∧ VC (stL W rows) now P
 | [],now,_,_,_ => ⟨[],rfl,trivial⟩
 | w :: R,now,h1,h2,h3 => by
  obtain ⟨c,hc,e⟩:=List.mem_iff_getElem.1 (h2 w (by simp))
  have ew : rows.getD c [] = w:=by rw [List.getD_eq_getElem?_getD,List.getElem?_eq_getElem hc]; exact e
  have sl : (stL W rows).length = rows.length:=by simp [stL]
  obtain ⟨P,e1,e2⟩:=pos_of R (c : Int) (.inr ⟨c,rfl,hc,fun w' hw' => by
   have hl:=(List.getElem?_eq_some_iff.1 hw').1
   have:=h3 0 (by rw [List.length_cons]; omega)
   rw [ew]
   have e0 : (w :: R).getD 1 [] = w':=by
    rw [List.getD_eq_getElem?_getD]
    show (R[0]?).getD [] = w'
    rw [hw']; rfl
   have e1 : (w :: R).getD 0 [] = w:=rfl
   rw [e1,e0] at this
   exact this⟩) (fun v hv => h2 v (by simp [hv])) (fun i hi => h3 (i + 1) (by rw [List.length_cons]; omega))
  refine ⟨c :: P,?_,by rw [sl]; exact hc,?_,e2⟩
  ·show w :: R = rows.getD c [] :: rT2 rows P
   rw [ew,e1]
  ·unfold pN
   rcases h1 with rfl | ⟨d,rfl,hd,hb⟩
   ·rfl
   ·rw [Int.toNat_natCast,stL_mem hd hc,ew,hb w rfl,Bool.or_true]
theorem rT2_inj {rows : List (List Nat)} (nd : rows.Nodup) : ∀ {P Q : List Nat},(∀ c ∈ P,c < rows.length) → (∀ c ∈ Q,c < rows.length) → rT2 rows P = rT2 rows Q → P = Q
 | [],[],_,_,_ => rfl
 | [],_ :: _,_,_,e => by simp [rT2] at e
 | _ :: _,[],_,_,e => by simp [rT2] at e
 | c :: P,d :: Q,h1,h2,e => by
  simp only [rT2,List.map_cons,List.cons.injEq] at e
  have hc:=h1 c (by simp)
  have hd:=h2 d (by simp)
  have e1:=e.1
  rw [List.getD_eq_getElem?_getD,List.getD_eq_getElem?_getD,List.getElem?_eq_getElem hc,List.getElem?_eq_getElem hd] at e1
  have : c = d:=by
   rcases Nat.lt_trichotomy c d with l | l | l
   ·exact absurd e1 ((List.pairwise_iff_getElem.1 nd) c d hc hd l)
   ·exact l
   ·exact absurd e1.symm ((List.pairwise_iff_getElem.1 nd) d c hd hc l)
  subst this
  rw [rT2_inj nd (fun x hx => h1 x (by simp [hx])) (fun x hx => h2 x (by simp [hx])) e.2]
theorem VC.lt {S : List (List Nat)} : ∀ {P : List Nat} {now : Int},VC S now P → ∀ c ∈ P,c < S.length
 | [],_,_,c,h => by cases h
 | d :: P,now,⟨h1,_,h3⟩,c,h => by
  rcases List.mem_cons.1 h with rfl | h
  ·exact h1
  ·exact h3.lt c h
theorem rows_nd (q : Nat) (B : List (List Int)) (m : Nat) : (rwL q B m).Nodup:=List.Nodup.sublist List.filter_sublist (exL_nd m [])
theorem kpS_iff {a : AG} {R : List (List Nat)} : kpS a R = true ↔ ∀ i,i < R.length → bsd a.B (R.getD i []) = true ∧ (i = 0 ∨ blw a.W (R.getD (i - 1) []) (R.getD i []) = true):=by
 unfold kpS
 rw [af_iff]
 constructor
 ·intro h i hi
  have:=h i (Nat.zero_le _) (by omega)
  unfold kpB at this
  simpa only [Bool.and_eq_true,Bool.or_eq_true,decide_eq_true_eq] using this
 ·intro h i _ hi
  have:=h i (by omega)
  unfold kpB
  simpa only [Bool.and_eq_true,Bool.or_eq_true,decide_eq_true_eq] using this
theorem pos_ex {a : AG} {m : Nat} {R : List (List Nat)} (ws : WS a m R) (k : kpS a R = true) : ∃ P,R = rT2 (rwL a.q a.B m) P ∧ VC (stL a.W (rwL a.q a.B m)) (-1) P:=by
 have kk:=kpS_iff.1 k
 refine pos_of R (-1) (.inl rfl) (fun w hw => ?_) (fun i hi => ?_)
 ·obtain ⟨i,hi,rfl⟩:=List.mem_iff_getElem.1 hw
  obtain ⟨h1,h2⟩:=ws.w _ hw
  have hb:=(kk i hi).1
  have e : R.getD i [] = R[i]:=by rw [List.getD_eq_getElem?_getD,List.getElem?_eq_getElem hi]; rfl
  rw [e] at hb
  have:=exL_of (q:=a.q) m [] R[i] h1 h2
  rw [List.nil_append] at this
  exact List.mem_filter.2 ⟨this,hb⟩
 ·have:=(kk (i + 1) hi).2
  rw [Nat.add_sub_cancel] at this
  exact this.resolve_left (by omega)
def Post44 (a : AR) (L : List (List UInt8)) (v : AV) (own : List AObj) : Prop:=own = [] ∧
 ((a.ru && isS a.q.toNat L) = false → v = .tup [G 0,G 2]) ∧
 ((a.ru && isS a.q.toNat L) = true → okC (a.steps (L.getD 0 []).length) L.length = false → v = .tup [G 0,G 5]) ∧
 ((a.ru && isS a.q.toNat L) = true → okC (a.steps (L.getD 0 []).length) L.length = true → ∀ R : List (List Nat),L = R.map stW → (∀ w ∈ R,∀ c ∈ w,c < a.q.toNat) → (kpS a.g R = false → v = .tup [G 0,G 6]) ∧
  ∀ P : List Nat,kpS a.g R = true → R = rT2 (a.rows (L.getD 0 []).length) P → VC (a.steps (L.getD 0 []).length) (-1) P → v = .tup [G (ix (a.steps (L.getD 0 []).length) (-1) P),G 0])
section
variable {a : AR} {x : AV} {L : List (List UInt8)}
end
noncomputable def T70 : CallF:=addK tbl T69 44 Pre45 (fun b _ v own => Post44 b.a b.L v own)
theorem t70 : Sound Go.Proofs.Try.prog T70:=Sound.addK follows ok t69 (by decide) _ _
end Go.Proofs.Ytljgfdamdcikgaa.Ev
set_option linter.unusedVariables false
set_option linter.unusedSimpArgs false
namespace Go.Proofs.Ytljgfdamdcikgaa.Ev
open Go Go.AEv
def exC (S : List (List Nat)) (k i : Nat) : Nat:=((S.getD i []).find? (al S k)).getD 0
def ext (S : List (List Nat)) : Nat → Nat → List Nat
 | 0,_ => []
 | k + 1,i => exC S k i :: ext S k (exC S k i)
theorem ext_len (S : List (List Nat)) : ∀ k i,(ext S k i).length = k
 | 0,_ => rfl
 | k + 1,i => by
  unfold ext
  rw [List.length_cons,ext_len S k]
section
variable {S : List (List Nat)}
theorem exC_find {k i : Nat} (h : al S (k + 1) i = true) : (S.getD i []).find? (al S k) = some (exC S k i):=by
 have a : al S (k + 1) i = (S.getD i []).any (al S k):=rfl
 rw [a,List.any_eq_true] at h
 obtain ⟨c,h1,h2⟩:=h
 cases e : (S.getD i []).find? (al S k) with
 | none => exact absurd h2 (List.find?_eq_none.1 e c h1)
 | some d => unfold exC; rw [e]; rfl
theorem exC_ok {k i : Nat} (h : al S (k + 1) i = true) : exC S k i ∈ S.getD i [] ∧ al S k (exC S k i) = true :=
 ⟨List.mem_of_find?_eq_some (exC_find h),List.find?_some (exC_find h)⟩
end
end Go.Proofs.Ytljgfdamdcikgaa.Ev
set_option linter.unusedVariables false
set_option linter.unusedSimpArgs false
namespace Go.Proofs.Ytljgfdamdcikgaa.Ev
open Go Go.AEv
attribute [local simp] evFunc initS evOps_c evTrim_c evSkip_c evExit_c evRet_c evSeq_c evCond_c evBlock_c evDraw_c runOps_n runOps_c exec_n exec_g pure1_c act AOpd.ev T.get T.set T.put evBin evUn forceT_eq forceV_eq forceL_eq evRess evRes one keep runFP_n runFP_c app_none AV.flats AV.flat came_some List.getElem?_cons_zero List.getElem?_cons_succ beqT wrapI idxI tdivI tmodI decT decF ibT ibF inT inF evScope_c if_pos if_neg Cm_some thenW_n thenW_e thenW_r blkW_n blkW_e blkW_r goI kn putAt AV.cells fillA loadA takeA mk Eff.isAll Eff.isNone Eff.commutes Eff.spares okPair apart eqAgg fits LK.fits allEq aveq eqk mmA
def bfr : List (List UInt8) → List (List UInt8) → Bool
 | a :: L,b :: M => if a = b then bfr L M else Op.bytesLess a b
 | _,_ => false
section
variable {L M : List (List UInt8)} {b1 v1 b2 v2 n : Nat}
end
structure A54 where
 L : List (List UInt8)
 M : List (List UInt8)
 b1 : Nat
 v1 : Nat
 b2 : Nat
 v2 : Nat
 n : Nat
def Ok54 (a : A54) (h : Heap) : Prop:=h.get a.b1 = .cells 1 a.v1 (ss a.L) ∧ h.get a.b2 = .cells 1 a.v2 (ss a.M) ∧ a.L.length = a.n ∧ a.M.length = a.n ∧ a.n ≤ 1000000
def Pre54 (a : A54) (args : List AV) (h : Heap) : Prop:=Ok54 a h ∧ args = [.slice a.b1 0 a.n a.v1,.slice a.b2 0 a.n a.v2]
def Post54 (a : A54) (h : Heap) (v : AV) (own : List AObj) : Prop:=v = .bool (bfr a.L a.M) ∧ own = []
noncomputable def T71 : CallF:=addK tbl T70 54 Pre54 Post54
theorem t71 : Sound Go.Proofs.Try.prog T71:=Sound.addK follows ok t70 (by decide) _ _
def RBb (n m : Nat) (x : Bool) : List AV:=List.replicate m (.bool x) ++ List.replicate (n - m) (.bool false)
theorem RBb_len {n m : Nat} {x : Bool} (h : m ≤ n) : (RBb n m x).length = n:=by simp [RBb]; omega
theorem RBb_take (n m : Nat) (x : Bool) : (RBb n m x).take m = List.replicate m (.bool x):=by simp [RBb]
theorem RBb_all (n : Nat) (x : Bool) : RBb n n x = List.replicate n (.bool x):=by simp [RBb]
theorem RBb_put {n m k : Nat} {x : Bool} (h : m + k ≤ n) : putAt (RBb n m x) m (List.replicate k (.bool x)) = RBb n (m + k) x:=by
 unfold RBb
 rw [rep_put _ _ _ _ (by simp; omega),List.drop_replicate,Nat.sub_sub]
section
variable {n : Nat} {x : Bool}
abbrev P79 (h : Heap) (n : Nat) (x : Bool) (m : Nat) : SP:=(fun s h' => s.get [false,false,false] = .slice h.size 0 n n ∧ s.get [true,false,false] = G m ∧ h' = ⟨h.get,h.size,[.cells 1 n (RBb n m x)]⟩)
theorem repb_loop (J : CallF) (h : Heap) (hn : n ≤ 243) : ∀ (j m : Nat),n - m ≤ j → 1 ≤ m → m ≤ n → Tr tbl J c79_l0 (P79 h n x m) (.exit 0) (P79 h n x n):=by
 intro j
 induction j with
 | zero =>
  intro m hj h1 h2
  obtain rfl : m = n:=by omega
  have t : Tr tbl J ((.trim [[false,false,false],[true,false,false]] c79_b0)) (fun s h' => s.get [false,false,false] = .slice h.size 0 m m ∧ s.get [true,false,false] = G m ∧ h' = ⟨h.get,h.size,[.cells 1 m (RBb m m x)]⟩) (.exit 0) (fun s h' => s.get [false,false,false] = .slice h.size 0 m m ∧ s.get [true,false,false] = G m ∧ h' = ⟨h.get,h.size,[.cells 1 m (RBb m m x)]⟩):=Tr.region fun s h hp => by
   obtain ⟨g0,g1,rfl⟩:=hp
   simp (disch:=first|omega|exact zE rfl|exact zO|exact zL rfl) [c79_b0,c79_o8,frameOf,Heap.size,Heap.get,Eff.app,Heap.setOwn,g0,g1]
  exact Tr.out t (by simp)
 | succ j ih =>
  intro m hj h1 h2
  by_cases hm : m = n
  ·exact ih m (by omega) h1 h2
  ·obtain ⟨k,hk⟩ : ∃ k,k = min m (n - m):=⟨_,rfl⟩
   have hkm : m + k ≤ n:=by omega
   have e1:=RBb_len (n:=n) (m:=m) (x:=x) h2
   have e2:=RBb_take n m x
   have e3:=RBb_put (n:=n) (m:=m) (k:=k) (x:=x) hkm
   have e4 : min m (n - m) = k:=hk.symm
   have e5 : min k m = k:=by omega
   obtain ⟨cs,hcs⟩ : ∃ cs,RBb n m x = cs:=⟨_,rfl⟩
   rw [hcs] at e1 e2 e3
   have hm0 : ¬ (m = n ∧ 0 < n):=by omega
   have hm1 : ¬ (0 = n ∧ 0 < n):=by omega
   have t : Tr tbl J ((.trim [[false,false,false],[true,false,false]] c79_b0)) (fun s h' => s.get [false,false,false] = .slice h.size 0 n n ∧ s.get [true,false,false] = G m ∧ h' = ⟨h.get,h.size,[.cells 1 n cs]⟩) .normal (fun s h' => s.get [false,false,false] = .slice h.size 0 n n ∧ s.get [true,false,false] = G ((m + k : Nat) : Int) ∧ h' = ⟨h.get,h.size,[.cells 1 n (RBb n (m + k) x)]⟩):=Tr.region fun s h hp => by
    obtain ⟨g0,g1,rfl⟩:=hp
    simp (disch:=first|omega|exact zE rfl|exact zO|exact zL rfl) [c79_b0,c79_o8,c79_o9,frameOf,Heap.size,Heap.get,Eff.app,Heap.setOwn,g0,g1,slSlA,bounds,elems,copyA,rdOf,hm0,hm1,e1,e2,e3,e4,e5,List.take_replicate]
    omega
   rw [← hcs] at t
   exact Tr.next t (ih (m + k) (by omega) (by omega) (by omega))
theorem c79_ok (J : CallF) (k99 : ∀ (h : Heap) (n : Int),0 ≤ n → n < 244 → J 99 [.int .u64 1,.int .u64 n] h = some (.tup [.int .u64 0,.int .u64 n],[],false)) (hJ : ∀ a h,J 79 a h = none) (h : Heap) (b : Nat) (hb : h.get b = .cells 1 1 [.bool x]) (h1 : 1 ≤ n) (h2 : n ≤ 243) :
  CallsTo tbl J 79 [.slice b 0 1 1,G n] h (.slice h.size 0 n n,[.cells 1 n (List.replicate n (.bool x))],false):=by
 have hlt:=get_lt hb (by simp)
 have wu : ∀ z : Int,0 ≤ z → z < 244 → IntKind.u64.wrap z = z:=fun z _ _ => by unfold IntKind.wrap IntKind.bits IntKind.signed; simp; omega
 refine Tr.fnh (cf:=c79) (e:=.ret) (s:=T.set (T.set .leaf [] (.slice b 0 1 1)) [false] (G n)) (by decide) rfl (hJ _ _) rfl rfl rfl (by simp) ?_
 have t0 : Tr tbl J (c79_o0) (fun s h' => s = T.set (T.set .leaf [] (.slice b 0 1 1)) [false] (G n) ∧ h' = frameOf h) .normal (fun s h' => s.get [] = .slice b 0 1 1 ∧ s.get [false] = G n ∧ h' = ⟨h.get,h.size,[]⟩):=Tr.region fun s h hp => by
  obtain ⟨rfl,rfl⟩:=hp
  simp (disch:=first|omega|exact zE rfl|exact zO|exact zL rfl) [c79_o0,frameOf,Heap.size,Heap.get,Eff.app,Heap.setOwn]
 have t1 : Tr tbl J ((.seq c79_o1 (.cond (.s [true,true,false]) c79_o2 .skip))) (fun s h' => s.get [] = .slice b 0 1 1 ∧ s.get [false] = G n ∧ h' = ⟨h.get,h.size,[]⟩) .normal (fun s h' => s.get [] = .slice b 0 1 1 ∧ s.get [false] = G n ∧ h' = ⟨h.get,h.size,[]⟩):=Tr.region fun s h hp => by
  obtain ⟨g0,g1,rfl⟩:=hp
  simp (disch:=first|omega|exact zE rfl|exact zO|exact zL rfl) [c79_o1,frameOf,Heap.size,Heap.get,Eff.app,Heap.setOwn,g0,g1]
 have t2 : Tr tbl J (c79_o3) (fun s h' => s.get [] = .slice b 0 1 1 ∧ s.get [false] = G n ∧ h' = ⟨h.get,h.size,[]⟩) .normal (fun s h' => s.get [] = .slice b 0 1 1 ∧ s.get [false,true] = .int .u64 0 ∧ s.get [true,true] = .int .u64 n ∧ h' = ⟨h.get,h.size,[]⟩):=Tr.region fun s h hp => by
  obtain ⟨g0,g1,rfl⟩:=hp
  simp (disch:=first|omega|exact zE rfl|exact zO|exact zL rfl) [c79_o3,frameOf,Heap.size,Heap.get,Eff.app,Heap.setOwn,g0,g1,wu,k99]
 have t3 : Tr tbl J ((.seq c79_o4 (.cond (.s [true,true,false,true]) c79_o5 .skip))) (fun s h' => s.get [] = .slice b 0 1 1 ∧ s.get [false,true] = .int .u64 0 ∧ s.get [true,true] = .int .u64 n ∧ h' = ⟨h.get,h.size,[]⟩) .normal (fun s h' => s.get [] = .slice b 0 1 1 ∧ s.get [true,true] = .int .u64 n ∧ h' = ⟨h.get,h.size,[]⟩):=Tr.region fun s h hp => by
  obtain ⟨g0,g1,g2,rfl⟩:=hp
  simp (disch:=first|omega|exact zE rfl|exact zO|exact zL rfl) [c79_o4,frameOf,Heap.size,Heap.get,Eff.app,Heap.setOwn,g0,g1,g2]
 have e0 : RBb n 1 x = (List.replicate n (.bool false)).set 0 (.bool x):=by
  obtain ⟨N,rfl⟩ : ∃ N,n = N + 1:=⟨n - 1,by omega⟩
  simp [RBb,List.replicate_succ]
 have t4 : Tr tbl J ((.seq c79_o6 c79_o7)) (fun s h' => s.get [] = .slice b 0 1 1 ∧ s.get [true,true] = .int .u64 n ∧ h' = ⟨h.get,h.size,[]⟩) .normal (fun s h' => s.get [false,false,false] = .slice h.size 0 n n ∧ s.get [true,false,false] = G ((1 : Nat) : Int) ∧ h' = ⟨h.get,h.size,[.cells 1 n (RBb n 1 x)]⟩):=Tr.region fun s h hp => by
  obtain ⟨g0,g1,rfl⟩:=hp
  rw [e0]
  simp (disch:=first|omega|exact zE rfl|exact zO|exact zL rfl) [c79_o6,c79_o7,size_mk,get_mk_lt,get_mk_ge,frameOf,Eff.app,Heap.setOwn,g0,g1,repl,elems,copyA,rdOf,hb]
  omega
 have t5 : Tr tbl J ((.seq c79_o10 .ret)) (fun s h' => s.get [false,false,false] = .slice h.size 0 n n ∧ s.get [true,false,false] = G n ∧ h' = ⟨h.get,h.size,[.cells 1 n (RBb n n x)]⟩) .ret (fun s h' => s.get [true,false] = .slice h.size 0 n n ∧ h' = ⟨h.get,h.size,[.cells 1 n (RBb n n x)]⟩):=Tr.region fun s h hp => by
  obtain ⟨g0,g1,rfl⟩:=hp
  simp (disch:=first|omega|exact zE rfl|exact zO|exact zL rfl) [c79_o10,frameOf,Heap.size,Heap.get,Eff.app,Heap.setOwn,g0,g1]
 refine Tr.post (fun s h' q => ?_) (Tr.seq t0 (Tr.seq t1 (Tr.seq t2 (Tr.seq t3 (Tr.app2 t4 (Tr.seq (Tr.block (repb_loop J h h2 n 1 (by omega) (by omega) h1)) t5))))))
 obtain ⟨q1,rfl⟩:=q
 simp [c79,q1,RBb_all]
theorem c79_0 (J : CallF) (k99 : ∀ (h : Heap) (n : Int),0 ≤ n → n < 244 → J 99 [.int .u64 1,.int .u64 n] h = some (.tup [.int .u64 0,.int .u64 n],[],false)) (hJ : ∀ a h,J 79 a h = none) (h : Heap) (b : Nat) (hb : h.get b = .cells 1 1 [.bool x]) :
  CallsTo tbl J 79 [.slice b 0 1 1,G 0] h (.slice h.size 0 0 0,[.cells 1 0 []],false):=by
 have hlt:=get_lt hb (by simp)
 have wu : ∀ z : Int,0 ≤ z → z < 244 → IntKind.u64.wrap z = z:=fun z _ _ => by unfold IntKind.wrap IntKind.bits IntKind.signed; simp; omega
 refine Tr.fnh (cf:=c79) (e:=.ret) (s:=T.set (T.set .leaf [] (.slice b 0 1 1)) [false] (G 0)) (by decide) rfl (hJ _ _) rfl rfl rfl (by simp) ?_
 refine Tr.post (Q:=(fun s h' => h' = ⟨h.get,h.size,[.cells 1 0 []]⟩ ∧ s.get [true,false] = .slice h.size 0 0 0)) (fun s h' q => by
  obtain ⟨rfl,q1⟩:=q
  simp [c79,q1]) ?_
 have l0 : Tr tbl J c79_l0 (fun s h' => h' = ⟨h.get,h.size,[.cells 1 0 []]⟩ ∧ s.get [false,false,false] = .slice h.size 0 0 0 ∧ s.get [true,false,false] = G 0) (.exit 0) (fun s h' => h' = ⟨h.get,h.size,[.cells 1 0 []]⟩ ∧ s.get [false,false,false] = .slice h.size 0 0 0):=by
  refine Tr.out ?_ (by simp)
  refine Tr.w fun s1 H1 hp _ kR => W.trim ?_
  obtain ⟨rfl,q⟩:=hp
  refine W.assoc ?_
  refine zCh ?_
  simp (disch:=first|omega|exact zE rfl|exact zO|exact zL rfl) [c79_o8,size_mk,get_mk_lt,get_mk_ge,frameOf,Eff.app,Heap.setOwn,q]
  refine zCh ?_
  simp (disch:=first|omega|exact zE rfl|exact zO|exact zL rfl) [size_mk,get_mk_lt,get_mk_ge,frameOf,Eff.app,Heap.setOwn,q]
  exact kR _ _ (by simp [T.get,q])
 refine Tr.w fun s1 H1 hp _ kR => ?_
 obtain ⟨rfl,rfl⟩:=hp
 have q : True:=trivial
 refine zCh ?_
 simp (disch:=first|omega|exact zE rfl|exact zO|exact zL rfl) [c79_o0,size_mk,get_mk_lt,get_mk_ge,frameOf,Eff.app,Heap.setOwn,q]
 refine W.assoc ?_
 refine zCh ?_
 simp (disch:=first|omega|exact zE rfl|exact zO|exact zL rfl) [c79_o1,size_mk,get_mk_lt,get_mk_ge,frameOf,Eff.app,Heap.setOwn,q]
 refine zCh ?_
 simp (disch:=first|omega|exact zE rfl|exact zO|exact zL rfl) [c79_o2,size_mk,get_mk_lt,get_mk_ge,frameOf,Eff.app,Heap.setOwn,q]
 refine zCh ?_
 simp (disch:=first|omega|exact zE rfl|exact zO|exact zL rfl) [c79_o3,size_mk,get_mk_lt,get_mk_ge,frameOf,Eff.app,Heap.setOwn,q,wu,k99]
 refine W.assoc ?_
 refine zCh ?_
 simp (disch:=first|omega|exact zE rfl|exact zO|exact zL rfl) [c79_o4,size_mk,get_mk_lt,get_mk_ge,frameOf,Eff.app,Heap.setOwn,q]
 refine zCh ?_
 simp (disch:=first|omega|exact zE rfl|exact zO|exact zL rfl) [c79_o5,size_mk,get_mk_lt,get_mk_ge,frameOf,Eff.app,Heap.setOwn,q]
 refine zCh ?_
 simp (disch:=first|omega|exact zE rfl|exact zO|exact zL rfl) [c79_o6,size_mk,get_mk_lt,get_mk_ge,frameOf,Eff.app,Heap.setOwn,q,repl]
 refine zCh ?_
 simp (disch:=first|omega|exact zE rfl|exact zO|exact zL rfl) [c79_o7,size_mk,get_mk_lt,get_mk_ge,frameOf,Eff.app,Heap.setOwn,q,elems,copyA,rdOf,hb]
 refine W.seq (W.block ?_)
 refine W.use (l0) (by simp (disch:=first|omega|exact zE rfl|exact zO|exact zL rfl) [size_mk,get_mk_lt,get_mk_ge,frameOf,Eff.app,Heap.setOwn,q,(show min 1 0 = 0 from rfl),(show min (1 : Int) 0 = 0 from rfl)]) fun s1 H1 hp => ?_
 obtain ⟨rfl,q⟩:=hp
 try simp only [zW,if_true]
 refine zCh ?_
 simp (disch:=first|omega|exact zE rfl|exact zO|exact zL rfl) [c79_o10,size_mk,get_mk_lt,get_mk_ge,frameOf,Eff.app,Heap.setOwn,q]
 refine W.ret ?_
 try simp only [zW,if_true]
 exact kR _ _ (by simp [T.get,q])
end
def spec79 : SpecF:=fun args h => match args with
 | [.slice b 0 1 1,.int .i64 n] => match h.get b with
  | .cells 1 1 [.bool x] => if 0 ≤ n ∧ n ≤ 243 then some (.slice h.size 0 n.toNat n.toNat,[.cells 1 n.toNat (List.replicate n.toNat (.bool x))],false) else none
  | _ => none
 | _ => none
theorem k99_71 (h : Heap) (n : Int) (h1 : 0 ≤ n) (h2 : n < 244) : T71 99 [.int .u64 1,.int .u64 n] h = some (.tup [.int .u64 0,.int .u64 n],[],false):=by
 rw [show T71 99 [.int .u64 1,.int .u64 n] h = T33 99 [.int .u64 1,.int .u64 n] h from by simp (disch:=decide) only [T34,T35,T36,T37,T38,T39,T40,T41,T42,T43,T44,T45,T46,T47,T48,T49,T50,T51,T52,T53,T54,T55,T56,T57,T58,T59,T60,T61,T62,T63,T64,T65,T66,T67,T68,T69,T70,T71,addI_ne,addX_ne,addV_ne,addK_ne]]; exact k99 h n h1 h2
noncomputable def T72 : CallF:=addI T71 79 spec79
theorem t72 : Sound Go.Proofs.Try.prog T72:=Sound.add follows ok t71 (by decide) (fun args h x e => by
 unfold spec79 at e
 split at e
 ·split at e
  ·split at e
   ·rename_i b n _ xv hg hh
    simp only [Option.some.injEq] at e; subst e
    obtain ⟨N,rfl⟩ : ∃ N : Nat,n = N:=⟨n.toNat,by omega⟩
    rcases Nat.eq_zero_or_pos N with rfl | hN
    ·exact c79_0 T71 k99_71 (fun _ _ => by simp (disch:=decide) only [T1,T2,T3,T4,T5,T6,T7,T8,T9,T10,T11,T12,T13,T14,T15,T16,T17,T18,T19,T20,T21,T22,T23,T24,T25,T26,T27,T28,T29,T30,T31,T32,T33,T34,T35,T36,T37,T38,T39,T40,T41,T42,T43,T44,T45,T46,T47,T48,T49,T50,T51,T52,T53,T54,T55,T56,T57,T58,T59,T60,T61,T62,T63,T64,T65,T66,T67,T68,T69,T70,T71,addI_ne,addX_ne,addV_ne,addK_ne]; rfl) h b hg
    ·exact c79_ok T71 k99_71 (fun _ _ => by simp (disch:=decide) only [T1,T2,T3,T4,T5,T6,T7,T8,T9,T10,T11,T12,T13,T14,T15,T16,T17,T18,T19,T20,T21,T22,T23,T24,T25,T26,T27,T28,T29,T30,T31,T32,T33,T34,T35,T36,T37,T38,T39,T40,T41,T42,T43,T44,T45,T46,T47,T48,T49,T50,T51,T52,T53,T54,T55,T56,T57,T58,T59,T60,T61,T62,T63,T64,T65,T66,T67,T68,T69,T70,T71,addI_ne,addX_ne,addV_ne,addK_ne]; rfl) h b hg (by omega) (by omega)
   ·cases e
  ·cases e
 ·cases e)
abbrev K79 (J : CallF) : Prop:=∀ (h : Heap) (b n : Nat) (x : Bool),h.get b = .cells 1 1 [.bool x] → n ≤ 243 → J 79 [.slice b 0 1 1,G n] h = some (.slice h.size 0 n n,[.cells 1 n (List.replicate n (.bool x))],false)
theorem k79 : K79 T72:=fun h b n x hb h2 => by
 have : (n : Int) ≤ 243:=by omega
 simp [T72,addI,spec79,hb,this]
theorem c82_ok (J : CallF) (hJ : ∀ a h,J 82 a h = none) (h : Heap) (a : A59) (ha : Ok59 a h) : CallsTo tbl J 82 [.slice a.b 0 a.n a.v] h (.slice h.size 0 a.n a.n,[.cells 1 a.n a.cs],false):=by
 obtain ⟨b,n,v,cs⟩:=a
 obtain ⟨hg,hl,h0,hn⟩:=ha
 simp only at hg hl h0 hn ⊢
 refine Tr.fnh (cf:=c82) (e:=.ret) (s:=T.set .leaf [] (.slice b 0 n v)) (by decide) rfl (hJ _ _) rfl rfl rfl (by simp) ?_
 have hb:=get_lt hg (by simp)
 have n0 : ¬ n = 0:=by omega
 have hel : ∀ own,elems ⟨h.get,h.size,own⟩ 1 (.slice b 0 n v) = some (n,cs):=fun own => by
  have e : Heap.get ⟨h.get,h.size,own⟩ b = .cells 1 v cs:=by rw [get_mk_lt _ _ _ _ hb]; exact hg
  simp only [elems,e,if_true,Nat.mul_one,List.drop_zero]
  rw [if_pos (by rw [List.length_take]; omega),List.take_of_length_le (by omega)]
 refine Tr.w fun s1 H1 hp _ kR => ?_
 obtain ⟨rfl,rfl⟩:=hp
 have q : True:=trivial
 refine zCh ?_
 simp (disch:=first|omega|exact zE rfl|exact zO|exact zL rfl) [c82_o0,size_mk,get_mk_lt,get_mk_ge,frameOf,Eff.app,Heap.setOwn,q]
 refine W.assoc ?_
 refine zCh ?_
 simp (disch:=first|omega|exact zE rfl|exact zO|exact zL rfl) [c82_o1,size_mk,get_mk_lt,get_mk_ge,frameOf,Eff.app,Heap.setOwn,q,eqk]
 refine zCh ?_
 simp (disch:=first|omega|exact zE rfl|exact zO|exact zL rfl) [c82_o2,size_mk,get_mk_lt,get_mk_ge,frameOf,Eff.app,Heap.setOwn,q]
 refine zCh ?_
 simp (disch:=first|omega|exact zE rfl|exact zO|exact zL rfl) [c82_o3,size_mk,get_mk_lt,get_mk_ge,frameOf,Eff.app,Heap.setOwn,q,hel,appA,n0,frameOf,rdOf]
 refine W.ret ?_
 try simp only [zW,if_true]
 exact kR _ _ (by simp [T.get,c82,evRess,evRes,one,hl])
def Pre82 (a : A59) (args : List AV) (h : Heap) : Prop:=Ok59 a h ∧ args = [.slice a.b 0 a.n a.v]
noncomputable def T73 : CallF:=addK tbl T72 82 Pre82 Post59
theorem t73 : Sound Go.Proofs.Try.prog T73:=Sound.addK follows ok t72 (by decide) _ _
abbrev K82 (J : CallF) : Prop:=∀ (h : Heap) (a : A59),Ok59 a h → J 82 [.slice a.b 0 a.n a.v] h = some (.slice h.size 0 a.n a.n,[.cells 1 a.n a.cs],false)
theorem k82 : K82 T73:=fun h a ha => by
 obtain ⟨v,own,e,rfl,rfl⟩:=addK_some (Pre:=Pre82) (Post:=Post59) (fun a args h hp => by
  obtain ⟨ha,rfl⟩:=hp
  exact ⟨_,_,c82_ok T72 (fun _ _ => by simp (disch:=decide) only [T1,T2,T3,T4,T5,T6,T7,T8,T9,T10,T11,T12,T13,T14,T15,T16,T17,T18,T19,T20,T21,T22,T23,T24,T25,T26,T27,T28,T29,T30,T31,T32,T33,T34,T35,T36,T37,T38,T39,T40,T41,T42,T43,T44,T45,T46,T47,T48,T49,T50,T51,T52,T53,T54,T55,T56,T57,T58,T59,T60,T61,T62,T63,T64,T65,T66,T67,T68,T69,T70,T71,T72,addI_ne,addX_ne,addV_ne,addK_ne]; rfl) h a ha,rfl,rfl⟩) a _ h ⟨ha,rfl⟩
 exact e
structure CK (h : Heap) (pc pk : Nat) (k j : Nat) (y : Bool) : Prop where
 c : ∃ bo n v ros br m w bs,h.get pc = .cells 0 1 [.slice bo 0 n v] ∧ h.get bo = .cells 1 v ros ∧ k < n ∧ ros.length = n ∧ ros[k]? = some (.slice br 0 m w) ∧ h.get br = .cells 1 w bs ∧ j < m ∧ bs.length = m ∧ bs[j]? = some (.bool y)
 k : h.get pk = .cells 0 1 [G k]
theorem c81_ok (J : CallF) (hJ : ∀ a h,J 81 a h = none) (h : Heap) {pc pk k j : Nat} {y : Bool} (o : CK h pc pk k j y) : CallsTo tbl J 81 [G j,.ptr pc 0 1,.ptr pk 0 1] h (.bool y,h.own,true):=by
 refine Tr.sh (cf:=c81) (e:=.ret) (s:=T.set (T.set (T.set .leaf [] (G j)) [false] (.ptr pc 0 1)) [true] (.ptr pk 0 1)) (by decide) rfl (hJ _ _) rfl rfl (by simp) ?_
 refine Tr.post (Q:=fun s h' => s.get [true,false] = .bool y ∧ h' = h) (fun s h' q => ⟨by simp [c81,q.1],q.2⟩) ?_
 obtain ⟨⟨bo,n,v,ros,br,m,w,bs,g1,g2,h1,l1,e1,g3,h2,l2,e2⟩,g4⟩:=o
 have e1':=getI e1
 have e2':=getI e2
 refine Tr.w fun s1 H1 hp _ kR => ?_
 obtain ⟨rfl,rfl⟩:=hp
 have q : True:=trivial
 refine zCh ?_
 simp (disch:=first|omega|exact zE rfl|exact zO|exact zL rfl) [c81_o0,zG,q]
 refine zCh ?_
 simp (disch:=first|omega|exact zE rfl|exact zO|exact zL rfl) [c81_o1,zG,q,g1,g2,g3,g4,e1,e1',e2,e2',l1,l2]
 refine W.ret ?_
 try simp only [zW,if_true]
 exact kR _ _ (by simp [T.get])
open Classical in
noncomputable def spec81 : SpecF:=fun args h => if hx : ∃ v,CallsTo tbl T3 81 args h (v,h.own,true) then some (Classical.choose hx,h.own,true) else none
noncomputable def U1 : CallF:=addI T3 81 spec81
theorem u1 : Sound Go.Proofs.Try.prog U1:=Sound.add follows ok t3 (by decide) (fun args h x e => by
 unfold spec81 at e
 split at e
 ·rename_i hx
  simp only [Option.some.injEq] at e; subst e
  exact Classical.choose_spec hx
 ·cases e)
abbrev K81 (J : CallF) : Prop:=∀ (h : Heap) {pc pk k j : Nat} {y : Bool},CK h pc pk k j y → J 81 [G j,.ptr pc 0 1,.ptr pk 0 1] h = some (.bool y,h.own,true)
theorem k81 : K81 U1:=fun h {pc pk k j y} o => by
 have e:=c81_ok T3 (fun _ _ => by simp (disch:=decide) only [T1,T2,T3,addI_ne,addX_ne,addV_ne,addK_ne]; rfl) h o
 have hx : ∃ v,CallsTo tbl T3 81 [G j,.ptr pc 0 1,.ptr pk 0 1] h (v,h.own,true):=⟨_,e⟩
 have : spec81 [G j,.ptr pc 0 1,.ptr pk 0 1] h = some (Classical.choose hx,h.own,true):=by
  unfold spec81; rw [dif_pos hx]
 show spec81 _ h = _
 rw [this]
 have d:=CallsTo.det (Classical.choose_spec hx) e
 simp only [Prod.mk.injEq,and_true] at d
 rw [d]
def Pre100u (a : A100) (args : List AV) (h : Heap) : Prop:=Ok100 U1 a h ∧ args = [a.x,.func a.f a.cap]
noncomputable def U2 : CallF:=addK tbl U1 100 Pre100u Post100
theorem u2 : Sound Go.Proofs.Try.prog U2:=Sound.addK follows ok u1 (by decide) _ _
theorem k100u : K100 U1 U2:=fun h a ha => by
 obtain ⟨v,own,e,rfl,rfl⟩:=addK_some (Pre:=Pre100u) (Post:=Post100) (fun a args h hp => by
  obtain ⟨⟨h1,h2,h3,h4⟩,rfl⟩:=hp
  exact ⟨_,_,c100_ok U1 (fun _ _ => by simp (disch:=decide) only [U1,T1,T2,T3,addI_ne,addX_ne,addV_ne,addK_ne]; rfl) h1 h h2 h3 h4,rfl,rfl⟩) a _ h ⟨ha,rfl⟩
 exact e
noncomputable def U3 : CallF:=addK tbl U2 80 Pre100u Post80
theorem u3 : Sound Go.Proofs.Try.prog U3:=Sound.addK follows ok u2 (by decide) _ _
theorem k80u : K80 U1 U3:=fun h a ha => by
 obtain ⟨v,own,e,rfl,rfl⟩:=addK_some (Pre:=Pre100u) (Post:=Post80) (fun a args h hp => by
  obtain ⟨h1,rfl⟩:=hp
  exact ⟨_,_,c80_ok U2 U1 (fun _ _ => by simp (disch:=decide) only [U2,U1,T1,T2,T3,addI_ne,addX_ne,addV_ne,addK_ne]; rfl) k100u h a h1,rfl,rfl⟩) a _ h ⟨ha,rfl⟩
 exact e
theorem Sound.put {P : Program} {I U : CallF} (hI : Sound P I) (hU : Sound P U) (f : Nat) : Sound P (addI I f (U f)):=fun g args h v own sh e => by
 unfold addI at e
 split at e
 ·rename_i hg
  subst hg
  exact hU _ args h v own sh e
 ·exact hI g args h v own sh e
noncomputable def T74 : CallF:=addI T73 80 (U3 80)
theorem t74 : Sound Go.Proofs.Try.prog T74:=Sound.put t73 u3 80
theorem k80_74 : K80 U1 T74:=fun h a ha => k80u h a ha
def lB (f : Nat → Bool) (n : Nat) : List AV:=(List.range n).map fun i => .bool (f i)
theorem lB_len (f : Nat → Bool) (n : Nat) : (lB f n).length = n:=by simp [lB]
theorem lB_at (f : Nat → Bool) {n i : Nat} (h : i < n) : (lB f n)[i]? = some (.bool (f i)):=by
 unfold lB
 rw [List.getElem?_map,List.getElem?_range h]; rfl
theorem lB_ext {f g : Nat → Bool} {n : Nat} (h : ∀ t,t < n → f t = g t) : lB f n = lB g n:=by
 unfold lB
 apply List.map_congr_left
 intro t ht
 rw [h t (List.mem_range.1 ht)]
theorem lB_set (f : Nat → Bool) {n i : Nat} (h : i < n) (v : Bool) : (lB f n).set i (.bool v) = lB (fun t => if t = i then v else f t) n:=by
 apply List.ext_getElem?
 intro j
 by_cases hj : j < n
 ·rw [lB_at _ hj]
  by_cases e : i = j
  ·subst e
   rw [List.getElem?_set_self (by rw [lB_len]; exact h),if_pos rfl]
  ·rw [List.getElem?_set_ne e,lB_at _ hj,if_neg (fun h => e h.symm)]
 ·rw [List.getElem?_eq_none (by rw [List.length_set,lB_len]; omega),List.getElem?_eq_none (by rw [lB_len]; omega)]
theorem lB_rep (n : Nat) (y : Bool) : List.replicate n (.bool y) = lB (fun _ => y) n:=by
 apply List.ext_getElem?
 intro j
 by_cases hj : j < n
 ·rw [lB_at _ hj,List.getElem?_replicate,if_pos hj]
 ·rw [List.getElem?_eq_none (by simp; omega),List.getElem?_eq_none (by rw [lB_len]; omega)]
def rowsA (S : List (List Nat)) (k : Nat) : List (List AV):=(List.range k).map fun j => lB (al S j) S.length
theorem rowsA_len (S : List (List Nat)) (k : Nat) : (rowsA S k).length = k:=by simp [rowsA]
theorem rowsA_succ (S : List (List Nat)) (k : Nat) : rowsA S (k + 1) = rowsA S k ++ [lB (al S k) S.length]:=by simp [rowsA,List.range_succ]
theorem rowsA_at (S : List (List Nat)) {k i : Nat} (h : i < k) : (rowsA S k)[i]? = some (lB (al S i) S.length):=by
 unfold rowsA
 rw [List.getElem?_map,List.getElem?_range h]; rfl
theorem any_range (l : List Nat) (p : Nat → Bool) : ((List.range l.length).any fun t => p (l.getD t 0)) = l.any p:=by
 rw [Bool.eq_iff_iff,List.any_eq_true,List.any_eq_true]
 constructor
 ·rintro ⟨t,h1,h2⟩
  exact ⟨_,gD_mem (List.mem_range.1 h1),h2⟩
 ·rintro ⟨c,h1,h2⟩
  obtain ⟨t,ht,rfl⟩:=List.mem_iff_getElem.1 h1
  exact ⟨t,List.mem_range.2 ht,by rw [List.getD_eq_getElem?_getD,List.getElem?_eq_getElem ht]; exact h2⟩
theorem TB.appk {H0 h : Heap} (h0 : Nat) {x : AV} {M : List (List AV)} {b : Nat} {cs : List AV} (t : TB H0 h x M) (hv : h.get b = .cells 1 cs.length cs) (hb : blk x ≠ some b ∧ H0.size ≤ b) (hn : M.length ≤ 1000000) :
  ∃ x1 e h2,appA (h.plus [.cells 1 1 [.slice b 0 cs.length cs.length]]) h0 none 1 24 1 [.slice b 0 cs.length cs.length] x = some (x1,e) ∧ Eff.app e (h.plus [.cells 1 1 [.slice b 0 cs.length cs.length]]) = some h2 ∧ TB H0 h2 x1 (M ++ [cs]) ∧ Kp (fun q => blk x = some q) (h.plus [.cells 1 1 [.slice b 0 cs.length cs.length]]) h2 ∧ AV.cells x1 = some [x1]:=by
 obtain ⟨x1,e,h2,q1,q2,q3,q6⟩:=t.app h0 hv hb hn
 obtain ⟨rs,lv,hl,_⟩:=t.r
 obtain ⟨x1',e',h2',p1,p2,_,p4,_⟩:=app_v (h.plus [.cells 1 1 [.slice b 0 cs.length cs.length]]) h0 24 (.slice b 0 cs.length cs.length) (lv.kp (Kp.plus _ _) (fun _ _ => id)) (by omega)
 rw [q1] at p1
 simp only [Option.some.injEq,Prod.mk.injEq] at p1
 obtain ⟨rfl,rfl⟩:=p1
 rw [q2] at p2
 obtain rfl:=Option.some.inj p2
 exact ⟨_,_,_,q1,q2,q3,p4,q6⟩
theorem TB.updp {Z h : Heap} {z w : AV} {M : List (List AV)} (t : TB Z h z M) {pc : Nat} (g : h.get pc = .cells 0 1 [w]) (hp : Z.size ≤ pc) (w' : AV) : TB Z (h.upd pc (.cells 0 1 [w'])) z M ∧ (h.upd pc (.cells 0 1 [w'])).get pc = .cells 0 1 [w']:=by
 have hN : h.N ≤ pc:=by rw [t.k.N]; exact Nat.le_trans (by unfold Heap.size; omega) hp
 have ne : ∀ {b n cs},h.get b = .cells 1 n cs → (h.upd pc (.cells 0 1 [w'])).get b = .cells 1 n cs:=fun {b n cs} e => by
  rw [upd_ne _ _ _ _ hN (fun h => by subst h; rw [g] at e; cases e)]; exact e
 obtain ⟨rs,lv,hl,hr⟩:=t.r
 refine ⟨⟨t.k.updn pc _ hN hp,t.x0,rs,?_,hl,fun i r e => ?_⟩,upd_same _ _ _ hN (get_lt g (by simp))⟩
 ·rcases lv with h | ⟨b,e,g1,g2⟩
  ·exact .inl h
  ·exact .inr ⟨b,e,ne g1,g2⟩
 ·obtain ⟨cs,b,h1,h2,h3,h4⟩:=hr i r e
  exact ⟨cs,b,h1,h2,ne h3,h4⟩
section
variable {S : List (List Nat)} {p pc : Nat}
structure BY (Hk h : Heap) (b n : Nat) (f : Nat → Bool) : Prop where
 kp : Kp (fun _ => False) Hk h
 g : h.get b = .cells 1 n (lB f n)
def mB (S : List (List Nat)) (k i t : Nat) : Bool:=if t < i then al S (k + 1) t else false
structure CQ (S : List (List Nat)) (h : Heap) (pc k : Nat) (bo : Nat) (ros : List AV) : Prop where
 gp : h.get pc = .cells 0 1 [.slice bo 0 (k + 1) (k + 1)]
 go : h.get bo = .cells 1 (k + 1) ros
 lo : ros.length = k + 1
 r : ∀ i,i < k + 1 → ∃ b,ros[i]? = some (.slice b 0 S.length S.length) ∧ h.get b = .cells 1 S.length (lB (al S i) S.length)
theorem CQ.kp {h h' : Heap} {k bo : Nat} {ros : List AV} (c : CQ S h pc k bo ros) (kk : Kp (fun _ => False) h h') : CQ S h' pc k bo ros :=
 ⟨kk.at c.gp (by simp) id,kk.at c.go (by simp) id,c.lo,fun i hi => by
  obtain ⟨b,e1,e2⟩:=c.r i hi
  exact ⟨b,e1,kk.at e2 (by simp) id⟩⟩
theorem TB.cq {Z h : Heap} {z : AV} {k : Nat} (t : TB Z h z (rowsA S (k + 1))) (g : h.get pc = .cells 0 1 [z]) : ∃ bo ros,z = .slice bo 0 (k + 1) (k + 1) ∧ CQ S h pc k bo ros:=by
 obtain ⟨bo,ros,e1,e2,e3,e4⟩:=t.sl (i:=0) (by rw [rowsA_len]; omega)
 rw [rowsA_len] at e1 e2 e3
 refine ⟨bo,ros,e1,by rw [g,e1],e2,e3,fun i hi => ?_⟩
 obtain ⟨b,h1,h2⟩:=e4 i _ (rowsA_at S hi)
 rw [lB_len] at h1 h2
 exact ⟨b,h1,h2⟩
set_option maxHeartbeats 1000000 in
theorem c48_l0_ok (J : CallF) (k80 : K80 U1 J) {Hk : Heap} {nb k nn D b pk bo : Nat} {sb : AV} {rs ros : List AV} (g1 : Hk.get nb = .cells 1 S.length rs) (h4 : ∀ i,i < S.length → ∃ y,rs[i]? = some y ∧ RV Hk y (gn (S.getD i []))) (os : OkS S) (cq : CQ S Hk pc k bo ros) (gk : Hk.get pk = .cells 0 1 [G k]) (hb : Hk.size ≤ b) :
  Tr tbl J c48_l0 (fun s h => BY Hk h b S.length (mB S k 0) ∧ s.get [false] = sb ∧ s.get [true] = G nn ∧ s.get [true,false,false] = .ptr p 0 3 ∧ s.get [false,true,false] = .ptr pc 0 1 ∧ s.get [true,true,false] = .ptr pk 0 1 ∧ s.get [false,false,true] = .slice b 0 S.length S.length ∧ s.get [true,false,false,true,true] = G D ∧ s.get [false,true,false,true,true] = G k ∧ s.get [false,true,true,false,false,false] = .slice nb 0 S.length S.length ∧ s.get [true,true,true,false,false,false] = G S.length ∧ s.get [false,false,false,true,false,false] = G ((0 : Nat) : Int)) (.exit 2)
   (fun s h => BY Hk h b S.length (mB S k S.length) ∧ s.get [false] = sb ∧ s.get [true] = G nn ∧ s.get [true,false,false] = .ptr p 0 3 ∧ s.get [false,true,false] = .ptr pc 0 1 ∧ s.get [false,false,true] = .slice b 0 S.length S.length ∧ s.get [true,false,false,true,true] = G D ∧ s.get [false,true,false,true,true] = G k):=by
 have n2:=os.n
 refine Tr.rounds (e:=.exit 2) (P:=fun i s h => BY Hk h b S.length (mB S k i) ∧ s.get [false] = sb ∧ s.get [true] = G nn ∧ s.get [true,false,false] = .ptr p 0 3 ∧ s.get [false,true,false] = .ptr pc 0 1 ∧ s.get [true,true,false] = .ptr pk 0 1 ∧ s.get [false,false,true] = .slice b 0 S.length S.length ∧ s.get [true,false,false,true,true] = G D ∧ s.get [false,true,false,true,true] = G k ∧ s.get [false,true,true,false,false,false] = .slice nb 0 S.length S.length ∧ s.get [true,true,true,false,false,false] = G S.length ∧ s.get [false,false,false,true,false,false] = G i) (M:=S.length) (fun i hi => ?_) ?_ (by simp) 0 (by omega)
 ·refine Tr.w fun s1 H1 hp _ kR => W.trim ?_
  obtain ⟨bz,q⟩:=hp
  have g1':=bz.kp.at g1 (by simp) id
  obtain ⟨y,ey,rv0⟩:=h4 i hi
  have rv:=rv0.kp bz.kp (fun _ _ => id)
  have ey':=getI ey
  have lrs : i < rs.length:=(List.getElem?_eq_some_iff.1 ey).1
  have cq1:=cq.kp bz.kp
  have gk1:=bz.kp.at gk (by simp) id
  have kk:=k80 H1 ⟨y,81,[.ptr pc 0 1,.ptr pk 0 1],gn (S.getD i []),fun t => al S k ((S.getD i []).getD t 0)⟩ ⟨show (81 : Nat) ≠ 0 by decide,by
    rcases rv with ⟨e1,e2⟩ | h
    ·exact .inl ⟨.inl e1,e2⟩
    ·exact .inr h,by have:=os.len i; show (gn (S.getD i [])).length < _; rw [gn_len]; omega,fun t c e => by
   have ht : t < (S.getD i []).length:=by
    have:=(List.getElem?_eq_some_iff.1 e).1
    rw [gn_len] at this; exact this
   rw [gn_at ht] at e
   obtain rfl:=Option.some.inj e
   have hj : (S.getD i []).getD t 0 < S.length:=os.lt i _ (gD_mem ht)
   obtain ⟨br,e5,e6⟩:=cq1.r k (by omega)
   have ck : CK ⟨H1.get,H1.size,[]⟩ pc pk k ((S.getD i []).getD t 0) (al S k ((S.getD i []).getD t 0)):=by
    refine ⟨⟨bo,k + 1,k + 1,ros,br,S.length,S.length,lB (al S k) S.length,?_,?_,by omega,cq1.lo,e5,?_,hj,lB_len _ _,lB_at _ hj⟩,?_⟩
    ·rw [lo_get]; exact cq1.gp
    ·rw [lo_get]; exact cq1.go
    ·rw [lo_get]; exact e6
    ·rw [lo_get]; exact gk1
   exact k81 _ ck⟩
  simp only at kk
  rw [gn_len,any_range] at kk
  have ea : (S.getD i []).any (al S k) = al S (k + 1) i:=rfl
  rw [ea] at kk
  have g:=bz.g
  have hNb : H1.N ≤ b:=by
   rw [bz.kp.N]
   exact Nat.le_trans (by unfold Heap.size; omega) hb
  have fx : (lB (mB S k i) S.length).set i (.bool (al S (k + 1) i)) = lB (mB S k (i + 1)) S.length:=by
   rw [lB_set _ hi]
   apply lB_ext
   intro t ht
   unfold mB
   by_cases e : t = i
   ·subst e
    rw [if_pos rfl,if_pos (by omega)]
   ·rw [if_neg e]
    by_cases c : t < i
    ·rw [if_pos c,if_pos (by omega)]
    ·rw [if_neg c,if_neg (by omega)]
  have p1 : Eff.app (.put b S.length i [.bool (al S (k + 1) i)]) H1 = some (H1.upd b (.cells 1 S.length (lB (mB S k (i + 1)) S.length))):=by
   rw [put_gen H1 b S.length i 1 _ _ hNb g (by rw [lB_len]; simp; omega)]
   simp only [putAt]
   rw [fx]
  have bz2 : BY Hk (H1.upd b (.cells 1 S.length (lB (mB S k (i + 1)) S.length))) b S.length (mB S k (i + 1)):=⟨bz.kp.updn b _ hNb hb,upd_same _ _ _ hNb (get_lt g (by simp))⟩
  have l3:=lB_len (mB S k i) S.length
  clear bz fx rv rv0 h4 cq cq1 gk gk1 ea
  generalize al S (k + 1) i = z at *
  generalize lB (mB S k (i + 1)) S.length = cm' at *
  generalize lB (mB S k i) S.length = cm at *
  generalize hnn : S.length = n at *
  refine zCh ?_
  simp (disch:=first|omega|exact zE rfl|exact zO|exact zL rfl) [c48_o12,zG,q]
  refine zCh ?_
  simp (disch:=first|omega|exact zE rfl|exact zO|exact zL rfl) [zG,q]
  refine W.seq (W.block ?_)
  refine zCh ?_
  simp (disch:=first|omega|exact zE rfl|exact zO|exact zL rfl) [c48_o13,zG,q,g1',ey,ey']
  refine W.chunk ?_
  simp (disch:=first|omega|exact zE rfl|exact zO|exact zL rfl) [c48_o14,zG,q,kk,g,l3,p1]
  refine W.chunk ?_
  simp (disch:=first|omega|exact zE rfl|exact zO|exact zL rfl) [c48_o15,zG,q]
  exact kR _ _ ⟨bz2,by simp [T.get,q]⟩
 ·refine Tr.w fun s1 H1 hp _ kR => W.trim ?_
  obtain ⟨bz,q⟩:=hp
  clear h4 cq
  generalize hnn : S.length = n at *
  refine zCh ?_
  simp (disch:=first|omega|exact zE rfl|exact zO|exact zL rfl) [c48_o12,zG,q]
  refine zCh ?_
  simp (disch:=first|omega|exact zE rfl|exact zO|exact zL rfl) [zG,q]
  exact kR _ _ ⟨bz,by simp [T.get,q]⟩
end
section
variable {S : List (List Nat)} {p pc : Nat}
theorem mB_0 (S : List (List Nat)) (k n : Nat) : lB (mB S k 0) n = lB (fun _ => false) n:=lB_ext fun t _ => if_neg (by omega)
theorem mB_n (S : List (List Nat)) (k : Nat) : lB (mB S k S.length) S.length = lB (al S (k + 1)) S.length:=lB_ext fun t ht => if_pos ht
set_option maxHeartbeats 1000000 in
theorem c48_l1_ok (J : CallF) (k80 : K80 U1 J) {Z : Heap} {nb nn D mb : Nat} {sb x : AV} {rs : List AV} (f1 : Z.get p = .cells 0 3 [x,.map mb,.slice nb 0 S.length S.length]) (hx : ∃ bx vx,x = .slice bx 0 S.length vx) (g1 : Z.get nb = .cells 1 S.length rs) (h4 : ∀ i,i < S.length → ∃ y,rs[i]? = some y ∧ RV Z y (gn (S.getD i []))) (os : OkS S) (hp : Z.size ≤ pc) (hD : D ≤ 40) :
  Tr tbl J c48_l1 (fun s h => ∃ z,TB Z h z (rowsA S 1) ∧ h.get pc = .cells 0 1 [z] ∧ s.get [false] = sb ∧ s.get [true] = G nn ∧ s.get [true,false,false] = .ptr p 0 3 ∧ s.get [false,true,false] = .ptr pc 0 1 ∧ s.get [true,false,false,true,true] = G D ∧ s.get [false,true,false,true,true] = G ((0 : Nat) : Int)) (.exit 0)
   (fun s h => ∃ z,TB Z h z (rowsA S (D + 1)) ∧ h.get pc = .cells 0 1 [z] ∧ s.get [false] = sb ∧ s.get [true] = G nn ∧ s.get [true,false,false] = .ptr p 0 3 ∧ s.get [false,true,false] = .ptr pc 0 1):=by
 have n2:=os.n
 obtain ⟨bx,vx,rfl⟩:=hx
 refine Tr.rounds (e:=.exit 0) (P:=fun k s h => ∃ z,TB Z h z (rowsA S (k + 1)) ∧ h.get pc = .cells 0 1 [z] ∧ s.get [false] = sb ∧ s.get [true] = G nn ∧ s.get [true,false,false] = .ptr p 0 3 ∧ s.get [false,true,false] = .ptr pc 0 1 ∧ s.get [true,false,false,true,true] = G D ∧ s.get [false,true,false,true,true] = G k) (M:=D) (fun k hk => ?_) ?_ (by simp) 0 (by omega)
 ·refine Tr.w fun s1 H1 hp _ kR => W.trim ?_
  obtain ⟨z,tb,gp,q⟩:=hp
  obtain ⟨H2,hH2⟩ : ∃ H,H1.plus [.cells 0 1 [G k]] = H:=⟨_,rfl⟩
  have k2 : Kp (fun _ => False) H1 H2:=by rw [← hH2]; exact Kp.plus _ _
  have gk : H2.get H1.size = .cells 0 1 [G k]:=by rw [← hH2]; exact plus_at0 _ _ _ _ rfl
  have tb2:=tb.kp k2
  have gp2:=k2.at gp (by simp) id
  obtain ⟨bo,ros,ez,cq⟩:=tb2.cq gp2
  have kZ2:=tb2.k
  obtain ⟨H3,hH3⟩ : ∃ H,H2.plus [.cells 1 S.length (List.replicate S.length (.bool false))] = H:=⟨_,rfl⟩
  have k3 : Kp (fun _ => False) H2 H3:=by rw [← hH3]; exact Kp.plus _ _
  have bz0 : BY H2 H3 H2.size S.length (mB S k 0):=⟨k3,by rw [mB_0,← lB_rep,← hH3]; exact plus_at0 _ _ _ _ rfl⟩
  have f3:=(kZ2.trans k3).at f1 (by simp) id
  have f2:=kZ2.at f1 (by simp) id
  have l0:=c48_l0_ok (p:=p) (sb:=sb) (nn:=nn) (D:=D) J k80 (kZ2.at g1 (by simp) id) (fun i hi => by
   obtain ⟨y,e1,e2⟩:=h4 i hi
   exact ⟨y,e1,e2.kp kZ2 (fun _ _ => id)⟩) os cq gk (Nat.le_refl H2.size)
  have mk1 : mkSl H2 1 (.bool false) S.length = some (.slice H2.size 0 S.length S.length,{ eff:=.grow [.cells 1 S.length (List.replicate S.length (.bool false))] }):=mkSl_ok _ _ _ _ _ rfl (by omega)
  have step : ∀ h,BY H2 h H2.size S.length (mB S k S.length) → ∃ x1 e h2,appA (h.plus [.cells 1 1 [.slice H2.size 0 S.length S.length]]) h.size none 1 24 1 [.slice H2.size 0 S.length S.length] z = some (x1,e) ∧ Eff.app e (h.plus [.cells 1 1 [.slice H2.size 0 S.length S.length]]) = some h2 ∧ Eff.app (.put pc 1 0 [x1]) h2 = some (h2.upd pc (.cells 0 1 [x1])) ∧ TB Z (h2.upd pc (.cells 0 1 [x1])) x1 (rowsA S (k + 1 + 1)) ∧ (h2.upd pc (.cells 0 1 [x1])).get pc = .cells 0 1 [x1] ∧ h.get pc = .cells 0 1 [z] ∧ ∃ qb,x1 = .slice qb 0 (k + 1 + 1) (k + 1 + 1):=fun h bz => by
   have g:=bz.g
   rw [mB_n] at g
   have lr : (lB (al S (k + 1)) S.length).length = S.length:=lB_len _ _
   have t3:=tb2.kp bz.kp
   have gp3:=bz.kp.at gp2 (by simp) id
   obtain ⟨x1,e,h2,q1,q2,q3,q4,q7⟩:=t3.appk h.size (b:=H2.size) (cs:=lB (al S (k + 1)) S.length) (by rw [lr]; exact g) ⟨fun e => by
    obtain ⟨rs',lv,_⟩:=tb2.r
    have:=lv.lt e; omega,tb2.k.size⟩ (by rw [rowsA_len]; omega)
   rw [lr] at q1 q2 q4
   rw [← rowsA_succ] at q3
   have kk : Kp (fun _ => False) h (h.plus [.cells 1 1 [.slice H2.size 0 S.length S.length]]):=Kp.plus _ _
   have gp4 : h2.get pc = .cells 0 1 [z]:=q4.at (kk.at gp3 (by simp) id) (by simp) (fun e => by
    obtain ⟨rs',lv,hl,_⟩:=t3.r
    obtain ⟨b,rfl,gb⟩:=lv.sl (fun e => by rw [e,rowsA_len] at hl; simp at hl)
    cases e
    rw [gp3] at gb; cases gb)
   have hN : h2.N ≤ pc:=by
    rw [q3.k.N]
    exact Nat.le_trans (by unfold Heap.size; omega) hp
   obtain ⟨u1,u2⟩:=q3.updp gp4 hp x1
   obtain ⟨qb,_,ex,_⟩:=q3.sl (i:=0) (by rw [rowsA_len]; omega)
   rw [rowsA_len] at ex
   refine ⟨x1,e,h2,q1,q2,?_,u1,u2,gp3,qb,ex⟩
   rw [put_gen h2 pc 1 0 0 _ _ hN gp4 (by simp)]; rfl
  have e1 : ((k + 1 : Nat) : Int) = (k : Int) + 1:=by omega
  rw [e1] at kR
  have hNk : H1.N ≤ H1.size:=by unfold Heap.size; omega
  clear tb gp h4 cq tb2 gp2 e1
  generalize List.replicate S.length (AV.bool false) = rp at *
  generalize hnn : S.length = n at *
  refine zCh ?_
  simp (disch:=first|omega|exact zE rfl|exact zO|exact zL rfl) [c48_o8,zG,q]
  refine zCh ?_
  simp (disch:=first|omega|exact zE rfl|exact zO|exact zL rfl) [zG,q]
  refine W.seq (W.block ?_)
  refine zCh ?_
  simp (disch:=first|omega|exact zE rfl|exact zO|exact zL rfl) [c48_o9,zG,q,hH2]
  refine zCh ?_
  simp (disch:=first|omega|exact zE rfl|exact zO|exact zL rfl) [-act,c48_o10,zG,q,act_move,act_load,act_nil,act_fa,act_len1,act_mkSl,f2,mk1,hH3]
  refine W.assoc ?_
  refine zCh ?_
  simp (disch:=first|omega|exact zE rfl|exact zO|exact zL rfl) [c48_o11,zG,q,f3]
  refine W.seq (W.block ?_)
  refine W.use (l0) (by simp (disch:=first|omega|exact zE rfl|exact zO|exact zL rfl) [zG,q,bz0]) fun s1 H1 hp => ?_
  obtain ⟨bz,q⟩:=hp
  try simp only [zW,if_true]
  obtain ⟨x1,e,h2,q1,q2,q3,q4,q5,q6,qb,rfl⟩:=step _ bz
  refine W.chunk ?_
  simp (disch:=first|omega|exact zE rfl|exact zO|exact zL rfl) [c48_o16,zG,q,q6,elems,rdOf,app1_at,q1,q2,q3]
  refine W.chunk ?_
  simp (disch:=first|omega|exact zE rfl|exact zO|exact zL rfl) [c48_o17,zG,q]
  exact kR _ _ ⟨_,q4,q5,by simp [T.get,q]⟩
 ·refine Tr.w fun s1 H1 hp _ kR => W.trim ?_
  obtain ⟨z,tb,gp,q⟩:=hp
  clear h4
  generalize hnn : S.length = n at *
  refine zCh ?_
  simp (disch:=first|omega|exact zE rfl|exact zO|exact zL rfl) [c48_o8,zG,q]
  refine zCh ?_
  simp (disch:=first|omega|exact zE rfl|exact zO|exact zL rfl) [zG,q]
  exact kR _ _ ⟨_,tb,gp,by simp [T.get,q]⟩
end
section
variable {S : List (List Nat)} {p pc : Nat}
set_option maxHeartbeats 1000000 in
theorem c48_l2_ok (J : CallF) {H4 H : Heap} {bx vx mb n D bo yb yv k c i : Nat} {nx0 z : AV} {ros Lz : List AV} {rows : List (List Nat)} {L : List Nat} (hn : S.length = n) (f1 : H.get p = .cells 0 3 [.slice bx 0 n vx,.map mb,nx0]) (gx : H.get bx = .cells 1 vx (wsL rows)) (rl : rows.length = n) (n2 : n ≤ 1000) (cq : CQ S H pc D bo ros) (hD : D ≤ 40) (gy : H.get yb = .cells 1 yv (gn L)) (hL : ∀ c ∈ L,c < n) (lL : L.length ≤ 1000) (hk : k ≤ D) (nv : NV H4 H z Lz) (lz : Lz.length ≤ 1000) :
  ∀ j u,u + j = L.length → (L.drop u).find? (al S k) = some c → Tr tbl J c48_l2 (fun s h => h = H ∧ s.get [true,false,false] = .ptr p 0 3 ∧ s.get [false,true,false] = .ptr pc 0 1 ∧ s.get [true,true,true] = z ∧ s.get [false,false,false,false] = G i ∧ s.get [true,false,false,false] = G k ∧ s.get [false,false,false,false,false,false,false] = .slice yb 0 L.length yv ∧ s.get [true,false,false,false,false,false,false] = G L.length ∧ s.get [false,true,false,false,false,false,false] = G u) (.exit 6)
   (fun s h => ∃ z',NV H4 h z' (Lz ++ [.str (stW (rows.getD c []))]) ∧ s.get [true,false,false] = .ptr p 0 3 ∧ s.get [false,true,false] = .ptr pc 0 1 ∧ s.get [true,true,true] = z' ∧ s.get [false,false,false,false] = G c ∧ s.get [true,false,false,false] = G k):=by
 intro j
 induction j with
 | zero =>
  intro u hu hf
  rw [List.drop_of_length_le (by omega)] at hf
  cases hf
 | succ j ih =>
  intro u hu hf
  have hul : u < L.length:=by omega
  have dr : L.drop u = L.getD u 0 :: L.drop (u + 1):=by
   rw [List.drop_eq_getElem_cons hul,List.getD_eq_getElem?_getD,List.getElem?_eq_getElem hul]; rfl
  rw [dr,List.find?_cons] at hf
  have hd:=hL _ (gD_mem hul)
  obtain ⟨br,er,gr⟩:=cq.r k (by omega)
  have er':=getI er
  have lo:=cq.lo
  have gp:=cq.gp
  have go:=cq.go
  rw [hn] at er er' gr
  have eb:=lB_at (al S k) hd
  have eb':=getI eb
  have lb:=lB_len (al S k) n
  have ey:=gn_at hul
  have ey':=getI ey
  have ly:=gn_len L
  cases e : al S k (L.getD u 0)
  ·simp only [e] at hf
   rw [e] at eb eb'
   refine Tr.next (R:=fun s h => h = H ∧ s.get [true,false,false] = .ptr p 0 3 ∧ s.get [false,true,false] = .ptr pc 0 1 ∧ s.get [true,true,true] = z ∧ s.get [false,false,false,false] = G i ∧ s.get [true,false,false,false] = G k ∧ s.get [false,false,false,false,false,false,false] = .slice yb 0 L.length yv ∧ s.get [true,false,false,false,false,false,false] = G L.length ∧ s.get [false,true,false,false,false,false,false] = G (u + 1 : Nat)) ?_ (ih (u + 1) (by omega) hf)
   clear ih cq hL nv dr hf e
   generalize lB (al S k) n = bs at *
   generalize gn L = gl at *
   generalize L.getD u 0 = d at *
   generalize L.length = l at *
   refine Tr.w fun s1 H1 hp _ kR => W.trim ?_
   obtain ⟨rfl,q⟩:=hp
   refine zCh ?_
   simp (disch:=first|omega|exact zE rfl|exact zO|exact zL rfl) [c48_o25,zG,q]
   refine zCh ?_
   simp (disch:=first|omega|exact zE rfl|exact zO|exact zL rfl) [zG,q]
   refine W.seq (W.block ?_)
   refine zCh ?_
   simp (disch:=first|omega|exact zE rfl|exact zO|exact zL rfl) [c48_o26,zG,q,gy,ey,ey',ly]
   refine zCh ?_
   simp (disch:=first|omega|exact zE rfl|exact zO|exact zL rfl) [c48_o27,zG,q,gp,go,lo,er,er',gr,eb,eb',lb]
   refine W.chunk ?_
   simp (disch:=first|omega|exact zE rfl|exact zO|exact zL rfl) [c48_o28,c48_o29,zG,q]
   refine W.chunk ?_
   simp (disch:=first|omega|exact zE rfl|exact zO|exact zL rfl) [c48_o30,zG,q]
   exact kR _ _ ⟨rfl,by simp [T.get,q]⟩
  ·simp only [e,Option.some.injEq] at hf
   rw [e] at eb eb'
   subst hf
   have ew:=wsL_at (R:=rows) (i:=L.getD u 0) (by omega)
   have ew':=getI ew
   have lw:=wsL_len rows
   rw [rl] at lw
   obtain ⟨x1,e,H2,q1,q2,nv2,_⟩:=nv.app H.size 16 (.str (stW (rows.getD (L.getD u 0) []))) (by omega)
   have ap:=app1_at H (.str (stW (rows.getD (L.getD u 0) [])))
   refine Tr.out ?_ (by simp)
   clear ih cq hL nv dr
   generalize stW (rows.getD (L.getD u 0) []) = w at *
   generalize lB (al S k) n = bs at *
   generalize gn L = gl at *
   generalize L.getD u 0 = d at *
   generalize L.length = l at *
   generalize wsL rows = wr at *
   refine Tr.w fun s1 H1 hp _ kR => W.trim ?_
   obtain ⟨rfl,q⟩:=hp
   refine zCh ?_
   simp (disch:=first|omega|exact zE rfl|exact zO|exact zL rfl) [c48_o25,zG,q]
   refine zCh ?_
   simp (disch:=first|omega|exact zE rfl|exact zO|exact zL rfl) [zG,q]
   refine W.seq (W.block ?_)
   refine zCh ?_
   simp (disch:=first|omega|exact zE rfl|exact zO|exact zL rfl) [c48_o26,zG,q,gy,ey,ey',ly]
   refine zCh ?_
   simp (disch:=first|omega|exact zE rfl|exact zO|exact zL rfl) [c48_o27,zG,q,gp,go,lo,er,er',gr,eb,eb',lb]
   refine W.cond (v:=true) (by simp (disch:=first|omega|exact zE rfl|exact zO|exact zL rfl) [zG,q]) ?_
   simp only [if_true,if_false,Bool.false_eq_true]
   refine zCh ?_
   simp (disch:=first|omega|exact zE rfl|exact zO|exact zL rfl) [c48_o28,zG,q,f1,gx,ew,ew',lw,elems,rdOf,ap,q1,q2]
   refine zCh ?_
   simp (disch:=first|omega|exact zE rfl|exact zO|exact zL rfl) [c48_o29,zG,q]
   refine W.exit ?_
   try simp only [zW,if_true]
   exact kR _ _ ⟨_,nv2,by simp [T.get,q]⟩
structure XE (S : List (List Nat)) (D t : Nat) (E done : List Nat) (i : Nat) : Prop where
 e : done ++ ext S (D - t) i = E
 l : i < S.length
 a : al S (D - t) i = true
 n : done.length = t
set_option maxHeartbeats 1000000 in
theorem c48_l3_ok (J : CallF) {H4 : Heap} {bx vx mb nb n D bo : Nat} {ros rs : List AV} {rows R : List (List Nat)} {E : List Nat} (hn : S.length = n) (f1 : H4.get p = .cells 0 3 [.slice bx 0 n vx,.map mb,.slice nb 0 n n]) (gx : H4.get bx = .cells 1 vx (wsL rows)) (rl : rows.length = n) (gN : H4.get nb = .cells 1 n rs) (h4 : ∀ i,i < n → ∃ y,rs[i]? = some y ∧ RV H4 y (gn (S.getD i []))) (os : OkS S) (cq : CQ S H4 pc D bo ros) (hD : D ≤ 40) (lR : R.length ≤ 40) :
  Tr tbl J c48_l3 (fun s h => ∃ z done i,(NV H4 h z (wsL (R ++ rT2 rows done)) ∧ XE S D 0 E done i) ∧ s.get [true,false,false] = .ptr p 0 3 ∧ s.get [false,true,false] = .ptr pc 0 1 ∧ s.get [true,true,true] = z ∧ s.get [false,false,false,false] = G (i : Nat) ∧ s.get [true,false,false,false] = G ((D : Int) - 1 - ((0 : Nat) : Int))) (.exit 4)
   (fun s h => ∃ z,NV H4 h z (wsL (R ++ rT2 rows E)) ∧ s.get [true,true,true] = z):=by
 have n2:=os.n
 rw [hn] at n2
 refine Tr.rounds (e:=.exit 4) (P:=fun t s h => ∃ z done i,(NV H4 h z (wsL (R ++ rT2 rows done)) ∧ XE S D t E done i) ∧ s.get [true,false,false] = .ptr p 0 3 ∧ s.get [false,true,false] = .ptr pc 0 1 ∧ s.get [true,true,true] = z ∧ s.get [false,false,false,false] = G (i : Nat) ∧ s.get [true,false,false,false] = G ((D : Int) - 1 - t)) (M:=D) (fun t ht => ?_) ?_ (by simp) 0 (by omega)
 ·refine Tr.w fun s1 H1 hp _ kR => W.trim ?_
  obtain ⟨z,done,i,⟨nv,xe⟩,q⟩:=hp
  obtain ⟨k,hk⟩ : ∃ k,D = k + 1 + t:=⟨D - 1 - t,by omega⟩
  have e16 : (D : Int) - 1 - (t : Int) = (k : Nat):=by omega
  have e17 : (D : Int) - 1 - ((t + 1 : Nat) : Int) = (k : Int) - 1:=by omega
  rw [e16] at q
  rw [e17] at kR
  obtain ⟨xe1,xe2,xe3,xe4⟩:=xe
  rw [show D - t = k + 1 by omega] at xe1 xe3
  have xf:=exC_find xe3
  obtain ⟨xm,xa⟩:=exC_ok xe3
  have hL : ∀ c ∈ S.getD i [],c < n:=fun c hc => by rw [← hn]; exact os.lt i c hc
  obtain ⟨y,ey,rv0⟩:=h4 i (by omega)
  have rv:=rv0.kp nv.k (fun _ _ => id)
  have ey':=getI ey
  have lrs : i < rs.length:=(List.getElem?_eq_some_iff.1 ey).1
  obtain ⟨yb,yv,rfl,gy⟩ : ∃ b v,y = .slice b 0 (S.getD i []).length v ∧ H1.get b = .cells 1 v (gn (S.getD i [])):=by
   rcases rv with ⟨_,e⟩ | ⟨b,v,e,g⟩
   ·have : (gn (S.getD i [])).length = 0:=by rw [e]; rfl
    rw [gn_len] at this
    rw [List.length_eq_zero_iff.1 this] at xm
    cases xm
   ·rw [gn_len] at e; exact ⟨b,v,e,g⟩
  have lL:=os.len i
  have l2:=c48_l2_ok (i:=i) J hn (nv.k.at f1 (by simp) id) (nv.k.at gx (by simp) id) rl (by omega) (cq.kp nv.k) hD gy hL (by omega) (k:=k) (by omega) nv (by rw [wsL_len,List.length_append]; unfold rT2; rw [List.length_map]; omega) (S.getD i []).length 0 (by omega) (by rw [List.drop_zero]; exact xf)
  have f1':=nv.k.at f1 (by simp) id
  have gN':=nv.k.at gN (by simp) id
  have xi2 : XE S D (t + 1) E (done ++ [exC S k i]) (exC S k i):=by
   refine ⟨?_,by rw [hn]; exact hL _ xm,?_,by rw [List.length_append,xe4]; rfl⟩
   ·rw [show D - (t + 1) = k by omega,List.append_assoc]
    exact xe1
   ·rw [show D - (t + 1) = k by omega]; exact xa
  have ew : ∀ c,wsL (R ++ rT2 rows done) ++ [.str (stW (rows.getD c []))] = wsL (R ++ rT2 rows (done ++ [c])):=fun c => by
   rw [← wsL_app,List.append_assoc]
   unfold rT2
   rw [List.map_append]; rfl
  have hz : z = z:=rfl
  clear h4 cq rv rv0 gy hL xe1 xe3 xf xm xa nv
  generalize exC S k i = c at *
  generalize (S.getD i []).length = l at *
  refine W.assoc ?_
  refine zCh ?_
  simp (disch:=first|omega|exact zE rfl|exact zO|exact zL rfl) [c48_o23,zG,q]
  refine zCh ?_
  simp (disch:=first|omega|exact zE rfl|exact zO|exact zL rfl) [zG,q]
  refine W.seq (W.block ?_)
  refine zCh ?_
  simp (disch:=first|omega|exact zE rfl|exact zO|exact zL rfl) [c48_o24,zG,q,f1',gN',ey,ey']
  refine W.block ?_
  refine W.use (l2) (by simp (disch:=first|omega|exact zE rfl|exact zO|exact zL rfl) [zG,q]) fun s1 H1 hp => ?_
  obtain ⟨z',nv',q⟩:=hp
  try simp only [zW,if_true]
  refine W.chunk ?_
  simp (disch:=first|omega|exact zE rfl|exact zO|exact zL rfl) [c48_o31,zG,q]
  rw [ew] at nv'
  exact kR _ _ ⟨_,_,_,⟨nv',xi2⟩,by simp [T.get,q]⟩
 ·refine Tr.w fun s1 H1 hp _ kR => W.trim ?_
  obtain ⟨z,done,i,⟨nv,xe⟩,q⟩:=hp
  obtain ⟨xe1,xe2,xe3,xe4⟩:=xe
  have e16 : (D : Int) - 1 - (D : Int) = -1:=by omega
  rw [e16] at q
  rw [Nat.sub_self] at xe1
  have : done = E:=by rw [← xe1]; exact (List.append_nil _).symm
  subst this
  clear h4 cq
  refine W.assoc ?_
  refine zCh ?_
  simp (disch:=first|omega|exact zE rfl|exact zO|exact zL rfl) [c48_o23,zG,q]
  refine zCh ?_
  simp (disch:=first|omega|exact zE rfl|exact zO|exact zL rfl) [zG,q]
  exact kR _ _ ⟨_,nv,by simp [T.get,q]⟩
end
def okX (a : AR) (L : List (List UInt8)) (n : Int) : Bool:=a.ru && isS a.q.toNat L && decide ((L.length : Int) ≤ n ∧ n ≤ 40)
def extR (a : AR) (m : Nat) (D i : Nat) : List (List Nat):=rT2 (a.rows m) (ext (a.steps m) D i)
def Post48 (a : AR) (L : List (List UInt8)) (n : Int) (h : Heap) (v : AV) (own : List AObj) : Prop :=
 (okX a L n = false → v = .tup [.nils,G 2] ∧ own = []) ∧
 (okX a L n = true → ∀ R : List (List Nat),L = R.map stW → (∀ w ∈ R,∀ c ∈ w,c < a.q.toNat) → (kpS a.g R = false → v = .tup [.nils,G 6] ∧ own = []) ∧
  ∀ P : List Nat,kpS a.g R = true → R = rT2 (a.rows (L.getD 0 []).length) P → VC (a.steps (L.getD 0 []).length) (-1) P →
   (al (a.steps (L.getD 0 []).length) (n.toNat - L.length) (P.getD (L.length - 1) 0) = false → v = .tup [.nils,G 6] ∧ own = []) ∧
   (al (a.steps (L.getD 0 []).length) (n.toNat - L.length) (P.getD (L.length - 1) 0) = true → ∃ x,v = .tup [x,G 0] ∧ (∀ q,blk x = some q → h.size ≤ q) ∧ RV (h.plus own) x (wsL (R ++ extR a (L.getD 0 []).length (n.toNat - L.length) (P.getD (L.length - 1) 0)))))
section
variable {a : AR} {x : AV} {L : List (List UInt8)} {n : Int}
theorem post48_arg {h : Heap} (e : okX a L n = false) : Post48 a L n h (.tup [.nils,G 2]) []:=⟨fun _ => ⟨rfl,rfl⟩,fun e' => (by rw [e] at e'; cases e')⟩
set_option maxHeartbeats 4000000 in
theorem c48_ok (J : CallF) (k57 : KR 57 J) (k60 : K60 J) (k61 : K61m J) (k77 : K77 J) (k78 : K78 J) (k79 : K79 J) (k80 : K80 U1 J) (k82 : K82 J) (hJ : ∀ a h,J 48 a h = none) (h : Heap) (o : OkR a h) (hx : EL h x (ss L)) (lL : L.length ≤ 1000000) (ls : ∀ s ∈ L,s.length ≤ 1000000) :
  ∃ v own,CallsTo tbl J 48 [a.v,x,G n] h (v,own,false) ∧ Post48 a L n h v own:=by
 obtain ⟨Hs,hHs⟩ : ∃ H,(frameOf h).plus [.cells 0 3 [G a.q,a.x,a.y]] = H:=⟨_,rfl⟩
 have kHs : Kp (fun _ => False) (frameOf h) Hs:=by rw [← hHs]; exact Kp.plus _ _
 have oH : OkR a Hs:=OkR.kp (o.lo []) kHs
 have gS : Hs.get h.size = .cells 0 3 [G a.q,a.x,a.y]:=by rw [← hHs]; exact plus_at0 _ _ _ _ (frS h)
 have e57:=k57 Hs a oH
 have er : ruQ a.q a.B a.W = a.ru:=rfl
 rw [er] at e57
 have hxF : EL (frameOf h) x (ss L):=hx.lo []
 have hxH : EL Hs x (ss L):=by
  rcases hxF with h | ⟨b,v,e,g⟩
  ·exact .inl h
  ·exact .inr ⟨b,v,e,kHs.at g (by simp) id⟩
 have fz:=frS h
 have av : a.v = .agg [G a.q,a.x,a.y]:=rfl
 cases r : a.ru
 ·have : CallsTo tbl J 48 [a.v,x,G n] h (.tup [.nils,G 2],[],false):=by
   refine Tr.fnv (cf:=c48) (e:=.ret) (s:=T.set (T.set (T.set .leaf [] a.v) [false] x) [true] (G n)) (by decide) rfl (hJ _ _) rfl rfl rfl (by simp) ?_
   refine Tr.post (Q:=(fun s h => s.get [true,true] = .nils ∧ s.get [false,false,false] = G 2)) (fun s h q => by simp [c48,q]) ?_
   rw [r] at e57
   clear oH o hx hxF hxH ls kHs
   refine Tr.w fun s1 H1 hp _ kR => ?_
   obtain ⟨rfl,rfl⟩:=hp
   have q : True:=trivial
   refine zCh ?_
   simp (disch:=first|omega|exact zE rfl|exact zO|exact zL rfl) [c48_o0,zG,q,hHs]
   refine W.assoc ?_
   refine zCh ?_
   simp (disch:=first|omega|exact zE rfl|exact zO|exact zL rfl) [c48_o1,zG,q,fz,gS,e57]
   refine zCh ?_
   simp (disch:=first|omega|exact zE rfl|exact zO|exact zL rfl) [c48_o2,zG,q]
   exact kR _ _ (by simp [T.get])
  exact ⟨_,_,this,post48_arg (by unfold okX; rw [r]; rfl)⟩
 ·rw [r] at e57
  have e77:=k77 Hs ⟨a,x,L⟩ ⟨r,hxH,lL,ls⟩
  simp only at e77
  cases i : isS a.q.toNat L
  ·have : CallsTo tbl J 48 [a.v,x,G n] h (.tup [.nils,G 2],[],false):=by
    refine Tr.fnv (cf:=c48) (e:=.ret) (s:=T.set (T.set (T.set .leaf [] a.v) [false] x) [true] (G n)) (by decide) rfl (hJ _ _) rfl rfl rfl (by simp) ?_
    refine Tr.post (Q:=(fun s h => s.get [true,true] = .nils ∧ s.get [false,false,false] = G 2)) (fun s h q => by simp [c48,q]) ?_
    rw [i] at e77
    clear oH o hx hxF hxH ls kHs
    refine Tr.w fun s1 H1 hp _ kR => ?_
    obtain ⟨rfl,rfl⟩:=hp
    have q : True:=trivial
    refine zCh ?_
    simp (disch:=first|omega|exact zE rfl|exact zO|exact zL rfl) [c48_o0,zG,q,hHs]
    refine W.assoc ?_
    refine zCh ?_
    simp (disch:=first|omega|exact zE rfl|exact zO|exact zL rfl) [c48_o1,zG,q,fz,gS,e57,e77]
    refine zCh ?_
    simp (disch:=first|omega|exact zE rfl|exact zO|exact zL rfl) [c48_o2,zG,q]
    exact kR _ _ (by simp [T.get])
   exact ⟨_,_,this,post48_arg (by unfold okX; rw [i,Bool.and_false]; rfl)⟩
  ·have q3:=a.q3 r
   obtain ⟨m,R,rfl,hw,m1,m5,n1,n40,hm⟩:=isS_words (by omega) i
   have ok0 : okX a (R.map stW) n = decide ((R.length : Int) ≤ n ∧ n ≤ 40):=by
    unfold okX; rw [r,i,List.length_map]; rfl
   rw [i] at e77
   have ws : WS a.g m R:=⟨hw,by omega,by omega⟩
   have lw:=wsL_len R
   obtain ⟨_,e⟩ | ⟨b,v,rfl,g⟩:=hxH
   ·rw [← ws_ss] at e
    have : (wsL R).length = 0:=by rw [e]; rfl
    omega
   rw [← ws_ss] at g
   have ls' : (ss (R.map stW)).length = R.length:=by simp
   rw [ls'] at e77 hx ⊢
   rw [av] at e77
   have e60:=k60 n R.length 40 Hs
   cases hn : decide ((R.length : Int) ≤ n ∧ n ≤ 40)
   ·rw [hn] at e60 ok0
    have : CallsTo tbl J 48 [a.v,.slice b 0 R.length v,G n] h (.tup [.nils,G 2],[],false):=by
     refine Tr.fnv (cf:=c48) (e:=.ret) (s:=T.set (T.set (T.set .leaf [] a.v) [false] (.slice b 0 R.length v)) [true] (G n)) (by decide) rfl (hJ _ _) rfl rfl rfl (by simp) ?_
     refine Tr.post (Q:=(fun s h => s.get [true,true] = .nils ∧ s.get [false,false,false] = G 2)) (fun s h q => by simp [c48,q]) ?_
     clear oH o hx hxF ls kHs ws hw hn ok0 k61 k77 k78 k79 k80 k82
     generalize wsL R = wR at *
     generalize R.length = l at *
     refine Tr.w fun s1 H1 hp _ kR => ?_
     obtain ⟨rfl,rfl⟩:=hp
     have q : True:=trivial
     refine zCh ?_
     simp (disch:=first|omega|exact zE rfl|exact zO|exact zL rfl) [c48_o0,zG,q,hHs]
     refine W.assoc ?_
     refine zCh ?_
     simp (disch:=first|omega|exact zE rfl|exact zO|exact zL rfl) [c48_o1,zG,q,fz,gS,e57,e77,e60]
     refine zCh ?_
     simp (disch:=first|omega|exact zE rfl|exact zO|exact zL rfl) [c48_o2,zG,q]
     exact kR _ _ (by simp [T.get])
    exact ⟨_,_,this,post48_arg ok0⟩
   ·rw [hn] at e60 ok0
    obtain ⟨n2,n3⟩:=of_decide_eq_true hn
    have e78:=k78 Hs a.g m R b v (oH.g r) ws g
    rw [a.gv r,av] at e78
    have lR : (R.map stW).length = R.length:=by rw [List.length_map]
    have inj : ∀ R' : List (List Nat),R.map stW = R'.map stW → (∀ w ∈ R',∀ c ∈ w,c < a.q.toNat) → R = R':=fun R' e hR' => stW_map_inj (fun w hw' c hc => by have:=(hw w hw').2 c hc; omega) (fun w hw' c hc => by have:=hR' w hw' c hc; omega) e
    cases hk : kpS a.g R
    ·rw [hk] at e78
     have : CallsTo tbl J 48 [a.v,.slice b 0 R.length v,G n] h (.tup [.nils,G 6],[],false):=by
      refine Tr.fnv (cf:=c48) (e:=.ret) (s:=T.set (T.set (T.set .leaf [] a.v) [false] (.slice b 0 R.length v)) [true] (G n)) (by decide) rfl (hJ _ _) rfl rfl rfl (by simp) ?_
      refine Tr.post (Q:=(fun s h => s.get [true,true] = .nils ∧ s.get [false,false,false] = G 6)) (fun s h q => by simp [c48,q]) ?_
      clear oH o hx hxF ls kHs ws hw hn ok0 k61 k77 k78 k79 k80 k82 inj hk
      generalize wsL R = wR at *
      generalize R.length = l at *
      refine Tr.w fun s1 H1 hp _ kR => ?_
      obtain ⟨rfl,rfl⟩:=hp
      have q : True:=trivial
      refine zCh ?_
      simp (disch:=first|omega|exact zE rfl|exact zO|exact zL rfl) [c48_o0,zG,q,hHs]
      refine W.assoc ?_
      refine zCh ?_
      simp (disch:=first|omega|exact zE rfl|exact zO|exact zL rfl) [c48_o1,zG,q,fz,gS,e57,e77,e60]
      refine zCh ?_
      simp (disch:=first|omega|exact zE rfl|exact zO|exact zL rfl) [c48_o2,zG,q]
      refine W.assoc ?_
      refine zCh ?_
      simp (disch:=first|omega|exact zE rfl|exact zO|exact zL rfl) [c48_o3,zG,q,fz,gS,e78]
      refine zCh ?_
      simp (disch:=first|omega|exact zE rfl|exact zO|exact zL rfl) [c48_o4,zG,q]
      exact kR _ _ (by simp [T.get])
     refine ⟨_,_,this,fun e => (by rw [ok0] at e; cases e),fun _ R' e hR' => ?_⟩
     rw [← inj R' e hR',hk]
     exact ⟨fun _ => ⟨rfl,rfl⟩,fun P e => (by cases e)⟩
    ·rw [hk] at e78
     have rm : a.rm (m : Nat) = true:=by
      unfold AR.rm
      rw [r,decide_eq_true (by omega)]; rfl
     obtain ⟨os,s243,sr⟩:=AR.steps_ok rm
     obtain ⟨p,own,e61,lm,lmm⟩:=k61 Hs a.g m (oH.g r) m5
     rw [a.gv r] at e61
     obtain ⟨Z,hZ⟩ : ∃ Z,Hs.plus own = Z:=⟨_,rfl⟩
     have kZ : Kp (fun _ => False) Hs Z:=by rw [← hZ]; exact Kp.plus _ _
     rw [hZ] at lm lmm
     obtain ⟨P,eP,vc⟩:=pos_ex ws hk
     have hrows : rwL a.g.q a.g.B m = a.rows (m : Nat):=by
      unfold AR.rows AR.g
      rw [Int.toNat_natCast]
     have hsteps : stL a.g.W (a.rows (m : Nat)) = a.steps (m : Nat):=rfl
     rw [hrows] at eP vc lmm lm
     rw [hsteps] at vc
     have lP : P.length = R.length:=by rw [eP]; unfold rT2; rw [List.length_map]
     have hs : Srt (a.steps (m : Nat)):=srt_st _ _
     obtain ⟨x0,mb,nb,rs,f1,rx,_,gN,_,_,h7⟩:=lm
     have h4 : ∀ i,i < (a.steps (m : Nat)).length → ∃ y,rs[i]? = some y ∧ RV Z y (gn ((a.steps (m : Nat)).getD i [])):=fun i hi => by
      obtain ⟨y,e1,e2,_⟩:=h7 i (by rw [← sr]; exact hi)
      refine ⟨y,e1,?_⟩
      have : (a.steps (m : Nat)).getD i [] = nxL a.g.W (a.rows (m : Nat)) ((a.rows (m : Nat)).getD i []):=by
       rw [← hsteps,List.getD_eq_getElem?_getD,List.getD_eq_getElem?_getD]
       unfold stL
       rw [List.getElem?_map,List.getElem?_eq_getElem (by rw [← sr]; exact hi)]; rfl
      rw [this]; exact e2
     rw [← sr] at f1 gN
     obtain ⟨l',hl'⟩ : ∃ l',R.length = l' + 1:=⟨R.length - 1,by omega⟩
     have hat : P.getD l' 0 < (a.steps (m : Nat)).length:=vc.lt _ (gD_mem (by omega))
     obtain ⟨bx,vx,rfl,gx⟩ : ∃ b v,x0 = .slice b 0 (a.steps (m : Nat)).length v ∧ Z.get b = .cells 1 v (wsL (a.rows (m : Nat))):=by
      rcases rx with ⟨_,e⟩ | ⟨b,v,e,g⟩
      ·have : (wsL (a.rows (m : Nat))).length = 0:=by rw [e]; rfl
       rw [wsL_len] at this; omega
      ·rw [wsL_len,← sr] at e; exact ⟨b,v,e,g⟩
     obtain ⟨x',mb',nx',es,m1',m2,m3⟩:=lmm
     rw [f1] at m1'
     have emb : mb' = mb:=by
      simp only [AObj.cells.injEq,List.cons.injEq,AV.map.injEq] at m1'
      exact m1'.2.2.2.1.symm
     subst emb
     have hw0:=m3 (P.getD l' 0) (by omega)
     have wi:=wsL_at (R:=R) (i:=l') (by omega)
     rw [eP,rT2_at (by omega),← eP] at wi
     obtain ⟨N,rfl⟩ : ∃ N : Nat,n = N:=⟨n.toNat,by omega⟩
     obtain ⟨D,hD⟩ : ∃ D,N = R.length + D:=⟨N - R.length,by omega⟩
     have ePost : ∀ v own,((al (a.steps (m : Nat)) D (P.getD l' 0) = false → v = AV.tup [.nils,G 6] ∧ own = []) ∧ (al (a.steps (m : Nat)) D (P.getD l' 0) = true → ∃ x,v = .tup [x,G 0] ∧ (∀ q,blk x = some q → h.size ≤ q) ∧ RV (h.plus own) x (wsL (R ++ extR a m D (P.getD l' 0))))) → Post48 a (R.map stW) N h v own:=fun v own hp => by
      refine ⟨fun e => (by rw [ok0] at e; cases e),fun _ R' e hR' => ?_⟩
      rw [← inj R' e hR',hk,hm,lR,Int.toNat_natCast,show N - R.length = D by omega,hl',Nat.add_sub_cancel]
      refine ⟨fun e => (by cases e),fun P' _ eP' vc' => ?_⟩
      have l1 : ∀ c ∈ P,c < (a.rows (m : Nat)).length:=fun c hc => by rw [← sr]; exact vc.lt c hc
      have l2 : ∀ c ∈ P',c < (a.rows (m : Nat)).length:=fun c hc => by rw [← sr]; exact vc'.lt c hc
      have : P = P':=rT2_inj (rows_nd _ _ _) l1 l2 (eP.symm.trans eP')
      rw [← this]; exact hp
     have w0:=wsL_at (R:=R) (i:=0) (by omega)
     have w0':=getI w0
     have lw0:=stW_len (R.getD 0 [])
     rw [(ws.at (i:=0) (by omega)).1] at lw0
     have gZ:=kZ.at g (by simp) id
     have gSZ:=kZ.at gS (by simp) id
     have f1Z:=f1
     have n2S:=os.n
     generalize hS : (a.steps (m : Nat)).length = nS at *
     obtain ⟨Z1,hZ1⟩ : ∃ H,Z.plus [.cells 1 1 [.bool true]] = H:=⟨_,rfl⟩
     have kz1 : Kp (fun _ => False) Z Z1:=by rw [← hZ1]; exact Kp.plus _ _
     have g1Z : Z1.get Z.size = .cells 1 1 [.bool true]:=by rw [← hZ1]; exact plus_at0 _ _ _ _ rfl
     have e79:=k79 Z1 Z.size nS true g1Z s243
     obtain ⟨Z2,hZ2⟩ : ∃ H,Z1.plus [.cells 1 nS (List.replicate nS (.bool true))] = H:=⟨_,rfl⟩
     have kz2 : Kp (fun _ => False) Z1 Z2:=by rw [← hZ2]; exact Kp.plus _ _
     have g2Z : Z2.get Z1.size = .cells 1 nS (lB (al (a.steps (m : Nat)) 0) nS):=by rw [← hZ2,lB_rep]; exact plus_at0 _ _ _ _ rfl
     obtain ⟨Z3,hZ3⟩ : ∃ H,Z2.plus [.cells 1 1 [.slice Z1.size 0 nS nS]] = H:=⟨_,rfl⟩
     have kz3 : Kp (fun _ => False) Z2 Z3:=by rw [← hZ3]; exact Kp.plus _ _
     have g3Z : Z3.get Z2.size = .cells 1 1 [.slice Z1.size 0 nS nS]:=by rw [← hZ3]; exact plus_at0 _ _ _ _ rfl
     obtain ⟨Z4,hZ4⟩ : ∃ H,Z3.plus [.cells 0 1 [.slice Z2.size 0 1 1]] = H:=⟨_,rfl⟩
     have kz4 : Kp (fun _ => False) Z3 Z4:=by rw [← hZ4]; exact Kp.plus _ _
     have gp0 : Z4.get Z3.size = .cells 0 1 [.slice Z2.size 0 1 1]:=by rw [← hZ4]; exact plus_at0 _ _ _ _ rfl
     have s1 : Z.size ≤ Z1.size:=kz1.size
     have s2 : Z2.size = Z1.size + 1:=by rw [← hZ2,plus_size]; rfl
     have s3 : Z2.size ≤ Z3.size:=kz3.size
     have tb0 : TB Z Z4 (.slice Z2.size 0 1 1) (rowsA (a.steps (m : Nat)) 1):=by
      refine ⟨((kz1.trans kz2).trans kz3).trans kz4,fun q e => ?_,[.slice Z1.size 0 nS nS],.inr ⟨Z2.size,rfl,kz4.at g3Z (by simp) id,?_⟩,by rw [rowsA_len]; rfl,fun i r e => ?_⟩
      ·cases e; omega
      ·rw [kz4.N,kz3.N]; unfold Heap.size; omega
      ·have hi : i = 0:=by
        have:=(List.getElem?_eq_some_iff.1 e).1
        simpa using this
       subst hi
       simp only [List.getElem?_cons_zero,Option.some.injEq] at e
       subst e
       refine ⟨lB (al (a.steps (m : Nat)) 0) nS,Z1.size,by rw [rowsA_at _ (by omega),hS],by rw [lB_len],?_,?_,s1⟩
       ·rw [lB_len]; exact kz4.at (kz3.at g2Z (by simp) id) (by simp) id
       ·intro e; simp only [blk,Option.some.injEq] at e; omega
     have l1:=c48_l1_ok (S:=a.steps (m : Nat)) (pc:=Z3.size) (sb:=.slice b 0 R.length v) (nn:=N) J k80 (by rw [hS]; exact f1) ⟨bx,vx,by rw [hS]⟩ (by rw [hS]; exact gN) (by rw [hS]; exact h4) os (show Z.size ≤ Z3.size by omega) (show D ≤ 40 by omega)
     have l1' : Tr tbl J c48_l1 (fun s h => h = Z4 ∧ s.get [false] = .slice b 0 R.length v ∧ s.get [true] = G N ∧ s.get [true,false,false] = .ptr p 0 3 ∧ s.get [false,true,false] = .ptr Z3.size 0 1 ∧ s.get [true,false,false,true,true] = G D ∧ s.get [false,true,false,true,true] = G ((0 : Nat) : Int)) (.exit 0) (fun s h => ∃ z,TB Z h z (rowsA (a.steps (m : Nat)) (D + 1)) ∧ h.get Z3.size = .cells 0 1 [z] ∧ s.get [false] = .slice b 0 R.length v ∧ s.get [true] = G N ∧ s.get [true,false,false] = .ptr p 0 3 ∧ s.get [false,true,false] = .ptr Z3.size 0 1):=Tr.pre (fun s h ⟨h0,q⟩ => ⟨_,by rw [h0]; exact tb0,by rw [h0]; exact gp0,q⟩) l1
     have f1a:=kz1.at f1 (by simp) id
     have dd : ((N : Nat) : Int) - ((R.length : Nat) : Int) = (D : Int):=by omega
     have kS : Kp (fun _ => False) (frameOf h) Z:=kHs.trans kZ
     have post : ∀ z H,TB Z H z (rowsA (a.steps (m : Nat)) (D + 1)) → H.get Z3.size = .cells 0 1 [z] → ∃ bo ros H5 br,CQ (a.steps (m : Nat)) H Z3.size D bo ros ∧ J 82 [.slice b 0 R.length v] H = some (.slice H.size 0 R.length R.length,[.cells 1 R.length (wsL R)],false) ∧ H.plus [.cells 1 R.length (wsL R)] = H5 ∧ Kp (fun _ => False) H H5 ∧ H5.get p = .cells 0 3 [.slice bx 0 nS vx,.map mb',.slice nb 0 nS nS] ∧ H5.get H.size = .cells 1 R.length (wsL R) ∧ mapA H5 (.map mb') = some es ∧ H5.get Z3.size = .cells 0 1 [.slice bo 0 (D + 1) (D + 1)] ∧ H5.get bo = .cells 1 (D + 1) ros ∧ ros.length = D + 1 ∧ ros[D]? = some (.slice br 0 nS nS) ∧ H5.get br = .cells 1 nS (lB (al (a.steps (m : Nat)) D) nS):=fun z H tb gp => by
      obtain ⟨bo,ros,rfl,cq⟩:=tb.cq gp
      obtain ⟨H5,hH5⟩ : ∃ H5,H.plus [.cells 1 R.length (wsL R)] = H5:=⟨_,rfl⟩
      have k5 : Kp (fun _ => False) H H5:=by rw [← hH5]; exact Kp.plus _ _
      obtain ⟨br,e5,e6⟩:=cq.r D (by omega)
      rw [hS] at e5 e6
      have e82:=k82 H ⟨b,R.length,v,wsL R⟩ ⟨tb.k.at gZ (by simp) id,lw,by show 0 < R.length; omega,by show R.length ≤ 1000; omega⟩
      exact ⟨bo,ros,H5,br,cq,e82,hH5,k5,(tb.k.trans k5).at f1 (by simp) id,by rw [← hH5]; exact plus_at0 _ _ _ _ rfl,mapA_at ((tb.k.trans k5).at m2 (by simp) id),k5.at gp (by simp) id,k5.at cq.go (by simp) id,cq.lo,e5,k5.at e6 (by simp) id⟩
     have wi':=getI wi
     have eb:=lB_at (al (a.steps (m : Nat)) D) hat
     have eb':=getI eb
     have lb:=lB_len (al (a.steps (m : Nat)) D) nS
     have ll1 : ((R.length : Nat) : Int) - 1 = (l' : Int):=by omega
     cases hal : al (a.steps (m : Nat)) D (P.getD l' 0)
     ·rw [hal] at eb eb'
      have : CallsTo tbl J 48 [a.v,.slice b 0 R.length v,G N] h (.tup [.nils,G 6],[],false):=by
       refine Tr.fnv (cf:=c48) (e:=.ret) (s:=T.set (T.set (T.set .leaf [] a.v) [false] (.slice b 0 R.length v)) [true] (G N)) (by decide) rfl (hJ _ _) rfl rfl rfl (by simp) ?_
       refine Tr.post (Q:=(fun s h => s.get [true,true] = .nils ∧ s.get [false,false,false] = G 6)) (fun s h q => by simp [c48,q]) ?_
       clear oH o hx hxF ls kHs ws hw hn ok0 k61 k77 k78 k79 k80 k82 inj hk ePost m3 h7 h4 vc tb0 gp0 l1 os hs kZ kS
       generalize stW (R.getD 0 []) = u0 at *
       generalize stW ((a.rows (m : Nat)).getD (P.getD l' 0) []) = ul at *
       generalize lB (al (a.steps (m : Nat)) D) nS = bs at *
       generalize P.getD l' 0 = at0 at *
       generalize wsL R = wR at *
       generalize List.replicate nS (AV.bool true) = rep at *
       generalize R.length = l at *
       refine Tr.w fun s1 H1 hp _ kR => ?_
       obtain ⟨rfl,rfl⟩:=hp
       have q : True:=trivial
       refine zCh ?_
       simp (disch:=first|omega|exact zE rfl|exact zO|exact zL rfl) [c48_o0,zG,q,hHs]
       refine W.assoc ?_
       refine zCh ?_
       simp (disch:=first|omega|exact zE rfl|exact zO|exact zL rfl) [c48_o1,zG,q,fz,gS,e57,e77,e60]
       refine zCh ?_
       simp (disch:=first|omega|exact zE rfl|exact zO|exact zL rfl) [c48_o2,zG,q]
       refine W.assoc ?_
       refine zCh ?_
       simp (disch:=first|omega|exact zE rfl|exact zO|exact zL rfl) [c48_o3,zG,q,fz,gS,e78]
       refine zCh ?_
       simp (disch:=first|omega|exact zE rfl|exact zO|exact zL rfl) [c48_o4,zG,q]
       refine zCh ?_
       simp (disch:=first|omega|exact zE rfl|exact zO|exact zL rfl) [-evDraw_c,-Eff.isAll,c48_o5,zG,q,evDraw_0,fz,gS,g,w0,w0',lw,lw0,e61,app_if,app_if',hZ,own_all,isAll_none]
       refine zCh ?_
       simp (disch:=first|omega|exact zE rfl|exact zO|exact zL rfl) [c48_o6,zG,q,hZ1,f1a,e79,hZ2,hZ3,hZ4]
       refine W.assoc ?_
       refine zCh ?_
       simp (disch:=first|omega|exact zE rfl|exact zO|exact zL rfl) [c48_o7,zG,q,dd]
       refine W.seq (W.block ?_)
       refine W.use (l1') (by simp (disch:=first|omega|exact zE rfl|exact zO|exact zL rfl) [zG,q]) fun s1 H1 hp => ?_
       obtain ⟨z,tb,gp,q⟩:=hp
       try simp only [zW,if_true]
       obtain ⟨bo,ros,H5,br,cq,e82,hH5,k5,f5,g5,ma,gp5,go5,lo5,er5,gr5⟩:=post _ _ tb gp
       have er5':=getI er5
       refine zCh ?_
       simp (disch:=first|omega|exact zE rfl|exact zO|exact zL rfl) [c48_o18,zG,q,e82,hH5]
       refine zCh ?_
       simp (disch:=first|omega|exact zE rfl|exact zO|exact zL rfl) [c48_o19,zG,q,f5,g5,ma,wi,wi',lw,hw0,ll1,-evDraw_c,evDraw_0]
       refine W.assoc ?_
       refine zCh ?_
       simp (disch:=first|omega|exact zE rfl|exact zO|exact zL rfl) [c48_o20,zG,q,gp5,go5,lo5,er5,er5',gr5,eb,eb',lb,dd]
       refine zCh ?_
       simp (disch:=first|omega|exact zE rfl|exact zO|exact zL rfl) [c48_o21,zG,q]
       exact kR _ _ (by simp [T.get])
      exact ⟨_,_,this,ePost _ _ ⟨fun _ => ⟨rfl,rfl⟩,fun e => (by rw [hal] at e; cases e)⟩⟩
     ·rw [hal] at eb eb'
      have post3 : ∀ z H bo ros H5,TB Z H z (rowsA (a.steps (m : Nat)) (D + 1)) → CQ (a.steps (m : Nat)) H Z3.size D bo ros → H.plus [.cells 1 R.length (wsL R)] = H5 → Kp (fun _ => False) H H5 → H5.get H.size = .cells 1 R.length (wsL R) →
        Tr tbl J c48_l3 (fun s h => h = H5 ∧ s.get [true,false,false] = .ptr p 0 3 ∧ s.get [false,true,false] = .ptr Z3.size 0 1 ∧ s.get [true,true,true] = .slice H.size 0 R.length R.length ∧ s.get [false,false,false,false] = G (P.getD l' 0 : Nat) ∧ s.get [true,false,false,false] = G ((D : Int) - 1)) (.exit 4) (fun s h => ∃ z,NV H h z (wsL (R ++ extR a m D (P.getD l' 0))) ∧ s.get [true,true,true] = z) ∧ Kp (fun _ => False) (frameOf h) H:=fun z H bo ros H5 tb cq hH5 k5 g5 => by
       have kk:=tb.k
       have l3:=c48_l3_ok (p:=p) (R:=R) (E:=ext (a.steps (m : Nat)) D (P.getD l' 0)) J hS (kk.at f1 (by simp) id) (kk.at gx (by simp) id) (show (a.rows (m : Nat)).length = nS by omega) (kk.at gN (by simp) id) (fun i hi => by
        obtain ⟨y,e1,e2⟩:=h4 i hi
        exact ⟨y,e1,e2.kp kk (fun _ _ => id)⟩) os cq (show D ≤ 40 by omega) n40
       refine ⟨Tr.pre (fun s h ⟨h0,q1,q2,q3,q4,q5⟩ => ⟨_,[],_,⟨?_,⟨rfl,by rw [hS]; exact hat,hal,rfl⟩⟩,q1,q2,q3,q4,by rw [q5,show (D : Int) - 1 - ((0 : Nat) : Int) = (D : Int) - 1 by omega]⟩) l3,kS.trans kk⟩
       subst h0
       refine ⟨k5,fun q e => (by cases e; exact Nat.le_refl _),.inr ⟨H.size,?_,?_,?_⟩⟩
       ·show _ = AV.slice H.size 0 (wsL (R ++ [])).length (wsL (R ++ [])).length
        rw [List.append_nil,lw]
       ·show _ = AObj.cells 1 (wsL (R ++ [])).length (wsL (R ++ []))
        rw [List.append_nil,lw]; exact g5
       ·rw [k5.N]; unfold Heap.size; omega
      have fin : ∀ z H h',Kp (fun _ => False) (frameOf h) H → NV H h' z (wsL (R ++ extR a m D (P.getD l' 0))) → Post48 a (R.map stW) N h (.tup [z,G 0]) (if (one [z]).flat then [] else h'.own):=fun z H h' kH nv => ePost _ _ ⟨fun e => (by rw [hal] at e; cases e),fun _ => ⟨z,rfl,fun q e => Nat.le_trans (by have:=kH.size; rw [fz] at this; exact this) (nv.x0 q e),nv.rv.fr (kH.trans nv.k)⟩⟩
      refine Tr.fny (cf:=c48) (e:=.ret) (s:=T.set (T.set (T.set .leaf [] a.v) [false] (.slice b 0 R.length v)) [true] (G N)) (by decide) rfl (hJ _ _) rfl rfl (by simp) ?_
      clear oH o hx hxF ls kHs ws hw hn ok0 k61 k77 k78 k79 k80 k82 inj hk ePost m3 h7 h4 vc tb0 gp0 l1 os hs kZ kS
      generalize stW (R.getD 0 []) = u0 at *
      generalize stW ((a.rows (m : Nat)).getD (P.getD l' 0) []) = ul at *
      generalize lB (al (a.steps (m : Nat)) D) nS = bs at *
      generalize wsL (R ++ extR a m D (P.getD l' 0)) = wE at *
      generalize P.getD l' 0 = at0 at *
      generalize wsL R = wR at *
      generalize List.replicate nS (AV.bool true) = rep at *
      generalize R.length = l at *
      refine Tr.w fun s1 H1 hp _ kR => ?_
      obtain ⟨rfl,rfl⟩:=hp
      have q : True:=trivial
      refine zCh ?_
      simp (disch:=first|omega|exact zE rfl|exact zO|exact zL rfl) [c48_o0,zG,q,hHs]
      refine W.assoc ?_
      refine zCh ?_
      simp (disch:=first|omega|exact zE rfl|exact zO|exact zL rfl) [c48_o1,zG,q,fz,gS,e57,e77,e60]
      refine zCh ?_
      simp (disch:=first|omega|exact zE rfl|exact zO|exact zL rfl) [c48_o2,zG,q]
      refine W.assoc ?_
      refine zCh ?_
      simp (disch:=first|omega|exact zE rfl|exact zO|exact zL rfl) [c48_o3,zG,q,fz,gS,e78]
      refine zCh ?_
      simp (disch:=first|omega|exact zE rfl|exact zO|exact zL rfl) [c48_o4,zG,q]
      refine zCh ?_
      simp (disch:=first|omega|exact zE rfl|exact zO|exact zL rfl) [-evDraw_c,-Eff.isAll,c48_o5,zG,q,evDraw_0,fz,gS,g,w0,w0',lw,lw0,e61,app_if,app_if',hZ,own_all,isAll_none]
      refine zCh ?_
      simp (disch:=first|omega|exact zE rfl|exact zO|exact zL rfl) [c48_o6,zG,q,hZ1,f1a,e79,hZ2,hZ3,hZ4]
      refine W.assoc ?_
      refine zCh ?_
      simp (disch:=first|omega|exact zE rfl|exact zO|exact zL rfl) [c48_o7,zG,q,dd]
      refine W.seq (W.block ?_)
      refine W.use (l1') (by simp (disch:=first|omega|exact zE rfl|exact zO|exact zL rfl) [zG,q]) fun s1 H1 hp => ?_
      obtain ⟨z,tb,gp,q⟩:=hp
      try simp only [zW,if_true]
      obtain ⟨bo,ros,H5,br,cq,e82,hH5,k5,f5,g5,ma,gp5,go5,lo5,er5,gr5⟩:=post _ _ tb gp
      have er5':=getI er5
      obtain ⟨l3,kH⟩:=post3 _ _ _ _ _ tb cq hH5 k5 g5
      refine zCh ?_
      simp (disch:=first|omega|exact zE rfl|exact zO|exact zL rfl) [c48_o18,zG,q,e82,hH5]
      refine zCh ?_
      simp (disch:=first|omega|exact zE rfl|exact zO|exact zL rfl) [c48_o19,zG,q,f5,g5,ma,wi,wi',lw,hw0,ll1,-evDraw_c,evDraw_0]
      refine W.assoc ?_
      refine zCh ?_
      simp (disch:=first|omega|exact zE rfl|exact zO|exact zL rfl) [c48_o20,zG,q,gp5,go5,lo5,er5,er5',gr5,eb,eb',lb,dd]
      refine zCh ?_
      simp (disch:=first|omega|exact zE rfl|exact zO|exact zL rfl) [c48_o21,zG,q]
      refine W.assoc ?_
      refine zCh ?_
      simp (disch:=first|omega|exact zE rfl|exact zO|exact zL rfl) [c48_o22,zG,q,dd]
      refine W.seq (W.block ?_)
      refine W.use (l3) (by simp (disch:=first|omega|exact zE rfl|exact zO|exact zL rfl) [zG,q]) fun s1 H1 hp => ?_
      obtain ⟨z9,nv9,q⟩:=hp
      try simp only [zW,if_true]
      refine zCh ?_
      simp (disch:=first|omega|exact zE rfl|exact zO|exact zL rfl) [c48_o32,zG,q]
      refine W.ret ?_
      try simp only [zW,if_true]
      refine kR _ _ ?_
      refine ⟨[z9,G 0],by simp [T.get,c48,evRess,evRes,q],?_⟩
      rw [show (one [z9,G 0]).flat = (one [z9]).flat from by simp [one,AV.flat,AV.flats]]
      exact fin _ _ _ kH nv9
end
structure A48 where
 a : AR
 x : AV
 L : List (List UInt8)
 n : Int
def Ok48 (b : A48) (h : Heap) : Prop:=OkR b.a h ∧ EL h b.x (ss b.L) ∧ b.L.length ≤ 1000000 ∧ ∀ s ∈ b.L,s.length ≤ 1000000
def Pre48 (b : A48) (args : List AV) (h : Heap) : Prop:=Ok48 b h ∧ args = [b.a.v,b.x,G b.n]
noncomputable def T75 : CallF:=addK tbl T74 48 Pre48 (fun b h v own => Post48 b.a b.L b.n h v own)
theorem t75 : Sound Go.Proofs.Try.prog T75:=Sound.addK follows ok t74 (by decide) _ _
theorem k57_74 : KR 57 T74:=fun h a o => by
 rw [show T74 57 [.agg [G a.q,a.x,a.y]] h = T10 57 [.agg [G a.q,a.x,a.y]] h from by simp (disch:=decide) only [T11,T12,T13,T14,T15,T16,T17,T18,T19,T20,T21,T22,T23,T24,T25,T26,T27,T28,T29,T30,T31,T32,T33,T34,T35,T36,T37,T38,T39,T40,T41,T42,T43,T44,T45,T46,T47,T48,T49,T50,T51,T52,T53,T54,T55,T56,T57,T58,T59,T60,T61,T62,T63,T64,T65,T66,T67,T68,T69,T70,T71,T72,T73,T74,addI_ne,addX_ne,addV_ne,addK_ne]]; exact k57 h a o
theorem k60_74 : K60 T74:=fun n lo hi h => by
 rw [show T74 60 [G n,G lo,G hi] h = T1 60 [G n,G lo,G hi] h from by simp (disch:=decide) only [T2,T3,T4,T5,T6,T7,T8,T9,T10,T11,T12,T13,T14,T15,T16,T17,T18,T19,T20,T21,T22,T23,T24,T25,T26,T27,T28,T29,T30,T31,T32,T33,T34,T35,T36,T37,T38,T39,T40,T41,T42,T43,T44,T45,T46,T47,T48,T49,T50,T51,T52,T53,T54,T55,T56,T57,T58,T59,T60,T61,T62,T63,T64,T65,T66,T67,T68,T69,T70,T71,T72,T73,T74,addI_ne,addX_ne,addV_ne,addK_ne]]; exact k60 n lo hi h
theorem k61_74 : K61m T74:=fun h a m o m5 => by
 obtain ⟨p,own,e,l⟩:=k61m h a m o m5
 exact ⟨p,own,by rw [show T74 61 [a.v,G m] h = T18 61 [a.v,G m] h from by simp (disch:=decide) only [T19,T20,T21,T22,T23,T24,T25,T26,T27,T28,T29,T30,T31,T32,T33,T34,T35,T36,T37,T38,T39,T40,T41,T42,T43,T44,T45,T46,T47,T48,T49,T50,T51,T52,T53,T54,T55,T56,T57,T58,T59,T60,T61,T62,T63,T64,T65,T66,T67,T68,T69,T70,T71,T72,T73,T74,addI_ne,addX_ne,addV_ne,addK_ne]]; exact e,l⟩
theorem k77_74 : K77 T74:=fun h b o => by
 rw [show T74 77 [b.a.v,b.x] h = T67 77 [b.a.v,b.x] h from by simp (disch:=decide) only [T68,T69,T70,T71,T72,T73,T74,addI_ne,addX_ne,addV_ne,addK_ne]]; exact k77 h b o
theorem k78_74 : K78 T74:=fun h a m R b v o k g => by
 rw [show T74 78 [a.v,.slice b 0 R.length v] h = T68 78 [a.v,.slice b 0 R.length v] h from by simp (disch:=decide) only [T69,T70,T71,T72,T73,T74,addI_ne,addX_ne,addV_ne,addK_ne]]; exact k78 h a m R b v o k g
theorem k79_74 : K79 T74:=fun h b n x h1 h2 => by
 rw [show T74 79 [.slice b 0 1 1,G n] h = T72 79 [.slice b 0 1 1,G n] h from by simp (disch:=decide) only [T73,T74,addI_ne,addX_ne,addV_ne,addK_ne]]; exact k79 h b n x h1 h2
theorem k82_74 : K82 T74:=fun h a ha => by
 rw [show T74 82 [.slice a.b 0 a.n a.v] h = T73 82 [.slice a.b 0 a.n a.v] h from by simp (disch:=decide) only [T74,addI_ne,addX_ne,addV_ne,addK_ne]]; exact k82 h a ha
abbrev K48 (J : CallF) : Prop:=∀ (h : Heap) (b : A48),Ok48 b h → ∃ v own,J 48 [b.a.v,b.x,G b.n] h = some (v,own,false) ∧ Post48 b.a b.L b.n h v own
theorem k48 : K48 T75:=fun h b o => by
 obtain ⟨v,own,e,l⟩:=addK_some (Pre:=Pre48) (Post:=fun b h v own => Post48 b.a b.L b.n h v own) (fun b args h hp => by
  obtain ⟨⟨h1,h2,h3,h4⟩,rfl⟩:=hp
  exact c48_ok T74 k57_74 k60_74 k61_74 k77_74 k78_74 k79_74 k80_74 k82_74 (fun _ _ => by simp (disch:=decide) only [T1,T2,T3,T4,T5,T6,T7,T8,T9,T10,T11,T12,T13,T14,T15,T16,T17,T18,T19,T20,T21,T22,T23,T24,T25,T26,T27,T28,T29,T30,T31,T32,T33,T34,T35,T36,T37,T38,T39,T40,T41,T42,T43,T44,T45,T46,T47,T48,T49,T50,T51,T52,T53,T54,T55,T56,T57,T58,T59,T60,T61,T62,T63,T64,T65,T66,T67,T68,T69,T70,T71,T72,T73,T74,addI_ne,addX_ne,addV_ne,addK_ne]; rfl) h h1 h2 h3 h4) b _ h ⟨o,rfl⟩
 exact ⟨v,own,e,l⟩
end Go.Proofs.Ytljgfdamdcikgaa.Ev
set_option linter.unusedVariables false
set_option linter.unusedSimpArgs false
namespace Go.AEv
def Ct (X Y : AObj) : Prop:=Y = X ∨ ∃ g v cs n,X = .cells g v cs ∧ Y = .cells g v (cs.take n)
theorem Ct.hole {Y : AObj} (c : Ct .hole Y) : Y = .hole:=by
 rcases c with h | ⟨g,v,cs,n,h,_⟩
 ·exact h
 ·cases h
theorem Ct.ne {X Y : AObj} (c : Ct X Y) (h : Y ≠ .hole) : X ≠ .hole:=fun e => by subst e; exact h c.hole
theorem Ct.ne' {X Y : AObj} (c : Ct X Y) (h : X ≠ .hole) : Y ≠ .hole:=fun e => by
 rcases c with h' | ⟨g,v,cs,n,h1,h2⟩
 ·exact h (h' ▸ e)
 ·rw [h2] at e; cases e
theorem Ct.or {CK : CKT} {φ : Nat → Emb} {H : Heap} {w : World} {e : Emb} {X Y : AObj} (c : Ct X Y) (o : OR CK φ H w e X) : OR CK φ H w e Y:=by
 rcases c with rfl | ⟨g,v,cs,n,rfl,rfl⟩
 ·exact o
 ·simp only [OR] at o ⊢
  obtain ⟨c,t,fr,h1,h2,h3,h4⟩:=o
  refine ⟨c,t,fr,h1,h2,by rw [List.length_take]; omega,fun j v hv => h4 j v ?_⟩
  rw [List.getElem?_take] at hv
  split at hv
  ·exact hv
  ·cases hv
theorem Ct.stp {φ : Nat → Emb} {H H' : Heap} (c : ∀ b,Ct (H.get b) (H'.get b)) : Stp φ H φ H':=fun b => by
 have cb:=c b
 refine ⟨fun g n cs e => ?_,fun es e => ?_,fun st pend s ps x y e => ?_,fun cc pos e => ?_⟩
 ·rw [e] at cb
  rcases cb with h | ⟨g',v',cs',n',h1,h2⟩
  ·exact ⟨n,cs,h,Nat.le_refl _,fun _ => rfl⟩
  ·cases h1; exact ⟨n,_,h2,Nat.le_refl _,fun _ => rfl⟩
 ·rw [e] at cb
  rcases cb with h | ⟨g',v',cs',n',h1,h2⟩
  ·exact ⟨es,h,rfl⟩
  ·cases h1
 ·rw [e] at cb
  rcases cb with h | ⟨g',v',cs',n',h1,h2⟩
  ·exact ⟨_,_,_,_,_,_,h,rfl⟩
  ·cases h1
 ·rw [e] at cb
  rcases cb with h | ⟨g',v',cs',n',h1,h2⟩
  ·exact ⟨_,_,h,rfl⟩
  ·cases h1
theorem Ct.pts {φ : Nat → Emb} {H H' : Heap} (c : ∀ b,Ct (H.get b) (H'.get b)) : Stp φ H' φ H:=fun b => by
 have cb:=c b
 refine ⟨fun g n cs e => ?_,fun es e => ?_,fun st pend s ps x y e => ?_,fun cc pos e => ?_⟩
 ·rcases cb with h | ⟨g',v',cs',n',h1,h2⟩
  ·exact ⟨n,cs,by rw [← h]; exact e,Nat.le_refl _,fun _ => rfl⟩
  ·rw [e] at h2; cases h2; exact ⟨n,_,h1,Nat.le_refl _,fun _ => rfl⟩
 ·rcases cb with h | ⟨g',v',cs',n',h1,h2⟩
  ·exact ⟨es,by rw [← h]; exact e,rfl⟩
  ·rw [e] at h2; cases h2
 ·rcases cb with h | ⟨g',v',cs',n',h1,h2⟩
  ·exact ⟨_,_,_,_,_,_,by rw [← h]; exact e,rfl⟩
  ·rw [e] at h2; cases h2
 ·rcases cb with h | ⟨g',v',cs',n',h1,h2⟩
  ·exact ⟨_,_,by rw [← h]; exact e,rfl⟩
  ·rw [e] at h2; cases h2
def cutOf (c : Nat → AObj) (h : Heap) : Heap:=⟨c,h.size,[]⟩
theorem get_ge (h : Heap) {i : Nat} (hi : h.size ≤ i) : h.get i = .hole:=by
 cases hq : h.get i with
 | hole => rfl
 | _ => have:=Heap.get_lt (H:=h) (i:=i) (by rw [hq]; simp); simp only [Heap.size] at this hi; omega
theorem cut_get {c : Nat → AObj} {h : Heap} (hc : ∀ b,Ct (h.get b) (c b)) (i : Nat) : (cutOf c h).get i = c i:=by
 by_cases hi : i < h.size
 ·show (if i < h.size then c i else _) = _
  rw [if_pos hi]
 ·have e:=hc i
  rw [get_ge h (by omega)] at e
  rw [e.hole]
  show (if i < h.size then c i else ([] : List AObj).getD (i - h.size) .hole) = _
  rw [if_neg hi]; simp
theorem cut_hr {CK : CKT} {w0 : World} {K : List Nat} {φ : Nat → Emb} {h : Heap} {w : World} (hr : HR CK w0 K φ h w) {c : Nat → AObj} (hc : ∀ b,Ct (h.get b) (c b)) : HR CK w [] φ (cutOf c h) w ∧ Stp φ h φ (cutOf c h):=by
 have hc' : ∀ b,Ct (h.get b) ((cutOf c h).get b):=fun b => by rw [cut_get hc]; exact hc b
 have hs : Stp φ h φ (cutOf c h):=Ct.stp hc'
 refine ⟨⟨Nat.le_refl _,fun _ _ => rfl,fun i => OR.step hs (fun _ => rfl) ((hc' i).or (hr.obj i)),fun i hi hh => ?_,fun i j hj _ hh _ => ?_,by simp,by simp,Env.refl w⟩,hs⟩
 ·have:=(hc' i).ne hh
  rw [get_ge h hi] at this; exact absurd rfl this
 ·have:=(hc' j).ne hh
  rw [get_ge h hj] at this; exact absurd rfl this
theorem cut_back {CK : CKT} {w0 : World} {K : List Nat} {φ φ' : Nat → Emb} {h : Heap} {own : List AObj} {w w' : World} (hr : HR CK w0 K φ h w) {c : Nat → AObj} (hc : ∀ b,Ct (h.get b) (c b)) (hr' : HR CK w [] φ' ((cutOf c h).plus own) w') (hs : Stp φ (cutOf c h) φ' ((cutOf c h).plus own)) :
  HR CK w0 K φ' (h.plus own) w' ∧ Stp φ' ((cutOf c h).plus own) φ' (h.plus own) ∧ Stp φ h φ' (h.plus own):=by
 have hsz : (cutOf c h).size = h.size:=by simp [cutOf,Heap.size]
 have hsame : ∀ b,b < w.heap.size → w'.heap[b]? = w.heap[b]?:=hr'.old
 have hct : ∀ b,Ct ((h.plus own).get b) (((cutOf c h).plus own).get b):=fun b => by
  by_cases hb : b < h.size
  ·rw [plus_lt _ _ _ hb,plus_lt _ _ _ (by omega),cut_get hc]; exact hc b
  ·rw [plus_ge _ _ _ (by omega),plus_ge _ _ _ (by omega),hsz]; exact .inl rfl
 have back : Stp φ' ((cutOf c h).plus own) φ' (h.plus own):=Ct.pts hct
 have hge : ∀ i,h.get i ≠ .hole → i < h.size:=fun i hh => by
  have:=Heap.get_lt (H:=h) (i:=i) hh
  simp only [Heap.size] at this ⊢; omega
 have hlow : ∀ i,i < h.size → (h.plus own).get i = h.get i:=fun i hi => plus_lt _ _ _ hi
 have hφ : ∀ i,h.get i ≠ .hole → φ' i = φ i:=fun i hh => by
  have hi:=hge i hh
  have:=hs i
  have e0 : ((cutOf c h).plus own).get i = (cutOf c h).get i:=plus_lt _ _ _ (by omega)
  have hh' : (cutOf c h).get i ≠ .hole:=by rw [cut_get hc]; exact (hc i).ne' hh
  cases hq : (cutOf c h).get i with
  | hole => exact absurd hq hh'
  | cells g n cs =>
   obtain ⟨n',cs',e1,e2,e3⟩:=this.1 g n cs hq
   rw [e0,hq] at e1
   simp only [AObj.cells.injEq] at e1
   exact e3 e1.2.1.symm
  | map es => obtain ⟨_,_,e3⟩:=this.2.1 es hq; exact e3
  | loop st pend s ps x y => obtain ⟨_,_,_,_,_,_,_,e3⟩:=this.2.2.1 _ _ _ _ _ _ hq; exact e3
  | iter c pos => obtain ⟨_,_,_,e3⟩:=this.2.2.2 _ _ hq; exact e3
 have fwd : Stp φ h φ' (h.plus own):=fun b => by
  refine ⟨fun g n cs e => ?_,fun es e => ?_,fun st pend s ps x y e => ?_,fun cc pos e => ?_⟩
  ·have hh : h.get b ≠ .hole:=by rw [e]; simp
   exact ⟨n,cs,by rw [hlow b (hge b hh)]; exact e,Nat.le_refl _,fun _ => hφ b hh⟩
  ·have hh : h.get b ≠ .hole:=by rw [e]; simp
   exact ⟨es,by rw [hlow b (hge b hh)]; exact e,hφ b hh⟩
  ·have hh : h.get b ≠ .hole:=by rw [e]; simp
   exact ⟨_,_,_,_,_,_,by rw [hlow b (hge b hh)]; exact e,hφ b hh⟩
  ·have hh : h.get b ≠ .hole:=by rw [e]; simp
   exact ⟨_,_,by rw [hlow b (hge b hh)]; exact e,hφ b hh⟩
 have hN : (h.plus own).N = h.N:=rfl
 refine ⟨⟨Nat.le_trans hr.size hr'.size,fun b hb => ?_,fun i => ?_,fun i hi hh => ?_,fun i j hj hh1 hh2 hij => ?_,fun k hk => ?_,hr.nodup,hr.env.trans hr'.env⟩,back,fwd⟩
 ·rw [hsame b (by have:=hr.size; omega)]; exact hr.old b hb
 ·by_cases hi : i < h.size
  ·rw [hlow i hi]
   by_cases hh : h.get i = .hole
   ·rw [hh]; trivial
   ·rw [hφ i hh]
    exact OR.step fwd (fun hh => hsame _ (OR.lt (hr.obj i) hh)) (hr.obj i)
  ·have e : (h.plus own).get i = ((cutOf c h).plus own).get i:=by rw [plus_ge _ _ _ (by omega),plus_ge _ _ _ (by omega),hsz]
   rw [e]
   exact OR.step back (fun _ => rfl) (hr'.obj i)
 ·by_cases hlt : i < h.size
  ·rw [hlow i hlt] at hh
   rw [hφ i hh,hsame _ (OR.lt (hr.obj i) hh)]
   exact hr.own i hi hh
  ·have e : (h.plus own).get i = ((cutOf c h).plus own).get i:=by rw [plus_ge _ _ _ (by omega),plus_ge _ _ _ (by omega),hsz]
   rw [e] at hh
   obtain ⟨a1,a2,a3⟩:=hr'.own i (by show h.size ≤ i; omega) hh
   exact ⟨Nat.le_trans hr.size a1,a2,a3⟩
 ·have tr : ∀ i,(h.plus own).get i ≠ .hole → ((cutOf c h).plus own).get i ≠ .hole:=fun i hh => (hct i).ne' hh
  by_cases hjl : j < h.size
  ·by_cases hil : i < h.size
   ·rw [hlow i hil] at hh1; rw [hlow j hjl] at hh2
    rw [hφ i hh1,hφ j hh2]
    exact hr.sep i j hj hh1 hh2 hij
   ·exact fun e => hr'.sep j i (by show h.size ≤ i; omega) (tr j hh2) (tr i hh1) (fun e => hij e.symm) e.symm
  ·exact hr'.sep i j (by show h.size ≤ j; omega) (tr i hh1) (tr j hh2) hij
 ·obtain ⟨k1,k2⟩:=hr.keep k hk
  rw [hsame k (Array.getElem?_eq_some_iff.1 k2).1]; exact ⟨k1,k2⟩
def cutX (n : Nat) : AObj → AObj
 | .cells g v cs => .cells g v (cs.take n)
 | X => X
def cutO : List AV → Nat → AObj → AObj
 | [],_,X => X
 | .slice b 0 n v :: l,i,X => if b = i then cutX n X else cutO l i X
 | _ :: l,i,X => cutO l i X
theorem cutX_ct (n : Nat) (X : AObj) : Ct X (cutX n X):=by
 cases X with
 | cells g v cs => exact .inr ⟨g,v,cs,n,rfl,rfl⟩
 | _ => exact .inl rfl
theorem cutO_ct : ∀ (l : List AV) (i : Nat) (X : AObj),Ct X (cutO l i X):=fun l i X => by
 fun_induction cutO l i X with
 | case1 => exact .inl rfl
 | case2 => exact cutX_ct _ _
 | case3 => assumption
 | case4 => assumption
def cutA (args : List AV) (h : Heap) : Heap:=cutOf (fun i => cutO args i (h.get i)) h
def addC (I : CallF) (f : Nat) : CallF:=fun g args h => if g = f then (match I f args (cutA args h) with
 | some (v,own,false) => some (v,own,false)
 | _ => none) else I g args h
theorem Sound.addC {P : Program} {I : CallF} (hI : Sound P I) (f : Nat) : Sound P (addC I f):=fun g args h v own sh e => by
 unfold AEv.addC at e
 split at e
 ·rename_i hg
  subst hg
  split at e
  ·rename_i v' own' e'
   simp only [Option.some.injEq,Prod.mk.injEq] at e
   obtain ⟨rfl,rfl,rfl⟩:=e
   obtain ⟨hent,hc⟩:=hI _ _ _ _ _ _ e'
   refine ⟨hent,fun w0 K φ w vals hr hv => ?_⟩
   have hct : ∀ b,Ct (h.get b) (cutO args b (h.get b)):=fun b => cutO_ct args b _
   obtain ⟨h1,h2⟩:=cut_hr hr hct
   refine CallsIn.mono (hc w [] φ w vals h1 (VRs.step h2 _ _ hv)) ?_
   rintro en w' ⟨φ',x,rfl,q1,q2,q3⟩
   have m1 : mrg (cutA args h) own' false = (cutOf (fun i => cutO args i (h.get i)) h).plus own':=by simp [mrg,cutA,Heap.plus]
   have m2 : mrg h own' false = h.plus own':=by simp [mrg,Heap.plus]
   rw [m1] at q1 q2 q3
   rw [m2]
   obtain ⟨b1,b2,b3⟩:=cut_back hr hct q2 q3
   exact ⟨φ',x,rfl,VR.step b2 _ _ q1,b1,b3⟩
  ·cases e
 ·exact hI g args h v own sh e
theorem addC_ne {I : CallF} {f g : Nat} (hg : g ≠ f) (args : List AV) (h : Heap) : addC I f g args h = I g args h:=by
 unfold addC; rw [if_neg hg]
end Go.AEv
set_option linter.unusedVariables false
set_option linter.unusedSimpArgs false
namespace Go.Proofs.Ytljgfdamdcikgaa.Ev
open Go Go.AEv
attribute [local simp] evFunc initS evOps_c evTrim_c evSkip_c evExit_c evRet_c evSeq_c evCond_c evBlock_c evDraw_c runOps_n runOps_c exec_n exec_g pure1_c act AOpd.ev T.get T.set T.put evBin evUn forceT_eq forceV_eq forceL_eq evRess evRes one keep runFP_n runFP_c app_none AV.flats AV.flat came_some List.getElem?_cons_zero List.getElem?_cons_succ beqT wrapI idxI tdivI tmodI decT decF ibT ibF inT inF evScope_c if_pos if_neg Cm_some thenW_n thenW_e thenW_r blkW_n blkW_e blkW_r goI kn putAt AV.cells fillA loadA takeA mk Eff.isAll Eff.isNone Eff.commutes Eff.spares okPair apart eqAgg fits LK.fits allEq aveq eqk mmA
def PL (h : Heap) (x : AV) (cs : List AV) : Prop:=(x = .nils ∧ cs = []) ∨ ∃ b v rest,x = .slice b 0 cs.length v ∧ h.get b = .cells 1 v (cs ++ rest)
theorem PL.kp {h h' : Heap} {x : AV} {cs : List AV} (r : PL h x cs) (k : Kp (fun _ => False) h h') : PL h' x cs:=by
 rcases r with h | ⟨b,v,rest,e,g⟩
 ·exact .inl h
 ·exact .inr ⟨b,v,rest,e,k.at g (by simp) id⟩
theorem RV.back {h h' : Heap} (hs : h'.size = h.size) {own : List AObj} {x : AV} {cs : List AV} (r : RV (h'.plus own) x cs) (f : ∀ q,blk x = some q → h'.size ≤ q) : RV (h.plus own) x cs:=by
 rcases r with h | ⟨b,v,rfl,g⟩
 ·exact .inl h
 ·have:=f b rfl
  refine .inr ⟨b,v,rfl,?_⟩
  rw [plus_ge _ _ _ this] at g
  rw [plus_ge _ _ _ (by omega),← hs]; exact g
theorem Post48.back {h h' : Heap} (hs : h'.size = h.size) {a : AR} {L : List (List UInt8)} {n : Int} {v : AV} {own : List AObj} (p : Post48 a L n h' v own) : Post48 a L n h v own :=
 ⟨p.1,fun e R hL hR => ⟨(p.2 e R hL hR).1,fun P k eP vc => ⟨((p.2 e R hL hR).2 P k eP vc).1,fun ha => by
  obtain ⟨x,e1,e2,e3⟩:=((p.2 e R hL hR).2 P k eP vc).2 ha
  exact ⟨x,e1,fun q hq => by rw [← hs]; exact e2 q hq,RV.back hs e3 e2⟩⟩⟩⟩
noncomputable def T76 : CallF:=addC T75 48
theorem t76 : Sound Go.Proofs.Try.prog T76:=t75.addC 48
noncomputable def T77 : CallF:=addC T76 29
theorem t77 : Sound Go.Proofs.Try.prog T77:=t76.addC 29
theorem NV.appD {H0 H : Heap} {x : AV} {L : List AV} (t : NV H0 H x L) (z : AV) (hn : (L.length + 1) * 16 ≤ 1099511627776) :
  ∃ x1 e H2,appA (H.plus [.cells 1 1 [z],.hole]) H.size (some 1) 1 16 1 [z] x = some (x1,e) ∧ Eff.app e (H.plus [.cells 1 1 [z],.hole]) = some H2 ∧ NV H0 H2 x1 (L ++ [z]) ∧ ((∃ i X,e = .fill i X) ∨ (∃ b v g vs,e = .ext b v g vs)):=by
 have kp : ∀ X,Kp (fun _ => False) H (H.plus X):=fun X => Kp.plus _ _
 rcases t.l with ⟨rfl,rfl⟩ | ⟨b,rfl,g,hN⟩
 ·refine ⟨.slice (H.size + 1) 0 1 1,.fill (H.size + 1) (.cells 1 1 [z]),H.plus [.cells 1 1 [z],.cells 1 1 [z]],rfl,fill_plus1 _ _ rfl _ _ _,⟨t.k.trans (kp _),fun q hq => ?_,.inr ⟨H.size + 1,rfl,?_,?_⟩⟩,.inl ⟨_,_,rfl⟩⟩
  ·cases hq; have:=t.k.size; omega
  ·rw [plus_ge _ _ _ (by omega),show H.size + 1 - H.size = 1 by omega]; rfl
  ·show H.N ≤ H.size + 1; unfold Heap.size; omega
 ·have hlt:=get_lt g (by simp)
  have hb2 : (H.plus [.cells 1 1 [z],.hole]).get b = .cells 1 L.length L:=by rw [plus_lt _ _ _ hlt,g]
  have hN' : (H.plus [.cells 1 1 [z],.hole]).N ≤ b:=by rw [plus_N]; exact hN
  refine ⟨.slice b 0 (L.length + 1) (L.length + 1),.ext b L.length 1 [z],(H.plus [.cells 1 1 [z],.hole]).upd b (.cells 1 (L.length + 1) (L ++ [z])),?_,?_,⟨?_,fun q hq => t.x0 q hq,.inr ⟨b,by simp,?_,by rw [upd_N]; exact hN'⟩⟩,.inr ⟨_,_,_,_,rfl⟩⟩
  ·simp only [appA,Nat.mul_one,Nat.one_mul]
   rw [if_neg (by decide),if_pos ⟨trivial,by simp,hn⟩]
  ·exact ext_gen _ b L.length 1 L [z] hN' hb2 rfl
  ·exact (t.k.trans (kp _)).late (Kp.upd (M:=fun q => q = b) _ _ _ hN' rfl) (fun q hq => by rw [hq]; exact t.x0 b rfl)
  ·rw [upd_same _ _ _ hN' (by rw [plus_size]; show b < H.size + 2; omega)]; simp
def fewL (L : List (List UInt8)) : List (List UInt8):=(L.take 41).map fun s => s.take 7
theorem fewL_len (L : List (List UInt8)) : (fewL L).length ≤ 41:=by unfold fewL; rw [List.length_map,List.length_take]; omega
theorem fewL_short {L : List (List UInt8)} {s : List UInt8} (h : s ∈ fewL L) : s.length ≤ 7:=by
 unfold fewL at h
 obtain ⟨t,_,rfl⟩:=List.mem_map.1 h
 rw [List.length_take]; omega
section
variable {L : List (List UInt8)}
abbrev P43 (H0 : Heap) (x : AV) (L : List (List UInt8)) (i : Nat) : SP:=fun s h => ∃ z,NV H0 h z (ss ((L.take i).map fun s => s.take 7)) ∧ s.get [] = x ∧ s.get [false,false] = z ∧ s.get [true,false] = G i
set_option maxHeartbeats 1000000 in
theorem c43_l0_ok (J : CallF) {H0 : Heap} {x : AV} (hx : EL H0 x (ss L)) :
  Tr tbl J c43_l0 (P43 H0 x L 0) (.exit 0) (fun s h => ∃ z,NV H0 h z (ss (fewL L)) ∧ s.get [false,false] = z):=by
 obtain ⟨M,hM⟩ : ∃ M,M = min L.length 41:=⟨_,rfl⟩
 have ls : (ss L).length = L.length:=by simp
 have fM : (L.take M).map (fun s => s.take 7) = fewL L:=by
  have tkM : L.take M = L.take 41:=by rw [List.take_eq_take_iff]; omega
  unfold fewL
  rw [tkM]
 refine Tr.rounds (e:=.exit 0) (P:=P43 H0 x L) (M:=M) (fun i hi => ?_) ?_ (by simp) 0 (by omega)
 ·refine Tr.w fun s1 H1 hp _ kR => W.trim ?_
  obtain ⟨z,nv,q⟩:=hp
  have hiL : i < L.length:=by omega
  obtain ⟨b,v,rfl,g0⟩ : ∃ b v,x = .slice b 0 L.length v ∧ H0.get b = .cells 1 v (ss L):=by
   rcases hx with ⟨_,e⟩ | ⟨b,v,e,g⟩
   ·have : (ss L).length = 0:=by rw [e]; rfl
    omega
   ·rw [ls] at e; exact ⟨b,v,e,g⟩
  have g:=nv.k.at g0 (by simp) id
  have es:=ss_at (L:=L) hiL
  have es':=getI es
  obtain ⟨x1,e,H2,q1,q2,nv2,q3⟩:=nv.appD (.str ((L.getD i []).take 7)) (by simp; omega)
  have ee : ss ((L.take i).map fun s => s.take 7) ++ [.str ((L.getD i []).take 7)] = ss ((L.take (i + 1)).map fun s => s.take 7):=by
   have t1 : L.take (i + 1) = L.take i ++ [L.getD i []]:=by
    rw [List.take_add_one,List.getElem?_eq_getElem hiL,List.getD_eq_getElem?_getD,List.getElem?_eq_getElem hiL]; rfl
   rw [t1]
   simp only [ss,List.map_append,List.map_cons,List.map_nil]
  rw [ee] at nv2
  have f0:=fill_plus0 H1 H1.size rfl (.cells 1 1 [.str ((L.getD i []).take 7)]) [.hole]
  have pg : (H1.plus [.cells 1 1 [.str ((L.getD i []).take 7)],.hole]).get H1.size = .cells 1 1 [.str ((L.getD i []).take 7)]:=plus_at0 _ _ _ _ rfl
  have g2 : (H1.plus [.hole,.hole]).get b = .cells 1 v (ss L):=(Kp.plus (M:=fun _ => False) H1 [.hole,.hole]).at g (by simp) id
  have i41 : i < 41:=by omega
  have k1 : ((i + 1 : Nat) : Int) = (i : Int) + 1:=by omega
  dsimp only [P43] at kR
  rw [k1] at kR
  clear nv ee hx k1 fM hM hi
  by_cases c : 7 < (L.getD i []).length
  ·generalize L.getD i [] = w at *
   generalize ss L = sl at *
   generalize L.length = n at *
   rcases q3 with ⟨i',X',rfl⟩ | ⟨b',v',g',vs',rfl⟩
   all_goals
    refine W.assoc ?_
    refine zCh ?_
    simp (disch:=first|omega|exact zE rfl|exact zO|exact zL rfl) [c43_o3,zG,q]
    refine zCh ?_
    simp (disch:=first|omega|exact zE rfl|exact zO|exact zL rfl) [zG,q]
    refine W.seq (W.block ?_)
    refine W.chunk ?_
    simp (disch:=first|omega|exact zE rfl|exact zO|exact zL rfl) [-evDraw_c,c43_o4,zG,q,evDraw_k,g2,es,es',ls,mmA,c,bounds,plus_plus,plus_size,f0,pg,elems,rdOf,q1,q2]
    refine W.chunk ?_
    simp (disch:=first|omega|exact zE rfl|exact zO|exact zL rfl) [c43_o5,zG,q]
    exact kR _ _ ⟨_,nv2,by simp [T.get,q]⟩
  ·have tk : (L.getD i []).take 7 = L.getD i []:=List.take_of_length_le (by omega)
   rw [tk] at q1 q2 f0 pg
   generalize L.getD i [] = w at *
   generalize ss L = sl at *
   generalize L.length = n at *
   have tk2 : w.take w.length = w:=List.take_length
   rcases q3 with ⟨i',X',rfl⟩ | ⟨b',v',g',vs',rfl⟩
   all_goals
    refine W.assoc ?_
    refine zCh ?_
    simp (disch:=first|omega|exact zE rfl|exact zO|exact zL rfl) [c43_o3,zG,q]
    refine zCh ?_
    simp (disch:=first|omega|exact zE rfl|exact zO|exact zL rfl) [zG,q]
    refine W.seq (W.block ?_)
    refine W.chunk ?_
    simp (disch:=first|omega|exact zE rfl|exact zO|exact zL rfl) [-evDraw_c,c43_o4,zG,q,evDraw_k,g2,es,es',ls,mmA,c,tk2,bounds,plus_plus,plus_size,f0,pg,elems,rdOf,q1,q2]
    refine W.chunk ?_
    simp (disch:=first|omega|exact zE rfl|exact zO|exact zL rfl) [c43_o5,zG,q]
    exact kR _ _ ⟨_,nv2,by simp [T.get,q]⟩
 ·refine Tr.w fun s1 H1 hp _ kR => W.trim ?_
  obtain ⟨z,nv,q⟩:=hp
  rw [fM] at nv
  have sx : (x = .nils ∧ L.length = 0) ∨ (x = .slice0 ∧ L.length = 0) ∨ ∃ b v,x = .slice b 0 L.length v:=by
   rcases hx with ⟨e1 | e1,e⟩ | ⟨b,v,e,g⟩
   ·left; refine ⟨e1,?_⟩; rw [← ls,e]; rfl
   ·right; left; refine ⟨e1,?_⟩; rw [← ls,e]; rfl
   ·rw [ls] at e; exact .inr (.inr ⟨b,v,e⟩)
  clear hx fM ls
  generalize fewL L = fl at *
  generalize L.length = n at *
  rcases sx with ⟨rfl,rfl⟩ | ⟨rfl,rfl⟩ | ⟨b,v,rfl⟩
  ·refine W.assoc ?_
   refine zCh ?_
   simp (disch:=first|omega|exact zE rfl|exact zO|exact zL rfl) [c43_o3,zG,q]
   refine zCh ?_
   simp (disch:=first|omega|exact zE rfl|exact zO|exact zL rfl) [zG,q]
   exact kR _ _ ⟨_,nv,by simp [T.get,q]⟩
  ·refine W.assoc ?_
   refine zCh ?_
   simp (disch:=first|omega|exact zE rfl|exact zO|exact zL rfl) [c43_o3,zG,q]
   refine zCh ?_
   simp (disch:=first|omega|exact zE rfl|exact zO|exact zL rfl) [zG,q]
   exact kR _ _ ⟨_,nv,by simp [T.get,q]⟩
  ·by_cases c : M < n
   ·have c2 : ¬ (M ≤ 40):=by omega
    refine W.assoc ?_
    refine zCh ?_
    simp (disch:=first|omega|exact zE rfl|exact zO|exact zL rfl) [c43_o3,zG,q,c]
    refine zCh ?_
    simp (disch:=first|omega|exact zE rfl|exact zO|exact zL rfl) [zG,q]
    exact kR _ _ ⟨_,nv,by simp [T.get,q]⟩
   ·refine W.assoc ?_
    refine zCh ?_
    simp (disch:=first|omega|exact zE rfl|exact zO|exact zL rfl) [c43_o3,zG,q,c]
    refine zCh ?_
    simp (disch:=first|omega|exact zE rfl|exact zO|exact zL rfl) [zG,q]
    exact kR _ _ ⟨_,nv,by simp [T.get,q]⟩
theorem c43_ok (J : CallF) (hJ : ∀ a h,J 43 a h = none) (h : Heap) {x : AV} (hx : EL h x (ss L)) : ∃ v own,CallsTo tbl J 43 [x] h (v,own,false) ∧ RV (h.plus own) v (ss (fewL L)):=by
 refine Tr.fny (cf:=c43) (e:=.ret) (s:=T.set .leaf [] x) (by decide) rfl (hJ _ _) rfl rfl (by simp) ?_
 have hx0 : EL (frameOf h) x (ss L):=hx.lo []
 have l0:=c43_l0_ok J hx0
 have l0' : Tr tbl J c43_l0 (fun s h' => h' = frameOf h ∧ s.get [] = x ∧ s.get [false,false] = .nils ∧ s.get [true,false] = G ((0 : Nat) : Int)) (.exit 0) (fun s h' => ∃ z,NV (frameOf h) h' z (ss (fewL L)) ∧ s.get [false,false] = z):=Tr.pre (fun s h' ⟨h0,q1,q2,q3⟩ => ⟨.nils,by rw [h0]; exact NV.nil _,q1,q2,q3⟩) l0
 clear l0
 refine Tr.w fun s1 H1 hp _ kR => ?_
 obtain ⟨rfl,rfl⟩:=hp
 have q : True:=trivial
 refine zCh ?_
 simp (disch:=first|omega|exact zE rfl|exact zO|exact zL rfl) [c43_o0,zG,q]
 refine zCh ?_
 simp (disch:=first|omega|exact zE rfl|exact zO|exact zL rfl) [c43_o1,zG,q]
 refine W.assoc ?_
 refine zCh ?_
 simp (disch:=first|omega|exact zE rfl|exact zO|exact zL rfl) [c43_o2,zG,q]
 refine W.seq (W.block ?_)
 refine W.use (l0') (by simp (disch:=first|omega|exact zE rfl|exact zO|exact zL rfl) [zG,q]) fun s1 H1 hp => ?_
 obtain ⟨z,nv,q⟩:=hp
 try simp only [zW,if_true]
 refine zCh ?_
 simp (disch:=first|omega|exact zE rfl|exact zO|exact zL rfl) [c43_o6,zG,q]
 refine W.ret ?_
 try simp only [zW,if_true]
 exact kR _ _ ⟨[z],by simp [T.get,c43,evRess,evRes,q],nv.rv.fr nv.k⟩
end
structure A43 where
 x : AV
 L : List (List UInt8)
def Pre43 (b : A43) (args : List AV) (h : Heap) : Prop:=EL h b.x (ss b.L) ∧ args = [b.x]
noncomputable def T78 : CallF:=addK tbl T77 43 Pre43 (fun b h v own => RV (h.plus own) v (ss (fewL b.L)))
theorem t78 : Sound Go.Proofs.Try.prog T78:=Sound.addK follows ok t77 (by decide) _ _
abbrev K43 (J : CallF) : Prop:=∀ (h : Heap) (x : AV) (L : List (List UInt8)),EL h x (ss L) → ∃ v own,J 43 [x] h = some (v,own,false) ∧ RV (h.plus own) v (ss (fewL L))
theorem k43 : K43 T78:=fun h x L o => by
 obtain ⟨v,own,e,l⟩:=addK_some (Pre:=Pre43) (Post:=fun b h v own => RV (h.plus own) v (ss (fewL b.L))) (fun b args h hp => by
  obtain ⟨h1,rfl⟩:=hp
  exact c43_ok T77 (fun _ _ => by simp (disch:=decide) only [T1,T2,T3,T4,T5,T6,T7,T8,T9,T10,T11,T12,T13,T14,T15,T16,T17,T18,T19,T20,T21,T22,T23,T24,T25,T26,T27,T28,T29,T30,T31,T32,T33,T34,T35,T36,T37,T38,T39,T40,T41,T42,T43,T44,T45,T46,T47,T48,T49,T50,T51,T52,T53,T54,T55,T56,T57,T58,T59,T60,T61,T62,T63,T64,T65,T66,T67,T68,T69,T70,T71,T72,T73,T74,T75,T76,T77,addI_ne,addX_ne,addV_ne,addK_ne,addC_ne]; rfl) h h1) ⟨x,L⟩ _ h ⟨o,rfl⟩
 exact ⟨v,own,e,l⟩
theorem addI_eq (I : CallF) (f : Nat) (spec : SpecF) (args : List AV) (h : Heap) : addI I f spec f args h = spec args h:=if_pos rfl
section
variable {a : AG} {m : Nat} {R : List (List Nat)} {b v : Nat}
set_option maxHeartbeats 1000000 in
theorem c46g_b0_ok (J : CallF) (k68 : KW 68 J) (k69 : KB 69 J) {H : Heap} {p : Nat} (o : OkG a H) (k : WS a m R) (gS : H.get p = .cells 0 3 [G a.q,a.x,a.y]) (gH : H.get b = .cells 1 v (wsL R)) {i : Nat} (hi : i < R.length) :
  (kpB a R i = true → Tr tbl J (.trim [[false],[true],[false,true]] c46_b0) (fun s h => h = H ∧ s.get [false] = .slice b 0 R.length v ∧ s.get [true] = .ptr p 0 3 ∧ s.get [false,true] = G (i : Nat)) .normal (fun s h => h = H ∧ s.get [false] = .slice b 0 R.length v ∧ s.get [true] = .ptr p 0 3 ∧ s.get [false,true] = G ((i + 1 : Nat) : Int))) ∧
  (kpB a R i = false → Tr tbl J (.trim [[false],[true],[false,true]] c46_b0) (fun s h => h = H ∧ s.get [false] = .slice b 0 R.length v ∧ s.get [true] = .ptr p 0 3 ∧ s.get [false,true] = G (i : Nat)) .ret (fun s h => s.get [true,false] = .bool false)):=by
 have ki:=k.at hi
 have m5:=k.m5
 have e68:=k68 H a _ o ki.2 (by omega)
 have wi:=wsL_at (R:=R) hi
 have wi':=getI wi
 have lw:=wsL_len R
 have l1:=k.l
 have kb : kpB a R i = (bsd a.B (R.getD i []) && (decide (i = 0) || blw a.W (R.getD (i - 1) []) (R.getD i []))):=rfl
 rw [kb]
 have main : ∀ (s1 : T) (H1 : Heap) (Q : PQ),((fun s h => h = H ∧ s.get [false] = .slice b 0 R.length v ∧ s.get [true] = .ptr p 0 3 ∧ s.get [false,true] = G (i : Nat)) : SP) s1 H1 →
   ((bsd a.B (R.getD i []) && (decide (i = 0) || blw a.W (R.getD (i - 1) []) (R.getD i []))) = true → ∀ s' h',((fun s h => h = H ∧ s.get [false] = .slice b 0 R.length v ∧ s.get [true] = .ptr p 0 3 ∧ s.get [false,true] = G ((i + 1 : Nat) : Int)) : SP) s' h' → Q .normal s' h') →
   ((bsd a.B (R.getD i []) && (decide (i = 0) || blw a.W (R.getD (i - 1) []) (R.getD i []))) = false → ∀ s' h',((fun s h => s.get [true,false] = .bool false) : SP) s' h' → Q .ret s' h') → W tbl J (.trim [[false],[true],[false,true]] c46_b0) s1 H1 Q:=fun s1 H1 Q hp kA kB => by
  obtain ⟨rfl,q⟩:=hp
  cases i with
  | zero =>
   rw [decide_eq_true rfl,Bool.true_or,Bool.and_true] at kA kB
   clear o k ki kb k69
   generalize bsd a.B (R.getD 0 []) = z at *
   generalize stW (R.getD 0 []) = w0 at *
   generalize wsL R = ws at *
   generalize R.length = n at *
   cases z
   ·have kR:=kB rfl
    clear kA kB
    refine W.trim ?_
    refine W.assoc ?_
    refine zCh ?_
    simp (disch:=first|omega|exact zE rfl|exact zO|exact zL rfl) [c46_o2,zG,q]
    refine zCh ?_
    simp (disch:=first|omega|exact zE rfl|exact zO|exact zL rfl) [zG,q]
    refine W.seq (W.block ?_)
    refine zCh ?_
    simp (disch:=first|omega|exact zE rfl|exact zO|exact zL rfl) [-evDraw_c,c46_o3,zG,q,evDraw_0,gS,gH,wi,wi',lw,e68,app_if,app_if']
    refine W.chunk ?_
    simp (disch:=first|omega|exact zE rfl|exact zO|exact zL rfl) [c46_o4,zG,q]
    exact kR _ _ (by simp [T.get])
   ·have kR:=kA rfl
    clear kA kB
    refine W.trim ?_
    refine W.assoc ?_
    refine zCh ?_
    simp (disch:=first|omega|exact zE rfl|exact zO|exact zL rfl) [c46_o2,zG,q]
    refine zCh ?_
    simp (disch:=first|omega|exact zE rfl|exact zO|exact zL rfl) [zG,q]
    refine W.seq (W.block ?_)
    refine zCh ?_
    simp (disch:=first|omega|exact zE rfl|exact zO|exact zL rfl) [-evDraw_c,c46_o3,zG,q,evDraw_0,gS,gH,wi,wi',lw,e68,app_if,app_if']
    refine W.chunk ?_
    simp (disch:=first|omega|exact zE rfl|exact zO|exact zL rfl) [c46_o4,zG,q]
    refine W.chunk ?_
    simp (disch:=first|omega|exact zE rfl|exact zO|exact zL rfl) [c46_o5,zG,q]
    exact kR _ _ (by simp [T.get,q])
  | succ i =>
   have kj:=k.at (i:=i) (by omega)
   have e69:=k69 H1 a (R.getD i []) (R.getD (i + 1) []) o kj.2 ki.2 (by omega) (by rw [ki.1,kj.1])
   rw [decide_eq_false (by omega),Bool.false_or,Nat.add_sub_cancel] at kA kB
   have wj:=wsL_at (R:=R) (i:=i) (by omega)
   have wj':=getI wj
   have n1 : ((i + 1 : Nat) : Int) = (i : Int) + 1:=by omega
   clear o k ki kj kb k69
   generalize bsd a.B (R.getD (i + 1) []) = z at *
   generalize blw a.W (R.getD i []) (R.getD (i + 1) []) = y at *
   generalize stW (R.getD (i + 1) []) = w1 at *
   generalize stW (R.getD i []) = w0 at *
   generalize wsL R = ws at *
   generalize R.length = n at *
   cases z
   ·have kR:=kB rfl
    clear kA kB
    refine W.trim ?_
    refine W.assoc ?_
    refine zCh ?_
    simp (disch:=first|omega|exact zE rfl|exact zO|exact zL rfl) [c46_o2,zG,q]
    refine zCh ?_
    simp (disch:=first|omega|exact zE rfl|exact zO|exact zL rfl) [zG,q]
    refine W.seq (W.block ?_)
    refine zCh ?_
    simp (disch:=first|omega|exact zE rfl|exact zO|exact zL rfl) [-evDraw_c,c46_o3,zG,q,evDraw_0,gS,gH,wi,wi',wj,wj',lw,e68,e69,app_if,app_if']
    refine W.chunk ?_
    simp (disch:=first|omega|exact zE rfl|exact zO|exact zL rfl) [c46_o4,zG,q]
    exact kR _ _ (by simp [T.get])
   ·cases y
    ·have kR:=kB rfl
     clear kA kB
     refine W.trim ?_
     refine W.assoc ?_
     refine zCh ?_
     simp (disch:=first|omega|exact zE rfl|exact zO|exact zL rfl) [c46_o2,zG,q]
     refine zCh ?_
     simp (disch:=first|omega|exact zE rfl|exact zO|exact zL rfl) [zG,q]
     refine W.seq (W.block ?_)
     refine zCh ?_
     simp (disch:=first|omega|exact zE rfl|exact zO|exact zL rfl) [-evDraw_c,c46_o3,zG,q,evDraw_0,gS,gH,wi,wi',wj,wj',lw,e68,e69,app_if,app_if']
     refine W.chunk ?_
     simp (disch:=first|omega|exact zE rfl|exact zO|exact zL rfl) [c46_o4,zG,q]
     exact kR _ _ (by simp [T.get])
    ·have kR:=kA rfl
     clear kA kB
     refine W.trim ?_
     refine W.assoc ?_
     refine zCh ?_
     simp (disch:=first|omega|exact zE rfl|exact zO|exact zL rfl) [c46_o2,zG,q]
     refine zCh ?_
     simp (disch:=first|omega|exact zE rfl|exact zO|exact zL rfl) [zG,q]
     refine W.seq (W.block ?_)
     refine zCh ?_
     simp (disch:=first|omega|exact zE rfl|exact zO|exact zL rfl) [-evDraw_c,c46_o3,zG,q,evDraw_0,gS,gH,wi,wi',wj,wj',lw,e68,e69,app_if,app_if']
     refine W.chunk ?_
     simp (disch:=first|omega|exact zE rfl|exact zO|exact zL rfl) [c46_o4,zG,q]
     refine W.chunk ?_
     simp (disch:=first|omega|exact zE rfl|exact zO|exact zL rfl) [c46_o5,zG,q]
     exact kR _ _ (by simp [T.get,q])
 exact ⟨fun hs => Tr.w fun s1 H1 hp Q kR => main s1 H1 Q hp (fun _ => kR) (fun h => by rw [hs] at h; cases h),fun hs => Tr.w fun s1 H1 hp Q kR => main s1 H1 Q hp (fun h => by rw [hs] at h; cases h) (fun _ => kR)⟩
theorem c46g_ok (J : CallF) (k68 : KW 68 J) (k69 : KB 69 J) (hJ : ∀ a h,J 46 a h = none) (h : Heap) (o : OkG a h) (k : WS a m R) (g : h.get b = .cells 1 v (wsL R)) : CallsTo tbl J 46 [a.v,.slice b 0 R.length v] h (.bool (kpS a R),[],false):=by
 refine Tr.fnv (cf:=c46) (e:=.ret) (s:=T.set (T.set .leaf [] a.v) [false] (.slice b 0 R.length v)) (by decide) rfl (hJ _ _) rfl rfl rfl (by simp) ?_
 refine Tr.post (Q:=(fun s h => s.get [true,false] = .bool (kpS a R))) (fun s h q => by simp [c46,q]) ?_
 have oF:=o.fr
 have gF : (frameOf h).get b = .cells 1 v (wsL R):=by
  unfold frameOf
  rw [get_mk_lt _ _ _ _ (get_lt g (by simp))]; exact g
 generalize frameOf h = H0 at *
 obtain ⟨H,hH⟩ : ∃ H,H0.plus [.cells 0 3 [G a.q,a.x,a.y]] = H:=⟨_,rfl⟩
 have kH : Kp (fun _ => False) H0 H:=by rw [← hH]; exact Kp.plus _ _
 have gS : H.get H0.size = .cells 0 3 [G a.q,a.x,a.y]:=by rw [← hH]; exact plus_at0 _ _ _ _ rfl
 have gH:=kH.at gF (by simp) id
 have b0:=fun {i} hi => c46g_b0_ok J k68 k69 (oF.kp kH) k gS gH (i:=i) hi
 have l1:=k.l
 cases hk : kpS a R
 ·have l0 : Tr tbl J c46_l0 (fun s h => h = H ∧ s.get [false] = .slice b 0 R.length v ∧ s.get [true] = .ptr H0.size 0 3 ∧ s.get [false,true] = G ((0 : Nat) : Int)) .ret (fun s h => s.get [true,false] = .bool false) :=
   Tr.allF (P:=fun i => (fun s h => h = H ∧ s.get [false] = .slice b 0 R.length v ∧ s.get [true] = .ptr H0.size 0 3 ∧ s.get [false,true] = G (i : Nat))) (p:=kpB a R) R.length (fun i hi hp => (b0 hi).1 hp) (fun i hi hp => (b0 hi).2 hp) (by simp) _ 0 (by omega) hk
  clear oF k gF o kH gH g b0 hk
  generalize R.length = n at *
  refine Tr.w fun s1 H1 hp _ kR => ?_
  obtain ⟨rfl,rfl⟩:=hp
  have q : True:=trivial
  refine zCh ?_
  simp (disch:=first|omega|exact zE rfl|exact zO|exact zL rfl) [c46_o0,zG,q,hH]
  refine W.assoc ?_
  refine zCh ?_
  simp (disch:=first|omega|exact zE rfl|exact zO|exact zL rfl) [c46_o1,zG,q]
  refine W.seq (W.block ?_)
  refine W.use (l0) (by simp (disch:=first|omega|exact zE rfl|exact zO|exact zL rfl) [zG,q]) fun s1 H1 hp => ?_
  try simp only [zW,if_true]
  exact kR _ _ hp
 ·have fin : Tr tbl J (.trim [[false],[true],[false,true]] c46_b0) (fun s h => h = H ∧ s.get [false] = .slice b 0 R.length v ∧ s.get [true] = .ptr H0.size 0 3 ∧ s.get [false,true] = G (R.length : Nat)) (.exit 0) (fun s h => h = H):=by
   clear b0 gS gH
   generalize R.length = n at *
   refine Tr.w fun s1 H1 hp _ kR => W.trim ?_
   obtain ⟨rfl,q⟩:=hp
   refine W.assoc ?_
   refine zCh ?_
   simp (disch:=first|omega|exact zE rfl|exact zO|exact zL rfl) [c46_o2,zG,q]
   refine zCh ?_
   simp (disch:=first|omega|exact zE rfl|exact zO|exact zL rfl) [zG,q]
   exact kR _ _ rfl
  have l0 : Tr tbl J c46_l0 (fun s h => h = H ∧ s.get [false] = .slice b 0 R.length v ∧ s.get [true] = .ptr H0.size 0 3 ∧ s.get [false,true] = G ((0 : Nat) : Int)) (.exit 0) (fun s h => h = H) :=
   Tr.allT (P:=fun i => (fun s h => h = H ∧ s.get [false] = .slice b 0 R.length v ∧ s.get [true] = .ptr H0.size 0 3 ∧ s.get [false,true] = G (i : Nat))) (p:=kpB a R) R.length (fun i hi hp => (b0 hi).1 hp) fin (by simp) _ 0 (by omega) hk
  clear oF k gF o kH gH g b0 hk fin
  generalize R.length = n at *
  refine Tr.w fun s1 H1 hp _ kR => ?_
  obtain ⟨rfl,rfl⟩:=hp
  have q : True:=trivial
  refine zCh ?_
  simp (disch:=first|omega|exact zE rfl|exact zO|exact zL rfl) [c46_o0,zG,q,hH]
  refine W.assoc ?_
  refine zCh ?_
  simp (disch:=first|omega|exact zE rfl|exact zO|exact zL rfl) [c46_o1,zG,q]
  refine W.seq (W.block ?_)
  refine W.use (l0) (by simp (disch:=first|omega|exact zE rfl|exact zO|exact zL rfl) [zG,q]) fun s1 H1 hp => ?_
  obtain rfl:=hp
  try simp only [zW,if_true]
  refine zCh ?_
  simp (disch:=first|omega|exact zE rfl|exact zO|exact zL rfl) [c46_o6,zG,q]
  refine W.ret ?_
  try simp only [zW,if_true]
  exact kR _ _ (by simp [T.get])
end
structure AWS46 where
 a : AG
 m : Nat
 R : List (List Nat)
 b : Nat
 v : Nat
def Pre46g (b : AWS46) (args : List AV) (h : Heap) : Prop:=(OkG b.a h ∧ WS b.a b.m b.R ∧ h.get b.b = .cells 1 b.v (wsL b.R)) ∧ args = [b.a.v,.slice b.b 0 b.R.length b.v]
def Post46g (b : AWS46) (h : Heap) (v : AV) (own : List AObj) : Prop:=v = .bool (kpS b.a b.R) ∧ own = []
noncomputable def U46 : CallF:=addK tbl T56 46 Pre46g Post46g
theorem u46 : Sound Go.Proofs.Try.prog U46:=Sound.addK follows ok t56 (by decide) _ _
abbrev K46g (J : CallF) : Prop:=∀ (h : Heap) (a : AG) (m : Nat) (R : List (List Nat)) (b v : Nat),OkG a h → WS a m R → h.get b = .cells 1 v (wsL R) → J 46 [a.v,.slice b 0 R.length v] h = some (.bool (kpS a R),[],false)
theorem k46u : K46g U46:=fun h a m R b v o k g => by
 obtain ⟨v,own,e,rfl,rfl⟩:=addK_some (Pre:=Pre46g) (Post:=Post46g) (fun b args h hp => by
  obtain ⟨⟨o,k,g⟩,rfl⟩:=hp
  exact ⟨_,_,c46g_ok T56 k68_56 k69_56 (fun _ _ => by simp (disch:=decide) only [T1,T2,T3,T4,T5,T6,T7,T8,T9,T10,T11,T12,T13,T14,T15,T16,T17,T18,T19,T20,T21,T22,T23,T24,T25,T26,T27,T28,T29,T30,T31,T32,T33,T34,T35,T36,T37,T38,T39,T40,T41,T42,T43,T44,T45,T46,T47,T48,T49,T50,T51,T52,T53,T54,T55,T56,addI_ne,addX_ne,addV_ne,addK_ne]; rfl) h o k g,rfl,rfl⟩) ⟨a,m,R,b,v⟩ _ h ⟨⟨o,k,g⟩,rfl⟩
 exact e
theorem wrap8b (z : Int) (h0 : 0 ≤ z) (h1 : z < 256) : IntKind.u8.wrap z = z:=by
 unfold IntKind.wrap IntKind.bits IntKind.signed
 simp; omega
section
variable {L : List (List UInt8)} {b v n qq i p : Nat} {x y : AV}
theorem c39g_b0 (J : CallF) {H : Heap} (gS : H.get p = .cells 0 3 [G qq,x,y]) (g : H.get b = .cells 1 v (ss L)) (q3 : qq ≤ 3) (hn : L.length = n) (hi : i < n) (hw : (L.getD i []).length ≤ 1000000) {k : Nat} (hk : k < (L.getD i []).length) (n1 : n ≤ 1000000) :
  (goodB qq ((L.getD i []).getD k 0) = true → Tr tbl J (.trim [[false],[true],[false,true],[true,true]] c39_b0) (fun s h => h = H ∧ s.get [false] = .slice b 0 n v ∧ s.get [true] = .ptr p 0 3 ∧ s.get [false,true] = G (i : Nat) ∧ s.get [true,true] = G (k : Nat)) .normal (fun s h => h = H ∧ s.get [false] = .slice b 0 n v ∧ s.get [true] = .ptr p 0 3 ∧ s.get [false,true] = G (i : Nat) ∧ s.get [true,true] = G ((k + 1 : Nat) : Int))) ∧
  (goodB qq ((L.getD i []).getD k 0) = false → Tr tbl J (.trim [[false],[true],[false,true],[true,true]] c39_b0) (fun s h => h = H ∧ s.get [false] = .slice b 0 n v ∧ s.get [true] = .ptr p 0 3 ∧ s.get [false,true] = G (i : Nat) ∧ s.get [true,true] = G (k : Nat)) .ret (fun s h => s.get [true,false] = .bool false)):=by
 have wi:=ss_at (L:=L) (i:=i) (by omega)
 have wi':=getI wi
 have lw : (ss L).length = n:=by simp [hn]
 have ek : (L.getD i [])[k]? = some ((L.getD i []).getD k 0):=by
  rw [List.getD_eq_getElem?_getD (l:=L.getD i []),List.getElem?_eq_getElem hk]; rfl
 have ek':=getI ek
 have ub : ((L.getD i []).getD k 0).toNat < 256:=UInt8.toNat_lt _
 have gb : goodB qq ((L.getD i []).getD k 0) = decide (48 ≤ ((L.getD i []).getD k 0).toNat ∧ ((L.getD i []).getD k 0).toNat < 48 + qq):=rfl
 rw [gb]
 have w1 : 48 ≤ ((L.getD i []).getD k 0).toNat → IntKind.u8.wrap ((((L.getD i []).getD k 0).toNat : Int) - 48) = (((L.getD i []).getD k 0).toNat : Int) - 48:=fun h => wrap8b _ (by omega) (by omega)
 clear gb
 generalize (L.getD i []).getD k 0 = u at *
 generalize L.getD i [] = w at *
 generalize ss L = ws at *
 constructor
 ·intro h
  obtain ⟨h1,h2⟩:=of_decide_eq_true h
  have w1:=w1 h1
  have d48 : ¬ (u.toNat : Int) < 48:=by omega
  have dd : ¬ (qq : Int) ≤ (u.toNat : Int) - 48:=by omega
  refine Tr.w fun s1 H1 hp _ kR => W.trim ?_
  obtain ⟨rfl,q⟩:=hp
  refine W.assoc ?_
  refine zCh ?_
  simp (disch:=first|omega|exact zE rfl|exact zO|exact zL rfl) [c39_o6,zG,q,g,wi,wi',lw]
  refine zCh ?_
  simp (disch:=first|omega|exact zE rfl|exact zO|exact zL rfl) [zG,q]
  refine W.seq (W.block ?_)
  refine zCh ?_
  simp (disch:=first|omega|exact zE rfl|exact zO|exact zL rfl) [-evDraw_c,c39_o7,zG,q,evDraw_0,gS,g,wi,wi',lw,ek,ek',w1,dd,d48]
  refine W.chunk ?_
  simp (disch:=first|omega|exact zE rfl|exact zO|exact zL rfl) [c39_o8,zG,q]
  refine W.chunk ?_
  simp (disch:=first|omega|exact zE rfl|exact zO|exact zL rfl) [c39_o9,zG,q]
  exact kR _ _ (by simp [T.get,q])
 ·intro h
  have h:=of_decide_eq_false h
  by_cases h1 : 48 ≤ u.toNat
  ·have w1:=w1 h1
   have d48 : ¬ (u.toNat : Int) < 48:=by omega
   have dd : (qq : Int) ≤ (u.toNat : Int) - 48:=by omega
   refine Tr.w fun s1 H1 hp _ kR => W.trim ?_
   obtain ⟨rfl,q⟩:=hp
   refine W.assoc ?_
   refine zCh ?_
   simp (disch:=first|omega|exact zE rfl|exact zO|exact zL rfl) [c39_o6,zG,q,g,wi,wi',lw]
   refine zCh ?_
   simp (disch:=first|omega|exact zE rfl|exact zO|exact zL rfl) [zG,q]
   refine W.seq (W.block ?_)
   refine zCh ?_
   simp (disch:=first|omega|exact zE rfl|exact zO|exact zL rfl) [-evDraw_c,c39_o7,zG,q,evDraw_0,gS,g,wi,wi',lw,ek,ek',w1,dd,d48]
   refine W.chunk ?_
   simp (disch:=first|omega|exact zE rfl|exact zO|exact zL rfl) [c39_o8,zG,q]
   exact kR _ _ (by simp [T.get])
  ·have d48 : (u.toNat : Int) < 48:=by omega
   clear w1
   refine Tr.w fun s1 H1 hp _ kR => W.trim ?_
   obtain ⟨rfl,q⟩:=hp
   refine W.assoc ?_
   refine zCh ?_
   simp (disch:=first|omega|exact zE rfl|exact zO|exact zL rfl) [c39_o6,zG,q,g,wi,wi',lw]
   refine zCh ?_
   simp (disch:=first|omega|exact zE rfl|exact zO|exact zL rfl) [zG,q]
   refine W.seq (W.block ?_)
   refine zCh ?_
   simp (disch:=first|omega|exact zE rfl|exact zO|exact zL rfl) [-evDraw_c,c39_o7,zG,q,evDraw_0,gS,g,wi,wi',lw,ek,ek',d48]
   refine W.chunk ?_
   simp (disch:=first|omega|exact zE rfl|exact zO|exact zL rfl) [c39_o8,zG,q]
   exact kR _ _ (by simp [T.get])
theorem goodS_af (qq : Nat) (s : List UInt8) : af (fun k => goodB qq (s.getD k 0)) 0 s.length = goodS qq s:=by
 rw [af_range,all_range s 0 (goodB qq)]; rfl
theorem c39g_l0 (J : CallF) {H : Heap} (gS : H.get p = .cells 0 3 [G qq,x,y]) (g : H.get b = .cells 1 v (ss L)) (q3 : qq ≤ 3) (hn : L.length = n) (hi : i < n) (hw : (L.getD i []).length ≤ 1000000) (n1 : n ≤ 1000000) :
  (goodS qq (L.getD i []) = true → Tr tbl J c39_l0 (fun s h => h = H ∧ s.get [false] = .slice b 0 n v ∧ s.get [true] = .ptr p 0 3 ∧ s.get [false,true] = G (i : Nat) ∧ s.get [true,true] = G ((0 : Nat) : Int)) (.exit 2) (fun s h => h = H ∧ s.get [false] = .slice b 0 n v ∧ s.get [true] = .ptr p 0 3 ∧ s.get [false,true] = G (i : Nat))) ∧
  (goodS qq (L.getD i []) = false → Tr tbl J c39_l0 (fun s h => h = H ∧ s.get [false] = .slice b 0 n v ∧ s.get [true] = .ptr p 0 3 ∧ s.get [false,true] = G (i : Nat) ∧ s.get [true,true] = G ((0 : Nat) : Int)) .ret (fun s h => s.get [true,false] = .bool false)):=by
 have b0:=fun {k} hk => c39g_b0 J gS g q3 hn hi hw (k:=k) hk n1
 rw [← goodS_af]
 refine ⟨fun hg => ?_,fun hg => ?_⟩
 ·have wi:=ss_at (L:=L) (i:=i) (by omega)
  have wi':=getI wi
  have lw : (ss L).length = n:=by simp [hn]
  refine Tr.allT (P:=fun k => (fun s h => h = H ∧ s.get [false] = .slice b 0 n v ∧ s.get [true] = .ptr p 0 3 ∧ s.get [false,true] = G (i : Nat) ∧ s.get [true,true] = G (k : Nat))) (p:=fun k => goodB qq ((L.getD i []).getD k 0)) (L.getD i []).length (fun k hk hp => (b0 hk).1 hp) ?_ (by simp) _ 0 (by omega) hg
  clear b0 hg
  generalize L.getD i [] = w at *
  generalize ss L = ws at *
  refine Tr.w fun s1 H1 hp _ kR => W.trim ?_
  obtain ⟨rfl,q⟩:=hp
  refine W.assoc ?_
  refine zCh ?_
  simp (disch:=first|omega|exact zE rfl|exact zO|exact zL rfl) [c39_o6,zG,q,g,wi,wi',lw]
  refine zCh ?_
  simp (disch:=first|omega|exact zE rfl|exact zO|exact zL rfl) [zG,q]
  exact kR _ _ (by simp [T.get,q])
 ·exact Tr.allF (P:=fun k => (fun s h => h = H ∧ s.get [false] = .slice b 0 n v ∧ s.get [true] = .ptr p 0 3 ∧ s.get [false,true] = G (i : Nat) ∧ s.get [true,true] = G (k : Nat))) (p:=fun k => goodB qq ((L.getD i []).getD k 0)) (L.getD i []).length (fun k hk hp => (b0 hk).1 hp) (fun k hk hp => (b0 hk).2 hp) (by simp) _ 0 (by omega) hg
theorem c39g_b1 (J : CallF) {H : Heap} (gS : H.get p = .cells 0 3 [G qq,x,y]) (g : H.get b = .cells 1 v (ss L)) (q3 : qq ≤ 3) (hn : L.length = n) (hi : i < n) (hs : ∀ s ∈ L,s.length ≤ 1000000) (n1 : n ≤ 1000000) :
  (rowOkS qq L (L.getD i []) = true → Tr tbl J (.trim [[false],[true],[false,true]] c39_b1) (fun s h => h = H ∧ s.get [false] = .slice b 0 n v ∧ s.get [true] = .ptr p 0 3 ∧ s.get [false,true] = G (i : Nat)) .normal (fun s h => h = H ∧ s.get [false] = .slice b 0 n v ∧ s.get [true] = .ptr p 0 3 ∧ s.get [false,true] = G ((i + 1 : Nat) : Int))) ∧
  (rowOkS qq L (L.getD i []) = false → Tr tbl J (.trim [[false],[true],[false,true]] c39_b1) (fun s h => h = H ∧ s.get [false] = .slice b 0 n v ∧ s.get [true] = .ptr p 0 3 ∧ s.get [false,true] = G (i : Nat)) .ret (fun s h => s.get [true,false] = .bool false)):=by
 have wi:=ss_at (L:=L) (i:=i) (by omega)
 have wi':=getI wi
 have w0:=ss_at (L:=L) (i:=0) (by omega)
 have w0':=getI w0
 have lw : (ss L).length = n:=by simp [hn]
 have mem : ∀ j,j < n → (L.getD j []).length ≤ 1000000:=fun j hj => hs _ (by
  rw [List.getD_eq_getElem?_getD,List.getElem?_eq_getElem (by omega)]; exact List.getElem_mem _)
 have l0:=c39g_l0 (p:=p) J gS g q3 hn hi (mem i hi) n1
 have er : rowOkS qq L (L.getD i []) = (decide ((L.getD i []).length = (L.getD 0 []).length) && goodS qq (L.getD i [])):=rfl
 rw [er]
 have m0:=mem 0 (by omega)
 have mi:=mem i hi
 clear hs mem er
 generalize goodS qq (L.getD i []) = z at *
 generalize L.getD i [] = w at *
 generalize L.getD 0 [] = u at *
 generalize ss L = ws at *
 by_cases c : w.length = u.length
 ·rw [decide_eq_true c,Bool.true_and]
  constructor
  ·intro h
   have l0:=l0.1 h
   refine Tr.w fun s1 H1 hp _ kR => W.trim ?_
   obtain ⟨rfl,q⟩:=hp
   refine W.assoc ?_
   refine zCh ?_
   simp (disch:=first|omega|exact zE rfl|exact zO|exact zL rfl) [c39_o2,zG,q]
   refine zCh ?_
   simp (disch:=first|omega|exact zE rfl|exact zO|exact zL rfl) [zG,q]
   refine W.seq (W.block ?_)
   refine W.assoc ?_
   refine zCh ?_
   simp (disch:=first|omega|exact zE rfl|exact zO|exact zL rfl) [-evDraw_c,c39_o3,zG,q,evDraw_0,g,wi,wi',w0,w0',lw,c]
   refine zCh ?_
   simp (disch:=first|omega|exact zE rfl|exact zO|exact zL rfl) [c39_o4,zG,q]
   refine zCh ?_
   simp (disch:=first|omega|exact zE rfl|exact zO|exact zL rfl) [c39_o5,zG,q]
   refine W.block ?_
   refine W.use (l0) (by simp (disch:=first|omega|exact zE rfl|exact zO|exact zL rfl) [zG,q]) fun s1 H1 hp => ?_
   obtain ⟨rfl,q⟩:=hp
   try simp only [zW,if_true]
   refine W.chunk ?_
   simp (disch:=first|omega|exact zE rfl|exact zO|exact zL rfl) [c39_o10,zG,q]
   exact kR _ _ (by simp [T.get,q])
  ·intro h
   have l0:=l0.2 h
   refine Tr.w fun s1 H1 hp _ kR => W.trim ?_
   obtain ⟨rfl,q⟩:=hp
   refine W.assoc ?_
   refine zCh ?_
   simp (disch:=first|omega|exact zE rfl|exact zO|exact zL rfl) [c39_o2,zG,q]
   refine zCh ?_
   simp (disch:=first|omega|exact zE rfl|exact zO|exact zL rfl) [zG,q]
   refine W.seq (W.block ?_)
   refine W.assoc ?_
   refine zCh ?_
   simp (disch:=first|omega|exact zE rfl|exact zO|exact zL rfl) [-evDraw_c,c39_o3,zG,q,evDraw_0,g,wi,wi',w0,w0',lw,c]
   refine zCh ?_
   simp (disch:=first|omega|exact zE rfl|exact zO|exact zL rfl) [c39_o4,zG,q]
   refine zCh ?_
   simp (disch:=first|omega|exact zE rfl|exact zO|exact zL rfl) [c39_o5,zG,q]
   refine W.block ?_
   refine W.use (l0) (by simp (disch:=first|omega|exact zE rfl|exact zO|exact zL rfl) [zG,q]) fun s1 H1 hp => ?_
   try simp only [zW,if_true]
   exact kR _ _ hp
 ·rw [decide_eq_false c,Bool.false_and]
  refine ⟨fun h => (by cases h),fun _ => ?_⟩
  have c' : ¬ (w.length : Int) = (u.length : Int):=by omega
  clear l0
  refine Tr.w fun s1 H1 hp _ kR => W.trim ?_
  obtain ⟨rfl,q⟩:=hp
  refine W.assoc ?_
  refine zCh ?_
  simp (disch:=first|omega|exact zE rfl|exact zO|exact zL rfl) [c39_o2,zG,q]
  refine zCh ?_
  simp (disch:=first|omega|exact zE rfl|exact zO|exact zL rfl) [zG,q]
  refine W.seq (W.block ?_)
  refine W.assoc ?_
  refine zCh ?_
  simp (disch:=first|omega|exact zE rfl|exact zO|exact zL rfl) [-evDraw_c,c39_o3,zG,q,evDraw_0,g,wi,wi',w0,w0',lw,c',c]
  refine zCh ?_
  simp (disch:=first|omega|exact zE rfl|exact zO|exact zL rfl) [c39_o4,zG,q]
  exact kR _ _ (by simp [T.get])
theorem rows_af (qq : Nat) (L : List (List UInt8)) : af (fun i => rowOkS qq L (L.getD i [])) 0 L.length = L.all (rowOkS qq L):=by
 rw [af_range,all_range L [] (rowOkS qq L)]
set_option maxHeartbeats 1000000 in
theorem c39g_ok (J : CallF) (hJ : ∀ a h,J 39 a h = none) (h : Heap) {z : AV} (q3 : qq ≤ 3) (hx : RV h z (ss L)) (hn : L.length ≤ 1000000) (hs : ∀ s ∈ L,s.length ≤ 1000000) : CallsTo tbl J 39 [.agg [G qq,x,y],z] h (.bool (isS qq L),[],false):=by
 refine Tr.fnv (cf:=c39) (e:=.ret) (s:=T.set (T.set .leaf [] (.agg [G qq,x,y])) [false] z) (by decide) rfl (hJ _ _) rfl rfl rfl (by simp) ?_
 refine Tr.post (Q:=(fun s h => s.get [true,false] = .bool (isS qq L))) (fun s h q => by simp [c39,q]) ?_
 have hxF : RV (frameOf h) z (ss L):=hx.frame
 generalize frameOf h = H0 at *
 obtain ⟨H,hH⟩ : ∃ H,H0.plus [.cells 0 3 [G qq,x,y]] = H:=⟨_,rfl⟩
 have kH : Kp (fun _ => False) H0 H:=by rw [← hH]; exact Kp.plus _ _
 have gS : H.get H0.size = .cells 0 3 [G qq,x,y]:=by rw [← hH]; exact plus_at0 _ _ _ _ rfl
 have hxH:=hxF.kp kH (fun _ _ => id)
 have ls : (ss L).length = L.length:=by simp
 have es : isS qq L = (decide (1 ≤ L.length ∧ L.length ≤ 40) && decide (1 ≤ (L.getD 0 []).length ∧ (L.getD 0 []).length ≤ 5) && L.all (rowOkS qq L)):=rfl
 obtain ⟨rfl,e⟩ | ⟨b,v,rfl,g⟩:=hxH
 ·have hl : L.length = 0:=by rw [← ls,e]; rfl
  have ez : isS qq L = false:=by rw [es,hl]; rfl
  rw [ez]
  have l1 : Tr tbl J c39_l1 (fun s h => h = H ∧ s.get [false] = .nils ∧ s.get [true] = .ptr H0.size 0 3 ∧ s.get [false,true] = G 0) (.exit 0) (fun s h => h = H ∧ s.get [false] = .nils):=by
   refine Tr.out ?_ (by simp)
   clear hxF hx kH gS hs
   refine Tr.w fun s1 H1 hp _ kR => W.trim ?_
   obtain ⟨rfl,q⟩:=hp
   refine W.assoc ?_
   refine zCh ?_
   simp (disch:=first|omega|exact zE rfl|exact zO|exact zL rfl) [c39_o2,zG,q]
   refine zCh ?_
   simp (disch:=first|omega|exact zE rfl|exact zO|exact zL rfl) [zG,q]
   exact kR _ _ (by simp [T.get,q])
  clear hxF hx kH gS hs es ez
  refine Tr.w fun s1 H1 hp _ kR => ?_
  obtain ⟨rfl,rfl⟩:=hp
  have q : True:=trivial
  refine zCh ?_
  simp (disch:=first|omega|exact zE rfl|exact zO|exact zL rfl) [c39_o0,zG,q,hH]
  refine W.assoc ?_
  refine zCh ?_
  simp (disch:=first|omega|exact zE rfl|exact zO|exact zL rfl) [c39_o1,zG,q]
  refine W.seq (W.block ?_)
  refine W.use (l1) (by simp (disch:=first|omega|exact zE rfl|exact zO|exact zL rfl) [zG,q]) fun s1 H1 hp => ?_
  obtain ⟨rfl,q⟩:=hp
  try simp only [zW,if_true]
  refine zCh ?_
  simp (disch:=first|omega|exact zE rfl|exact zO|exact zL rfl) [c39_o11,zG,q]
  refine W.ret ?_
  try simp only [zW,if_true]
  exact kR _ _ (by simp [T.get])
 ·rw [ls] at hx ⊢
  have b1:=fun {i} hi => c39g_b1 J gS g q3 rfl (i:=i) hi hs hn
  cases ha : L.all (rowOkS qq L)
  ·have ez : isS qq L = false:=by rw [es,ha,Bool.and_false]
   rw [ez]
   rw [← rows_af] at ha
   have l1 : Tr tbl J c39_l1 (fun s h => h = H ∧ s.get [false] = .slice b 0 L.length v ∧ s.get [true] = .ptr H0.size 0 3 ∧ s.get [false,true] = G ((0 : Nat) : Int)) .ret (fun s h => s.get [true,false] = .bool false) :=
    Tr.allF (P:=fun i => (fun s h => h = H ∧ s.get [false] = .slice b 0 L.length v ∧ s.get [true] = .ptr H0.size 0 3 ∧ s.get [false,true] = G (i : Nat))) (p:=fun i => rowOkS qq L (L.getD i [])) L.length (fun i hi hp => (b1 hi).1 hp) (fun i hi hp => (b1 hi).2 hp) (by simp) _ 0 (by omega) ha
   clear hxF hx kH gS hs es ez b1 ha g ls
   generalize L.length = n at *
   refine Tr.w fun s1 H1 hp _ kR => ?_
   obtain ⟨rfl,rfl⟩:=hp
   have q : True:=trivial
   refine zCh ?_
   simp (disch:=first|omega|exact zE rfl|exact zO|exact zL rfl) [c39_o0,zG,q,hH]
   refine W.assoc ?_
   refine zCh ?_
   simp (disch:=first|omega|exact zE rfl|exact zO|exact zL rfl) [c39_o1,zG,q]
   refine W.seq (W.block ?_)
   refine W.use (l1) (by simp (disch:=first|omega|exact zE rfl|exact zO|exact zL rfl) [zG,q]) fun s1 H1 hp => ?_
   try simp only [zW,if_true]
   exact kR _ _ hp
  ·rw [ha,Bool.and_true] at es
   rw [es]
   rw [← rows_af] at ha
   have l1 : Tr tbl J c39_l1 (fun s h => h = H ∧ s.get [false] = .slice b 0 L.length v ∧ s.get [true] = .ptr H0.size 0 3 ∧ s.get [false,true] = G ((0 : Nat) : Int)) (.exit 0) (fun s h => h = H ∧ s.get [false] = .slice b 0 L.length v):=by
    refine Tr.allT (P:=fun i => (fun s h => h = H ∧ s.get [false] = .slice b 0 L.length v ∧ s.get [true] = .ptr H0.size 0 3 ∧ s.get [false,true] = G (i : Nat))) (p:=fun i => rowOkS qq L (L.getD i [])) L.length (fun i hi hp => (b1 hi).1 hp) ?_ (by simp) _ 0 (by omega) ha
    clear hxF hx kH gS hs es b1 ha g ls
    generalize L.length = n at *
    refine Tr.w fun s1 H1 hp _ kR => W.trim ?_
    obtain ⟨rfl,q⟩:=hp
    refine W.assoc ?_
    refine zCh ?_
    simp (disch:=first|omega|exact zE rfl|exact zO|exact zL rfl) [c39_o2,zG,q]
    refine zCh ?_
    simp (disch:=first|omega|exact zE rfl|exact zO|exact zL rfl) [zG,q]
    exact kR _ _ (by simp [T.get,q])
   clear b1 ha
   by_cases c1 : 1 ≤ L.length
   ·by_cases c2 : L.length ≤ 40
    ·rw [decide_eq_true ⟨c1,c2⟩,Bool.true_and]
     have w0:=ss_at (L:=L) (i:=0) (by omega)
     have w0':=getI w0
     have l0s : (L.getD 0 []).length ≤ 1000000:=hs _ (by
      rw [List.getD_eq_getElem?_getD,List.getElem?_eq_getElem (by omega)]; exact List.getElem_mem _)
     clear hxF hx kH gS hs es
     generalize L.getD 0 [] = u at *
     generalize ss L = ws at *
     generalize L.length = n at *
     by_cases c3 : 1 ≤ u.length
     ·by_cases c4 : u.length ≤ 5
      ·rw [decide_eq_true ⟨c3,c4⟩]
       refine Tr.w fun s1 H1 hp _ kR => ?_
       obtain ⟨rfl,rfl⟩:=hp
       have q : True:=trivial
       refine zCh ?_
       simp (disch:=first|omega|exact zE rfl|exact zO|exact zL rfl) [c39_o0,zG,q,hH]
       refine W.assoc ?_
       refine zCh ?_
       simp (disch:=first|omega|exact zE rfl|exact zO|exact zL rfl) [c39_o1,zG,q]
       refine W.seq (W.block ?_)
       refine W.use (l1) (by simp (disch:=first|omega|exact zE rfl|exact zO|exact zL rfl) [zG,q]) fun s1 H1 hp => ?_
       obtain ⟨rfl,q⟩:=hp
       try simp only [zW,if_true]
       refine zCh ?_
       simp (disch:=first|omega|exact zE rfl|exact zO|exact zL rfl) [c39_o11,zG,q,g,w0,w0',ls,c1,c2,c3,c4]
       refine W.ret ?_
       try simp only [zW,if_true]
       exact kR _ _ (by simp [T.get])
      ·rw [decide_eq_false (fun h => c4 h.2)]
       refine Tr.w fun s1 H1 hp _ kR => ?_
       obtain ⟨rfl,rfl⟩:=hp
       have q : True:=trivial
       refine zCh ?_
       simp (disch:=first|omega|exact zE rfl|exact zO|exact zL rfl) [c39_o0,zG,q,hH]
       refine W.assoc ?_
       refine zCh ?_
       simp (disch:=first|omega|exact zE rfl|exact zO|exact zL rfl) [c39_o1,zG,q]
       refine W.seq (W.block ?_)
       refine W.use (l1) (by simp (disch:=first|omega|exact zE rfl|exact zO|exact zL rfl) [zG,q]) fun s1 H1 hp => ?_
       obtain ⟨rfl,q⟩:=hp
       try simp only [zW,if_true]
       refine zCh ?_
       simp (disch:=first|omega|exact zE rfl|exact zO|exact zL rfl) [c39_o11,zG,q,g,w0,w0',ls,c1,c2,c3,c4]
       refine W.ret ?_
       try simp only [zW,if_true]
       exact kR _ _ (by simp [T.get])
     ·rw [decide_eq_false (fun h => c3 h.1)]
      have c5 : u.length = 0:=by omega
      refine Tr.w fun s1 H1 hp _ kR => ?_
      obtain ⟨rfl,rfl⟩:=hp
      have q : True:=trivial
      refine zCh ?_
      simp (disch:=first|omega|exact zE rfl|exact zO|exact zL rfl) [c39_o0,zG,q,hH]
      refine W.assoc ?_
      refine zCh ?_
      simp (disch:=first|omega|exact zE rfl|exact zO|exact zL rfl) [c39_o1,zG,q]
      refine W.seq (W.block ?_)
      refine W.use (l1) (by simp (disch:=first|omega|exact zE rfl|exact zO|exact zL rfl) [zG,q]) fun s1 H1 hp => ?_
      obtain ⟨rfl,q⟩:=hp
      try simp only [zW,if_true]
      refine zCh ?_
      simp (disch:=first|omega|exact zE rfl|exact zO|exact zL rfl) [c39_o11,zG,q,g,w0,w0',ls,c1,c2,c5]
      refine W.ret ?_
      try simp only [zW,if_true]
      exact kR _ _ (by simp [T.get])
    ·rw [decide_eq_false (fun h => c2 h.2),Bool.false_and]
     clear hxF hx kH gS hs es g ls
     generalize L.length = n at *
     refine Tr.w fun s1 H1 hp _ kR => ?_
     obtain ⟨rfl,rfl⟩:=hp
     have q : True:=trivial
     refine zCh ?_
     simp (disch:=first|omega|exact zE rfl|exact zO|exact zL rfl) [c39_o0,zG,q,hH]
     refine W.assoc ?_
     refine zCh ?_
     simp (disch:=first|omega|exact zE rfl|exact zO|exact zL rfl) [c39_o1,zG,q]
     refine W.seq (W.block ?_)
     refine W.use (l1) (by simp (disch:=first|omega|exact zE rfl|exact zO|exact zL rfl) [zG,q]) fun s1 H1 hp => ?_
     obtain ⟨rfl,q⟩:=hp
     try simp only [zW,if_true]
     refine zCh ?_
     simp (disch:=first|omega|exact zE rfl|exact zO|exact zL rfl) [c39_o11,zG,q,c1,c2]
     refine W.ret ?_
     try simp only [zW,if_true]
     exact kR _ _ (by simp [T.get])
   ·rw [decide_eq_false (fun h => c1 h.1),Bool.false_and]
    clear hxF hx kH gS hs es g ls
    generalize L.length = n at *
    have c5 : n = 0:=by omega
    subst c5
    refine Tr.w fun s1 H1 hp _ kR => ?_
    obtain ⟨rfl,rfl⟩:=hp
    have q : True:=trivial
    refine zCh ?_
    simp (disch:=first|omega|exact zE rfl|exact zO|exact zL rfl) [c39_o0,zG,q,hH]
    refine W.assoc ?_
    refine zCh ?_
    simp (disch:=first|omega|exact zE rfl|exact zO|exact zL rfl) [c39_o1,zG,q]
    refine W.seq (W.block ?_)
    refine W.use (l1) (by simp (disch:=first|omega|exact zE rfl|exact zO|exact zL rfl) [zG,q]) fun s1 H1 hp => ?_
    obtain ⟨rfl,q⟩:=hp
    try simp only [zW,if_true]
    refine zCh ?_
    simp (disch:=first|omega|exact zE rfl|exact zO|exact zL rfl) [c39_o11,zG,q]
    refine W.ret ?_
    try simp only [zW,if_true]
    exact kR _ _ (by simp [T.get])
end
structure A39g where
 qq : Nat
 x : AV
 y : AV
 z : AV
 L : List (List UInt8)
def Pre39g (b : A39g) (args : List AV) (h : Heap) : Prop:=(b.qq ≤ 3 ∧ RV h b.z (ss b.L) ∧ b.L.length ≤ 1000000 ∧ ∀ s ∈ b.L,s.length ≤ 1000000) ∧ args = [.agg [G b.qq,b.x,b.y],b.z]
def Post39g (b : A39g) (h : Heap) (v : AV) (own : List AObj) : Prop:=v = .bool (isS b.qq b.L) ∧ own = []
noncomputable def U39 : CallF:=addK tbl noIntr 39 Pre39g Post39g
theorem u39 : Sound Go.Proofs.Try.prog U39:=Sound.addK follows ok Sound.empty (by decide) _ _
abbrev K39g (J : CallF) : Prop:=∀ (h : Heap) (qq : Nat) (x y z : AV) (L : List (List UInt8)),qq ≤ 3 → RV h z (ss L) → L.length ≤ 1000000 → (∀ s ∈ L,s.length ≤ 1000000) → J 39 [.agg [G qq,x,y],z] h = some (.bool (isS qq L),[],false)
theorem k39u : K39g U39:=fun h qq x y z L h1 h2 h3 h4 => by
 obtain ⟨v,own,e,rfl,rfl⟩:=addK_some (Pre:=Pre39g) (Post:=Post39g) (fun b args h hp => by
  obtain ⟨⟨h1,h2,h3,h4⟩,rfl⟩:=hp
  exact ⟨_,_,c39g_ok noIntr (fun _ _ => rfl) h h1 h2 h3 h4,rfl,rfl⟩) ⟨qq,x,y,z,L⟩ _ h ⟨⟨h1,h2,h3,h4⟩,rfl⟩
 exact e
noncomputable def T79 : CallF:=addI T78 46 (U46 46)
theorem t79 : Sound Go.Proofs.Try.prog T79:=Sound.put t78 u46 46
theorem k46g : K46g T79:=fun h a m R b v o k g => (addI_eq _ _ _ _ _).trans (k46u h a m R b v o k g)
noncomputable def T80 : CallF:=addI T79 39 (U39 39)
theorem t80 : Sound Go.Proofs.Try.prog T80:=Sound.put t79 u39 39
theorem k39g : K39g T80:=fun h qq x y z L h1 h2 h3 h4 => (addI_eq _ _ _ _ _).trans (k39u h qq x y z L h1 h2 h3 h4)
end Go.Proofs.Ytljgfdamdcikgaa.Ev
