/-
 Of the functions that this law reaches,part 1: what they answer. No condition.
-/
import Derived.Test.YtljgfdamdcikgaaRP0
set_option linter.unusedVariables false
set_option linter.unusedSimpArgs false
open Bool renaming true → zT, false → zF
open List renaming getElem?_eq_getElem → zq, getD_eq_getElem?_getD → zd
open Go.Proofs.Try renaming prog → zp
namespace Go.Proofs.Ytljgfdamdcikgaa.Ev
open Go Go.AEv
attribute [local simp] evFunc initS evOps_c evTrim_c evSkip_c evExit_c evRet_c evSeq_c evCond_c evBlock_c evDraw_c runOps_n runOps_c exec_n exec_g pure1_c act AOpd.ev T.get T.set T.put evBin evUn forceT_eq forceV_eq forceL_eq evRess evRes one keep runFP_n runFP_c app_none AV.flats AV.flat came_some List.getElem?_cons_zero List.getElem?_cons_succ beqT wrapI idxI tdivI tmodI decT decF ibT ibF inT inF evScope_c if_pos if_neg Cm_some thenW_n thenW_e thenW_r blkW_n blkW_e blkW_r goI kn putAt AV.cells fillA loadA takeA mk Eff.isAll Eff.isNone Eff.commutes Eff.spares okPair apart eqAgg fits LK.fits allEq aveq eqk mmA
def RB (n m : Nat) (x : Int) : List AV:=List.replicate m (G x) ++ List.replicate (n - m) (G 0)
theorem RB_len {n m : Nat} {x : Int} (h : m ≤ n) : (RB n m x).length = n:=by simp [RB]; omega
theorem RB_take (n m : Nat) (x : Int) : (RB n m x).take m = List.replicate m (G x):=by simp [RB]
theorem RB_all (n : Nat) (x : Int) : RB n n x = List.replicate n (G x):=by simp [RB]
theorem rep_put : ∀ (k a : Nat) (y : AV) (cs : List AV),k ≤ cs.length → putAt (List.replicate a y ++ cs) a (List.replicate k y) = List.replicate (a + k) y ++ cs.drop k:=by
 intro k
 induction k with
 | zero => intro a y cs _; simp [putAt]
 | succ k ih =>
  intro a y cs hk
  cases cs with
  | nil => simp at hk
  | cons c cs =>
   rw [List.replicate_succ,putAt,List.set_append_right _ _ (by simp),List.length_replicate,Nat.sub_self,List.set_cons_zero]
   rw [show List.replicate a y ++ y :: cs = List.replicate (a + 1) y ++ cs by rw [List.replicate_succ',List.append_assoc]; rfl]
   rw [ih _ _ _ (by simpa using hk),show a + 1 + k = a + (k + 1) by omega]; rfl
theorem RB_put {n m k : Nat} {x : Int} (h : m + k ≤ n) : putAt (RB n m x) m (List.replicate k (G x)) = RB n (m + k) x:=by
 unfold RB
 rw [rep_put _ _ _ _ (by simp; omega),List.drop_replicate,Nat.sub_sub]
section
variable {n : Nat} {x : Int}
abbrev P91 (h : Heap) (n : Nat) (x : Int) (m : Nat) : SP:=(fun s h' => s.get [zF,zF,zF] = .slice h.size 0 n n ∧ s.get [zT,zF,zF] = G m ∧ h' = ⟨h.get,h.size,[.cells 1 n (RB n m x)]⟩)
theorem rep_loop (J : CallF) (h : Heap) (hn : n ≤ 243) : ∀ (j m : Nat),n - m ≤ j → 1 ≤ m → m ≤ n → Tr tbl J c91_l0 (P91 h n x m) (.exit 0) (P91 h n x n):=by
 intro j
 induction j with
 | zero =>
  intro m hj h1 h2
  obtain rfl : m = n:=by omega
  have t : Tr tbl J ((.trim [[zF,zF,zF],[zT,zF,zF]] c91_b0)) (fun s h' => s.get [zF,zF,zF] = .slice h.size 0 m m ∧ s.get [zT,zF,zF] = G m ∧ h' = ⟨h.get,h.size,[.cells 1 m (RB m m x)]⟩) (.exit 0) (fun s h' => s.get [zF,zF,zF] = .slice h.size 0 m m ∧ s.get [zT,zF,zF] = G m ∧ h' = ⟨h.get,h.size,[.cells 1 m (RB m m x)]⟩):=Tr.region fun s h hp => by
   obtain ⟨g0,g1,rfl⟩:=hp
   simp (disch:=first|omega|exact zE rfl|exact zO|exact zL rfl) [c91_b0,c91_o8,frameOf,Heap.size,Heap.get,Eff.app,Heap.setOwn,g0,g1]
  exact Tr.out t (by simp)
 | succ j ih =>
  intro m hj h1 h2
  by_cases hm : m = n
  ·exact ih m (by omega) h1 h2
  ·obtain ⟨k,hk⟩ : ∃ k,k = min m (n - m):=⟨_,rfl⟩
   have hkm : m + k ≤ n:=by omega
   have e1:=RB_len (n:=n) (m:=m) (x:=x) h2
   have e2:=RB_take n m x
   have e3:=RB_put (n:=n) (m:=m) (k:=k) (x:=x) hkm
   have e4 : min m (n - m) = k:=hk.symm
   have e5 : min k m = k:=by omega
   obtain ⟨cs,hcs⟩ : ∃ cs,RB n m x = cs:=⟨_,rfl⟩
   rw [hcs] at e1 e2 e3
   have hm0 : ¬ (m = n ∧ 0 < n):=by omega
   have hm1 : ¬ (0 = n ∧ 0 < n):=by omega
   have t : Tr tbl J ((.trim [[zF,zF,zF],[zT,zF,zF]] c91_b0)) (fun s h' => s.get [zF,zF,zF] = .slice h.size 0 n n ∧ s.get [zT,zF,zF] = G m ∧ h' = ⟨h.get,h.size,[.cells 1 n cs]⟩) .normal (fun s h' => s.get [zF,zF,zF] = .slice h.size 0 n n ∧ s.get [zT,zF,zF] = G ((m + k : Nat) : Int) ∧ h' = ⟨h.get,h.size,[.cells 1 n (RB n (m + k) x)]⟩):=Tr.region fun s h hp => by
    obtain ⟨g0,g1,rfl⟩:=hp
    simp (disch:=first|omega|exact zE rfl|exact zO|exact zL rfl) [c91_b0,c91_o8,c91_o9,frameOf,Heap.size,Heap.get,Eff.app,Heap.setOwn,g0,g1,slSlA,bounds,elems,copyA,rdOf,hm0,hm1,e1,e2,e3,e4,e5,List.take_replicate]
    omega
   rw [← hcs] at t
   exact Tr.next t (ih (m + k) (by omega) (by omega) (by omega))
theorem c91_ok (J : CallF) (k99 : ∀ (h : Heap) (n : Int),0 ≤ n → n < 244 → J 99 [.int .u64 1,.int .u64 n] h = some (.tup [.int .u64 0,.int .u64 n],[],zF)) (hJ : ∀ a h,J 91 a h = none) (h : Heap) (b : Nat) (hb : h.get b = .cells 1 1 [G x]) (h1 : 1 ≤ n) (h2 : n ≤ 243) :
  CallsTo tbl J 91 [.slice b 0 1 1,G n] h (.slice h.size 0 n n,[.cells 1 n (List.replicate n (G x))],zF):=by
 have hlt:=get_lt hb (by simp)
 have wu : ∀ z : Int,0 ≤ z → z < 244 → IntKind.u64.wrap z = z:=fun z _ _ => by unfold IntKind.wrap IntKind.bits IntKind.signed; simp; omega
 refine Tr.fnh (cf:=c91) (e:=.ret) (s:=T.set (T.set .leaf [] (.slice b 0 1 1)) [zF] (G n)) (by decide) rfl (hJ _ _) rfl rfl rfl (by simp) ?_
 have t0 : Tr tbl J (c91_o0) (fun s h' => s = T.set (T.set .leaf [] (.slice b 0 1 1)) [zF] (G n) ∧ h' = frameOf h) .normal (fun s h' => s.get [] = .slice b 0 1 1 ∧ s.get [zF] = G n ∧ h' = ⟨h.get,h.size,[]⟩):=Tr.region fun s h hp => by
  obtain ⟨rfl,rfl⟩:=hp
  simp (disch:=first|omega|exact zE rfl|exact zO|exact zL rfl) [c91_o0,frameOf,Heap.size,Heap.get,Eff.app,Heap.setOwn]
 have t1 : Tr tbl J ((.seq c91_o1 (.cond (.s [zT,zT,zF]) c91_o2 .skip))) (fun s h' => s.get [] = .slice b 0 1 1 ∧ s.get [zF] = G n ∧ h' = ⟨h.get,h.size,[]⟩) .normal (fun s h' => s.get [] = .slice b 0 1 1 ∧ s.get [zF] = G n ∧ h' = ⟨h.get,h.size,[]⟩):=Tr.region fun s h hp => by
  obtain ⟨g0,g1,rfl⟩:=hp
  simp (disch:=first|omega|exact zE rfl|exact zO|exact zL rfl) [c91_o1,frameOf,Heap.size,Heap.get,Eff.app,Heap.setOwn,g0,g1]
 have t2 : Tr tbl J (c91_o3) (fun s h' => s.get [] = .slice b 0 1 1 ∧ s.get [zF] = G n ∧ h' = ⟨h.get,h.size,[]⟩) .normal (fun s h' => s.get [] = .slice b 0 1 1 ∧ s.get [zF,zT] = .int .u64 0 ∧ s.get [zT,zT] = .int .u64 n ∧ h' = ⟨h.get,h.size,[]⟩):=Tr.region fun s h hp => by
  obtain ⟨g0,g1,rfl⟩:=hp
  simp (disch:=first|omega|exact zE rfl|exact zO|exact zL rfl) [c91_o3,frameOf,Heap.size,Heap.get,Eff.app,Heap.setOwn,g0,g1,wu,k99]
 have t3 : Tr tbl J ((.seq c91_o4 (.cond (.s [zT,zT,zF,zT]) c91_o5 .skip))) (fun s h' => s.get [] = .slice b 0 1 1 ∧ s.get [zF,zT] = .int .u64 0 ∧ s.get [zT,zT] = .int .u64 n ∧ h' = ⟨h.get,h.size,[]⟩) .normal (fun s h' => s.get [] = .slice b 0 1 1 ∧ s.get [zT,zT] = .int .u64 n ∧ h' = ⟨h.get,h.size,[]⟩):=Tr.region fun s h hp => by
  obtain ⟨g0,g1,g2,rfl⟩:=hp
  simp (disch:=first|omega|exact zE rfl|exact zO|exact zL rfl) [c91_o4,frameOf,Heap.size,Heap.get,Eff.app,Heap.setOwn,g0,g1,g2]
 have e0 : RB n 1 x = (List.replicate n (G 0)).set 0 (G x):=by
  obtain ⟨N,rfl⟩ : ∃ N,n = N + 1:=⟨n - 1,by omega⟩
  simp [RB,List.replicate_succ]
 have t4 : Tr tbl J ((.seq c91_o6 c91_o7)) (fun s h' => s.get [] = .slice b 0 1 1 ∧ s.get [zT,zT] = .int .u64 n ∧ h' = ⟨h.get,h.size,[]⟩) .normal (fun s h' => s.get [zF,zF,zF] = .slice h.size 0 n n ∧ s.get [zT,zF,zF] = G ((1 : Nat) : Int) ∧ h' = ⟨h.get,h.size,[.cells 1 n (RB n 1 x)]⟩):=Tr.region fun s h hp => by
  obtain ⟨g0,g1,rfl⟩:=hp
  rw [e0]
  simp (disch:=first|omega|exact zE rfl|exact zO|exact zL rfl) [c91_o6,c91_o7,size_mk,get_mk_lt,get_mk_ge,frameOf,Eff.app,Heap.setOwn,g0,g1,repl,elems,copyA,rdOf,hb]
  omega
 have t5 : Tr tbl J ((.seq c91_o10 .ret)) (fun s h' => s.get [zF,zF,zF] = .slice h.size 0 n n ∧ s.get [zT,zF,zF] = G n ∧ h' = ⟨h.get,h.size,[.cells 1 n (RB n n x)]⟩) .ret (fun s h' => s.get [zT,zF] = .slice h.size 0 n n ∧ h' = ⟨h.get,h.size,[.cells 1 n (RB n n x)]⟩):=Tr.region fun s h hp => by
  obtain ⟨g0,g1,rfl⟩:=hp
  simp (disch:=first|omega|exact zE rfl|exact zO|exact zL rfl) [c91_o10,frameOf,Heap.size,Heap.get,Eff.app,Heap.setOwn,g0,g1]
 refine Tr.post (fun s h' q => ?_) (Tr.seq t0 (Tr.seq t1 (Tr.seq t2 (Tr.seq t3 (Tr.app2 t4 (Tr.seq (Tr.block (rep_loop J h h2 n 1 (by omega) (by omega) h1)) t5))))))
 obtain ⟨q1,rfl⟩:=q
 simp [c91,q1,RB_all]
theorem c91_0 (J : CallF) (k99 : ∀ (h : Heap) (n : Int),0 ≤ n → n < 244 → J 99 [.int .u64 1,.int .u64 n] h = some (.tup [.int .u64 0,.int .u64 n],[],zF)) (hJ : ∀ a h,J 91 a h = none) (h : Heap) (b : Nat) (hb : h.get b = .cells 1 1 [G x]) :
  CallsTo tbl J 91 [.slice b 0 1 1,G 0] h (.slice h.size 0 0 0,[.cells 1 0 []],zF):=by
 have hlt:=get_lt hb (by simp)
 have wu : ∀ z : Int,0 ≤ z → z < 244 → IntKind.u64.wrap z = z:=fun z _ _ => by unfold IntKind.wrap IntKind.bits IntKind.signed; simp; omega
 refine Tr.fnh (cf:=c91) (e:=.ret) (s:=T.set (T.set .leaf [] (.slice b 0 1 1)) [zF] (G 0)) (by decide) rfl (hJ _ _) rfl rfl rfl (by simp) ?_
 refine Tr.post (Q:=(fun s h' => h' = ⟨h.get,h.size,[.cells 1 0 []]⟩ ∧ s.get [zT,zF] = .slice h.size 0 0 0)) (fun s h' q => by
  obtain ⟨rfl,q1⟩:=q
  simp [c91,q1]) ?_
 have l0 : Tr tbl J c91_l0 (fun s h' => h' = ⟨h.get,h.size,[.cells 1 0 []]⟩ ∧ s.get [zF,zF,zF] = .slice h.size 0 0 0 ∧ s.get [zT,zF,zF] = G 0) (.exit 0) (fun s h' => h' = ⟨h.get,h.size,[.cells 1 0 []]⟩ ∧ s.get [zF,zF,zF] = .slice h.size 0 0 0):=by
  refine Tr.out ?_ (by simp)
  refine Tr.w fun s1 H1 hp _ kR => W.trim ?_
  obtain ⟨rfl,q⟩:=hp
  refine W.assoc ?_
  refine zCh ?_
  simp (disch:=first|omega|exact zE rfl|exact zO|exact zL rfl) [c91_o8,size_mk,get_mk_lt,get_mk_ge,frameOf,Eff.app,Heap.setOwn,q]
  refine zCh ?_
  simp (disch:=first|omega|exact zE rfl|exact zO|exact zL rfl) [size_mk,get_mk_lt,get_mk_ge,frameOf,Eff.app,Heap.setOwn,q]
  exact kR _ _ (by simp [T.get,q])
 refine Tr.w fun s1 H1 hp _ kR => ?_
 obtain ⟨rfl,rfl⟩:=hp
 have q : True:=trivial
 refine zCh ?_
 simp (disch:=first|omega|exact zE rfl|exact zO|exact zL rfl) [c91_o0,size_mk,get_mk_lt,get_mk_ge,frameOf,Eff.app,Heap.setOwn,q]
 refine W.assoc ?_
 refine zCh ?_
 simp (disch:=first|omega|exact zE rfl|exact zO|exact zL rfl) [c91_o1,size_mk,get_mk_lt,get_mk_ge,frameOf,Eff.app,Heap.setOwn,q]
 refine zCh ?_
 simp (disch:=first|omega|exact zE rfl|exact zO|exact zL rfl) [c91_o2,size_mk,get_mk_lt,get_mk_ge,frameOf,Eff.app,Heap.setOwn,q]
 refine zCh ?_
 simp (disch:=first|omega|exact zE rfl|exact zO|exact zL rfl) [c91_o3,size_mk,get_mk_lt,get_mk_ge,frameOf,Eff.app,Heap.setOwn,q,wu,k99]
 refine W.assoc ?_
 refine zCh ?_
 simp (disch:=first|omega|exact zE rfl|exact zO|exact zL rfl) [c91_o4,size_mk,get_mk_lt,get_mk_ge,frameOf,Eff.app,Heap.setOwn,q]
 refine zCh ?_
 simp (disch:=first|omega|exact zE rfl|exact zO|exact zL rfl) [c91_o5,size_mk,get_mk_lt,get_mk_ge,frameOf,Eff.app,Heap.setOwn,q]
 refine zCh ?_
 simp (disch:=first|omega|exact zE rfl|exact zO|exact zL rfl) [c91_o6,size_mk,get_mk_lt,get_mk_ge,frameOf,Eff.app,Heap.setOwn,q,repl]
 refine zCh ?_
 simp (disch:=first|omega|exact zE rfl|exact zO|exact zL rfl) [c91_o7,size_mk,get_mk_lt,get_mk_ge,frameOf,Eff.app,Heap.setOwn,q,elems,copyA,rdOf,hb]
 refine W.seq (W.block ?_)
 refine W.use (l0) (by simp (disch:=first|omega|exact zE rfl|exact zO|exact zL rfl) [size_mk,get_mk_lt,get_mk_ge,frameOf,Eff.app,Heap.setOwn,q,(show min 1 0 = 0 from rfl),(show min (1 : Int) 0 = 0 from rfl)]) fun s1 H1 hp => ?_
 obtain ⟨rfl,q⟩:=hp
 try simp only [zW,if_true]
 refine zCh ?_
 simp (disch:=first|omega|exact zE rfl|exact zO|exact zL rfl) [c91_o10,size_mk,get_mk_lt,get_mk_ge,frameOf,Eff.app,Heap.setOwn,q]
 refine W.ret ?_
 try simp only [zW,if_true]
 exact kR _ _ (by simp [T.get,q])
end
def spec91 : SpecF:=fun args h => match args with
 | [.slice b 0 1 1,.int .i64 n] => match h.get b with
  | .cells 1 1 [.int .i64 x] => if 0 ≤ n ∧ n ≤ 243 then some (.slice h.size 0 n.toNat n.toNat,[.cells 1 n.toNat (List.replicate n.toNat (G x))],zF) else none
  | _ => none
 | _ => none
noncomputable def T33 : CallF:=addV T32 99 spec99
theorem t33 : Sound zp T33:=Sound.addV2 follows ok t32 Sound.empty (by decide) (fun args v h => by
 unfold spec99 at h
 split at h
 ·split at h
  ·rename_i a n hh
   obtain ⟨rfl,h1,h2⟩:=hh
   obtain ⟨N,rfl⟩ : ∃ N : Nat,n = N:=⟨n.toNat,by omega⟩
   simp only [Option.some.injEq] at h; subst h; exact c99_ok N (by omega)
  ·cases h
 ·cases h)
theorem k99 (h : Heap) (n : Int) (h1 : 0 ≤ n) (h2 : n < 244) : T33 99 [.int .u64 1,.int .u64 n] h = some (.tup [.int .u64 0,.int .u64 n],[],zF):=by simp [T33,AEv.addV,spec99,h1,h2,AV.flats,AV.flat]
noncomputable def T34 : CallF:=addI T33 91 spec91
theorem t34 : Sound zp T34:=Sound.add follows ok t33 (by decide) (fun args h x e => by
 unfold spec91 at e
 split at e
 ·split at e
  ·split at e
   ·rename_i b n _ xv hg hh
    simp only [Option.some.injEq] at e; subst e
    obtain ⟨N,rfl⟩ : ∃ N : Nat,n = N:=⟨n.toNat,by omega⟩
    rcases Nat.eq_zero_or_pos N with rfl | hN
    ·exact c91_0 T33 k99 (fun _ _ => by simp (disch:=decide) only [T1,T2,T3,T4,T5,T6,T7,T8,T9,T10,T11,T12,T13,T14,T15,T16,T17,T18,T19,T20,T21,T22,T23,T24,T25,T26,T27,T28,T29,T30,T31,T32,T33,addI_ne,addX_ne,addV_ne,addK_ne]; rfl) h b hg
    ·exact c91_ok T33 k99 (fun _ _ => by simp (disch:=decide) only [T1,T2,T3,T4,T5,T6,T7,T8,T9,T10,T11,T12,T13,T14,T15,T16,T17,T18,T19,T20,T21,T22,T23,T24,T25,T26,T27,T28,T29,T30,T31,T32,T33,addI_ne,addX_ne,addV_ne,addK_ne]; rfl) h b hg (by omega) (by omega)
   ·cases e
  ·cases e
 ·cases e)
abbrev K91 (J : CallF) : Prop:=∀ (h : Heap) (b n : Nat) (x : Int),h.get b = .cells 1 1 [G x] → n ≤ 243 → J 91 [.slice b 0 1 1,G n] h = some (.slice h.size 0 n n,[.cells 1 n (List.replicate n (G x))],zF)
theorem k91 : K91 T34:=fun h b n x hb h2 => by
 have : (n : Int) ≤ 243:=by omega
 simp [T34,addI,spec91,hb,this]
def sat (n : Nat) : Nat:=min n (1152921504606846977)
def ps (L : List Nat) (i : Nat) : Nat:=(L.take i).sum
theorem ps_succ (L : List Nat) {i : Nat} (h : i < L.length) : ps L (i + 1) = ps L i + L.getD i 0:=by
 unfold ps
 rw [List.take_add_one,zq h,zd,zq h,List.sum_append]
 simp only [Option.toList,List.sum_cons,List.sum_nil,Option.getD_some,Nat.add_zero]
theorem ps_all (L : List Nat) : ps L L.length = L.sum:=by unfold ps; rw [List.take_length]
theorem ps_mono (L : List Nat) : ∀ j i,ps L i ≤ ps L (i + j)
 | 0,i => Nat.le_refl _
 | j + 1,i => by
  refine Nat.le_trans (ps_mono L j i) ?_
  rw [← Nat.add_assoc]
  by_cases h : i + j < L.length
  ·rw [ps_succ L h]; omega
  ·unfold ps
   rw [List.take_of_length_le (by omega),List.take_of_length_le (by omega)]
   exact Nat.le_refl _
theorem ps_le (L : List Nat) (i : Nat) : ps L i ≤ L.sum:=by
 by_cases h : i ≤ L.length
 ·rw [← ps_all L]
  have:=ps_mono L (L.length - i) i
  rwa [show i + (L.length - i) = L.length by omega] at this
 ·unfold ps; rw [List.take_of_length_le (by omega)]; exact Nat.le_refl _
theorem gn_at {L : List Nat} {i : Nat} (h : i < L.length) : (gn L)[i]? = some (G (L.getD i 0)):=by
 unfold gn
 rw [List.getElem?_map,zd,zq h]; rfl
section
variable {L : List Nat}
theorem RV.frame {h : Heap} {x : AV} {cs : List AV} (r : RV h x cs) : RV (frameOf h) x cs:=by
 rcases r with r | ⟨b,v,e,g⟩
 ·exact .inl r
 ·refine .inr ⟨b,v,e,?_⟩
  unfold frameOf
  rw [get_mk_lt _ _ _ _ (get_lt g (by simp))]; exact g
def tot (L : List Nat) : AV:=if L.sum ≤ 1152921504606846976 then .tup [G L.sum,.bool zT] else .tup [G 0,.bool zF]
theorem c63_l (J : CallF) {H : Heap} {b v : Nat} (gb : H.get b = .cells 1 v (gn L)) (hn : L.length ≤ 1000000) (hL : ∀ x ∈ L,x ≤ 1152921504606846976) :
  (L.sum ≤ 1152921504606846976 → Tr tbl J c63_l0 (fun s h => h = H ∧ s.get [zF] = G 1152921504606846976 ∧ s.get [zT,zT] = G ((0 : Nat) : Int) ∧ s.get [zF,zT,zF] = .slice b 0 L.length v ∧ s.get [zT,zT,zF] = G L.length ∧ s.get [zF,zF,zT] = G ((0 : Nat) : Int)) (.exit 0) (fun s h => h = H ∧ s.get [zT,zT] = G L.sum)) ∧
  (¬ L.sum ≤ 1152921504606846976 → Tr tbl J c63_l0 (fun s h => h = H ∧ s.get [zF] = G 1152921504606846976 ∧ s.get [zT,zT] = G ((0 : Nat) : Int) ∧ s.get [zF,zT,zF] = .slice b 0 L.length v ∧ s.get [zT,zT,zF] = G L.length ∧ s.get [zF,zF,zT] = G ((0 : Nat) : Int)) .ret (fun s h => s.get [zT,zF] = G 0 ∧ s.get [zF,zT] = .bool zF)):=by
 have lg:=gn_len L
 have key : ∀ i,i < L.length → ps L i ≤ 1152921504606846976 → Tr tbl J (.trim [[zF],[zT,zT],[zF,zT,zF],[zT,zT,zF],[zF,zF,zT]] c63_b0) (fun s h => h = H ∧ s.get [zF] = G 1152921504606846976 ∧ s.get [zT,zT] = G (ps L i) ∧ s.get [zF,zT,zF] = .slice b 0 L.length v ∧ s.get [zT,zT,zF] = G L.length ∧ s.get [zF,zF,zT] = G i) (if ps L (i + 1) ≤ 1152921504606846976 then .normal else .ret)
   (if ps L (i + 1) ≤ 1152921504606846976 then (fun s h => h = H ∧ s.get [zF] = G 1152921504606846976 ∧ s.get [zT,zT] = G (ps L (i + 1)) ∧ s.get [zF,zT,zF] = .slice b 0 L.length v ∧ s.get [zT,zT,zF] = G L.length ∧ s.get [zF,zF,zT] = G ((i + 1 : Nat) : Int)) else (fun s h => s.get [zT,zF] = G 0 ∧ s.get [zF,zT] = .bool zF)):=fun i hi hp => by
  have e1:=gn_at hi
  have e1':=getI e1
  have bx : L.getD i 0 ≤ 1152921504606846976:=by
   rw [zd,zq hi]
   exact hL _ (List.getElem_mem _)
  rw [ps_succ L hi]
  clear hL
  generalize gn L = cs at *
  generalize L.getD i 0 = x at *
  generalize L.length = n at *
  generalize ps L i = y at *
  by_cases c : y + x ≤ 1152921504606846976
  ·rw [if_pos c,if_pos c]
   refine Tr.w fun s1 H1 hp _ kR => W.trim ?_
   obtain ⟨rfl,q⟩:=hp
   refine zCh ?_
   simp (disch:=omega) [c63_o3,zG,q]
   refine zCh ?_
   simp (disch:=omega) [zG,q]
   refine W.seq (W.block ?_)
   refine zCh ?_
   simp (disch:=omega) [c63_o4,zG,q,gb,e1,e1',lg]
   refine W.assoc ?_
   refine zCh ?_
   simp (disch:=omega) [c63_o5,zG,q]
   refine zCh ?_
   simp (disch:=omega) [c63_o6,zG,q]
   refine W.chunk ?_
   simp (disch:=omega) [c63_o7,zG,q]
   refine W.chunk ?_
   simp (disch:=omega) [c63_o8,zG,q]
   exact kR _ _ (by simp [T.get,q])
  ·rw [if_neg c,if_neg c]
   refine Tr.w fun s1 H1 hp _ kR => W.trim ?_
   obtain ⟨rfl,q⟩:=hp
   refine zCh ?_
   simp (disch:=omega) [c63_o3,zG,q]
   refine zCh ?_
   simp (disch:=omega) [zG,q]
   refine W.seq (W.block ?_)
   refine zCh ?_
   simp (disch:=omega) [c63_o4,zG,q,gb,e1,e1',lg]
   refine W.assoc ?_
   refine zCh ?_
   simp (disch:=omega) [c63_o5,zG,q]
   refine zCh ?_
   simp (disch:=omega) [c63_o6,zG,q]
   exact kR _ _ (by simp [T.get,q])
 have fin : Tr tbl J (.trim [[zF],[zT,zT],[zF,zT,zF],[zT,zT,zF],[zF,zF,zT]] c63_b0) (fun s h => h = H ∧ s.get [zF] = G 1152921504606846976 ∧ s.get [zT,zT] = G L.sum ∧ s.get [zF,zT,zF] = .slice b 0 L.length v ∧ s.get [zT,zT,zF] = G L.length ∧ s.get [zF,zF,zT] = G L.length) (.exit 0) (fun s h => h = H ∧ s.get [zT,zT] = G L.sum):=by
  generalize L.length = n at *
  generalize L.sum = z at *
  refine Tr.w fun s1 H1 hp _ kR => W.trim ?_
  obtain ⟨rfl,q⟩:=hp
  refine zCh ?_
  simp (disch:=omega) [c63_o3,zG,q]
  refine zCh ?_
  simp (disch:=omega) [zG,q]
  exact kR _ _ (by simp [T.get,q])
 have p0 : ps L 0 = 0:=by simp [ps]
 constructor
 ·intro hs
  have : ∀ j i,i + j = L.length → Tr tbl J c63_l0 (fun s h => h = H ∧ s.get [zF] = G 1152921504606846976 ∧ s.get [zT,zT] = G (ps L i) ∧ s.get [zF,zT,zF] = .slice b 0 L.length v ∧ s.get [zT,zT,zF] = G L.length ∧ s.get [zF,zF,zT] = G i) (.exit 0) (fun s h => h = H ∧ s.get [zT,zT] = G L.sum):=fun j => by
   induction j with
   | zero =>
    intro i hi
    obtain rfl : i = L.length:=by omega
    rw [ps_all]
    exact Tr.out fin (by simp)
   | succ j ih =>
    intro i hi
    have h1:=ps_le L i
    have h2:=ps_le L (i + 1)
    have k:=key i (by omega) (by omega)
    rw [if_pos (by omega),if_pos (by omega)] at k
    exact Tr.next k (ih (i + 1) (by omega))
  have:=this L.length 0 (by omega)
  rwa [p0] at this
 ·intro hs
  have : ∀ j i,i + j = L.length → ps L i ≤ 1152921504606846976 → Tr tbl J c63_l0 (fun s h => h = H ∧ s.get [zF] = G 1152921504606846976 ∧ s.get [zT,zT] = G (ps L i) ∧ s.get [zF,zT,zF] = .slice b 0 L.length v ∧ s.get [zT,zT,zF] = G L.length ∧ s.get [zF,zF,zT] = G i) .ret (fun s h => s.get [zT,zF] = G 0 ∧ s.get [zF,zT] = .bool zF):=fun j => by
   induction j with
   | zero =>
    intro i hi hp
    obtain rfl : i = L.length:=by omega
    rw [ps_all] at hp
    exact absurd hp hs
   | succ j ih =>
    intro i hi hp
    have k:=key i (by omega) hp
    by_cases c : ps L (i + 1) ≤ 1152921504606846976
    ·rw [if_pos c,if_pos c] at k
     exact Tr.next k (ih (i + 1) (by omega) c)
    ·rw [if_neg c,if_neg c] at k
     exact Tr.out k (by simp)
  have:=this L.length 0 (by omega) (by omega)
  rwa [p0] at this
theorem c63_ok (J : CallF) (hJ : ∀ a h,J 63 a h = none) (h : Heap) {x : AV} (rv : RV h x (gn L)) (hn : L.length ≤ 1000000) (hL : ∀ x ∈ L,x ≤ 1152921504606846976) : CallsTo tbl J 63 [x,G 1152921504606846976] h (tot L,[],zF):=by
 have lg:=gn_len L
 unfold tot
 by_cases hs : L.sum ≤ 1152921504606846976
 ·rw [if_pos hs]
  refine Tr.fnv (cf:=c63) (e:=.ret) (s:=T.set (T.set .leaf [] x) [zF] (G 1152921504606846976)) (by decide) rfl (hJ _ _) rfl rfl rfl (by simp) ?_
  refine Tr.post (Q:=(fun s h => s.get [zT,zF] = G L.sum ∧ s.get [zF,zT] = .bool zT)) (fun s h q => by simp [c63,q]) ?_
  rcases rv.frame with ⟨rfl,e⟩ | ⟨b,v,rfl,g⟩
  ·have : L = []:=by simpa [gn] using e
   subst this
   have l0 : Tr tbl J c63_l0 (fun s h' => h' = frameOf h ∧ s.get [zF] = G 1152921504606846976 ∧ s.get [zT,zT] = G 0 ∧ s.get [zF,zT,zF] = .nils ∧ s.get [zT,zT,zF] = G 0 ∧ s.get [zF,zF,zT] = G 0) (.exit 0) (fun s h' => h' = frameOf h ∧ s.get [zT,zT] = G 0):=by
    refine Tr.out ?_ (by simp)
    refine Tr.w fun s1 H1 hp _ kR => W.trim ?_
    obtain ⟨rfl,q⟩:=hp
    refine zCh ?_
    simp (disch:=omega) [c63_o3,zG,q]
    refine zCh ?_
    simp (disch:=omega) [zG,q]
    exact kR _ _ (by simp [T.get,q])
   refine Tr.w fun s1 H1 hp _ kR => ?_
   obtain ⟨rfl,rfl⟩:=hp
   have q : True:=trivial
   refine zCh ?_
   simp (disch:=omega) [c63_o0,zG,q]
   refine zCh ?_
   simp (disch:=omega) [c63_o1,zG,q]
   refine W.assoc ?_
   refine zCh ?_
   simp (disch:=omega) [c63_o2,zG,q]
   refine W.seq (W.block ?_)
   refine W.use (l0) (by simp (disch:=omega) [zG,q]) fun s1 H1 hp => ?_
   obtain ⟨rfl,q⟩:=hp
   try simp only [zW,if_true]
   refine zCh ?_
   simp (disch:=omega) [c63_o9,zG,q]
   refine W.ret ?_
   try simp only [zW,if_true]
   exact kR _ _ (by simp [T.get,q])
  ·rw [lg]
   have l0:=(c63_l J g hn hL).1 hs
   clear g rv hL
   generalize L.sum = z at *
   generalize L.length = n at *
   refine Tr.w fun s1 H1 hp _ kR => ?_
   obtain ⟨rfl,rfl⟩:=hp
   have q : True:=trivial
   refine zCh ?_
   simp (disch:=omega) [c63_o0,zG,q]
   refine zCh ?_
   simp (disch:=omega) [c63_o1,zG,q]
   refine W.assoc ?_
   refine zCh ?_
   simp (disch:=omega) [c63_o2,zG,q]
   refine W.seq (W.block ?_)
   refine W.use (l0) (by simp (disch:=omega) [zG,q]) fun s1 H1 hp => ?_
   obtain ⟨rfl,q⟩:=hp
   try simp only [zW,if_true]
   refine zCh ?_
   simp (disch:=omega) [c63_o9,zG,q]
   refine W.ret ?_
   try simp only [zW,if_true]
   exact kR _ _ (by simp [T.get,q])
 ·rw [if_neg hs]
  refine Tr.fnv (cf:=c63) (e:=.ret) (s:=T.set (T.set .leaf [] x) [zF] (G 1152921504606846976)) (by decide) rfl (hJ _ _) rfl rfl rfl (by simp) ?_
  refine Tr.post (Q:=(fun s h => s.get [zT,zF] = G 0 ∧ s.get [zF,zT] = .bool zF)) (fun s h q => by simp [c63,q]) ?_
  rcases rv.frame with ⟨rfl,e⟩ | ⟨b,v,rfl,g⟩
  ·have : L = []:=by simpa [gn] using e
   subst this
   exact absurd (by simp) hs
  ·rw [lg]
   have l0:=(c63_l J g hn hL).2 hs
   clear g rv hL
   generalize L.length = n at *
   refine Tr.w fun s1 H1 hp _ kR => ?_
   obtain ⟨rfl,rfl⟩:=hp
   have q : True:=trivial
   refine zCh ?_
   simp (disch:=omega) [c63_o0,zG,q]
   refine zCh ?_
   simp (disch:=omega) [c63_o1,zG,q]
   refine W.assoc ?_
   refine zCh ?_
   simp (disch:=omega) [c63_o2,zG,q]
   refine W.seq (W.block ?_)
   refine W.use (l0) (by simp (disch:=omega) [zG,q]) fun s1 H1 hp => ?_
   try simp only [zW,if_true]
   exact kR _ _ hp
end
def Pre76 (b : Nat × Nat) (args : List AV) (h : Heap) : Prop:=(b.1 ≤ 2305843009213693952 ∧ b.2 ≤ 2305843009213693952) ∧ args = [G b.1,G b.2]
def Post76 (b : Nat × Nat) (h : Heap) (v : AV) (own : List AObj) : Prop:=v = G (sat (b.1 + b.2)) ∧ own = []
noncomputable def T35 : CallF:=addK tbl T34 76 Pre76 Post76
theorem t35 : Sound zp T35:=Sound.addK follows ok t34 (by decide) _ _
def Pre72 (b : AV × List Nat) (args : List AV) (h : Heap) : Prop:=(RV h b.1 (gn b.2) ∧ b.2.length ≤ 1000000 ∧ ∀ x ∈ b.2,x ≤ 2305843009213693952) ∧ args = [b.1]
def Post72 (b : AV × List Nat) (h : Heap) (v : AV) (own : List AObj) : Prop:=v = G (sat b.2.sum) ∧ own = []
noncomputable def T36 : CallF:=addK tbl T35 72 Pre72 Post72
theorem t36 : Sound zp T36:=Sound.addK follows ok t35 (by decide) _ _
def Pre63 (b : AV × List Nat) (args : List AV) (h : Heap) : Prop:=(RV h b.1 (gn b.2) ∧ b.2.length ≤ 1000000 ∧ ∀ x ∈ b.2,x ≤ 1152921504606846976) ∧ args = [b.1,G 1152921504606846976]
def Post63 (b : AV × List Nat) (h : Heap) (v : AV) (own : List AObj) : Prop:=v = tot b.2 ∧ own = []
noncomputable def T37 : CallF:=addK tbl T36 63 Pre63 Post63
theorem t37 : Sound zp T37:=Sound.addK follows ok t36 (by decide) _ _
abbrev K63 (J : CallF) : Prop:=∀ h (x : AV) (L : List Nat),RV h x (gn L) → L.length ≤ 1000000 → (∀ x ∈ L,x ≤ 1152921504606846976) → J 63 [x,G 1152921504606846976] h = some (tot L,[],zF)
theorem k63 : K63 T37:=fun h x L h1 h0 h2 => by
 obtain ⟨v,own,e,rfl,rfl⟩:=addK_some (Pre:=Pre63) (Post:=Post63) (fun b args h hp => by
  obtain ⟨⟨h1,h0,h2⟩,rfl⟩:=hp
  exact ⟨_,_,c63_ok T36 (fun _ _ => by simp (disch:=decide) only [T1,T2,T3,T4,T5,T6,T7,T8,T9,T10,T11,T12,T13,T14,T15,T16,T17,T18,T19,T20,T21,T22,T23,T24,T25,T26,T27,T28,T29,T30,T31,T32,T33,T34,T35,T36,addI_ne,addX_ne,addV_ne,addK_ne]; rfl) h h1 h0 h2,rfl,rfl⟩) (x,L) _ h ⟨⟨h1,h0,h2⟩,rfl⟩
 exact e
def cnt (S : List (List Nat)) : Nat → Nat → Nat
 | 0,_ => 1
 | k + 1,i => ((S.getD i []).map (cnt S k)).sum
def rowC (S : List (List Nat)) (k : Nat) : List Nat:=(List.range S.length).map (cnt S k)
theorem rowC_len (S : List (List Nat)) (k : Nat) : (rowC S k).length = S.length:=by simp [rowC]
theorem rowC_at (S : List (List Nat)) (k : Nat) {i : Nat} (h : i < S.length) : (rowC S k).getD i 0 = cnt S k i:=by
 unfold rowC
 rw [zd,List.getElem?_map,List.getElem?_range h]; rfl
theorem sum_mem {L : List Nat} {x : Nat} (h : x ∈ L) : x ≤ L.sum:=by
 induction L with
 | nil => cases h
 | cons a L ih =>
  rw [List.sum_cons]
  rcases List.mem_cons.1 h with rfl | h
  ·omega
  ·have:=ih h; omega
theorem cnt_le (S : List (List Nat)) (k : Nat) {i : Nat} (h : i < S.length) : cnt S k i ≤ (rowC S k).sum:=sum_mem (by
 unfold rowC
 exact List.mem_map.2 ⟨i,List.mem_range.2 h,rfl⟩)
def okC (S : List (List Nat)) (n : Nat) : Bool:=af (fun k => decide ((rowC S k).sum ≤ 1152921504606846976)) 0 n
def mix (S : List (List Nat)) (k i : Nat) : List Nat:=(List.range S.length).map fun t => if t < i then cnt S k t else 1
theorem mix_len (S : List (List Nat)) (k i : Nat) : (mix S k i).length = S.length:=by simp [mix]
theorem mix_0 (S : List (List Nat)) (k : Nat) : gn (mix S k 0) = List.replicate S.length (G 1):=by
 unfold gn mix
 rw [List.map_map]
 apply List.ext_getElem?
 intro j
 rw [List.getElem?_map,List.getElem?_replicate]
 by_cases h : j < S.length
 ·rw [List.getElem?_range h,if_pos h]; rfl
 ·rw [List.getElem?_eq_none (by simp; omega),if_neg h]; rfl
theorem mix_n (S : List (List Nat)) (k : Nat) : mix S k S.length = rowC S k:=by
 unfold mix rowC
 apply List.map_congr_left
 intro t ht
 rw [if_pos (List.mem_range.1 ht)]
theorem rowC_0 (S : List (List Nat)) : gn (rowC S 0) = List.replicate S.length (G 1):=by
 rw [← mix_0 S 0]
 have : mix S 0 0 = rowC S 0:=by
  unfold mix rowC
  apply List.map_congr_left
  intro t ht
  rw [if_neg (by omega)]
  rfl
 rw [this]
theorem mix_set (S : List (List Nat)) (k : Nat) {i : Nat} (h : i < S.length) : (gn (mix S k i)).set i (G (cnt S k i)) = gn (mix S k (i + 1)):=by
 apply List.ext_getElem?
 intro j
 by_cases hj : j < S.length
 ·have e1 : (gn (mix S k (i + 1)))[j]? = some (G ((if j < i + 1 then cnt S k j else 1 : Nat) : Int)):=by
   unfold gn mix
   rw [List.map_map,List.getElem?_map,List.getElem?_range hj]; rfl
  rw [e1]
  by_cases e : i = j
  ·subst e
   rw [List.getElem?_set_self (by rw [gn_len,mix_len]; exact h),if_pos (by omega)]
  ·rw [List.getElem?_set_ne e]
   unfold gn mix
   rw [List.map_map,List.getElem?_map,List.getElem?_range hj]
   show some (G ((if j < i then cnt S k j else 1 : Nat) : Int)) = _
   by_cases c : j < i
   ·rw [if_pos c,if_pos (by omega)]
   ·rw [if_neg c,if_neg (by omega)]
 ·rw [List.getElem?_eq_none (by rw [List.length_set,gn_len,mix_len]; omega),List.getElem?_eq_none (by rw [gn_len,mix_len]; omega)]
def LF (h : Heap) (p : Nat) (S : List (List Nat)) : Prop:=∃ x mb nb rs,h.get p = .cells 0 3 [x,.map mb,.slice nb 0 S.length S.length] ∧ ((x = .nils ∧ S.length = 0) ∨ ∃ b v,x = .slice b 0 S.length v) ∧ h.get nb = .cells 1 S.length rs ∧ ∀ k,k < S.length → ∃ y,rs[k]? = some y ∧ RV h y (gn (S.getD k []))
theorem LF.kp {h h' : Heap} {p : Nat} {S : List (List Nat)} (l : LF h p S) (k : Kp (fun _ => False) h h') : LF h' p S:=by
 obtain ⟨x,mb,nb,rs,h1,h2,h3,h4⟩:=l
 refine ⟨x,mb,nb,rs,k.at h1 (by simp) id,h2,k.at h3 (by simp) id,fun i hi => ?_⟩
 obtain ⟨y,e1,e2⟩:=h4 i hi
 exact ⟨y,e1,e2.kp k (fun _ _ => id)⟩
theorem LM.lf {h : Heap} {p B : Nat} {W : List (List Int)} {R : List (List Nat)} (l : LM h p B W R) : LF h p (stL W R):=by
 obtain ⟨x,mb,nb,rs,h1,h2,h3,h4,h5,h6,h7⟩:=l
 have e : (stL W R).length = R.length:=by simp [stL]
 unfold LF
 rw [e]
 have hs:=h2.sl
 rw [wsL_len] at hs
 refine ⟨x,mb,nb,rs,h1,hs,h4,fun k hk => ?_⟩
 obtain ⟨y,e1,e2,_⟩:=h7 k hk
 refine ⟨y,e1,?_⟩
 have : (stL W R).getD k [] = nxL W R (R.getD k []):=by
  unfold stL
  rw [zd,List.getElem?_map,zq hk,zd,zq hk]; rfl
 rw [this]; exact e2
section
variable {S : List (List Nat)} {p kk nn : Nat}
structure PR (S : List (List Nat)) (xo : AV) (kk : Nat) (h : Heap) (bo br : Nat) (ros : List AV) : Prop where
 e : xo = .slice bo 0 (kk + 1) (kk + 1)
 g : h.get bo = .cells 1 (kk + 1) ros
 r : ros[kk]? = some (.slice br 0 S.length S.length)
 l : ros.length = kk + 1
 gr : h.get br = .cells 1 S.length (gn (rowC S kk))
theorem PR.kp {xo : AV} {h h' : Heap} {bo br : Nat} {ros : List AV} (t : PR S xo kk h bo br ros) (k : Kp (fun _ => False) h h') : PR S xo kk h' bo br ros:=⟨t.e,k.at t.g (by simp) id,t.r,t.l,k.at t.gr (by simp) id⟩
theorem c62_l0_ok (J : CallF) {Hi : Heap} {xo : AV} {bo br : Nat} {ros : List AV} (pr : PR S xo kk Hi bo br ros) (k40 : kk ≤ 1000) {Si : List Nat} (hSi : ∀ j ∈ Si,j < S.length) (hn : S.length ≤ 1000) (hl : Si.length ≤ 1000) {y z8 : AV} (rv : RV Hi y (gn Si)) {i : Nat} :
  Tr tbl J c62_l0 (fun s h => h = Hi ∧ s.get [] = .ptr p 0 3 ∧ s.get [zT,zT] = xo ∧ s.get [zF,zF,zF] = G (kk + 1 : Nat) ∧ s.get [zT,zF,zF] = z8 ∧ s.get [zF,zT,zF] = G i ∧ s.get [zT,zT,zF] = .nils ∧ s.get [zF,zT,zF,zF] = G nn ∧ s.get [zT,zT,zF,zF] = G (kk + 1 : Nat) ∧ s.get [zF,zT,zT,zT] = G S.length ∧ s.get [zT,zT,zT,zT] = G i ∧ s.get [zF,zT,zF,zT,zF] = y ∧ s.get [zT,zT,zF,zT,zF] = G Si.length ∧ s.get [zF,zF,zT,zT,zF] = G ((0 : Nat) : Int)) (.exit 4)
   (fun s h => ∃ z,NV Hi h z (gn (Si.map (cnt S kk))) ∧ s.get [] = .ptr p 0 3 ∧ s.get [zT,zT] = xo ∧ s.get [zF,zF,zF] = G (kk + 1 : Nat) ∧ s.get [zT,zF,zF] = z8 ∧ s.get [zF,zT,zF] = G i ∧ s.get [zT,zT,zF] = z ∧ s.get [zF,zT,zF,zF] = G nn ∧ s.get [zT,zT,zF,zF] = G (kk + 1 : Nat) ∧ s.get [zF,zT,zT,zT] = G S.length ∧ s.get [zT,zT,zT,zT] = G i):=by
 refine Tr.pre (P:=fun s h => ∃ z,NV Hi h z (gn ((Si.take 0).map (cnt S kk))) ∧ s.get [] = .ptr p 0 3 ∧ s.get [zT,zT] = xo ∧ s.get [zF,zF,zF] = G (kk + 1 : Nat) ∧ s.get [zT,zF,zF] = z8 ∧ s.get [zF,zT,zF] = G i ∧ s.get [zT,zT,zF] = z ∧ s.get [zF,zT,zF,zF] = G nn ∧ s.get [zT,zT,zF,zF] = G (kk + 1 : Nat) ∧ s.get [zF,zT,zT,zT] = G S.length ∧ s.get [zT,zT,zT,zT] = G i ∧ s.get [zF,zT,zF,zT,zF] = y ∧ s.get [zT,zT,zF,zT,zF] = G Si.length ∧ s.get [zF,zF,zT,zT,zF] = G ((0 : Nat) : Int)) (fun s h hp => by
  obtain ⟨h0,h1,h2,h3,h4,h5,h6,h7⟩:=hp
  exact ⟨.nils,by rw [h0]; exact NV.nil Hi,h1,h2,h3,h4,h5,h6,h7⟩) ?_
 refine Tr.rounds (e:=.exit 4) (P:=fun t s h => ∃ z,NV Hi h z (gn ((Si.take t).map (cnt S kk))) ∧ s.get [] = .ptr p 0 3 ∧ s.get [zT,zT] = xo ∧ s.get [zF,zF,zF] = G (kk + 1 : Nat) ∧ s.get [zT,zF,zF] = z8 ∧ s.get [zF,zT,zF] = G i ∧ s.get [zT,zT,zF] = z ∧ s.get [zF,zT,zF,zF] = G nn ∧ s.get [zT,zT,zF,zF] = G (kk + 1 : Nat) ∧ s.get [zF,zT,zT,zT] = G S.length ∧ s.get [zT,zT,zT,zT] = G i ∧ s.get [zF,zT,zF,zT,zF] = y ∧ s.get [zT,zT,zF,zT,zF] = G Si.length ∧ s.get [zF,zF,zT,zT,zF] = G t) (M:=Si.length) (fun t ht => ?_) ?_ (by simp) 0 (by omega)
 ·obtain ⟨by',vy,rfl,gy⟩ : ∃ b v,y = .slice b 0 Si.length v ∧ Hi.get b = .cells 1 v (gn Si):=by
   rcases rv with ⟨_,e⟩ | ⟨b,v,e,g⟩
   ·have : (gn Si).length = 0:=by rw [e]; rfl
    rw [gn_len] at this; omega
   ·rw [gn_len] at e; exact ⟨b,v,e,g⟩
  refine Tr.w fun s1 H1 hp _ kR => W.trim ?_
  obtain ⟨z,nv,q⟩:=hp
  have prh:=pr.kp nv.k
  obtain ⟨rfl,go,er,lo,gr⟩:=prh
  have gy1:=nv.k.at gy (by simp) id
  have e1:=gn_at ht
  have e1':=getI e1
  have lg:=gn_len Si
  have hj : Si.getD t 0 < S.length:=hSi _ (by
   rw [zd,zq ht]; exact List.getElem_mem _)
  have e2:=gn_at (L:=rowC S kk) (i:=Si.getD t 0) (by rw [rowC_len]; exact hj)
  rw [rowC_at S kk hj] at e2
  have e2':=getI e2
  have er':=getI er
  have lr : (gn (rowC S kk)).length = S.length:=by rw [gn_len,rowC_len]
  have ts : (Si.take (t + 1)).map (cnt S kk) = (Si.take t).map (cnt S kk) ++ [cnt S kk (Si.getD t 0)]:=by
   rw [List.take_add_one,List.map_append,zq ht,zd,zq ht]; rfl
  obtain ⟨x1,e,H2,q1,q2,nv2,q4⟩:=nv.app H1.size 8 (G (cnt S kk (Si.getD t 0))) (by rw [gn_len,List.length_map,List.length_take]; omega)
  have nv2' : NV Hi H2 x1 (gn ((Si.take (t + 1)).map (cnt S kk))):=by
   rw [ts]
   have : gn ((Si.take t).map (cnt S kk) ++ [cnt S kk (Si.getD t 0)]) = gn ((Si.take t).map (cnt S kk)) ++ [G (cnt S kk (Si.getD t 0))]:=by simp [gn]
   rw [this]; exact nv2
  have k1 : ((kk + 1 : Nat) : Int) = (kk : Int) + 1:=by omega
  rw [k1] at q
  rw [k1] at kR
  clear nv nv2 ts hSi pr rv gy k1
  generalize cnt S kk (Si.getD t 0) = c at *
  generalize gn (rowC S kk) = cr at *
  generalize gn Si = cs at *
  generalize Si.getD t 0 = j at *
  generalize S.length = n at *
  generalize Si.length = l at *
  refine zCh ?_
  simp (disch:=omega) [c62_o12,zG,q]
  refine zCh ?_
  simp (disch:=omega) [zG,q]
  refine W.seq (W.block ?_)
  refine zCh ?_
  simp (disch:=omega) [c62_o13,zG,q,gy1,e1,e1',lg]
  refine W.chunk ?_
  simp (disch:=omega) [c62_o14,zG,q,go,er,er',lo,gr,e2,e2',lr,q1,q2,app1_at,elems,rdOf]
  refine W.chunk ?_
  simp (disch:=omega) [c62_o15,zG,q]
  exact kR _ _ ⟨_,nv2',by simp [T.get,q]⟩
 ·refine Tr.w fun s1 H1 hp _ kR => W.trim ?_
  obtain ⟨z,nv,q⟩:=hp
  rw [List.take_length] at nv
  clear hSi pr rv
  generalize Si.length = l at *
  refine zCh ?_
  simp (disch:=omega) [c62_o12,zG,q]
  refine zCh ?_
  simp (disch:=omega) [zG,q]
  exact kR _ _ ⟨_,nv,by simp [T.get,q]⟩
structure BI (S : List (List Nat)) (k b i : Nat) (Hk h : Heap) : Prop where
 kp : Kp (fun _ => False) Hk h
 g : h.get b = .cells 1 S.length (gn (mix S k i))
theorem c62_b1_ok (J : CallF) (k63 : K63 J) {Hk : Heap} (lf : LF Hk p S) {xo : AV} {bo br : Nat} {ros : List AV} (pr : PR S xo kk Hk bo br ros) (k40 : kk ≤ 1000) (hS : ∀ i,∀ j ∈ S.getD i [],j < S.length) (hl : ∀ i,(S.getD i []).length ≤ 1000) (hn : S.length ≤ 1000) {b : Nat} (hb : Hk.size ≤ b) (hN : Hk.N ≤ b) (prev : (rowC S kk).sum ≤ 1152921504606846976) {i : Nat} (hi : i < S.length) :
  Tr tbl J (.trim [[],[zT,zT],[zF,zF,zF],[zT,zF,zF],[zF,zT,zF,zF],[zT,zT,zF,zF],[zF,zT,zT,zT],[zT,zT,zT,zT]] c62_b1) (fun s h => BI S (kk + 1) b i Hk h ∧ s.get [] = .ptr p 0 3 ∧ s.get [zT,zT] = xo ∧ s.get [zF,zF,zF] = G (kk + 1 : Nat) ∧ s.get [zT,zF,zF] = .slice b 0 S.length S.length ∧ s.get [zF,zT,zF,zF] = G nn ∧ s.get [zT,zT,zF,zF] = G (kk + 1 : Nat) ∧ s.get [zF,zT,zT,zT] = G S.length ∧ s.get [zT,zT,zT,zT] = G i)
   (if decide (cnt S (kk + 1) i ≤ 1152921504606846976) = zT then .normal else .ret)
   (if decide (cnt S (kk + 1) i ≤ 1152921504606846976) = zT then (fun s h => BI S (kk + 1) b (i + 1) Hk h ∧ s.get [] = .ptr p 0 3 ∧ s.get [zT,zT] = xo ∧ s.get [zF,zF,zF] = G (kk + 1 : Nat) ∧ s.get [zT,zF,zF] = .slice b 0 S.length S.length ∧ s.get [zF,zT,zF,zF] = G nn ∧ s.get [zT,zT,zF,zF] = G (kk + 1 : Nat) ∧ s.get [zF,zT,zT,zT] = G S.length ∧ s.get [zT,zT,zT,zT] = G ((i + 1 : Nat) : Int)) else (fun s h => s.get [zT,zF] = .nils ∧ s.get [zF,zT] = .bool zF)):=by
 have main : ∀ (s1 : T) (H1 : Heap) (Q : PQ),BI S (kk + 1) b i Hk H1 → (s1.get [] = .ptr p 0 3 ∧ s1.get [zT,zT] = xo ∧ s1.get [zF,zF,zF] = G (kk + 1 : Nat) ∧ s1.get [zT,zF,zF] = .slice b 0 S.length S.length ∧ s1.get [zF,zT,zF,zF] = G nn ∧ s1.get [zT,zT,zF,zF] = G (kk + 1 : Nat) ∧ s1.get [zF,zT,zT,zT] = G S.length ∧ s1.get [zT,zT,zT,zT] = G i) →
   (∀ s' h',(if decide (cnt S (kk + 1) i ≤ 1152921504606846976) = zT then (fun s h => BI S (kk + 1) b (i + 1) Hk h ∧ s.get [] = .ptr p 0 3 ∧ s.get [zT,zT] = xo ∧ s.get [zF,zF,zF] = G (kk + 1 : Nat) ∧ s.get [zT,zF,zF] = .slice b 0 S.length S.length ∧ s.get [zF,zT,zF,zF] = G nn ∧ s.get [zT,zT,zF,zF] = G (kk + 1 : Nat) ∧ s.get [zF,zT,zT,zT] = G S.length ∧ s.get [zT,zT,zT,zT] = G ((i + 1 : Nat) : Int)) else (fun s h => s.get [zT,zF] = .nils ∧ s.get [zF,zT] = .bool zF) : SP) s' h' → Q (if decide (cnt S (kk + 1) i ≤ 1152921504606846976) = zT then .normal else .ret) s' h') →
   W tbl J (.trim [[],[zT,zT],[zF,zF,zF],[zT,zF,zF],[zF,zT,zF,zF],[zT,zT,zF,zF],[zF,zT,zT,zT],[zT,zT,zT,zT]] c62_b1) s1 H1 Q:=fun s1 H1 Q bi q kR => by
  have lf1:=lf.kp bi.kp
  obtain ⟨x,mb,nb,rs,g1,_,g3,g4⟩:=lf1
  obtain ⟨y,e1,rv⟩:=g4 i hi
  have e1':=getI e1
  have lrs : i < rs.length:=(List.getElem?_eq_some_iff.1 e1).1
  have l0:=c62_l0_ok (p:=p) (nn:=nn) (z8:=.slice b 0 S.length S.length) (i:=i) J (pr.kp bi.kp) k40 (hS i) hn (hl i) rv
  have sy:=rv.sl
  rw [gn_len] at sy
  have hNh : H1.N ≤ b:=by rw [bi.kp.N]; exact hN
  have lb:=get_lt bi.g (by simp)
  have lm : (gn (mix S (kk + 1) i)).length = S.length:=by rw [gn_len,mix_len]
  have fin : ∀ z h,NV H1 h z (gn ((S.getD i []).map (cnt S kk))) → J 63 [z,G 1152921504606846976] h = some (if cnt S (kk + 1) i ≤ 1152921504606846976 then .tup [G (cnt S (kk + 1) i),.bool zT] else .tup [G 0,.bool zF],[],zF) ∧
    Eff.app (.put b S.length i [G (cnt S (kk + 1) i)]) h = some (h.upd b (.cells 1 S.length (gn (mix S (kk + 1) (i + 1))))) ∧ BI S (kk + 1) b (i + 1) Hk (h.upd b (.cells 1 S.length (gn (mix S (kk + 1) (i + 1))))) ∧ h.get b = .cells 1 S.length (gn (mix S (kk + 1) i)):=fun z h nv => by
   have hg:=nv.k.at bi.g (by simp) id
   have hh : h.N ≤ b:=by rw [nv.k.N]; exact hNh
   refine ⟨?_,?_,⟨(bi.kp.trans nv.k).updn b _ hh hb,upd_same _ _ _ hh (get_lt hg (by simp))⟩,hg⟩
   ·rw [k63 h z _ nv.rv (by rw [List.length_map]; have:=hl i; omega) (fun v hv => by
     obtain ⟨j,hj,rfl⟩:=List.mem_map.1 hv
     exact Nat.le_trans (cnt_le S kk (hS i j hj)) prev)]
    rfl
   ·rw [put_gen h b S.length i 1 _ _ hh hg (by rw [gn_len,mix_len]; simp; omega)]
    simp only [putAt]
    rw [mix_set S (kk + 1) hi]
  have k1 : ((kk + 1 : Nat) : Int) = (kk : Int) + 1:=by omega
  rw [k1] at q l0
  simp only [k1] at kR
  clear g4 hS hl lf pr rv k63 prev bi k1
  generalize gn (mix S (kk + 1) i) = cm at *
  generalize gn (mix S (kk + 1) (i + 1)) = cm' at *
  generalize cnt S (kk + 1) i = c at *
  generalize (S.getD i []).length = li at *
  generalize hnn : S.length = n at *
  by_cases hc : c ≤ 1152921504606846976
  ·rw [decide_eq_true hc,if_pos rfl,if_pos rfl] at kR
   simp only [if_pos hc] at fin
   rcases sy with ⟨rfl,rfl⟩ | ⟨b1,v1,rfl⟩
   all_goals
    refine W.trim ?_
    refine zCh ?_
    simp (disch:=omega) [c62_o7,zG,q]
    refine zCh ?_
    simp (disch:=omega) [zG,q]
    refine W.seq (W.block ?_)
    refine zCh ?_
    simp (disch:=omega) [c62_o8,zG,q]
    refine W.assoc ?_
    refine zCh ?_
    simp (disch:=omega) [c62_o9,zG,q]
    refine W.seq (W.cond (v:=zF) (by simp (disch:=omega) [zG,q]) ?_)
    simp only [if_true,if_false,Bool.false_eq_true]
    refine W.skip ?_
    try simp only [zW,if_true]
    refine zCh ?_
    simp (disch:=omega) [c62_o10,zG,q]
    refine W.assoc ?_
    refine zCh ?_
    simp (disch:=omega) [c62_o11,zG,q,g1,g3,e1,e1']
    refine W.seq (W.block ?_)
    refine W.use (l0) (by simp (disch:=omega) [zG,q]) fun s1 H1 hp => ?_
    obtain ⟨z,nv,q⟩:=hp
    try simp only [zW,if_true]
    obtain ⟨f1,f2,f3,f4⟩:=fin _ _ nv
    refine zCh ?_
    simp (disch:=omega) [c62_o16,zG,q,f1]
    refine W.assoc ?_
    refine zCh ?_
    simp (disch:=omega) [c62_o17,zG,q]
    refine zCh ?_
    simp (disch:=omega) [c62_o18,zG,q]
    refine W.chunk ?_
    simp (disch:=omega) [c62_o19,zG,q,f2,f4,lm]
    refine W.chunk ?_
    simp (disch:=omega) [c62_o20,zG,q]
    exact kR _ _ ⟨f3,by simp [T.get,q]⟩
  ·rw [decide_eq_false hc,if_neg (by simp),if_neg (by simp)] at kR
   simp only [if_neg hc] at fin
   rcases sy with ⟨rfl,rfl⟩ | ⟨b1,v1,rfl⟩
   all_goals
    refine W.trim ?_
    refine zCh ?_
    simp (disch:=omega) [c62_o7,zG,q]
    refine zCh ?_
    simp (disch:=omega) [zG,q]
    refine W.seq (W.block ?_)
    refine zCh ?_
    simp (disch:=omega) [c62_o8,zG,q]
    refine W.assoc ?_
    refine zCh ?_
    simp (disch:=omega) [c62_o9,zG,q]
    refine W.seq (W.cond (v:=zF) (by simp (disch:=omega) [zG,q]) ?_)
    simp only [if_true,if_false,Bool.false_eq_true]
    refine W.skip ?_
    try simp only [zW,if_true]
    refine zCh ?_
    simp (disch:=omega) [c62_o10,zG,q]
    refine W.assoc ?_
    refine zCh ?_
    simp (disch:=omega) [c62_o11,zG,q,g1,g3,e1,e1']
    refine W.seq (W.block ?_)
    refine W.use (l0) (by simp (disch:=omega) [zG,q]) fun s1 H1 hp => ?_
    obtain ⟨z,nv,q⟩:=hp
    try simp only [zW,if_true]
    obtain ⟨f1,f2,f3,f4⟩:=fin _ _ nv
    refine zCh ?_
    simp (disch:=omega) [c62_o16,zG,q,f1]
    refine W.assoc ?_
    refine zCh ?_
    simp (disch:=omega) [c62_o17,zG,q]
    refine zCh ?_
    simp (disch:=omega) [c62_o18,zG,q]
    exact kR _ _ (by simp [T.get,q])
 by_cases hc : decide (cnt S (kk + 1) i ≤ 1152921504606846976) = zT
 ·simp only [if_pos hc] at main ⊢
  exact Tr.w fun s1 H1 hp Q kR => main s1 H1 Q hp.1 hp.2 kR
 ·simp only [if_neg hc] at main ⊢
  exact Tr.w fun s1 H1 hp Q kR => main s1 H1 Q hp.1 hp.2 kR
end
def rowsC (S : List (List Nat)) (k : Nat) : List (List AV):=(List.range k).map fun k => gn (rowC S k)
theorem rowsC_len (S : List (List Nat)) (k : Nat) : (rowsC S k).length = k:=by simp [rowsC]
theorem rowsC_succ (S : List (List Nat)) (k : Nat) : rowsC S (k + 1) = rowsC S k ++ [gn (rowC S k)]:=by simp [rowsC,List.range_succ]
theorem rowsC_at (S : List (List Nat)) {k i : Nat} (h : i < k) : (rowsC S k)[i]? = some (gn (rowC S i)):=by
 unfold rowsC
 rw [List.getElem?_map,List.getElem?_range h]; rfl
structure OkS (S : List (List Nat)) : Prop where
 lt : ∀ i,∀ j ∈ S.getD i [],j < S.length
 len : ∀ i,(S.getD i []).length ≤ 1000
 n : S.length ≤ 1000
section
variable {S : List (List Nat)} {p nn : Nat}
abbrev L1P (S : List (List Nat)) (p nn k b i : Nat) (xo : AV) (Hk : Heap) : SP:=fun s h => BI S k b i Hk h ∧ s.get [] = .ptr p 0 3 ∧ s.get [zT,zT] = xo ∧ s.get [zF,zF,zF] = G k ∧ s.get [zT,zF,zF] = .slice b 0 S.length S.length ∧ s.get [zF,zT,zF,zF] = G nn ∧ s.get [zT,zT,zF,zF] = G k ∧ s.get [zF,zT,zT,zT] = G S.length ∧ s.get [zT,zT,zT,zT] = G i
abbrev L1Q (S : List (List Nat)) (p nn k b : Nat) (xo : AV) (Hk : Heap) : SP:=fun s h => BI S k b S.length Hk h ∧ s.get [] = .ptr p 0 3 ∧ s.get [zT,zT] = xo ∧ s.get [zT,zF,zF] = .slice b 0 S.length S.length ∧ s.get [zF,zT,zF,zF] = G nn ∧ s.get [zT,zT,zF,zF] = G k
theorem c62_l1_0 (J : CallF) {Hk : Heap} {xo : AV} {b : Nat} (hn : S.length ≤ 1000) : Tr tbl J c62_l1 (L1P S p nn 0 b 0 xo Hk) (.exit 2) (L1Q S p nn 0 b xo Hk):=by
 refine Tr.out ?_ (by simp)
 refine Tr.w fun s1 H1 hp _ kR => W.trim ?_
 obtain ⟨bi,q⟩:=hp
 have bi2 : BI S 0 b S.length Hk H1:=⟨bi.kp,by
  rw [bi.g,mix_0,mix_n,rowC_0]⟩
 clear bi
 dsimp only [L1Q] at kR
 generalize S.length = n at *
 rcases Nat.eq_zero_or_pos n with rfl | hp0
 ·refine zCh ?_
  simp (disch:=omega) [c62_o7,zG,q]
  refine zCh ?_
  simp (disch:=omega) [zG,q]
  exact kR _ _ ⟨bi2,by simp [T.get,q]⟩
 ·refine zCh ?_
  simp (disch:=omega) [c62_o7,zG,q]
  refine zCh ?_
  simp (disch:=omega) [zG,q]
  refine W.seq (W.block ?_)
  refine zCh ?_
  simp (disch:=omega) [c62_o8,zG,q]
  refine W.assoc ?_
  refine zCh ?_
  simp (disch:=omega) [c62_o9,zG,q]
  refine W.seq (W.cond (v:=zT) (by simp (disch:=omega) [zG,q]) ?_)
  simp only [if_true,if_false,Bool.false_eq_true]
  refine W.exit ?_
  try simp only [zW,if_true]
  exact kR _ _ ⟨bi2,by simp [T.get,q]⟩
theorem c62_l1_end (J : CallF) {k : Nat} {Hk : Heap} {xo : AV} {b : Nat} (hn : S.length ≤ 1000) : Tr tbl J (.trim [[],[zT,zT],[zF,zF,zF],[zT,zF,zF],[zF,zT,zF,zF],[zT,zT,zF,zF],[zF,zT,zT,zT],[zT,zT,zT,zT]] c62_b1) (L1P S p nn k b S.length xo Hk) (.exit 2) (L1Q S p nn k b xo Hk):=by
 refine Tr.w fun s1 H1 hp _ kR => W.trim ?_
 obtain ⟨bi,q⟩:=hp
 dsimp only [L1Q] at kR
 generalize hnn : S.length = n at *
 refine zCh ?_
 simp (disch:=omega) [c62_o7,zG,q]
 refine zCh ?_
 simp (disch:=omega) [zG,q]
 exact kR _ _ ⟨bi,by simp [T.get,q]⟩
def lvlB (S : List (List Nat)) (k : Nat) : Bool:=af (fun i => decide (cnt S k i ≤ 1152921504606846976)) 0 S.length
theorem c62_l1_t (J : CallF) (k63 : K63 J) {Hk : Heap} (os : OkS S) (lf : LF Hk p S) {xo : AV} {kk bo br : Nat} {ros : List AV} (pr : PR S xo kk Hk bo br ros) (k40 : kk ≤ 1000) {b : Nat} (hb : Hk.size ≤ b) (hN : Hk.N ≤ b) (prev : (rowC S kk).sum ≤ 1152921504606846976) :
  (lvlB S (kk + 1) = zT → Tr tbl J c62_l1 (L1P S p nn (kk + 1) b 0 xo Hk) (.exit 2) (L1Q S p nn (kk + 1) b xo Hk)) ∧
  (lvlB S (kk + 1) = zF → Tr tbl J c62_l1 (L1P S p nn (kk + 1) b 0 xo Hk) .ret (fun s h => s.get [zT,zF] = .nils ∧ s.get [zF,zT] = .bool zF)):=by
 have key:=fun i hi => c62_b1_ok (p:=p) (nn:=nn) J k63 lf pr k40 os.lt os.len os.n hb hN prev (i:=i) hi
 refine ⟨fun h => Tr.allT (P:=fun i => L1P S p nn (kk + 1) b i xo Hk) (p:=fun i => decide (cnt S (kk + 1) i ≤ 1152921504606846976)) S.length (fun i hi hp => ?_) (c62_l1_end J os.n) (by simp) S.length 0 (by omega) h,fun h => Tr.allF (P:=fun i => L1P S p nn (kk + 1) b i xo Hk) (p:=fun i => decide (cnt S (kk + 1) i ≤ 1152921504606846976)) S.length (fun i hi hp => ?_) (fun i hi hp => ?_) (by simp) S.length 0 (by omega) h⟩
 ·have:=key i hi
  rw [if_pos hp,if_pos hp] at this
  exact this
 ·have:=key i hi
  rw [if_pos hp,if_pos hp] at this
  exact this
 ·have:=key i hi
  rw [if_neg (by rw [hp]; simp),if_neg (by rw [hp]; simp)] at this
  exact this
theorem lvlB_of {k : Nat} (h : (rowC S k).sum ≤ 1152921504606846976) : lvlB S k = zT:=by
 unfold lvlB
 rw [af_iff]
 intro i _ hi
 rw [decide_eq_true_eq]
 exact Nat.le_trans (cnt_le S k (by omega)) h
theorem row_le {k : Nat} (h : lvlB S k = zT) : ∀ x ∈ rowC S k,x ≤ 1152921504606846976:=fun x hx => by
 unfold rowC at hx
 obtain ⟨i,hi,rfl⟩:=List.mem_map.1 hx
 unfold lvlB at h
 rw [af_iff] at h
 have:=h i (Nat.zero_le _) (by have:=List.mem_range.1 hi; omega)
 rwa [decide_eq_true_eq] at this
abbrev L2P (S : List (List Nat)) (p nn k : Nat) (Hb : Heap) : SP:=fun s h => ∃ y,(TB Hb h y (rowsC S k) ∧ ∀ k',k' < k → (rowC S k').sum ≤ 1152921504606846976) ∧ s.get [] = .ptr p 0 3 ∧ s.get [zT,zT] = y ∧ s.get [zF,zT,zF,zF] = G nn ∧ s.get [zT,zT,zF,zF] = G k
theorem lvl_all (J : CallF) (k63 : K63 J) (os : OkS S) {Hb H : Heap} (lf : LF Hb p S) {k : Nat} (k40 : k ≤ 1000) {y : AV} (tb : TB Hb H y (rowsC S k)) (prev : ∀ k',k' < k → (rowC S k').sum ≤ 1152921504606846976) {Hk : Heap} (kH : Kp (fun _ => False) H Hk) {b : Nat} (hb : Hk.size = b) :
  (lvlB S k = zT → Tr tbl J c62_l1 (L1P S p nn k b 0 y Hk) (.exit 2) (L1Q S p nn k b y Hk)) ∧
  (lvlB S k = zF → Tr tbl J c62_l1 (L1P S p nn k b 0 y Hk) .ret (fun s h => s.get [zT,zF] = .nils ∧ s.get [zF,zT] = .bool zF)):=by
 have hN : Hk.N ≤ b:=by rw [← hb]; unfold Heap.size; omega
 cases k with
 | zero =>
  refine ⟨fun _ => c62_l1_0 J os.n,fun h => ?_⟩
  have : lvlB S 0 = zT:=by
   unfold lvlB
   rw [af_iff]
   intro i _ _
   simp [cnt]
  rw [this] at h; cases h
 | succ kk =>
  have t1:=tb.kp kH
  obtain ⟨bo,ros,e1,e2,e3,e4⟩:=t1.sl (i:=kk) (by rw [rowsC_len]; omega)
  rw [rowsC_len] at e1 e2 e3
  obtain ⟨br,e5,e6⟩:=e4 kk _ (rowsC_at S (Nat.lt_succ_self kk))
  rw [gn_len,rowC_len] at e5 e6
  have pr : PR S y kk Hk bo br ros:=⟨e1,e2,e5,e3,e6⟩
  exact c62_l1_t J k63 os ((lf.kp tb.k).kp kH) pr (by omega) (by omega) hN (prev kk (Nat.lt_succ_self kk))
theorem c62_b2_ok (J : CallF) (k63 : K63 J) (k91 : K91 J) (os : OkS S) (n243 : S.length ≤ 243) {Hb : Heap} (lf : LF Hb p S) {k : Nat} (hk : k < nn) (k40 : nn ≤ 40) :
  ((rowC S k).sum ≤ 1152921504606846976 → Tr tbl J (.trim [[],[zT,zT],[zF,zT,zF,zF],[zT,zT,zF,zF]] c62_b2) (L2P S p nn k Hb) .normal (L2P S p nn (k + 1) Hb)) ∧
  (¬ (rowC S k).sum ≤ 1152921504606846976 → Tr tbl J (.trim [[],[zT,zT],[zF,zT,zF,zF],[zT,zT,zF,zF]] c62_b2) (L2P S p nn k Hb) .ret (fun s h => s.get [zT,zF] = .nils ∧ s.get [zF,zT] = .bool zF)):=by
 have pre : ∀ (H1 : Heap) (y : AV),TB Hb H1 y (rowsC S k) → ∃ Hk b,H1.plus [.cells 1 1 [G 1]] = Hk ∧ Hk.size = b ∧ Kp (fun _ => False) H1 Hk ∧ J 91 [.slice H1.size 0 1 1,G S.length] Hk = some (.slice b 0 S.length S.length,[.cells 1 S.length (List.replicate S.length (G 1))],zF) ∧ BI S k b 0 Hk (Hk.plus [.cells 1 S.length (List.replicate S.length (G 1))]) ∧ LF Hk p S ∧ blk y ≠ some b ∧ Hb.size ≤ b:=fun H1 y tb => by
  have kH : Kp (fun _ => False) H1 (H1.plus [.cells 1 1 [G 1]]):=Kp.plus _ _
  refine ⟨_,_,rfl,rfl,kH,?_,⟨Kp.plus _ _,by rw [mix_0]; exact plus_at0 _ _ _ _ rfl⟩,(lf.kp tb.k).kp kH,fun e => ?_,Nat.le_trans tb.k.size kH.size⟩
  ·exact k91 _ H1.size S.length 1 (plus_at0 _ _ _ _ rfl) n243
  ·obtain ⟨rs,lv,_⟩:=tb.r
   have:=lv.lt e
   have:=kH.size
   rw [plus_size] at *
   simp at *
   omega
 have step : ∀ (H1 : Heap) (y : AV),TB Hb H1 y (rowsC S k) → (∀ k',k' < k → (rowC S k').sum ≤ 1152921504606846976) → lvlB S k = zT → ∀ Hk b,Hk.size = b → Kp (fun _ => False) H1 Hk → blk y ≠ some b → Hb.size ≤ b → ∀ h,BI S k b S.length Hk h → J 63 [.slice b 0 S.length S.length,G 1152921504606846976] h = some (tot (rowC S k),[],zF) ∧
   ∃ x1 e h2,appA (h.plus [.cells 1 1 [.slice b 0 S.length S.length]]) h.size none 1 24 1 [.slice b 0 S.length S.length] y = some (x1,e) ∧ Eff.app e (h.plus [.cells 1 1 [.slice b 0 S.length S.length]]) = some h2 ∧ TB Hb h2 x1 (rowsC S (k + 1)):=fun H1 y tb prev lv Hk b hb kH hy hb2 h bi => by
  have g:=bi.g
  rw [mix_n] at g
  have lr : (gn (rowC S k)).length = S.length:=by rw [gn_len,rowC_len]
  refine ⟨?_,?_⟩
  ·exact k63 h _ (rowC S k) (.inr ⟨b,S.length,by rw [lr],g⟩) (by rw [rowC_len]; omega) (row_le lv)
  ·obtain ⟨x1,e,h2,q1,q2,q3,_⟩:=((tb.kp kH).kp bi.kp).app h.size (b:=b) (cs:=gn (rowC S k)) (by rw [lr]; exact g) ⟨hy,hb2⟩ (by rw [rowsC_len]; omega)
   rw [lr] at q1 q2
   rw [rowsC_succ]
   exact ⟨x1,e,h2,q1,q2,q3⟩
 have main : ∀ (s1 : T) (H1 : Heap) (Q : PQ) (y : AV),TB Hb H1 y (rowsC S k) → (∀ k',k' < k → (rowC S k').sum ≤ 1152921504606846976) → (s1.get [] = .ptr p 0 3 ∧ s1.get [zT,zT] = y ∧ s1.get [zF,zT,zF,zF] = G nn ∧ s1.get [zT,zT,zF,zF] = G k) →
   ((rowC S k).sum ≤ 1152921504606846976 → ∀ s' h',L2P S p nn (k + 1) Hb s' h' → Q .normal s' h') → (¬ (rowC S k).sum ≤ 1152921504606846976 → ∀ s' h',((fun s h => s.get [zT,zF] = .nils ∧ s.get [zF,zT] = .bool zF) : SP) s' h' → Q .ret s' h') → W tbl J (.trim [[],[zT,zT],[zF,zT,zF,zF],[zT,zT,zF,zF]] c62_b2) s1 H1 Q:=fun s1 H1 Q y tb prev q kA kB => by
  obtain ⟨Hk,b,hk1,hb,kH,e91,bi0,lfk,hy,hb2⟩:=pre H1 y tb
  have lall:=lvl_all (nn:=nn) J k63 os lf (by omega) tb prev kH hb
  have st:=step H1 y tb prev
  obtain ⟨x,mb,nb,rs,g1,sx,_,_⟩:=lfk
  have prev2 : (rowC S k).sum ≤ 1152921504606846976 → ∀ k',k' < k + 1 → (rowC S k').sum ≤ 1152921504606846976:=fun hs k' hk' => by
   by_cases e : k' = k
   ·rw [e]; exact hs
   ·exact prev k' (by omega)
  have t1:=lvlB_of (S:=S) (k:=k)
  cases lv : lvlB S k
  ·have ns : ¬ (rowC S k).sum ≤ 1152921504606846976:=fun h => by rw [t1 h] at lv; cases lv
   have kR:=kB ns
   have l1:=lall.2 lv
   clear lall st prev2 t1 kA kB prev tb pre step
   unfold L1P at l1
   generalize hnn : S.length = n at *
   have nz : n = 0 ∨ 0 < n:=Nat.eq_zero_or_pos n
   rcases sx with ⟨rfl,hz⟩ | ⟨b1,v1,rfl⟩
   ·subst hz
    exfalso
    unfold lvlB at lv
    rw [hnn] at lv
    cases lv
   ·refine W.trim ?_
    refine zCh ?_
    simp (disch:=omega) [c62_o3,zG,q]
    refine zCh ?_
    simp (disch:=omega) [zG,q]
    refine W.seq (W.block ?_)
    refine zCh ?_
    simp (disch:=omega) [c62_o4,zG,q]
    refine zCh ?_
    simp (disch:=omega) [c62_o5,zG,q,hk1,g1,e91]
    refine W.assoc ?_
    refine zCh ?_
    simp (disch:=omega) [c62_o6,zG,q]
    refine W.seq (W.block ?_)
    refine W.use (l1) (by simp (disch:=omega) [zG,q,bi0]) fun s1 H1 hp => ?_
    try simp only [zW,if_true]
    exact kR _ _ hp
  ·have l1:=lall.1 lv
   have st:=st lv Hk b hb kH hy hb2
   by_cases hs : (rowC S k).sum ≤ 1152921504606846976
   ·have kR:=kA hs
    have pv2:=prev2 hs
    have et : tot (rowC S k) = .tup [G (rowC S k).sum,.bool zT]:=by unfold tot; rw [if_pos hs]
    rw [et] at st
    clear lall t1 kA kB prev tb pre step et prev2
    unfold L1P L1Q at l1
    generalize (rowC S k).sum = sm at *
    generalize hnn : S.length = n at *
    rcases sx with ⟨rfl,rfl⟩ | ⟨b1,v1,rfl⟩
    all_goals
     try rw [show ((0 : Nat) : Int) = 0 from rfl] at e91
     try rw [show List.replicate 0 (G 1) = [] from rfl] at e91 bi0
     refine W.trim ?_
     refine zCh ?_
     simp (disch:=omega) [c62_o3,zG,q]
     refine zCh ?_
     simp (disch:=omega) [zG,q]
     refine W.seq (W.block ?_)
     refine zCh ?_
     simp (disch:=omega) [c62_o4,zG,q]
     refine zCh ?_
     simp (disch:=omega) [c62_o5,zG,q,hk1,g1,e91]
     refine W.assoc ?_
     refine zCh ?_
     simp (disch:=omega) [c62_o6,zG,q]
     refine W.seq (W.block ?_)
     refine W.use (l1) (by simp (disch:=omega) [zG,q,bi0]) fun s1 H1 hp => ?_
     obtain ⟨bi,q⟩:=hp
     try simp only [zW,if_true]
     refine W.assoc ?_
     obtain ⟨f1,x1,e,h2,q1,q2,q3⟩:=st _ bi
     refine zCh ?_
     simp (disch:=omega) [c62_o21,zG,q,f1]
     refine W.assoc ?_
     refine zCh ?_
     simp (disch:=omega) [c62_o22,zG,q]
     refine zCh ?_
     simp (disch:=omega) [c62_o23,zG,q]
     refine W.chunk ?_
     simp (disch:=omega) [c62_o24,zG,q,q1,q2,app1_at,elems,rdOf]
     refine W.chunk ?_
     simp (disch:=omega) [c62_o25,zG,q]
     exact kR _ _ ⟨_,⟨q3,pv2⟩,by simp [T.get,q]⟩
   ·have kR:=kB hs
    have et : tot (rowC S k) = .tup [G 0,.bool zF]:=by unfold tot; rw [if_neg hs]
    rw [et] at st
    clear lall t1 kA kB prev tb pre step et prev2
    unfold L1P L1Q at l1
    generalize hnn : S.length = n at *
    rcases sx with ⟨rfl,rfl⟩ | ⟨b1,v1,rfl⟩
    all_goals
     try rw [show ((0 : Nat) : Int) = 0 from rfl] at e91
     try rw [show List.replicate 0 (G 1) = [] from rfl] at e91 bi0
     refine W.trim ?_
     refine zCh ?_
     simp (disch:=omega) [c62_o3,zG,q]
     refine zCh ?_
     simp (disch:=omega) [zG,q]
     refine W.seq (W.block ?_)
     refine zCh ?_
     simp (disch:=omega) [c62_o4,zG,q]
     refine zCh ?_
     simp (disch:=omega) [c62_o5,zG,q,hk1,g1,e91]
     refine W.assoc ?_
     refine zCh ?_
     simp (disch:=omega) [c62_o6,zG,q]
     refine W.seq (W.block ?_)
     refine W.use (l1) (by simp (disch:=omega) [zG,q,bi0]) fun s1 H1 hp => ?_
     obtain ⟨bi,q⟩:=hp
     try simp only [zW,if_true]
     refine W.assoc ?_
     obtain ⟨f1,x1,e,h2,q1,q2,q3⟩:=st _ bi
     refine zCh ?_
     simp (disch:=omega) [c62_o21,zG,q,f1]
     refine W.assoc ?_
     refine zCh ?_
     simp (disch:=omega) [c62_o22,zG,q]
     refine zCh ?_
     simp (disch:=omega) [c62_o23,zG,q]
     exact kR _ _ (by simp [T.get,q])
 exact ⟨fun hs => Tr.w fun s1 H1 hp Q kR => by
  obtain ⟨y,⟨tb,prev⟩,q⟩:=hp
  exact main s1 H1 Q y tb prev q (fun _ => kR) (fun h => absurd hs h),fun hs => Tr.w fun s1 H1 hp Q kR => by
  obtain ⟨y,⟨tb,prev⟩,q⟩:=hp
  exact main s1 H1 Q y tb prev q (fun h => absurd h hs) (fun _ => kR)⟩
theorem LF.fr {h : Heap} (l : LF h p S) : LF (frameOf h) p S:=by
 have gl : ∀ {b y},h.get b = y → y ≠ .hole → (frameOf h).get b = y:=fun e hx => by
  unfold frameOf; rw [get_mk_lt _ _ _ _ (get_lt e hx)]; exact e
 obtain ⟨x,mb,nb,rs,h1,h2,h3,h4⟩:=l
 refine ⟨x,mb,nb,rs,gl h1 (by simp),h2,gl h3 (by simp),fun i hi => ?_⟩
 obtain ⟨y,e1,e2⟩:=h4 i hi
 exact ⟨y,e1,e2.frame⟩
theorem TB.fr1 {h h' : Heap} {x : AV} {b : Bool} {L : List (List AV)} (t : TB (frameOf h) h' x L) : TB h (h.plus (if (one [x,.bool b]).flat then [] else h'.own)) x L:=by
 split
 ·rename_i hf
  obtain ⟨rs,lv,hl,hr⟩:=t.r
  rcases lv with ⟨rfl,rfl⟩ | ⟨b,rfl,g,n⟩
  ·have : L = []:=List.length_eq_zero_iff.1 hl.symm
   subst this
   have : h.plus [] = h:=by simp [Heap.plus]
   rw [this]; exact TB.nil h
  ·simp [one,AV.flat,AV.flats] at hf
 ·exact t.fr
theorem okC_iff {S : List (List Nat)} {n : Nat} : okC S n = zT ↔ ∀ k,k < n → (rowC S k).sum ≤ 1152921504606846976:=by
 unfold okC
 rw [af_iff]
 constructor
 ·intro h k hk
  have:=h k (Nat.zero_le _) (by omega)
  rwa [decide_eq_true_eq] at this
 ·intro h k _ hk
  rw [decide_eq_true_eq]
  exact h k (by omega)
theorem c62_l2_ok (J : CallF) (k63 : K63 J) (k91 : K91 J) (os : OkS S) (n243 : S.length ≤ 243) {Hb : Heap} (lf : LF Hb p S) (k40 : nn ≤ 40) :
  (okC S nn = zT → Tr tbl J c62_l2 (fun s h => h = Hb ∧ s.get [] = .ptr p 0 3 ∧ s.get [zT,zT] = .nils ∧ s.get [zF,zT,zF,zF] = G nn ∧ s.get [zT,zT,zF,zF] = G ((0 : Nat) : Int)) (.exit 0) (fun s h => ∃ y,TB Hb h y (rowsC S nn) ∧ s.get [zT,zT] = y)) ∧
  (okC S nn = zF → Tr tbl J c62_l2 (fun s h => h = Hb ∧ s.get [] = .ptr p 0 3 ∧ s.get [zT,zT] = .nils ∧ s.get [zF,zT,zF,zF] = G nn ∧ s.get [zT,zT,zF,zF] = G ((0 : Nat) : Int)) .ret (fun s h => s.get [zT,zF] = .nils ∧ s.get [zF,zT] = .bool zF)):=by
 have p0 : ∀ s h,((fun s h => h = Hb ∧ s.get [] = .ptr p 0 3 ∧ s.get [zT,zT] = .nils ∧ s.get [zF,zT,zF,zF] = G nn ∧ s.get [zT,zT,zF,zF] = G ((0 : Nat) : Int)) : SP) s h → L2P S p nn 0 Hb s h:=fun s h hp => ⟨.nils,⟨by rw [hp.1]; exact TB.nil Hb,fun k hk => by omega⟩,hp.2⟩
 have fin : Tr tbl J (.trim [[],[zT,zT],[zF,zT,zF,zF],[zT,zT,zF,zF]] c62_b2) (L2P S p nn nn Hb) (.exit 0) (fun s h => ∃ y,TB Hb h y (rowsC S nn) ∧ s.get [zT,zT] = y):=by
  refine Tr.w fun s1 H1 hp _ kR => W.trim ?_
  obtain ⟨y,⟨tb,_⟩,q⟩:=hp
  refine zCh ?_
  simp (disch:=omega) [c62_o3,zG,q]
  refine zCh ?_
  simp (disch:=omega) [zG,q]
  exact kR _ _ ⟨_,tb,by simp [T.get,q]⟩
 refine ⟨fun h => Tr.pre p0 (Tr.allT (P:=fun k => L2P S p nn k Hb) (p:=fun k => decide ((rowC S k).sum ≤ 1152921504606846976)) nn (fun k hk hp => ?_) fin (by simp) nn 0 (by omega) h),fun h => Tr.pre p0 (Tr.allF (P:=fun k => L2P S p nn k Hb) (p:=fun k => decide ((rowC S k).sum ≤ 1152921504606846976)) nn (fun k hk hp => ?_) (fun k hk hp => ?_) (by simp) nn 0 (by omega) h)⟩
 ·exact (c62_b2_ok J k63 k91 os n243 lf hk k40).1 (of_decide_eq_true hp)
 ·exact (c62_b2_ok J k63 k91 os n243 lf hk k40).1 (of_decide_eq_true hp)
 ·exact (c62_b2_ok J k63 k91 os n243 lf hk k40).2 (of_decide_eq_false hp)
theorem c62_t (J : CallF) (k63 : K63 J) (k91 : K91 J) (hJ : ∀ a h,J 62 a h = none) (h : Heap) (os : OkS S) (n243 : S.length ≤ 243) (lf : LF h p S) (k40 : nn ≤ 40) (hc : okC S nn = zT) :
  ∃ v own,CallsTo tbl J 62 [.ptr p 0 3,G nn] h (v,own,zF) ∧ ∃ x,v = .tup [x,.bool zT] ∧ TB h (h.plus own) x (rowsC S nn):=by
 refine Tr.fny (cf:=c62) (e:=.ret) (s:=T.set (T.set .leaf [] (.ptr p 0 3)) [zF] (G nn)) (by decide) rfl (hJ _ _) rfl rfl (by simp) ?_
 have l2:=(c62_l2_ok J k63 k91 os n243 lf.fr k40).1 hc
 refine Tr.w fun s1 H1 hp _ kR => ?_
 obtain ⟨rfl,rfl⟩:=hp
 have q : True:=trivial
 refine zCh ?_
 simp (disch:=omega) [c62_o0,zG,q]
 refine zCh ?_
 simp (disch:=omega) [c62_o1,zG,q]
 refine W.assoc ?_
 refine zCh ?_
 simp (disch:=omega) [c62_o2,zG,q]
 refine W.seq (W.block ?_)
 refine W.use (l2) (by simp (disch:=omega) [zG,q]) fun s1 H1 hp => ?_
 obtain ⟨y,tb,q⟩:=hp
 try simp only [zW,if_true]
 refine zCh ?_
 simp (disch:=omega) [c62_o26,zG,q]
 refine W.ret ?_
 try simp only [zW,if_true]
 refine kR _ _ ?_
 exact ⟨[y,.bool zT],by simp [T.get,c62,evRess,evRes,q],y,rfl,tb.fr1⟩
theorem c62_f (J : CallF) (k63 : K63 J) (k91 : K91 J) (hJ : ∀ a h,J 62 a h = none) (h : Heap) (os : OkS S) (n243 : S.length ≤ 243) (lf : LF h p S) (k40 : nn ≤ 40) (hc : okC S nn = zF) : CallsTo tbl J 62 [.ptr p 0 3,G nn] h (.tup [.nils,.bool zF],[],zF):=by
 refine Tr.fnv (cf:=c62) (e:=.ret) (s:=T.set (T.set .leaf [] (.ptr p 0 3)) [zF] (G nn)) (by decide) rfl (hJ _ _) rfl rfl rfl (by simp) ?_
 refine Tr.post (Q:=(fun s h => s.get [zT,zF] = .nils ∧ s.get [zF,zT] = .bool zF)) (fun s h q => by simp [c62,q]) ?_
 have l2:=(c62_l2_ok J k63 k91 os n243 lf.fr k40).2 hc
 refine Tr.w fun s1 H1 hp _ kR => ?_
 obtain ⟨rfl,rfl⟩:=hp
 have q : True:=trivial
 refine zCh ?_
 simp (disch:=omega) [c62_o0,zG,q]
 refine zCh ?_
 simp (disch:=omega) [c62_o1,zG,q]
 refine W.assoc ?_
 refine zCh ?_
 simp (disch:=omega) [c62_o2,zG,q]
 refine W.seq (W.block ?_)
 refine W.use (l2) (by simp (disch:=omega) [zG,q]) fun s1 H1 hp => ?_
 try simp only [zW,if_true]
 exact kR _ _ hp
end
structure A62 where
 p : Nat
 nn : Nat
 S : List (List Nat)
def Ok62 (b : A62) (h : Heap) : Prop:=OkS b.S ∧ b.S.length ≤ 243 ∧ LF h b.p b.S ∧ b.nn ≤ 40
def Pre62 (b : A62) (args : List AV) (h : Heap) : Prop:=Ok62 b h ∧ args = [.ptr b.p 0 3,G b.nn]
def Post62 (b : A62) (h : Heap) (v : AV) (own : List AObj) : Prop:=(okC b.S b.nn = zT → ∃ x,v = .tup [x,.bool zT] ∧ TB h (h.plus own) x (rowsC b.S b.nn)) ∧ (okC b.S b.nn = zF → v = .tup [.nils,.bool zF] ∧ own = [])
noncomputable def T38 : CallF:=addK tbl T37 62 Pre62 Post62
theorem t38 : Sound zp T38:=Sound.addK follows ok t37 (by decide) _ _
abbrev K62 (J : CallF) : Prop:=∀ (h : Heap) (b : A62),Ok62 b h → ∃ v own,J 62 [.ptr b.p 0 3,G b.nn] h = some (v,own,zF) ∧ Post62 b h v own
theorem k91_37 : K91 T37:=fun h b n x hb h2 => by
 rw [show T37 91 [.slice b 0 1 1,G n] h = T34 91 [.slice b 0 1 1,G n] h from by simp (disch:=decide) only [T35,T36,T37,addK_ne]]
 exact k91 h b n x hb h2
theorem k62 : K62 T38:=fun h b o => by
 obtain ⟨v,own,e,l⟩:=addK_some (Pre:=Pre62) (Post:=Post62) (fun b args h hp => by
  obtain ⟨⟨h1,h2,h3,h4⟩,rfl⟩:=hp
  cases hc : okC b.S b.nn
  ·exact ⟨_,_,c62_f T37 k63 k91_37 (fun _ _ => by simp (disch:=decide) only [T1,T2,T3,T4,T5,T6,T7,T8,T9,T10,T11,T12,T13,T14,T15,T16,T17,T18,T19,T20,T21,T22,T23,T24,T25,T26,T27,T28,T29,T30,T31,T32,T33,T34,T35,T36,T37,addI_ne,addX_ne,addV_ne,addK_ne]; rfl) h h1 h2 h3 h4 hc,fun q => (by rw [hc] at q; cases q),fun _ => ⟨rfl,rfl⟩⟩
  ·obtain ⟨v,own,e,x,rfl,tb⟩:=c62_t T37 k63 k91_37 (fun _ _ => by simp (disch:=decide) only [T1,T2,T3,T4,T5,T6,T7,T8,T9,T10,T11,T12,T13,T14,T15,T16,T17,T18,T19,T20,T21,T22,T23,T24,T25,T26,T27,T28,T29,T30,T31,T32,T33,T34,T35,T36,T37,addI_ne,addX_ne,addV_ne,addK_ne]; rfl) h h1 h2 h3 h4 hc
   exact ⟨_,_,e,fun _ => ⟨x,rfl,tb⟩,fun q => (by rw [hc] at q; cases q)⟩) b _ h ⟨o,rfl⟩
 exact ⟨v,own,e,l⟩
theorem stL_ok {W : List (List Int)} {R : List (List Nat)} (hn : R.length ≤ 243) : OkS (stL W R):=by
 have e : (stL W R).length = R.length:=by simp [stL]
 have g : ∀ i,∃ s,(stL W R).getD i [] = nxL W R s ∨ (stL W R).getD i [] = []:=fun i => by
  unfold stL
  rw [zd,List.getElem?_map]
  cases R[i]? with
  | none => exact ⟨[],.inr rfl⟩
  | some s => exact ⟨s,.inl rfl⟩
 refine ⟨fun i j hj => ?_,fun i => ?_,by omega⟩
 ·rw [e]
  obtain ⟨s,h | h⟩:=g i
  ·rw [h] at hj; exact nxL_lt hj
  ·rw [h] at hj; cases hj
 ·obtain ⟨s,h | h⟩:=g i
  ·rw [h]; have:=nxL_len W R s; omega
  ·rw [h]; simp
def AR.gd (a : AR) (m n lo : Int) : Bool:=a.rm m && decide (lo ≤ n ∧ n ≤ 40)
def AR.cn (a : AR) (m : Int) (n : Nat) : Nat:=if n = 0 then 1 else (rowC (a.steps m) (n - 1)).sum
def AR.cntV (a : AR) (m n : Int) : AV:=if a.gd m n 0 then (if okC (a.steps m) n.toNat then .tup [G (a.cn m n.toNat),G 0] else .tup [G 0,G 5]) else .tup [G 0,G 2]
theorem AR.rm_iff {a : AR} {m : Int} (h : a.rm m = zT) : a.ru = zT ∧ 1 ≤ m ∧ m ≤ 5:=by
 unfold AR.rm at h
 simpa using h
theorem AR.steps_ok {a : AR} {m : Int} (h : a.rm m = zT) : OkS (a.steps m) ∧ (a.steps m).length ≤ 243 ∧ (a.steps m).length = (a.rows m).length:=by
 obtain ⟨h1,h2⟩:=a.rm_iff h
 have q3:=a.q3 h1
 have sm:=rwL_small (q:=a.q.toNat) (B:=a.B) (m:=m.toNat) (by omega) (by omega)
 have e : (a.steps m).length = (a.rows m).length:=by simp [AR.steps,stL]
 exact ⟨stL_ok sm,by rw [e]; exact sm,e⟩
section
variable {a : AR} {m n : Int}
theorem c21_0 (J : CallF) (k57 : KR 57 J) (k60 : K60 J) (hJ : ∀ a h,J 21 a h = none) (h : Heap) (o : OkR a h) (g : a.gd m n 0 = zF) : CallsTo tbl J 21 [a.v,G m,G n] h (.tup [G 0,G 2],[],zF):=by
 refine Tr.fnv (cf:=c21) (e:=.ret) (s:=T.set (T.set (T.set .leaf [] a.v) [zF] (G m)) [zT] (G n)) (by decide) rfl (hJ _ _) rfl rfl rfl (by simp) ?_
 obtain ⟨k1,k2⟩:=rs_pre (m:=m) J k57 k60 o
 have k3:=k60 n 0 40 ⟨h.get,h.size,[.cells 0 3 [G a.q,a.x,a.y]]⟩
 refine Tr.post (Q:=(fun s h => s.get [zT,zT] = G 0 ∧ s.get [zF,zF,zF] = G 2)) (fun s h q => by simp [c21,q]) ?_
 unfold AR.gd AR.rm at g
 generalize a.ru = b1 at *
 generalize decide (1 ≤ m ∧ m ≤ 5) = b2 at *
 generalize decide (0 ≤ n ∧ n ≤ 40) = b3 at *
 refine Tr.w fun s1 H1 hp _ kR => ?_
 obtain ⟨rfl,rfl⟩:=hp
 have q : True:=trivial
 cases b1
 ·refine zCh ?_
  simp (disch:=first|omega|exact zE rfl|exact zO|exact zL rfl) [c21_o0,size_mk,get_mk_lt,get_mk_ge,frameOf,Eff.app,Heap.setOwn,q]
  refine W.assoc ?_
  refine zCh ?_
  simp (disch:=first|omega|exact zE rfl|exact zO|exact zL rfl) [c21_o1,size_mk,get_mk_lt,get_mk_ge,frameOf,Eff.app,Heap.setOwn,q,k1,k2,k3]
  refine zCh ?_
  simp (disch:=first|omega|exact zE rfl|exact zO|exact zL rfl) [c21_o2,size_mk,get_mk_lt,get_mk_ge,frameOf,Eff.app,Heap.setOwn,q]
  exact kR _ _ (by simp [T.get])
 ·cases b2
  ·refine zCh ?_
   simp (disch:=first|omega|exact zE rfl|exact zO|exact zL rfl) [c21_o0,size_mk,get_mk_lt,get_mk_ge,frameOf,Eff.app,Heap.setOwn,q]
   refine W.assoc ?_
   refine zCh ?_
   simp (disch:=first|omega|exact zE rfl|exact zO|exact zL rfl) [c21_o1,size_mk,get_mk_lt,get_mk_ge,frameOf,Eff.app,Heap.setOwn,q,k1,k2,k3]
   refine zCh ?_
   simp (disch:=first|omega|exact zE rfl|exact zO|exact zL rfl) [c21_o2,size_mk,get_mk_lt,get_mk_ge,frameOf,Eff.app,Heap.setOwn,q]
   exact kR _ _ (by simp [T.get])
  ·have : b3 = zF:=by simpa using g
   subst this
   refine zCh ?_
   simp (disch:=first|omega|exact zE rfl|exact zO|exact zL rfl) [c21_o0,size_mk,get_mk_lt,get_mk_ge,frameOf,Eff.app,Heap.setOwn,q]
   refine W.assoc ?_
   refine zCh ?_
   simp (disch:=first|omega|exact zE rfl|exact zO|exact zL rfl) [c21_o1,size_mk,get_mk_lt,get_mk_ge,frameOf,Eff.app,Heap.setOwn,q,k1,k2,k3]
   refine zCh ?_
   simp (disch:=first|omega|exact zE rfl|exact zO|exact zL rfl) [c21_o2,size_mk,get_mk_lt,get_mk_ge,frameOf,Eff.app,Heap.setOwn,q]
   exact kR _ _ (by simp [T.get])
theorem c21_1 (J : CallF) (k57 : KR 57 J) (k60 : K60 J) (k61 : K61 J) (k62 : K62 J) (k63 : K63 J) (hJ : ∀ a h,J 21 a h = none) (h : Heap) (o : OkR a h) (g : a.gd m n 0 = zT) : CallsTo tbl J 21 [a.v,G m,G n] h (a.cntV m n,[],zF):=by
 unfold AR.cntV
 rw [if_pos g]
 unfold AR.gd at g
 simp only [Bool.and_eq_true,decide_eq_true_eq] at g
 obtain ⟨r,n1,n2⟩:=g
 obtain ⟨r1,r2⟩:=a.rm_iff r
 obtain ⟨os,s243,_⟩:=AR.steps_ok r
 obtain ⟨k1,k2⟩:=rs_pre (m:=m) J k57 k60 o
 have k3:=k60 n 0 40 ⟨h.get,h.size,[.cells 0 3 [G a.q,a.x,a.y]]⟩
 rw [r1] at k1
 rw [decide_eq_true r2] at k2
 rw [decide_eq_true ⟨n1,n2⟩] at k3
 obtain ⟨Hs,hHs⟩ : ∃ H,(⟨h.get,h.size,[.cells 0 3 [G a.q,a.x,a.y]]⟩ : Heap) = H:=⟨_,rfl⟩
 rw [hHs] at k1 k2 k3
 have oH : OkR a Hs:=by rw [← hHs]; exact o.lo _
 have gS : Hs.get h.size = .cells 0 3 [G a.q,a.x,a.y]:=by rw [← hHs,get_mk_ge _ _ _ _ (Nat.le_refl _),Nat.sub_self]; rfl
 obtain ⟨p,own,e61,lm⟩:=k61 Hs a.g m.toNat (oH.g r1) (by omega)
 rw [a.gv r1,show ((m.toNat : Nat) : Int) = m by omega] at e61
 obtain ⟨Z,hZ⟩ : ∃ Z,Hs.plus own = Z:=⟨_,rfl⟩
 rw [hZ] at lm
 have lf : LF Z p (a.steps m):=lm.lf
 obtain ⟨v,own2,e62,l62⟩:=k62 Z ⟨p,n.toNat,a.steps m⟩ ⟨os,s243,lf,by show n.toNat ≤ 40; omega⟩
 have nn : ((n.toNat : Nat) : Int) = n:=by omega
 simp only [nn] at e62
 cases hc : okC (a.steps m) n.toNat
 ·obtain ⟨rfl,rfl⟩:=l62.2 hc
  rw [if_neg (by simp)]
  refine Tr.fnv (cf:=c21) (e:=.ret) (s:=T.set (T.set (T.set .leaf [] a.v) [zF] (G m)) [zT] (G n)) (by decide) rfl (hJ _ _) rfl rfl rfl (by simp) ?_
  refine Tr.post (Q:=(fun s h => s.get [zT,zT] = G 0 ∧ s.get [zF,zF,zF] = G 5)) (fun s h q => by simp [c21,q]) ?_
  clear lf lm os oH o l62
  refine Tr.w fun s1 H1 hp _ kR => ?_
  obtain ⟨rfl,rfl⟩:=hp
  have q : True:=trivial
  refine zCh ?_
  simp (disch:=first|omega|exact zE rfl|exact zO|exact zL rfl) [c21_o0,size_mk,get_mk_lt,get_mk_ge,frameOf,Eff.app,Heap.setOwn,q,hHs]
  refine W.assoc ?_
  refine zCh ?_
  simp (disch:=omega) [c21_o1,zG,q,k1,k2,k3,gS]
  refine zCh ?_
  simp (disch:=first|omega|exact zE rfl|exact zO|exact zL rfl) [c21_o2,size_mk,get_mk_lt,get_mk_ge,frameOf,Eff.app,Heap.setOwn,q]
  refine zCh ?_
  simp (disch:=omega) [c21_o3,zG,q,gS,e61,app_if,app_if',hZ,e62]
  refine W.assoc ?_
  refine zCh ?_
  simp (disch:=omega) [c21_o4,zG,q]
  refine zCh ?_
  simp (disch:=first|omega|exact zE rfl|exact zO|exact zL rfl) [c21_o5,size_mk,get_mk_lt,get_mk_ge,frameOf,Eff.app,Heap.setOwn,q]
  exact kR _ _ (by simp [T.get])
 ·obtain ⟨x,rfl,tb⟩:=l62.1 hc
  rw [if_pos rfl]
  obtain ⟨Z2,hZ2⟩ : ∃ H,Z.plus own2 = H:=⟨_,rfl⟩
  rw [hZ2] at tb
  simp only at tb
  refine Tr.fnv (cf:=c21) (e:=.ret) (s:=T.set (T.set (T.set .leaf [] a.v) [zF] (G m)) [zT] (G n)) (by decide) rfl (hJ _ _) rfl rfl rfl (by simp) ?_
  refine Tr.post (Q:=(fun s h => s.get [zT,zT] = G (a.cn m n.toNat) ∧ s.get [zF,zF,zF] = G 0)) (fun s h q => by simp [c21,q]) ?_
  unfold AR.cn
  by_cases h0 : n.toNat = 0
  ·rw [if_pos h0]
   have n0 : n = 0:=by omega
   clear lf lm os oH o l62 tb
   refine Tr.w fun s1 H1 hp _ kR => ?_
   obtain ⟨rfl,rfl⟩:=hp
   have q : True:=trivial
   refine zCh ?_
   simp (disch:=first|omega|exact zE rfl|exact zO|exact zL rfl) [c21_o0,size_mk,get_mk_lt,get_mk_ge,frameOf,Eff.app,Heap.setOwn,q,hHs]
   refine W.assoc ?_
   refine zCh ?_
   simp (disch:=omega) [c21_o1,zG,q,k1,k2,k3,gS]
   refine zCh ?_
   simp (disch:=first|omega|exact zE rfl|exact zO|exact zL rfl) [c21_o2,size_mk,get_mk_lt,get_mk_ge,frameOf,Eff.app,Heap.setOwn,q]
   refine zCh ?_
   simp (disch:=omega) [c21_o3,zG,q,gS,e61,app_if,app_if',hZ,e62,hZ2]
   refine W.assoc ?_
   refine zCh ?_
   simp (disch:=omega) [c21_o4,zG,q]
   refine zCh ?_
   simp (disch:=first|omega|exact zE rfl|exact zO|exact zL rfl) [c21_o5,size_mk,get_mk_lt,get_mk_ge,frameOf,Eff.app,Heap.setOwn,q]
   refine W.assoc ?_
   refine zCh ?_
   simp (disch:=omega) [c21_o6,zG,q,n0]
   refine zCh ?_
   simp (disch:=first|omega|exact zE rfl|exact zO|exact zL rfl) [c21_o7,size_mk,get_mk_lt,get_mk_ge,frameOf,Eff.app,Heap.setOwn,q]
   exact kR _ _ (by simp [T.get])
  ·rw [if_neg h0]
   obtain ⟨N,hN⟩ : ∃ N,n.toNat = N + 1:=⟨n.toNat - 1,by omega⟩
   rw [hN] at tb hc ⊢
   rw [Nat.add_sub_cancel]
   obtain ⟨bo,ros,rfl,e2,e3,e4⟩:=tb.sl (i:=0) (by rw [rowsC_len]; omega)
   rw [rowsC_len] at e2 e3 e62
   obtain ⟨br,e5,e6⟩:=e4 N _ (rowsC_at _ (by omega))
   rw [gn_len,rowC_len] at e5 e6
   have e5':=getI e5
   have okk:=okC_iff.1 hc N (by omega)
   have f63:=k63 Z2 (.slice br 0 (a.steps m).length (a.steps m).length) (rowC (a.steps m) N) (.inr ⟨br,_,by rw [gn_len,rowC_len],e6⟩) (by rw [rowC_len]; omega) (row_le (lvlB_of okk))
   unfold tot at f63
   rw [if_pos okk] at f63
   have nN : n = (N : Int) + 1:=by omega
   subst nN
   clear lf lm os oH o l62 tb e4 e6 okk hc
   generalize (rowC (a.steps m) N).sum = sm at *
   generalize (a.steps m).length = ln at *
   have n0 : ¬ ((N : Int) + 1 = 0):=by omega
   refine Tr.w fun s1 H1 hp _ kR => ?_
   obtain ⟨rfl,rfl⟩:=hp
   have q : True:=trivial
   refine zCh ?_
   simp (disch:=first|omega|exact zE rfl|exact zO|exact zL rfl) [c21_o0,size_mk,get_mk_lt,get_mk_ge,frameOf,Eff.app,Heap.setOwn,q,hHs]
   refine W.assoc ?_
   refine zCh ?_
   simp (disch:=omega) [c21_o1,zG,q,k1,k2,k3,gS]
   refine zCh ?_
   simp (disch:=first|omega|exact zE rfl|exact zO|exact zL rfl) [c21_o2,size_mk,get_mk_lt,get_mk_ge,frameOf,Eff.app,Heap.setOwn,q]
   refine zCh ?_
   simp (disch:=omega) [c21_o3,zG,q,gS,e61,app_if,app_if',hZ,e62,hZ2]
   refine W.assoc ?_
   refine zCh ?_
   simp (disch:=omega) [c21_o4,zG,q]
   refine zCh ?_
   simp (disch:=first|omega|exact zE rfl|exact zO|exact zL rfl) [c21_o5,size_mk,get_mk_lt,get_mk_ge,frameOf,Eff.app,Heap.setOwn,q]
   refine W.assoc ?_
   refine zCh ?_
   simp (disch:=omega) [c21_o6,zG,q,n0]
   refine zCh ?_
   simp (disch:=first|omega|exact zE rfl|exact zO|exact zL rfl) [c21_o7,size_mk,get_mk_lt,get_mk_ge,frameOf,Eff.app,Heap.setOwn,q]
   refine zCh ?_
   simp (disch:=omega) [c21_o8,zG,q,e2,e5,e5',e3,f63]
   refine zCh ?_
   simp (disch:=omega) [c21_o9,zG,q]
   refine W.ret ?_
   try simp only [zW,if_true]
   exact kR _ _ (by simp [T.get])
end
structure ARmn where
 a : AR
 m : Int
 n : Int
def PreMn (b : ARmn) (args : List AV) (h : Heap) : Prop:=OkR b.a h ∧ args = [b.a.v,G b.m,G b.n]
def Post21 (b : ARmn) (h : Heap) (v : AV) (own : List AObj) : Prop:=v = b.a.cntV b.m b.n ∧ own = []
noncomputable def T39 : CallF:=addK tbl T38 21 PreMn Post21
theorem t39 : Sound zp T39:=Sound.addK follows ok t38 (by decide) _ _
abbrev K21 (J : CallF) : Prop:=∀ (h : Heap) (a : AR) (m n : Int),OkR a h → J 21 [a.v,G m,G n] h = some (a.cntV m n,[],zF)
theorem k57_38 : KR 57 T38:=fun h a o => by
 rw [show T38 57 [.agg [G a.q,a.x,a.y]] h = T10 57 [.agg [G a.q,a.x,a.y]] h from by simp (disch:=decide) only [T11,T12,T13,T14,T15,T16,T17,T18,T19,T20,T21,T22,T23,T24,T25,T26,T27,T28,T29,T30,T31,T32,T33,T34,T35,T36,T37,T38,addI_ne,addX_ne,addV_ne,addK_ne]]; exact k57 h a o
theorem k60_38 : K60 T38:=fun n lo hi h => by
 simp (disch:=decide) only [T1,T2,T3,T4,T5,T6,T7,T8,T9,T10,T11,T12,T13,T14,T15,T16,T17,T18,T19,T20,T21,T22,T23,T24,T25,T26,T27,T28,T29,T30,T31,T32,T33,T34,T35,T36,T37,T38,addI_ne,addX_ne,addV_ne,addK_ne]
 exact k60 n lo hi h
theorem k61_38 : K61 T38:=fun h a m o m5 => by
 obtain ⟨p,own,e,l⟩:=k61 h a m o m5
 exact ⟨p,own,by rw [show T38 61 [a.v,G m] h = T18 61 [a.v,G m] h from by simp (disch:=decide) only [T19,T20,T21,T22,T23,T24,T25,T26,T27,T28,T29,T30,T31,T32,T33,T34,T35,T36,T37,T38,addI_ne,addX_ne,addV_ne,addK_ne]]; exact e,l⟩
theorem k63_38 : K63 T38:=fun h x L h1 h2 h3 => by
 rw [show T38 63 [x,G 1152921504606846976] h = T37 63 [x,G 1152921504606846976] h from by simp (disch:=decide) only [T38,addI_ne,addX_ne,addV_ne,addK_ne]]; exact k63 h x L h1 h2 h3
theorem k21 : K21 T39:=fun h a m n o => by
 obtain ⟨v,own,e,rfl,rfl⟩:=addK_some (Pre:=PreMn) (Post:=Post21) (fun b args h hp => by
  obtain ⟨o,rfl⟩:=hp
  cases g : b.a.gd b.m b.n 0
  ·have:=c21_0 T38 k57_38 k60_38 (fun _ _ => by simp (disch:=decide) only [T1,T2,T3,T4,T5,T6,T7,T8,T9,T10,T11,T12,T13,T14,T15,T16,T17,T18,T19,T20,T21,T22,T23,T24,T25,T26,T27,T28,T29,T30,T31,T32,T33,T34,T35,T36,T37,T38,addI_ne,addX_ne,addV_ne,addK_ne]; rfl) h o g
   refine ⟨_,_,this,?_,rfl⟩
   unfold AR.cntV
   rw [g]; rfl
  ·exact ⟨_,_,c21_1 T38 k57_38 k60_38 k61_38 k62 k63_38 (fun _ _ => by simp (disch:=decide) only [T1,T2,T3,T4,T5,T6,T7,T8,T9,T10,T11,T12,T13,T14,T15,T16,T17,T18,T19,T20,T21,T22,T23,T24,T25,T26,T27,T28,T29,T30,T31,T32,T33,T34,T35,T36,T37,T38,addI_ne,addX_ne,addV_ne,addK_ne]; rfl) h o g,rfl,rfl⟩) ⟨a,m,n⟩ _ h ⟨o,rfl⟩
 exact e
end Go.Proofs.Ytljgfdamdcikgaa.Ev
set_option linter.unusedVariables false
set_option linter.unusedSimpArgs false
namespace Go.Proofs.Ytljgfdamdcikgaa.Ev
open Go Go.AEv
def al (S : List (List Nat)) : Nat → Nat → Bool
 | 0,_ => zT
 | k + 1,i => (S.getD i []).any (al S k)
theorem al_down {S : List (List Nat)} : ∀ {k i : Nat},al S (k + 1) i = zT → al S k i = zT
 | 0,_,_ => rfl
 | k + 1,i,h => by
  unfold al at h ⊢
  obtain ⟨c,h1,h2⟩:=List.any_eq_true.1 h
  exact List.any_eq_true.2 ⟨c,h1,al_down h2⟩
theorem al_le {S : List (List Nat)} {i : Nat} : ∀ {k d : Nat},al S (k + d) i = zT → al S k i = zT
 | k,0,h => h
 | k,d + 1,h => al_le (d:=d) (al_down h)
theorem cnt_al (S : List (List Nat)) : ∀ k i,decide (0 < cnt S k i) = al S k i
 | 0,i => rfl
 | k + 1,i => by
  have e : cnt S (k + 1) i = ((S.getD i []).map (cnt S k)).sum:=rfl
  have a : al S (k + 1) i = (S.getD i []).any (al S k):=rfl
  rw [e,a]
  generalize S.getD i [] = L
  induction L with
  | nil => rfl
  | cons c L ih =>
   rw [List.map_cons,List.sum_cons,List.any_cons,← ih,← cnt_al S k c,Bool.eq_iff_iff]
   simp only [Bool.or_eq_true,decide_eq_true_eq]
   omega
theorem al_iff {S : List (List Nat)} : ∀ {k i : Nat},al S k i = zT ↔ ∃ f : Nat → Nat,f 0 = i ∧ ∀ t,t < k → f (t + 1) ∈ S.getD (f t) []
 | 0,i => ⟨fun _ => ⟨fun _ => i,rfl,fun t h => absurd h (by omega)⟩,fun _ => rfl⟩
 | k + 1,i => by
  have a : al S (k + 1) i = (S.getD i []).any (al S k):=rfl
  rw [a,List.any_eq_true]
  constructor
  ·rintro ⟨c,h1,h2⟩
   obtain ⟨f,h3,h4⟩:=al_iff.1 h2
   refine ⟨fun t => if t = 0 then i else f (t - 1),rfl,fun t ht => ?_⟩
   cases t with
   | zero =>
    show f 0 ∈ S.getD i []
    rw [h3]; exact h1
   | succ t =>
    exact h4 t (by omega)
  ·rintro ⟨f,h1,h2⟩
   have:=h2 0 (by omega)
   rw [h1] at this
   exact ⟨f 1,this,al_iff.2 ⟨fun t => f (t + 1),rfl,fun t ht => h2 (t + 1) (by omega)⟩⟩
theorem pigeon : ∀ (n : Nat) (f : Nat → Nat),(∀ i,i ≤ n → f i < n) → ∃ i j,i < j ∧ j ≤ n ∧ f i = f j
 | 0,f,h => absurd (h 0 (Nat.le_refl _)) (by omega)
 | n + 1,f,h => by
  by_cases c : ∃ i,i ≤ n ∧ f i = f (n + 1)
  ·obtain ⟨i,a,b⟩:=c
   exact ⟨i,n + 1,by omega,Nat.le_refl _,b⟩
  ·have c' : ∀ i,i ≤ n → f i ≠ f (n + 1):=fun i a b => c ⟨i,a,b⟩
   obtain ⟨i,j,a1,a2,a3⟩:=pigeon n (fun i => if f i = n then f (n + 1) else f i) (fun i hi => by
    have h1:=h i (by omega)
    have h2:=h (n + 1) (Nat.le_refl _)
    have h3:=c' i hi
    by_cases e : f i = n
    ·simp only [e,if_true]; omega
    ·simp only [e,if_false]; omega)
   refine ⟨i,j,a1,by omega,?_⟩
   have h3:=c' i (by omega)
   have h4:=c' j (by omega)
   by_cases e1 : f i = n
   ·by_cases e2 : f j = n
    ·omega
    ·simp only [e1,e2,if_true,if_false] at a3; omega
   ·by_cases e2 : f j = n
    ·simp only [e1,e2,if_true,if_false] at a3; omega
    ·simp only [e1,e2,if_false] at a3; exact a3
variable {M : List (List Int)}
theorem al_big {S : List (List Nat)} (lt : ∀ i,∀ j ∈ S.getD i [],j < S.length) {i : Nat} (hi : i < S.length) (h : al S S.length i = zT) (k : Nat) : al S k i = zT:=by
 obtain ⟨f,h0,hf⟩:=al_iff.1 h
 have hl : ∀ t,t ≤ S.length → f t < S.length:=fun t ht => by
  cases t with
  | zero => rw [h0]; exact hi
  | succ t => exact lt _ _ (hf t (by omega))
 obtain ⟨a,b,hab,hb,e⟩:=pigeon S.length f hl
 refine al_iff.2 ⟨fun t => if t < a then f t else f (a + (t - a) % (b - a)),?_,fun t _ => ?_⟩
 ·by_cases c : 0 < a
  ·simp only [c,if_true]; exact h0
  ·have : a = 0:=by omega
   subst this
   simp only [Nat.lt_irrefl,if_false,Nat.zero_sub,Nat.zero_mod,Nat.add_zero]; exact h0
 ·simp only
  by_cases c : t + 1 < a
  ·rw [if_pos c,if_pos (by omega)]
   exact hf t (by omega)
  ·rw [if_neg c]
   by_cases c2 : t < a
   ·rw [if_pos c2]
    have : t + 1 - a = 0:=by omega
    rw [this,Nat.zero_mod,Nat.add_zero]
    have:=hf t (by omega)
    rw [show t + 1 = a by omega] at this
    exact this
   ·rw [if_neg c2]
    have hm : (t - a) % (b - a) < b - a:=Nat.mod_lt _ (by omega)
    have h2:=hf (a + (t - a) % (b - a)) (by omega)
    have e2 : t + 1 - a = (t - a) + 1:=by omega
    rw [e2]
    by_cases c3 : (t - a) % (b - a) + 1 = b - a
    ·have : ((t - a) + 1) % (b - a) = 0:=by
      rw [Nat.add_mod]
      by_cases d1 : b - a = 1
      ·rw [d1]; omega
      ·rw [Nat.mod_eq_of_lt (show 1 < b - a by omega),c3,Nat.mod_self]
     rw [this,Nat.add_zero]
     rw [show a + (t - a) % (b - a) + 1 = b by omega,← e] at h2
     exact h2
    ·have : ((t - a) + 1) % (b - a) = (t - a) % (b - a) + 1:=by
      rw [Nat.add_mod,Nat.mod_eq_of_lt (show 1 < b - a by omega),Nat.mod_eq_of_lt (by omega)]
     rw [this,← Nat.add_assoc]
     exact h2
def fd (p : Nat → Bool) (w : Nat → Nat) : Nat → Nat → Nat → Nat × Nat
 | 0,i,k => (i,k)
 | d + 1,i,k => if p i = zT then (if k < w i then (i,k) else fd p w d (i + 1) (k - w i)) else fd p w d (i + 1) k
def ft (p : Nat → Bool) (w : Nat → Nat) : Nat → Nat → Nat
 | 0,_ => 0
 | d + 1,i => (if p i = zT then w i else 0) + ft p w d (i + 1)
def pk (w : Nat → Nat) : List Nat → Nat → Nat × Nat
 | [],k => (0,k)
 | c :: L,k => if k < w c then (c,k) else pk w L (k - w c)
theorem pk_ok {w : Nat → Nat} : ∀ {L : List Nat} {k : Nat},k < (L.map w).sum → (pk w L k).1 ∈ L ∧ (pk w L k).2 < w (pk w L k).1 ∧ (pk w L k).2 ≤ k
 | [],k,h => by simp at h
 | c :: L,k,h => by
  rw [List.map_cons,List.sum_cons] at h
  unfold pk
  by_cases e : k < w c
  ·rw [if_pos e]; exact ⟨by simp,e,Nat.le_refl _⟩
  ·rw [if_neg e]
   obtain ⟨h1,h2,h3⟩:=pk_ok (w:=w) (L:=L) (k:=k - w c) (by omega)
   exact ⟨List.mem_cons_of_mem _ h1,h2,by omega⟩
theorem ft_sum (p : Nat → Bool) (w : Nat → Nat) : ∀ d i,ft p w d i = (((List.range' i d).filter p).map w).sum
 | 0,i => rfl
 | d + 1,i => by
  unfold ft
  rw [List.range'_succ,List.filter_cons,ft_sum p w d (i + 1)]
  cases p i <;> simp
theorem fd_pk {p : Nat → Bool} {w : Nat → Nat} : ∀ {d i k : Nat},k < ft p w d i → fd p w d i k = pk w ((List.range' i d).filter p) k
 | 0,i,k,h => by simp [ft] at h
 | d + 1,i,k,h => by
  unfold ft at h
  unfold fd
  rw [List.range'_succ,List.filter_cons]
  cases hp : p i
  ·rw [hp,if_neg (by simp),Nat.zero_add] at h
   rw [if_neg (by simp),if_neg (by simp)]
   exact fd_pk h
  ·rw [hp,if_pos rfl] at h
   rw [if_pos rfl,if_pos rfl]
   unfold pk
   by_cases e : k < w i
   ·rw [if_pos e,if_pos e]
   ·rw [if_neg e,if_neg e]
    exact fd_pk (by omega)
def itm (S : List (List Nat)) : Nat → List Nat → Nat → List Nat
 | 0,_,_ => []
 | j + 1,L,k => (pk (cnt S j) L k).1 :: itm S j (S.getD (pk (cnt S j) L k).1 []) (pk (cnt S j) L k).2
theorem itm_len (S : List (List Nat)) : ∀ j L k,(itm S j L k).length = j
 | 0,_,_ => rfl
 | j + 1,L,k => by
  unfold itm
  rw [List.length_cons,itm_len S j]
def pN (S : List (List Nat)) (now : Int) (i : Nat) : Bool:=decide (now < 0) || decide (i ∈ S.getD now.toNat [])
def Srt (S : List (List Nat)) : Prop:=∀ c,S.getD c [] = (List.range S.length).filter fun i => decide (i ∈ S.getD c [])
theorem srt_st (W : List (List Int)) (R : List (List Nat)) : Srt (stL W R):=fun c => by
 have hl : (stL W R).length = R.length:=by simp [stL]
 rw [hl]
 rw [zd]
 unfold stL
 rw [List.getElem?_map]
 cases R[c]? with
 | none => simp
 | some r =>
  show nxL W R r = (List.range R.length).filter fun i => decide (i ∈ nxL W R r)
  conv => lhs; unfold nxL
  refine List.filter_congr fun i hi => ?_
  unfold nxL
  rw [Bool.eq_iff_iff,decide_eq_true_iff,List.mem_filter]
  exact ⟨fun h => ⟨hi,h⟩,fun h => h.2⟩
def nwL (S : List (List Nat)) (now : Int) : List Nat:=if now < 0 then List.range S.length else S.getD now.toNat []
theorem nw_filter {S : List (List Nat)} (hs : Srt S) (now : Int) : (List.range' 0 S.length).filter (pN S now) = nwL S now:=by
 unfold nwL pN
 rw [← List.range_eq_range']
 by_cases h : now < 0
 ·rw [if_pos h]; simp [h]
 ·rw [if_neg h]
  have : (fun i => decide (now < 0) || decide (i ∈ S.getD now.toNat [])) = fun i => decide (i ∈ S.getD now.toNat []):=by
   funext i; rw [decide_eq_false h,Bool.false_or]
  rw [this]; exact (hs _).symm
theorem gD_mem {L : List Nat} {t : Nat} (h : t < L.length) : L.getD t 0 ∈ L:=by
 rw [zd,zq h]
 exact List.getElem_mem h
def Rw (S : List (List Nat)) : Nat → Nat → Nat → Prop
 | 0,i,j => i = j
 | k + 1,i,j => ∃ c,c ∈ S.getD i [] ∧ Rw S k c j
section
variable {S : List (List Nat)}
theorem Rw.add {l j m : Nat} : ∀ {k i : Nat},Rw S k i j → Rw S l j m → Rw S (k + l) i m
 | 0,i,h,g => by
  have e : i = j:=h
  subst e
  rw [Nat.zero_add]; exact g
 | k + 1,i,h,g => by
  obtain ⟨c,h1,h2⟩:=h
  rw [show k + 1 + l = (k + l) + 1 by omega]
  exact ⟨c,h1,h2.add g⟩
theorem Rw.one {i j : Nat} (h : j ∈ S.getD i []) : Rw S 1 i j:=⟨j,h,rfl⟩
theorem Rw.snoc {k i j c : Nat} (h : Rw S k i j) (g : c ∈ S.getD j []) : Rw S (k + 1) i c:=h.add (Rw.one g)
theorem Rw.last {j : Nat} : ∀ {k i : Nat},Rw S (k + 1) i j → ∃ c,Rw S k i c ∧ j ∈ S.getD c []
 | 0,i,h => by
  obtain ⟨c,h1,h2⟩:=h
  have e : c = j:=h2
  subst e
  exact ⟨i,rfl,h1⟩
 | k + 1,i,h => by
  obtain ⟨c,h1,h2⟩:=h
  obtain ⟨d,h3,h4⟩:=Rw.last h2
  exact ⟨d,⟨c,h1,h3⟩,h4⟩
theorem Rw.al {j m : Nat} : ∀ {k i : Nat},Rw S k i j → al S m j = zT → al S (m + k) i = zT
 | 0,i,h,g => by
  have e : i = j:=h
  subst e
  exact g
 | k + 1,i,h,g => by
  obtain ⟨c,h1,h2⟩:=h
  show (S.getD i []).any (Ev.al S (m + k)) = zT
  exact List.any_eq_true.2 ⟨c,h1,h2.al g⟩
theorem Rw.lt (lt : ∀ i,∀ j ∈ S.getD i [],j < S.length) {j : Nat} : ∀ {k i : Nat},Rw S k i j → i < S.length → j < S.length
 | 0,i,h,g => by
  have e : i = j:=h
  rw [← e]; exact g
 | k + 1,i,⟨c,h1,h2⟩,g => h2.lt lt (lt _ _ h1)
def LG (S : List (List Nat)) (i z : Nat) : Prop:=∀ k,al S k i = zT ↔ k < z
theorem LG.nc {i z : Nat} (h : LG S i z) (lt : ∀ i,∀ j ∈ S.getD i [],j < S.length) (hi : i < S.length) : al S S.length i = zF:=by
 cases c : al S S.length i
 ·rfl
 ·have:=(h z).1 (al_big lt hi c z)
  omega
theorem LG.le {i z : Nat} (h : LG S i z) (lt : ∀ i,∀ j ∈ S.getD i [],j < S.length) (hi : i < S.length) : z ≤ S.length:=by
 have:=h.nc lt hi
 have h2:=h S.length
 rw [this] at h2
 have : ¬ S.length < z:=fun c => by cases h2.2 c
 omega
theorem LG.pos {i z : Nat} (h : LG S i z) : 0 < z:=(h 0).1 rfl
def MX (S : List (List Nat)) (L : List Nat) (m : Nat) : Prop:=(∀ c ∈ L,∃ z,LG S c z ∧ z ≤ m) ∧ (m = 0 ∨ ∃ c ∈ L,LG S c m)
theorem MX.nil : MX S [] 0:=⟨fun _ h => (by cases h),.inl rfl⟩
theorem MX.snoc {L : List Nat} {m c z : Nat} (h : MX S L m) (g : LG S c z) : MX S (L ++ [c]) (max m z):=by
 constructor
 ·intro x hx
  rcases List.mem_append.1 hx with a | a
  ·obtain ⟨y,h1,h2⟩:=h.1 x a
   exact ⟨y,h1,by omega⟩
  ·rw [List.mem_singleton.1 a]
   exact ⟨z,g,by omega⟩
 ·by_cases e : m ≤ z
  ·rw [Nat.max_eq_right e]
   exact .inr ⟨c,by simp,g⟩
  ·rw [Nat.max_eq_left (by omega)]
   rcases h.2 with a | ⟨x,h1,h2⟩
   ·exact .inl a
   ·exact .inr ⟨x,List.mem_append_left _ h1,h2⟩
theorem MX.take {L : List Nat} {t m z : Nat} (ht : t < L.length) (h : MX S (L.take t) m) (g : LG S (L.getD t 0) z) : MX S (L.take (t + 1)) (max m z):=by
 have e : L.take (t + 1) = L.take t ++ [L.getD t 0]:=by
  rw [List.take_add_one,zq ht,zd,zq ht]; rfl
 rw [e]; exact h.snoc g
theorem MX.lg {v m : Nat} (h : MX S (S.getD v []) m) : LG S v (m + 1):=fun k => by
 cases k with
 | zero => exact ⟨fun _ => by omega,fun _ => rfl⟩
 | succ k =>
  have a : al S (k + 1) v = (S.getD v []).any (al S k):=rfl
  rw [a,List.any_eq_true]
  constructor
  ·rintro ⟨c,h1,h2⟩
   obtain ⟨z,h3,h4⟩:=h.1 c h1
   have:=(h3 k).1 h2
   omega
  ·intro hk
   rcases h.2 with e | ⟨c,h1,h2⟩
   ·omega
   ·exact ⟨c,h1,(h2 k).2 (by omega)⟩
def LS (S : List (List Nat)) (z : Int) : Prop:=(z = -1 ∧ ∃ i,i < S.length ∧ al S S.length i = zT) ∨ ∃ m : Nat,z = m ∧ ∀ k,(∃ i,i < S.length ∧ al S k i = zT) ↔ k < m
theorem MX.ls {m : Nat} (h : MX S (List.range S.length) m) : LS S m:=.inr ⟨m,rfl,fun k => by
 constructor
 ·rintro ⟨i,h1,h2⟩
  obtain ⟨z,h3,h4⟩:=h.1 i (List.mem_range.2 h1)
  have:=(h3 k).1 h2
  omega
 ·intro hk
  rcases h.2 with e | ⟨c,h1,h2⟩
  ·omega
  ·exact ⟨c,List.mem_range.1 h1,(h2 k).2 hk⟩⟩
end
def fm (k : Nat) : List (Nat × Int) → Option Int
 | [] => none
 | (c,w) :: E => if k = c then some w else fm k E
def pm (k : Nat) (z : Int) : List (Nat × Int) → List (Nat × Int)
 | [] => [(k,z)]
 | (c,w) :: E => if k = c then (k,z) :: E else (c,w) :: pm k z E
theorem fm_pm (k : Nat) (z : Int) (j : Nat) : ∀ E,fm j (pm k z E) = if j = k then some z else fm j E
 | [] => rfl
 | (c,w) :: E => by
  unfold pm
  by_cases e : k = c
  ·rw [if_pos e]
   show (if j = k then some z else fm j E) = if j = k then some z else (if j = c then some w else fm j E)
   by_cases d : j = k
   ·rw [if_pos d,if_pos d]
   ·rw [if_neg d,if_neg d,if_neg (by omega)]
  ·rw [if_neg e]
   show (if j = c then some w else fm j (pm k z E)) = if j = k then some z else (if j = c then some w else fm j E)
   rw [fm_pm k z j E]
   by_cases d : j = c
   ·rw [if_pos d,if_pos d,if_neg (by omega)]
   ·rw [if_neg d,if_neg d]
def mv (E : List (Nat × Int)) : List (AV × AV):=E.map fun e => (G e.1,G e.2)
def cf (E : List (Nat × Int)) : Nat → Nat
 | 0 => 0
 | m + 1 => cf E m + (if fm m E = none then 1 else 0)
section
variable {S : List (List Nat)}
structure BQ (S : List (List Nat)) (f : Nat) (d : Nat → Nat) (Q : List Nat) (k t : Nat) : Prop where
 q0 : Q[0]? = some f
 f0 : d f = 0
 nd : Q.Nodup
 lt : ∀ z ∈ Q,z < S.length
 wk : ∀ z ∈ Q,Rw S (d z) f z
 so : ∀ (i j u w : Nat),i ≤ j → Q[i]? = some u → Q[j]? = some w → d u ≤ d w
 la : ∀ (j u w : Nat),Q[k]? = some u → Q[j]? = some w → d w ≤ d u + 1
 dl : ∀ (j w : Nat),Q[j]? = some w → d w ≤ j
 ch : ∀ (i u : Nat),i < k → Q[i]? = some u → ∀ c ∈ S.getD u [],c ∈ Q ∧ d c ≤ d u + 1
 ct : ∀ u,Q[k]? = some u → ∀ c ∈ (S.getD u []).take t,c ∈ Q ∧ d c ≤ d u + 1
theorem nd_cap {n : Nat} : ∀ {Q : List Nat},Q.Nodup → (∀ z ∈ Q,z < n) → Q.length ≤ n:=fun {Q} nd lt => by
 apply Decidable.byContradiction
 intro hc
 obtain ⟨i,j,h1,h2,h3⟩:=pigeon n (fun i => Q.getD i 0) (fun i hi => by
  have hl : i < Q.length:=by omega
  simp only [zd,zq hl,Option.getD_some]
  exact lt _ (List.getElem_mem hl))
 have hj : j < Q.length:=by omega
 have hi : i < Q.length:=by omega
 simp only [zd,zq hi,zq hj,Option.getD_some] at h3
 have:=(List.pairwise_iff_getElem.1 nd) i j hi hj h1
 exact this h3
variable {f k t u : Nat} {d : Nat → Nat} {Q : List Nat}
theorem BQ.len (b : BQ S f d Q k t) : Q.length ≤ S.length:=nd_cap b.nd b.lt
theorem BQ.fQ (b : BQ S f d Q k t) : f ∈ Q:=List.mem_iff_getElem?.2 ⟨0,b.q0⟩
theorem BQ.uQ (b : BQ S f d Q k t) (hu : Q[k]? = some u) : u ∈ Q:=List.mem_iff_getElem?.2 ⟨k,hu⟩
theorem take_s {L : List Nat} {t c : Nat} (h : L[t]? = some c) : L.take (t + 1) = L.take t ++ [c]:=by
 rw [List.take_add_one,h]; rfl
theorem BQ.old (b : BQ S f d Q k t) (hu : Q[k]? = some u) {c : Nat} (hc : (S.getD u [])[t]? = some c) (hQ : c ∈ Q) : BQ S f d Q k (t + 1) :=
 ⟨b.q0,b.f0,b.nd,b.lt,b.wk,b.so,b.la,b.dl,b.ch,fun u' hu' x hx => by
  rw [hu] at hu'; cases hu'
  rw [take_s hc] at hx
  rcases List.mem_append.1 hx with a | a
  ·exact b.ct u hu x a
  ·rw [List.mem_singleton.1 a]
   obtain ⟨j,hj⟩:=List.mem_iff_getElem?.1 hQ
   exact ⟨hQ,b.la j u c hu hj⟩⟩
theorem BQ.new (lt : ∀ i,∀ j ∈ S.getD i [],j < S.length) (b : BQ S f d Q k t) (hu : Q[k]? = some u) {c : Nat} (hc : (S.getD u [])[t]? = some c) (hQ : c ∉ Q) : BQ S f (fun z => if z = c then d u + 1 else d z) (Q ++ [c]) k (t + 1):=by
 have old : ∀ z,z ∈ Q → (if z = c then d u + 1 else d z) = d z:=fun z hz => if_neg fun e => hQ (by rw [← e]; exact hz)
 have cS : c ∈ S.getD u []:=List.mem_iff_getElem?.2 ⟨t,hc⟩
 have uQ:=b.uQ hu
 have hk:=(List.getElem?_eq_some_iff.1 hu).1
 have app : ∀ {j w : Nat},(Q ++ [c])[j]? = some w → Q[j]? = some w ∨ (j = Q.length ∧ w = c):=fun {j w} h => by
  by_cases hj : j < Q.length
  ·left; rwa [List.getElem?_append_left hj] at h
  ·right
   have h3:=(List.getElem?_eq_some_iff.1 h).1
   simp only [List.length_append,List.length_singleton] at h3
   have e : j = Q.length:=by omega
   subst e
   rw [List.getElem?_append_right (Nat.le_refl _),Nat.sub_self] at h
   exact ⟨rfl,(Option.some.inj h).symm⟩
 have mem : ∀ {j w : Nat},Q[j]? = some w → w ∈ Q:=fun h => List.mem_iff_getElem?.2 ⟨_,h⟩
 have hu' : (Q ++ [c])[k]? = some u:=by rw [List.getElem?_append_left hk]; exact hu
 constructor
 ·have : 0 < Q.length:=(List.getElem?_eq_some_iff.1 b.q0).1
  rw [List.getElem?_append_left this]; exact b.q0
 ·show (if f = c then d u + 1 else d f) = 0
  rw [old f b.fQ,b.f0]
 ·rw [List.nodup_append]
  exact ⟨b.nd,by simp,fun x hx y hy e => hQ (by rw [← List.mem_singleton.1 hy,← e]; exact hx)⟩
 ·intro z hz
  rcases List.mem_append.1 hz with a | a
  ·exact b.lt z a
  ·rw [List.mem_singleton.1 a]; exact lt _ _ cS
 ·intro z hz
  rcases List.mem_append.1 hz with a | a
  ·show Rw S (if z = c then d u + 1 else d z) f z
   rw [old z a]; exact b.wk z a
  ·rw [List.mem_singleton.1 a]
   show Rw S (if c = c then d u + 1 else d c) f c
   rw [if_pos rfl]
   exact (b.wk u uQ).snoc cS
 ·intro i j x w hij hx hw
  show (if x = c then d u + 1 else d x) ≤ (if w = c then d u + 1 else d w)
  rcases app hx with a | ⟨a,rfl⟩
  ·rw [old x (mem a)]
   rcases app hw with a' | ⟨a',rfl⟩
   ·rw [old w (mem a')]; exact b.so i j x w hij a a'
   ·rw [if_pos rfl]; exact b.la i u x hu a
  ·rcases app hw with a' | ⟨a',rfl⟩
   ·have:=(List.getElem?_eq_some_iff.1 a').1
    omega
   ·rw [if_pos rfl]; exact Nat.le_refl _
 ·intro j x w hx hw
  rw [hu'] at hx; cases hx
  show (if w = c then d u + 1 else d w) ≤ (if u = c then d u + 1 else d u) + 1
  rw [old u uQ]
  rcases app hw with a' | ⟨a',rfl⟩
  ·rw [old w (mem a')]; exact b.la j u w hu a'
  ·rw [if_pos rfl]; exact Nat.le_refl _
 ·intro j w hw
  show (if w = c then d u + 1 else d w) ≤ j
  rcases app hw with a' | ⟨a',rfl⟩
  ·rw [old w (mem a')]; exact b.dl j w a'
  ·rw [if_pos rfl]
   have:=b.dl k u hu
   omega
 ·intro i x hi hx y hy
  rcases app hx with a | ⟨a,rfl⟩
  ·obtain ⟨h1,h2⟩:=b.ch i x hi a y hy
   refine ⟨List.mem_append_left _ h1,?_⟩
   show (if y = c then d u + 1 else d y) ≤ (if x = c then d u + 1 else d x) + 1
   rw [old y h1,old x (mem a)]; exact h2
  ·omega
 ·intro x hx y hy
  rw [hu'] at hx; cases hx
  rw [take_s hc] at hy
  show y ∈ Q ++ [c] ∧ (if y = c then d u + 1 else d y) ≤ (if u = c then d u + 1 else d u) + 1
  rw [old u uQ]
  rcases List.mem_append.1 hy with a | a
  ·obtain ⟨h1,h2⟩:=b.ct u hu y a
   rw [old y h1]
   exact ⟨List.mem_append_left _ h1,h2⟩
  ·rw [List.mem_singleton.1 a,if_pos rfl]
   exact ⟨by simp,Nat.le_refl _⟩
theorem BQ.next (b : BQ S f d Q k t) (hu : Q[k]? = some u) (ht : t = (S.getD u []).length) : BQ S f d Q (k + 1) 0 where
 q0:=b.q0
 f0:=b.f0
 nd:=b.nd
 lt:=b.lt
 wk:=b.wk
 so:=b.so
 la:=fun j x w hx hw => by
  have h1:=b.la j u w hu hw
  have h2:=b.so k (k + 1) u x (by omega) hu hx
  omega
 dl:=b.dl
 ch:=fun i x hi hx c hc => by
  by_cases e : i = k
  ·subst e
   rw [hu] at hx; cases hx
   exact b.ct u hu c (by rw [ht,List.take_length]; exact hc)
  ·exact b.ch i x (by omega) hx c hc
 ct:=fun u hu c hc => by simp at hc
def NF (S : List (List Nat)) (f : Nat) (Q : List Nat) (k t : Nat) : Prop:=(∀ (i u : Nat),i < k → Q[i]? = some u → f ∉ S.getD u []) ∧ ∀ u,Q[k]? = some u → f ∉ (S.getD u []).take t
theorem BQ.reach (b : BQ S f d Q k t) {s D : Nat} (hD : ∀ u,Q[k]? = some u → D ≤ d u) (hk : k ≤ Q.length) (hs : s < D ∨ Q.length = k) (nf : ∀ (i u : Nat),i < k → Q[i]? = some u → f ∉ S.getD u []) (w : Rw S (s + 1) f f) : False:=by
 have key : ∀ r z,Rw S r f z → r ≤ s → z ∈ Q ∧ d z ≤ r:=fun r => by
  induction r with
  | zero =>
   intro z hz _
   have e : f = z:=hz
   rw [← e]; exact ⟨b.fQ,by rw [b.f0]; exact Nat.le_refl _⟩
  | succ r ih =>
   intro z hz hr
   obtain ⟨y,h1,h2⟩:=hz.last
   obtain ⟨h3,h4⟩:=ih y h1 (by omega)
   obtain ⟨j,hj⟩:=List.mem_iff_getElem?.1 h3
   have hjl:=(List.getElem?_eq_some_iff.1 hj).1
   have : j < k:=by
    apply Decidable.byContradiction
    intro c
    have hkl : k < Q.length:=by omega
    have hkk:=zq hkl
    have h5:=b.so k j _ y (by omega) hkk hj
    have h6:=hD _ hkk
    omega
   obtain ⟨h5,h6⟩:=b.ch j y this hj z h2
   exact ⟨h5,by omega⟩
 obtain ⟨y,h1,h2⟩:=w.last
 obtain ⟨h3,h4⟩:=key s y h1 (Nat.le_refl _)
 obtain ⟨j,hj⟩:=List.mem_iff_getElem?.1 h3
 have hjl:=(List.getElem?_eq_some_iff.1 hj).1
 have : j < k:=by
  apply Decidable.byContradiction
  intro c
  have hkl : k < Q.length:=by omega
  have hkk:=zq hkl
  have h5:=b.so k j _ y (by omega) hkk hj
  have h6:=hD _ hkk
  omega
 exact nf j y this hj h2
def CY (S : List (List Nat)) (f m : Nat) : Prop:=Rw S (m + 1) f f ∧ ∀ s,Rw S (s + 1) f f → m ≤ s
theorem BQ.none (b : BQ S f d Q Q.length 0) (nf : NF S f Q Q.length 0) : ∀ s,¬ Rw S (s + 1) f f:=fun s w =>
 b.reach (D:=0) (fun u hu => Nat.zero_le _) (Nat.le_refl _) (.inr rfl) nf.1 w
theorem NF.skip (n : NF S f Q k t) (hu : Q[k]? = some u) {c : Nat} (hc : (S.getD u [])[t]? = some c) (hn : c ≠ f) : NF S f Q k (t + 1) :=
 ⟨n.1,fun u' hu' => by
  rw [hu] at hu'; cases hu'
  rw [take_s hc]
  intro hx
  rcases List.mem_append.1 hx with a | a
  ·exact n.2 u hu a
  ·exact hn (List.mem_singleton.1 a).symm⟩
theorem NF.push (n : NF S f Q k t) (hk : k < Q.length) (c : Nat) : NF S f (Q ++ [c]) k t :=
 ⟨fun i u hi hu => n.1 i u hi (by rwa [List.getElem?_append_left (by omega)] at hu),fun u hu => n.2 u (by rwa [List.getElem?_append_left hk] at hu)⟩
theorem NF.next (n : NF S f Q k t) (hu : Q[k]? = some u) (ht : t = (S.getD u []).length) : NF S f Q (k + 1) 0 :=
 ⟨fun i x hi hx => by
  by_cases e : i = k
  ·subst e
   rw [hu] at hx; cases hx
   have:=n.2 u hu
   rwa [ht,List.take_length] at this
  ·exact n.1 i x (by omega) hx,fun x hx => by simp⟩
def PRT (S : List (List Nat)) (f : Nat) (d : Nat → Nat) (Q : List Nat) (E : List (Nat × Int)) : Prop :=
 fm f E = none ∧ ∀ z,z ≠ f → (z ∉ Q → fm z E = none) ∧ (z ∈ Q → ∃ p : Nat,fm z E = some (p : Int) ∧ p ∈ Q ∧ z ∈ S.getD p [] ∧ d z = d p + 1)
theorem PRT.new {E : List (Nat × Int)} (p : PRT S f d Q E) (uQ : u ∈ Q) (fQ : f ∈ Q) {c : Nat} (hc : c ∈ S.getD u []) (hQ : c ∉ Q) : PRT S f (fun z => if z = c then d u + 1 else d z) (Q ++ [c]) (pm c (u : Int) E):=by
 have cf : ¬ f = c:=fun e => hQ (by rw [← e]; exact fQ)
 have old : ∀ z,z ∈ Q → (if z = c then d u + 1 else d z) = d z:=fun z hz => if_neg fun e => hQ (by rw [← e]; exact hz)
 refine ⟨by rw [fm_pm,if_neg cf]; exact p.1,fun z hz => ⟨fun h => ?_,fun h => ?_⟩⟩
 ·rw [fm_pm,if_neg (fun e => h (by rw [e]; simp))]
  exact (p.2 z hz).1 fun e => h (List.mem_append_left _ e)
 ·by_cases e : z = c
  ·subst e
   refine ⟨u,by rw [fm_pm,if_pos rfl],List.mem_append_left _ uQ,hc,?_⟩
   show (if z = z then d u + 1 else d z) = (if u = z then d u + 1 else d u) + 1
   rw [if_pos rfl,old u uQ]
  ·have hzQ : z ∈ Q:=by
    rcases List.mem_append.1 h with a | a
    ·exact a
    ·exact absurd (List.mem_singleton.1 a) e
   obtain ⟨q,h1,h2,h3,h4⟩:=(p.2 z hz).2 hzQ
   refine ⟨q,by rw [fm_pm,if_neg e]; exact h1,List.mem_append_left _ h2,h3,?_⟩
   show (if z = c then d u + 1 else d z) = (if q = c then d u + 1 else d q) + 1
   rw [old z hzQ,old q h2]; exact h4
def par (E : List (Nat × Int)) (i : Nat) : Nat:=match fm i E with | some z => z.toNat | none => 0
def itp (E : List (Nat × Int)) : Nat → Nat → Nat
 | 0,i => i
 | s + 1,i => itp E s (par E i)
theorem itp_succ (E : List (Nat × Int)) : ∀ s i,itp E (s + 1) i = par E (itp E s i)
 | 0,i => rfl
 | s + 1,i => itp_succ E s (par E i)
theorem PRT.step {E : List (Nat × Int)} (p : PRT S f d Q E) {z : Nat} (hz : z ∈ Q) (hn : z ≠ f) : fm z E = some (par E z : Int) ∧ par E z ∈ Q ∧ z ∈ S.getD (par E z) [] ∧ d z = d (par E z) + 1:=by
 obtain ⟨q,h1,h2,h3,h4⟩:=(p.2 z hn).2 hz
 have e : par E z = q:=by unfold par; rw [h1]; simp
 rw [e]
 exact ⟨h1,h2,h3,h4⟩
theorem PRT.back {E : List (Nat × Int)} (b : BQ S f d Q k t) (p : PRT S f d Q E) (hu : u ∈ Q) : ∀ {s},s ≤ d u → itp E s u ∈ Q ∧ d (itp E s u) + s = d u
 | 0,_ => ⟨hu,rfl⟩
 | s + 1,h => by
  obtain ⟨h1,h2⟩:=PRT.back b p hu (s:=s) (by omega)
  have hn : itp E s u ≠ f:=fun e => by rw [e,b.f0] at h2; omega
  obtain ⟨_,h3,_,h4⟩:=p.step h1 hn
  rw [itp_succ]
  exact ⟨h3,by omega⟩
def RG (S : List (List Nat)) (L : List Nat) : Prop:=(∀ c ∈ L,c < S.length) ∧ (∀ (t a b : Nat),L[t]? = some a → L[t + 1]? = some b → b ∈ S.getD a []) ∧ ∀ a b : Nat,L[0]? = some a → L[L.length - 1]? = some b → a ∈ S.getD b []
def MC (S : List (List Nat)) (n : Nat) (m : Nat) : Prop:=(m = 0 ∧ ∀ f s,f < n → ¬ Rw S (s + 1) f f) ∨ ∃ r,m = r + 1 ∧ (∃ f,f < n ∧ Rw S (r + 1) f f) ∧ ∀ f s,f < n → Rw S (s + 1) f f → r ≤ s
theorem MC.nil : MC S 0 0:=.inl ⟨rfl,fun f s h => absurd h (by omega)⟩
theorem MC.skip {n m : Nat} (h : MC S n m) (g : ∀ s,¬ Rw S (s + 1) n n) : MC S (n + 1) m:=by
 have sp : ∀ {P : Nat → Prop},(∀ f,f < n → P f) → P n → ∀ f,f < n + 1 → P f:=fun h1 h2 f hf => by
  by_cases e : f = n
  ·rw [e]; exact h2
  ·exact h1 f (by omega)
 rcases h with ⟨rfl,h⟩ | ⟨r,rfl,⟨f,h1,h2⟩,h3⟩
 ·exact .inl ⟨rfl,fun f s hf => sp (P:=fun f => ¬ Rw S (s + 1) f f) (fun f hf => h f s hf) (g s) f hf⟩
 ·exact .inr ⟨r,rfl,⟨f,by omega,h2⟩,fun f s hf => sp (P:=fun f => Rw S (s + 1) f f → r ≤ s) (fun f hf => h3 f s hf) (fun w => absurd w (g s)) f hf⟩
theorem MC.put {n m r : Nat} (h : MC S n m) (g : CY S n r) : MC S (n + 1) (if m = 0 ∨ r + 1 < m then r + 1 else m):=by
 have sp : ∀ {P : Nat → Prop},(∀ f,f < n → P f) → P n → ∀ f,f < n + 1 → P f:=fun h1 h2 f hf => by
  by_cases e : f = n
  ·rw [e]; exact h2
  ·exact h1 f (by omega)
 rcases h with ⟨rfl,h⟩ | ⟨q,rfl,⟨f,h1,h2⟩,h3⟩
 ·rw [if_pos (.inl rfl)]
  exact .inr ⟨r,rfl,⟨n,by omega,g.1⟩,fun f s hf => sp (P:=fun f => Rw S (s + 1) f f → r ≤ s) (fun f hf w => absurd w (h f s hf)) (g.2 s) f hf⟩
 ·by_cases c : r + 1 < q + 1
  ·rw [if_pos (.inr c)]
   exact .inr ⟨r,rfl,⟨n,by omega,g.1⟩,fun f s hf => sp (P:=fun f => Rw S (s + 1) f f → r ≤ s) (fun f hf w => Nat.le_trans (by omega) (h3 f s hf w)) (g.2 s) f hf⟩
  ·rw [if_neg (by omega)]
   exact .inr ⟨q,rfl,⟨f,by omega,h2⟩,fun f s hf => sp (P:=fun f => Rw S (s + 1) f f → q ≤ s) (fun f hf => h3 f s hf) (fun w => Nat.le_trans (by omega) (g.2 s w)) f hf⟩
end
end Go.Proofs.Ytljgfdamdcikgaa.Ev
set_option linter.unusedVariables false
set_option linter.unusedSimpArgs false
namespace Go.Proofs.Ytljgfdamdcikgaa.Ev
open Go Go.AEv
attribute [local simp] evFunc initS evOps_c evTrim_c evSkip_c evExit_c evRet_c evSeq_c evCond_c evBlock_c evDraw_c runOps_n runOps_c exec_n exec_g pure1_c act AOpd.ev T.get T.set T.put evBin evUn forceT_eq forceV_eq forceL_eq evRess evRes one keep runFP_n runFP_c app_none AV.flats AV.flat came_some List.getElem?_cons_zero List.getElem?_cons_succ beqT wrapI idxI tdivI tmodI decT decF ibT ibF inT inF evScope_c if_pos if_neg Cm_some thenW_n thenW_e thenW_r blkW_n blkW_e blkW_r goI kn putAt AV.cells fillA loadA takeA mk Eff.isAll Eff.isNone Eff.commutes Eff.spares okPair apart eqAgg fits LK.fits allEq aveq eqk mmA
def lN (f : Nat → Nat) (n : Nat) : List Nat:=(List.range n).map f
theorem lN_len (f : Nat → Nat) (n : Nat) : (gn (lN f n)).length = n:=by simp [gn,lN]
theorem lN_at (f : Nat → Nat) {n i : Nat} (h : i < n) : (gn (lN f n))[i]? = some (G (f i)):=by
 unfold gn lN
 rw [List.map_map,List.getElem?_map,List.getElem?_range h]; rfl
theorem lN_set (f : Nat → Nat) {n i : Nat} (h : i < n) (v : Nat) : (gn (lN f n)).set i (G v) = gn (lN (fun t => if t = i then v else f t) n):=by
 apply List.ext_getElem?
 intro j
 by_cases hj : j < n
 ·rw [lN_at _ hj]
  by_cases e : i = j
  ·subst e
   rw [List.getElem?_set_self (by rw [lN_len]; exact h),if_pos rfl]
  ·rw [List.getElem?_set_ne e,lN_at _ hj,if_neg (fun h => e h.symm)]
 ·rw [List.getElem?_eq_none (by rw [List.length_set,lN_len]; omega),List.getElem?_eq_none (by rw [lN_len]; omega)]
def rowS (S : List (List Nat)) (k : Nat) : List Nat:=lN (fun i => sat (cnt S k i)) S.length
def rowsS (S : List (List Nat)) (k : Nat) : List (List AV):=(List.range k).map fun k => gn (rowS S k)
def LN (h : Heap) (x : AV) (S : List (List Nat)) : Prop:=∃ rs,((x = .nils ∧ S.length = 0) ∨ ∃ b,x = .slice b 0 S.length S.length ∧ h.get b = .cells 1 S.length rs) ∧ rs.length = S.length ∧ ∀ k,k < S.length → ∃ y,rs[k]? = some y ∧ RV h y (gn (S.getD k []))
theorem LN.kp {h h' : Heap} {x : AV} {S : List (List Nat)} (l : LN h x S) (k : Kp (fun _ => False) h h') : LN h' x S:=by
 obtain ⟨rs,h1,h2,h3⟩:=l
 refine ⟨rs,?_,h2,fun i hi => ?_⟩
 ·rcases h1 with h | ⟨b,e,g⟩
  ·exact .inl h
  ·exact .inr ⟨b,e,k.at g (by simp) id⟩
 ·obtain ⟨y,e1,e2⟩:=h3 i hi
  exact ⟨y,e1,e2.kp k (fun _ _ => id)⟩
theorem LN.fr {h : Heap} {x : AV} {S : List (List Nat)} (l : LN h x S) : LN (frameOf h) x S:=by
 obtain ⟨rs,h1,h2,h3⟩:=l
 refine ⟨rs,?_,h2,fun i hi => ?_⟩
 ·rcases h1 with h | ⟨b,e,g⟩
  ·exact .inl h
  ·refine .inr ⟨b,e,?_⟩
   unfold frameOf
   rw [get_mk_lt _ _ _ _ (get_lt g (by simp))]; exact g
 ·obtain ⟨y,e1,e2⟩:=h3 i hi
  exact ⟨y,e1,e2.frame⟩
theorem listOf_rv {h : Heap} {y : AV} {L : List Nat} (e : listOf h y = some (L.map fun (k : Nat) => (k : Int))) : RV h y (gn L):=by
 rcases listOf_some e with ⟨rfl,e2⟩ | ⟨b,v,rfl,g⟩
 ·have : L = []:=by simpa using e2
  subst this; exact .inl ⟨rfl,rfl⟩
 ·refine .inr ⟨b,v,by simp [gn],?_⟩
  rw [g,gn_gs]
theorem LT.ln {h : Heap} {x : AV} {S : List (List Nat)} (l : LT h x (ntI S)) : LN h x S:=by
 obtain ⟨rs,lv,hl,hr⟩:=l
 have hl : rs.length = S.length:=by simpa [ntI] using hl
 refine ⟨rs,?_,hl,fun k hk => ?_⟩
 ·rcases lv with ⟨e,e2⟩ | ⟨b,e,g⟩
  ·exact .inl ⟨e,by rw [← hl,e2]; rfl⟩
  ·rw [hl] at e g; exact .inr ⟨b,e,g⟩
 ·obtain ⟨l,e1,e2⟩:=hr k rs[k] (zq (by omega))
  refine ⟨rs[k],zq (by omega),?_⟩
  unfold ntI at e1
  rw [List.getElem?_map,zq hk] at e1
  simp only [Option.map_some,Option.some.injEq] at e1
  subst e1
  rw [zd,zq hk]
  exact listOf_rv e2
section
variable {S : List (List Nat)} {kk nn : Nat}
def mz (S : List (List Nat)) (k i t : Nat) : Nat:=if t < i then sat (cnt S k t) else 0
structure PS (S : List (List Nat)) (xo : AV) (kk : Nat) (h : Heap) (bo br : Nat) (ros : List AV) : Prop where
 e : xo = .slice bo 0 (kk + 1) (kk + 1)
 g : h.get bo = .cells 1 (kk + 1) ros
 r : ros[kk]? = some (.slice br 0 S.length S.length)
 l : ros.length = kk + 1
 gr : h.get br = .cells 1 S.length (gn (rowS S kk))
theorem PS.kp {xo : AV} {h h' : Heap} {bo br : Nat} {ros : List AV} (t : PS S xo kk h bo br ros) (k : Kp (fun _ => False) h h') : PS S xo kk h' bo br ros:=⟨t.e,k.at t.g (by simp) id,t.r,t.l,k.at t.gr (by simp) id⟩
theorem LN.sx {h : Heap} {x : AV} (l : LN h x S) : (x = .nils ∧ S.length = 0) ∨ ∃ b,x = .slice b 0 S.length S.length:=by
 obtain ⟨rs,h1,_⟩:=l
 rcases h1 with h | ⟨b,e,_⟩
 ·exact .inl h
 ·exact .inr ⟨b,e⟩
end
structure A71 where
 x : AV
 nn : Nat
 S : List (List Nat)
def Pre71 (b : A71) (args : List AV) (h : Heap) : Prop:=(OkS b.S ∧ LN h b.x b.S ∧ b.nn ≤ 40) ∧ args = [b.x,G b.nn]
def Post71 (b : A71) (h : Heap) (v : AV) (own : List AObj) : Prop:=TB h (h.plus own) v (rowsS b.S b.nn)
noncomputable def T40 : CallF:=addK tbl T39 71 Pre71 Post71
theorem t40 : Sound zp T40:=Sound.addK follows ok t39 (by decide) _ _
section
variable {S : List (List Nat)} {nn : Nat}
end
section
variable {a : AR} {m n : Int}
def AR.rcV (a : AR) (m n : Int) : AV:=if okC (a.steps m) n.toNat then .tup [G (a.cn m n.toNat),.bool zT] else .tup [G 0,.bool zF]
end
def Pre33 (b : ARmn) (args : List AV) (h : Heap) : Prop:=(OkR b.a h ∧ b.a.gd b.m b.n 0 = zT) ∧ args = [b.a.v,G b.m,G b.n]
def Post33 (b : ARmn) (h : Heap) (v : AV) (own : List AObj) : Prop:=v = b.a.rcV b.m b.n ∧ own = []
noncomputable def T41 : CallF:=addK tbl T40 33 Pre33 Post33
theorem t41 : Sound zp T41:=Sound.addK follows ok t40 (by decide) _ _
def nE (L : List Nat) (v i : Nat) : Bool:=decide (L.getD i 0 ≠ v)
theorem nE_all {L : List Nat} {v : Nat} : af (nE L v) 0 L.length = decide (v ∉ L):=by
 rw [Bool.eq_iff_iff,af_iff,decide_eq_true_eq]
 constructor
 ·intro a hv
  obtain ⟨i,hi,rfl⟩:=List.mem_iff_getElem.1 hv
  have:=a i (Nat.zero_le _) (by omega)
  unfold nE at this
  rw [decide_eq_true_eq,zd,zq hi] at this
  exact this rfl
 ·intro hv i _ hi
  unfold nE
  rw [decide_eq_true_eq,zd,zq (by omega)]
  intro e
  exact hv (e ▸ List.getElem_mem _)
section
variable {L : List Nat} {v : Nat}
theorem c93_l (J : CallF) {H : Heap} {b w : Nat} (g : H.get b = .cells 1 w (gn L)) (hn : L.length ≤ 1000000) :
  (af (nE L v) 0 L.length = zT → Tr tbl J c93_l0 (fun s h => h = H ∧ s.get [] = .slice b 0 L.length w ∧ s.get [zF] = G v ∧ s.get [zF,zF,zF] = G L.length ∧ s.get [zT,zF,zF] = G ((0 : Nat) : Int)) (.exit 0) (fun s h => True)) ∧
  (af (nE L v) 0 L.length = zF → Tr tbl J c93_l0 (fun s h => h = H ∧ s.get [] = .slice b 0 L.length w ∧ s.get [zF] = G v ∧ s.get [zF,zF,zF] = G L.length ∧ s.get [zT,zF,zF] = G ((0 : Nat) : Int)) .ret (fun s h => ∃ z : Nat,s.get [zT,zF] = G z)):=by
 have lg:=gn_len L
 have key : ∀ i,i < L.length → Tr tbl J (.trim [[],[zF],[zF,zF,zF],[zT,zF,zF]] c93_b0) (fun s h => h = H ∧ s.get [] = .slice b 0 L.length w ∧ s.get [zF] = G v ∧ s.get [zF,zF,zF] = G L.length ∧ s.get [zT,zF,zF] = G i) (if nE L v i then .normal else .ret)
   (if nE L v i then (fun s h => h = H ∧ s.get [] = .slice b 0 L.length w ∧ s.get [zF] = G v ∧ s.get [zF,zF,zF] = G L.length ∧ s.get [zT,zF,zF] = G ((i + 1 : Nat) : Int)) else (fun s h => ∃ z : Nat,s.get [zT,zF] = G z)):=fun i hi => by
  have e1:=gn_at hi
  have e1':=getI e1
  unfold nE
  generalize L.getD i 0 = x at *
  generalize L.length = n at *
  generalize gn L = cs at *
  by_cases c : x = v
  ·subst c
   rw [if_neg (by simp),if_neg (by simp)]
   refine Tr.w fun s1 H1 hp _ kR => W.trim ?_
   obtain ⟨rfl,q⟩:=hp
   refine zCh ?_
   simp (disch:=omega) [c93_o2,zG,q]
   refine zCh ?_
   simp (disch:=omega) [zG,q]
   refine W.seq (W.block ?_)
   refine zCh ?_
   simp (disch:=omega) [c93_o3,zG,q]
   refine zCh ?_
   simp (disch:=omega) [c93_o4,zG,q,g,e1,e1',lg]
   refine W.chunk ?_
   simp (disch:=omega) [c93_o5,zG,q]
   exact kR _ _ ⟨i,by simp [T.get,q]⟩
  ·rw [if_pos (by simpa using c),if_pos (by simpa using c)]
   have c' : ¬ (v : Int) = x:=by omega
   refine Tr.w fun s1 H1 hp _ kR => W.trim ?_
   obtain ⟨rfl,q⟩:=hp
   refine zCh ?_
   simp (disch:=omega) [c93_o2,zG,q]
   refine zCh ?_
   simp (disch:=omega) [zG,q]
   refine W.seq (W.block ?_)
   refine zCh ?_
   simp (disch:=omega) [c93_o3,zG,q]
   refine zCh ?_
   simp (disch:=omega) [c93_o4,zG,q,g,e1,e1',lg,c']
   refine W.chunk ?_
   simp (disch:=omega) [c93_o5,zG,q]
   refine W.chunk ?_
   simp (disch:=omega) [c93_o6,zG,q]
   exact kR _ _ (by simp [T.get,q])
 have fin : Tr tbl J (.trim [[],[zF],[zF,zF,zF],[zT,zF,zF]] c93_b0) (fun s h => h = H ∧ s.get [] = .slice b 0 L.length w ∧ s.get [zF] = G v ∧ s.get [zF,zF,zF] = G L.length ∧ s.get [zT,zF,zF] = G L.length) (.exit 0) (fun s h => True):=by
  generalize L.length = n at *
  refine Tr.w fun s1 H1 hp _ kR => W.trim ?_
  obtain ⟨rfl,q⟩:=hp
  refine zCh ?_
  simp (disch:=omega) [c93_o2,zG,q]
  refine zCh ?_
  simp (disch:=omega) [zG,q]
  exact kR _ _ trivial
 exact ⟨Tr.allT (P:=fun i => (fun s h => h = H ∧ s.get [] = .slice b 0 L.length w ∧ s.get [zF] = G v ∧ s.get [zF,zF,zF] = G L.length ∧ s.get [zT,zF,zF] = G i)) L.length (fun i hi hp => by have:=key i hi; rw [if_pos hp,if_pos hp] at this; exact this) fin (by simp) _ 0 (by omega),
  Tr.allF (P:=fun i => (fun s h => h = H ∧ s.get [] = .slice b 0 L.length w ∧ s.get [zF] = G v ∧ s.get [zF,zF,zF] = G L.length ∧ s.get [zT,zF,zF] = G i)) L.length (fun i hi hp => by have:=key i hi; rw [if_pos hp,if_pos hp] at this; exact this) (fun i hi hp => by have:=key i hi; rw [if_neg (by rw [hp]; simp),if_neg (by rw [hp]; simp)] at this; exact this) (by simp) _ 0 (by omega)⟩
theorem c93_ok (J : CallF) (hJ : ∀ a h,J 93 a h = none) (h : Heap) {x : AV} (rv : RV h x (gn L)) (hn : L.length ≤ 1000000) : ∃ z own,CallsTo tbl J 93 [x,G v] h (z,own,zF) ∧ (∃ k : Int,z = G k ∧ (decide (0 ≤ k) = decide (v ∈ L))) ∧ own = []:=by
 refine Tr.fny (Good:=fun z own => (∃ k : Int,z = G k ∧ (decide (0 ≤ k) = decide (v ∈ L))) ∧ own = []) (cf:=c93) (e:=.ret) (s:=T.set (T.set .leaf [] x) [zF] (G v)) (by decide) rfl (hJ _ _) rfl rfl (by simp) ?_
 refine Tr.post (Q:=fun s h => ∃ k : Int,s.get [zT,zF] = G k ∧ decide (0 ≤ k) = decide (v ∈ L)) (fun s h' q => by
  obtain ⟨k,e,q2⟩:=q
  exact ⟨[G k],by simp [c93,evRess,evRes,e],⟨k,rfl,q2⟩,rfl⟩) ?_
 rcases rv.frame with ⟨rfl,e⟩ | ⟨b,w,rfl,g⟩
 ·have : L = []:=by simpa [gn] using e
  subst this
  have l0 : Tr tbl J c93_l0 (fun s h' => h' = frameOf h ∧ s.get [] = .nils ∧ s.get [zF] = G v ∧ s.get [zF,zF,zF] = G 0 ∧ s.get [zT,zF,zF] = G 0) (.exit 0) (fun s h => True):=by
   refine Tr.out ?_ (by simp)
   refine Tr.w fun s1 H1 hp _ kR => W.trim ?_
   obtain ⟨rfl,q⟩:=hp
   refine zCh ?_
   simp (disch:=omega) [c93_o2,zG,q]
   refine zCh ?_
   simp (disch:=omega) [zG,q]
   exact kR _ _ trivial
  refine Tr.w fun s1 H1 hp _ kR => ?_
  obtain ⟨rfl,rfl⟩:=hp
  have q : True:=trivial
  refine zCh ?_
  simp (disch:=omega) [c93_o0,zG,q]
  refine W.assoc ?_
  refine zCh ?_
  simp (disch:=omega) [c93_o1,zG,q]
  refine W.seq (W.block ?_)
  refine W.use (l0) (by simp (disch:=omega) [zG,q]) fun s1 H1 hp => ?_
  try simp only [zW,if_true]
  refine zCh ?_
  simp (disch:=omega) [c93_o7,zG,q]
  refine W.ret ?_
  try simp only [zW,if_true]
  exact kR _ _ ⟨-1,by simp [T.get],by simp⟩
 ·rw [gn_len]
  have l0:=c93_l (v:=v) J g hn
  rw [nE_all] at l0
  clear g rv
  generalize L.length = n at *
  by_cases c : v ∈ L
  ·have l0:=l0.2 (by simp [c])
   refine Tr.w fun s1 H1 hp _ kR => ?_
   obtain ⟨rfl,rfl⟩:=hp
   have q : True:=trivial
   refine zCh ?_
   simp (disch:=omega) [c93_o0,zG,q]
   refine W.assoc ?_
   refine zCh ?_
   simp (disch:=omega) [c93_o1,zG,q]
   refine W.seq (W.block ?_)
   refine W.use (l0) (by simp (disch:=omega) [zG,q]) fun s1 H1 hp => ?_
   try simp only [zW,if_true]
   obtain ⟨z,e⟩:=hp
   exact kR _ _ ⟨z,e,by simp [c]⟩
  ·have l0:=l0.1 (by simp [c])
   refine Tr.w fun s1 H1 hp _ kR => ?_
   obtain ⟨rfl,rfl⟩:=hp
   have q : True:=trivial
   refine zCh ?_
   simp (disch:=omega) [c93_o0,zG,q]
   refine W.assoc ?_
   refine zCh ?_
   simp (disch:=omega) [c93_o1,zG,q]
   refine W.seq (W.block ?_)
   refine W.use (l0) (by simp (disch:=omega) [zG,q]) fun s1 H1 hp => ?_
   try simp only [zW,if_true]
   refine zCh ?_
   simp (disch:=omega) [c93_o7,zG,q]
   refine W.ret ?_
   try simp only [zW,if_true]
   exact kR _ _ ⟨-1,by simp [T.get],by simp [c]⟩
theorem c70_ok (J : CallF) (k93 : ∀ (h : Heap) (x : AV) (v : Nat) (L : List Nat),RV h x (gn L) → L.length ≤ 1000000 → ∃ k : Int,J 93 [x,G v] h = some (G k,[],zF) ∧ decide (0 ≤ k) = decide (v ∈ L)) (hJ : ∀ a h,J 70 a h = none) (h : Heap) {x : AV} (rv : RV h x (gn L)) (hn : L.length ≤ 1000000) : CallsTo tbl J 70 [x,G v] h (.bool (decide (v ∈ L)),[],zF):=by
 refine Tr.fnv (cf:=c70) (e:=.ret) (s:=T.set (T.set .leaf [] x) [zF] (G v)) (by decide) rfl (hJ _ _) rfl rfl rfl (by simp) ?_
 refine Tr.post (Q:=(fun s h => s.get [zT,zF] = .bool (decide (v ∈ L)))) (fun s h q => by simp [c70,q]) ?_
 obtain ⟨k,e,hk⟩:=k93 (frameOf h) x v L rv.frame hn
 rw [← hk]
 clear hk
 refine Tr.w fun s1 H1 hp _ kR => ?_
 obtain ⟨rfl,rfl⟩:=hp
 have q : True:=trivial
 by_cases c : 0 ≤ k
 ·refine zCh ?_
  simp (disch:=omega) [c70_o0,zG,q]
  refine zCh ?_
  simp (disch:=omega) [c70_o1,zG,q,e,c]
  refine W.ret ?_
  try simp only [zW,if_true]
  exact kR _ _ (by simp [T.get,c])
 ·refine zCh ?_
  simp (disch:=omega) [c70_o0,zG,q]
  refine zCh ?_
  simp (disch:=omega) [c70_o1,zG,q,e,c]
  refine W.ret ?_
  try simp only [zW,if_true]
  exact kR _ _ (by simp [T.get,c])
end
def Pre93 (b : AV × Nat × List Nat) (args : List AV) (h : Heap) : Prop:=(RV h b.1 (gn b.2.2) ∧ b.2.2.length ≤ 1000000) ∧ args = [b.1,G b.2.1]
def Post93 (b : AV × Nat × List Nat) (h : Heap) (v : AV) (own : List AObj) : Prop:=(∃ k : Int,v = G k ∧ (decide (0 ≤ k) = decide (b.2.1 ∈ b.2.2))) ∧ own = []
noncomputable def T42 : CallF:=addK tbl T41 93 Pre93 Post93
theorem t42 : Sound zp T42:=Sound.addK follows ok t41 (by decide) _ _
theorem k93 : ∀ (h : Heap) (x : AV) (v : Nat) (L : List Nat),RV h x (gn L) → L.length ≤ 1000000 → ∃ k : Int,T42 93 [x,G v] h = some (G k,[],zF) ∧ decide (0 ≤ k) = decide (v ∈ L):=fun h x v L h1 h2 => by
 obtain ⟨z,own,e,⟨k,rfl,hk⟩,rfl⟩:=addK_some (Pre:=Pre93) (Post:=Post93) (fun b args h hp => by
  obtain ⟨⟨h1,h2⟩,rfl⟩:=hp
  exact c93_ok T41 (fun _ _ => by simp (disch:=decide) only [T1,T2,T3,T4,T5,T6,T7,T8,T9,T10,T11,T12,T13,T14,T15,T16,T17,T18,T19,T20,T21,T22,T23,T24,T25,T26,T27,T28,T29,T30,T31,T32,T33,T34,T35,T36,T37,T38,T39,T40,T41,addI_ne,addX_ne,addV_ne,addK_ne]; rfl) h h1 h2) (x,v,L) _ h ⟨⟨h1,h2⟩,rfl⟩
 exact ⟨k,e,hk⟩
def Post70 (b : AV × Nat × List Nat) (h : Heap) (v : AV) (own : List AObj) : Prop:=v = .bool (decide (b.2.1 ∈ b.2.2)) ∧ own = []
noncomputable def T43 : CallF:=addK tbl T42 70 Pre93 Post70
theorem t43 : Sound zp T43:=Sound.addK follows ok t42 (by decide) _ _
abbrev K70 (J : CallF) : Prop:=∀ (h : Heap) (x : AV) (v : Nat) (L : List Nat),RV h x (gn L) → L.length ≤ 1000000 → J 70 [x,G v] h = some (.bool (decide (v ∈ L)),[],zF)
theorem k70 : K70 T43:=fun h x v L h1 h2 => by
 obtain ⟨z,own,e,rfl,rfl⟩:=addK_some (Pre:=Pre93) (Post:=Post70) (fun b args h hp => by
  obtain ⟨⟨h1,h2⟩,rfl⟩:=hp
  exact ⟨_,_,c70_ok T42 k93 (fun _ _ => by simp (disch:=decide) only [T1,T2,T3,T4,T5,T6,T7,T8,T9,T10,T11,T12,T13,T14,T15,T16,T17,T18,T19,T20,T21,T22,T23,T24,T25,T26,T27,T28,T29,T30,T31,T32,T33,T34,T35,T36,T37,T38,T39,T40,T41,T42,addI_ne,addX_ne,addV_ne,addK_ne]; rfl) h h1 h2,rfl,rfl⟩) (x,v,L) _ h ⟨⟨h1,h2⟩,rfl⟩
 exact e
def pE (S : List (List Nat)) (g : Nat → Nat) (i j : Nat) : Nat:=((List.range i).map fun i' => ((S.getD i' []).count j) * g i').sum
def ev (S : List (List Nat)) (f : Nat) : Nat → Nat → Nat
 | 0,j => if j = f then 1 else 0
 | k + 1,j => pE S (ev S f k) S.length j
def vE (S : List (List Nat)) (f k : Nat) : List Nat:=lN (ev S f k) S.length
section
variable {S : List (List Nat)} {p w26 w27 : Nat}
end
section
variable {S : List (List Nat)} {p w26 w27 : Nat}
def okE (S : List (List Nat)) (f nn : Nat) : Bool:=af (fun k => decide ((vE S f (k + 1)).sum ≤ 1152921504606846976)) 0 (nn - 1)
end
structure A75 where
 p : Nat
 f : Nat
 N : Nat
 S : List (List Nat)
def Ok75 (b : A75) (h : Heap) : Prop:=OkS b.S ∧ LF h b.p b.S ∧ b.f < b.S.length ∧ b.N + 1 ≤ 40
def Pre75 (b : A75) (args : List AV) (h : Heap) : Prop:=Ok75 b h ∧ args = [.ptr b.p 0 3,G b.f,G (b.N + 1 : Nat)]
def Post75 (b : A75) (h : Heap) (v : AV) (own : List AObj) : Prop:=(okE b.S b.f (b.N + 1) = zT → ∃ x,v = .tup [x,.bool zT] ∧ RV (h.plus own) x (gn (vE b.S b.f b.N))) ∧ (okE b.S b.f (b.N + 1) = zF → v = .tup [.nils,.bool zF] ∧ own = [])
noncomputable def T44 : CallF:=addK tbl T43 75 Pre75 Post75
theorem t44 : Sound zp T44:=Sound.addK follows ok t43 (by decide) _ _
def rT (S : List (List Nat)) (N f i : Nat) : Nat:=if f ∈ S.getD i [] then ev S f N i else 0
def rP (S : List (List Nat)) (N f i : Nat) : Nat:=((List.range i).map (rT S N f)).sum
def rA (S : List (List Nat)) (N f : Nat) : Nat:=((List.range f).map fun f' => rP S N f' S.length).sum
def gE (S : List (List Nat)) (N f : Nat) : Bool:=okE S f (N + 1) && decide (rA S N (f + 1) ≤ 1152921504606846976)
def okR (S : List (List Nat)) (N : Nat) : Bool:=af (gE S N) 0 S.length
section
variable {S : List (List Nat)} {p N : Nat}
end
def AR.rn (a : AR) (m : Int) (n : Nat) : Nat:=rA (a.steps m) (n - 1) (a.steps m).length
def AR.okr (a : AR) (m : Int) (n : Nat) : Bool:=okR (a.steps m) (n - 1)
def AR.rngV (a : AR) (m n : Int) : AV:=if a.gd m n 1 then (if a.okr m n.toNat then .tup [G (a.rn m n.toNat),G 0] else .tup [G 0,G 5]) else .tup [G 0,G 2]
section
variable {a : AR} {m n : Int}
end
def Post41 (b : ARmn) (h : Heap) (v : AV) (own : List AObj) : Prop:=v = b.a.rngV b.m b.n ∧ own = []
noncomputable def T45 : CallF:=addK tbl T44 41 PreMn Post41
theorem t45 : Sound zp T45:=Sound.addK follows ok t44 (by decide) _ _
def okA (S : List (List Nat)) (N : Nat) : Bool:=af (fun f => okE S f (N + 1)) 0 S.length
theorem stL_mem {W : List (List Int)} {R : List (List Nat)} {i f : Nat} (hi : i < R.length) (hf : f < R.length) : decide (f ∈ (stL W R).getD i []) = blw W (R.getD i []) (R.getD f []):=by
 have : (stL W R).getD i [] = nxL W R (R.getD i []):=by
  unfold stL
  rw [zd,List.getElem?_map,zq hi,zd,zq hi]; rfl
 rw [this]
 unfold nxL
 cases hb : blw W (R.getD i []) (R.getD f [])
 ·exact decide_eq_false fun h => by
   have:=(List.mem_filter.1 h).2
   rw [hb] at this; cases this
 ·exact decide_eq_true (List.mem_filter.2 ⟨List.mem_range.2 hf,hb⟩)
section
variable {a : AG} {m N p : Nat} {R : List (List Nat)}
end
def AR.oka (a : AR) (m : Int) (n : Nat) : Bool:=okA (a.steps m) (n - 1)
def AR.rrV (a : AR) (m n : Int) : AV:=if a.oka m n.toNat then .tup [G (sat (a.rn m n.toNat)),.bool (decide (sat (a.rn m n.toNat) ≤ 1152921504606846976))] else .tup [G 0,.bool zF]
section
variable {a : AR} {m n : Int}
end
def Pre42 (b : ARmn) (args : List AV) (h : Heap) : Prop:=(OkR b.a h ∧ b.a.gd b.m b.n 1 = zT) ∧ args = [b.a.v,G b.m,G b.n]
def Post42 (b : ARmn) (h : Heap) (v : AV) (own : List AObj) : Prop:=v = b.a.rrV b.m b.n ∧ own = []
noncomputable def T46 : CallF:=addK tbl T45 42 Pre42 Post42
theorem t46 : Sound zp T46:=Sound.addK follows ok t45 (by decide) _ _
theorem ws_ss (R : List (List Nat)) : wsL R = ss (R.map stW):=by simp [wsL]
theorem TB.lt' {H0 h h' : Heap} {x : AV} {N : List (List Int)} (t : TB H0 h x (N.map gs)) (k : Kp (fun _ => False) h h') : LT h' x N:=t.lt.kp k
section
variable {nq m : Int} {X Y : List (List Int)}
end
def mdZ (x n : Int) : Int:=(x % 18446744073709551616) % n
theorem mdZ_bd (x : Int) {n : Int} (h : 0 < n) : 0 ≤ mdZ x n ∧ mdZ x n < n:=⟨Int.emod_nonneg _ (by omega),Int.emod_lt_of_pos _ h⟩
def spec19 : SpecV
 | [.int .i64 x,.int .i64 n] => if 0 < n ∧ n < 9223372036854775808 then some (G (mdZ x n)) else none
 | _ => none
theorem wrap_u64 (n : Int) : IntKind.u64.wrap n = n % 18446744073709551616:=by
 unfold IntKind.wrap IntKind.bits IntKind.signed
 simp
theorem c19_ok (J : CallF) (hJ : ∀ a h,J 19 a h = none) (x n : Int) (h1 : 0 < n) (h2 : n < 9223372036854775808) : CallsTo tbl J 19 [G x,G n] e0 (G (mdZ x n),[],zF):=by
 unfold mdZ
 refine CallsTo.plain (cf:=c19) (h':=frameOf e0) (by decide) rfl (hJ _ _) rfl rfl ?_
 have w : n % 18446744073709551616 = n:=Int.emod_eq_of_lt (by omega) (by omega)
 have hz : ¬ n = 0:=by omega
 have hm : (x % 18446744073709551616).tmod n = (x % 18446744073709551616) % n:=Int.tmod_eq_emod_of_nonneg (Int.emod_nonneg _ (by decide))
 have a1:=Int.emod_nonneg (x % 18446744073709551616) hz
 have a2:=Int.emod_lt_of_pos (x % 18446744073709551616) h1
 simp [c19,c19_o0,c19_o1,wrap_u64,w,hz,hm,wrapI ((x % 18446744073709551616) % n) (by omega) (by omega)]
noncomputable def T47 : CallF:=addV T46 19 spec19
theorem t47 : Sound zp T47:=Sound.addV follows ok t46 (by decide) (fun args v h => by
 unfold spec19 at h
 split at h
 ·split at h
  ·rename_i hn
   simp only [Option.some.injEq] at h; subst h
   exact c19_ok T46 (fun _ _ => by simp (disch:=decide) only [T1,T2,T3,T4,T5,T6,T7,T8,T9,T10,T11,T12,T13,T14,T15,T16,T17,T18,T19,T20,T21,T22,T23,T24,T25,T26,T27,T28,T29,T30,T31,T32,T33,T34,T35,T36,T37,T38,T39,T40,T41,T42,T43,T44,T45,T46,addI_ne,addX_ne,addV_ne,addK_ne]; rfl) _ _ hn.1 hn.2
  ·cases h
 ·cases h)
abbrev K19 (J : CallF) : Prop:=∀ (x n : Int) (h : Heap),0 < n → n < 9223372036854775808 → J 19 [G x,G n] h = some (G (mdZ x n),[],zF)
theorem k19 : K19 T47:=fun x n h h1 h2 => by simp [T47,addV,spec19,h1,h2]
def btZ (a : Int) : Int:=((BitVec.ofInt 64 a &&& BitVec.ofInt 64 1).toNat : Int)
theorem btZ_bd (a : Int) : 0 ≤ btZ a ∧ btZ a ≤ 1:=by
 unfold btZ
 rw [BitVec.toNat_and]
 have e : (BitVec.ofInt 64 1).toNat = 1:=rfl
 rw [e,Nat.and_one_is_mod]
 omega
theorem c56_ok (J : CallF) (hJ : ∀ a h,J 56 a h = none) (h : Heap) {x : AV} {M : List (List Int)} (mr : MR h x M) {i k : Nat} (hi : i ≤ 1000) (hk : k ≤ 1000) : ∃ v own,CallsTo tbl J 56 [x,G i,G k] h (v,own,zF) ∧ (∃ b : Int,v = G b ∧ 0 ≤ b ∧ b ≤ 1) ∧ own = []:=by
 refine Tr.fny (Good:=fun v own => (∃ b : Int,v = G b ∧ 0 ≤ b ∧ b ≤ 1) ∧ own = []) (cf:=c56) (e:=.ret) (s:=T.set (T.set (T.set .leaf [] x) [zF] (G i)) [zT] (G k)) (by decide) rfl (hJ _ _) rfl rfl (by simp) ?_
 refine Tr.post (Q:=fun s h => ∃ b : Int,s.get [zT,zT] = G b ∧ 0 ≤ b ∧ b ≤ 1) (fun s h' q => by
  obtain ⟨b,e,q1,q2⟩:=q
  exact ⟨[G b],by simp [c56,evRess,evRes,e],⟨b,rfl,q1,q2⟩,rfl⟩) ?_
 have mf : MR (frameOf h) x M:=mr.lo []
 by_cases c : i < M.length
 ·obtain ⟨b,v,cs,r,rfl,g,e,lr⟩:=mf.row c
  have e':=getI e
  have hcs : i < cs.length:=(List.getElem?_eq_some_iff.1 e).1
  rcases lr.cases with ⟨rfl,_⟩ | ⟨rfl,_⟩ | ⟨rb,rv,rfl,gr⟩
  ·clear mf mr
   generalize M.length = n at *
   refine Tr.w fun s1 H1 hp _ kR => ?_
   obtain ⟨rfl,rfl⟩:=hp
   have q : True:=trivial
   refine zCh ?_
   simp (disch:=omega) [c56_o0,zG,q]
   refine W.assoc ?_
   refine zCh ?_
   simp (disch:=omega) [c56_o1,zG,q,g,e,e']
   refine zCh ?_
   simp (disch:=omega) [c56_o2,zG,q]
   refine zCh ?_
   simp (disch:=omega) [c56_o3,zG,q]
   refine W.ret ?_
   try simp only [zW,if_true]
   exact kR _ _ ⟨1,by simp [T.get],by omega,by omega⟩
  ·clear mf mr
   generalize M.length = n at *
   refine Tr.w fun s1 H1 hp _ kR => ?_
   obtain ⟨rfl,rfl⟩:=hp
   have q : True:=trivial
   refine zCh ?_
   simp (disch:=omega) [c56_o0,zG,q]
   refine W.assoc ?_
   refine zCh ?_
   simp (disch:=omega) [c56_o1,zG,q,g,e,e']
   refine zCh ?_
   simp (disch:=omega) [c56_o2,zG,q]
   refine zCh ?_
   simp (disch:=omega) [c56_o3,zG,q]
   refine W.ret ?_
   try simp only [zW,if_true]
   exact kR _ _ ⟨1,by simp [T.get],by omega,by omega⟩
  ·obtain ⟨A,hA⟩ : ∃ A,M.getD i [] = A:=⟨_,rfl⟩
   rw [hA] at e e' gr lr
   have lg : (gs A).length = A.length:=by simp
   have gr : (frameOf h).get rb = .cells 1 rv (gs A):=gr
   clear mf mr hA lr
   by_cases d : k < A.length
   ·have ek : (gs A)[k]? = some (G (A.getD k 0)):=by
     rw [List.getElem?_map,zd,zq d]; rfl
    have ek':=getI ek
    have bd:=btZ_bd (A.getD k 0)
    have hbt : IntKind.i64.wrap ((BitVec.ofInt IntKind.i64.bits (A.getD k 0) &&& BitVec.ofInt IntKind.i64.bits 1).toNat : Int) = btZ (A.getD k 0):=wrapI (btZ (A.getD k 0)) (by omega) (by omega)
    have hb : evBin .and (G (A.getD k 0)) (G 1) = some (G (btZ (A.getD k 0))):=by
     show some (AV.int .i64 (IntKind.i64.wrap ((BitVec.ofInt IntKind.i64.bits (A.getD k 0) &&& BitVec.ofInt IntKind.i64.bits 1).toNat : Int))) = _
     rw [hbt]
    clear hbt
    generalize btZ (A.getD k 0) = bt at *
    generalize A.getD k 0 = z at *
    generalize gs A = cA at *
    generalize A.length = l at *
    generalize M.length = n at *
    refine Tr.w fun s1 H1 hp _ kR => ?_
    obtain ⟨rfl,rfl⟩:=hp
    have q : True:=trivial
    refine zCh ?_
    simp (disch:=omega) [c56_o0,zG,q]
    refine W.assoc ?_
    refine zCh ?_
    simp (disch:=omega) [c56_o1,zG,q,g,e,e']
    refine W.seq (W.cond (v:=zT) (by simp (disch:=omega) [zG,q]) ?_)
    simp only [if_true,if_false,Bool.false_eq_true]
    refine zCh ?_
    simp (disch:=omega) [-evBin,c56_o2,zG,q,g,e,e',gr,ek,ek',hb]
    refine W.ret ?_
    try simp only [zW,if_true]
    exact kR _ _ ⟨bt,by simp [T.get],by omega,by omega⟩
   ·generalize gs A = cA at *
    generalize A.length = l at *
    generalize M.length = n at *
    refine Tr.w fun s1 H1 hp _ kR => ?_
    obtain ⟨rfl,rfl⟩:=hp
    have q : True:=trivial
    refine zCh ?_
    simp (disch:=omega) [c56_o0,zG,q]
    refine W.assoc ?_
    refine zCh ?_
    simp (disch:=omega) [c56_o1,zG,q,g,e,e']
    refine zCh ?_
    simp (disch:=omega) [c56_o2,zG,q]
    refine zCh ?_
    simp (disch:=omega) [c56_o3,zG,q]
    refine W.ret ?_
    try simp only [zW,if_true]
    exact kR _ _ ⟨1,by simp [T.get],by omega,by omega⟩
 ·have sl:=mf.sl
  clear mf mr
  generalize M.length = n at *
  rcases sl with ⟨rfl,rfl⟩ | ⟨rfl,rfl⟩ | ⟨b,v,rfl⟩
  all_goals
   refine Tr.w fun s1 H1 hp _ kR => ?_
   obtain ⟨rfl,rfl⟩:=hp
   have q : True:=trivial
   refine zCh ?_
   simp (disch:=omega) [c56_o0,zG,q]
   refine W.assoc ?_
   refine zCh ?_
   simp (disch:=omega) [c56_o1,zG,q]
   refine zCh ?_
   simp (disch:=omega) [c56_o2,zG,q]
   refine zCh ?_
   simp (disch:=omega) [c56_o3,zG,q]
   refine W.ret ?_
   try simp only [zW,if_true]
   exact kR _ _ ⟨1,by simp [T.get],by omega,by omega⟩
structure A56 where
 x : AV
 M : List (List Int)
 i : Nat
 k : Nat
def Pre56 (b : A56) (args : List AV) (h : Heap) : Prop:=(MR h b.x b.M ∧ b.i ≤ 1000 ∧ b.k ≤ 1000) ∧ args = [b.x,G b.i,G b.k]
def Post56 (b : A56) (h : Heap) (v : AV) (own : List AObj) : Prop:=(∃ b : Int,v = G b ∧ 0 ≤ b ∧ b ≤ 1) ∧ own = []
noncomputable def T48 : CallF:=addK tbl T47 56 Pre56 Post56
theorem t48 : Sound zp T48:=Sound.addK follows ok t47 (by decide) _ _
abbrev K56 (J : CallF) : Prop:=∀ (h : Heap) (x : AV) (M : List (List Int)) (i k : Nat),MR h x M → i ≤ 1000 → k ≤ 1000 → ∃ b : Int,J 56 [x,G i,G k] h = some (G b,[],zF) ∧ 0 ≤ b ∧ b ≤ 1
theorem k56 : K56 T48:=fun h x M i k h1 h2 h3 => by
 obtain ⟨v,own,e,⟨b,rfl,q1,q2⟩,rfl⟩:=addK_some (Pre:=Pre56) (Post:=Post56) (fun b args h hp => by
  obtain ⟨⟨h1,h2,h3⟩,rfl⟩:=hp
  exact c56_ok T47 (fun _ _ => by simp (disch:=decide) only [T1,T2,T3,T4,T5,T6,T7,T8,T9,T10,T11,T12,T13,T14,T15,T16,T17,T18,T19,T20,T21,T22,T23,T24,T25,T26,T27,T28,T29,T30,T31,T32,T33,T34,T35,T36,T37,T38,T39,T40,T41,T42,T43,T44,T45,T46,T47,addI_ne,addX_ne,addV_ne,addK_ne]; rfl) h h1 h2 h3) ⟨x,M,i,k⟩ _ h ⟨⟨h1,h2,h3⟩,rfl⟩
 exact ⟨b,e,q1,q2⟩
theorem k19_48 : K19 T48:=fun x n h h1 h2 => by
 rw [show T48 19 [G x,G n] h = T47 19 [G x,G n] h from by simp (disch:=decide) only [T48,addK_ne]]
 exact k19 x n h h1 h2
end Go.Proofs.Ytljgfdamdcikgaa.Ev
set_option linter.unusedVariables false
set_option linter.unusedSimpArgs false
namespace Go.Proofs.Ytljgfdamdcikgaa.Ev
open Go Go.AEv
structure N2 (H0 h : Heap) (xa xb : AV) (La Lb : List Int) : Prop where
 k : Kp (fun _ => False) H0 h
 a0 : ∀ q,blk xa = some q → H0.size ≤ q
 b0 : ∀ q,blk xb = some q → H0.size ≤ q
 la : LV h xa (gs La)
 lb : LV h xb (gs Lb)
 d : ∀ q,blk xa = some q → blk xb ≠ some q
theorem N2.nil (H0 : Heap) : N2 H0 H0 .nils .nils [] []:=⟨Kp.refl _,fun _ e => (by cases e),fun _ e => (by cases e),LV.nil _,LV.nil _,fun _ e => (by cases e)⟩
theorem N2.swap {H0 h : Heap} {xa xb : AV} {La Lb : List Int} (t : N2 H0 h xa xb La Lb) : N2 H0 h xb xa Lb La:=⟨t.k,t.b0,t.a0,t.lb,t.la,fun q e1 e2 => t.d q e2 e1⟩
theorem N2.app {H0 h : Heap} (h0 : Nat) {xa xb : AV} {La Lb : List Int} (t : N2 H0 h xa xb La Lb) (z : Int) (hn : La.length ≤ 1000000) :
  ∃ x1 e h2,appA (h.plus [.cells 1 1 [G z]]) h0 none 1 8 1 [G z] xa = some (x1,e) ∧ Eff.app e (h.plus [.cells 1 1 [G z]]) = some h2 ∧ N2 H0 h2 x1 xb (La ++ [z]) Lb:=by
 have k1 : Kp (fun _ => False) h (h.plus [.cells 1 1 [G z]]):=Kp.plus _ _
 obtain ⟨x1,e,h2,q1,q2,q3,q4,q5,q6⟩:=app_v (h.plus [.cells 1 1 [G z]]) h0 8 (G z) (t.la.kp k1 (fun _ _ => id)) (by simp; omega)
 have hsz : (h.plus [.cells 1 1 [G z]]).size = h.size + 1:=by rw [plus_size]; rfl
 refine ⟨x1,e,h2,q1,q2,⟨(t.k.trans k1).late q4 t.a0,fun q hq => ?_,t.b0,by simpa using q3,(t.lb.kp k1 (fun _ _ => id)).kp q4 (fun q e1 e2 => t.d q e2 e1),fun q hq e => ?_⟩⟩
 ·rcases q5 with h' | ⟨_,h'⟩
  ·rw [h'] at hq; exact t.a0 q hq
  ·rw [h'] at hq; cases hq; have:=t.k.size; omega
 ·rcases q5 with h' | ⟨_,h'⟩
  ·rw [h'] at hq; exact t.d q hq e
  ·rw [h'] at hq; cases hq; have:=t.lb.lt e; omega
def TR (H0 h : Heap) (xb xw : AV) (M : List (List AV)) : Prop:=∃ rs,LV h xb rs ∧ rs.length = M.length ∧ ∀ (i : Nat) r,rs[i]? = some r → ∃ cs b,M[i]? = some cs ∧ r = .slice b 0 cs.length cs.length ∧ h.get b = .cells 1 cs.length cs ∧ blk xb ≠ some b ∧ blk xw ≠ some b ∧ H0.size ≤ b
structure T2t (H0 h : Heap) (s3 : Nat) (xb xw : AV) (M N : List (List AV)) : Prop where
 k : Kp (· = s3) H0 h
 b0 : ∀ c,blk xb = some c → H0.size ≤ c
 w0 : ∀ c,blk xw = some c → H0.size ≤ c
 rb : TR H0 h xb xw M
 rw' : TR H0 h xw xb N
 d : ∀ c,blk xb = some c → blk xw ≠ some c
theorem T2t.nil (H0 : Heap) (s3 : Nat) : T2t H0 H0 s3 .nils .nils [] []:=⟨Kp.refl _,fun _ e => (by cases e),fun _ e => (by cases e),⟨[],LV.nil _,rfl,fun i r e => by simp at e⟩,⟨[],LV.nil _,rfl,fun i r e => by simp at e⟩,fun _ e => (by cases e)⟩
theorem T2t.swap {H0 h : Heap} {s3 : Nat} {xb xw : AV} {M N : List (List AV)} (t : T2t H0 h s3 xb xw M N) : T2t H0 h s3 xw xb N M:=⟨t.k,t.w0,t.b0,t.rw',t.rb,fun c e1 e2 => t.d c e2 e1⟩
theorem TR.kp {X : Nat → Prop} {H0 h h' : Heap} {xb xw : AV} {M : List (List AV)} (t : TR H0 h xb xw M) (k : Kp X h h') (h1 : ∀ b,blk xb = some b → ¬ X b) (h2 : ∀ b,H0.size ≤ b → blk xw ≠ some b → ¬ X b) : TR H0 h' xb xw M:=by
 obtain ⟨rs,lv,hl,hr⟩:=t
 refine ⟨rs,lv.kp k h1,hl,fun i r e => ?_⟩
 obtain ⟨cs,b,e1,e2,e3,e4,e5,e6⟩:=hr i r e
 exact ⟨cs,b,e1,e2,k.at e3 (by simp) (h2 b e6 e5),e4,e5,e6⟩
theorem T2t.kp {H0 h h' : Heap} {s3 : Nat} {xb xw : AV} {M N : List (List AV)} (t : T2t H0 h s3 xb xw M N) (k : Kp (fun _ => False) h h') : T2t H0 h' s3 xb xw M N :=
 ⟨t.k.trans (k.mono fun _ _ e => e.elim),t.b0,t.w0,t.rb.kp k (fun _ _ => id) (fun _ _ _ => id),t.rw'.kp k (fun _ _ => id) (fun _ _ _ => id),t.d⟩
theorem T2t.upd {H0 h : Heap} {s3 : Nat} {xb xw : AV} {M N : List (List AV)} (t : T2t H0 h s3 xb xw M N) (X : AObj) (hN : h.N ≤ s3) (hs : s3 < H0.size) : T2t H0 (h.upd s3 X) s3 xb xw M N:=by
 have k : Kp (· = s3) h (h.upd s3 X):=Kp.upd _ _ _ hN rfl
 exact ⟨t.k.trans k,t.b0,t.w0,t.rb.kp k (fun b e q => by have:=t.b0 b e; omega) (fun b e _ q => by omega),t.rw'.kp k (fun b e q => by have:=t.w0 b e; omega) (fun b e _ q => by omega),t.d⟩
theorem T2t.app {H0 h : Heap} (h0 : Nat) {s3 : Nat} {xb xw : AV} {M N : List (List AV)} {b : Nat} {cs : List AV} (t : T2t H0 h s3 xb xw M N) (hs : s3 < H0.size) (hv : h.get b = .cells 1 cs.length cs) (hb : blk xb ≠ some b ∧ blk xw ≠ some b ∧ H0.size ≤ b) (hn : M.length ≤ 1000000) :
  ∃ x1 e h2,appA (h.plus [.cells 1 1 [.slice b 0 cs.length cs.length]]) h0 none 1 24 1 [.slice b 0 cs.length cs.length] xb = some (x1,e) ∧ Eff.app e (h.plus [.cells 1 1 [.slice b 0 cs.length cs.length]]) = some h2 ∧ T2t H0 h2 s3 x1 xw (M ++ [cs]) N ∧ Kp (fun c => blk xb = some c) h h2 ∧ (∀ c,c < h.size → blk xb ≠ some c → blk x1 ≠ some c):=by
 obtain ⟨rs,lv,hl,hr⟩:=t.rb
 generalize hvv : AV.slice b 0 cs.length cs.length = v
 have k1 : Kp (fun _ => False) h (h.plus [.cells 1 1 [v]]):=Kp.plus _ _
 obtain ⟨x1,e,h2,q1,q2,q3,q4,q5,q6⟩:=app_v (h.plus [.cells 1 1 [v]]) h0 24 v (lv.kp k1 (fun _ _ => id)) (by omega)
 have hsz : (h.plus [.cells 1 1 [v]]).size = h.size + 1:=by rw [plus_size]; rfl
 have hx1 : ∀ q,q < h.size → blk xb ≠ some q → blk x1 ≠ some q:=fun q hq hne hx1 => by
  rcases q5 with h' | ⟨_,h'⟩
  ·rw [h'] at hx1; exact hne hx1
  ·rw [h'] at hx1; cases hx1; omega
 have kk : Kp (fun c => blk xb = some c) h h2:=(k1.mono fun _ _ e => e.elim).trans q4
 have hxn : ∀ c,blk x1 = some c → blk xw ≠ some c ∧ H0.size ≤ c:=fun c hc => by
  rcases q5 with h' | ⟨_,h'⟩
  ·rw [h'] at hc; exact ⟨t.d c hc,t.b0 c hc⟩
  ·rw [h'] at hc; cases hc
   refine ⟨fun e => ?_,by have:=t.k.size; omega⟩
   obtain ⟨rs',lv',_⟩:=t.rw'
   have:=lv'.lt e; omega
 refine ⟨x1,e,h2,q1,q2,⟨?_,fun c hc => (hxn c hc).2,t.w0,⟨rs ++ [v],q3,by simp [hl],fun i r hi => ?_⟩,?_,fun c hc => (hxn c hc).1⟩,kk,hx1⟩
 ·refine ⟨by rw [kk.lo,t.k.lo],by rw [kk.N,t.k.N],Nat.le_trans t.k.size kk.size,fun c hc hm => ?_⟩
  rw [kk.get c (Nat.lt_of_lt_of_le hc t.k.size) (fun e => by have:=t.b0 c e; omega),t.k.get c hc hm]
 ·by_cases hi' : i < rs.length
  ·rw [List.getElem?_append_left hi'] at hi
   obtain ⟨l',b',h1,h2',h3,h4,h5,h6⟩:=hr i r hi
   have hlt:=get_lt h3 (by simp)
   exact ⟨l',b',by rw [List.getElem?_append_left (by omega)]; exact h1,h2',kk.at h3 (by simp) (fun q => h4 q),hx1 b' hlt h4,h5,h6⟩
  ·rw [List.getElem?_append_right (by omega)] at hi
   have hi0 : i - rs.length = 0:=by
    rcases Nat.eq_zero_or_pos (i - rs.length) with e | e
    ·exact e
    ·rw [List.getElem?_eq_none (by simp; omega)] at hi; cases hi
   rw [hi0] at hi
   simp only [List.getElem?_cons_zero,Option.some.injEq] at hi
   subst hi
   exact ⟨cs,b,by rw [List.getElem?_append_right (by omega),← hl,hi0]; rfl,hvv.symm,kk.at hv (by simp) (fun q => hb.1 q),hx1 b (get_lt hv (by simp)) hb.1,hb.2.1,hb.2.2⟩
 ·obtain ⟨rs',lv',hl',hr'⟩:=t.rw'
  refine ⟨rs',lv'.kp kk (fun c e1 e2 => t.d c e2 e1),hl',fun i r hi => ?_⟩
  obtain ⟨l',b',h1,h2',h3,h4,h5,h6⟩:=hr' i r hi
  exact ⟨l',b',h1,h2',kk.at h3 (by simp) (fun q => h5 q),h4,hx1 b' (get_lt h3 (by simp)) h5,h6⟩
theorem T2t.sh {H0 h : Heap} {s3 : Nat} {xb xw : AV} {M N : List (List AV)} {cs : List AV} (t : T2t H0 h s3 xb xw (M ++ [cs]) N) : ∃ c m,xb = .slice c 0 m m:=by
 obtain ⟨rs,lv,hl,_⟩:=t.rb
 obtain ⟨c,e,_⟩:=lv.sl (by intro e; rw [e] at hl; simp at hl)
 exact ⟨c,_,e⟩
theorem T2t.tb {H0 h : Heap} {s3 : Nat} {xb xw : AV} {M N : List (List AV)} (t : T2t H0 h s3 xb xw M N) {Hb : Heap} (k0 : Kp (fun _ => False) Hb h) (hs : Hb.size ≤ H0.size) : TB Hb h xb M:=by
 obtain ⟨rs,lv,hl,hr⟩:=t.rb
 exact ⟨k0,fun q hq => Nat.le_trans hs (t.b0 q hq),rs,lv,hl,fun i r hi => by
  obtain ⟨cs,b,h1,h2,h3,h4,h5,h6⟩:=hr i r hi
  exact ⟨cs,b,h1,h2,h3,h4,Nat.le_trans hs h6⟩⟩
end Go.Proofs.Ytljgfdamdcikgaa.Ev
set_option linter.unusedVariables false
set_option linter.unusedSimpArgs false
namespace Go.Proofs.Ytljgfdamdcikgaa.Ev
open Go Go.AEv
attribute [local simp] evFunc initS evOps_c evTrim_c evSkip_c evExit_c evRet_c evSeq_c evCond_c evBlock_c evDraw_c runOps_n runOps_c exec_n exec_g pure1_c act AOpd.ev T.get T.set T.put evBin evUn forceT_eq forceV_eq forceL_eq evRess evRes one keep runFP_n runFP_c app_none AV.flats AV.flat came_some List.getElem?_cons_zero List.getElem?_cons_succ beqT wrapI idxI tdivI tmodI decT decF ibT ibF inT inF evScope_c if_pos if_neg Cm_some thenW_n thenW_e thenW_r blkW_n blkW_e blkW_r goI kn putAt AV.cells fillA loadA takeA mk Eff.isAll Eff.isNone Eff.commutes Eff.spares okPair apart eqAgg fits LK.fits allEq aveq eqk mmA
def b01 (L : List Int) : Prop:=∀ z ∈ L,0 ≤ z ∧ z ≤ 1
theorem b01_app {L : List Int} {z : Int} (h : b01 L) (h0 : 0 ≤ z) (h1 : z ≤ 1) : b01 (L ++ [z]):=fun u hu => by
 rcases List.mem_append.1 hu with hu | hu
 ·exact h u hu
 ·rw [List.mem_singleton.1 hu]; exact ⟨h0,h1⟩
def r01 (n : Nat) (B : List (List Int)) : Prop:=∀ l ∈ B,l.length = n ∧ b01 l
theorem r01_app {n : Nat} {B : List (List Int)} {l : List Int} (h : r01 n B) (hl : l.length = n) (hb : b01 l) : r01 n (B ++ [l]):=fun u hu => by
 rcases List.mem_append.1 hu with hu | hu
 ·exact h u hu
 ·rw [List.mem_singleton.1 hu]; exact ⟨hl,hb⟩
theorem r01_tab {n : Nat} {B : List (List Int)} (h : r01 n B) (hl : B.length = n) : tabQ n B = zT:=by
 unfold tabQ
 rw [hl]
 simp only [decide_true,Bool.true_and,List.all_eq_true]
 intro l hl
 obtain ⟨h1,h2⟩:=h l hl
 unfold rowQ
 rw [h1]
 simp only [decide_true,Bool.true_and,List.all_eq_true,decide_eq_true_eq]
 exact h2
section
variable {X Y : List (List Int)} {x y : AV} {nq S : Nat}
structure RD (S nq : Nat) (nz : Int) (x y : AV) (X Y : List (List Int)) (h : Heap) : Prop where
 gS : h.get S = .cells 0 3 [G nz,x,y]
 g3 : ∃ xb xw,h.get (S + 2) = .cells 0 3 [G nq,xb,xw]
 mx : MR h x X
 my : MR h y Y
theorem RD.kp {nz : Int} {h h' : Heap} (r : RD S nq nz x y X Y h) (k : Kp (fun _ => False) h h') : RD S nq nz x y X Y h':=by
 obtain ⟨xb,xw,g⟩:=r.g3
 exact ⟨k.at r.gS (by simp) id,⟨xb,xw,k.at g (by simp) id⟩,r.mx.kp k,r.my.kp k⟩
abbrev F18 (S i : Nat) (s : T) : Prop:=s.get [zF] = .ptr S 0 3 ∧ s.get [zT] = .ptr (S + 1) 0 3 ∧ s.get [zF,zF] = .ptr (S + 2) 0 3 ∧ s.get [zT,zF] = G i
abbrev T0P (S i k : Nat) (Hi : Heap) : SP:=fun s h => ∃ xa xb La Lb,(N2 Hi h xa xb La Lb ∧ (La.length = k ∧ b01 La) ∧ Lb.length = k ∧ b01 Lb) ∧ F18 S i s ∧ s.get [zF,zT] = xa ∧ s.get [zT,zT] = xb ∧ s.get [zF,zF,zF] = G k
theorem c18_l0_ok (J : CallF) (k56 : K56 J) {nz : Int} {Hi : Heap} (rd : RD S nq nz x y X Y Hi) (q3 : nq ≤ 3) {i : Nat} (hi : i ≤ 3) :
  Tr tbl J c18_l0 (T0P S i 0 Hi) (.exit 2) (fun s h => ∃ xa xb La Lb,(N2 Hi h xa xb La Lb ∧ (La.length = nq ∧ b01 La) ∧ Lb.length = nq ∧ b01 Lb) ∧ F18 S i s ∧ s.get [zF,zT] = xa ∧ s.get [zT,zT] = xb):=by
 refine Tr.rounds (e:=.exit 2) (P:=fun k => T0P S i k Hi) (M:=nq) (fun k hk => ?_) ?_ (by simp) 0 (by omega)
 ·unfold T0P F18
  refine Tr.w fun s1 H1 hp _ kR => W.trim ?_
  obtain ⟨xa,xb,La,Lb,⟨n2,⟨l1,b1⟩,l2,b2⟩,q⟩:=hp
  obtain ⟨gS,⟨ub,uw,g3⟩,mx,my⟩:=rd.kp n2.k
  obtain ⟨z1,e1,z10,z11⟩:=k56 H1 x X i k mx (by omega) (by omega)
  obtain ⟨x1,e,H2,p1,p2,n3⟩:=n2.app H1.size z1 (by omega)
  obtain ⟨gS2,⟨ub2,uw2,g32⟩,mx2,my2⟩:=rd.kp n3.k
  obtain ⟨z2,e2,z20,z21⟩:=k56 H2 y Y i k my2 (by omega) (by omega)
  obtain ⟨x2,e',H3,p3,p4,n4⟩:=n3.swap.app H2.size z2 (by omega)
  have fin : N2 Hi H3 x1 x2 (La ++ [z1]) (Lb ++ [z2]) ∧ ((La ++ [z1]).length = k + 1 ∧ b01 (La ++ [z1])) ∧ (Lb ++ [z2]).length = k + 1 ∧ b01 (Lb ++ [z2]):=⟨n4.swap,⟨by simp [l1],b01_app b1 z10 z11⟩,by simp [l2],b01_app b2 z20 z21⟩
  clear n2 n3 n4 rd mx my mx2 my2
  refine W.assoc ?_
  refine zCh ?_
  simp (disch:=omega) [c18_o6,zG,q,g3]
  refine zCh ?_
  simp (disch:=omega) [zG,q]
  refine W.seq (W.block ?_)
  refine zCh ?_
  simp (disch:=omega) [c18_o7,zG,q,gS,e1,p1,p2,app1_at,elems,rdOf]
  refine W.chunk ?_
  simp (disch:=omega) [c18_o8,zG,q,gS2,e2,p3,p4,app1_at,elems,rdOf]
  refine W.chunk ?_
  simp (disch:=omega) [c18_o9,zG,q]
  exact kR _ _ ⟨_,_,_,_,fin,by simp [T.get,q]⟩
 ·unfold T0P F18
  refine Tr.w fun s1 H1 hp _ kR => W.trim ?_
  obtain ⟨xa,xb,La,Lb,⟨n2,⟨l1,b1⟩,l2,b2⟩,q⟩:=hp
  obtain ⟨gS,⟨ub,uw,g3⟩,mx,my⟩:=rd.kp n2.k
  clear rd mx my
  refine W.assoc ?_
  refine zCh ?_
  simp (disch:=omega) [c18_o6,zG,q,g3]
  refine zCh ?_
  simp (disch:=omega) [zG,q]
  exact kR _ _ ⟨_,_,_,_,⟨n2,⟨l1,b1⟩,l2,b2⟩,by simp [T.get,q]⟩
abbrev T1P (S nq i : Nat) (H0 : Heap) : SP:=fun s h => ∃ xb xw B W,(T2t H0 h (S + 2) xb xw (B.map gs) (W.map gs) ∧ h.get (S + 2) = .cells 0 3 [G nq,xb,xw] ∧ (B.length = i ∧ r01 nq B) ∧ W.length = i ∧ r01 nq W) ∧ F18 S i s
theorem c18_b1_ok (J : CallF) (k56 : K56 J) {nz : Int} {H0 : Heap} (gS0 : H0.get S = .cells 0 3 [G nz,x,y]) (base : ∀ h,Kp (· = S + 2) H0 h → MR h x X ∧ MR h y Y) (hN : H0.N ≤ S + 2) (hs : S + 2 < H0.size) (q1 : 1 ≤ nq) (q3 : nq ≤ 3) {i : Nat} (hi : i < nq) :
  Tr tbl J (.trim [[zF],[zT],[zF,zF],[zT,zF]] c18_b1) (T1P S nq i H0) .normal (T1P S nq (i + 1) H0):=by
 unfold T1P
 refine Tr.w fun s1 H1 hp _ kR => W.trim ?_
 obtain ⟨xb,xw,B,Y0,⟨tt,g3,⟨lB,rB⟩,lW,rW⟩,q⟩:=hp
 obtain ⟨mx,my⟩:=base H1 tt.k
 have rd : RD S nq nz x y X Y H1:=⟨tt.k.at gS0 (by simp) (by omega),⟨xb,xw,g3⟩,mx,my⟩
 have l0:=c18_l0_ok J k56 rd q3 (i:=i) (by omega)
 have n0 : N2 H1 H1 .nils .nils [] []:=N2.nil H1
 have b00 : b01 []:=fun z hz => by cases hz
 have step : ∀ h xa xc La Lb,N2 H1 h xa xc La Lb → La.length = nq → b01 La → Lb.length = nq → b01 Lb → ∃ ba bc,xa = .slice ba 0 nq nq ∧ xc = .slice bc 0 nq nq ∧ h.get (S + 2) = .cells 0 3 [G nq,xb,xw] ∧
   ∃ x1 e h2 h3,appA (h.plus [.cells 1 1 [.slice ba 0 nq nq]]) h.size none 1 24 1 [.slice ba 0 nq nq] xb = some (x1,e) ∧ Eff.app e (h.plus [.cells 1 1 [.slice ba 0 nq nq]]) = some h2 ∧ Eff.app (.put (S + 2) 3 1 [x1]) h2 = some h3 ∧ h3.get (S + 2) = .cells 0 3 [G nq,x1,xw] ∧ (∃ c m,x1 = .slice c 0 m m) ∧
   ∃ x2 e' h4 h5,appA (h3.plus [.cells 1 1 [.slice bc 0 nq nq]]) h3.size none 1 24 1 [.slice bc 0 nq nq] xw = some (x2,e') ∧ Eff.app e' (h3.plus [.cells 1 1 [.slice bc 0 nq nq]]) = some h4 ∧ Eff.app (.put (S + 2) 3 2 [x2]) h4 = some h5 ∧ (∃ c m,x2 = .slice c 0 m m) ∧
   T2t H0 h5 (S + 2) x1 x2 ((B ++ [La]).map gs) ((Y0 ++ [Lb]).map gs) ∧ h5.get (S + 2) = .cells 0 3 [G nq,x1,x2] ∧ ((B ++ [La]).length = i + 1 ∧ r01 nq (B ++ [La])) ∧ (Y0 ++ [Lb]).length = i + 1 ∧ r01 nq (Y0 ++ [Lb]):=fun h xa xc La Lb n2 e1 e2 e3 e4 => by
  have ga : (gs La).length = nq:=by simp [e1]
  have gc : (gs Lb).length = nq:=by simp [e3]
  obtain ⟨ba,rfl,ha⟩:=n2.la.sl (by intro e; rw [e] at ga; simp at ga; omega)
  obtain ⟨bc,rfl,hc⟩:=n2.lb.sl (by intro e; rw [e] at gc; simp at gc; omega)
  have a0:=n2.a0 ba rfl
  have c0:=n2.b0 bc rfl
  have dd : ba ≠ bc:=fun e => n2.d ba rfl (by rw [e]; rfl)
  rw [ga] at ha ⊢
  rw [gc] at hc ⊢
  have t1:=tt.kp n2.k
  have lxb : ∀ c,blk xb = some c → c < H1.size:=fun c e => by obtain ⟨rs,lv,_⟩:=tt.rb; exact lv.lt e
  have lxw : ∀ c,blk xw = some c → c < H1.size:=fun c e => by obtain ⟨rs,lv,_⟩:=tt.rw'; exact lv.lt e
  have szH:=tt.k.size
  obtain ⟨x1,e,h2,p1,p2,t2,k2,f2⟩:=t1.app h.size (b:=ba) (cs:=gs La) hs (by rw [ga]; exact ha) ⟨fun e => by have:=lxb _ e; omega,fun e => by have:=lxw _ e; omega,by omega⟩ (by rw [List.length_map]; omega)
  rw [ga] at p1 p2
  have g3h:=n2.k.at g3 (by simp) id
  have g32:=k2.at g3h (by simp) (fun e => by have:=tt.b0 _ e; omega)
  have N2' : h2.N ≤ S + 2:=by rw [t2.k.N]; exact hN
  have t3:=t2.upd (.cells 0 3 [G nq,x1,xw]) N2' hs
  have hc2:=k2.at hc (by simp) (fun e => by have:=lxb _ e; omega)
  have hc3 : (h2.upd (S + 2) (.cells 0 3 [G nq,x1,xw])).get bc = .cells 1 nq (gs Lb):=by rw [upd_ne _ _ _ _ N2' (by omega)]; exact hc2
  have g33 : (h2.upd (S + 2) (.cells 0 3 [G nq,x1,xw])).get (S + 2) = .cells 0 3 [G nq,x1,xw]:=upd_same _ _ _ N2' (get_lt g32 (by simp))
  have bch:=get_lt hc (by simp)
  obtain ⟨x2,e',h4,p3,p4,t4,k4,f4⟩:=t3.swap.app (h2.upd (S + 2) (.cells 0 3 [G nq,x1,xw])).size (b:=bc) (cs:=gs Lb) hs (by rw [gc]; exact hc3) ⟨fun e => by have:=lxw _ e; omega,f2 bc bch (fun e => by have:=lxb _ e; omega),by omega⟩ (by rw [List.length_map]; omega)
  rw [gc] at p3 p4
  have g34:=k4.at g33 (by simp) (fun e => by have:=tt.w0 _ e; omega)
  have N4 : h4.N ≤ S + 2:=by rw [t4.k.N]; exact hN
  refine ⟨ba,bc,rfl,rfl,g3h,x1,e,h2,_,p1,p2,?_,g33,t2.sh,x2,e',h4,_,p3,p4,?_,t4.sh,?_,upd_same _ _ _ N4 (get_lt g34 (by simp)),⟨by simp [lB],r01_app rB e1 e2⟩,by simp [lW],r01_app rW e3 e4⟩
  ·rw [put_gen _ _ _ _ _ _ _ N2' g32 (by simp)]; rfl
  ·rw [put_gen _ _ _ _ _ _ _ N4 g34 (by simp)]; rfl
  ·have:=t4.swap.upd (.cells 0 3 [G nq,x1,x2]) N4 hs
   rw [List.map_append,List.map_append]
   exact this
 have l0 : Tr tbl J c18_l0 (fun s h => h = H1 ∧ s.get [zF] = .ptr S 0 3 ∧ s.get [zT] = .ptr (S + 1) 0 3 ∧ s.get [zF,zF] = .ptr (S + 2) 0 3 ∧ s.get [zT,zF] = G i ∧ s.get [zF,zT] = .nils ∧ s.get [zT,zT] = .nils ∧ s.get [zF,zF,zF] = G ((0 : Nat) : Int)) (.exit 2) _:=Tr.pre (fun s h hp => (by
  obtain ⟨rfl,a1,a2,a3,a4,a5,a6,a7⟩:=hp
  exact ⟨.nils,.nils,[],[],⟨n0,⟨rfl,b00⟩,rfl,b00⟩,⟨a1,a2,a3,a4⟩,a5,a6,a7⟩ : T0P S i 0 H1 s h)) l0
 unfold F18 at q kR l0
 clear tt rd mx my rB rW lB lW
 refine W.assoc ?_
 refine zCh ?_
 simp (disch:=omega) [c18_o3,zG,q,g3]
 refine zCh ?_
 simp (disch:=omega) [zG,q]
 refine W.seq (W.block ?_)
 refine zCh ?_
 simp (disch:=omega) [c18_o4,zG,q]
 refine W.assoc ?_
 refine zCh ?_
 simp (disch:=omega) [c18_o5,zG,q]
 refine W.seq (W.block ?_)
 refine W.use (l0) (by simp (disch:=omega) [zG,q]) fun s1 H1 hp => ?_
 obtain ⟨xa,xc,La,Lb,⟨n2,⟨e1,e2⟩,e3,e4⟩,q⟩:=hp
 try simp only [zW,if_true]
 obtain ⟨ba,bc,rfl,rfl,g3h,x1,e,h2,h3,p1,p2,p3,g33,⟨c1,m1,rfl⟩,x2,e',h4,h5,p4,p5,p6,⟨c2,m2,rfl⟩,fin⟩:=step _ _ _ _ _ n2 e1 e2 e3 e4
 refine zCh ?_
 simp (disch:=omega) [c18_o10,zG,q,g3h,p1,p2,p3,app1_at,elems,rdOf]
 refine W.chunk ?_
 simp (disch:=omega) [c18_o11,zG,q,g33,p4,p5,p6,app1_at,elems,rdOf]
 refine W.chunk ?_
 simp (disch:=omega) [c18_o12,zG,q]
 exact kR _ _ ⟨_,_,_,_,fin,by simp [T.get,q]⟩
theorem c18_ok (J : CallF) (k19 : K19 J) (k56 : K56 J) (hJ : ∀ a h,J 18 a h = none) (h : Heap) {qz : Int} (mx : MR h x X) (my : MR h y Y) :
  ∃ v own,CallsTo tbl J 18 [.agg [G qz,x,y]] h (v,own,zF) ∧ ∃ n x' y' B W,v = .agg [G (n : Nat),x',y'] ∧ (1 ≤ n ∧ n ≤ 3) ∧ (TB h (h.plus own) x' (B.map gs) ∧ tabQ n B = zT) ∧ TB h (h.plus own) y' (W.map gs) ∧ tabQ n W = zT:=by
 refine Tr.fny (cf:=c18) (e:=.ret) (s:=T.set .leaf [] (.agg [G qz,x,y])) (by decide) rfl (hJ _ _) rfl rfl (by simp) ?_
 have mb:=mdZ_bd (IntKind.i64.wrap (qz - 1)) (n:=3) (by omega)
 have kk:=k19 (IntKind.i64.wrap (qz - 1)) 3 ⟨h.get,h.size,[.cells 0 3 [G qz,x,y],.cells 0 3 [G 0,.nils,.nils]]⟩ (by omega) (by omega)
 generalize mdZ (IntKind.i64.wrap (qz - 1)) 3 = z at *
 obtain ⟨n,hn⟩ : ∃ n : Nat,(n : Int) = 1 + z:=⟨(1 + z).toNat,by omega⟩
 obtain ⟨H0,hH0⟩ : ∃ H,(⟨h.get,h.size,[.cells 0 3 [G qz,x,y],.cells 0 3 [G 0,.nils,.nils],.cells 0 3 [G (1 + z),.nils,.nils]]⟩ : Heap) = H:=⟨_,rfl⟩
 obtain ⟨S,hS⟩ : ∃ S,h.size = S:=⟨_,rfl⟩
 have hs : H0.size = S + 3:=by rw [← hH0,← hS]; rfl
 have hN : H0.N = S:=by rw [← hH0,← hS]
 have gS0 : H0.get S = .cells 0 3 [G qz,x,y]:=by rw [← hH0,← hS,get_mk_ge _ _ _ _ (Nat.le_refl _),Nat.sub_self]; rfl
 have g1 : H0.get (S + 1) = .cells 0 3 [G 0,.nils,.nils]:=by rw [← hH0,← hS,get_mk_ge _ _ _ _ (by omega),Nat.add_sub_cancel_left]; rfl
 have g3 : H0.get (S + 2) = .cells 0 3 [G n,.nils,.nils]:=by rw [← hH0,← hS,get_mk_ge _ _ _ _ (by omega),Nat.add_sub_cancel_left,hn]; rfl
 have low : ∀ h',Kp (· = S + 2) H0 h' → Kp (fun _ => False) (frameOf h) h':=fun h' k => Kp.low (by rw [k.lo,← hH0]) (by rw [k.N,hN,hS])
 have base : ∀ h',Kp (· = S + 2) H0 h' → MR h' x X ∧ MR h' y Y:=fun h' k => ⟨MR.kp (mx.lo []) (low h' k),MR.kp (my.lo []) (low h' k)⟩
 have l1 : Tr tbl J c18_l1 (fun s h' => h' = H0 ∧ s.get [zF] = .ptr S 0 3 ∧ s.get [zT] = .ptr (S + 1) 0 3 ∧ s.get [zF,zF] = .ptr (S + 2) 0 3 ∧ s.get [zT,zF] = G ((0 : Nat) : Int)) (.exit 0) (fun s h => ∃ xb xw B W,(T2t H0 h (S + 2) xb xw (B.map gs) (W.map gs) ∧ h.get (S + 2) = .cells 0 3 [G n,xb,xw] ∧ (B.length = n ∧ r01 n B) ∧ W.length = n ∧ r01 n W) ∧ s.get [zT] = .ptr (S + 1) 0 3 ∧ s.get [zF,zF] = .ptr (S + 2) 0 3):=by
  refine Tr.pre (P:=T1P S n 0 H0) (fun s h' hp => by
   obtain ⟨rfl,a1,a2,a3,a4⟩:=hp
   exact ⟨.nils,.nils,[],[],⟨T2t.nil _ _,g3,⟨rfl,fun l hl => by cases hl⟩,rfl,fun l hl => by cases hl⟩,a1,a2,a3,a4⟩) ?_
  refine Tr.rounds (e:=.exit 0) (P:=fun i => T1P S n i H0) (M:=n) (fun i hi => c18_b1_ok J k56 gS0 base (by omega) (by omega) (by omega) (by omega) hi) ?_ (by simp) 0 (by omega)
  unfold T1P F18
  refine Tr.w fun s1 H1 hp _ kR => W.trim ?_
  obtain ⟨xb,xw,B,Y0,⟨tt,g3,c1,c2⟩,q⟩:=hp
  clear base low
  refine W.assoc ?_
  refine zCh ?_
  simp (disch:=omega) [c18_o3,zG,q,g3]
  refine zCh ?_
  simp (disch:=omega) [zG,q]
  exact kR _ _ ⟨_,_,_,_,⟨tt,g3,c1,c2⟩,by simp [T.get,q]⟩
 have fin : ∀ h' xb xw B W,T2t H0 h' (S + 2) xb xw (B.map gs) (W.map gs) → h'.get (S + 2) = .cells 0 3 [G n,xb,xw] → (B.length = n ∧ r01 n B) → (W.length = n ∧ r01 n W) → ∃ h2,Eff.app (.put (S + 1) 3 0 [G n,xb,xw]) h' = some h2 ∧ h2.get (S + 1) = .cells 0 3 [G n,xb,xw] ∧
   (if (one [AV.agg [G n,xb,xw]]).flat then [] else h2.own) = h2.own ∧ (∃ c m,xb = .slice c 0 m m) ∧ (∃ c m,xw = .slice c 0 m m) ∧ (TB h (h.plus h2.own) xb (B.map gs) ∧ tabQ n B = zT) ∧ TB h (h.plus h2.own) xw (W.map gs) ∧ tabQ n W = zT:=fun h' xb xw B Y0 tt g ⟨b1,b2⟩ ⟨w1,w2⟩ => by
  have N' : h'.N = S:=by rw [tt.k.N,hN]
  have g1':=tt.k.at g1 (by simp) (by omega)
  have kU : Kp (· = S + 1) h' (h'.upd (S + 1) (.cells 0 3 [G n,xb,xw])):=Kp.upd _ _ _ (by omega) rfl
  have lowU : Kp (fun _ => False) (frameOf h) (h'.upd (S + 1) (.cells 0 3 [G n,xb,xw])):=Kp.low (by show h'.lo = _; rw [tt.k.lo,← hH0]) (by show h'.N = _; rw [N',hS])
  have lowh:=low h' tt.k
  have fs : (frameOf h).size ≤ H0.size:=by show h.size + 0 ≤ _; omega
  have tb1:=tt.tb lowh fs
  have tb2:=tt.swap.tb lowh fs
  have tb1' : TB (frameOf h) (h'.upd (S + 1) (.cells 0 3 [G n,xb,xw])) xb (B.map gs):=by
   have t0 : TB H0 h' xb (B.map gs) → TB (frameOf h) (h'.upd (S + 1) (.cells 0 3 [G n,xb,xw])) xb (B.map gs):=fun t => TB.kpm t kU (fun b e => by omega) lowU fs
   obtain ⟨rs,lv,hl,hr⟩:=tt.rb
   refine ⟨lowU,fun q hq => Nat.le_trans fs (tt.b0 q hq),rs,lv.kp kU (fun b e q => by have:=tt.b0 b e; omega),hl,fun i r hi => ?_⟩
   obtain ⟨cs,b,h1,h2,h3,h4,h5,h6⟩:=hr i r hi
   exact ⟨cs,b,h1,h2,kU.at h3 (by simp) (by omega),h4,by omega⟩
  have tb2' : TB (frameOf h) (h'.upd (S + 1) (.cells 0 3 [G n,xb,xw])) xw (Y0.map gs):=by
   obtain ⟨rs,lv,hl,hr⟩:=tt.rw'
   refine ⟨lowU,fun q hq => Nat.le_trans fs (tt.w0 q hq),rs,lv.kp kU (fun b e q => by have:=tt.w0 b e; omega),hl,fun i r hi => ?_⟩
   obtain ⟨cs,b,h1,h2,h3,h4,h5,h6⟩:=hr i r hi
   exact ⟨cs,b,h1,h2,kU.at h3 (by simp) (by omega),h4,by omega⟩
  obtain ⟨c1,r1,e1,_⟩:=tb1.sl (i:=0) (by rw [List.length_map]; omega)
  obtain ⟨c2,r2,e2,_⟩:=tb2.sl (i:=0) (by rw [List.length_map]; omega)
  refine ⟨_,?_,upd_same _ _ _ (by omega) (get_lt g1' (by simp)),?_,⟨c1,_,e1⟩,⟨c2,_,e2⟩,⟨tb1'.fr,r01_tab b2 b1⟩,tb2'.fr,r01_tab w2 w1⟩
  ·rw [put_gen _ _ _ _ _ _ _ (by omega) g1' (by simp)]; rfl
  ·rw [if_neg (by rw [e1]; simp [one,AV.flat,AV.flats])]
 rw [hS] at kk hH0
 clear base low mx my k56
 have hn3 : 1 ≤ n ∧ n ≤ 3:=by omega
 refine Tr.w fun s1 H1 hp _ kR => ?_
 obtain ⟨rfl,rfl⟩:=hp
 have q : True:=trivial
 refine zCh ?_
 simp (disch:=first|omega|exact zE rfl|exact zO|exact zL rfl) [c18_o0,size_mk,get_mk_lt,get_mk_ge,frameOf,Eff.app,Heap.setOwn,q,hS]
 refine zCh ?_
 simp (disch:=first|omega|exact zE rfl|exact zO|exact zL rfl) [c18_o1,size_mk,get_mk_lt,get_mk_ge,frameOf,Eff.app,Heap.setOwn,q,kk,hS,hH0]
 refine W.assoc ?_
 refine zCh ?_
 simp (disch:=first|omega|exact zE rfl|exact zO|exact zL rfl) [c18_o2,size_mk,get_mk_lt,get_mk_ge,frameOf,Eff.app,Heap.setOwn,q,hH0]
 refine W.seq (W.block ?_)
 refine W.use (l1) (by simp (disch:=first|omega|exact zE rfl|exact zO|exact zL rfl) [size_mk,get_mk_lt,get_mk_ge,frameOf,Eff.app,Heap.setOwn,q]) fun s1 H1 hp => ?_
 obtain ⟨xb,xw,B,Y0,⟨tt,g,c1,c2⟩,q⟩:=hp
 try simp only [zW,if_true]
 obtain ⟨h2,p1,gU,f1,⟨d1,m1,rfl⟩,⟨d2,m2,rfl⟩,f2,f3⟩:=fin _ _ _ _ _ tt g c1 c2
 refine zCh ?_
 simp (disch:=omega) [c18_o13,zG,q,g,p1]
 refine W.ret ?_
 try simp only [zW,if_true]
 refine kR _ _ ?_
 refine ⟨[.agg [G n,.slice d1 0 m1 m1,.slice d2 0 m2 m2]],by simp [T.get,c18,evRess,evRes,loadA,gU,takeA,q],n,_,_,B,Y0,rfl,hn3,?_,?_⟩
 ·rw [f1]; exact f2
 ·rw [f1]; exact f3
end
def Pre18 (a : ATs) (args : List AV) (h : Heap) : Prop:=Ok24 a h ∧ args = [.agg [G a.q,a.x,a.y]]
def Post18 (a : ATs) (h : Heap) (v : AV) (own : List AObj) : Prop:=∃ n x' y' B W,v = .agg [G (n : Nat),x',y'] ∧ (1 ≤ n ∧ n ≤ 3) ∧ (TB h (h.plus own) x' (B.map gs) ∧ tabQ n B = zT) ∧ TB h (h.plus own) y' (W.map gs) ∧ tabQ n W = zT
noncomputable def T49 : CallF:=addK tbl T48 18 Pre18 Post18
theorem t49 : Sound zp T49:=Sound.addK follows ok t48 (by decide) _ _
abbrev K18 (J : CallF) : Prop:=∀ (h : Heap) (a : ATs),Ok24 a h → ∃ v own,J 18 [.agg [G a.q,a.x,a.y]] h = some (v,own,zF) ∧ Post18 a h v own
theorem k18 : K18 T49:=fun h a o => by
 obtain ⟨v,own,e,l⟩:=addK_some (Pre:=Pre18) (Post:=Post18) (fun a args h hp => by
  obtain ⟨o,rfl⟩:=hp
  exact c18_ok T48 k19_48 k56 (fun _ _ => by simp (disch:=decide) only [T1,T2,T3,T4,T5,T6,T7,T8,T9,T10,T11,T12,T13,T14,T15,T16,T17,T18,T19,T20,T21,T22,T23,T24,T25,T26,T27,T28,T29,T30,T31,T32,T33,T34,T35,T36,T37,T38,T39,T40,T41,T42,T43,T44,T45,T46,T47,T48,addI_ne,addX_ne,addV_ne,addK_ne]; rfl) h o.1 o.2) a _ h ⟨o,rfl⟩
 exact ⟨v,own,e,l⟩
end Go.Proofs.Ytljgfdamdcikgaa.Ev
set_option linter.unusedVariables false
set_option linter.unusedSimpArgs false
namespace Go.Proofs.Ytljgfdamdcikgaa.Ev
open Go Go.AEv
def ge (g : List (List Nat)) (i j : Nat) : Nat:=(g.getD i []).getD j 0
def pf (f : Nat → Nat) (a : Nat) : Nat:=((List.range a).map f).sum
theorem pf_succ (f : Nat → Nat) (a : Nat) : pf f (a + 1) = pf f a + f a:=by
 unfold pf
 rw [List.range_succ,List.map_append,List.sum_append]; simp
section
variable {S : List (List Nat)}
def eS (S : List (List Nat)) (a b : Nat) : Nat:=(S.getD a []).getD b 0
def lS (S : List (List Nat)) (a : Nat) : Nat:=(S.getD a []).length
def wc (S : List (List Nat)) (a c d : Nat) : Nat:=pf (fun d => if eS S c d = a then 1 else 0) d
def w2 (S : List (List Nat)) (a b : Nat) : Nat:=pf (fun b => lS S (eS S a b)) b
def w3 (S : List (List Nat)) (a b : Nat) : Nat:=pf (fun b => if eS S a b = a then 1 else 0) b
variable (nd : ∀ i,(S.getD i []).Nodup)
include nd
omit nd in
end
structure BdS (S : List (List Nat)) : Prop where
 l : ∀ a,lS S a ≤ 1000
 n : S.length ≤ 1000
section
variable {S : List (List Nat)} (o : BdS S)
include o
omit o in
omit o in
end
section
variable {S : List (List Nat)}
def wl (S : List (List Nat)) : Nat → Nat → List (List Nat)
 | 0,i => [[i]]
 | k + 1,i => (S.getD i []).flatMap fun c => (wl S k c).map (i :: ·)
def NoR (S : List (List Nat)) (k : Nat) : Prop:=∀ v s,s + 1 ≤ k → ¬ Rw S (s + 1) v v
theorem NoR.le {k l : Nat} (n : NoR S k) (h : l ≤ k) : NoR S l:=fun v s hs => n v s (by omega)
theorem rowC_pos (k : Nat) : 0 < (rowC S k).sum ↔ ∃ i,i < S.length ∧ al S k i = zT:=by
 have : ∀ n,0 < pf (cnt S k) n ↔ ∃ i,i < n ∧ al S k i = zT:=fun n => by
  induction n with
  | zero => exact ⟨fun h => absurd h (by simp [pf]),fun ⟨i,h,_⟩ => absurd h (by omega)⟩
  | succ n ih =>
   rw [pf_succ]
   have hd:=cnt_al S k n
   constructor
   ·intro h
    by_cases c : 0 < pf (cnt S k) n
    ·obtain ⟨i,h1,h2⟩:=ih.1 c
     exact ⟨i,by omega,h2⟩
    ·exact ⟨n,by omega,by rw [← hd,decide_eq_true_eq]; omega⟩
   ·rintro ⟨i,h1,h2⟩
    by_cases c : i = n
    ·subst c
     rw [← hd,decide_eq_true_eq] at h2
     omega
    ·have:=ih.2 ⟨i,by omega,h2⟩
     omega
 exact this _
end
def ix (S : List (List Nat)) : Int → List Nat → Nat
 | _,[] => 0
 | now,c :: L => ft (pN S now) (cnt S L.length) c 0 + ix S (c : Int) L
def VC (S : List (List Nat)) : Int → List Nat → Prop
 | _,[] => True
 | now,c :: L => c < S.length ∧ pN S now c = zT ∧ VC S (c : Int) L
section
variable {S : List (List Nat)}
theorem ft_nw (hs : Srt S) (now : Int) (w : Nat → Nat) : ft (pN S now) w S.length 0 = ((nwL S now).map w).sum:=by
 rw [ft_sum,nw_filter hs]
theorem nw_cnt (c k : Nat) : ((nwL S (c : Int)).map (cnt S k)).sum = cnt S (k + 1) c:=by
 unfold nwL
 rw [if_neg (by omega),Int.toNat_natCast]; rfl
theorem fd_ft {p : Nat → Bool} {w : Nat → Nat} : ∀ {d i k : Nat},k < ft p w d i → ∃ e,e < d ∧ (fd p w d i k).1 = i + e ∧ p (i + e) = zT ∧ k = ft p w e i + (fd p w d i k).2 ∧ (fd p w d i k).2 < w (i + e)
 | 0,i,k,h => by simp [ft] at h
 | d + 1,i,k,h => by
  unfold ft at h
  unfold fd
  cases hp : p i
  ·rw [hp,if_neg (by simp),Nat.zero_add] at h
   rw [if_neg (by simp)]
   obtain ⟨e,h1,h2,h3,h4,h5⟩:=fd_ft h
   refine ⟨e + 1,by omega,by rw [h2]; omega,by rw [show i + (e + 1) = i + 1 + e by omega]; exact h3,?_,by rw [show i + (e + 1) = i + 1 + e by omega]; exact h5⟩
   unfold ft
   rw [hp,if_neg (by simp),Nat.zero_add]
   exact h4
  ·rw [hp,if_pos rfl] at h
   rw [if_pos rfl]
   by_cases e : k < w i
   ·rw [if_pos e]
    exact ⟨0,by omega,rfl,hp,by simp [ft],e⟩
   ·rw [if_neg e]
    obtain ⟨e,h1,h2,h3,h4,h5⟩:=fd_ft (p:=p) (w:=w) (d:=d) (i:=i + 1) (k:=k - w i) (by omega)
    refine ⟨e + 1,by omega,by rw [h2]; omega,by rw [show i + (e + 1) = i + 1 + e by omega]; exact h3,?_,by rw [show i + (e + 1) = i + 1 + e by omega]; exact h5⟩
    unfold ft
    rw [hp,if_pos rfl]
    omega
theorem ix_itm (hs : Srt S) : ∀ {j : Nat} {now : Int} {k : Nat},(0 < j ∧ k < ((nwL S now).map (cnt S (j - 1))).sum) ∨ (j = 0 ∧ k = 0) → ix S now (itm S j (nwL S now) k) = k ∧ VC S now (itm S j (nwL S now) k)
 | 0,now,k,h => by
  refine ⟨?_,trivial⟩
  rcases h with h | h
  ·exact absurd h.1 (by omega)
  ·exact h.2.symm
 | j + 1,now,k,h => by
  have h:=(h.resolve_right (fun e => by cases e.1)).2
  rw [Nat.add_sub_cancel,← ft_nw hs] at h
  obtain ⟨e,h1,h2,h3,h4,h5⟩:=fd_ft h
  rw [fd_pk h,nw_filter hs] at h2 h4 h5
  rw [Nat.zero_add] at h2 h3 h5
  have hi : itm S (j + 1) (nwL S now) k = (pk (cnt S j) (nwL S now) k).1 :: itm S j (S.getD (pk (cnt S j) (nwL S now) k).1 []) (pk (cnt S j) (nwL S now) k).2:=rfl
  rw [hi,h2]
  have hnw : S.getD e [] = nwL S (e : Int):=by unfold nwL; rw [if_neg (by omega),Int.toNat_natCast]
  rw [hnw]
  have ih:=ix_itm hs (j:=j) (now:=(e : Int)) (k:=(pk (cnt S j) (nwL S now) k).2) (by
   cases j with
   | zero =>
    have : cnt S 0 e = 1:=rfl
    exact .inr ⟨rfl,by omega⟩
   | succ j =>
    refine .inl ⟨by omega,?_⟩
    rw [Nat.add_sub_cancel,nw_cnt]
    exact h5)
  refine ⟨?_,h1,h3,ih.2⟩
  show ft (pN S now) (cnt S (itm S j (nwL S (e : Int)) (pk (cnt S j) (nwL S now) k).2).length) e 0 + ix S (e : Int) _ = k
  rw [itm_len,ih.1]
  exact h4.symm
end
def exC (S : List (List Nat)) (k i : Nat) : Nat:=((S.getD i []).find? (al S k)).getD 0
def ext (S : List (List Nat)) : Nat → Nat → List Nat
 | 0,_ => []
 | k + 1,i => exC S k i :: ext S k (exC S k i)
section
variable {S : List (List Nat)}
end
def stO (f : Nat → Option Int) (acc : Option (Nat × Int)) (j : Nat) : Option (Nat × Int):=match f j with
 | none => acc
 | some n => match acc with
  | none => some (j,n)
  | some (a,b) => if b < n then some (j,n) else some (a,b)
def bO (f : Nat → Option Int) : Option (Nat × Int) → List Nat → Option (Nat × Int)
 | acc,[] => acc
 | acc,j :: L => bO f (stO f acc j) L
section
variable {f : Nat → Option Int}
theorem stO_none {acc : Option (Nat × Int)} {j : Nat} (h : f j = none) : stO f acc j = acc:=by unfold stO; rw [h]
theorem stO_new {j : Nat} {n : Int} (h : f j = some n) : stO f none j = some (j,n):=by unfold stO; rw [h]
theorem stO_gt {a j : Nat} {b n : Int} (h : f j = some n) (c : b < n) : stO f (some (a,b)) j = some (j,n):=by
 unfold stO; rw [h]; exact if_pos c
theorem stO_le {a j : Nat} {b n : Int} (h : f j = some n) (c : ¬ b < n) : stO f (some (a,b)) j = some (a,b):=by
 unfold stO; rw [h]; exact if_neg c
theorem bO_app : ∀ (L M : List Nat) (acc : Option (Nat × Int)),bO f acc (L ++ M) = bO f (bO f acc L) M
 | [],_,_ => rfl
 | j :: L,M,acc => bO_app L M (stO f acc j)
theorem bO_some : ∀ (L : List Nat) (a : Nat) (b : Int),∃ j n,bO f (some (a,b)) L = some (j,n) ∧ ((j = a ∧ n = b ∧ ∀ k ∈ L,∀ m,f k = some m → m ≤ n) ∨ (∃ A B,L = A ++ j :: B ∧ f j = some n ∧ b < n ∧ (∀ k ∈ A,∀ m,f k = some m → m < n) ∧ ∀ k ∈ B,∀ m,f k = some m → m ≤ n))
 | [],a,b => ⟨a,b,rfl,.inl ⟨rfl,rfl,fun k h => by cases h⟩⟩
 | c :: L,a,b => by
  show ∃ j n,bO f (stO f (some (a,b)) c) L = some (j,n) ∧ _
  cases e : f c with
  | none =>
   rw [stO_none e]
   obtain ⟨j,n,h1,h2⟩:=bO_some L a b
   refine ⟨j,n,h1,?_⟩
   rcases h2 with ⟨h3,h4,h5⟩ | ⟨A,B,h3,h4,h5,h6,h7⟩
   ·refine .inl ⟨h3,h4,fun k hk m hm => ?_⟩
    rcases List.mem_cons.1 hk with rfl | hk
    ·rw [e] at hm; cases hm
    ·exact h5 k hk m hm
   ·refine .inr ⟨c :: A,B,by rw [h3]; rfl,h4,h5,fun k hk m hm => ?_,h7⟩
    rcases List.mem_cons.1 hk with rfl | hk
    ·rw [e] at hm; cases hm
    ·exact h6 k hk m hm
  | some x =>
   by_cases hx : b < x
   ·rw [stO_gt e hx]
    obtain ⟨j,n,h1,h2⟩:=bO_some L c x
    refine ⟨j,n,h1,.inr ?_⟩
    rcases h2 with ⟨h3,h4,h5⟩ | ⟨A,B,h3,h4,h5,h6,h7⟩
    ·subst h3; subst h4
     exact ⟨[],L,rfl,e,hx,fun k hk => (by cases hk),h5⟩
    ·refine ⟨c :: A,B,by rw [h3]; rfl,h4,by omega,fun k hk m hm => ?_,h7⟩
     rcases List.mem_cons.1 hk with rfl | hk
     ·rw [e] at hm; cases hm; exact h5
     ·exact h6 k hk m hm
   ·rw [stO_le e hx]
    obtain ⟨j,n,h1,h2⟩:=bO_some L a b
    refine ⟨j,n,h1,?_⟩
    rcases h2 with ⟨h3,h4,h5⟩ | ⟨A,B,h3,h4,h5,h6,h7⟩
    ·refine .inl ⟨h3,h4,fun k hk m hm => ?_⟩
     rcases List.mem_cons.1 hk with rfl | hk
     ·rw [e] at hm; cases hm; omega
     ·exact h5 k hk m hm
    ·refine .inr ⟨c :: A,B,by rw [h3]; rfl,h4,h5,fun k hk m hm => ?_,h7⟩
     rcases List.mem_cons.1 hk with rfl | hk
     ·rw [e] at hm; cases hm; omega
     ·exact h6 k hk m hm
theorem bO_none : ∀ (L : List Nat),(bO f none L = none ∧ ∀ k ∈ L,f k = none) ∨ ∃ j n A B,bO f none L = some (j,n) ∧ L = A ++ j :: B ∧ f j = some n ∧ (∀ k ∈ A,∀ m,f k = some m → m < n) ∧ ∀ k ∈ B,∀ m,f k = some m → m ≤ n
 | [] => .inl ⟨rfl,fun k h => by cases h⟩
 | c :: L => by
  show (bO f (stO f none c) L = none ∧ _) ∨ ∃ j n A B,bO f (stO f none c) L = some (j,n) ∧ _
  cases e : f c with
  | none =>
   rw [stO_none e]
   rcases bO_none L with ⟨h1,h2⟩ | ⟨j,n,A,B,h1,h2,h3,h4,h5⟩
   ·refine .inl ⟨h1,fun k hk => ?_⟩
    rcases List.mem_cons.1 hk with rfl | hk
    ·exact e
    ·exact h2 k hk
   ·refine .inr ⟨j,n,c :: A,B,h1,by rw [h2]; rfl,h3,fun k hk m hm => ?_,h5⟩
    rcases List.mem_cons.1 hk with rfl | hk
    ·rw [e] at hm; cases hm
    ·exact h4 k hk m hm
  | some x =>
   rw [stO_new e]
   obtain ⟨j,n,h1,h2⟩:=bO_some (f:=f) L c x
   refine .inr ⟨j,n,?_⟩
   rcases h2 with ⟨h3,h4,h5⟩ | ⟨A,B,h3,h4,h5,h6,h7⟩
   ·subst h3; subst h4
    exact ⟨[],L,h1,rfl,e,fun k hk => (by cases hk),h5⟩
   ·refine ⟨c :: A,B,h1,by rw [h3]; rfl,h4,fun k hk m hm => ?_,h7⟩
    rcases List.mem_cons.1 hk with rfl | hk
    ·rw [e] at hm; cases hm; exact h5
    ·exact h6 k hk m hm
theorem bO_mem {L : List Nat} {j : Nat} {n : Int} (h : bO f none L = some (j,n)) : ∃ A B,L = A ++ j :: B ∧ f j = some n ∧ (∀ k ∈ A,∀ m,f k = some m → m < n) ∧ ∀ k ∈ L,∀ m,f k = some m → m ≤ n:=by
 rcases bO_none (f:=f) L with ⟨h1,_⟩ | ⟨j',n',A,B,h1,h2,h3,h4,h5⟩
 ·rw [h] at h1; cases h1
 ·rw [h] at h1
  obtain ⟨rfl,rfl⟩:=Prod.mk.inj (Option.some.inj h1)
  refine ⟨A,B,h2,h3,h4,fun k hk m hm => ?_⟩
  rw [h2] at hk
  rcases List.mem_append.1 hk with hk | hk
  ·exact Int.le_of_lt (h4 k hk m hm)
  ·rcases List.mem_cons.1 hk with rfl | hk
   ·rw [h3] at hm; cases hm; exact Int.le_refl _
   ·exact h5 k hk m hm
end
def gv (S : List (List Nat)) (u : Nat → Nat → Int) : Nat → Nat → Option Int
 | 0,i => some (u 0 i)
 | l + 1,i => (bO (gv S u l) none (S.getD i [])).map fun p => p.2 + u (l + 1) i
def bC (S : List (List Nat)) (u : Nat → Nat → Int) (l : Nat) (L : List Nat) : Nat:=((bO (gv S u l) none L).map (·.1)).getD 0
def bP (S : List (List Nat)) (u : Nat → Nat → Int) : Nat → List Nat → List Nat
 | 0,_ => []
 | l + 1,L => bC S u l L :: bP S u l (S.getD (bC S u l L) [])
theorem bP_len (S : List (List Nat)) (u : Nat → Nat → Int) : ∀ l L,(bP S u l L).length = l
 | 0,_ => rfl
 | l + 1,L => by
  show (bC S u l L :: bP S u l _).length = _
  rw [List.length_cons,bP_len]
section
variable {S : List (List Nat)} {u : Nat → Nat → Int}
theorem gv_al : ∀ l i,(gv S u l i).isSome = al S l i
 | 0,_ => rfl
 | l + 1,i => by
  have e : gv S u (l + 1) i = (bO (gv S u l) none (S.getD i [])).map fun p => p.2 + u (l + 1) i:=rfl
  have a : al S (l + 1) i = (S.getD i []).any (al S l):=rfl
  rw [e,a,Option.isSome_map]
  rcases bO_none (f:=gv S u l) (S.getD i []) with ⟨h1,h2⟩ | ⟨j,n,A,B,h1,h2,h3,_⟩
  ·rw [h1]
   symm
   rw [Option.isSome_none,List.any_eq_false]
   intro k hk
   rw [← gv_al l k,h2 k hk]; simp
  ·rw [h1]
   symm
   rw [Option.isSome_some,List.any_eq_true]
   exact ⟨j,by rw [h2]; simp,by rw [← gv_al l j,h3]; rfl⟩
theorem gv_next {l i : Nat} {n : Int} (h : gv S u (l + 1) i = some n) : bO (gv S u l) none (S.getD i []) = some (bC S u l (S.getD i []),n - u (l + 1) i):=by
 have e : gv S u (l + 1) i = (bO (gv S u l) none (S.getD i [])).map fun p => p.2 + u (l + 1) i:=rfl
 rw [e,Option.map_eq_some_iff] at h
 obtain ⟨⟨a,b⟩,h1,h2⟩:=h
 unfold bC
 rw [h1]
 simp only [Option.map_some,Option.getD_some]
 rw [← h2,Int.add_sub_cancel]
def br (u : Nat → Nat → Int) : List Nat → Int
 | [] => 0
 | c :: P => u P.length c + br u P
theorem bP_br : ∀ {l : Nat} {L : List Nat} {c : Nat} {n : Int},bO (gv S u l) none L = some (c,n) → br u (bP S u (l + 1) L) = n
 | 0,L,c,n,h => by
  obtain ⟨A,B,_,h2,_⟩:=bO_mem h
  have e : bC S u 0 L = c:=by unfold bC; rw [h]; rfl
  show u (bP S u 0 _).length (bC S u 0 L) + br u (bP S u 0 _) = n
  rw [bP_len,e]
  have : gv S u 0 c = some (u 0 c):=rfl
  rw [this] at h2
  show u 0 c + 0 = n
  have:=Option.some.inj h2
  omega
 | l + 1,L,c,n,h => by
  obtain ⟨A,B,_,h2,_⟩:=bO_mem h
  have e : bC S u (l + 1) L = c:=by unfold bC; rw [h]; rfl
  have h3:=bP_br (gv_next h2)
  show u (bP S u (l + 1) _).length (bC S u (l + 1) L) + br u (bP S u (l + 1) (S.getD (bC S u (l + 1) L) [])) = n
  rw [bP_len,e,h3]; omega
theorem bP_vc (hs : Srt S) : ∀ {l : Nat} {now : Int} {c : Nat} {n : Int},bO (gv S u l) none (nwL S now) = some (c,n) → VC S now (bP S u (l + 1) (nwL S now))
 | l,now,c,n,h => by
  obtain ⟨A,B,h1,h2,_⟩:=bO_mem h
  have e : bC S u l (nwL S now) = c:=by unfold bC; rw [h]; rfl
  have hm : c ∈ nwL S now:=by rw [h1]; simp
  have hf : c ∈ (List.range' 0 S.length).filter (pN S now):=by rw [nw_filter hs]; exact hm
  obtain ⟨f1,f2⟩:=List.mem_filter.1 hf
  have hc : c < S.length:=by have:=List.mem_range'_1.1 f1; omega
  show VC S now (bC S u l (nwL S now) :: bP S u l (S.getD (bC S u l (nwL S now)) []))
  rw [e]
  refine ⟨hc,f2,?_⟩
  cases l with
  | zero => trivial
  | succ l =>
   have hn : S.getD c [] = nwL S (c : Int):=by unfold nwL; rw [if_neg (by omega),Int.toNat_natCast]
   have h3:=gv_next h2
   rw [hn] at h3 ⊢
   exact bP_vc hs h3
theorem bP_best (hs : Srt S) : ∀ {P : List Nat} {now : Int} {c : Nat},VC S now (c :: P) → ∃ c' n,bO (gv S u P.length) none (nwL S now) = some (c',n) ∧ br u (c :: P) ≤ n ∧ (br u (c :: P) = n → c :: P = bP S u (P.length + 1) (nwL S now) ∨ ∃ t,t < P.length + 1 ∧ (∀ k,k < t → (c :: P)[k]? = (bP S u (P.length + 1) (nwL S now))[k]?) ∧ ∃ x y,(c :: P)[t]? = some x ∧ (bP S u (P.length + 1) (nwL S now))[t]? = some y ∧ y < x)
 | [],now,c,⟨h1,h2,_⟩ => by
  have hm : c ∈ nwL S now:=by rw [← nw_filter hs]; exact List.mem_filter.2 ⟨List.mem_range'_1.2 ⟨by omega,by omega⟩,h2⟩
  have g0 : gv S u 0 c = some (u 0 c):=rfl
  rcases bO_none (f:=gv S u 0) (nwL S now) with ⟨_,e⟩ | ⟨j,n,A,B,e1,e2,e3,e4,e5⟩
  ·rw [e c hm] at g0; cases g0
  ·obtain ⟨_,_,_,_,_,mx⟩:=bO_mem e1
   have hb : br u [c] = u 0 c:=by show u 0 c + 0 = _; omega
   have hC : bC S u 0 (nwL S now) = j:=by unfold bC; rw [e1]; rfl
   refine ⟨j,n,e1,by rw [hb]; exact mx c hm _ g0,fun e => ?_⟩
   have hP : bP S u (([] : List Nat).length + 1) (nwL S now) = [j]:=by
    show bC S u 0 (nwL S now) :: [] = _
    rw [hC]
   rw [hP]
   rw [e2] at hm
   rcases List.mem_append.1 hm with hm | hm
   ·have:=e4 c hm _ g0
    omega
   ·rcases List.mem_cons.1 hm with rfl | hm
    ·exact .inl rfl
    ·right
     refine ⟨0,by omega,fun k hk => absurd hk (by omega),c,j,rfl,rfl,?_⟩
     have sr : (nwL S now).Pairwise (· < ·):=by rw [← nw_filter hs]; exact List.Pairwise.filter _ (by rw [← List.range_eq_range']; exact List.pairwise_lt_range)
     rw [e2] at sr
     exact (List.pairwise_cons.1 (List.pairwise_append.1 sr).2.1).1 c hm
 | d :: P,now,c,⟨h1,h2,h3⟩ => by
  have hm : c ∈ nwL S now:=by rw [← nw_filter hs]; exact List.mem_filter.2 ⟨List.mem_range'_1.2 ⟨by omega,by omega⟩,h2⟩
  have hn : ∀ c : Nat,S.getD c [] = nwL S (c : Int):=fun c => by unfold nwL; rw [if_neg (by omega),Int.toNat_natCast]
  obtain ⟨c',n',i1,i2,i3⟩:=bP_best (P:=P) hs h3
  have gc : gv S u (P.length + 1) c = some (n' + u (P.length + 1) c):=by
   show (bO (gv S u P.length) none (S.getD c [])).map _ = _
   rw [hn,i1]; rfl
  have hb : br u (c :: d :: P) = u (P.length + 1) c + br u (d :: P):=rfl
  have hl : (d :: P).length = P.length + 1:=rfl
  rw [hl]
  rcases bO_none (f:=gv S u (P.length + 1)) (nwL S now) with ⟨_,e⟩ | ⟨j,n,A,B,e1,e2,e3,e4,e5⟩
  ·rw [e c hm] at gc; cases gc
  ·obtain ⟨_,_,_,_,_,mx⟩:=bO_mem e1
   have hC : bC S u (P.length + 1) (nwL S now) = j:=by unfold bC; rw [e1]; rfl
   have le:=mx c hm _ gc
   refine ⟨j,n,e1,by rw [hb]; omega,fun e => ?_⟩
   have hP : bP S u (P.length + 1 + 1) (nwL S now) = j :: bP S u (P.length + 1) (S.getD j []):=by
    show bC S u (P.length + 1) (nwL S now) :: bP S u (P.length + 1) (S.getD (bC S u (P.length + 1) (nwL S now)) []) = _
    rw [hC]
   rw [hP]
   have hm':=hm
   rw [e2] at hm'
   rcases List.mem_append.1 hm' with hm' | hm'
   ·have:=e4 c hm' _ gc
    omega
   ·rcases List.mem_cons.1 hm' with rfl | hm'
    ·rw [e3] at gc
     have e6:=Option.some.inj gc
     rcases i3 (by omega) with i4 | ⟨t,t1,t2,x,y,t3,t4,t5⟩
     ·left
      rw [hn,← i4]
     ·right
      refine ⟨t + 1,by omega,fun k hk => ?_,x,y,t3,by rw [hn]; exact t4,t5⟩
      cases k with
      | zero => rfl
      | succ k =>
       rw [hn]
       exact t2 k (by omega)
    ·right
     refine ⟨0,by omega,fun k hk => absurd hk (by omega),c,j,rfl,rfl,?_⟩
     have sr : (nwL S now).Pairwise (· < ·):=by rw [← nw_filter hs]; exact List.Pairwise.filter _ (by rw [← List.range_eq_range']; exact List.pairwise_lt_range)
     rw [e2] at sr
     exact (List.pairwise_cons.1 (List.pairwise_append.1 sr).2.1).1 c hm'
def noneZ : Int:=-1000000000
def fmx (f : Nat → Int) : Int → List Nat → Int
 | r,[] => r
 | r,k :: L => fmx f (max r (f k)) L
def bsZ (S : List (List Nat)) (u : Nat → Nat → Int) : Nat → Nat → Int
 | 0,i => max noneZ (0 + u 0 i)
 | l + 1,i => max noneZ (fmx (bsZ S u l) noneZ (S.getD i []) + u (l + 1) i)
theorem fmx_ge (f : Nat → Int) : ∀ (L : List Nat) (r : Int),r ≤ fmx f r L ∧ ∀ k ∈ L,f k ≤ fmx f r L
 | [],r => ⟨Int.le_refl _,fun k h => by cases h⟩
 | k :: L,r => by
  obtain ⟨h1,h2⟩:=fmx_ge f L (max r (f k))
  show r ≤ fmx f (max r (f k)) L ∧ ∀ c ∈ k :: L,f c ≤ fmx f (max r (f k)) L
  refine ⟨by omega,fun c hc => ?_⟩
  rcases List.mem_cons.1 hc with rfl | hc
  ·omega
  ·exact h2 c hc
theorem fmx_le (f : Nat → Int) {b : Int} : ∀ (L : List Nat) (r : Int),r ≤ b → (∀ k ∈ L,f k ≤ b) → fmx f r L ≤ b
 | [],r,h,_ => h
 | k :: L,r,h,h2 => by
  have:=h2 k (by simp)
  exact fmx_le f L (max r (f k)) (by omega) fun c hc => h2 c (by simp [hc])
theorem bs_gv {N : Nat} (hu : ∀ l,l ≤ N → ∀ i,-5000 ≤ u l i ∧ u l i ≤ 5000) (hN : N ≤ 40) : ∀ l,l ≤ N → ∀ i,(∀ n,gv S u l i = some n → bsZ S u l i = n ∧ -5000 * ((l : Int) + 1) ≤ n ∧ n ≤ 5000 * ((l : Int) + 1)) ∧ (gv S u l i = none → noneZ ≤ bsZ S u l i ∧ bsZ S u l i ≤ noneZ + 5000 * (l : Int))
 | 0,hl,i => by
  have h0:=hu 0 hl i
  refine ⟨fun n h => ?_,fun h => (by cases h)⟩
  have e : gv S u 0 i = some (u 0 i):=rfl
  rw [e] at h
  have h:=Option.some.inj h
  have e2 : bsZ S u 0 i = max noneZ (0 + u 0 i):=rfl
  rw [e2]
  unfold noneZ
  omega
 | l + 1,hl,i => by
  have ih:=bs_gv hu hN l (by omega)
  have h0:=hu (l + 1) hl i
  have e : gv S u (l + 1) i = (bO (gv S u l) none (S.getD i [])).map fun p => p.2 + u (l + 1) i:=rfl
  have e2 : bsZ S u (l + 1) i = max noneZ (fmx (bsZ S u l) noneZ (S.getD i []) + u (l + 1) i):=rfl
  have nz : noneZ = -1000000000:=rfl
  rw [e,e2]
  rcases bO_none (f:=gv S u l) (S.getD i []) with ⟨h1,h2⟩ | ⟨j,n,A,B,h1,h2,h3,h4,h5⟩
  ·rw [h1]
   refine ⟨fun n h => (by cases h),fun _ => ?_⟩
   have g1:=(fmx_ge (bsZ S u l) (S.getD i []) noneZ).1
   have g2:=fmx_le (bsZ S u l) (b:=noneZ + 5000 * (l : Int)) (S.getD i []) noneZ (by omega) fun k hk => ((ih k).2 (h2 k hk)).2
   omega
  ·rw [h1]
   obtain ⟨_,_,_,_,_,mx⟩:=bO_mem h1
   have hj:=(ih j).1 n h3
   have g1:=(fmx_ge (bsZ S u l) (S.getD i []) noneZ).2 j (by rw [h2]; simp)
   have g2:=fmx_le (bsZ S u l) (b:=n) (S.getD i []) noneZ (by omega) fun k hk => by
    cases hg : gv S u l k with
    | none => have:=((ih k).2 hg).2; omega
    | some m => rw [((ih k).1 m hg).1]; exact mx k hk m hg
   refine ⟨fun n' h => ?_,fun h => (by cases h)⟩
   simp only [Option.map_some,Option.some.injEq] at h
   omega
end
end Go.Proofs.Ytljgfdamdcikgaa.Ev
set_option linter.unusedVariables false
set_option linter.unusedSimpArgs false
namespace Go.Proofs.Ytljgfdamdcikgaa.Ev
open Go Go.AEv
attribute [local simp] evFunc initS evOps_c evTrim_c evSkip_c evExit_c evRet_c evSeq_c evCond_c evBlock_c evDraw_c runOps_n runOps_c exec_n exec_g pure1_c act AOpd.ev T.get T.set T.put evBin evUn forceT_eq forceV_eq forceL_eq evRess evRes one keep runFP_n runFP_c app_none AV.flats AV.flat came_some List.getElem?_cons_zero List.getElem?_cons_succ beqT wrapI idxI tdivI tmodI decT decF ibT ibF inT inF evScope_c if_pos if_neg Cm_some thenW_n thenW_e thenW_r blkW_n blkW_e blkW_r goI kn putAt AV.cells fillA loadA takeA mk Eff.isAll Eff.isNone Eff.commutes Eff.spares okPair apart eqAgg fits LK.fits allEq aveq eqk mmA
def TRw (h : Heap) (x : AV) (m q : Nat) (M : List (List Int)) : Prop:=∃ b v cs,x = .slice b 0 m v ∧ h.get b = .cells 1 v cs ∧ cs.length = m ∧ ∀ i,i < m → ∃ rb rv,cs[i]? = some (.slice rb 0 q rv) ∧ h.get rb = .cells 1 rv (gs (M.getD i [])) ∧ (M.getD i []).length = q
theorem TRw.kp {h h' : Heap} {x : AV} {m q : Nat} {M : List (List Int)} (t : TRw h x m q M) (k : Kp (fun _ => False) h h') : TRw h' x m q M:=by
 obtain ⟨b,v,cs,e,g,l,r⟩:=t
 exact ⟨b,v,cs,e,k.at g (by simp) id,l,fun i hi => by obtain ⟨rb,rv,e1,e2,e3⟩:=r i hi; exact ⟨rb,rv,e1,k.at e2 (by simp) id,e3⟩⟩
theorem TRw.fr {h : Heap} {x : AV} {m q : Nat} {M : List (List Int)} (t : TRw h x m q M) : TRw (frameOf h) x m q M:=by
 have at' : ∀ {b : Nat} {o : AObj},h.get b = o → o ≠ .hole → (frameOf h).get b = o:=fun g hx => by
  unfold frameOf
  rw [get_mk_lt _ _ _ _ (get_lt g hx)]; exact g
 obtain ⟨b,v,cs,e,g,l,r⟩:=t
 exact ⟨b,v,cs,e,at' g (by simp),l,fun i hi => by obtain ⟨rb,rv,e1,e2,e3⟩:=r i hi; exact ⟨rb,rv,e1,at' e2 (by simp),e3⟩⟩
theorem MR.trw {h : Heap} {x : AV} {m q : Nat} {M : List (List Int)} (t : MR h x M) (hm : M.length = m) (hr : ∀ l ∈ M,l.length = q) (m1 : 1 ≤ m) (q1 : 1 ≤ q) : TRw h x m q M:=by
 rcases t with ⟨_,e⟩ | ⟨b,v,cs,rfl,g,hl,hr'⟩
 ·rw [e] at hm; simp at hm; omega
 ·refine ⟨b,v,cs,by rw [hm],g,by omega,fun i hi => ?_⟩
  obtain ⟨l,e1,e2⟩:=hr' i cs[i] (zq (by omega))
  have e3 : M.getD i [] = l:=by rw [zd,e1]; rfl
  have e4:=hr l (List.mem_of_getElem? e1)
  rcases e2.cases with ⟨_,e⟩ | ⟨_,e⟩ | ⟨rb,rv,e,g'⟩
  ·rw [e] at e4; simp at e4; omega
  ·rw [e] at e4; simp at e4; omega
  ·exact ⟨rb,rv,by rw [zq (by omega),e,e4],by rw [e3]; exact g',by rw [e3]; exact e4⟩
def rvA (M : List (List Int)) (w : List Nat) : Nat → Int
 | 0 => 0
 | k + 1 => rvA M w k + ent M k (w.getD k 0)
def SmW (m q : Nat) (M : List (List Int)) : Prop:=∀ i j,i < m → j < q → -1000 ≤ ent M i j ∧ ent M i j ≤ 1000
theorem rvA_bd {M : List (List Int)} {w : List Nat} {m q : Nat} (hs : SmW m q M) (hw : ∀ c ∈ w,c < q) (hl : w.length = m) : ∀ k,k ≤ m → -1000 * (k : Int) ≤ rvA M w k ∧ rvA M w k ≤ 1000 * (k : Int)
 | 0,_ => by simp [rvA]
 | k + 1,hk => by
  have ih:=rvA_bd hs hw hl k (by omega)
  have h1:=hs k (w.getD k 0) (by omega) (getD_lt hw (by omega))
  show -1000 * ((k + 1 : Nat) : Int) ≤ rvA M w k + ent M k (w.getD k 0) ∧ rvA M w k + ent M k (w.getD k 0) ≤ _
  omega
section
variable {m q : Nat} {M : List (List Int)} {w : List Nat}
theorem c85_ok (J : CallF) (hJ : ∀ a h,J 85 a h = none) (h : Heap) {x : AV} (t : TRw h x m q M) (hw : ∀ c ∈ w,c < q) (hl : w.length = m) (q3 : q ≤ 3) (m5 : m ≤ 1000) (hs : SmW m q M) : CallsTo tbl J 85 [x,.str (stW w)] h (G (rvA M w m),[],zF):=by
 refine Tr.fnv (cf:=c85) (e:=.ret) (s:=T.set (T.set .leaf [] x) [zF] (.str (stW w))) (by decide) rfl (hJ _ _) rfl rfl rfl (by simp) ?_
 refine Tr.post (Q:=(fun s h => s.get [zT,zF] = G (rvA M w m))) (fun s h q => by simp [c85,q]) ?_
 have tF:=t.fr
 generalize frameOf h = H at *
 have lw:=stW_len w
 rw [hl] at lw
 obtain ⟨b,v,cs,rfl,g,lc,hr⟩:=tF
 have l0 : Tr tbl J c85_l0 (fun s h => h = H ∧ s.get [] = .slice b 0 m v ∧ s.get [zF] = .str (stW w) ∧ s.get [zF,zT] = G (rvA M w 0) ∧ s.get [zT,zF,zF] = G m ∧ s.get [zF,zT,zF] = G ((0 : Nat) : Int)) (.exit 0) (fun s h => h = H ∧ s.get [zF,zT] = G (rvA M w m)):=by
  refine Tr.rounds (e:=.exit 0) (P:=fun k => (fun s h => h = H ∧ s.get [] = .slice b 0 m v ∧ s.get [zF] = .str (stW w) ∧ s.get [zF,zT] = G (rvA M w k) ∧ s.get [zT,zF,zF] = G m ∧ s.get [zF,zT,zF] = G (k : Nat))) (M:=m) (fun k hk => ?_) ?_ (by simp) 0 (by omega)
  ·refine Tr.w fun s1 H1 hp _ kR => W.trim ?_
   obtain ⟨rfl,q'⟩:=hp
   obtain ⟨rb,rv,e1,g1,l1⟩:=hr k hk
   have e1':=getI e1
   have d1:=getD_lt hw (show k < w.length by omega)
   have f1:=stW_at hw q3 (show k < w.length by omega)
   have f1':=getI f1
   have n1:=u8_nat (show w.getD k 0 < 3 by omega)
   have w1:=wrap8 (w.getD k 0) (by omega)
   have e2:=ent_at l1 d1
   have e2':=getI e2
   have l2 : (gs (M.getD k [])).length = q:=by rw [← l1]; simp
   have bd:=rvA_bd hs hw hl k (by omega)
   have bd2:=hs k (w.getD k 0) hk d1
   have k1 : rvA M w (k + 1) = rvA M w k + ent M k (w.getD k 0):=rfl
   rw [k1] at kR
   rw [show ((k + 1 : Nat) : Int) = (k : Int) + 1 by omega] at kR
   clear hr hs hw t k1
   generalize rvA M w k = r0 at *
   generalize ent M k (w.getD k 0) = z at *
   generalize stW w = cw at *
   generalize UInt8.ofNat (48 + w.getD k 0) = u1 at *
   generalize w.getD k 0 = c1 at *
   generalize gs (M.getD k []) = cr at *
   refine zCh ?_
   simp (disch:=omega) [c85_o3,zG,q']
   refine zCh ?_
   simp (disch:=omega) [zG,q']
   refine W.seq (W.block ?_)
   refine zCh ?_
   simp (disch:=omega) [c85_o4,zG,q']
   refine W.chunk ?_
   simp (disch:=omega) [c85_o5,zG,q',g,e1,e1',lc,g1,e2,e2',l2,f1,f1',n1,w1,lw,-evDraw_c,evDraw_0]
   refine W.chunk ?_
   simp (disch:=omega) [c85_o6,zG,q']
   exact kR _ _ (by simp [T.get,q'])
  ·refine Tr.w fun s1 H1 hp _ kR => W.trim ?_
   obtain ⟨rfl,q'⟩:=hp
   clear hr hs hw t
   generalize rvA M w m = r0 at *
   generalize stW w = cw at *
   refine zCh ?_
   simp (disch:=omega) [c85_o3,zG,q',lw]
   refine zCh ?_
   simp (disch:=omega) [zG,q']
   exact kR _ _ (by simp [T.get,q'])
 clear hr hs hw t
 have z0 : rvA M w 0 = 0:=rfl
 rw [z0] at l0
 generalize rvA M w m = r0 at *
 generalize stW w = cw at *
 refine Tr.w fun s1 H1 hp _ kR => ?_
 obtain ⟨rfl,rfl⟩:=hp
 have q' : True:=trivial
 refine zCh ?_
 simp (disch:=omega) [c85_o0,zG,q']
 refine zCh ?_
 simp (disch:=omega) [c85_o1,zG,q']
 refine W.assoc ?_
 refine zCh ?_
 simp (disch:=omega) [c85_o2,zG,q',lw]
 refine W.seq (W.block ?_)
 refine W.use (l0) (by simp (disch:=omega) [zG,q']) fun s1 H1 hp => ?_
 obtain ⟨rfl,q'⟩:=hp
 try simp only [zW,if_true]
 refine zCh ?_
 simp (disch:=omega) [c85_o7,zG,q']
 refine W.ret ?_
 try simp only [zW,if_true]
 exact kR _ _ (by simp [T.get,q'])
theorem c86_ok (J : CallF) (hJ : ∀ a h,J 86 a h = none) (h : Heap) {x : AV} (t : TRw h x m q M) (hw : ∀ c ∈ w,c < q) (hl : w.length = m) (q3 : q ≤ 3) (m5 : m ≤ 1000) (hs : SmW m q M) : CallsTo tbl J 86 [x,.str (stW w)] h (G (rvA M w m),[],zF):=by
 refine Tr.fnv (cf:=c86) (e:=.ret) (s:=T.set (T.set .leaf [] x) [zF] (.str (stW w))) (by decide) rfl (hJ _ _) rfl rfl rfl (by simp) ?_
 refine Tr.post (Q:=(fun s h => s.get [zT,zF] = G (rvA M w m))) (fun s h q => by simp [c86,q]) ?_
 have tF:=t.fr
 generalize frameOf h = H at *
 have lw:=stW_len w
 rw [hl] at lw
 obtain ⟨b,v,cs,rfl,g,lc,hr⟩:=tF
 have l0 : Tr tbl J c86_l0 (fun s h => h = H ∧ s.get [] = .slice b 0 m v ∧ s.get [zF] = .str (stW w) ∧ s.get [zF,zT] = G (rvA M w 0) ∧ s.get [zT,zT] = G ((0 : Nat) : Int)) (.exit 0) (fun s h => h = H ∧ s.get [zF,zT] = G (rvA M w m)):=by
  refine Tr.rounds (e:=.exit 0) (P:=fun k => (fun s h => h = H ∧ s.get [] = .slice b 0 m v ∧ s.get [zF] = .str (stW w) ∧ s.get [zF,zT] = G (rvA M w k) ∧ s.get [zT,zT] = G (k : Nat))) (M:=m) (fun k hk => ?_) ?_ (by simp) 0 (by omega)
  ·refine Tr.w fun s1 H1 hp _ kR => W.trim ?_
   obtain ⟨rfl,q'⟩:=hp
   obtain ⟨rb,rv,e1,g1,l1⟩:=hr k hk
   have e1':=getI e1
   have d1:=getD_lt hw (show k < w.length by omega)
   have f1:=stW_at hw q3 (show k < w.length by omega)
   have f1':=getI f1
   have n1:=u8_nat (show w.getD k 0 < 3 by omega)
   have w1:=wrap8 (w.getD k 0) (by omega)
   have e2:=ent_at l1 d1
   have e2':=getI e2
   have l2 : (gs (M.getD k [])).length = q:=by rw [← l1]; simp
   have bd:=rvA_bd hs hw hl k (by omega)
   have bd2:=hs k (w.getD k 0) hk d1
   have k1 : rvA M w (k + 1) = rvA M w k + ent M k (w.getD k 0):=rfl
   rw [k1] at kR
   rw [show ((k + 1 : Nat) : Int) = (k : Int) + 1 by omega] at kR
   clear hr hs hw t k1
   generalize rvA M w k = r0 at *
   generalize ent M k (w.getD k 0) = z at *
   generalize stW w = cw at *
   generalize UInt8.ofNat (48 + w.getD k 0) = u1 at *
   generalize w.getD k 0 = c1 at *
   generalize gs (M.getD k []) = cr at *
   refine W.assoc ?_
   refine zCh ?_
   simp (disch:=omega) [c86_o3,zG,q']
   refine zCh ?_
   simp (disch:=omega) [zG,q']
   refine W.seq (W.block ?_)
   refine W.chunk ?_
   simp (disch:=omega) [c86_o4,zG,q',g,e1,e1',lc,g1,e2,e2',l2,f1,f1',n1,w1,lw,-evDraw_c,evDraw_0]
   refine W.chunk ?_
   simp (disch:=omega) [c86_o5,zG,q']
   exact kR _ _ (by simp [T.get,q'])
  ·refine Tr.w fun s1 H1 hp _ kR => W.trim ?_
   obtain ⟨rfl,q'⟩:=hp
   clear hr hs hw t
   generalize rvA M w m = r0 at *
   generalize stW w = cw at *
   refine W.assoc ?_
   refine zCh ?_
   simp (disch:=omega) [c86_o3,zG,q',lw]
   refine zCh ?_
   simp (disch:=omega) [zG,q']
   exact kR _ _ (by simp [T.get,q'])
 clear hr hs hw t
 have z0 : rvA M w 0 = 0:=rfl
 rw [z0] at l0
 generalize rvA M w m = r0 at *
 generalize stW w = cw at *
 refine Tr.w fun s1 H1 hp _ kR => ?_
 obtain ⟨rfl,rfl⟩:=hp
 have q' : True:=trivial
 refine zCh ?_
 simp (disch:=omega) [c86_o0,zG,q']
 refine zCh ?_
 simp (disch:=omega) [c86_o1,zG,q']
 refine W.assoc ?_
 refine zCh ?_
 simp (disch:=omega) [c86_o2,zG,q',lw]
 refine W.seq (W.block ?_)
 refine W.use (l0) (by simp (disch:=omega) [zG,q']) fun s1 H1 hp => ?_
 obtain ⟨rfl,q'⟩:=hp
 try simp only [zW,if_true]
 refine zCh ?_
 simp (disch:=omega) [c86_o6,zG,q']
 refine W.ret ?_
 try simp only [zW,if_true]
 exact kR _ _ (by simp [T.get,q'])
end
structure A85 where
 x : AV
 m : Nat
 q : Nat
 M : List (List Int)
 w : List Nat
def Ok85 (b : A85) (h : Heap) : Prop:=TRw h b.x b.m b.q b.M ∧ (∀ c ∈ b.w,c < b.q) ∧ b.w.length = b.m ∧ b.q ≤ 3 ∧ b.m ≤ 1000 ∧ SmW b.m b.q b.M
def Pre85 (b : A85) (args : List AV) (h : Heap) : Prop:=Ok85 b h ∧ args = [b.x,.str (stW b.w)]
def Post85 (b : A85) (h : Heap) (v : AV) (own : List AObj) : Prop:=v = G (rvA b.M b.w b.m) ∧ own = []
abbrev K85 (f : Nat) (J : CallF) : Prop:=∀ (h : Heap) (b : A85),Ok85 b h → J f [b.x,.str (stW b.w)] h = some (G (rvA b.M b.w b.m),[],zF)
noncomputable def U85 : CallF:=addK tbl noIntr 85 Pre85 Post85
theorem u85 : Sound zp U85:=Sound.addK follows ok Sound.empty (by decide) _ _
theorem k85u : K85 85 U85:=fun h b o => by
 obtain ⟨v,own,e,rfl,rfl⟩:=addK_some (Pre:=Pre85) (Post:=Post85) (fun b args h hp => by
  obtain ⟨⟨h1,h2,h3,h4,h5,h6⟩,rfl⟩:=hp
  exact ⟨_,_,c85_ok noIntr (fun _ _ => rfl) h h1 h2 h3 h4 h5 h6,rfl,rfl⟩) b _ h ⟨o,rfl⟩
 exact e
noncomputable def U86 : CallF:=addK tbl noIntr 86 Pre85 Post85
theorem u86 : Sound zp U86:=Sound.addK follows ok Sound.empty (by decide) _ _
theorem k86u : K85 86 U86:=fun h b o => by
 obtain ⟨v,own,e,rfl,rfl⟩:=addK_some (Pre:=Pre85) (Post:=Post85) (fun b args h hp => by
  obtain ⟨⟨h1,h2,h3,h4,h5,h6⟩,rfl⟩:=hp
  exact ⟨_,_,c86_ok noIntr (fun _ _ => rfl) h h1 h2 h3 h4 h5 h6,rfl,rfl⟩) b _ h ⟨o,rfl⟩
 exact e
def capL (bM bL bF : Nat) : List AV:=[.ptr bM 0 1,.ptr bL 0 1,.ptr bF 0 1]
structure CM (K : Heap) (S : List (List Nat)) (p bM bm bL bF : Nat) : Prop where
 gM : K.get bM = .cells 0 1 [.map bm]
 gL : K.get bL = .cells 0 1 [.ptr p 0 3]
 gF : K.get bF = .cells 0 1 [.func 73 (capL bM bL bF)]
 lf : LF K p S
 hN : K.N ≤ bm
def KN (S : List (List Nat)) (E : List (Nat × Int)) : Prop:=∀ c z,fm c E = some z → z ≠ 0 → ∃ m : Nat,z = m ∧ LG S c m
def IZ (S : List (List Nat)) (E : List (Nat × Int)) (v : Nat) : Prop:=(∀ c,fm c E = some 0 → ∃ k,Rw S (k + 1) c v) ∧ KN S E
def PE (S : List (List Nat)) (E E' : List (Nat × Int)) : Prop:=(∀ c,fm c E' = some 0 ↔ fm c E = some 0) ∧ KN S E' ∧ ∀ c,fm c E ≠ none → fm c E' ≠ none
section
variable {S : List (List Nat)} {p bM bm bL bF : Nat}
theorem LF.kpm {h h' : Heap} {es : List (AV × AV)} (l : LF h p S) (g : h.get bm = .map es) (k : Kp (fun i => i = bm) h h') : LF h' p S:=by
 have nn : ∀ {b s n cs},h.get b = .cells s n cs → ¬ b = bm:=fun e q => by rw [q,g] at e; cases e
 obtain ⟨x,mb,nb,rs,h1,h2,h3,h4⟩:=l
 refine ⟨x,mb,nb,rs,k.at h1 (by simp) (nn h1),h2,k.at h3 (by simp) (nn h3),fun i hi => ?_⟩
 obtain ⟨y,e1,e2⟩:=h4 i hi
 refine ⟨y,e1,e2.kp k fun b hb => ?_⟩
 rcases e2 with ⟨rfl,_⟩ | ⟨b',v,rfl,g'⟩
 ·cases hb
 ·cases hb; exact nn g'
theorem CM.kp {K K' : Heap} {es : List (AV × AV)} (t : CM K S p bM bm bL bF) (g : K.get bm = .map es) (k : Kp (fun i => i = bm) K K') : CM K' S p bM bm bL bF:=by
 have nn : ∀ {b s n cs},K.get b = .cells s n cs → ¬ b = bm:=fun e q => by rw [q,g] at e; cases e
 exact ⟨k.at t.gM (by simp) (nn t.gM),k.at t.gL (by simp) (nn t.gL),k.at t.gF (by simp) (nn t.gF),t.lf.kpm g k,by rw [k.N]; exact t.hN⟩
theorem PE.refl {E : List (Nat × Int)} (k : KN S E) : PE S E E:=⟨fun _ => Iff.rfl,k,fun _ => id⟩
theorem PE.trans {A B C : List (Nat × Int)} (x : PE S A B) (y : PE S B C) : PE S A C:=⟨fun c => (y.1 c).trans (x.1 c),y.2.1,fun c h => y.2.2 c (x.2.2 c h)⟩
theorem IZ.mark {E : List (Nat × Int)} {v : Nat} (i : IZ S E v) : KN S (pm v 0 E) ∧ ∀ c,c ∈ S.getD v [] → ∀ E',PE S (pm v 0 E) E' → IZ S E' c:=by
 have k0 : KN S (pm v 0 E):=fun c z h hz => by
  rw [fm_pm] at h
  by_cases e : c = v
  ·rw [if_pos e] at h; cases h; exact absurd rfl hz
  ·rw [if_neg e] at h; exact i.2 c z h hz
 refine ⟨k0,fun c hc E' pe => ⟨fun x hx => ?_,pe.2.1⟩⟩
 have hx:=(pe.1 x).1 hx
 rw [fm_pm] at hx
 by_cases e : x = v
 ·rw [e]; exact ⟨0,Rw.one hc⟩
 ·rw [if_neg e] at hx
  obtain ⟨k,w⟩:=i.1 x hx
  exact ⟨k + 1,w.snoc hc⟩
theorem PE.done {E E' : List (Nat × Int)} {v m : Nat} (hv : fm v E = none) (pe : PE S (pm v 0 E) E') (l : LG S v (m + 1)) : PE S E (pm v (1 + (m : Int)) E'):=by
 refine ⟨fun c => ?_,fun c z h hz => ?_,fun c h => ?_⟩
 ·rw [fm_pm]
  by_cases e : c = v
  ·rw [if_pos e,e,hv]
   constructor
   ·intro h
    have:=Option.some.inj h
    omega
   ·intro h; cases h
  ·rw [if_neg e,pe.1 c,fm_pm,if_neg e]
 ·rw [fm_pm] at h
  by_cases e : c = v
  ·rw [if_pos e] at h
   cases h
   rw [e]
   exact ⟨m + 1,by omega,l⟩
  ·rw [if_neg e] at h
   exact pe.2.1 c z h hz
 ·rw [fm_pm]
  by_cases e : c = v
  ·rw [if_pos e]; simp
  ·rw [if_neg e]
   exact pe.2.2 c (by rw [fm_pm,if_neg e]; exact h)
end
section
variable {S : List (List Nat)} {p bM bm bL bF : Nat}
theorem LG.ex {i : Nat} : ∀ {N : Nat},al S N i = zF → ∃ m,LG S i m
 | 0,h => by cases h
 | N + 1,h => by
  cases c : al S N i
  ·exact LG.ex c
  ·refine ⟨N + 1,fun k => ⟨fun hk => ?_,fun hk => ?_⟩⟩
   ·apply Decidable.byContradiction
    intro hn
    have:=al_le (k:=N + 1) (d:=k - (N + 1)) (by rw [show N + 1 + (k - (N + 1)) = k by omega]; exact hk)
    rw [h] at this; cases this
   ·exact al_le (k:=k) (d:=N - k) (by rw [show k + (N - k) = N by omega]; exact c)
end
end Go.Proofs.Ytljgfdamdcikgaa.Ev
