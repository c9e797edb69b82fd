/-
  Of the functions that this law reaches,part 1: what they answer. No condition.
-/
import Derived.Test.YtljgfdamdcikgaaRP0
set_option linter.unusedVariables false
set_option linter.unusedSimpArgs false
namespace Go.Proofs.Ytljgfdamdcikgaa.Ev
open Go Go.AEv
attribute [local simp] evFunc initS evOps_c evTrim_c evSkip_c evExit_c evRet_c evSeq_c evCond_c evBlock_c evDraw_c runOps_n runOps_c exec_n exec_g pure1_c act AOpd.ev T.get T.set T.put evBin evUn forceT_eq forceV_eq forceL_eq evRess evRes one keep runFP_n runFP_c app_none AV.flats AV.flat came_some List.getElem?_cons_zero List.getElem?_cons_succ beqT wrapI idxI tdivI tmodI decT decF ibT ibF inT inF evScope_c if_pos if_neg Cm_some thenW_n thenW_e thenW_r blkW_n blkW_e blkW_r goI kn putAt AV.cells fillA loadA takeA mk Eff.isAll Eff.isNone Eff.commutes Eff.spares okPair apart eqAgg fits LK.fits allEq aveq eqk mmA
theorem TG.kpm {M : Nat → Prop} {Hb H0 h h' : Heap} {x : AV} {L : List (List Int)} (t : TG H0 h x L) (k : Kp M h h') (hM : ∀ b,M b → b < H0.size) (k0 : Kp (fun _ => False) Hb h') (hs : Hb.size ≤ H0.size) : TG Hb h' x L:=by
  obtain ⟨rs,lv,hl,hr⟩:=t.r
  refine ⟨k0,fun q hq => Nat.le_trans hs (t.x0 q hq),rs,lv.kp k (fun b hb m => by have:=t.x0 b hb; have:=hM b m; omega),hl,fun i r hi => ?_⟩
  obtain ⟨l,h1,h2,h3⟩:=hr i r hi
  exact ⟨l,h1,listOf_kp k h2 (fun q hq m => by have:=hM q m; have:=h3 q hq; omega),fun q hq => ⟨(h3 q hq).1,Nat.le_trans hs (h3 q hq).2.1,Nat.lt_of_lt_of_le (h3 q hq).2.2 k.size⟩⟩
theorem TG.sh {H0 h : Heap} {x : AV} {L : List (List Int)} (t : TG H0 h x L) : x = .nils ∨ ∃ b n,x = .slice b 0 n n:=by
  obtain ⟨rs,lv,_⟩:=t.r
  exact lv.sh
structure ATs where
  q : Int
  x : AV
  y : AV
  B : List (List Int)
  W : List (List Int)
def Ok24 (a : ATs) (h : Heap) : Prop:=MR h a.x a.B ∧ MR h a.y a.W
section
variable {a : ATs}
end
def Pre24 (a : ATs) (args : List AV) (h : Heap) : Prop:=Ok24 a h ∧ args = [.agg [G a.q,a.x,a.y]]
def Post24 (a : ATs) (h : Heap) (v : AV) (own : List AObj) : Prop:=∃ x y,v = .agg [G a.q,x,y] ∧ TG h (h.plus own) x (cutM a.B) ∧ TG h (h.plus own) y (cutM a.W)
noncomputable def T31 : CallF:=addK tbl T30 24 Pre24 Post24
theorem t31 : Sound Go.Proofs.Try.prog T31:=Sound.addK follows ok t30 (by decide) _ _
section
variable {a : AR} {m : Int}
end
def Post28 (b : ARm) (h : Heap) (v : AV) (own : List AObj) : Prop:=v = .bool (b.a.rm b.m) ∧ own = []
noncomputable def T32 : CallF:=addK tbl T31 28 PreRm Post28
theorem t32 : Sound Go.Proofs.Try.prog T32:=Sound.addK follows ok t31 (by decide) _ _
end Go.Proofs.Ytljgfdamdcikgaa.Ev
set_option linter.unusedVariables false
set_option linter.unusedSimpArgs false
namespace Go.Proofs.Ytljgfdamdcikgaa.Ev
open Go Go.AEv
def chk99 (n : Nat) : Bool:=match (evW tbl noIntr 12).call 99 [.int .u64 1,.int .u64 n] e0 with
  | some (.tup [.int .u64 0,.int .u64 m],[],false) => m == n
  | _ => false
theorem chk99_all : (List.range 244).all chk99 = true:=by decide +kernel
theorem c99_ok (n : Nat) (h : n < 244) : CallsTo tbl noIntr 99 [.int .u64 1,.int .u64 n] e0 (.tup [.int .u64 0,.int .u64 n],[],false):=by
  have:=List.all_eq_true.1 chk99_all n (List.mem_range.2 h)
  unfold chk99 at this
  split at this
  · rename_i m e
    simp only [beq_iff_eq] at this
    subst this
    exact ⟨12,e⟩
  · cases this
def spec99 : SpecV
  | [.int .u64 a,.int .u64 n] => if a = 1 ∧ 0 ≤ n ∧ n < 244 then some (.tup [.int .u64 0,.int .u64 n]) else none
  | _ => none
end Go.Proofs.Ytljgfdamdcikgaa.Ev
set_option linter.unusedVariables false
set_option linter.unusedSimpArgs false
namespace Go.Proofs.Ytljgfdamdcikgaa.Ev
open Go Go.AEv
attribute [local simp] evFunc initS evOps_c evTrim_c evSkip_c evExit_c evRet_c evSeq_c evCond_c evBlock_c evDraw_c runOps_n runOps_c exec_n exec_g pure1_c act AOpd.ev T.get T.set T.put evBin evUn forceT_eq forceV_eq forceL_eq evRess evRes one keep runFP_n runFP_c app_none AV.flats AV.flat came_some List.getElem?_cons_zero List.getElem?_cons_succ beqT wrapI idxI tdivI tmodI decT decF ibT ibF inT inF evScope_c if_pos if_neg Cm_some thenW_n thenW_e thenW_r blkW_n blkW_e blkW_r goI kn putAt AV.cells fillA loadA takeA mk Eff.isAll Eff.isNone Eff.commutes Eff.spares okPair apart eqAgg fits LK.fits allEq aveq eqk mmA
def RB (n m : Nat) (x : Int) : List AV:=List.replicate m (G x) ++ List.replicate (n - m) (G 0)
theorem RB_len {n m : Nat} {x : Int} (h : m ≤ n) : (RB n m x).length = n:=by simp [RB]; omega
theorem RB_take (n m : Nat) (x : Int) : (RB n m x).take m = List.replicate m (G x):=by simp [RB]
theorem RB_all (n : Nat) (x : Int) : RB n n x = List.replicate n (G x):=by simp [RB]
theorem rep_put : ∀ (k a : Nat) (y : AV) (cs : List AV),k ≤ cs.length → putAt (List.replicate a y ++ cs) a (List.replicate k y) = List.replicate (a + k) y ++ cs.drop k:=by
  intro k
  induction k with
  | zero => intro a y cs _; simp [putAt]
  | succ k ih =>
    intro a y cs hk
    cases cs with
    | nil => simp at hk
    | cons c cs =>
      rw [List.replicate_succ,putAt,List.set_append_right _ _ (by simp),List.length_replicate,Nat.sub_self,List.set_cons_zero]
      rw [show List.replicate a y ++ y :: cs = List.replicate (a + 1) y ++ cs by rw [List.replicate_succ',List.append_assoc]; rfl]
      rw [ih _ _ _ (by simpa using hk),show a + 1 + k = a + (k + 1) by omega]; rfl
theorem RB_put {n m k : Nat} {x : Int} (h : m + k ≤ n) : putAt (RB n m x) m (List.replicate k (G x)) = RB n (m + k) x:=by
  unfold RB
  rw [rep_put _ _ _ _ (by simp; omega),List.drop_replicate,Nat.sub_sub]
section
variable {n : Nat} {x : Int}
abbrev P91 (h : Heap) (n : Nat) (x : Int) (m : Nat) : SP:=(fun s h' => s.get [false,false,false] = .slice h.size 0 n n ∧ s.get [true,false,false] = G m ∧ h' = ⟨h.get,h.size,[.cells 1 n (RB n m x)]⟩)
theorem rep_loop (J : CallF) (h : Heap) (hn : n ≤ 243) : ∀ (j m : Nat),n - m ≤ j → 1 ≤ m → m ≤ n → Tr tbl J c91_l0 (P91 h n x m) (.exit 0) (P91 h n x n):=by
  intro j
  induction j with
  | zero =>
    intro m hj h1 h2
    obtain rfl : m = n:=by omega
    have t : Tr tbl J ((.trim [[false,false,false],[true,false,false]] c91_b0)) (fun s h' => s.get [false,false,false] = .slice h.size 0 m m ∧ s.get [true,false,false] = G m ∧ h' = ⟨h.get,h.size,[.cells 1 m (RB m m x)]⟩) (.exit 0) (fun s h' => s.get [false,false,false] = .slice h.size 0 m m ∧ s.get [true,false,false] = G m ∧ h' = ⟨h.get,h.size,[.cells 1 m (RB m m x)]⟩):=Tr.region fun s h hp => by
      obtain ⟨g0,g1,rfl⟩:=hp
      simp (disch:=first|omega|exact zE rfl|exact zO|exact zL rfl) [c91_b0,c91_o8,frameOf,Heap.size,Heap.get,Eff.app,Heap.setOwn,g0,g1]
    exact Tr.out t (by simp)
  | succ j ih =>
    intro m hj h1 h2
    by_cases hm : m = n
    · exact ih m (by omega) h1 h2
    · obtain ⟨k,hk⟩ : ∃ k,k = min m (n - m):=⟨_,rfl⟩
      have hkm : m + k ≤ n:=by omega
      have e1:=RB_len (n:=n) (m:=m) (x:=x) h2
      have e2:=RB_take n m x
      have e3:=RB_put (n:=n) (m:=m) (k:=k) (x:=x) hkm
      have e4 : min m (n - m) = k:=hk.symm
      have e5 : min k m = k:=by omega
      obtain ⟨cs,hcs⟩ : ∃ cs,RB n m x = cs:=⟨_,rfl⟩
      rw [hcs] at e1 e2 e3
      have hm0 : ¬ (m = n ∧ 0 < n):=by omega
      have hm1 : ¬ (0 = n ∧ 0 < n):=by omega
      have t : Tr tbl J ((.trim [[false,false,false],[true,false,false]] c91_b0)) (fun s h' => s.get [false,false,false] = .slice h.size 0 n n ∧ s.get [true,false,false] = G m ∧ h' = ⟨h.get,h.size,[.cells 1 n cs]⟩) .normal (fun s h' => s.get [false,false,false] = .slice h.size 0 n n ∧ s.get [true,false,false] = G ((m + k : Nat) : Int) ∧ h' = ⟨h.get,h.size,[.cells 1 n (RB n (m + k) x)]⟩):=Tr.region fun s h hp => by
        obtain ⟨g0,g1,rfl⟩:=hp
        simp (disch:=first|omega|exact zE rfl|exact zO|exact zL rfl) [c91_b0,c91_o8,c91_o9,frameOf,Heap.size,Heap.get,Eff.app,Heap.setOwn,g0,g1,slSlA,bounds,elems,copyA,rdOf,hm0,hm1,e1,e2,e3,e4,e5,List.take_replicate]
        omega
      rw [← hcs] at t
      exact Tr.next t (ih (m + k) (by omega) (by omega) (by omega))
theorem c91_ok (J : CallF) (k99 : ∀ (h : Heap) (n : Int),0 ≤ n → n < 244 → J 99 [.int .u64 1,.int .u64 n] h = some (.tup [.int .u64 0,.int .u64 n],[],false)) (hJ : ∀ a h,J 91 a h = none) (h : Heap) (b : Nat) (hb : h.get b = .cells 1 1 [G x]) (h1 : 1 ≤ n) (h2 : n ≤ 243) :
    CallsTo tbl J 91 [.slice b 0 1 1,G n] h (.slice h.size 0 n n,[.cells 1 n (List.replicate n (G x))],false):=by
  have hlt:=get_lt hb (by simp)
  have wu : ∀ z : Int,0 ≤ z → z < 244 → IntKind.u64.wrap z = z:=fun z _ _ => by unfold IntKind.wrap IntKind.bits IntKind.signed; simp; omega
  refine Tr.fnh (cf:=c91) (e:=.ret) (s:=T.set (T.set .leaf [] (.slice b 0 1 1)) [false] (G n)) (by decide) rfl (hJ _ _) rfl rfl rfl (by simp) ?_
  have t0 : Tr tbl J (c91_o0) (fun s h' => s = T.set (T.set .leaf [] (.slice b 0 1 1)) [false] (G n) ∧ h' = frameOf h) .normal (fun s h' => s.get [] = .slice b 0 1 1 ∧ s.get [false] = G n ∧ h' = ⟨h.get,h.size,[]⟩):=Tr.region fun s h hp => by
    obtain ⟨rfl,rfl⟩:=hp
    simp (disch:=first|omega|exact zE rfl|exact zO|exact zL rfl) [c91_o0,frameOf,Heap.size,Heap.get,Eff.app,Heap.setOwn]
  have t1 : Tr tbl J ((.seq c91_o1 (.cond (.s [true,true,false]) c91_o2 .skip))) (fun s h' => s.get [] = .slice b 0 1 1 ∧ s.get [false] = G n ∧ h' = ⟨h.get,h.size,[]⟩) .normal (fun s h' => s.get [] = .slice b 0 1 1 ∧ s.get [false] = G n ∧ h' = ⟨h.get,h.size,[]⟩):=Tr.region fun s h hp => by
    obtain ⟨g0,g1,rfl⟩:=hp
    simp (disch:=first|omega|exact zE rfl|exact zO|exact zL rfl) [c91_o1,frameOf,Heap.size,Heap.get,Eff.app,Heap.setOwn,g0,g1]
  have t2 : Tr tbl J (c91_o3) (fun s h' => s.get [] = .slice b 0 1 1 ∧ s.get [false] = G n ∧ h' = ⟨h.get,h.size,[]⟩) .normal (fun s h' => s.get [] = .slice b 0 1 1 ∧ s.get [false,true] = .int .u64 0 ∧ s.get [true,true] = .int .u64 n ∧ h' = ⟨h.get,h.size,[]⟩):=Tr.region fun s h hp => by
    obtain ⟨g0,g1,rfl⟩:=hp
    simp (disch:=first|omega|exact zE rfl|exact zO|exact zL rfl) [c91_o3,frameOf,Heap.size,Heap.get,Eff.app,Heap.setOwn,g0,g1,wu,k99]
  have t3 : Tr tbl J ((.seq c91_o4 (.cond (.s [true,true,false,true]) c91_o5 .skip))) (fun s h' => s.get [] = .slice b 0 1 1 ∧ s.get [false,true] = .int .u64 0 ∧ s.get [true,true] = .int .u64 n ∧ h' = ⟨h.get,h.size,[]⟩) .normal (fun s h' => s.get [] = .slice b 0 1 1 ∧ s.get [true,true] = .int .u64 n ∧ h' = ⟨h.get,h.size,[]⟩):=Tr.region fun s h hp => by
    obtain ⟨g0,g1,g2,rfl⟩:=hp
    simp (disch:=first|omega|exact zE rfl|exact zO|exact zL rfl) [c91_o4,frameOf,Heap.size,Heap.get,Eff.app,Heap.setOwn,g0,g1,g2]
  have e0 : RB n 1 x = (List.replicate n (G 0)).set 0 (G x):=by
    obtain ⟨N,rfl⟩ : ∃ N,n = N + 1:=⟨n - 1,by omega⟩
    simp [RB,List.replicate_succ]
  have t4 : Tr tbl J ((.seq c91_o6 c91_o7)) (fun s h' => s.get [] = .slice b 0 1 1 ∧ s.get [true,true] = .int .u64 n ∧ h' = ⟨h.get,h.size,[]⟩) .normal (fun s h' => s.get [false,false,false] = .slice h.size 0 n n ∧ s.get [true,false,false] = G ((1 : Nat) : Int) ∧ h' = ⟨h.get,h.size,[.cells 1 n (RB n 1 x)]⟩):=Tr.region fun s h hp => by
    obtain ⟨g0,g1,rfl⟩:=hp
    rw [e0]
    simp (disch:=first|omega|exact zE rfl|exact zO|exact zL rfl) [c91_o6,c91_o7,size_mk,get_mk_lt,get_mk_ge,frameOf,Eff.app,Heap.setOwn,g0,g1,repl,elems,copyA,rdOf,hb]
    omega
  have t5 : Tr tbl J ((.seq c91_o10 .ret)) (fun s h' => s.get [false,false,false] = .slice h.size 0 n n ∧ s.get [true,false,false] = G n ∧ h' = ⟨h.get,h.size,[.cells 1 n (RB n n x)]⟩) .ret (fun s h' => s.get [true,false] = .slice h.size 0 n n ∧ h' = ⟨h.get,h.size,[.cells 1 n (RB n n x)]⟩):=Tr.region fun s h hp => by
    obtain ⟨g0,g1,rfl⟩:=hp
    simp (disch:=first|omega|exact zE rfl|exact zO|exact zL rfl) [c91_o10,frameOf,Heap.size,Heap.get,Eff.app,Heap.setOwn,g0,g1]
  refine Tr.post (fun s h' q => ?_) (Tr.seq t0 (Tr.seq t1 (Tr.seq t2 (Tr.seq t3 (Tr.app2 t4 (Tr.seq (Tr.block (rep_loop J h h2 n 1 (by omega) (by omega) h1)) t5))))))
  obtain ⟨q1,rfl⟩:=q
  simp [c91,q1,RB_all]
theorem c91_0 (J : CallF) (k99 : ∀ (h : Heap) (n : Int),0 ≤ n → n < 244 → J 99 [.int .u64 1,.int .u64 n] h = some (.tup [.int .u64 0,.int .u64 n],[],false)) (hJ : ∀ a h,J 91 a h = none) (h : Heap) (b : Nat) (hb : h.get b = .cells 1 1 [G x]) :
    CallsTo tbl J 91 [.slice b 0 1 1,G 0] h (.slice h.size 0 0 0,[.cells 1 0 []],false):=by
  have hlt:=get_lt hb (by simp)
  have wu : ∀ z : Int,0 ≤ z → z < 244 → IntKind.u64.wrap z = z:=fun z _ _ => by unfold IntKind.wrap IntKind.bits IntKind.signed; simp; omega
  refine Tr.fnh (cf:=c91) (e:=.ret) (s:=T.set (T.set .leaf [] (.slice b 0 1 1)) [false] (G 0)) (by decide) rfl (hJ _ _) rfl rfl rfl (by simp) ?_
  refine Tr.post (Q:=(fun s h' => h' = ⟨h.get,h.size,[.cells 1 0 []]⟩ ∧ s.get [true,false] = .slice h.size 0 0 0)) (fun s h' q => by
    obtain ⟨rfl,q1⟩:=q
    simp [c91,q1]) ?_
  have l0 : Tr tbl J c91_l0 (fun s h' => h' = ⟨h.get,h.size,[.cells 1 0 []]⟩ ∧ s.get [false,false,false] = .slice h.size 0 0 0 ∧ s.get [true,false,false] = G 0) (.exit 0) (fun s h' => h' = ⟨h.get,h.size,[.cells 1 0 []]⟩ ∧ s.get [false,false,false] = .slice h.size 0 0 0):=by
    refine Tr.out ?_ (by simp)
    refine Tr.w fun s1 H1 hp _ kR => W.trim ?_
    obtain ⟨rfl,q⟩:=hp
    refine W.assoc ?_
    refine W.seq (W.chunk ?_)
    simp (disch:=first|omega|exact zE rfl|exact zO|exact zL rfl) [c91_o8,size_mk,get_mk_lt,get_mk_ge,frameOf,Eff.app,Heap.setOwn,q]
    refine W.seq (W.chunk ?_)
    simp (disch:=first|omega|exact zE rfl|exact zO|exact zL rfl) [size_mk,get_mk_lt,get_mk_ge,frameOf,Eff.app,Heap.setOwn,q]
    exact kR _ _ (by simp [T.get,q])
  refine Tr.w fun s1 H1 hp _ kR => ?_
  obtain ⟨rfl,rfl⟩:=hp
  have q : True:=trivial
  refine W.seq (W.chunk ?_)
  simp (disch:=first|omega|exact zE rfl|exact zO|exact zL rfl) [c91_o0,size_mk,get_mk_lt,get_mk_ge,frameOf,Eff.app,Heap.setOwn,q]
  refine W.assoc ?_
  refine W.seq (W.chunk ?_)
  simp (disch:=first|omega|exact zE rfl|exact zO|exact zL rfl) [c91_o1,size_mk,get_mk_lt,get_mk_ge,frameOf,Eff.app,Heap.setOwn,q]
  refine W.seq (W.chunk ?_)
  simp (disch:=first|omega|exact zE rfl|exact zO|exact zL rfl) [c91_o2,size_mk,get_mk_lt,get_mk_ge,frameOf,Eff.app,Heap.setOwn,q]
  refine W.seq (W.chunk ?_)
  simp (disch:=first|omega|exact zE rfl|exact zO|exact zL rfl) [c91_o3,size_mk,get_mk_lt,get_mk_ge,frameOf,Eff.app,Heap.setOwn,q,wu,k99]
  refine W.assoc ?_
  refine W.seq (W.chunk ?_)
  simp (disch:=first|omega|exact zE rfl|exact zO|exact zL rfl) [c91_o4,size_mk,get_mk_lt,get_mk_ge,frameOf,Eff.app,Heap.setOwn,q]
  refine W.seq (W.chunk ?_)
  simp (disch:=first|omega|exact zE rfl|exact zO|exact zL rfl) [c91_o5,size_mk,get_mk_lt,get_mk_ge,frameOf,Eff.app,Heap.setOwn,q]
  refine W.seq (W.chunk ?_)
  simp (disch:=first|omega|exact zE rfl|exact zO|exact zL rfl) [c91_o6,size_mk,get_mk_lt,get_mk_ge,frameOf,Eff.app,Heap.setOwn,q,repl]
  refine W.seq (W.chunk ?_)
  simp (disch:=first|omega|exact zE rfl|exact zO|exact zL rfl) [c91_o7,size_mk,get_mk_lt,get_mk_ge,frameOf,Eff.app,Heap.setOwn,q,elems,copyA,rdOf,hb]
  refine W.seq (W.block ?_)
  refine W.use (l0) (by simp (disch:=first|omega|exact zE rfl|exact zO|exact zL rfl) [size_mk,get_mk_lt,get_mk_ge,frameOf,Eff.app,Heap.setOwn,q,(show min 1 0 = 0 from rfl),(show min (1 : Int) 0 = 0 from rfl)]) fun s1 H1 hp => ?_
  obtain ⟨rfl,q⟩:=hp
  try simp only [zW,if_true]
  refine W.seq (W.chunk ?_)
  simp (disch:=first|omega|exact zE rfl|exact zO|exact zL rfl) [c91_o10,size_mk,get_mk_lt,get_mk_ge,frameOf,Eff.app,Heap.setOwn,q]
  refine W.ret ?_
  try simp only [zW,if_true]
  exact kR _ _ (by simp [T.get,q])
end
def spec91 : SpecF:=fun args h => match args with
  | [.slice b 0 1 1,.int .i64 n] => match h.get b with
    | .cells 1 1 [.int .i64 x] => if 0 ≤ n ∧ n ≤ 243 then some (.slice h.size 0 n.toNat n.toNat,[.cells 1 n.toNat (List.replicate n.toNat (G x))],false) else none
    | _ => none
  | _ => none
noncomputable def T33 : CallF:=addV T32 99 spec99
theorem t33 : Sound Go.Proofs.Try.prog T33:=Sound.addV2 follows ok t32 Sound.empty (by decide) (fun args v h => by
  unfold spec99 at h
  split at h
  · split at h
    · rename_i a n hh
      obtain ⟨rfl,h1,h2⟩:=hh
      obtain ⟨N,rfl⟩ : ∃ N : Nat,n = N:=⟨n.toNat,by omega⟩
      simp only [Option.some.injEq] at h; subst h; exact c99_ok N (by omega)
    · cases h
  · cases h)
theorem k99 (h : Heap) (n : Int) (h1 : 0 ≤ n) (h2 : n < 244) : T33 99 [.int .u64 1,.int .u64 n] h = some (.tup [.int .u64 0,.int .u64 n],[],false):=by simp [T33,AEv.addV,spec99,h1,h2,AV.flats,AV.flat]
noncomputable def T34 : CallF:=addI T33 91 spec91
theorem t34 : Sound Go.Proofs.Try.prog T34:=Sound.add follows ok t33 (by decide) (fun args h x e => by
  unfold spec91 at e
  split at e
  · split at e
    · split at e
      · rename_i b n _ xv hg hh
        simp only [Option.some.injEq] at e; subst e
        obtain ⟨N,rfl⟩ : ∃ N : Nat,n = N:=⟨n.toNat,by omega⟩
        rcases Nat.eq_zero_or_pos N with rfl | hN
        · exact c91_0 T33 k99 (fun _ _ => by simp (disch:=decide) only [T1,T2,T3,T4,T5,T6,T7,T8,T9,T10,T11,T12,T13,T14,T15,T16,T17,T18,T19,T20,T21,T22,T23,T24,T25,T26,T27,T28,T29,T30,T31,T32,T33,addI_ne,addX_ne,addV_ne,addK_ne]; rfl) h b hg
        · exact c91_ok T33 k99 (fun _ _ => by simp (disch:=decide) only [T1,T2,T3,T4,T5,T6,T7,T8,T9,T10,T11,T12,T13,T14,T15,T16,T17,T18,T19,T20,T21,T22,T23,T24,T25,T26,T27,T28,T29,T30,T31,T32,T33,addI_ne,addX_ne,addV_ne,addK_ne]; rfl) h b hg (by omega) (by omega)
      · cases e
    · cases e
  · cases e)
def sat (n : Nat) : Nat:=min n (1152921504606846977)
def ps (L : List Nat) (i : Nat) : Nat:=(L.take i).sum
theorem gn_at {L : List Nat} {i : Nat} (h : i < L.length) : (gn L)[i]? = some (G (L.getD i 0)):=by
  unfold gn
  rw [List.getElem?_map,List.getD_eq_getElem?_getD,List.getElem?_eq_getElem h]; rfl
section
variable {L : List Nat}
theorem RV.frame {h : Heap} {x : AV} {cs : List AV} (r : RV h x cs) : RV (frameOf h) x cs:=by
  rcases r with r | ⟨b,v,e,g⟩
  · exact .inl r
  · refine .inr ⟨b,v,e,?_⟩
    unfold frameOf
    rw [get_mk_lt _ _ _ _ (get_lt g (by simp))]; exact g
def tot (L : List Nat) : AV:=if L.sum ≤ 1152921504606846976 then .tup [G L.sum,.bool true] else .tup [G 0,.bool false]
end
def Pre76 (b : Nat × Nat) (args : List AV) (h : Heap) : Prop:=(b.1 ≤ 2305843009213693952 ∧ b.2 ≤ 2305843009213693952) ∧ args = [G b.1,G b.2]
def Post76 (b : Nat × Nat) (h : Heap) (v : AV) (own : List AObj) : Prop:=v = G (sat (b.1 + b.2)) ∧ own = []
noncomputable def T35 : CallF:=addK tbl T34 76 Pre76 Post76
theorem t35 : Sound Go.Proofs.Try.prog T35:=Sound.addK follows ok t34 (by decide) _ _
def Pre72 (b : AV × List Nat) (args : List AV) (h : Heap) : Prop:=(RV h b.1 (gn b.2) ∧ b.2.length ≤ 1000000 ∧ ∀ x ∈ b.2,x ≤ 2305843009213693952) ∧ args = [b.1]
def Post72 (b : AV × List Nat) (h : Heap) (v : AV) (own : List AObj) : Prop:=v = G (sat b.2.sum) ∧ own = []
noncomputable def T36 : CallF:=addK tbl T35 72 Pre72 Post72
theorem t36 : Sound Go.Proofs.Try.prog T36:=Sound.addK follows ok t35 (by decide) _ _
def Pre63 (b : AV × List Nat) (args : List AV) (h : Heap) : Prop:=(RV h b.1 (gn b.2) ∧ b.2.length ≤ 1000000 ∧ ∀ x ∈ b.2,x ≤ 1152921504606846976) ∧ args = [b.1,G 1152921504606846976]
def Post63 (b : AV × List Nat) (h : Heap) (v : AV) (own : List AObj) : Prop:=v = tot b.2 ∧ own = []
noncomputable def T37 : CallF:=addK tbl T36 63 Pre63 Post63
theorem t37 : Sound Go.Proofs.Try.prog T37:=Sound.addK follows ok t36 (by decide) _ _
def cnt (S : List (List Nat)) : Nat → Nat → Nat
  | 0,_ => 1
  | k + 1,i => ((S.getD i []).map (cnt S k)).sum
def rowC (S : List (List Nat)) (k : Nat) : List Nat:=(List.range S.length).map (cnt S k)
def okC (S : List (List Nat)) (n : Nat) : Bool:=af (fun k => decide ((rowC S k).sum ≤ 1152921504606846976)) 0 n
def LF (h : Heap) (p : Nat) (S : List (List Nat)) : Prop:=∃ x mb nb rs,h.get p = .cells 0 3 [x,.map mb,.slice nb 0 S.length S.length] ∧ ((x = .nils ∧ S.length = 0) ∨ ∃ b v,x = .slice b 0 S.length v) ∧ h.get nb = .cells 1 S.length rs ∧ ∀ k,k < S.length → ∃ y,rs[k]? = some y ∧ RV h y (gn (S.getD k []))
theorem LF.kp {h h' : Heap} {p : Nat} {S : List (List Nat)} (l : LF h p S) (k : Kp (fun _ => False) h h') : LF h' p S:=by
  obtain ⟨x,mb,nb,rs,h1,h2,h3,h4⟩:=l
  refine ⟨x,mb,nb,rs,k.at h1 (by simp) id,h2,k.at h3 (by simp) id,fun i hi => ?_⟩
  obtain ⟨y,e1,e2⟩:=h4 i hi
  exact ⟨y,e1,e2.kp k (fun _ _ => id)⟩
theorem LM.lf {h : Heap} {p B : Nat} {W : List (List Int)} {R : List (List Nat)} (l : LM h p B W R) : LF h p (stL W R):=by
  obtain ⟨x,mb,nb,rs,h1,h2,h3,h4,h5,h6,h7⟩:=l
  have e : (stL W R).length = R.length:=by simp [stL]
  unfold LF
  rw [e]
  have hs:=h2.sl
  rw [wsL_len] at hs
  refine ⟨x,mb,nb,rs,h1,hs,h4,fun k hk => ?_⟩
  obtain ⟨y,e1,e2,_⟩:=h7 k hk
  refine ⟨y,e1,?_⟩
  have : (stL W R).getD k [] = nxL W R (R.getD k []):=by
    unfold stL
    rw [List.getD_eq_getElem?_getD,List.getElem?_map,List.getElem?_eq_getElem hk,List.getD_eq_getElem?_getD,List.getElem?_eq_getElem hk]; rfl
  rw [this]; exact e2
section
variable {S : List (List Nat)} {p kk nn : Nat}
structure PR (S : List (List Nat)) (xo : AV) (kk : Nat) (h : Heap) (bo br : Nat) (ros : List AV) : Prop where
  e : xo = .slice bo 0 (kk + 1) (kk + 1)
  g : h.get bo = .cells 1 (kk + 1) ros
  r : ros[kk]? = some (.slice br 0 S.length S.length)
  l : ros.length = kk + 1
  gr : h.get br = .cells 1 S.length (gn (rowC S kk))
theorem PR.kp {xo : AV} {h h' : Heap} {bo br : Nat} {ros : List AV} (t : PR S xo kk h bo br ros) (k : Kp (fun _ => False) h h') : PR S xo kk h' bo br ros:=⟨t.e,k.at t.g (by simp) id,t.r,t.l,k.at t.gr (by simp) id⟩
end
def rowsC (S : List (List Nat)) (k : Nat) : List (List AV):=(List.range k).map fun k => gn (rowC S k)
structure OkS (S : List (List Nat)) : Prop where
  lt : ∀ i,∀ j ∈ S.getD i [],j < S.length
  len : ∀ i,(S.getD i []).length ≤ 1000
  n : S.length ≤ 1000
section
variable {S : List (List Nat)} {p nn : Nat}
theorem LF.fr {h : Heap} (l : LF h p S) : LF (frameOf h) p S:=by
  have gl : ∀ {b y},h.get b = y → y ≠ .hole → (frameOf h).get b = y:=fun e hx => by
    unfold frameOf; rw [get_mk_lt _ _ _ _ (get_lt e hx)]; exact e
  obtain ⟨x,mb,nb,rs,h1,h2,h3,h4⟩:=l
  refine ⟨x,mb,nb,rs,gl h1 (by simp),h2,gl h3 (by simp),fun i hi => ?_⟩
  obtain ⟨y,e1,e2⟩:=h4 i hi
  exact ⟨y,e1,e2.frame⟩
end
structure A62 where
  p : Nat
  nn : Nat
  S : List (List Nat)
def Ok62 (b : A62) (h : Heap) : Prop:=OkS b.S ∧ b.S.length ≤ 243 ∧ LF h b.p b.S ∧ b.nn ≤ 40
def Pre62 (b : A62) (args : List AV) (h : Heap) : Prop:=Ok62 b h ∧ args = [.ptr b.p 0 3,G b.nn]
def Post62 (b : A62) (h : Heap) (v : AV) (own : List AObj) : Prop:=(okC b.S b.nn = true → ∃ x,v = .tup [x,.bool true] ∧ TB h (h.plus own) x (rowsC b.S b.nn)) ∧ (okC b.S b.nn = false → v = .tup [.nils,.bool false] ∧ own = [])
noncomputable def T38 : CallF:=addK tbl T37 62 Pre62 Post62
theorem t38 : Sound Go.Proofs.Try.prog T38:=Sound.addK follows ok t37 (by decide) _ _
theorem stL_ok {W : List (List Int)} {R : List (List Nat)} (hn : R.length ≤ 243) : OkS (stL W R):=by
  have e : (stL W R).length = R.length:=by simp [stL]
  have g : ∀ i,∃ s,(stL W R).getD i [] = nxL W R s ∨ (stL W R).getD i [] = []:=fun i => by
    unfold stL
    rw [List.getD_eq_getElem?_getD,List.getElem?_map]
    cases R[i]? with
    | none => exact ⟨[],.inr rfl⟩
    | some s => exact ⟨s,.inl rfl⟩
  refine ⟨fun i j hj => ?_,fun i => ?_,by omega⟩
  · rw [e]
    obtain ⟨s,h | h⟩:=g i
    · rw [h] at hj; exact nxL_lt hj
    · rw [h] at hj; cases hj
  · obtain ⟨s,h | h⟩:=g i
    · rw [h]; have:=nxL_len W R s; omega
    · rw [h]; simp
def AR.gd (a : AR) (m n lo : Int) : Bool:=a.rm m && decide (lo ≤ n ∧ n ≤ 40)
def AR.cn (a : AR) (m : Int) (n : Nat) : Nat:=if n = 0 then 1 else (rowC (a.steps m) (n - 1)).sum
def AR.cntV (a : AR) (m n : Int) : AV:=if a.gd m n 0 then (if okC (a.steps m) n.toNat then .tup [G (a.cn m n.toNat),G 0] else .tup [G 0,G 5]) else .tup [G 0,G 2]
theorem AR.rm_iff {a : AR} {m : Int} (h : a.rm m = true) : a.ru = true ∧ 1 ≤ m ∧ m ≤ 5:=by
  unfold AR.rm at h
  simpa using h
theorem AR.steps_ok {a : AR} {m : Int} (h : a.rm m = true) : OkS (a.steps m) ∧ (a.steps m).length ≤ 243 ∧ (a.steps m).length = (a.rows m).length:=by
  obtain ⟨h1,h2⟩:=a.rm_iff h
  have q3:=a.q3 h1
  have sm:=rwL_small (q:=a.q.toNat) (B:=a.B) (m:=m.toNat) (by omega) (by omega)
  have e : (a.steps m).length = (a.rows m).length:=by simp [AR.steps,stL]
  exact ⟨stL_ok sm,by rw [e]; exact sm,e⟩
section
variable {a : AR} {m n : Int}
end
structure ARmn where
  a : AR
  m : Int
  n : Int
def PreMn (b : ARmn) (args : List AV) (h : Heap) : Prop:=OkR b.a h ∧ args = [b.a.v,G b.m,G b.n]
def Post21 (b : ARmn) (h : Heap) (v : AV) (own : List AObj) : Prop:=v = b.a.cntV b.m b.n ∧ own = []
noncomputable def T39 : CallF:=addK tbl T38 21 PreMn Post21
theorem t39 : Sound Go.Proofs.Try.prog T39:=Sound.addK follows ok t38 (by decide) _ _
end Go.Proofs.Ytljgfdamdcikgaa.Ev
set_option linter.unusedVariables false
set_option linter.unusedSimpArgs false
namespace Go.Proofs.Ytljgfdamdcikgaa.Ev
open Go Go.AEv
def al (S : List (List Nat)) : Nat → Nat → Bool
  | 0,_ => true
  | k + 1,i => (S.getD i []).any (al S k)
theorem al_down {S : List (List Nat)} : ∀ {k i : Nat},al S (k + 1) i = true → al S k i = true
  | 0,_,_ => rfl
  | k + 1,i,h => by
    unfold al at h ⊢
    obtain ⟨c,h1,h2⟩:=List.any_eq_true.1 h
    exact List.any_eq_true.2 ⟨c,h1,al_down h2⟩
theorem al_le {S : List (List Nat)} {i : Nat} : ∀ {k d : Nat},al S (k + d) i = true → al S k i = true
  | k,0,h => h
  | k,d + 1,h => al_le (d:=d) (al_down h)
theorem al_iff {S : List (List Nat)} : ∀ {k i : Nat},al S k i = true ↔ ∃ f : Nat → Nat,f 0 = i ∧ ∀ t,t < k → f (t + 1) ∈ S.getD (f t) []
  | 0,i => ⟨fun _ => ⟨fun _ => i,rfl,fun t h => absurd h (by omega)⟩,fun _ => rfl⟩
  | k + 1,i => by
    have a : al S (k + 1) i = (S.getD i []).any (al S k):=rfl
    rw [a,List.any_eq_true]
    constructor
    · rintro ⟨c,h1,h2⟩
      obtain ⟨f,h3,h4⟩:=al_iff.1 h2
      refine ⟨fun t => if t = 0 then i else f (t - 1),rfl,fun t ht => ?_⟩
      cases t with
      | zero =>
        show f 0 ∈ S.getD i []
        rw [h3]; exact h1
      | succ t =>
        exact h4 t (by omega)
    · rintro ⟨f,h1,h2⟩
      have:=h2 0 (by omega)
      rw [h1] at this
      exact ⟨f 1,this,al_iff.2 ⟨fun t => f (t + 1),rfl,fun t ht => h2 (t + 1) (by omega)⟩⟩
theorem pigeon : ∀ (n : Nat) (f : Nat → Nat),(∀ i,i ≤ n → f i < n) → ∃ i j,i < j ∧ j ≤ n ∧ f i = f j
  | 0,f,h => absurd (h 0 (Nat.le_refl _)) (by omega)
  | n + 1,f,h => by
    by_cases c : ∃ i,i ≤ n ∧ f i = f (n + 1)
    · obtain ⟨i,a,b⟩:=c
      exact ⟨i,n + 1,by omega,Nat.le_refl _,b⟩
    · have c' : ∀ i,i ≤ n → f i ≠ f (n + 1):=fun i a b => c ⟨i,a,b⟩
      obtain ⟨i,j,a1,a2,a3⟩:=pigeon n (fun i => if f i = n then f (n + 1) else f i) (fun i hi => by
        have h1:=h i (by omega)
        have h2:=h (n + 1) (Nat.le_refl _)
        have h3:=c' i hi
        by_cases e : f i = n
        · simp only [e,if_true]; omega
        · simp only [e,if_false]; omega)
      refine ⟨i,j,a1,by omega,?_⟩
      have h3:=c' i (by omega)
      have h4:=c' j (by omega)
      by_cases e1 : f i = n
      · by_cases e2 : f j = n
        · omega
        · simp only [e1,e2,if_true,if_false] at a3; omega
      · by_cases e2 : f j = n
        · simp only [e1,e2,if_true,if_false] at a3; omega
        · simp only [e1,e2,if_false] at a3; exact a3
variable {M : List (List Int)}
theorem al_big {S : List (List Nat)} (lt : ∀ i,∀ j ∈ S.getD i [],j < S.length) {i : Nat} (hi : i < S.length) (h : al S S.length i = true) (k : Nat) : al S k i = true:=by
  obtain ⟨f,h0,hf⟩:=al_iff.1 h
  have hl : ∀ t,t ≤ S.length → f t < S.length:=fun t ht => by
    cases t with
    | zero => rw [h0]; exact hi
    | succ t => exact lt _ _ (hf t (by omega))
  obtain ⟨a,b,hab,hb,e⟩:=pigeon S.length f hl
  refine al_iff.2 ⟨fun t => if t < a then f t else f (a + (t - a) % (b - a)),?_,fun t _ => ?_⟩
  · by_cases c : 0 < a
    · simp only [c,if_true]; exact h0
    · have : a = 0:=by omega
      subst this
      simp only [Nat.lt_irrefl,if_false,Nat.zero_sub,Nat.zero_mod,Nat.add_zero]; exact h0
  · simp only
    by_cases c : t + 1 < a
    · rw [if_pos c,if_pos (by omega)]
      exact hf t (by omega)
    · rw [if_neg c]
      by_cases c2 : t < a
      · rw [if_pos c2]
        have : t + 1 - a = 0:=by omega
        rw [this,Nat.zero_mod,Nat.add_zero]
        have:=hf t (by omega)
        rw [show t + 1 = a by omega] at this
        exact this
      · rw [if_neg c2]
        have hm : (t - a) % (b - a) < b - a:=Nat.mod_lt _ (by omega)
        have h2:=hf (a + (t - a) % (b - a)) (by omega)
        have e2 : t + 1 - a = (t - a) + 1:=by omega
        rw [e2]
        by_cases c3 : (t - a) % (b - a) + 1 = b - a
        · have : ((t - a) + 1) % (b - a) = 0:=by
            rw [Nat.add_mod]
            by_cases d1 : b - a = 1
            · rw [d1]; omega
            · rw [Nat.mod_eq_of_lt (show 1 < b - a by omega),c3,Nat.mod_self]
          rw [this,Nat.add_zero]
          rw [show a + (t - a) % (b - a) + 1 = b by omega,← e] at h2
          exact h2
        · have : ((t - a) + 1) % (b - a) = (t - a) % (b - a) + 1:=by
            rw [Nat.add_mod,Nat.mod_eq_of_lt (show 1 < b - a by omega),Nat.mod_eq_of_lt (by omega)]
          rw [this,← Nat.add_assoc]
          exact h2
theorem gD_mem {L : List Nat} {t : Nat} (h : t < L.length) : L.getD t 0 ∈ L:=by
  rw [List.getD_eq_getElem?_getD,List.getElem?_eq_getElem h]
  exact List.getElem_mem h
def Rw (S : List (List Nat)) : Nat → Nat → Nat → Prop
  | 0,i,j => i = j
  | k + 1,i,j => ∃ c,c ∈ S.getD i [] ∧ Rw S k c j
section
variable {S : List (List Nat)}
theorem Rw.add {l j m : Nat} : ∀ {k i : Nat},Rw S k i j → Rw S l j m → Rw S (k + l) i m
  | 0,i,h,g => by
    have e : i = j:=h
    subst e
    rw [Nat.zero_add]; exact g
  | k + 1,i,h,g => by
    obtain ⟨c,h1,h2⟩:=h
    rw [show k + 1 + l = (k + l) + 1 by omega]
    exact ⟨c,h1,h2.add g⟩
theorem Rw.one {i j : Nat} (h : j ∈ S.getD i []) : Rw S 1 i j:=⟨j,h,rfl⟩
theorem Rw.snoc {k i j c : Nat} (h : Rw S k i j) (g : c ∈ S.getD j []) : Rw S (k + 1) i c:=h.add (Rw.one g)
theorem Rw.last {j : Nat} : ∀ {k i : Nat},Rw S (k + 1) i j → ∃ c,Rw S k i c ∧ j ∈ S.getD c []
  | 0,i,h => by
    obtain ⟨c,h1,h2⟩:=h
    have e : c = j:=h2
    subst e
    exact ⟨i,rfl,h1⟩
  | k + 1,i,h => by
    obtain ⟨c,h1,h2⟩:=h
    obtain ⟨d,h3,h4⟩:=Rw.last h2
    exact ⟨d,⟨c,h1,h3⟩,h4⟩
theorem Rw.al {j m : Nat} : ∀ {k i : Nat},Rw S k i j → al S m j = true → al S (m + k) i = true
  | 0,i,h,g => by
    have e : i = j:=h
    subst e
    exact g
  | k + 1,i,h,g => by
    obtain ⟨c,h1,h2⟩:=h
    show (S.getD i []).any (Ev.al S (m + k)) = true
    exact List.any_eq_true.2 ⟨c,h1,h2.al g⟩
theorem Rw.lt (lt : ∀ i,∀ j ∈ S.getD i [],j < S.length) {j : Nat} : ∀ {k i : Nat},Rw S k i j → i < S.length → j < S.length
  | 0,i,h,g => by
    have e : i = j:=h
    rw [← e]; exact g
  | k + 1,i,⟨c,h1,h2⟩,g => h2.lt lt (lt _ _ h1)
def LG (S : List (List Nat)) (i z : Nat) : Prop:=∀ k,al S k i = true ↔ k < z
theorem LG.nc {i z : Nat} (h : LG S i z) (lt : ∀ i,∀ j ∈ S.getD i [],j < S.length) (hi : i < S.length) : al S S.length i = false:=by
  cases c : al S S.length i
  · rfl
  · have:=(h z).1 (al_big lt hi c z)
    omega
theorem LG.le {i z : Nat} (h : LG S i z) (lt : ∀ i,∀ j ∈ S.getD i [],j < S.length) (hi : i < S.length) : z ≤ S.length:=by
  have:=h.nc lt hi
  have h2:=h S.length
  rw [this] at h2
  have : ¬ S.length < z:=fun c => by cases h2.2 c
  omega
theorem LG.pos {i z : Nat} (h : LG S i z) : 0 < z:=(h 0).1 rfl
def MX (S : List (List Nat)) (L : List Nat) (m : Nat) : Prop:=(∀ c ∈ L,∃ z,LG S c z ∧ z ≤ m) ∧ (m = 0 ∨ ∃ c ∈ L,LG S c m)
theorem MX.nil : MX S [] 0:=⟨fun _ h => (by cases h),.inl rfl⟩
theorem MX.snoc {L : List Nat} {m c z : Nat} (h : MX S L m) (g : LG S c z) : MX S (L ++ [c]) (max m z):=by
  constructor
  · intro x hx
    rcases List.mem_append.1 hx with a | a
    · obtain ⟨y,h1,h2⟩:=h.1 x a
      exact ⟨y,h1,by omega⟩
    · rw [List.mem_singleton.1 a]
      exact ⟨z,g,by omega⟩
  · by_cases e : m ≤ z
    · rw [Nat.max_eq_right e]
      exact .inr ⟨c,by simp,g⟩
    · rw [Nat.max_eq_left (by omega)]
      rcases h.2 with a | ⟨x,h1,h2⟩
      · exact .inl a
      · exact .inr ⟨x,List.mem_append_left _ h1,h2⟩
theorem MX.take {L : List Nat} {t m z : Nat} (ht : t < L.length) (h : MX S (L.take t) m) (g : LG S (L.getD t 0) z) : MX S (L.take (t + 1)) (max m z):=by
  have e : L.take (t + 1) = L.take t ++ [L.getD t 0]:=by
    rw [List.take_add_one,List.getElem?_eq_getElem ht,List.getD_eq_getElem?_getD,List.getElem?_eq_getElem ht]; rfl
  rw [e]; exact h.snoc g
theorem MX.lg {v m : Nat} (h : MX S (S.getD v []) m) : LG S v (m + 1):=fun k => by
  cases k with
  | zero => exact ⟨fun _ => by omega,fun _ => rfl⟩
  | succ k =>
    have a : al S (k + 1) v = (S.getD v []).any (al S k):=rfl
    rw [a,List.any_eq_true]
    constructor
    · rintro ⟨c,h1,h2⟩
      obtain ⟨z,h3,h4⟩:=h.1 c h1
      have:=(h3 k).1 h2
      omega
    · intro hk
      rcases h.2 with e | ⟨c,h1,h2⟩
      · omega
      · exact ⟨c,h1,(h2 k).2 (by omega)⟩
def LS (S : List (List Nat)) (z : Int) : Prop:=(z = -1 ∧ ∃ i,i < S.length ∧ al S S.length i = true) ∨ ∃ m : Nat,z = m ∧ ∀ k,(∃ i,i < S.length ∧ al S k i = true) ↔ k < m
theorem LS.uniq (lt : ∀ i,∀ j ∈ S.getD i [],j < S.length) {z w : Int} (h : LS S z) (g : LS S w) : z = w:=by
  have big : ∀ m : Nat,(∃ i,i < S.length ∧ al S S.length i = true) → ¬ ∀ k,(∃ i,i < S.length ∧ al S k i = true) ↔ k < m:=fun m ⟨i,h1,h2⟩ h3 => by
    have:=(h3 m).1 ⟨i,h1,al_big lt h1 h2 m⟩
    omega
  rcases h with ⟨rfl,h⟩ | ⟨a,rfl,h⟩ <;> rcases g with ⟨rfl,g⟩ | ⟨b,rfl,g⟩
  · rfl
  · exact absurd g (big b h)
  · exact absurd h (big a g)
  · have h1:=(h b).symm.trans (g b)
    have h2:=(h a).symm.trans (g a)
    have : a = b:=by omega
    rw [this]
theorem MX.ls {m : Nat} (h : MX S (List.range S.length) m) : LS S m:=.inr ⟨m,rfl,fun k => by
  constructor
  · rintro ⟨i,h1,h2⟩
    obtain ⟨z,h3,h4⟩:=h.1 i (List.mem_range.2 h1)
    have:=(h3 k).1 h2
    omega
  · intro hk
    rcases h.2 with e | ⟨c,h1,h2⟩
    · omega
    · exact ⟨c,List.mem_range.1 h1,(h2 k).2 hk⟩⟩
end
def fm (k : Nat) : List (Nat × Int) → Option Int
  | [] => none
  | (c,w) :: E => if k = c then some w else fm k E
def pm (k : Nat) (z : Int) : List (Nat × Int) → List (Nat × Int)
  | [] => [(k,z)]
  | (c,w) :: E => if k = c then (k,z) :: E else (c,w) :: pm k z E
theorem fm_pm (k : Nat) (z : Int) (j : Nat) : ∀ E,fm j (pm k z E) = if j = k then some z else fm j E
  | [] => rfl
  | (c,w) :: E => by
    unfold pm
    by_cases e : k = c
    · rw [if_pos e]
      show (if j = k then some z else fm j E) = if j = k then some z else (if j = c then some w else fm j E)
      by_cases d : j = k
      · rw [if_pos d,if_pos d]
      · rw [if_neg d,if_neg d,if_neg (by omega)]
    · rw [if_neg e]
      show (if j = c then some w else fm j (pm k z E)) = if j = k then some z else (if j = c then some w else fm j E)
      rw [fm_pm k z j E]
      by_cases d : j = c
      · rw [if_pos d,if_pos d,if_neg (by omega)]
      · rw [if_neg d,if_neg d]
def mv (E : List (Nat × Int)) : List (AV × AV):=E.map fun e => (G e.1,G e.2)
theorem find_mv (k : Nat) : ∀ E,findA (G k) (mv E) = some ((fm k E).map G)
  | [] => rfl
  | (c,w) :: E => by
    show (match aveq (G k) (G c) with | some true => some (some (G w)) | some false => findA (G k) (mv E) | none => none) = some ((if k = c then some w else fm k E).map G)
    rw [aveq_n]
    by_cases e : k = c
    · subst e
      simp
    · rw [beq_eq_false_iff_ne.2 e,if_neg e]
      exact find_mv k E
theorem put_mv (k : Nat) (z : Int) : ∀ E,putMap (G k) (G z) (mv E) = some (mv (pm k z E))
  | [] => rfl
  | (c,w) :: E => by
    show (match aveq (G k) (G c) with | some true => some ((G k,G z) :: mv E) | some false => (putMap (G k) (G z) (mv E)).map ((G c,G w) :: ·) | none => none) = some (mv (if k = c then (k,z) :: E else (c,w) :: pm k z E))
    rw [aveq_n]
    by_cases e : k = c
    · subst e
      simp [mv]
    · rw [beq_eq_false_iff_ne.2 e,if_neg e,put_mv k z E]
      rfl
def cf (E : List (Nat × Int)) : Nat → Nat
  | 0 => 0
  | m + 1 => cf E m + (if fm m E = none then 1 else 0)
end Go.Proofs.Ytljgfdamdcikgaa.Ev
set_option linter.unusedVariables false
set_option linter.unusedSimpArgs false
namespace Go.Proofs.Ytljgfdamdcikgaa.Ev
open Go Go.AEv
attribute [local simp] evFunc initS evOps_c evTrim_c evSkip_c evExit_c evRet_c evSeq_c evCond_c evBlock_c evDraw_c runOps_n runOps_c exec_n exec_g pure1_c act AOpd.ev T.get T.set T.put evBin evUn forceT_eq forceV_eq forceL_eq evRess evRes one keep runFP_n runFP_c app_none AV.flats AV.flat came_some List.getElem?_cons_zero List.getElem?_cons_succ beqT wrapI idxI tdivI tmodI decT decF ibT ibF inT inF evScope_c if_pos if_neg Cm_some thenW_n thenW_e thenW_r blkW_n blkW_e blkW_r goI kn putAt AV.cells fillA loadA takeA mk Eff.isAll Eff.isNone Eff.commutes Eff.spares okPair apart eqAgg fits LK.fits allEq aveq eqk mmA
def lN (f : Nat → Nat) (n : Nat) : List Nat:=(List.range n).map f
theorem lN_len (f : Nat → Nat) (n : Nat) : (gn (lN f n)).length = n:=by simp [gn,lN]
theorem lN_at (f : Nat → Nat) {n i : Nat} (h : i < n) : (gn (lN f n))[i]? = some (G (f i)):=by
  unfold gn lN
  rw [List.map_map,List.getElem?_map,List.getElem?_range h]; rfl
theorem lN_set (f : Nat → Nat) {n i : Nat} (h : i < n) (v : Nat) : (gn (lN f n)).set i (G v) = gn (lN (fun t => if t = i then v else f t) n):=by
  apply List.ext_getElem?
  intro j
  by_cases hj : j < n
  · rw [lN_at _ hj]
    by_cases e : i = j
    · subst e
      rw [List.getElem?_set_self (by rw [lN_len]; exact h),if_pos rfl]
    · rw [List.getElem?_set_ne e,lN_at _ hj,if_neg (fun h => e h.symm)]
  · rw [List.getElem?_eq_none (by rw [List.length_set,lN_len]; omega),List.getElem?_eq_none (by rw [lN_len]; omega)]
def rowS (S : List (List Nat)) (k : Nat) : List Nat:=lN (fun i => sat (cnt S k i)) S.length
def rowsS (S : List (List Nat)) (k : Nat) : List (List AV):=(List.range k).map fun k => gn (rowS S k)
def LN (h : Heap) (x : AV) (S : List (List Nat)) : Prop:=∃ rs,((x = .nils ∧ S.length = 0) ∨ ∃ b,x = .slice b 0 S.length S.length ∧ h.get b = .cells 1 S.length rs) ∧ rs.length = S.length ∧ ∀ k,k < S.length → ∃ y,rs[k]? = some y ∧ RV h y (gn (S.getD k []))
theorem LN.kp {h h' : Heap} {x : AV} {S : List (List Nat)} (l : LN h x S) (k : Kp (fun _ => False) h h') : LN h' x S:=by
  obtain ⟨rs,h1,h2,h3⟩:=l
  refine ⟨rs,?_,h2,fun i hi => ?_⟩
  · rcases h1 with h | ⟨b,e,g⟩
    · exact .inl h
    · exact .inr ⟨b,e,k.at g (by simp) id⟩
  · obtain ⟨y,e1,e2⟩:=h3 i hi
    exact ⟨y,e1,e2.kp k (fun _ _ => id)⟩
theorem LN.fr {h : Heap} {x : AV} {S : List (List Nat)} (l : LN h x S) : LN (frameOf h) x S:=by
  obtain ⟨rs,h1,h2,h3⟩:=l
  refine ⟨rs,?_,h2,fun i hi => ?_⟩
  · rcases h1 with h | ⟨b,e,g⟩
    · exact .inl h
    · refine .inr ⟨b,e,?_⟩
      unfold frameOf
      rw [get_mk_lt _ _ _ _ (get_lt g (by simp))]; exact g
  · obtain ⟨y,e1,e2⟩:=h3 i hi
    exact ⟨y,e1,e2.frame⟩
theorem listOf_rv {h : Heap} {y : AV} {L : List Nat} (e : listOf h y = some (L.map fun (k : Nat) => (k : Int))) : RV h y (gn L):=by
  rcases listOf_some e with ⟨rfl,e2⟩ | ⟨b,v,rfl,g⟩
  · have : L = []:=by simpa using e2
    subst this; exact .inl ⟨rfl,rfl⟩
  · refine .inr ⟨b,v,by simp [gn],?_⟩
    rw [g,gn_gs]
theorem LT.ln {h : Heap} {x : AV} {S : List (List Nat)} (l : LT h x (ntI S)) : LN h x S:=by
  obtain ⟨rs,lv,hl,hr⟩:=l
  have hl : rs.length = S.length:=by simpa [ntI] using hl
  refine ⟨rs,?_,hl,fun k hk => ?_⟩
  · rcases lv with ⟨e,e2⟩ | ⟨b,e,g⟩
    · exact .inl ⟨e,by rw [← hl,e2]; rfl⟩
    · rw [hl] at e g; exact .inr ⟨b,e,g⟩
  · obtain ⟨l,e1,e2⟩:=hr k rs[k] (List.getElem?_eq_getElem (by omega))
    refine ⟨rs[k],List.getElem?_eq_getElem (by omega),?_⟩
    unfold ntI at e1
    rw [List.getElem?_map,List.getElem?_eq_getElem hk] at e1
    simp only [Option.map_some,Option.some.injEq] at e1
    subst e1
    rw [List.getD_eq_getElem?_getD,List.getElem?_eq_getElem hk]
    exact listOf_rv e2
section
variable {S : List (List Nat)} {kk nn : Nat}
structure PS (S : List (List Nat)) (xo : AV) (kk : Nat) (h : Heap) (bo br : Nat) (ros : List AV) : Prop where
  e : xo = .slice bo 0 (kk + 1) (kk + 1)
  g : h.get bo = .cells 1 (kk + 1) ros
  r : ros[kk]? = some (.slice br 0 S.length S.length)
  l : ros.length = kk + 1
  gr : h.get br = .cells 1 S.length (gn (rowS S kk))
theorem PS.kp {xo : AV} {h h' : Heap} {bo br : Nat} {ros : List AV} (t : PS S xo kk h bo br ros) (k : Kp (fun _ => False) h h') : PS S xo kk h' bo br ros:=⟨t.e,k.at t.g (by simp) id,t.r,t.l,k.at t.gr (by simp) id⟩
theorem LN.sx {h : Heap} {x : AV} (l : LN h x S) : (x = .nils ∧ S.length = 0) ∨ ∃ b,x = .slice b 0 S.length S.length:=by
  obtain ⟨rs,h1,_⟩:=l
  rcases h1 with h | ⟨b,e,_⟩
  · exact .inl h
  · exact .inr ⟨b,e⟩
end
structure A71 where
  x : AV
  nn : Nat
  S : List (List Nat)
def Pre71 (b : A71) (args : List AV) (h : Heap) : Prop:=(OkS b.S ∧ LN h b.x b.S ∧ b.nn ≤ 40) ∧ args = [b.x,G b.nn]
def Post71 (b : A71) (h : Heap) (v : AV) (own : List AObj) : Prop:=TB h (h.plus own) v (rowsS b.S b.nn)
noncomputable def T40 : CallF:=addK tbl T39 71 Pre71 Post71
theorem t40 : Sound Go.Proofs.Try.prog T40:=Sound.addK follows ok t39 (by decide) _ _
section
variable {S : List (List Nat)} {nn : Nat}
end
section
variable {a : AR} {m n : Int}
def AR.rcV (a : AR) (m n : Int) : AV:=if okC (a.steps m) n.toNat then .tup [G (a.cn m n.toNat),.bool true] else .tup [G 0,.bool false]
end
def Pre33 (b : ARmn) (args : List AV) (h : Heap) : Prop:=(OkR b.a h ∧ b.a.gd b.m b.n 0 = true) ∧ args = [b.a.v,G b.m,G b.n]
def Post33 (b : ARmn) (h : Heap) (v : AV) (own : List AObj) : Prop:=v = b.a.rcV b.m b.n ∧ own = []
noncomputable def T41 : CallF:=addK tbl T40 33 Pre33 Post33
theorem t41 : Sound Go.Proofs.Try.prog T41:=Sound.addK follows ok t40 (by decide) _ _
section
variable {L : List Nat} {v : Nat}
end
def Pre93 (b : AV × Nat × List Nat) (args : List AV) (h : Heap) : Prop:=(RV h b.1 (gn b.2.2) ∧ b.2.2.length ≤ 1000000) ∧ args = [b.1,G b.2.1]
def Post93 (b : AV × Nat × List Nat) (h : Heap) (v : AV) (own : List AObj) : Prop:=(∃ k : Int,v = G k ∧ (decide (0 ≤ k) = decide (b.2.1 ∈ b.2.2))) ∧ own = []
noncomputable def T42 : CallF:=addK tbl T41 93 Pre93 Post93
theorem t42 : Sound Go.Proofs.Try.prog T42:=Sound.addK follows ok t41 (by decide) _ _
def Post70 (b : AV × Nat × List Nat) (h : Heap) (v : AV) (own : List AObj) : Prop:=v = .bool (decide (b.2.1 ∈ b.2.2)) ∧ own = []
noncomputable def T43 : CallF:=addK tbl T42 70 Pre93 Post70
theorem t43 : Sound Go.Proofs.Try.prog T43:=Sound.addK follows ok t42 (by decide) _ _
def pE (S : List (List Nat)) (g : Nat → Nat) (i j : Nat) : Nat:=((List.range i).map fun i' => ((S.getD i' []).count j) * g i').sum
def ev (S : List (List Nat)) (f : Nat) : Nat → Nat → Nat
  | 0,j => if j = f then 1 else 0
  | k + 1,j => pE S (ev S f k) S.length j
def vE (S : List (List Nat)) (f k : Nat) : List Nat:=lN (ev S f k) S.length
section
variable {S : List (List Nat)} {p w26 w27 : Nat}
end
section
variable {S : List (List Nat)} {p w26 w27 : Nat}
def okE (S : List (List Nat)) (f nn : Nat) : Bool:=af (fun k => decide ((vE S f (k + 1)).sum ≤ 1152921504606846976)) 0 (nn - 1)
end
structure A75 where
  p : Nat
  f : Nat
  N : Nat
  S : List (List Nat)
def Ok75 (b : A75) (h : Heap) : Prop:=OkS b.S ∧ LF h b.p b.S ∧ b.f < b.S.length ∧ b.N + 1 ≤ 40
def Pre75 (b : A75) (args : List AV) (h : Heap) : Prop:=Ok75 b h ∧ args = [.ptr b.p 0 3,G b.f,G (b.N + 1 : Nat)]
def Post75 (b : A75) (h : Heap) (v : AV) (own : List AObj) : Prop:=(okE b.S b.f (b.N + 1) = true → ∃ x,v = .tup [x,.bool true] ∧ RV (h.plus own) x (gn (vE b.S b.f b.N))) ∧ (okE b.S b.f (b.N + 1) = false → v = .tup [.nils,.bool false] ∧ own = [])
noncomputable def T44 : CallF:=addK tbl T43 75 Pre75 Post75
theorem t44 : Sound Go.Proofs.Try.prog T44:=Sound.addK follows ok t43 (by decide) _ _
def rT (S : List (List Nat)) (N f i : Nat) : Nat:=if f ∈ S.getD i [] then ev S f N i else 0
def rP (S : List (List Nat)) (N f i : Nat) : Nat:=((List.range i).map (rT S N f)).sum
def rA (S : List (List Nat)) (N f : Nat) : Nat:=((List.range f).map fun f' => rP S N f' S.length).sum
def gE (S : List (List Nat)) (N f : Nat) : Bool:=okE S f (N + 1) && decide (rA S N (f + 1) ≤ 1152921504606846976)
def okR (S : List (List Nat)) (N : Nat) : Bool:=af (gE S N) 0 S.length
section
variable {S : List (List Nat)} {p N : Nat}
end
def AR.rn (a : AR) (m : Int) (n : Nat) : Nat:=rA (a.steps m) (n - 1) (a.steps m).length
def AR.okr (a : AR) (m : Int) (n : Nat) : Bool:=okR (a.steps m) (n - 1)
def AR.rngV (a : AR) (m n : Int) : AV:=if a.gd m n 1 then (if a.okr m n.toNat then .tup [G (a.rn m n.toNat),G 0] else .tup [G 0,G 5]) else .tup [G 0,G 2]
section
variable {a : AR} {m n : Int}
end
def Post41 (b : ARmn) (h : Heap) (v : AV) (own : List AObj) : Prop:=v = b.a.rngV b.m b.n ∧ own = []
noncomputable def T45 : CallF:=addK tbl T44 41 PreMn Post41
theorem t45 : Sound Go.Proofs.Try.prog T45:=Sound.addK follows ok t44 (by decide) _ _
def capL (bM bL bF : Nat) : List AV:=[.ptr bM 0 1,.ptr bL 0 1,.ptr bF 0 1]
structure CM (K : Heap) (S : List (List Nat)) (p bM bm bL bF : Nat) : Prop where
  gM : K.get bM = .cells 0 1 [.map bm]
  gL : K.get bL = .cells 0 1 [.ptr p 0 3]
  gF : K.get bF = .cells 0 1 [.func 73 (capL bM bL bF)]
  lf : LF K p S
  hN : K.N ≤ bm
def KN (S : List (List Nat)) (E : List (Nat × Int)) : Prop:=∀ c z,fm c E = some z → z ≠ 0 → ∃ m : Nat,z = m ∧ LG S c m
def IZ (S : List (List Nat)) (E : List (Nat × Int)) (v : Nat) : Prop:=(∀ c,fm c E = some 0 → ∃ k,Rw S (k + 1) c v) ∧ KN S E
def PE (S : List (List Nat)) (E E' : List (Nat × Int)) : Prop:=(∀ c,fm c E' = some 0 ↔ fm c E = some 0) ∧ KN S E' ∧ ∀ c,fm c E ≠ none → fm c E' ≠ none
section
variable {S : List (List Nat)} {p bM bm bL bF : Nat}
theorem LF.kpm {h h' : Heap} {es : List (AV × AV)} (l : LF h p S) (g : h.get bm = .map es) (k : Kp (fun i => i = bm) h h') : LF h' p S:=by
  have nn : ∀ {b s n cs},h.get b = .cells s n cs → ¬ b = bm:=fun e q => by rw [q,g] at e; cases e
  obtain ⟨x,mb,nb,rs,h1,h2,h3,h4⟩:=l
  refine ⟨x,mb,nb,rs,k.at h1 (by simp) (nn h1),h2,k.at h3 (by simp) (nn h3),fun i hi => ?_⟩
  obtain ⟨y,e1,e2⟩:=h4 i hi
  refine ⟨y,e1,e2.kp k fun b hb => ?_⟩
  rcases e2 with ⟨rfl,_⟩ | ⟨b',v,rfl,g'⟩
  · cases hb
  · cases hb; exact nn g'
theorem CM.kp {K K' : Heap} {es : List (AV × AV)} (t : CM K S p bM bm bL bF) (g : K.get bm = .map es) (k : Kp (fun i => i = bm) K K') : CM K' S p bM bm bL bF:=by
  have nn : ∀ {b s n cs},K.get b = .cells s n cs → ¬ b = bm:=fun e q => by rw [q,g] at e; cases e
  exact ⟨k.at t.gM (by simp) (nn t.gM),k.at t.gL (by simp) (nn t.gL),k.at t.gF (by simp) (nn t.gF),t.lf.kpm g k,by rw [k.N]; exact t.hN⟩
theorem PE.refl {E : List (Nat × Int)} (k : KN S E) : PE S E E:=⟨fun _ => Iff.rfl,k,fun _ => id⟩
theorem PE.trans {A B C : List (Nat × Int)} (x : PE S A B) (y : PE S B C) : PE S A C:=⟨fun c => (y.1 c).trans (x.1 c),y.2.1,fun c h => y.2.2 c (x.2.2 c h)⟩
theorem IZ.mark {E : List (Nat × Int)} {v : Nat} (i : IZ S E v) : KN S (pm v 0 E) ∧ ∀ c,c ∈ S.getD v [] → ∀ E',PE S (pm v 0 E) E' → IZ S E' c:=by
  have k0 : KN S (pm v 0 E):=fun c z h hz => by
    rw [fm_pm] at h
    by_cases e : c = v
    · rw [if_pos e] at h; cases h; exact absurd rfl hz
    · rw [if_neg e] at h; exact i.2 c z h hz
  refine ⟨k0,fun c hc E' pe => ⟨fun x hx => ?_,pe.2.1⟩⟩
  have hx:=(pe.1 x).1 hx
  rw [fm_pm] at hx
  by_cases e : x = v
  · rw [e]; exact ⟨0,Rw.one hc⟩
  · rw [if_neg e] at hx
    obtain ⟨k,w⟩:=i.1 x hx
    exact ⟨k + 1,w.snoc hc⟩
theorem PE.done {E E' : List (Nat × Int)} {v m : Nat} (hv : fm v E = none) (pe : PE S (pm v 0 E) E') (l : LG S v (m + 1)) : PE S E (pm v (1 + (m : Int)) E'):=by
  refine ⟨fun c => ?_,fun c z h hz => ?_,fun c h => ?_⟩
  · rw [fm_pm]
    by_cases e : c = v
    · rw [if_pos e,e,hv]
      constructor
      · intro h
        have:=Option.some.inj h
        omega
      · intro h; cases h
    · rw [if_neg e,pe.1 c,fm_pm,if_neg e]
  · rw [fm_pm] at h
    by_cases e : c = v
    · rw [if_pos e] at h
      cases h
      rw [e]
      exact ⟨m + 1,by omega,l⟩
    · rw [if_neg e] at h
      exact pe.2.1 c z h hz
  · rw [fm_pm]
    by_cases e : c = v
    · rw [if_pos e]; simp
    · rw [if_neg e]
      exact pe.2.2 c (by rw [fm_pm,if_neg e]; exact h)
end
section
variable {S : List (List Nat)} {p bM bm bL bF : Nat}
theorem LG.ex {i : Nat} : ∀ {N : Nat},al S N i = false → ∃ m,LG S i m
  | 0,h => by cases h
  | N + 1,h => by
    cases c : al S N i
    · exact LG.ex c
    · refine ⟨N + 1,fun k => ⟨fun hk => ?_,fun hk => ?_⟩⟩
      · apply Decidable.byContradiction
        intro hn
        have:=al_le (k:=N + 1) (d:=k - (N + 1)) (by rw [show N + 1 + (k - (N + 1)) = k by omega]; exact hk)
        rw [h] at this; cases this
      · exact al_le (k:=k) (d:=N - k) (by rw [show k + (N - k) = N by omega]; exact c)
theorem LG.uniq {i m m' : Nat} (h : LG S i m) (g : LG S i m') : m = m':=by
  have h1:=(h m').symm.trans (g m')
  have h2:=(h m).symm.trans (g m)
  omega
end
def okA (S : List (List Nat)) (N : Nat) : Bool:=af (fun f => okE S f (N + 1)) 0 S.length
theorem stL_mem {W : List (List Int)} {R : List (List Nat)} {i f : Nat} (hi : i < R.length) (hf : f < R.length) : decide (f ∈ (stL W R).getD i []) = blw W (R.getD i []) (R.getD f []):=by
  have : (stL W R).getD i [] = nxL W R (R.getD i []):=by
    unfold stL
    rw [List.getD_eq_getElem?_getD,List.getElem?_map,List.getElem?_eq_getElem hi,List.getD_eq_getElem?_getD,List.getElem?_eq_getElem hi]; rfl
  rw [this]
  unfold nxL
  cases hb : blw W (R.getD i []) (R.getD f [])
  · exact decide_eq_false fun h => by
      have:=(List.mem_filter.1 h).2
      rw [hb] at this; cases this
  · exact decide_eq_true (List.mem_filter.2 ⟨List.mem_range.2 hf,hb⟩)
section
variable {a : AG} {m N p : Nat} {R : List (List Nat)}
end
def AR.oka (a : AR) (m : Int) (n : Nat) : Bool:=okA (a.steps m) (n - 1)
def AR.rrV (a : AR) (m n : Int) : AV:=if a.oka m n.toNat then .tup [G (sat (a.rn m n.toNat)),.bool (decide (sat (a.rn m n.toNat) ≤ 1152921504606846976))] else .tup [G 0,.bool false]
section
variable {a : AR} {m n : Int}
end
def Pre42 (b : ARmn) (args : List AV) (h : Heap) : Prop:=(OkR b.a h ∧ b.a.gd b.m b.n 1 = true) ∧ args = [b.a.v,G b.m,G b.n]
def Post42 (b : ARmn) (h : Heap) (v : AV) (own : List AObj) : Prop:=v = b.a.rrV b.m b.n ∧ own = []
noncomputable def T46 : CallF:=addK tbl T45 42 Pre42 Post42
theorem t46 : Sound Go.Proofs.Try.prog T46:=Sound.addK follows ok t45 (by decide) _ _
theorem ws_ss (R : List (List Nat)) : wsL R = ss (R.map stW):=by simp [wsL]
theorem TB.lt' {H0 h h' : Heap} {x : AV} {N : List (List Int)} (t : TB H0 h x (N.map gs)) (k : Kp (fun _ => False) h h') : LT h' x N:=t.lt.kp k
section
variable {nq m : Int} {X Y : List (List Int)}
end
def mdZ (x n : Int) : Int:=(x % 18446744073709551616) % n
theorem mdZ_bd (x : Int) {n : Int} (h : 0 < n) : 0 ≤ mdZ x n ∧ mdZ x n < n:=⟨Int.emod_nonneg _ (by omega),Int.emod_lt_of_pos _ h⟩
def spec19 : SpecV
  | [.int .i64 x,.int .i64 n] => if 0 < n ∧ n < 9223372036854775808 then some (G (mdZ x n)) else none
  | _ => none
theorem wrap_u64 (n : Int) : IntKind.u64.wrap n = n % 18446744073709551616:=by
  unfold IntKind.wrap IntKind.bits IntKind.signed
  simp
theorem c19_ok (J : CallF) (hJ : ∀ a h,J 19 a h = none) (x n : Int) (h1 : 0 < n) (h2 : n < 9223372036854775808) : CallsTo tbl J 19 [G x,G n] e0 (G (mdZ x n),[],false):=by
  unfold mdZ
  refine CallsTo.plain (cf:=c19) (h':=frameOf e0) (by decide) rfl (hJ _ _) rfl rfl ?_
  have w : n % 18446744073709551616 = n:=Int.emod_eq_of_lt (by omega) (by omega)
  have hz : ¬ n = 0:=by omega
  have hm : (x % 18446744073709551616).tmod n = (x % 18446744073709551616) % n:=Int.tmod_eq_emod_of_nonneg (Int.emod_nonneg _ (by decide))
  have a1:=Int.emod_nonneg (x % 18446744073709551616) hz
  have a2:=Int.emod_lt_of_pos (x % 18446744073709551616) h1
  simp [c19,c19_o0,c19_o1,wrap_u64,w,hz,hm,wrapI ((x % 18446744073709551616) % n) (by omega) (by omega)]
noncomputable def T47 : CallF:=addV T46 19 spec19
theorem t47 : Sound Go.Proofs.Try.prog T47:=Sound.addV follows ok t46 (by decide) (fun args v h => by
  unfold spec19 at h
  split at h
  · split at h
    · rename_i hn
      simp only [Option.some.injEq] at h; subst h
      exact c19_ok T46 (fun _ _ => by simp (disch:=decide) only [T1,T2,T3,T4,T5,T6,T7,T8,T9,T10,T11,T12,T13,T14,T15,T16,T17,T18,T19,T20,T21,T22,T23,T24,T25,T26,T27,T28,T29,T30,T31,T32,T33,T34,T35,T36,T37,T38,T39,T40,T41,T42,T43,T44,T45,T46,addI_ne,addX_ne,addV_ne,addK_ne]; rfl) _ _ hn.1 hn.2
    · cases h
  · cases h)
abbrev K19 (J : CallF) : Prop:=∀ (x n : Int) (h : Heap),0 < n → n < 9223372036854775808 → J 19 [G x,G n] h = some (G (mdZ x n),[],false)
theorem k19 : K19 T47:=fun x n h h1 h2 => by simp [T47,addV,spec19,h1,h2]
def btZ (a : Int) : Int:=((BitVec.ofInt 64 a &&& BitVec.ofInt 64 1).toNat : Int)
theorem btZ_bd (a : Int) : 0 ≤ btZ a ∧ btZ a ≤ 1:=by
  unfold btZ
  rw [BitVec.toNat_and]
  have e : (BitVec.ofInt 64 1).toNat = 1:=rfl
  rw [e,Nat.and_one_is_mod]
  omega
theorem c56_ok (J : CallF) (hJ : ∀ a h,J 56 a h = none) (h : Heap) {x : AV} {M : List (List Int)} (mr : MR h x M) {i k : Nat} (hi : i ≤ 1000) (hk : k ≤ 1000) : ∃ v own,CallsTo tbl J 56 [x,G i,G k] h (v,own,false) ∧ (∃ b : Int,v = G b ∧ 0 ≤ b ∧ b ≤ 1) ∧ own = []:=by
  refine Tr.fny (Good:=fun v own => (∃ b : Int,v = G b ∧ 0 ≤ b ∧ b ≤ 1) ∧ own = []) (cf:=c56) (e:=.ret) (s:=T.set (T.set (T.set .leaf [] x) [false] (G i)) [true] (G k)) (by decide) rfl (hJ _ _) rfl rfl (by simp) ?_
  refine Tr.post (Q:=fun s h => ∃ b : Int,s.get [true,true] = G b ∧ 0 ≤ b ∧ b ≤ 1) (fun s h' q => by
    obtain ⟨b,e,q1,q2⟩:=q
    exact ⟨[G b],by simp [c56,evRess,evRes,e],⟨b,rfl,q1,q2⟩,rfl⟩) ?_
  have mf : MR (frameOf h) x M:=mr.lo []
  by_cases c : i < M.length
  · obtain ⟨b,v,cs,r,rfl,g,e,lr⟩:=mf.row c
    have e':=getI e
    have hcs : i < cs.length:=(List.getElem?_eq_some_iff.1 e).1
    rcases lr.cases with ⟨rfl,_⟩ | ⟨rfl,_⟩ | ⟨rb,rv,rfl,gr⟩
    · clear mf mr
      generalize M.length = n at *
      refine Tr.w fun s1 H1 hp _ kR => ?_
      obtain ⟨rfl,rfl⟩:=hp
      have q : True:=trivial
      refine W.seq (W.chunk ?_)
      simp (disch:=first|omega|exact zE rfl|exact zO|exact zL rfl) [c56_o0,zG,q]
      refine W.assoc ?_
      refine W.seq (W.chunk ?_)
      simp (disch:=first|omega|exact zE rfl|exact zO|exact zL rfl) [c56_o1,zG,q,g,e,e']
      refine W.seq (W.chunk ?_)
      simp (disch:=first|omega|exact zE rfl|exact zO|exact zL rfl) [c56_o2,zG,q]
      refine W.seq (W.chunk ?_)
      simp (disch:=first|omega|exact zE rfl|exact zO|exact zL rfl) [c56_o3,zG,q]
      refine W.ret ?_
      try simp only [zW,if_true]
      exact kR _ _ ⟨1,by simp [T.get],by omega,by omega⟩
    · clear mf mr
      generalize M.length = n at *
      refine Tr.w fun s1 H1 hp _ kR => ?_
      obtain ⟨rfl,rfl⟩:=hp
      have q : True:=trivial
      refine W.seq (W.chunk ?_)
      simp (disch:=first|omega|exact zE rfl|exact zO|exact zL rfl) [c56_o0,zG,q]
      refine W.assoc ?_
      refine W.seq (W.chunk ?_)
      simp (disch:=first|omega|exact zE rfl|exact zO|exact zL rfl) [c56_o1,zG,q,g,e,e']
      refine W.seq (W.chunk ?_)
      simp (disch:=first|omega|exact zE rfl|exact zO|exact zL rfl) [c56_o2,zG,q]
      refine W.seq (W.chunk ?_)
      simp (disch:=first|omega|exact zE rfl|exact zO|exact zL rfl) [c56_o3,zG,q]
      refine W.ret ?_
      try simp only [zW,if_true]
      exact kR _ _ ⟨1,by simp [T.get],by omega,by omega⟩
    · obtain ⟨A,hA⟩ : ∃ A,M.getD i [] = A:=⟨_,rfl⟩
      rw [hA] at e e' gr lr
      have lg : (gs A).length = A.length:=by simp
      have gr : (frameOf h).get rb = .cells 1 rv (gs A):=gr
      clear mf mr hA lr
      by_cases d : k < A.length
      · have ek : (gs A)[k]? = some (G (A.getD k 0)):=by
          rw [List.getElem?_map,List.getD_eq_getElem?_getD,List.getElem?_eq_getElem d]; rfl
        have ek':=getI ek
        have bd:=btZ_bd (A.getD k 0)
        have hbt : IntKind.i64.wrap ((BitVec.ofInt IntKind.i64.bits (A.getD k 0) &&& BitVec.ofInt IntKind.i64.bits 1).toNat : Int) = btZ (A.getD k 0):=wrapI (btZ (A.getD k 0)) (by omega) (by omega)
        have hb : evBin .and (G (A.getD k 0)) (G 1) = some (G (btZ (A.getD k 0))):=by
          show some (AV.int .i64 (IntKind.i64.wrap ((BitVec.ofInt IntKind.i64.bits (A.getD k 0) &&& BitVec.ofInt IntKind.i64.bits 1).toNat : Int))) = _
          rw [hbt]
        clear hbt
        generalize btZ (A.getD k 0) = bt at *
        generalize A.getD k 0 = z at *
        generalize gs A = cA at *
        generalize A.length = l at *
        generalize M.length = n at *
        refine Tr.w fun s1 H1 hp _ kR => ?_
        obtain ⟨rfl,rfl⟩:=hp
        have q : True:=trivial
        refine W.seq (W.chunk ?_)
        simp (disch:=first|omega|exact zE rfl|exact zO|exact zL rfl) [c56_o0,zG,q]
        refine W.assoc ?_
        refine W.seq (W.chunk ?_)
        simp (disch:=first|omega|exact zE rfl|exact zO|exact zL rfl) [c56_o1,zG,q,g,e,e']
        refine W.seq (W.cond (v:=true) (by simp (disch:=first|omega|exact zE rfl|exact zO|exact zL rfl) [zG,q]) ?_)
        simp only [if_true,if_false,Bool.false_eq_true]
        refine W.seq (W.chunk ?_)
        simp (disch:=first|omega|exact zE rfl|exact zO|exact zL rfl) [-evBin,c56_o2,zG,q,g,e,e',gr,ek,ek',hb]
        refine W.ret ?_
        try simp only [zW,if_true]
        exact kR _ _ ⟨bt,by simp [T.get],by omega,by omega⟩
      · generalize gs A = cA at *
        generalize A.length = l at *
        generalize M.length = n at *
        refine Tr.w fun s1 H1 hp _ kR => ?_
        obtain ⟨rfl,rfl⟩:=hp
        have q : True:=trivial
        refine W.seq (W.chunk ?_)
        simp (disch:=first|omega|exact zE rfl|exact zO|exact zL rfl) [c56_o0,zG,q]
        refine W.assoc ?_
        refine W.seq (W.chunk ?_)
        simp (disch:=first|omega|exact zE rfl|exact zO|exact zL rfl) [c56_o1,zG,q,g,e,e']
        refine W.seq (W.chunk ?_)
        simp (disch:=first|omega|exact zE rfl|exact zO|exact zL rfl) [c56_o2,zG,q]
        refine W.seq (W.chunk ?_)
        simp (disch:=first|omega|exact zE rfl|exact zO|exact zL rfl) [c56_o3,zG,q]
        refine W.ret ?_
        try simp only [zW,if_true]
        exact kR _ _ ⟨1,by simp [T.get],by omega,by omega⟩
  · have sl:=mf.sl
    clear mf mr
    generalize M.length = n at *
    rcases sl with ⟨rfl,rfl⟩ | ⟨rfl,rfl⟩ | ⟨b,v,rfl⟩
    all_goals
      refine Tr.w fun s1 H1 hp _ kR => ?_
      obtain ⟨rfl,rfl⟩:=hp
      have q : True:=trivial
      refine W.seq (W.chunk ?_)
      simp (disch:=first|omega|exact zE rfl|exact zO|exact zL rfl) [c56_o0,zG,q]
      refine W.assoc ?_
      refine W.seq (W.chunk ?_)
      simp (disch:=first|omega|exact zE rfl|exact zO|exact zL rfl) [c56_o1,zG,q]
      refine W.seq (W.chunk ?_)
      simp (disch:=first|omega|exact zE rfl|exact zO|exact zL rfl) [c56_o2,zG,q]
      refine W.seq (W.chunk ?_)
      simp (disch:=first|omega|exact zE rfl|exact zO|exact zL rfl) [c56_o3,zG,q]
      refine W.ret ?_
      try simp only [zW,if_true]
      exact kR _ _ ⟨1,by simp [T.get],by omega,by omega⟩
structure A56 where
  x : AV
  M : List (List Int)
  i : Nat
  k : Nat
def Pre56 (b : A56) (args : List AV) (h : Heap) : Prop:=(MR h b.x b.M ∧ b.i ≤ 1000 ∧ b.k ≤ 1000) ∧ args = [b.x,G b.i,G b.k]
def Post56 (b : A56) (h : Heap) (v : AV) (own : List AObj) : Prop:=(∃ b : Int,v = G b ∧ 0 ≤ b ∧ b ≤ 1) ∧ own = []
noncomputable def T48 : CallF:=addK tbl T47 56 Pre56 Post56
theorem t48 : Sound Go.Proofs.Try.prog T48:=Sound.addK follows ok t47 (by decide) _ _
abbrev K56 (J : CallF) : Prop:=∀ (h : Heap) (x : AV) (M : List (List Int)) (i k : Nat),MR h x M → i ≤ 1000 → k ≤ 1000 → ∃ b : Int,J 56 [x,G i,G k] h = some (G b,[],false) ∧ 0 ≤ b ∧ b ≤ 1
theorem k56 : K56 T48:=fun h x M i k h1 h2 h3 => by
  obtain ⟨v,own,e,⟨b,rfl,q1,q2⟩,rfl⟩:=addK_some (Pre:=Pre56) (Post:=Post56) (fun b args h hp => by
    obtain ⟨⟨h1,h2,h3⟩,rfl⟩:=hp
    exact c56_ok T47 (fun _ _ => by simp (disch:=decide) only [T1,T2,T3,T4,T5,T6,T7,T8,T9,T10,T11,T12,T13,T14,T15,T16,T17,T18,T19,T20,T21,T22,T23,T24,T25,T26,T27,T28,T29,T30,T31,T32,T33,T34,T35,T36,T37,T38,T39,T40,T41,T42,T43,T44,T45,T46,T47,addI_ne,addX_ne,addV_ne,addK_ne]; rfl) h h1 h2 h3) ⟨x,M,i,k⟩ _ h ⟨⟨h1,h2,h3⟩,rfl⟩
  exact ⟨b,e,q1,q2⟩
theorem k19_48 : K19 T48:=fun x n h h1 h2 => by
  rw [show T48 19 [G x,G n] h = T47 19 [G x,G n] h from by simp (disch:=decide) only [T48,addK_ne]]
  exact k19 x n h h1 h2
end Go.Proofs.Ytljgfdamdcikgaa.Ev
set_option linter.unusedVariables false
set_option linter.unusedSimpArgs false
namespace Go.Proofs.Ytljgfdamdcikgaa.Ev
open Go Go.AEv
structure N2 (H0 h : Heap) (xa xb : AV) (La Lb : List Int) : Prop where
  k : Kp (fun _ => False) H0 h
  a0 : ∀ q,blk xa = some q → H0.size ≤ q
  b0 : ∀ q,blk xb = some q → H0.size ≤ q
  la : LV h xa (gs La)
  lb : LV h xb (gs Lb)
  d : ∀ q,blk xa = some q → blk xb ≠ some q
theorem N2.nil (H0 : Heap) : N2 H0 H0 .nils .nils [] []:=⟨Kp.refl _,fun _ e => (by cases e),fun _ e => (by cases e),LV.nil _,LV.nil _,fun _ e => (by cases e)⟩
theorem N2.swap {H0 h : Heap} {xa xb : AV} {La Lb : List Int} (t : N2 H0 h xa xb La Lb) : N2 H0 h xb xa Lb La:=⟨t.k,t.b0,t.a0,t.lb,t.la,fun q e1 e2 => t.d q e2 e1⟩
theorem N2.app {H0 h : Heap} (h0 : Nat) {xa xb : AV} {La Lb : List Int} (t : N2 H0 h xa xb La Lb) (z : Int) (hn : La.length ≤ 1000000) :
    ∃ x1 e h2,appA (h.plus [.cells 1 1 [G z]]) h0 none 1 8 1 [G z] xa = some (x1,e) ∧ Eff.app e (h.plus [.cells 1 1 [G z]]) = some h2 ∧ N2 H0 h2 x1 xb (La ++ [z]) Lb:=by
  have k1 : Kp (fun _ => False) h (h.plus [.cells 1 1 [G z]]):=Kp.plus _ _
  obtain ⟨x1,e,h2,q1,q2,q3,q4,q5,q6⟩:=app_v (h.plus [.cells 1 1 [G z]]) h0 8 (G z) (t.la.kp k1 (fun _ _ => id)) (by simp; omega)
  have hsz : (h.plus [.cells 1 1 [G z]]).size = h.size + 1:=by rw [plus_size]; rfl
  refine ⟨x1,e,h2,q1,q2,⟨(t.k.trans k1).late q4 t.a0,fun q hq => ?_,t.b0,by simpa using q3,(t.lb.kp k1 (fun _ _ => id)).kp q4 (fun q e1 e2 => t.d q e2 e1),fun q hq e => ?_⟩⟩
  · rcases q5 with h' | ⟨_,h'⟩
    · rw [h'] at hq; exact t.a0 q hq
    · rw [h'] at hq; cases hq; have:=t.k.size; omega
  · rcases q5 with h' | ⟨_,h'⟩
    · rw [h'] at hq; exact t.d q hq e
    · rw [h'] at hq; cases hq; have:=t.lb.lt e; omega
def TR (H0 h : Heap) (xb xw : AV) (M : List (List AV)) : Prop:=∃ rs,LV h xb rs ∧ rs.length = M.length ∧ ∀ (i : Nat) r,rs[i]? = some r → ∃ cs b,M[i]? = some cs ∧ r = .slice b 0 cs.length cs.length ∧ h.get b = .cells 1 cs.length cs ∧ blk xb ≠ some b ∧ blk xw ≠ some b ∧ H0.size ≤ b
structure T2t (H0 h : Heap) (s3 : Nat) (xb xw : AV) (M N : List (List AV)) : Prop where
  k : Kp (· = s3) H0 h
  b0 : ∀ c,blk xb = some c → H0.size ≤ c
  w0 : ∀ c,blk xw = some c → H0.size ≤ c
  rb : TR H0 h xb xw M
  rw' : TR H0 h xw xb N
  d : ∀ c,blk xb = some c → blk xw ≠ some c
theorem T2t.nil (H0 : Heap) (s3 : Nat) : T2t H0 H0 s3 .nils .nils [] []:=⟨Kp.refl _,fun _ e => (by cases e),fun _ e => (by cases e),⟨[],LV.nil _,rfl,fun i r e => by simp at e⟩,⟨[],LV.nil _,rfl,fun i r e => by simp at e⟩,fun _ e => (by cases e)⟩
theorem T2t.swap {H0 h : Heap} {s3 : Nat} {xb xw : AV} {M N : List (List AV)} (t : T2t H0 h s3 xb xw M N) : T2t H0 h s3 xw xb N M:=⟨t.k,t.w0,t.b0,t.rw',t.rb,fun c e1 e2 => t.d c e2 e1⟩
theorem TR.kp {X : Nat → Prop} {H0 h h' : Heap} {xb xw : AV} {M : List (List AV)} (t : TR H0 h xb xw M) (k : Kp X h h') (h1 : ∀ b,blk xb = some b → ¬ X b) (h2 : ∀ b,H0.size ≤ b → blk xw ≠ some b → ¬ X b) : TR H0 h' xb xw M:=by
  obtain ⟨rs,lv,hl,hr⟩:=t
  refine ⟨rs,lv.kp k h1,hl,fun i r e => ?_⟩
  obtain ⟨cs,b,e1,e2,e3,e4,e5,e6⟩:=hr i r e
  exact ⟨cs,b,e1,e2,k.at e3 (by simp) (h2 b e6 e5),e4,e5,e6⟩
theorem T2t.kp {H0 h h' : Heap} {s3 : Nat} {xb xw : AV} {M N : List (List AV)} (t : T2t H0 h s3 xb xw M N) (k : Kp (fun _ => False) h h') : T2t H0 h' s3 xb xw M N :=
  ⟨t.k.trans (k.mono fun _ _ e => e.elim),t.b0,t.w0,t.rb.kp k (fun _ _ => id) (fun _ _ _ => id),t.rw'.kp k (fun _ _ => id) (fun _ _ _ => id),t.d⟩
theorem T2t.upd {H0 h : Heap} {s3 : Nat} {xb xw : AV} {M N : List (List AV)} (t : T2t H0 h s3 xb xw M N) (X : AObj) (hN : h.N ≤ s3) (hs : s3 < H0.size) : T2t H0 (h.upd s3 X) s3 xb xw M N:=by
  have k : Kp (· = s3) h (h.upd s3 X):=Kp.upd _ _ _ hN rfl
  exact ⟨t.k.trans k,t.b0,t.w0,t.rb.kp k (fun b e q => by have:=t.b0 b e; omega) (fun b e _ q => by omega),t.rw'.kp k (fun b e q => by have:=t.w0 b e; omega) (fun b e _ q => by omega),t.d⟩
theorem T2t.app {H0 h : Heap} (h0 : Nat) {s3 : Nat} {xb xw : AV} {M N : List (List AV)} {b : Nat} {cs : List AV} (t : T2t H0 h s3 xb xw M N) (hs : s3 < H0.size) (hv : h.get b = .cells 1 cs.length cs) (hb : blk xb ≠ some b ∧ blk xw ≠ some b ∧ H0.size ≤ b) (hn : M.length ≤ 1000000) :
    ∃ x1 e h2,appA (h.plus [.cells 1 1 [.slice b 0 cs.length cs.length]]) h0 none 1 24 1 [.slice b 0 cs.length cs.length] xb = some (x1,e) ∧ Eff.app e (h.plus [.cells 1 1 [.slice b 0 cs.length cs.length]]) = some h2 ∧ T2t H0 h2 s3 x1 xw (M ++ [cs]) N ∧ Kp (fun c => blk xb = some c) h h2 ∧ (∀ c,c < h.size → blk xb ≠ some c → blk x1 ≠ some c):=by
  obtain ⟨rs,lv,hl,hr⟩:=t.rb
  generalize hvv : AV.slice b 0 cs.length cs.length = v
  have k1 : Kp (fun _ => False) h (h.plus [.cells 1 1 [v]]):=Kp.plus _ _
  obtain ⟨x1,e,h2,q1,q2,q3,q4,q5,q6⟩:=app_v (h.plus [.cells 1 1 [v]]) h0 24 v (lv.kp k1 (fun _ _ => id)) (by omega)
  have hsz : (h.plus [.cells 1 1 [v]]).size = h.size + 1:=by rw [plus_size]; rfl
  have hx1 : ∀ q,q < h.size → blk xb ≠ some q → blk x1 ≠ some q:=fun q hq hne hx1 => by
    rcases q5 with h' | ⟨_,h'⟩
    · rw [h'] at hx1; exact hne hx1
    · rw [h'] at hx1; cases hx1; omega
  have kk : Kp (fun c => blk xb = some c) h h2:=(k1.mono fun _ _ e => e.elim).trans q4
  have hxn : ∀ c,blk x1 = some c → blk xw ≠ some c ∧ H0.size ≤ c:=fun c hc => by
    rcases q5 with h' | ⟨_,h'⟩
    · rw [h'] at hc; exact ⟨t.d c hc,t.b0 c hc⟩
    · rw [h'] at hc; cases hc
      refine ⟨fun e => ?_,by have:=t.k.size; omega⟩
      obtain ⟨rs',lv',_⟩:=t.rw'
      have:=lv'.lt e; omega
  refine ⟨x1,e,h2,q1,q2,⟨?_,fun c hc => (hxn c hc).2,t.w0,⟨rs ++ [v],q3,by simp [hl],fun i r hi => ?_⟩,?_,fun c hc => (hxn c hc).1⟩,kk,hx1⟩
  · refine ⟨by rw [kk.lo,t.k.lo],by rw [kk.N,t.k.N],Nat.le_trans t.k.size kk.size,fun c hc hm => ?_⟩
    rw [kk.get c (Nat.lt_of_lt_of_le hc t.k.size) (fun e => by have:=t.b0 c e; omega),t.k.get c hc hm]
  · by_cases hi' : i < rs.length
    · rw [List.getElem?_append_left hi'] at hi
      obtain ⟨l',b',h1,h2',h3,h4,h5,h6⟩:=hr i r hi
      have hlt:=get_lt h3 (by simp)
      exact ⟨l',b',by rw [List.getElem?_append_left (by omega)]; exact h1,h2',kk.at h3 (by simp) (fun q => h4 q),hx1 b' hlt h4,h5,h6⟩
    · rw [List.getElem?_append_right (by omega)] at hi
      have hi0 : i - rs.length = 0:=by
        rcases Nat.eq_zero_or_pos (i - rs.length) with e | e
        · exact e
        · rw [List.getElem?_eq_none (by simp; omega)] at hi; cases hi
      rw [hi0] at hi
      simp only [List.getElem?_cons_zero,Option.some.injEq] at hi
      subst hi
      exact ⟨cs,b,by rw [List.getElem?_append_right (by omega),← hl,hi0]; rfl,hvv.symm,kk.at hv (by simp) (fun q => hb.1 q),hx1 b (get_lt hv (by simp)) hb.1,hb.2.1,hb.2.2⟩
  · obtain ⟨rs',lv',hl',hr'⟩:=t.rw'
    refine ⟨rs',lv'.kp kk (fun c e1 e2 => t.d c e2 e1),hl',fun i r hi => ?_⟩
    obtain ⟨l',b',h1,h2',h3,h4,h5,h6⟩:=hr' i r hi
    exact ⟨l',b',h1,h2',kk.at h3 (by simp) (fun q => h5 q),h4,hx1 b' (get_lt h3 (by simp)) h5,h6⟩
theorem T2t.sh {H0 h : Heap} {s3 : Nat} {xb xw : AV} {M N : List (List AV)} {cs : List AV} (t : T2t H0 h s3 xb xw (M ++ [cs]) N) : ∃ c m,xb = .slice c 0 m m:=by
  obtain ⟨rs,lv,hl,_⟩:=t.rb
  obtain ⟨c,e,_⟩:=lv.sl (by intro e; rw [e] at hl; simp at hl)
  exact ⟨c,_,e⟩
theorem T2t.tb {H0 h : Heap} {s3 : Nat} {xb xw : AV} {M N : List (List AV)} (t : T2t H0 h s3 xb xw M N) {Hb : Heap} (k0 : Kp (fun _ => False) Hb h) (hs : Hb.size ≤ H0.size) : TB Hb h xb M:=by
  obtain ⟨rs,lv,hl,hr⟩:=t.rb
  exact ⟨k0,fun q hq => Nat.le_trans hs (t.b0 q hq),rs,lv,hl,fun i r hi => by
    obtain ⟨cs,b,h1,h2,h3,h4,h5,h6⟩:=hr i r hi
    exact ⟨cs,b,h1,h2,h3,h4,Nat.le_trans hs h6⟩⟩
end Go.Proofs.Ytljgfdamdcikgaa.Ev
set_option linter.unusedVariables false
set_option linter.unusedSimpArgs false
namespace Go.Proofs.Ytljgfdamdcikgaa.Ev
open Go Go.AEv
attribute [local simp] evFunc initS evOps_c evTrim_c evSkip_c evExit_c evRet_c evSeq_c evCond_c evBlock_c evDraw_c runOps_n runOps_c exec_n exec_g pure1_c act AOpd.ev T.get T.set T.put evBin evUn forceT_eq forceV_eq forceL_eq evRess evRes one keep runFP_n runFP_c app_none AV.flats AV.flat came_some List.getElem?_cons_zero List.getElem?_cons_succ beqT wrapI idxI tdivI tmodI decT decF ibT ibF inT inF evScope_c if_pos if_neg Cm_some thenW_n thenW_e thenW_r blkW_n blkW_e blkW_r goI kn putAt AV.cells fillA loadA takeA mk Eff.isAll Eff.isNone Eff.commutes Eff.spares okPair apart eqAgg fits LK.fits allEq aveq eqk mmA
def b01 (L : List Int) : Prop:=∀ z ∈ L,0 ≤ z ∧ z ≤ 1
theorem b01_app {L : List Int} {z : Int} (h : b01 L) (h0 : 0 ≤ z) (h1 : z ≤ 1) : b01 (L ++ [z]):=fun u hu => by
  rcases List.mem_append.1 hu with hu | hu
  · exact h u hu
  · rw [List.mem_singleton.1 hu]; exact ⟨h0,h1⟩
def r01 (n : Nat) (B : List (List Int)) : Prop:=∀ l ∈ B,l.length = n ∧ b01 l
theorem r01_app {n : Nat} {B : List (List Int)} {l : List Int} (h : r01 n B) (hl : l.length = n) (hb : b01 l) : r01 n (B ++ [l]):=fun u hu => by
  rcases List.mem_append.1 hu with hu | hu
  · exact h u hu
  · rw [List.mem_singleton.1 hu]; exact ⟨hl,hb⟩
theorem r01_tab {n : Nat} {B : List (List Int)} (h : r01 n B) (hl : B.length = n) : tabQ n B = true:=by
  unfold tabQ
  rw [hl]
  simp only [decide_true,Bool.true_and,List.all_eq_true]
  intro l hl
  obtain ⟨h1,h2⟩:=h l hl
  unfold rowQ
  rw [h1]
  simp only [decide_true,Bool.true_and,List.all_eq_true,decide_eq_true_eq]
  exact h2
section
variable {X Y : List (List Int)} {x y : AV} {nq S : Nat}
structure RD (S nq : Nat) (nz : Int) (x y : AV) (X Y : List (List Int)) (h : Heap) : Prop where
  gS : h.get S = .cells 0 3 [G nz,x,y]
  g3 : ∃ xb xw,h.get (S + 2) = .cells 0 3 [G nq,xb,xw]
  mx : MR h x X
  my : MR h y Y
theorem RD.kp {nz : Int} {h h' : Heap} (r : RD S nq nz x y X Y h) (k : Kp (fun _ => False) h h') : RD S nq nz x y X Y h':=by
  obtain ⟨xb,xw,g⟩:=r.g3
  exact ⟨k.at r.gS (by simp) id,⟨xb,xw,k.at g (by simp) id⟩,r.mx.kp k,r.my.kp k⟩
abbrev F18 (S i : Nat) (s : T) : Prop:=s.get [false] = .ptr S 0 3 ∧ s.get [true] = .ptr (S + 1) 0 3 ∧ s.get [false,false] = .ptr (S + 2) 0 3 ∧ s.get [true,false] = G i
abbrev T0P (S i k : Nat) (Hi : Heap) : SP:=fun s h => ∃ xa xb La Lb,(N2 Hi h xa xb La Lb ∧ (La.length = k ∧ b01 La) ∧ Lb.length = k ∧ b01 Lb) ∧ F18 S i s ∧ s.get [false,true] = xa ∧ s.get [true,true] = xb ∧ s.get [false,false,false] = G k
theorem c18_l0_ok (J : CallF) (k56 : K56 J) {nz : Int} {Hi : Heap} (rd : RD S nq nz x y X Y Hi) (q3 : nq ≤ 3) {i : Nat} (hi : i ≤ 3) :
    Tr tbl J c18_l0 (T0P S i 0 Hi) (.exit 2) (fun s h => ∃ xa xb La Lb,(N2 Hi h xa xb La Lb ∧ (La.length = nq ∧ b01 La) ∧ Lb.length = nq ∧ b01 Lb) ∧ F18 S i s ∧ s.get [false,true] = xa ∧ s.get [true,true] = xb):=by
  refine Tr.rounds (e:=.exit 2) (P:=fun k => T0P S i k Hi) (M:=nq) (fun k hk => ?_) ?_ (by simp) 0 (by omega)
  · unfold T0P F18
    refine Tr.w fun s1 H1 hp _ kR => W.trim ?_
    obtain ⟨xa,xb,La,Lb,⟨n2,⟨l1,b1⟩,l2,b2⟩,q⟩:=hp
    obtain ⟨gS,⟨ub,uw,g3⟩,mx,my⟩:=rd.kp n2.k
    obtain ⟨z1,e1,z10,z11⟩:=k56 H1 x X i k mx (by omega) (by omega)
    obtain ⟨x1,e,H2,p1,p2,n3⟩:=n2.app H1.size z1 (by omega)
    obtain ⟨gS2,⟨ub2,uw2,g32⟩,mx2,my2⟩:=rd.kp n3.k
    obtain ⟨z2,e2,z20,z21⟩:=k56 H2 y Y i k my2 (by omega) (by omega)
    obtain ⟨x2,e',H3,p3,p4,n4⟩:=n3.swap.app H2.size z2 (by omega)
    have fin : N2 Hi H3 x1 x2 (La ++ [z1]) (Lb ++ [z2]) ∧ ((La ++ [z1]).length = k + 1 ∧ b01 (La ++ [z1])) ∧ (Lb ++ [z2]).length = k + 1 ∧ b01 (Lb ++ [z2]):=⟨n4.swap,⟨by simp [l1],b01_app b1 z10 z11⟩,by simp [l2],b01_app b2 z20 z21⟩
    clear n2 n3 n4 rd mx my mx2 my2
    refine W.assoc ?_
    refine W.seq (W.chunk ?_)
    simp (disch:=first|omega|exact zE rfl|exact zO|exact zL rfl) [c18_o6,zG,q,g3]
    refine W.seq (W.chunk ?_)
    simp (disch:=first|omega|exact zE rfl|exact zO|exact zL rfl) [zG,q]
    refine W.seq (W.block ?_)
    refine W.seq (W.chunk ?_)
    simp (disch:=first|omega|exact zE rfl|exact zO|exact zL rfl) [c18_o7,zG,q,gS,e1,p1,p2,app1_at,elems,rdOf]
    refine W.chunk ?_
    simp (disch:=first|omega|exact zE rfl|exact zO|exact zL rfl) [c18_o8,zG,q,gS2,e2,p3,p4,app1_at,elems,rdOf]
    refine W.chunk ?_
    simp (disch:=first|omega|exact zE rfl|exact zO|exact zL rfl) [c18_o9,zG,q]
    exact kR _ _ ⟨_,_,_,_,fin,by simp [T.get,q]⟩
  · unfold T0P F18
    refine Tr.w fun s1 H1 hp _ kR => W.trim ?_
    obtain ⟨xa,xb,La,Lb,⟨n2,⟨l1,b1⟩,l2,b2⟩,q⟩:=hp
    obtain ⟨gS,⟨ub,uw,g3⟩,mx,my⟩:=rd.kp n2.k
    clear rd mx my
    refine W.assoc ?_
    refine W.seq (W.chunk ?_)
    simp (disch:=first|omega|exact zE rfl|exact zO|exact zL rfl) [c18_o6,zG,q,g3]
    refine W.seq (W.chunk ?_)
    simp (disch:=first|omega|exact zE rfl|exact zO|exact zL rfl) [zG,q]
    exact kR _ _ ⟨_,_,_,_,⟨n2,⟨l1,b1⟩,l2,b2⟩,by simp [T.get,q]⟩
abbrev T1P (S nq i : Nat) (H0 : Heap) : SP:=fun s h => ∃ xb xw B W,(T2t H0 h (S + 2) xb xw (B.map gs) (W.map gs) ∧ h.get (S + 2) = .cells 0 3 [G nq,xb,xw] ∧ (B.length = i ∧ r01 nq B) ∧ W.length = i ∧ r01 nq W) ∧ F18 S i s
theorem c18_b1_ok (J : CallF) (k56 : K56 J) {nz : Int} {H0 : Heap} (gS0 : H0.get S = .cells 0 3 [G nz,x,y]) (base : ∀ h,Kp (· = S + 2) H0 h → MR h x X ∧ MR h y Y) (hN : H0.N ≤ S + 2) (hs : S + 2 < H0.size) (q1 : 1 ≤ nq) (q3 : nq ≤ 3) {i : Nat} (hi : i < nq) :
    Tr tbl J (.trim [[false],[true],[false,false],[true,false]] c18_b1) (T1P S nq i H0) .normal (T1P S nq (i + 1) H0):=by
  unfold T1P
  refine Tr.w fun s1 H1 hp _ kR => W.trim ?_
  obtain ⟨xb,xw,B,Y0,⟨tt,g3,⟨lB,rB⟩,lW,rW⟩,q⟩:=hp
  obtain ⟨mx,my⟩:=base H1 tt.k
  have rd : RD S nq nz x y X Y H1:=⟨tt.k.at gS0 (by simp) (by omega),⟨xb,xw,g3⟩,mx,my⟩
  have l0:=c18_l0_ok J k56 rd q3 (i:=i) (by omega)
  have n0 : N2 H1 H1 .nils .nils [] []:=N2.nil H1
  have b00 : b01 []:=fun z hz => by cases hz
  have step : ∀ h xa xc La Lb,N2 H1 h xa xc La Lb → La.length = nq → b01 La → Lb.length = nq → b01 Lb → ∃ ba bc,xa = .slice ba 0 nq nq ∧ xc = .slice bc 0 nq nq ∧ h.get (S + 2) = .cells 0 3 [G nq,xb,xw] ∧
      ∃ x1 e h2 h3,appA (h.plus [.cells 1 1 [.slice ba 0 nq nq]]) h.size none 1 24 1 [.slice ba 0 nq nq] xb = some (x1,e) ∧ Eff.app e (h.plus [.cells 1 1 [.slice ba 0 nq nq]]) = some h2 ∧ Eff.app (.put (S + 2) 3 1 [x1]) h2 = some h3 ∧ h3.get (S + 2) = .cells 0 3 [G nq,x1,xw] ∧ (∃ c m,x1 = .slice c 0 m m) ∧
      ∃ x2 e' h4 h5,appA (h3.plus [.cells 1 1 [.slice bc 0 nq nq]]) h3.size none 1 24 1 [.slice bc 0 nq nq] xw = some (x2,e') ∧ Eff.app e' (h3.plus [.cells 1 1 [.slice bc 0 nq nq]]) = some h4 ∧ Eff.app (.put (S + 2) 3 2 [x2]) h4 = some h5 ∧ (∃ c m,x2 = .slice c 0 m m) ∧
      T2t H0 h5 (S + 2) x1 x2 ((B ++ [La]).map gs) ((Y0 ++ [Lb]).map gs) ∧ h5.get (S + 2) = .cells 0 3 [G nq,x1,x2] ∧ ((B ++ [La]).length = i + 1 ∧ r01 nq (B ++ [La])) ∧ (Y0 ++ [Lb]).length = i + 1 ∧ r01 nq (Y0 ++ [Lb]):=fun h xa xc La Lb n2 e1 e2 e3 e4 => by
    have ga : (gs La).length = nq:=by simp [e1]
    have gc : (gs Lb).length = nq:=by simp [e3]
    obtain ⟨ba,rfl,ha⟩:=n2.la.sl (by intro e; rw [e] at ga; simp at ga; omega)
    obtain ⟨bc,rfl,hc⟩:=n2.lb.sl (by intro e; rw [e] at gc; simp at gc; omega)
    have a0:=n2.a0 ba rfl
    have c0:=n2.b0 bc rfl
    have dd : ba ≠ bc:=fun e => n2.d ba rfl (by rw [e]; rfl)
    rw [ga] at ha ⊢
    rw [gc] at hc ⊢
    have t1:=tt.kp n2.k
    have lxb : ∀ c,blk xb = some c → c < H1.size:=fun c e => by obtain ⟨rs,lv,_⟩:=tt.rb; exact lv.lt e
    have lxw : ∀ c,blk xw = some c → c < H1.size:=fun c e => by obtain ⟨rs,lv,_⟩:=tt.rw'; exact lv.lt e
    have szH:=tt.k.size
    obtain ⟨x1,e,h2,p1,p2,t2,k2,f2⟩:=t1.app h.size (b:=ba) (cs:=gs La) hs (by rw [ga]; exact ha) ⟨fun e => by have:=lxb _ e; omega,fun e => by have:=lxw _ e; omega,by omega⟩ (by rw [List.length_map]; omega)
    rw [ga] at p1 p2
    have g3h:=n2.k.at g3 (by simp) id
    have g32:=k2.at g3h (by simp) (fun e => by have:=tt.b0 _ e; omega)
    have N2' : h2.N ≤ S + 2:=by rw [t2.k.N]; exact hN
    have t3:=t2.upd (.cells 0 3 [G nq,x1,xw]) N2' hs
    have hc2:=k2.at hc (by simp) (fun e => by have:=lxb _ e; omega)
    have hc3 : (h2.upd (S + 2) (.cells 0 3 [G nq,x1,xw])).get bc = .cells 1 nq (gs Lb):=by rw [upd_ne _ _ _ _ N2' (by omega)]; exact hc2
    have g33 : (h2.upd (S + 2) (.cells 0 3 [G nq,x1,xw])).get (S + 2) = .cells 0 3 [G nq,x1,xw]:=upd_same _ _ _ N2' (get_lt g32 (by simp))
    have bch:=get_lt hc (by simp)
    obtain ⟨x2,e',h4,p3,p4,t4,k4,f4⟩:=t3.swap.app (h2.upd (S + 2) (.cells 0 3 [G nq,x1,xw])).size (b:=bc) (cs:=gs Lb) hs (by rw [gc]; exact hc3) ⟨fun e => by have:=lxw _ e; omega,f2 bc bch (fun e => by have:=lxb _ e; omega),by omega⟩ (by rw [List.length_map]; omega)
    rw [gc] at p3 p4
    have g34:=k4.at g33 (by simp) (fun e => by have:=tt.w0 _ e; omega)
    have N4 : h4.N ≤ S + 2:=by rw [t4.k.N]; exact hN
    refine ⟨ba,bc,rfl,rfl,g3h,x1,e,h2,_,p1,p2,?_,g33,t2.sh,x2,e',h4,_,p3,p4,?_,t4.sh,?_,upd_same _ _ _ N4 (get_lt g34 (by simp)),⟨by simp [lB],r01_app rB e1 e2⟩,by simp [lW],r01_app rW e3 e4⟩
    · rw [put_gen _ _ _ _ _ _ _ N2' g32 (by simp)]; rfl
    · rw [put_gen _ _ _ _ _ _ _ N4 g34 (by simp)]; rfl
    · have:=t4.swap.upd (.cells 0 3 [G nq,x1,x2]) N4 hs
      rw [List.map_append,List.map_append]
      exact this
  have l0 : Tr tbl J c18_l0 (fun s h => h = H1 ∧ s.get [false] = .ptr S 0 3 ∧ s.get [true] = .ptr (S + 1) 0 3 ∧ s.get [false,false] = .ptr (S + 2) 0 3 ∧ s.get [true,false] = G i ∧ s.get [false,true] = .nils ∧ s.get [true,true] = .nils ∧ s.get [false,false,false] = G ((0 : Nat) : Int)) (.exit 2) _:=Tr.pre (fun s h hp => (by
    obtain ⟨rfl,a1,a2,a3,a4,a5,a6,a7⟩:=hp
    exact ⟨.nils,.nils,[],[],⟨n0,⟨rfl,b00⟩,rfl,b00⟩,⟨a1,a2,a3,a4⟩,a5,a6,a7⟩ : T0P S i 0 H1 s h)) l0
  unfold F18 at q kR l0
  clear tt rd mx my rB rW lB lW
  refine W.assoc ?_
  refine W.seq (W.chunk ?_)
  simp (disch:=first|omega|exact zE rfl|exact zO|exact zL rfl) [c18_o3,zG,q,g3]
  refine W.seq (W.chunk ?_)
  simp (disch:=first|omega|exact zE rfl|exact zO|exact zL rfl) [zG,q]
  refine W.seq (W.block ?_)
  refine W.seq (W.chunk ?_)
  simp (disch:=first|omega|exact zE rfl|exact zO|exact zL rfl) [c18_o4,zG,q]
  refine W.assoc ?_
  refine W.seq (W.chunk ?_)
  simp (disch:=first|omega|exact zE rfl|exact zO|exact zL rfl) [c18_o5,zG,q]
  refine W.seq (W.block ?_)
  refine W.use (l0) (by simp (disch:=first|omega|exact zE rfl|exact zO|exact zL rfl) [zG,q]) fun s1 H1 hp => ?_
  obtain ⟨xa,xc,La,Lb,⟨n2,⟨e1,e2⟩,e3,e4⟩,q⟩:=hp
  try simp only [zW,if_true]
  obtain ⟨ba,bc,rfl,rfl,g3h,x1,e,h2,h3,p1,p2,p3,g33,⟨c1,m1,rfl⟩,x2,e',h4,h5,p4,p5,p6,⟨c2,m2,rfl⟩,fin⟩:=step _ _ _ _ _ n2 e1 e2 e3 e4
  refine W.seq (W.chunk ?_)
  simp (disch:=first|omega|exact zE rfl|exact zO|exact zL rfl) [c18_o10,zG,q,g3h,p1,p2,p3,app1_at,elems,rdOf]
  refine W.chunk ?_
  simp (disch:=first|omega|exact zE rfl|exact zO|exact zL rfl) [c18_o11,zG,q,g33,p4,p5,p6,app1_at,elems,rdOf]
  refine W.chunk ?_
  simp (disch:=first|omega|exact zE rfl|exact zO|exact zL rfl) [c18_o12,zG,q]
  exact kR _ _ ⟨_,_,_,_,fin,by simp [T.get,q]⟩
theorem c18_ok (J : CallF) (k19 : K19 J) (k56 : K56 J) (hJ : ∀ a h,J 18 a h = none) (h : Heap) {qz : Int} (mx : MR h x X) (my : MR h y Y) :
    ∃ v own,CallsTo tbl J 18 [.agg [G qz,x,y]] h (v,own,false) ∧ ∃ n x' y' B W,v = .agg [G (n : Nat),x',y'] ∧ (1 ≤ n ∧ n ≤ 3) ∧ (TB h (h.plus own) x' (B.map gs) ∧ tabQ n B = true) ∧ TB h (h.plus own) y' (W.map gs) ∧ tabQ n W = true:=by
  refine Tr.fny (cf:=c18) (e:=.ret) (s:=T.set .leaf [] (.agg [G qz,x,y])) (by decide) rfl (hJ _ _) rfl rfl (by simp) ?_
  have mb:=mdZ_bd (IntKind.i64.wrap (qz - 1)) (n:=3) (by omega)
  have kk:=k19 (IntKind.i64.wrap (qz - 1)) 3 ⟨h.get,h.size,[.cells 0 3 [G qz,x,y],.cells 0 3 [G 0,.nils,.nils]]⟩ (by omega) (by omega)
  generalize mdZ (IntKind.i64.wrap (qz - 1)) 3 = z at *
  obtain ⟨n,hn⟩ : ∃ n : Nat,(n : Int) = 1 + z:=⟨(1 + z).toNat,by omega⟩
  obtain ⟨H0,hH0⟩ : ∃ H,(⟨h.get,h.size,[.cells 0 3 [G qz,x,y],.cells 0 3 [G 0,.nils,.nils],.cells 0 3 [G (1 + z),.nils,.nils]]⟩ : Heap) = H:=⟨_,rfl⟩
  obtain ⟨S,hS⟩ : ∃ S,h.size = S:=⟨_,rfl⟩
  have hs : H0.size = S + 3:=by rw [← hH0,← hS]; rfl
  have hN : H0.N = S:=by rw [← hH0,← hS]
  have gS0 : H0.get S = .cells 0 3 [G qz,x,y]:=by rw [← hH0,← hS,get_mk_ge _ _ _ _ (Nat.le_refl _),Nat.sub_self]; rfl
  have g1 : H0.get (S + 1) = .cells 0 3 [G 0,.nils,.nils]:=by rw [← hH0,← hS,get_mk_ge _ _ _ _ (by omega),Nat.add_sub_cancel_left]; rfl
  have g3 : H0.get (S + 2) = .cells 0 3 [G n,.nils,.nils]:=by rw [← hH0,← hS,get_mk_ge _ _ _ _ (by omega),Nat.add_sub_cancel_left,hn]; rfl
  have low : ∀ h',Kp (· = S + 2) H0 h' → Kp (fun _ => False) (frameOf h) h':=fun h' k => Kp.low (by rw [k.lo,← hH0]) (by rw [k.N,hN,hS])
  have base : ∀ h',Kp (· = S + 2) H0 h' → MR h' x X ∧ MR h' y Y:=fun h' k => ⟨MR.kp (mx.lo []) (low h' k),MR.kp (my.lo []) (low h' k)⟩
  have l1 : Tr tbl J c18_l1 (fun s h' => h' = H0 ∧ s.get [false] = .ptr S 0 3 ∧ s.get [true] = .ptr (S + 1) 0 3 ∧ s.get [false,false] = .ptr (S + 2) 0 3 ∧ s.get [true,false] = G ((0 : Nat) : Int)) (.exit 0) (fun s h => ∃ xb xw B W,(T2t H0 h (S + 2) xb xw (B.map gs) (W.map gs) ∧ h.get (S + 2) = .cells 0 3 [G n,xb,xw] ∧ (B.length = n ∧ r01 n B) ∧ W.length = n ∧ r01 n W) ∧ s.get [true] = .ptr (S + 1) 0 3 ∧ s.get [false,false] = .ptr (S + 2) 0 3):=by
    refine Tr.pre (P:=T1P S n 0 H0) (fun s h' hp => by
      obtain ⟨rfl,a1,a2,a3,a4⟩:=hp
      exact ⟨.nils,.nils,[],[],⟨T2t.nil _ _,g3,⟨rfl,fun l hl => by cases hl⟩,rfl,fun l hl => by cases hl⟩,a1,a2,a3,a4⟩) ?_
    refine Tr.rounds (e:=.exit 0) (P:=fun i => T1P S n i H0) (M:=n) (fun i hi => c18_b1_ok J k56 gS0 base (by omega) (by omega) (by omega) (by omega) hi) ?_ (by simp) 0 (by omega)
    unfold T1P F18
    refine Tr.w fun s1 H1 hp _ kR => W.trim ?_
    obtain ⟨xb,xw,B,Y0,⟨tt,g3,c1,c2⟩,q⟩:=hp
    clear base low
    refine W.assoc ?_
    refine W.seq (W.chunk ?_)
    simp (disch:=first|omega|exact zE rfl|exact zO|exact zL rfl) [c18_o3,zG,q,g3]
    refine W.seq (W.chunk ?_)
    simp (disch:=first|omega|exact zE rfl|exact zO|exact zL rfl) [zG,q]
    exact kR _ _ ⟨_,_,_,_,⟨tt,g3,c1,c2⟩,by simp [T.get,q]⟩
  have fin : ∀ h' xb xw B W,T2t H0 h' (S + 2) xb xw (B.map gs) (W.map gs) → h'.get (S + 2) = .cells 0 3 [G n,xb,xw] → (B.length = n ∧ r01 n B) → (W.length = n ∧ r01 n W) → ∃ h2,Eff.app (.put (S + 1) 3 0 [G n,xb,xw]) h' = some h2 ∧ h2.get (S + 1) = .cells 0 3 [G n,xb,xw] ∧
      (if (one [AV.agg [G n,xb,xw]]).flat then [] else h2.own) = h2.own ∧ (∃ c m,xb = .slice c 0 m m) ∧ (∃ c m,xw = .slice c 0 m m) ∧ (TB h (h.plus h2.own) xb (B.map gs) ∧ tabQ n B = true) ∧ TB h (h.plus h2.own) xw (W.map gs) ∧ tabQ n W = true:=fun h' xb xw B Y0 tt g ⟨b1,b2⟩ ⟨w1,w2⟩ => by
    have N' : h'.N = S:=by rw [tt.k.N,hN]
    have g1':=tt.k.at g1 (by simp) (by omega)
    have kU : Kp (· = S + 1) h' (h'.upd (S + 1) (.cells 0 3 [G n,xb,xw])):=Kp.upd _ _ _ (by omega) rfl
    have lowU : Kp (fun _ => False) (frameOf h) (h'.upd (S + 1) (.cells 0 3 [G n,xb,xw])):=Kp.low (by show h'.lo = _; rw [tt.k.lo,← hH0]) (by show h'.N = _; rw [N',hS])
    have lowh:=low h' tt.k
    have fs : (frameOf h).size ≤ H0.size:=by show h.size + 0 ≤ _; omega
    have tb1:=tt.tb lowh fs
    have tb2:=tt.swap.tb lowh fs
    have tb1' : TB (frameOf h) (h'.upd (S + 1) (.cells 0 3 [G n,xb,xw])) xb (B.map gs):=by
      have t0 : TB H0 h' xb (B.map gs) → TB (frameOf h) (h'.upd (S + 1) (.cells 0 3 [G n,xb,xw])) xb (B.map gs):=fun t => TB.kpm t kU (fun b e => by omega) lowU fs
      obtain ⟨rs,lv,hl,hr⟩:=tt.rb
      refine ⟨lowU,fun q hq => Nat.le_trans fs (tt.b0 q hq),rs,lv.kp kU (fun b e q => by have:=tt.b0 b e; omega),hl,fun i r hi => ?_⟩
      obtain ⟨cs,b,h1,h2,h3,h4,h5,h6⟩:=hr i r hi
      exact ⟨cs,b,h1,h2,kU.at h3 (by simp) (by omega),h4,by omega⟩
    have tb2' : TB (frameOf h) (h'.upd (S + 1) (.cells 0 3 [G n,xb,xw])) xw (Y0.map gs):=by
      obtain ⟨rs,lv,hl,hr⟩:=tt.rw'
      refine ⟨lowU,fun q hq => Nat.le_trans fs (tt.w0 q hq),rs,lv.kp kU (fun b e q => by have:=tt.w0 b e; omega),hl,fun i r hi => ?_⟩
      obtain ⟨cs,b,h1,h2,h3,h4,h5,h6⟩:=hr i r hi
      exact ⟨cs,b,h1,h2,kU.at h3 (by simp) (by omega),h4,by omega⟩
    obtain ⟨c1,r1,e1,_⟩:=tb1.sl (i:=0) (by rw [List.length_map]; omega)
    obtain ⟨c2,r2,e2,_⟩:=tb2.sl (i:=0) (by rw [List.length_map]; omega)
    refine ⟨_,?_,upd_same _ _ _ (by omega) (get_lt g1' (by simp)),?_,⟨c1,_,e1⟩,⟨c2,_,e2⟩,⟨tb1'.fr,r01_tab b2 b1⟩,tb2'.fr,r01_tab w2 w1⟩
    · rw [put_gen _ _ _ _ _ _ _ (by omega) g1' (by simp)]; rfl
    · rw [if_neg (by rw [e1]; simp [one,AV.flat,AV.flats])]
  rw [hS] at kk hH0
  clear base low mx my k56
  have hn3 : 1 ≤ n ∧ n ≤ 3:=by omega
  refine Tr.w fun s1 H1 hp _ kR => ?_
  obtain ⟨rfl,rfl⟩:=hp
  have q : True:=trivial
  refine W.seq (W.chunk ?_)
  simp (disch:=first|omega|exact zE rfl|exact zO|exact zL rfl) [c18_o0,size_mk,get_mk_lt,get_mk_ge,frameOf,Eff.app,Heap.setOwn,q,hS]
  refine W.seq (W.chunk ?_)
  simp (disch:=first|omega|exact zE rfl|exact zO|exact zL rfl) [c18_o1,size_mk,get_mk_lt,get_mk_ge,frameOf,Eff.app,Heap.setOwn,q,kk,hS,hH0]
  refine W.assoc ?_
  refine W.seq (W.chunk ?_)
  simp (disch:=first|omega|exact zE rfl|exact zO|exact zL rfl) [c18_o2,size_mk,get_mk_lt,get_mk_ge,frameOf,Eff.app,Heap.setOwn,q,hH0]
  refine W.seq (W.block ?_)
  refine W.use (l1) (by simp (disch:=first|omega|exact zE rfl|exact zO|exact zL rfl) [size_mk,get_mk_lt,get_mk_ge,frameOf,Eff.app,Heap.setOwn,q]) fun s1 H1 hp => ?_
  obtain ⟨xb,xw,B,Y0,⟨tt,g,c1,c2⟩,q⟩:=hp
  try simp only [zW,if_true]
  obtain ⟨h2,p1,gU,f1,⟨d1,m1,rfl⟩,⟨d2,m2,rfl⟩,f2,f3⟩:=fin _ _ _ _ _ tt g c1 c2
  refine W.seq (W.chunk ?_)
  simp (disch:=first|omega|exact zE rfl|exact zO|exact zL rfl) [c18_o13,zG,q,g,p1]
  refine W.ret ?_
  try simp only [zW,if_true]
  refine kR _ _ ?_
  refine ⟨[.agg [G n,.slice d1 0 m1 m1,.slice d2 0 m2 m2]],by simp [T.get,c18,evRess,evRes,loadA,gU,takeA,q],n,_,_,B,Y0,rfl,hn3,?_,?_⟩
  · rw [f1]; exact f2
  · rw [f1]; exact f3
end
def Pre18 (a : ATs) (args : List AV) (h : Heap) : Prop:=Ok24 a h ∧ args = [.agg [G a.q,a.x,a.y]]
def Post18 (a : ATs) (h : Heap) (v : AV) (own : List AObj) : Prop:=∃ n x' y' B W,v = .agg [G (n : Nat),x',y'] ∧ (1 ≤ n ∧ n ≤ 3) ∧ (TB h (h.plus own) x' (B.map gs) ∧ tabQ n B = true) ∧ TB h (h.plus own) y' (W.map gs) ∧ tabQ n W = true
noncomputable def T49 : CallF:=addK tbl T48 18 Pre18 Post18
theorem t49 : Sound Go.Proofs.Try.prog T49:=Sound.addK follows ok t48 (by decide) _ _
abbrev K18 (J : CallF) : Prop:=∀ (h : Heap) (a : ATs),Ok24 a h → ∃ v own,J 18 [.agg [G a.q,a.x,a.y]] h = some (v,own,false) ∧ Post18 a h v own
theorem k18 : K18 T49:=fun h a o => by
  obtain ⟨v,own,e,l⟩:=addK_some (Pre:=Pre18) (Post:=Post18) (fun a args h hp => by
    obtain ⟨o,rfl⟩:=hp
    exact c18_ok T48 k19_48 k56 (fun _ _ => by simp (disch:=decide) only [T1,T2,T3,T4,T5,T6,T7,T8,T9,T10,T11,T12,T13,T14,T15,T16,T17,T18,T19,T20,T21,T22,T23,T24,T25,T26,T27,T28,T29,T30,T31,T32,T33,T34,T35,T36,T37,T38,T39,T40,T41,T42,T43,T44,T45,T46,T47,T48,addI_ne,addX_ne,addV_ne,addK_ne]; rfl) h o.1 o.2) a _ h ⟨o,rfl⟩
  exact ⟨v,own,e,l⟩
end Go.Proofs.Ytljgfdamdcikgaa.Ev
set_option linter.unusedVariables false
set_option linter.unusedSimpArgs false
namespace Go.Proofs.Ytljgfdamdcikgaa.Ev
open Go Go.AEv
def fd (p : Nat → Bool) (w : Nat → Nat) : Nat → Nat → Nat → Nat × Nat
  | 0,i,k => (i,k)
  | d + 1,i,k => if p i = true then (if k < w i then (i,k) else fd p w d (i + 1) (k - w i)) else fd p w d (i + 1) k
def ft (p : Nat → Bool) (w : Nat → Nat) : Nat → Nat → Nat
  | 0,_ => 0
  | d + 1,i => (if p i = true then w i else 0) + ft p w d (i + 1)
def pk (w : Nat → Nat) : List Nat → Nat → Nat × Nat
  | [],k => (0,k)
  | c :: L,k => if k < w c then (c,k) else pk w L (k - w c)
def itm (S : List (List Nat)) : Nat → List Nat → Nat → List Nat
  | 0,_,_ => []
  | j + 1,L,k => (pk (cnt S j) L k).1 :: itm S j (S.getD (pk (cnt S j) L k).1 []) (pk (cnt S j) L k).2
def pN (S : List (List Nat)) (now : Int) (i : Nat) : Bool:=decide (now < 0) || decide (i ∈ S.getD now.toNat [])
def Srt (S : List (List Nat)) : Prop:=∀ c,S.getD c [] = (List.range S.length).filter fun i => decide (i ∈ S.getD c [])
theorem srt_st (W : List (List Int)) (R : List (List Nat)) : Srt (stL W R):=fun c => by
  have hl : (stL W R).length = R.length:=by simp [stL]
  rw [hl]
  rw [List.getD_eq_getElem?_getD]
  unfold stL
  rw [List.getElem?_map]
  cases R[c]? with
  | none => simp
  | some r =>
    show nxL W R r = (List.range R.length).filter fun i => decide (i ∈ nxL W R r)
    conv => lhs; unfold nxL
    refine List.filter_congr fun i hi => ?_
    unfold nxL
    rw [Bool.eq_iff_iff,decide_eq_true_iff,List.mem_filter]
    exact ⟨fun h => ⟨hi,h⟩,fun h => h.2⟩
end Go.Proofs.Ytljgfdamdcikgaa.Ev
set_option linter.unusedVariables false
set_option linter.unusedSimpArgs false
namespace Go.Proofs.Ytljgfdamdcikgaa.Ev
open Go Go.AEv
attribute [local simp] evFunc initS evOps_c evTrim_c evSkip_c evExit_c evRet_c evSeq_c evCond_c evBlock_c evDraw_c runOps_n runOps_c exec_n exec_g pure1_c act AOpd.ev T.get T.set T.put evBin evUn forceT_eq forceV_eq forceL_eq evRess evRes one keep runFP_n runFP_c app_none AV.flats AV.flat came_some List.getElem?_cons_zero List.getElem?_cons_succ beqT wrapI idxI tdivI tmodI decT decF ibT ibF inT inF evScope_c if_pos if_neg Cm_some thenW_n thenW_e thenW_r blkW_n blkW_e blkW_r goI kn putAt AV.cells fillA loadA takeA mk Eff.isAll Eff.isNone Eff.commutes Eff.spares okPair apart eqAgg fits LK.fits allEq aveq eqk mmA
def AR.itR (a : AR) (m : Int) (n k : Nat) : List (List Nat):=(itm (a.steps m) n (List.range (a.steps m).length) k).map fun c => (a.rows m).getD c []
def Post32 (a : AR) (m n k : Int) (h : Heap) (v : AV) (own : List AObj) : Prop :=
  (a.gd m n 0 = false → v = .tup [.nils,G 2] ∧ own = []) ∧
  (a.gd m n 0 = true → okC (a.steps m) n.toNat = false → v = .tup [.nils,G 5] ∧ own = []) ∧
  (a.gd m n 0 = true → okC (a.steps m) n.toNat = true → ¬ (0 ≤ k ∧ k < a.cn m n.toNat) → v = .tup [.nils,G 2] ∧ own = []) ∧
  (a.gd m n 0 = true → okC (a.steps m) n.toNat = true → (0 ≤ k ∧ k < a.cn m n.toNat) → ∃ x,v = .tup [x,G 0] ∧ RV (h.plus own) x (wsL (a.itR m n.toNat k.toNat)))
section
variable {a : AR} {m n k : Int}
end
structure ARk where
  a : AR
  m : Int
  n : Int
  k : Int
def Pre32 (b : ARk) (args : List AV) (h : Heap) : Prop:=OkR b.a h ∧ args = [b.a.v,G b.m,G b.n,G b.k]
def Po32 (b : ARk) (h : Heap) (v : AV) (own : List AObj) : Prop:=Post32 b.a b.m b.n b.k h v own
noncomputable def T50 : CallF:=addK tbl T49 32 Pre32 Po32
theorem t50 : Sound Go.Proofs.Try.prog T50:=Sound.addK follows ok t49 (by decide) _ _
structure ARq where
  a : AR
  m : Int
  n : Int
  k : Nat
def Pre34 (b : ARq) (args : List AV) (h : Heap) : Prop:=(OkR b.a h ∧ b.a.gd b.m b.n 0 = true ∧ okC (b.a.steps b.m) b.n.toNat = true ∧ b.k < b.a.cn b.m b.n.toNat) ∧ args = [b.a.v,G b.m,G b.n,G b.k]
def Post34 (b : ARq) (h : Heap) (v : AV) (own : List AObj) : Prop:=RV (h.plus own) v (wsL (b.a.itR b.m b.n.toNat b.k))
noncomputable def T51 : CallF:=addK tbl T50 34 Pre34 Post34
theorem t51 : Sound Go.Proofs.Try.prog T51:=Sound.addK follows ok t50 (by decide) _ _
section
variable {nq m nn k : Int} {X Y : List (List Int)}
end
section
variable {S : List (List Nat)} {p bM bm bL bF : Nat}
theorem LS.ex (os : OkS S) : ∃ z,LS S z:=by
  by_cases c : ∃ i,i < S.length ∧ al S S.length i = true
  · exact ⟨-1,.inl ⟨rfl,c⟩⟩
  · have : ∀ L : List Nat,(∀ i ∈ L,i < S.length) → ∃ m,MX S L.reverse m:=fun L => by
      induction L with
      | nil => exact fun _ => ⟨0,MX.nil⟩
      | cons i L ih =>
        intro h
        obtain ⟨m,hm⟩:=ih fun j hj => h j (by simp [hj])
        have hi : al S S.length i = false:=by
          cases e : al S S.length i
          · rfl
          · exact absurd ⟨i,h i (by simp),e⟩ c
        obtain ⟨z,hz⟩:=LG.ex hi
        exact ⟨max m z,by rw [List.reverse_cons]; exact hm.snoc hz⟩
    obtain ⟨m,hm⟩:=this (List.range S.length).reverse fun i hi => List.mem_range.1 (List.mem_reverse.1 hi)
    rw [List.reverse_reverse] at hm
    exact ⟨m,hm.ls⟩
open Classical in
noncomputable def lsV (S : List (List Nat)) : Int:=if h : ∃ z,LS S z then Classical.choose h else 0
end
noncomputable def AR.lgV (a : AR) (m : Int) : AV:=if a.rm m then .tup [G (lsV (a.steps m)),G 0] else .tup [G 0,G 2]
section
variable {a : AR} {m : Int}
end
def Post35 (b : ARm) (h : Heap) (v : AV) (own : List AObj) : Prop:=v = b.a.lgV b.m ∧ own = []
noncomputable def T52 : CallF:=addK tbl T51 35 PreRm Post35
theorem t52 : Sound Go.Proofs.Try.prog T52:=Sound.addK follows ok t51 (by decide) _ _
def rvP (L : List Nat) (i : Nat) : List Nat:=(List.range L.length).map fun t => L.getD (if t < i ∨ L.length ≤ t + i then L.length - 1 - t else t) 0
theorem rvP_len (L : List Nat) (i : Nat) : (rvP L i).length = L.length:=by simp [rvP]
theorem rvP_at {L : List Nat} {i t : Nat} (h : t < L.length) : (rvP L i)[t]? = some (L.getD (if t < i ∨ L.length ≤ t + i then L.length - 1 - t else t) 0):=by
  unfold rvP
  rw [List.getElem?_map,List.getElem?_range h]; rfl
theorem rvP_0 (L : List Nat) : rvP L 0 = L:=by
  apply List.ext_getElem?
  intro t
  by_cases h : t < L.length
  · rw [rvP_at h,if_neg (by omega),List.getD_eq_getElem?_getD,List.getElem?_eq_getElem h]; rfl
  · rw [List.getElem?_eq_none (by rw [rvP_len]; omega),List.getElem?_eq_none (by omega)]
theorem rvP_n (L : List Nat) : rvP L (L.length / 2) = L.reverse:=by
  apply List.ext_getElem?
  intro t
  by_cases h : t < L.length
  · rw [rvP_at h,List.getElem?_reverse h,List.getD_eq_getElem?_getD]
    have : (if t < L.length / 2 ∨ L.length ≤ t + L.length / 2 then L.length - 1 - t else t) = L.length - 1 - t:=by split <;> omega
    rw [this,List.getElem?_eq_getElem (by omega)]; rfl
  · rw [List.getElem?_eq_none (by rw [rvP_len]; omega),List.getElem?_eq_none (by simp; omega)]
theorem gnm (L : List Nat) (t : Nat) : (gn L)[t]? = (L[t]?).map fun (k : Nat) => G k:=by simp [gn]
theorem rvP_put {L : List Nat} {i : Nat} (h : i < L.length / 2) : putAt (putAt (gn (rvP L i)) i [G (L.getD (L.length - 1 - i) 0)]) (L.length - 1 - i) [G (L.getD i 0)] = gn (rvP L (i + 1)):=by
  simp only [putAt]
  apply List.ext_getElem?
  intro t
  by_cases ht : t < L.length
  · rw [gnm,rvP_at ht]
    rw [List.getElem?_set,List.getElem?_set]
    simp only [List.length_set,gn_len,rvP_len]
    by_cases e1 : L.length - 1 - i = t
    · rw [if_pos e1,if_pos (by omega),if_pos (by omega)]
      rw [show L.length - 1 - t = i by omega]; rfl
    · rw [if_neg e1]
      by_cases e2 : i = t
      · rw [if_pos e2,if_pos (by omega),if_pos (by omega),e2]; rfl
      · rw [if_neg e2,gnm,rvP_at ht]
        have : (if t < i ∨ L.length ≤ t + i then L.length - 1 - t else t) = (if t < i + 1 ∨ L.length ≤ t + (i + 1) then L.length - 1 - t else t):=by
          by_cases c : t < i ∨ L.length ≤ t + i
          · rw [if_pos c,if_pos (by omega)]
          · rw [if_neg c,if_neg (by omega)]
        rw [this]
  · rw [List.getElem?_eq_none (by simp [gn_len,rvP_len]; omega),List.getElem?_eq_none (by rw [gn_len,rvP_len]; omega)]
section
variable {L : List Nat} {b v w : Nat}
structure RI (K : Heap) (b v : Nat) (L : List Nat) (i : Nat) (h : Heap) : Prop where
  k : Kp (fun i => i = b) K h
  g : h.get b = .cells 1 v (gn (rvP L i))
theorem c94_l0_ok (J : CallF) {K : Heap} (hN : K.N ≤ b) (g0 : K.get b = .cells 1 v (gn L)) (hL : L.length ≤ 1000) (hw : w = v) :
    Tr tbl J c94_l0 (fun s h => RI K b v L 0 h ∧ s.get [] = .slice b 0 L.length w ∧ s.get [true] = G ((0 : Nat) : Int) ∧ s.get [false,false] = G ((L.length : Int) - 1 - (0 : Nat))) (.exit 0) (fun s h => RI K b v L (L.length / 2) h):=by
  refine Tr.rounds (P:=fun i s h => RI K b v L i h ∧ s.get [] = .slice b 0 L.length w ∧ s.get [true] = G (i : Nat) ∧ s.get [false,false] = G ((L.length : Int) - 1 - (i : Nat))) (M:=L.length / 2) (fun i hi => ?_) ?_ (by simp) 0 (by omega)
  · refine Tr.w fun s1 H1 hp _ kR => W.trim ?_
    obtain ⟨ri,q⟩:=hp
    obtain ⟨j,hj⟩ : ∃ j : Nat,(L.length : Int) - 1 - i = j:=⟨L.length - 1 - i,by omega⟩
    have hjn : j = L.length - 1 - i:=by omega
    have ai : (gn (rvP L i))[i]? = some (G (L.getD i 0)):=by
      rw [gnm,rvP_at (by omega),if_neg (by omega)]; rfl
    have aj : (gn (rvP L i))[j]? = some (G (L.getD j 0)):=by
      rw [gnm,rvP_at (by omega),if_neg (by omega)]; rfl
    have ai':=getI ai
    have aj':=getI aj
    have pp:=rvP_put hi
    rw [← hjn] at pp
    have gH:=ri.g
    have hN1 : H1.N ≤ b:=by rw [ri.k.N]; exact hN
    have l1 : (gn (rvP L i)).length = L.length:=by rw [gn_len,rvP_len]
    have l2 : (putAt (gn (rvP L i)) i [G (L.getD j 0)]).length = L.length:=by simp [putAt,l1]
    have p1:=put_gen H1 b v i 1 (gn (rvP L i)) [G (L.getD j 0)] hN1 gH (by rw [l1]; show i + 1 ≤ _; omega)
    have blt:=get_lt gH (by simp)
    have gH2:=upd_same H1 b (.cells 1 v (putAt (gn (rvP L i)) i [G (L.getD j 0)])) hN1 blt
    have k2 : Kp (fun i => i = b) H1 (H1.upd b (.cells 1 v (putAt (gn (rvP L i)) i [G (L.getD j 0)]))):=Kp.upd H1 b _ hN1 rfl
    obtain ⟨H2,hH2⟩ : ∃ H2,H1.upd b (.cells 1 v (putAt (gn (rvP L i)) i [G (L.getD j 0)])) = H2:=⟨_,rfl⟩
    rw [hH2] at p1 gH2 k2
    have hN2 : H2.N ≤ b:=by rw [k2.N]; exact hN1
    have p2:=put_gen H2 b v j 1 _ [G (L.getD i 0)] hN2 gH2 (by rw [l2]; show j + 1 ≤ _; omega)
    have blt2:=get_lt gH2 (by simp)
    have gH3:=upd_same H2 b (.cells 1 v (putAt (putAt (gn (rvP L i)) i [G (L.getD j 0)]) j [G (L.getD i 0)])) hN2 blt2
    have k3 : Kp (fun i => i = b) H2 (H2.upd b (.cells 1 v (putAt (putAt (gn (rvP L i)) i [G (L.getD j 0)]) j [G (L.getD i 0)]))):=Kp.upd H2 b _ hN2 rfl
    have ri3 : RI K b v L (i + 1) (H2.upd b (.cells 1 v (putAt (putAt (gn (rvP L i)) i [G (L.getD j 0)]) j [G (L.getD i 0)]))):=⟨(ri.k.trans k2).trans k3,by rw [gH3,pp]⟩
    obtain ⟨H3,hH3⟩ : ∃ H3,H2.upd b (.cells 1 v (putAt (putAt (gn (rvP L i)) i [G (L.getD j 0)]) j [G (L.getD i 0)])) = H3:=⟨_,rfl⟩
    rw [hH3] at p2 ri3
    have n3 : (L.length : Int) - 1 - ((i + 1 : Nat) : Int) = (j : Int) - 1:=by omega
    rw [n3] at kR
    rw [hj] at q
    have lt : (i : Int) < j:=by omega
    have lt' : i < j:=by omega
    clear pp l2 k2 k3 gH3 ri gH2
    generalize hn : L.length = n at *
    generalize gn (rvP L i) = cs at *
    generalize L.getD i 0 = x at *
    generalize L.getD j 0 = y at *
    subst hw
    refine W.assoc ?_
    refine W.seq (W.chunk ?_)
    simp (disch:=first|omega|exact zE rfl|exact zO|exact zL rfl) [c94_o1,zG,q]
    refine W.seq (W.chunk ?_)
    simp (disch:=first|omega|exact zE rfl|exact zO|exact zL rfl) [zG,q]
    refine W.seq (W.block ?_)
    refine W.chunk ?_
    simp (disch:=first|omega|exact zE rfl|exact zO|exact zL rfl) [-evDraw_c,c94_o2,zG,q,evDraw_0,gH,ai,ai',aj,aj',p1,p2]
    refine W.chunk ?_
    simp (disch:=first|omega|exact zE rfl|exact zO|exact zL rfl) [c94_o3,zG,q]
    exact kR _ _ ⟨ri3,by simp [T.get,q]⟩
  · refine Tr.w fun s1 H1 hp _ kR => W.trim ?_
    obtain ⟨ri,q⟩:=hp
    clear g0
    generalize hn : L.length = n at *
    refine W.assoc ?_
    refine W.seq (W.chunk ?_)
    simp (disch:=first|omega|exact zE rfl|exact zO|exact zL rfl) [c94_o1,zG,q]
    refine W.seq (W.chunk ?_)
    simp (disch:=first|omega|exact zE rfl|exact zO|exact zL rfl) [zG,q]
    exact kR _ _ ri
theorem c94_ok (J : CallF) (hJ : ∀ a h,J 94 a h = none) {K : Heap} (hN : K.N ≤ b) (g0 : K.get b = .cells 1 v (gn L)) (hL : L.length ≤ 1000) (hw : w = v) :
    ∃ K',(Kp (fun i => i = b) K K' ∧ K'.get b = .cells 1 v (gn L.reverse)) ∧ CallsTo tbl J 94 [.slice b 0 L.length w] K (.tup [],K'.own,true):=by
  have l0:=c94_l0_ok J hN g0 hL hw
  refine Tr.shr (R:=fun K' => Kp (fun i => i = b) K K' ∧ K'.get b = .cells 1 v (gn L.reverse)) (args:=[.slice b 0 L.length w]) (cf:=c94) (e:=.normal) (s:=T.set .leaf [] (.slice b 0 L.length w)) (by decide) rfl (hJ _ _) rfl rfl (by simp) ?_
  refine Tr.w fun s1 H1 hp R kR => ?_
  obtain ⟨rfl,rfl⟩:=hp
  have q : True:=trivial
  have ri0 : RI H1 b v L 0 H1:=⟨Kp.refl _,by rw [rvP_0]; exact g0⟩
  clear g0
  generalize hn : L.length = n at *
  refine W.seq (W.chunk ?_)
  simp (disch:=first|omega|exact zE rfl|exact zO|exact zL rfl) [c94_o0,zG,q]
  refine W.block ?_
  refine W.use (l0) (by simp (disch:=first|omega|exact zE rfl|exact zO|exact zL rfl) [zG,q,ri0]) fun s1 H1 hp => ?_
  try simp only [zW,if_true]
  have g1:=hp.g
  rw [← hn,rvP_n] at g1
  exact kR _ _ ⟨⟨hp.k,g1⟩,[],by simp [c94,evRess],rfl⟩
end
end Go.Proofs.Ytljgfdamdcikgaa.Ev
set_option linter.unusedVariables false
set_option linter.unusedSimpArgs false
namespace Go.Proofs.Ytljgfdamdcikgaa.Ev
open Go Go.AEv
section
variable {S : List (List Nat)}
structure BQ (S : List (List Nat)) (f : Nat) (d : Nat → Nat) (Q : List Nat) (k t : Nat) : Prop where
  q0 : Q[0]? = some f
  f0 : d f = 0
  nd : Q.Nodup
  lt : ∀ z ∈ Q,z < S.length
  wk : ∀ z ∈ Q,Rw S (d z) f z
  so : ∀ (i j u w : Nat),i ≤ j → Q[i]? = some u → Q[j]? = some w → d u ≤ d w
  la : ∀ (j u w : Nat),Q[k]? = some u → Q[j]? = some w → d w ≤ d u + 1
  dl : ∀ (j w : Nat),Q[j]? = some w → d w ≤ j
  ch : ∀ (i u : Nat),i < k → Q[i]? = some u → ∀ c ∈ S.getD u [],c ∈ Q ∧ d c ≤ d u + 1
  ct : ∀ u,Q[k]? = some u → ∀ c ∈ (S.getD u []).take t,c ∈ Q ∧ d c ≤ d u + 1
theorem BQ.init {f : Nat} (hf : f < S.length) : BQ S f (fun _ => 0) [f] 0 0 where
  q0:=rfl
  f0:=rfl
  nd:=by simp
  lt:=fun z hz => by rw [List.mem_singleton.1 hz]; exact hf
  wk:=fun z hz => by rw [List.mem_singleton.1 hz]; exact rfl
  so:=fun _ _ _ _ _ _ _ => Nat.le_refl _
  la:=fun _ _ _ _ _ => by omega
  dl:=fun _ _ _ => Nat.zero_le _
  ch:=fun i u hi => absurd hi (by omega)
  ct:=fun u hu c hc => by simp at hc
theorem nd_cap {n : Nat} : ∀ {Q : List Nat},Q.Nodup → (∀ z ∈ Q,z < n) → Q.length ≤ n:=fun {Q} nd lt => by
  apply Decidable.byContradiction
  intro hc
  obtain ⟨i,j,h1,h2,h3⟩:=pigeon n (fun i => Q.getD i 0) (fun i hi => by
    have hl : i < Q.length:=by omega
    simp only [List.getD_eq_getElem?_getD,List.getElem?_eq_getElem hl,Option.getD_some]
    exact lt _ (List.getElem_mem hl))
  have hj : j < Q.length:=by omega
  have hi : i < Q.length:=by omega
  simp only [List.getD_eq_getElem?_getD,List.getElem?_eq_getElem hi,List.getElem?_eq_getElem hj,Option.getD_some] at h3
  have:=(List.pairwise_iff_getElem.1 nd) i j hi hj h1
  exact this h3
variable {f k t u : Nat} {d : Nat → Nat} {Q : List Nat}
theorem BQ.len (b : BQ S f d Q k t) : Q.length ≤ S.length:=nd_cap b.nd b.lt
theorem BQ.fQ (b : BQ S f d Q k t) : f ∈ Q:=List.mem_iff_getElem?.2 ⟨0,b.q0⟩
theorem BQ.uQ (b : BQ S f d Q k t) (hu : Q[k]? = some u) : u ∈ Q:=List.mem_iff_getElem?.2 ⟨k,hu⟩
theorem take_s {L : List Nat} {t c : Nat} (h : L[t]? = some c) : L.take (t + 1) = L.take t ++ [c]:=by
  rw [List.take_add_one,h]; rfl
theorem BQ.old (b : BQ S f d Q k t) (hu : Q[k]? = some u) {c : Nat} (hc : (S.getD u [])[t]? = some c) (hQ : c ∈ Q) : BQ S f d Q k (t + 1) :=
  ⟨b.q0,b.f0,b.nd,b.lt,b.wk,b.so,b.la,b.dl,b.ch,fun u' hu' x hx => by
    rw [hu] at hu'; cases hu'
    rw [take_s hc] at hx
    rcases List.mem_append.1 hx with a | a
    · exact b.ct u hu x a
    · rw [List.mem_singleton.1 a]
      obtain ⟨j,hj⟩:=List.mem_iff_getElem?.1 hQ
      exact ⟨hQ,b.la j u c hu hj⟩⟩
theorem BQ.new (lt : ∀ i,∀ j ∈ S.getD i [],j < S.length) (b : BQ S f d Q k t) (hu : Q[k]? = some u) {c : Nat} (hc : (S.getD u [])[t]? = some c) (hQ : c ∉ Q) : BQ S f (fun z => if z = c then d u + 1 else d z) (Q ++ [c]) k (t + 1):=by
  have old : ∀ z,z ∈ Q → (if z = c then d u + 1 else d z) = d z:=fun z hz => if_neg fun e => hQ (by rw [← e]; exact hz)
  have cS : c ∈ S.getD u []:=List.mem_iff_getElem?.2 ⟨t,hc⟩
  have uQ:=b.uQ hu
  have hk:=(List.getElem?_eq_some_iff.1 hu).1
  have app : ∀ {j w : Nat},(Q ++ [c])[j]? = some w → Q[j]? = some w ∨ (j = Q.length ∧ w = c):=fun {j w} h => by
    by_cases hj : j < Q.length
    · left; rwa [List.getElem?_append_left hj] at h
    · right
      have h3:=(List.getElem?_eq_some_iff.1 h).1
      simp only [List.length_append,List.length_singleton] at h3
      have e : j = Q.length:=by omega
      subst e
      rw [List.getElem?_append_right (Nat.le_refl _),Nat.sub_self] at h
      exact ⟨rfl,(Option.some.inj h).symm⟩
  have mem : ∀ {j w : Nat},Q[j]? = some w → w ∈ Q:=fun h => List.mem_iff_getElem?.2 ⟨_,h⟩
  have hu' : (Q ++ [c])[k]? = some u:=by rw [List.getElem?_append_left hk]; exact hu
  constructor
  · have : 0 < Q.length:=(List.getElem?_eq_some_iff.1 b.q0).1
    rw [List.getElem?_append_left this]; exact b.q0
  · show (if f = c then d u + 1 else d f) = 0
    rw [old f b.fQ,b.f0]
  · rw [List.nodup_append]
    exact ⟨b.nd,by simp,fun x hx y hy e => hQ (by rw [← List.mem_singleton.1 hy,← e]; exact hx)⟩
  · intro z hz
    rcases List.mem_append.1 hz with a | a
    · exact b.lt z a
    · rw [List.mem_singleton.1 a]; exact lt _ _ cS
  · intro z hz
    rcases List.mem_append.1 hz with a | a
    · show Rw S (if z = c then d u + 1 else d z) f z
      rw [old z a]; exact b.wk z a
    · rw [List.mem_singleton.1 a]
      show Rw S (if c = c then d u + 1 else d c) f c
      rw [if_pos rfl]
      exact (b.wk u uQ).snoc cS
  · intro i j x w hij hx hw
    show (if x = c then d u + 1 else d x) ≤ (if w = c then d u + 1 else d w)
    rcases app hx with a | ⟨a,rfl⟩
    · rw [old x (mem a)]
      rcases app hw with a' | ⟨a',rfl⟩
      · rw [old w (mem a')]; exact b.so i j x w hij a a'
      · rw [if_pos rfl]; exact b.la i u x hu a
    · rcases app hw with a' | ⟨a',rfl⟩
      · have:=(List.getElem?_eq_some_iff.1 a').1
        omega
      · rw [if_pos rfl]; exact Nat.le_refl _
  · intro j x w hx hw
    rw [hu'] at hx; cases hx
    show (if w = c then d u + 1 else d w) ≤ (if u = c then d u + 1 else d u) + 1
    rw [old u uQ]
    rcases app hw with a' | ⟨a',rfl⟩
    · rw [old w (mem a')]; exact b.la j u w hu a'
    · rw [if_pos rfl]; exact Nat.le_refl _
  · intro j w hw
    show (if w = c then d u + 1 else d w) ≤ j
    rcases app hw with a' | ⟨a',rfl⟩
    · rw [old w (mem a')]; exact b.dl j w a'
    · rw [if_pos rfl]
      have:=b.dl k u hu
      omega
  · intro i x hi hx y hy
    rcases app hx with a | ⟨a,rfl⟩
    · obtain ⟨h1,h2⟩:=b.ch i x hi a y hy
      refine ⟨List.mem_append_left _ h1,?_⟩
      show (if y = c then d u + 1 else d y) ≤ (if x = c then d u + 1 else d x) + 1
      rw [old y h1,old x (mem a)]; exact h2
    · omega
  · intro x hx y hy
    rw [hu'] at hx; cases hx
    rw [take_s hc] at hy
    show y ∈ Q ++ [c] ∧ (if y = c then d u + 1 else d y) ≤ (if u = c then d u + 1 else d u) + 1
    rw [old u uQ]
    rcases List.mem_append.1 hy with a | a
    · obtain ⟨h1,h2⟩:=b.ct u hu y a
      rw [old y h1]
      exact ⟨List.mem_append_left _ h1,h2⟩
    · rw [List.mem_singleton.1 a,if_pos rfl]
      exact ⟨by simp,Nat.le_refl _⟩
theorem BQ.next (b : BQ S f d Q k t) (hu : Q[k]? = some u) (ht : t = (S.getD u []).length) : BQ S f d Q (k + 1) 0 where
  q0:=b.q0
  f0:=b.f0
  nd:=b.nd
  lt:=b.lt
  wk:=b.wk
  so:=b.so
  la:=fun j x w hx hw => by
    have h1:=b.la j u w hu hw
    have h2:=b.so k (k + 1) u x (by omega) hu hx
    omega
  dl:=b.dl
  ch:=fun i x hi hx c hc => by
    by_cases e : i = k
    · subst e
      rw [hu] at hx; cases hx
      exact b.ct u hu c (by rw [ht,List.take_length]; exact hc)
    · exact b.ch i x (by omega) hx c hc
  ct:=fun u hu c hc => by simp at hc
def NF (S : List (List Nat)) (f : Nat) (Q : List Nat) (k t : Nat) : Prop:=(∀ (i u : Nat),i < k → Q[i]? = some u → f ∉ S.getD u []) ∧ ∀ u,Q[k]? = some u → f ∉ (S.getD u []).take t
theorem BQ.reach (b : BQ S f d Q k t) {s D : Nat} (hD : ∀ u,Q[k]? = some u → D ≤ d u) (hk : k ≤ Q.length) (hs : s < D ∨ Q.length = k) (nf : ∀ (i u : Nat),i < k → Q[i]? = some u → f ∉ S.getD u []) (w : Rw S (s + 1) f f) : False:=by
  have key : ∀ r z,Rw S r f z → r ≤ s → z ∈ Q ∧ d z ≤ r:=fun r => by
    induction r with
    | zero =>
      intro z hz _
      have e : f = z:=hz
      rw [← e]; exact ⟨b.fQ,by rw [b.f0]; exact Nat.le_refl _⟩
    | succ r ih =>
      intro z hz hr
      obtain ⟨y,h1,h2⟩:=hz.last
      obtain ⟨h3,h4⟩:=ih y h1 (by omega)
      obtain ⟨j,hj⟩:=List.mem_iff_getElem?.1 h3
      have hjl:=(List.getElem?_eq_some_iff.1 hj).1
      have : j < k:=by
        apply Decidable.byContradiction
        intro c
        have hkl : k < Q.length:=by omega
        have hkk:=List.getElem?_eq_getElem hkl
        have h5:=b.so k j _ y (by omega) hkk hj
        have h6:=hD _ hkk
        omega
      obtain ⟨h5,h6⟩:=b.ch j y this hj z h2
      exact ⟨h5,by omega⟩
  obtain ⟨y,h1,h2⟩:=w.last
  obtain ⟨h3,h4⟩:=key s y h1 (Nat.le_refl _)
  obtain ⟨j,hj⟩:=List.mem_iff_getElem?.1 h3
  have hjl:=(List.getElem?_eq_some_iff.1 hj).1
  have : j < k:=by
    apply Decidable.byContradiction
    intro c
    have hkl : k < Q.length:=by omega
    have hkk:=List.getElem?_eq_getElem hkl
    have h5:=b.so k j _ y (by omega) hkk hj
    have h6:=hD _ hkk
    omega
  exact nf j y this hj h2
def CY (S : List (List Nat)) (f m : Nat) : Prop:=Rw S (m + 1) f f ∧ ∀ s,Rw S (s + 1) f f → m ≤ s
theorem BQ.found (b : BQ S f d Q k t) (nf : NF S f Q k t) (hu : Q[k]? = some u) (h : f ∈ S.getD u []) : CY S f (d u):=by
  refine ⟨(b.wk u (b.uQ hu)).snoc h,fun s w => ?_⟩
  apply Decidable.byContradiction
  intro c
  have hk:=(List.getElem?_eq_some_iff.1 hu).1
  exact b.reach (D:=d u) (fun u' hu' => by rw [hu] at hu'; cases hu'; exact Nat.le_refl _) (by omega) (.inl (by omega)) nf.1 w
theorem BQ.none (b : BQ S f d Q Q.length 0) (nf : NF S f Q Q.length 0) : ∀ s,¬ Rw S (s + 1) f f:=fun s w =>
  b.reach (D:=0) (fun u hu => Nat.zero_le _) (Nat.le_refl _) (.inr rfl) nf.1 w
theorem NF.skip (n : NF S f Q k t) (hu : Q[k]? = some u) {c : Nat} (hc : (S.getD u [])[t]? = some c) (hn : c ≠ f) : NF S f Q k (t + 1) :=
  ⟨n.1,fun u' hu' => by
    rw [hu] at hu'; cases hu'
    rw [take_s hc]
    intro hx
    rcases List.mem_append.1 hx with a | a
    · exact n.2 u hu a
    · exact hn (List.mem_singleton.1 a).symm⟩
theorem NF.push (n : NF S f Q k t) (hk : k < Q.length) (c : Nat) : NF S f (Q ++ [c]) k t :=
  ⟨fun i u hi hu => n.1 i u hi (by rwa [List.getElem?_append_left (by omega)] at hu),fun u hu => n.2 u (by rwa [List.getElem?_append_left hk] at hu)⟩
theorem NF.next (n : NF S f Q k t) (hu : Q[k]? = some u) (ht : t = (S.getD u []).length) : NF S f Q (k + 1) 0 :=
  ⟨fun i x hi hx => by
    by_cases e : i = k
    · subst e
      rw [hu] at hx; cases hx
      have:=n.2 u hu
      rwa [ht,List.take_length] at this
    · exact n.1 i x (by omega) hx,fun x hx => by simp⟩
theorem NF.init : NF S f [f] 0 0:=⟨fun i u hi => absurd hi (by omega),fun u hu => by simp⟩
def PRT (S : List (List Nat)) (f : Nat) (d : Nat → Nat) (Q : List Nat) (E : List (Nat × Int)) : Prop :=
  fm f E = none ∧ ∀ z,z ≠ f → (z ∉ Q → fm z E = none) ∧ (z ∈ Q → ∃ p : Nat,fm z E = some (p : Int) ∧ p ∈ Q ∧ z ∈ S.getD p [] ∧ d z = d p + 1)
theorem PRT.init : PRT S f (fun _ => 0) [f] []:=⟨rfl,fun z hz => ⟨fun _ => rfl,fun h => absurd (List.mem_singleton.1 h) hz⟩⟩
theorem PRT.new {E : List (Nat × Int)} (p : PRT S f d Q E) (uQ : u ∈ Q) (fQ : f ∈ Q) {c : Nat} (hc : c ∈ S.getD u []) (hQ : c ∉ Q) : PRT S f (fun z => if z = c then d u + 1 else d z) (Q ++ [c]) (pm c (u : Int) E):=by
  have cf : ¬ f = c:=fun e => hQ (by rw [← e]; exact fQ)
  have old : ∀ z,z ∈ Q → (if z = c then d u + 1 else d z) = d z:=fun z hz => if_neg fun e => hQ (by rw [← e]; exact hz)
  refine ⟨by rw [fm_pm,if_neg cf]; exact p.1,fun z hz => ⟨fun h => ?_,fun h => ?_⟩⟩
  · rw [fm_pm,if_neg (fun e => h (by rw [e]; simp))]
    exact (p.2 z hz).1 fun e => h (List.mem_append_left _ e)
  · by_cases e : z = c
    · subst e
      refine ⟨u,by rw [fm_pm,if_pos rfl],List.mem_append_left _ uQ,hc,?_⟩
      show (if z = z then d u + 1 else d z) = (if u = z then d u + 1 else d u) + 1
      rw [if_pos rfl,old u uQ]
    · have hzQ : z ∈ Q:=by
        rcases List.mem_append.1 h with a | a
        · exact a
        · exact absurd (List.mem_singleton.1 a) e
      obtain ⟨q,h1,h2,h3,h4⟩:=(p.2 z hz).2 hzQ
      refine ⟨q,by rw [fm_pm,if_neg e]; exact h1,List.mem_append_left _ h2,h3,?_⟩
      show (if z = c then d u + 1 else d z) = (if q = c then d u + 1 else d q) + 1
      rw [old z hzQ,old q h2]; exact h4
def par (E : List (Nat × Int)) (i : Nat) : Nat:=match fm i E with | some z => z.toNat | none => 0
def pth (E : List (Nat × Int)) : Nat → Nat → List Nat
  | 0,_ => []
  | D + 1,i => i :: pth E D (par E i)
def itp (E : List (Nat × Int)) : Nat → Nat → Nat
  | 0,i => i
  | s + 1,i => itp E s (par E i)
theorem itp_succ (E : List (Nat × Int)) : ∀ s i,itp E (s + 1) i = par E (itp E s i)
  | 0,i => rfl
  | s + 1,i => itp_succ E s (par E i)
theorem pth_len (E : List (Nat × Int)) : ∀ D i,(pth E D i).length = D
  | 0,_ => rfl
  | D + 1,i => by show (pth E D (par E i)).length + 1 = _; rw [pth_len]
theorem pth_at (E : List (Nat × Int)) : ∀ {D s i : Nat},s < D → (pth E D i)[s]? = some (itp E s i)
  | 0,_,_,h => by omega
  | D + 1,0,i,_ => rfl
  | D + 1,s + 1,i,h => by
    show (pth E D (par E i))[s]? = some (itp E s (par E i))
    exact pth_at E (by omega)
theorem PRT.step {E : List (Nat × Int)} (p : PRT S f d Q E) {z : Nat} (hz : z ∈ Q) (hn : z ≠ f) : fm z E = some (par E z : Int) ∧ par E z ∈ Q ∧ z ∈ S.getD (par E z) [] ∧ d z = d (par E z) + 1:=by
  obtain ⟨q,h1,h2,h3,h4⟩:=(p.2 z hn).2 hz
  have e : par E z = q:=by unfold par; rw [h1]; simp
  rw [e]
  exact ⟨h1,h2,h3,h4⟩
theorem BQ.dz (b : BQ S f d Q k t) {z : Nat} (hz : z ∈ Q) (h : d z = 0) : z = f:=by
  have:=b.wk z hz
  rw [h] at this
  exact Eq.symm this
theorem PRT.back {E : List (Nat × Int)} (b : BQ S f d Q k t) (p : PRT S f d Q E) (hu : u ∈ Q) : ∀ {s},s ≤ d u → itp E s u ∈ Q ∧ d (itp E s u) + s = d u
  | 0,_ => ⟨hu,rfl⟩
  | s + 1,h => by
    obtain ⟨h1,h2⟩:=PRT.back b p hu (s:=s) (by omega)
    have hn : itp E s u ≠ f:=fun e => by rw [e,b.f0] at h2; omega
    obtain ⟨_,h3,_,h4⟩:=p.step h1 hn
    rw [itp_succ]
    exact ⟨h3,by omega⟩
def rgL (E : List (Nat × Int)) (f D u : Nat) : List Nat:=(pth E D u ++ [f]).reverse
theorem rgL_len (E : List (Nat × Int)) (f D u : Nat) : (rgL E f D u).length = D + 1:=by simp [rgL,pth_len]
def RG (S : List (List Nat)) (L : List Nat) : Prop:=(∀ c ∈ L,c < S.length) ∧ (∀ (t a b : Nat),L[t]? = some a → L[t + 1]? = some b → b ∈ S.getD a []) ∧ ∀ a b : Nat,L[0]? = some a → L[L.length - 1]? = some b → a ∈ S.getD b []
theorem PRT.ring {E : List (Nat × Int)} (b : BQ S f d Q k t) (p : PRT S f d Q E) (hu : u ∈ Q) (h : f ∈ S.getD u []) : RG S (rgL E f (d u) u):=by
  have hl:=rgL_len E f (d u) u
  have at' : ∀ t,t ≤ d u → (rgL E f (d u) u)[t]? = some (itp E (d u - t) u):=fun t ht => by
    unfold rgL
    rw [List.getElem?_reverse (by simp [pth_len]; omega)]
    have e : (pth E (d u) u ++ [f]).length - 1 - t = d u - t:=by simp [pth_len]
    rw [e]
    by_cases c : t = 0
    · subst c
      rw [Nat.sub_zero,List.getElem?_append_right (by rw [pth_len]; exact Nat.le_refl _),pth_len,Nat.sub_self]
      obtain ⟨h1,h2⟩:=PRT.back b p hu (s:=d u) (Nat.le_refl _)
      rw [b.dz h1 (by omega)]
      rfl
    · rw [List.getElem?_append_left (by rw [pth_len]; omega)]
      exact pth_at E (by omega)
  refine ⟨fun c hc => ?_,fun t x y hx hy => ?_,fun x y hx hy => ?_⟩
  · obtain ⟨t,ht⟩:=List.mem_iff_getElem?.1 hc
    have h3:=(List.getElem?_eq_some_iff.1 ht).1
    rw [at' t (by omega)] at ht
    cases ht
    exact b.lt _ (PRT.back b p hu (by omega)).1
  · have h3:=(List.getElem?_eq_some_iff.1 hy).1
    rw [at' t (by omega)] at hx
    rw [at' (t + 1) (by omega)] at hy
    cases hx; cases hy
    obtain ⟨h1,h2⟩:=PRT.back b p hu (s:=d u - (t + 1)) (by omega)
    have hn : itp E (d u - (t + 1)) u ≠ f:=fun e => by rw [e,b.f0] at h2; omega
    obtain ⟨_,_,h4,_⟩:=p.step h1 hn
    rw [← itp_succ,show d u - (t + 1) + 1 = d u - t by omega] at h4
    exact h4
  · rw [at' 0 (Nat.zero_le _)] at hx
    rw [hl,Nat.add_sub_cancel,at' (d u) (Nat.le_refl _),Nat.sub_self] at hy
    cases hx; cases hy
    obtain ⟨h1,h2⟩:=PRT.back b p hu (s:=d u) (Nat.le_refl _)
    rw [Nat.sub_zero,b.dz h1 (by omega)]
    exact h
def MC (S : List (List Nat)) (n : Nat) (m : Nat) : Prop:=(m = 0 ∧ ∀ f s,f < n → ¬ Rw S (s + 1) f f) ∨ ∃ r,m = r + 1 ∧ (∃ f,f < n ∧ Rw S (r + 1) f f) ∧ ∀ f s,f < n → Rw S (s + 1) f f → r ≤ s
theorem MC.uniq {n m m' : Nat} (h : MC S n m) (g : MC S n m') : m = m':=by
  rcases h with ⟨rfl,h⟩ | ⟨r,rfl,⟨f,h1,h2⟩,h3⟩ <;> rcases g with ⟨rfl,g⟩ | ⟨r',rfl,⟨f',g1,g2⟩,g3⟩
  · rfl
  · exact absurd g2 (h _ _ g1)
  · exact absurd h2 (g _ _ h1)
  · have:=h3 _ _ g1 g2
    have:=g3 _ _ h1 h2
    omega
theorem MC.nil : MC S 0 0:=.inl ⟨rfl,fun f s h => absurd h (by omega)⟩
theorem MC.skip {n m : Nat} (h : MC S n m) (g : ∀ s,¬ Rw S (s + 1) n n) : MC S (n + 1) m:=by
  have sp : ∀ {P : Nat → Prop},(∀ f,f < n → P f) → P n → ∀ f,f < n + 1 → P f:=fun h1 h2 f hf => by
    by_cases e : f = n
    · rw [e]; exact h2
    · exact h1 f (by omega)
  rcases h with ⟨rfl,h⟩ | ⟨r,rfl,⟨f,h1,h2⟩,h3⟩
  · exact .inl ⟨rfl,fun f s hf => sp (P:=fun f => ¬ Rw S (s + 1) f f) (fun f hf => h f s hf) (g s) f hf⟩
  · exact .inr ⟨r,rfl,⟨f,by omega,h2⟩,fun f s hf => sp (P:=fun f => Rw S (s + 1) f f → r ≤ s) (fun f hf => h3 f s hf) (fun w => absurd w (g s)) f hf⟩
theorem MC.put {n m r : Nat} (h : MC S n m) (g : CY S n r) : MC S (n + 1) (if m = 0 ∨ r + 1 < m then r + 1 else m):=by
  have sp : ∀ {P : Nat → Prop},(∀ f,f < n → P f) → P n → ∀ f,f < n + 1 → P f:=fun h1 h2 f hf => by
    by_cases e : f = n
    · rw [e]; exact h2
    · exact h1 f (by omega)
  rcases h with ⟨rfl,h⟩ | ⟨q,rfl,⟨f,h1,h2⟩,h3⟩
  · rw [if_pos (.inl rfl)]
    exact .inr ⟨r,rfl,⟨n,by omega,g.1⟩,fun f s hf => sp (P:=fun f => Rw S (s + 1) f f → r ≤ s) (fun f hf w => absurd w (h f s hf)) (g.2 s) f hf⟩
  · by_cases c : r + 1 < q + 1
    · rw [if_pos (.inr c)]
      exact .inr ⟨r,rfl,⟨n,by omega,g.1⟩,fun f s hf => sp (P:=fun f => Rw S (s + 1) f f → r ≤ s) (fun f hf w => Nat.le_trans (by omega) (h3 f s hf w)) (g.2 s) f hf⟩
    · rw [if_neg (by omega)]
      exact .inr ⟨q,rfl,⟨f,by omega,h2⟩,fun f s hf => sp (P:=fun f => Rw S (s + 1) f f → q ≤ s) (fun f hf => h3 f s hf) (fun w => Nat.le_trans (by omega) (g.2 s w)) f hf⟩
end
end Go.Proofs.Ytljgfdamdcikgaa.Ev
set_option linter.unusedVariables false
set_option linter.unusedSimpArgs false
namespace Go.Proofs.Ytljgfdamdcikgaa.Ev
open Go Go.AEv
attribute [local simp] evFunc initS evOps_c evTrim_c evSkip_c evExit_c evRet_c evSeq_c evCond_c evBlock_c evDraw_c runOps_n runOps_c exec_n exec_g pure1_c act AOpd.ev T.get T.set T.put evBin evUn forceT_eq forceV_eq forceL_eq evRess evRes one keep runFP_n runFP_c app_none AV.flats AV.flat came_some List.getElem?_cons_zero List.getElem?_cons_succ beqT wrapI idxI tdivI tmodI decT decF ibT ibF inT inF evScope_c if_pos if_neg Cm_some thenW_n thenW_e thenW_r blkW_n blkW_e blkW_r goI kn putAt AV.cells fillA loadA takeA mk Eff.isAll Eff.isNone Eff.commutes Eff.spares okPair apart eqAgg fits LK.fits allEq aveq eqk mmA
theorem W.loop {tbl : Nat → Option CFunc} {I : CallF} {live : List Path} {c : CCode} {s : T} {h : Heap} {Q : PQ} (x : W tbl I (.trim live c) s h (thenW tbl I (.loop live c) Q)) : W tbl I (.loop live c) s h Q:=by
  obtain ⟨e,s1,h1,⟨n,r⟩,q⟩:=x
  cases e with
  | normal =>
    obtain ⟨e2,s2,h2,r2,q2⟩:=q
    exact ⟨e2,s2,h2,Runs.loop_next ⟨n,r⟩ r2,q2⟩
  | exit i => exact ⟨_,s1,h1,Runs.loop_out ⟨n,r⟩ (by simp),q⟩
  | ret => exact ⟨_,s1,h1,Runs.loop_out ⟨n,r⟩ (by simp),q⟩
theorem gD_some {L : List Nat} {t : Nat} (h : t < L.length) : L[t]? = some (L.getD t 0):=by
  rw [List.getD_eq_getElem?_getD,List.getElem?_eq_getElem h]; rfl
theorem gn_app (L : List Nat) (c : Nat) : gn (L ++ [c]) = gn L ++ [G c]:=by simp [gn]
section
variable {S : List (List Nat)} {p f : Nat}
structure RM (h0 : Heap) (E : List (Nat × Int)) (xq : AV) (U : List Nat) (h : Heap) : Prop where
  kf : Kp (fun _ => False) (frameOf h0) h
  gm : h.get h0.size = .map (mv E)
  lq : ∃ b,xq = .slice b 0 U.length U.length ∧ h.get b = .cells 1 U.length (gn U) ∧ h0.size < b
theorem frS (h : Heap) : (frameOf h).size = h.size:=by simp [frameOf,Heap.size]
theorem RM.put {h0 h : Heap} {E : List (Nat × Int)} {xq : AV} {U : List Nat} (r : RM h0 E xq U h) (c : Nat) (z : Int) : ∃ H,Eff.app (.mput h0.size (mv (pm c z E))) h = some H ∧ RM h0 (pm c z E) xq U H:=by
  have hN : h.N = h0.size:=r.kf.N
  have blt:=get_lt r.gm (by simp)
  refine ⟨_,mput_gen h h0.size _ _ (by omega) r.gm,r.kf.updn _ _ (by omega) (by rw [frS]; omega),upd_same _ _ _ (by omega) blt,?_⟩
  obtain ⟨b,e1,e2,e3⟩:=r.lq
  exact ⟨b,e1,by rw [upd_ne _ _ _ _ (by omega) (by omega)]; exact e2,e3⟩
theorem RM.push {h0 h : Heap} {E : List (Nat × Int)} {xq : AV} {U : List Nat} (k0 : Nat) (r : RM h0 E xq U h) (c : Nat) (hn : U.length ≤ 1000) :
    ∃ x1 e H,appA (h.plus [.cells 1 1 [G c]]) k0 none 1 8 1 [G c] xq = some (x1,e) ∧ Eff.app e (h.plus [.cells 1 1 [G c]]) = some H ∧ RM h0 E x1 (U ++ [c]) H:=by
  have hN : h.N = h0.size:=r.kf.N
  obtain ⟨b,rfl,e2,e3⟩:=r.lq
  have g2:=plus_keep [.cells 1 1 [G (c : Int)]] e2 (by simp)
  have hN' : (h.plus [.cells 1 1 [G (c : Int)]]).N ≤ b:=by rw [plus_N]; omega
  have x:=ext_gen (h.plus [.cells 1 1 [G (c : Int)]]) b U.length 1 (gn U) [G c] hN' g2 (gn_len U)
  have blt:=get_lt e2 (by simp)
  refine ⟨.slice b 0 (U.length + 1) (U.length + 1),.ext b U.length 1 [G c],_,?_,x,(r.kf.trans (Kp.plus _ _)).updn _ _ hN' (by rw [frS]; omega),?_,b,by simp,?_,e3⟩
  · simp only [appA,Nat.mul_one,Nat.one_mul]
    rw [if_neg (by decide),if_pos ⟨trivial,by simp,by omega⟩]
  · rw [upd_ne _ _ _ _ hN' (by omega)]; exact plus_keep _ r.gm (by simp)
  · rw [upd_same _ _ _ hN' (by rw [plus_size]; omega),gn_app]
    simp [gn_len]
structure RB7 (S : List (List Nat)) (f : Nat) (h0 : Heap) (k t : Nat) (E : List (Nat × Int)) (xq : AV) (U : List Nat) (d : Nat → Nat) (h : Heap) : Prop where
  bq : BQ S f d U k t
  nf : NF S f U k t
  pr : PRT S f d U E
  rm : RM h0 E xq U h
theorem BQ.du {d : Nat → Nat} {U : List Nat} {k t u : Nat} (b : BQ S f d U k t) (hu : u ∈ U) : d u < S.length:=by
  obtain ⟨j,hj⟩:=List.mem_iff_getElem?.1 hu
  have h1:=b.dl j u hj
  have h2:=(List.getElem?_eq_some_iff.1 hj).1
  have:=b.len
  omega
theorem c74_l0_ok (J : CallF) {Hb : Heap} {E : List (Nat × Int)} {U : List Nat} {d : Nat → Nat} {k t u bm : Nat} (b : BQ S f d U k t) (pr : PRT S f d U E) (hu : u ∈ U) (gm : Hb.get bm = .map (mv E)) (n1 : S.length ≤ 1000) :
    Tr tbl J c74_l0 (fun s h => ∃ x,NV Hb h x (gn ((pth E (d u) u).take 0)) ∧ s.get [false] = G f ∧ s.get [false,true] = .map bm ∧ s.get [true,true,false] = x ∧ s.get [false,false,true] = G (itp E 0 u)) (.exit 4) (fun s h => ∃ x,NV Hb h x (gn (pth E (d u) u)) ∧ s.get [false] = G f ∧ s.get [true,true,false] = x):=by
  have hd:=b.du hu
  refine Tr.rounds (P:=fun i s h => ∃ x,NV Hb h x (gn ((pth E (d u) u).take i)) ∧ s.get [false] = G f ∧ s.get [false,true] = .map bm ∧ s.get [true,true,false] = x ∧ s.get [false,false,true] = G (itp E i u)) (M:=d u) (fun i hi => ?_) ?_ (by simp) 0 (by omega)
  · refine Tr.w fun s1 H1 hp _ kR => W.trim ?_
    obtain ⟨x,nv,q⟩:=hp
    obtain ⟨a1,a2⟩:=PRT.back b pr hu (s:=i) (by omega)
    have hne : itp E i u ≠ f:=fun e => by rw [e,b.f0] at a2; omega
    obtain ⟨a3,_,_,_⟩:=pr.step a1 hne
    rw [← itp_succ] at a3
    have fs:=find_mv (itp E i u) E
    rw [a3] at fs
    simp only [Option.map_some] at fs
    have hl : (gn ((pth E (d u) u).take i)).length ≤ 1000:=by rw [gn_len,List.length_take]; omega
    obtain ⟨x1,e,H2,q1,q2,nv2,_⟩:=nv.app H1.size 8 (G (itp E i u)) (by omega)
    rw [← gn_app,← take_s (pth_at E hi)] at nv2
    have ga:=mapA_at (nv2.k.at gm (by simp) id)
    have f1:=app1_at H1 (G (itp E i u : Nat))
    have hne' : ¬ (itp E i u : Int) = f:=by omega
    clear b pr nv gm a3 a2 a1 hl
    generalize itp E (i + 1) u = j at *
    generalize itp E i u = i0 at *
    generalize mv E = es at *
    generalize gn ((pth E (d u) u).take i) = L0 at *
    refine W.assoc ?_
    refine W.seq (W.chunk ?_)
    simp (disch:=first|omega|exact zE rfl|exact zO|exact zL rfl) [c74_o11,zG,q]
    refine W.seq (W.chunk ?_)
    simp (disch:=first|omega|exact zE rfl|exact zO|exact zL rfl) [zG,q]
    refine W.seq (W.block ?_)
    refine W.chunk ?_
    simp (disch:=first|omega|exact zE rfl|exact zO|exact zL rfl) [c74_o12,zG,q,elems,rdOf,f1,q1,q2]
    refine W.chunk ?_
    simp (disch:=first|omega|exact zE rfl|exact zO|exact zL rfl) [c74_o13,zG,q,ga,fs]
    exact kR _ _ ⟨_,nv2,by simp [T.get,q]⟩
  · refine Tr.w fun s1 H1 hp _ kR => W.trim ?_
    obtain ⟨x,nv,q⟩:=hp
    obtain ⟨a1,a2⟩:=PRT.back b pr hu (s:=d u) (Nat.le_refl _)
    rw [b.dz a1 (by omega)] at q
    rw [List.take_of_length_le (by rw [pth_len]; exact Nat.le_refl _)] at nv
    clear b pr gm a1 a2
    refine W.assoc ?_
    refine W.seq (W.chunk ?_)
    simp (disch:=first|omega|exact zE rfl|exact zO|exact zL rfl) [c74_o11,zG,q]
    refine W.seq (W.chunk ?_)
    simp (disch:=first|omega|exact zE rfl|exact zO|exact zL rfl) [zG,q]
    exact kR _ _ ⟨_,nv,by simp [T.get,q]⟩
def FD (S : List (List Nat)) (f : Nat) (h0 : Heap) : SP:=fun s h => ∃ x L m,(Kp (fun _ => False) (frameOf h0) h ∧ CY S f m ∧ RG S L ∧ L.length = m + 1 ∧ RV h x (gn L)) ∧ s.get [true,false] = x
def RP (S : List (List Nat)) (p f : Nat) (h0 : Heap) (k u : Nat) (y : AV) (t : Nat) : SP:=fun s h => ∃ E xq U d,RB7 S f h0 k t E xq U d h ∧ U[k]? = some u ∧ s.get [] = .ptr p 0 3 ∧ s.get [false] = G f ∧ s.get [false,true] = .map h0.size ∧ s.get [true,true] = xq ∧ s.get [false,false,false] = G k ∧ s.get [true,false,false,false,false] = y ∧ s.get [false,true,false,false,false] = G (S.getD u []).length ∧ s.get [true,true,false,false,false] = G t
set_option maxHeartbeats 1000000 in
theorem c74_b1_n (J : CallF) (os : OkS S) {h0 : Heap} {k u : Nat} {y : AV} (rv : RV (frameOf h0) y (gn (S.getD u []))) {t : Nat} (ht : t < (S.getD u []).length) (hne : (S.getD u []).getD t 0 ≠ f) :
    Tr tbl J (.trim [[],[false],[false,true],[true,true],[false,false,false],[true,false,false,false,false],[false,true,false,false,false],[true,true,false,false,false]] c74_b1) (RP S p f h0 k u y t) .normal (RP S p f h0 k u y (t + 1)):=by
  have l1:=os.len u
  have n1:=os.n
  have ec:=gn_at ht
  have ec':=getI ec
  have cc : (S.getD u [])[t]? = some ((S.getD u []).getD t 0):=gD_some ht
  have ny : gn (S.getD u []) ≠ []:=fun e => by rw [e] at ec; simp at ec
  obtain ⟨_,e⟩ | ⟨b,w,rfl,gy⟩:=rv
  · exact absurd e ny
  rw [gn_len]
  refine Tr.w fun s1 H1 hp R kR => W.trim ?_
  obtain ⟨E,xq,U,d,rb,hu,q⟩:=hp
  have gyH:=rb.rm.kf.at gy (by simp) id
  have ga:=mapA_at rb.rm.gm
  have uU:=rb.bq.uQ hu
  have hkU:=(List.getElem?_eq_some_iff.1 hu).1
  have fs:=find_mv ((S.getD u []).getD t 0) E
  have hne' : ¬ (((S.getD u []).getD t 0 : Nat) : Int) = f:=by omega
  have nf2:=rb.nf.skip hu cc hne
  dsimp only [RP] at kR
  by_cases hQ : (S.getD u []).getD t 0 ∈ U
  · obtain ⟨pq,a1,_⟩:=(rb.pr.2 _ hne).2 hQ
    rw [a1] at fs
    simp only [Option.map_some] at fs
    have rb2 : RB7 S f h0 k (t + 1) E xq U d H1:=⟨rb.bq.old hu cc hQ,nf2,rb.pr,rb.rm⟩
    clear rb nf2 a1
    generalize (S.getD u []).getD t 0 = c at *
    generalize gn (S.getD u []) = L at *
    generalize hnl : (S.getD u []).length = nl at *
    generalize mv E = es at *
    refine W.seq (W.chunk ?_)
    simp (disch:=first|omega|exact zE rfl|exact zO|exact zL rfl) [c74_o6,zG,q]
    refine W.seq (W.chunk ?_)
    simp (disch:=first|omega|exact zE rfl|exact zO|exact zL rfl) [zG,q]
    refine W.seq (W.block ?_)
    refine W.seq (W.chunk ?_)
    simp (disch:=first|omega|exact zE rfl|exact zO|exact zL rfl) [c74_o7,zG,q,gyH,ec,ec']
    refine W.assoc ?_
    refine W.seq (W.chunk ?_)
    simp (disch:=first|omega|exact zE rfl|exact zO|exact zL rfl) [c74_o8,zG,q]
    refine W.seq (W.cond (v:=false) (by simp (disch:=first|omega|exact zE rfl|exact zO|exact zL rfl) [zG,q]) ?_)
    simp only [if_true,if_false,Bool.false_eq_true]
    refine W.skip ?_
    try simp only [zW,if_true]
    refine W.seq (W.chunk ?_)
    simp (disch:=first|omega|exact zE rfl|exact zO|exact zL rfl) [c74_o17,zG,q,ga,fs]
    refine W.seq (W.chunk ?_)
    simp (disch:=first|omega|exact zE rfl|exact zO|exact zL rfl) [c74_o18,zG,q]
    refine W.chunk ?_
    simp (disch:=first|omega|exact zE rfl|exact zO|exact zL rfl) [c74_o19,c74_o20,zG,q]
    refine W.chunk ?_
    simp (disch:=first|omega|exact zE rfl|exact zO|exact zL rfl) [c74_o21,zG,q]
    exact kR _ _ ⟨_,_,_,_,rb2,hu,by simp [T.get,q]⟩
  · have a1:=(rb.pr.2 _ hne).1 hQ
    rw [a1] at fs
    simp only [Option.map_none] at fs
    have f1:=put_mv ((S.getD u []).getD t 0) (u : Int) E
    obtain ⟨H2,p1,rm2⟩:=rb.rm.put ((S.getD u []).getD t 0) (u : Int)
    have hU:=rb.bq.len
    obtain ⟨x1,e,H3,q1,q2,rm3⟩:=rm2.push H2.size ((S.getD u []).getD t 0) (by omega)
    have rb2 : RB7 S f h0 k (t + 1) _ x1 (U ++ [(S.getD u []).getD t 0]) _ H3:=⟨rb.bq.new os.lt hu cc hQ,nf2.push hkU _,rb.pr.new uU rb.bq.fQ (gD_mem ht) hQ,rm3⟩
    have hu2 : (U ++ [(S.getD u []).getD t 0])[k]? = some u:=by rw [List.getElem?_append_left hkU]; exact hu
    have ap:=app1_at H2 (G ((S.getD u []).getD t 0 : Nat))
    obtain ⟨bq',rfl,gq,_⟩:=rb.rm.lq
    have eu : (gn U)[k]? = some (G u):=by rw [gnm,hu]; rfl
    have eu':=getI eu
    have lU : (gn U).length = U.length:=gn_len U
    clear rb nf2 a1 rm2 rm3 hQ
    generalize (S.getD u []).getD t 0 = c at *
    generalize gn (S.getD u []) = L at *
    generalize hnl : (S.getD u []).length = nl at *
    generalize mv (pm c (u : Int) E) = es2 at *
    generalize mv E = es at *
    generalize gn U = gU at *
    generalize U.length = lu at *
    refine W.seq (W.chunk ?_)
    simp (disch:=first|omega|exact zE rfl|exact zO|exact zL rfl) [c74_o6,zG,q]
    refine W.seq (W.chunk ?_)
    simp (disch:=first|omega|exact zE rfl|exact zO|exact zL rfl) [zG,q]
    refine W.seq (W.block ?_)
    refine W.seq (W.chunk ?_)
    simp (disch:=first|omega|exact zE rfl|exact zO|exact zL rfl) [c74_o7,zG,q,gyH,ec,ec']
    refine W.assoc ?_
    refine W.seq (W.chunk ?_)
    simp (disch:=first|omega|exact zE rfl|exact zO|exact zL rfl) [c74_o8,zG,q]
    refine W.seq (W.cond (v:=false) (by simp (disch:=first|omega|exact zE rfl|exact zO|exact zL rfl) [zG,q]) ?_)
    simp only [if_true,if_false,Bool.false_eq_true]
    refine W.skip ?_
    try simp only [zW,if_true]
    refine W.seq (W.chunk ?_)
    simp (disch:=first|omega|exact zE rfl|exact zO|exact zL rfl) [c74_o17,zG,q,ga,fs]
    refine W.seq (W.chunk ?_)
    simp (disch:=first|omega|exact zE rfl|exact zO|exact zL rfl) [c74_o18,zG,q]
    refine W.cond (v:=true) (by simp (disch:=first|omega|exact zE rfl|exact zO|exact zL rfl) [zG,q]) ?_
    simp only [if_true,if_false,Bool.false_eq_true]
    refine W.seq (W.chunk ?_)
    simp (disch:=first|omega|exact zE rfl|exact zO|exact zL rfl) [c74_o19,zG,q,gq,eu,eu',lU,ga,f1,p1]
    refine W.chunk ?_
    simp (disch:=first|omega|exact zE rfl|exact zO|exact zL rfl) [c74_o20,zG,q,elems,rdOf,ap,q1,q2]
    refine W.chunk ?_
    simp (disch:=first|omega|exact zE rfl|exact zO|exact zL rfl) [c74_o21,zG,q]
    exact kR _ _ ⟨_,_,_,_,rb2,hu2,by simp [T.get,q]⟩
set_option maxHeartbeats 1000000 in
theorem c74_b1_r (J : CallF) (h94 : ∀ a h,J 94 a h = none) (os : OkS S) {h0 : Heap} {k u : Nat} {y : AV} (rv : RV (frameOf h0) y (gn (S.getD u []))) {t : Nat} (ht : t < (S.getD u []).length) (he : (S.getD u []).getD t 0 = f) :
    Tr tbl J (.trim [[],[false],[false,true],[true,true],[false,false,false],[true,false,false,false,false],[false,true,false,false,false],[true,true,false,false,false]] c74_b1) (RP S p f h0 k u y t) .ret (FD S f h0):=by
  have l1:=os.len u
  have n1:=os.n
  have ec:=gn_at ht
  have fm:=gD_mem ht
  rw [he] at ec fm
  have ec':=getI ec
  have ny : gn (S.getD u []) ≠ []:=fun e => by rw [e] at ec; simp at ec
  obtain ⟨_,e⟩ | ⟨b,w,rfl,gy⟩:=rv
  · exact absurd e ny
  rw [gn_len]
  refine Tr.w fun s1 H1 hp R kR => W.trim ?_
  obtain ⟨E,xq,U,d,rb,hu,q⟩:=hp
  have gyH:=rb.rm.kf.at gy (by simp) id
  have uU:=rb.bq.uQ hu
  have hd:=rb.bq.du uU
  have hkU:=(List.getElem?_eq_some_iff.1 hu).1
  have l0:=c74_l0_ok J rb.bq rb.pr uU rb.rm.gm n1
  have hN0 : H1.N = h0.size:=rb.rm.kf.N
  obtain ⟨bq',rfl,gq,_⟩:=rb.rm.lq
  have eu : (gn U)[k]? = some (G u):=by rw [gnm,hu]; rfl
  have eu':=getI eu
  have lU : (gn U).length = U.length:=gn_len U
  have cy:=rb.bq.found rb.nf hu fm
  have rg:=PRT.ring rb.bq rb.pr uU fm
  have rl:=rgL_len E f (d u) u
  have ex : ∃ x,NV H1 H1 x [] ∧ AV.nils = x:=⟨.nils,NV.nil H1,rfl⟩
  have lp:=pth_len E (d u) u
  have post : ∀ H2 x,NV H1 H2 x (gn (pth E (d u) u)) → ∃ b1 e H3,appA (H2.plus [.cells 1 1 [G f]]) H2.size none 1 8 1 [G f] x = some (.slice b1 0 (d u + 1) (d u + 1),e) ∧ Eff.app e (H2.plus [.cells 1 1 [G f]]) = some H3 ∧
      ∃ H4,H3.N ≤ b1 ∧ Kp (fun _ => False) (frameOf h0) H4 ∧ RV H4 (.slice b1 0 (d u + 1) (d u + 1)) (gn (rgL E f (d u) u)) ∧ (⟨H3.lo,H3.N,H4.own⟩ : Heap) = H4 ∧ CallsTo tbl J 94 [.slice b1 0 (d u + 1) (d u + 1)] H3 (.tup [],H4.own,true):=fun H2 x nv => by
    obtain ⟨x1,e,H3,q1,q2,nv2,_⟩:=nv.app H2.size 8 (G f) (by rw [gn_len,lp]; omega)
    rw [← gn_app] at nv2
    have lz : (gn (pth E (d u) u ++ [f])).length = d u + 1:=by rw [gn_len,List.length_append,lp]; rfl
    obtain ⟨_,e0⟩ | ⟨b1,rfl,g1,hN⟩:=nv2.l
    · rw [e0] at lz; simp at lz
    rw [lz] at q1 g1
    have hb:=nv2.x0 b1 rfl
    have lz' : (pth E (d u) u ++ [f]).length = d u + 1:=by rw [List.length_append,lp]; rfl
    obtain ⟨H4,⟨k4,g4⟩,call⟩:=c94_ok (w:=d u + 1) J h94 hN g1 (by rw [lz']; omega) rfl
    rw [lz'] at call
    have kk : Kp (fun _ => False) (frameOf h0) H4:=(rb.rm.kf.trans nv2.k).late k4 fun z hz => by
      have:=rb.rm.kf.size
      rw [hz]; omega
    exact ⟨b1,e,H3,q1,q2,H4,hN,kk,.inr ⟨b1,d u + 1,by rw [gn_len,rl],g4⟩,all_eq k4,call⟩
  clear rb
  dsimp only [FD] at kR
  rw [List.take_zero] at l0
  rw [show gn [] = [] from rfl] at l0
  rw [show itp E 0 u = u from rfl] at l0
  generalize gn (S.getD u []) = L at *
  generalize hnl : (S.getD u []).length = nl at *
  generalize gn U = gU at *
  generalize U.length = lu at *
  refine W.seq (W.chunk ?_)
  simp (disch:=first|omega|exact zE rfl|exact zO|exact zL rfl) [c74_o6,zG,q]
  refine W.seq (W.chunk ?_)
  simp (disch:=first|omega|exact zE rfl|exact zO|exact zL rfl) [zG,q]
  refine W.seq (W.block ?_)
  refine W.seq (W.chunk ?_)
  simp (disch:=first|omega|exact zE rfl|exact zO|exact zL rfl) [c74_o7,zG,q,gyH,ec,ec']
  refine W.assoc ?_
  refine W.seq (W.chunk ?_)
  simp (disch:=first|omega|exact zE rfl|exact zO|exact zL rfl) [c74_o8,zG,q]
  refine W.seq (W.cond (v:=true) (by simp (disch:=first|omega|exact zE rfl|exact zO|exact zL rfl) [zG,q]) ?_)
  simp only [if_true,if_false,Bool.false_eq_true]
  refine W.seq (W.chunk ?_)
  simp (disch:=first|omega|exact zE rfl|exact zO|exact zL rfl) [c74_o9,zG,q]
  refine W.assoc ?_
  refine W.seq (W.chunk ?_)
  simp (disch:=first|omega|exact zE rfl|exact zO|exact zL rfl) [c74_o10,zG,q,gq,eu,eu',lU]
  refine W.seq (W.block ?_)
  refine W.use (l0) (by simp (disch:=first|omega|exact zE rfl|exact zO|exact zL rfl) [zG,q,ex]) fun s1 H1 hp => ?_
  obtain ⟨x,nv,q⟩:=hp
  try simp only [zW,if_true]
  obtain ⟨b1,e,H3,q1,q2,H4,hN,kk,rv4,aa,call⟩:=post _ _ nv
  have f1:=app1_at H1 (G f)
  refine W.seq (W.chunk ?_)
  simp (disch:=first|omega|exact zE rfl|exact zO|exact zL rfl) [c74_o14,zG,q,elems,rdOf,f1,q1,q2]
  refine W.point (by decide) call ?_
  have k94:=pt_at (I:=J) (f:=94) (args:=[.slice b1 0 (d u + 1) (d u + 1)]) (h:=H3) (x:=(.tup [],H4.own,true))
  refine W.seq (W.chunk ?_)
  simp (disch:=first|omega|exact zE rfl|exact zO|exact zL rfl) [c74_o15,zG,q,k94]
  refine W.seq (W.chunk ?_)
  simp (disch:=first|omega|exact zE rfl|exact zO|exact zL rfl) [c74_o16,zG,q]
  refine W.ret ?_
  try simp only [zW,if_true]
  rw [← aa] at kk rv4
  exact kR _ _ ⟨.slice b1 0 (d u + 1) (d u + 1),rgL E f (d u) u,d u,⟨kk,cy,rg,rl,rv4⟩,by simp [T.get,q]⟩
end
section
variable {S : List (List Nat)} {p f : Nat}
theorem kids_ne (u : Nat) : af (fun t => decide ((S.getD u []).getD t 0 ≠ f)) 0 (S.getD u []).length = !decide (f ∈ S.getD u []):=by
  rw [af_range,all_range (S.getD u []) 0 fun c => decide (c ≠ f)]
  generalize S.getD u [] = L
  rw [Bool.eq_iff_iff]
  simp only [List.all_eq_true,decide_eq_true_eq,Bool.not_eq_true',decide_eq_false_iff_not]
  exact ⟨fun h hf => h f hf rfl,fun h c hc e => h (e ▸ hc)⟩
theorem c74_l1_ok (J : CallF) (h94 : ∀ a h,J 94 a h = none) (os : OkS S) {h0 : Heap} {k u : Nat} {y : AV} (rv : RV (frameOf h0) y (gn (S.getD u []))) :
    (f ∉ S.getD u [] → Tr tbl J c74_l1 (RP S p f h0 k u y 0) (.exit 2) (RP S p f h0 k u y (S.getD u []).length)) ∧
    (f ∈ S.getD u [] → Tr tbl J c74_l1 (RP S p f h0 k u y 0) .ret (FD S f h0)):=by
  have kn:=kids_ne (S:=S) (f:=f) u
  have fin : Tr tbl J (.trim [[],[false],[false,true],[true,true],[false,false,false],[true,false,false,false,false],[false,true,false,false,false],[true,true,false,false,false]] c74_b1) (RP S p f h0 k u y (S.getD u []).length) (.exit 2) (RP S p f h0 k u y (S.getD u []).length):=by
    have l1:=os.len u
    refine Tr.w fun s1 H1 hp R kR => W.trim ?_
    obtain ⟨E,xq,U,d,rb,hu,q⟩:=hp
    dsimp only [RP] at kR
    clear kn
    generalize hnl : (S.getD u []).length = nl at *
    refine W.seq (W.chunk ?_)
    simp (disch:=first|omega|exact zE rfl|exact zO|exact zL rfl) [c74_o6,zG,q]
    refine W.seq (W.chunk ?_)
    simp (disch:=first|omega|exact zE rfl|exact zO|exact zL rfl) [zG,q]
    exact kR _ _ ⟨E,xq,U,d,rb,hu,by simp [T.get,q]⟩
  constructor
  · intro h
    rw [decide_eq_false h] at kn
    exact Tr.allT (P:=RP S p f h0 k u y) (p:=fun t => decide ((S.getD u []).getD t 0 ≠ f)) _ (fun t ht hc => c74_b1_n J os rv ht (of_decide_eq_true hc)) fin (by simp) _ 0 (by omega) kn
  · intro h
    rw [decide_eq_true h] at kn
    exact Tr.allF (P:=RP S p f h0 k u y) (p:=fun t => decide ((S.getD u []).getD t 0 ≠ f)) _ (fun t ht hc => c74_b1_n J os rv ht (of_decide_eq_true hc)) (fun t ht hc => c74_b1_r J h94 os rv ht (Decidable.not_not.1 (of_decide_eq_false hc))) (by simp) _ 0 (by omega) kn
def OR (S : List (List Nat)) (p f : Nat) (h0 : Heap) (k : Nat) : SP:=fun s h => ∃ E xq U d,RB7 S f h0 k 0 E xq U d h ∧ k ≤ U.length ∧ s.get [] = .ptr p 0 3 ∧ s.get [false] = G f ∧ s.get [false,true] = .map h0.size ∧ s.get [true,true] = xq ∧ s.get [false,false,false] = G k
set_option maxHeartbeats 1000000 in
theorem c74_l2_n (J : CallF) (h94 : ∀ a h,J 94 a h = none) (os : OkS S) {h0 : Heap} (lf : LF (frameOf h0) p S) (nc : ∀ s,¬ Rw S (s + 1) f f) : ∀ n k,k + n = S.length → Tr tbl J c74_l2 (OR S p f h0 k) (.exit 0) (fun s h => True):=by
  have n1:=os.n
  intro n
  induction n with
  | zero =>
    intro k hk
    refine Tr.w fun s1 H1 hp R kR => ?_
    obtain ⟨E,xq,U,d,rb,hkU,q⟩:=hp
    have hU:=rb.bq.len
    obtain rfl : k = U.length:=by omega
    obtain ⟨bq',rfl,gq,_⟩:=rb.rm.lq
    clear lf nc
    refine W.loop (W.trim ?_)
    refine W.assoc ?_
    refine W.seq (W.chunk ?_)
    simp (disch:=first|omega|exact zE rfl|exact zO|exact zL rfl) [c74_o4,zG,q]
    refine W.seq (W.chunk ?_)
    simp (disch:=first|omega|exact zE rfl|exact zO|exact zL rfl) [zG,q]
    exact kR _ _ trivial
  | succ n ih =>
    intro k hk
    have ih:=ih (k + 1) (by omega)
    refine Tr.w fun s1 H1 hp R kR => ?_
    obtain ⟨E,xq,U,d,rb,hkU,q⟩:=hp
    have hU:=rb.bq.len
    by_cases c : k = U.length
    · subst c
      obtain ⟨bq',rfl,gq,_⟩:=rb.rm.lq
      clear lf nc ih
      refine W.loop (W.trim ?_)
      refine W.assoc ?_
      refine W.seq (W.chunk ?_)
      simp (disch:=first|omega|exact zE rfl|exact zO|exact zL rfl) [c74_o4,zG,q]
      refine W.seq (W.chunk ?_)
      simp (disch:=first|omega|exact zE rfl|exact zO|exact zL rfl) [zG,q]
      exact kR _ _ trivial
    · have hlt : k < U.length:=by omega
      have hu : U[k]? = some (U.getD k 0):=gD_some hlt
      generalize U.getD k 0 = u at *
      have uU:=rb.bq.uQ hu
      have uS:=rb.bq.lt u uU
      have nf : f ∉ S.getD u []:=fun hf => nc _ ((rb.bq.wk u uU).snoc hf)
      obtain ⟨x,mb,nb,rs,e1,e2,e3,e4⟩:=lf
      obtain ⟨y,e5,rv⟩:=e4 u uS
      have l1:=(c74_l1_ok (p:=p) (k:=k) J h94 os rv).1 nf
      have e1:=rb.rm.kf.at e1 (by simp) id
      have e3:=rb.rm.kf.at e3 (by simp) id
      have e5':=getI e5
      have lrs : u < rs.length:=(List.getElem?_eq_some_iff.1 e5).1
      have sy:=rv.sl
      rw [gn_len] at sy
      obtain ⟨bq',rfl,gq,_⟩:=rb.rm.lq
      have eu : (gn U)[k]? = some (G u):=by rw [gnm,hu]; rfl
      have eu':=getI eu
      have lU : (gn U).length = U.length:=gn_len U
      have ex : ∃ E' xq' U',(∃ d',RB7 S f h0 k 0 E' xq' U' d' H1) ∧ U'[k]? = some u ∧ AV.slice bq' 0 U.length U.length = xq':=⟨E,_,U,⟨d,rb⟩,hu,rfl⟩
      unfold RP at l1
      clear e4 nc rb hu
      have post : ∀ s' h',(∃ E' xq' U' d',RB7 S f h0 k (S.getD u []).length E' xq' U' d' h' ∧ U'[k]? = some u ∧ s'.get [] = .ptr p 0 3 ∧ s'.get [false] = G f ∧ s'.get [false,true] = .map h0.size ∧ s'.get [true,true] = xq' ∧ s'.get [false,false,false] = G ((k + 1 : Nat) : Int)) → OR S p f h0 (k + 1) s' h':=fun s' h' ⟨E',xq',U',d',rb',hu',r⟩ =>
        ⟨E',xq',U',d',⟨rb'.bq.next hu' rfl,rb'.nf.next hu' rfl,rb'.pr,rb'.rm⟩,(List.getElem?_eq_some_iff.1 hu').1,r⟩
      generalize hnl : (S.getD u []).length = nl at *
      generalize gn U = gU at *
      generalize U.length = lu at *
      rcases sy with ⟨rfl,e0⟩ | ⟨b',v',rfl⟩
      all_goals
        try subst e0
        refine W.loop (W.trim ?_)
        refine W.assoc ?_
        refine W.seq (W.chunk ?_)
        simp (disch:=first|omega|exact zE rfl|exact zO|exact zL rfl) [c74_o4,zG,q]
        refine W.seq (W.chunk ?_)
        simp (disch:=first|omega|exact zE rfl|exact zO|exact zL rfl) [zG,q]
        refine W.seq (W.block ?_)
        refine W.seq (W.chunk ?_)
        simp (disch:=first|omega|exact zE rfl|exact zO|exact zL rfl) [-evDraw_c,c74_o5,zG,q,evDraw_0,e1,e3,e5,e5',gq,eu,eu',lU]
        refine W.block ?_
        refine W.use (l1) (by simp (disch:=first|omega|exact zE rfl|exact zO|exact zL rfl) [zG,q,ex]) fun s1 H1 hp => ?_
        obtain ⟨E2,xq2,U2,d2,rb2,hu2,q⟩:=hp
        try simp only [zW,if_true]
        refine W.chunk ?_
        simp (disch:=first|omega|exact zE rfl|exact zO|exact zL rfl) [c74_o22,zG,q]
        exact W.use ih (post _ _ ⟨E2,xq2,U2,d2,rb2,hu2,by simp [T.get,q]⟩) kR
set_option maxHeartbeats 1000000 in
theorem c74_l2_r (J : CallF) (h94 : ∀ a h,J 94 a h = none) (os : OkS S) {h0 : Heap} (lf : LF (frameOf h0) p S) (nc : ∃ s,Rw S (s + 1) f f) : ∀ n k,k + n = S.length → Tr tbl J c74_l2 (OR S p f h0 k) .ret (FD S f h0):=by
  have n1:=os.n
  intro n
  induction n with
  | zero =>
    intro k hk
    refine Tr.w fun s1 H1 hp R kR => ?_
    obtain ⟨E,xq,U,d,rb,hkU,q⟩:=hp
    have hU:=rb.bq.len
    obtain rfl : k = U.length:=by omega
    obtain ⟨c,w⟩:=nc
    exact absurd w (rb.bq.none rb.nf c)
  | succ n ih =>
    intro k hk
    have ih:=ih (k + 1) (by omega)
    refine Tr.w fun s1 H1 hp R kR => ?_
    obtain ⟨E,xq,U,d,rb,hkU,q⟩:=hp
    have hU:=rb.bq.len
    by_cases c : k = U.length
    · subst c
      obtain ⟨c,w⟩:=nc
      exact absurd w (rb.bq.none rb.nf c)
    · have hlt : k < U.length:=by omega
      have hu : U[k]? = some (U.getD k 0):=gD_some hlt
      generalize U.getD k 0 = u at *
      have uU:=rb.bq.uQ hu
      have uS:=rb.bq.lt u uU
      obtain ⟨x,mb,nb,rs,e1,e2,e3,e4⟩:=lf
      obtain ⟨y,e5,rv⟩:=e4 u uS
      have l1:=c74_l1_ok (p:=p) (k:=k) J h94 os rv (f:=f)
      have e1:=rb.rm.kf.at e1 (by simp) id
      have e3:=rb.rm.kf.at e3 (by simp) id
      have e5':=getI e5
      have lrs : u < rs.length:=(List.getElem?_eq_some_iff.1 e5).1
      have sy:=rv.sl
      rw [gn_len] at sy
      obtain ⟨bq',rfl,gq,_⟩:=rb.rm.lq
      have eu : (gn U)[k]? = some (G u):=by rw [gnm,hu]; rfl
      have eu':=getI eu
      have lU : (gn U).length = U.length:=gn_len U
      have ex : ∃ E' xq' U',(∃ d',RB7 S f h0 k 0 E' xq' U' d' H1) ∧ U'[k]? = some u ∧ AV.slice bq' 0 U.length U.length = xq':=⟨E,_,U,⟨d,rb⟩,hu,rfl⟩
      unfold RP at l1
      clear e4 nc rb hu
      have post : ∀ s' h',(∃ E' xq' U' d',RB7 S f h0 k (S.getD u []).length E' xq' U' d' h' ∧ U'[k]? = some u ∧ s'.get [] = .ptr p 0 3 ∧ s'.get [false] = G f ∧ s'.get [false,true] = .map h0.size ∧ s'.get [true,true] = xq' ∧ s'.get [false,false,false] = G ((k + 1 : Nat) : Int)) → OR S p f h0 (k + 1) s' h':=fun s' h' ⟨E',xq',U',d',rb',hu',r⟩ =>
        ⟨E',xq',U',d',⟨rb'.bq.next hu' rfl,rb'.nf.next hu' rfl,rb'.pr,rb'.rm⟩,(List.getElem?_eq_some_iff.1 hu').1,r⟩
      generalize hnl : (S.getD u []).length = nl at *
      generalize gn U = gU at *
      generalize U.length = lu at *
      by_cases hf : f ∈ S.getD u []
      · replace l1:=l1.2 hf
        rcases sy with ⟨rfl,e0⟩ | ⟨b',v',rfl⟩
        all_goals
          try subst e0
          refine W.loop (W.trim ?_)
          refine W.assoc ?_
          refine W.seq (W.chunk ?_)
          simp (disch:=first|omega|exact zE rfl|exact zO|exact zL rfl) [c74_o4,zG,q]
          refine W.seq (W.chunk ?_)
          simp (disch:=first|omega|exact zE rfl|exact zO|exact zL rfl) [zG,q]
          refine W.seq (W.block ?_)
          refine W.seq (W.chunk ?_)
          simp (disch:=first|omega|exact zE rfl|exact zO|exact zL rfl) [-evDraw_c,c74_o5,zG,q,evDraw_0,e1,e3,e5,e5',gq,eu,eu',lU]
          refine W.block ?_
          refine W.use (l1) (by simp (disch:=first|omega|exact zE rfl|exact zO|exact zL rfl) [zG,q,ex]) fun s1 H1 hp => ?_
          try simp only [zW,if_true]
          exact kR _ _ hp
      · replace l1:=l1.1 hf
        rcases sy with ⟨rfl,e0⟩ | ⟨b',v',rfl⟩
        all_goals
          try subst e0
          refine W.loop (W.trim ?_)
          refine W.assoc ?_
          refine W.seq (W.chunk ?_)
          simp (disch:=first|omega|exact zE rfl|exact zO|exact zL rfl) [c74_o4,zG,q]
          refine W.seq (W.chunk ?_)
          simp (disch:=first|omega|exact zE rfl|exact zO|exact zL rfl) [zG,q]
          refine W.seq (W.block ?_)
          refine W.seq (W.chunk ?_)
          simp (disch:=first|omega|exact zE rfl|exact zO|exact zL rfl) [-evDraw_c,c74_o5,zG,q,evDraw_0,e1,e3,e5,e5',gq,eu,eu',lU]
          refine W.block ?_
          refine W.use (l1) (by simp (disch:=first|omega|exact zE rfl|exact zO|exact zL rfl) [zG,q,ex]) fun s1 H1 hp => ?_
          obtain ⟨E2,xq2,U2,d2,rb2,hu2,q⟩:=hp
          try simp only [zW,if_true]
          refine W.chunk ?_
          simp (disch:=first|omega|exact zE rfl|exact zO|exact zL rfl) [c74_o22,zG,q]
          exact W.use ih (post _ _ ⟨E2,xq2,U2,d2,rb2,hu2,by simp [T.get,q]⟩) kR
theorem ring_init {h0 : Heap} (hf : f < S.length) : RB7 S f h0 0 0 [] (.slice (h0.size + 1) 0 1 1) [f] (fun _ => 0) (((frameOf h0).plus [.map []]).plus [.cells 1 1 [G f]]):=by
  have e1 : ((frameOf h0).plus [.map []]).size = h0.size + 1:=by rw [plus_size,frS]; rfl
  exact ⟨BQ.init hf,NF.init,PRT.init,⟨(Kp.plus _ _).trans (Kp.plus _ _),plus_keep _ (plus_at0 _ _ _ _ (frS h0)) (by simp),h0.size + 1,rfl,plus_at0 _ _ _ _ e1,by omega⟩⟩
def Post74 (S : List (List Nat)) (f : Nat) (h : Heap) (v : AV) (own : List AObj) : Prop:=((∀ s,¬ Rw S (s + 1) f f) → v = .nils ∧ own = []) ∧ ((∃ s,Rw S (s + 1) f f) → ∃ L m,CY S f m ∧ RG S L ∧ L.length = m + 1 ∧ RV (h.plus own) v (gn L))
theorem c74_ok (J : CallF) (h94 : ∀ a h,J 94 a h = none) (hJ : ∀ a h,J 74 a h = none) (h : Heap) (os : OkS S) (lf : LF h p S) (hf : f < S.length) : ∃ v own,CallsTo tbl J 74 [.ptr p 0 3,G f] h (v,own,false) ∧ Post74 S f h v own:=by
  have ini:=ring_init (h0:=h) hf
  have ex : ∃ E' U' d',RB7 S f h 0 0 E' (AV.slice (h.size + 1) 0 1 1) U' d' (((frameOf h).plus [.map []]).plus [.cells 1 1 [G f]]):=⟨_,_,_,ini⟩
  have e1 : ((frameOf h).plus [.map []]).size = h.size + 1:=by rw [plus_size,frS]; rfl
  have e0:=frS h
  by_cases c : ∃ s,Rw S (s + 1) f f
  · have l2:=c74_l2_r J h94 os lf.fr c S.length 0 (by omega)
    unfold OR at l2
    refine Tr.fny (cf:=c74) (e:=.ret) (s:=T.set (T.set .leaf [] (.ptr p 0 3)) [false] (G f)) (by decide) rfl (hJ _ _) rfl rfl (by simp) ?_
    have fin : ∀ h' x L m,(Kp (fun _ => False) (frameOf h) h' ∧ CY S f m ∧ RG S L ∧ L.length = m + 1 ∧ RV h' x (gn L)) → Post74 S f h (one [x]) (if (one [x]).flat then [] else h'.own):=fun h' x L m ⟨k,c1,c2,c3,c4⟩ =>
      ⟨fun n => absurd c (fun ⟨s,w⟩ => n s w),fun _ => ⟨L,m,c1,c2,c3,c4.fr k⟩⟩
    clear ini os lf hf
    refine Tr.w fun s1 H1 hp _ kR => ?_
    obtain ⟨rfl,rfl⟩:=hp
    have q : True:=trivial
    refine W.seq (W.chunk ?_)
    simp (disch:=first|omega|exact zE rfl|exact zO|exact zL rfl) [c74_o0,zG,q]
    refine W.seq (W.chunk ?_)
    simp (disch:=first|omega|exact zE rfl|exact zO|exact zL rfl) [c74_o1,zG,q]
    refine W.seq (W.chunk ?_)
    simp (disch:=first|omega|exact zE rfl|exact zO|exact zL rfl) [c74_o2,zG,q,e1]
    refine W.assoc ?_
    refine W.seq (W.chunk ?_)
    simp (disch:=first|omega|exact zE rfl|exact zO|exact zL rfl) [c74_o3,zG,q]
    refine W.seq (W.block ?_)
    refine W.use (l2) (by simp (disch:=first|omega|exact zE rfl|exact zO|exact zL rfl) [zG,q,ex,e0,e1]) fun s1 H1 hp => ?_
    try simp only [zW,if_true]
    obtain ⟨x,L,m,h1,h2⟩:=hp
    exact kR _ _ ⟨[x],by simp [T.get,c74,evRess,evRes,h2],fin _ x L m h1⟩
  · have l2:=c74_l2_n J h94 os lf.fr (fun s w => c ⟨s,w⟩) S.length 0 (by omega)
    unfold OR at l2
    have:=Tr.fnv (tbl:=tbl) (I:=J) (h:=h) (args:=[.ptr p 0 3,G f]) (v:=.nils) (cf:=c74) (e:=.ret) (s:=T.set (T.set .leaf [] (.ptr p 0 3)) [false] (G f)) (by decide) rfl (hJ _ _) rfl rfl rfl (by simp) (by
      refine Tr.post (Q:=(fun s h => s.get [true,false] = .nils)) (fun s h q => by simp [c74,q]) ?_
      clear ini os lf hf
      refine Tr.w fun s1 H1 hp _ kR => ?_
      obtain ⟨rfl,rfl⟩:=hp
      have q : True:=trivial
      refine W.seq (W.chunk ?_)
      simp (disch:=first|omega|exact zE rfl|exact zO|exact zL rfl) [c74_o0,zG,q]
      refine W.seq (W.chunk ?_)
      simp (disch:=first|omega|exact zE rfl|exact zO|exact zL rfl) [c74_o1,zG,q]
      refine W.seq (W.chunk ?_)
      simp (disch:=first|omega|exact zE rfl|exact zO|exact zL rfl) [c74_o2,zG,q,e1]
      refine W.assoc ?_
      refine W.seq (W.chunk ?_)
      simp (disch:=first|omega|exact zE rfl|exact zO|exact zL rfl) [c74_o3,zG,q]
      refine W.seq (W.block ?_)
      refine W.use (l2) (by simp (disch:=first|omega|exact zE rfl|exact zO|exact zL rfl) [zG,q,ex,e0,e1]) fun s1 H1 hp => ?_
      obtain _:=hp
      try simp only [zW,if_true]
      refine W.seq (W.chunk ?_)
      simp (disch:=first|omega|exact zE rfl|exact zO|exact zL rfl) [c74_o23,zG,q]
      refine W.ret ?_
      try simp only [zW,if_true]
      exact kR _ _ (by simp [T.get]))
    exact ⟨_,_,this,fun _ => ⟨rfl,rfl⟩,fun w => absurd w c⟩
end
structure A74 where
  p : Nat
  f : Nat
  S : List (List Nat)
def Ok74 (b : A74) (h : Heap) : Prop:=OkS b.S ∧ LF h b.p b.S ∧ b.f < b.S.length
def Pre74 (b : A74) (args : List AV) (h : Heap) : Prop:=Ok74 b h ∧ args = [.ptr b.p 0 3,G b.f]
def Po74 (b : A74) (h : Heap) (v : AV) (own : List AObj) : Prop:=Post74 b.S b.f h v own
noncomputable def T53 : CallF:=addK tbl T52 74 Pre74 Po74
theorem t53 : Sound Go.Proofs.Try.prog T53:=Sound.addK follows ok t52 (by decide) _ _
abbrev K74 (J : CallF) : Prop:=∀ (h : Heap) (p f : Nat) (S : List (List Nat)),OkS S → LF h p S → f < S.length → ∃ v own,J 74 [.ptr p 0 3,G f] h = some (v,own,false) ∧ Post74 S f h v own
theorem k74 : K74 T53:=fun h p f S os lf hf => by
  obtain ⟨v,own,e,l⟩:=addK_some (Pre:=Pre74) (Post:=Po74) (fun b args h hp => by
    obtain ⟨⟨h1,h2,h3⟩,rfl⟩:=hp
    exact c74_ok T52 (fun _ _ => by simp (disch:=decide) only [T1,T2,T3,T4,T5,T6,T7,T8,T9,T10,T11,T12,T13,T14,T15,T16,T17,T18,T19,T20,T21,T22,T23,T24,T25,T26,T27,T28,T29,T30,T31,T32,T33,T34,T35,T36,T37,T38,T39,T40,T41,T42,T43,T44,T45,T46,T47,T48,T49,T50,T51,T52,addI_ne,addX_ne,addV_ne,addK_ne]; rfl) (fun _ _ => by simp (disch:=decide) only [T1,T2,T3,T4,T5,T6,T7,T8,T9,T10,T11,T12,T13,T14,T15,T16,T17,T18,T19,T20,T21,T22,T23,T24,T25,T26,T27,T28,T29,T30,T31,T32,T33,T34,T35,T36,T37,T38,T39,T40,T41,T42,T43,T44,T45,T46,T47,T48,T49,T50,T51,T52,addI_ne,addX_ne,addV_ne,addK_ne]; rfl) h h1 h2 h3) ⟨p,f,S⟩ _ h ⟨⟨os,lf,hf⟩,rfl⟩
  exact ⟨v,own,e,l⟩
section
variable {S R : List (List Nat)} {p : Nat}
structure EB (S : List (List Nat)) (Hb : Heap) (i : Nat) (x : AV) (L : List Nat) (h : Heap) : Prop where
  kf : Kp (fun _ => False) Hb h
  mc : MC S i L.length
  xv : (x = .nils ∧ L = []) ∨ ∃ b v,x = .slice b 0 L.length v ∧ h.get b = .cells 1 v (gn L) ∧ L ≠ [] ∧ RG S L
def EP (S : List (List Nat)) (p : Nat) (Hb : Heap) (i : Nat) : SP:=fun s h => ∃ x L,EB S Hb i x L h ∧ s.get [true,true] = .ptr p 0 3 ∧ s.get [false,false,false] = x ∧ s.get [true,false,true,true] = G S.length ∧ s.get [false,true,true,true] = G i
theorem MC.le {n m : Nat} (h : MC S n m) (os : OkS S) (hn : n ≤ S.length) : m ≤ S.length:=by
  rcases h with ⟨rfl,_⟩ | ⟨r,rfl,⟨f,h1,h2⟩,h3⟩
  · omega
  · have hf : f < S.length:=by omega
    apply Decidable.byContradiction
    intro c
    have key : ∃ g : Nat → Nat,g 0 = f ∧ ∀ t,t < r + 1 → Rw S t f (g t) ∧ g t < S.length ∧ Rw S (r + 1 - t) (g t) f:=by
      have gen : ∀ k i,Rw S k i f → ∃ g : Nat → Nat,g 0 = i ∧ ∀ t,t ≤ k → Rw S t i (g t) ∧ Rw S (k - t) (g t) f:=fun k => by
        induction k with
        | zero =>
          intro i w
          exact ⟨fun _ => i,rfl,fun t ht => by
            obtain rfl : t = 0:=by omega
            exact ⟨rfl,w⟩⟩
        | succ k ih =>
          intro i w
          obtain ⟨c,c1,c2⟩:=id w
          obtain ⟨g,g1,g2⟩:=ih c c2
          refine ⟨fun t => if t = 0 then i else g (t - 1),rfl,fun t ht => ?_⟩
          cases t with
          | zero => exact ⟨rfl,w⟩
          | succ t =>
            obtain ⟨a1,a2⟩:=g2 t (by omega)
            show Rw S (t + 1) i (g t) ∧ Rw S (k + 1 - (t + 1)) (g t) f
            rw [show k + 1 - (t + 1) = k - t by omega]
            exact ⟨⟨c,c1,a1⟩,a2⟩
      obtain ⟨g,g1,g2⟩:=gen (r + 1) f h2
      exact ⟨g,g1,fun t ht => ⟨(g2 t (by omega)).1,(g2 t (by omega)).1.lt os.lt hf,(g2 t (by omega)).2⟩⟩
    obtain ⟨g,g1,g2⟩:=key
    obtain ⟨a,b,ab,bn,e⟩:=pigeon S.length g (fun t ht => (g2 t (by omega)).2.1)
    have w1:=(g2 a (by omega)).1
    have w2:=(g2 b (by omega)).2.2
    rw [← e] at w2
    have w3:=w1.add w2
    rw [show a + (r + 1 - b) = (a + (r - b)) + 1 by omega] at w3
    have:=h3 f (a + (r - b)) h1 w3
    omega
set_option maxHeartbeats 1000000 in
theorem c36_b0_ok (J : CallF) (k74 : K74 J) (os : OkS S) {Hb : Heap} (lf : LF Hb p S) {i : Nat} (hi : i < S.length) :
    Tr tbl J (.trim [[true,true],[false,false,false],[true,false,true,true],[false,true,true,true]] c36_b0) (EP S p Hb i) .normal (EP S p Hb (i + 1)):=by
  have n1:=os.n
  refine Tr.w fun s1 H1 hp R kR => W.trim ?_
  obtain ⟨x,L,eb,q⟩:=hp
  dsimp only [EP] at kR
  obtain ⟨v,own,e74,l74⟩:=k74 H1 p i S os (lf.kp eb.kf) hi
  have mle:=eb.mc.le os (by omega)
  by_cases c : ∃ s,Rw S (s + 1) i i
  · obtain ⟨L2,m,cy,rg,rl,rv⟩:=l74.2 c
    have mc2:=eb.mc.put cy
    obtain ⟨Z,hZ⟩ : ∃ Z,H1.plus own = Z:=⟨_,rfl⟩
    have kZ : Kp (fun _ => False) H1 Z:=by rw [← hZ]; exact Kp.plus _ _
    rw [hZ] at rv
    have kk:=eb.kf.trans kZ
    have ne2 : L2 ≠ []:=by intro e; rw [e] at rl; cases rl
    obtain ⟨_,e⟩ | ⟨b2,v2,rfl,g2⟩:=rv
    · exact absurd (by simpa [gn] using e) ne2
    rw [gn_len,rl] at e74
    have mc3:=mc2.le os (by omega)
    have fin : ∀ b : Bool,b = decide (L.length = 0 ∨ m + 1 < L.length) → b = true → EB S Hb (i + 1) (.slice b2 0 (m + 1) v2) L2 Z:=fun b e1 e2 => by
      rw [if_pos (by rw [e2] at e1; exact of_decide_eq_true e1.symm),← rl] at mc2
      exact ⟨kk,mc2,.inr ⟨b2,v2,by rw [rl],g2,ne2,rg⟩⟩
    have fin2 : ¬ (L.length = 0 ∨ m + 1 < L.length) → EB S Hb (i + 1) x L Z:=fun e => by
      rw [if_neg e] at mc2
      refine ⟨kk,mc2,?_⟩
      rcases eb.xv with h | ⟨b,v,h1,h2,h3⟩
      · exact .inl h
      · exact .inr ⟨b,v,h1,kZ.at h2 (by simp) id,h3⟩
    by_cases c2 : m + 1 < L.length
    · have eb2:=fin true (by rw [decide_eq_true (.inr c2)]) rfl
      obtain ⟨rfl,rfl⟩ | ⟨b1,v1,rfl,g1,ne1,rg1⟩:=eb.xv
      · simp at c2
      · clear eb fin fin2 mc2 lf l74 cy mc3
        generalize L.length = lL at *
        generalize S.length = n at *
        refine W.seq (W.chunk ?_)
        simp (disch:=first|omega|exact zE rfl|exact zO|exact zL rfl) [c36_o6,zG,q]
        refine W.seq (W.chunk ?_)
        simp (disch:=first|omega|exact zE rfl|exact zO|exact zL rfl) [zG,q]
        refine W.seq (W.block ?_)
        refine W.seq (W.chunk ?_)
        simp (disch:=first|omega|exact zE rfl|exact zO|exact zL rfl) [c36_o7,zG,q]
        refine W.seq (W.chunk ?_)
        simp (disch:=first|omega|exact zE rfl|exact zO|exact zL rfl) [c36_o8,zG,q,e74,app_if,app_if',hZ]
        refine W.seq (W.chunk ?_)
        simp (disch:=first|omega|exact zE rfl|exact zO|exact zL rfl) [c36_o9,zG,q]
        refine W.chunk ?_
        simp (disch:=first|omega|exact zE rfl|exact zO|exact zL rfl) [c36_o10,zG,q]
        refine W.chunk ?_
        simp (disch:=first|omega|exact zE rfl|exact zO|exact zL rfl) [c36_o11,zG,q]
        exact kR _ _ ⟨_,_,eb2,by simp [T.get,q]⟩
    · obtain ⟨rfl,rfl⟩ | ⟨b1,v1,rfl,g1,ne1,rg1⟩:=eb.xv
      · have eb2:=fin true (by rw [decide_eq_true (.inl rfl)]) rfl
        clear eb fin fin2 mc2 lf l74 cy mc3
        generalize S.length = n at *
        refine W.seq (W.chunk ?_)
        simp (disch:=first|omega|exact zE rfl|exact zO|exact zL rfl) [c36_o6,zG,q]
        refine W.seq (W.chunk ?_)
        simp (disch:=first|omega|exact zE rfl|exact zO|exact zL rfl) [zG,q]
        refine W.seq (W.block ?_)
        refine W.seq (W.chunk ?_)
        simp (disch:=first|omega|exact zE rfl|exact zO|exact zL rfl) [c36_o7,zG,q]
        refine W.seq (W.chunk ?_)
        simp (disch:=first|omega|exact zE rfl|exact zO|exact zL rfl) [c36_o8,zG,q,e74,app_if,app_if',hZ]
        refine W.seq (W.chunk ?_)
        simp (disch:=first|omega|exact zE rfl|exact zO|exact zL rfl) [c36_o9,zG,q]
        refine W.chunk ?_
        simp (disch:=first|omega|exact zE rfl|exact zO|exact zL rfl) [c36_o10,zG,q]
        refine W.chunk ?_
        simp (disch:=first|omega|exact zE rfl|exact zO|exact zL rfl) [c36_o11,zG,q]
        exact kR _ _ ⟨_,_,eb2,by simp [T.get,q]⟩
      · have nl : L.length ≠ 0:=fun e => ne1 (List.length_eq_zero_iff.1 e)
        have eb2:=fin2 (by omega)
        clear eb fin fin2 mc2 lf l74 cy mc3
        generalize hlL : L.length = lL at *
        generalize S.length = n at *
        refine W.seq (W.chunk ?_)
        simp (disch:=first|omega|exact zE rfl|exact zO|exact zL rfl) [c36_o6,zG,q]
        refine W.seq (W.chunk ?_)
        simp (disch:=first|omega|exact zE rfl|exact zO|exact zL rfl) [zG,q]
        refine W.seq (W.block ?_)
        refine W.seq (W.chunk ?_)
        simp (disch:=first|omega|exact zE rfl|exact zO|exact zL rfl) [c36_o7,zG,q]
        refine W.seq (W.chunk ?_)
        simp (disch:=first|omega|exact zE rfl|exact zO|exact zL rfl) [c36_o8,zG,q,e74,app_if,app_if',hZ]
        refine W.seq (W.chunk ?_)
        simp (disch:=first|omega|exact zE rfl|exact zO|exact zL rfl) [c36_o9,zG,q]
        refine W.chunk ?_
        simp (disch:=first|omega|exact zE rfl|exact zO|exact zL rfl) [c36_o10,zG,q]
        refine W.chunk ?_
        simp (disch:=first|omega|exact zE rfl|exact zO|exact zL rfl) [c36_o11,zG,q]
        exact kR _ _ ⟨_,_,eb2,by simp [T.get,q]⟩
  · have nc : ∀ s,¬ Rw S (s + 1) i i:=fun s w => c ⟨s,w⟩
    obtain ⟨rfl,rfl⟩:=l74.1 nc
    have eb2 : EB S Hb (i + 1) x L H1:=⟨eb.kf,eb.mc.skip nc,eb.xv⟩
    have hZ : H1.plus [] = H1:=by simp [Heap.plus]
    clear eb l74 lf c nc
    generalize S.length = n at *
    refine W.seq (W.chunk ?_)
    simp (disch:=first|omega|exact zE rfl|exact zO|exact zL rfl) [c36_o6,zG,q]
    refine W.seq (W.chunk ?_)
    simp (disch:=first|omega|exact zE rfl|exact zO|exact zL rfl) [zG,q]
    refine W.seq (W.block ?_)
    refine W.seq (W.chunk ?_)
    simp (disch:=first|omega|exact zE rfl|exact zO|exact zL rfl) [c36_o7,zG,q]
    refine W.seq (W.chunk ?_)
    simp (disch:=first|omega|exact zE rfl|exact zO|exact zL rfl) [c36_o8,zG,q,e74,app_if,app_if',hZ]
    refine W.seq (W.chunk ?_)
    simp (disch:=first|omega|exact zE rfl|exact zO|exact zL rfl) [c36_o9,zG,q]
    refine W.chunk ?_
    simp (disch:=first|omega|exact zE rfl|exact zO|exact zL rfl) [c36_o10,zG,q]
    refine W.chunk ?_
    simp (disch:=first|omega|exact zE rfl|exact zO|exact zL rfl) [c36_o11,zG,q]
    exact kR _ _ ⟨_,_,eb2,by simp [T.get,q]⟩
theorem c36_l0_ok (J : CallF) (k74 : K74 J) (os : OkS S) {Hb : Heap} (lf : LF Hb p S) : Tr tbl J c36_l0 (EP S p Hb 0) (.exit 0) (fun s h => ∃ x L,EB S Hb S.length x L h ∧ s.get [true,true] = .ptr p 0 3 ∧ s.get [false,false,false] = x):=by
  refine Tr.rounds (P:=EP S p Hb) (M:=S.length) (fun i hi => c36_b0_ok J k74 os lf hi) ?_ (by simp) 0 (by omega)
  refine Tr.w fun s1 H1 hp R kR => W.trim ?_
  obtain ⟨x,L,eb,q⟩:=hp
  have n1:=os.n
  clear lf
  generalize hnl : S.length = n at *
  refine W.seq (W.chunk ?_)
  simp (disch:=first|omega|exact zE rfl|exact zO|exact zL rfl) [c36_o6,zG,q]
  refine W.seq (W.chunk ?_)
  simp (disch:=first|omega|exact zE rfl|exact zO|exact zL rfl) [zG,q]
  exact kR _ _ ⟨x,L,eb,by simp [T.get,q]⟩
def rT2 (R : List (List Nat)) (L : List Nat) : List (List Nat):=L.map fun c => R.getD c []
theorem c36_l1_ok (J : CallF) {Hb : Heap} {nx0 : AV} {mb bx vx b v : Nat} (f1 : Hb.get p = .cells 0 3 [.slice bx 0 R.length vx,.map mb,nx0]) (gx : Hb.get bx = .cells 1 vx (wsL R)) {L : List Nat} (gL : Hb.get b = .cells 1 v (gn L)) (hL : ∀ c ∈ L,c < R.length) (lL : L.length ≤ 1000) (lR : R.length ≤ 1000) :
    Tr tbl J c36_l1 (fun s h => ∃ z,NV Hb h z (wsL (rT2 R (L.take 0))) ∧ s.get [true,true] = .ptr p 0 3 ∧ s.get [true,true,false] = z ∧ s.get [true,false,true,false,true] = .slice b 0 L.length v ∧ s.get [false,true,true,false,true] = G L.length ∧ s.get [true,true,true,false,true] = G ((0 : Nat) : Int)) (.exit 2) (fun s h => ∃ z,NV Hb h z (wsL (rT2 R L)) ∧ s.get [true,true,false] = z):=by
  refine Tr.rounds (P:=fun t s h => ∃ z,NV Hb h z (wsL (rT2 R (L.take t))) ∧ s.get [true,true] = .ptr p 0 3 ∧ s.get [true,true,false] = z ∧ s.get [true,false,true,false,true] = .slice b 0 L.length v ∧ s.get [false,true,true,false,true] = G L.length ∧ s.get [true,true,true,false,true] = G t) (M:=L.length) (fun t ht => ?_) ?_ (by simp) 0 (by omega)
  · refine Tr.w fun s1 H1 hp _ kR => W.trim ?_
    obtain ⟨z,nv,q⟩:=hp
    have f1':=nv.k.at f1 (by simp) id
    have gx':=nv.k.at gx (by simp) id
    have gL':=nv.k.at gL (by simp) id
    have ec:=gn_at ht
    have ec':=getI ec
    have hc:=hL _ (gD_mem ht)
    have ew:=wsL_at (R:=R) hc
    have ew':=getI ew
    have lw:=wsL_len R
    have lg : (gn L).length = L.length:=gn_len L
    obtain ⟨x1,e,H2,q1,q2,nv2,q4⟩:=nv.app H1.size 16 (.str (stW (R.getD (L.getD t 0) []))) (by rw [wsL_len,rT2,List.length_map,List.length_take]; omega)
    rw [← wsL_app] at nv2
    have e2 : rT2 R (L.take t) ++ [R.getD (L.getD t 0) []] = rT2 R (L.take (t + 1)):=by
      rw [take_s (gD_some ht)]
      unfold rT2
      rw [List.map_append]; rfl
    rw [e2] at nv2
    have ap:=app1_at H1 (.str (stW (R.getD (L.getD t 0) [])))
    clear nv e2 hL
    generalize stW (R.getD (L.getD t 0) []) = w at *
    generalize L.getD t 0 = c at *
    generalize wsL (rT2 R (L.take t)) = ww at *
    generalize hl : L.length = l at *
    generalize wsL R = wr at *
    generalize R.length = n at *
    generalize gn L = gl at *
    refine W.seq (W.chunk ?_)
    simp (disch:=first|omega|exact zE rfl|exact zO|exact zL rfl) [c36_o16,zG,q]
    refine W.seq (W.chunk ?_)
    simp (disch:=first|omega|exact zE rfl|exact zO|exact zL rfl) [zG,q]
    refine W.seq (W.block ?_)
    refine W.seq (W.chunk ?_)
    simp (disch:=first|omega|exact zE rfl|exact zO|exact zL rfl) [c36_o17,zG,q,gL',ec,ec',lg]
    refine W.chunk ?_
    simp (disch:=first|omega|exact zE rfl|exact zO|exact zL rfl) [c36_o18,zG,q,f1',gx',ew,ew',lw,elems,rdOf,ap,q1,q2]
    refine W.chunk ?_
    simp (disch:=first|omega|exact zE rfl|exact zO|exact zL rfl) [c36_o19,zG,q]
    exact kR _ _ ⟨_,nv2,by simp [T.get,q]⟩
  · refine Tr.w fun s1 H1 hp _ kR => W.trim ?_
    obtain ⟨z,nv,q⟩:=hp
    rw [List.take_length] at nv
    clear f1 gx gL hL
    generalize L.length = l at *
    refine W.seq (W.chunk ?_)
    simp (disch:=first|omega|exact zE rfl|exact zO|exact zL rfl) [c36_o16,zG,q]
    refine W.seq (W.chunk ?_)
    simp (disch:=first|omega|exact zE rfl|exact zO|exact zL rfl) [zG,q]
    exact kR _ _ ⟨_,nv,by simp [T.get,q]⟩
end
def Post36 (a : AR) (m : Int) (h : Heap) (v : AV) (own : List AObj) : Prop :=
  (a.rm m = false → v = .tup [.nils,G 2] ∧ own = []) ∧
  (a.rm m = true → MC (a.steps m) (a.steps m).length 0 → v = .tup [.nils,G 6] ∧ own = []) ∧
  (a.rm m = true → ¬ MC (a.steps m) (a.steps m).length 0 → ∃ x L,v = .tup [x,G 0] ∧ L ≠ [] ∧ MC (a.steps m) (a.steps m).length L.length ∧ RG (a.steps m) L ∧ RV (h.plus own) x (wsL (rT2 (a.rows m) L)))
section
variable {a : AR} {m : Int}
theorem c36_0 (J : CallF) (k57 : KR 57 J) (k60 : K60 J) (hJ : ∀ a h,J 36 a h = none) (h : Heap) (o : OkR a h) (g : a.rm m = false) : CallsTo tbl J 36 [a.v,G m] h (.tup [.nils,G 2],[],false):=by
  refine Tr.fnv (cf:=c36) (e:=.ret) (s:=T.set (T.set .leaf [] a.v) [false] (G m)) (by decide) rfl (hJ _ _) rfl rfl rfl (by simp) ?_
  obtain ⟨k1,k2⟩:=rs_pre (m:=m) J k57 k60 o
  refine Tr.post (Q:=(fun s h => s.get [true,false] = .nils ∧ s.get [false,true] = G 2)) (fun s h q => by simp [c36,q]) ?_
  unfold AR.rm at g
  generalize a.ru = b1 at *
  generalize decide (1 ≤ m ∧ m ≤ 5) = b2 at *
  refine Tr.w fun s1 H1 hp _ kR => ?_
  obtain ⟨rfl,rfl⟩:=hp
  have q : True:=trivial
  cases b1
  · refine W.seq (W.chunk ?_)
    simp (disch:=first|omega|exact zE rfl|exact zO|exact zL rfl) [c36_o0,size_mk,get_mk_lt,get_mk_ge,frameOf,Eff.app,Heap.setOwn,q]
    refine W.assoc ?_
    refine W.seq (W.chunk ?_)
    simp (disch:=first|omega|exact zE rfl|exact zO|exact zL rfl) [c36_o1,size_mk,get_mk_lt,get_mk_ge,frameOf,Eff.app,Heap.setOwn,q,k1,k2]
    refine W.seq (W.chunk ?_)
    simp (disch:=first|omega|exact zE rfl|exact zO|exact zL rfl) [c36_o2,size_mk,get_mk_lt,get_mk_ge,frameOf,Eff.app,Heap.setOwn,q]
    exact kR _ _ (by simp [T.get])
  · have : b2 = false:=by simpa using g
    subst this
    refine W.seq (W.chunk ?_)
    simp (disch:=first|omega|exact zE rfl|exact zO|exact zL rfl) [c36_o0,size_mk,get_mk_lt,get_mk_ge,frameOf,Eff.app,Heap.setOwn,q]
    refine W.assoc ?_
    refine W.seq (W.chunk ?_)
    simp (disch:=first|omega|exact zE rfl|exact zO|exact zL rfl) [c36_o1,size_mk,get_mk_lt,get_mk_ge,frameOf,Eff.app,Heap.setOwn,q,k1,k2]
    refine W.seq (W.chunk ?_)
    simp (disch:=first|omega|exact zE rfl|exact zO|exact zL rfl) [c36_o2,size_mk,get_mk_lt,get_mk_ge,frameOf,Eff.app,Heap.setOwn,q]
    exact kR _ _ (by simp [T.get])
set_option maxHeartbeats 1000000 in
theorem c36_1 (J : CallF) (k57 : KR 57 J) (k60 : K60 J) (k61 : K61 J) (k74 : K74 J) (hJ : ∀ a h,J 36 a h = none) (h : Heap) (o : OkR a h) (g : a.rm m = true) : ∃ v own,CallsTo tbl J 36 [a.v,G m] h (v,own,false) ∧ Post36 a m h v own:=by
  obtain ⟨r1,r2⟩:=a.rm_iff g
  obtain ⟨os,s243,sr⟩:=AR.steps_ok g
  obtain ⟨k1,k2⟩:=rs_pre (m:=m) J k57 k60 o
  rw [r1] at k1
  rw [decide_eq_true r2] at k2
  obtain ⟨Hs,hHs⟩ : ∃ H,(⟨h.get,h.size,[.cells 0 3 [G a.q,a.x,a.y]]⟩ : Heap) = H:=⟨_,rfl⟩
  have kHs : Kp (fun _ => False) (frameOf h) Hs:=by rw [← hHs]; exact Kp.plus (frameOf h) [.cells 0 3 [G a.q,a.x,a.y]]
  rw [hHs] at k1 k2
  have oH : OkR a Hs:=by rw [← hHs]; exact o.lo _
  have gS : Hs.get h.size = .cells 0 3 [G a.q,a.x,a.y]:=by rw [← hHs,get_mk_ge _ _ _ _ (Nat.le_refl _),Nat.sub_self]; rfl
  obtain ⟨p,own,e61,lm⟩:=k61 Hs a.g m.toNat (oH.g r1) (by omega)
  rw [a.gv r1,show ((m.toNat : Nat) : Int) = m by omega] at e61
  obtain ⟨Z,hZ⟩ : ∃ Z,Hs.plus own = Z:=⟨_,rfl⟩
  have kZ : Kp (fun _ => False) Hs Z:=by rw [← hZ]; exact Kp.plus _ _
  rw [hZ] at lm
  have lf : LF Z p (a.steps m):=lm.lf
  have l0:=c36_l0_ok J k74 os lf
  unfold EP at l0
  obtain ⟨x0,mb,nb,rs,f1,rx,_⟩:=lm
  have hrw : rwL a.g.q a.g.B m.toNat = a.rows m:=rfl
  rw [hrw] at f1 rx
  have sx:=rx.sl
  rw [wsL_len] at sx
  have ex : EB (a.steps m) Z 0 .nils [] Z:=⟨Kp.refl _,MC.nil,.inl ⟨rfl,rfl⟩⟩
  have ex : ∃ x,(∃ L,EB (a.steps m) Z 0 x L Z) ∧ AV.nils = x:=⟨_,⟨[],ex⟩,rfl⟩
  have k0:=kHs.trans kZ
  by_cases c0 : MC (a.steps m) (a.steps m).length 0
  · have fin : ∀ x L H,EB (a.steps m) Z (a.steps m).length x L H → x = .nils:=fun x L H eb => by
      have:=c0.uniq eb.mc
      rcases eb.xv with ⟨h,_⟩ | ⟨_,_,_,_,h,_⟩
      · exact h
      · exact absurd (List.length_eq_zero_iff.1 this.symm) h
    have : CallsTo tbl J 36 [a.v,G m] h (.tup [.nils,G 6],[],false):=by
      refine Tr.fnv (cf:=c36) (e:=.ret) (s:=T.set (T.set .leaf [] a.v) [false] (G m)) (by decide) rfl (hJ _ _) rfl rfl rfl (by simp) ?_
      refine Tr.post (Q:=(fun s h => s.get [true,false] = .nils ∧ s.get [false,true] = G 6)) (fun s h q => by simp [c36,q]) ?_
      clear os oH o lf rx c0 hrw
      rw [sr] at *
      generalize (a.rows m).length = n at *
      rcases sx with ⟨rfl,e0⟩ | ⟨b1,v1,rfl⟩
      all_goals
        try subst e0
        refine Tr.w fun s1 H1 hp _ kR => ?_
        obtain ⟨rfl,rfl⟩:=hp
        have q : True:=trivial
        refine W.seq (W.chunk ?_)
        simp (disch:=first|omega|exact zE rfl|exact zO|exact zL rfl) [c36_o0,size_mk,get_mk_lt,get_mk_ge,frameOf,Eff.app,Heap.setOwn,q,hHs]
        refine W.assoc ?_
        refine W.seq (W.chunk ?_)
        simp (disch:=first|omega|exact zE rfl|exact zO|exact zL rfl) [c36_o1,zG,q,k1,k2,gS]
        refine W.seq (W.chunk ?_)
        simp (disch:=first|omega|exact zE rfl|exact zO|exact zL rfl) [c36_o2,zG,q]
        refine W.seq (W.chunk ?_)
        simp (disch:=first|omega|exact zE rfl|exact zO|exact zL rfl) [c36_o3,zG,q,gS,e61,app_if,app_if',hZ]
        refine W.seq (W.chunk ?_)
        simp (disch:=first|omega|exact zE rfl|exact zO|exact zL rfl) [c36_o4,zG,q]
        refine W.assoc ?_
        refine W.seq (W.chunk ?_)
        simp (disch:=first|omega|exact zE rfl|exact zO|exact zL rfl) [c36_o5,zG,q,f1]
        refine W.seq (W.block ?_)
        refine W.use (l0) (by simp (disch:=first|omega|exact zE rfl|exact zO|exact zL rfl) [zG,q,ex]) fun s1 H1 hp => ?_
        obtain ⟨x9,L9,eb,q⟩:=hp
        try simp only [zW,if_true]
        refine W.assoc ?_
        have e9:=fin _ _ _ eb
        refine W.seq (W.chunk ?_)
        simp (disch:=first|omega|exact zE rfl|exact zO|exact zL rfl) [c36_o12,zG,q,e9]
        refine W.seq (W.chunk ?_)
        simp (disch:=first|omega|exact zE rfl|exact zO|exact zL rfl) [c36_o13,zG,q]
        exact kR _ _ (by simp [T.get])
    exact ⟨_,_,this,fun e => (by rw [g] at e; cases e),fun _ _ => ⟨rfl,rfl⟩,fun _ e => absurd c0 e⟩
  · have fin : ∀ x L H,EB (a.steps m) Z (a.steps m).length x L H → ∃ b v,x = .slice b 0 L.length v ∧ H.get b = .cells 1 v (gn L) ∧ L ≠ [] ∧ RG (a.steps m) L ∧ L.length ≤ 243 ∧ MC (a.steps m) (a.steps m).length L.length ∧ Kp (fun _ => False) Z H:=fun x L H eb => by
      rcases eb.xv with ⟨_,rfl⟩ | ⟨b,v,h1,h2,h3,h4⟩
      · exact absurd eb.mc c0
      · exact ⟨b,v,h1,h2,h3,h4,Nat.le_trans (eb.mc.le os (Nat.le_refl _)) s243,eb.mc,eb.kf⟩
    have n0 : (a.rows m).length ≠ 0:=fun e => c0 (by rw [sr,e]; exact MC.nil)
    obtain ⟨bx,vx,rfl⟩:=sx.resolve_left (fun e => n0 e.2)
    obtain ⟨e,_⟩ | ⟨bx',vx',e,gx⟩:=rx
    · cases e
    rw [wsL_len] at e
    simp only [AV.slice.injEq,true_and] at e
    obtain ⟨rfl,rfl⟩:=e
    have post : ∀ x L H,EB (a.steps m) Z (a.steps m).length x L H → ∃ b v,x = .slice b 0 L.length v ∧ L.length ≤ 243 ∧ Tr tbl J c36_l1 (fun s h => ∃ z,NV H h z (wsL (rT2 (a.rows m) (L.take 0))) ∧ s.get [true,true] = .ptr p 0 3 ∧ s.get [true,true,false] = z ∧ s.get [true,false,true,false,true] = .slice b 0 L.length v ∧ s.get [false,true,true,false,true] = G L.length ∧ s.get [true,true,true,false,true] = G ((0 : Nat) : Int)) (.exit 2) (fun s h => ∃ z,NV H h z (wsL (rT2 (a.rows m) L)) ∧ s.get [true,true,false] = z) ∧
        ∀ z h',NV H h' z (wsL (rT2 (a.rows m) L)) → Post36 a m h (.tup [z,G 0]) (if (one [z]).flat then [] else h'.own):=fun x L H eb => by
      obtain ⟨b,v,e1,e2,e3,e4,e5,e6,e7⟩:=fin x L H eb
      refine ⟨b,v,e1,e5,c36_l1_ok (R:=a.rows m) (nx0:=.slice nb 0 (a.rows m).length (a.rows m).length) J (e7.at f1 (by simp) id) (e7.at gx (by simp) id) e2 (fun c hc => by rw [← sr]; exact e4.1 c hc) (by omega) (by rw [← sr]; exact os.n),fun z h' nv => ⟨fun e => (by rw [g] at e; cases e),fun _ e => absurd e c0,fun _ _ => ⟨z,L,rfl,e3,e6,e4,nv.rv.fr ((k0.trans e7).trans nv.k)⟩⟩⟩
    refine Tr.fny (cf:=c36) (e:=.ret) (s:=T.set (T.set .leaf [] a.v) [false] (G m)) (by decide) rfl (hJ _ _) rfl rfl (by simp) ?_
    clear os oH o lf fin c0 gx hrw
    rw [sr] at *
    generalize (a.rows m).length = n at *
    refine Tr.w fun s1 H1 hp _ kR => ?_
    obtain ⟨rfl,rfl⟩:=hp
    have q : True:=trivial
    refine W.seq (W.chunk ?_)
    simp (disch:=first|omega|exact zE rfl|exact zO|exact zL rfl) [c36_o0,size_mk,get_mk_lt,get_mk_ge,frameOf,Eff.app,Heap.setOwn,q,hHs]
    refine W.assoc ?_
    refine W.seq (W.chunk ?_)
    simp (disch:=first|omega|exact zE rfl|exact zO|exact zL rfl) [c36_o1,zG,q,k1,k2,gS]
    refine W.seq (W.chunk ?_)
    simp (disch:=first|omega|exact zE rfl|exact zO|exact zL rfl) [c36_o2,zG,q]
    refine W.seq (W.chunk ?_)
    simp (disch:=first|omega|exact zE rfl|exact zO|exact zL rfl) [c36_o3,zG,q,gS,e61,app_if,app_if',hZ]
    refine W.seq (W.chunk ?_)
    simp (disch:=first|omega|exact zE rfl|exact zO|exact zL rfl) [c36_o4,zG,q]
    refine W.assoc ?_
    refine W.seq (W.chunk ?_)
    simp (disch:=first|omega|exact zE rfl|exact zO|exact zL rfl) [c36_o5,zG,q,f1]
    refine W.seq (W.block ?_)
    refine W.use (l0) (by simp (disch:=first|omega|exact zE rfl|exact zO|exact zL rfl) [zG,q,ex]) fun s1 H1 hp => ?_
    obtain ⟨x9,L9,eb,q⟩:=hp
    try simp only [zW,if_true]
    refine W.assoc ?_
    obtain ⟨b9,v9,rfl,l9,l1,pst⟩:=post _ _ _ eb
    refine W.seq (W.chunk ?_)
    simp (disch:=first|omega|exact zE rfl|exact zO|exact zL rfl) [c36_o12,zG,q]
    refine W.seq (W.chunk ?_)
    simp (disch:=first|omega|exact zE rfl|exact zO|exact zL rfl) [c36_o13,zG,q]
    have nv0 : NV H1 H1 .nils (wsL (rT2 (a.rows m) [])):=NV.nil H1
    refine W.seq (W.chunk ?_)
    simp (disch:=first|omega|exact zE rfl|exact zO|exact zL rfl) [c36_o14,zG,q]
    refine W.assoc ?_
    refine W.seq (W.chunk ?_)
    simp (disch:=first|omega|exact zE rfl|exact zO|exact zL rfl) [c36_o15,zG,q]
    refine W.seq (W.block ?_)
    refine W.use (l1) (by simp (disch:=first|omega|exact zE rfl|exact zO|exact zL rfl) [zG,q,nv0]) fun s1 H1 hp => ?_
    obtain ⟨z9,nv9,q⟩:=hp
    try simp only [zW,if_true]
    refine W.seq (W.chunk ?_)
    simp (disch:=first|omega|exact zE rfl|exact zO|exact zL rfl) [c36_o20,zG,q]
    refine W.ret ?_
    try simp only [zW,if_true]
    refine kR _ _ ?_
    refine ⟨[z9,G 0],by simp [T.get,c36,evRess,evRes,q],?_⟩
    rw [show (one [z9,G 0]).flat = (one [z9]).flat from by simp [one,AV.flat,AV.flats]]
    exact pst _ _ nv9
end
def Po36 (b : ARm) (h : Heap) (v : AV) (own : List AObj) : Prop:=Post36 b.a b.m h v own
noncomputable def T54 : CallF:=addK tbl T53 36 PreRm Po36
theorem t54 : Sound Go.Proofs.Try.prog T54:=Sound.addK follows ok t53 (by decide) _ _
abbrev K36 (J : CallF) : Prop:=∀ (h : Heap) (a : AR) (m : Int),OkR a h → ∃ v own,J 36 [a.v,G m] h = some (v,own,false) ∧ Post36 a m h v own
theorem k57_53 : KR 57 T53:=fun h a o => by
  rw [show T53 57 [.agg [G a.q,a.x,a.y]] h = T10 57 [.agg [G a.q,a.x,a.y]] h from by simp (disch:=decide) only [T11,T12,T13,T14,T15,T16,T17,T18,T19,T20,T21,T22,T23,T24,T25,T26,T27,T28,T29,T30,T31,T32,T33,T34,T35,T36,T37,T38,T39,T40,T41,T42,T43,T44,T45,T46,T47,T48,T49,T50,T51,T52,T53,addI_ne,addX_ne,addV_ne,addK_ne]]; exact k57 h a o
theorem k60_53 : K60 T53:=fun n lo hi h => by
  simp (disch:=decide) only [T1,T2,T3,T4,T5,T6,T7,T8,T9,T10,T11,T12,T13,T14,T15,T16,T17,T18,T19,T20,T21,T22,T23,T24,T25,T26,T27,T28,T29,T30,T31,T32,T33,T34,T35,T36,T37,T38,T39,T40,T41,T42,T43,T44,T45,T46,T47,T48,T49,T50,T51,T52,T53,addI_ne,addX_ne,addV_ne,addK_ne]
  exact k60 n lo hi h
theorem k61_53 : K61 T53:=fun h a m o m5 => by
  obtain ⟨p,own,e,l⟩:=k61 h a m o m5
  exact ⟨p,own,by rw [show T53 61 [a.v,G m] h = T18 61 [a.v,G m] h from by simp (disch:=decide) only [T19,T20,T21,T22,T23,T24,T25,T26,T27,T28,T29,T30,T31,T32,T33,T34,T35,T36,T37,T38,T39,T40,T41,T42,T43,T44,T45,T46,T47,T48,T49,T50,T51,T52,T53,addI_ne,addX_ne,addV_ne,addK_ne]]; exact e,l⟩
theorem k36 : K36 T54:=fun h a m o => by
  obtain ⟨v,own,e,l⟩:=addK_some (Pre:=PreRm) (Post:=Po36) (fun b args h hp => by
    obtain ⟨o,rfl⟩:=hp
    cases g : b.a.rm b.m
    · have:=c36_0 T53 k57_53 k60_53 (fun _ _ => by simp (disch:=decide) only [T1,T2,T3,T4,T5,T6,T7,T8,T9,T10,T11,T12,T13,T14,T15,T16,T17,T18,T19,T20,T21,T22,T23,T24,T25,T26,T27,T28,T29,T30,T31,T32,T33,T34,T35,T36,T37,T38,T39,T40,T41,T42,T43,T44,T45,T46,T47,T48,T49,T50,T51,T52,T53,addI_ne,addX_ne,addV_ne,addK_ne]; rfl) h o g
      exact ⟨_,_,this,fun _ => ⟨rfl,rfl⟩,fun e => (by rw [g] at e; cases e),fun e => (by rw [g] at e; cases e)⟩
    · exact c36_1 T53 k57_53 k60_53 k61_53 k74 (fun _ _ => by simp (disch:=decide) only [T1,T2,T3,T4,T5,T6,T7,T8,T9,T10,T11,T12,T13,T14,T15,T16,T17,T18,T19,T20,T21,T22,T23,T24,T25,T26,T27,T28,T29,T30,T31,T32,T33,T34,T35,T36,T37,T38,T39,T40,T41,T42,T43,T44,T45,T46,T47,T48,T49,T50,T51,T52,T53,addI_ne,addX_ne,addV_ne,addK_ne]; rfl) h o g) ⟨a,m⟩ _ h ⟨o,rfl⟩
  exact ⟨v,own,e,l⟩
def bb (p : Nat → Bool) (n : Nat) : List AV:=(List.range n).map fun i => .bool (p i)
theorem bb_len (p : Nat → Bool) (n : Nat) : (bb p n).length = n:=by simp [bb]
theorem bb_at (p : Nat → Bool) {n i : Nat} (h : i < n) : (bb p n)[i]? = some (.bool (p i)):=by
  unfold bb
  rw [List.getElem?_map,List.getElem?_range h]; rfl
theorem bb_ext {p r : Nat → Bool} {n : Nat} (h : ∀ t,t < n → p t = r t) : bb p n = bb r n:=by
  unfold bb
  apply List.map_congr_left
  intro t ht
  rw [h t (List.mem_range.1 ht)]
theorem bb_set (p : Nat → Bool) {n i : Nat} (h : i < n) (v : Bool) : (bb p n).set i (.bool v) = bb (fun t => if t = i then v else p t) n:=by
  apply List.ext_getElem?
  intro j
  by_cases hj : j < n
  · rw [bb_at _ hj]
    by_cases e : i = j
    · subst e
      rw [List.getElem?_set_self (by rw [bb_len]; exact h),if_pos rfl]
    · rw [List.getElem?_set_ne e,bb_at _ hj,if_neg (fun h => e h.symm)]
  · rw [List.getElem?_eq_none (by rw [List.length_set,bb_len]; omega),List.getElem?_eq_none (by rw [bb_len]; omega)]
structure BB (Hk h : Heap) (b n : Nat) (p : Nat → Bool) : Prop where
  kp : Kp (fun _ => False) Hk h
  g : h.get b = .cells 1 n (bb p n)
theorem BB.put {Hk h : Heap} {b n : Nat} {p : Nat → Bool} (t : BB Hk h b n p) (hb : Hk.size ≤ b) (hN : Hk.N ≤ b) {i : Nat} (hi : i < n) (v : Bool) : ∃ H,Eff.app (.put b n i [.bool v]) h = some H ∧ BB Hk H b n (fun t => if t = i then v else p t):=by
  have hNh : h.N ≤ b:=by rw [t.kp.N]; exact hN
  refine ⟨_,put_gen h b n i 1 _ _ hNh t.g (by rw [bb_len]; show i + 1 ≤ n; omega),t.kp.updn b _ hNh hb,?_⟩
  rw [upd_same _ _ _ hNh (get_lt t.g (by simp))]
  simp only [putAt]
  rw [bb_set _ hi]
theorem BB.ext {Hk h : Heap} {b n : Nat} {p r : Nat → Bool} (t : BB Hk h b n p) (e : ∀ u,u < n → p u = r u) : BB Hk h b n r:=⟨t.kp,by rw [← bb_ext e]; exact t.g⟩
section
variable {S : List (List Nat)}
def nq (S : List (List Nat)) (p : Nat → Bool) (i t u : Nat) : Bool:=if u < i then (S.getD u []).any p else if u = i then ((S.getD i []).take t).any p else false
end
section
variable {S : List (List Nat)}
def ex7 (S : List (List Nat)) (L : Nat) : Bool:=(List.range S.length).any (al S L)
def L9 (Hb : Heap) (S : List (List Nat)) (x : AV) (L : Nat) : SP:=fun s h => ∃ bc,(Kp (fun _ => False) Hb h ∧ h.get bc = .cells 1 S.length (bb (al S L) S.length)) ∧ s.get [false,true] = x ∧ s.get [true,true] = G S.length ∧ s.get [false,false,false] = .slice bc 0 S.length S.length ∧ s.get [false,true,false] = .bool (ex7 S L) ∧ s.get [true,true,false] = G L
end
section
variable {a : AR} {m : Int}
end
def Pre37 (b : ARm) (args : List AV) (h : Heap) : Prop:=(OkR b.a h ∧ b.a.rm b.m = true) ∧ args = [b.a.v,G b.m]
def Post37 (b : ARm) (h : Heap) (v : AV) (own : List AObj) : Prop:=v = G (lsV (b.a.steps b.m)) ∧ own = []
noncomputable def T55 : CallF:=addK tbl T54 37 Pre37 Post37
theorem t55 : Sound Go.Proofs.Try.prog T55:=Sound.addK follows ok t54 (by decide) _ _
end Go.Proofs.Ytljgfdamdcikgaa.Ev
set_option linter.unusedVariables false
set_option linter.unusedSimpArgs false
namespace Go.Proofs.Ytljgfdamdcikgaa.Ev
open Go Go.AEv
section
variable {S : List (List Nat)} {f k t u : Nat} {d : Nat → Nat} {U : List Nat}
theorem cy_ex : (∃ s,Rw S (s + 1) f f) → ∃ m,CY S f m:=by
  rintro ⟨s,w⟩
  induction s using Nat.strongRecOn with
  | _ s ih =>
    by_cases c : ∃ r,r < s ∧ Rw S (r + 1) f f
    · obtain ⟨r,h1,h2⟩:=c
      exact ih r h1 h2
    · refine ⟨s,w,fun r hr => ?_⟩
      apply Decidable.byContradiction
      intro h
      exact c ⟨r,by omega,hr⟩
structure O8 (S : List (List Nat)) (f : Nat) (d : Nat → Nat) (U : List Nat) (k t M o : Nat) : Prop where
  v : o = M ∨ ∃ i,i ∈ U ∧ o = d i + 1 ∧ f ∈ S.getD i []
  c : ∀ (j i : Nat),j < k → U[j]? = some i → f ∈ S.getD i [] → o ≠ 0 ∧ o ≤ d i + 1
  n : ∀ i,U[k]? = some i → f ∈ (S.getD i []).take t → o ≠ 0 ∧ o ≤ d i + 1
  m : M ≠ 0 → o ≠ 0 ∧ o ≤ M
theorem O8.init (M : Nat) : O8 S f d U 0 0 M M:=⟨.inl rfl,fun j i h => absurd h (by omega),fun i _ h => by simp at h,fun h => ⟨h,Nat.le_refl _⟩⟩
theorem O8.skip {M o c : Nat} (l : O8 S f d U k t M o) (hu : U[k]? = some u) (hc : (S.getD u [])[t]? = some c) (hn : c ≠ f) : O8 S f d U k (t + 1) M o :=
  ⟨l.v,l.c,fun i hi h => by
    rw [hu] at hi; cases hi
    rw [take_s hc] at h
    rcases List.mem_append.1 h with a | a
    · exact l.n u hu a
    · exact absurd (List.mem_singleton.1 a).symm hn,l.m⟩
theorem O8.push {M o c : Nat} (l : O8 S f d U k t M o) (hk : k < U.length) (hc : c ∉ U) (w : Nat) : O8 S f (fun z => if z = c then w else d z) (U ++ [c]) k t M o:=by
  have old : ∀ z,z ∈ U → (if z = c then w else d z) = d z:=fun z hz => if_neg fun e => hc (by rw [← e]; exact hz)
  have mem : ∀ {j z : Nat},U[j]? = some z → z ∈ U:=fun h => List.mem_iff_getElem?.2 ⟨_,h⟩
  refine ⟨?_,fun j i hj hi hf => ?_,fun i hi hf => ?_,l.m⟩
  · rcases l.v with h | ⟨i,h1,h2,h3⟩
    · exact .inl h
    · refine .inr ⟨i,List.mem_append_left _ h1,?_,h3⟩
      show o = (if i = c then w else d i) + 1
      rw [old i h1]; exact h2
  · rw [List.getElem?_append_left (by omega)] at hi
    show o ≠ 0 ∧ o ≤ (if i = c then w else d i) + 1
    rw [old i (mem hi)]
    exact l.c j i hj hi hf
  · rw [List.getElem?_append_left hk] at hi
    show o ≠ 0 ∧ o ≤ (if i = c then w else d i) + 1
    rw [old i (mem hi)]
    exact l.n i hi hf
theorem O8.next {M o : Nat} (l : O8 S f d U k t M o) (hu : U[k]? = some u) (ht : t = (S.getD u []).length) : O8 S f d U (k + 1) 0 M o :=
  ⟨l.v,fun j i hj hi hf => by
    by_cases e : j = k
    · subst e
      rw [hu] at hi; cases hi
      exact l.n u hu (by rw [ht,List.take_length]; exact hf)
    · exact l.c j i (by omega) hi hf,fun i _ h => by simp at h,l.m⟩
theorem BQ.key (b : BQ S f d U U.length 0) : ∀ r z,Rw S r f z → z ∈ U ∧ d z ≤ r:=fun r => by
  induction r with
  | zero =>
    intro z hz
    have e : f = z:=hz
    rw [← e]; exact ⟨b.fQ,by rw [b.f0]; exact Nat.le_refl _⟩
  | succ r ih =>
    intro z hz
    obtain ⟨y,h1,h2⟩:=hz.last
    obtain ⟨h3,h4⟩:=ih y h1
    obtain ⟨j,hj⟩:=List.mem_iff_getElem?.1 h3
    have hjl:=(List.getElem?_eq_some_iff.1 hj).1
    obtain ⟨h5,h6⟩:=b.ch j y hjl hj z h2
    exact ⟨h5,by omega⟩
theorem O8.done {M o : Nat} (b : BQ S f d U U.length 0) (l : O8 S f d U U.length 0 M o) (mc : MC S f M) : MC S (f + 1) o:=by
  by_cases c : ∃ s,Rw S (s + 1) f f
  · obtain ⟨m,cy⟩:=cy_ex c
    have:=mc.put cy
    obtain ⟨y,h1,h2⟩:=cy.1.last
    obtain ⟨h3,h4⟩:=b.key m y h1
    obtain ⟨j,hj⟩:=List.mem_iff_getElem?.1 h3
    have h5:=l.c j y (List.getElem?_eq_some_iff.1 hj).1 hj h2
    have h6:=l.m
    have e : (if M = 0 ∨ m + 1 < M then m + 1 else M) = o:=by
      rcases l.v with h | ⟨i,a1,a2,a3⟩
      · rw [if_neg (by omega)]; exact h.symm
      · have:=cy.2 _ ((b.wk i a1).snoc a3)
        by_cases c2 : M = 0 ∨ m + 1 < M
        · rw [if_pos c2]; omega
        · rw [if_neg c2]
          have:=h6 (by omega)
          omega
    rw [e] at this
    exact this
  · have nc : ∀ s,¬ Rw S (s + 1) f f:=fun s w => c ⟨s,w⟩
    rcases l.v with h | ⟨i,a1,a2,a3⟩
    · rw [h]; exact mc.skip nc
    · exact absurd ((b.wk i a1).snoc a3) (nc _)
end
end Go.Proofs.Ytljgfdamdcikgaa.Ev
set_option linter.unusedVariables false
set_option linter.unusedSimpArgs false
namespace Go.Proofs.Ytljgfdamdcikgaa.Ev
open Go Go.AEv
attribute [local simp] evFunc initS evOps_c evTrim_c evSkip_c evExit_c evRet_c evSeq_c evCond_c evBlock_c evDraw_c runOps_n runOps_c exec_n exec_g pure1_c act AOpd.ev T.get T.set T.put evBin evUn forceT_eq forceV_eq forceL_eq evRess evRes one keep runFP_n runFP_c app_none AV.flats AV.flat came_some List.getElem?_cons_zero List.getElem?_cons_succ beqT wrapI idxI tdivI tmodI decT decF ibT ibF inT inF evScope_c if_pos if_neg Cm_some thenW_n thenW_e thenW_r blkW_n blkW_e blkW_r goI kn putAt AV.cells fillA loadA takeA mk Eff.isAll Eff.isNone Eff.commutes Eff.spares okPair apart eqAgg fits LK.fits allEq aveq eqk mmA
section
variable {S : List (List Nat)} {f : Nat}
structure M8 (Hk : Heap) (n : Nat) (b : Nat) (far : Nat → Nat) (xq : AV) (U : List Nat) (h : Heap) : Prop where
  kf : Kp (fun _ => False) Hk h
  gf : h.get b = .cells 1 n (gn (lN far n))
  lq : ∃ bq,xq = .slice bq 0 U.length U.length ∧ h.get bq = .cells 1 U.length (gn U) ∧ Hk.size ≤ bq ∧ bq ≠ b
theorem M8.set {Hk h : Heap} {n b : Nat} {far : Nat → Nat} {xq : AV} {U : List Nat} (r : M8 Hk n b far xq U h) (hb : Hk.size ≤ b) (hN : Hk.N ≤ b) {c : Nat} (hc : c < n) (v : Nat) : ∃ H,Eff.app (.put b n c [G v]) h = some H ∧ M8 Hk n b (fun z => if z = c then v else far z) xq U H:=by
  have hNh : h.N ≤ b:=by rw [r.kf.N]; exact hN
  obtain ⟨bq,e1,e2,e3,e4⟩:=r.lq
  refine ⟨_,put_gen h b n c 1 _ _ hNh r.gf (by rw [lN_len]; show c + 1 ≤ n; omega),r.kf.updn b _ hNh hb,?_,bq,e1,?_,e3,e4⟩
  · rw [upd_same _ _ _ hNh (get_lt r.gf (by simp))]
    simp only [putAt]
    rw [lN_set _ hc]
  · rw [upd_ne _ _ _ _ hNh e4.symm]; exact e2
theorem M8.push {Hk h : Heap} {n b : Nat} {far : Nat → Nat} {xq : AV} {U : List Nat} (k0 : Nat) (r : M8 Hk n b far xq U h) (hkN : Hk.N ≤ Hk.size) (c : Nat) (hn : U.length ≤ 1000) :
    ∃ x1 e H,appA (h.plus [.cells 1 1 [G c]]) k0 none 1 8 1 [G c] xq = some (x1,e) ∧ Eff.app e (h.plus [.cells 1 1 [G c]]) = some H ∧ M8 Hk n b far x1 (U ++ [c]) H:=by
  obtain ⟨bq,rfl,e2,e3,e4⟩:=r.lq
  have g2:=plus_keep [.cells 1 1 [G (c : Int)]] e2 (by simp)
  have hN' : (h.plus [.cells 1 1 [G (c : Int)]]).N ≤ bq:=by rw [plus_N,r.kf.N]; omega
  have x:=ext_gen (h.plus [.cells 1 1 [G (c : Int)]]) bq U.length 1 (gn U) [G c] hN' g2 (gn_len U)
  have blt:=get_lt e2 (by simp)
  refine ⟨.slice bq 0 (U.length + 1) (U.length + 1),.ext bq U.length 1 [G c],_,?_,x,(r.kf.trans (Kp.plus _ _)).updn _ _ hN' e3,?_,bq,by simp,?_,e3,e4⟩
  · simp only [appA,Nat.mul_one,Nat.one_mul]
    rw [if_neg (by decide),if_pos ⟨trivial,by simp,by omega⟩]
  · rw [upd_ne _ _ _ _ hN' e4]; exact plus_keep _ r.gf (by simp)
  · rw [upd_same _ _ _ hN' (by rw [plus_size]; omega),gn_app]
    simp [gn_len]
end
section
variable {S : List (List Nat)} {f : Nat}
end
section
variable {a : AR} {m : Int}
end
def Post38 (b : ARm) (h : Heap) (v : AV) (own : List AObj) : Prop:=∃ z : Nat,v = G z ∧ own = [] ∧ MC (b.a.steps b.m) (b.a.steps b.m).length z
noncomputable def T56 : CallF:=addK tbl T55 38 Pre37 Post38
theorem t56 : Sound Go.Proofs.Try.prog T56:=Sound.addK follows ok t55 (by decide) _ _
structure KS (a : AG) (m : Nat) (L : List (List Nat)) : Prop where
  w : ∀ w ∈ L,w.length = m ∧ (∀ c ∈ w,c < a.q) ∧ bsd a.B w = true
  n : ∀ i,i + 1 < L.length → blw a.W (L.getD i []) (L.getD (i + 1) []) = true
  l : L.length ≤ 1000
  m1 : 1 ≤ m
  m5 : m ≤ 5
section
variable {a : AG} {m : Nat} {L : List (List Nat)} {b v : Nat}
theorem KS.at {i : Nat} (k : KS a m L) (hi : i < L.length) : (L.getD i []).length = m ∧ (∀ c ∈ L.getD i [],c < a.q) ∧ bsd a.B (L.getD i []) = true:=k.w _ (by
  rw [List.getD_eq_getElem?_getD,List.getElem?_eq_getElem hi]
  exact List.getElem_mem _)
end
section
variable {a : AG} {w : List Nat} {b v i : Nat} {ws : List AV}
end
structure AK where
  a : AG
  m : Nat
  L : List (List Nat)
  b : Nat
  v : Nat
def Ok46 (b : AK) (h : Heap) : Prop:=OkG b.a h ∧ KS b.a b.m b.L ∧ h.get b.b = .cells 1 b.v (wsL b.L)
def Pre46 (b : AK) (args : List AV) (h : Heap) : Prop:=Ok46 b h ∧ args = [b.a.v,.slice b.b 0 b.L.length b.v]
def PostT (v : AV) (own : List AObj) : Prop:=v = .bool true ∧ own = []
noncomputable def T57 : CallF:=addK tbl T56 46 Pre46 (fun _ _ v own => PostT v own)
theorem t57 : Sound Go.Proofs.Try.prog T57:=Sound.addK follows ok t56 (by decide) _ _
def Ok40 (b : AK) (h : Heap) : Prop:=Ok46 b h ∧ b.L ≠ [] ∧ blw b.a.W (b.L.getD (b.L.length - 1) []) (b.L.getD 0 []) = true
def Pre40 (b : AK) (args : List AV) (h : Heap) : Prop:=Ok40 b h ∧ args = [b.a.v,.slice b.b 0 b.L.length b.v]
noncomputable def T58 : CallF:=addK tbl T57 40 Pre40 (fun _ _ v own => PostT v own)
theorem t58 : Sound Go.Proofs.Try.prog T58:=Sound.addK follows ok t57 (by decide) _ _
structure A39 where
  a : AG
  w : List Nat
  ws : List AV
  b : Nat
  v : Nat
  i : Nat
def Ok39 (b : A39) (h : Heap) : Prop:=b.a.q ≤ 3 ∧ (∀ c ∈ b.w,c < b.a.q) ∧ 1 ≤ b.w.length ∧ b.w.length ≤ 5 ∧ h.get b.b = .cells 1 b.v b.ws ∧ b.ws[b.i]? = some (.str (stW b.w))
def Pre39 (b : A39) (args : List AV) (h : Heap) : Prop:=Ok39 b h ∧ args = [b.a.v,.slice b.b b.i 1 b.v]
noncomputable def T59 : CallF:=addK tbl T58 39 Pre39 (fun _ _ v own => PostT v own)
theorem t59 : Sound Go.Proofs.Try.prog T59:=Sound.addK follows ok t58 (by decide) _ _
theorem gw_mem {L : List Nat} {R : List (List Nat)} {w : List Nat} (h : w ∈ rT2 R L) : ∃ c,c ∈ L ∧ w = R.getD c []:=by
  obtain ⟨c,h1,h2⟩:=List.mem_map.1 h
  exact ⟨c,h1,h2.symm⟩
theorem rT2_at {L : List Nat} {R : List (List Nat)} {i : Nat} (hi : i < L.length) : (rT2 R L).getD i [] = R.getD (L.getD i 0) []:=by
  unfold rT2
  rw [List.getD_eq_getElem?_getD,List.getElem?_map,gD_some hi]; rfl
section
variable {nq m : Int} {X Y : List (List Int)}
end
theorem ba_get {c : List UInt8} {i : Nat} {u : UInt8} (h : c[i]? = some u) : (⟨c.toArray⟩ : ByteArray).get! i = u:=by
  show c.toArray[i]! = u
  simp [Array.getElem!_eq_getD,h]
theorem dec_lo {c : List UInt8} {pos : Nat} {u : UInt8} (h : c[pos]? = some u) (hu : u.toNat < 128) : Utf8.decode ⟨c.toArray⟩ pos = (u.toNat,1):=by
  unfold Utf8.decode
  simp only [Nat.add_zero,ba_get h]
  rw [if_pos hu]
theorem dec_hi {c : List UInt8} {pos : Nat} {u : UInt8} (h : c[pos]? = some u) (hu : 128 ≤ u.toNat) : 128 ≤ (Utf8.decode ⟨c.toArray⟩ pos).1 ∧ (Utf8.decode ⟨c.toArray⟩ pos).1 ≤ 1114111:=by
  unfold Utf8.decode
  simp only [Nat.add_zero,ba_get h]
  rw [if_neg (by omega)]
  have re : Utf8.runeError = 65533:=rfl
  have vd : ∀ r : Nat,Utf8.valid (r : Int) = true → r ≤ 1114111:=fun r hr => by
    unfold Utf8.valid at hr
    simp only [Bool.or_eq_true,Bool.and_eq_true,decide_eq_true_eq] at hr
    omega
  split
  · split
    · simp only
      omega
    · simp only [re]; omega
  · split
    · split
      · rename_i h1
        simp only [Bool.and_eq_true,decide_eq_true_eq] at h1
        have:=vd _ h1.2
        simp only
        omega
      · simp only [re]; omega
    · split
      · split
        · rename_i h1
          simp only [Bool.and_eq_true,decide_eq_true_eq] at h1
          have:=vd _ h1.2
          simp only
          omega
        · simp only [re]; omega
      · simp only [re]; omega
def goodB (q : Nat) (u : UInt8) : Bool:=decide (48 ≤ u.toNat ∧ u.toNat < 48 + q)
def goodS (q : Nat) (s : List UInt8) : Bool:=s.all (goodB q)
theorem inext0 (h : Heap) (c : List UInt8) (p p' : Nat) (b : Nat) (hb : h.size = b) : Eff.app (.inext b p') (h.plus [.iter c p]) = some (h.plus [.iter c p']):=by
  subst hb
  have hn : h.N ≤ h.size:=by unfold Heap.size; omega
  have e1 : (h.plus [.iter c p]).own[h.size - h.N]? = some (.iter c p):=by
    show (h.own ++ [.iter c p])[h.size - h.N]? = _
    rw [show h.size - h.N = h.own.length by unfold Heap.size; omega]
    simp
  simp only [Eff.app]
  rw [if_neg (by rw [plus_N]; omega),plus_N,e1]
  simp only [Heap.setOwn,forceL_eq,plus_N]
  congr 1
  unfold Heap.plus
  congr 1
  rw [show h.size - h.N = h.own.length by unfold Heap.size; omega]
  simp
def spec98 : SpecF:=fun args h => match args with
  | [.int .i32 c,.ptr b 0 3] => match h.get b with
    | .cells 0 3 [.int .i64 q,x,y] => if 0 ≤ c ∧ c ≤ 1114111 ∧ 0 ≤ q ∧ q ≤ 1000 then some (.bool (!decide (0 ≤ c - 48 ∧ c - 48 ≤ q - 1)),h.own,true) else none
    | _ => none
  | _ => none
theorem c98_ok (J : CallF) (k60 : K60 J) (hJ : ∀ a h,J 98 a h = none) (h : Heap) {b : Nat} {qq c : Int} {x y : AV} (gb : h.get b = .cells 0 3 [G qq,x,y]) (hc : 0 ≤ c ∧ c ≤ 1114111) (hq : 0 ≤ qq ∧ qq ≤ 1000) : CallsTo tbl J 98 [.int .i32 c,.ptr b 0 3] h (.bool (!decide (0 ≤ c - 48 ∧ c - 48 ≤ qq - 1)),h.own,true):=by
  refine Tr.sh (cf:=c98) (e:=.ret) (s:=T.set (T.set .leaf [] (.int .i32 c)) [false] (.ptr b 0 3)) (by decide) rfl (hJ _ _) rfl rfl (by simp) ?_
  have kk:=k60 (c - 48) 0 (qq - 1) h
  generalize decide (0 ≤ c - 48 ∧ c - 48 ≤ qq - 1) = z at *
  refine Tr.w fun s1 H1 hp R kR => ?_
  obtain ⟨rfl,rfl⟩:=hp
  have q : True:=trivial
  refine W.seq (W.chunk ?_)
  simp (disch:=first|omega|exact zE rfl|exact zO|exact zL rfl) [c98_o0,zG,q]
  refine W.seq (W.chunk ?_)
  simp (disch:=first|omega|exact zE rfl|exact zO|exact zL rfl) [c98_o1,zG,q,gb,kk,app_if,app_if']
  refine W.ret ?_
  try simp only [zW,if_true]
  exact kR _ _ ⟨⟨[.bool (!z)],by simp [T.get,c98,evRess,evRes],rfl⟩,rfl⟩
noncomputable def T60 : CallF:=addI T59 98 spec98
theorem k60_59 : K60 T59:=fun n lo hi h => by
  simp (disch:=decide) only [T1,T2,T3,T4,T5,T6,T7,T8,T9,T10,T11,T12,T13,T14,T15,T16,T17,T18,T19,T20,T21,T22,T23,T24,T25,T26,T27,T28,T29,T30,T31,T32,T33,T34,T35,T36,T37,T38,T39,T40,T41,T42,T43,T44,T45,T46,T47,T48,T49,T50,T51,T52,T53,T54,T55,T56,T57,T58,T59,addI_ne,addX_ne,addV_ne,addK_ne]
  exact k60 n lo hi h
theorem t60 : Sound Go.Proofs.Try.prog T60:=Sound.add follows ok t59 (by decide) (fun args h x e => by
  unfold spec98 at e
  split at e
  · split at e
    · rename_i g1
      split at e
      · rename_i hn
        simp only [Option.some.injEq] at e; subst e
        exact c98_ok T59 k60_59 (fun _ _ => by simp (disch:=decide) only [T1,T2,T3,T4,T5,T6,T7,T8,T9,T10,T11,T12,T13,T14,T15,T16,T17,T18,T19,T20,T21,T22,T23,T24,T25,T26,T27,T28,T29,T30,T31,T32,T33,T34,T35,T36,T37,T38,T39,T40,T41,T42,T43,T44,T45,T46,T47,T48,T49,T50,T51,T52,T53,T54,T55,T56,T57,T58,T59,addI_ne,addX_ne,addV_ne,addK_ne]; rfl) h g1 ⟨hn.1,hn.2.1⟩ hn.2.2
      · cases e
    · cases e
  · cases e)
abbrev K98 (J : CallF) : Prop:=∀ (h : Heap) (b : Nat) (q c : Int) (x y : AV),h.get b = .cells 0 3 [G q,x,y] → 0 ≤ c → c ≤ 1114111 → 0 ≤ q → q ≤ 1000 → J 98 [.int .i32 c,.ptr b 0 3] h = some (.bool (!decide (0 ≤ c - 48 ∧ c - 48 ≤ q - 1)),h.own,true)
theorem k98 : K98 T60:=fun h b q c x y g h1 h2 h3 h4 => by simp only [T60,addI,if_true,spec98,g]; rw [if_pos ⟨h1,h2,h3,h4⟩]
section
variable {b : Nat} {qq : Nat} {x y : AV} {c : List UInt8}
def ixS (qq : Nat) : List UInt8 → Nat → Int
  | [],_ => -1
  | u :: c,i => if goodB qq u then ixS qq c (i + 1) else i
theorem ixS_iff (qq : Nat) : ∀ (c : List UInt8) (i : Nat),(ixS qq c i = -1 ∨ 0 ≤ ixS qq c i) ∧ (decide (0 ≤ ixS qq c i) = !goodS qq c)
  | [],i => ⟨.inl rfl,rfl⟩
  | u :: c,i => by
    have ih:=ixS_iff qq c (i + 1)
    unfold ixS goodS
    rw [List.all_cons]
    cases h : goodB qq u
    · rw [if_neg (by simp)]
      exact ⟨.inr (by omega),by simp⟩
    · rw [if_pos rfl]
      exact ⟨ih.1,by rw [ih.2]; rfl⟩
set_option maxHeartbeats 1000000 in
theorem c112_l0_ok (J : CallF) (k98 : K98 J) {H0 : Heap} (gb : H0.get b = .cells 0 3 [G qq,x,y]) (q3 : qq ≤ 3) (hc : c.length ≤ 1000000) : ∀ (r : List UInt8) (i : Nat),c = c.take i ++ r → i + r.length = c.length →
    ∀ (s1 : T) (R : PQ),(s1.get [false] = .func 98 [.ptr b 0 3] ∧ s1.get [true] = .bool true ∧ s1.get [true,true,false] = .itr H0.size) → (ixS qq r i = -1 → ∀ s' h',True → R (.exit 0) s' h') → (ixS qq r i ≠ -1 → ∀ s' h',s'.get [true,true] = G (ixS qq r i) → R .ret s' h') → W tbl J c112_l0 s1 (H0.plus [.iter c i]) R:=by
  intro r
  induction r with
  | nil =>
    intro i e1 e2 s1 R q0 kA kB
    have kR:=kA rfl
    obtain rfl : i = c.length:=by simpa using e2
    have gI : (H0.plus [.iter c c.length]).get H0.size = .iter c c.length:=plus_at0 _ _ _ _ rfl
    have q:=q0
    clear kA kB e1 e2 gb q0
    generalize H0.plus [.iter c c.length] = H1 at *
    generalize hl : c.length = l at *
    refine W.loop (W.trim ?_)
    refine W.seq (W.chunk ?_)
    simp (disch:=first|omega|exact zE rfl|exact zO|exact zL rfl) [c112_o2,zG,q,gI,hl]
    refine W.seq (W.chunk ?_)
    simp (disch:=first|omega|exact zE rfl|exact zO|exact zL rfl) [zG,q]
    exact kR _ _ trivial
  | cons u r ih =>
    intro i e1 e2 s1 R q0 kA kB
    have hlt : i < c.length:=by simp at e2; omega
    have hu : c[i]? = some u:=by
      rw [e1,List.getElem?_append_right (by rw [List.length_take]; omega),List.length_take,Nat.min_eq_left (by omega),Nat.sub_self]; rfl
    have gI : (H0.plus [.iter c i]).get H0.size = .iter c i:=plus_at0 _ _ _ _ rfl
    have gbI : (H0.plus [.iter c i]).get b = .cells 0 3 [G qq,x,y]:=plus_keep _ gb (by simp)
    replace ih:=ih (i + 1) (by
      rw [List.take_add_one,hu]
      show c = c.take i ++ [u] ++ r
      rw [List.append_assoc]; exact e1) (by simp at e2; omega)
    have p1:=fun w => inext0 H0 c i (i + w) H0.size rfl
    have gb2 : ∀ w,(H0.plus [.iter c (i + w)]).get b = .cells 0 3 [G qq,x,y]:=fun w => plus_keep _ gb (by simp)
    have un : (ixS qq (u :: r) i) = if goodB qq u then ixS qq r (i + 1) else (i : Int):=rfl
    rw [un] at kA kB
    have q:=q0
    by_cases hhi : 128 ≤ u.toNat
    · obtain ⟨d1,d2⟩:=dec_hi hu hhi
      have ng : goodB qq u = false:=by
        unfold goodB
        exact decide_eq_false (by omega)
      rw [if_neg (by rw [ng]; simp)] at kB
      have kR:=kB (by omega)
      obtain ⟨rn,w,hd⟩ : ∃ rn w,Utf8.decode ⟨c.toArray⟩ i = (rn,w):=⟨_,_,rfl⟩
      rw [hd] at d1 d2
      simp only at d1 d2
      have k:=k98 (H0.plus [.iter c (i + w)]) b qq rn x y (gb2 w) (by omega) (by omega) (by omega) (by omega)
      rw [decide_eq_false (by omega)] at k
      have p1:=p1 w
      have ow : (⟨(H0.plus [.iter c (i + w)]).lo,(H0.plus [.iter c (i + w)]).N,(H0.plus [.iter c (i + w)]).own⟩ : Heap) = H0.plus [.iter c (i + w)]:=rfl
      clear kA kB ih e1 e2 gb gb2 un q0 hu ng
      generalize H0.plus [.iter c (i + w)] = H2 at *
      generalize H0.plus [.iter c i] = H1 at *
      generalize hl : c.length = l at *
      refine W.loop (W.trim ?_)
      refine W.seq (W.chunk ?_)
      simp (disch:=first|omega|exact zE rfl|exact zO|exact zL rfl) [c112_o2,zG,q,gI,hl,hd,p1]
      refine W.seq (W.chunk ?_)
      simp (disch:=first|omega|exact zE rfl|exact zO|exact zL rfl) [zG,q]
      refine W.block ?_
      refine W.seq (W.chunk ?_)
      simp (disch:=first|omega|exact zE rfl|exact zO|exact zL rfl) [c112_o3,zG,q]
      refine W.seq (W.chunk ?_)
      simp (disch:=first|omega|exact zE rfl|exact zO|exact zL rfl) [c112_o4,zG,q,k,ow]
      refine W.chunk ?_
      simp (disch:=first|omega|exact zE rfl|exact zO|exact zL rfl) [c112_o5,zG,q]
      exact kR _ _ (by simp [T.get,q])
    · have hd:=dec_lo hu (by omega)
      have k:=k98 (H0.plus [.iter c (i + 1)]) b qq u.toNat x y (gb2 1) (by omega) (by omega) (by omega) (by omega)
      have p1:=p1 1
      have ow : (⟨(H0.plus [.iter c (i + 1)]).lo,(H0.plus [.iter c (i + 1)]).N,(H0.plus [.iter c (i + 1)]).own⟩ : Heap) = H0.plus [.iter c (i + 1)]:=rfl
      have gd : goodB qq u = decide (48 ≤ u.toNat ∧ u.toNat < 48 + qq):=rfl
      by_cases hg : 48 ≤ u.toNat ∧ u.toNat < 48 + qq
      · rw [decide_eq_true hg] at gd
        rw [if_pos gd] at kA kB
        rw [decide_eq_true (by omega)] at k
        replace ih:=fun s' h2 => ih s' R h2 kA kB
        have i1 : ((i + 1 : Nat) : Int) = (i : Int) + 1:=by omega
        clear kA kB e1 e2 gb gb2 un q0 hu gd
        generalize H0.plus [.iter c (i + 1)] = H2 at *
        generalize H0.plus [.iter c i] = H1 at *
        generalize hl : c.length = l at *
        generalize u.toNat = un at *
        refine W.loop (W.trim ?_)
        refine W.seq (W.chunk ?_)
        simp (disch:=first|omega|exact zE rfl|exact zO|exact zL rfl) [c112_o2,zG,q,gI,hl,hd,p1]
        refine W.seq (W.chunk ?_)
        simp (disch:=first|omega|exact zE rfl|exact zO|exact zL rfl) [zG,q]
        refine W.block ?_
        refine W.seq (W.chunk ?_)
        simp (disch:=first|omega|exact zE rfl|exact zO|exact zL rfl) [c112_o3,zG,q]
        refine W.seq (W.chunk ?_)
        simp (disch:=first|omega|exact zE rfl|exact zO|exact zL rfl) [c112_o4,zG,q,k,ow]
        refine W.chunk ?_
        simp (disch:=first|omega|exact zE rfl|exact zO|exact zL rfl) [c112_o5,zG,q]
        refine ih _ ?_
        simp [T.get,q]
      · rw [decide_eq_false hg] at gd
        rw [if_neg (by rw [gd]; simp)] at kB
        have kR:=kB (by omega)
        rw [decide_eq_false (by omega)] at k
        clear kA kB ih e1 e2 gb gb2 un q0 hu gd
        generalize H0.plus [.iter c (i + 1)] = H2 at *
        generalize H0.plus [.iter c i] = H1 at *
        generalize hl : c.length = l at *
        generalize u.toNat = un at *
        refine W.loop (W.trim ?_)
        refine W.seq (W.chunk ?_)
        simp (disch:=first|omega|exact zE rfl|exact zO|exact zL rfl) [c112_o2,zG,q,gI,hl,hd,p1]
        refine W.seq (W.chunk ?_)
        simp (disch:=first|omega|exact zE rfl|exact zO|exact zL rfl) [zG,q]
        refine W.block ?_
        refine W.seq (W.chunk ?_)
        simp (disch:=first|omega|exact zE rfl|exact zO|exact zL rfl) [c112_o3,zG,q]
        refine W.seq (W.chunk ?_)
        simp (disch:=first|omega|exact zE rfl|exact zO|exact zL rfl) [c112_o4,zG,q,k,ow]
        refine W.chunk ?_
        simp (disch:=first|omega|exact zE rfl|exact zO|exact zL rfl) [c112_o5,zG,q]
        exact kR _ _ (by simp [T.get,q])
end
end Go.Proofs.Ytljgfdamdcikgaa.Ev
