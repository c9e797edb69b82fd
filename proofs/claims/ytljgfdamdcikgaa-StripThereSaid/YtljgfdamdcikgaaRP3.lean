/-
  Of the functions that this law reaches,part 3: what they answer. No condition.
-/
import Derived.Test.YtljgfdamdcikgaaRP2
import Derived.Test.YtljgfdamdcikgaaRP1
import Derived.WideKeyPair
import Derived.Test.YtljgfdamdcikgaaRP0
set_option linter.unusedVariables false
set_option linter.unusedSimpArgs false
namespace Go.Proofs.Ytljgfdamdcikgaa.Ev
open Go Go.AEv
attribute [local simp] evFunc initS evOps_c evTrim_c evSkip_c evExit_c evRet_c evSeq_c evCond_c evBlock_c evDraw_c runOps_n runOps_c exec_n exec_g pure1_c act AOpd.ev T.get T.set T.put evBin evUn forceT_eq forceV_eq forceL_eq evRess evRes one keep runFP_n runFP_c app_none AV.flats AV.flat came_some List.getElem?_cons_zero List.getElem?_cons_succ beqT wrapI idxI tdivI tmodI decT decF ibT ibF inT inF evScope_c if_pos if_neg Cm_some thenW_n thenW_e thenW_r blkW_n blkW_e blkW_r goI kn putAt AV.cells fillA loadA takeA mk Eff.isAll Eff.isNone Eff.commutes Eff.spares okPair apart eqAgg fits LK.fits allEq aveq eqk mmA
def kpB (a : AG) (R : List (List Nat)) (i : Nat) : Bool:=bsd a.B (R.getD i []) && (decide (i = 0) || blw a.W (R.getD (i - 1) []) (R.getD i []))
def kpS (a : AG) (R : List (List Nat)) : Bool:=af (kpB a R) 0 R.length
structure WS (a : AG) (m : Nat) (R : List (List Nat)) : Prop where
  w : ∀ w ∈ R,w.length = m ∧ ∀ c ∈ w,c < a.q
  l : R.length ≤ 1000
  m5 : m ≤ 1000
section
variable {a : AG} {m : Nat} {R : List (List Nat)} {b v : Nat}
theorem WS.at {i : Nat} (k : WS a m R) (hi : i < R.length) : (R.getD i []).length = m ∧ ∀ c ∈ R.getD i [],c < a.q:=k.w _ (by
  rw [List.getD_eq_getElem?_getD,List.getElem?_eq_getElem hi]
  exact List.getElem_mem _)
set_option maxHeartbeats 1000000 in
theorem c78_b0_ok (J : CallF) (k89 : KW 89 J) (k90 : KB 90 J) {H : Heap} {p : Nat} (o : OkG a H) (k : WS a m R) (gS : H.get p = .cells 0 3 [G a.q,a.x,a.y]) (gH : H.get b = .cells 1 v (wsL R)) {i : Nat} (hi : i < R.length) :
    (kpB a R i = true → Tr tbl J (.trim [[false],[true],[false,false,false],[true,false,false],[false,true,false]] c78_b0) (fun s h => h = H ∧ s.get [false] = .slice b 0 R.length v ∧ s.get [true] = .ptr p 0 3 ∧ s.get [false,false,false] = .slice b 0 R.length v ∧ s.get [true,false,false] = G R.length ∧ s.get [false,true,false] = G (i : Nat)) .normal (fun s h => h = H ∧ s.get [false] = .slice b 0 R.length v ∧ s.get [true] = .ptr p 0 3 ∧ s.get [false,false,false] = .slice b 0 R.length v ∧ s.get [true,false,false] = G R.length ∧ s.get [false,true,false] = G ((i + 1 : Nat) : Int))) ∧
    (kpB a R i = false → Tr tbl J (.trim [[false],[true],[false,false,false],[true,false,false],[false,true,false]] c78_b0) (fun s h => h = H ∧ s.get [false] = .slice b 0 R.length v ∧ s.get [true] = .ptr p 0 3 ∧ s.get [false,false,false] = .slice b 0 R.length v ∧ s.get [true,false,false] = G R.length ∧ s.get [false,true,false] = G (i : Nat)) .ret (fun s h => s.get [true,false] = .bool false)):=by
  have ki:=k.at hi
  have m5:=k.m5
  have e68:=k89 H a _ o ki.2 (by omega)
  have wi:=wsL_at (R:=R) hi
  have wi':=getI wi
  have lw:=wsL_len R
  have l1:=k.l
  have kb : kpB a R i = (bsd a.B (R.getD i []) && (decide (i = 0) || blw a.W (R.getD (i - 1) []) (R.getD i []))):=rfl
  rw [kb]
  have main : ∀ (s1 : T) (H1 : Heap) (Q : PQ),((fun s h => h = H ∧ s.get [false] = .slice b 0 R.length v ∧ s.get [true] = .ptr p 0 3 ∧ s.get [false,false,false] = .slice b 0 R.length v ∧ s.get [true,false,false] = G R.length ∧ s.get [false,true,false] = G (i : Nat)) : SP) s1 H1 →
      ((bsd a.B (R.getD i []) && (decide (i = 0) || blw a.W (R.getD (i - 1) []) (R.getD i []))) = true → ∀ s' h',((fun s h => h = H ∧ s.get [false] = .slice b 0 R.length v ∧ s.get [true] = .ptr p 0 3 ∧ s.get [false,false,false] = .slice b 0 R.length v ∧ s.get [true,false,false] = G R.length ∧ s.get [false,true,false] = G ((i + 1 : Nat) : Int)) : SP) s' h' → Q .normal s' h') →
      ((bsd a.B (R.getD i []) && (decide (i = 0) || blw a.W (R.getD (i - 1) []) (R.getD i []))) = false → ∀ s' h',((fun s h => s.get [true,false] = .bool false) : SP) s' h' → Q .ret s' h') → W tbl J (.trim [[false],[true],[false,false,false],[true,false,false],[false,true,false]] c78_b0) s1 H1 Q:=fun s1 H1 Q hp kA kB => by
    obtain ⟨rfl,q⟩:=hp
    cases i with
    | zero =>
      rw [decide_eq_true rfl,Bool.true_or,Bool.and_true] at kA kB
      clear o k ki kb k90
      generalize bsd a.B (R.getD 0 []) = z at *
      generalize stW (R.getD 0 []) = w0 at *
      generalize wsL R = ws at *
      generalize R.length = n at *
      cases z
      · have kR:=kB rfl
        clear kA kB
        refine W.trim ?_
        refine W.seq (W.chunk ?_)
        simp (disch:=first|omega|exact zE rfl|exact zO|exact zL rfl) [c78_o2,zG,q]
        refine W.seq (W.chunk ?_)
        simp (disch:=first|omega|exact zE rfl|exact zO|exact zL rfl) [zG,q]
        refine W.seq (W.block ?_)
        refine W.seq (W.chunk ?_)
        simp (disch:=first|omega|exact zE rfl|exact zO|exact zL rfl) [c78_o3,zG,q,gH,wi,wi',lw]
        refine W.seq (W.chunk ?_)
        simp (disch:=first|omega|exact zE rfl|exact zO|exact zL rfl) [-evDraw_c,c78_o4,zG,q,evDraw_0,gS,gH,wi,wi',lw,e68,app_if,app_if']
        refine W.chunk ?_
        simp (disch:=first|omega|exact zE rfl|exact zO|exact zL rfl) [c78_o5,zG,q]
        exact kR _ _ (by simp [T.get])
      · have kR:=kA rfl
        clear kA kB
        refine W.trim ?_
        refine W.seq (W.chunk ?_)
        simp (disch:=first|omega|exact zE rfl|exact zO|exact zL rfl) [c78_o2,zG,q]
        refine W.seq (W.chunk ?_)
        simp (disch:=first|omega|exact zE rfl|exact zO|exact zL rfl) [zG,q]
        refine W.seq (W.block ?_)
        refine W.seq (W.chunk ?_)
        simp (disch:=first|omega|exact zE rfl|exact zO|exact zL rfl) [c78_o3,zG,q,gH,wi,wi',lw]
        refine W.seq (W.chunk ?_)
        simp (disch:=first|omega|exact zE rfl|exact zO|exact zL rfl) [-evDraw_c,c78_o4,zG,q,evDraw_0,gS,gH,wi,wi',lw,e68,app_if,app_if']
        refine W.chunk ?_
        simp (disch:=first|omega|exact zE rfl|exact zO|exact zL rfl) [c78_o5,zG,q]
        refine W.chunk ?_
        simp (disch:=first|omega|exact zE rfl|exact zO|exact zL rfl) [c78_o6,zG,q]
        exact kR _ _ (by simp [T.get,q])
    | succ i =>
      have kj:=k.at (i:=i) (by omega)
      have e69:=k90 H1 a (R.getD i []) (R.getD (i + 1) []) o kj.2 ki.2 (by omega) (by rw [ki.1,kj.1])
      rw [decide_eq_false (by omega),Bool.false_or,Nat.add_sub_cancel] at kA kB
      have wj:=wsL_at (R:=R) (i:=i) (by omega)
      have wj':=getI wj
      have n1 : ((i + 1 : Nat) : Int) = (i : Int) + 1:=by omega
      clear o k ki kj kb k90
      generalize bsd a.B (R.getD (i + 1) []) = z at *
      generalize blw a.W (R.getD i []) (R.getD (i + 1) []) = y at *
      generalize stW (R.getD (i + 1) []) = w1 at *
      generalize stW (R.getD i []) = w0 at *
      generalize wsL R = ws at *
      generalize R.length = n at *
      cases z
      · have kR:=kB rfl
        clear kA kB
        refine W.trim ?_
        refine W.seq (W.chunk ?_)
        simp (disch:=first|omega|exact zE rfl|exact zO|exact zL rfl) [c78_o2,zG,q]
        refine W.seq (W.chunk ?_)
        simp (disch:=first|omega|exact zE rfl|exact zO|exact zL rfl) [zG,q]
        refine W.seq (W.block ?_)
        refine W.seq (W.chunk ?_)
        simp (disch:=first|omega|exact zE rfl|exact zO|exact zL rfl) [c78_o3,zG,q,gH,wi,wi',lw]
        refine W.seq (W.chunk ?_)
        simp (disch:=first|omega|exact zE rfl|exact zO|exact zL rfl) [-evDraw_c,c78_o4,zG,q,evDraw_0,gS,gH,wi,wi',wj,wj',lw,e68,e69,app_if,app_if']
        refine W.chunk ?_
        simp (disch:=first|omega|exact zE rfl|exact zO|exact zL rfl) [c78_o5,zG,q]
        exact kR _ _ (by simp [T.get])
      · cases y
        · have kR:=kB rfl
          clear kA kB
          refine W.trim ?_
          refine W.seq (W.chunk ?_)
          simp (disch:=first|omega|exact zE rfl|exact zO|exact zL rfl) [c78_o2,zG,q]
          refine W.seq (W.chunk ?_)
          simp (disch:=first|omega|exact zE rfl|exact zO|exact zL rfl) [zG,q]
          refine W.seq (W.block ?_)
          refine W.seq (W.chunk ?_)
          simp (disch:=first|omega|exact zE rfl|exact zO|exact zL rfl) [c78_o3,zG,q,gH,wi,wi',lw]
          refine W.seq (W.chunk ?_)
          simp (disch:=first|omega|exact zE rfl|exact zO|exact zL rfl) [-evDraw_c,c78_o4,zG,q,evDraw_0,gS,gH,wi,wi',wj,wj',lw,e68,e69,app_if,app_if']
          refine W.chunk ?_
          simp (disch:=first|omega|exact zE rfl|exact zO|exact zL rfl) [c78_o5,zG,q]
          exact kR _ _ (by simp [T.get])
        · have kR:=kA rfl
          clear kA kB
          refine W.trim ?_
          refine W.seq (W.chunk ?_)
          simp (disch:=first|omega|exact zE rfl|exact zO|exact zL rfl) [c78_o2,zG,q]
          refine W.seq (W.chunk ?_)
          simp (disch:=first|omega|exact zE rfl|exact zO|exact zL rfl) [zG,q]
          refine W.seq (W.block ?_)
          refine W.seq (W.chunk ?_)
          simp (disch:=first|omega|exact zE rfl|exact zO|exact zL rfl) [c78_o3,zG,q,gH,wi,wi',lw]
          refine W.seq (W.chunk ?_)
          simp (disch:=first|omega|exact zE rfl|exact zO|exact zL rfl) [-evDraw_c,c78_o4,zG,q,evDraw_0,gS,gH,wi,wi',wj,wj',lw,e68,e69,app_if,app_if']
          refine W.chunk ?_
          simp (disch:=first|omega|exact zE rfl|exact zO|exact zL rfl) [c78_o5,zG,q]
          refine W.chunk ?_
          simp (disch:=first|omega|exact zE rfl|exact zO|exact zL rfl) [c78_o6,zG,q]
          exact kR _ _ (by simp [T.get,q])
  exact ⟨fun hs => Tr.w fun s1 H1 hp Q kR => main s1 H1 Q hp (fun _ => kR) (fun h => by rw [hs] at h; cases h),fun hs => Tr.w fun s1 H1 hp Q kR => main s1 H1 Q hp (fun h => by rw [hs] at h; cases h) (fun _ => kR)⟩
theorem c78_ok (J : CallF) (k89 : KW 89 J) (k90 : KB 90 J) (hJ : ∀ a h,J 78 a h = none) (h : Heap) (o : OkG a h) (k : WS a m R) (g : h.get b = .cells 1 v (wsL R)) : CallsTo tbl J 78 [a.v,.slice b 0 R.length v] h (.bool (kpS a R),[],false):=by
  refine Tr.fnv (cf:=c78) (e:=.ret) (s:=T.set (T.set .leaf [] a.v) [false] (.slice b 0 R.length v)) (by decide) rfl (hJ _ _) rfl rfl rfl (by simp) ?_
  refine Tr.post (Q:=(fun s h => s.get [true,false] = .bool (kpS a R))) (fun s h q => by simp [c78,q]) ?_
  have oF:=o.fr
  have gF : (frameOf h).get b = .cells 1 v (wsL R):=by
    unfold frameOf
    rw [get_mk_lt _ _ _ _ (get_lt g (by simp))]; exact g
  generalize frameOf h = H0 at *
  obtain ⟨H,hH⟩ : ∃ H,H0.plus [.cells 0 3 [G a.q,a.x,a.y]] = H:=⟨_,rfl⟩
  have kH : Kp (fun _ => False) H0 H:=by rw [← hH]; exact Kp.plus _ _
  have gS : H.get H0.size = .cells 0 3 [G a.q,a.x,a.y]:=by rw [← hH]; exact plus_at0 _ _ _ _ rfl
  have gH:=kH.at gF (by simp) id
  have b0:=fun {i} hi => c78_b0_ok J k89 k90 (oF.kp kH) k gS gH (i:=i) hi
  have l1:=k.l
  cases hk : kpS a R
  · have l0 : Tr tbl J c78_l0 (fun s h => h = H ∧ s.get [false] = .slice b 0 R.length v ∧ s.get [true] = .ptr H0.size 0 3 ∧ s.get [false,false,false] = .slice b 0 R.length v ∧ s.get [true,false,false] = G R.length ∧ s.get [false,true,false] = G ((0 : Nat) : Int)) .ret (fun s h => s.get [true,false] = .bool false) :=
      Tr.allF (P:=fun i => (fun s h => h = H ∧ s.get [false] = .slice b 0 R.length v ∧ s.get [true] = .ptr H0.size 0 3 ∧ s.get [false,false,false] = .slice b 0 R.length v ∧ s.get [true,false,false] = G R.length ∧ s.get [false,true,false] = G (i : Nat))) (p:=kpB a R) R.length (fun i hi hp => (b0 hi).1 hp) (fun i hi hp => (b0 hi).2 hp) (by simp) _ 0 (by omega) hk
    clear oF k gF o kH gH g b0 hk
    generalize R.length = n at *
    refine Tr.w fun s1 H1 hp _ kR => ?_
    obtain ⟨rfl,rfl⟩:=hp
    have q : True:=trivial
    refine W.seq (W.chunk ?_)
    simp (disch:=first|omega|exact zE rfl|exact zO|exact zL rfl) [c78_o0,zG,q,hH]
    refine W.assoc ?_
    refine W.seq (W.chunk ?_)
    simp (disch:=first|omega|exact zE rfl|exact zO|exact zL rfl) [c78_o1,zG,q]
    refine W.seq (W.block ?_)
    refine W.use (l0) (by simp (disch:=first|omega|exact zE rfl|exact zO|exact zL rfl) [zG,q]) fun s1 H1 hp => ?_
    try simp only [zW,if_true]
    exact kR _ _ hp
  · have fin : Tr tbl J (.trim [[false],[true],[false,false,false],[true,false,false],[false,true,false]] c78_b0) (fun s h => h = H ∧ s.get [false] = .slice b 0 R.length v ∧ s.get [true] = .ptr H0.size 0 3 ∧ s.get [false,false,false] = .slice b 0 R.length v ∧ s.get [true,false,false] = G R.length ∧ s.get [false,true,false] = G (R.length : Nat)) (.exit 0) (fun s h => h = H):=by
      clear b0 gS gH
      generalize R.length = n at *
      refine Tr.w fun s1 H1 hp _ kR => W.trim ?_
      obtain ⟨rfl,q⟩:=hp
      refine W.seq (W.chunk ?_)
      simp (disch:=first|omega|exact zE rfl|exact zO|exact zL rfl) [c78_o2,zG,q]
      refine W.seq (W.chunk ?_)
      simp (disch:=first|omega|exact zE rfl|exact zO|exact zL rfl) [zG,q]
      exact kR _ _ rfl
    have l0 : Tr tbl J c78_l0 (fun s h => h = H ∧ s.get [false] = .slice b 0 R.length v ∧ s.get [true] = .ptr H0.size 0 3 ∧ s.get [false,false,false] = .slice b 0 R.length v ∧ s.get [true,false,false] = G R.length ∧ s.get [false,true,false] = G ((0 : Nat) : Int)) (.exit 0) (fun s h => h = H) :=
      Tr.allT (P:=fun i => (fun s h => h = H ∧ s.get [false] = .slice b 0 R.length v ∧ s.get [true] = .ptr H0.size 0 3 ∧ s.get [false,false,false] = .slice b 0 R.length v ∧ s.get [true,false,false] = G R.length ∧ s.get [false,true,false] = G (i : Nat))) (p:=kpB a R) R.length (fun i hi hp => (b0 hi).1 hp) fin (by simp) _ 0 (by omega) hk
    clear oF k gF o kH gH g b0 hk fin
    generalize R.length = n at *
    refine Tr.w fun s1 H1 hp _ kR => ?_
    obtain ⟨rfl,rfl⟩:=hp
    have q : True:=trivial
    refine W.seq (W.chunk ?_)
    simp (disch:=first|omega|exact zE rfl|exact zO|exact zL rfl) [c78_o0,zG,q,hH]
    refine W.assoc ?_
    refine W.seq (W.chunk ?_)
    simp (disch:=first|omega|exact zE rfl|exact zO|exact zL rfl) [c78_o1,zG,q]
    refine W.seq (W.block ?_)
    refine W.use (l0) (by simp (disch:=first|omega|exact zE rfl|exact zO|exact zL rfl) [zG,q]) fun s1 H1 hp => ?_
    obtain rfl:=hp
    try simp only [zW,if_true]
    refine W.seq (W.chunk ?_)
    simp (disch:=first|omega|exact zE rfl|exact zO|exact zL rfl) [c78_o7,zG,q]
    refine W.ret ?_
    try simp only [zW,if_true]
    exact kR _ _ (by simp [T.get])
end
structure AWS where
  a : AG
  m : Nat
  R : List (List Nat)
  b : Nat
  v : Nat
def Ok78 (b : AWS) (h : Heap) : Prop:=OkG b.a h ∧ WS b.a b.m b.R ∧ h.get b.b = .cells 1 b.v (wsL b.R)
def Pre78 (b : AWS) (args : List AV) (h : Heap) : Prop:=Ok78 b h ∧ args = [b.a.v,.slice b.b 0 b.R.length b.v]
def Post78 (b : AWS) (h : Heap) (v : AV) (own : List AObj) : Prop:=v = .bool (kpS b.a b.R) ∧ own = []
noncomputable def T68 : CallF:=addK tbl T67 78 Pre78 Post78
theorem t68 : Sound Go.Proofs.Try.prog T68:=Sound.addK follows ok t67 (by decide) _ _
theorem k89_67 : KW 89 T67:=fun h a w o hw lw => by
  rw [show T67 89 [a.v,.str (stW w)] h = T13 89 [a.v,.str (stW w)] h from by simp (disch:=decide) only [T14,T15,T16,T17,T18,T19,T20,T21,T22,T23,T24,T25,T26,T27,T28,T29,T30,T31,T32,T33,T34,T35,T36,T37,T38,T39,T40,T41,T42,T43,T44,T45,T46,T47,T48,T49,T50,T51,T52,T53,T54,T55,T56,T57,T58,T59,T60,T61,T62,T63,T64,T65,T66,T67,addI_ne,addX_ne,addV_ne,addK_ne]]; exact k89 h a w o hw lw
theorem k90_67 : KB 90 T67:=fun h a s t o hs ht ls lt => by
  rw [show T67 90 [a.v,.str (stW s),.str (stW t)] h = T15 90 [a.v,.str (stW s),.str (stW t)] h from by simp (disch:=decide) only [T16,T17,T18,T19,T20,T21,T22,T23,T24,T25,T26,T27,T28,T29,T30,T31,T32,T33,T34,T35,T36,T37,T38,T39,T40,T41,T42,T43,T44,T45,T46,T47,T48,T49,T50,T51,T52,T53,T54,T55,T56,T57,T58,T59,T60,T61,T62,T63,T64,T65,T66,T67,addI_ne,addX_ne,addV_ne,addK_ne]]; exact k90 h a s t o hs ht ls lt
abbrev K78 (J : CallF) : Prop:=∀ (h : Heap) (a : AG) (m : Nat) (R : List (List Nat)) (b v : Nat),OkG a h → WS a m R → h.get b = .cells 1 v (wsL R) → J 78 [a.v,.slice b 0 R.length v] h = some (.bool (kpS a R),[],false)
theorem k78 : K78 T68:=fun h a m R b v o k g => by
  obtain ⟨v,own,e,rfl,rfl⟩:=addK_some (Pre:=Pre78) (Post:=Post78) (fun b args h hp => by
    obtain ⟨⟨o,k,g⟩,rfl⟩:=hp
    exact ⟨_,_,c78_ok T67 k89_67 k90_67 (fun _ _ => by simp (disch:=decide) only [T1,T2,T3,T4,T5,T6,T7,T8,T9,T10,T11,T12,T13,T14,T15,T16,T17,T18,T19,T20,T21,T22,T23,T24,T25,T26,T27,T28,T29,T30,T31,T32,T33,T34,T35,T36,T37,T38,T39,T40,T41,T42,T43,T44,T45,T46,T47,T48,T49,T50,T51,T52,T53,T54,T55,T56,T57,T58,T59,T60,T61,T62,T63,T64,T65,T66,T67,addI_ne,addX_ne,addV_ne,addK_ne]; rfl) h o k g,rfl,rfl⟩) ⟨a,m,R,b,v⟩ _ h ⟨⟨o,k,g⟩,rfl⟩
  exact e
theorem goodB_of {qq : Nat} {u : UInt8} (q3 : qq ≤ 3) (h : goodB qq u = true) : ∃ c,c < qq ∧ UInt8.ofNat (48 + c) = u:=by
  unfold goodB at h
  rw [decide_eq_true_eq] at h
  refine ⟨u.toNat - 48,by omega,?_⟩
  rw [show 48 + (u.toNat - 48) = u.toNat by omega]
  exact UInt8.ofNat_toNat
theorem goodS_of {qq : Nat} (q3 : qq ≤ 3) : ∀ {s : List UInt8},goodS qq s = true → ∃ w,stW w = s ∧ ∀ c ∈ w,c < qq
  | [],_ => ⟨[],rfl,fun c h => (by cases h)⟩
  | u :: s,h => by
    unfold goodS at h
    rw [List.all_cons,Bool.and_eq_true] at h
    obtain ⟨c,h1,h2⟩:=goodB_of q3 h.1
    obtain ⟨w,h3,h4⟩:=goodS_of q3 (s:=s) h.2
    refine ⟨c :: w,?_,fun d hd => ?_⟩
    · show UInt8.ofNat (48 + c) :: stW w = u :: s
      rw [h2,h3]
    · rcases List.mem_cons.1 hd with rfl | hd
      · exact h1
      · exact h4 d hd
theorem words_all {qq m : Nat} (q3 : qq ≤ 3) : ∀ {L : List (List UInt8)},(∀ s ∈ L,s.length = m ∧ goodS qq s = true) → ∃ R : List (List Nat),L = R.map stW ∧ ∀ w ∈ R,w.length = m ∧ ∀ c ∈ w,c < qq
  | [],_ => ⟨[],rfl,fun w h => (by cases h)⟩
  | s :: L,h => by
    obtain ⟨h1,h2⟩:=h s (by simp)
    obtain ⟨w,h3,h4⟩:=goodS_of q3 h2
    obtain ⟨R,h5,h6⟩:=words_all q3 (L:=L) fun t ht => h t (by simp [ht])
    refine ⟨w :: R,by rw [h5,List.map_cons,h3],fun v hv => ?_⟩
    rcases List.mem_cons.1 hv with rfl | hv
    · exact ⟨by rw [← h1,← h3,stW_len],h4⟩
    · exact h6 v hv
theorem isS_words {qq : Nat} (q3 : qq ≤ 3) {L : List (List UInt8)} (h : isS qq L = true) : ∃ (m : Nat) (R : List (List Nat)),L = R.map stW ∧ (∀ w ∈ R,w.length = m ∧ ∀ c ∈ w,c < qq) ∧ 1 ≤ m ∧ m ≤ 5 ∧ 1 ≤ R.length ∧ R.length ≤ 40 ∧ (L.getD 0 []).length = m:=by
  unfold isS at h
  simp only [Bool.and_eq_true,decide_eq_true_eq] at h
  obtain ⟨⟨h1,h2⟩,h3⟩:=h
  obtain ⟨R,h4,h5⟩:=words_all (m:=(L.getD 0 []).length) q3 fun s hs => by
    have:=List.all_eq_true.1 h3 s hs
    unfold rowOkS at this
    simpa only [Bool.and_eq_true,decide_eq_true_eq] using this
  have hl : R.length = L.length:=by rw [h4,List.length_map]
  exact ⟨_,R,h4,h5,h2.1,h2.2,by omega,by omega,rfl⟩
theorem goodS_st {qq : Nat} {w : List Nat} (q3 : qq ≤ 3) (h : ∀ c ∈ w,c < qq) : goodS qq (stW w) = true:=by
  unfold goodS stW
  rw [List.all_eq_true]
  intro u hu
  obtain ⟨c,hc,rfl⟩:=List.mem_map.1 hu
  have:=h c hc
  unfold goodB
  rw [decide_eq_true_eq,UInt8.toNat_ofNat']
  omega
theorem isS_of {qq m : Nat} (q3 : qq ≤ 3) {R : List (List Nat)} (h : ∀ w ∈ R,w.length = m ∧ ∀ c ∈ w,c < qq) (h1 : 1 ≤ m) (h2 : m ≤ 5) (h3 : 1 ≤ R.length) (h4 : R.length ≤ 40) : isS qq (R.map stW) = true:=by
  have h0 : ((R.map stW).getD 0 []).length = m:=by
    rw [List.getD_eq_getElem?_getD,List.getElem?_map,List.getElem?_eq_getElem (by omega)]
    show (stW R[0]).length = m
    rw [stW_len]
    exact (h _ (List.getElem_mem _)).1
  unfold isS
  rw [h0,List.length_map,decide_eq_true ⟨h3,h4⟩,decide_eq_true ⟨h1,h2⟩,Bool.true_and,Bool.true_and,List.all_eq_true]
  intro s hs
  obtain ⟨w,hw,rfl⟩:=List.mem_map.1 hs
  unfold rowOkS
  rw [h0,stW_len,(h w hw).1,decide_eq_true rfl,Bool.true_and]
  exact goodS_st q3 (h w hw).2
def Post45 (a : AR) (L : List (List UInt8)) (v : AV) (own : List AObj) : Prop:=own = [] ∧ ((a.ru && isS a.q.toNat L) = false → v = .tup [.bool false,G 2]) ∧ ((a.ru && isS a.q.toNat L) = true → ∀ R : List (List Nat),L = R.map stW → (∀ w ∈ R,∀ c ∈ w,c < a.q.toNat) → v = .tup [.bool (kpS a.g R),G 0])
section
variable {a : AR} {x : AV} {L : List (List UInt8)}
theorem stW_map_inj {R R' : List (List Nat)} (h : ∀ w ∈ R,∀ c ∈ w,c < 3) (h' : ∀ w ∈ R',∀ c ∈ w,c < 3) (e : R.map stW = R'.map stW) : R = R':=by
  induction R generalizing R' with
  | nil =>
    cases R' with
    | nil => rfl
    | cons b R' => simp at e
  | cons b R ih =>
    cases R' with
    | nil => simp at e
    | cons b' R' =>
      simp only [List.map_cons,List.cons.injEq] at e
      rw [stW_inj (h b (by simp)) (h' b' (by simp)) e.1,ih (fun w hw => h w (by simp [hw])) (fun w hw => h' w (by simp [hw])) e.2]
set_option maxHeartbeats 1000000 in
theorem c45_ok (J : CallF) (k57 : KR 57 J) (k77 : K77 J) (k78 : K78 J) (hJ : ∀ a h,J 45 a h = none) (h : Heap) (o : OkR a h) (hx : EL h x (ss L)) (lL : L.length ≤ 1000000) (ls : ∀ s ∈ L,s.length ≤ 1000000) :
    ∃ v own,CallsTo tbl J 45 [a.v,x] h (v,own,false) ∧ Post45 a L v own:=by
  obtain ⟨Hs,hHs⟩ : ∃ H,(frameOf h).plus [.cells 0 3 [G a.q,a.x,a.y]] = H:=⟨_,rfl⟩
  have kHs : Kp (fun _ => False) (frameOf h) Hs:=by rw [← hHs]; exact Kp.plus _ _
  have oH : OkR a Hs:=OkR.kp (o.lo []) kHs
  have gS : Hs.get h.size = .cells 0 3 [G a.q,a.x,a.y]:=by rw [← hHs]; exact plus_at0 _ _ _ _ (frS h)
  have e57:=k57 Hs a oH
  have er : ruQ a.q a.B a.W = a.ru:=rfl
  rw [er] at e57
  have hxF : EL (frameOf h) x (ss L):=hx.lo []
  have hxH : EL Hs x (ss L):=by
    rcases hxF with h | ⟨b,v,e,g⟩
    · exact .inl h
    · exact .inr ⟨b,v,e,kHs.at g (by simp) id⟩
  have fz:=frS h
  have av : a.v = .agg [G a.q,a.x,a.y]:=rfl
  cases r : a.ru
  · have : CallsTo tbl J 45 [a.v,x] h (.tup [.bool false,G 2],[],false):=by
      refine Tr.fnv (cf:=c45) (e:=.ret) (s:=T.set (T.set .leaf [] a.v) [false] x) (by decide) rfl (hJ _ _) rfl rfl rfl (by simp) ?_
      refine Tr.post (Q:=(fun s h => s.get [true,false] = .bool false ∧ s.get [false,true] = G 2)) (fun s h q => by simp [c45,q]) ?_
      rw [r] at e57
      clear oH o hx hxF hxH ls kHs
      refine Tr.w fun s1 H1 hp _ kR => ?_
      obtain ⟨rfl,rfl⟩:=hp
      have q : True:=trivial
      refine W.seq (W.chunk ?_)
      simp (disch:=first|omega|exact zE rfl|exact zO|exact zL rfl) [c45_o0,zG,q,hHs]
      refine W.assoc ?_
      refine W.seq (W.chunk ?_)
      simp (disch:=first|omega|exact zE rfl|exact zO|exact zL rfl) [c45_o1,zG,q,fz,gS,e57]
      refine W.seq (W.chunk ?_)
      simp (disch:=first|omega|exact zE rfl|exact zO|exact zL rfl) [c45_o2,zG,q]
      exact kR _ _ (by simp [T.get])
    exact ⟨_,_,this,rfl,fun _ => rfl,fun e => (by rw [r] at e; simp at e)⟩
  · rw [r] at e57
    have e77:=k77 Hs ⟨a,x,L⟩ ⟨r,hxH,lL,ls⟩
    simp only at e77
    cases i : isS a.q.toNat L
    · have : CallsTo tbl J 45 [a.v,x] h (.tup [.bool false,G 2],[],false):=by
        refine Tr.fnv (cf:=c45) (e:=.ret) (s:=T.set (T.set .leaf [] a.v) [false] x) (by decide) rfl (hJ _ _) rfl rfl rfl (by simp) ?_
        refine Tr.post (Q:=(fun s h => s.get [true,false] = .bool false ∧ s.get [false,true] = G 2)) (fun s h q => by simp [c45,q]) ?_
        rw [i] at e77
        clear oH o hx hxF hxH ls kHs
        refine Tr.w fun s1 H1 hp _ kR => ?_
        obtain ⟨rfl,rfl⟩:=hp
        have q : True:=trivial
        refine W.seq (W.chunk ?_)
        simp (disch:=first|omega|exact zE rfl|exact zO|exact zL rfl) [c45_o0,zG,q,hHs]
        refine W.assoc ?_
        refine W.seq (W.chunk ?_)
        simp (disch:=first|omega|exact zE rfl|exact zO|exact zL rfl) [c45_o1,zG,q,fz,gS,e57,e77]
        refine W.seq (W.chunk ?_)
        simp (disch:=first|omega|exact zE rfl|exact zO|exact zL rfl) [c45_o2,zG,q]
        exact kR _ _ (by simp [T.get])
      exact ⟨_,_,this,rfl,fun _ => rfl,fun e => (by rw [i] at e; simp at e)⟩
    · have q3:=a.q3 r
      obtain ⟨m,R,rfl,hw,m1,m5,n1,n40,_⟩:=isS_words (by omega) i
      have ws : WS a.g m R:=⟨hw,by omega,by omega⟩
      have lw:=wsL_len R
      obtain ⟨_,e⟩ | ⟨b,v,rfl,g⟩:=hxH
      · rw [← ws_ss] at e
        have : (wsL R).length = 0:=by rw [e]; rfl
        omega
      rw [← ws_ss] at g
      have ls' : (ss (R.map stW)).length = R.length:=by simp
      rw [ls'] at e77
      have e78:=k78 Hs a.g m R b v (oH.g r) ws g
      rw [a.gv r,av] at e78
      rw [av] at e77
      have : CallsTo tbl J 45 [a.v,.slice b 0 R.length v] h (.tup [.bool (kpS a.g R),G 0],[],false):=by
        refine Tr.fnv (cf:=c45) (e:=.ret) (s:=T.set (T.set .leaf [] a.v) [false] (.slice b 0 R.length v)) (by decide) rfl (hJ _ _) rfl rfl rfl (by simp) ?_
        refine Tr.post (Q:=(fun s h => s.get [true,false] = .bool (kpS a.g R) ∧ s.get [false,true] = G 0)) (fun s h q => by simp [c45,q]) ?_
        rw [i] at e77
        clear oH o hx hxF ls kHs ws hw
        generalize kpS a.g R = z at *
        generalize R.length = n at *
        refine Tr.w fun s1 H1 hp _ kR => ?_
        obtain ⟨rfl,rfl⟩:=hp
        have q : True:=trivial
        refine W.seq (W.chunk ?_)
        simp (disch:=first|omega|exact zE rfl|exact zO|exact zL rfl) [c45_o0,zG,q,hHs]
        refine W.assoc ?_
        refine W.seq (W.chunk ?_)
        simp (disch:=first|omega|exact zE rfl|exact zO|exact zL rfl) [c45_o1,zG,q,fz,gS,e57,e77]
        refine W.seq (W.chunk ?_)
        simp (disch:=first|omega|exact zE rfl|exact zO|exact zL rfl) [c45_o2,zG,q]
        refine W.seq (W.chunk ?_)
        simp (disch:=first|omega|exact zE rfl|exact zO|exact zL rfl) [c45_o3,zG,q,fz,gS,e78]
        refine W.ret ?_
        try simp only [zW,if_true]
        exact kR _ _ (by simp [T.get])
      rw [ls'] at hx ⊢
      refine ⟨_,_,this,rfl,fun e => (by rw [r,i] at e; simp at e),fun _ R' e hR' => ?_⟩
      rw [stW_map_inj (fun w hw' c hc => by have:=(hw w hw').2 c hc; omega) (fun w hw' c hc => by have:=hR' w hw' c hc; omega) e]
end
structure A45 where
  a : AR
  x : AV
  L : List (List UInt8)
def Ok45 (b : A45) (h : Heap) : Prop:=OkR b.a h ∧ EL h b.x (ss b.L) ∧ b.L.length ≤ 1000000 ∧ ∀ s ∈ b.L,s.length ≤ 1000000
def Pre45 (b : A45) (args : List AV) (h : Heap) : Prop:=Ok45 b h ∧ args = [b.a.v,b.x]
noncomputable def T69 : CallF:=addK tbl T68 45 Pre45 (fun b _ v own => Post45 b.a b.L v own)
theorem t69 : Sound Go.Proofs.Try.prog T69:=Sound.addK follows ok t68 (by decide) _ _
theorem k57_68 : KR 57 T68:=fun h a o => by
  rw [show T68 57 [.agg [G a.q,a.x,a.y]] h = T10 57 [.agg [G a.q,a.x,a.y]] h from by simp (disch:=decide) only [T11,T12,T13,T14,T15,T16,T17,T18,T19,T20,T21,T22,T23,T24,T25,T26,T27,T28,T29,T30,T31,T32,T33,T34,T35,T36,T37,T38,T39,T40,T41,T42,T43,T44,T45,T46,T47,T48,T49,T50,T51,T52,T53,T54,T55,T56,T57,T58,T59,T60,T61,T62,T63,T64,T65,T66,T67,T68,addI_ne,addX_ne,addV_ne,addK_ne]]; exact k57 h a o
theorem k77_68 : K77 T68:=fun h b o => by
  rw [show T68 77 [b.a.v,b.x] h = T67 77 [b.a.v,b.x] h from by simp (disch:=decide) only [T68,addI_ne,addX_ne,addV_ne,addK_ne]]; exact k77 h b o
abbrev K45 (J : CallF) : Prop:=∀ (h : Heap) (b : A45),Ok45 b h → ∃ v own,J 45 [b.a.v,b.x] h = some (v,own,false) ∧ Post45 b.a b.L v own
theorem k45 : K45 T69:=fun h b o => by
  obtain ⟨v,own,e,l⟩:=addK_some (Pre:=Pre45) (Post:=fun b _ v own => Post45 b.a b.L v own) (fun b args h hp => by
    obtain ⟨⟨h1,h2,h3,h4⟩,rfl⟩:=hp
    exact c45_ok T68 k57_68 k77_68 k78 (fun _ _ => by simp (disch:=decide) only [T1,T2,T3,T4,T5,T6,T7,T8,T9,T10,T11,T12,T13,T14,T15,T16,T17,T18,T19,T20,T21,T22,T23,T24,T25,T26,T27,T28,T29,T30,T31,T32,T33,T34,T35,T36,T37,T38,T39,T40,T41,T42,T43,T44,T45,T46,T47,T48,T49,T50,T51,T52,T53,T54,T55,T56,T57,T58,T59,T60,T61,T62,T63,T64,T65,T66,T67,T68,addI_ne,addX_ne,addV_ne,addK_ne]; rfl) h h1 h2 h3 h4) b _ h ⟨o,rfl⟩
  exact ⟨v,own,e,l⟩
end Go.Proofs.Ytljgfdamdcikgaa.Ev
set_option linter.unusedVariables false
set_option linter.unusedSimpArgs false
namespace Go.Proofs.Ytljgfdamdcikgaa.Ev
open Go Go.AEv
def ge (g : List (List Nat)) (i j : Nat) : Nat:=(g.getD i []).getD j 0
def pf (f : Nat → Nat) (a : Nat) : Nat:=((List.range a).map f).sum
section
variable {S : List (List Nat)}
def eS (S : List (List Nat)) (a b : Nat) : Nat:=(S.getD a []).getD b 0
def lS (S : List (List Nat)) (a : Nat) : Nat:=(S.getD a []).length
def wc (S : List (List Nat)) (a c d : Nat) : Nat:=pf (fun d => if eS S c d = a then 1 else 0) d
def w2 (S : List (List Nat)) (a b : Nat) : Nat:=pf (fun b => lS S (eS S a b)) b
def w3 (S : List (List Nat)) (a b : Nat) : Nat:=pf (fun b => if eS S a b = a then 1 else 0) b
variable (nd : ∀ i,(S.getD i []).Nodup)
include nd
omit nd in
end
structure BdS (S : List (List Nat)) : Prop where
  l : ∀ a,lS S a ≤ 1000
  n : S.length ≤ 1000
section
variable {S : List (List Nat)} (o : BdS S)
include o
omit o in
omit o in
end
theorem ft_end (p : Nat → Bool) (w : Nat → Nat) : ∀ d i,ft p w (d + 1) i = ft p w d i + if p (i + d) = true then w (i + d) else 0
  | 0,i => by simp [ft]
  | d + 1,i => by
    show (if p i = true then w i else 0) + ft p w (d + 1) (i + 1) = ((if p i = true then w i else 0) + ft p w d (i + 1)) + _
    rw [ft_end p w d (i + 1),show i + 1 + d = i + (d + 1) by omega]
    omega
theorem ft_mono (p : Nat → Bool) (w : Nat → Nat) : ∀ e d i,ft p w d i ≤ ft p w (d + e) i
  | 0,d,i => Nat.le_refl _
  | e + 1,d,i => by
    rw [show d + (e + 1) = (d + e) + 1 by omega,ft_end]
    exact Nat.le_trans (ft_mono p w e d i) (Nat.le_add_right _ _)
def ix (S : List (List Nat)) : Int → List Nat → Nat
  | _,[] => 0
  | now,c :: L => ft (pN S now) (cnt S L.length) c 0 + ix S (c : Int) L
def VC (S : List (List Nat)) : Int → List Nat → Prop
  | _,[] => True
  | now,c :: L => c < S.length ∧ pN S now c = true ∧ VC S (c : Int) L
section
variable {S : List (List Nat)}
theorem ft_nw (hs : Srt S) (now : Int) (w : Nat → Nat) : ft (pN S now) w S.length 0 = ((nwL S now).map w).sum:=by
  rw [ft_sum,nw_filter hs]
theorem nw_cnt (c k : Nat) : ((nwL S (c : Int)).map (cnt S k)).sum = cnt S (k + 1) c:=by
  unfold nwL
  rw [if_neg (by omega),Int.toNat_natCast]; rfl
theorem ix_lt (hs : Srt S) : ∀ {L : List Nat} {c : Nat} {now : Int},VC S now (c :: L) → ix S now (c :: L) < ft (pN S now) (cnt S L.length) S.length 0
  | [],c,now,h => by
    obtain ⟨h1,h2,_⟩:=h
    show ft (pN S now) (cnt S 0) c 0 + 0 < _
    have e:=ft_end (pN S now) (cnt S 0) c 0
    rw [Nat.zero_add,if_pos h2] at e
    have:=ft_mono (pN S now) (cnt S 0) (S.length - (c + 1)) (c + 1) 0
    rw [show c + 1 + (S.length - (c + 1)) = S.length by omega] at this
    have o : cnt S 0 c = 1:=rfl
    have l0 : ([] : List Nat).length = 0:=rfl
    rw [l0]
    omega
  | d :: L,c,now,h => by
    obtain ⟨h1,h2,h3⟩:=h
    have ih:=ix_lt hs h3
    rw [ft_nw hs,nw_cnt] at ih
    have e:=ft_end (pN S now) (cnt S (L.length + 1)) c 0
    rw [Nat.zero_add,if_pos h2] at e
    have:=ft_mono (pN S now) (cnt S (L.length + 1)) (S.length - (c + 1)) (c + 1) 0
    rw [show c + 1 + (S.length - (c + 1)) = S.length by omega] at this
    show ft (pN S now) (cnt S (L.length + 1)) c 0 + ix S (c : Int) (d :: L) < ft (pN S now) (cnt S (L.length + 1)) S.length 0
    omega
theorem fd_ft {p : Nat → Bool} {w : Nat → Nat} : ∀ {d i k : Nat},k < ft p w d i → ∃ e,e < d ∧ (fd p w d i k).1 = i + e ∧ p (i + e) = true ∧ k = ft p w e i + (fd p w d i k).2 ∧ (fd p w d i k).2 < w (i + e)
  | 0,i,k,h => by simp [ft] at h
  | d + 1,i,k,h => by
    unfold ft at h
    unfold fd
    cases hp : p i
    · rw [hp,if_neg (by simp),Nat.zero_add] at h
      rw [if_neg (by simp)]
      obtain ⟨e,h1,h2,h3,h4,h5⟩:=fd_ft h
      refine ⟨e + 1,by omega,by rw [h2]; omega,by rw [show i + (e + 1) = i + 1 + e by omega]; exact h3,?_,by rw [show i + (e + 1) = i + 1 + e by omega]; exact h5⟩
      unfold ft
      rw [hp,if_neg (by simp),Nat.zero_add]
      exact h4
    · rw [hp,if_pos rfl] at h
      rw [if_pos rfl]
      by_cases e : k < w i
      · rw [if_pos e]
        exact ⟨0,by omega,rfl,hp,by simp [ft],e⟩
      · rw [if_neg e]
        obtain ⟨e,h1,h2,h3,h4,h5⟩:=fd_ft (p:=p) (w:=w) (d:=d) (i:=i + 1) (k:=k - w i) (by omega)
        refine ⟨e + 1,by omega,by rw [h2]; omega,by rw [show i + (e + 1) = i + 1 + e by omega]; exact h3,?_,by rw [show i + (e + 1) = i + 1 + e by omega]; exact h5⟩
        unfold ft
        rw [hp,if_pos rfl]
        omega
theorem ix_itm (hs : Srt S) : ∀ {j : Nat} {now : Int} {k : Nat},(0 < j ∧ k < ((nwL S now).map (cnt S (j - 1))).sum) ∨ (j = 0 ∧ k = 0) → ix S now (itm S j (nwL S now) k) = k ∧ VC S now (itm S j (nwL S now) k)
  | 0,now,k,h => by
    refine ⟨?_,trivial⟩
    rcases h with h | h
    · exact absurd h.1 (by omega)
    · exact h.2.symm
  | j + 1,now,k,h => by
    have h:=(h.resolve_right (fun e => by cases e.1)).2
    rw [Nat.add_sub_cancel,← ft_nw hs] at h
    obtain ⟨e,h1,h2,h3,h4,h5⟩:=fd_ft h
    rw [fd_pk h,nw_filter hs] at h2 h4 h5
    rw [Nat.zero_add] at h2 h3 h5
    have hi : itm S (j + 1) (nwL S now) k = (pk (cnt S j) (nwL S now) k).1 :: itm S j (S.getD (pk (cnt S j) (nwL S now) k).1 []) (pk (cnt S j) (nwL S now) k).2:=rfl
    rw [hi,h2]
    have hnw : S.getD e [] = nwL S (e : Int):=by unfold nwL; rw [if_neg (by omega),Int.toNat_natCast]
    rw [hnw]
    have ih:=ix_itm hs (j:=j) (now:=(e : Int)) (k:=(pk (cnt S j) (nwL S now) k).2) (by
      cases j with
      | zero =>
        have : cnt S 0 e = 1:=rfl
        exact .inr ⟨rfl,by omega⟩
      | succ j =>
        refine .inl ⟨by omega,?_⟩
        rw [Nat.add_sub_cancel,nw_cnt]
        exact h5)
    refine ⟨?_,h1,h3,ih.2⟩
    show ft (pN S now) (cnt S (itm S j (nwL S (e : Int)) (pk (cnt S j) (nwL S now) k).2).length) e 0 + ix S (e : Int) _ = k
    rw [itm_len,ih.1]
    exact h4.symm
theorem itm_before (hs : Srt S) : ∀ {j : Nat} {now : Int} {k k' : Nat},0 < j → k < k' → k' < ((nwL S now).map (cnt S (j - 1))).sum → ∃ t,t < j ∧ (∀ u,u < t → (itm S j (nwL S now) k)[u]? = (itm S j (nwL S now) k')[u]?) ∧ ∃ x y,(itm S j (nwL S now) k)[t]? = some x ∧ (itm S j (nwL S now) k')[t]? = some y ∧ x < y
  | 0,now,k,k',h0,_,_ => by omega
  | j + 1,now,k,k',_,hk,hk' => by
    rw [Nat.add_sub_cancel,← ft_nw hs] at hk'
    obtain ⟨e,h1,h2,h3,h4,h5⟩:=fd_ft (Nat.lt_trans hk hk')
    obtain ⟨e',g1,g2,g3,g4,g5⟩:=fd_ft hk'
    rw [fd_pk (Nat.lt_trans hk hk'),nw_filter hs] at h2 h4 h5
    rw [fd_pk hk',nw_filter hs] at g2 g4 g5
    rw [Nat.zero_add] at h2 g2
    have hi : ∀ k,itm S (j + 1) (nwL S now) k = (pk (cnt S j) (nwL S now) k).1 :: itm S j (S.getD (pk (cnt S j) (nwL S now) k).1 []) (pk (cnt S j) (nwL S now) k).2:=fun k => rfl
    rw [hi k,hi k',h2,g2]
    rw [Nat.zero_add] at h5 g5
    rcases Nat.lt_trichotomy e e' with c | c | c
    · exact ⟨0,by omega,fun u hu => absurd hu (by omega),e,e',rfl,rfl,c⟩
    · subst c
      have hnw : S.getD e [] = nwL S (e : Int):=by unfold nwL; rw [if_neg (by omega),Int.toNat_natCast]
      rw [hnw]
      cases j with
      | zero =>
        have : cnt S 0 e = 1:=rfl
        omega
      | succ j =>
        obtain ⟨t,t1,t2,x,y,t3,t4,t5⟩:=itm_before hs (j:=j + 1) (now:=(e : Int)) (k:=(pk (cnt S (j + 1)) (nwL S now) k).2) (k':=(pk (cnt S (j + 1)) (nwL S now) k').2) (by omega) (by omega) (by rw [Nat.add_sub_cancel,nw_cnt]; exact g5)
        refine ⟨t + 1,by omega,fun u hu => ?_,x,y,t3,t4,t5⟩
        cases u with
        | zero => rfl
        | succ u => exact t2 u (by omega)
    · have m1:=ft_mono (pN S now) (cnt S j) (e - (e' + 1)) (e' + 1) 0
      rw [show e' + 1 + (e - (e' + 1)) = e by omega,ft_end,Nat.zero_add] at m1
      rw [Nat.zero_add] at g3
      rw [if_pos g3] at m1
      omega
end
end Go.Proofs.Ytljgfdamdcikgaa.Ev
set_option linter.unusedVariables false
set_option linter.unusedSimpArgs false
namespace Go.Proofs.Ytljgfdamdcikgaa.Ev
open Go Go.AEv
attribute [local simp] evFunc initS evOps_c evTrim_c evSkip_c evExit_c evRet_c evSeq_c evCond_c evBlock_c evDraw_c runOps_n runOps_c exec_n exec_g pure1_c act AOpd.ev T.get T.set T.put evBin evUn forceT_eq forceV_eq forceL_eq evRess evRes one keep runFP_n runFP_c app_none AV.flats AV.flat came_some List.getElem?_cons_zero List.getElem?_cons_succ beqT wrapI idxI tdivI tmodI decT decF ibT ibF inT inF evScope_c if_pos if_neg Cm_some thenW_n thenW_e thenW_r blkW_n blkW_e blkW_r goI kn putAt AV.cells fillA loadA takeA mk Eff.isAll Eff.isNone Eff.commutes Eff.spares okPair apart eqAgg fits LK.fits allEq aveq eqk mmA
section
variable {S : List (List Nat)} {p N : Nat}
set_option maxHeartbeats 1000000 in
theorem c44_l0_ok (J : CallF) (k70 : K70 J) {H : Heap} (lf : LF H p S) (os : OkS S) {bo br bs v k i : Nat} {ros : List AV} (g1 : H.get bo = .cells 1 N ros) (lo : ros.length = N) (hk : k + 1 + i = N) (er : ros[k]? = some (.slice br 0 S.length S.length)) (gr : H.get br = .cells 1 S.length (gn (rowC S k))) (h40 : N ≤ 40) {now : Int} (hw : now = -1 ∨ ∃ c : Nat,now = c ∧ c < S.length) {c o : Nat} (hc : c < S.length) (bd : o + ft (pN S now) (cnt S k) c 0 ≤ 1152921504606846976) :
    Tr tbl J c44_l0 (fun s h => h = H ∧ s.get [false] = .slice bs 0 N v ∧ s.get [true,true] = .ptr p 0 3 ∧ s.get [false,false,false] = .slice bo 0 N N ∧ s.get [false,true,false] = G (o + ft (pN S now) (cnt S k) 0 0 : Nat) ∧ s.get [true,true,false] = G now ∧ s.get [false,false,true] = G (i : Nat) ∧ s.get [false,true,true] = G (c : Nat) ∧ s.get [false,false,true,true,false] = .slice bs 0 N v ∧ s.get [true,false,true,true,false] = G N ∧ s.get [false,true,true,true,false] = G (i : Nat) ∧ s.get [true,false,false,true,true] = G (c : Nat) ∧ s.get [false,true,false,true,true] = G ((0 : Nat) : Int)) (.exit 2)
      (fun s h => h = H ∧ s.get [false] = .slice bs 0 N v ∧ s.get [true,true] = .ptr p 0 3 ∧ s.get [false,false,false] = .slice bo 0 N N ∧ s.get [false,true,false] = G (o + ft (pN S now) (cnt S k) c 0 : Nat) ∧ s.get [false,true,true] = G (c : Nat) ∧ s.get [false,false,true,true,false] = .slice bs 0 N v ∧ s.get [true,false,true,true,false] = G N ∧ s.get [false,true,true,true,false] = G (i : Nat)):=by
  have n2:=os.n
  refine Tr.rounds (P:=fun j => (fun s h => h = H ∧ s.get [false] = .slice bs 0 N v ∧ s.get [true,true] = .ptr p 0 3 ∧ s.get [false,false,false] = .slice bo 0 N N ∧ s.get [false,true,false] = G (o + ft (pN S now) (cnt S k) j 0 : Nat) ∧ s.get [true,true,false] = G now ∧ s.get [false,false,true] = G (i : Nat) ∧ s.get [false,true,true] = G (c : Nat) ∧ s.get [false,false,true,true,false] = .slice bs 0 N v ∧ s.get [true,false,true,true,false] = G N ∧ s.get [false,true,true,true,false] = G (i : Nat) ∧ s.get [true,false,false,true,true] = G (c : Nat) ∧ s.get [false,true,false,true,true] = G (j : Nat))) (M:=c) (fun j hj => ?_) ?_ (by simp) 0 (by omega)
  · have hjS : j < S.length:=by omega
    have er':=getI er
    have e1:=gn_at (L:=rowC S k) (i:=j) (by rw [rowC_len]; exact hjS)
    rw [rowC_at S k hjS] at e1
    have e1':=getI e1
    have l1 : (gn (rowC S k)).length = S.length:=by rw [gn_len,rowC_len]
    have tst : (now = -1 ∧ pN S now j = true) ∨ ∃ (c : Nat) (x : AV) (mb nb : Nat) (rs : List AV) (y : AV),now = c ∧ c < S.length ∧ H.get p = .cells 0 3 [x,.map mb,.slice nb 0 S.length S.length] ∧ H.get nb = .cells 1 S.length rs ∧ rs[c]? = some y ∧ J 70 [y,G j] H = some (.bool (pN S now j),[],false):=by
      rcases hw with rfl | ⟨c,rfl,hc⟩
      · exact .inl ⟨rfl,rfl⟩
      · obtain ⟨x,mb,nb,rs,f1,_,f3,f4⟩:=lf
        obtain ⟨y,ey,rv⟩:=f4 c hc
        refine .inr ⟨c,x,mb,nb,rs,y,rfl,hc,f1,f3,ey,?_⟩
        rw [k70 H y j (S.getD c []) rv (by have:=os.len c; omega)]
        have e : pN S (c : Int) j = decide (j ∈ S.getD c []):=by
          unfold pN
          rw [show decide ((c : Int) < 0) = false from decide_eq_false (by omega),Bool.false_or,Int.toNat_natCast]
        rw [e]
    have fe:=ft_end (pN S now) (cnt S k) j 0
    rw [Nat.zero_add] at fe
    have mo:=ft_mono (pN S now) (cnt S k) (c - (j + 1)) (j + 1) 0
    rw [show j + 1 + (c - (j + 1)) = c by omega] at mo
    rw [fe] at mo ⊢
    have i1 : ((i : Nat) : Int) = i:=rfl
    have kk : ((N : Int) - 1 - (i : Int)) = (k : Int):=by omega
    clear lf os hw fe
    generalize ft (pN S now) (cnt S k) c 0 = fc at *
    generalize ft (pN S now) (cnt S k) j 0 = fj at *
    generalize pN S now j = pp at *
    generalize cnt S k j = w at *
    generalize gn (rowC S k) = cs at *
    cases pp
    · rw [if_neg (by simp),Nat.add_zero] at mo ⊢
      obtain ⟨d,x,mb,nb,rs,y,rfl,hd,f1,f3,ey,k7⟩:=tst.resolve_left (fun e => by cases e.2)
      have ey':=getI ey
      have lrs : d < rs.length:=(List.getElem?_eq_some_iff.1 ey).1
      clear tst
      generalize S.length = n at *
      refine Tr.w fun s1 H1 hp _ kR => W.trim ?_
      obtain ⟨rfl,q⟩:=hp
      refine W.seq (W.chunk ?_)
      simp (disch:=first|omega|exact zE rfl|exact zO|exact zL rfl) [c44_o15,zG,q]
      refine W.seq (W.chunk ?_)
      simp (disch:=first|omega|exact zE rfl|exact zO|exact zL rfl) [zG,q]
      refine W.seq (W.block ?_)
      refine W.seq (W.chunk ?_)
      simp (disch:=first|omega|exact zE rfl|exact zO|exact zL rfl) [c44_o16,zG,q]
      refine W.seq (W.chunk ?_)
      simp (disch:=first|omega|exact zE rfl|exact zO|exact zL rfl) [c44_o17,zG,q,f1,f3,ey,ey',k7]
      refine W.chunk ?_
      simp (disch:=first|omega|exact zE rfl|exact zO|exact zL rfl) [c44_o18,zG,q]
      refine W.chunk ?_
      simp (disch:=first|omega|exact zE rfl|exact zO|exact zL rfl) [c44_o19,zG,q]
      exact kR _ _ (by simp [T.get,q])
    · rw [if_pos rfl] at mo ⊢
      have nn : ((o + (fj + w) : Nat) : Int) = ((o + fj : Nat) : Int) + w:=by omega
      rcases tst with ⟨rfl,_⟩ | ⟨d,x,mb,nb,rs,y,rfl,hd,f1,f3,ey,k7⟩
      · generalize S.length = n at *
        rw [nn]
        generalize o + fj = of at *
        refine Tr.w fun s1 H1 hp _ kR => W.trim ?_
        obtain ⟨rfl,q⟩:=hp
        refine W.seq (W.chunk ?_)
        simp (disch:=first|omega|exact zE rfl|exact zO|exact zL rfl) [c44_o15,zG,q]
        refine W.seq (W.chunk ?_)
        simp (disch:=first|omega|exact zE rfl|exact zO|exact zL rfl) [zG,q]
        refine W.seq (W.block ?_)
        refine W.seq (W.chunk ?_)
        simp (disch:=first|omega|exact zE rfl|exact zO|exact zL rfl) [c44_o16,zG,q]
        refine W.seq (W.chunk ?_)
        simp (disch:=first|omega|exact zE rfl|exact zO|exact zL rfl) [c44_o17,zG,q]
        refine W.chunk ?_
        simp (disch:=first|omega|exact zE rfl|exact zO|exact zL rfl) [c44_o18,zG,q,g1,lo,er,er',gr,e1,e1',l1,kk]
        refine W.chunk ?_
        simp (disch:=first|omega|exact zE rfl|exact zO|exact zL rfl) [c44_o19,zG,q]
        exact kR _ _ (by simp [T.get,q])
      · have ey':=getI ey
        have lrs : d < rs.length:=(List.getElem?_eq_some_iff.1 ey).1
        generalize S.length = n at *
        rw [nn]
        generalize o + fj = of at *
        refine Tr.w fun s1 H1 hp _ kR => W.trim ?_
        obtain ⟨rfl,q⟩:=hp
        refine W.seq (W.chunk ?_)
        simp (disch:=first|omega|exact zE rfl|exact zO|exact zL rfl) [c44_o15,zG,q]
        refine W.seq (W.chunk ?_)
        simp (disch:=first|omega|exact zE rfl|exact zO|exact zL rfl) [zG,q]
        refine W.seq (W.block ?_)
        refine W.seq (W.chunk ?_)
        simp (disch:=first|omega|exact zE rfl|exact zO|exact zL rfl) [c44_o16,zG,q]
        refine W.seq (W.chunk ?_)
        simp (disch:=first|omega|exact zE rfl|exact zO|exact zL rfl) [c44_o17,zG,q,f1,f3,ey,ey',k7]
        refine W.chunk ?_
        simp (disch:=first|omega|exact zE rfl|exact zO|exact zL rfl) [c44_o18,zG,q,g1,lo,er,er',gr,e1,e1',l1,kk]
        refine W.chunk ?_
        simp (disch:=first|omega|exact zE rfl|exact zO|exact zL rfl) [c44_o19,zG,q]
        exact kR _ _ (by simp [T.get,q])
  · clear lf os hw
    generalize o + ft (pN S now) (cnt S k) c 0 = of at *
    generalize S.length = n at *
    refine Tr.w fun s1 H1 hp _ kR => W.trim ?_
    obtain ⟨rfl,q⟩:=hp
    refine W.seq (W.chunk ?_)
    simp (disch:=first|omega|exact zE rfl|exact zO|exact zL rfl) [c44_o15,zG,q]
    refine W.seq (W.chunk ?_)
    simp (disch:=first|omega|exact zE rfl|exact zO|exact zL rfl) [zG,q]
    exact kR _ _ (by simp [T.get,q])
structure XI (S : List (List Nat)) (P : List Nat) (T i : Nat) (o : Nat) (now : Int) : Prop where
  e : o + ix S now (P.drop i) = T
  v : VC S now (P.drop i)
  w : now = -1 ∨ ∃ c : Nat,now = c ∧ c < S.length
set_option maxHeartbeats 1000000 in
theorem c44_l1_ok (J : CallF) (k70 : K70 J) {H : Heap} {R : List (List Nat)} (lf : LF H p S) (lm : LMm H p R) (hR : R.length = S.length) (os : OkS S) {bo bs v : Nat} {ros : List AV} {P : List Nat} (hP : P.length = N) (g1 : H.get bo = .cells 1 N ros) (lo : ros.length = N) (tbl' : ∀ j,j < N → ∃ br,ros[j]? = some (.slice br 0 S.length S.length) ∧ H.get br = .cells 1 S.length (gn (rowC S j))) (h40 : N ≤ 40) (gs0 : H.get bs = .cells 1 v (wsL (rT2 R P))) (vc : VC S (-1) P) (bd : ix S (-1) P ≤ 1152921504606846976) :
    Tr tbl J c44_l1 (fun s h => h = H ∧ s.get [false] = .slice bs 0 N v ∧ s.get [true,true] = .ptr p 0 3 ∧ s.get [false,false,false] = .slice bo 0 N N ∧ s.get [false,true,false] = G 0 ∧ s.get [true,true,false] = G (-1) ∧ s.get [false,false,true,true,false] = .slice bs 0 N v ∧ s.get [true,false,true,true,false] = G N ∧ s.get [false,true,true,true,false] = G ((0 : Nat) : Int)) (.exit 0) (fun s h => h = H ∧ s.get [false,true,false] = G (ix S (-1) P)):=by
  have pre : ∀ s h,((fun s h => h = H ∧ s.get [false] = .slice bs 0 N v ∧ s.get [true,true] = .ptr p 0 3 ∧ s.get [false,false,false] = .slice bo 0 N N ∧ s.get [false,true,false] = G 0 ∧ s.get [true,true,false] = G (-1) ∧ s.get [false,false,true,true,false] = .slice bs 0 N v ∧ s.get [true,false,true,true,false] = G N ∧ s.get [false,true,true,true,false] = G ((0 : Nat) : Int)) : SP) s h →
      (h = H ∧ ∃ o now,XI S P (ix S (-1) P) 0 o now ∧ s.get [false] = .slice bs 0 N v ∧ s.get [true,true] = .ptr p 0 3 ∧ s.get [false,false,false] = .slice bo 0 N N ∧ s.get [false,true,false] = G (o : Nat) ∧ s.get [true,true,false] = G now ∧ s.get [false,false,true,true,false] = .slice bs 0 N v ∧ s.get [true,false,true,true,false] = G N ∧ s.get [false,true,true,true,false] = G ((0 : Nat) : Int)):=fun s h ⟨h0,h1,h2,h3,h4,h5,h6,h7,h8⟩ =>
    ⟨h0,0,-1,⟨by rw [List.drop_zero,Nat.zero_add],vc,.inl rfl⟩,h1,h2,h3,h4,h5,h6,h7,h8⟩
  refine Tr.pre pre ?_
  refine Tr.rounds (P:=fun i s h => h = H ∧ ∃ o now,XI S P (ix S (-1) P) i o now ∧ s.get [false] = .slice bs 0 N v ∧ s.get [true,true] = .ptr p 0 3 ∧ s.get [false,false,false] = .slice bo 0 N N ∧ s.get [false,true,false] = G (o : Nat) ∧ s.get [true,true,false] = G now ∧ s.get [false,false,true,true,false] = .slice bs 0 N v ∧ s.get [true,false,true,true,false] = G N ∧ s.get [false,true,true,true,false] = G (i : Nat)) (M:=N) (fun i hi => ?_) ?_ (by simp) 0 (by omega)
  · refine Tr.w fun s1 H1 hp Q kR => W.trim ?_
    obtain ⟨rfl,o,now,xi,q⟩:=hp
    have hiP : i < P.length:=by omega
    have dr : P.drop i = P.getD i 0 :: P.drop (i + 1):=by
      rw [List.drop_eq_getElem_cons hiP,List.getD_eq_getElem?_getD,List.getElem?_eq_getElem hiP]; rfl
    obtain ⟨xe,xv,xw⟩:=xi
    rw [dr] at xe xv
    obtain ⟨v1,v2,v3⟩:=xv
    obtain ⟨k,hk⟩ : ∃ k,k + 1 + i = N:=⟨N - 1 - i,by omega⟩
    have dl : (P.drop (i + 1)).length = k:=by rw [List.length_drop]; omega
    have xe' : o + (ft (pN S now) (cnt S (P.drop (i + 1)).length) (P.getD i 0) 0 + ix S (P.getD i 0 : Nat) (P.drop (i + 1))) = ix S (-1) P:=xe
    rw [dl] at xe'
    obtain ⟨br,er,gr⟩:=tbl' k (by omega)
    have l0:=c44_l0_ok (bs:=bs) (v:=v) (i:=i) J k70 lf os g1 lo hk er gr h40 xw v1 (show o + _ ≤ _ by omega)
    have f0 : ft (pN S now) (cnt S k) 0 0 = 0:=rfl
    rw [f0,Nat.add_zero] at l0
    obtain ⟨x,mb,nx,es,m1,m2,m3⟩:=lm
    have hw0:=m3 (P.getD i 0) (by omega)
    have wi:=wsL_at (R:=rT2 R P) (i:=i) (by unfold rT2; rw [List.length_map]; exact hiP)
    rw [rT2_at hiP] at wi
    have wi':=getI wi
    have lw : (wsL (rT2 R P)).length = N:=by rw [wsL_len]; unfold rT2; rw [List.length_map,hP]
    have ma:=mapA_at m2
    have xi2 : XI S P (ix S (-1) P) (i + 1) (o + ft (pN S now) (cnt S k) (P.getD i 0) 0) (P.getD i 0 : Nat):=⟨by omega,v3,.inr ⟨_,rfl,v1⟩⟩
    clear xe xe' v2 v3 xw tbl' lf m3 er gr dr vc pre m2
    generalize ix S (-1) P = tot at *
    generalize ft (pN S now) (cnt S k) (P.getD i 0) 0 = fc at *
    generalize P.getD i 0 = c at *
    generalize stW (R.getD c []) = w at *
    generalize wsL (rT2 R P) = ws at *
    refine W.seq (W.chunk ?_)
    simp (disch:=first|omega|exact zE rfl|exact zO|exact zL rfl) [c44_o11,zG,q]
    refine W.seq (W.chunk ?_)
    simp (disch:=first|omega|exact zE rfl|exact zO|exact zL rfl) [zG,q]
    refine W.seq (W.block ?_)
    refine W.seq (W.chunk ?_)
    simp (disch:=first|omega|exact zE rfl|exact zO|exact zL rfl) [c44_o12,zG,q,gs0,wi,wi',lw]
    refine W.seq (W.chunk ?_)
    simp (disch:=first|omega|exact zE rfl|exact zO|exact zL rfl) [c44_o13,zG,q,m1,ma,hw0]
    refine W.assoc ?_
    refine W.seq (W.chunk ?_)
    simp (disch:=first|omega|exact zE rfl|exact zO|exact zL rfl) [c44_o14,zG,q]
    refine W.seq (W.block ?_)
    refine W.use (l0) (by simp (disch:=first|omega|exact zE rfl|exact zO|exact zL rfl) [zG,q]) fun s1 H1 hp => ?_
    obtain ⟨rfl,q⟩:=hp
    try simp only [zW,if_true]
    refine W.chunk ?_
    simp (disch:=first|omega|exact zE rfl|exact zO|exact zL rfl) [c44_o20,zG,q]
    refine W.chunk ?_
    simp (disch:=first|omega|exact zE rfl|exact zO|exact zL rfl) [c44_o21,zG,q]
    exact kR _ _ ⟨rfl,_,_,xi2,by simp [T.get,q]⟩
  · refine Tr.w fun s1 H1 hp Q kR => W.trim ?_
    obtain ⟨rfl,o,now,xi,q⟩:=hp
    have xe:=xi.e
    rw [List.drop_of_length_le (by omega)] at xe
    have xe : o = ix S (-1) P:=by
      rw [← xe]; rfl
    subst xe
    clear xi tbl' lf lm vc pre
    generalize ix S (-1) P = tot at *
    refine W.seq (W.chunk ?_)
    simp (disch:=first|omega|exact zE rfl|exact zO|exact zL rfl) [c44_o11,zG,q]
    refine W.seq (W.chunk ?_)
    simp (disch:=first|omega|exact zE rfl|exact zO|exact zL rfl) [zG,q]
    exact kR _ _ ⟨rfl,by simp [T.get,q]⟩
end
theorem own_all (own : List AObj) : Eff.isAll (if own = [] then Eff.none else Eff.grow own) = false:=by
  split <;> rfl
theorem isAll_none : Eff.isAll Eff.none = false:=rfl
theorem pos_of {W : List (List Int)} {rows : List (List Nat)} : ∀ (R : List (List Nat)) (now : Int),(now = -1 ∨ ∃ c : Nat,now = c ∧ c < rows.length ∧ (∀ w,R[0]? = some w → blw W (rows.getD c []) w = true)) → (∀ w ∈ R,w ∈ rows) → (∀ i,i + 1 < R.length → blw W (R.getD i []) (R.getD (i + 1) []) = true) → ∃ P,R = rT2 rows P ∧ VC (stL W rows) now P
  | [],now,_,_,_ => ⟨[],rfl,trivial⟩
  | w :: R,now,h1,h2,h3 => by
    obtain ⟨c,hc,e⟩:=List.mem_iff_getElem.1 (h2 w (by simp))
    have ew : rows.getD c [] = w:=by rw [List.getD_eq_getElem?_getD,List.getElem?_eq_getElem hc]; exact e
    have sl : (stL W rows).length = rows.length:=by simp [stL]
    obtain ⟨P,e1,e2⟩:=pos_of R (c : Int) (.inr ⟨c,rfl,hc,fun w' hw' => by
      have hl:=(List.getElem?_eq_some_iff.1 hw').1
      have:=h3 0 (by rw [List.length_cons]; omega)
      rw [ew]
      have e0 : (w :: R).getD 1 [] = w':=by
        rw [List.getD_eq_getElem?_getD]
        show (R[0]?).getD [] = w'
        rw [hw']; rfl
      have e1 : (w :: R).getD 0 [] = w:=rfl
      rw [e1,e0] at this
      exact this⟩) (fun v hv => h2 v (by simp [hv])) (fun i hi => h3 (i + 1) (by rw [List.length_cons]; omega))
    refine ⟨c :: P,?_,by rw [sl]; exact hc,?_,e2⟩
    · show w :: R = rows.getD c [] :: rT2 rows P
      rw [ew,e1]
    · unfold pN
      rcases h1 with rfl | ⟨d,rfl,hd,hb⟩
      · rfl
      · rw [Int.toNat_natCast,stL_mem hd hc,ew,hb w rfl,Bool.or_true]
theorem rT2_inj {rows : List (List Nat)} (nd : rows.Nodup) : ∀ {P Q : List Nat},(∀ c ∈ P,c < rows.length) → (∀ c ∈ Q,c < rows.length) → rT2 rows P = rT2 rows Q → P = Q
  | [],[],_,_,_ => rfl
  | [],_ :: _,_,_,e => by simp [rT2] at e
  | _ :: _,[],_,_,e => by simp [rT2] at e
  | c :: P,d :: Q,h1,h2,e => by
    simp only [rT2,List.map_cons,List.cons.injEq] at e
    have hc:=h1 c (by simp)
    have hd:=h2 d (by simp)
    have e1:=e.1
    rw [List.getD_eq_getElem?_getD,List.getD_eq_getElem?_getD,List.getElem?_eq_getElem hc,List.getElem?_eq_getElem hd] at e1
    have : c = d:=by
      rcases Nat.lt_trichotomy c d with l | l | l
      · exact absurd e1 ((List.pairwise_iff_getElem.1 nd) c d hc hd l)
      · exact l
      · exact absurd e1.symm ((List.pairwise_iff_getElem.1 nd) d c hd hc l)
    subst this
    rw [rT2_inj nd (fun x hx => h1 x (by simp [hx])) (fun x hx => h2 x (by simp [hx])) e.2]
theorem VC.lt {S : List (List Nat)} : ∀ {P : List Nat} {now : Int},VC S now P → ∀ c ∈ P,c < S.length
  | [],_,_,c,h => by cases h
  | d :: P,now,⟨h1,_,h3⟩,c,h => by
    rcases List.mem_cons.1 h with rfl | h
    · exact h1
    · exact h3.lt c h
theorem rows_nd (q : Nat) (B : List (List Int)) (m : Nat) : (rwL q B m).Nodup:=List.Nodup.sublist List.filter_sublist (exL_nd m [])
theorem kpS_iff {a : AG} {R : List (List Nat)} : kpS a R = true ↔ ∀ i,i < R.length → bsd a.B (R.getD i []) = true ∧ (i = 0 ∨ blw a.W (R.getD (i - 1) []) (R.getD i []) = true):=by
  unfold kpS
  rw [af_iff]
  constructor
  · intro h i hi
    have:=h i (Nat.zero_le _) (by omega)
    unfold kpB at this
    simpa only [Bool.and_eq_true,Bool.or_eq_true,decide_eq_true_eq] using this
  · intro h i _ hi
    have:=h i (by omega)
    unfold kpB
    simpa only [Bool.and_eq_true,Bool.or_eq_true,decide_eq_true_eq] using this
theorem pos_ex {a : AG} {m : Nat} {R : List (List Nat)} (ws : WS a m R) (k : kpS a R = true) : ∃ P,R = rT2 (rwL a.q a.B m) P ∧ VC (stL a.W (rwL a.q a.B m)) (-1) P:=by
  have kk:=kpS_iff.1 k
  refine pos_of R (-1) (.inl rfl) (fun w hw => ?_) (fun i hi => ?_)
  · obtain ⟨i,hi,rfl⟩:=List.mem_iff_getElem.1 hw
    obtain ⟨h1,h2⟩:=ws.w _ hw
    have hb:=(kk i hi).1
    have e : R.getD i [] = R[i]:=by rw [List.getD_eq_getElem?_getD,List.getElem?_eq_getElem hi]; rfl
    rw [e] at hb
    have:=exL_of (q:=a.q) m [] R[i] h1 h2
    rw [List.nil_append] at this
    exact List.mem_filter.2 ⟨this,hb⟩
  · have:=(kk (i + 1) hi).2
    rw [Nat.add_sub_cancel] at this
    exact this.resolve_left (by omega)
def Post44 (a : AR) (L : List (List UInt8)) (v : AV) (own : List AObj) : Prop:=own = [] ∧
  ((a.ru && isS a.q.toNat L) = false → v = .tup [G 0,G 2]) ∧
  ((a.ru && isS a.q.toNat L) = true → okC (a.steps (L.getD 0 []).length) L.length = false → v = .tup [G 0,G 5]) ∧
  ((a.ru && isS a.q.toNat L) = true → okC (a.steps (L.getD 0 []).length) L.length = true → ∀ R : List (List Nat),L = R.map stW → (∀ w ∈ R,∀ c ∈ w,c < a.q.toNat) → (kpS a.g R = false → v = .tup [G 0,G 6]) ∧
    ∀ P : List Nat,kpS a.g R = true → R = rT2 (a.rows (L.getD 0 []).length) P → VC (a.steps (L.getD 0 []).length) (-1) P → v = .tup [G (ix (a.steps (L.getD 0 []).length) (-1) P),G 0])
section
variable {a : AR} {x : AV} {L : List (List UInt8)}
set_option maxHeartbeats 2000000 in
theorem c44_ok (J : CallF) (k57 : KR 57 J) (k61 : K61m J) (k62 : K62 J) (k70 : K70 J) (k77 : K77 J) (k78 : K78 J) (hJ : ∀ a h,J 44 a h = none) (h : Heap) (o : OkR a h) (hx : EL h x (ss L)) (lL : L.length ≤ 1000000) (ls : ∀ s ∈ L,s.length ≤ 1000000) :
    ∃ v own,CallsTo tbl J 44 [a.v,x] h (v,own,false) ∧ Post44 a L v own:=by
  obtain ⟨Hs,hHs⟩ : ∃ H,(frameOf h).plus [.cells 0 3 [G a.q,a.x,a.y]] = H:=⟨_,rfl⟩
  have kHs : Kp (fun _ => False) (frameOf h) Hs:=by rw [← hHs]; exact Kp.plus _ _
  have oH : OkR a Hs:=OkR.kp (o.lo []) kHs
  have gS : Hs.get h.size = .cells 0 3 [G a.q,a.x,a.y]:=by rw [← hHs]; exact plus_at0 _ _ _ _ (frS h)
  have e57:=k57 Hs a oH
  have er : ruQ a.q a.B a.W = a.ru:=rfl
  rw [er] at e57
  have hxF : EL (frameOf h) x (ss L):=hx.lo []
  have hxH : EL Hs x (ss L):=by
    rcases hxF with h | ⟨b,v,e,g⟩
    · exact .inl h
    · exact .inr ⟨b,v,e,kHs.at g (by simp) id⟩
  have fz:=frS h
  have av : a.v = .agg [G a.q,a.x,a.y]:=rfl
  cases r : a.ru
  · have : CallsTo tbl J 44 [a.v,x] h (.tup [G 0,G 2],[],false):=by
      refine Tr.fnv (cf:=c44) (e:=.ret) (s:=T.set (T.set .leaf [] a.v) [false] x) (by decide) rfl (hJ _ _) rfl rfl rfl (by simp) ?_
      refine Tr.post (Q:=(fun s h => s.get [true,false] = G 0 ∧ s.get [false,true] = G 2)) (fun s h q => by simp [c44,q]) ?_
      rw [r] at e57
      clear oH o hx hxF hxH ls kHs
      refine Tr.w fun s1 H1 hp _ kR => ?_
      obtain ⟨rfl,rfl⟩:=hp
      have q : True:=trivial
      refine W.seq (W.chunk ?_)
      simp (disch:=first|omega|exact zE rfl|exact zO|exact zL rfl) [c44_o0,zG,q,hHs]
      refine W.assoc ?_
      refine W.seq (W.chunk ?_)
      simp (disch:=first|omega|exact zE rfl|exact zO|exact zL rfl) [c44_o1,zG,q,fz,gS,e57]
      refine W.seq (W.chunk ?_)
      simp (disch:=first|omega|exact zE rfl|exact zO|exact zL rfl) [c44_o2,zG,q]
      exact kR _ _ (by simp [T.get])
    exact ⟨_,_,this,rfl,fun _ => rfl,fun e => (by rw [r] at e; simp at e),fun e => (by rw [r] at e; simp at e)⟩
  · rw [r] at e57
    have e77:=k77 Hs ⟨a,x,L⟩ ⟨r,hxH,lL,ls⟩
    simp only at e77
    cases i : isS a.q.toNat L
    · have : CallsTo tbl J 44 [a.v,x] h (.tup [G 0,G 2],[],false):=by
        refine Tr.fnv (cf:=c44) (e:=.ret) (s:=T.set (T.set .leaf [] a.v) [false] x) (by decide) rfl (hJ _ _) rfl rfl rfl (by simp) ?_
        refine Tr.post (Q:=(fun s h => s.get [true,false] = G 0 ∧ s.get [false,true] = G 2)) (fun s h q => by simp [c44,q]) ?_
        rw [i] at e77
        clear oH o hx hxF hxH ls kHs
        refine Tr.w fun s1 H1 hp _ kR => ?_
        obtain ⟨rfl,rfl⟩:=hp
        have q : True:=trivial
        refine W.seq (W.chunk ?_)
        simp (disch:=first|omega|exact zE rfl|exact zO|exact zL rfl) [c44_o0,zG,q,hHs]
        refine W.assoc ?_
        refine W.seq (W.chunk ?_)
        simp (disch:=first|omega|exact zE rfl|exact zO|exact zL rfl) [c44_o1,zG,q,fz,gS,e57,e77]
        refine W.seq (W.chunk ?_)
        simp (disch:=first|omega|exact zE rfl|exact zO|exact zL rfl) [c44_o2,zG,q]
        exact kR _ _ (by simp [T.get])
      exact ⟨_,_,this,rfl,fun _ => rfl,fun e => (by rw [i] at e; simp at e),fun e => (by rw [i] at e; simp at e)⟩
    · have q3:=a.q3 r
      obtain ⟨m,R,rfl,hw,m1,m5,n1,n40,hm⟩:=isS_words (by omega) i
      rw [i] at e77
      have ws : WS a.g m R:=⟨hw,by omega,by omega⟩
      have lw:=wsL_len R
      obtain ⟨_,e⟩ | ⟨b,v,rfl,g⟩:=hxH
      · rw [← ws_ss] at e
        have : (wsL R).length = 0:=by rw [e]; rfl
        omega
      rw [← ws_ss] at g
      have ls' : (ss (R.map stW)).length = R.length:=by simp
      rw [ls'] at e77 hx ⊢
      have rm : a.rm (m : Nat) = true:=by
        unfold AR.rm
        rw [r,decide_eq_true (by omega)]; rfl
      obtain ⟨os,s243,sr⟩:=AR.steps_ok rm
      obtain ⟨p,own,e61,lm,lmm⟩:=k61 Hs a.g m (oH.g r) m5
      rw [a.gv r] at e61
      obtain ⟨Z,hZ⟩ : ∃ Z,Hs.plus own = Z:=⟨_,rfl⟩
      have kZ : Kp (fun _ => False) Hs Z:=by rw [← hZ]; exact Kp.plus _ _
      rw [hZ] at lm lmm
      have lf : LF Z p (a.steps (m : Nat)):=lm.lf
      obtain ⟨v62,own2,e62,l62⟩:=k62 Z ⟨p,R.length,a.steps (m : Nat)⟩ ⟨os,s243,lf,n40⟩
      simp only at e62
      have w0:=wsL_at (R:=R) (i:=0) (by omega)
      have w0':=getI w0
      have lw0:=stW_len (R.getD 0 [])
      rw [(ws.at (i:=0) (by omega)).1] at lw0
      have gZ:=kZ.at g (by simp) id
      have gSZ:=kZ.at gS (by simp) id
      have lR : (R.map stW).length = R.length:=by rw [List.length_map]
      unfold Post44
      rw [hm,lR]
      rw [av] at e77
      cases hc : okC (a.steps (m : Nat)) R.length
      · obtain ⟨rfl,rfl⟩:=l62.2 hc
        have : CallsTo tbl J 44 [a.v,.slice b 0 R.length v] h (.tup [G 0,G 5],[],false):=by
          refine Tr.fnv (cf:=c44) (e:=.ret) (s:=T.set (T.set .leaf [] a.v) [false] (.slice b 0 R.length v)) (by decide) rfl (hJ _ _) rfl rfl rfl (by simp) ?_
          refine Tr.post (Q:=(fun s h => s.get [true,false] = G 0 ∧ s.get [false,true] = G 5)) (fun s h q => by simp [c44,q]) ?_
          clear oH o hx hxF ls kHs ws hw lm lmm lf l62 os gZ gSZ k61 k62 k70 k77 k78
          generalize stW (R.getD 0 []) = u0 at *
          generalize wsL R = wR at *
          generalize R.length = n at *
          refine Tr.w fun s1 H1 hp _ kR => ?_
          obtain ⟨rfl,rfl⟩:=hp
          have q : True:=trivial
          refine W.seq (W.chunk ?_)
          simp (disch:=first|omega|exact zE rfl|exact zO|exact zL rfl) [c44_o0,zG,q,hHs]
          refine W.assoc ?_
          refine W.seq (W.chunk ?_)
          simp (disch:=first|omega|exact zE rfl|exact zO|exact zL rfl) [c44_o1,zG,q,fz,gS,e57,e77]
          refine W.seq (W.chunk ?_)
          simp (disch:=first|omega|exact zE rfl|exact zO|exact zL rfl) [c44_o2,zG,q]
          refine W.seq (W.chunk ?_)
          simp (disch:=first|omega|exact zE rfl|exact zO|exact zL rfl) [-evDraw_c,-Eff.isAll,c44_o3,zG,q,evDraw_0,fz,gS,g,w0,w0',lw,lw0,e61,app_if,app_if',hZ,own_all,isAll_none]
          refine W.seq (W.chunk ?_)
          simp (disch:=first|omega|exact zE rfl|exact zO|exact zL rfl) [c44_o4,zG,q,e62]
          refine W.assoc ?_
          refine W.seq (W.chunk ?_)
          simp (disch:=first|omega|exact zE rfl|exact zO|exact zL rfl) [c44_o5,zG,q]
          refine W.seq (W.chunk ?_)
          simp (disch:=first|omega|exact zE rfl|exact zO|exact zL rfl) [c44_o6,zG,q]
          exact kR _ _ (by simp [T.get])
        exact ⟨_,_,this,rfl,fun e => (by rw [r,i] at e; simp at e),fun _ _ => rfl,fun _ e => (by cases e)⟩
      · obtain ⟨x7,rfl,tb⟩:=l62.1 hc
        obtain ⟨Z2,hZ2⟩ : ∃ H,Z.plus own2 = H:=⟨_,rfl⟩
        have kZ2 : Kp (fun _ => False) Z Z2:=by rw [← hZ2]; exact Kp.plus _ _
        rw [hZ2] at tb
        simp only at tb
        obtain ⟨bo,ros,rfl,e2,e3,e4⟩:=tb.sl (i:=0) (by rw [rowsC_len]; omega)
        rw [rowsC_len] at e2 e3 e62
        have tbl' : ∀ j,j < R.length → ∃ br,ros[j]? = some (.slice br 0 (a.steps (m : Nat)).length (a.steps (m : Nat)).length) ∧ Z2.get br = .cells 1 (a.steps (m : Nat)).length (gn (rowC (a.steps (m : Nat)) j)):=fun j hj => by
          obtain ⟨br,e5,e6⟩:=e4 j _ (rowsC_at _ hj)
          rw [gn_len,rowC_len] at e5 e6
          exact ⟨br,e5,e6⟩
        have gZ2:=kZ2.at gZ (by simp) id
        have gSZ2:=kZ2.at gSZ (by simp) id
        have e78:=k78 Z2 a.g m R b v (((oH.g r).kp kZ).kp kZ2) ws gZ2
        rw [a.gv r,av] at e78
        cases hk : kpS a.g R
        · rw [hk] at e78
          have : CallsTo tbl J 44 [a.v,.slice b 0 R.length v] h (.tup [G 0,G 6],[],false):=by
            refine Tr.fnv (cf:=c44) (e:=.ret) (s:=T.set (T.set .leaf [] a.v) [false] (.slice b 0 R.length v)) (by decide) rfl (hJ _ _) rfl rfl rfl (by simp) ?_
            refine Tr.post (Q:=(fun s h => s.get [true,false] = G 0 ∧ s.get [false,true] = G 6)) (fun s h q => by simp [c44,q]) ?_
            clear oH o hx hxF ls kHs ws hw lm lmm lf l62 os k61 k62 k70 k77 k78 tbl' e4 tb hk hc
            generalize stW (R.getD 0 []) = u0 at *
            generalize wsL R = wR at *
            generalize R.length = n at *
            refine Tr.w fun s1 H1 hp _ kR => ?_
            obtain ⟨rfl,rfl⟩:=hp
            have q : True:=trivial
            refine W.seq (W.chunk ?_)
            simp (disch:=first|omega|exact zE rfl|exact zO|exact zL rfl) [c44_o0,zG,q,hHs]
            refine W.assoc ?_
            refine W.seq (W.chunk ?_)
            simp (disch:=first|omega|exact zE rfl|exact zO|exact zL rfl) [c44_o1,zG,q,fz,gS,e57,e77]
            refine W.seq (W.chunk ?_)
            simp (disch:=first|omega|exact zE rfl|exact zO|exact zL rfl) [c44_o2,zG,q]
            refine W.seq (W.chunk ?_)
            simp (disch:=first|omega|exact zE rfl|exact zO|exact zL rfl) [-evDraw_c,-Eff.isAll,c44_o3,zG,q,evDraw_0,fz,gS,g,w0,w0',lw,lw0,e61,app_if,app_if',hZ,own_all,isAll_none]
            refine W.seq (W.chunk ?_)
            simp (disch:=first|omega|exact zE rfl|exact zO|exact zL rfl) [c44_o4,zG,q,e62,app_if,app_if',hZ2]
            refine W.assoc ?_
            refine W.seq (W.chunk ?_)
            simp (disch:=first|omega|exact zE rfl|exact zO|exact zL rfl) [c44_o5,zG,q]
            refine W.seq (W.chunk ?_)
            simp (disch:=first|omega|exact zE rfl|exact zO|exact zL rfl) [c44_o6,zG,q]
            refine W.assoc ?_
            refine W.seq (W.chunk ?_)
            simp (disch:=first|omega|exact zE rfl|exact zO|exact zL rfl) [c44_o7,zG,q,gSZ2,e78]
            refine W.seq (W.chunk ?_)
            simp (disch:=first|omega|exact zE rfl|exact zO|exact zL rfl) [c44_o8,zG,q]
            exact kR _ _ (by simp [T.get])
          refine ⟨_,_,this,rfl,fun e => (by rw [r,i] at e; simp at e),fun _ e => (by cases e),fun _ _ R' e hR' => ?_⟩
          rw [← stW_map_inj (fun w hw' c hc => by have:=(hw w hw').2 c hc; omega) (fun w hw' c hc => by have:=hR' w hw' c hc; omega) e,hk]
          exact ⟨fun _ => rfl,fun P e => (by cases e)⟩
        · rw [hk] at e78
          obtain ⟨P,eP,vc⟩:=pos_ex ws hk
          have hrows : rwL a.g.q a.g.B m = a.rows (m : Nat):=by
            unfold AR.rows AR.g
            rw [Int.toNat_natCast]
          have hsteps : stL a.g.W (a.rows (m : Nat)) = a.steps (m : Nat):=rfl
          rw [hrows] at eP vc lmm
          rw [hsteps] at vc
          have lP : P.length = R.length:=by rw [eP]; unfold rT2; rw [List.length_map]
          have hs : Srt (a.steps (m : Nat)):=srt_st _ _
          have bd : ix (a.steps (m : Nat)) (-1) P ≤ 1152921504606846976:=by
            cases hP : P with
            | nil => rw [hP] at lP; simp at lP; omega
            | cons c P' =>
              rw [hP] at vc lP
              have h1:=ix_lt hs vc
              rw [ft_nw hs] at h1
              have h2:=okC_iff.1 hc P'.length (by rw [← lP]; simp)
              have h3 : ((nwL (a.steps (m : Nat)) (-1)).map (cnt (a.steps (m : Nat)) P'.length)).sum = (rowC (a.steps (m : Nat)) P'.length).sum:=rfl
              omega
          have l1:=c44_l1_ok (p:=p) (N:=R.length) (R:=a.rows (m : Nat)) (bs:=b) (v:=v) J k70 (lf.kp kZ2) (lmm.kp kZ2) sr.symm os lP e2 e3 tbl' n40 (by rw [← eP]; exact gZ2) vc bd
          have : CallsTo tbl J 44 [a.v,.slice b 0 R.length v] h (.tup [G (ix (a.steps (m : Nat)) (-1) P),G 0],[],false):=by
            refine Tr.fnv (cf:=c44) (e:=.ret) (s:=T.set (T.set .leaf [] a.v) [false] (.slice b 0 R.length v)) (by decide) rfl (hJ _ _) rfl rfl rfl (by simp) ?_
            refine Tr.post (Q:=(fun s h => s.get [true,false] = G (ix (a.steps (m : Nat)) (-1) P) ∧ s.get [false,true] = G 0)) (fun s h q => by simp [c44,q]) ?_
            clear oH o hx hxF ls kHs ws hw lm lmm lf l62 os k61 k62 k70 k77 k78 tbl' e4 tb hk hc vc bd eP lP hs
            generalize ix (a.steps (m : Nat)) (-1) P = tot at *
            generalize stW (R.getD 0 []) = u0 at *
            generalize wsL R = wR at *
            generalize R.length = n at *
            refine Tr.w fun s1 H1 hp _ kR => ?_
            obtain ⟨rfl,rfl⟩:=hp
            have q : True:=trivial
            refine W.seq (W.chunk ?_)
            simp (disch:=first|omega|exact zE rfl|exact zO|exact zL rfl) [c44_o0,zG,q,hHs]
            refine W.assoc ?_
            refine W.seq (W.chunk ?_)
            simp (disch:=first|omega|exact zE rfl|exact zO|exact zL rfl) [c44_o1,zG,q,fz,gS,e57,e77]
            refine W.seq (W.chunk ?_)
            simp (disch:=first|omega|exact zE rfl|exact zO|exact zL rfl) [c44_o2,zG,q]
            refine W.seq (W.chunk ?_)
            simp (disch:=first|omega|exact zE rfl|exact zO|exact zL rfl) [-evDraw_c,-Eff.isAll,c44_o3,zG,q,evDraw_0,fz,gS,g,w0,w0',lw,lw0,e61,app_if,app_if',hZ,own_all,isAll_none]
            refine W.seq (W.chunk ?_)
            simp (disch:=first|omega|exact zE rfl|exact zO|exact zL rfl) [c44_o4,zG,q,e62,app_if,app_if',hZ2]
            refine W.assoc ?_
            refine W.seq (W.chunk ?_)
            simp (disch:=first|omega|exact zE rfl|exact zO|exact zL rfl) [c44_o5,zG,q]
            refine W.seq (W.chunk ?_)
            simp (disch:=first|omega|exact zE rfl|exact zO|exact zL rfl) [c44_o6,zG,q]
            refine W.assoc ?_
            refine W.seq (W.chunk ?_)
            simp (disch:=first|omega|exact zE rfl|exact zO|exact zL rfl) [c44_o7,zG,q,gSZ2,e78]
            refine W.seq (W.chunk ?_)
            simp (disch:=first|omega|exact zE rfl|exact zO|exact zL rfl) [c44_o8,zG,q]
            refine W.seq (W.chunk ?_)
            simp (disch:=first|omega|exact zE rfl|exact zO|exact zL rfl) [c44_o9,zG,q]
            refine W.assoc ?_
            refine W.seq (W.chunk ?_)
            simp (disch:=first|omega|exact zE rfl|exact zO|exact zL rfl) [c44_o10,zG,q]
            refine W.seq (W.block ?_)
            refine W.use (l1) (by simp (disch:=first|omega|exact zE rfl|exact zO|exact zL rfl) [zG,q]) fun s1 H1 hp => ?_
            obtain ⟨rfl,q⟩:=hp
            try simp only [zW,if_true]
            refine W.seq (W.chunk ?_)
            simp (disch:=first|omega|exact zE rfl|exact zO|exact zL rfl) [c44_o22,zG,q]
            refine W.ret ?_
            try simp only [zW,if_true]
            exact kR _ _ (by simp [T.get,q])
          refine ⟨_,_,this,rfl,fun e => (by rw [r,i] at e; simp at e),fun _ e => (by cases e),fun _ _ R' e hR' => ?_⟩
          rw [← stW_map_inj (fun w hw' c hc => by have:=(hw w hw').2 c hc; omega) (fun w hw' c hc => by have:=hR' w hw' c hc; omega) e,hk]
          refine ⟨fun e => (by cases e),fun P' _ eP' vc' => ?_⟩
          rw [eP] at eP'
          have l1 : ∀ c ∈ P,c < (a.rows (m : Nat)).length:=fun c hc => by rw [← sr]; exact vc.lt c hc
          have l2 : ∀ c ∈ P',c < (a.rows (m : Nat)).length:=fun c hc => by rw [← sr]; exact vc'.lt c hc
          rw [rT2_inj (rows_nd _ _ _) l1 l2 eP']
end
noncomputable def T70 : CallF:=addK tbl T69 44 Pre45 (fun b _ v own => Post44 b.a b.L v own)
theorem t70 : Sound Go.Proofs.Try.prog T70:=Sound.addK follows ok t69 (by decide) _ _
theorem k57_69 : KR 57 T69:=fun h a o => by
  rw [show T69 57 [.agg [G a.q,a.x,a.y]] h = T10 57 [.agg [G a.q,a.x,a.y]] h from by simp (disch:=decide) only [T11,T12,T13,T14,T15,T16,T17,T18,T19,T20,T21,T22,T23,T24,T25,T26,T27,T28,T29,T30,T31,T32,T33,T34,T35,T36,T37,T38,T39,T40,T41,T42,T43,T44,T45,T46,T47,T48,T49,T50,T51,T52,T53,T54,T55,T56,T57,T58,T59,T60,T61,T62,T63,T64,T65,T66,T67,T68,T69,addI_ne,addX_ne,addV_ne,addK_ne]]; exact k57 h a o
theorem k61_69 : K61m T69:=fun h a m o m5 => by
  obtain ⟨p,own,e,l⟩:=k61m h a m o m5
  exact ⟨p,own,by rw [show T69 61 [a.v,G m] h = T18 61 [a.v,G m] h from by simp (disch:=decide) only [T19,T20,T21,T22,T23,T24,T25,T26,T27,T28,T29,T30,T31,T32,T33,T34,T35,T36,T37,T38,T39,T40,T41,T42,T43,T44,T45,T46,T47,T48,T49,T50,T51,T52,T53,T54,T55,T56,T57,T58,T59,T60,T61,T62,T63,T64,T65,T66,T67,T68,T69,addI_ne,addX_ne,addV_ne,addK_ne]]; exact e,l⟩
theorem k62_69 : K62 T69:=fun h b o => by
  obtain ⟨v,own,e,l⟩:=k62 h b o
  exact ⟨v,own,by rw [show T69 62 [.ptr b.p 0 3,G b.nn] h = T38 62 [.ptr b.p 0 3,G b.nn] h from by simp (disch:=decide) only [T39,T40,T41,T42,T43,T44,T45,T46,T47,T48,T49,T50,T51,T52,T53,T54,T55,T56,T57,T58,T59,T60,T61,T62,T63,T64,T65,T66,T67,T68,T69,addI_ne,addX_ne,addV_ne,addK_ne]]; exact e,l⟩
theorem k70_69 : K70 T69:=fun h x v L h1 h2 => by
  rw [show T69 70 [x,G v] h = T43 70 [x,G v] h from by simp (disch:=decide) only [T44,T45,T46,T47,T48,T49,T50,T51,T52,T53,T54,T55,T56,T57,T58,T59,T60,T61,T62,T63,T64,T65,T66,T67,T68,T69,addI_ne,addX_ne,addV_ne,addK_ne]]; exact k70 h x v L h1 h2
theorem k77_69 : K77 T69:=fun h b o => by
  rw [show T69 77 [b.a.v,b.x] h = T67 77 [b.a.v,b.x] h from by simp (disch:=decide) only [T68,T69,addI_ne,addX_ne,addV_ne,addK_ne]]; exact k77 h b o
theorem k78_69 : K78 T69:=fun h a m R b v o k g => by
  rw [show T69 78 [a.v,.slice b 0 R.length v] h = T68 78 [a.v,.slice b 0 R.length v] h from by simp (disch:=decide) only [T69,addI_ne,addX_ne,addV_ne,addK_ne]]; exact k78 h a m R b v o k g
abbrev K44 (J : CallF) : Prop:=∀ (h : Heap) (b : A45),Ok45 b h → ∃ v own,J 44 [b.a.v,b.x] h = some (v,own,false) ∧ Post44 b.a b.L v own
theorem k44 : K44 T70:=fun h b o => by
  obtain ⟨v,own,e,l⟩:=addK_some (Pre:=Pre45) (Post:=fun b _ v own => Post44 b.a b.L v own) (fun b args h hp => by
    obtain ⟨⟨h1,h2,h3,h4⟩,rfl⟩:=hp
    exact c44_ok T69 k57_69 k61_69 k62_69 k70_69 k77_69 k78_69 (fun _ _ => by simp (disch:=decide) only [T1,T2,T3,T4,T5,T6,T7,T8,T9,T10,T11,T12,T13,T14,T15,T16,T17,T18,T19,T20,T21,T22,T23,T24,T25,T26,T27,T28,T29,T30,T31,T32,T33,T34,T35,T36,T37,T38,T39,T40,T41,T42,T43,T44,T45,T46,T47,T48,T49,T50,T51,T52,T53,T54,T55,T56,T57,T58,T59,T60,T61,T62,T63,T64,T65,T66,T67,T68,T69,addI_ne,addX_ne,addV_ne,addK_ne]; rfl) h h1 h2 h3 h4) b _ h ⟨o,rfl⟩
  exact ⟨v,own,e,l⟩
def bfr : List (List UInt8) → List (List UInt8) → Bool
  | a :: L,b :: M => if a = b then bfr L M else Op.bytesLess a b
  | _,_ => false
theorem bfr_at {x y : List UInt8} : ∀ {t : Nat} {L M : List (List UInt8)},(∀ u,u < t → L[u]? = M[u]?) → L[t]? = some x → M[t]? = some y → x ≠ y → bfr L M = Op.bytesLess x y
  | 0,a :: L,b :: M,_,h1,h2,hn => by
    simp only [List.getElem?_cons_zero,Option.some.injEq] at h1 h2
    subst h1; subst h2
    unfold bfr
    rw [if_neg hn]
  | t + 1,a :: L,b :: M,h,h1,h2,hn => by
    have h0:=h 0 (by omega)
    simp only [List.getElem?_cons_zero,Option.some.injEq] at h0
    unfold bfr
    rw [if_pos h0]
    exact bfr_at (t:=t) (fun u hu => h (u + 1) (by omega)) h1 h2 hn
  | 0,[],_,_,h1,_,_ => by cases h1
  | _ + 1,[],_,_,h1,_,_ => by cases h1
  | 0,_ :: _,[],_,_,h2,_ => by cases h2
  | _ + 1,_ :: _,[],_,_,h2,_ => by cases h2
theorem bless {c d : Nat} (hc : c < d) (hd : d < 3) (u v : List Nat) : ∀ s : List Nat,Op.bytesLess (stW (s ++ c :: u)) (stW (s ++ d :: v)) = true
  | [] => by
    show (decide (UInt8.ofNat (48 + c) < UInt8.ofNat (48 + d)) || _) = true
    rw [decide_eq_true (by rw [UInt8.lt_iff_toNat_lt,UInt8.toNat_ofNat',UInt8.toNat_ofNat']; omega)]; rfl
  | e :: s => by
    show (decide (UInt8.ofNat (48 + e) < UInt8.ofNat (48 + e)) || (UInt8.ofNat (48 + e) == UInt8.ofNat (48 + e) && Op.bytesLess (stW (s ++ c :: u)) (stW (s ++ d :: v)))) = true
    rw [bless hc hd u v s]
    simp
theorem exL_srt {q : Nat} (q3 : q ≤ 3) : ∀ k s,(exL q k s).Pairwise fun x y => Op.bytesLess (stW x) (stW y) = true
  | 0,s => by simp [exL]
  | k + 1,s => by
    show ((List.range q).flatMap fun c => exL q k (s ++ [c])).Pairwise _
    rw [List.pairwise_flatMap]
    refine ⟨fun c _ => exL_srt q3 k _,?_⟩
    have hr : (List.range q).Pairwise fun a b => a < b ∧ b < q:=by
      rw [List.pairwise_iff_getElem]
      intro i j hi hj hij
      rw [List.getElem_range,List.getElem_range]
      rw [List.length_range] at hj
      exact ⟨hij,hj⟩
    refine hr.imp fun {c d} hcd x hx y hy => ?_
    obtain ⟨u,rfl,_⟩:=exL_mem _ _ _ hx
    obtain ⟨v,rfl,_⟩:=exL_mem _ _ _ hy
    rw [List.append_assoc,List.append_assoc]
    exact bless hcd.1 (by omega) u v s
theorem rows_srt {q m : Nat} {B : List (List Int)} (q3 : q ≤ 3) {x y : Nat} (h : x < y) (hy : y < (rwL q B m).length) : Op.bytesLess (stW ((rwL q B m).getD x [])) (stW ((rwL q B m).getD y [])) = true:=by
  have:=(exL_srt q3 m []).filter (bsd B)
  rw [List.pairwise_iff_getElem] at this
  have:=this x y (show x < (rwL q B m).length by omega) hy h
  rw [List.getD_eq_getElem?_getD,List.getD_eq_getElem?_getD,List.getElem?_eq_getElem (by omega : x < (rwL q B m).length),List.getElem?_eq_getElem hy]
  exact this
theorem bl_irr : ∀ s : List UInt8,Op.bytesLess s s = false
  | [] => rfl
  | a :: s => by
    show (decide (a < a) || (a == a && Op.bytesLess s s)) = false
    rw [bl_irr s]
    simp
section
variable {L M : List (List UInt8)} {b1 v1 b2 v2 n : Nat}
set_option maxHeartbeats 1000000 in
theorem c54_l0_w (J : CallF) {H : Heap} (g1 : H.get b1 = .cells 1 v1 (ss L)) (g2 : H.get b2 = .cells 1 v2 (ss M)) (l1 : L.length = n) (l2 : M.length = n) (hn : n ≤ 1000000) : ∀ d i,i + d = n → ∀ (s1 : T) (R : PQ),(s1.get [] = .slice b1 0 n v1 ∧ s1.get [false] = .slice b2 0 n v2 ∧ s1.get [false,true] = G i) →
    (af (sE L M) i d = true → ∀ s' h',True → R (.exit 0) s' h') → (af (sE L M) i d = false → ∀ s' h',s'.get [true,false] = .bool (bfr (L.drop i) (M.drop i)) → R .ret s' h') → W tbl J c54_l0 s1 H R:=by
  have sl1 : (ss L).length = n:=by simp [l1]
  have sl2 : (ss M).length = n:=by simp [l2]
  intro d
  induction d with
  | zero =>
    intro i hi s1 R q0 kA kB
    have kR:=kA rfl
    obtain rfl : i = n:=by omega
    have q:=q0
    clear kA kB q0
    refine W.loop (W.trim ?_)
    refine W.assoc ?_
    refine W.seq (W.chunk ?_)
    simp (disch:=first|omega|exact zE rfl|exact zO|exact zL rfl) [c54_o2,zG,q]
    refine W.seq (W.chunk ?_)
    simp (disch:=first|omega|exact zE rfl|exact zO|exact zL rfl) [zG,q]
    exact kR _ _ trivial
  | succ d ih =>
    intro i hi s1 R q0 kA kB
    replace ih:=ih (i + 1) (by omega)
    have e1:=ss_at (L:=L) (i:=i) (by omega)
    have e2:=ss_at (L:=M) (i:=i) (by omega)
    have e1':=getI e1
    have e2':=getI e2
    have d1 : L.drop i = L.getD i [] :: L.drop (i + 1):=by
      rw [List.drop_eq_getElem_cons (by omega),List.getD_eq_getElem?_getD,List.getElem?_eq_getElem (by omega)]; rfl
    have d2 : M.drop i = M.getD i [] :: M.drop (i + 1):=by
      rw [List.drop_eq_getElem_cons (by omega),List.getD_eq_getElem?_getD,List.getElem?_eq_getElem (by omega)]; rfl
    have ea : af (sE L M) i (d + 1) = (sE L M i && af (sE L M) (i + 1) d):=rfl
    have es : sE L M i = decide (L.getD i [] = M.getD i []):=rfl
    have eb : bfr (L.getD i [] :: L.drop (i + 1)) (M.getD i [] :: M.drop (i + 1)) = if L.getD i [] = M.getD i [] then bfr (L.drop (i + 1)) (M.drop (i + 1)) else Op.bytesLess (L.getD i []) (M.getD i []):=rfl
    rw [ea] at kA kB
    rw [d1,d2,eb] at kB
    have q:=q0
    by_cases c : L.getD i [] = M.getD i []
    · rw [if_pos c] at kB
      rw [es,decide_eq_true c,Bool.true_and] at kA kB
      replace ih:=fun s' h2 => ih s' R h2 kA kB
      rw [c] at e1 e1'
      clear kA kB q0 ea es eb d1 d2
      generalize M.getD i [] = u at *
      generalize ss L = sl at *
      generalize ss M = sm at *
      refine W.loop (W.trim ?_)
      refine W.assoc ?_
      refine W.seq (W.chunk ?_)
      simp (disch:=first|omega|exact zE rfl|exact zO|exact zL rfl) [c54_o2,zG,q]
      refine W.seq (W.chunk ?_)
      simp (disch:=first|omega|exact zE rfl|exact zO|exact zL rfl) [zG,q]
      refine W.seq (W.block ?_)
      refine W.seq (W.chunk ?_)
      simp (disch:=first|omega|exact zE rfl|exact zO|exact zL rfl) [-evDraw_c,c54_o3,zG,q,evDraw_0,g1,g2,e1,e1',e2,e2',sl1,sl2]
      refine W.chunk ?_
      simp (disch:=first|omega|exact zE rfl|exact zO|exact zL rfl) [c54_o4,zG,q,-evDraw_c,evDraw_0]
      refine W.chunk ?_
      simp (disch:=first|omega|exact zE rfl|exact zO|exact zL rfl) [c54_o5,zG,q]
      refine ih _ ?_
      simp [T.get,q]
    · rw [if_neg c] at kB
      rw [es,decide_eq_false c,Bool.false_and] at kB
      have kR:=kB rfl
      clear kA kB q0 ea es eb d1 d2 ih
      generalize M.getD i [] = u at *
      generalize L.getD i [] = w at *
      generalize ss L = sl at *
      generalize ss M = sm at *
      have c' : (w == u) = false:=by simp [c]
      refine W.loop (W.trim ?_)
      refine W.assoc ?_
      refine W.seq (W.chunk ?_)
      simp (disch:=first|omega|exact zE rfl|exact zO|exact zL rfl) [c54_o2,zG,q]
      refine W.seq (W.chunk ?_)
      simp (disch:=first|omega|exact zE rfl|exact zO|exact zL rfl) [zG,q]
      refine W.seq (W.block ?_)
      refine W.seq (W.chunk ?_)
      simp (disch:=first|omega|exact zE rfl|exact zO|exact zL rfl) [-evDraw_c,c54_o3,zG,q,evDraw_0,g1,g2,e1,e1',e2,e2',sl1,sl2,c',c]
      refine W.chunk ?_
      simp (disch:=first|omega|exact zE rfl|exact zO|exact zL rfl) [c54_o4,zG,q,-evDraw_c,evDraw_0,g1,g2,e1,e1',e2,e2',sl1,sl2]
      exact kR _ _ (by simp [T.get])
theorem bfr_same : ∀ L : List (List UInt8),bfr L L = false
  | [] => rfl
  | a :: L => by unfold bfr; rw [if_pos rfl]; exact bfr_same L
theorem c54_ok (J : CallF) (hJ : ∀ a h,J 54 a h = none) (h : Heap) (g1 : h.get b1 = .cells 1 v1 (ss L)) (g2 : h.get b2 = .cells 1 v2 (ss M)) (l1 : L.length = n) (l2 : M.length = n) (hn : n ≤ 1000000) : CallsTo tbl J 54 [.slice b1 0 n v1,.slice b2 0 n v2] h (.bool (bfr L M),[],false):=by
  refine Tr.fnv (cf:=c54) (e:=.ret) (s:=T.set (T.set .leaf [] (.slice b1 0 n v1)) [false] (.slice b2 0 n v2)) (by decide) rfl (hJ _ _) rfl rfl rfl (by simp) ?_
  refine Tr.post (Q:=(fun s h => s.get [true,false] = .bool (bfr L M))) (fun s h q => by simp [c54,q]) ?_
  have gl : ∀ b X,h.get b = X → X ≠ .hole → (frameOf h).get b = X:=fun b X e hX => by
    unfold frameOf
    rw [get_mk_lt _ _ _ _ (get_lt e hX)]; exact e
  have f1:=gl _ _ g1 (by simp)
  have f2:=gl _ _ g2 (by simp)
  generalize frameOf h = H0 at *
  have lw:=c54_l0_w J f1 f2 l1 l2 hn n 0 (by omega)
  rw [List.drop_zero,List.drop_zero] at lw
  cases e : af (sE L M) 0 n
  · have l0 : Tr tbl J c54_l0 (fun s h => h = H0 ∧ s.get [] = .slice b1 0 n v1 ∧ s.get [false] = .slice b2 0 n v2 ∧ s.get [false,true] = G ((0 : Nat) : Int)) .ret (fun s h => s.get [true,false] = .bool (bfr L M)):=by
      refine Tr.w fun s1 H1 hp R kR => ?_
      obtain ⟨rfl,q⟩:=hp
      exact lw s1 R q (fun e' => (by rw [e] at e'; cases e')) (fun _ => kR)
    clear lw gl g1 g2 f1 f2
    generalize bfr L M = z at *
    refine Tr.w fun s1 H1 hp _ kR => ?_
    obtain ⟨rfl,rfl⟩:=hp
    have q : True:=trivial
    refine W.seq (W.chunk ?_)
    simp (disch:=first|omega|exact zE rfl|exact zO|exact zL rfl) [c54_o0,zG,q]
    refine W.assoc ?_
    refine W.seq (W.chunk ?_)
    simp (disch:=first|omega|exact zE rfl|exact zO|exact zL rfl) [c54_o1,zG,q]
    refine W.seq (W.block ?_)
    refine W.use (l0) (by simp (disch:=first|omega|exact zE rfl|exact zO|exact zL rfl) [zG,q]) fun s1 H1 hp => ?_
    try simp only [zW,if_true]
    exact kR _ _ hp
  · have l0 : Tr tbl J c54_l0 (fun s h => h = H0 ∧ s.get [] = .slice b1 0 n v1 ∧ s.get [false] = .slice b2 0 n v2 ∧ s.get [false,true] = G ((0 : Nat) : Int)) (.exit 0) (fun s h => True):=by
      refine Tr.w fun s1 H1 hp R kR => ?_
      obtain ⟨rfl,q⟩:=hp
      exact lw s1 R q (fun _ => kR) (fun e' => (by rw [e] at e'; cases e'))
    have ef : bfr L M = false:=by
      rw [← l1] at e
      rw [sE_all (by omega),decide_eq_true_eq] at e
      rw [e]; exact bfr_same M
    rw [ef]
    clear lw gl g1 g2 f1 f2
    refine Tr.w fun s1 H1 hp _ kR => ?_
    obtain ⟨rfl,rfl⟩:=hp
    have q : True:=trivial
    refine W.seq (W.chunk ?_)
    simp (disch:=first|omega|exact zE rfl|exact zO|exact zL rfl) [c54_o0,zG,q]
    refine W.assoc ?_
    refine W.seq (W.chunk ?_)
    simp (disch:=first|omega|exact zE rfl|exact zO|exact zL rfl) [c54_o1,zG,q]
    refine W.seq (W.block ?_)
    refine W.use (l0) (by simp (disch:=first|omega|exact zE rfl|exact zO|exact zL rfl) [zG,q]) fun s1 H1 hp => ?_
    obtain _:=hp
    try simp only [zW,if_true]
    refine W.seq (W.chunk ?_)
    simp (disch:=first|omega|exact zE rfl|exact zO|exact zL rfl) [c54_o6,zG,q]
    refine W.ret ?_
    try simp only [zW,if_true]
    exact kR _ _ (by simp [T.get])
end
structure A54 where
  L : List (List UInt8)
  M : List (List UInt8)
  b1 : Nat
  v1 : Nat
  b2 : Nat
  v2 : Nat
  n : Nat
def Ok54 (a : A54) (h : Heap) : Prop:=h.get a.b1 = .cells 1 a.v1 (ss a.L) ∧ h.get a.b2 = .cells 1 a.v2 (ss a.M) ∧ a.L.length = a.n ∧ a.M.length = a.n ∧ a.n ≤ 1000000
def Pre54 (a : A54) (args : List AV) (h : Heap) : Prop:=Ok54 a h ∧ args = [.slice a.b1 0 a.n a.v1,.slice a.b2 0 a.n a.v2]
def Post54 (a : A54) (h : Heap) (v : AV) (own : List AObj) : Prop:=v = .bool (bfr a.L a.M) ∧ own = []
noncomputable def T71 : CallF:=addK tbl T70 54 Pre54 Post54
theorem t71 : Sound Go.Proofs.Try.prog T71:=Sound.addK follows ok t70 (by decide) _ _
abbrev K54 (J : CallF) : Prop:=∀ (h : Heap) (a : A54),Ok54 a h → J 54 [.slice a.b1 0 a.n a.v1,.slice a.b2 0 a.n a.v2] h = some (.bool (bfr a.L a.M),[],false)
theorem k54 : K54 T71:=fun h a o => by
  obtain ⟨v,own,e,rfl,rfl⟩:=addK_some (Pre:=Pre54) (Post:=Post54) (fun a args h hp => by
    obtain ⟨⟨h1,h2,h3,h4,h5⟩,rfl⟩:=hp
    exact ⟨_,_,c54_ok T70 (fun _ _ => by simp (disch:=decide) only [T1,T2,T3,T4,T5,T6,T7,T8,T9,T10,T11,T12,T13,T14,T15,T16,T17,T18,T19,T20,T21,T22,T23,T24,T25,T26,T27,T28,T29,T30,T31,T32,T33,T34,T35,T36,T37,T38,T39,T40,T41,T42,T43,T44,T45,T46,T47,T48,T49,T50,T51,T52,T53,T54,T55,T56,T57,T58,T59,T60,T61,T62,T63,T64,T65,T66,T67,T68,T69,T70,addI_ne,addX_ne,addV_ne,addK_ne]; rfl) h h1 h2 h3 h4 h5,rfl,rfl⟩) a _ h ⟨o,rfl⟩
  exact e
theorem TB.mr {H0 h : Heap} {x : AV} {M : List (List Int)} (t : TB H0 h x (M.map gs)) : MR h x M:=by
  obtain ⟨rs,lv,hl,hr⟩:=t.r
  rw [List.length_map] at hl
  rcases lv with ⟨rfl,rfl⟩ | ⟨b,rfl,g,n⟩
  · exact .inl ⟨.inl rfl,List.length_eq_zero_iff.1 hl.symm⟩
  · refine .inr ⟨b,rs.length,rs,by rw [hl],g,hl,fun i r e => ?_⟩
    obtain ⟨cs,b',h1,h2,h3,_⟩:=hr i r e
    rw [List.getElem?_map] at h1
    cases hN : M[i]? with
    | none => rw [hN] at h1; cases h1
    | some l =>
      rw [hN] at h1
      simp only [Option.map_some,Option.some.injEq] at h1
      subst h1
      exact ⟨l,rfl,.inl (by rw [h2]; exact listOf_cells h3 (by simp))⟩
theorem tabQ_small {n : Nat} {B : List (List Int)} (h : tabQ n B = true) (h3 : n ≤ 3) : smallM B ∧ B.length ≤ 1000000 ∧ ∀ l ∈ B,l.length ≤ 1000000:=by
  have hr : ∀ l ∈ B,l.length = n:=fun l hl => by
    unfold tabQ at h
    rw [Bool.and_eq_true] at h
    have:=(List.all_eq_true.1 h.2) l hl
    unfold rowQ at this
    rw [Bool.and_eq_true,decide_eq_true_iff] at this
    omega
  have hl:=(tabQ_row h).1
  refine ⟨⟨by omega,fun i => ?_⟩,by omega,fun l hl => by rw [hr l hl]; omega⟩
  rw [List.getD_eq_getElem?_getD]
  cases hi : B[i]? with
  | none => simp
  | some l =>
    obtain ⟨h1,h2⟩:=List.getElem?_eq_some_iff.1 hi
    have:=hr l (h2 ▸ List.getElem_mem _)
    simp only [Option.getD_some]; omega
def AR.of (n : Nat) (x y : AV) (B W : List (List Int)) : AR:=⟨n,x,y,B,W⟩
theorem ru_of {n : Nat} {x y : AV} {B W : List (List Int)} (hn : 1 ≤ n ∧ n ≤ 3) (hB : tabQ n B = true) (hW : tabQ n W = true) : (AR.of n x y B W).ru = true:=by
  unfold AR.ru AR.of ruQ
  simp only [hB,hW,Bool.and_true,decide_eq_true_eq]
  omega
theorem gd_of {n : Nat} {x y : AV} {B W : List (List Int)} (hn : 1 ≤ n ∧ n ≤ 3) (hB : tabQ n B = true) (hW : tabQ n W = true) {m k lo : Int} (h1 : 1 ≤ m ∧ m ≤ 5) (h2 : lo ≤ k ∧ k ≤ 40) : (AR.of n x y B W).gd m k lo = true:=by
  unfold AR.gd AR.rm
  rw [ru_of hn hB hW,decide_eq_true h1,decide_eq_true h2]; rfl
section
variable {nq m nn : Int} {X Y : List (List Int)}
end
section
variable {S : List (List Nat)} {u4 u6 u8 u0 : AV} {k1 k2 k3 k4 : Nat}
theorem RV.lv {h : Heap} {y : AV} {L : List Nat} (r : RV h y (gn L)) (hl : 0 < L.length) : ∃ b v,y = .slice b 0 L.length v ∧ h.get b = .cells 1 v (gn L):=by
  rcases r with ⟨_,e⟩ | ⟨b,v,e,g⟩
  · have : (gn L).length = 0:=by rw [e]; rfl
    rw [gn_len] at this; omega
  · rw [gn_len] at e; exact ⟨b,v,e,g⟩
end
theorem vc_rg {W : List (List Int)} {rows : List (List Nat)} : ∀ {P : List Nat} {now : Int},VC (stL W rows) now P → ∀ i,i + 1 < P.length → blw W (rows.getD (P.getD i 0) []) (rows.getD (P.getD (i + 1) 0) []) = true
  | [],_,_,i,hi => absurd hi (by simp)
  | [c],_,_,i,hi => absurd hi (by simp)
  | c :: d :: P,now,⟨h1,h2,h3⟩,i,hi => by
    have sl : (stL W rows).length = rows.length:=by simp [stL]
    cases i with
    | zero =>
      obtain ⟨g1,g2,_⟩:=h3
      unfold pN at g2
      rw [decide_eq_false (by omega),Bool.false_or,Int.toNat_natCast,stL_mem (by omega) (by omega)] at g2
      exact g2
    | succ i => exact vc_rg h3 i (by simpa using hi)
theorem vc_ok {a : AR} {m : Int} (g : a.rm m = true) {P : List Nat} {now : Int} (vc : VC (a.steps m) now P) : kpS a.g (rT2 (a.rows m) P) = true ∧ ∀ w ∈ rT2 (a.rows m) P,w.length = m.toNat ∧ ∀ c ∈ w,c < a.q.toNat:=by
  obtain ⟨os,s243,sr⟩:=AR.steps_ok g
  have lt : ∀ c ∈ P,c < (a.rows m).length:=fun c hc => by rw [← sr]; exact vc.lt c hc
  have mem : ∀ c ∈ P,(a.rows m).getD c [] ∈ a.rows m:=fun c hc => by
    rw [List.getD_eq_getElem?_getD,List.getElem?_eq_getElem (lt c hc)]
    exact List.getElem_mem _
  have l2 : (rT2 (a.rows m) P).length = P.length:=by unfold rT2; rw [List.length_map]
  constructor
  · rw [kpS_iff]
    intro i hi
    rw [l2] at hi
    rw [rT2_at hi]
    refine ⟨(rwL_mem (mem _ (gD_mem hi))).2.2,?_⟩
    cases i with
    | zero => exact .inl rfl
    | succ i =>
      right
      rw [Nat.add_sub_cancel,rT2_at (by omega)]
      exact vc_rg vc i hi
  · intro w hw
    obtain ⟨c,hc,rfl⟩:=gw_mem hw
    have:=rwL_mem (mem c hc)
    exact ⟨this.1,this.2.1⟩
theorem isS_rows {a : AR} {m : Int} (g : a.rm m = true) {P : List Nat} (vc : VC (a.steps m) (-1) P) (n1 : 1 ≤ P.length) (n40 : P.length ≤ 40) : (a.ru && isS a.q.toNat ((rT2 (a.rows m) P).map stW)) = true ∧ (((rT2 (a.rows m) P).map stW).getD 0 []).length = m.toNat ∧ ((rT2 (a.rows m) P).map stW).length = P.length:=by
  obtain ⟨r1,r2⟩:=a.rm_iff g
  obtain ⟨h1,h2⟩:=vc_ok g vc
  have q3:=a.q3 r1
  have l2 : (rT2 (a.rows m) P).length = P.length:=by unfold rT2; rw [List.length_map]
  refine ⟨?_,?_,by rw [List.length_map,l2]⟩
  · rw [r1,isS_of (m:=m.toNat) (by omega) h2 (by omega) (by omega) (by omega) (by omega)]; rfl
  · rw [List.getD_eq_getElem?_getD,List.getElem?_map,List.getElem?_eq_getElem (by omega)]
    show (stW _).length = _
    rw [stW_len]
    exact (h2 _ (List.getElem_mem _)).1
structure KnH (J : CallF) : Prop where
  k18 : K18 J
  k19 : K19 J
  k21 : K21 J
  k32 : K32 J
  k44 : K44 J
  k45 : K45 J
  k54 : K54 J
  k23 : ∀ h,J 23 [] h = some (.bool true,[],false)
section
variable {nq m0 n0 k0 : Int} {X Y : List (List Int)}
set_option maxHeartbeats 4000000 in
theorem c12_ok (J : CallF) (K : KnH J) (hJ : ∀ a h,J 12 a h = none) (h : Heap) {x y : AV} (mx : MR h x X) (my : MR h y Y) : CallsTo tbl J 12 [.agg [G nq,x,y],.agg [G m0,G n0,G k0]] h (.bool true,[],false):=by
  refine Tr.fnv (cf:=c12) (e:=.ret) (s:=T.set (T.set .leaf [] (.agg [G nq,x,y])) [false] (.agg [G m0,G n0,G k0])) (by decide) rfl (hJ _ _) rfl rfl rfl (by simp) ?_
  refine Tr.post (Q:=(fun s h => s.get [true,false] = .bool true)) (fun s h q => by simp [c12,q]) ?_
  have mx0 : MR (frameOf h) x X:=mx.lo []
  have my0 : MR (frameOf h) y Y:=my.lo []
  generalize frameOf h = H0 at *
  obtain ⟨Hr,hr⟩ : ∃ H,H0.plus [.cells 0 3 [G nq,x,y]] = H:=⟨_,rfl⟩
  have kr : Kp (fun _ => False) H0 Hr:=by rw [← hr]; exact Kp.plus _ _
  have gS0 : Hr.get H0.size = .cells 0 3 [G nq,x,y]:=by rw [← hr]; exact plus_at0 _ _ _ _ rfl
  obtain ⟨Ha,ha⟩ : ∃ H,Hr.plus [.cells 0 3 [G m0,G n0,G k0]] = H:=⟨_,rfl⟩
  have ka : Kp (fun _ => False) Hr Ha:=by rw [← ha]; exact Kp.plus _ _
  have gS:=ka.at gS0 (by simp) id
  have gA0 : Ha.get Hr.size = .cells 0 3 [G m0,G n0,G k0]:=by rw [← ha]; exact plus_at0 _ _ _ _ rfl
  obtain ⟨v,own1,e18,n,x1,y1,B,Wt,rfl,hn,⟨t1,hB⟩,t2,hW⟩:=K.k18 Ha ⟨nq,x,y,X,Y⟩ ⟨(mx0.kp kr).kp ka,(my0.kp kr).kp ka⟩
  simp only at e18
  obtain ⟨Hb,hb⟩ : ∃ H,Ha.plus own1 = H:=⟨_,rfl⟩
  have kb : Kp (fun _ => False) Ha Hb:=by rw [← hb]; exact Kp.plus _ _
  rw [hb] at t1 t2
  obtain ⟨Hc,hc⟩ : ∃ H,Hb.plus [.cells 0 3 [G n,x1,y1]] = H:=⟨_,rfl⟩
  have kc : Kp (fun _ => False) Hb Hc:=by rw [← hc]; exact Kp.plus _ _
  have gc : Hc.get Hb.size = .cells 0 3 [G n,x1,y1]:=by rw [← hc]; exact plus_at0 _ _ _ _ rfl
  have gA:=(kb.trans kc).at gA0 (by simp) id
  obtain ⟨sB,sB1,sB2⟩:=tabQ_small hB hn.2
  obtain ⟨sW,sW1,sW2⟩:=tabQ_small hW hn.2
  have oa : OkR (AR.of n x1 y1 B Wt) Hc:=⟨(t1.kp kc).mr,(t2.kp kc).mr,sB,sW⟩
  have b1:=mdZ_bd m0 (n:=5) (by omega)
  have b2:=mdZ_bd n0 (n:=10) (by omega)
  have e19:=K.k19 m0 5 Hc (by omega) (by omega)
  have e19':=K.k19 n0 10 Hc (by omega) (by omega)
  generalize mdZ m0 5 = zm at *
  generalize mdZ n0 10 = zn at *
  obtain ⟨M,hM⟩ : ∃ M : Nat,zm = M:=⟨zm.toNat,by omega⟩
  obtain ⟨N,hN⟩ : ∃ N : Nat,zn = N:=⟨zn.toNat,by omega⟩
  subst hM; subst hN
  have rm : (AR.of n x1 y1 B Wt).rm (M + 1 : Nat) = true:=by
    unfold AR.rm
    rw [ru_of hn hB hW,decide_eq_true (by omega)]; rfl
  have gd : (AR.of n x1 y1 B Wt).gd (M + 1 : Nat) (N + 1 : Nat) 0 = true:=gd_of hn hB hW (by omega) (by omega)
  obtain ⟨os,s243,sr⟩:=AR.steps_ok rm
  have va : (AR.of n x1 y1 B Wt).v = .agg [G n,x1,y1]:=rfl
  obtain ⟨a,haa⟩ : ∃ a,AR.of n x1 y1 B Wt = a:=⟨_,rfl⟩
  rw [haa] at oa rm gd os s243 sr va
  have e21:=K.k21 Hc a (M + 1 : Nat) (N + 1 : Nat) oa
  have cv : a.cntV (M + 1 : Nat) (N + 1 : Nat) = if okC (a.steps (M + 1 : Nat)) (N + 1) then .tup [G (a.cn (M + 1 : Nat) (N + 1)),G 0] else .tup [G 0,G 5]:=by
    unfold AR.cntV
    rw [if_pos gd]; rfl
  have k23:=K.k23
  have a1 : ((M + 1 : Nat) : Int) = 1 + (M : Int):=by omega
  have a2 : ((N + 1 : Nat) : Int) = 1 + (N : Int):=by omega
  have hp0 : Hc.plus [] = Hc:=by simp [Heap.plus]
  have gc':=fun H (k : Kp (fun _ => False) Hc H) => k.at gc (by simp) id
  rw [cv,va] at e21
  cases hk : okC (a.steps (M + 1 : Nat)) (N + 1)
  · rw [hk,if_neg (by simp),a1,a2] at e21
    clear K mx my mx0 my0 t1 t2 oa kr ka kb kc haa va sB sB1 sB2 sW sW1 sW2 rm gd os s243 sr cv hk hB hW gA0 gS0 gc'
    refine Tr.w fun s1 H1 hp _ kR => ?_
    obtain ⟨rfl,rfl⟩:=hp
    have q : True:=trivial
    refine W.seq (W.chunk ?_)
    simp (disch:=first|omega|exact zE rfl|exact zO|exact zL rfl) [c12_o0,zG,q,hr,ha]
    refine W.seq (W.chunk ?_)
    simp (disch:=first|omega|exact zE rfl|exact zO|exact zL rfl) [c12_o1,zG,q,gS,e18,app_if,app_if',hb,hc]
    refine W.seq (W.chunk ?_)
    simp (disch:=first|omega|exact zE rfl|exact zO|exact zL rfl) [-evDraw_c,c12_o2,zG,q,evDraw_0,gA,e19,e19']
    refine W.seq (W.chunk ?_)
    simp (disch:=first|omega|exact zE rfl|exact zO|exact zL rfl) [c12_o3,zG,q,gc,e21]
    refine W.assoc ?_
    refine W.seq (W.chunk ?_)
    simp (disch:=first|omega|exact zE rfl|exact zO|exact zL rfl) [c12_o4,zG,q]
    refine W.seq (W.chunk ?_)
    simp (disch:=first|omega|exact zE rfl|exact zO|exact zL rfl) [c12_o5,zG,q,k23]
    exact kR _ _ (by simp [T.get])
  · rw [hk,if_pos rfl,a1,a2] at e21
    have cn : a.cn (M + 1 : Nat) (N + 1) = (rowC (a.steps (M + 1 : Nat)) N).sum:=by
      unfold AR.cn
      rw [if_neg (by omega),Nat.add_sub_cancel]
    have bc:=okC_iff.1 hk N (by omega)
    rw [← cn] at bc
    rw [a1] at cn
    by_cases c0 : a.cn (1 + (M : Int)) (N + 1) = 0
    · rw [c0] at e21
      clear K mx my mx0 my0 t1 t2 oa kr ka kb kc haa va sB sB1 sB2 sW sW1 sW2 rm gd os s243 sr cv hk hB hW gA0 gS0 gc' cn bc c0
      refine Tr.w fun s1 H1 hp _ kR => ?_
      obtain ⟨rfl,rfl⟩:=hp
      have q : True:=trivial
      refine W.seq (W.chunk ?_)
      simp (disch:=first|omega|exact zE rfl|exact zO|exact zL rfl) [c12_o0,zG,q,hr,ha]
      refine W.seq (W.chunk ?_)
      simp (disch:=first|omega|exact zE rfl|exact zO|exact zL rfl) [c12_o1,zG,q,gS,e18,app_if,app_if',hb,hc]
      refine W.seq (W.chunk ?_)
      simp (disch:=first|omega|exact zE rfl|exact zO|exact zL rfl) [-evDraw_c,c12_o2,zG,q,evDraw_0,gA,e19,e19']
      refine W.seq (W.chunk ?_)
      simp (disch:=first|omega|exact zE rfl|exact zO|exact zL rfl) [c12_o3,zG,q,gc,e21]
      refine W.assoc ?_
      refine W.seq (W.chunk ?_)
      simp (disch:=first|omega|exact zE rfl|exact zO|exact zL rfl) [c12_o4,zG,q]
      refine W.seq (W.chunk ?_)
      simp (disch:=first|omega|exact zE rfl|exact zO|exact zL rfl) [c12_o5,zG,q]
      refine W.assoc ?_
      refine W.seq (W.chunk ?_)
      simp (disch:=first|omega|exact zE rfl|exact zO|exact zL rfl) [c12_o6,zG,q]
      refine W.seq (W.chunk ?_)
      simp (disch:=first|omega|exact zE rfl|exact zO|exact zL rfl) [c12_o7,zG,q]
      refine W.assoc ?_
      refine W.seq (W.chunk ?_)
      simp (disch:=first|omega|exact zE rfl|exact zO|exact zL rfl) [c12_o8,zG,q]
      refine W.seq (W.chunk ?_)
      simp (disch:=first|omega|exact zE rfl|exact zO|exact zL rfl) [c12_o9,zG,q,k23]
      exact kR _ _ (by simp [T.get])
    · rw [a1] at bc
      obtain ⟨all,hall⟩ : ∃ all,a.cn (1 + (M : Int)) (N + 1) = all:=⟨_,rfl⟩
      rw [hall] at e21 bc cn c0
      have b3:=mdZ_bd k0 (n:=all) (by omega)
      have e19k:=K.k19 k0 all Hc (by omega) (by omega)
      generalize mdZ k0 all = zk at *
      obtain ⟨kn,hkn⟩ : ∃ kn : Nat,zk = kn:=⟨zk.toNat,by omega⟩
      subst hkn
      have hs : Srt (a.steps (M + 1 : Nat)):=srt_st _ _
      obtain ⟨v32,own32,e32,_,_,_,p4⟩:=K.k32 Hc a (M + 1 : Nat) (N + 1 : Nat) kn oa
      have cn' : a.cn (M + 1 : Nat) (N + 1) = all:=by rw [a1]; exact hall
      obtain ⟨xi,rfl,rvi⟩:=p4 gd (by rw [Int.toNat_natCast]; exact hk) ⟨by omega,by rw [Int.toNat_natCast,cn']; omega⟩
      rw [Int.toNat_natCast,Int.toNat_natCast] at rvi
      obtain ⟨Hd,hd⟩ : ∃ H,Hc.plus own32 = H:=⟨_,rfl⟩
      have kd : Kp (fun _ => False) Hc Hd:=by rw [← hd]; exact Kp.plus _ _
      rw [hd] at rvi
      have od:=oa.kp kd
      have nwr : nwL (a.steps (M + 1 : Nat)) (-1) = List.range (a.steps (M + 1 : Nat)).length:=rfl
      have hsum : ((nwL (a.steps (M + 1 : Nat)) (-1)).map (cnt (a.steps (M + 1 : Nat)) (N + 1 - 1))).sum = all:=by
        rw [nwr,Nat.add_sub_cancel,cn,a1]; rfl
      obtain ⟨i1,i2⟩:=ix_itm hs (j:=N + 1) (now:=-1) (k:=kn) (.inl ⟨by omega,by rw [hsum]; omega⟩)
      have li:=itm_len (a.steps (M + 1 : Nat)) (N + 1) (nwL (a.steps (M + 1 : Nat)) (-1)) kn
      have itR : a.itR (M + 1 : Nat) (N + 1) kn = rT2 (a.rows (M + 1 : Nat)) (itm (a.steps (M + 1 : Nat)) (N + 1) (nwL (a.steps (M + 1 : Nat)) (-1)) kn):=rfl
      rw [itR] at rvi
      have bfI:=fun k' => itm_before hs (j:=N + 1) (now:=-1) (k:=kn) (k':=k') (by omega)
      have itR' : a.itR (M + 1 : Nat) (N + 1) (kn + 1) = rT2 (a.rows (M + 1 : Nat)) (itm (a.steps (M + 1 : Nat)) (N + 1) (nwL (a.steps (M + 1 : Nat)) (-1)) (kn + 1)):=rfl
      have li':=itm_len (a.steps (M + 1 : Nat)) (N + 1) (nwL (a.steps (M + 1 : Nat)) (-1)) (kn + 1)
      obtain ⟨P,hP⟩ : ∃ P,itm (a.steps (M + 1 : Nat)) (N + 1) (nwL (a.steps (M + 1 : Nat)) (-1)) kn = P:=⟨_,rfl⟩
      rw [hP] at i1 i2 li rvi
      obtain ⟨s1',s2',s3'⟩:=isS_rows rm i2 (by omega) (by omega)
      obtain ⟨kp,wd⟩:=vc_ok rm i2
      have l2 : (rT2 (a.rows (M + 1 : Nat)) P).length = N + 1:=by unfold rT2; rw [List.length_map,li]
      have sxi:=rvi.sl
      rw [wsL_len,l2] at sxi
      obtain ⟨bi,vi,rfl⟩:=sxi.resolve_left (fun e => by omega)
      have gi : Hd.get bi = .cells 1 vi (wsL (rT2 (a.rows (M + 1 : Nat)) P)):=by
        rcases rvi with ⟨e,_⟩ | ⟨b',v',e,g⟩
        · cases e
        · rw [AV.slice.injEq] at e
          obtain ⟨rfl,_,_,rfl⟩:=e
          exact g
      have ok45 : Ok45 ⟨a,.slice bi 0 (N + 1) vi,(rT2 (a.rows (M + 1 : Nat)) P).map stW⟩ Hd:=by
        refine ⟨od,.inr ⟨bi,vi,by rw [← ws_ss,wsL_len,l2],by rw [← ws_ss]; exact gi⟩,by show ((rT2 (a.rows (M + 1 : Nat)) P).map stW).length ≤ _; rw [List.length_map,l2]; omega,fun s hs' => ?_⟩
        obtain ⟨w,hw,rfl⟩:=List.mem_map.1 hs'
        rw [stW_len,(wd w hw).1]
        omega
      obtain ⟨v44,own44,e44,q44⟩:=K.k44 Hd _ ok45
      obtain ⟨v45,own45,e45,q45⟩:=K.k45 Hd _ ok45
      simp only at e44 e45 q44 q45
      have wd' : ∀ w ∈ rT2 (a.rows (M + 1 : Nat)) P,∀ c ∈ w,c < a.q.toNat:=fun w hw => (wd w hw).2
      obtain ⟨rfl,_,_,q44⟩:=q44
      obtain ⟨rfl,_,q45⟩:=q45
      have m1 : (((M + 1 : Nat) : Int).toNat : Int) = (M + 1 : Nat):=by omega
      rw [s2',m1,s3',li] at q44
      obtain rfl:=(q44 s1' hk _ rfl wd').2 P kp rfl i2
      obtain rfl:=q45 s1' _ rfl wd'
      rw [i1] at e44
      rw [kp] at e45
      rw [va] at e44 e45 e32
      rw [a1,a2] at e32
      have hdp : Hd.plus [] = Hd:=by simp [Heap.plus]
      have gcd:=gc' Hd kd
      have lgt : ¬ (all : Int) < 0:=by omega
      have lz : ¬ (all : Int) = 0:=by omega
      obtain ⟨v33,own33,e33,_,_,r3,r4⟩:=K.k32 Hd a (M + 1 : Nat) (N + 1 : Nat) ((kn + 1 : Nat) : Int) od
      rw [va,a1,a2,show ((kn + 1 : Nat) : Int) = (kn : Int) + 1 by omega] at e33
      by_cases last : kn + 1 = all
      · obtain ⟨rfl,rfl⟩:=r3 gd (by rw [Int.toNat_natCast]; exact hk) (by rw [Int.toNat_natCast,cn']; omega)
        have lst : (kn : Int) + 1 = all:=by omega
        rw [hall] at *
        clear K mx my mx0 my0 t1 t2 oa od kr ka kb kc kd haa va sB sB1 sB2 sW sW1 sW2 rm gd os s243 sr cv hk hB hW gA0 gS0 gc' cn cn' hall p4 r3 r4 bfI hs nwr hsum itR itR' li' hP i1 i2 li s1' s2' s3' kp wd wd' rvi gi ok45 q44 q45 l2
        refine Tr.w fun s1 H1 hp _ kR => ?_
        obtain ⟨rfl,rfl⟩:=hp
        have q : True:=trivial
        refine W.seq (W.chunk ?_)
        simp (disch:=first|omega|exact zE rfl|exact zO|exact zL rfl) [c12_o0,zG,q,hr,ha]
        refine W.seq (W.chunk ?_)
        simp (disch:=first|omega|exact zE rfl|exact zO|exact zL rfl) [c12_o1,zG,q,gS,e18,app_if,app_if',hb,hc]
        refine W.seq (W.chunk ?_)
        simp (disch:=first|omega|exact zE rfl|exact zO|exact zL rfl) [-evDraw_c,c12_o2,zG,q,evDraw_0,gA,e19,e19']
        refine W.seq (W.chunk ?_)
        simp (disch:=first|omega|exact zE rfl|exact zO|exact zL rfl) [c12_o3,zG,q,gc,e21]
        refine W.assoc ?_
        refine W.seq (W.chunk ?_)
        simp (disch:=first|omega|exact zE rfl|exact zO|exact zL rfl) [c12_o4,zG,q]
        refine W.seq (W.chunk ?_)
        simp (disch:=first|omega|exact zE rfl|exact zO|exact zL rfl) [c12_o5,zG,q]
        refine W.assoc ?_
        refine W.seq (W.chunk ?_)
        simp (disch:=first|omega|exact zE rfl|exact zO|exact zL rfl) [c12_o6,zG,q]
        refine W.seq (W.chunk ?_)
        simp (disch:=first|omega|exact zE rfl|exact zO|exact zL rfl) [c12_o7,zG,q]
        refine W.assoc ?_
        refine W.seq (W.chunk ?_)
        simp (disch:=first|omega|exact zE rfl|exact zO|exact zL rfl) [c12_o8,zG,q,lz]
        refine W.seq (W.chunk ?_)
        simp (disch:=first|omega|exact zE rfl|exact zO|exact zL rfl) [c12_o9,zG,q]
        refine W.seq (W.chunk ?_)
        simp (disch:=first|omega|exact zE rfl|exact zO|exact zL rfl) [c12_o10,zG,q,gA,e19k]
        refine W.seq (W.chunk ?_)
        simp (disch:=first|omega|exact zE rfl|exact zO|exact zL rfl) [c12_o11,zG,q,gc,e32,app_if,app_if',hd]
        refine W.seq (W.chunk ?_)
        simp (disch:=first|omega|exact zE rfl|exact zO|exact zL rfl) [c12_o12,zG,q,gcd,e44]
        refine W.seq (W.chunk ?_)
        simp (disch:=first|omega|exact zE rfl|exact zO|exact zL rfl) [c12_o13,zG,q,gcd,e45]
        refine W.assoc ?_
        refine W.seq (W.chunk ?_)
        simp (disch:=first|omega|exact zE rfl|exact zO|exact zL rfl) [c12_o14,zG,q]
        refine W.seq (W.chunk ?_)
        simp (disch:=first|omega|exact zE rfl|exact zO|exact zL rfl) [c12_o15,zG,q]
        refine W.seq (W.chunk ?_)
        simp (disch:=first|omega|exact zE rfl|exact zO|exact zL rfl) [c12_o16,zG,q,gcd,e33]
        refine W.assoc ?_
        refine W.seq (W.chunk ?_)
        simp (disch:=first|omega|exact zE rfl|exact zO|exact zL rfl) [c12_o17,zG,q,lst]
        refine W.seq (W.chunk ?_)
        simp (disch:=first|omega|exact zE rfl|exact zO|exact zL rfl) [c12_o18,zG,q,k23]
        exact kR _ _ (by simp [T.get])
      · obtain ⟨xj,rfl,rvj⟩:=r4 gd (by rw [Int.toNat_natCast]; exact hk) ⟨by omega,by rw [Int.toNat_natCast,cn']; omega⟩
        rw [Int.toNat_natCast,Int.toNat_natCast,itR'] at rvj
        obtain ⟨He,he⟩ : ∃ H,Hd.plus own33 = H:=⟨_,rfl⟩
        have ke : Kp (fun _ => False) Hd He:=by rw [← he]; exact Kp.plus _ _
        rw [he] at rvj
        obtain ⟨t,t1',t2',px,py,t3',t4',t5'⟩:=bfI (kn + 1) (by omega) (by rw [hsum]; omega)
        obtain ⟨_,vc'⟩:=ix_itm hs (j:=N + 1) (now:=-1) (k:=kn + 1) (.inl ⟨by omega,by rw [hsum]; omega⟩)
        obtain ⟨P',hP'⟩ : ∃ P,itm (a.steps (M + 1 : Nat)) (N + 1) (nwL (a.steps (M + 1 : Nat)) (-1)) (kn + 1) = P:=⟨_,rfl⟩
        rw [hP'] at vc' rvj t2' t4' li'
        rw [hP] at t2' t3'
        have l2' : (rT2 (a.rows (M + 1 : Nat)) P').length = N + 1:=by unfold rT2; rw [List.length_map,li']
        have sxj:=rvj.sl
        rw [wsL_len,l2'] at sxj
        obtain ⟨bj,vj,rfl⟩:=sxj.resolve_left (fun e => by omega)
        have gj : He.get bj = .cells 1 vj (wsL (rT2 (a.rows (M + 1 : Nat)) P')):=by
          rcases rvj with ⟨e,_⟩ | ⟨b',v',e,g⟩
          · cases e
          · rw [AV.slice.injEq] at e
            obtain ⟨rfl,_,_,rfl⟩:=e
            exact g
        have gi':=ke.at gi (by simp) id
        rw [ws_ss] at gi' gj
        have e54:=K.k54 He ⟨_,_,bi,vi,bj,vj,N + 1⟩ ⟨gi',gj,by rw [List.length_map,l2],by rw [List.length_map,l2'],by show N + 1 ≤ _; omega⟩
        simp only at e54
        have pyl : py < (a.rows (M + 1 : Nat)).length:=by
          rw [← sr]
          exact vc'.lt py (List.mem_iff_getElem?.2 ⟨t,t4'⟩)
        have q3 : a.q.toNat ≤ 3:=by
          have:=a.q3 (a.rm_iff rm).1
          omega
        have less:=rows_srt (q:=a.q.toNat) (m:=((M + 1 : Nat) : Int).toNat) (B:=a.B) q3 t5' pyl
        have bf : bfr ((rT2 (a.rows (M + 1 : Nat)) P).map stW) ((rT2 (a.rows (M + 1 : Nat)) P').map stW) = true:=by
          rw [bfr_at (t:=t) (x:=stW ((a.rows (M + 1 : Nat)).getD px [])) (y:=stW ((a.rows (M + 1 : Nat)).getD py [])) (fun u hu => by
            unfold rT2
            simp only [List.getElem?_map,t2' u hu]) ?_ ?_ ?_]
          · exact less
          · unfold rT2
            rw [List.getElem?_map,List.getElem?_map,t3']; rfl
          · unfold rT2
            rw [List.getElem?_map,List.getElem?_map,t4']; rfl
          · intro e
            have less' : Op.bytesLess (stW ((a.rows (M + 1 : Nat)).getD px [])) (stW ((a.rows (M + 1 : Nat)).getD py [])) = true:=less
            rw [e,bl_irr] at less'
            cases less'
        rw [bf] at e54
        have lst : ¬ (kn : Int) + 1 = all:=by omega
        rw [hall] at *
        clear K mx my mx0 my0 t1 t2 oa od kr ka kb kc kd ke haa va sB sB1 sB2 sW sW1 sW2 rm gd os s243 sr cv hk hB hW gA0 gS0 gc' cn cn' hall p4 r3 r4 bfI hs nwr hsum itR itR' li' hP hP' i1 i2 li s1' s2' s3' kp wd wd' rvi rvj gi gi' gj ok45 q44 q45 l2 l2' less bf vc' t1' t2' t3' t4' t5' pyl
        refine Tr.w fun s1 H1 hp _ kR => ?_
        obtain ⟨rfl,rfl⟩:=hp
        have q : True:=trivial
        refine W.seq (W.chunk ?_)
        simp (disch:=first|omega|exact zE rfl|exact zO|exact zL rfl) [c12_o0,zG,q,hr,ha]
        refine W.seq (W.chunk ?_)
        simp (disch:=first|omega|exact zE rfl|exact zO|exact zL rfl) [c12_o1,zG,q,gS,e18,app_if,app_if',hb,hc]
        refine W.seq (W.chunk ?_)
        simp (disch:=first|omega|exact zE rfl|exact zO|exact zL rfl) [-evDraw_c,c12_o2,zG,q,evDraw_0,gA,e19,e19']
        refine W.seq (W.chunk ?_)
        simp (disch:=first|omega|exact zE rfl|exact zO|exact zL rfl) [c12_o3,zG,q,gc,e21]
        refine W.assoc ?_
        refine W.seq (W.chunk ?_)
        simp (disch:=first|omega|exact zE rfl|exact zO|exact zL rfl) [c12_o4,zG,q]
        refine W.seq (W.chunk ?_)
        simp (disch:=first|omega|exact zE rfl|exact zO|exact zL rfl) [c12_o5,zG,q]
        refine W.assoc ?_
        refine W.seq (W.chunk ?_)
        simp (disch:=first|omega|exact zE rfl|exact zO|exact zL rfl) [c12_o6,zG,q]
        refine W.seq (W.chunk ?_)
        simp (disch:=first|omega|exact zE rfl|exact zO|exact zL rfl) [c12_o7,zG,q]
        refine W.assoc ?_
        refine W.seq (W.chunk ?_)
        simp (disch:=first|omega|exact zE rfl|exact zO|exact zL rfl) [c12_o8,zG,q,lz]
        refine W.seq (W.chunk ?_)
        simp (disch:=first|omega|exact zE rfl|exact zO|exact zL rfl) [c12_o9,zG,q]
        refine W.seq (W.chunk ?_)
        simp (disch:=first|omega|exact zE rfl|exact zO|exact zL rfl) [c12_o10,zG,q,gA,e19k]
        refine W.seq (W.chunk ?_)
        simp (disch:=first|omega|exact zE rfl|exact zO|exact zL rfl) [c12_o11,zG,q,gc,e32,app_if,app_if',hd]
        refine W.seq (W.chunk ?_)
        simp (disch:=first|omega|exact zE rfl|exact zO|exact zL rfl) [c12_o12,zG,q,gcd,e44]
        refine W.seq (W.chunk ?_)
        simp (disch:=first|omega|exact zE rfl|exact zO|exact zL rfl) [c12_o13,zG,q,gcd,e45]
        refine W.assoc ?_
        refine W.seq (W.chunk ?_)
        simp (disch:=first|omega|exact zE rfl|exact zO|exact zL rfl) [c12_o14,zG,q]
        refine W.seq (W.chunk ?_)
        simp (disch:=first|omega|exact zE rfl|exact zO|exact zL rfl) [c12_o15,zG,q]
        refine W.seq (W.chunk ?_)
        simp (disch:=first|omega|exact zE rfl|exact zO|exact zL rfl) [c12_o16,zG,q,gcd,e33,app_if,app_if',he]
        refine W.assoc ?_
        refine W.seq (W.chunk ?_)
        simp (disch:=first|omega|exact zE rfl|exact zO|exact zL rfl) [c12_o17,zG,q,lst]
        refine W.seq (W.chunk ?_)
        simp (disch:=first|omega|exact zE rfl|exact zO|exact zL rfl) [c12_o18,zG,q]
        refine W.seq (W.chunk ?_)
        simp (disch:=first|omega|exact zE rfl|exact zO|exact zL rfl) [c12_o19,zG,q,e54,k23]
        refine W.ret ?_
        try simp only [zW,if_true]
        exact kR _ _ (by simp [T.get])
end
theorem kH71 : KnH T71 where
  k18:=fun h a o => by
    obtain ⟨v,own,e,l⟩:=k18 h a o
    exact ⟨v,own,by rw [show T71 18 [.agg [G a.q,a.x,a.y]] h = T49 18 [.agg [G a.q,a.x,a.y]] h from by simp (disch:=decide) only [T50,T51,T52,T53,T54,T55,T56,T57,T58,T59,T60,T61,T62,T63,T64,T65,T66,T67,T68,T69,T70,T71,addI_ne,addX_ne,addV_ne,addK_ne]]; exact e,l⟩
  k19:=fun x n h h1 h2 => by
    rw [show T71 19 [G x,G n] h = T48 19 [G x,G n] h from by simp (disch:=decide) only [T49,T50,T51,T52,T53,T54,T55,T56,T57,T58,T59,T60,T61,T62,T63,T64,T65,T66,T67,T68,T69,T70,T71,addI_ne,addX_ne,addV_ne,addK_ne]]; exact k19_48 x n h h1 h2
  k21:=fun h a m n o => by
    rw [show T71 21 [a.v,G m,G n] h = T39 21 [a.v,G m,G n] h from by simp (disch:=decide) only [T40,T41,T42,T43,T44,T45,T46,T47,T48,T49,T50,T51,T52,T53,T54,T55,T56,T57,T58,T59,T60,T61,T62,T63,T64,T65,T66,T67,T68,T69,T70,T71,addI_ne,addX_ne,addV_ne,addK_ne]]; exact k21 h a m n o
  k32:=fun h a m n k o => by
    obtain ⟨v,own,e,l⟩:=k32 h a m n k o
    exact ⟨v,own,by rw [show T71 32 [a.v,G m,G n,G k] h = T50 32 [a.v,G m,G n,G k] h from by simp (disch:=decide) only [T51,T52,T53,T54,T55,T56,T57,T58,T59,T60,T61,T62,T63,T64,T65,T66,T67,T68,T69,T70,T71,addI_ne,addX_ne,addV_ne,addK_ne]]; exact e,l⟩
  k44:=fun h b o => by
    obtain ⟨v,own,e,l⟩:=k44 h b o
    exact ⟨v,own,by rw [show T71 44 [b.a.v,b.x] h = T70 44 [b.a.v,b.x] h from by simp (disch:=decide) only [T71,addI_ne,addX_ne,addV_ne,addK_ne]]; exact e,l⟩
  k45:=fun h b o => by
    obtain ⟨v,own,e,l⟩:=k45 h b o
    exact ⟨v,own,by rw [show T71 45 [b.a.v,b.x] h = T69 45 [b.a.v,b.x] h from by simp (disch:=decide) only [T70,T71,addI_ne,addX_ne,addV_ne,addK_ne]]; exact e,l⟩
  k54:=k54
  k23:=fun h => by
    rw [show T71 23 [] h = T2 23 [] h from by simp (disch:=decide) only [T3,T4,T5,T6,T7,T8,T9,T10,T11,T12,T13,T14,T15,T16,T17,T18,T19,T20,T21,T22,T23,T24,T25,T26,T27,T28,T29,T30,T31,T32,T33,T34,T35,T36,T37,T38,T39,T40,T41,T42,T43,T44,T45,T46,T47,T48,T49,T50,T51,T52,T53,T54,T55,T56,T57,T58,T59,T60,T61,T62,T63,T64,T65,T66,T67,T68,T69,T70,T71,addI_ne,addX_ne,addV_ne,addK_ne]]; exact k23 h
theorem stripThere_ok (h : Heap) (m n k : Int) {nq : Int} {x y : AV} {B W : List (List Int)} (mx : MR h x B) (my : MR h y W) : CallsTo tbl T71 12 [.agg [G nq,x,y],.agg [G m,G n,G k]] h (.bool true,[],false):=c12_ok T71 kH71 (fun _ _ => by simp (disch:=decide) only [T1,T2,T3,T4,T5,T6,T7,T8,T9,T10,T11,T12,T13,T14,T15,T16,T17,T18,T19,T20,T21,T22,T23,T24,T25,T26,T27,T28,T29,T30,T31,T32,T33,T34,T35,T36,T37,T38,T39,T40,T41,T42,T43,T44,T45,T46,T47,T48,T49,T50,T51,T52,T53,T54,T55,T56,T57,T58,T59,T60,T61,T62,T63,T64,T65,T66,T67,T68,T69,T70,T71,addI_ne,addX_ne,addV_ne,addK_ne]; rfl) h mx my
end Go.Proofs.Ytljgfdamdcikgaa.Ev
namespace Go.AEv
open Go.ChangeShapes Go.WideShapes
section
variable {H : Type} {enc : TypeId × Value → H} {P : Program} {k e : TypeId} {q : IntKind} {W : World} {base : Nat} {sp : Nat → Bool} {held : Bool}
theorem okWide_three (A : Go.WideMaps.ArrKey P k e 3) {r : Reach} {b0 : Nat} {v : Value} (h : Value.okWide P W r b0 k v) : ∃ c0 c1 c2,v = .agg #[c0,c1,c2]:=by
  simp only [Value.okWide,A.hu] at h
  obtain ⟨cs,h1,h2,_⟩:=h
  rw [A.size] at h2
  obtain ⟨l⟩:=cs
  match l,h2 with
  | [c0,c1,c2],_ => exact ⟨c0,c1,c2,h1⟩
theorem open_three (A : Go.WideMaps.ArrKey P k e 3) (he : P.underlying e = some (.int q)) {r : Reach} {b0 : Nat} {v : Value} {d : DataW H} {ps : List MemPlace} (hval : Value.okWide P W r b0 k v) (hd : DataW.Trod enc P W base sp held k v d ps) :
    ∃ a b c : Int,v = .agg #[.int q a,.int q b,.int q c] ∧ d = .agg [.lit (.int q a),.lit (.int q b),.lit (.int q c)] ∧ ps = [] ∧ (Lit.int q a).wf = true ∧ (Lit.int q b).wf = true ∧ (Lit.int q c).wf = true:=by
  obtain ⟨c0,c1,c2,rfl⟩:=okWide_three A hval
  obtain ⟨fuel,hf⟩:=hd
  cases fuel with
  | zero => simp [DataW.trod] at hf
  | succ n =>
    rw [DataW.trod_step] at hf
    unfold DataW.trodStep at hf
    simp only [A.hu,Value.cells] at hf
    rw [if_pos (by rw [A.size]; rfl)] at hf
    simp only [Option.map_eq_some_iff] at hf
    obtain ⟨xs,hx,e1⟩:=hf
    rw [show List.range 3 = [0,1,2] from rfl,List.mapM_cons,List.mapM_cons,List.mapM_cons,List.mapM_nil] at hx
    simp only [bind,Option.bind_eq_some_iff,pure,Option.some.injEq,A.one] at hx
    obtain ⟨y0,h0,_,⟨y1,h1,_,⟨y2,h2,_,rfl,rfl⟩,rfl⟩,rfl⟩:=hx
    obtain ⟨a,ea,rfl,wa⟩:=DataW.trod_int he h0
    obtain ⟨b,eb,rfl,wb⟩:=DataW.trod_int he h1
    obtain ⟨c,ec,rfl,wc⟩:=DataW.trod_int he h2
    simp at ea eb ec
    subst ea; subst eb; subst ec
    simp only [Prod.mk.injEq] at e1
    exact ⟨a,b,c,rfl,by rw [← e1.1]; rfl,by rw [← e1.2]; rfl,wa,wb,wc⟩
theorem shut_three (A : Go.WideMaps.ArrKey P k e 3) (he : P.underlying e = some (.int q)) {a b c : Int} (wa : (Lit.int q a).wf = true) (wb : (Lit.int q b).wf = true) (wc : (Lit.int q c).wf = true) :
    DataW.Trod enc P W base sp held k (.agg #[.int q a,.int q b,.int q c]) (.agg [.lit (.int q a),.lit (.int q b),.lit (.int q c)]) [] :=
  ⟨2,by
    show DataW.trod enc P W base sp held (1 + 1) k [.int q a,.int q b,.int q c] = _
    rw [DataW.trod_step]
    unfold DataW.trodStep
    simp only [A.hu]
    rw [if_pos (by rw [A.size]; rfl),show List.range 3 = [0,1,2] from rfl,List.mapM_cons,List.mapM_cons,List.mapM_cons,List.mapM_nil]
    simp [A.one,DataW.trod,he,wa,wb,wc]⟩
end
end Go.AEv
set_option linter.unusedVariables false
set_option linter.unusedSimpArgs false
namespace Go.AEv
open Go.ChangeShapes Go.WideShapes Go.Proofs.Ytljgfdamdcikgaa.Ev
theorem MR.ext {h h' : Heap} (e : Ext h h') {y : AV} {M : List (List Int)} (m : MR h y M) : MR h' y M:=by
  rcases m with m | ⟨b,v,cs,rfl,g,hl,hr⟩
  · exact .inl m
  · refine .inr ⟨b,v,cs,rfl,e _ _ g (by simp),hl,fun i r q => ?_⟩
    obtain ⟨l,h1,h2⟩:=hr i r q
    exact ⟨l,h1,LR.ext e h2⟩
theorem rows_lo {CK : CKT} {w : World} {H : Type} {enc : TypeId × Value → H} {P : Program} {e i : TypeId} (he : P.underlying e = some (.slice i)) (hi : P.underlying i = some (.int .i64)) (hc : P.cellsOf i = 1) :
    ∀ (vs : List Value) {φ : Nat → Emb} {h : Heap} (ho : h.own = []) (hr : HR CK w [] φ h w),(∀ u ∈ vs,∃ fuel z,DataW.trod enc P w 0 (fun _ => true) true fuel e [u] = some z) →
    ∃ φ' h',∃ (rs : List AV) (ls : List (List Int)),h'.own = [] ∧ HR CK w [] φ' h' w ∧ Stp φ h φ' h' ∧ Ext h h' ∧ rs.length = vs.length ∧ ls.length = vs.length ∧ ∀ (j : Nat) u r,vs[j]? = some u → rs[j]? = some r → VR φ' h' r u ∧ Value.oneCell' u = true ∧ ∃ l,ls[j]? = some l ∧ LR h' r l
  | [],φ,h,ho,hr,_ => ⟨φ,h,[],[],ho,hr,Stp.refl φ h,Ext.refl h,rfl,rfl,fun j u r q => by simp at q⟩
  | u :: us,φ,h,ho,hr,ht => by
    obtain ⟨fuel,z,hf⟩:=ht u (by simp)
    obtain ⟨φ1,h1,x,l,o1,r1,s1,e1,v1,p1,c1⟩:=ints_lo0 ho hr he hi hc hf
    obtain ⟨φ2,h2,rs,ls,o2,r2,s2,e2,l1,l2,q⟩:=rows_lo he hi hc us o1 r1 (fun u' hu => ht u' (by simp [hu]))
    refine ⟨φ2,h2,x :: rs,l :: ls,o2,r2,s1.trans s2,e1.trans e2,by simp [l1],by simp [l2],fun j u' r hu hr' => ?_⟩
    cases j with
    | zero =>
      simp only [List.getElem?_cons_zero,Option.some.injEq] at hu hr'
      subst hu hr'
      exact ⟨VR.step s2 _ _ v1,c1,l,rfl,p1.ext e2⟩
    | succ j =>
      simp only [List.getElem?_cons_succ] at hu hr' ⊢
      exact q j u' r hu hr'
theorem mat_lo0 {CK : CKT} {φ : Nat → Emb} {h : Heap} {w : World} (ho : h.own = []) (hr : HR CK w [] φ h w) {H : Type} {enc : TypeId × Value → H} {P : Program} {t e i : TypeId} {v : Value} {fuel : Nat} {z : DataW H × List MemPlace}
    (ht : P.underlying t = some (.slice e)) (he : P.underlying e = some (.slice i)) (hi : P.underlying i = some (.int .i64)) (hce : P.cellsOf e = 1) (hci : P.cellsOf i = 1) (hf : DataW.trod enc P w 0 (fun _ => true) true fuel t [v] = some z) :
    ∃ φ' h' x M,h'.own = [] ∧ HR CK w [] φ' h' w ∧ Stp φ h φ' h' ∧ Ext h h' ∧ VR φ' h' x v ∧ MR h' x M ∧ Value.oneCell' v = true:=by
  rcases DataW.trod_slice ht hf with ⟨hcs,_⟩ | ⟨a,len,cap,elems,rest,n,_,hcs,_,_,hl,hm,hlen,hel,hsp,_⟩
  · have hcs' : v = .slice none 0 0:=(List.cons.inj hcs).1
    rw [hcs']
    exact ⟨φ,h,.nils,[],ho,hr,Stp.refl φ h,Ext.refl h,by simp [VR],.inl ⟨.inl rfl,rfl⟩,rfl⟩
  · have hcs' : v = .slice (some a) len cap:=(List.cons.inj hcs).1
    rw [hcs']
    by_cases h0 : len = 0
    · subst h0
      exact ⟨φ,h,.slice0,[],ho,hr,Stp.refl φ h,Ext.refl h,by simp [VR],.inl ⟨.inr rfl,rfl⟩,rfl⟩
    · obtain ⟨hrl,hre⟩:=hsp rfl
      have each : ∀ j,j < cap → ∃ u,w.cell? (a.add j) = some u ∧ ∃ z,DataW.trod enc P w 0 (fun _ => true) true n e [u] = some z:=fun j hj => by
        have hb' : ∃ y,(w.cells? 0 (a.add (j * P.cellsOf e)) (P.cellsOf e)).bind (DataW.trod enc P w 0 (fun _ => true) true n e) = some y:=by
          by_cases hjl : j < len
          · rw [hel j hjl,List.getElem?_eq_getElem (by omega)]; exact ⟨_,rfl⟩
          · have:=hre (j - len) (by omega)
            rw [show len + (j - len) = j by omega] at this
            rw [this,List.getElem?_eq_getElem (by omega)]; exact ⟨_,rfl⟩
        obtain ⟨y,hy⟩:=hb'
        rw [hce,Nat.mul_one,Option.bind_eq_some_iff] at hy
        obtain ⟨cs',h1,h2⟩:=hy
        have hl1:=(World.cells?_some h1).2.1
        obtain ⟨u,rfl⟩ : ∃ u,cs' = [u]:=by
          cases cs' with
          | nil => simp at hl1
          | cons u r => cases r with
            | nil => exact ⟨u,rfl⟩
            | cons u' r => simp at hl1
        exact ⟨u,cell_of_cells?_one h1,y,h2⟩
      obtain ⟨f,hfe⟩ : ∃ f : Nat → Value,∀ j,j < cap → w.cell? (a.add j) = some (f j) ∧ ∃ z,DataW.trod enc P w 0 (fun _ => true) true n e [f j] = some z :=
        ⟨fun j => if hj : j < cap then Classical.choose (each j hj) else .nilFunc,fun j hj => by
          simp only [dif_pos hj]
          exact Classical.choose_spec (each j hj)⟩
      obtain ⟨b,off,spot⟩:=a
      have hspot : spot = none:=by simpa [Addr.add] using World.cell?_spot (hfe 0 (by omega)).1
      subst hspot
      have hcell : ∀ j,j < cap → w.cell? ⟨b,off + j,none⟩ = some (f j):=fun j hj => by rw [← Go.WideShapes.add_plain]; exact (hfe j hj).1
      obtain ⟨c,ty,fr,hb,hc0⟩:=cell_obj (hcell 0 (by omega))
      have hcj : ∀ j,j < cap → c[off + j]? = some (f j):=fun j hj => by
        obtain ⟨c',ty',fr',hb',hcj⟩:=cell_obj (hcell j hj)
        rw [hb] at hb'
        simp only [Option.some.injEq,Obj.cells.injEq] at hb'
        obtain ⟨rfl,_⟩:=hb'
        exact hcj
      have hsize : off + cap ≤ c.size:=by
        have:=(Array.getElem?_eq_some_iff.1 (hcj (cap - 1) (by omega))).1
        omega
      obtain ⟨φ1,h1,rs,ls,o1,r1,s1,e1,l1,l2,q⟩:=rows_lo he hi hci ((List.range len).map f) ho hr (fun u hu => by
        obtain ⟨j,hj,rfl⟩:=List.mem_map.1 hu
        obtain ⟨z,hz⟩:=(hfe j (by have:=List.mem_range.1 hj; omega)).2
        exact ⟨n,z,hz⟩)
      simp only [List.length_map,List.length_range] at l1 l2
      have hat : ∀ j,j < len → ((List.range len).map f)[j]? = some (f j):=fun j hj => by simp [hj]
      refine ⟨AEv.upd φ1 h1.N ⟨b,off,cap⟩,h1.more (.cells 1 len rs),.slice h1.N 0 len len,ls,rfl,lo_add o1 r1 _ _ ?_,s1.trans (lo_stp o1 _ _),e1.trans (more_ext h1 o1 _),?_,.inr ⟨h1.N,len,rs,by rw [l2],more_at _ _,by omega,fun j r hr' => ?_⟩,rfl⟩
      · refine ⟨c,ty,fr,hb,hsize,by show rs.length ≤ cap; omega,fun j x hx => ?_⟩
        have hj : j < len:=by have:=(List.getElem?_eq_some_iff.1 hx).1; omega
        obtain ⟨q1,q2,_⟩:=q j (f j) x (hat j hj) hx
        exact ⟨f j,hcj j (by omega),VR.step (lo_stp o1 _ _) _ _ q1,q2⟩
      · simp only [VR]
        exact ⟨_,cap,1,len,_,rfl,hl,more_at _ _,Nat.le_refl _,fun _ => ⟨by simp [AEv.upd],fun _ _ => by simp [AEv.upd]⟩⟩
      · have hj : j < len:=by have:=(List.getElem?_eq_some_iff.1 hr').1; omega
        obtain ⟨_,_,l,q3,q4⟩:=q j (f j) r (hat j hj) hr'
        exact ⟨l,q3,q4.ext (more_ext h1 o1 _)⟩
structure RuleKey (P : Program) (k i t : TypeId) (f g l : Field) : Prop where
  hu : P.underlying k = some (.struct #[f,g,l])
  size : P.cellsOf k = 3
  ci : P.cellsOf i = 1
  ct : P.cellsOf t = 1
  f1 : f.type = i
  f2 : g.type = t
  f3 : l.type = t
  o1 : f.offset = 0
  o2 : g.offset = 1
  o3 : l.offset = 2
theorem okWide_rule {P : Program} {W : World} {k i t : TypeId} {f g l : Field} (A : RuleKey P k i t f g l) {r : Reach} {b0 : Nat} {v : Value} (h : Value.okWide P W r b0 k v) : ∃ c0 c1 c2,v = .agg #[c0,c1,c2]:=by
  simp only [Value.okWide,A.hu] at h
  obtain ⟨cs,h1,h2,_⟩:=h
  rw [A.size] at h2
  obtain ⟨l⟩:=cs
  match l,h2 with
  | [c0,c1,c2],_ => exact ⟨c0,c1,c2,h1⟩
theorem rule_lo {CK : CKT} {φ : Nat → Emb} {h : Heap} {w : World} (ho : h.own = []) (hr : HR CK w [] φ h w) {H : Type} {enc : TypeId × Value → H} {P : Program} {k i t e : TypeId} {f g l : Field} {v : Value} {d : DataW H} {p : List MemPlace} (A : RuleKey P k i t f g l)
    (ht : P.underlying t = some (.slice e)) (he : P.underlying e = some (.slice i)) (hi : P.underlying i = some (.int .i64)) (hce : P.cellsOf e = 1) {r : Reach} {b0 : Nat} (hval : Value.okWide P w r b0 k v) (kd : DataW.Trod enc P w 0 (fun _ => true) true k v d p) :
    ∃ φ' h' q x y B W,h'.own = [] ∧ HR CK w [] φ' h' w ∧ Stp φ h φ' h' ∧ Ext h h' ∧ VR φ' h' (.agg [.int .i64 q,x,y]) v ∧ MR h' x B ∧ MR h' y W:=by
  obtain ⟨c0,c1,c2,rfl⟩:=okWide_rule A hval
  obtain ⟨fuel,hf⟩:=kd
  cases fuel with
  | zero => simp [DataW.trod] at hf
  | succ n =>
    rw [DataW.trod_step] at hf
    unfold DataW.trodStep at hf
    simp only [A.hu,Value.cells] at hf
    rw [if_pos (by rw [A.size]; rfl)] at hf
    simp only [Option.map_eq_some_iff] at hf
    obtain ⟨xs,hx,e1⟩:=hf
    rw [List.mapM_cons,List.mapM_cons,List.mapM_cons,List.mapM_nil] at hx
    simp only [bind,Option.bind_eq_some_iff,pure,Option.some.injEq,A.ci,A.ct,A.f1,A.f2,A.f3,A.o1,A.o2,A.o3] at hx
    obtain ⟨y0,h0,_,⟨y1,h1,_,⟨y2,h2,_,rfl,rfl⟩,rfl⟩,rfl⟩:=hx
    have h0' : DataW.trod enc P w 0 (fun _ => true) true n i [c0] = some y0:=h0
    have h1' : DataW.trod enc P w 0 (fun _ => true) true n t [c1] = some y1:=h1
    have h2' : DataW.trod enc P w 0 (fun _ => true) true n t [c2] = some y2:=h2
    obtain ⟨a,ea,_,_⟩:=DataW.trod_int hi h0'
    obtain rfl : c0 = .int .i64 a:=by simpa using ea
    obtain ⟨φ1,m1,x,B,o1,r1,s1,x1,v1,p1,q1⟩:=mat_lo0 ho hr ht he hi hce A.ci h1'
    obtain ⟨φ2,m2,y,W,o2,r2,s2,x2,v2,p2,q2⟩:=mat_lo0 o1 r1 ht he hi hce A.ci h2'
    refine ⟨φ2,m2,a,x,y,B,W,o2,r2,s1.trans s2,x1.trans x2,?_,Go.AEv.MR.ext x2 p1,p2⟩
    simp only [VR,VRs]
    refine ⟨#[.int .i64 a,c1,c2],rfl,⟨_,[c1,c2],rfl,rfl,c1,[c2],rfl,VR.step s2 _ _ v1,c2,[],rfl,v2,rfl⟩,fun z hz => ?_⟩
    simp only [List.mem_cons,List.not_mem_nil,or_false] at hz
    rcases hz with rfl | rfl | rfl
    · rfl
    · exact q1
    · exact q2
end Go.AEv
