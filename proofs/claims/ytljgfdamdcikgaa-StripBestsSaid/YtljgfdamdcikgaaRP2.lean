/-
 Of the functions that this law reaches,part 2: what they answer. No condition.
-/
import Derived.Test.YtljgfdamdcikgaaRP1
import Derived.Test.YtljgfdamdcikgaaEvW
import Derived.Test.YtljgfdamdcikgaaEvAny
set_option linter.unusedVariables false
set_option linter.unusedSimpArgs false
namespace Go.Proofs.Ytljgfdamdcikgaa.Ev
open Go Go.AEv
attribute [local simp] evFunc initS evOps_c evTrim_c evSkip_c evExit_c evRet_c evSeq_c evCond_c evBlock_c evDraw_c runOps_n runOps_c exec_n exec_g pure1_c act AOpd.ev T.get T.set T.put evBin evUn forceT_eq forceV_eq forceL_eq evRess evRes one keep runFP_n runFP_c app_none AV.flats AV.flat came_some List.getElem?_cons_zero List.getElem?_cons_succ beqT wrapI idxI tdivI tmodI decT decF ibT ibF inT inF evScope_c if_pos if_neg Cm_some thenW_n thenW_e thenW_r blkW_n blkW_e blkW_r goI kn putAt AV.cells fillA loadA takeA mk Eff.isAll Eff.isNone Eff.commutes Eff.spares okPair apart eqAgg fits LK.fits allEq aveq eqk mmA
structure KS (a : AG) (m : Nat) (L : List (List Nat)) : Prop where
 w : ∀ w ∈ L,w.length = m ∧ (∀ c ∈ w,c < a.q) ∧ bsd a.B w = true
 n : ∀ i,i + 1 < L.length → blw a.W (L.getD i []) (L.getD (i + 1) []) = true
 l : L.length ≤ 1000
 m1 : 1 ≤ m
 m5 : m ≤ 5
section
variable {a : AG} {m : Nat} {L : List (List Nat)} {b v : Nat}
theorem KS.at {i : Nat} (k : KS a m L) (hi : i < L.length) : (L.getD i []).length = m ∧ (∀ c ∈ L.getD i [],c < a.q) ∧ bsd a.B (L.getD i []) = true:=k.w _ (by
 rw [List.getD_eq_getElem?_getD,List.getElem?_eq_getElem hi]
 exact List.getElem_mem _)
end
section
variable {a : AG} {w : List Nat} {b v i : Nat} {ws : List AV}
end
structure AK where
 a : AG
 m : Nat
 L : List (List Nat)
 b : Nat
 v : Nat
def Ok46 (b : AK) (h : Heap) : Prop:=OkG b.a h ∧ KS b.a b.m b.L ∧ h.get b.b = .cells 1 b.v (wsL b.L)
def Pre46 (b : AK) (args : List AV) (h : Heap) : Prop:=Ok46 b h ∧ args = [b.a.v,.slice b.b 0 b.L.length b.v]
def PostT (v : AV) (own : List AObj) : Prop:=v = .bool true ∧ own = []
noncomputable def T57 : CallF:=addK tbl T56 46 Pre46 (fun _ _ v own => PostT v own)
theorem t57 : Sound Go.Proofs.Try.prog T57:=Sound.addK follows ok t56 (by decide) _ _
def Ok40 (b : AK) (h : Heap) : Prop:=Ok46 b h ∧ b.L ≠ [] ∧ blw b.a.W (b.L.getD (b.L.length - 1) []) (b.L.getD 0 []) = true
def Pre40 (b : AK) (args : List AV) (h : Heap) : Prop:=Ok40 b h ∧ args = [b.a.v,.slice b.b 0 b.L.length b.v]
noncomputable def T58 : CallF:=addK tbl T57 40 Pre40 (fun _ _ v own => PostT v own)
theorem t58 : Sound Go.Proofs.Try.prog T58:=Sound.addK follows ok t57 (by decide) _ _
structure A39 where
 a : AG
 w : List Nat
 ws : List AV
 b : Nat
 v : Nat
 i : Nat
def Ok39 (b : A39) (h : Heap) : Prop:=b.a.q ≤ 3 ∧ (∀ c ∈ b.w,c < b.a.q) ∧ 1 ≤ b.w.length ∧ b.w.length ≤ 5 ∧ h.get b.b = .cells 1 b.v b.ws ∧ b.ws[b.i]? = some (.str (stW b.w))
def Pre39 (b : A39) (args : List AV) (h : Heap) : Prop:=Ok39 b h ∧ args = [b.a.v,.slice b.b b.i 1 b.v]
noncomputable def T59 : CallF:=addK tbl T58 39 Pre39 (fun _ _ v own => PostT v own)
theorem t59 : Sound Go.Proofs.Try.prog T59:=Sound.addK follows ok t58 (by decide) _ _
def goodB (q : Nat) (u : UInt8) : Bool:=decide (48 ≤ u.toNat ∧ u.toNat < 48 + q)
def goodS (q : Nat) (s : List UInt8) : Bool:=s.all (goodB q)
def spec98 : SpecF:=fun args h => match args with
 | [.int .i32 c,.ptr b 0 3] => match h.get b with
  | .cells 0 3 [.int .i64 q,x,y] => if 0 ≤ c ∧ c ≤ 1114111 ∧ 0 ≤ q ∧ q ≤ 1000 then some (.bool (!decide (0 ≤ c - 48 ∧ c - 48 ≤ q - 1)),h.own,true) else none
  | _ => none
 | _ => none
theorem c98_ok (J : CallF) (k60 : K60 J) (hJ : ∀ a h,J 98 a h = none) (h : Heap) {b : Nat} {qq c : Int} {x y : AV} (gb : h.get b = .cells 0 3 [G qq,x,y]) (hc : 0 ≤ c ∧ c ≤ 1114111) (hq : 0 ≤ qq ∧ qq ≤ 1000) : CallsTo tbl J 98 [.int .i32 c,.ptr b 0 3] h (.bool (!decide (0 ≤ c - 48 ∧ c - 48 ≤ qq - 1)),h.own,true):=by
 refine Tr.sh (cf:=c98) (e:=.ret) (s:=T.set (T.set .leaf [] (.int .i32 c)) [false] (.ptr b 0 3)) (by decide) rfl (hJ _ _) rfl rfl (by simp) ?_
 have kk:=k60 (c - 48) 0 (qq - 1) h
 generalize decide (0 ≤ c - 48 ∧ c - 48 ≤ qq - 1) = z at *
 refine Tr.w fun s1 H1 hp R kR => ?_
 obtain ⟨rfl,rfl⟩:=hp
 have q : True:=trivial
 refine zCh ?_
 simp (disch:=first|omega|exact zE rfl|exact zO|exact zL rfl) [c98_o0,zG,q]
 refine zCh ?_
 simp (disch:=first|omega|exact zE rfl|exact zO|exact zL rfl) [c98_o1,zG,q,gb,kk,app_if,app_if']
 refine W.ret ?_
 try simp only [zW,if_true]
 exact kR _ _ ⟨⟨[.bool (!z)],by simp [T.get,c98,evRess,evRes],rfl⟩,rfl⟩
noncomputable def T60 : CallF:=addI T59 98 spec98
theorem k60_59 : K60 T59:=fun n lo hi h => by
 simp (disch:=decide) only [T1,T2,T3,T4,T5,T6,T7,T8,T9,T10,T11,T12,T13,T14,T15,T16,T17,T18,T19,T20,T21,T22,T23,T24,T25,T26,T27,T28,T29,T30,T31,T32,T33,T34,T35,T36,T37,T38,T39,T40,T41,T42,T43,T44,T45,T46,T47,T48,T49,T50,T51,T52,T53,T54,T55,T56,T57,T58,T59,addI_ne,addX_ne,addV_ne,addK_ne]
 exact k60 n lo hi h
theorem t60 : Sound Go.Proofs.Try.prog T60:=Sound.add follows ok t59 (by decide) (fun args h x e => by
 unfold spec98 at e
 split at e
 ·split at e
  ·rename_i g1
   split at e
   ·rename_i hn
    simp only [Option.some.injEq] at e; subst e
    exact c98_ok T59 k60_59 (fun _ _ => by simp (disch:=decide) only [T1,T2,T3,T4,T5,T6,T7,T8,T9,T10,T11,T12,T13,T14,T15,T16,T17,T18,T19,T20,T21,T22,T23,T24,T25,T26,T27,T28,T29,T30,T31,T32,T33,T34,T35,T36,T37,T38,T39,T40,T41,T42,T43,T44,T45,T46,T47,T48,T49,T50,T51,T52,T53,T54,T55,T56,T57,T58,T59,addI_ne,addX_ne,addV_ne,addK_ne]; rfl) h g1 ⟨hn.1,hn.2.1⟩ hn.2.2
   ·cases e
  ·cases e
 ·cases e)
section
variable {b : Nat} {qq : Nat} {x y : AV} {c : List UInt8}
def ixS (qq : Nat) : List UInt8 → Nat → Int
 | [],_ => -1
 | u :: c,i => if goodB qq u then ixS qq c (i + 1) else i
end
section
variable {b qq : Nat} {x y : AV} {c : List UInt8}
end
structure A112 where
 c : List UInt8
 b : Nat
 qq : Nat
 x : AV
 y : AV
def Ok112 (a : A112) (h : Heap) : Prop:=h.get a.b = .cells 0 3 [G a.qq,a.x,a.y] ∧ a.qq ≤ 3 ∧ a.c.length ≤ 1000000
def Pre112 (a : A112) (args : List AV) (h : Heap) : Prop:=Ok112 a h ∧ args = [.str a.c,.func 98 [.ptr a.b 0 3],.bool true]
def Post112 (a : A112) (h : Heap) (v : AV) (own : List AObj) : Prop:=v = G (ixS a.qq a.c 0) ∧ own = []
noncomputable def T61 : CallF:=addK tbl T60 112 Pre112 Post112
theorem t61 : Sound Go.Proofs.Try.prog T61:=Sound.addK follows ok t60 (by decide) _ _
def Pre108 (a : A112) (args : List AV) (h : Heap) : Prop:=Ok112 a h ∧ args = [.str a.c,.func 98 [.ptr a.b 0 3]]
noncomputable def T62 : CallF:=addK tbl T61 108 Pre108 Post112
theorem t62 : Sound Go.Proofs.Try.prog T62:=Sound.addK follows ok t61 (by decide) _ _
def Post97 (a : A112) (h : Heap) (v : AV) (own : List AObj) : Prop:=v = .bool (!goodS a.qq a.c) ∧ own = []
noncomputable def T63 : CallF:=addK tbl T62 97 Pre108 Post97
theorem t63 : Sound Go.Proofs.Try.prog T63:=Sound.addK follows ok t62 (by decide) _ _
section
open Classical in
noncomputable def specS (tbl : Nat → Option CFunc) (I : CallF) (f : Nat) : SpecF:=fun args h => if hx : ∃ v,CallsTo tbl I f args h (v,h.own,true) then some (Classical.choose hx,h.own,true) else none
theorem specS_ok {tbl : Nat → Option CFunc} {I : CallF} {f : Nat} (args : List AV) (h : Heap) (x : AV × List AObj × Bool) (e : specS tbl I f args h = some x) : CallsTo tbl I f args h x:=by
 unfold specS at e
 split at e
 ·rename_i hx
  simp only [Option.some.injEq] at e
  subst e
  exact Classical.choose_spec hx
 ·cases e
end
noncomputable def T64 : CallF:=addI T63 96 (specS tbl T63 96)
theorem t64 : Sound Go.Proofs.Try.prog T64:=Sound.add follows ok t63 (by decide) specS_ok
section
variable {f : Nat} {cap cs : List AV} {p : Nat → Bool} {b v n : Nat}
end
def Pre107 (a : A111) (args : List AV) (h : Heap) : Prop:=Ok111 T64 a h ∧ args = [a.x,.func a.f a.cap]
noncomputable def T65 : CallF:=addK tbl T64 107 Pre107 Post111
theorem t65 : Sound Go.Proofs.Try.prog T65:=Sound.addK follows ok t64 (by decide) _ _
noncomputable def T66 : CallF:=addK tbl T65 95 Pre107 Post102
theorem t66 : Sound Go.Proofs.Try.prog T66:=Sound.addK follows ok t65 (by decide) _ _
def rowOkS (qq : Nat) (L : List (List UInt8)) (s : List UInt8) : Bool:=decide (s.length = (L.getD 0 []).length) && goodS qq s
def isS (qq : Nat) (L : List (List UInt8)) : Bool:=decide (1 ≤ L.length ∧ L.length ≤ 40) && decide (1 ≤ (L.getD 0 []).length ∧ (L.getD 0 []).length ≤ 5) && L.all (rowOkS qq L)
section
variable {a : AR} {x : AV} {L : List (List UInt8)}
end
structure AS where
 a : AR
 x : AV
 L : List (List UInt8)
def OkAS (b : AS) (h : Heap) : Prop:=b.a.ru = true ∧ EL h b.x (ss b.L) ∧ b.L.length ≤ 1000000 ∧ ∀ s ∈ b.L,s.length ≤ 1000000
def Pre77 (b : AS) (args : List AV) (h : Heap) : Prop:=OkAS b h ∧ args = [b.a.v,b.x]
def Post77 (b : AS) (h : Heap) (v : AV) (own : List AObj) : Prop:=v = .bool (isS b.a.q.toNat b.L) ∧ own = []
noncomputable def T67 : CallF:=addK tbl T66 77 Pre77 Post77
theorem t67 : Sound Go.Proofs.Try.prog T67:=Sound.addK follows ok t66 (by decide) _ _
def kpB (a : AG) (R : List (List Nat)) (i : Nat) : Bool:=bsd a.B (R.getD i []) && (decide (i = 0) || blw a.W (R.getD (i - 1) []) (R.getD i []))
def kpS (a : AG) (R : List (List Nat)) : Bool:=af (kpB a R) 0 R.length
structure WS (a : AG) (m : Nat) (R : List (List Nat)) : Prop where
 w : ∀ w ∈ R,w.length = m ∧ ∀ c ∈ w,c < a.q
 l : R.length ≤ 1000
 m5 : m ≤ 1000
section
variable {a : AG} {m : Nat} {R : List (List Nat)} {b v : Nat}
theorem WS.at {i : Nat} (k : WS a m R) (hi : i < R.length) : (R.getD i []).length = m ∧ ∀ c ∈ R.getD i [],c < a.q:=k.w _ (by
 rw [List.getD_eq_getElem?_getD,List.getElem?_eq_getElem hi]
 exact List.getElem_mem _)
end
structure AWS where
 a : AG
 m : Nat
 R : List (List Nat)
 b : Nat
 v : Nat
def Ok78 (b : AWS) (h : Heap) : Prop:=OkG b.a h ∧ WS b.a b.m b.R ∧ h.get b.b = .cells 1 b.v (wsL b.R)
def Pre78 (b : AWS) (args : List AV) (h : Heap) : Prop:=Ok78 b h ∧ args = [b.a.v,.slice b.b 0 b.R.length b.v]
def Post78 (b : AWS) (h : Heap) (v : AV) (own : List AObj) : Prop:=v = .bool (kpS b.a b.R) ∧ own = []
noncomputable def T68 : CallF:=addK tbl T67 78 Pre78 Post78
theorem t68 : Sound Go.Proofs.Try.prog T68:=Sound.addK follows ok t67 (by decide) _ _
def Post45 (a : AR) (L : List (List UInt8)) (v : AV) (own : List AObj) : Prop:=own = [] ∧ ((a.ru && isS a.q.toNat L) = false → v = .tup [.bool false,G 2]) ∧ ((a.ru && isS a.q.toNat L) = true → ∀ R : List (List Nat),L = R.map stW → (∀ w ∈ R,∀ c ∈ w,c < a.q.toNat) → v = .tup [.bool (kpS a.g R),G 0])
section
variable {a : AR} {x : AV} {L : List (List UInt8)}
end
structure A45 where
 a : AR
 x : AV
 L : List (List UInt8)
def Ok45 (b : A45) (h : Heap) : Prop:=OkR b.a h ∧ EL h b.x (ss b.L) ∧ b.L.length ≤ 1000000 ∧ ∀ s ∈ b.L,s.length ≤ 1000000
def Pre45 (b : A45) (args : List AV) (h : Heap) : Prop:=Ok45 b h ∧ args = [b.a.v,b.x]
noncomputable def T69 : CallF:=addK tbl T68 45 Pre45 (fun b _ v own => Post45 b.a b.L v own)
theorem t69 : Sound Go.Proofs.Try.prog T69:=Sound.addK follows ok t68 (by decide) _ _
theorem own_all (own : List AObj) : Eff.isAll (if own = [] then Eff.none else Eff.grow own) = false:=by
 split <;> rfl
theorem isAll_none : Eff.isAll Eff.none = false:=rfl
theorem VC.lt {S : List (List Nat)} : ∀ {P : List Nat} {now : Int},VC S now P → ∀ c ∈ P,c < S.length
 | [],_,_,c,h => by cases h
 | d :: P,now,⟨h1,_,h3⟩,c,h => by
  rcases List.mem_cons.1 h with rfl | h
  ·exact h1
  ·exact h3.lt c h
def Post44 (a : AR) (L : List (List UInt8)) (v : AV) (own : List AObj) : Prop:=own = [] ∧
 ((a.ru && isS a.q.toNat L) = false → v = .tup [G 0,G 2]) ∧
 ((a.ru && isS a.q.toNat L) = true → okC (a.steps (L.getD 0 []).length) L.length = false → v = .tup [G 0,G 5]) ∧
 ((a.ru && isS a.q.toNat L) = true → okC (a.steps (L.getD 0 []).length) L.length = true → ∀ R : List (List Nat),L = R.map stW → (∀ w ∈ R,∀ c ∈ w,c < a.q.toNat) → (kpS a.g R = false → v = .tup [G 0,G 6]) ∧
  ∀ P : List Nat,kpS a.g R = true → R = rT2 (a.rows (L.getD 0 []).length) P → VC (a.steps (L.getD 0 []).length) (-1) P → v = .tup [G (ix (a.steps (L.getD 0 []).length) (-1) P),G 0])
section
variable {a : AR} {x : AV} {L : List (List UInt8)}
end
noncomputable def T70 : CallF:=addK tbl T69 44 Pre45 (fun b _ v own => Post44 b.a b.L v own)
theorem t70 : Sound Go.Proofs.Try.prog T70:=Sound.addK follows ok t69 (by decide) _ _
def bfr : List (List UInt8) → List (List UInt8) → Bool
 | a :: L,b :: M => if a = b then bfr L M else Op.bytesLess a b
 | _,_ => false
section
variable {L M : List (List UInt8)} {b1 v1 b2 v2 n : Nat}
end
structure A54 where
 L : List (List UInt8)
 M : List (List UInt8)
 b1 : Nat
 v1 : Nat
 b2 : Nat
 v2 : Nat
 n : Nat
def Ok54 (a : A54) (h : Heap) : Prop:=h.get a.b1 = .cells 1 a.v1 (ss a.L) ∧ h.get a.b2 = .cells 1 a.v2 (ss a.M) ∧ a.L.length = a.n ∧ a.M.length = a.n ∧ a.n ≤ 1000000
def Pre54 (a : A54) (args : List AV) (h : Heap) : Prop:=Ok54 a h ∧ args = [.slice a.b1 0 a.n a.v1,.slice a.b2 0 a.n a.v2]
def Post54 (a : A54) (h : Heap) (v : AV) (own : List AObj) : Prop:=v = .bool (bfr a.L a.M) ∧ own = []
noncomputable def T71 : CallF:=addK tbl T70 54 Pre54 Post54
theorem t71 : Sound Go.Proofs.Try.prog T71:=Sound.addK follows ok t70 (by decide) _ _
def RBb (n m : Nat) (x : Bool) : List AV:=List.replicate m (.bool x) ++ List.replicate (n - m) (.bool false)
theorem RBb_len {n m : Nat} {x : Bool} (h : m ≤ n) : (RBb n m x).length = n:=by simp [RBb]; omega
theorem RBb_take (n m : Nat) (x : Bool) : (RBb n m x).take m = List.replicate m (.bool x):=by simp [RBb]
theorem RBb_all (n : Nat) (x : Bool) : RBb n n x = List.replicate n (.bool x):=by simp [RBb]
theorem RBb_put {n m k : Nat} {x : Bool} (h : m + k ≤ n) : putAt (RBb n m x) m (List.replicate k (.bool x)) = RBb n (m + k) x:=by
 unfold RBb
 rw [rep_put _ _ _ _ (by simp; omega),List.drop_replicate,Nat.sub_sub]
section
variable {n : Nat} {x : Bool}
abbrev P79 (h : Heap) (n : Nat) (x : Bool) (m : Nat) : SP:=(fun s h' => s.get [false,false,false] = .slice h.size 0 n n ∧ s.get [true,false,false] = G m ∧ h' = ⟨h.get,h.size,[.cells 1 n (RBb n m x)]⟩)
theorem repb_loop (J : CallF) (h : Heap) (hn : n ≤ 243) : ∀ (j m : Nat),n - m ≤ j → 1 ≤ m → m ≤ n → Tr tbl J c79_l0 (P79 h n x m) (.exit 0) (P79 h n x n):=by
 intro j
 induction j with
 | zero =>
  intro m hj h1 h2
  obtain rfl : m = n:=by omega
  have t : Tr tbl J ((.trim [[false,false,false],[true,false,false]] c79_b0)) (fun s h' => s.get [false,false,false] = .slice h.size 0 m m ∧ s.get [true,false,false] = G m ∧ h' = ⟨h.get,h.size,[.cells 1 m (RBb m m x)]⟩) (.exit 0) (fun s h' => s.get [false,false,false] = .slice h.size 0 m m ∧ s.get [true,false,false] = G m ∧ h' = ⟨h.get,h.size,[.cells 1 m (RBb m m x)]⟩):=Tr.region fun s h hp => by
   obtain ⟨g0,g1,rfl⟩:=hp
   simp (disch:=first|omega|exact zE rfl|exact zO|exact zL rfl) [c79_b0,c79_o8,frameOf,Heap.size,Heap.get,Eff.app,Heap.setOwn,g0,g1]
  exact Tr.out t (by simp)
 | succ j ih =>
  intro m hj h1 h2
  by_cases hm : m = n
  ·exact ih m (by omega) h1 h2
  ·obtain ⟨k,hk⟩ : ∃ k,k = min m (n - m):=⟨_,rfl⟩
   have hkm : m + k ≤ n:=by omega
   have e1:=RBb_len (n:=n) (m:=m) (x:=x) h2
   have e2:=RBb_take n m x
   have e3:=RBb_put (n:=n) (m:=m) (k:=k) (x:=x) hkm
   have e4 : min m (n - m) = k:=hk.symm
   have e5 : min k m = k:=by omega
   obtain ⟨cs,hcs⟩ : ∃ cs,RBb n m x = cs:=⟨_,rfl⟩
   rw [hcs] at e1 e2 e3
   have hm0 : ¬ (m = n ∧ 0 < n):=by omega
   have hm1 : ¬ (0 = n ∧ 0 < n):=by omega
   have t : Tr tbl J ((.trim [[false,false,false],[true,false,false]] c79_b0)) (fun s h' => s.get [false,false,false] = .slice h.size 0 n n ∧ s.get [true,false,false] = G m ∧ h' = ⟨h.get,h.size,[.cells 1 n cs]⟩) .normal (fun s h' => s.get [false,false,false] = .slice h.size 0 n n ∧ s.get [true,false,false] = G ((m + k : Nat) : Int) ∧ h' = ⟨h.get,h.size,[.cells 1 n (RBb n (m + k) x)]⟩):=Tr.region fun s h hp => by
    obtain ⟨g0,g1,rfl⟩:=hp
    simp (disch:=first|omega|exact zE rfl|exact zO|exact zL rfl) [c79_b0,c79_o8,c79_o9,frameOf,Heap.size,Heap.get,Eff.app,Heap.setOwn,g0,g1,slSlA,bounds,elems,copyA,rdOf,hm0,hm1,e1,e2,e3,e4,e5,List.take_replicate]
    omega
   rw [← hcs] at t
   exact Tr.next t (ih (m + k) (by omega) (by omega) (by omega))
theorem c79_ok (J : CallF) (k99 : ∀ (h : Heap) (n : Int),0 ≤ n → n < 244 → J 99 [.int .u64 1,.int .u64 n] h = some (.tup [.int .u64 0,.int .u64 n],[],false)) (hJ : ∀ a h,J 79 a h = none) (h : Heap) (b : Nat) (hb : h.get b = .cells 1 1 [.bool x]) (h1 : 1 ≤ n) (h2 : n ≤ 243) :
  CallsTo tbl J 79 [.slice b 0 1 1,G n] h (.slice h.size 0 n n,[.cells 1 n (List.replicate n (.bool x))],false):=by
 have hlt:=get_lt hb (by simp)
 have wu : ∀ z : Int,0 ≤ z → z < 244 → IntKind.u64.wrap z = z:=fun z _ _ => by unfold IntKind.wrap IntKind.bits IntKind.signed; simp; omega
 refine Tr.fnh (cf:=c79) (e:=.ret) (s:=T.set (T.set .leaf [] (.slice b 0 1 1)) [false] (G n)) (by decide) rfl (hJ _ _) rfl rfl rfl (by simp) ?_
 have t0 : Tr tbl J (c79_o0) (fun s h' => s = T.set (T.set .leaf [] (.slice b 0 1 1)) [false] (G n) ∧ h' = frameOf h) .normal (fun s h' => s.get [] = .slice b 0 1 1 ∧ s.get [false] = G n ∧ h' = ⟨h.get,h.size,[]⟩):=Tr.region fun s h hp => by
  obtain ⟨rfl,rfl⟩:=hp
  simp (disch:=first|omega|exact zE rfl|exact zO|exact zL rfl) [c79_o0,frameOf,Heap.size,Heap.get,Eff.app,Heap.setOwn]
 have t1 : Tr tbl J ((.seq c79_o1 (.cond (.s [true,true,false]) c79_o2 .skip))) (fun s h' => s.get [] = .slice b 0 1 1 ∧ s.get [false] = G n ∧ h' = ⟨h.get,h.size,[]⟩) .normal (fun s h' => s.get [] = .slice b 0 1 1 ∧ s.get [false] = G n ∧ h' = ⟨h.get,h.size,[]⟩):=Tr.region fun s h hp => by
  obtain ⟨g0,g1,rfl⟩:=hp
  simp (disch:=first|omega|exact zE rfl|exact zO|exact zL rfl) [c79_o1,frameOf,Heap.size,Heap.get,Eff.app,Heap.setOwn,g0,g1]
 have t2 : Tr tbl J (c79_o3) (fun s h' => s.get [] = .slice b 0 1 1 ∧ s.get [false] = G n ∧ h' = ⟨h.get,h.size,[]⟩) .normal (fun s h' => s.get [] = .slice b 0 1 1 ∧ s.get [false,true] = .int .u64 0 ∧ s.get [true,true] = .int .u64 n ∧ h' = ⟨h.get,h.size,[]⟩):=Tr.region fun s h hp => by
  obtain ⟨g0,g1,rfl⟩:=hp
  simp (disch:=first|omega|exact zE rfl|exact zO|exact zL rfl) [c79_o3,frameOf,Heap.size,Heap.get,Eff.app,Heap.setOwn,g0,g1,wu,k99]
 have t3 : Tr tbl J ((.seq c79_o4 (.cond (.s [true,true,false,true]) c79_o5 .skip))) (fun s h' => s.get [] = .slice b 0 1 1 ∧ s.get [false,true] = .int .u64 0 ∧ s.get [true,true] = .int .u64 n ∧ h' = ⟨h.get,h.size,[]⟩) .normal (fun s h' => s.get [] = .slice b 0 1 1 ∧ s.get [true,true] = .int .u64 n ∧ h' = ⟨h.get,h.size,[]⟩):=Tr.region fun s h hp => by
  obtain ⟨g0,g1,g2,rfl⟩:=hp
  simp (disch:=first|omega|exact zE rfl|exact zO|exact zL rfl) [c79_o4,frameOf,Heap.size,Heap.get,Eff.app,Heap.setOwn,g0,g1,g2]
 have e0 : RBb n 1 x = (List.replicate n (.bool false)).set 0 (.bool x):=by
  obtain ⟨N,rfl⟩ : ∃ N,n = N + 1:=⟨n - 1,by omega⟩
  simp [RBb,List.replicate_succ]
 have t4 : Tr tbl J ((.seq c79_o6 c79_o7)) (fun s h' => s.get [] = .slice b 0 1 1 ∧ s.get [true,true] = .int .u64 n ∧ h' = ⟨h.get,h.size,[]⟩) .normal (fun s h' => s.get [false,false,false] = .slice h.size 0 n n ∧ s.get [true,false,false] = G ((1 : Nat) : Int) ∧ h' = ⟨h.get,h.size,[.cells 1 n (RBb n 1 x)]⟩):=Tr.region fun s h hp => by
  obtain ⟨g0,g1,rfl⟩:=hp
  rw [e0]
  simp (disch:=first|omega|exact zE rfl|exact zO|exact zL rfl) [c79_o6,c79_o7,size_mk,get_mk_lt,get_mk_ge,frameOf,Eff.app,Heap.setOwn,g0,g1,repl,elems,copyA,rdOf,hb]
  omega
 have t5 : Tr tbl J ((.seq c79_o10 .ret)) (fun s h' => s.get [false,false,false] = .slice h.size 0 n n ∧ s.get [true,false,false] = G n ∧ h' = ⟨h.get,h.size,[.cells 1 n (RBb n n x)]⟩) .ret (fun s h' => s.get [true,false] = .slice h.size 0 n n ∧ h' = ⟨h.get,h.size,[.cells 1 n (RBb n n x)]⟩):=Tr.region fun s h hp => by
  obtain ⟨g0,g1,rfl⟩:=hp
  simp (disch:=first|omega|exact zE rfl|exact zO|exact zL rfl) [c79_o10,frameOf,Heap.size,Heap.get,Eff.app,Heap.setOwn,g0,g1]
 refine Tr.post (fun s h' q => ?_) (Tr.seq t0 (Tr.seq t1 (Tr.seq t2 (Tr.seq t3 (Tr.app2 t4 (Tr.seq (Tr.block (repb_loop J h h2 n 1 (by omega) (by omega) h1)) t5))))))
 obtain ⟨q1,rfl⟩:=q
 simp [c79,q1,RBb_all]
theorem c79_0 (J : CallF) (k99 : ∀ (h : Heap) (n : Int),0 ≤ n → n < 244 → J 99 [.int .u64 1,.int .u64 n] h = some (.tup [.int .u64 0,.int .u64 n],[],false)) (hJ : ∀ a h,J 79 a h = none) (h : Heap) (b : Nat) (hb : h.get b = .cells 1 1 [.bool x]) :
  CallsTo tbl J 79 [.slice b 0 1 1,G 0] h (.slice h.size 0 0 0,[.cells 1 0 []],false):=by
 have hlt:=get_lt hb (by simp)
 have wu : ∀ z : Int,0 ≤ z → z < 244 → IntKind.u64.wrap z = z:=fun z _ _ => by unfold IntKind.wrap IntKind.bits IntKind.signed; simp; omega
 refine Tr.fnh (cf:=c79) (e:=.ret) (s:=T.set (T.set .leaf [] (.slice b 0 1 1)) [false] (G 0)) (by decide) rfl (hJ _ _) rfl rfl rfl (by simp) ?_
 refine Tr.post (Q:=(fun s h' => h' = ⟨h.get,h.size,[.cells 1 0 []]⟩ ∧ s.get [true,false] = .slice h.size 0 0 0)) (fun s h' q => by
  obtain ⟨rfl,q1⟩:=q
  simp [c79,q1]) ?_
 have l0 : Tr tbl J c79_l0 (fun s h' => h' = ⟨h.get,h.size,[.cells 1 0 []]⟩ ∧ s.get [false,false,false] = .slice h.size 0 0 0 ∧ s.get [true,false,false] = G 0) (.exit 0) (fun s h' => h' = ⟨h.get,h.size,[.cells 1 0 []]⟩ ∧ s.get [false,false,false] = .slice h.size 0 0 0):=by
  refine Tr.out ?_ (by simp)
  refine Tr.w fun s1 H1 hp _ kR => W.trim ?_
  obtain ⟨rfl,q⟩:=hp
  refine W.assoc ?_
  refine zCh ?_
  simp (disch:=first|omega|exact zE rfl|exact zO|exact zL rfl) [c79_o8,size_mk,get_mk_lt,get_mk_ge,frameOf,Eff.app,Heap.setOwn,q]
  refine zCh ?_
  simp (disch:=first|omega|exact zE rfl|exact zO|exact zL rfl) [size_mk,get_mk_lt,get_mk_ge,frameOf,Eff.app,Heap.setOwn,q]
  exact kR _ _ (by simp [T.get,q])
 refine Tr.w fun s1 H1 hp _ kR => ?_
 obtain ⟨rfl,rfl⟩:=hp
 have q : True:=trivial
 refine zCh ?_
 simp (disch:=first|omega|exact zE rfl|exact zO|exact zL rfl) [c79_o0,size_mk,get_mk_lt,get_mk_ge,frameOf,Eff.app,Heap.setOwn,q]
 refine W.assoc ?_
 refine zCh ?_
 simp (disch:=first|omega|exact zE rfl|exact zO|exact zL rfl) [c79_o1,size_mk,get_mk_lt,get_mk_ge,frameOf,Eff.app,Heap.setOwn,q]
 refine zCh ?_
 simp (disch:=first|omega|exact zE rfl|exact zO|exact zL rfl) [c79_o2,size_mk,get_mk_lt,get_mk_ge,frameOf,Eff.app,Heap.setOwn,q]
 refine zCh ?_
 simp (disch:=first|omega|exact zE rfl|exact zO|exact zL rfl) [c79_o3,size_mk,get_mk_lt,get_mk_ge,frameOf,Eff.app,Heap.setOwn,q,wu,k99]
 refine W.assoc ?_
 refine zCh ?_
 simp (disch:=first|omega|exact zE rfl|exact zO|exact zL rfl) [c79_o4,size_mk,get_mk_lt,get_mk_ge,frameOf,Eff.app,Heap.setOwn,q]
 refine zCh ?_
 simp (disch:=first|omega|exact zE rfl|exact zO|exact zL rfl) [c79_o5,size_mk,get_mk_lt,get_mk_ge,frameOf,Eff.app,Heap.setOwn,q]
 refine zCh ?_
 simp (disch:=first|omega|exact zE rfl|exact zO|exact zL rfl) [c79_o6,size_mk,get_mk_lt,get_mk_ge,frameOf,Eff.app,Heap.setOwn,q,repl]
 refine zCh ?_
 simp (disch:=first|omega|exact zE rfl|exact zO|exact zL rfl) [c79_o7,size_mk,get_mk_lt,get_mk_ge,frameOf,Eff.app,Heap.setOwn,q,elems,copyA,rdOf,hb]
 refine W.seq (W.block ?_)
 refine W.use (l0) (by simp (disch:=first|omega|exact zE rfl|exact zO|exact zL rfl) [size_mk,get_mk_lt,get_mk_ge,frameOf,Eff.app,Heap.setOwn,q,(show min 1 0 = 0 from rfl),(show min (1 : Int) 0 = 0 from rfl)]) fun s1 H1 hp => ?_
 obtain ⟨rfl,q⟩:=hp
 try simp only [zW,if_true]
 refine zCh ?_
 simp (disch:=first|omega|exact zE rfl|exact zO|exact zL rfl) [c79_o10,size_mk,get_mk_lt,get_mk_ge,frameOf,Eff.app,Heap.setOwn,q]
 refine W.ret ?_
 try simp only [zW,if_true]
 exact kR _ _ (by simp [T.get,q])
end
def spec79 : SpecF:=fun args h => match args with
 | [.slice b 0 1 1,.int .i64 n] => match h.get b with
  | .cells 1 1 [.bool x] => if 0 ≤ n ∧ n ≤ 243 then some (.slice h.size 0 n.toNat n.toNat,[.cells 1 n.toNat (List.replicate n.toNat (.bool x))],false) else none
  | _ => none
 | _ => none
theorem k99_71 (h : Heap) (n : Int) (h1 : 0 ≤ n) (h2 : n < 244) : T71 99 [.int .u64 1,.int .u64 n] h = some (.tup [.int .u64 0,.int .u64 n],[],false):=by
 rw [show T71 99 [.int .u64 1,.int .u64 n] h = T33 99 [.int .u64 1,.int .u64 n] h from by simp (disch:=decide) only [T34,T35,T36,T37,T38,T39,T40,T41,T42,T43,T44,T45,T46,T47,T48,T49,T50,T51,T52,T53,T54,T55,T56,T57,T58,T59,T60,T61,T62,T63,T64,T65,T66,T67,T68,T69,T70,T71,addI_ne,addX_ne,addV_ne,addK_ne]]; exact k99 h n h1 h2
noncomputable def T72 : CallF:=addI T71 79 spec79
theorem t72 : Sound Go.Proofs.Try.prog T72:=Sound.add follows ok t71 (by decide) (fun args h x e => by
 unfold spec79 at e
 split at e
 ·split at e
  ·split at e
   ·rename_i b n _ xv hg hh
    simp only [Option.some.injEq] at e; subst e
    obtain ⟨N,rfl⟩ : ∃ N : Nat,n = N:=⟨n.toNat,by omega⟩
    rcases Nat.eq_zero_or_pos N with rfl | hN
    ·exact c79_0 T71 k99_71 (fun _ _ => by simp (disch:=decide) only [T1,T2,T3,T4,T5,T6,T7,T8,T9,T10,T11,T12,T13,T14,T15,T16,T17,T18,T19,T20,T21,T22,T23,T24,T25,T26,T27,T28,T29,T30,T31,T32,T33,T34,T35,T36,T37,T38,T39,T40,T41,T42,T43,T44,T45,T46,T47,T48,T49,T50,T51,T52,T53,T54,T55,T56,T57,T58,T59,T60,T61,T62,T63,T64,T65,T66,T67,T68,T69,T70,T71,addI_ne,addX_ne,addV_ne,addK_ne]; rfl) h b hg
    ·exact c79_ok T71 k99_71 (fun _ _ => by simp (disch:=decide) only [T1,T2,T3,T4,T5,T6,T7,T8,T9,T10,T11,T12,T13,T14,T15,T16,T17,T18,T19,T20,T21,T22,T23,T24,T25,T26,T27,T28,T29,T30,T31,T32,T33,T34,T35,T36,T37,T38,T39,T40,T41,T42,T43,T44,T45,T46,T47,T48,T49,T50,T51,T52,T53,T54,T55,T56,T57,T58,T59,T60,T61,T62,T63,T64,T65,T66,T67,T68,T69,T70,T71,addI_ne,addX_ne,addV_ne,addK_ne]; rfl) h b hg (by omega) (by omega)
   ·cases e
  ·cases e
 ·cases e)
def Pre82 (a : A59) (args : List AV) (h : Heap) : Prop:=Ok59 a h ∧ args = [.slice a.b 0 a.n a.v]
noncomputable def T73 : CallF:=addK tbl T72 82 Pre82 Post59
theorem t73 : Sound Go.Proofs.Try.prog T73:=Sound.addK follows ok t72 (by decide) _ _
structure CK (h : Heap) (pc pk : Nat) (k j : Nat) (y : Bool) : Prop where
 c : ∃ bo n v ros br m w bs,h.get pc = .cells 0 1 [.slice bo 0 n v] ∧ h.get bo = .cells 1 v ros ∧ k < n ∧ ros.length = n ∧ ros[k]? = some (.slice br 0 m w) ∧ h.get br = .cells 1 w bs ∧ j < m ∧ bs.length = m ∧ bs[j]? = some (.bool y)
 k : h.get pk = .cells 0 1 [G k]
open Classical in
noncomputable def spec81 : SpecF:=fun args h => if hx : ∃ v,CallsTo tbl T3 81 args h (v,h.own,true) then some (Classical.choose hx,h.own,true) else none
noncomputable def U1 : CallF:=addI T3 81 spec81
theorem u1 : Sound Go.Proofs.Try.prog U1:=Sound.add follows ok t3 (by decide) (fun args h x e => by
 unfold spec81 at e
 split at e
 ·rename_i hx
  simp only [Option.some.injEq] at e; subst e
  exact Classical.choose_spec hx
 ·cases e)
def Pre100u (a : A100) (args : List AV) (h : Heap) : Prop:=Ok100 U1 a h ∧ args = [a.x,.func a.f a.cap]
noncomputable def U2 : CallF:=addK tbl U1 100 Pre100u Post100
theorem u2 : Sound Go.Proofs.Try.prog U2:=Sound.addK follows ok u1 (by decide) _ _
noncomputable def U3 : CallF:=addK tbl U2 80 Pre100u Post80
theorem u3 : Sound Go.Proofs.Try.prog U3:=Sound.addK follows ok u2 (by decide) _ _
theorem Sound.put {P : Program} {I U : CallF} (hI : Sound P I) (hU : Sound P U) (f : Nat) : Sound P (addI I f (U f)):=fun g args h v own sh e => by
 unfold addI at e
 split at e
 ·rename_i hg
  subst hg
  exact hU _ args h v own sh e
 ·exact hI g args h v own sh e
noncomputable def T74 : CallF:=addI T73 80 (U3 80)
theorem t74 : Sound Go.Proofs.Try.prog T74:=Sound.put t73 u3 80
def lB (f : Nat → Bool) (n : Nat) : List AV:=(List.range n).map fun i => .bool (f i)
theorem lB_len (f : Nat → Bool) (n : Nat) : (lB f n).length = n:=by simp [lB]
def rowsA (S : List (List Nat)) (k : Nat) : List (List AV):=(List.range k).map fun j => lB (al S j) S.length
theorem rowsA_len (S : List (List Nat)) (k : Nat) : (rowsA S k).length = k:=by simp [rowsA]
theorem rowsA_at (S : List (List Nat)) {k i : Nat} (h : i < k) : (rowsA S k)[i]? = some (lB (al S i) S.length):=by
 unfold rowsA
 rw [List.getElem?_map,List.getElem?_range h]; rfl
section
variable {S : List (List Nat)} {p pc : Nat}
structure CQ (S : List (List Nat)) (h : Heap) (pc k : Nat) (bo : Nat) (ros : List AV) : Prop where
 gp : h.get pc = .cells 0 1 [.slice bo 0 (k + 1) (k + 1)]
 go : h.get bo = .cells 1 (k + 1) ros
 lo : ros.length = k + 1
 r : ∀ i,i < k + 1 → ∃ b,ros[i]? = some (.slice b 0 S.length S.length) ∧ h.get b = .cells 1 S.length (lB (al S i) S.length)
theorem CQ.kp {h h' : Heap} {k bo : Nat} {ros : List AV} (c : CQ S h pc k bo ros) (kk : Kp (fun _ => False) h h') : CQ S h' pc k bo ros :=
 ⟨kk.at c.gp (by simp) id,kk.at c.go (by simp) id,c.lo,fun i hi => by
  obtain ⟨b,e1,e2⟩:=c.r i hi
  exact ⟨b,e1,kk.at e2 (by simp) id⟩⟩
end
def okX (a : AR) (L : List (List UInt8)) (n : Int) : Bool:=a.ru && isS a.q.toNat L && decide ((L.length : Int) ≤ n ∧ n ≤ 40)
def extR (a : AR) (m : Nat) (D i : Nat) : List (List Nat):=rT2 (a.rows m) (ext (a.steps m) D i)
def Post48 (a : AR) (L : List (List UInt8)) (n : Int) (h : Heap) (v : AV) (own : List AObj) : Prop :=
 (okX a L n = false → v = .tup [.nils,G 2] ∧ own = []) ∧
 (okX a L n = true → ∀ R : List (List Nat),L = R.map stW → (∀ w ∈ R,∀ c ∈ w,c < a.q.toNat) → (kpS a.g R = false → v = .tup [.nils,G 6] ∧ own = []) ∧
  ∀ P : List Nat,kpS a.g R = true → R = rT2 (a.rows (L.getD 0 []).length) P → VC (a.steps (L.getD 0 []).length) (-1) P →
   (al (a.steps (L.getD 0 []).length) (n.toNat - L.length) (P.getD (L.length - 1) 0) = false → v = .tup [.nils,G 6] ∧ own = []) ∧
   (al (a.steps (L.getD 0 []).length) (n.toNat - L.length) (P.getD (L.length - 1) 0) = true → ∃ x,v = .tup [x,G 0] ∧ (∀ q,blk x = some q → h.size ≤ q) ∧ RV (h.plus own) x (wsL (R ++ extR a (L.getD 0 []).length (n.toNat - L.length) (P.getD (L.length - 1) 0)))))
section
variable {a : AR} {x : AV} {L : List (List UInt8)} {n : Int}
end
structure A48 where
 a : AR
 x : AV
 L : List (List UInt8)
 n : Int
def Ok48 (b : A48) (h : Heap) : Prop:=OkR b.a h ∧ EL h b.x (ss b.L) ∧ b.L.length ≤ 1000000 ∧ ∀ s ∈ b.L,s.length ≤ 1000000
def Pre48 (b : A48) (args : List AV) (h : Heap) : Prop:=Ok48 b h ∧ args = [b.a.v,b.x,G b.n]
noncomputable def T75 : CallF:=addK tbl T74 48 Pre48 (fun b h v own => Post48 b.a b.L b.n h v own)
theorem t75 : Sound Go.Proofs.Try.prog T75:=Sound.addK follows ok t74 (by decide) _ _
end Go.Proofs.Ytljgfdamdcikgaa.Ev
set_option linter.unusedVariables false
set_option linter.unusedSimpArgs false
namespace Go.AEv
def Ct (X Y : AObj) : Prop:=Y = X ∨ ∃ g v cs n,X = .cells g v cs ∧ Y = .cells g v (cs.take n)
theorem Ct.hole {Y : AObj} (c : Ct .hole Y) : Y = .hole:=by
 rcases c with h | ⟨g,v,cs,n,h,_⟩
 ·exact h
 ·cases h
theorem Ct.ne {X Y : AObj} (c : Ct X Y) (h : Y ≠ .hole) : X ≠ .hole:=fun e => by subst e; exact h c.hole
theorem Ct.ne' {X Y : AObj} (c : Ct X Y) (h : X ≠ .hole) : Y ≠ .hole:=fun e => by
 rcases c with h' | ⟨g,v,cs,n,h1,h2⟩
 ·exact h (h' ▸ e)
 ·rw [h2] at e; cases e
theorem Ct.or {CK : CKT} {φ : Nat → Emb} {H : Heap} {w : World} {e : Emb} {X Y : AObj} (c : Ct X Y) (o : OR CK φ H w e X) : OR CK φ H w e Y:=by
 rcases c with rfl | ⟨g,v,cs,n,rfl,rfl⟩
 ·exact o
 ·simp only [OR] at o ⊢
  obtain ⟨c,t,fr,h1,h2,h3,h4⟩:=o
  refine ⟨c,t,fr,h1,h2,by rw [List.length_take]; omega,fun j v hv => h4 j v ?_⟩
  rw [List.getElem?_take] at hv
  split at hv
  ·exact hv
  ·cases hv
theorem Ct.stp {φ : Nat → Emb} {H H' : Heap} (c : ∀ b,Ct (H.get b) (H'.get b)) : Stp φ H φ H':=fun b => by
 have cb:=c b
 refine ⟨fun g n cs e => ?_,fun es e => ?_,fun st pend s ps x y e => ?_,fun cc pos e => ?_⟩
 ·rw [e] at cb
  rcases cb with h | ⟨g',v',cs',n',h1,h2⟩
  ·exact ⟨n,cs,h,Nat.le_refl _,fun _ => rfl⟩
  ·cases h1; exact ⟨n,_,h2,Nat.le_refl _,fun _ => rfl⟩
 ·rw [e] at cb
  rcases cb with h | ⟨g',v',cs',n',h1,h2⟩
  ·exact ⟨es,h,rfl⟩
  ·cases h1
 ·rw [e] at cb
  rcases cb with h | ⟨g',v',cs',n',h1,h2⟩
  ·exact ⟨_,_,_,_,_,_,h,rfl⟩
  ·cases h1
 ·rw [e] at cb
  rcases cb with h | ⟨g',v',cs',n',h1,h2⟩
  ·exact ⟨_,_,h,rfl⟩
  ·cases h1
theorem Ct.pts {φ : Nat → Emb} {H H' : Heap} (c : ∀ b,Ct (H.get b) (H'.get b)) : Stp φ H' φ H:=fun b => by
 have cb:=c b
 refine ⟨fun g n cs e => ?_,fun es e => ?_,fun st pend s ps x y e => ?_,fun cc pos e => ?_⟩
 ·rcases cb with h | ⟨g',v',cs',n',h1,h2⟩
  ·exact ⟨n,cs,by rw [← h]; exact e,Nat.le_refl _,fun _ => rfl⟩
  ·rw [e] at h2; cases h2; exact ⟨n,_,h1,Nat.le_refl _,fun _ => rfl⟩
 ·rcases cb with h | ⟨g',v',cs',n',h1,h2⟩
  ·exact ⟨es,by rw [← h]; exact e,rfl⟩
  ·rw [e] at h2; cases h2
 ·rcases cb with h | ⟨g',v',cs',n',h1,h2⟩
  ·exact ⟨_,_,_,_,_,_,by rw [← h]; exact e,rfl⟩
  ·rw [e] at h2; cases h2
 ·rcases cb with h | ⟨g',v',cs',n',h1,h2⟩
  ·exact ⟨_,_,by rw [← h]; exact e,rfl⟩
  ·rw [e] at h2; cases h2
def cutOf (c : Nat → AObj) (h : Heap) : Heap:=⟨c,h.size,[]⟩
theorem get_ge (h : Heap) {i : Nat} (hi : h.size ≤ i) : h.get i = .hole:=by
 cases hq : h.get i with
 | hole => rfl
 | _ => have:=Heap.get_lt (H:=h) (i:=i) (by rw [hq]; simp); simp only [Heap.size] at this hi; omega
theorem cut_get {c : Nat → AObj} {h : Heap} (hc : ∀ b,Ct (h.get b) (c b)) (i : Nat) : (cutOf c h).get i = c i:=by
 by_cases hi : i < h.size
 ·show (if i < h.size then c i else _) = _
  rw [if_pos hi]
 ·have e:=hc i
  rw [get_ge h (by omega)] at e
  rw [e.hole]
  show (if i < h.size then c i else ([] : List AObj).getD (i - h.size) .hole) = _
  rw [if_neg hi]; simp
theorem cut_hr {CK : CKT} {w0 : World} {K : List Nat} {φ : Nat → Emb} {h : Heap} {w : World} (hr : HR CK w0 K φ h w) {c : Nat → AObj} (hc : ∀ b,Ct (h.get b) (c b)) : HR CK w [] φ (cutOf c h) w ∧ Stp φ h φ (cutOf c h):=by
 have hc' : ∀ b,Ct (h.get b) ((cutOf c h).get b):=fun b => by rw [cut_get hc]; exact hc b
 have hs : Stp φ h φ (cutOf c h):=Ct.stp hc'
 refine ⟨⟨Nat.le_refl _,fun _ _ => rfl,fun i => OR.step hs (fun _ => rfl) ((hc' i).or (hr.obj i)),fun i hi hh => ?_,fun i j hj _ hh _ => ?_,by simp,by simp,Env.refl w⟩,hs⟩
 ·have:=(hc' i).ne hh
  rw [get_ge h hi] at this; exact absurd rfl this
 ·have:=(hc' j).ne hh
  rw [get_ge h hj] at this; exact absurd rfl this
theorem cut_back {CK : CKT} {w0 : World} {K : List Nat} {φ φ' : Nat → Emb} {h : Heap} {own : List AObj} {w w' : World} (hr : HR CK w0 K φ h w) {c : Nat → AObj} (hc : ∀ b,Ct (h.get b) (c b)) (hr' : HR CK w [] φ' ((cutOf c h).plus own) w') (hs : Stp φ (cutOf c h) φ' ((cutOf c h).plus own)) :
  HR CK w0 K φ' (h.plus own) w' ∧ Stp φ' ((cutOf c h).plus own) φ' (h.plus own) ∧ Stp φ h φ' (h.plus own):=by
 have hsz : (cutOf c h).size = h.size:=by simp [cutOf,Heap.size]
 have hsame : ∀ b,b < w.heap.size → w'.heap[b]? = w.heap[b]?:=hr'.old
 have hct : ∀ b,Ct ((h.plus own).get b) (((cutOf c h).plus own).get b):=fun b => by
  by_cases hb : b < h.size
  ·rw [plus_lt _ _ _ hb,plus_lt _ _ _ (by omega),cut_get hc]; exact hc b
  ·rw [plus_ge _ _ _ (by omega),plus_ge _ _ _ (by omega),hsz]; exact .inl rfl
 have back : Stp φ' ((cutOf c h).plus own) φ' (h.plus own):=Ct.pts hct
 have hge : ∀ i,h.get i ≠ .hole → i < h.size:=fun i hh => by
  have:=Heap.get_lt (H:=h) (i:=i) hh
  simp only [Heap.size] at this ⊢; omega
 have hlow : ∀ i,i < h.size → (h.plus own).get i = h.get i:=fun i hi => plus_lt _ _ _ hi
 have hφ : ∀ i,h.get i ≠ .hole → φ' i = φ i:=fun i hh => by
  have hi:=hge i hh
  have:=hs i
  have e0 : ((cutOf c h).plus own).get i = (cutOf c h).get i:=plus_lt _ _ _ (by omega)
  have hh' : (cutOf c h).get i ≠ .hole:=by rw [cut_get hc]; exact (hc i).ne' hh
  cases hq : (cutOf c h).get i with
  | hole => exact absurd hq hh'
  | cells g n cs =>
   obtain ⟨n',cs',e1,e2,e3⟩:=this.1 g n cs hq
   rw [e0,hq] at e1
   simp only [AObj.cells.injEq] at e1
   exact e3 e1.2.1.symm
  | map es => obtain ⟨_,_,e3⟩:=this.2.1 es hq; exact e3
  | loop st pend s ps x y => obtain ⟨_,_,_,_,_,_,_,e3⟩:=this.2.2.1 _ _ _ _ _ _ hq; exact e3
  | iter c pos => obtain ⟨_,_,_,e3⟩:=this.2.2.2 _ _ hq; exact e3
 have fwd : Stp φ h φ' (h.plus own):=fun b => by
  refine ⟨fun g n cs e => ?_,fun es e => ?_,fun st pend s ps x y e => ?_,fun cc pos e => ?_⟩
  ·have hh : h.get b ≠ .hole:=by rw [e]; simp
   exact ⟨n,cs,by rw [hlow b (hge b hh)]; exact e,Nat.le_refl _,fun _ => hφ b hh⟩
  ·have hh : h.get b ≠ .hole:=by rw [e]; simp
   exact ⟨es,by rw [hlow b (hge b hh)]; exact e,hφ b hh⟩
  ·have hh : h.get b ≠ .hole:=by rw [e]; simp
   exact ⟨_,_,_,_,_,_,by rw [hlow b (hge b hh)]; exact e,hφ b hh⟩
  ·have hh : h.get b ≠ .hole:=by rw [e]; simp
   exact ⟨_,_,by rw [hlow b (hge b hh)]; exact e,hφ b hh⟩
 have hN : (h.plus own).N = h.N:=rfl
 refine ⟨⟨Nat.le_trans hr.size hr'.size,fun b hb => ?_,fun i => ?_,fun i hi hh => ?_,fun i j hj hh1 hh2 hij => ?_,fun k hk => ?_,hr.nodup,hr.env.trans hr'.env⟩,back,fwd⟩
 ·rw [hsame b (by have:=hr.size; omega)]; exact hr.old b hb
 ·by_cases hi : i < h.size
  ·rw [hlow i hi]
   by_cases hh : h.get i = .hole
   ·rw [hh]; trivial
   ·rw [hφ i hh]
    exact OR.step fwd (fun hh => hsame _ (OR.lt (hr.obj i) hh)) (hr.obj i)
  ·have e : (h.plus own).get i = ((cutOf c h).plus own).get i:=by rw [plus_ge _ _ _ (by omega),plus_ge _ _ _ (by omega),hsz]
   rw [e]
   exact OR.step back (fun _ => rfl) (hr'.obj i)
 ·by_cases hlt : i < h.size
  ·rw [hlow i hlt] at hh
   rw [hφ i hh,hsame _ (OR.lt (hr.obj i) hh)]
   exact hr.own i hi hh
  ·have e : (h.plus own).get i = ((cutOf c h).plus own).get i:=by rw [plus_ge _ _ _ (by omega),plus_ge _ _ _ (by omega),hsz]
   rw [e] at hh
   obtain ⟨a1,a2,a3⟩:=hr'.own i (by show h.size ≤ i; omega) hh
   exact ⟨Nat.le_trans hr.size a1,a2,a3⟩
 ·have tr : ∀ i,(h.plus own).get i ≠ .hole → ((cutOf c h).plus own).get i ≠ .hole:=fun i hh => (hct i).ne' hh
  by_cases hjl : j < h.size
  ·by_cases hil : i < h.size
   ·rw [hlow i hil] at hh1; rw [hlow j hjl] at hh2
    rw [hφ i hh1,hφ j hh2]
    exact hr.sep i j hj hh1 hh2 hij
   ·exact fun e => hr'.sep j i (by show h.size ≤ i; omega) (tr j hh2) (tr i hh1) (fun e => hij e.symm) e.symm
  ·exact hr'.sep i j (by show h.size ≤ j; omega) (tr i hh1) (tr j hh2) hij
 ·obtain ⟨k1,k2⟩:=hr.keep k hk
  rw [hsame k (Array.getElem?_eq_some_iff.1 k2).1]; exact ⟨k1,k2⟩
def cutX (n : Nat) : AObj → AObj
 | .cells g v cs => .cells g v (cs.take n)
 | X => X
def cutO : List AV → Nat → AObj → AObj
 | [],_,X => X
 | .slice b 0 n v :: l,i,X => if b = i then cutX n X else cutO l i X
 | _ :: l,i,X => cutO l i X
theorem cutX_ct (n : Nat) (X : AObj) : Ct X (cutX n X):=by
 cases X with
 | cells g v cs => exact .inr ⟨g,v,cs,n,rfl,rfl⟩
 | _ => exact .inl rfl
theorem cutO_ct : ∀ (l : List AV) (i : Nat) (X : AObj),Ct X (cutO l i X):=fun l i X => by
 fun_induction cutO l i X with
 | case1 => exact .inl rfl
 | case2 => exact cutX_ct _ _
 | case3 => assumption
 | case4 => assumption
def cutA (args : List AV) (h : Heap) : Heap:=cutOf (fun i => cutO args i (h.get i)) h
def addC (I : CallF) (f : Nat) : CallF:=fun g args h => if g = f then (match I f args (cutA args h) with
 | some (v,own,false) => some (v,own,false)
 | _ => none) else I g args h
theorem Sound.addC {P : Program} {I : CallF} (hI : Sound P I) (f : Nat) : Sound P (addC I f):=fun g args h v own sh e => by
 unfold AEv.addC at e
 split at e
 ·rename_i hg
  subst hg
  split at e
  ·rename_i v' own' e'
   simp only [Option.some.injEq,Prod.mk.injEq] at e
   obtain ⟨rfl,rfl,rfl⟩:=e
   obtain ⟨hent,hc⟩:=hI _ _ _ _ _ _ e'
   refine ⟨hent,fun w0 K φ w vals hr hv => ?_⟩
   have hct : ∀ b,Ct (h.get b) (cutO args b (h.get b)):=fun b => cutO_ct args b _
   obtain ⟨h1,h2⟩:=cut_hr hr hct
   refine CallsIn.mono (hc w [] φ w vals h1 (VRs.step h2 _ _ hv)) ?_
   rintro en w' ⟨φ',x,rfl,q1,q2,q3⟩
   have m1 : mrg (cutA args h) own' false = (cutOf (fun i => cutO args i (h.get i)) h).plus own':=by simp [mrg,cutA,Heap.plus]
   have m2 : mrg h own' false = h.plus own':=by simp [mrg,Heap.plus]
   rw [m1] at q1 q2 q3
   rw [m2]
   obtain ⟨b1,b2,b3⟩:=cut_back hr hct q2 q3
   exact ⟨φ',x,rfl,VR.step b2 _ _ q1,b1,b3⟩
  ·cases e
 ·exact hI g args h v own sh e
theorem addC_ne {I : CallF} {f g : Nat} (hg : g ≠ f) (args : List AV) (h : Heap) : addC I f g args h = I g args h:=by
 unfold addC; rw [if_neg hg]
end Go.AEv
set_option linter.unusedVariables false
set_option linter.unusedSimpArgs false
namespace Go.Proofs.Ytljgfdamdcikgaa.Ev
open Go Go.AEv
attribute [local simp] evFunc initS evOps_c evTrim_c evSkip_c evExit_c evRet_c evSeq_c evCond_c evBlock_c evDraw_c runOps_n runOps_c exec_n exec_g pure1_c act AOpd.ev T.get T.set T.put evBin evUn forceT_eq forceV_eq forceL_eq evRess evRes one keep runFP_n runFP_c app_none AV.flats AV.flat came_some List.getElem?_cons_zero List.getElem?_cons_succ beqT wrapI idxI tdivI tmodI decT decF ibT ibF inT inF evScope_c if_pos if_neg Cm_some thenW_n thenW_e thenW_r blkW_n blkW_e blkW_r goI kn putAt AV.cells fillA loadA takeA mk Eff.isAll Eff.isNone Eff.commutes Eff.spares okPair apart eqAgg fits LK.fits allEq aveq eqk mmA
def PL (h : Heap) (x : AV) (cs : List AV) : Prop:=(x = .nils ∧ cs = []) ∨ ∃ b v rest,x = .slice b 0 cs.length v ∧ h.get b = .cells 1 v (cs ++ rest)
theorem PL.kp {h h' : Heap} {x : AV} {cs : List AV} (r : PL h x cs) (k : Kp (fun _ => False) h h') : PL h' x cs:=by
 rcases r with h | ⟨b,v,rest,e,g⟩
 ·exact .inl h
 ·exact .inr ⟨b,v,rest,e,k.at g (by simp) id⟩
theorem RV.back {h h' : Heap} (hs : h'.size = h.size) {own : List AObj} {x : AV} {cs : List AV} (r : RV (h'.plus own) x cs) (f : ∀ q,blk x = some q → h'.size ≤ q) : RV (h.plus own) x cs:=by
 rcases r with h | ⟨b,v,rfl,g⟩
 ·exact .inl h
 ·have:=f b rfl
  refine .inr ⟨b,v,rfl,?_⟩
  rw [plus_ge _ _ _ this] at g
  rw [plus_ge _ _ _ (by omega),← hs]; exact g
theorem Post48.back {h h' : Heap} (hs : h'.size = h.size) {a : AR} {L : List (List UInt8)} {n : Int} {v : AV} {own : List AObj} (p : Post48 a L n h' v own) : Post48 a L n h v own :=
 ⟨p.1,fun e R hL hR => ⟨(p.2 e R hL hR).1,fun P k eP vc => ⟨((p.2 e R hL hR).2 P k eP vc).1,fun ha => by
  obtain ⟨x,e1,e2,e3⟩:=((p.2 e R hL hR).2 P k eP vc).2 ha
  exact ⟨x,e1,fun q hq => by rw [← hs]; exact e2 q hq,RV.back hs e3 e2⟩⟩⟩⟩
noncomputable def T76 : CallF:=addC T75 48
theorem t76 : Sound Go.Proofs.Try.prog T76:=t75.addC 48
noncomputable def T77 : CallF:=addC T76 29
theorem t77 : Sound Go.Proofs.Try.prog T77:=t76.addC 29
def fewL (L : List (List UInt8)) : List (List UInt8):=(L.take 41).map fun s => s.take 7
section
variable {L : List (List UInt8)}
end
structure A43 where
 x : AV
 L : List (List UInt8)
def Pre43 (b : A43) (args : List AV) (h : Heap) : Prop:=EL h b.x (ss b.L) ∧ args = [b.x]
noncomputable def T78 : CallF:=addK tbl T77 43 Pre43 (fun b h v own => RV (h.plus own) v (ss (fewL b.L)))
theorem t78 : Sound Go.Proofs.Try.prog T78:=Sound.addK follows ok t77 (by decide) _ _
theorem addI_eq (I : CallF) (f : Nat) (spec : SpecF) (args : List AV) (h : Heap) : addI I f spec f args h = spec args h:=if_pos rfl
section
variable {a : AG} {m : Nat} {R : List (List Nat)} {b v : Nat}
end
structure AWS46 where
 a : AG
 m : Nat
 R : List (List Nat)
 b : Nat
 v : Nat
def Pre46g (b : AWS46) (args : List AV) (h : Heap) : Prop:=(OkG b.a h ∧ WS b.a b.m b.R ∧ h.get b.b = .cells 1 b.v (wsL b.R)) ∧ args = [b.a.v,.slice b.b 0 b.R.length b.v]
def Post46g (b : AWS46) (h : Heap) (v : AV) (own : List AObj) : Prop:=v = .bool (kpS b.a b.R) ∧ own = []
noncomputable def U46 : CallF:=addK tbl T56 46 Pre46g Post46g
theorem u46 : Sound Go.Proofs.Try.prog U46:=Sound.addK follows ok t56 (by decide) _ _
section
variable {L : List (List UInt8)} {b v n qq i p : Nat} {x y : AV}
end
structure A39g where
 qq : Nat
 x : AV
 y : AV
 z : AV
 L : List (List UInt8)
def Pre39g (b : A39g) (args : List AV) (h : Heap) : Prop:=(b.qq ≤ 3 ∧ RV h b.z (ss b.L) ∧ b.L.length ≤ 1000000 ∧ ∀ s ∈ b.L,s.length ≤ 1000000) ∧ args = [.agg [G b.qq,b.x,b.y],b.z]
def Post39g (b : A39g) (h : Heap) (v : AV) (own : List AObj) : Prop:=v = .bool (isS b.qq b.L) ∧ own = []
noncomputable def U39 : CallF:=addK tbl noIntr 39 Pre39g Post39g
theorem u39 : Sound Go.Proofs.Try.prog U39:=Sound.addK follows ok Sound.empty (by decide) _ _
noncomputable def T79 : CallF:=addI T78 46 (U46 46)
theorem t79 : Sound Go.Proofs.Try.prog T79:=Sound.put t78 u46 46
noncomputable def T80 : CallF:=addI T79 39 (U39 39)
theorem t80 : Sound Go.Proofs.Try.prog T80:=Sound.put t79 u39 39
theorem TB.mr {H0 h : Heap} {x : AV} {M : List (List Int)} (t : TB H0 h x (M.map gs)) : MR h x M:=by
 obtain ⟨rs,lv,hl,hr⟩:=t.r
 rw [List.length_map] at hl
 rcases lv with ⟨rfl,rfl⟩ | ⟨b,rfl,g,n⟩
 ·exact .inl ⟨.inl rfl,List.length_eq_zero_iff.1 hl.symm⟩
 ·refine .inr ⟨b,rs.length,rs,by rw [hl],g,hl,fun i r e => ?_⟩
  obtain ⟨cs,b',h1,h2,h3,_⟩:=hr i r e
  rw [List.getElem?_map] at h1
  cases hN : M[i]? with
  | none => rw [hN] at h1; cases h1
  | some l =>
   rw [hN] at h1
   simp only [Option.map_some,Option.some.injEq] at h1
   subst h1
   exact ⟨l,rfl,.inl (by rw [h2]; exact listOf_cells h3 (by simp))⟩
def AR.of (n : Nat) (x y : AV) (B W : List (List Int)) : AR:=⟨n,x,y,B,W⟩
section
variable {nq m nn : Int} {X Y : List (List Int)}
end
section
variable {S : List (List Nat)} {u4 u6 u8 u0 : AV} {k1 k2 k3 k4 : Nat}
theorem RV.lv {h : Heap} {y : AV} {L : List Nat} (r : RV h y (gn L)) (hl : 0 < L.length) : ∃ b v,y = .slice b 0 L.length v ∧ h.get b = .cells 1 v (gn L):=by
 rcases r with ⟨_,e⟩ | ⟨b,v,e,g⟩
 ·have : (gn L).length = 0:=by rw [e]; rfl
  rw [gn_len] at this; omega
 ·rw [gn_len] at e; exact ⟨b,v,e,g⟩
end
theorem rT2_len (R : List (List Nat)) (P : List Nat) : (rT2 R P).length = P.length:=by unfold rT2; rw [List.length_map]
theorem rT2_app (R : List (List Nat)) (P Q : List Nat) : rT2 R (P ++ Q) = rT2 R P ++ rT2 R Q:=by unfold rT2; rw [List.map_append]
theorem RV.pre {H : Heap} {b v n : Nat} {cs : List AV} (r : RV H (.slice b 0 n v) cs) {k : Nat} (hk : k ≤ cs.length) : PL H (.slice b 0 k v) (cs.take k):=by
 rcases r with ⟨e,_⟩ | ⟨b',v',e,g⟩
 ·cases e
 ·rw [AV.slice.injEq] at e
  obtain ⟨rfl,_,_,rfl⟩:=e
  exact .inr ⟨b,v,cs.drop k,by rw [List.length_take,Nat.min_eq_left hk],by rw [List.take_append_drop]; exact g⟩
section
variable {S R : List (List Nat)} {p N : Nat}
end
section
variable {a : AR} {m bs vs : Nat} {P : List Nat}
end
structure A47x where
 a : AR
 m : Nat
 P : List Nat
 b : Nat
 v : Nat
def Ok47x (b : A47x) (h : Heap) : Prop:=OkR b.a h ∧ b.a.rm (b.m : Nat) = true ∧ okC (b.a.steps (b.m : Nat)) b.P.length = true ∧ VC (b.a.steps (b.m : Nat)) (-1) b.P ∧ 1 ≤ b.P.length ∧ b.P.length ≤ 40 ∧ h.get b.b = .cells 1 b.v (wsL (rT2 (b.a.rows (b.m : Nat)) b.P))
def Pre47x (b : A47x) (args : List AV) (h : Heap) : Prop:=Ok47x b h ∧ args = [b.a.v,.slice b.b 0 b.P.length b.v]
def Post47x (b : A47x) (h : Heap) (v : AV) (own : List AObj) : Prop:=v = G (ix (b.a.steps (b.m : Nat)) (-1) b.P) ∧ own = []
noncomputable def U47 : CallF:=addK tbl T50 47 Pre47x Post47x
theorem u47 : Sound Go.Proofs.Try.prog U47:=Sound.addK follows ok t50 (by decide) _ _
noncomputable def T81 : CallF:=addI T80 47 (U47 47)
theorem t81 : Sound Go.Proofs.Try.prog T81:=Sound.put t80 u47 47
def rep : Nat → List Nat → List Nat
 | 0,_ => []
 | k + 1,L => L ++ rep k L
section
variable {S : List (List Nat)}
end
section
variable {R : List (List Nat)} {L : List Nat} {T0 : Int} {TT K LL bl vl Sx : Nat}
end
section
variable {nq m T0 : Int} {X Y : List (List Int)}
end
section
variable {S : List (List Nat)}
structure CT (n : Nat) (p : Nat → Bool) (h : Heap) (z : AV) (N j : Nat) : Prop where
 r : ∃ bo ros br,z = .slice bo 0 N N ∧ h.get bo = .cells 1 N ros ∧ ros.length = N ∧ ros[j]? = some (.slice br 0 n n) ∧ h.get br = .cells 1 n (bb p n)
theorem CT.kp {n : Nat} {p : Nat → Bool} {h h' : Heap} {z : AV} {N j : Nat} (c : CT n p h z N j) (k : Kp (fun _ => False) h h') : CT n p h' z N j:=by
 obtain ⟨bo,ros,br,e1,e2,e3,e4,e5⟩:=c.r
 exact ⟨bo,ros,br,e1,k.at e2 (by simp) id,e3,e4,k.at e5 (by simp) id⟩
theorem TB.ct {Z h : Heap} {z : AV} {k j : Nat} (t : TB Z h z (rowsA S k)) (hj : j < k) : CT S.length (al S j) h z k j:=by
 obtain ⟨bo,ros,e1,e2,e3,e4⟩:=t.sl (i:=0) (by rw [rowsA_len]; omega)
 rw [rowsA_len] at e1 e2 e3
 obtain ⟨b,h1,h2⟩:=e4 j _ (rowsA_at S hj)
 rw [lB_len] at h1 h2
 exact ⟨bo,ros,b,e1,e2,e3,h1,h2⟩
def bel (i u : Nat) : Bool:=decide (u < i)
end
def Post49 (a : AR) (m : Nat) (R : List (List Nat)) (N : Nat) (h : Heap) (v : AV) (own : List AObj) : Prop :=
 (kpS a.g R = false → v = .tup [.nils,.bool false] ∧ own = []) ∧
 ∀ P : List Nat,kpS a.g R = true → R = rT2 (a.rows (m : Nat)) P → VC (a.steps (m : Nat)) (-1) P →
   (al (a.steps (m : Nat)) (N - R.length) (P.getD (R.length - 1) 0) = false → v = .tup [.nils,.bool false] ∧ own = []) ∧
   (al (a.steps (m : Nat)) (N - R.length) (P.getD (R.length - 1) 0) = true → ∃ x,v = .tup [x,.bool true] ∧ RV (h.plus own) x (wsL (R ++ extR a m (N - R.length) (P.getD (R.length - 1) 0))))
section
variable {a : AR} {m b v N : Nat} {R : List (List Nat)}
end
structure A49 where
 a : AR
 m : Nat
 R : List (List Nat)
 b : Nat
 v : Nat
 N : Nat
def Ok49 (b : A49) (h : Heap) : Prop:=OkR b.a h ∧ b.a.rm (b.m : Nat) = true ∧ WS b.a.g b.m b.R ∧ 1 ≤ b.R.length ∧ b.R.length ≤ b.N ∧ b.N ≤ 40 ∧ h.get b.b = .cells 1 b.v (wsL b.R)
def Pre49 (b : A49) (args : List AV) (h : Heap) : Prop:=Ok49 b h ∧ args = [b.a.v,.slice b.b 0 b.R.length b.v,G b.N]
noncomputable def T82 : CallF:=addK tbl T81 49 Pre49 (fun b h v own => Post49 b.a b.m b.R b.N h v own)
theorem t82 : Sound Go.Proofs.Try.prog T82:=Sound.addK follows ok t81 (by decide) _ _
theorem RV.el {h : Heap} {x : AV} {cs : List AV} (r : RV h x cs) : EL h x cs:=by
 rcases r with ⟨rfl,e⟩ | h
 ·exact .inl ⟨.inl rfl,e⟩
 ·exact .inr h
section
variable {nq : Int} {X Y : List (List Int)} {L : List (List UInt8)}
end
section
variable {nq n : Int} {X Y : List (List Int)} {L : List (List UInt8)}
end
noncomputable def T83 : CallF:=addI T82 29 (T27 29)
theorem t83 : Sound Go.Proofs.Try.prog T83:=Sound.put t82 t27 29
noncomputable def T84 : CallF:=addI T83 48 (T75 48)
theorem t84 : Sound Go.Proofs.Try.prog T84:=Sound.put t83 t75 48
theorem k29_84 : K29 T84:=fun h b h1 h2 h3 h4 => by
 rw [show T84 29 [b.x,b.z] h = T83 29 [b.x,b.z] h from by simp (disch:=decide) only [T84,addI_ne]]
 exact (addI_eq _ _ _ _ _).trans (k29 h b h1 h2 h3 h4)
def NS (B : Nat) (h : Heap) (nb : Nat) (S : List (List Nat)) : Prop:=∃ rs,h.get nb = .cells 1 S.length rs ∧ rs.length = S.length ∧ B ≤ nb ∧ ∀ k,k < S.length → ∃ y,rs[k]? = some y ∧ RV h y (gn (S.getD k [])) ∧ ∀ b,blk y = some b → B ≤ b
section
variable {a : AR} {m : Int}
end
structure SQ (lo S : Nat) (A h : Heap) (ZZ : List AV) : Prop where
 k : Kp (fun b => lo ≤ b ∧ b < S) A h
 r : ∀ r ∈ ZZ,r = .nils ∨ ∃ b v cs,r = .slice b 0 cs.length v ∧ h.get b = .cells 1 v cs ∧ (lo ≤ b ∧ b < S) ∧ cs.length ≤ 1000
theorem SQ.put {lo S : Nat} {A h : Heap} {ZZ : List AV} (t : SQ lo S A h ZZ) {b v : Nat} {cs cs' : List AV} (hA : A.N ≤ lo) (g : h.get b = .cells 1 v cs) (h1 : lo ≤ b ∧ b < S) (hl' : cs'.length = cs.length) : SQ lo S A (h.upd b (.cells 1 v cs')) ZZ:=by
 have hN : h.N ≤ b:=by rw [t.k.N]; omega
 refine ⟨t.k.trans (Kp.upd h b _ hN h1),fun r hr => ?_⟩
 rcases t.r r hr with e1 | ⟨b2,v2,c2,e1,e2,e3,e4⟩
 ·exact .inl e1
 ·right
  by_cases e : b2 = b
  ·subst e
   rw [g] at e2
   simp only [AObj.cells.injEq,true_and] at e2
   obtain ⟨rfl,rfl⟩:=e2
   exact ⟨b2,v,cs',by rw [e1,hl'],upd_same _ _ _ hN (get_lt g (by simp)),e3,by omega⟩
  ·exact ⟨b2,v2,c2,e1,by rw [upd_ne _ _ _ _ hN (fun q => e q.symm)]; exact e2,e3,e4⟩
section
variable {A : Heap} {lo S n m : Nat} {ZZ : List AV} {x1 x5 x6 x8 x10 x11 x12 : AV}
end
section
variable {nq m0 : Int} {X Y : List (List Int)}
end
structure ARn where
 a : AR
 m : Int
def Pre26n (b : ARn) (args : List AV) (h : Heap) : Prop:=(OkR b.a h ∧ b.a.rm b.m = true) ∧ args = [b.a.v,G b.m]
def Post26n (b : ARn) (h : Heap) (v : AV) (own : List AObj) : Prop:=∃ nb,v = .tup [.slice nb 0 (b.a.steps b.m).length (b.a.steps b.m).length,G 0] ∧ NS h.size (h.plus own) nb (b.a.steps b.m)
noncomputable def U26 : CallF:=addK tbl T19 26 Pre26n Post26n
theorem u26 : Sound Go.Proofs.Try.prog U26:=Sound.addK follows ok t19 (by decide) _ _
noncomputable def T85 : CallF:=addI T84 26 (U26 26)
theorem t85 : Sound Go.Proofs.Try.prog T85:=Sound.put t84 u26 26
def smB (x : Int) : Bool:=decide (-1000 ≤ x ∧ x ≤ 1000)
def cellB (q : Nat) (l : List Int) : Bool:=decide (l.length = q) && l.all smB
def gridB (q m : Nat) (M : List (List Int)) : Bool:=decide (M.length = m) && M.all (cellB q)
def wtB (q : Nat) (Wt : List (List (List Int))) : Bool:=decide (1 ≤ Wt.length ∧ Wt.length ≤ 40) && decide (1 ≤ (Wt.getD 0 []).length ∧ (Wt.getD 0 []).length ≤ 5) && Wt.all (gridB q (Wt.getD 0 []).length)
def WT (h : Heap) (x : AV) (Wt : List (List (List Int))) : Prop:=((x = .nils ∨ x = .slice0) ∧ Wt = []) ∨ ∃ b v cs,x = .slice b 0 Wt.length v ∧ h.get b = .cells 1 v cs ∧ cs.length = Wt.length ∧ ∀ (i : Nat) r,cs[i]? = some r → ∃ M,Wt[i]? = some M ∧ MR h r M
theorem WT.kp {h h' : Heap} {x : AV} {Wt : List (List (List Int))} (t : WT h x Wt) (k : Kp (fun _ => False) h h') : WT h' x Wt:=by
 rcases t with t | ⟨b,v,cs,e,g,l,r⟩
 ·exact .inl t
 ·exact .inr ⟨b,v,cs,e,k.at g (by simp) id,l,fun i r' hr => by obtain ⟨M,e1,e2⟩:=r i r' hr; exact ⟨M,e1,e2.kp k⟩⟩
theorem WT.fr {h : Heap} {x : AV} {Wt : List (List (List Int))} (t : WT h x Wt) : WT (frameOf h) x Wt:=by
 rcases t with t | ⟨b,v,cs,e,g,l,r⟩
 ·exact .inl t
 ·exact .inr ⟨b,v,cs,e,by unfold frameOf; rw [get_mk_lt _ _ _ _ (get_lt g (by simp))]; exact g,l,fun i r' hr => by obtain ⟨M,e1,e2⟩:=r i r' hr; exact ⟨M,e1,e2.lo []⟩⟩
theorem MR.sl3 {h : Heap} {x : AV} {M : List (List Int)} (t : MR h x M) : (x = .nils ∧ M.length = 0) ∨ (x = .slice0 ∧ M.length = 0) ∨ ∃ b v,x = .slice b 0 M.length v:=by
 rcases t with ⟨rfl | rfl,rfl⟩ | ⟨b,v,cs,rfl,_⟩
 ·exact .inl ⟨rfl,rfl⟩
 ·exact .inr (.inl ⟨rfl,rfl⟩)
 ·exact .inr (.inr ⟨b,v,rfl⟩)
theorem MR.row3 {h : Heap} {b v n : Nat} {M : List (List Int)} (t : MR h (.slice b 0 n v) M) {k : Nat} (hk : k < M.length) : ∃ cs r,h.get b = .cells 1 v cs ∧ cs.length = n ∧ M.length = n ∧ cs[k]? = some r ∧ LR h r (M.getD k []):=by
 rcases t with ⟨e | e,_⟩ | ⟨b',v',cs,e,g,l,r⟩
 ·cases e
 ·cases e
 ·simp only [AV.slice.injEq,true_and] at e
  obtain ⟨rfl,rfl,rfl⟩:=e
  obtain ⟨l',e1,e2⟩:=r k cs[k] (List.getElem?_eq_getElem (by omega))
  exact ⟨cs,cs[k],g,l,rfl,List.getElem?_eq_getElem (by omega),by rw [List.getD_eq_getElem?_getD,e1]; exact e2⟩
theorem WT.at {h : Heap} {b v n : Nat} {Wt : List (List (List Int))} (t : WT h (.slice b 0 n v) Wt) {i : Nat} (hi : i < Wt.length) : ∃ cs y,h.get b = .cells 1 v cs ∧ cs.length = n ∧ Wt.length = n ∧ cs[i]? = some y ∧ MR h y (Wt.getD i []):=by
 rcases t with ⟨e | e,_⟩ | ⟨b',v',cs,e,g,l,r⟩
 ·cases e
 ·cases e
 ·simp only [AV.slice.injEq,true_and] at e
  obtain ⟨rfl,rfl,rfl⟩:=e
  obtain ⟨M,e1,e2⟩:=r i cs[i] (List.getElem?_eq_getElem (by omega))
  exact ⟨cs,cs[i],g,l,rfl,List.getElem?_eq_getElem (by omega),by rw [List.getD_eq_getElem?_getD,e1]; exact e2⟩
theorem any_sm (l : List Int) : ((List.range l.length).any fun i => !smB (l.getD i 0)) = !l.all smB:=by
 rw [Bool.eq_iff_iff]
 simp only [List.any_eq_true,Bool.not_eq_true',List.all_eq_false,List.mem_range]
 constructor
 ·rintro ⟨i,hi,c⟩
  refine ⟨l[i],List.getElem_mem _,?_⟩
  rw [List.getD_eq_getElem?_getD,List.getElem?_eq_getElem hi] at c
  rw [show smB l[i] = false from c]; simp
 ·rintro ⟨x,hx,c⟩
  obtain ⟨i,hi,rfl⟩:=List.mem_iff_getElem.1 hx
  refine ⟨i,hi,?_⟩
  rw [List.getD_eq_getElem?_getD,List.getElem?_eq_getElem hi]
  simpa using c
def spec101 : SpecF:=fun args h => match args with
 | [.int .i64 a] => some (.bool (!smB a),h.own,true)
 | _ => none
theorem c101_ok (J : CallF) (k60 : K60 J) (hJ : ∀ a h,J 101 a h = none) (h : Heap) (a : Int) : CallsTo tbl J 101 [G a] h (.bool (!smB a),h.own,true):=by
 refine Tr.sh (cf:=c101) (e:=.ret) (s:=T.set .leaf [] (G a)) (by decide) rfl (hJ _ _) rfl rfl (by simp) ?_
 have k:=k60 a (-1000) 1000 h
 have e : smB a = decide (-1000 ≤ a ∧ a ≤ 1000):=rfl
 rw [e]
 generalize decide (-1000 ≤ a ∧ a ≤ 1000) = b at *
 have t : Tr tbl J ((.seq c101_o0 (.seq c101_o1 .ret))) (fun s h' => s = T.set .leaf [] (G a) ∧ h' = h) .ret (fun s h' => s.get [true] = .bool (!b) ∧ h' = h):=Tr.region fun s h hp => by
  obtain ⟨rfl,rfl⟩:=hp
  simp (disch:=first|omega|exact zE rfl|exact zO|exact zL rfl) [c101_o0,c101_o1,zG,k]
 exact Tr.post (fun s h' q => ⟨by simp [c101,q.1],q.2⟩) t
def V1 : CallF:=addI T3 101 spec101
theorem v1 : Sound Go.Proofs.Try.prog V1:=Sound.add follows ok t3 (by decide) (fun args h x e => by
 unfold spec101 at e
 split at e
 ·simp only [Option.some.injEq] at e; subst e
  exact c101_ok T3 (fun n lo hi h => by
   rw [show T3 60 [G n,G lo,G hi] h = T1 60 [G n,G lo,G hi] h from by simp (disch:=decide) only [T2,T3,addI_ne,addX_ne,addV_ne,addK_ne]]; exact k60 n lo hi h) (fun _ _ => by simp (disch:=decide) only [T1,T2,T3,addI_ne,addX_ne,addV_ne,addK_ne]; rfl) h _
 ·cases e)
theorem k101 (a : Int) (h : Heap) : V1 101 [G a] h = some (.bool (!smB a),h.own,true):=by simp [V1,addI,spec101]
def Pre100v (a : A100) (args : List AV) (h : Heap) : Prop:=Ok100 V1 a h ∧ args = [a.x,.func a.f a.cap]
noncomputable def V2 : CallF:=addK tbl V1 100 Pre100v Post100
theorem v2 : Sound Go.Proofs.Try.prog V2:=Sound.addK follows ok v1 (by decide) _ _
theorem k100v : K100 V1 V2:=fun h a ha => by
 obtain ⟨v,own,e,rfl,rfl⟩:=addK_some (Pre:=Pre100v) (Post:=Post100) (fun a args h hp => by
  obtain ⟨⟨h1,h2,h3,h4⟩,rfl⟩:=hp
  exact ⟨_,_,c100_ok V1 (fun _ _ => by simp (disch:=decide) only [V1,T1,T2,T3,addI_ne,addX_ne,addV_ne,addK_ne]; rfl) h1 h h2 h3 h4,rfl,rfl⟩) a _ h ⟨ha,rfl⟩
 exact e
noncomputable def V3 : CallF:=addK tbl V2 80 Pre100v Post80
theorem v3 : Sound Go.Proofs.Try.prog V3:=Sound.addK follows ok v2 (by decide) _ _
theorem k80v : K80 V1 V3:=fun h a ha => by
 obtain ⟨v,own,e,rfl,rfl⟩:=addK_some (Pre:=Pre100v) (Post:=Post80) (fun a args h hp => by
  obtain ⟨h1,rfl⟩:=hp
  exact ⟨_,_,c80_ok V2 V1 (fun _ _ => by simp (disch:=decide) only [V2,V1,T1,T2,T3,addI_ne,addX_ne,addV_ne,addK_ne]; rfl) k100v h a h1,rfl,rfl⟩) a _ h ⟨ha,rfl⟩
 exact e
theorem k60v : K60 V3:=fun n lo hi h => by
 rw [show V3 60 [G n,G lo,G hi] h = T1 60 [G n,G lo,G hi] h from by simp (disch:=decide) only [V3,V2,V1,T2,T3,addI_ne,addX_ne,addV_ne,addK_ne]]; exact k60 n lo hi h
section
variable {qq m : Nat} {Wt : List (List (List Int))} {x1 x2 : AV}
theorem c83_b0_ok (J : CallF) (k80 : K80 V1 J) {H : Heap} {x y z : AV} {p n i bm bv : Nat} {M : List (List Int)} (gS : H.get p = .cells 0 3 [G qq,x1,x2]) (t : MR H (.slice bm 0 m bv) M) (hm : M.length = m) (n1 : m ≤ 1000000) (big : ∀ l ∈ M,l.length ≤ 1000000) {k : Nat} (hk : k < m) :
  (cellB qq (M.getD k []) = true → Tr tbl J (.trim [[false],[true],[false,true,true,false],[true,true,true,false],[false,false,false,true],[true,true,false,false,false],[false,false,true,false,false],[true,false,true,false,false]] c83_b0) (fun s h => h = H ∧ s.get [false] = x ∧ s.get [true] = .ptr p 0 3 ∧ s.get [false,true,true,false] = x ∧ s.get [true,true,true,false] = G n ∧ s.get [false,false,false,true] = G i ∧ s.get [true,true,false,false,false] = .slice bm 0 m bv ∧ s.get [false,false,true,false,false] = G m ∧ s.get [true,false,true,false,false] = G (k : Nat)) .normal (fun s h => h = H ∧ s.get [false] = x ∧ s.get [true] = .ptr p 0 3 ∧ s.get [false,true,true,false] = x ∧ s.get [true,true,true,false] = G n ∧ s.get [false,false,false,true] = G i ∧ s.get [true,true,false,false,false] = .slice bm 0 m bv ∧ s.get [false,false,true,false,false] = G m ∧ s.get [true,false,true,false,false] = G ((k + 1 : Nat) : Int))) ∧
  (cellB qq (M.getD k []) = false → Tr tbl J (.trim [[false],[true],[false,true,true,false],[true,true,true,false],[false,false,false,true],[true,true,false,false,false],[false,false,true,false,false],[true,false,true,false,false]] c83_b0) (fun s h => h = H ∧ s.get [false] = x ∧ s.get [true] = .ptr p 0 3 ∧ s.get [false,true,true,false] = x ∧ s.get [true,true,true,false] = G n ∧ s.get [false,false,false,true] = G i ∧ s.get [true,true,false,false,false] = .slice bm 0 m bv ∧ s.get [false,false,true,false,false] = G m ∧ s.get [true,false,true,false,false] = G (k : Nat)) .ret (fun s h => s.get [true,false] = .bool false)):=by
 obtain ⟨cs,r,g,lc,_,e,lr⟩:=t.row3 (k:=k) (by omega)
 have e':=getI e
 have hl:=big _ (show M.getD k [] ∈ M by
  rw [List.getD_eq_getElem?_getD,List.getElem?_eq_getElem (by omega)]; exact List.getElem_mem _)
 have kk:=k80 H ⟨r,101,[],gs (M.getD k []),fun t => !smB ((M.getD k []).getD t 0)⟩ ⟨show (101 : Nat) ≠ 0 by decide,LR.el lr,by show (gs (M.getD k [])).length < _; rw [List.length_map]; omega,fun t c e => by
  rw [List.getElem?_map,Option.map_eq_some_iff] at e
  obtain ⟨a,e,rfl⟩:=e
  rw [k101]
  show _ = some (AV.bool !smB ((M.getD k []).getD t 0),[],true)
  rw [List.getD_eq_getElem?_getD,e]; rfl⟩
 simp only [List.length_map,any_sm] at kk
 have cb : cellB qq (M.getD k []) = (decide ((M.getD k []).length = qq) && (M.getD k []).all smB):=rfl
 rw [cb]
 have hs:=lr.cases
 have k1 : ((k + 1 : Nat) : Int) = (k : Int) + 1:=by omega
 rw [k1]
 clear lr t cb k80 big
 generalize (M.getD k []).all smB = z at *
 have sl : (r = .nils ∧ (M.getD k []).length = 0) ∨ (r = .slice0 ∧ (M.getD k []).length = 0) ∨ ∃ b v,r = .slice b 0 (M.getD k []).length v:=by
  rcases hs with ⟨h1,h2⟩ | ⟨h1,h2⟩ | ⟨b,v,h1,_⟩
  ·exact .inl ⟨h1,by rw [h2]; rfl⟩
  ·exact .inr (.inl ⟨h1,by rw [h2]; rfl⟩)
  ·exact .inr (.inr ⟨b,v,h1⟩)
 clear hs
 generalize (M.getD k []).length = l at *
 by_cases c : l = qq
 ·rw [decide_eq_true c,Bool.true_and]
  subst c
  cases z
  ·refine ⟨fun h => (by cases h),fun _ => ?_⟩
   rcases sl with ⟨rfl,rfl⟩ | ⟨rfl,rfl⟩ | ⟨b,v,rfl⟩
   all_goals
    refine Tr.w fun s1 H1 hp _ kR => W.trim ?_
    obtain ⟨rfl,q⟩:=hp
    refine zCh ?_
    simp (disch:=first|omega|exact zE rfl|exact zO|exact zL rfl) [c83_o9,zG,q]
    refine zCh ?_
    simp (disch:=first|omega|exact zE rfl|exact zO|exact zL rfl) [zG,q]
    refine W.seq (W.block ?_)
    refine zCh ?_
    simp (disch:=first|omega|exact zE rfl|exact zO|exact zL rfl) [c83_o10,zG,q,g,e,e',lc]
    refine zCh ?_
    simp (disch:=first|omega|exact zE rfl|exact zO|exact zL rfl) [c83_o11,zG,q,gS,kk]
    refine W.chunk ?_
    simp (disch:=first|omega|exact zE rfl|exact zO|exact zL rfl) [c83_o12,zG,q]
    exact kR _ _ (by simp [T.get])
  ·refine ⟨fun _ => ?_,fun h => (by cases h)⟩
   rcases sl with ⟨rfl,rfl⟩ | ⟨rfl,rfl⟩ | ⟨b,v,rfl⟩
   all_goals
    refine Tr.w fun s1 H1 hp _ kR => W.trim ?_
    obtain ⟨rfl,q⟩:=hp
    refine zCh ?_
    simp (disch:=first|omega|exact zE rfl|exact zO|exact zL rfl) [c83_o9,zG,q]
    refine zCh ?_
    simp (disch:=first|omega|exact zE rfl|exact zO|exact zL rfl) [zG,q]
    refine W.seq (W.block ?_)
    refine zCh ?_
    simp (disch:=first|omega|exact zE rfl|exact zO|exact zL rfl) [c83_o10,zG,q,g,e,e',lc]
    refine zCh ?_
    simp (disch:=first|omega|exact zE rfl|exact zO|exact zL rfl) [c83_o11,zG,q,gS,kk]
    refine W.chunk ?_
    simp (disch:=first|omega|exact zE rfl|exact zO|exact zL rfl) [c83_o12,zG,q]
    refine W.chunk ?_
    simp (disch:=first|omega|exact zE rfl|exact zO|exact zL rfl) [c83_o13,zG,q]
    exact kR _ _ (by simp [T.get,q])
 ·rw [decide_eq_false c,Bool.false_and]
  refine ⟨fun h => (by cases h),fun _ => ?_⟩
  have c' : ¬ (l : Int) = (qq : Int):=by omega
  rcases sl with ⟨rfl,rfl⟩ | ⟨rfl,rfl⟩ | ⟨b,v,rfl⟩
  ·have c2 : ¬ (0 : Int) = (qq : Int):=by omega
   have c3 : ¬ qq = 0:=by omega
   refine Tr.w fun s1 H1 hp _ kR => W.trim ?_
   obtain ⟨rfl,q⟩:=hp
   refine zCh ?_
   simp (disch:=first|omega|exact zE rfl|exact zO|exact zL rfl) [c83_o9,zG,q]
   refine zCh ?_
   simp (disch:=first|omega|exact zE rfl|exact zO|exact zL rfl) [zG,q]
   refine W.seq (W.block ?_)
   refine zCh ?_
   simp (disch:=first|omega|exact zE rfl|exact zO|exact zL rfl) [c83_o10,zG,q,g,e,e',lc]
   refine zCh ?_
   simp (disch:=first|omega|exact zE rfl|exact zO|exact zL rfl) [c83_o11,zG,q,gS,c2,c3]
   refine W.chunk ?_
   simp (disch:=first|omega|exact zE rfl|exact zO|exact zL rfl) [c83_o12,zG,q]
   exact kR _ _ (by simp [T.get])
  ·have c2 : ¬ (0 : Int) = (qq : Int):=by omega
   have c3 : ¬ qq = 0:=by omega
   refine Tr.w fun s1 H1 hp _ kR => W.trim ?_
   obtain ⟨rfl,q⟩:=hp
   refine zCh ?_
   simp (disch:=first|omega|exact zE rfl|exact zO|exact zL rfl) [c83_o9,zG,q]
   refine zCh ?_
   simp (disch:=first|omega|exact zE rfl|exact zO|exact zL rfl) [zG,q]
   refine W.seq (W.block ?_)
   refine zCh ?_
   simp (disch:=first|omega|exact zE rfl|exact zO|exact zL rfl) [c83_o10,zG,q,g,e,e',lc]
   refine zCh ?_
   simp (disch:=first|omega|exact zE rfl|exact zO|exact zL rfl) [c83_o11,zG,q,gS,c2,c3]
   refine W.chunk ?_
   simp (disch:=first|omega|exact zE rfl|exact zO|exact zL rfl) [c83_o12,zG,q]
   exact kR _ _ (by simp [T.get])
  ·refine Tr.w fun s1 H1 hp _ kR => W.trim ?_
   obtain ⟨rfl,q⟩:=hp
   refine zCh ?_
   simp (disch:=first|omega|exact zE rfl|exact zO|exact zL rfl) [c83_o9,zG,q]
   refine zCh ?_
   simp (disch:=first|omega|exact zE rfl|exact zO|exact zL rfl) [zG,q]
   refine W.seq (W.block ?_)
   refine zCh ?_
   simp (disch:=first|omega|exact zE rfl|exact zO|exact zL rfl) [c83_o10,zG,q,g,e,e',lc]
   refine zCh ?_
   simp (disch:=first|omega|exact zE rfl|exact zO|exact zL rfl) [c83_o11,zG,q,gS,c,c']
   refine W.chunk ?_
   simp (disch:=first|omega|exact zE rfl|exact zO|exact zL rfl) [c83_o12,zG,q]
   exact kR _ _ (by simp [T.get])
theorem all_af (M : List (List Int)) (p : List Int → Bool) : af (fun k => p (M.getD k [])) 0 M.length = M.all p:=by
 rw [af_range,all_range M [] p]
theorem all_afW (Wt : List (List (List Int))) (p : List (List Int) → Bool) : af (fun k => p (Wt.getD k [])) 0 Wt.length = Wt.all p:=by
 rw [af_range,all_range Wt [] p]
set_option maxHeartbeats 1000000 in
theorem c83_b1_ok (J : CallF) (k80 : K80 V1 J) {H : Heap} {p n b v : Nat} (gS : H.get p = .cells 0 3 [G qq,x1,x2]) (t : WT H (.slice b 0 n v) Wt) (hn : Wt.length = n) (m1 : 1 ≤ m) (hm : (Wt.getD 0 []).length = m) (n1 : n ≤ 1000000) (big : ∀ M ∈ Wt,M.length ≤ 1000000 ∧ ∀ l ∈ M,l.length ≤ 1000000) {i : Nat} (hi : i < n) :
  (gridB qq m (Wt.getD i []) = true → Tr tbl J (.trim [[false],[true],[false,true,true,false],[true,true,true,false],[false,false,false,true]] c83_b1) (fun s h => h = H ∧ s.get [false] = .slice b 0 n v ∧ s.get [true] = .ptr p 0 3 ∧ s.get [false,true,true,false] = .slice b 0 n v ∧ s.get [true,true,true,false] = G n ∧ s.get [false,false,false,true] = G (i : Nat)) .normal (fun s h => h = H ∧ s.get [false] = .slice b 0 n v ∧ s.get [true] = .ptr p 0 3 ∧ s.get [false,true,true,false] = .slice b 0 n v ∧ s.get [true,true,true,false] = G n ∧ s.get [false,false,false,true] = G ((i + 1 : Nat) : Int))) ∧
  (gridB qq m (Wt.getD i []) = false → Tr tbl J (.trim [[false],[true],[false,true,true,false],[true,true,true,false],[false,false,false,true]] c83_b1) (fun s h => h = H ∧ s.get [false] = .slice b 0 n v ∧ s.get [true] = .ptr p 0 3 ∧ s.get [false,true,true,false] = .slice b 0 n v ∧ s.get [true,true,true,false] = G n ∧ s.get [false,false,false,true] = G (i : Nat)) .ret (fun s h => s.get [true,false] = .bool false)):=by
 obtain ⟨cs,y,g,lc,_,e,my⟩:=t.at (i:=i) (by omega)
 obtain ⟨cs',y0,g',_,_,e0,my0⟩:=t.at (i:=0) (by omega)
 rw [g] at g'
 simp only [AObj.cells.injEq,true_and] at g'
 subst g'
 have e':=getI e
 have e0':=getI e0
 obtain ⟨b0,v0,rfl⟩ : ∃ b v,y0 = .slice b 0 m v:=by
  rcases my0.sl3 with ⟨_,h⟩ | ⟨_,h⟩ | ⟨b,v,h⟩
  ·omega
  ·omega
  ·rw [hm] at h; exact ⟨b,v,h⟩
 have mem : Wt.getD i [] ∈ Wt:=by
  rw [List.getD_eq_getElem?_getD,List.getElem?_eq_getElem (by omega)]; exact List.getElem_mem _
 obtain ⟨bg1,bg2⟩:=big _ mem
 have mbig : m ≤ 1000000:=by
  rw [← hm]
  exact (big _ (by rw [List.getD_eq_getElem?_getD,List.getElem?_eq_getElem (by omega)]; exact List.getElem_mem _)).1
 have gb : gridB qq m (Wt.getD i []) = (decide ((Wt.getD i []).length = m) && (Wt.getD i []).all (cellB qq)):=rfl
 rw [gb]
 have k1 : ((i + 1 : Nat) : Int) = (i : Int) + 1:=by omega
 rw [k1]
 generalize Wt.getD i [] = M at *
 by_cases c : M.length = m
 ·rw [decide_eq_true c,Bool.true_and,← all_af,c]
  obtain ⟨bm,bv,rfl⟩ : ∃ b v,y = .slice b 0 m v:=by
   rcases my.sl3 with ⟨_,h⟩ | ⟨_,h⟩ | ⟨b,v,h⟩
   ·omega
   ·omega
   ·rw [c] at h; exact ⟨b,v,h⟩
  have b0':=fun {k} hk => c83_b0_ok (x:=.slice b 0 n v) (y:=.nils) (z:=.nils) (n:=n) (i:=i) J k80 gS my c mbig bg2 (k:=k) hk
  constructor
  ·intro ha
   have l0 : Tr tbl J c83_l0 (fun s h => h = H ∧ s.get [false] = .slice b 0 n v ∧ s.get [true] = .ptr p 0 3 ∧ s.get [false,true,true,false] = .slice b 0 n v ∧ s.get [true,true,true,false] = G n ∧ s.get [false,false,false,true] = G i ∧ s.get [true,true,false,false,false] = .slice bm 0 m bv ∧ s.get [false,false,true,false,false] = G m ∧ s.get [true,false,true,false,false] = G ((0 : Nat) : Int)) (.exit 2) (fun s h => h = H ∧ s.get [false] = .slice b 0 n v ∧ s.get [true] = .ptr p 0 3 ∧ s.get [false,true,true,false] = .slice b 0 n v ∧ s.get [true,true,true,false] = G n ∧ s.get [false,false,false,true] = G i):=by
    refine Tr.allT (P:=fun k => (fun s h => h = H ∧ s.get [false] = .slice b 0 n v ∧ s.get [true] = .ptr p 0 3 ∧ s.get [false,true,true,false] = .slice b 0 n v ∧ s.get [true,true,true,false] = G n ∧ s.get [false,false,false,true] = G i ∧ s.get [true,true,false,false,false] = .slice bm 0 m bv ∧ s.get [false,false,true,false,false] = G m ∧ s.get [true,false,true,false,false] = G (k : Nat))) (p:=fun k => cellB qq (M.getD k [])) m (fun k hk hp => (b0' hk).1 hp) ?_ (by simp) _ 0 (by omega) ha
    clear b0' ha my my0 t big bg2 mem
    refine Tr.w fun s1 H1 hp _ kR => W.trim ?_
    obtain ⟨rfl,q⟩:=hp
    refine zCh ?_
    simp (disch:=first|omega|exact zE rfl|exact zO|exact zL rfl) [c83_o9,zG,q]
    refine zCh ?_
    simp (disch:=first|omega|exact zE rfl|exact zO|exact zL rfl) [zG,q]
    exact kR _ _ (by simp [T.get,q])
   clear b0' ha my my0 t big bg2 mem gb hm c k80
   refine Tr.w fun s1 H1 hp _ kR => W.trim ?_
   obtain ⟨rfl,q⟩:=hp
   refine zCh ?_
   simp (disch:=first|omega|exact zE rfl|exact zO|exact zL rfl) [c83_o4,zG,q]
   refine zCh ?_
   simp (disch:=first|omega|exact zE rfl|exact zO|exact zL rfl) [zG,q]
   refine W.seq (W.block ?_)
   refine zCh ?_
   simp (disch:=first|omega|exact zE rfl|exact zO|exact zL rfl) [c83_o5,zG,q,g,e,e',lc]
   refine W.assoc ?_
   refine zCh ?_
   simp (disch:=first|omega|exact zE rfl|exact zO|exact zL rfl) [c83_o6,zG,q,g,e0,e0',lc]
   refine zCh ?_
   simp (disch:=first|omega|exact zE rfl|exact zO|exact zL rfl) [c83_o7,zG,q]
   refine zCh ?_
   simp (disch:=first|omega|exact zE rfl|exact zO|exact zL rfl) [c83_o8,zG,q]
   refine W.block ?_
   refine W.use (l0) (by simp (disch:=first|omega|exact zE rfl|exact zO|exact zL rfl) [zG,q]) fun s1 H1 hp => ?_
   obtain ⟨rfl,q⟩:=hp
   try simp only [zW,if_true]
   refine W.chunk ?_
   simp (disch:=first|omega|exact zE rfl|exact zO|exact zL rfl) [c83_o14,zG,q]
   exact kR _ _ (by simp [T.get,q])
  ·intro ha
   have l0 : Tr tbl J c83_l0 (fun s h => h = H ∧ s.get [false] = .slice b 0 n v ∧ s.get [true] = .ptr p 0 3 ∧ s.get [false,true,true,false] = .slice b 0 n v ∧ s.get [true,true,true,false] = G n ∧ s.get [false,false,false,true] = G i ∧ s.get [true,true,false,false,false] = .slice bm 0 m bv ∧ s.get [false,false,true,false,false] = G m ∧ s.get [true,false,true,false,false] = G ((0 : Nat) : Int)) .ret (fun s h => s.get [true,false] = .bool false) :=
    Tr.allF (P:=fun k => (fun s h => h = H ∧ s.get [false] = .slice b 0 n v ∧ s.get [true] = .ptr p 0 3 ∧ s.get [false,true,true,false] = .slice b 0 n v ∧ s.get [true,true,true,false] = G n ∧ s.get [false,false,false,true] = G i ∧ s.get [true,true,false,false,false] = .slice bm 0 m bv ∧ s.get [false,false,true,false,false] = G m ∧ s.get [true,false,true,false,false] = G (k : Nat))) (p:=fun k => cellB qq (M.getD k [])) m (fun k hk hp => (b0' hk).1 hp) (fun k hk hp => (b0' hk).2 hp) (by simp) _ 0 (by omega) ha
   clear b0' ha my my0 t big bg2 mem gb hm c k80
   refine Tr.w fun s1 H1 hp _ kR => W.trim ?_
   obtain ⟨rfl,q⟩:=hp
   refine zCh ?_
   simp (disch:=first|omega|exact zE rfl|exact zO|exact zL rfl) [c83_o4,zG,q]
   refine zCh ?_
   simp (disch:=first|omega|exact zE rfl|exact zO|exact zL rfl) [zG,q]
   refine W.seq (W.block ?_)
   refine zCh ?_
   simp (disch:=first|omega|exact zE rfl|exact zO|exact zL rfl) [c83_o5,zG,q,g,e,e',lc]
   refine W.assoc ?_
   refine zCh ?_
   simp (disch:=first|omega|exact zE rfl|exact zO|exact zL rfl) [c83_o6,zG,q,g,e0,e0',lc]
   refine zCh ?_
   simp (disch:=first|omega|exact zE rfl|exact zO|exact zL rfl) [c83_o7,zG,q]
   refine zCh ?_
   simp (disch:=first|omega|exact zE rfl|exact zO|exact zL rfl) [c83_o8,zG,q]
   refine W.block ?_
   refine W.use (l0) (by simp (disch:=first|omega|exact zE rfl|exact zO|exact zL rfl) [zG,q]) fun s1 H1 hp => ?_
   try simp only [zW,if_true]
   exact kR _ _ hp
 ·rw [decide_eq_false c,Bool.false_and]
  refine ⟨fun h => (by cases h),fun _ => ?_⟩
  have sl:=my.sl3
  clear my my0 t big bg2 mem gb hm k80
  generalize M.length = l at *
  have c' : ¬ (l : Int) = (m : Int):=by omega
  rcases sl with ⟨rfl,rfl⟩ | ⟨rfl,rfl⟩ | ⟨bm,bv,rfl⟩
  ·have c2 : ¬ (0 : Int) = (m : Int):=by omega
   have c3 : ¬ m = 0:=by omega
   refine Tr.w fun s1 H1 hp _ kR => W.trim ?_
   obtain ⟨rfl,q⟩:=hp
   refine zCh ?_
   simp (disch:=first|omega|exact zE rfl|exact zO|exact zL rfl) [c83_o4,zG,q]
   refine zCh ?_
   simp (disch:=first|omega|exact zE rfl|exact zO|exact zL rfl) [zG,q]
   refine W.seq (W.block ?_)
   refine zCh ?_
   simp (disch:=first|omega|exact zE rfl|exact zO|exact zL rfl) [c83_o5,zG,q,g,e,e',lc]
   refine W.assoc ?_
   refine zCh ?_
   simp (disch:=first|omega|exact zE rfl|exact zO|exact zL rfl) [c83_o6,zG,q,g,e0,e0',lc,c2,c3]
   refine zCh ?_
   simp (disch:=first|omega|exact zE rfl|exact zO|exact zL rfl) [c83_o7,zG,q]
   exact kR _ _ (by simp [T.get])
  ·have c2 : ¬ (0 : Int) = (m : Int):=by omega
   have c3 : ¬ m = 0:=by omega
   refine Tr.w fun s1 H1 hp _ kR => W.trim ?_
   obtain ⟨rfl,q⟩:=hp
   refine zCh ?_
   simp (disch:=first|omega|exact zE rfl|exact zO|exact zL rfl) [c83_o4,zG,q]
   refine zCh ?_
   simp (disch:=first|omega|exact zE rfl|exact zO|exact zL rfl) [zG,q]
   refine W.seq (W.block ?_)
   refine zCh ?_
   simp (disch:=first|omega|exact zE rfl|exact zO|exact zL rfl) [c83_o5,zG,q,g,e,e',lc]
   refine W.assoc ?_
   refine zCh ?_
   simp (disch:=first|omega|exact zE rfl|exact zO|exact zL rfl) [c83_o6,zG,q,g,e0,e0',lc,c2,c3]
   refine zCh ?_
   simp (disch:=first|omega|exact zE rfl|exact zO|exact zL rfl) [c83_o7,zG,q]
   exact kR _ _ (by simp [T.get])
  ·refine Tr.w fun s1 H1 hp _ kR => W.trim ?_
   obtain ⟨rfl,q⟩:=hp
   refine zCh ?_
   simp (disch:=first|omega|exact zE rfl|exact zO|exact zL rfl) [c83_o4,zG,q]
   refine zCh ?_
   simp (disch:=first|omega|exact zE rfl|exact zO|exact zL rfl) [zG,q]
   refine W.seq (W.block ?_)
   refine zCh ?_
   simp (disch:=first|omega|exact zE rfl|exact zO|exact zL rfl) [c83_o5,zG,q,g,e,e',lc]
   refine W.assoc ?_
   refine zCh ?_
   simp (disch:=first|omega|exact zE rfl|exact zO|exact zL rfl) [c83_o6,zG,q,g,e0,e0',lc,c,c']
   refine zCh ?_
   simp (disch:=first|omega|exact zE rfl|exact zO|exact zL rfl) [c83_o7,zG,q]
   exact kR _ _ (by simp [T.get])
set_option maxHeartbeats 1000000 in
theorem c83_ok (J : CallF) (k60 : K60 J) (k80 : K80 V1 J) (hJ : ∀ a h,J 83 a h = none) (h : Heap) {x : AV} (t : WT h x Wt) (n1 : Wt.length ≤ 1000000) (big : ∀ M ∈ Wt,M.length ≤ 1000000 ∧ ∀ l ∈ M,l.length ≤ 1000000) : CallsTo tbl J 83 [.agg [G qq,x1,x2],x] h (.bool (wtB qq Wt),[],false):=by
 refine Tr.fnv (cf:=c83) (e:=.ret) (s:=T.set (T.set .leaf [] (.agg [G qq,x1,x2])) [false] x) (by decide) rfl (hJ _ _) rfl rfl rfl (by simp) ?_
 refine Tr.post (Q:=(fun s h => s.get [true,false] = .bool (wtB qq Wt))) (fun s h q => by simp [c83,q]) ?_
 have tF:=t.fr
 generalize frameOf h = H0 at *
 obtain ⟨H,hH⟩ : ∃ H,H0.plus [.cells 0 3 [G qq,x1,x2]] = H:=⟨_,rfl⟩
 have kH : Kp (fun _ => False) H0 H:=by rw [← hH]; exact Kp.plus _ _
 have gS : H.get H0.size = .cells 0 3 [G qq,x1,x2]:=by rw [← hH]; exact plus_at0 _ _ _ _ rfl
 have tH:=tF.kp kH
 have wb : wtB qq Wt = (decide (1 ≤ Wt.length ∧ Wt.length ≤ 40) && decide (1 ≤ (Wt.getD 0 []).length ∧ (Wt.getD 0 []).length ≤ 5) && Wt.all (gridB qq (Wt.getD 0 []).length)):=rfl
 have e60:=k60 (Wt.length : Int) 1 40 H
 have z0 : decide ((1 : Int) ≤ (Wt.length : Int) ∧ (Wt.length : Int) ≤ 40) = decide (1 ≤ Wt.length ∧ Wt.length ≤ 40):=by
  apply decide_eq_decide.2; omega
 rw [z0] at e60
 have tH0:=tH
 obtain ⟨e | e,rfl⟩ | ⟨b,v,cs,rfl,g,lc,hr⟩:=tH0
 ·subst e
  have wz : wtB qq [] = false:=rfl
  rw [wz]
  simp only [List.length_nil] at e60
  have e60 : J 60 [G 0,G 1,G 40] H = some (.bool false,[],false):=e60
  clear wb t tF tH kH
  refine Tr.w fun s1 H1 hp _ kR => ?_
  obtain ⟨rfl,rfl⟩:=hp
  have q : True:=trivial
  refine zCh ?_
  simp (disch:=first|omega|exact zE rfl|exact zO|exact zL rfl) [c83_o0,zG,q,hH]
  refine W.assoc ?_
  refine zCh ?_
  simp (disch:=first|omega|exact zE rfl|exact zO|exact zL rfl) [c83_o1,zG,q,e60]
  refine zCh ?_
  simp (disch:=first|omega|exact zE rfl|exact zO|exact zL rfl) [c83_o2,zG,q]
  exact kR _ _ (by simp [T.get])
 ·subst e
  have wz : wtB qq [] = false:=rfl
  rw [wz]
  simp only [List.length_nil] at e60
  have e60 : J 60 [G 0,G 1,G 40] H = some (.bool false,[],false):=e60
  clear wb t tF tH kH
  refine Tr.w fun s1 H1 hp _ kR => ?_
  obtain ⟨rfl,rfl⟩:=hp
  have q : True:=trivial
  refine zCh ?_
  simp (disch:=first|omega|exact zE rfl|exact zO|exact zL rfl) [c83_o0,zG,q,hH]
  refine W.assoc ?_
  refine zCh ?_
  simp (disch:=first|omega|exact zE rfl|exact zO|exact zL rfl) [c83_o1,zG,q,e60]
  refine zCh ?_
  simp (disch:=first|omega|exact zE rfl|exact zO|exact zL rfl) [c83_o2,zG,q]
  exact kR _ _ (by simp [T.get])
 ·rw [wb]
  cases c1 : decide (1 ≤ Wt.length ∧ Wt.length ≤ 40)
  ·rw [c1] at e60
   rw [Bool.false_and,Bool.false_and]
   clear wb t tF tH kH hr g big
   generalize Wt.length = n at *
   refine Tr.w fun s1 H1 hp _ kR => ?_
   obtain ⟨rfl,rfl⟩:=hp
   have q : True:=trivial
   refine zCh ?_
   simp (disch:=first|omega|exact zE rfl|exact zO|exact zL rfl) [c83_o0,zG,q,hH]
   refine W.assoc ?_
   refine zCh ?_
   simp (disch:=first|omega|exact zE rfl|exact zO|exact zL rfl) [c83_o1,zG,q,e60]
   refine zCh ?_
   simp (disch:=first|omega|exact zE rfl|exact zO|exact zL rfl) [c83_o2,zG,q]
   exact kR _ _ (by simp [T.get])
  ·rw [c1] at e60
   rw [Bool.true_and]
   obtain ⟨n1',n40⟩:=of_decide_eq_true c1
   obtain ⟨M0,e0,my0⟩:=hr 0 cs[0] (List.getElem?_eq_getElem (by omega))
   have eM : Wt.getD 0 [] = M0:=by rw [List.getD_eq_getElem?_getD,e0]; rfl
   have c0 : cs[0]? = some cs[0]:=List.getElem?_eq_getElem (by omega)
   have c0':=getI c0
   have sl0:=my0.sl3
   rw [eM]
   have e60':=k60 (M0.length : Int) 1 5 H
   have z1 : decide ((1 : Int) ≤ (M0.length : Int) ∧ (M0.length : Int) ≤ 5) = decide (1 ≤ M0.length ∧ M0.length ≤ 5):=by
    apply decide_eq_decide.2; omega
   rw [z1] at e60'
   generalize cs[0]'(by omega) = y0 at *
   cases c2 : decide (1 ≤ M0.length ∧ M0.length ≤ 5)
   ·rw [c2] at e60'
    rw [Bool.false_and]
    clear wb t tF tH kH hr big my0 eM e0
    generalize Wt.length = n at *
    generalize M0.length = m0 at *
    rcases sl0 with ⟨rfl,rfl⟩ | ⟨rfl,rfl⟩ | ⟨b0,v0,rfl⟩
    ·have e60' : J 60 [G 0,G 1,G 5] H = some (.bool false,[],false):=e60'
     refine Tr.w fun s1 H1 hp _ kR => ?_
     obtain ⟨rfl,rfl⟩:=hp
     have q : True:=trivial
     refine zCh ?_
     simp (disch:=first|omega|exact zE rfl|exact zO|exact zL rfl) [c83_o0,zG,q,hH]
     refine W.assoc ?_
     refine zCh ?_
     simp (disch:=first|omega|exact zE rfl|exact zO|exact zL rfl) [c83_o1,zG,q,e60,g,c0,c0',lc,e60']
     refine zCh ?_
     simp (disch:=first|omega|exact zE rfl|exact zO|exact zL rfl) [c83_o2,zG,q]
     exact kR _ _ (by simp [T.get])
    ·have e60' : J 60 [G 0,G 1,G 5] H = some (.bool false,[],false):=e60'
     refine Tr.w fun s1 H1 hp _ kR => ?_
     obtain ⟨rfl,rfl⟩:=hp
     have q : True:=trivial
     refine zCh ?_
     simp (disch:=first|omega|exact zE rfl|exact zO|exact zL rfl) [c83_o0,zG,q,hH]
     refine W.assoc ?_
     refine zCh ?_
     simp (disch:=first|omega|exact zE rfl|exact zO|exact zL rfl) [c83_o1,zG,q,e60,g,c0,c0',lc,e60']
     refine zCh ?_
     simp (disch:=first|omega|exact zE rfl|exact zO|exact zL rfl) [c83_o2,zG,q]
     exact kR _ _ (by simp [T.get])
    ·refine Tr.w fun s1 H1 hp _ kR => ?_
     obtain ⟨rfl,rfl⟩:=hp
     have q : True:=trivial
     refine zCh ?_
     simp (disch:=first|omega|exact zE rfl|exact zO|exact zL rfl) [c83_o0,zG,q,hH]
     refine W.assoc ?_
     refine zCh ?_
     simp (disch:=first|omega|exact zE rfl|exact zO|exact zL rfl) [c83_o1,zG,q,e60,g,c0,c0',lc,e60']
     refine zCh ?_
     simp (disch:=first|omega|exact zE rfl|exact zO|exact zL rfl) [c83_o2,zG,q]
     exact kR _ _ (by simp [T.get])
   ·rw [c2] at e60'
    rw [Bool.true_and]
    obtain ⟨m1,m5⟩:=of_decide_eq_true c2
    obtain ⟨b0,v0,rfl⟩:=(sl0.resolve_left (fun e => by omega)).resolve_left (fun e => by omega)
    have b1:=fun {i} hi => c83_b1_ok (m:=M0.length) J k80 gS tH rfl m1 (by rw [eM]) n1 big (i:=i) hi
    cases ha : Wt.all (gridB qq M0.length)
    ·rw [← all_afW] at ha
     have l1 : Tr tbl J c83_l1 (fun s h => h = H ∧ s.get [false] = .slice b 0 Wt.length v ∧ s.get [true] = .ptr H0.size 0 3 ∧ s.get [false,true,true,false] = .slice b 0 Wt.length v ∧ s.get [true,true,true,false] = G Wt.length ∧ s.get [false,false,false,true] = G ((0 : Nat) : Int)) .ret (fun s h => s.get [true,false] = .bool false) :=
      Tr.allF (P:=fun i => (fun s h => h = H ∧ s.get [false] = .slice b 0 Wt.length v ∧ s.get [true] = .ptr H0.size 0 3 ∧ s.get [false,true,true,false] = .slice b 0 Wt.length v ∧ s.get [true,true,true,false] = G Wt.length ∧ s.get [false,false,false,true] = G (i : Nat))) (p:=fun i => gridB qq M0.length (Wt.getD i [])) Wt.length (fun i hi hp => (b1 hi).1 hp) (fun i hi hp => (b1 hi).2 hp) (by simp) _ 0 (by omega) ha
     clear wb t tF tH kH hr big my0 eM e0 b1 ha
     generalize Wt.length = n at *
     generalize M0.length = m0 at *
     refine Tr.w fun s1 H1 hp _ kR => ?_
     obtain ⟨rfl,rfl⟩:=hp
     have q : True:=trivial
     refine zCh ?_
     simp (disch:=first|omega|exact zE rfl|exact zO|exact zL rfl) [c83_o0,zG,q,hH]
     refine W.assoc ?_
     refine zCh ?_
     simp (disch:=first|omega|exact zE rfl|exact zO|exact zL rfl) [c83_o1,zG,q,e60,g,c0,c0',lc,e60']
     refine zCh ?_
     simp (disch:=first|omega|exact zE rfl|exact zO|exact zL rfl) [c83_o2,zG,q]
     refine W.assoc ?_
     refine zCh ?_
     simp (disch:=first|omega|exact zE rfl|exact zO|exact zL rfl) [c83_o3,zG,q]
     refine W.seq (W.block ?_)
     refine W.use (l1) (by simp (disch:=first|omega|exact zE rfl|exact zO|exact zL rfl) [zG,q]) fun s1 H1 hp => ?_
     try simp only [zW,if_true]
     exact kR _ _ hp
    ·rw [← all_afW] at ha
     have l1 : Tr tbl J c83_l1 (fun s h => h = H ∧ s.get [false] = .slice b 0 Wt.length v ∧ s.get [true] = .ptr H0.size 0 3 ∧ s.get [false,true,true,false] = .slice b 0 Wt.length v ∧ s.get [true,true,true,false] = G Wt.length ∧ s.get [false,false,false,true] = G ((0 : Nat) : Int)) (.exit 0) (fun s h => h = H):=by
      refine Tr.allT (P:=fun i => (fun s h => h = H ∧ s.get [false] = .slice b 0 Wt.length v ∧ s.get [true] = .ptr H0.size 0 3 ∧ s.get [false,true,true,false] = .slice b 0 Wt.length v ∧ s.get [true,true,true,false] = G Wt.length ∧ s.get [false,false,false,true] = G (i : Nat))) (p:=fun i => gridB qq M0.length (Wt.getD i [])) Wt.length (fun i hi hp => (b1 hi).1 hp) ?_ (by simp) _ 0 (by omega) ha
      clear wb t tF tH kH hr big my0 eM e0 b1 ha
      generalize Wt.length = n at *
      refine Tr.w fun s1 H1 hp _ kR => W.trim ?_
      obtain ⟨rfl,q⟩:=hp
      refine zCh ?_
      simp (disch:=first|omega|exact zE rfl|exact zO|exact zL rfl) [c83_o4,zG,q]
      refine zCh ?_
      simp (disch:=first|omega|exact zE rfl|exact zO|exact zL rfl) [zG,q]
      exact kR _ _ rfl
     clear wb t tF tH kH hr big my0 eM e0 b1 ha
     generalize Wt.length = n at *
     generalize M0.length = m0 at *
     refine Tr.w fun s1 H1 hp _ kR => ?_
     obtain ⟨rfl,rfl⟩:=hp
     have q : True:=trivial
     refine zCh ?_
     simp (disch:=first|omega|exact zE rfl|exact zO|exact zL rfl) [c83_o0,zG,q,hH]
     refine W.assoc ?_
     refine zCh ?_
     simp (disch:=first|omega|exact zE rfl|exact zO|exact zL rfl) [c83_o1,zG,q,e60,g,c0,c0',lc,e60']
     refine zCh ?_
     simp (disch:=first|omega|exact zE rfl|exact zO|exact zL rfl) [c83_o2,zG,q]
     refine W.assoc ?_
     refine zCh ?_
     simp (disch:=first|omega|exact zE rfl|exact zO|exact zL rfl) [c83_o3,zG,q]
     refine W.seq (W.block ?_)
     refine W.use (l1) (by simp (disch:=first|omega|exact zE rfl|exact zO|exact zL rfl) [zG,q]) fun s1 H1 hp => ?_
     obtain rfl:=hp
     try simp only [zW,if_true]
     refine zCh ?_
     simp (disch:=first|omega|exact zE rfl|exact zO|exact zL rfl) [c83_o15,zG,q]
     refine W.ret ?_
     try simp only [zW,if_true]
     exact kR _ _ (by simp [T.get])
end
structure A83 where
 qq : Nat
 x1 : AV
 x2 : AV
 x : AV
 Wt : List (List (List Int))
def Ok83 (b : A83) (h : Heap) : Prop:=WT h b.x b.Wt ∧ b.Wt.length ≤ 1000000 ∧ ∀ M ∈ b.Wt,M.length ≤ 1000000 ∧ ∀ l ∈ M,l.length ≤ 1000000
def Pre83 (b : A83) (args : List AV) (h : Heap) : Prop:=Ok83 b h ∧ args = [.agg [G b.qq,b.x1,b.x2],b.x]
def Post83 (b : A83) (h : Heap) (v : AV) (own : List AObj) : Prop:=v = .bool (wtB b.qq b.Wt) ∧ own = []
abbrev K83 (f : Nat) (J : CallF) : Prop:=∀ (h : Heap) (b : A83),Ok83 b h → J f [.agg [G b.qq,b.x1,b.x2],b.x] h = some (.bool (wtB b.qq b.Wt),[],false)
noncomputable def V4 : CallF:=addK tbl V3 83 Pre83 Post83
theorem v4 : Sound Go.Proofs.Try.prog V4:=Sound.addK follows ok v3 (by decide) _ _
theorem k83v : K83 83 V4:=fun h b o => by
 obtain ⟨v,own,e,rfl,rfl⟩:=addK_some (Pre:=Pre83) (Post:=Post83) (fun b args h hp => by
  obtain ⟨⟨h1,h2,h3⟩,rfl⟩:=hp
  exact ⟨_,_,c83_ok V3 k60v k80v (fun _ _ => by simp (disch:=decide) only [V3,V2,V1,T1,T2,T3,addI_ne,addX_ne,addV_ne,addK_ne]; rfl) h h1 h2 h3,rfl,rfl⟩) b _ h ⟨o,rfl⟩
 exact e
def kk2 : List LK:=[.i .i64,.i .i64]
def enc (M : List (Nat × Nat × Int)) : List (AV × AV):=M.map fun e => (.agg [G (e.1 : Nat),G (e.2.1 : Nat)],G e.2.2)
def mF : List (Nat × Nat × Int) → Nat → Nat → Option Int
 | [],_,_ => none
 | (a,b,n) :: M,j,l => if j = a ∧ l = b then some n else mF M j l
def mP (j l : Nat) (n : Int) : List (Nat × Nat × Int) → List (Nat × Nat × Int)
 | [] => [(j,l,n)]
 | (a,b,m) :: M => if j = a ∧ l = b then (j,l,n) :: M else (a,b,m) :: mP j l n M
theorem mF_mP (j l : Nat) (n : Int) (j' l' : Nat) : ∀ M,mF (mP j l n M) j' l' = if j' = j ∧ l' = l then some n else mF M j' l'
 | [] => rfl
 | (a,b,m) :: M => by
  unfold mP
  by_cases e : j = a ∧ l = b
  ·rw [if_pos e]
   obtain ⟨rfl,rfl⟩:=e
   show (if j' = j ∧ l' = l then some n else mF M j' l') = if j' = j ∧ l' = l then some n else (if j' = j ∧ l' = l then some m else mF M j' l')
   by_cases c : j' = j ∧ l' = l
   ·rw [if_pos c,if_pos c]
   ·rw [if_neg c,if_neg c,if_neg c]
  ·rw [if_neg e]
   show (if j' = a ∧ l' = b then some m else mF (mP j l n M) j' l') = if j' = j ∧ l' = l then some n else (if j' = a ∧ l' = b then some m else mF M j' l')
   rw [mF_mP j l n j' l' M]
   by_cases c : j' = a ∧ l' = b
   ·rw [if_pos c,if_pos c,if_neg (fun h => e ⟨h.1.symm.trans c.1,h.2.symm.trans c.2⟩)]
   ·rw [if_neg c,if_neg c]
theorem eq2 (a b c d : Nat) : eqAgg kk2 (.agg [G (a : Nat),G (b : Nat)]) (.agg [G (c : Nat),G (d : Nat)]) = some (decide (a = c ∧ b = d)):=by
 have : (decide (a = c ∧ b = d)) = ((((a : Nat) : Int) == (c : Nat)) && (((b : Nat) : Int) == (d : Nat))):=by
  rw [Bool.eq_iff_iff]
  simp only [decide_eq_true_eq,Bool.and_eq_true,beq_iff_eq]
  omega
 rw [this]
 simp [eqAgg,kk2,fits,LK.fits,allEq,aveq]
theorem find_enc (j l : Nat) : ∀ M,findG kk2 (.agg [G (j : Nat),G (l : Nat)]) (enc M) = some ((mF M j l).map fun n => G n)
 | [] => rfl
 | (a,b,n) :: M => by
  show (match eqAgg kk2 (.agg [G (j : Nat),G (l : Nat)]) (.agg [G (a : Nat),G (b : Nat)]) with
   | some true => some (some (G n))
   | some false => findG kk2 (.agg [G (j : Nat),G (l : Nat)]) (enc M)
   | none => none) = _
  rw [eq2]
  by_cases e : j = a ∧ l = b
  ·rw [decide_eq_true e]
   show _ = some (Option.map _ (if j = a ∧ l = b then some n else mF M j l))
   rw [if_pos e]; rfl
  ·rw [decide_eq_false e]
   show findG kk2 _ (enc M) = some (Option.map _ (if j = a ∧ l = b then some n else mF M j l))
   rw [if_neg e,find_enc j l M]
theorem put_enc (j l : Nat) (n : Int) : ∀ M,putG kk2 (.agg [G (j : Nat),G (l : Nat)]) (G n) (enc M) = some (enc (mP j l n M))
 | [] => rfl
 | (a,b,m) :: M => by
  show (match eqAgg kk2 (.agg [G (j : Nat),G (l : Nat)]) (.agg [G (a : Nat),G (b : Nat)]) with
   | some true => some ((AV.agg [G (j : Nat),G (l : Nat)],G n) :: enc M)
   | some false => (putG kk2 (.agg [G (j : Nat),G (l : Nat)]) (G n) (enc M)).map ((AV.agg [G (a : Nat),G (b : Nat)],G m) :: ·)
   | none => none) = _
  rw [eq2]
  by_cases e : j = a ∧ l = b
  ·rw [decide_eq_true e]
   show _ = some (enc (if j = a ∧ l = b then (j,l,n) :: M else (a,b,m) :: mP j l n M))
   rw [if_pos e]; rfl
  ·rw [decide_eq_false e]
   show Option.map _ (putG kk2 _ _ (enc M)) = some (enc (if j = a ∧ l = b then (j,l,n) :: M else (a,b,m) :: mP j l n M))
   rw [if_neg e,put_enc j l n M]; rfl
theorem fits2 (a b : Int) : fitsK kk2 (.agg [G a,G b]) = true:=by simp [fitsK,kk2,fits,LK.fits]
def lkA (h : Heap) (z : AV) (ok : Bool) (m k : AV) : Option (AV × FP):=match if fitsK kk2 k then mapA h m else none with
  | some es =>
   let rd:=match m with | .map b => [(b,0,1)] | _ => []
   match findG kk2 k es with
   | some (some v) => some (if ok then .tup [v,.bool true] else v,{ reads:=rd })
   | some none => some (if ok then .tup [z,.bool false] else z,{ reads:=rd })
   | none => none
  | none => none
theorem act_lkA (call : CallF) (h0 : Heap) (s : T) (h : Heap) (z : AV) (ok : Bool) (m k : AOpd) : act call h0 s h (.lookupA [.i .i64,.i .i64] z ok m k) = lkA h z ok (m.ev s) (k.ev s):=rfl
theorem lkA_some {h : Heap} {b j l : Nat} {M : List (Nat × Nat × Int)} {n : Int} (g : h.get b = .map (enc M)) (e : mF M j l = some n) (z : AV) (ok : Bool) : lkA h z ok (.map b) (.agg [G (j : Nat),G (l : Nat)]) = some (if ok then .tup [G n,.bool true] else G n,{ reads:=[(b,0,1)] }):=by
 unfold lkA
 rw [if_pos (fits2 _ _),mapA_at g]
 simp only [find_enc,e,Option.map_some]
theorem lkA_none {h : Heap} {b j l : Nat} {M : List (Nat × Nat × Int)} (g : h.get b = .map (enc M)) (e : mF M j l = none) (z : AV) (ok : Bool) : lkA h z ok (.map b) (.agg [G (j : Nat),G (l : Nat)]) = some (if ok then .tup [z,.bool false] else z,{ reads:=[(b,0,1)] }):=by
 unfold lkA
 rw [if_pos (fits2 _ _),mapA_at g]
 simp only [find_enc,e,Option.map_none]
theorem act_build (call : CallF) (h0 : Heap) (s : T) (h : Heap) (z : List AV) (ps : List (Nat × Nat × AOpd)) : act call h0 s h (.build z ps) = pure1 ((fillA s ps z).map .agg):=rfl
theorem act_ext (call : CallF) (h0 : Heap) (s : T) (h : Heap) (i : Nat) (x : AOpd) : act call h0 s h (.extract i x) = pure1 (match x.ev s with | .tup c => c[i]? | _ => none):=rfl
theorem fits2l (a b : Int) : fitsK [.i .i64,.i .i64] (.agg [G a,G b]) = true:=fits2 a b
theorem put_encl (j l : Nat) (n : Int) (M : List (Nat × Nat × Int)) : putG [.i .i64,.i .i64] (.agg [G (j : Nat),G (l : Nat)]) (G n) (enc M) = some (enc (mP j l n M)):=put_enc j l n M
theorem find_encl (j l : Nat) (M : List (Nat × Nat × Int)) : findG [.i .i64,.i .i64] (.agg [G (j : Nat),G (l : Nat)]) (enc M) = some ((mF M j l).map fun n => G n):=find_enc j l M
def acB : Option (Nat × Int) → Int
 | none => 0
 | some p => p.2
section
variable {S : List (List Nat)} {p mb l j : Nat} {M : List (Nat × Nat × Int)} {g : Nat → Option Int}
theorem c84_l0_ok (J : CallF) {H : Heap} {y : AV} {L : List Nat} (gM : H.get mb = .map (enc M)) (hg : ∀ k ∈ L,mF M k l = g k) (ry : RV H y (gn L)) (lL : L.length ≤ 1000) (l40 : l ≤ 40) :
  Tr tbl J c84_l0 (fun s h => h = H ∧ s.get [false] = .map mb ∧ s.get [false,false] = G ((l : Int) + 1) ∧ s.get [true,true,false] = G 0 ∧ s.get [false,false,true] = .bool false ∧ s.get [true,false,false,true] = y ∧ s.get [false,true,false,true] = G L.length ∧ s.get [true,true,false,true] = G ((0 : Nat) : Int)) (.exit 0) (fun s h => h = H ∧ s.get [true,true,false] = G (acB (bO g none L)) ∧ s.get [false,false,true] = .bool (bO g none L).isSome):=by
 have lg:=gn_len L
 have sy:=ry.sl
 rw [lg] at sy
 have gy : ∀ b v,y = .slice b 0 L.length v → H.get b = .cells 1 v (gn L):=fun b v e => by
  rcases ry with ⟨e2,_⟩ | ⟨b',v',e2,g'⟩
  ·rw [e] at e2; cases e2
  ·rw [e,AV.slice.injEq] at e2
   obtain ⟨rfl,_,_,rfl⟩:=e2
   exact g'
 have tk : L.take L.length = L:=List.take_length
 refine Tr.rounds (e:=.exit 0) (P:=fun t => (fun s h => h = H ∧ s.get [false] = .map mb ∧ s.get [false,false] = G ((l : Int) + 1) ∧ s.get [true,true,false] = G (acB (bO g none (L.take t))) ∧ s.get [false,false,true] = .bool (bO g none (L.take t)).isSome ∧ s.get [true,false,false,true] = y ∧ s.get [false,true,false,true] = G L.length ∧ s.get [true,true,false,true] = G (t : Nat))) (M:=L.length) (fun t ht => ?_) ?_ (by simp) 0 (by omega)
 ·obtain ⟨b,v,rfl⟩:=sy.resolve_left (fun e => by omega)
  have gy1:=gy b v rfl
  have e1:=gn_at ht
  have e1':=getI e1
  have hk:=hg _ (gD_mem ht)
  have st : bO g none (L.take (t + 1)) = stO g (bO g none (L.take t)) (L.getD t 0):=by
   have : L.take (t + 1) = L.take t ++ [L.getD t 0]:=by
    rw [List.take_add_one,List.getElem?_eq_getElem ht,List.getD_eq_getElem?_getD,List.getElem?_eq_getElem ht]; rfl
   rw [this,bO_app]; rfl
  rw [st]
  have k1 : ((t + 1 : Nat) : Int) = (t : Int) + 1:=by omega
  rw [k1]
  have l1 : (l : Int) + 1 - 1 = (l : Int):=by omega
  clear hg ry sy tk st gy
  generalize bO g none (L.take t) = acc at *
  generalize L.getD t 0 = c at *
  generalize gn L = cs at *
  generalize L.length = nL at *
  cases hc : g c with
  | none =>
   rw [stO_none hc]
   rw [hc] at hk
   have lk:=lkA_none gM hk (G 0) true
   simp only [if_true] at lk
   generalize acB acc = ab at *
   generalize acc.isSome = ai at *
   refine Tr.w fun s1 H1 hp _ kR => W.trim ?_
   obtain ⟨rfl,q⟩:=hp
   refine zCh ?_
   simp (disch:=first|omega|exact zE rfl|exact zO|exact zL rfl) [c84_o5,zG,q]
   refine zCh ?_
   simp (disch:=first|omega|exact zE rfl|exact zO|exact zL rfl) [zG,q]
   refine W.seq (W.block ?_)
   refine zCh ?_
   simp (disch:=first|omega|exact zE rfl|exact zO|exact zL rfl) [c84_o6,zG,q,gy1,e1,e1',lg]
   refine zCh ?_
   simp (disch:=first|omega|exact zE rfl|exact zO|exact zL rfl) [-act,c84_o7,zG,q,act_move,act_bin,act_build,act_ext,act_lkA,lk,l1,fillA,AV.cells]
   refine zCh ?_
   simp (disch:=first|omega|exact zE rfl|exact zO|exact zL rfl) [c84_o8,zG,q]
   refine W.chunk ?_
   simp (disch:=first|omega|exact zE rfl|exact zO|exact zL rfl) [c84_o9,zG,q]
   refine W.chunk ?_
   simp (disch:=first|omega|exact zE rfl|exact zO|exact zL rfl) [c84_o10,zG,q]
   exact kR _ _ (by simp [T.get,q])
  | some n =>
   rw [hc] at hk
   have lk:=lkA_some gM hk (G 0) true
   simp only [if_true] at lk
   cases acc with
   | none =>
    rw [stO_new hc]
    have a1 : acB (some (c,n)) = n:=rfl
    have a2 : acB none = 0:=rfl
    rw [a1,a2]
    simp only [Option.isSome_none,Option.isSome_some]
    refine Tr.w fun s1 H1 hp _ kR => W.trim ?_
    obtain ⟨rfl,q⟩:=hp
    refine zCh ?_
    simp (disch:=first|omega|exact zE rfl|exact zO|exact zL rfl) [c84_o5,zG,q]
    refine zCh ?_
    simp (disch:=first|omega|exact zE rfl|exact zO|exact zL rfl) [zG,q]
    refine W.seq (W.block ?_)
    refine zCh ?_
    simp (disch:=first|omega|exact zE rfl|exact zO|exact zL rfl) [c84_o6,zG,q,gy1,e1,e1',lg]
    refine zCh ?_
    simp (disch:=first|omega|exact zE rfl|exact zO|exact zL rfl) [-act,c84_o7,zG,q,act_move,act_bin,act_build,act_ext,act_lkA,lk,l1,fillA,AV.cells]
    refine zCh ?_
    simp (disch:=first|omega|exact zE rfl|exact zO|exact zL rfl) [c84_o8,zG,q]
    refine W.chunk ?_
    simp (disch:=first|omega|exact zE rfl|exact zO|exact zL rfl) [c84_o9,zG,q]
    refine W.chunk ?_
    simp (disch:=first|omega|exact zE rfl|exact zO|exact zL rfl) [c84_o10,zG,q]
    exact kR _ _ (by simp [T.get,q])
   | some pr =>
    obtain ⟨a,b'⟩:=pr
    have a2 : acB (some (a,b')) = b':=rfl
    by_cases cc : b' < n
    ·rw [stO_gt hc cc]
     have a1 : acB (some (c,n)) = n:=rfl
     rw [a1,a2]
     simp only [Option.isSome_some]
     refine Tr.w fun s1 H1 hp _ kR => W.trim ?_
     obtain ⟨rfl,q⟩:=hp
     refine zCh ?_
     simp (disch:=first|omega|exact zE rfl|exact zO|exact zL rfl) [c84_o5,zG,q]
     refine zCh ?_
     simp (disch:=first|omega|exact zE rfl|exact zO|exact zL rfl) [zG,q]
     refine W.seq (W.block ?_)
     refine zCh ?_
     simp (disch:=first|omega|exact zE rfl|exact zO|exact zL rfl) [c84_o6,zG,q,gy1,e1,e1',lg]
     refine zCh ?_
     simp (disch:=first|omega|exact zE rfl|exact zO|exact zL rfl) [-act,c84_o7,zG,q,act_move,act_bin,act_build,act_ext,act_lkA,lk,l1,fillA,AV.cells]
     refine zCh ?_
     simp (disch:=first|omega|exact zE rfl|exact zO|exact zL rfl) [c84_o8,zG,q,cc]
     refine W.chunk ?_
     simp (disch:=first|omega|exact zE rfl|exact zO|exact zL rfl) [c84_o9,zG,q]
     refine W.chunk ?_
     simp (disch:=first|omega|exact zE rfl|exact zO|exact zL rfl) [c84_o10,zG,q]
     exact kR _ _ (by simp [T.get,q])
    ·rw [stO_le hc cc]
     rw [a2]
     simp only [Option.isSome_some]
     refine Tr.w fun s1 H1 hp _ kR => W.trim ?_
     obtain ⟨rfl,q⟩:=hp
     refine zCh ?_
     simp (disch:=first|omega|exact zE rfl|exact zO|exact zL rfl) [c84_o5,zG,q]
     refine zCh ?_
     simp (disch:=first|omega|exact zE rfl|exact zO|exact zL rfl) [zG,q]
     refine W.seq (W.block ?_)
     refine zCh ?_
     simp (disch:=first|omega|exact zE rfl|exact zO|exact zL rfl) [c84_o6,zG,q,gy1,e1,e1',lg]
     refine zCh ?_
     simp (disch:=first|omega|exact zE rfl|exact zO|exact zL rfl) [-act,c84_o7,zG,q,act_move,act_bin,act_build,act_ext,act_lkA,lk,l1,fillA,AV.cells]
     refine zCh ?_
     simp (disch:=first|omega|exact zE rfl|exact zO|exact zL rfl) [c84_o8,zG,q,cc]
     refine W.chunk ?_
     simp (disch:=first|omega|exact zE rfl|exact zO|exact zL rfl) [c84_o9,zG,q]
     refine W.chunk ?_
     simp (disch:=first|omega|exact zE rfl|exact zO|exact zL rfl) [c84_o10,zG,q]
     exact kR _ _ (by simp [T.get,q])
 ·rw [tk]
  clear hg ry gy
  generalize acB (bO g none L) = ab at *
  generalize (bO g none L).isSome = ai at *
  generalize L.length = nL at *
  refine Tr.w fun s1 H1 hp _ kR => W.trim ?_
  obtain ⟨rfl,q⟩:=hp
  refine zCh ?_
  simp (disch:=first|omega|exact zE rfl|exact zO|exact zL rfl) [c84_o5,zG,q]
  refine zCh ?_
  simp (disch:=first|omega|exact zE rfl|exact zO|exact zL rfl) [zG,q]
  exact kR _ _ (by simp [T.get,q])
def betV (S : List (List Nat)) (u : Nat → Nat → Int) (j : Nat) : Nat → AV
 | 0 => .tup [G 0,.bool true]
 | l + 1 => .tup [G (acB (bO (gv S u l) none (S.getD j []))),.bool (bO (gv S u l) none (S.getD j [])).isSome]
theorem c84_ok (J : CallF) (hJ : ∀ a h,J 84 a h = none) (h : Heap) {u : Nat → Nat → Int} (lf : LF h p S) (os : OkS S) (hj : j < S.length) (gM : h.get mb = .map (enc M)) (l40 : l ≤ 40) (hg : ∀ l',l = l' + 1 → ∀ k ∈ S.getD j [],mF M k l' = gv S u l' k) : CallsTo tbl J 84 [.ptr p 0 3,.map mb,G j,G l] h (betV S u j l,[],false):=by
 refine Tr.fnv (cf:=c84) (e:=.ret) (s:=T.set (T.set (T.set (T.set .leaf [] (.ptr p 0 3)) [false] (.map mb)) [true] (G j)) [false,false] (G l)) (by decide) rfl (hJ _ _) rfl rfl (by cases l <;> rfl) (by simp) ?_
 have gF : (frameOf h).get mb = .map (enc M):=by
  unfold frameOf
  rw [get_mk_lt _ _ _ _ (get_lt gM (by simp))]; exact gM
 have at' : ∀ {b : Nat} {o : AObj},h.get b = o → o ≠ .hole → (frameOf h).get b = o:=fun g hx => by
  unfold frameOf
  rw [get_mk_lt _ _ _ _ (get_lt g hx)]; exact g
 obtain ⟨x0,m0,nb,rs,f1,_,f2,f3⟩:=lf
 have f1:=at' f1 (by simp)
 have f2:=at' f2 (by simp)
 obtain ⟨y,ey,ry⟩:=f3 j hj
 have ry:=ry.frame
 have ey':=getI ey
 have lrs:=(List.getElem?_eq_some_iff.1 ey).1
 cases l with
 | zero =>
  refine Tr.post (Q:=(fun s h => s.get [true,false,false] = G 0 ∧ s.get [false,true,false] = .bool true)) (fun s h q => by simp [c84,q,betV]) ?_
  clear hg f3 ry gF
  generalize frameOf h = H0 at *
  refine Tr.w fun s1 H1 hp _ kR => ?_
  obtain ⟨rfl,rfl⟩:=hp
  have q : True:=trivial
  refine zCh ?_
  simp (disch:=first|omega|exact zE rfl|exact zO|exact zL rfl) [c84_o0,zG,q]
  refine W.assoc ?_
  refine zCh ?_
  simp (disch:=first|omega|exact zE rfl|exact zO|exact zL rfl) [c84_o1,zG,q]
  refine zCh ?_
  simp (disch:=first|omega|exact zE rfl|exact zO|exact zL rfl) [c84_o2,zG,q]
  exact kR _ _ (by simp [T.get])
 | succ l =>
  have l0:=c84_l0_ok (g:=gv S u l) J gF (hg l rfl) ry (os.len j) (by omega)
  have bV : betV S u j (l + 1) = .tup [G (acB (bO (gv S u l) none (S.getD j []))),.bool (bO (gv S u l) none (S.getD j [])).isSome]:=rfl
  rw [bV]
  have sy:=ry.sl
  rw [gn_len] at sy
  have hS:=os.n
  refine Tr.post (Q:=(fun s h => s.get [true,false,false] = G (acB (bO (gv S u l) none (S.getD j []))) ∧ s.get [false,true,false] = .bool (bO (gv S u l) none (S.getD j [])).isSome)) (fun s h q => by simp [c84,q]) ?_
  have l1 : ((l + 1 : Nat) : Int) = (l : Int) + 1:=by omega
  rw [l1]
  have l2 : ¬ (l : Int) + 1 = 0:=by omega
  clear hg f3 ry gF bV
  generalize acB (bO (gv S u l) none (S.getD j [])) = ab at *
  generalize (bO (gv S u l) none (S.getD j [])).isSome = ai at *
  generalize (S.getD j []).length = nL at *
  generalize hnn : S.length = n at *
  generalize frameOf h = H0 at *
  rcases sy with ⟨rfl,rfl⟩ | ⟨b,v,rfl⟩
  all_goals
   refine Tr.w fun s1 H1 hp _ kR => ?_
   obtain ⟨rfl,rfl⟩:=hp
   have q : True:=trivial
   refine zCh ?_
   simp (disch:=first|omega|exact zE rfl|exact zO|exact zL rfl) [c84_o0,zG,q]
   refine W.assoc ?_
   refine zCh ?_
   simp (disch:=first|omega|exact zE rfl|exact zO|exact zL rfl) [c84_o1,zG,q,l2]
   refine zCh ?_
   simp (disch:=first|omega|exact zE rfl|exact zO|exact zL rfl) [c84_o2,zG,q]
   refine zCh ?_
   simp (disch:=first|omega|exact zE rfl|exact zO|exact zL rfl) [c84_o3,zG,q]
   refine W.assoc ?_
   refine zCh ?_
   simp (disch:=first|omega|exact zE rfl|exact zO|exact zL rfl) [c84_o4,zG,q,f1,f2,ey,ey']
   refine W.seq (W.block ?_)
   refine W.use (l0) (by simp (disch:=first|omega|exact zE rfl|exact zO|exact zL rfl) [zG,q]) fun s1 H1 hp => ?_
   obtain ⟨rfl,q⟩:=hp
   try simp only [zW,if_true]
   refine zCh ?_
   simp (disch:=first|omega|exact zE rfl|exact zO|exact zL rfl) [c84_o11,zG,q]
   refine W.ret ?_
   try simp only [zW,if_true]
   exact kR _ _ (by simp [T.get,q])
end
structure A84 where
 S : List (List Nat)
 u : Nat → Nat → Int
 p : Nat
 mb : Nat
 j : Nat
 l : Nat
 M : List (Nat × Nat × Int)
def Ok84 (b : A84) (h : Heap) : Prop:=LF h b.p b.S ∧ OkS b.S ∧ b.j < b.S.length ∧ h.get b.mb = .map (enc b.M) ∧ b.l ≤ 40 ∧ ∀ l',b.l = l' + 1 → ∀ k ∈ b.S.getD b.j [],mF b.M k l' = gv b.S b.u l' k
def Pre84 (b : A84) (args : List AV) (h : Heap) : Prop:=Ok84 b h ∧ args = [.ptr b.p 0 3,.map b.mb,G b.j,G b.l]
def Post84 (b : A84) (h : Heap) (v : AV) (own : List AObj) : Prop:=v = betV b.S b.u b.j b.l ∧ own = []
noncomputable def U84 : CallF:=addK tbl noIntr 84 Pre84 Post84
theorem u84 : Sound Go.Proofs.Try.prog U84:=Sound.addK follows ok Sound.empty (by decide) _ _
abbrev K84 (J : CallF) : Prop:=∀ (h : Heap) (b : A84),Ok84 b h → J 84 [.ptr b.p 0 3,.map b.mb,G b.j,G b.l] h = some (betV b.S b.u b.j b.l,[],false)
theorem k84u : K84 U84:=fun h b o => by
 obtain ⟨v,own,e,rfl,rfl⟩:=addK_some (Pre:=Pre84) (Post:=Post84) (fun b args h hp => by
  obtain ⟨⟨h1,h2,h3,h4,h5,h6⟩,rfl⟩:=hp
  exact ⟨_,_,c84_ok noIntr (fun _ _ => rfl) h h1 h2 h3 h4 h5 h6,rfl,rfl⟩) b _ h ⟨o,rfl⟩
 exact e
def WN (h : Heap) (x : AV) (N m q : Nat) (Wt : List (List (List Int))) : Prop:=∃ b v cs,x = .slice b 0 N v ∧ h.get b = .cells 1 v cs ∧ cs.length = N ∧ ∀ i,i < N → ∃ y,cs[i]? = some y ∧ TRw h y m q (Wt.getD i [])
theorem TRw.kpm {h h' : Heap} {x : AV} {m q bm : Nat} {M : List (List Int)} {es : List (AV × AV)} (t : TRw h x m q M) (g : h.get bm = .map es) (k : Kp (fun i => i = bm) h h') : TRw h' x m q M:=by
 have nn : ∀ {b s n cs},h.get b = .cells s n cs → ¬ b = bm:=fun e q => by rw [q,g] at e; cases e
 obtain ⟨b,v,cs,e,g1,l,r⟩:=t
 exact ⟨b,v,cs,e,k.at g1 (by simp) (nn g1),l,fun i hi => by obtain ⟨rb,rv,e1,e2,e3⟩:=r i hi; exact ⟨rb,rv,e1,k.at e2 (by simp) (nn e2),e3⟩⟩
theorem WN.kpm {h h' : Heap} {x : AV} {N m q bm : Nat} {Wt : List (List (List Int))} {es : List (AV × AV)} (t : WN h x N m q Wt) (g : h.get bm = .map es) (k : Kp (fun i => i = bm) h h') : WN h' x N m q Wt:=by
 have nn : ∀ {b s n cs},h.get b = .cells s n cs → ¬ b = bm:=fun e q => by rw [q,g] at e; cases e
 obtain ⟨b,v,cs,e,g1,l,r⟩:=t
 exact ⟨b,v,cs,e,k.at g1 (by simp) (nn g1),l,fun i hi => by obtain ⟨y,e1,e2⟩:=r i hi; exact ⟨y,e1,e2.kpm g k⟩⟩
theorem WN.kp {h h' : Heap} {x : AV} {N m q : Nat} {Wt : List (List (List Int))} (t : WN h x N m q Wt) (k : Kp (fun _ => False) h h') : WN h' x N m q Wt:=by
 obtain ⟨b,v,cs,e,g1,l,r⟩:=t
 exact ⟨b,v,cs,e,k.at g1 (by simp) id,l,fun i hi => by obtain ⟨y,e1,e2⟩:=r i hi; exact ⟨y,e1,e2.kp k⟩⟩
def uW (Wt : List (List (List Int))) (R : List (List Nat)) (N m : Nat) (l c : Nat) : Int:=rvA (Wt.getD (N - 1 - l) []) (R.getD c []) m
def SmA (N m q : Nat) (Wt : List (List (List Int))) : Prop:=∀ i,i < N → SmW m q (Wt.getD i [])
def RwA (R : List (List Nat)) (m q : Nat) : Prop:=∀ w ∈ R,w.length = m ∧ ∀ c ∈ w,c < q
theorem RwA.at {R : List (List Nat)} {m q c : Nat} (r : RwA R m q) (hc : c < R.length) : (R.getD c []).length = m ∧ ∀ x ∈ R.getD c [],x < q:=by
 rw [List.getD_eq_getElem?_getD,List.getElem?_eq_getElem hc]
 exact r _ (List.getElem_mem hc)
section
variable {S : List (List Nat)} {R : List (List Nat)} {Wt : List (List (List Int))} {N m q p mb bx vx n : Nat}
def uZ (Wt : List (List (List Int))) (R : List (List Nat)) (N m : Nat) (l c : Nat) : Int:=if l < N ∧ c < R.length then uW Wt R N m l c else 0
theorem uZ_bd (sm : SmA N m q Wt) (ra : RwA R m q) (m5 : m ≤ 5) (l c : Nat) : -5000 ≤ uZ Wt R N m l c ∧ uZ Wt R N m l c ≤ 5000:=by
 unfold uZ
 split
 ·rename_i h
  obtain ⟨h1,h2⟩:=ra.at h.2
  have:=rvA_bd (sm (N - 1 - l) (by omega)) h2 h1 m (Nat.le_refl _)
  unfold uW
  omega
 ·omega
theorem bet_gv (u : Nat → Nat → Int) (t j : Nat) : ∃ bst fnd,betV S u j t = .tup [G bst,.bool fnd] ∧ ((fnd = true ∧ gv S u t j = some (bst + u t j)) ∨ (fnd = false ∧ gv S u t j = none)):=by
 cases t with
 | zero => exact ⟨0,true,rfl,.inl ⟨rfl,by show some (u 0 j) = some (0 + u 0 j); rw [Int.zero_add]⟩⟩
 | succ l =>
  refine ⟨_,_,rfl,?_⟩
  have e : gv S u (l + 1) j = (bO (gv S u l) none (S.getD j [])).map fun p => p.2 + u (l + 1) j:=rfl
  rw [e]
  cases bO (gv S u l) none (S.getD j []) with
  | none => exact .inr ⟨rfl,rfl⟩
  | some pr => exact .inl ⟨rfl,rfl⟩
def KM (S : List (List Nat)) (u : Nat → Nat → Int) (M : List (Nat × Nat × Int)) (t j : Nat) : Prop:=∀ j',j' < S.length → ∀ l,mF M j' l = if l < t ∨ (l = t ∧ j' < j) then gv S u l j' else none
def MBs (S : List (List Nat)) (u : Nat → Nat → Int) (mb : Nat) (Hb h : Heap) (t j : Nat) : Prop:=Kp (fun b => b = mb) Hb h ∧ ∃ M,h.get mb = .map (enc M) ∧ KM S u M t j
def B0 (Hb : Heap) (S : List (List Nat)) (u : Nat → Nat → Int) (x : AV) (p mb bx vx n N t j : Nat) : SP:=fun s h => MBs S u mb Hb h t j ∧ s.get [false] = x ∧ s.get [false,false,false] = .ptr p 0 3 ∧ s.get [true,false,false] = .map mb ∧ s.get [false,true,false] = G ((N : Int) - 1 - t) ∧ s.get [true,true,false] = G t ∧ s.get [false,true,false,true,true] = .slice bx 0 n vx ∧ s.get [true,true,false,true,true] = G n ∧ s.get [false,false,true,true,true] = G j
def B0q (Hb : Heap) (S : List (List Nat)) (u : Nat → Nat → Int) (x : AV) (p mb n N t : Nat) : SP:=fun s h => MBs S u mb Hb h t n ∧ s.get [false] = x ∧ s.get [false,false,false] = .ptr p 0 3 ∧ s.get [true,false,false] = .map mb ∧ s.get [false,true,false] = G ((N : Int) - 1 - t)
set_option maxHeartbeats 1000000 in
theorem c51_l0_ok (J : CallF) (k84 : K84 J) (k85 : K85 85 J) {Hb : Heap} {x : AV} {es0 : List (AV × AV)} (gm : Hb.get mb = .map es0) (hN : Hb.N ≤ mb) (lf : LF Hb p S) (os : OkS S) (hS : S.length = n) (gx : Hb.get bx = .cells 1 vx (wsL R)) (hR : R.length = n) (wn : WN Hb x N m q Wt) (sm : SmA N m q Wt) (ra : RwA R m q) (q3 : q ≤ 3) (m5 : m ≤ 5) (N40 : N ≤ 40) {t : Nat} (ht : t < N) :
  Tr tbl J c51_l0 (B0 Hb S (uZ Wt R N m) x p mb bx vx n N t 0) (.exit 2) (B0q Hb S (uZ Wt R N m) x p mb n N t):=by
 have n2:=os.n
 have nn : ∀ {b s n cs},Hb.get b = .cells s n cs → ¬ b = mb:=fun e q => by rw [q,gm] at e; cases e
 refine Tr.rounds (P:=B0 Hb S (uZ Wt R N m) x p mb bx vx n N t) (M:=n) (fun j hj => ?_) ?_ (by simp) 0 (by omega)
 ·refine Tr.w fun s1 H1 hp _ kR => W.trim ?_
  obtain ⟨⟨kp,M,gM,km⟩,q'⟩:=hp
  dsimp only [B0] at kR
  have lf1:=lf.kpm gm kp
  have gx1:=kp.at gx (by simp) (nn gx)
  have hg : ∀ l',t = l' + 1 → ∀ k ∈ S.getD j [],mF M k l' = gv S (uZ Wt R N m) l' k:=fun l' e k hk => by
   rw [km k (os.lt j k hk) l',if_pos (.inl (by omega))]
  have e84:=k84 H1 ⟨S,uZ Wt R N m,p,mb,j,t,M⟩ ⟨lf1,os,by rw [hS]; exact hj,gM,by show t ≤ 40; omega,hg⟩
  simp only at e84
  obtain ⟨bst,fnd,eb,hf⟩:=bet_gv (S:=S) (uZ Wt R N m) t j
  rw [eb] at e84
  have ew:=wsL_at (R:=R) (i:=j) (by omega)
  have ew':=getI ew
  have lw:=wsL_len R
  rw [hR] at lw
  have bdu:=uZ_bd (R:=R) sm ra m5 t j
  have j1 : ((j + 1 : Nat) : Int) = (j : Int) + 1:=by omega
  rw [j1] at kR
  rcases hf with ⟨rfl,hv⟩ | ⟨rfl,hv⟩
  ·obtain ⟨b,v,cs,rfl,gw,lc,hr⟩:=wn.kpm gm kp
   obtain ⟨y,ey,ty⟩:=hr (N - 1 - t) (by omega)
   have ey':=getI ey
   obtain ⟨rl,rc⟩:=ra.at (c:=j) (by omega)
   have e85:=k85 H1 ⟨y,m,q,Wt.getD (N - 1 - t) [],R.getD j []⟩ ⟨ty,rc,rl,q3,by show m ≤ 1000; omega,sm _ (by omega)⟩
   simp only at e85
   have eu : uZ Wt R N m t j = rvA (Wt.getD (N - 1 - t) []) (R.getD j []) m:=by
    unfold uZ uW
    rw [if_pos ⟨ht,by omega⟩]
   rw [← eu] at e85
   have bdv:=((bs_gv (S:=S) (N:=40) (fun l _ i => uZ_bd (R:=R) sm ra m5 l i) (Nat.le_refl _) t (by omega) j).1 _ hv).2
   have ma:=mapA_at gM
   have upk:=put_encl j t (bst + uZ Wt R N m t j) M
   have hN1 : H1.N ≤ mb:=by rw [kp.N]; exact hN
   have f2:=mput_gen H1 mb (enc M) (enc (mP j t (bst + uZ Wt R N m t j) M)) hN1 gM
   have mb2 : MBs S (uZ Wt R N m) mb Hb (H1.upd mb (.map (enc (mP j t (bst + uZ Wt R N m t j) M)))) t (j + 1):=by
    refine ⟨kp.trans (Kp.upd H1 mb _ hN1 rfl),_,upd_same _ _ _ hN1 (get_lt gM (by simp)),fun j' hj' l => ?_⟩
    rw [mF_mP]
    by_cases c : j' = j ∧ l = t
    ·rw [if_pos c,if_pos (.inr ⟨c.2,by omega⟩),c.1,c.2,hv]
    ·rw [if_neg c,km j' hj' l]
     by_cases c2 : l < t ∨ (l = t ∧ j' < j)
     ·rw [if_pos c2,if_pos (by omega)]
     ·rw [if_neg c2,if_neg (by omega)]
   have iN : ((N : Int) - 1 - (t : Int)).toNat = N - 1 - t:=by omega
   have rw1 : (N : Int) - 1 - t = ((N - 1 - t : Nat) : Int):=by omega
   rw [rw1] at q' kR
   have i2 : N - 1 - t < N:=by omega
   clear lf1 hg hr ty hv km eb k84 k85 wn sm ra lf gM rl rc eu
   generalize enc (mP j t (bst + uZ Wt R N m t j) M) = es2 at *
   generalize enc M = es1 at *
   generalize N - 1 - t = ii at *
   generalize uZ Wt R N m t j = u0 at *
   generalize stW (R.getD j []) = w0 at *
   generalize wsL R = wl at *
   refine zCh ?_
   simp (disch:=first|omega|exact zE rfl|exact zO|exact zL rfl) [c51_o9,zG,q']
   refine zCh ?_
   simp (disch:=first|omega|exact zE rfl|exact zO|exact zL rfl) [zG,q']
   refine W.seq (W.block ?_)
   refine zCh ?_
   simp (disch:=first|omega|exact zE rfl|exact zO|exact zL rfl) [c51_o10,zG,q',gx1,ew,ew',lw]
   refine zCh ?_
   simp (disch:=first|omega|exact zE rfl|exact zO|exact zL rfl) [c51_o11,zG,q',e84]
   refine zCh ?_
   simp (disch:=first|omega|exact zE rfl|exact zO|exact zL rfl) [c51_o12,zG,q']
   refine W.cond (v:=true) (by simp (disch:=first|omega|exact zE rfl|exact zO|exact zL rfl) [zG,q']) ?_
   simp only [if_true,if_false,Bool.false_eq_true]
   refine W.chunk ?_
   simp (disch:=first|omega|exact zE rfl|exact zO|exact zL rfl) [c51_o13,zG,q',gw,ey,ey',lc,e85,fits2l,ma,upk,f2]
   refine W.chunk ?_
   simp (disch:=first|omega|exact zE rfl|exact zO|exact zL rfl) [c51_o14,zG,q']
   exact kR _ _ ⟨mb2,by simp [T.get,q']⟩
  ·have mb2 : MBs S (uZ Wt R N m) mb Hb H1 t (j + 1):=by
    refine ⟨kp,M,gM,fun j' hj' l => ?_⟩
    rw [km j' hj' l]
    by_cases c : j' = j ∧ l = t
    ·rw [if_neg (by omega),if_pos (.inr ⟨c.2,by omega⟩),c.1,c.2,hv]
    ·by_cases c2 : l < t ∨ (l = t ∧ j' < j)
     ·rw [if_pos c2,if_pos (by omega)]
     ·rw [if_neg c2,if_neg (by omega)]
   clear lf1 hg hv km eb k84 k85 wn sm ra lf gM
   generalize (N : Int) - 1 - t = ii at *
   generalize stW (R.getD j []) = w0 at *
   generalize wsL R = wl at *
   refine zCh ?_
   simp (disch:=first|omega|exact zE rfl|exact zO|exact zL rfl) [c51_o9,zG,q']
   refine zCh ?_
   simp (disch:=first|omega|exact zE rfl|exact zO|exact zL rfl) [zG,q']
   refine W.seq (W.block ?_)
   refine zCh ?_
   simp (disch:=first|omega|exact zE rfl|exact zO|exact zL rfl) [c51_o10,zG,q',gx1,ew,ew',lw]
   refine zCh ?_
   simp (disch:=first|omega|exact zE rfl|exact zO|exact zL rfl) [c51_o11,zG,q',e84]
   refine zCh ?_
   simp (disch:=first|omega|exact zE rfl|exact zO|exact zL rfl) [c51_o12,zG,q']
   refine W.cond (v:=false) (by simp (disch:=first|omega|exact zE rfl|exact zO|exact zL rfl) [zG,q']) ?_
   simp only [if_true,if_false,Bool.false_eq_true]
   refine W.skip ?_
   try simp only [zW,if_true]
   refine W.chunk ?_
   simp (disch:=first|omega|exact zE rfl|exact zO|exact zL rfl) [c51_o14,zG,q']
   exact kR _ _ ⟨mb2,by simp [T.get,q']⟩
 ·refine Tr.w fun s1 H1 hp _ kR => W.trim ?_
  obtain ⟨mbs,q'⟩:=hp
  dsimp only [B0q] at kR
  clear k84 k85 wn sm ra lf
  generalize (N : Int) - 1 - t = ii at *
  refine zCh ?_
  simp (disch:=first|omega|exact zE rfl|exact zO|exact zL rfl) [c51_o9,zG,q']
  refine zCh ?_
  simp (disch:=first|omega|exact zE rfl|exact zO|exact zL rfl) [zG,q']
  exact kR _ _ ⟨mbs,by simp [T.get,q']⟩
def B1 (Hb : Heap) (S : List (List Nat)) (u : Nat → Nat → Int) (x : AV) (p mb N t : Nat) : SP:=fun s h => MBs S u mb Hb h t 0 ∧ s.get [false] = x ∧ s.get [false,false,false] = .ptr p 0 3 ∧ s.get [true,false,false] = .map mb ∧ s.get [false,true,false] = G ((N : Int) - 1 - t)
def B1q (Hb : Heap) (S : List (List Nat)) (u : Nat → Nat → Int) (x : AV) (p mb N : Nat) : SP:=fun s h => MBs S u mb Hb h N 0 ∧ s.get [false] = x ∧ s.get [false,false,false] = .ptr p 0 3 ∧ s.get [true,false,false] = .map mb
theorem MBs.next {u : Nat → Nat → Int} {Hb h : Heap} {t : Nat} (x : MBs S u mb Hb h t S.length) : MBs S u mb Hb h (t + 1) 0:=by
 obtain ⟨kp,M,gM,km⟩:=x
 refine ⟨kp,M,gM,fun j' hj' l => ?_⟩
 rw [km j' hj' l]
 by_cases c2 : l < t ∨ (l = t ∧ j' < S.length)
 ·rw [if_pos c2,if_pos (by omega)]
 ·rw [if_neg c2,if_neg (by omega)]
theorem c51_l1_ok (J : CallF) (k84 : K84 J) (k85 : K85 85 J) {Hb : Heap} {b v mm nb : Nat} {es0 : List (AV × AV)} (gm : Hb.get mb = .map es0) (hN : Hb.N ≤ mb) (lf : LF Hb p S) (os : OkS S) (hS : S.length = n) (gp : Hb.get p = .cells 0 3 [.slice bx 0 n vx,.map mm,.slice nb 0 n n]) (gx : Hb.get bx = .cells 1 vx (wsL R)) (hR : R.length = n) (wn : WN Hb (.slice b 0 N v) N m q Wt) (sm : SmA N m q Wt) (ra : RwA R m q) (q3 : q ≤ 3) (m5 : m ≤ 5) (N40 : N ≤ 40) :
  Tr tbl J c51_l1 (B1 Hb S (uZ Wt R N m) (.slice b 0 N v) p mb N 0) (.exit 0) (B1q Hb S (uZ Wt R N m) (.slice b 0 N v) p mb N):=by
 have n2:=os.n
 have nn : ∀ {b s n cs},Hb.get b = .cells s n cs → ¬ b = mb:=fun e q => by rw [q,gm] at e; cases e
 refine Tr.rounds (P:=B1 Hb S (uZ Wt R N m) (.slice b 0 N v) p mb N) (M:=N) (fun t ht => ?_) ?_ (by simp) 0 (by omega)
 ·refine Tr.w fun s1 H1 hp _ kR => W.trim ?_
  obtain ⟨mbs,q'⟩:=hp
  dsimp only [B1] at kR
  have l0:=c51_l0_ok J k84 k85 gm hN lf os hS gx hR wn sm ra q3 m5 N40 ht
  unfold B0 B0q at l0
  have gp1:=mbs.1.at gp (by simp) (nn gp)
  have t1 : (N : Int) - 1 - ((t + 1 : Nat) : Int) = (N : Int) - 1 - (t : Int) - 1:=by omega
  rw [t1] at kR
  have ge : (0 : Int) ≤ (N : Int) - 1 - t:=by omega
  have bk : (N : Int) - 1 - ((N : Int) - 1 - t) = t:=by omega
  have post:=fun h (x : MBs S (uZ Wt R N m) mb Hb h t n) => MBs.next (by rw [hS]; exact x)
  clear k84 k85 wn sm ra lf
  have sml : (N : Int) - 1 - t ≤ 40:=by omega
  generalize (N : Int) - 1 - t = ii at *
  refine W.assoc ?_
  refine zCh ?_
  simp (disch:=first|omega|exact zE rfl|exact zO|exact zL rfl) [c51_o6,zG,q',ge]
  refine zCh ?_
  simp (disch:=first|omega|exact zE rfl|exact zO|exact zL rfl) [zG,q']
  refine W.seq (W.block ?_)
  refine zCh ?_
  simp (disch:=first|omega|exact zE rfl|exact zO|exact zL rfl) [c51_o7,zG,q',bk]
  refine zCh ?_
  simp (disch:=first|omega|exact zE rfl|exact zO|exact zL rfl) [c51_o8,zG,q',gp1]
  refine W.block ?_
  refine W.use (l0) (by simp (disch:=first|omega|exact zE rfl|exact zO|exact zL rfl) [zG,q',mbs]) fun s1 H1 hp => ?_
  obtain ⟨mbs2,q'⟩:=hp
  try simp only [zW,if_true]
  refine W.chunk ?_
  simp (disch:=first|omega|exact zE rfl|exact zO|exact zL rfl) [c51_o15,zG,q']
  exact kR _ _ ⟨post _ mbs2,by simp [T.get,q']⟩
 ·refine Tr.w fun s1 H1 hp _ kR => W.trim ?_
  obtain ⟨mbs,q'⟩:=hp
  dsimp only [B1q] at kR
  clear k84 k85 wn sm ra lf
  have t1 : (N : Int) - 1 - (N : Int) = -1:=by omega
  rw [t1] at q'
  refine W.assoc ?_
  refine zCh ?_
  simp (disch:=first|omega|exact zE rfl|exact zO|exact zL rfl) [c51_o6,zG,q']
  refine zCh ?_
  simp (disch:=first|omega|exact zE rfl|exact zO|exact zL rfl) [zG,q']
  exact kR _ _ ⟨mbs,by simp [T.get,q']⟩
end
def flR (n i : Nat) : List AV:=gn (List.range i) ++ List.replicate (n - i) (G 0)
theorem flR_len {n i : Nat} (h : i ≤ n) : (flR n i).length = n:=by
 unfold flR
 rw [List.length_append,gn_len,List.length_range,List.length_replicate]; omega
theorem flR_set {n i : Nat} (h : i < n) : (flR n i).set i (G i) = flR n (i + 1):=by
 unfold flR
 have e : n - i = (n - (i + 1)) + 1:=by omega
 rw [e,List.replicate_succ,List.set_append_right _ _ (by rw [gn_len,List.length_range]; omega),gn_len,List.length_range,Nat.sub_self,List.set_cons_zero,gn_range,List.append_assoc]; rfl
theorem flR_0 (n : Nat) : flR n 0 = List.replicate n (G 0):=rfl
theorem flR_n (n : Nat) : flR n n = gn (List.range n):=by unfold flR; rw [Nat.sub_self]; exact List.append_nil _
section
variable {S : List (List Nat)} {R : List (List Nat)} {p mb n N : Nat}
theorem c51_l2_ok (J : CallF) {Hc : Heap} {x : AV} {br : Nat} (hb : Hc.size ≤ br) (hN : Hc.N ≤ br) (n2 : n ≤ 1000) :
  Tr tbl J c51_l2 (fun s h => (Kp (fun _ => False) Hc h ∧ h.get br = .cells 1 n (flR n 0)) ∧ s.get [false] = x ∧ s.get [false,false,false] = .ptr p 0 3 ∧ s.get [true,false,false] = .map mb ∧ s.get [false,false,false,false] = .nils ∧ s.get [true,false,false,false] = .slice br 0 n n ∧ s.get [false,true,true,true,true,false] = G n ∧ s.get [true,true,true,true,true,false] = G ((0 : Nat) : Int)) (.exit 4)
   (fun s h => (Kp (fun _ => False) Hc h ∧ h.get br = .cells 1 n (flR n n)) ∧ s.get [false] = x ∧ s.get [false,false,false] = .ptr p 0 3 ∧ s.get [true,false,false] = .map mb ∧ s.get [false,false,false,false] = .nils ∧ s.get [true,false,false,false] = .slice br 0 n n):=by
 refine Tr.rounds (P:=fun i s h => (Kp (fun _ => False) Hc h ∧ h.get br = .cells 1 n (flR n i)) ∧ s.get [false] = x ∧ s.get [false,false,false] = .ptr p 0 3 ∧ s.get [true,false,false] = .map mb ∧ s.get [false,false,false,false] = .nils ∧ s.get [true,false,false,false] = .slice br 0 n n ∧ s.get [false,true,true,true,true,false] = G n ∧ s.get [true,true,true,true,true,false] = G i) (M:=n) (fun i hi => ?_) ?_ (by simp) 0 (by omega)
 ·refine Tr.w fun s1 H1 hp _ kR => W.trim ?_
  obtain ⟨⟨kp,g⟩,q⟩:=hp
  have hN1 : H1.N ≤ br:=by rw [kp.N]; exact hN
  have lf:=flR_len (n:=n) (i:=i) (by omega)
  have pt:=put_gen H1 br n i 1 _ [G i] hN1 g (by rw [lf]; show i + 1 ≤ n; omega)
  have e : putAt (flR n i) i [G i] = flR n (i + 1):=flR_set hi
  rw [e] at pt
  have k2:=kp.updn br (.cells 1 n (flR n (i + 1))) hN1 hb
  have g2:=upd_same H1 br (.cells 1 n (flR n (i + 1))) hN1 (get_lt g (by simp))
  have i1 : ((i + 1 : Nat) : Int) = (i : Int) + 1:=by omega
  rw [i1] at kR
  generalize flR n (i + 1) = f2 at *
  generalize flR n i = f1 at *
  refine zCh ?_
  simp (disch:=first|omega|exact zE rfl|exact zO|exact zL rfl) [c51_o19,zG,q]
  refine zCh ?_
  simp (disch:=first|omega|exact zE rfl|exact zO|exact zL rfl) [zG,q]
  refine W.seq (W.block ?_)
  refine zCh ?_
  simp (disch:=first|omega|exact zE rfl|exact zO|exact zL rfl) [c51_o20,zG,q]
  refine W.chunk ?_
  simp (disch:=first|omega|exact zE rfl|exact zO|exact zL rfl) [c51_o21,zG,q,g,lf,pt]
  refine W.chunk ?_
  simp (disch:=first|omega|exact zE rfl|exact zO|exact zL rfl) [c51_o22,zG,q]
  exact kR _ _ ⟨⟨k2,g2⟩,by simp [T.get,q]⟩
 ·refine Tr.w fun s1 H1 hp _ kR => W.trim ?_
  obtain ⟨⟨kp,g⟩,q⟩:=hp
  generalize flR n n = f1 at *
  refine zCh ?_
  simp (disch:=first|omega|exact zE rfl|exact zO|exact zL rfl) [c51_o19,zG,q]
  refine zCh ?_
  simp (disch:=first|omega|exact zE rfl|exact zO|exact zL rfl) [zG,q]
  exact kR _ _ ⟨⟨kp,g⟩,by simp [T.get,q]⟩
def bxO (l : Nat) : Option (Nat × Int) → List AV
 | none => [G (-1),G 0]
 | some pr => [G (pr.1 : Nat),G l]
theorem bO_at {g : Nat → Option Int} {L : List Nat} {a : Nat} {b : Int} (h : bO g none L = some (a,b)) : a ∈ L ∧ g a = some b:=by
 obtain ⟨A,B,e1,e2,_⟩:=bO_mem h
 exact ⟨by rw [e1]; simp,e2⟩
theorem eq_no (a l : Nat) : eqAgg [.i .i64,.i .i64] (.agg [G (a : Nat),G (l : Nat)]) (.agg [G (-1),G 0]) = some false:=by
 have : ((((a : Nat) : Int)) == (-1 : Int)) = false:=by simp
 simp [eqAgg,fits,LK.fits,allEq,aveq,this]
theorem eq_yes : eqAgg [.i .i64,.i .i64] (.agg [G (-1),G 0]) (.agg [G (-1),G 0]) = some true:=by
 simp [eqAgg,fits,LK.fits,allEq,aveq]
set_option maxHeartbeats 1000000 in
theorem c51_l3_ok (J : CallF) {Hp : Heap} {b v pb l i : Nat} {z sm : AV} {M : List (Nat × Nat × Int)} {g : Nat → Option Int} {y : AV} {L : List Nat} (gM : Hp.get mb = .map (enc M)) (hg : ∀ k ∈ L,mF M k l = g k) (ry : RV Hp y (gn L)) (lL : L.length ≤ 1000) (hl : l = N - 1 - i) (hi : i < N) (N40 : N ≤ 40) (hpb : Hp.get pb = .cells 0 2 [G (-1),G 0]) (hN : Hp.N ≤ pb) (ny : blk y ≠ some pb) :
  Tr tbl J c51_l3 (fun s h => h = Hp ∧ s.get [false] = .slice b 0 N v ∧ s.get [false,false,false] = .ptr p 0 3 ∧ s.get [true,false,false] = .map mb ∧ s.get [false,false,false,false] = z ∧ s.get [true,true,false,false] = sm ∧ s.get [false,false,true,false] = G i ∧ s.get [true,false,true,false] = .ptr pb 0 2 ∧ s.get [false,false,false,true,false,true] = G N ∧ s.get [true,false,false,true,false,true] = G i ∧ s.get [true,false,true,true,false,true] = y ∧ s.get [false,true,true,true,false,true] = G L.length ∧ s.get [true,true,true,true,false,true] = G ((0 : Nat) : Int)) (.exit 8)
   (fun s h => (Kp (fun c => c = pb) Hp h ∧ h.get pb = .cells 0 2 (bxO l (bO g none L))) ∧ s.get [false] = .slice b 0 N v ∧ s.get [false,false,false] = .ptr p 0 3 ∧ s.get [true,false,false] = .map mb ∧ s.get [false,false,false,false] = z ∧ s.get [true,true,false,false] = sm ∧ s.get [false,false,true,false] = G i ∧ s.get [true,false,true,false] = .ptr pb 0 2 ∧ s.get [false,false,false,true,false,true] = G N ∧ s.get [true,false,false,true,false,true] = G i):=by
 have lg:=gn_len L
 have tk : L.take L.length = L:=List.take_length
 have nM : ¬ mb = pb:=fun e => by rw [e,hpb] at gM; cases gM
 have rl : (N : Int) - 1 - (i : Int) = (l : Nat):=by omega
 have lN : l < N:=by omega
 refine Tr.pre (P:=fun s h => (Kp (fun c => c = pb) Hp h ∧ h.get pb = .cells 0 2 (bxO l (bO g none (L.take 0)))) ∧ s.get [false] = .slice b 0 N v ∧ s.get [false,false,false] = .ptr p 0 3 ∧ s.get [true,false,false] = .map mb ∧ s.get [false,false,false,false] = z ∧ s.get [true,true,false,false] = sm ∧ s.get [false,false,true,false] = G i ∧ s.get [true,false,true,false] = .ptr pb 0 2 ∧ s.get [false,false,false,true,false,true] = G N ∧ s.get [true,false,false,true,false,true] = G i ∧ s.get [true,false,true,true,false,true] = y ∧ s.get [false,true,true,true,false,true] = G L.length ∧ s.get [true,true,true,true,false,true] = G ((0 : Nat) : Int)) (fun s h ⟨h0,q⟩ => ⟨by rw [h0]; exact ⟨Kp.refl _,hpb⟩,q⟩) ?_
 refine Tr.rounds (P:=fun t s h => (Kp (fun c => c = pb) Hp h ∧ h.get pb = .cells 0 2 (bxO l (bO g none (L.take t)))) ∧ s.get [false] = .slice b 0 N v ∧ s.get [false,false,false] = .ptr p 0 3 ∧ s.get [true,false,false] = .map mb ∧ s.get [false,false,false,false] = z ∧ s.get [true,true,false,false] = sm ∧ s.get [false,false,true,false] = G i ∧ s.get [true,false,true,false] = .ptr pb 0 2 ∧ s.get [false,false,false,true,false,true] = G N ∧ s.get [true,false,false,true,false,true] = G i ∧ s.get [true,false,true,true,false,true] = y ∧ s.get [false,true,true,true,false,true] = G L.length ∧ s.get [true,true,true,true,false,true] = G t) (M:=L.length) (fun t ht => ?_) ?_ (by simp) 0 (by omega)
 ·refine Tr.w fun s1 H1 hp _ kR => W.trim ?_
  obtain ⟨⟨kp,gb⟩,q⟩:=hp
  obtain ⟨by',vy,rfl,gy0⟩ : ∃ b v,y = .slice b 0 L.length v ∧ Hp.get b = .cells 1 v (gn L):=by
   rcases ry with ⟨_,e⟩ | ⟨b,v,e,g⟩
   ·have : (gn L).length = 0:=by rw [e]; rfl
    rw [lg] at this; omega
   ·rw [lg] at e; exact ⟨b,v,e,g⟩
  have gy:=kp.at gy0 (by simp) (fun e => ny (by rw [← e]; rfl))
  have e1:=gn_at ht
  have e1':=getI e1
  have hk:=hg _ (gD_mem ht)
  have st : bO g none (L.take (t + 1)) = stO g (bO g none (L.take t)) (L.getD t 0):=by
   have : L.take (t + 1) = L.take t ++ [L.getD t 0]:=by
    rw [List.take_add_one,List.getElem?_eq_getElem ht,List.getD_eq_getElem?_getD,List.getElem?_eq_getElem ht]; rfl
   rw [this,bO_app]; rfl
  rw [st] at kR
  have gM1:=kp.at gM (by simp) nM
  have k1 : ((t + 1 : Nat) : Int) = (t : Int) + 1:=by omega
  rw [k1] at kR
  obtain ⟨H2,hH2⟩ : ∃ H,H1.plus [.cells 0 2 [G (L.getD t 0 : Nat),G (l : Nat)]] = H:=⟨_,rfl⟩
  have k2 : Kp (fun _ => False) H1 H2:=by rw [← hH2]; exact Kp.plus _ _
  have gk : H2.get H1.size = .cells 0 2 [G (L.getD t 0 : Nat),G (l : Nat)]:=by rw [← hH2]; exact plus_at0 _ _ _ _ rfl
  have gb2:=k2.at gb (by simp) id
  have gM2:=k2.at gM1 (by simp) id
  have kp2 : Kp (fun c => c = pb) Hp H2:=kp.trans (k2.mono fun _ _ h => h.elim)
  have hN2 : H2.N ≤ pb:=by rw [kp2.N]; exact hN
  have acA : ∀ a b',bO g none (L.take t) = some (a,b') → mF M a l = some b':=fun a b' e => by
   obtain ⟨m1,m2⟩:=bO_at e
   rw [hg a (List.mem_of_mem_take m1),m2]
  have ma2:=mapA_at gM2
  have fE:=fun j l => find_encl j l M
  clear hg ry tk st gM gM1 kp k2 gy0
  generalize bO g none (L.take t) = acc at *
  generalize L.getD t 0 = c at *
  generalize gn L = cs at *
  generalize L.length = nL at *
  have fc:=fE c l
  cases hc : g c with
  | none =>
   rw [stO_none hc] at kR
   rw [hk,hc,Option.map_none] at fc
   clear acA
   generalize bxO l acc = bx at *
   generalize enc M = es at *
   refine zCh ?_
   simp (disch:=first|omega|exact zE rfl|exact zO|exact zL rfl) [c51_o29,zG,q]
   refine zCh ?_
   simp (disch:=first|omega|exact zE rfl|exact zO|exact zL rfl) [zG,q]
   refine W.seq (W.block ?_)
   refine zCh ?_
   simp (disch:=first|omega|exact zE rfl|exact zO|exact zL rfl) [c51_o30,zG,q,gy,e1,e1',lg]
   refine zCh ?_
   simp (disch:=first|omega|exact zE rfl|exact zO|exact zL rfl) [c51_o31,zG,q,rl,hH2]
   refine zCh ?_
   simp (disch:=first|omega|exact zE rfl|exact zO|exact zL rfl) [c51_o32,zG,q,gk,ma2,fits2l,fc]
   refine zCh ?_
   simp (disch:=first|omega|exact zE rfl|exact zO|exact zL rfl) [c51_o33,zG,q]
   refine W.chunk ?_
   simp (disch:=first|omega|exact zE rfl|exact zO|exact zL rfl) [c51_o34,zG,q]
   refine W.chunk ?_
   simp (disch:=first|omega|exact zE rfl|exact zO|exact zL rfl) [c51_o35,zG,q]
   exact kR _ _ ⟨⟨kp2,gb2⟩,by simp [T.get,q]⟩
  | some w =>
   rw [hk,hc,Option.map_some] at fc
   have fin : Kp (fun c => c = pb) Hp (H2.upd pb (.cells 0 2 [G (c : Nat),G (l : Nat)])) ∧ (H2.upd pb (.cells 0 2 [G (c : Nat),G (l : Nat)])).get pb = .cells 0 2 [G (c : Nat),G (l : Nat)]:=⟨kp2.trans (Kp.upd H2 pb _ hN2 rfl),upd_same _ _ _ hN2 (get_lt gb2 (by simp))⟩
   cases acc with
   | none =>
    rw [stO_new hc] at kR
    have pt:=put_gen H2 pb 2 0 0 _ [G (c : Nat),G (l : Nat)] hN2 gb2 (by simp [bxO])
    have e : putAt (bxO l none) 0 [G (c : Nat),G (l : Nat)] = [G (c : Nat),G (l : Nat)]:=rfl
    rw [e] at pt
    have b0 : bxO l none = [G (-1),G 0]:=rfl
    rw [b0] at gb2
    have b1 : bxO l (some (c,w)) = [G (c : Nat),G (l : Nat)]:=rfl
    rw [b1] at kR
    have ey:=eq_yes
    generalize enc M = es at *
    refine zCh ?_
    simp (disch:=first|omega|exact zE rfl|exact zO|exact zL rfl) [c51_o29,zG,q]
    refine zCh ?_
    simp (disch:=first|omega|exact zE rfl|exact zO|exact zL rfl) [zG,q]
    refine W.seq (W.block ?_)
    refine zCh ?_
    simp (disch:=first|omega|exact zE rfl|exact zO|exact zL rfl) [c51_o30,zG,q,gy,e1,e1',lg]
    refine zCh ?_
    simp (disch:=first|omega|exact zE rfl|exact zO|exact zL rfl) [c51_o31,zG,q,rl,hH2]
    refine zCh ?_
    simp (disch:=first|omega|exact zE rfl|exact zO|exact zL rfl) [c51_o32,zG,q,gk,ma2,fits2l,fc]
    refine zCh ?_
    simp (disch:=first|omega|exact zE rfl|exact zO|exact zL rfl) [c51_o33,zG,q,gb2,ey]
    refine W.cond (v:=true) (by simp (disch:=first|omega|exact zE rfl|exact zO|exact zL rfl) [zG,q]) ?_
    simp only [if_true,if_false,Bool.false_eq_true]
    refine W.chunk ?_
    simp (disch:=first|omega|exact zE rfl|exact zO|exact zL rfl) [c51_o34,zG,q,gk,pt]
    refine W.chunk ?_
    simp (disch:=first|omega|exact zE rfl|exact zO|exact zL rfl) [c51_o35,zG,q]
    exact kR _ _ ⟨fin,by simp [T.get,q]⟩
   | some pr =>
    obtain ⟨a,b'⟩:=pr
    have fa:=fE a l
    rw [acA a b' rfl,Option.map_some] at fa
    have ey:=eq_no a l
    have b0 : bxO l (some (a,b')) = [G (a : Nat),G (l : Nat)]:=rfl
    rw [b0] at gb2
    by_cases cc : b' < w
    ·rw [stO_gt hc cc] at kR
     have pt:=put_gen H2 pb 2 0 0 _ [G (c : Nat),G (l : Nat)] hN2 gb2 (by simp)
     have e : putAt [G (a : Nat),G (l : Nat)] 0 [G (c : Nat),G (l : Nat)] = [G (c : Nat),G (l : Nat)]:=rfl
     rw [e] at pt
     have b1 : bxO l (some (c,w)) = [G (c : Nat),G (l : Nat)]:=rfl
     rw [b1] at kR
     generalize enc M = es at *
     refine zCh ?_
     simp (disch:=first|omega|exact zE rfl|exact zO|exact zL rfl) [c51_o29,zG,q]
     refine zCh ?_
     simp (disch:=first|omega|exact zE rfl|exact zO|exact zL rfl) [zG,q]
     refine W.seq (W.block ?_)
     refine zCh ?_
     simp (disch:=first|omega|exact zE rfl|exact zO|exact zL rfl) [c51_o30,zG,q,gy,e1,e1',lg]
     refine zCh ?_
     simp (disch:=first|omega|exact zE rfl|exact zO|exact zL rfl) [c51_o31,zG,q,rl,hH2]
     refine zCh ?_
     simp (disch:=first|omega|exact zE rfl|exact zO|exact zL rfl) [c51_o32,zG,q,gk,ma2,fits2l,fc]
     refine zCh ?_
     simp (disch:=first|omega|exact zE rfl|exact zO|exact zL rfl) [c51_o33,zG,q,gb2,ey,ma2,fits2l,fa,cc]
     refine W.cond (v:=true) (by simp (disch:=first|omega|exact zE rfl|exact zO|exact zL rfl) [zG,q]) ?_
     simp only [if_true,if_false,Bool.false_eq_true]
     refine W.chunk ?_
     simp (disch:=first|omega|exact zE rfl|exact zO|exact zL rfl) [c51_o34,zG,q,gk,pt]
     refine W.chunk ?_
     simp (disch:=first|omega|exact zE rfl|exact zO|exact zL rfl) [c51_o35,zG,q]
     exact kR _ _ ⟨fin,by simp [T.get,q]⟩
    ·rw [stO_le hc cc,b0] at kR
     generalize enc M = es at *
     refine zCh ?_
     simp (disch:=first|omega|exact zE rfl|exact zO|exact zL rfl) [c51_o29,zG,q]
     refine zCh ?_
     simp (disch:=first|omega|exact zE rfl|exact zO|exact zL rfl) [zG,q]
     refine W.seq (W.block ?_)
     refine zCh ?_
     simp (disch:=first|omega|exact zE rfl|exact zO|exact zL rfl) [c51_o30,zG,q,gy,e1,e1',lg]
     refine zCh ?_
     simp (disch:=first|omega|exact zE rfl|exact zO|exact zL rfl) [c51_o31,zG,q,rl,hH2]
     refine zCh ?_
     simp (disch:=first|omega|exact zE rfl|exact zO|exact zL rfl) [c51_o32,zG,q,gk,ma2,fits2l,fc]
     refine zCh ?_
     simp (disch:=first|omega|exact zE rfl|exact zO|exact zL rfl) [c51_o33,zG,q,gb2,ey,ma2,fits2l,fa,cc]
     refine W.chunk ?_
     simp (disch:=first|omega|exact zE rfl|exact zO|exact zL rfl) [c51_o34,zG,q]
     refine W.chunk ?_
     simp (disch:=first|omega|exact zE rfl|exact zO|exact zL rfl) [c51_o35,zG,q]
     exact kR _ _ ⟨⟨kp2,gb2⟩,by simp [T.get,q]⟩
 ·refine Tr.w fun s1 H1 hp _ kR => W.trim ?_
  obtain ⟨⟨kp,gb⟩,q⟩:=hp
  rw [tk] at gb
  clear hg ry
  generalize L.length = nL at *
  refine zCh ?_
  simp (disch:=first|omega|exact zE rfl|exact zO|exact zL rfl) [c51_o29,zG,q]
  refine zCh ?_
  simp (disch:=first|omega|exact zE rfl|exact zO|exact zL rfl) [zG,q]
  exact kR _ _ ⟨⟨kp,gb⟩,by simp [T.get,q]⟩
end
theorem NV.kpb {H0 h h' : Heap} {x : AV} {L : List AV} {pb : Nat} (t : NV H0 h x L) (k : Kp (fun c => c = pb) h h') (h0 : H0.size ≤ pb) (ne : blk x ≠ some pb) : NV H0 h' x L:=by
 refine ⟨t.k.late k (fun q hq => by rw [hq]; exact h0),t.x0,?_⟩
 rcases t.l with l | ⟨b,e,g,hN⟩
 ·exact .inl l
 ·exact .inr ⟨b,e,k.at g (by simp) (fun q => ne (by rw [e,← q]; rfl)),by rw [k.N]; exact hN⟩
theorem NV.appE {H0 H : Heap} {x : AV} {L : List AV} (t : NV H0 H x L) (z : AV) (hn : (L.length + 1) * 16 ≤ 1099511627776) :
  ∃ x1 e H2,appA (H.plus [.cells 1 1 [z],.hole]) H.size (some 1) 1 16 1 [z] x = some (x1,e) ∧ Eff.app e (H.plus [.cells 1 1 [z],.hole]) = some H2 ∧ NV H0 H2 x1 (L ++ [z]) ∧ ((∃ i X,e = .fill i X) ∨ (∃ b v g vs,e = .ext b v g vs)) ∧ (∀ pb,pb < H.size → blk x ≠ some pb → H2.get pb = H.get pb):=by
 have kp : ∀ X,Kp (fun _ => False) H (H.plus X):=fun X => Kp.plus _ _
 rcases t.l with ⟨rfl,rfl⟩ | ⟨b,rfl,g,hN⟩
 ·refine ⟨.slice (H.size + 1) 0 1 1,.fill (H.size + 1) (.cells 1 1 [z]),H.plus [.cells 1 1 [z],.cells 1 1 [z]],rfl,fill_plus1 _ _ rfl _ _ _,⟨t.k.trans (kp _),fun q hq => ?_,.inr ⟨H.size + 1,rfl,?_,?_⟩⟩,.inl ⟨_,_,rfl⟩,fun pb hp _ => plus_lt _ _ _ hp⟩
  ·cases hq; have:=t.k.size; omega
  ·rw [plus_ge _ _ _ (by omega),show H.size + 1 - H.size = 1 by omega]; rfl
  ·show H.N ≤ H.size + 1; unfold Heap.size; omega
 ·have hlt:=get_lt g (by simp)
  have hb2 : (H.plus [.cells 1 1 [z],.hole]).get b = .cells 1 L.length L:=by rw [plus_lt _ _ _ hlt,g]
  have hN' : (H.plus [.cells 1 1 [z],.hole]).N ≤ b:=by rw [plus_N]; exact hN
  refine ⟨.slice b 0 (L.length + 1) (L.length + 1),.ext b L.length 1 [z],(H.plus [.cells 1 1 [z],.hole]).upd b (.cells 1 (L.length + 1) (L ++ [z])),?_,?_,⟨?_,fun q hq => t.x0 q hq,.inr ⟨b,by simp,?_,by rw [upd_N]; exact hN'⟩⟩,.inr ⟨_,_,_,_,rfl⟩,fun pb hp hq => ?_⟩
  ·simp only [appA,Nat.mul_one,Nat.one_mul]
   rw [if_neg (by decide),if_pos ⟨trivial,by simp,hn⟩]
  ·exact ext_gen _ b L.length 1 L [z] hN' hb2 rfl
  ·exact (t.k.trans (kp _)).late (Kp.upd (M:=fun q => q = b) _ _ _ hN' rfl) (fun q hq => by rw [hq]; exact t.x0 b rfl)
  ·rw [upd_same _ _ _ hN' (by rw [plus_size]; show b < H.size + 2; omega)]; simp
  ·rw [upd_ne _ _ _ _ hN' (fun e => hq (by rw [← e]; rfl)),plus_lt _ _ _ hp]
section
variable {S : List (List Nat)} {R : List (List Nat)} {u : Nat → Nat → Int} {p mb n N : Nat}
structure XB (S : List (List Nat)) (u : Nat → Nat → Int) (N : Nat) (s : Int) (i : Nat) (E done L : List Nat) : Prop where
 e : done ++ bP S u (N - i) L = E
 n : done.length = i
 l : L.length ≤ 1000
 lt : ∀ c ∈ L,c < S.length
 o : i < N → ∃ c w,bO (gv S u (N - 1 - i)) none L = some (c,w) ∧ (i = 0 → w = s)
theorem XB.next (os : OkS S) {s : Int} {i : Nat} {E done L : List Nat} (x : XB S u N s i E done L) (hi : i < N) {c : Nat} {w : Int} (hc : bO (gv S u (N - 1 - i)) none L = some (c,w)) : XB S u N s (i + 1) E (done ++ [c]) (S.getD c []):=by
 have cC : bC S u (N - 1 - i) L = c:=by unfold bC; rw [hc]; rfl
 have e:=x.e
 rw [show N - i = (N - 1 - i) + 1 by omega] at e
 have e2 : bP S u (N - 1 - i + 1) L = bC S u (N - 1 - i) L :: bP S u (N - 1 - i) (S.getD (bC S u (N - 1 - i) L) []):=rfl
 rw [e2,cC] at e
 refine ⟨?_,by rw [List.length_append,x.n]; rfl,os.len c,os.lt c,fun h => ?_⟩
 ·rw [show N - (i + 1) = N - 1 - i by omega,List.append_assoc]; exact e
 ·obtain ⟨_,_,h2,_⟩:=bO_mem hc
  have h2:=(bO_at hc).2
  rw [show N - 1 - i = (N - 1 - (i + 1)) + 1 by omega] at h2
  exact ⟨_,_,gv_next h2,fun e => by omega⟩
theorem c51_o40_ok (J : CallF) {H H4 : Heap} {x1 x8 z xz s18 s103 s104 : AV} {e : Eff} {bx vx mm nb pb c l : Nat} {w0 : List UInt8} {wl : List AV} (gp : H.get p = .cells 0 3 [.slice bx 0 n vx,.map mm,.slice nb 0 n n]) (gx : H.get bx = .cells 1 vx wl) (ew : wl[c]? = some (.str w0)) (lw : wl.length = n) (gb : H.get pb = .cells 0 2 [G (c : Nat),G (l : Nat)])
  (q1 : appA (H.plus [.cells 1 1 [.str w0],.hole]) H.size (some 1) 1 16 1 [.str w0] z = some (xz,e)) (q2 : Eff.app e (H.plus [.cells 1 1 [.str w0],.hole]) = some H4) (q3 : (∃ i X,e = .fill i X) ∨ (∃ b v g vs,e = .ext b v g vs)) :
  Tr tbl J c51_o40 (fun s h => h = H ∧ s.get [false] = x1 ∧ s.get [false,false,false] = .ptr p 0 3 ∧ s.get [true,false,false] = x8 ∧ s.get [false,false,false,false] = z ∧ s.get [true,true,false,false] = s18 ∧ s.get [true,false,true,false] = .ptr pb 0 2 ∧ s.get [false,false,false,true,false,true] = s103 ∧ s.get [true,false,false,true,false,true] = s104) .normal (fun s h => h = H4 ∧ s.get [false] = x1 ∧ s.get [false,false,false] = .ptr p 0 3 ∧ s.get [true,false,false] = x8 ∧ s.get [false,false,false,false] = xz ∧ s.get [true,true,false,false] = s18 ∧ s.get [true,false,true,false] = .ptr pb 0 2 ∧ s.get [false,false,false,true,false,true] = s103 ∧ s.get [true,false,false,true,false,true] = s104):=by
 have ew':=getI ew
 have hc : c < n:=by have:=(List.getElem?_eq_some_iff.1 ew).1; omega
 have f0:=fill_plus0 H H.size rfl (.cells 1 1 [.str w0]) [.hole]
 have pg : (H.plus [.cells 1 1 [.str w0],.hole]).get H.size = .cells 1 1 [.str w0]:=plus_at0 _ _ _ _ rfl
 have a1:=get_lt gp (by simp)
 have a2:=get_lt gx (by simp)
 have a3:=get_lt gb (by simp)
 have gp':=fun X => plus_keep X gp (by simp)
 have gx':=fun X => plus_keep X gx (by simp)
 have gb':=fun X => plus_keep X gb (by simp)
 rcases q3 with ⟨i',X',rfl⟩ | ⟨b',v',g',vs',rfl⟩
 all_goals
  refine Tr.w fun s1 H1 hp _ kR => ?_
  obtain ⟨rfl,q⟩:=hp
  refine W.chunk ?_
  simp (disch:=first|omega|exact zE rfl|exact zO|exact zL rfl) [-evDraw_c,c51_o40,zG,q,evDraw_k,gp',gx',gb',ew,ew',lw,f0,pg,elems,rdOf,q1,q2]
  refine kR _ _ ?_
  simp [T.get,q]
set_option maxHeartbeats 2000000 in
theorem c51_l4_ok (J : CallF) {Hc : Heap} {b v bx vx mm nb : Nat} {M : List (Nat × Nat × Int)} {rs : List AV} {s : Int} {E : List Nat} {y0 : AV} (gM : Hc.get mb = .map (enc M)) (km : ∀ j l,j < n → l < N → mF M j l = gv S u l j) (hS : S.length = n) (os : OkS S) (gp : Hc.get p = .cells 0 3 [.slice bx 0 n vx,.map mm,.slice nb 0 n n]) (gx : Hc.get bx = .cells 1 vx (wsL R)) (hR : R.length = n) (gN : Hc.get nb = .cells 1 n rs) (lrs0 : rs.length = n) (h4 : ∀ i,i < n → ∃ y,rs[i]? = some y ∧ RV Hc y (gn (S.getD i []))) (N1 : 1 ≤ N) (N40 : N ≤ 40) :
  Tr tbl J c51_l4 (fun t h => ∃ z y done L,(NV Hc h z (wsL (rT2 R done)) ∧ RV h y (gn L) ∧ XB S u N s 0 E done L) ∧ t.get [false] = .slice b 0 N v ∧ t.get [false,false,false] = .ptr p 0 3 ∧ t.get [true,false,false] = .map mb ∧ t.get [false,false,false,false] = z ∧ t.get [true,false,false,false] = y ∧ t.get [true,true,false,false] = G (if 0 = 0 then 0 else s) ∧ t.get [false,false,false,true,false,true] = G N ∧ t.get [true,false,false,true,false,true] = G ((0 : Nat) : Int)) (.exit 6)
   (fun t h => ∃ z,NV Hc h z (wsL (rT2 R E)) ∧ t.get [false,false,false,false] = z ∧ t.get [true,true,false,false] = G s):=by
 have n2:=os.n
 refine Tr.rounds (e:=.exit 6) (P:=fun i t h => ∃ z y done L,(NV Hc h z (wsL (rT2 R done)) ∧ RV h y (gn L) ∧ XB S u N s i E done L) ∧ t.get [false] = .slice b 0 N v ∧ t.get [false,false,false] = .ptr p 0 3 ∧ t.get [true,false,false] = .map mb ∧ t.get [false,false,false,false] = z ∧ t.get [true,false,false,false] = y ∧ t.get [true,true,false,false] = G (if i = 0 then 0 else s) ∧ t.get [false,false,false,true,false,true] = G N ∧ t.get [true,false,false,true,false,true] = G (i : Nat)) (M:=N) (fun i hi => ?_) ?_ (by simp) 0 (by omega)
 ·refine Tr.w fun s1 H1 hp _ kR => W.trim ?_
  obtain ⟨z,y,done,L,⟨nv,ry,xb⟩,q⟩:=hp
  obtain ⟨c,w,hc,hw⟩:=xb.o hi
  have xb2:=xb.next os hi hc
  obtain ⟨cm,hcv⟩:=bO_at hc
  have hcn : c < n:=by rw [← hS]; exact xb.lt c cm
  have k1:=nv.k
  obtain ⟨Hp,hHp⟩ : ∃ H,H1.plus [.cells 0 2 [G (-1),G 0]] = H:=⟨_,rfl⟩
  have kp : Kp (fun _ => False) H1 Hp:=by rw [← hHp]; exact Kp.plus _ _
  have gb : Hp.get H1.size = .cells 0 2 [G (-1),G 0]:=by rw [← hHp]; exact plus_at0 _ _ _ _ rfl
  have hNp : Hp.N ≤ H1.size:=by rw [kp.N]; unfold Heap.size; omega
  have ny : blk y ≠ some H1.size:=fun e => by
   rcases ry with ⟨rfl,_⟩ | ⟨b',v',rfl,g⟩
   ·cases e
   ·cases e
    have:=get_lt g (by simp)
    omega
  have nz : blk z ≠ some H1.size:=fun e => by
   rcases nv.l with ⟨rfl,_⟩ | ⟨b',rfl,g,_⟩
   ·cases e
   ·cases e
    have:=get_lt g (by simp)
    omega
  have l3:=c51_l3_ok (b:=b) (v:=v) (p:=p) (z:=z) (sm:=G (if i = 0 then 0 else s)) J (kp.at (k1.at gM (by simp) id) (by simp) id) (fun k hk => km k (N - 1 - i) (by rw [← hS]; exact xb.lt k hk) (by omega)) (ry.kp kp (fun _ _ => id)) xb.l rfl hi N40 gb hNp ny
  rw [hc] at l3
  have bxv : bxO (N - 1 - i) (some (c,w)) = [G (c : Nat),G (N - 1 - i : Nat)]:=rfl
  rw [bxv] at l3
  have lL:=xb.l
  have sy:=ry.sl
  rw [gn_len] at sy
  have post : ∀ H3,Kp (fun q => q = H1.size) Hp H3 ∧ H3.get H1.size = .cells 0 2 [G (c : Nat),G (N - 1 - i : Nat)] → Kp (fun _ => False) Hc H3 ∧ NV Hc H3 z (wsL (rT2 R done)) ∧ H3.get H1.size = .cells 0 2 [G (c : Nat),G (N - 1 - i : Nat)]:=fun H3 ⟨k3,g3⟩ => by
   have nv3:=(nv.kp kp).kpb k3 k1.size nz
   exact ⟨nv3.k,nv3,g3⟩
  have ew:=wsL_at (R:=R) (i:=c) (by omega)
  have ew':=getI ew
  have lw:=wsL_len R
  rw [hR] at lw
  obtain ⟨yc,ec,rc⟩:=h4 c hcn
  have ec':=getI ec
  have lrs:=(List.getElem?_eq_some_iff.1 ec).1
  have fa:=find_encl c (N - 1 - i) M
  rw [km c (N - 1 - i) hcn (by omega),hcv,Option.map_some] at fa
  have ey:=eq_no c (N - 1 - i)
  have eew : wsL (rT2 R done) ++ [.str (stW (R.getD c []))] = wsL (rT2 R (done ++ [c])):=by
   unfold wsL
   rw [rT2_app,List.map_append]; rfl
  have apq : ∀ H3,NV Hc H3 z (wsL (rT2 R done)) → ∃ x1 e H4,appA (H3.plus [.cells 1 1 [.str (stW (R.getD c []))],.hole]) H3.size (some 1) 1 16 1 [.str (stW (R.getD c []))] z = some (x1,e) ∧ Eff.app e (H3.plus [.cells 1 1 [.str (stW (R.getD c []))],.hole]) = some H4 ∧ NV Hc H4 x1 (wsL (rT2 R (done ++ [c]))) ∧ ((∃ i X,e = .fill i X) ∨ (∃ b v g vs,e = .ext b v g vs)) ∧ (∀ pb,pb < H3.size → blk z ≠ some pb → H4.get pb = H3.get pb):=fun H3 nv3 => by
   have:=nv3.appE (.str (stW (R.getD c []))) (by rw [wsL_len,rT2_len,xb.n]; omega)
   rw [eew] at this
   exact this
  have i1 : ((i + 1 : Nat) : Int) = (i : Int) + 1:=by omega
  have iz : ¬ (i + 1 = 0):=by omega
  rw [if_neg iz,i1] at kR
  have lrs' : rs.length = n:=lrs0
  clear nv ry xb h4 hcv eew hc bxv
  generalize N - 1 - i = l at *
  have z0 : ((0 : Nat) : Int) = 0:=rfl
  rcases sy with ⟨rfl,e0⟩ | ⟨by',vy,rfl⟩
  ·have : L = []:=List.length_eq_zero_iff.1 e0
   subst this; cases cm
  ·cases i with
   | zero =>
    obtain rfl:=hw rfl
    rw [if_pos rfl] at q l3
    generalize L.length = nL at *
    generalize stW (R.getD c []) = w0 at *
    generalize wsL R = wl at *
    generalize enc M = es at *
    refine zCh ?_
    simp (disch:=first|omega|exact zE rfl|exact zO|exact zL rfl) [c51_o25,zG,q]
    refine zCh ?_
    simp (disch:=first|omega|exact zE rfl|exact zO|exact zL rfl) [zG,q]
    refine W.seq (W.block ?_)
    refine zCh ?_
    simp (disch:=first|omega|exact zE rfl|exact zO|exact zL rfl) [c51_o26,zG,q]
    refine zCh ?_
    simp (disch:=first|omega|exact zE rfl|exact zO|exact zL rfl) [c51_o27,zG,q,hHp]
    refine W.assoc ?_
    refine zCh ?_
    simp (disch:=first|omega|exact zE rfl|exact zO|exact zL rfl) [c51_o28,zG,q]
    refine W.seq (W.block ?_)
    refine W.use (l3) (by simp (disch:=first|omega|exact zE rfl|exact zO|exact zL rfl) [zG,q]) fun s1 H1 hp => ?_
    obtain ⟨kg,q⟩:=hp
    try simp only [zW,if_true]
    obtain ⟨k3,nv3,gb3⟩:=post _ kg
    have gp3:=k3.at gp (by simp) id
    have gx3:=k3.at gx (by simp) id
    have gM3:=k3.at gM (by simp) id
    have ma3:=mapA_at gM3
    refine W.assoc ?_
    refine zCh ?_
    simp (disch:=first|omega|exact zE rfl|exact zO|exact zL rfl) [c51_o36,zG,q,gb3,ey]
    refine zCh ?_
    simp (disch:=first|omega|exact zE rfl|exact zO|exact zL rfl) [c51_o37,zG,q]
    refine W.assoc ?_
    refine zCh ?_
    simp (disch:=first|omega|exact zE rfl|exact zO|exact zL rfl) [c51_o38,zG,q]
    refine W.seq (W.cond (v:=true) (by simp (disch:=first|omega|exact zE rfl|exact zO|exact zL rfl) [zG,q]) ?_)
    simp only [if_true,if_false,Bool.false_eq_true]
    refine W.chunk ?_
    simp (disch:=first|omega|exact zE rfl|exact zO|exact zL rfl) [c51_o39,zG,q,gb3,ma3,fits2l,fa]
    obtain ⟨x1,e,H4,q1,q2,nv4,q3,q5⟩:=apq _ nv3
    refine W.seq (W.use (c51_o40_ok (x1:=.slice b 0 N v) (x8:=.map mb) (s18:=G w) (s103:=G (N : Nat)) (s104:=G 0) J gp3 gx3 ew lw gb3 q1 q2 q3) (by simp (disch:=first|omega|exact zE rfl|exact zO|exact zL rfl) [zG,q]) fun s1 H1 hp => ?_)
    obtain ⟨rfl,q⟩:=hp
    try simp only [zW,if_true]
    have k4:=nv4.k
    have gp4:=k4.at gp (by simp) id
    have gN4:=k4.at gN (by simp) id
    have gb4:=(q5 _ (get_lt gb3 (by simp)) nz).trans gb3
    refine W.chunk ?_
    simp (disch:=first|omega|exact zE rfl|exact zO|exact zL rfl) [c51_o41,zG,q,gp4,gN4,ec,ec',gb4,lrs',-evDraw_c,evDraw_0]
    refine W.chunk ?_
    simp (disch:=first|omega|exact zE rfl|exact zO|exact zL rfl) [c51_o42,zG,q]
    exact kR _ _ ⟨_,_,_,_,⟨nv4,rc.kp k4 (fun _ _ => id),xb2⟩,by simp [T.get,q]⟩
   | succ i =>
    rw [if_neg (by omega)] at q l3
    have i0 : ¬ ((i + 1 : Nat) : Int) = 0:=by omega
    generalize i + 1 = ii at *
    generalize L.length = nL at *
    generalize stW (R.getD c []) = w0 at *
    generalize wsL R = wl at *
    generalize enc M = es at *
    refine zCh ?_
    simp (disch:=first|omega|exact zE rfl|exact zO|exact zL rfl) [c51_o25,zG,q]
    refine zCh ?_
    simp (disch:=first|omega|exact zE rfl|exact zO|exact zL rfl) [zG,q]
    refine W.seq (W.block ?_)
    refine zCh ?_
    simp (disch:=first|omega|exact zE rfl|exact zO|exact zL rfl) [c51_o26,zG,q]
    refine zCh ?_
    simp (disch:=first|omega|exact zE rfl|exact zO|exact zL rfl) [c51_o27,zG,q,hHp]
    refine W.assoc ?_
    refine zCh ?_
    simp (disch:=first|omega|exact zE rfl|exact zO|exact zL rfl) [c51_o28,zG,q]
    refine W.seq (W.block ?_)
    refine W.use (l3) (by simp (disch:=first|omega|exact zE rfl|exact zO|exact zL rfl) [zG,q]) fun s1 H1 hp => ?_
    obtain ⟨kg,q⟩:=hp
    try simp only [zW,if_true]
    obtain ⟨k3,nv3,gb3⟩:=post _ kg
    have gp3:=k3.at gp (by simp) id
    have gx3:=k3.at gx (by simp) id
    have gM3:=k3.at gM (by simp) id
    have ma3:=mapA_at gM3
    refine W.assoc ?_
    refine zCh ?_
    simp (disch:=first|omega|exact zE rfl|exact zO|exact zL rfl) [c51_o36,zG,q,gb3,ey]
    refine zCh ?_
    simp (disch:=first|omega|exact zE rfl|exact zO|exact zL rfl) [c51_o37,zG,q]
    refine W.assoc ?_
    refine zCh ?_
    simp (disch:=first|omega|exact zE rfl|exact zO|exact zL rfl) [c51_o38,zG,q,i0]
    refine W.seq (W.cond (v:=false) (by simp (disch:=first|omega|exact zE rfl|exact zO|exact zL rfl) [zG,q]) ?_)
    simp only [if_true,if_false,Bool.false_eq_true]
    refine W.skip ?_
    try simp only [zW,if_true]
    obtain ⟨x1,e,H4,q1,q2,nv4,q3,q5⟩:=apq _ nv3
    refine W.seq (W.use (c51_o40_ok (x1:=.slice b 0 N v) (x8:=.map mb) (s18:=G s) (s103:=G (N : Nat)) (s104:=G (ii : Nat)) J gp3 gx3 ew lw gb3 q1 q2 q3) (by simp (disch:=first|omega|exact zE rfl|exact zO|exact zL rfl) [zG,q]) fun s1 H1 hp => ?_)
    obtain ⟨rfl,q⟩:=hp
    try simp only [zW,if_true]
    have k4:=nv4.k
    have gp4:=k4.at gp (by simp) id
    have gN4:=k4.at gN (by simp) id
    have gb4:=(q5 _ (get_lt gb3 (by simp)) nz).trans gb3
    refine W.chunk ?_
    simp (disch:=first|omega|exact zE rfl|exact zO|exact zL rfl) [c51_o41,zG,q,gp4,gN4,ec,ec',gb4,lrs',-evDraw_c,evDraw_0]
    refine W.chunk ?_
    simp (disch:=first|omega|exact zE rfl|exact zO|exact zL rfl) [c51_o42,zG,q]
    exact kR _ _ ⟨_,_,_,_,⟨nv4,rc.kp k4 (fun _ _ => id),xb2⟩,by simp [T.get,q]⟩
 ·refine Tr.w fun s1 H1 hp _ kR => W.trim ?_
  obtain ⟨z,y,done,L,⟨nv,ry,xb⟩,q⟩:=hp
  have e:=xb.e
  rw [Nat.sub_self] at e
  have : done = E:=by rw [← e]; exact (List.append_nil _).symm
  subst this
  rw [if_neg (by omega)] at q
  clear ry xb h4
  refine zCh ?_
  simp (disch:=first|omega|exact zE rfl|exact zO|exact zL rfl) [c51_o25,zG,q]
  refine zCh ?_
  simp (disch:=first|omega|exact zE rfl|exact zO|exact zL rfl) [zG,q]
  exact kR _ _ ⟨_,nv,by simp [T.get,q]⟩
end
section
variable {qq m n p b v i : Nat} {Wt : List (List (List Int))} {x1 x2 : AV}
theorem all_afI (l : List Int) (f : Int → Bool) : af (fun k => f (l.getD k 0)) 0 l.length = l.all f:=by
 rw [af_range,all_range l 0 f]
theorem c52_b0_ok (J : CallF) {H : Heap} {cs ms : List AV} {y : AV} {bm bv rb rv k : Nat} {l : List Int} (gS : H.get p = .cells 0 3 [G qq,x1,x2]) (g : H.get b = .cells 1 v cs) (lc : cs.length = n) (ei : cs[i]? = some (.slice bm 0 m bv)) (gm : H.get bm = .cells 1 bv ms) (lm : ms.length = m) (ek : ms[k]? = some (.slice rb 0 qq rv)) (gr : H.get rb = .cells 1 rv (gs l)) (hl : l.length = qq) (q3 : qq ≤ 1000000) (n1 : n ≤ 1000000) (m1 : m ≤ 1000000) {c : Nat} (hc : c < qq) :
  (smB (l.getD c 0) = true → Tr tbl J (.trim [[false],[true],[false,true],[true,true],[false,false,false]] c52_b0) (fun s h => h = H ∧ s.get [false] = .slice b 0 n v ∧ s.get [true] = .ptr p 0 3 ∧ s.get [false,true] = G i ∧ s.get [true,true] = G k ∧ s.get [false,false,false] = G (c : Nat)) .normal (fun s h => h = H ∧ s.get [false] = .slice b 0 n v ∧ s.get [true] = .ptr p 0 3 ∧ s.get [false,true] = G i ∧ s.get [true,true] = G k ∧ s.get [false,false,false] = G ((c + 1 : Nat) : Int))) ∧
  (smB (l.getD c 0) = false → Tr tbl J (.trim [[false],[true],[false,true],[true,true],[false,false,false]] c52_b0) (fun s h => h = H ∧ s.get [false] = .slice b 0 n v ∧ s.get [true] = .ptr p 0 3 ∧ s.get [false,true] = G i ∧ s.get [true,true] = G k ∧ s.get [false,false,false] = G (c : Nat)) .ret (fun s h => s.get [true,false] = .bool false)):=by
 have ei':=getI ei
 have ek':=getI ek
 have hi:=(List.getElem?_eq_some_iff.1 ei).1
 have hk:=(List.getElem?_eq_some_iff.1 ek).1
 have ec : (gs l)[c]? = some (G (l.getD c 0)):=gs_at _ (by omega)
 have ec':=getI ec
 have lg : (gs l).length = qq:=by simp [hl]
 have sb : smB (l.getD c 0) = decide (-1000 ≤ l.getD c 0 ∧ l.getD c 0 ≤ 1000):=rfl
 rw [sb]
 have c1 : ((c + 1 : Nat) : Int) = (c : Int) + 1:=by omega
 rw [c1]
 generalize l.getD c 0 = z at *
 generalize gs l = gl at *
 constructor
 ·intro h
  obtain ⟨h1,h2⟩:=of_decide_eq_true h
  have d1 : ¬ z < -1000:=by omega
  have d2 : ¬ 1000 < z:=by omega
  refine Tr.w fun s1 H1 hp _ kR => W.trim ?_
  obtain ⟨rfl,q⟩:=hp
  refine W.assoc ?_
  refine zCh ?_
  simp (disch:=first|omega|exact zE rfl|exact zO|exact zL rfl) [c52_o10,zG,q,gS]
  refine zCh ?_
  simp (disch:=first|omega|exact zE rfl|exact zO|exact zL rfl) [zG,q]
  refine W.seq (W.block ?_)
  refine zCh ?_
  simp (disch:=first|omega|exact zE rfl|exact zO|exact zL rfl) [c52_o11,zG,q,g,lc,ei,ei',gm,lm,ek,ek',gr,lg,ec,ec',d1,d2]
  refine W.chunk ?_
  simp (disch:=first|omega|exact zE rfl|exact zO|exact zL rfl) [c52_o12,zG,q]
  refine W.chunk ?_
  simp (disch:=first|omega|exact zE rfl|exact zO|exact zL rfl) [c52_o13,zG,q]
  exact kR _ _ (by simp [T.get,q])
 ·intro h
  have h:=of_decide_eq_false h
  by_cases d1 : z < -1000
  ·refine Tr.w fun s1 H1 hp _ kR => W.trim ?_
   obtain ⟨rfl,q⟩:=hp
   refine W.assoc ?_
   refine zCh ?_
   simp (disch:=first|omega|exact zE rfl|exact zO|exact zL rfl) [c52_o10,zG,q,gS]
   refine zCh ?_
   simp (disch:=first|omega|exact zE rfl|exact zO|exact zL rfl) [zG,q]
   refine W.seq (W.block ?_)
   refine zCh ?_
   simp (disch:=first|omega|exact zE rfl|exact zO|exact zL rfl) [c52_o11,zG,q,g,lc,ei,ei',gm,lm,ek,ek',gr,lg,ec,ec',d1]
   refine W.chunk ?_
   simp (disch:=first|omega|exact zE rfl|exact zO|exact zL rfl) [c52_o12,zG,q]
   exact kR _ _ (by simp [T.get])
  ·have d2 : 1000 < z:=by omega
   refine Tr.w fun s1 H1 hp _ kR => W.trim ?_
   obtain ⟨rfl,q⟩:=hp
   refine W.assoc ?_
   refine zCh ?_
   simp (disch:=first|omega|exact zE rfl|exact zO|exact zL rfl) [c52_o10,zG,q,gS]
   refine zCh ?_
   simp (disch:=first|omega|exact zE rfl|exact zO|exact zL rfl) [zG,q]
   refine W.seq (W.block ?_)
   refine zCh ?_
   simp (disch:=first|omega|exact zE rfl|exact zO|exact zL rfl) [c52_o11,zG,q,g,lc,ei,ei',gm,lm,ek,ek',gr,lg,ec,ec',d1,d2]
   refine W.chunk ?_
   simp (disch:=first|omega|exact zE rfl|exact zO|exact zL rfl) [c52_o12,zG,q]
   exact kR _ _ (by simp [T.get])
theorem c52_b1_ok (J : CallF) {H : Heap} {cs : List AV} {bm bv : Nat} {M : List (List Int)} (gS : H.get p = .cells 0 3 [G qq,x1,x2]) (g : H.get b = .cells 1 v cs) (lc : cs.length = n) (ei : cs[i]? = some (.slice bm 0 m bv)) (t : MR H (.slice bm 0 m bv) M) (hm : M.length = m) (big : ∀ l ∈ M,l.length ≤ 1000000) (q1 : 1 ≤ qq) (q3 : qq ≤ 1000000) (n1 : n ≤ 1000000) (m1 : m ≤ 1000000) {k : Nat} (hk : k < m) :
  (cellB qq (M.getD k []) = true → Tr tbl J (.trim [[false],[true],[false,true],[true,true]] c52_b1) (fun s h => h = H ∧ s.get [false] = .slice b 0 n v ∧ s.get [true] = .ptr p 0 3 ∧ s.get [false,true] = G i ∧ s.get [true,true] = G (k : Nat)) .normal (fun s h => h = H ∧ s.get [false] = .slice b 0 n v ∧ s.get [true] = .ptr p 0 3 ∧ s.get [false,true] = G i ∧ s.get [true,true] = G ((k + 1 : Nat) : Int))) ∧
  (cellB qq (M.getD k []) = false → Tr tbl J (.trim [[false],[true],[false,true],[true,true]] c52_b1) (fun s h => h = H ∧ s.get [false] = .slice b 0 n v ∧ s.get [true] = .ptr p 0 3 ∧ s.get [false,true] = G i ∧ s.get [true,true] = G (k : Nat)) .ret (fun s h => s.get [true,false] = .bool false)):=by
 obtain ⟨ms,r,gm,lm,_,ek,lr⟩:=t.row3 (k:=k) (by omega)
 have ei':=getI ei
 have ek':=getI ek
 have hi:=(List.getElem?_eq_some_iff.1 ei).1
 have hl:=big _ (show M.getD k [] ∈ M by
  rw [List.getD_eq_getElem?_getD,List.getElem?_eq_getElem (by omega)]; exact List.getElem_mem _)
 have cb : cellB qq (M.getD k []) = (decide ((M.getD k []).length = qq) && (M.getD k []).all smB):=rfl
 rw [cb]
 have hs:=lr.cases
 have k1 : ((k + 1 : Nat) : Int) = (k : Int) + 1:=by omega
 rw [k1]
 clear lr t cb big
 generalize M.getD k [] = l at *
 by_cases c : l.length = qq
 ·rw [decide_eq_true c,Bool.true_and,← all_afI,c]
  obtain ⟨rb,rv,rfl,gr⟩ : ∃ b v,r = .slice b 0 qq v ∧ H.get b = .cells 1 v (gs l):=by
   rcases hs with ⟨_,h2⟩ | ⟨_,h2⟩ | ⟨b,v,h1,h2⟩
   ·rw [h2] at c; simp at c; omega
   ·rw [h2] at c; simp at c; omega
   ·rw [c] at h1; exact ⟨b,v,h1,h2⟩
  have b0:=fun {c'} hc => c52_b0_ok (y:=.nils) J gS g lc ei gm lm ek gr c q3 n1 m1 (c:=c') hc
  constructor
  ·intro ha
   have l0 : Tr tbl J c52_l0 (fun s h => h = H ∧ s.get [false] = .slice b 0 n v ∧ s.get [true] = .ptr p 0 3 ∧ s.get [false,true] = G i ∧ s.get [true,true] = G k ∧ s.get [false,false,false] = G ((0 : Nat) : Int)) (.exit 4) (fun s h => h = H ∧ s.get [false] = .slice b 0 n v ∧ s.get [true] = .ptr p 0 3 ∧ s.get [false,true] = G i ∧ s.get [true,true] = G k):=by
    refine Tr.allT (P:=fun c => (fun s h => h = H ∧ s.get [false] = .slice b 0 n v ∧ s.get [true] = .ptr p 0 3 ∧ s.get [false,true] = G i ∧ s.get [true,true] = G k ∧ s.get [false,false,false] = G (c : Nat))) (p:=fun c => smB (l.getD c 0)) qq (fun c hc hp => (b0 hc).1 hp) ?_ (by simp) _ 0 (by omega) ha
    clear b0 ha
    refine Tr.w fun s1 H1 hp _ kR => W.trim ?_
    obtain ⟨rfl,q⟩:=hp
    refine W.assoc ?_
    refine zCh ?_
    simp (disch:=first|omega|exact zE rfl|exact zO|exact zL rfl) [c52_o10,zG,q,gS]
    refine zCh ?_
    simp (disch:=first|omega|exact zE rfl|exact zO|exact zL rfl) [zG,q]
    exact kR _ _ (by simp [T.get,q])
   clear b0 ha hs
   refine Tr.w fun s1 H1 hp _ kR => W.trim ?_
   obtain ⟨rfl,q⟩:=hp
   refine W.assoc ?_
   refine zCh ?_
   simp (disch:=first|omega|exact zE rfl|exact zO|exact zL rfl) [c52_o6,zG,q,g,ei,ei',lc]
   refine zCh ?_
   simp (disch:=first|omega|exact zE rfl|exact zO|exact zL rfl) [zG,q]
   refine W.seq (W.block ?_)
   refine W.assoc ?_
   refine zCh ?_
   simp (disch:=first|omega|exact zE rfl|exact zO|exact zL rfl) [c52_o7,zG,q,g,ei,ei',lc,gm,lm,ek,ek',gS,-evDraw_c,evDraw_0]
   refine zCh ?_
   simp (disch:=first|omega|exact zE rfl|exact zO|exact zL rfl) [c52_o8,zG,q]
   refine zCh ?_
   simp (disch:=first|omega|exact zE rfl|exact zO|exact zL rfl) [c52_o9,zG,q]
   refine W.block ?_
   refine W.use (l0) (by simp (disch:=first|omega|exact zE rfl|exact zO|exact zL rfl) [zG,q]) fun s1 H1 hp => ?_
   obtain ⟨rfl,q⟩:=hp
   try simp only [zW,if_true]
   refine W.chunk ?_
   simp (disch:=first|omega|exact zE rfl|exact zO|exact zL rfl) [c52_o14,zG,q]
   exact kR _ _ (by simp [T.get,q])
  ·intro ha
   have l0 : Tr tbl J c52_l0 (fun s h => h = H ∧ s.get [false] = .slice b 0 n v ∧ s.get [true] = .ptr p 0 3 ∧ s.get [false,true] = G i ∧ s.get [true,true] = G k ∧ s.get [false,false,false] = G ((0 : Nat) : Int)) .ret (fun s h => s.get [true,false] = .bool false) :=
    Tr.allF (P:=fun c => (fun s h => h = H ∧ s.get [false] = .slice b 0 n v ∧ s.get [true] = .ptr p 0 3 ∧ s.get [false,true] = G i ∧ s.get [true,true] = G k ∧ s.get [false,false,false] = G (c : Nat))) (p:=fun c => smB (l.getD c 0)) qq (fun c hc hp => (b0 hc).1 hp) (fun c hc hp => (b0 hc).2 hp) (by simp) _ 0 (by omega) ha
   clear b0 ha hs
   refine Tr.w fun s1 H1 hp _ kR => W.trim ?_
   obtain ⟨rfl,q⟩:=hp
   refine W.assoc ?_
   refine zCh ?_
   simp (disch:=first|omega|exact zE rfl|exact zO|exact zL rfl) [c52_o6,zG,q,g,ei,ei',lc]
   refine zCh ?_
   simp (disch:=first|omega|exact zE rfl|exact zO|exact zL rfl) [zG,q]
   refine W.seq (W.block ?_)
   refine W.assoc ?_
   refine zCh ?_
   simp (disch:=first|omega|exact zE rfl|exact zO|exact zL rfl) [c52_o7,zG,q,g,ei,ei',lc,gm,lm,ek,ek',gS,-evDraw_c,evDraw_0]
   refine zCh ?_
   simp (disch:=first|omega|exact zE rfl|exact zO|exact zL rfl) [c52_o8,zG,q]
   refine zCh ?_
   simp (disch:=first|omega|exact zE rfl|exact zO|exact zL rfl) [c52_o9,zG,q]
   refine W.block ?_
   refine W.use (l0) (by simp (disch:=first|omega|exact zE rfl|exact zO|exact zL rfl) [zG,q]) fun s1 H1 hp => ?_
   try simp only [zW,if_true]
   exact kR _ _ hp
 ·rw [decide_eq_false c,Bool.false_and]
  refine ⟨fun h => (by cases h),fun _ => ?_⟩
  have sl : (r = .nils ∧ l.length = 0) ∨ (r = .slice0 ∧ l.length = 0) ∨ ∃ b v,r = .slice b 0 l.length v:=by
   rcases hs with ⟨h1,h2⟩ | ⟨h1,h2⟩ | ⟨b,v,h1,_⟩
   ·exact .inl ⟨h1,by rw [h2]; rfl⟩
   ·exact .inr (.inl ⟨h1,by rw [h2]; rfl⟩)
   ·exact .inr (.inr ⟨b,v,h1⟩)
  clear hs
  generalize l.length = l' at *
  have c' : ¬ (l' : Int) = (qq : Int):=by omega
  have c2 : l' = 0 → ¬ (0 : Int) = (qq : Int):=fun _ => by omega
  have c3 : l' = 0 → ¬ qq = 0:=fun _ => by omega
  rcases sl with ⟨rfl,e0⟩ | ⟨rfl,e0⟩ | ⟨rb,rv,rfl⟩
  ·have c2:=c2 e0
   have c3:=c3 e0
   refine Tr.w fun s1 H1 hp _ kR => W.trim ?_
   obtain ⟨rfl,q⟩:=hp
   refine W.assoc ?_
   refine zCh ?_
   simp (disch:=first|omega|exact zE rfl|exact zO|exact zL rfl) [c52_o6,zG,q,g,ei,ei',lc]
   refine zCh ?_
   simp (disch:=first|omega|exact zE rfl|exact zO|exact zL rfl) [zG,q]
   refine W.seq (W.block ?_)
   refine W.assoc ?_
   refine zCh ?_
   simp (disch:=first|omega|exact zE rfl|exact zO|exact zL rfl) [c52_o7,zG,q,g,ei,ei',lc,gm,lm,ek,ek',gS,c2,c3,-evDraw_c,evDraw_0]
   refine zCh ?_
   simp (disch:=first|omega|exact zE rfl|exact zO|exact zL rfl) [c52_o8,zG,q]
   exact kR _ _ (by simp [T.get])
  ·have c2:=c2 e0
   have c3:=c3 e0
   refine Tr.w fun s1 H1 hp _ kR => W.trim ?_
   obtain ⟨rfl,q⟩:=hp
   refine W.assoc ?_
   refine zCh ?_
   simp (disch:=first|omega|exact zE rfl|exact zO|exact zL rfl) [c52_o6,zG,q,g,ei,ei',lc]
   refine zCh ?_
   simp (disch:=first|omega|exact zE rfl|exact zO|exact zL rfl) [zG,q]
   refine W.seq (W.block ?_)
   refine W.assoc ?_
   refine zCh ?_
   simp (disch:=first|omega|exact zE rfl|exact zO|exact zL rfl) [c52_o7,zG,q,g,ei,ei',lc,gm,lm,ek,ek',gS,c2,c3,-evDraw_c,evDraw_0]
   refine zCh ?_
   simp (disch:=first|omega|exact zE rfl|exact zO|exact zL rfl) [c52_o8,zG,q]
   exact kR _ _ (by simp [T.get])
  ·refine Tr.w fun s1 H1 hp _ kR => W.trim ?_
   obtain ⟨rfl,q⟩:=hp
   refine W.assoc ?_
   refine zCh ?_
   simp (disch:=first|omega|exact zE rfl|exact zO|exact zL rfl) [c52_o6,zG,q,g,ei,ei',lc]
   refine zCh ?_
   simp (disch:=first|omega|exact zE rfl|exact zO|exact zL rfl) [zG,q]
   refine W.seq (W.block ?_)
   refine W.assoc ?_
   refine zCh ?_
   simp (disch:=first|omega|exact zE rfl|exact zO|exact zL rfl) [c52_o7,zG,q,g,ei,ei',lc,gm,lm,ek,ek',gS,c,c',-evDraw_c,evDraw_0]
   refine zCh ?_
   simp (disch:=first|omega|exact zE rfl|exact zO|exact zL rfl) [c52_o8,zG,q]
   exact kR _ _ (by simp [T.get])
set_option maxHeartbeats 1000000 in
theorem c52_b2_ok (J : CallF) {H : Heap} (gS : H.get p = .cells 0 3 [G qq,x1,x2]) (t : WT H (.slice b 0 n v) Wt) (hn : Wt.length = n) (hm : (Wt.getD 0 []).length = m) (q1 : 1 ≤ qq) (q3 : qq ≤ 1000000) (n1 : n ≤ 1000000) (big : ∀ M ∈ Wt,M.length ≤ 1000000 ∧ ∀ l ∈ M,l.length ≤ 1000000) {i : Nat} (hi : i < n) :
  (gridB qq m (Wt.getD i []) = true → Tr tbl J (.trim [[false],[true],[false,true]] c52_b2) (fun s h => h = H ∧ s.get [false] = .slice b 0 n v ∧ s.get [true] = .ptr p 0 3 ∧ s.get [false,true] = G (i : Nat)) .normal (fun s h => h = H ∧ s.get [false] = .slice b 0 n v ∧ s.get [true] = .ptr p 0 3 ∧ s.get [false,true] = G ((i + 1 : Nat) : Int))) ∧
  (gridB qq m (Wt.getD i []) = false → Tr tbl J (.trim [[false],[true],[false,true]] c52_b2) (fun s h => h = H ∧ s.get [false] = .slice b 0 n v ∧ s.get [true] = .ptr p 0 3 ∧ s.get [false,true] = G (i : Nat)) .ret (fun s h => s.get [true,false] = .bool false)):=by
 obtain ⟨cs,y,g,lc,_,e,my⟩:=t.at (i:=i) (by omega)
 obtain ⟨cs',y0,g',_,_,e0,my0⟩:=t.at (i:=0) (by omega)
 rw [g] at g'
 simp only [AObj.cells.injEq,true_and] at g'
 subst g'
 have e':=getI e
 have e0':=getI e0
 have sl0:=my0.sl3
 rw [hm] at sl0
 have mem : Wt.getD i [] ∈ Wt:=by
  rw [List.getD_eq_getElem?_getD,List.getElem?_eq_getElem (by omega)]; exact List.getElem_mem _
 obtain ⟨bg1,bg2⟩:=big _ mem
 have mbig : m ≤ 1000000:=by
  rw [← hm]
  exact (big _ (by rw [List.getD_eq_getElem?_getD,List.getElem?_eq_getElem (by omega)]; exact List.getElem_mem _)).1
 have gb : gridB qq m (Wt.getD i []) = (decide ((Wt.getD i []).length = m) && (Wt.getD i []).all (cellB qq)):=rfl
 rw [gb]
 have k1 : ((i + 1 : Nat) : Int) = (i : Int) + 1:=by omega
 rw [k1]
 generalize Wt.getD i [] = M at *
 have sl:=my.sl3
 by_cases c : M.length = m
 ·rw [decide_eq_true c,Bool.true_and,← all_af,c]
  rw [c] at sl
  by_cases m0 : m = 0
  ·subst m0
   refine ⟨fun _ => ?_,fun h => (by cases h)⟩
   clear my my0 t big bg2 mem gb hm c
   have l1 : ∀ {y},cs[i]? = some y → ((y = AV.nils ∨ y = .slice0) ∨ ∃ b v,y = .slice b 0 0 v) → Tr tbl J c52_l1 (fun s h => h = H ∧ s.get [false] = .slice b 0 n v ∧ s.get [true] = .ptr p 0 3 ∧ s.get [false,true] = G i ∧ s.get [true,true] = G ((0 : Nat) : Int)) (.exit 2) (fun s h => h = H ∧ s.get [false] = .slice b 0 n v ∧ s.get [true] = .ptr p 0 3 ∧ s.get [false,true] = G i):=fun {y} e hy => by
    have e':=getI e
    refine Tr.out ?_ (by simp)
    rcases hy with (rfl | rfl) | ⟨bm,bv,rfl⟩
    all_goals
     refine Tr.w fun s1 H1 hp _ kR => W.trim ?_
     obtain ⟨rfl,q⟩:=hp
     refine W.assoc ?_
     refine zCh ?_
     simp (disch:=first|omega|exact zE rfl|exact zO|exact zL rfl) [c52_o6,zG,q,g,e,e',lc]
     refine zCh ?_
     simp (disch:=first|omega|exact zE rfl|exact zO|exact zL rfl) [zG,q]
     exact kR _ _ (by simp [T.get,q])
   have l1:=l1 e (by
    rcases sl with ⟨h,_⟩ | ⟨h,_⟩ | h
    ·exact .inl (.inl h)
    ·exact .inl (.inr h)
    ·exact .inr h)
   rcases sl with ⟨rfl,_⟩ | ⟨rfl,_⟩ | ⟨bm,bv,rfl⟩ <;> rcases sl0 with ⟨rfl,_⟩ | ⟨rfl,_⟩ | ⟨b0,v0,rfl⟩
   all_goals
    refine Tr.w fun s1 H1 hp _ kR => W.trim ?_
    obtain ⟨rfl,q⟩:=hp
    refine W.assoc ?_
    refine zCh ?_
    simp (disch:=first|omega|exact zE rfl|exact zO|exact zL rfl) [c52_o2,zG,q]
    refine zCh ?_
    simp (disch:=first|omega|exact zE rfl|exact zO|exact zL rfl) [zG,q]
    refine W.seq (W.block ?_)
    refine W.assoc ?_
    refine zCh ?_
    simp (disch:=first|omega|exact zE rfl|exact zO|exact zL rfl) [c52_o3,zG,q,g,e,e',e0,e0',lc,-evDraw_c,evDraw_0]
    refine zCh ?_
    simp (disch:=first|omega|exact zE rfl|exact zO|exact zL rfl) [c52_o4,zG,q]
    refine zCh ?_
    simp (disch:=first|omega|exact zE rfl|exact zO|exact zL rfl) [c52_o5,zG,q]
    refine W.block ?_
    refine W.use (l1) (by simp (disch:=first|omega|exact zE rfl|exact zO|exact zL rfl) [zG,q]) fun s1 H1 hp => ?_
    obtain ⟨rfl,q⟩:=hp
    try simp only [zW,if_true]
    refine W.chunk ?_
    simp (disch:=first|omega|exact zE rfl|exact zO|exact zL rfl) [c52_o15,zG,q]
    exact kR _ _ (by simp [T.get,q])
  ·obtain ⟨bm,bv,rfl⟩:=(sl.resolve_left (fun e => m0 e.2)).resolve_left (fun e => m0 e.2)
   obtain ⟨b0,v0,rfl⟩:=(sl0.resolve_left (fun e => m0 e.2)).resolve_left (fun e => m0 e.2)
   have b1:=fun {k} hk => c52_b1_ok (i:=i) J gS g lc e my c bg2 q1 q3 n1 mbig (k:=k) hk
   constructor
   ·intro ha
    have l1 : Tr tbl J c52_l1 (fun s h => h = H ∧ s.get [false] = .slice b 0 n v ∧ s.get [true] = .ptr p 0 3 ∧ s.get [false,true] = G i ∧ s.get [true,true] = G ((0 : Nat) : Int)) (.exit 2) (fun s h => h = H ∧ s.get [false] = .slice b 0 n v ∧ s.get [true] = .ptr p 0 3 ∧ s.get [false,true] = G i):=by
     refine Tr.allT (P:=fun k => (fun s h => h = H ∧ s.get [false] = .slice b 0 n v ∧ s.get [true] = .ptr p 0 3 ∧ s.get [false,true] = G i ∧ s.get [true,true] = G (k : Nat))) (p:=fun k => cellB qq (M.getD k [])) m (fun k hk hp => (b1 hk).1 hp) ?_ (by simp) _ 0 (by omega) ha
     clear b1 ha my my0 t big bg2 mem
     refine Tr.w fun s1 H1 hp _ kR => W.trim ?_
     obtain ⟨rfl,q⟩:=hp
     refine W.assoc ?_
     refine zCh ?_
     simp (disch:=first|omega|exact zE rfl|exact zO|exact zL rfl) [c52_o6,zG,q,g,e,e',lc]
     refine zCh ?_
     simp (disch:=first|omega|exact zE rfl|exact zO|exact zL rfl) [zG,q]
     exact kR _ _ (by simp [T.get,q])
    clear b1 ha my my0 t big bg2 mem gb hm c
    refine Tr.w fun s1 H1 hp _ kR => W.trim ?_
    obtain ⟨rfl,q⟩:=hp
    refine W.assoc ?_
    refine zCh ?_
    simp (disch:=first|omega|exact zE rfl|exact zO|exact zL rfl) [c52_o2,zG,q]
    refine zCh ?_
    simp (disch:=first|omega|exact zE rfl|exact zO|exact zL rfl) [zG,q]
    refine W.seq (W.block ?_)
    refine W.assoc ?_
    refine zCh ?_
    simp (disch:=first|omega|exact zE rfl|exact zO|exact zL rfl) [c52_o3,zG,q,g,e,e',e0,e0',lc,-evDraw_c,evDraw_0]
    refine zCh ?_
    simp (disch:=first|omega|exact zE rfl|exact zO|exact zL rfl) [c52_o4,zG,q]
    refine zCh ?_
    simp (disch:=first|omega|exact zE rfl|exact zO|exact zL rfl) [c52_o5,zG,q]
    refine W.block ?_
    refine W.use (l1) (by simp (disch:=first|omega|exact zE rfl|exact zO|exact zL rfl) [zG,q]) fun s1 H1 hp => ?_
    obtain ⟨rfl,q⟩:=hp
    try simp only [zW,if_true]
    refine W.chunk ?_
    simp (disch:=first|omega|exact zE rfl|exact zO|exact zL rfl) [c52_o15,zG,q]
    exact kR _ _ (by simp [T.get,q])
   ·intro ha
    have l1 : Tr tbl J c52_l1 (fun s h => h = H ∧ s.get [false] = .slice b 0 n v ∧ s.get [true] = .ptr p 0 3 ∧ s.get [false,true] = G i ∧ s.get [true,true] = G ((0 : Nat) : Int)) .ret (fun s h => s.get [true,false] = .bool false) :=
     Tr.allF (P:=fun k => (fun s h => h = H ∧ s.get [false] = .slice b 0 n v ∧ s.get [true] = .ptr p 0 3 ∧ s.get [false,true] = G i ∧ s.get [true,true] = G (k : Nat))) (p:=fun k => cellB qq (M.getD k [])) m (fun k hk hp => (b1 hk).1 hp) (fun k hk hp => (b1 hk).2 hp) (by simp) _ 0 (by omega) ha
    clear b1 ha my my0 t big bg2 mem gb hm c
    refine Tr.w fun s1 H1 hp _ kR => W.trim ?_
    obtain ⟨rfl,q⟩:=hp
    refine W.assoc ?_
    refine zCh ?_
    simp (disch:=first|omega|exact zE rfl|exact zO|exact zL rfl) [c52_o2,zG,q]
    refine zCh ?_
    simp (disch:=first|omega|exact zE rfl|exact zO|exact zL rfl) [zG,q]
    refine W.seq (W.block ?_)
    refine W.assoc ?_
    refine zCh ?_
    simp (disch:=first|omega|exact zE rfl|exact zO|exact zL rfl) [c52_o3,zG,q,g,e,e',e0,e0',lc,-evDraw_c,evDraw_0]
    refine zCh ?_
    simp (disch:=first|omega|exact zE rfl|exact zO|exact zL rfl) [c52_o4,zG,q]
    refine zCh ?_
    simp (disch:=first|omega|exact zE rfl|exact zO|exact zL rfl) [c52_o5,zG,q]
    refine W.block ?_
    refine W.use (l1) (by simp (disch:=first|omega|exact zE rfl|exact zO|exact zL rfl) [zG,q]) fun s1 H1 hp => ?_
    try simp only [zW,if_true]
    exact kR _ _ hp
 ·rw [decide_eq_false c,Bool.false_and]
  refine ⟨fun h => (by cases h),fun _ => ?_⟩
  clear my my0 t big bg2 mem gb hm
  generalize M.length = l at *
  have c' : ¬ (l : Int) = (m : Int):=by omega
  have z1 : l = 0 → ¬ (0 : Int) = (m : Int):=fun _ => by omega
  have z2 : m = 0 → ¬ (l : Int) = 0:=fun _ => by omega
  rcases sl with ⟨rfl,e1⟩ | ⟨rfl,e1⟩ | ⟨bm,bv,rfl⟩ <;> rcases sl0 with ⟨rfl,e2⟩ | ⟨rfl,e2⟩ | ⟨b0,v0,rfl⟩
  all_goals
   try (exfalso; omega)
  all_goals
   try have z1:=z1 e1
   try have z2:=z2 e2
   have y1 : (l = 0 ∧ m ≠ 0) ∨ (m = 0 ∧ l ≠ 0) ∨ (l ≠ m):=by omega
   try (have y2 : ¬ m = 0:=by omega)
   try (have y3 : ¬ l = 0:=by omega)
   refine Tr.w fun s1 H1 hp _ kR => W.trim ?_
   obtain ⟨rfl,q⟩:=hp
   refine W.assoc ?_
   refine zCh ?_
   simp (disch:=first|omega|exact zE rfl|exact zO|exact zL rfl) [c52_o2,zG,q]
   refine zCh ?_
   simp (disch:=first|omega|exact zE rfl|exact zO|exact zL rfl) [zG,q]
   refine W.seq (W.block ?_)
   refine W.assoc ?_
   refine zCh ?_
   simp (disch:=first|omega|exact zE rfl|exact zO|exact zL rfl) [c52_o3,zG,q,g,e,e',e0,e0',lc,c,c',z1,z2,-evDraw_c,evDraw_0]
   refine zCh ?_
   simp (disch:=first|omega|exact zE rfl|exact zO|exact zL rfl) [c52_o4,zG,q]
   exact kR _ _ (by simp [T.get])
set_option maxHeartbeats 1000000 in
theorem c52_ok (J : CallF) (hJ : ∀ a h,J 52 a h = none) (h : Heap) {x : AV} (t : WT h x Wt) (q1 : 1 ≤ qq) (q3 : qq ≤ 1000000) (n1 : Wt.length ≤ 1000000) (big : ∀ M ∈ Wt,M.length ≤ 1000000 ∧ ∀ l ∈ M,l.length ≤ 1000000) : CallsTo tbl J 52 [.agg [G qq,x1,x2],x] h (.bool (wtB qq Wt),[],false):=by
 refine Tr.fnv (cf:=c52) (e:=.ret) (s:=T.set (T.set .leaf [] (.agg [G qq,x1,x2])) [false] x) (by decide) rfl (hJ _ _) rfl rfl rfl (by simp) ?_
 refine Tr.post (Q:=(fun s h => s.get [true,false] = .bool (wtB qq Wt))) (fun s h q => by simp [c52,q]) ?_
 have tF:=t.fr
 generalize frameOf h = H0 at *
 obtain ⟨H,hH⟩ : ∃ H,H0.plus [.cells 0 3 [G qq,x1,x2]] = H:=⟨_,rfl⟩
 have kH : Kp (fun _ => False) H0 H:=by rw [← hH]; exact Kp.plus _ _
 have gS : H.get H0.size = .cells 0 3 [G qq,x1,x2]:=by rw [← hH]; exact plus_at0 _ _ _ _ rfl
 have tH:=tF.kp kH
 have wb : wtB qq Wt = (decide (1 ≤ Wt.length ∧ Wt.length ≤ 40) && decide (1 ≤ (Wt.getD 0 []).length ∧ (Wt.getD 0 []).length ≤ 5) && Wt.all (gridB qq (Wt.getD 0 []).length)):=rfl
 have tH0:=tH
 have empty : ∀ y,(y = AV.nils ∨ y = .slice0) → x = y → Wt = [] → Tr tbl J c52.body (fun s' h' => s' = T.set (T.set .leaf [] (.agg [G qq,x1,x2])) [false] x ∧ h' = H0) .ret (fun s h => s.get [true,false] = .bool (wtB qq Wt)):=fun y hy e1 e2 => by
  subst e1; subst e2
  have wz : wtB qq [] = false:=rfl
  rw [wz]
  have l2 : Tr tbl J c52_l2 (fun s h => h = H ∧ s.get [false] = x ∧ s.get [true] = .ptr H0.size 0 3 ∧ s.get [false,true] = G ((0 : Nat) : Int)) (.exit 0) (fun s h => h = H ∧ s.get [false] = x):=by
   refine Tr.out ?_ (by simp)
   rcases hy with rfl | rfl
   all_goals
    refine Tr.w fun s1 H1 hp _ kR => W.trim ?_
    obtain ⟨rfl,q⟩:=hp
    refine W.assoc ?_
    refine zCh ?_
    simp (disch:=first|omega|exact zE rfl|exact zO|exact zL rfl) [c52_o2,zG,q]
    refine zCh ?_
    simp (disch:=first|omega|exact zE rfl|exact zO|exact zL rfl) [zG,q]
    exact kR _ _ (by simp [T.get,q])
  clear wb t tF tH kH tH0
  rcases hy with rfl | rfl
  all_goals
   refine Tr.w fun s1 H1 hp _ kR => ?_
   obtain ⟨rfl,rfl⟩:=hp
   have q : True:=trivial
   refine zCh ?_
   simp (disch:=first|omega|exact zE rfl|exact zO|exact zL rfl) [c52_o0,zG,q,hH]
   refine W.assoc ?_
   refine zCh ?_
   simp (disch:=first|omega|exact zE rfl|exact zO|exact zL rfl) [c52_o1,zG,q]
   refine W.seq (W.block ?_)
   refine W.use (l2) (by simp (disch:=first|omega|exact zE rfl|exact zO|exact zL rfl) [zG,q]) fun s1 H1 hp => ?_
   obtain ⟨rfl,q⟩:=hp
   try simp only [zW,if_true]
   refine zCh ?_
   simp (disch:=first|omega|exact zE rfl|exact zO|exact zL rfl) [c52_o16,zG,q]
   refine W.ret ?_
   try simp only [zW,if_true]
   exact kR _ _ (by simp [T.get])
 obtain ⟨e | e,e2⟩ | ⟨b,v,cs,rfl,g,lc,hr⟩:=tH0
 ·exact empty _ (.inl rfl) e e2
 ·exact empty _ (.inr rfl) e e2
 ·clear empty
  rw [wb]
  have b2:=fun {i} hi => c52_b2_ok (m:=(Wt.getD 0 []).length) J gS tH rfl rfl q1 q3 n1 big (i:=i) hi
  cases ha : Wt.all (gridB qq (Wt.getD 0 []).length)
  ·rw [Bool.and_false]
   rw [← all_afW] at ha
   have l2 : Tr tbl J c52_l2 (fun s h => h = H ∧ s.get [false] = .slice b 0 Wt.length v ∧ s.get [true] = .ptr H0.size 0 3 ∧ s.get [false,true] = G ((0 : Nat) : Int)) .ret (fun s h => s.get [true,false] = .bool false) :=
    Tr.allF (P:=fun i => (fun s h => h = H ∧ s.get [false] = .slice b 0 Wt.length v ∧ s.get [true] = .ptr H0.size 0 3 ∧ s.get [false,true] = G (i : Nat))) (p:=fun i => gridB qq (Wt.getD 0 []).length (Wt.getD i [])) Wt.length (fun i hi hp => (b2 hi).1 hp) (fun i hi hp => (b2 hi).2 hp) (by simp) _ 0 (by omega) ha
   clear wb t tF tH kH hr big b2 ha g lc
   generalize Wt.length = n at *
   refine Tr.w fun s1 H1 hp _ kR => ?_
   obtain ⟨rfl,rfl⟩:=hp
   have q : True:=trivial
   refine zCh ?_
   simp (disch:=first|omega|exact zE rfl|exact zO|exact zL rfl) [c52_o0,zG,q,hH]
   refine W.assoc ?_
   refine zCh ?_
   simp (disch:=first|omega|exact zE rfl|exact zO|exact zL rfl) [c52_o1,zG,q]
   refine W.seq (W.block ?_)
   refine W.use (l2) (by simp (disch:=first|omega|exact zE rfl|exact zO|exact zL rfl) [zG,q]) fun s1 H1 hp => ?_
   try simp only [zW,if_true]
   exact kR _ _ hp
  ·rw [Bool.and_true]
   rw [← all_afW] at ha
   have l2 : Tr tbl J c52_l2 (fun s h => h = H ∧ s.get [false] = .slice b 0 Wt.length v ∧ s.get [true] = .ptr H0.size 0 3 ∧ s.get [false,true] = G ((0 : Nat) : Int)) (.exit 0) (fun s h => h = H ∧ s.get [false] = .slice b 0 Wt.length v):=by
    refine Tr.allT (P:=fun i => (fun s h => h = H ∧ s.get [false] = .slice b 0 Wt.length v ∧ s.get [true] = .ptr H0.size 0 3 ∧ s.get [false,true] = G (i : Nat))) (p:=fun i => gridB qq (Wt.getD 0 []).length (Wt.getD i [])) Wt.length (fun i hi hp => (b2 hi).1 hp) ?_ (by simp) _ 0 (by omega) ha
    clear wb t tF tH kH hr big b2 ha g lc
    generalize Wt.length = n at *
    refine Tr.w fun s1 H1 hp _ kR => W.trim ?_
    obtain ⟨rfl,q⟩:=hp
    refine W.assoc ?_
    refine zCh ?_
    simp (disch:=first|omega|exact zE rfl|exact zO|exact zL rfl) [c52_o2,zG,q]
    refine zCh ?_
    simp (disch:=first|omega|exact zE rfl|exact zO|exact zL rfl) [zG,q]
    exact kR _ _ (by simp [T.get,q])
   clear b2 ha
   by_cases c1 : 1 ≤ Wt.length
   ·obtain ⟨M0,e0,my0⟩:=hr 0 cs[0] (List.getElem?_eq_getElem (by omega))
    have eM : Wt.getD 0 [] = M0:=by rw [List.getD_eq_getElem?_getD,e0]; rfl
    have c0 : cs[0]? = some cs[0]:=List.getElem?_eq_getElem (by omega)
    have c0':=getI c0
    have sl0:=my0.sl3
    rw [eM]
    have mb : M0.length ≤ 1000000:=(big _ (List.mem_of_getElem? e0)).1
    generalize cs[0]'(by omega) = y0 at *
    by_cases c2 : Wt.length ≤ 40
    ·rw [decide_eq_true ⟨c1,c2⟩,Bool.true_and]
     clear wb t tF tH kH hr big my0 eM e0
     generalize Wt.length = n at *
     by_cases c3 : 1 ≤ M0.length
     ·obtain ⟨b0,v0,rfl⟩:=(sl0.resolve_left (fun e => by omega)).resolve_left (fun e => by omega)
      generalize M0.length = m0 at *
      by_cases c4 : m0 ≤ 5
      ·rw [decide_eq_true ⟨c3,c4⟩]
       refine Tr.w fun s1 H1 hp _ kR => ?_
       obtain ⟨rfl,rfl⟩:=hp
       have q : True:=trivial
       refine zCh ?_
       simp (disch:=first|omega|exact zE rfl|exact zO|exact zL rfl) [c52_o0,zG,q,hH]
       refine W.assoc ?_
       refine zCh ?_
       simp (disch:=first|omega|exact zE rfl|exact zO|exact zL rfl) [c52_o1,zG,q]
       refine W.seq (W.block ?_)
       refine W.use (l2) (by simp (disch:=first|omega|exact zE rfl|exact zO|exact zL rfl) [zG,q]) fun s1 H1 hp => ?_
       obtain ⟨rfl,q⟩:=hp
       try simp only [zW,if_true]
       refine zCh ?_
       simp (disch:=first|omega|exact zE rfl|exact zO|exact zL rfl) [c52_o16,zG,q,g,c0,c0',lc,c1,c2,c3,c4]
       refine W.ret ?_
       try simp only [zW,if_true]
       exact kR _ _ (by simp [T.get])
      ·rw [decide_eq_false (fun h => c4 h.2)]
       refine Tr.w fun s1 H1 hp _ kR => ?_
       obtain ⟨rfl,rfl⟩:=hp
       have q : True:=trivial
       refine zCh ?_
       simp (disch:=first|omega|exact zE rfl|exact zO|exact zL rfl) [c52_o0,zG,q,hH]
       refine W.assoc ?_
       refine zCh ?_
       simp (disch:=first|omega|exact zE rfl|exact zO|exact zL rfl) [c52_o1,zG,q]
       refine W.seq (W.block ?_)
       refine W.use (l2) (by simp (disch:=first|omega|exact zE rfl|exact zO|exact zL rfl) [zG,q]) fun s1 H1 hp => ?_
       obtain ⟨rfl,q⟩:=hp
       try simp only [zW,if_true]
       refine zCh ?_
       simp (disch:=first|omega|exact zE rfl|exact zO|exact zL rfl) [c52_o16,zG,q,g,c0,c0',lc,c1,c2,c3,c4]
       refine W.ret ?_
       try simp only [zW,if_true]
       exact kR _ _ (by simp [T.get])
     ·rw [decide_eq_false (fun h => c3 h.1)]
      generalize M0.length = m0 at *
      have c5 : m0 = 0:=by omega
      subst c5
      rcases sl0 with ⟨rfl,_⟩ | ⟨rfl,_⟩ | ⟨b0,v0,rfl⟩
      all_goals
       refine Tr.w fun s1 H1 hp _ kR => ?_
       obtain ⟨rfl,rfl⟩:=hp
       have q : True:=trivial
       refine zCh ?_
       simp (disch:=first|omega|exact zE rfl|exact zO|exact zL rfl) [c52_o0,zG,q,hH]
       refine W.assoc ?_
       refine zCh ?_
       simp (disch:=first|omega|exact zE rfl|exact zO|exact zL rfl) [c52_o1,zG,q]
       refine W.seq (W.block ?_)
       refine W.use (l2) (by simp (disch:=first|omega|exact zE rfl|exact zO|exact zL rfl) [zG,q]) fun s1 H1 hp => ?_
       obtain ⟨rfl,q⟩:=hp
       try simp only [zW,if_true]
       refine zCh ?_
       simp (disch:=first|omega|exact zE rfl|exact zO|exact zL rfl) [c52_o16,zG,q,g,c0,c0',lc,c1,c2]
       refine W.ret ?_
       try simp only [zW,if_true]
       exact kR _ _ (by simp [T.get])
    ·rw [decide_eq_false (fun h => c2 h.2),Bool.false_and]
     clear wb t tF tH kH hr big my0 eM e0 sl0 g lc
     generalize Wt.length = n at *
     refine Tr.w fun s1 H1 hp _ kR => ?_
     obtain ⟨rfl,rfl⟩:=hp
     have q : True:=trivial
     refine zCh ?_
     simp (disch:=first|omega|exact zE rfl|exact zO|exact zL rfl) [c52_o0,zG,q,hH]
     refine W.assoc ?_
     refine zCh ?_
     simp (disch:=first|omega|exact zE rfl|exact zO|exact zL rfl) [c52_o1,zG,q]
     refine W.seq (W.block ?_)
     refine W.use (l2) (by simp (disch:=first|omega|exact zE rfl|exact zO|exact zL rfl) [zG,q]) fun s1 H1 hp => ?_
     obtain ⟨rfl,q⟩:=hp
     try simp only [zW,if_true]
     refine zCh ?_
     simp (disch:=first|omega|exact zE rfl|exact zO|exact zL rfl) [c52_o16,zG,q,c1,c2]
     refine W.ret ?_
     try simp only [zW,if_true]
     exact kR _ _ (by simp [T.get])
   ·rw [decide_eq_false (fun h => c1 h.1),Bool.false_and]
    clear wb t tF tH kH hr big g lc
    generalize Wt.length = n at *
    have c5 : n = 0:=by omega
    subst c5
    refine Tr.w fun s1 H1 hp _ kR => ?_
    obtain ⟨rfl,rfl⟩:=hp
    have q : True:=trivial
    refine zCh ?_
    simp (disch:=first|omega|exact zE rfl|exact zO|exact zL rfl) [c52_o0,zG,q,hH]
    refine W.assoc ?_
    refine zCh ?_
    simp (disch:=first|omega|exact zE rfl|exact zO|exact zL rfl) [c52_o1,zG,q]
    refine W.seq (W.block ?_)
    refine W.use (l2) (by simp (disch:=first|omega|exact zE rfl|exact zO|exact zL rfl) [zG,q]) fun s1 H1 hp => ?_
    obtain ⟨rfl,q⟩:=hp
    try simp only [zW,if_true]
    refine zCh ?_
    simp (disch:=first|omega|exact zE rfl|exact zO|exact zL rfl) [c52_o16,zG,q]
    refine W.ret ?_
    try simp only [zW,if_true]
    exact kR _ _ (by simp [T.get])
end
def Pre52 (b : A83) (args : List AV) (h : Heap) : Prop:=(Ok83 b h ∧ 1 ≤ b.qq ∧ b.qq ≤ 3) ∧ args = [.agg [G b.qq,b.x1,b.x2],b.x]
noncomputable def U52 : CallF:=addK tbl noIntr 52 Pre52 Post83
theorem u52 : Sound Go.Proofs.Try.prog U52:=Sound.addK follows ok Sound.empty (by decide) _ _
abbrev K52 (J : CallF) : Prop:=∀ (h : Heap) (b : A83),Ok83 b h → 1 ≤ b.qq → b.qq ≤ 3 → J 52 [.agg [G b.qq,b.x1,b.x2],b.x] h = some (.bool (wtB b.qq b.Wt),[],false)
theorem k52u : K52 U52:=fun h b o h1 h2 => by
 obtain ⟨v,own,e,rfl,rfl⟩:=addK_some (Pre:=Pre52) (Post:=Post83) (fun b args h hp => by
  obtain ⟨⟨⟨h1,h2,h3⟩,h4,h5⟩,rfl⟩:=hp
  exact ⟨_,_,c52_ok noIntr (fun _ _ => rfl) h h1 h4 (by omega) h2 h3,rfl,rfl⟩) b _ h ⟨⟨o,h1,h2⟩,rfl⟩
 exact e
end Go.Proofs.Ytljgfdamdcikgaa.Ev
