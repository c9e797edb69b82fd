/-
 Of the functions that this law reaches,part 0: what they answer. No condition.
-/
import Derived.Test.YtljgfdamdcikgaaSCheck
import Derived.Test.YtljgfdamdcikgaaEvWp
import Derived.Test.YtljgfdamdcikgaaEvW
open Bool renaming true → zT, false → zF
open List renaming getElem?_eq_getElem → zq, getD_eq_getElem?_getD → zd
open Go.Proofs.Try renaming prog → zp
namespace Go.Proofs.Ytljgfdamdcikgaa.Ev
open Go Go.AEv
theorem zCh {tbl : Nat → Option CFunc} {I : CallF} {Q : PQ} {a b : CCode} {s : T} {h : Heap} (x : Cm (evCode (kn I) a s h) (thenW tbl I b Q)) : W tbl I (.seq a b) s h Q:=W.seq (W.chunk x)
abbrev zE:=@getEq
abbrev zO:=@getO0
abbrev zL:=@Nat.le_of_ble_eq_true
abbrev zG:=(And.intro @app_growP (And.intro @app_noneP (And.intro @plus_N (And.intro @plus_at0 (And.intro @put_plus0 (And.intro @put_plus1 (And.intro @upd_N @upd_size)))))))
abbrev zW:=(And.intro @thenW_n (And.intro @thenW_e (And.intro @thenW_r (And.intro @blkW_n (And.intro @blkW_e @blkW_r)))))
def isTrue0 : Option (AV × List AObj × Bool) → Bool
 | some (.bool zT,[],zF) => zT
 | _ => zF
set_option maxRecDepth 100000 in
theorem awake_run : isTrue0 ((evW tbl noIntr 60).call 23 [] e0) = zT:=by decide +kernel
end Go.Proofs.Ytljgfdamdcikgaa.Ev
set_option linter.unusedVariables false
set_option linter.unusedSimpArgs false
namespace Go.AEv
open Classical in
noncomputable def pt (I : CallF) (f : Nat) (args : List AV) (h : Heap) (x : AV × List AObj × Bool) : CallF:=fun g a k => if g = f ∧ a = args ∧ k = h then some x else I g a k
section
variable {tbl : Nat → Option CFunc} {I : CallF} {f : Nat} {args : List AV} {h : Heap} {x : AV × List AObj × Bool}
theorem pt_at : pt I f args h x f args h = some x:=if_pos ⟨rfl,rfl,rfl⟩
theorem pt_le {m : Nat} (hf : f ≠ 0) (hc : (evW tbl I m).call f args h = some x) : ∀ n,RecLe (evW tbl (pt I f args h x) n) (evW tbl I (m + n))
 | 0 => ⟨fun _ _ _ _ h => (by simp [evW] at h),fun _ _ _ _ h => (by simp [evW] at h)⟩
 | n + 1 => by
  have ih:=pt_le hf hc n
  refine ⟨fun g a k y e => ?_,fun c s h x e => evCode_mono ih c e⟩
  cases g with
  | zero =>
   cases a with
   | nil => exact e
   | cons v rest =>
    cases v with
    | yld l =>
     have e' : (match evRound (evW tbl (pt I f args h x) n) l rest k with | some (v,h') => some (v,h'.own,zT) | none => none) = some y:=e
     show (match evRound (evW tbl I (m + n)) l rest k with | some (v,h') => some (v,h'.own,zT) | none => none) = some y
     cases ha : evRound (evW tbl (pt I f args h x) n) l rest k with
     | none => rw [ha] at e'; cases e'
     | some q => rw [ha] at e'; rw [evRound_mono ih ha]; exact e'
    | _ => exact e
  | succ g =>
   have e' : (match pt I f args h x (g + 1) a k with | some x => some x | none => callBody tbl (evW tbl (pt I f args h x) n) (g + 1) a k) = some y:=e
   by_cases c : g + 1 = f ∧ a = args ∧ k = h
   ·obtain ⟨rfl,rfl,rfl⟩:=c
    rw [pt_at] at e'
    cases e'
    exact (evW_le' (by omega)).call _ _ _ _ hc
   ·rw [show pt I f args h x (g + 1) a k = I (g + 1) a k from if_neg c] at e'
    show (match I (g + 1) a k with | some x => some x | none => callBody tbl (evW tbl I (m + n)) (g + 1) a k) = some y
    cases hi : I (g + 1) a k with
    | some z => rw [hi] at e'; exact e'
    | none => rw [hi] at e'; exact callBody_mono ih e'
theorem W.point {c : CCode} {s : T} {k : Heap} {Q : PQ} (hf : f ≠ 0) (hc : CallsTo tbl I f args h x) (w : W tbl (pt I f args h x) c s k Q) : W tbl I c s k Q:=by
 obtain ⟨m,hc⟩:=hc
 obtain ⟨e,s',h',⟨n,r⟩,q⟩:=w
 exact ⟨e,s',h',⟨m + n,evCode_mono (pt_le hf hc n) c r⟩,q⟩
theorem Tr.shr {cf : CFunc} {s : T} {v : AV} {e : AExit} {R : Heap → Prop} (hf : f ≠ 0) (ht : tbl f = some cf) (hi : I f args h = none) (hsh : cf.shared = zT) (hs : initS cf.params args .leaf = some s)
  (he : ∀ i,e ≠ .exit i) (hb : Tr tbl I cf.body (fun s' h' => s' = s ∧ h' = h) e (fun s' h' => R h' ∧ ∃ vs,evRess h' s' cf.results = some vs ∧ one vs = v)) : ∃ h',R h' ∧ CallsTo tbl I f args h (v,h'.own,zT):=by
 obtain ⟨s1,h1,r1,hr,vs,q1,rfl⟩:=hb s h ⟨rfl,rfl⟩
 exact ⟨h1,hr,CallsTo.shared hf ht hi hsh hs r1 he q1⟩
theorem all_eq {M : Nat → Prop} {h h' : Heap} (k : Kp M h h') : (⟨h.lo,h.N,h'.own⟩ : Heap) = h':=by
 have a:=k.lo
 have b:=k.N
 cases h; cases h'
 simp only at a b
 subst a; subst b
 rfl
end
end Go.AEv
namespace Go.Proofs.Ytljgfdamdcikgaa.Ev
open Go Go.AEv
abbrev G (n : Int) : AV:=.int .i64 n
abbrev gs (l : List Int) : List AV:=l.map fun n => AV.int .i64 n
def ent (M : List (List Int)) (i j : Nat) : Int:=(M.getD i []).getD j 0
def lf (f : Nat → Int) (n : Nat) : List Int:=(List.range n).map f
section
variable {tbl : Nat → Option CFunc} {I : CallF}
theorem Tr.fny {f : Nat} {cf : CFunc} {args : List AV} {h : Heap} {s : T} {e : AExit} {Good : AV → List AObj → Prop} (hf : f ≠ 0) (ht : tbl f = some cf) (hi : I f args h = none) (hsh : cf.shared = zF) (hs : initS cf.params args .leaf = some s)
  (he : ∀ i,e ≠ .exit i) (hb : Tr tbl I cf.body (fun s' h' => s' = s ∧ h' = frameOf h) e (fun s' h' => ∃ vs,evRess h' s' cf.results = some vs ∧ Good (one vs) (if (one vs).flat then [] else h'.own))) : ∃ v own,CallsTo tbl I f args h (v,own,zF) ∧ Good v own:=by
 obtain ⟨s1,h1,r1,vs,q1,q2⟩:=hb s (frameOf h) ⟨rfl,rfl⟩
 exact ⟨_,_,CallsTo.fn hf ht hi hsh hs r1 he q1,q2⟩
theorem Tr.sh {f : Nat} {cf : CFunc} {args : List AV} {h : Heap} {s : T} {v : AV} {e : AExit} (hf : f ≠ 0) (ht : tbl f = some cf) (hi : I f args h = none) (hsh : cf.shared = zT) (hs : initS cf.params args .leaf = some s)
  (he : ∀ i,e ≠ .exit i) (hb : Tr tbl I cf.body (fun s' h' => s' = s ∧ h' = h) e (fun s' h' => (∃ vs,evRess h' s' cf.results = some vs ∧ one vs = v) ∧ h' = h)) : CallsTo tbl I f args h (v,h.own,zT):=by
 obtain ⟨s1,h1,r1,⟨vs,q1,rfl⟩,rfl⟩:=hb s h ⟨rfl,rfl⟩
 exact CallsTo.shared hf ht hi hsh hs r1 he q1
end
def lst (h : Heap) : AV → Option (List Int)
 | .slice0 => some []
 | x => listOf h x
theorem lst_lr {h : Heap} {x : AV} {l : List Int} : lst h x = some l ↔ LR h x l:=by
 constructor
 ·intro e
  unfold lst at e
  split at e
  ·cases e; exact .inr ⟨rfl,rfl⟩
  ·exact .inl e
 ·intro e
  rcases e.cases with ⟨rfl,rfl⟩ | ⟨rfl,rfl⟩ | ⟨b,v,rfl,g⟩
  ·rfl
  ·rfl
  ·exact listOf_cells g rfl
theorem LR.inj {h : Heap} {x : AV} {a b : List Int} (e : LR h x a) (e' : LR h x b) : a = b:=by
 have:=lst_lr.2 e
 rw [lst_lr.2 e'] at this
 exact (Option.some.inj this).symm
theorem isTrue0_eq {x : Option (AV × List AObj × Bool)} (h : isTrue0 x = zT) : x = some (.bool zT,[],zF):=by
 unfold isTrue0 at h
 split at h
 ·rfl
 ·cases h
theorem addI_ne {I : CallF} {f g : Nat} {spec : SpecF} (hg : g ≠ f) (args : List AV) (h : Heap) : addI I f spec g args h = I g args h:=if_neg hg
theorem addV_ne {I : CallF} {f g : Nat} {spec : SpecV} (hg : g ≠ f) (args : List AV) (h : Heap) : addV I f spec g args h = I g args h:=if_neg hg
theorem getI {α : Type} {l : List α} {i : Nat} {x : α} (e : l[i]? = some x) : ∀ h : i < l.length,l[i] = x:=fun h => by rw [zq h] at e; exact Option.some.inj e
theorem app1_at (H : Heap) (k : AV) : (H.plus [.cells 1 1 [k]]).get H.size = .cells 1 1 [k]:=plus_at0 _ _ _ _ rfl
def blk : AV → Option Nat
 | .slice b _ _ _ => some b
 | _ => none
def LV (h : Heap) (x : AV) (cs : List AV) : Prop:=(x = .nils ∧ cs = []) ∨ ∃ b,x = .slice b 0 cs.length cs.length ∧ h.get b = .cells 1 cs.length cs ∧ h.N ≤ b
theorem LV.nil (h : Heap) : LV h .nils []:=.inl ⟨rfl,rfl⟩
theorem LV.kp {M : Nat → Prop} {h h' : Heap} {x : AV} {L : List AV} (l : LV h x L) (k : Kp M h h') (hm : ∀ b,blk x = some b → ¬ M b) : LV h' x L:=by
 rcases l with l | ⟨b,rfl,g,n⟩
 ·exact .inl l
 ·exact .inr ⟨b,rfl,k.at g (by simp) (hm b rfl),by rw [k.N]; exact n⟩
theorem LV.lt {h : Heap} {x : AV} {L : List AV} (l : LV h x L) {b : Nat} (hb : blk x = some b) : b < h.size:=by
 rcases l with ⟨rfl,rfl⟩ | ⟨b',rfl,g,n⟩
 ·cases hb
 ·cases hb; exact get_lt g (by simp)
theorem LV.sl {h : Heap} {x : AV} {L : List AV} (l : LV h x L) (hL : L ≠ []) : ∃ q,x = .slice q 0 L.length L.length ∧ h.get q = .cells 1 L.length L:=by
 rcases l with ⟨rfl,rfl⟩ | ⟨b,rfl,g,n⟩
 ·exact absurd rfl hL
 ·exact ⟨b,rfl,g⟩
theorem ext_gen (h : Heap) (b v g : Nat) (cs vs : List AV) (h1 : h.N ≤ b) (hg : h.get b = .cells g v cs) (hl : cs.length = v) : Eff.app (.ext b v g vs) h = some (h.upd b (.cells g (v + vs.length) (cs ++ vs))):=by
 have h2 : ¬ b < h.N:=by omega
 have e:=get_own h1 hg (by simp)
 simp only [Eff.app,h2,if_false,e,hl,and_self,if_true,forceL_eq,setOwn_upd]
theorem app_v (h : Heap) (h0 bytes : Nat) {x0 : AV} {L : List AV} (z : AV) (hx : LV h x0 L) (hn : (L.length + 1) * bytes ≤ 1099511627776) :
  ∃ x1 e h',appA h h0 none 1 bytes 1 [z] x0 = some (x1,e) ∧ Eff.app e h = some h' ∧ LV h' x1 (L ++ [z]) ∧ Kp (fun b => blk x0 = some b) h h' ∧ (blk x1 = blk x0 ∨ (x0 = .nils ∧ blk x1 = some h.size)) ∧ AV.cells x1 = some [x1]:=by
 rcases hx with ⟨rfl,rfl⟩ | ⟨b,rfl,g,hN⟩
 ·refine ⟨.slice h.size 0 1 1,.grow [.cells 1 1 [z]],h.plus [.cells 1 1 [z]],?_,app_growP _ _,.inr ⟨h.size,rfl,plus_at0 _ _ _ _ rfl,by show h.N ≤ h.size; unfold Heap.size; omega⟩,Kp.plus _ _,.inr ⟨rfl,rfl⟩,rfl⟩
  have : 1 * bytes ≤ 1099511627776:=by simpa using hn
  simp only [appA,mk,if_neg (show ¬ (1 = 0) by decide),if_pos this,Nat.mul_one]
 ·have hlt:=get_lt g (by simp)
  refine ⟨.slice b 0 (L.length + 1) (L.length + 1),.ext b L.length 1 [z],h.upd b (.cells 1 (L.length + 1) (L ++ [z])),?_,?_,.inr ⟨b,?_,?_,by rw [upd_N]; exact hN⟩,Kp.upd _ _ _ hN rfl,.inl rfl,rfl⟩
  ·simp only [appA,Nat.mul_one,Nat.one_mul]
   rw [if_neg (by decide),if_pos ⟨trivial,by simp,hn⟩]
  ·exact ext_gen h b L.length 1 L [z] hN g rfl
  ·simp
  ·rw [upd_same _ _ _ hN hlt]; simp
theorem app_if (h : Heap) (own : List AObj) : Eff.app (if own.isEmpty = zT then .none else .grow own) h = some (h.plus own):=by
 cases own with
 | nil => simp [Heap.plus,app_noneP]
 | cons a r => exact app_growP _ _
theorem app_if' (h : Heap) (own : List AObj) [Decidable (own = [])] : Eff.app (if own = [] then .none else .grow own) h = some (h.plus own):=by
 cases own with
 | nil => simp [Heap.plus,app_noneP]
 | cons a r => rw [if_neg (by simp)]; exact app_growP _ _
def SL (y : AV) (n : Nat) : Prop:=(y = .nils ∧ n = 0) ∨ (y = .slice0 ∧ n = 0) ∨ ∃ b v,y = .slice b 0 n v
theorem LR.sl {h : Heap} {x : AV} {l : List Int} (e : LR h x l) : SL x l.length:=by
 rcases e.cases with ⟨rfl,rfl⟩ | ⟨rfl,rfl⟩ | ⟨b,v,rfl,g⟩
 ·exact .inl ⟨rfl,rfl⟩
 ·exact .inr (.inl ⟨rfl,rfl⟩)
 ·exact .inr (.inr ⟨b,v,rfl⟩)
theorem LR.congr {h h' : Heap} (e : ∀ b,h.get b = h'.get b) {x : AV} {l : List Int} (q : LR h x l) : LR h' x l:=by
 rcases q with q | q
 ·exact .inl ((listOf_congr e x).symm.trans q)
 ·exact .inr q
def MR (h : Heap) (y : AV) (M : List (List Int)) : Prop:=((y = .nils ∨ y = .slice0) ∧ M = []) ∨ ∃ b v cs,y = .slice b 0 M.length v ∧ h.get b = .cells 1 v cs ∧ cs.length = M.length ∧ ∀ (i : Nat) r,cs[i]? = some r → ∃ l,M[i]? = some l ∧ LR h r l
theorem MR.sl {h : Heap} {y : AV} {M : List (List Int)} (m : MR h y M) : SL y M.length:=by
 rcases m with ⟨rfl | rfl,rfl⟩ | ⟨b,v,cs,rfl,_⟩
 ·exact .inl ⟨rfl,rfl⟩
 ·exact .inr (.inl ⟨rfl,rfl⟩)
 ·exact .inr (.inr ⟨b,v,rfl⟩)
theorem MR.kp {h h' : Heap} {y : AV} {M : List (List Int)} (m : MR h y M) (k : Kp (fun _ => False) h h') : MR h' y M:=by
 rcases m with m | ⟨b,v,cs,rfl,g,hl,hr⟩
 ·exact .inl m
 ·refine .inr ⟨b,v,cs,rfl,k.at g (by simp) id,hl,fun i r e => ?_⟩
  obtain ⟨l,h1,h2⟩:=hr i r e
  exact ⟨l,h1,LR.kp k h2⟩
theorem MR.congr {h h' : Heap} (e : ∀ b,h.get b = h'.get b) {y : AV} {M : List (List Int)} (m : MR h y M) : MR h' y M:=by
 rcases m with m | ⟨b,v,cs,rfl,g,hl,hr⟩
 ·exact .inl m
 ·refine .inr ⟨b,v,cs,rfl,(e b).symm.trans g,hl,fun i r q => ?_⟩
  obtain ⟨l,h1,h2⟩:=hr i r q
  exact ⟨l,h1,LR.congr e h2⟩
theorem LR.lt {h : Heap} {x : AV} {l : List Int} (e : LR h x l) {q : Nat} (hq : blk x = some q) : q < h.size:=by
 rcases e.cases with ⟨rfl,rfl⟩ | ⟨rfl,rfl⟩ | ⟨b,v,rfl,g⟩
 ·cases hq
 ·cases hq
 ·cases hq; exact get_lt g (by simp)
theorem MR.lo {h : Heap} {y : AV} {M : List (List Int)} (m : MR h y M) (own : List AObj) : MR ⟨h.get,h.size,own⟩ y M :=
 (m.kp (Kp.plus h own)).congr fun b => (fr_get h own b).symm
theorem MR.row {h : Heap} {y : AV} {M : List (List Int)} (m : MR h y M) {i : Nat} (hi : i < M.length) : ∃ b v cs r,y = .slice b 0 M.length v ∧ h.get b = .cells 1 v cs ∧ cs[i]? = some r ∧ LR h r (M.getD i []):=by
 rcases m with ⟨_,rfl⟩ | ⟨b,v,cs,rfl,g,hl,hr⟩
 ·simp at hi
 ·have e : cs[i]? = some cs[i]:=zq (by omega)
  obtain ⟨l,h1,h2⟩:=hr i _ e
  refine ⟨b,v,cs,_,rfl,g,e,?_⟩
  rw [zd,h1]; exact h2
theorem MR.inj {h : Heap} {y : AV} {M M' : List (List Int)} (m : MR h y M) (m' : MR h y M') : M = M':=by
 have hl : M.length = M'.length:=by
  rcases m.sl with ⟨rfl,a⟩ | ⟨rfl,a⟩ | ⟨b,v,rfl⟩ <;> rcases m'.sl with ⟨h1,c⟩ | ⟨h1,c⟩ | ⟨b',v',h1⟩
  all_goals first | cases h1; done | omega | (simp only [AV.slice.injEq] at h1; omega)
 apply List.ext_getElem?
 intro i
 by_cases hi : i < M.length
 ·obtain ⟨b,v,cs,r,rfl,g,e,q⟩:=m.row hi
  obtain ⟨b',v',cs',r',h1,g',e',q'⟩:=m'.row (by omega : i < M'.length)
  simp only [AV.slice.injEq] at h1
  obtain ⟨rfl,_,_,rfl⟩:=h1
  rw [g] at g'
  simp only [AObj.cells.injEq,true_and] at g'
  subst g'
  rw [e] at e'
  cases e'
  have:=LR.inj q q'
  rw [zd,zd] at this
  rw [zq hi,zq (by omega : i < M'.length)] at this ⊢
  simpa using this
 ·rw [List.getElem?_eq_none (by omega),List.getElem?_eq_none (by omega)]
structure TG (H0 h : Heap) (x : AV) (M : List (List Int)) : Prop where
 k : Kp (fun _ => False) H0 h
 x0 : ∀ q,blk x = some q → H0.size ≤ q
 r : ∃ cs,LV h x cs ∧ cs.length = M.length ∧ ∀ (i : Nat) r,cs[i]? = some r → ∃ l,M[i]? = some l ∧ listOf h r = some l ∧ ∀ q,blk r = some q → blk x ≠ some q ∧ H0.size ≤ q ∧ q < h.size
theorem TG.mr {H0 h : Heap} {x : AV} {M : List (List Int)} (t : TG H0 h x M) : MR h x M:=by
 obtain ⟨cs,l,hl,hr⟩:=t.r
 rcases l with ⟨rfl,rfl⟩ | ⟨b,rfl,g,n⟩
 ·exact .inl ⟨.inl rfl,List.length_eq_zero_iff.1 hl.symm⟩
 ·refine .inr ⟨b,cs.length,cs,by rw [hl],g,hl,fun i r e => ?_⟩
  obtain ⟨l,h1,h2,_⟩:=hr i r e
  exact ⟨l,h1,.inl h2⟩
theorem TG.nil (H0 : Heap) : TG H0 H0 .nils []:=⟨Kp.refl _,fun _ e => (by cases e),[],LV.nil _,rfl,fun i r e => by simp at e⟩
theorem listOf_kp {N : Nat → Prop} {h h' : Heap} (k : Kp N h h') {x : AV} {l : List Int} (e : listOf h x = some l) (hm : ∀ q,blk x = some q → ¬ N q) : listOf h' x = some l:=by
 rcases listOf_some e with ⟨rfl,rfl⟩ | ⟨b,v,rfl,g⟩
 ·rfl
 ·exact listOf_cells (k.at g (by simp) (hm b rfl)) rfl
theorem listOf_lt {h : Heap} {x : AV} {l : List Int} (e : listOf h x = some l) {q : Nat} (hq : blk x = some q) : q < h.size:=by
 rcases listOf_some e with ⟨rfl,rfl⟩ | ⟨b,v,rfl,g⟩
 ·cases hq
 ·cases hq; exact get_lt g (by simp)
theorem TG.kp {H0 h h' : Heap} {x : AV} {M : List (List Int)} (t : TG H0 h x M) (k : Kp (fun _ => False) h h') : TG H0 h' x M:=by
 obtain ⟨cs,l,hl,hr⟩:=t.r
 refine ⟨t.k.trans k,t.x0,cs,l.kp k (fun _ _ => id),hl,fun i r e => ?_⟩
 obtain ⟨l,h1,h2,h3⟩:=hr i r e
 exact ⟨l,h1,listOf_kp k h2 (fun _ _ => id),fun q hq => ⟨(h3 q hq).1,(h3 q hq).2.1,Nat.lt_of_lt_of_le (h3 q hq).2.2 k.size⟩⟩
theorem TG.app {H0 h : Heap} (h0 : Nat) {x v : AV} {M : List (List Int)} {l : List Int} (t : TG H0 h x M) (hv : listOf h v = some l) (hb : ∀ q,blk v = some q → blk x ≠ some q ∧ H0.size ≤ q) (hn : M.length ≤ 1000000) :
  ∃ x1 e h2,appA (h.plus [.cells 1 1 [v]]) h0 none 1 24 1 [v] x = some (x1,e) ∧ Eff.app e (h.plus [.cells 1 1 [v]]) = some h2 ∧ TG H0 h2 x1 (M ++ [l]) ∧ AV.cells x1 = some [x1]:=by
 obtain ⟨cs,lv,hl,hr⟩:=t.r
 have k1 : Kp (fun _ => False) h (h.plus [.cells 1 1 [v]]):=Kp.plus _ _
 obtain ⟨x1,e,h2,q1,q2,q3,q4,q5,q6⟩:=app_v (h.plus [.cells 1 1 [v]]) h0 24 v (lv.kp k1 (fun _ _ => id)) (by omega)
 have hsz : (h.plus [.cells 1 1 [v]]).size = h.size + 1:=by rw [plus_size]; rfl
 have hx1 : ∀ q,q < h.size → blk x ≠ some q → blk x1 ≠ some q:=fun q hq hne hx1 => by
  rcases q5 with h' | ⟨_,h'⟩
  ·rw [h'] at hx1; exact hne hx1
  ·rw [h'] at hx1; cases hx1; omega
 have hsz2:=q4.size
 refine ⟨x1,e,h2,q1,q2,⟨(t.k.trans k1).late q4 t.x0,fun q hq => ?_,cs ++ [v],q3,by simp [hl],fun i r hi => ?_⟩,q6⟩
 ·rcases q5 with h' | ⟨_,h'⟩
  ·rw [h'] at hq; exact t.x0 q hq
  ·rw [h'] at hq; cases hq; have:=t.k.size; omega
 ·by_cases hi' : i < cs.length
  ·rw [List.getElem?_append_left hi'] at hi
   obtain ⟨l',h1,h2',h3⟩:=hr i r hi
   refine ⟨l',by rw [List.getElem?_append_left (by omega)]; exact h1,listOf_kp q4 (listOf_kp k1 h2' (fun _ _ => id)) (fun q hq => (h3 q hq).1),fun q hq => ⟨hx1 q (h3 q hq).2.2 (h3 q hq).1,(h3 q hq).2.1,by have:=(h3 q hq).2.2; omega⟩⟩
  ·rw [List.getElem?_append_right (by omega)] at hi
   have hi0 : i - cs.length = 0:=by
    rcases Nat.eq_zero_or_pos (i - cs.length) with e | e
    ·exact e
    ·rw [List.getElem?_eq_none (by simp; omega)] at hi; cases hi
   rw [hi0] at hi
   simp only [List.getElem?_cons_zero,Option.some.injEq] at hi
   subst hi
   have hlt : ∀ q,blk v = some q → q < h.size:=fun q hq => listOf_lt hv hq
   refine ⟨l,by rw [List.getElem?_append_right (by omega),← hl,hi0]; rfl,listOf_kp q4 (listOf_kp k1 hv (fun _ _ => id)) (fun q hq => (hb q hq).1),fun q hq => ⟨hx1 q (hlt q hq) (hb q hq).1,(hb q hq).2,by have:=hlt q hq; omega⟩⟩
theorem Kp.fr {h h' : Heap} (k : Kp (fun _ => False) (frameOf h) h') : h' = ⟨h.get,h.size,h'.own⟩:=Kp.own k
theorem TG.fr {h h' : Heap} {x : AV} {M : List (List Int)} (t : TG (frameOf h) h' x M) : TG h (h.plus h'.own) x M:=by
 have e:=Kp.own t.k
 obtain ⟨cs,l,hl,hr⟩:=t.r
 have hg : ∀ b,h'.get b = (h.plus h'.own).get b:=fun b => by rw [e]; exact fr_get h _ b
 refine ⟨Kp.plus _ _,t.x0,cs,?_,hl,fun i r hi => ?_⟩
 ·rcases l with l | ⟨b,rfl,g,n⟩
  ·exact .inl l
  ·have hb : h.size ≤ b:=t.x0 b rfl
   exact .inr ⟨b,rfl,(hg b).symm.trans g,by rw [plus_N]; unfold Heap.size at hb; omega⟩
 ·obtain ⟨l,h1,h2,h3⟩:=hr i r hi
  refine ⟨l,h1,(listOf_congr hg r).symm.trans h2,fun q hq => ⟨(h3 q hq).1,(h3 q hq).2.1,?_⟩⟩
  have:=(h3 q hq).2.2
  rw [e] at this
  rw [plus_size]; exact this
structure NG (H0 h : Heap) (x : AV) (L : List Int) : Prop where
 k : Kp (fun _ => False) H0 h
 x0 : ∀ q,blk x = some q → H0.size ≤ q
 l : LV h x (gs L)
theorem NG.nil (H0 : Heap) : NG H0 H0 .nils []:=⟨Kp.refl _,fun _ e => (by cases e),LV.nil _⟩
theorem NG.list {H0 h : Heap} {x : AV} {L : List Int} (t : NG H0 h x L) : listOf h x = some L:=by
 rcases t.l with ⟨rfl,e⟩ | ⟨b,rfl,g,n⟩
 ·have : L = []:=by simpa using e
  subst this; rfl
 ·simp only [List.length_map] at g ⊢
  exact listOf_cells g rfl
theorem NG.kp {H0 h h' : Heap} {x : AV} {L : List Int} (t : NG H0 h x L) (k : Kp (fun _ => False) h h') : NG H0 h' x L:=⟨t.k.trans k,t.x0,t.l.kp k (fun _ _ => id)⟩
theorem NG.app {H0 h : Heap} (h0 : Nat) {x : AV} {L : List Int} (t : NG H0 h x L) (z : Int) (hn : L.length ≤ 1000000) :
  ∃ x1 e h2,appA (h.plus [.cells 1 1 [G z]]) h0 none 1 8 1 [G z] x = some (x1,e) ∧ Eff.app e (h.plus [.cells 1 1 [G z]]) = some h2 ∧ NG H0 h2 x1 (L ++ [z]) ∧ AV.cells x1 = some [x1]:=by
 have k1 : Kp (fun _ => False) h (h.plus [.cells 1 1 [G z]]):=Kp.plus _ _
 obtain ⟨x1,e,h2,q1,q2,q3,q4,q5,q6⟩:=app_v (h.plus [.cells 1 1 [G z]]) h0 8 (G z) (t.l.kp k1 (fun _ _ => id)) (by simp; omega)
 have hsz : (h.plus [.cells 1 1 [G z]]).size = h.size + 1:=by rw [plus_size]; rfl
 refine ⟨x1,e,h2,q1,q2,⟨(t.k.trans k1).late q4 t.x0,fun q hq => ?_,by simpa using q3⟩,q6⟩
 rcases q5 with h' | ⟨_,h'⟩
 ·rw [h'] at hq; exact t.x0 q hq
 ·rw [h'] at hq; cases hq; have:=t.k.size; omega
theorem NG.fr {h h' : Heap} {x : AV} {L : List Int} (t : NG (frameOf h) h' x L) : NG h (h.plus h'.own) x L:=by
 have e:=Kp.own t.k
 have hg : ∀ b,h'.get b = (h.plus h'.own).get b:=fun b => by rw [e]; exact fr_get h _ b
 refine ⟨Kp.plus _ _,t.x0,?_⟩
 rcases t.l with l | ⟨b,rfl,g,n⟩
 ·exact .inl l
 ·have hb : h.size ≤ b:=t.x0 b rfl
  exact .inr ⟨b,rfl,(hg b).symm.trans g,by rw [plus_N]; unfold Heap.size at hb; omega⟩
theorem NG.fr1 {h h' : Heap} {x y : AV} {L : List Int} (t : NG (frameOf h) h' x L) : NG h (h.plus (if (one [x,y]).flat then [] else h'.own)) x L:=by
 split
 ·rename_i hf
  rcases t.l with ⟨rfl,e⟩ | ⟨b,rfl,g,n⟩
  ·have : L = []:=by simpa using e
   subst this
   have : h.plus [] = h:=by simp [Heap.plus]
   rw [this]; exact NG.nil h
  ·simp [one,AV.flat,AV.flats] at hf
 ·exact t.fr
theorem NG.up {h : Heap} {X own : List AObj} {w : AV} {L : List Int} (t : NG ⟨h.get,h.size,X⟩ (Heap.plus ⟨h.get,h.size,X⟩ own) w L) : NG (frameOf h) (Heap.plus ⟨h.get,h.size,X⟩ own) w L :=
 ⟨(Kp.plus (frameOf h) X).trans t.k,fun q hq => Nat.le_trans (Kp.plus (M:=fun _ => False) (frameOf h) X).size (t.x0 q hq),t.l⟩
theorem NG.base {H0 H1 H : Heap} {x : AV} {L : List Int} (k : Kp (fun _ => False) H0 H1) (t : NG H1 H x L) : NG H0 H x L:=⟨k.trans t.k,fun q hq => Nat.le_trans k.size (t.x0 q hq),t.l⟩
structure TB (H0 h : Heap) (x : AV) (M : List (List AV)) : Prop where
 k : Kp (fun _ => False) H0 h
 x0 : ∀ q,blk x = some q → H0.size ≤ q
 r : ∃ rs,LV h x rs ∧ rs.length = M.length ∧ ∀ (i : Nat) r,rs[i]? = some r → ∃ cs b,M[i]? = some cs ∧ r = .slice b 0 cs.length cs.length ∧ h.get b = .cells 1 cs.length cs ∧ blk x ≠ some b ∧ H0.size ≤ b
theorem TB.nil (H0 : Heap) : TB H0 H0 .nils []:=⟨Kp.refl _,fun _ e => (by cases e),[],LV.nil _,rfl,fun i r e => by simp at e⟩
theorem TB.kp {H0 h h' : Heap} {x : AV} {M : List (List AV)} (t : TB H0 h x M) (k : Kp (fun _ => False) h h') : TB H0 h' x M:=by
 obtain ⟨cs,l,hl,hr⟩:=t.r
 refine ⟨t.k.trans k,t.x0,cs,l.kp k (fun _ _ => id),hl,fun i r e => ?_⟩
 obtain ⟨l,b,h1,h2,h3,h4⟩:=hr i r e
 exact ⟨l,b,h1,h2,k.at h3 (by simp) id,h4⟩
theorem TB.app {H0 h : Heap} (h0 : Nat) {x : AV} {M : List (List AV)} {b : Nat} {cs : List AV} (t : TB H0 h x M) (hv : h.get b = .cells 1 cs.length cs) (hb : blk x ≠ some b ∧ H0.size ≤ b) (hn : M.length ≤ 1000000) :
  ∃ x1 e h2,appA (h.plus [.cells 1 1 [.slice b 0 cs.length cs.length]]) h0 none 1 24 1 [.slice b 0 cs.length cs.length] x = some (x1,e) ∧ Eff.app e (h.plus [.cells 1 1 [.slice b 0 cs.length cs.length]]) = some h2 ∧ TB H0 h2 x1 (M ++ [cs]) ∧ AV.cells x1 = some [x1]:=by
 obtain ⟨rs,lv,hl,hr⟩:=t.r
 generalize hvv : AV.slice b 0 cs.length cs.length = v
 have k1 : Kp (fun _ => False) h (h.plus [.cells 1 1 [v]]):=Kp.plus _ _
 obtain ⟨x1,e,h2,q1,q2,q3,q4,q5,q6⟩:=app_v (h.plus [.cells 1 1 [v]]) h0 24 v (lv.kp k1 (fun _ _ => id)) (by omega)
 have hsz : (h.plus [.cells 1 1 [v]]).size = h.size + 1:=by rw [plus_size]; rfl
 have hx1 : ∀ q,q < h.size → blk x ≠ some q → blk x1 ≠ some q:=fun q hq hne hx1 => by
  rcases q5 with h' | ⟨_,h'⟩
  ·rw [h'] at hx1; exact hne hx1
  ·rw [h'] at hx1; cases hx1; omega
 have hsz2:=q4.size
 refine ⟨x1,e,h2,q1,q2,⟨(t.k.trans k1).late q4 t.x0,fun q hq => ?_,rs ++ [v],q3,by simp [hl],fun i r hi => ?_⟩,q6⟩
 ·rcases q5 with h' | ⟨_,h'⟩
  ·rw [h'] at hq; exact t.x0 q hq
  ·rw [h'] at hq; cases hq; have:=t.k.size; omega
 ·by_cases hi' : i < rs.length
  ·rw [List.getElem?_append_left hi'] at hi
   obtain ⟨l',b',h1,h2',h3,h4,h5⟩:=hr i r hi
   have hlt:=get_lt h3 (by simp)
   exact ⟨l',b',by rw [List.getElem?_append_left (by omega)]; exact h1,h2',q4.at (k1.at h3 (by simp) id) (by simp) (fun q => h4 q),hx1 b' hlt h4,h5⟩
  ·rw [List.getElem?_append_right (by omega)] at hi
   have hi0 : i - rs.length = 0:=by
    rcases Nat.eq_zero_or_pos (i - rs.length) with e | e
    ·exact e
    ·rw [List.getElem?_eq_none (by simp; omega)] at hi; cases hi
   rw [hi0] at hi
   simp only [List.getElem?_cons_zero,Option.some.injEq] at hi
   subst hi
   exact ⟨cs,b,by rw [List.getElem?_append_right (by omega),← hl,hi0]; rfl,hvv.symm,q4.at (k1.at hv (by simp) id) (by simp) (fun q => hb.1 q),hx1 b (get_lt hv (by simp)) hb.1,hb.2⟩
theorem TB.sl {H0 h : Heap} {x : AV} {M : List (List AV)} (t : TB H0 h x M) {i : Nat} (hi : i < M.length) : ∃ q rs,x = .slice q 0 M.length M.length ∧ h.get q = .cells 1 M.length rs ∧ rs.length = M.length ∧ ∀ (i : Nat) cs,M[i]? = some cs → ∃ b,rs[i]? = some (.slice b 0 cs.length cs.length) ∧ h.get b = .cells 1 cs.length cs:=by
 obtain ⟨rs,lv,hl,hr⟩:=t.r
 obtain ⟨q,e1,e2⟩:=lv.sl (by intro e; rw [e] at hl; simp at hl; omega)
 rw [hl] at e1 e2
 refine ⟨q,rs,e1,e2,hl,fun i cs hc => ?_⟩
 have hi : i < rs.length:=by have:=(List.getElem?_eq_some_iff.1 hc).1; omega
 obtain ⟨cs',b,h1,h2,h3,_⟩:=hr i rs[i] (zq hi)
 rw [hc] at h1
 cases h1
 exact ⟨b,by rw [zq hi,h2],h3⟩
theorem TB.fr {h h' : Heap} {x : AV} {M : List (List AV)} (t : TB (frameOf h) h' x M) : TB h (h.plus h'.own) x M:=by
 have e:=Kp.own t.k
 obtain ⟨cs,l,hl,hr⟩:=t.r
 have hg : ∀ b,h'.get b = (h.plus h'.own).get b:=fun b => by rw [e]; exact fr_get h _ b
 refine ⟨Kp.plus _ _,t.x0,cs,?_,hl,fun i r hi => ?_⟩
 ·rcases l with l | ⟨b,rfl,g,n⟩
  ·exact .inl l
  ·have hb : h.size ≤ b:=t.x0 b rfl
   exact .inr ⟨b,rfl,(hg b).symm.trans g,by rw [plus_N]; unfold Heap.size at hb; omega⟩
 ·obtain ⟨l,b,h1,h2,h3,h4,h5⟩:=hr i r hi
  exact ⟨l,b,h1,h2,(hg b).symm.trans h3,h4,h5⟩
theorem evDraw_k (r : Rec) (k : Nat) (os : List COper) (ps : List (Nat × Nat)) (anc : List (List Nat)) (s : T) (h : Heap) : evCode r (.draw k os ps anc) s h = match runFP r.call h os s (h.plus (List.replicate k .hole)) with
  | some (s',h',fps) => if ps.all (fun p => okPair h.size (fps.getD p.1 {}) (fps.getD p.2 {})) && (fps.all (fun f => !f.eff.isAll) || bars anc fps) then some (.normal,s',h') else none
  | none => none:=rfl
theorem fill_plus0 (h : Heap) (b : Nat) (hb : h.size = b) (x : AObj) (xs : List AObj) : Eff.app (.fill b x) (h.plus (.hole :: xs)) = some (h.plus (x :: xs)):=by
 subst hb
 have h1 : ¬ h.size < h.N:=by unfold Heap.size; omega
 have h2 : h.size - h.N = h.own.length:=by unfold Heap.size; omega
 simp only [Eff.app,Heap.plus,h1,if_false,h2]
 rw [List.getElem?_append_right (by omega),Nat.sub_self]
 simp only [List.getElem?_cons_zero,Heap.setOwn_eq,h2]
 rw [List.set_append_right _ _ (by omega),Nat.sub_self]
 rfl
theorem fill_plus1 (h : Heap) (b : Nat) (hb : h.size + 1 = b) (x y : AObj) (xs : List AObj) : Eff.app (.fill b x) (h.plus (y :: .hole :: xs)) = some (h.plus (y :: x :: xs)):=by
 have:=fill_plus0 (h.plus [y]) b (by rw [plus_size]; exact hb) x xs
 rwa [plus_plus,plus_plus] at this
theorem TB.up {h : Heap} {X : List AObj} {H' : Heap} {w : AV} {L : List (List AV)} (t : TB ⟨h.get,h.size,X⟩ H' w L) : TB (frameOf h) H' w L:=by
 obtain ⟨rs,lv,hl,hr⟩:=t.r
 have ks:=(Kp.plus (M:=fun _ => False) (frameOf h) X).size
 exact ⟨(Kp.plus (frameOf h) X).trans t.k,fun q hq => Nat.le_trans ks (t.x0 q hq),rs,lv,hl,fun i r hi => by
  obtain ⟨cs,b,h1,h2,h3,h4,h5⟩:=hr i r hi
  exact ⟨cs,b,h1,h2,h3,h4,Nat.le_trans ks h5⟩⟩
theorem TB.base {H0 H1 H : Heap} {x : AV} {L : List (List AV)} (k : Kp (fun _ => False) H0 H1) (t : TB H1 H x L) : TB H0 H x L:=by
 obtain ⟨rs,lv,hl,hr⟩:=t.r
 exact ⟨k.trans t.k,fun q hq => Nat.le_trans k.size (t.x0 q hq),rs,lv,hl,fun i r hi => by
  obtain ⟨cs,b,h1,h2,h3,h4,h5⟩:=hr i r hi
  exact ⟨cs,b,h1,h2,h3,h4,Nat.le_trans k.size h5⟩⟩
theorem mapA_at {h : Heap} {b : Nat} {es : List (AV × AV)} (e : h.get b = .map es) : mapA h (.map b) = some es:=by
 unfold mapA; simp only [e]
theorem mput_gen (h : Heap) (b : Nat) (es es' : List (AV × AV)) (h1 : h.N ≤ b) (hg : h.get b = .map es) : Eff.app (.mput b es') h = some (h.upd b (.map es')):=by
 have e1 : h.own[b - h.N]? = some (.map es):=by
  unfold Heap.get at hg
  rw [if_neg (by omega),zd] at hg
  cases c : h.own[b - h.N]? with
  | none => rw [c] at hg; cases hg
  | some x => rw [c] at hg; exact congrArg some hg
 simp only [Eff.app]
 rw [if_neg (by omega),e1]
 simp only [Heap.setOwn,forceL_eq,Heap.upd]
def LT (h : Heap) (x : AV) (A : List (List Int)) : Prop:=∃ rs,((x = .nils ∧ rs = []) ∨ ∃ b,x = .slice b 0 rs.length rs.length ∧ h.get b = .cells 1 rs.length rs) ∧ rs.length = A.length ∧ ∀ (i : Nat) r,rs[i]? = some r → ∃ l,A[i]? = some l ∧ listOf h r = some l
theorem TB.lt {H0 H : Heap} {x : AV} {N : List (List Int)} (t : TB H0 H x (N.map gs)) : LT H x N:=by
 obtain ⟨rs,lv,hl,hr⟩:=t.r
 refine ⟨rs,?_,by simpa using hl,fun i r hi => ?_⟩
 ·rcases lv with l | ⟨b,e,g,_⟩
  ·exact .inl l
  ·exact .inr ⟨b,e,g⟩
 ·obtain ⟨cs,b,h1,h2,h3,_⟩:=hr i r hi
  rw [List.getElem?_map] at h1
  cases hN : N[i]? with
  | none => rw [hN] at h1; cases h1
  | some l =>
   rw [hN] at h1
   simp only [Option.map_some,Option.some.injEq] at h1
   subst h1
   exact ⟨l,rfl,by rw [h2]; exact listOf_cells h3 (by simp)⟩
theorem TG.lt {H0 H : Heap} {x : AV} {N : List (List Int)} (t : TG H0 H x N) : LT H x N:=by
 obtain ⟨rs,lv,hl,hr⟩:=t.r
 refine ⟨rs,?_,hl,fun i r hi => ?_⟩
 ·rcases lv with l | ⟨b,e,g,_⟩
  ·exact .inl l
  ·exact .inr ⟨b,e,g⟩
 ·obtain ⟨l,h1,h2,_⟩:=hr i r hi
  exact ⟨l,h1,h2⟩
theorem LT.kp {h h' : Heap} {x : AV} {A : List (List Int)} (t : LT h x A) (k : Kp (fun _ => False) h h') : LT h' x A:=by
 obtain ⟨rs,lv,hl,hr⟩:=t
 refine ⟨rs,?_,hl,fun i r hi => ?_⟩
 ·rcases lv with l | ⟨b,e,g⟩
  ·exact .inl l
  ·exact .inr ⟨b,e,k.at g (by simp) id⟩
 ·obtain ⟨l,h1,h2⟩:=hr i r hi
  exact ⟨l,h1,listOf_kp k h2 (fun _ _ => id)⟩
theorem LT.lo {h : Heap} {x : AV} {A : List (List Int)} (t : LT h x A) (own : List AObj) : LT ⟨h.get,h.size,own⟩ x A:=by
 obtain ⟨rs,lv,hl,hr⟩:=t
 refine ⟨rs,?_,hl,fun i r hi => ?_⟩
 ·rcases lv with l | ⟨b,e,g⟩
  ·exact .inl l
  ·exact .inr ⟨b,e,by rw [get_mk_lt _ _ _ _ (get_lt g (by simp))]; exact g⟩
 ·obtain ⟨l,h1,h2⟩:=hr i r hi
  exact ⟨l,h1,listOf_at h2 own⟩
end Go.Proofs.Ytljgfdamdcikgaa.Ev
set_option linter.unusedVariables false
set_option linter.unusedSimpArgs false
namespace Go.Proofs.Ytljgfdamdcikgaa.Ev
open Go Go.AEv
attribute [local simp] evFunc initS evOps_c evTrim_c evSkip_c evExit_c evRet_c evSeq_c evCond_c evBlock_c evDraw_c runOps_n runOps_c exec_n exec_g pure1_c act AOpd.ev T.get T.set T.put evBin evUn forceT_eq forceV_eq forceL_eq evRess evRes one keep runFP_n runFP_c app_none AV.flats AV.flat came_some List.getElem?_cons_zero List.getElem?_cons_succ beqT wrapI idxI tdivI tmodI decT decF ibT ibF inT inF evScope_c if_pos if_neg Cm_some thenW_n thenW_e thenW_r blkW_n blkW_e blkW_r goI kn putAt AV.cells fillA loadA takeA mk Eff.isAll Eff.isNone Eff.commutes Eff.spares okPair apart eqAgg fits LK.fits allEq aveq eqk mmA
def spec60 : SpecV
 | [.int .i64 n,.int .i64 lo,.int .i64 hi] => some (.bool (decide (lo ≤ n ∧ n ≤ hi)))
 | _ => none
theorem c60_ok (J : CallF) (hJ : ∀ a h,J 60 a h = none) (h : Heap) (n lo hi : Int) : CallsTo tbl J 60 [G n,G lo,G hi] h (.bool (decide (lo ≤ n ∧ n ≤ hi)),[],zF):=by
 refine CallsTo.plain (cf:=c60) (h':=frameOf h) (by decide) rfl (hJ _ _) rfl rfl ?_
 by_cases h1 : lo ≤ n
 ·simp [c60,c60_o0,c60_o1,kn,h1]
 ·simp [c60,c60_o0,c60_o1,kn,h1]
def T1 : CallF:=addV noIntr 60 spec60
theorem t1 : Sound zp T1:=Sound.addV follows ok Sound.empty (by decide) (fun args v h => by
 unfold spec60 at h
 split at h
 ·simp only [Option.some.injEq] at h; subst h; exact c60_ok noIntr (fun _ _ => rfl) e0 _ _ _
 ·cases h)
abbrev K60 (J : CallF) : Prop:=∀ (n lo hi : Int) (h : Heap),J 60 [G n,G lo,G hi] h = some (.bool (decide (lo ≤ n ∧ n ≤ hi)),[],zF)
theorem k60 : K60 T1:=fun n lo hi h => by simp [T1,addV,spec60]
def spec23 : SpecV
 | [] => some (.bool zT)
 | _ => none
def T2 : CallF:=addV T1 23 spec23
theorem t2 : Sound zp T2:=Sound.addV2 follows ok t1 Sound.empty (by decide) (fun args v h => by
 unfold spec23 at h
 split at h
 ·simp only [Option.some.injEq] at h; subst h; exact ⟨60,isTrue0_eq awake_run⟩
 ·cases h)
theorem k23 (h : Heap) : T2 23 [] h = some (.bool zT,[],zF):=by simp [T2,addV,spec23]
def spec104 : SpecF:=fun args h => match args with
 | [.int .i64 a] => some (.bool (!decide (0 ≤ a ∧ a ≤ 1)),h.own,zT)
 | _ => none
theorem c104_ok (J : CallF) (k60 : K60 J) (hJ : ∀ a h,J 104 a h = none) (h : Heap) (a : Int) : CallsTo tbl J 104 [G a] h (.bool (!decide (0 ≤ a ∧ a ≤ 1)),h.own,zT):=by
 refine Tr.sh (cf:=c104) (e:=.ret) (s:=T.set .leaf [] (G a)) (by decide) rfl (hJ _ _) rfl rfl (by simp) ?_
 have k:=k60 a 0 1 h
 generalize decide (0 ≤ a ∧ a ≤ 1) = b at *
 have t : Tr tbl J ((.seq c104_o0 (.seq c104_o1 .ret))) (fun s h' => s = T.set .leaf [] (G a) ∧ h' = h) .ret (fun s h' => s.get [zT] = .bool (!b) ∧ h' = h):=Tr.region fun s h hp => by
  obtain ⟨rfl,rfl⟩:=hp
  simp (disch:=omega) [c104_o0,c104_o1,zG,k]
 exact Tr.post (fun s h' q => ⟨by simp [c104,q.1],q.2⟩) t
def T3 : CallF:=addI T2 104 spec104
theorem t3 : Sound zp T3:=Sound.add follows ok t2 (by decide) (fun args h x e => by
 unfold spec104 at e
 split at e
 ·simp only [Option.some.injEq] at e; subst e; exact c104_ok T2 (fun n lo hi h => k60 n lo hi h) (fun _ _ => rfl) h _
 ·cases e)
abbrev K104 (J : CallF) : Prop:=∀ (a : Int) (h : Heap),J 104 [G a] h = some (.bool (!decide (0 ≤ a ∧ a ≤ 1)),h.own,zT)
theorem k104 : K104 T3:=fun a h => by simp [T3,addI,spec104]
def fi (p : Nat → Bool) : Nat → Nat → Int
 | _,0 => -1
 | i,j + 1 => if p i then i else fi p (i + 1) j
theorem fi_any_gen (p : Nat → Bool) : ∀ j i,-1 ≤ fi p i j ∧ (0 ≤ fi p i j ↔ ∃ k,i ≤ k ∧ k < i + j ∧ p k = zT)
 | 0,i => ⟨by simp [fi],⟨fun h => by simp [fi] at h,fun ⟨k,a,b,_⟩ => by omega⟩⟩
 | j + 1,i => by
  have ih:=fi_any_gen p j (i + 1)
  unfold fi
  cases h : p i
  ·rw [if_neg (by simp)]
   refine ⟨ih.1,ih.2.trans ⟨fun ⟨k,a,b,c⟩ => ⟨k,by omega,by omega,c⟩,fun ⟨k,a,b,c⟩ => ⟨k,?_,by omega,c⟩⟩⟩
   rcases Nat.eq_or_lt_of_le a with e | e
   ·subst e; rw [h] at c; cases c
   ·exact e
  ·rw [if_pos rfl]
   exact ⟨by omega,⟨fun _ => ⟨i,Nat.le_refl _,by omega,h⟩,fun _ => by omega⟩⟩
theorem fi_any (p : Nat → Bool) (n : Nat) : decide (0 ≤ fi p 0 n) = (List.range n).any p:=by
 rw [Bool.eq_iff_iff,decide_eq_true_iff,List.any_eq_true,(fi_any_gen p n 0).2]
 exact ⟨fun ⟨k,a,b,c⟩ => ⟨k,List.mem_range.2 (by omega),c⟩,fun ⟨k,a,c⟩ => ⟨k,by omega,by have:=List.mem_range.1 a; omega,c⟩⟩
def EL (h : Heap) (x : AV) (cs : List AV) : Prop:=((x = .nils ∨ x = .slice0) ∧ cs = []) ∨ ∃ b v,x = .slice b 0 cs.length v ∧ h.get b = .cells 1 v cs
theorem EL.lo {h : Heap} {x : AV} {cs : List AV} (e : EL h x cs) (own : List AObj) : EL ⟨h.get,h.size,own⟩ x cs:=by
 rcases e with e | ⟨b,v,rfl,g⟩
 ·exact .inl e
 ·exact .inr ⟨b,v,rfl,by rw [get_mk_lt _ _ _ _ (get_lt g (by simp))]; exact g⟩
def FindP (J : CallF) (f : Nat) (cap : List AV) (p : Nat → Bool) (cs : List AV) (h : Heap) : Prop:=∀ (i : Nat) c,cs[i]? = some c → J f (c :: cap) ⟨h.get,h.size,[]⟩ = some (.bool (p i),[],zT)
theorem lo_get (h : Heap) : (⟨h.get,h.size,[]⟩ : Heap).get = h.get:=by
 funext b
 by_cases hb : b < h.size
 ·rw [get_mk_lt _ _ _ _ hb]
 ·rw [get_mk_ge _ _ _ _ (by omega)]
  unfold Heap.size at hb
  unfold Heap.get
  rw [if_neg (by omega),zd,zd,List.getElem?_eq_none (l:=h.own) (by omega)]
  simp
theorem lo_size (h : Heap) : (⟨h.get,h.size,[]⟩ : Heap).size = h.size:=by simp [Heap.size]
theorem FindP.lo {J : CallF} {f : Nat} {cap : List AV} {p : Nat → Bool} {cs : List AV} {h : Heap} (k : FindP J f cap p cs h) : FindP J f cap p cs ⟨h.get,h.size,[]⟩:=fun i c e => by
 rw [lo_get,lo_size]; exact k i c e
section
variable {f : Nat} {cap cs : List AV} {p : Nat → Bool} {b v n : Nat}
theorem c100_loop (J : CallF) (hf0 : f ≠ 0) (h : Heap) (ha : h.get b = .cells 1 v cs) (la : cs.length = n) (hn : n < 9223372036854775808) (kp : FindP J f cap p cs h) :
  ∀ j i,i + j = n → (fi p i j = -1 → Tr tbl J c100_l0 (fun s h' => s.get [] = .slice b 0 n v ∧ s.get [zF] = .func f cap ∧ s.get [zF,zF,zF] = G n ∧ s.get [zT,zF,zF] = G i ∧ h' = ⟨h.get,h.size,[]⟩) (.exit 0) (fun s h => True)) ∧
   (fi p i j ≠ -1 → Tr tbl J c100_l0 (fun s h' => s.get [] = .slice b 0 n v ∧ s.get [zF] = .func f cap ∧ s.get [zF,zF,zF] = G n ∧ s.get [zT,zF,zF] = G i ∧ h' = ⟨h.get,h.size,[]⟩) .ret (fun s h => s.get [zT,zF] = G (fi p i j))):=by
 have h1:=get_lt ha (by simp)
 intro j
 induction j with
 | zero =>
  intro i hi'
  obtain rfl : i = n:=by omega
  refine ⟨fun _ => ?_,fun hne => absurd rfl hne⟩
  have t : Tr tbl J ((.trim [[],[zF],[zF,zF,zF],[zT,zF,zF]] c100_b0)) (fun s h' => s.get [] = .slice b 0 i v ∧ s.get [zF] = .func f cap ∧ s.get [zF,zF,zF] = G i ∧ s.get [zT,zF,zF] = G i ∧ h' = ⟨h.get,h.size,[]⟩) (.exit 0) (fun s h => True):=Tr.region fun s h hp => by
   obtain ⟨g0,g1,g2,g3,rfl⟩:=hp
   simp (disch:=first|omega|exact zE rfl|exact zO|exact zL rfl) [c100_b0,c100_o2,size_mk,get_mk_lt,get_mk_ge,frameOf,Eff.app,Heap.setOwn,g0,g1,g2,g3]
  exact Tr.out t (by simp)
 | succ j ih =>
  intro i hi'
  have xa : cs[i]? = some cs[i]:=zq (by omega)
  have kk:=kp i _ xa
  have xa':=getI xa
  generalize cs[i]'(by omega) = c at *
  have ih':=ih (i + 1) (by omega)
  show ((if p i then (i : Int) else fi p (i + 1) j) = -1 → _) ∧ ((if p i then (i : Int) else fi p (i + 1) j) ≠ -1 → Tr tbl J c100_l0 _ .ret (fun s h => s.get [zT,zF] = G (if p i then (i : Int) else fi p (i + 1) j)))
  cases hp : p i
  ·rw [hp] at kk
   have t : Tr tbl J ((.trim [[],[zF],[zF,zF,zF],[zT,zF,zF]] c100_b0)) (fun s h' => s.get [] = .slice b 0 n v ∧ s.get [zF] = .func f cap ∧ s.get [zF,zF,zF] = G n ∧ s.get [zT,zF,zF] = G i ∧ h' = ⟨h.get,h.size,[]⟩) .normal (fun s h' => s.get [] = .slice b 0 n v ∧ s.get [zF] = .func f cap ∧ s.get [zF,zF,zF] = G n ∧ s.get [zT,zF,zF] = G ((i + 1 : Nat) : Int) ∧ h' = ⟨h.get,h.size,[]⟩):=Tr.region fun s h hp => by
    obtain ⟨g0,g1,g2,g3,rfl⟩:=hp
    simp (disch:=first|omega|exact zE rfl|exact zO|exact zL rfl) [c100_b0,c100_o2,c100_o3,c100_o4,c100_o6,size_mk,get_mk_lt,get_mk_ge,frameOf,Eff.app,Heap.setOwn,g0,g1,g2,g3,ha,xa,xa',kk,hf0]
   rw [if_neg (by simp)]
   exact ⟨fun e => Tr.next t (ih'.1 e),fun e => Tr.next t (ih'.2 e)⟩
  ·rw [hp] at kk
   rw [if_pos rfl]
   refine ⟨fun e => absurd e (by omega),fun _ => ?_⟩
   have t : Tr tbl J ((.trim [[],[zF],[zF,zF,zF],[zT,zF,zF]] c100_b0)) (fun s h' => s.get [] = .slice b 0 n v ∧ s.get [zF] = .func f cap ∧ s.get [zF,zF,zF] = G n ∧ s.get [zT,zF,zF] = G i ∧ h' = ⟨h.get,h.size,[]⟩) .ret (fun s h => s.get [zT,zF] = G i):=Tr.region fun s h hp => by
    obtain ⟨g0,g1,g2,g3,rfl⟩:=hp
    simp (disch:=first|omega|exact zE rfl|exact zO|exact zL rfl) [c100_b0,c100_o2,c100_o3,c100_o4,c100_o5,size_mk,get_mk_lt,get_mk_ge,frameOf,Eff.app,Heap.setOwn,g0,g1,g2,g3,ha,xa,xa',kk,hf0]
   exact Tr.out t (by simp)
theorem c100_ok (J : CallF) (hJ : ∀ a h,J 100 a h = none) (hf0 : f ≠ 0) (h : Heap) {x : AV} (hx : EL h x cs) (hn : cs.length < 9223372036854775808) (kp : FindP J f cap p cs h) : CallsTo tbl J 100 [x,.func f cap] h (G (fi p 0 cs.length),[],zF):=by
 refine Tr.fnv (cf:=c100) (e:=.ret) (s:=T.set (T.set .leaf [] x) [zF] (.func f cap)) (by decide) rfl (hJ _ _) rfl rfl rfl (by simp) ?_
 have t0 : Tr tbl J (c100_o0) (fun s h' => s = T.set (T.set .leaf [] x) [zF] (.func f cap) ∧ h' = frameOf h) .normal (fun s h' => s.get [] = x ∧ s.get [zF] = .func f cap ∧ h' = ⟨h.get,h.size,[]⟩):=Tr.region fun s h hp => by
  obtain ⟨rfl,rfl⟩:=hp
  simp (disch:=first|omega|exact zE rfl|exact zO|exact zL rfl) [c100_o0,frameOf,Heap.size,Heap.get,Eff.app,Heap.setOwn]
 have t3 : Tr tbl J ((.seq c100_o7 .ret)) (fun s h => True) .ret (fun s h => s.get [zT,zF] = G (-1)):=Tr.region fun s h hp => by
  simp (disch:=first|omega|exact zE rfl|exact zO|exact zL rfl) [c100_o7,frameOf,Heap.size,Heap.get,Eff.app,Heap.setOwn]
 have nil : ∀ y,(y = .nils ∨ y = .slice0) → x = y → Tr tbl J (.seq c100_o1 (.block 0 c100_l0)) (fun s h' => s.get [] = x ∧ s.get [zF] = .func f cap ∧ h' = ⟨h.get,h.size,[]⟩) .normal (fun s h => True):=fun y hy e => by
  subst e
  have t1 : Tr tbl J (c100_o1) (fun s h' => s.get [] = x ∧ s.get [zF] = .func f cap ∧ h' = ⟨h.get,h.size,[]⟩) .normal (fun s h' => s.get [] = x ∧ s.get [zF] = .func f cap ∧ s.get [zF,zF,zF] = G ((0 : Nat) : Int) ∧ s.get [zT,zF,zF] = G ((0 : Nat) : Int) ∧ h' = ⟨h.get,h.size,[]⟩):=Tr.region fun s h hp => by
   obtain ⟨g0,g1,rfl⟩:=hp
   rcases hy with rfl | rfl <;> simp (disch:=first|omega|exact zE rfl|exact zO|exact zL rfl) [c100_o1,size_mk,get_mk_lt,get_mk_ge,frameOf,Eff.app,Heap.setOwn,g0,g1]
  have t2 : Tr tbl J ((.trim [[],[zF],[zF,zF,zF],[zT,zF,zF]] c100_b0)) (fun s h' => s.get [] = x ∧ s.get [zF] = .func f cap ∧ s.get [zF,zF,zF] = G ((0 : Nat) : Int) ∧ s.get [zT,zF,zF] = G ((0 : Nat) : Int) ∧ h' = ⟨h.get,h.size,[]⟩) (.exit 0) (fun s h => True):=Tr.region fun s h hp => by
   obtain ⟨g0,g1,g2,g3,rfl⟩:=hp
   simp (disch:=first|omega|exact zE rfl|exact zO|exact zL rfl) [c100_b0,c100_o2,size_mk,get_mk_lt,get_mk_ge,frameOf,Eff.app,Heap.setOwn,g0,g1,g2,g3]
  exact Tr.seq t1 (Tr.block (Tr.out t2 (by simp)))
 rcases hx with ⟨e,rfl⟩ | ⟨b,v,rfl,g⟩
 ·have t1:=nil x e rfl
  exact Tr.post (fun s h q => by simp [c100,q,fi]) (Tr.seq t0 (Tr.seq t1 t3))
 ·
  have t1 : Tr tbl J (c100_o1) (fun s h' => s.get [] = .slice b 0 cs.length v ∧ s.get [zF] = .func f cap ∧ h' = ⟨h.get,h.size,[]⟩) .normal (fun s h' => s.get [] = .slice b 0 cs.length v ∧ s.get [zF] = .func f cap ∧ s.get [zF,zF,zF] = G cs.length ∧ s.get [zT,zF,zF] = G ((0 : Nat) : Int) ∧ h' = ⟨h.get,h.size,[]⟩):=Tr.region fun s h hp => by
   obtain ⟨g0,g1,rfl⟩:=hp
   simp (disch:=first|omega|exact zE rfl|exact zO|exact zL rfl) [c100_o1,size_mk,get_mk_lt,get_mk_ge,frameOf,Eff.app,Heap.setOwn,g0,g1]
  obtain ⟨l1,l2⟩:=c100_loop J hf0 h g rfl hn kp cs.length 0 (by omega)
  by_cases e : fi p 0 cs.length = -1
  ·rw [e]
   exact Tr.post (fun s h q => by simp [c100,q]) (Tr.seq t0 (Tr.seq (Tr.seq t1 (Tr.block (l1 e))) t3))
  ·exact Tr.post (fun s h q => by simp [c100,q]) (Tr.seq t0 (Tr.seq_out (Tr.seq t1 (Tr.block_out (l2 e) (by simp))) (by simp)))
end
structure A100 where
 x : AV
 f : Nat
 cap : List AV
 cs : List AV
 p : Nat → Bool
def Ok100 (J : CallF) (a : A100) (h : Heap) : Prop:=a.f ≠ 0 ∧ EL h a.x a.cs ∧ a.cs.length < 9223372036854775808 ∧ FindP J a.f a.cap a.p a.cs h
def Pre100 (a : A100) (args : List AV) (h : Heap) : Prop:=Ok100 T3 a h ∧ args = [a.x,.func a.f a.cap]
def Post100 (a : A100) (h : Heap) (v : AV) (own : List AObj) : Prop:=v = G (fi a.p 0 a.cs.length) ∧ own = []
noncomputable def T4 : CallF:=addK tbl T3 100 Pre100 Post100
theorem t4 : Sound zp T4:=Sound.addK follows ok t3 (by decide) _ _
abbrev K100 (J0 J : CallF) : Prop:=∀ (h : Heap) (a : A100),Ok100 J0 a h → J 100 [a.x,.func a.f a.cap] h = some (G (fi a.p 0 a.cs.length),[],zF)
theorem k100 : K100 T3 T4:=fun h a ha => by
 obtain ⟨v,own,e,rfl,rfl⟩:=addK_some (Pre:=Pre100) (Post:=Post100) (fun a args h hp => by
  obtain ⟨⟨h1,h2,h3,h4⟩,rfl⟩:=hp
  exact ⟨_,_,c100_ok T3 (fun _ _ => by simp (disch:=decide) only [T1,T2,T3,addI_ne,addX_ne,addV_ne,addK_ne]; rfl) h1 h h2 h3 h4,rfl,rfl⟩) a _ h ⟨ha,rfl⟩
 exact e
theorem c80_ok (J J0 : CallF) (hJ : ∀ a h,J 80 a h = none) (k : K100 J0 J) (h : Heap) (a : A100) (ha : Ok100 J0 a h) : CallsTo tbl J 80 [a.x,.func a.f a.cap] h (.bool ((List.range a.cs.length).any a.p),[],zF):=by
 refine Tr.fnv (cf:=c80) (e:=.ret) (s:=T.set (T.set .leaf [] a.x) [zF] (.func a.f a.cap)) (by decide) rfl (hJ _ _) rfl rfl rfl (by simp) ?_
 have kk:=k ⟨h.get,h.size,[]⟩ a ⟨ha.1,ha.2.1.lo [],ha.2.2.1,ha.2.2.2.lo⟩
 have hb:=fi_any a.p a.cs.length
 rw [← hb]
 generalize fi a.p 0 a.cs.length = z at *
 generalize a.x = x at *
 generalize a.f = f at *
 generalize a.cap = cap at *
 have t : Tr tbl J ((.seq c80_o0 (.seq c80_o1 .ret))) (fun s h' => s = T.set (T.set .leaf [] x) [zF] (.func f cap) ∧ h' = frameOf h) .ret (fun s h => s.get [zT,zF] = .bool (decide (0 ≤ z))):=Tr.region fun s h hp => by
  obtain ⟨rfl,rfl⟩:=hp
  simp (disch:=first|omega|exact zE rfl|exact zO|exact zL rfl) [c80_o0,c80_o1,frameOf,size_mk,get_mk_lt,get_mk_ge,frameOf,Eff.app,Heap.setOwn,kk]
 exact Tr.post (fun s h q => by simp [c80,q]) t
def Pre80 (a : A100) (args : List AV) (h : Heap) : Prop:=Ok100 T3 a h ∧ args = [a.x,.func a.f a.cap]
def Post80 (a : A100) (h : Heap) (v : AV) (own : List AObj) : Prop:=v = .bool ((List.range a.cs.length).any a.p) ∧ own = []
noncomputable def T5 : CallF:=addK tbl T4 80 Pre80 Post80
theorem t5 : Sound zp T5:=Sound.addK follows ok t4 (by decide) _ _
abbrev K80 (J0 J : CallF) : Prop:=∀ (h : Heap) (a : A100),Ok100 J0 a h → J 80 [a.x,.func a.f a.cap] h = some (.bool ((List.range a.cs.length).any a.p),[],zF)
theorem k80 : K80 T3 T5:=fun h a ha => by
 obtain ⟨v,own,e,rfl,rfl⟩:=addK_some (Pre:=Pre80) (Post:=Post80) (fun a args h hp => by
  obtain ⟨h1,rfl⟩:=hp
  exact ⟨_,_,c80_ok T4 T3 (fun _ _ => by simp (disch:=decide) only [T1,T2,T3,T4,addI_ne,addX_ne,addV_ne,addK_ne]; rfl) k100 h a h1,rfl,rfl⟩) a _ h ⟨ha,rfl⟩
 exact e
def rowQ (q : Int) (A : List Int) : Bool:=decide ((A.length : Int) = q) && A.all fun x => decide (0 ≤ x ∧ x ≤ 1)
def tabQ (q : Int) (M : List (List Int)) : Bool:=decide ((M.length : Int) = q) && M.all (rowQ q)
def ruQ (q : Int) (B W : List (List Int)) : Bool:=decide (1 ≤ q ∧ q ≤ 3) && tabQ q B && tabQ q W
theorem any_not (A : List Int) : ((List.range A.length).any fun i => !decide (0 ≤ A.getD i 0 ∧ A.getD i 0 ≤ 1)) = !(A.all fun x => decide (0 ≤ x ∧ x ≤ 1)):=by
 rw [Bool.eq_iff_iff]
 simp only [List.any_eq_true,Bool.not_eq_true',decide_eq_false_iff_not,List.all_eq_false,decide_eq_true_eq,List.mem_range]
 constructor
 ·rintro ⟨i,hi,c⟩
  refine ⟨A[i],List.getElem_mem _,?_⟩
  rwa [zd,zq hi] at c
 ·rintro ⟨x,hx,c⟩
  obtain ⟨i,hi,rfl⟩:=List.mem_iff_getElem.1 hx
  refine ⟨i,hi,?_⟩
  rwa [zd,zq hi]
theorem LR.el {h : Heap} {x : AV} {A : List Int} (e : LR h x A) : EL h x (gs A):=by
 rcases e.cases with ⟨rfl,rfl⟩ | ⟨rfl,rfl⟩ | ⟨b,v,rfl,g⟩
 ·exact .inl ⟨.inl rfl,rfl⟩
 ·exact .inl ⟨.inr rfl,rfl⟩
 ·exact .inr ⟨b,v,by simp,g⟩
def spec103 : SpecF:=fun args h => match args with
 | [x,.ptr b 0 1] => match h.get b,lst h x with
  | .cells 0 1 [.int .i64 q],some A => if A.length < 9223372036854775808 then some (.bool (!rowQ q A),h.own,zT) else none
  | _,_ => none
 | _ => none
theorem c103_ok (J : CallF) (k80 : K80 T3 J) (hJ : ∀ a h,J 103 a h = none) (h : Heap) {x : AV} {b : Nat} {q : Int} {A : List Int} (gb : h.get b = .cells 0 1 [G q]) (hx : LR h x A) (hn : A.length < 9223372036854775808) : CallsTo tbl J 103 [x,.ptr b 0 1] h (.bool (!rowQ q A),h.own,zT):=by
 refine Tr.sh (cf:=c103) (e:=.ret) (s:=T.set (T.set .leaf [] x) [zF] (.ptr b 0 1)) (by decide) rfl (hJ _ _) rfl rfl (by simp) ?_
 have kk:=k80 h ⟨x,104,[],gs A,fun i => !decide (0 ≤ A.getD i 0 ∧ A.getD i 0 ≤ 1)⟩ ⟨show (104 : Nat) ≠ 0 by decide,LR.el hx,by simpa using hn,fun i c e => by
  rw [List.getElem?_map,Option.map_eq_some_iff] at e
  obtain ⟨a,e,rfl⟩:=e
  rw [k104]
  show _ = some (AV.bool !decide (0 ≤ A.getD i 0 ∧ A.getD i 0 ≤ 1),[],zT)
  rw [zd,e]; rfl⟩
 simp only [List.length_map,any_not] at kk
 have er : rowQ q A = (decide ((A.length : Int) = q) && A.all fun x => decide (0 ≤ x ∧ x ≤ 1)):=rfl
 rw [er]
 have hs:=LR.sl hx
 generalize (A.all fun x => decide (0 ≤ x ∧ x ≤ 1)) = z at *
 generalize A.length = n at *
 by_cases c : (n : Int) = q
 ·rw [decide_eq_true c]
  have c' : (n : Int) = q:=c
  have t : Tr tbl J ((.seq c103_o0 (.seq c103_o1 .ret))) (fun s h' => s = T.set (T.set .leaf [] x) [zF] (.ptr b 0 1) ∧ h' = h) .ret (fun s h' => s.get [zF,zF] = .bool (!z) ∧ h' = h):=Tr.region fun s h hp => by
   obtain ⟨rfl,rfl⟩:=hp
   rcases hs with ⟨rfl,e⟩ | ⟨rfl,e⟩ | ⟨b2,v2,rfl⟩ <;> (try subst e) <;> simp (disch:=omega) [c103_o0,c103_o1,zG,gb,kk,c']
  exact Tr.post (fun s h' q => ⟨by simp [c103,q.1],q.2⟩) t
 ·rw [decide_eq_false c]
  have c' : ¬ (n : Int) = q:=c
  have t : Tr tbl J ((.seq c103_o0 (.seq c103_o1 .ret))) (fun s h' => s = T.set (T.set .leaf [] x) [zF] (.ptr b 0 1) ∧ h' = h) .ret (fun s h' => s.get [zF,zF] = .bool zT ∧ h' = h):=Tr.region fun s h hp => by
   obtain ⟨rfl,rfl⟩:=hp
   rcases hs with ⟨rfl,e⟩ | ⟨rfl,e⟩ | ⟨b2,v2,rfl⟩ <;> (try subst e) <;> simp (disch:=omega) [c103_o0,c103_o1,zG,gb,c']
  exact Tr.post (fun s h' q => ⟨by simp [c103,q.1],q.2⟩) t
noncomputable def T6 : CallF:=addI T5 103 spec103
theorem t6 : Sound zp T6:=Sound.add follows ok t5 (by decide) (fun args h x e => by
 unfold spec103 at e
 split at e
 ·split at e
  ·rename_i g1 g2
   split at e
   ·rename_i hn
    simp only [Option.some.injEq] at e; subst e
    exact c103_ok T5 k80 (fun _ _ => by simp (disch:=decide) only [T1,T2,T3,T4,T5,addI_ne,addX_ne,addV_ne,addK_ne]; rfl) h g1 (lst_lr.1 g2) hn
   ·cases e
  ·cases e
 ·cases e)
abbrev K103 (J : CallF) : Prop:=∀ (h : Heap) (x : AV) (b : Nat) (q : Int) (A : List Int),h.get b = .cells 0 1 [G q] → LR h x A → A.length < 9223372036854775808 → J 103 [x,.ptr b 0 1] h = some (.bool (!rowQ q A),h.own,zT)
theorem k103 : K103 T6:=fun h x b q A g hx hn => by simp only [T6,addI,if_true,spec103,g,lst_lr.2 hx,if_pos hn]
section
variable {f : Nat} {cap cs : List AV} {p : Nat → Bool} {b v n : Nat}
theorem c111_loop (J : CallF) (hf0 : f ≠ 0) (h : Heap) (ha : h.get b = .cells 1 v cs) (la : cs.length = n) (hn : n < 9223372036854775808) (kp : FindP J f cap p cs h) :
  ∀ j i,i + j = n → (fi p i j = -1 → Tr tbl J c111_l0 (fun s h' => s.get [] = .slice b 0 n v ∧ s.get [zF] = .func f cap ∧ s.get [zF,zF,zF] = G n ∧ s.get [zT,zF,zF] = G i ∧ h' = ⟨h.get,h.size,[]⟩) (.exit 0) (fun s h => True)) ∧
   (fi p i j ≠ -1 → Tr tbl J c111_l0 (fun s h' => s.get [] = .slice b 0 n v ∧ s.get [zF] = .func f cap ∧ s.get [zF,zF,zF] = G n ∧ s.get [zT,zF,zF] = G i ∧ h' = ⟨h.get,h.size,[]⟩) .ret (fun s h => s.get [zT,zF] = G (fi p i j))):=by
 have h1:=get_lt ha (by simp)
 intro j
 induction j with
 | zero =>
  intro i hi'
  obtain rfl : i = n:=by omega
  refine ⟨fun _ => ?_,fun hne => absurd rfl hne⟩
  have t : Tr tbl J ((.trim [[],[zF],[zF,zF,zF],[zT,zF,zF]] c111_b0)) (fun s h' => s.get [] = .slice b 0 i v ∧ s.get [zF] = .func f cap ∧ s.get [zF,zF,zF] = G i ∧ s.get [zT,zF,zF] = G i ∧ h' = ⟨h.get,h.size,[]⟩) (.exit 0) (fun s h => True):=Tr.region fun s h hp => by
   obtain ⟨g0,g1,g2,g3,rfl⟩:=hp
   simp (disch:=first|omega|exact zE rfl|exact zO|exact zL rfl) [c111_b0,c111_o2,size_mk,get_mk_lt,get_mk_ge,frameOf,Eff.app,Heap.setOwn,g0,g1,g2,g3]
  exact Tr.out t (by simp)
 | succ j ih =>
  intro i hi'
  have xa : cs[i]? = some cs[i]:=zq (by omega)
  have kk:=kp i _ xa
  have xa':=getI xa
  generalize cs[i]'(by omega) = c at *
  have ih':=ih (i + 1) (by omega)
  show ((if p i then (i : Int) else fi p (i + 1) j) = -1 → _) ∧ ((if p i then (i : Int) else fi p (i + 1) j) ≠ -1 → Tr tbl J c111_l0 _ .ret (fun s h => s.get [zT,zF] = G (if p i then (i : Int) else fi p (i + 1) j)))
  cases hp : p i
  ·rw [hp] at kk
   have t : Tr tbl J ((.trim [[],[zF],[zF,zF,zF],[zT,zF,zF]] c111_b0)) (fun s h' => s.get [] = .slice b 0 n v ∧ s.get [zF] = .func f cap ∧ s.get [zF,zF,zF] = G n ∧ s.get [zT,zF,zF] = G i ∧ h' = ⟨h.get,h.size,[]⟩) .normal (fun s h' => s.get [] = .slice b 0 n v ∧ s.get [zF] = .func f cap ∧ s.get [zF,zF,zF] = G n ∧ s.get [zT,zF,zF] = G ((i + 1 : Nat) : Int) ∧ h' = ⟨h.get,h.size,[]⟩):=Tr.region fun s h hp => by
    obtain ⟨g0,g1,g2,g3,rfl⟩:=hp
    simp (disch:=first|omega|exact zE rfl|exact zO|exact zL rfl) [c111_b0,c111_o2,c111_o3,c111_o4,c111_o6,size_mk,get_mk_lt,get_mk_ge,frameOf,Eff.app,Heap.setOwn,g0,g1,g2,g3,ha,xa,xa',kk,hf0]
   rw [if_neg (by simp)]
   exact ⟨fun e => Tr.next t (ih'.1 e),fun e => Tr.next t (ih'.2 e)⟩
  ·rw [hp] at kk
   rw [if_pos rfl]
   refine ⟨fun e => absurd e (by omega),fun _ => ?_⟩
   have t : Tr tbl J ((.trim [[],[zF],[zF,zF,zF],[zT,zF,zF]] c111_b0)) (fun s h' => s.get [] = .slice b 0 n v ∧ s.get [zF] = .func f cap ∧ s.get [zF,zF,zF] = G n ∧ s.get [zT,zF,zF] = G i ∧ h' = ⟨h.get,h.size,[]⟩) .ret (fun s h => s.get [zT,zF] = G i):=Tr.region fun s h hp => by
    obtain ⟨g0,g1,g2,g3,rfl⟩:=hp
    simp (disch:=first|omega|exact zE rfl|exact zO|exact zL rfl) [c111_b0,c111_o2,c111_o3,c111_o4,c111_o5,size_mk,get_mk_lt,get_mk_ge,frameOf,Eff.app,Heap.setOwn,g0,g1,g2,g3,ha,xa,xa',kk,hf0]
   exact Tr.out t (by simp)
theorem c111_ok (J : CallF) (hJ : ∀ a h,J 111 a h = none) (hf0 : f ≠ 0) (h : Heap) {x : AV} (hx : EL h x cs) (hn : cs.length < 9223372036854775808) (kp : FindP J f cap p cs h) : CallsTo tbl J 111 [x,.func f cap] h (G (fi p 0 cs.length),[],zF):=by
 refine Tr.fnv (cf:=c111) (e:=.ret) (s:=T.set (T.set .leaf [] x) [zF] (.func f cap)) (by decide) rfl (hJ _ _) rfl rfl rfl (by simp) ?_
 have t0 : Tr tbl J (c111_o0) (fun s h' => s = T.set (T.set .leaf [] x) [zF] (.func f cap) ∧ h' = frameOf h) .normal (fun s h' => s.get [] = x ∧ s.get [zF] = .func f cap ∧ h' = ⟨h.get,h.size,[]⟩):=Tr.region fun s h hp => by
  obtain ⟨rfl,rfl⟩:=hp
  simp (disch:=first|omega|exact zE rfl|exact zO|exact zL rfl) [c111_o0,frameOf,Heap.size,Heap.get,Eff.app,Heap.setOwn]
 have t3 : Tr tbl J ((.seq c111_o7 .ret)) (fun s h => True) .ret (fun s h => s.get [zT,zF] = G (-1)):=Tr.region fun s h hp => by
  simp (disch:=first|omega|exact zE rfl|exact zO|exact zL rfl) [c111_o7,frameOf,Heap.size,Heap.get,Eff.app,Heap.setOwn]
 have nil : ∀ y,(y = .nils ∨ y = .slice0) → x = y → Tr tbl J (.seq c111_o1 (.block 0 c111_l0)) (fun s h' => s.get [] = x ∧ s.get [zF] = .func f cap ∧ h' = ⟨h.get,h.size,[]⟩) .normal (fun s h => True):=fun y hy e => by
  subst e
  have t1 : Tr tbl J (c111_o1) (fun s h' => s.get [] = x ∧ s.get [zF] = .func f cap ∧ h' = ⟨h.get,h.size,[]⟩) .normal (fun s h' => s.get [] = x ∧ s.get [zF] = .func f cap ∧ s.get [zF,zF,zF] = G ((0 : Nat) : Int) ∧ s.get [zT,zF,zF] = G ((0 : Nat) : Int) ∧ h' = ⟨h.get,h.size,[]⟩):=Tr.region fun s h hp => by
   obtain ⟨g0,g1,rfl⟩:=hp
   rcases hy with rfl | rfl <;> simp (disch:=first|omega|exact zE rfl|exact zO|exact zL rfl) [c111_o1,size_mk,get_mk_lt,get_mk_ge,frameOf,Eff.app,Heap.setOwn,g0,g1]
  have t2 : Tr tbl J ((.trim [[],[zF],[zF,zF,zF],[zT,zF,zF]] c111_b0)) (fun s h' => s.get [] = x ∧ s.get [zF] = .func f cap ∧ s.get [zF,zF,zF] = G ((0 : Nat) : Int) ∧ s.get [zT,zF,zF] = G ((0 : Nat) : Int) ∧ h' = ⟨h.get,h.size,[]⟩) (.exit 0) (fun s h => True):=Tr.region fun s h hp => by
   obtain ⟨g0,g1,g2,g3,rfl⟩:=hp
   simp (disch:=first|omega|exact zE rfl|exact zO|exact zL rfl) [c111_b0,c111_o2,size_mk,get_mk_lt,get_mk_ge,frameOf,Eff.app,Heap.setOwn,g0,g1,g2,g3]
  exact Tr.seq t1 (Tr.block (Tr.out t2 (by simp)))
 rcases hx with ⟨e,rfl⟩ | ⟨b,v,rfl,g⟩
 ·have t1:=nil x e rfl
  exact Tr.post (fun s h q => by simp [c111,q,fi]) (Tr.seq t0 (Tr.seq t1 t3))
 ·
  have t1 : Tr tbl J (c111_o1) (fun s h' => s.get [] = .slice b 0 cs.length v ∧ s.get [zF] = .func f cap ∧ h' = ⟨h.get,h.size,[]⟩) .normal (fun s h' => s.get [] = .slice b 0 cs.length v ∧ s.get [zF] = .func f cap ∧ s.get [zF,zF,zF] = G cs.length ∧ s.get [zT,zF,zF] = G ((0 : Nat) : Int) ∧ h' = ⟨h.get,h.size,[]⟩):=Tr.region fun s h hp => by
   obtain ⟨g0,g1,rfl⟩:=hp
   simp (disch:=first|omega|exact zE rfl|exact zO|exact zL rfl) [c111_o1,size_mk,get_mk_lt,get_mk_ge,frameOf,Eff.app,Heap.setOwn,g0,g1]
  obtain ⟨l1,l2⟩:=c111_loop J hf0 h g rfl hn kp cs.length 0 (by omega)
  by_cases e : fi p 0 cs.length = -1
  ·rw [e]
   exact Tr.post (fun s h q => by simp [c111,q]) (Tr.seq t0 (Tr.seq (Tr.seq t1 (Tr.block (l1 e))) t3))
  ·exact Tr.post (fun s h q => by simp [c111,q]) (Tr.seq t0 (Tr.seq_out (Tr.seq t1 (Tr.block_out (l2 e) (by simp))) (by simp)))
end
structure A111 where
 x : AV
 f : Nat
 cap : List AV
 cs : List AV
 p : Nat → Bool
def Ok111 (J : CallF) (a : A111) (h : Heap) : Prop:=a.f ≠ 0 ∧ EL h a.x a.cs ∧ a.cs.length < 9223372036854775808 ∧ FindP J a.f a.cap a.p a.cs h
def Pre111 (a : A111) (args : List AV) (h : Heap) : Prop:=Ok111 T6 a h ∧ args = [a.x,.func a.f a.cap]
def Post111 (a : A111) (h : Heap) (v : AV) (own : List AObj) : Prop:=v = G (fi a.p 0 a.cs.length) ∧ own = []
noncomputable def T7 : CallF:=addK tbl T6 111 Pre111 Post111
theorem t7 : Sound zp T7:=Sound.addK follows ok t6 (by decide) _ _
abbrev K111 (J0 J : CallF) : Prop:=∀ (h : Heap) (a : A111),Ok111 J0 a h → J 111 [a.x,.func a.f a.cap] h = some (G (fi a.p 0 a.cs.length),[],zF)
theorem k111 : K111 T6 T7:=fun h a ha => by
 obtain ⟨v,own,e,rfl,rfl⟩:=addK_some (Pre:=Pre111) (Post:=Post111) (fun a args h hp => by
  obtain ⟨⟨h1,h2,h3,h4⟩,rfl⟩:=hp
  exact ⟨_,_,c111_ok T6 (fun _ _ => by simp (disch:=decide) only [T1,T2,T3,T4,T5,T6,addI_ne,addX_ne,addV_ne,addK_ne]; rfl) h1 h h2 h3 h4,rfl,rfl⟩) a _ h ⟨ha,rfl⟩
 exact e
theorem c102_ok (J J0 : CallF) (hJ : ∀ a h,J 102 a h = none) (k : K111 J0 J) (h : Heap) (a : A111) (ha : Ok111 J0 a h) : CallsTo tbl J 102 [a.x,.func a.f a.cap] h (.bool ((List.range a.cs.length).any a.p),[],zF):=by
 refine Tr.fnv (cf:=c102) (e:=.ret) (s:=T.set (T.set .leaf [] a.x) [zF] (.func a.f a.cap)) (by decide) rfl (hJ _ _) rfl rfl rfl (by simp) ?_
 have kk:=k ⟨h.get,h.size,[]⟩ a ⟨ha.1,ha.2.1.lo [],ha.2.2.1,ha.2.2.2.lo⟩
 have hb:=fi_any a.p a.cs.length
 rw [← hb]
 generalize fi a.p 0 a.cs.length = z at *
 generalize a.x = x at *
 generalize a.f = f at *
 generalize a.cap = cap at *
 have t : Tr tbl J ((.seq c102_o0 (.seq c102_o1 .ret))) (fun s h' => s = T.set (T.set .leaf [] x) [zF] (.func f cap) ∧ h' = frameOf h) .ret (fun s h => s.get [zT,zF] = .bool (decide (0 ≤ z))):=Tr.region fun s h hp => by
  obtain ⟨rfl,rfl⟩:=hp
  simp (disch:=first|omega|exact zE rfl|exact zO|exact zL rfl) [c102_o0,c102_o1,frameOf,size_mk,get_mk_lt,get_mk_ge,frameOf,Eff.app,Heap.setOwn,kk]
 exact Tr.post (fun s h q => by simp [c102,q]) t
def Pre102 (a : A111) (args : List AV) (h : Heap) : Prop:=Ok111 T6 a h ∧ args = [a.x,.func a.f a.cap]
def Post102 (a : A111) (h : Heap) (v : AV) (own : List AObj) : Prop:=v = .bool ((List.range a.cs.length).any a.p) ∧ own = []
noncomputable def T8 : CallF:=addK tbl T7 102 Pre102 Post102
theorem t8 : Sound zp T8:=Sound.addK follows ok t7 (by decide) _ _
abbrev K102 (J0 J : CallF) : Prop:=∀ (h : Heap) (a : A111),Ok111 J0 a h → J 102 [a.x,.func a.f a.cap] h = some (.bool ((List.range a.cs.length).any a.p),[],zF)
theorem k102 : K102 T6 T8:=fun h a ha => by
 obtain ⟨v,own,e,rfl,rfl⟩:=addK_some (Pre:=Pre102) (Post:=Post102) (fun a args h hp => by
  obtain ⟨h1,rfl⟩:=hp
  exact ⟨_,_,c102_ok T7 T6 (fun _ _ => by simp (disch:=decide) only [T1,T2,T3,T4,T5,T6,T7,addI_ne,addX_ne,addV_ne,addK_ne]; rfl) k111 h a h1,rfl,rfl⟩) a _ h ⟨ha,rfl⟩
 exact e
end Go.Proofs.Ytljgfdamdcikgaa.Ev
set_option linter.unusedVariables false
set_option linter.unusedSimpArgs false
namespace Go.Proofs.Ytljgfdamdcikgaa.Ev
open Go Go.AEv
def af (p : Nat → Bool) : Nat → Nat → Bool
 | _,0 => zT
 | i,j + 1 => p i && af p (i + 1) j
theorem af_iff (p : Nat → Bool) : ∀ j i,af p i j = zT ↔ ∀ k,i ≤ k → k < i + j → p k = zT
 | 0,i => ⟨fun _ k a b => by omega,fun _ => rfl⟩
 | j + 1,i => by
  unfold af
  rw [Bool.and_eq_true,af_iff p j (i + 1)]
  constructor
  ·rintro ⟨a,b⟩ k c d
   rcases Nat.eq_or_lt_of_le c with e | e
   ·subst e; exact a
   ·exact b k e (by omega)
  ·intro a
   exact ⟨a i (Nat.le_refl _) (by omega),fun k c d => a k (by omega) (by omega)⟩
theorem af_range (p : Nat → Bool) (n : Nat) : af p 0 n = (List.range n).all p:=by
 rw [Bool.eq_iff_iff,af_iff,List.all_eq_true]
 exact ⟨fun h k c => h k (Nat.zero_le _) (by have:=List.mem_range.1 c; omega),fun h k _ c => h k (List.mem_range.2 (by omega))⟩
theorem all_range {α : Type} (l : List α) (d : α) (p : α → Bool) : (List.range l.length).all (fun i => p (l.getD i d)) = l.all p:=by
 rw [Bool.eq_iff_iff,List.all_eq_true,List.all_eq_true]
 constructor
 ·intro h x hx
  obtain ⟨i,hi,rfl⟩:=List.mem_iff_getElem.1 hx
  have:=h i (List.mem_range.2 hi)
  rwa [zd,zq hi] at this
 ·intro h i hi
  have hi:=List.mem_range.1 hi
  rw [zd,zq hi]
  exact h _ (List.getElem_mem _)
theorem any_not_all {α : Type} (l : List α) (d : α) (p : α → Bool) : (List.range l.length).any (fun i => !p (l.getD i d)) = !l.all p:=by
 rw [← all_range l d p,Bool.eq_iff_iff]
 simp
section
variable {tbl : Nat → Option CFunc} {I : CallF} {c : CCode} {live : List Path} {P : Nat → SP} {Q R : SP} {p : Nat → Bool} {e1 e2 : AExit}
theorem Tr.allT (M : Nat) (step : ∀ i,i < M → p i = zT → Tr tbl I (.trim live c) (P i) .normal (P (i + 1))) (fin : Tr tbl I (.trim live c) (P M) e1 Q) (h1 : e1 ≠ .normal) : ∀ j i,i + j = M → af p i j = zT → Tr tbl I (.loop live c) (P i) e1 Q
 | 0, i, h, _ => by obtain rfl : i = M := by omega
                    exact Tr.out fin h1
 | j + 1,i,h,a => by
  unfold af at a
  rw [Bool.and_eq_true] at a
  exact Tr.next (step i (by omega) a.1) (Tr.allT M step fin h1 j (i + 1) (by omega) a.2)
theorem Tr.allF (M : Nat) (step : ∀ i,i < M → p i = zT → Tr tbl I (.trim live c) (P i) .normal (P (i + 1))) (brk : ∀ i,i < M → p i = zF → Tr tbl I (.trim live c) (P i) e2 R) (h2 : e2 ≠ .normal) : ∀ j i,i + j = M → af p i j = zF → Tr tbl I (.loop live c) (P i) e2 R
 | 0,i,h,a => by cases a
 | j + 1,i,h,a => by
  cases hp : p i
  ·exact Tr.out (brk i (by omega) hp) h2
  ·unfold af at a
   rw [hp,Bool.true_and] at a
   exact Tr.next (step i (by omega) hp) (Tr.allF M step brk h2 j (i + 1) (by omega) a)
end
end Go.Proofs.Ytljgfdamdcikgaa.Ev
set_option linter.unusedVariables false
set_option linter.unusedSimpArgs false
namespace Go.Proofs.Ytljgfdamdcikgaa.Ev
open Go Go.AEv
attribute [local simp] evFunc initS evOps_c evTrim_c evSkip_c evExit_c evRet_c evSeq_c evCond_c evBlock_c evDraw_c runOps_n runOps_c exec_n exec_g pure1_c act AOpd.ev T.get T.set T.put evBin evUn forceT_eq forceV_eq forceL_eq evRess evRes one keep runFP_n runFP_c app_none AV.flats AV.flat came_some List.getElem?_cons_zero List.getElem?_cons_succ beqT wrapI idxI tdivI tmodI decT decF ibT ibF inT inF evScope_c if_pos if_neg Cm_some thenW_n thenW_e thenW_r blkW_n blkW_e blkW_r goI kn putAt AV.cells fillA loadA takeA mk Eff.isAll Eff.isNone Eff.commutes Eff.spares okPair apart eqAgg fits LK.fits allEq aveq eqk mmA
theorem MR.el {h : Heap} {y : AV} {M : List (List Int)} (m : MR h y M) : ∃ cs,EL h y cs ∧ cs.length = M.length ∧ ∀ (i : Nat) r,cs[i]? = some r → LR h r (M.getD i []):=by
 rcases m with ⟨e,rfl⟩ | ⟨b,v,cs,rfl,g,hl,hr⟩
 ·exact ⟨[],.inl ⟨e,rfl⟩,rfl,fun i r h => by simp at h⟩
 ·refine ⟨cs,.inr ⟨b,v,by rw [hl],g⟩,hl,fun i r e => ?_⟩
  obtain ⟨l,h1,h2⟩:=hr i r e
  rw [zd,h1]; exact h2
def smallM (M : List (List Int)) : Prop:=M.length ≤ 1000000 ∧ ∀ i,(M.getD i []).length ≤ 1000000
theorem c87_ok (J : CallF) (k102 : K102 T6 J) (hJ : ∀ a h,J 87 a h = none) (h : Heap) {y : AV} {q : Int} {M : List (List Int)} (hy : MR h y M) (sm : smallM M) : CallsTo tbl J 87 [y,G q] h (.bool (tabQ q M),[],zF):=by
 refine Tr.fnv (cf:=c87) (e:=.ret) (s:=T.set (T.set .leaf [] y) [zF] (G q)) (by decide) rfl (hJ _ _) rfl rfl rfl (by simp) ?_
 have hs:=hy.sl
 have hy0 : MR (⟨h.get,h.size,[]⟩ : Heap) y M:=hy.lo []
 have hy1:=hy0.kp (Kp.plus (⟨h.get,h.size,[]⟩ : Heap) [.cells 0 1 [G q]])
 obtain ⟨cs,el,hl,hr⟩:=hy1.el
 have e1 : (Heap.plus ⟨h.get,h.size,[]⟩ [.cells 0 1 [G q]]) = (⟨h.get,h.size,[.cells 0 1 [G q]]⟩ : Heap):=rfl
 rw [e1] at el hr
 have gq : (⟨h.get,h.size,[.cells 0 1 [G q]]⟩ : Heap).get h.size = .cells 0 1 [G q]:=by rw [get_mk_ge _ _ _ _ (Nat.le_refl _)]; simp
 have kk:=k102 ⟨h.get,h.size,[.cells 0 1 [G q]]⟩ ⟨y,103,[.ptr h.size 0 1],cs,fun i => !rowQ q (M.getD i [])⟩ ⟨show (103 : Nat) ≠ 0 by decide,el,by show cs.length < _; have:=sm.1; omega,fun i c e => by
  exact k103 _ c h.size q (M.getD i []) (by rw [get_mk_lt _ _ _ _ (get_lt gq (by simp))]; exact gq) (LR.lo (hr i c e) []) (by have:=sm.2 i; omega)⟩
 simp only [hl] at kk
 rw [any_not_all] at kk
 have er : tabQ q M = (decide ((M.length : Int) = q) && M.all (rowQ q)):=rfl
 rw [er]
 generalize M.all (rowQ q) = z at *
 generalize M.length = n at *
 clear el hr hl gq hy1 hy0 hy
 by_cases c : (n : Int) = q
 ·rw [decide_eq_true c]
  have c' : (n : Int) = q:=c
  have t : Tr tbl J ((.seq c87_o0 (.seq c87_o1 .ret))) (fun s h' => s = T.set (T.set .leaf [] y) [zF] (G q) ∧ h' = frameOf h) .ret (fun s h => s.get [zT,zF] = .bool z):=Tr.region fun s h hp => by
   obtain ⟨rfl,rfl⟩:=hp
   rcases hs with ⟨rfl,e⟩ | ⟨rfl,e⟩ | ⟨b2,v2,rfl⟩ <;> (try subst e) <;> simp (disch:=first|omega|exact zE rfl|exact zO|exact zL rfl) [c87_o0,c87_o1,frameOf,size_mk,get_mk_lt,get_mk_ge,frameOf,Eff.app,Heap.setOwn,kk,c']
  exact Tr.post (fun s h' q => by simp [c87,q]) t
 ·rw [decide_eq_false c]
  have c' : ¬ (n : Int) = q:=c
  have t : Tr tbl J ((.seq c87_o0 (.seq c87_o1 .ret))) (fun s h' => s = T.set (T.set .leaf [] y) [zF] (G q) ∧ h' = frameOf h) .ret (fun s h => s.get [zT,zF] = .bool zF):=Tr.region fun s h hp => by
   obtain ⟨rfl,rfl⟩:=hp
   rcases hs with ⟨rfl,e⟩ | ⟨rfl,e⟩ | ⟨b2,v2,rfl⟩ <;> (try subst e) <;> simp (disch:=first|omega|exact zE rfl|exact zO|exact zL rfl) [c87_o0,c87_o1,frameOf,size_mk,get_mk_lt,get_mk_ge,frameOf,Eff.app,Heap.setOwn,c']
  exact Tr.post (fun s h' q => by simp [c87,q]) t
structure AT where
 y : AV
 q : Int
 M : List (List Int)
def Pre87 (a : AT) (args : List AV) (h : Heap) : Prop:=(MR h a.y a.M ∧ smallM a.M) ∧ args = [a.y,G a.q]
def Post87 (a : AT) (h : Heap) (v : AV) (own : List AObj) : Prop:=v = .bool (tabQ a.q a.M) ∧ own = []
noncomputable def T9 : CallF:=addK tbl T8 87 Pre87 Post87
theorem t9 : Sound zp T9:=Sound.addK follows ok t8 (by decide) _ _
abbrev K87 (J : CallF) : Prop:=∀ (h : Heap) (y : AV) (q : Int) (M : List (List Int)),MR h y M → smallM M → J 87 [y,G q] h = some (.bool (tabQ q M),[],zF)
theorem k87 : K87 T9:=fun h y q M hy sm => by
 obtain ⟨v,own,e,rfl,rfl⟩:=addK_some (Pre:=Pre87) (Post:=Post87) (fun a args h hp => by
  obtain ⟨⟨h1,h2⟩,rfl⟩:=hp
  exact ⟨_,_,c87_ok T8 k102 (fun _ _ => by simp (disch:=decide) only [T1,T2,T3,T4,T5,T6,T7,T8,addI_ne,addX_ne,addV_ne,addK_ne]; rfl) h h1 h2,rfl,rfl⟩) ⟨y,q,M⟩ _ h ⟨⟨hy,sm⟩,rfl⟩
 exact e
theorem c57_ok (J : CallF) (k60 : K60 J) (k87 : K87 J) (hJ : ∀ a h,J 57 a h = none) (h : Heap) {x y : AV} {q : Int} {B W : List (List Int)} (hx : MR h x B) (hy : MR h y W) (sb : smallM B) (sw : smallM W) : CallsTo tbl J 57 [.agg [G q,x,y]] h (.bool (ruQ q B W),[],zF):=by
 refine Tr.fnv (cf:=c57) (e:=.ret) (s:=T.set .leaf [] (.agg [G q,x,y])) (by decide) rfl (hJ _ _) rfl rfl rfl (by simp) ?_
 have kx:=k87 ⟨h.get,h.size,[.cells 0 3 [G q,x,y]]⟩ x q B (hx.lo _) sb
 have ky:=k87 ⟨h.get,h.size,[.cells 0 3 [G q,x,y]]⟩ y q W (hy.lo _) sw
 have kw:=k60 q 1 3 ⟨h.get,h.size,[.cells 0 3 [G q,x,y]]⟩
 unfold ruQ
 generalize decide (1 ≤ q ∧ q ≤ 3) = b1 at *
 generalize tabQ q B = b2 at *
 generalize tabQ q W = b3 at *
 refine Tr.post (Q:=(fun s h => s.get [zT] = .bool (b1 && b2 && b3))) (fun s h q => by simp [c57,q]) ?_
 have t : Tr tbl J ((.seq c57_o0 (.seq c57_o1 .ret))) (fun s h' => s = T.set .leaf [] (.agg [G q,x,y]) ∧ h' = frameOf h) .ret (fun s h => s.get [zT] = .bool (b1 && b2 && b3)):=Tr.region fun s h hp => by
  obtain ⟨rfl,rfl⟩:=hp
  cases b1 <;> cases b2 <;> simp (disch:=first|omega|exact zE rfl|exact zO|exact zL rfl) [c57_o0,c57_o1,frameOf,size_mk,get_mk_lt,get_mk_ge,frameOf,Eff.app,Heap.setOwn,kx,ky,kw]
 exact t
structure AR where
 q : Int
 x : AV
 y : AV
 B : List (List Int)
 W : List (List Int)
def OkR (a : AR) (h : Heap) : Prop:=MR h a.x a.B ∧ MR h a.y a.W ∧ smallM a.B ∧ smallM a.W
def PreR (a : AR) (args : List AV) (h : Heap) : Prop:=OkR a h ∧ args = [.agg [G a.q,a.x,a.y]]
def PostR (a : AR) (h : Heap) (v : AV) (own : List AObj) : Prop:=v = .bool (ruQ a.q a.B a.W) ∧ own = []
noncomputable def T10 : CallF:=addK tbl T9 57 PreR PostR
theorem t10 : Sound zp T10:=Sound.addK follows ok t9 (by decide) _ _
abbrev KR (f : Nat) (J : CallF) : Prop:=∀ (h : Heap) (a : AR),OkR a h → J f [.agg [G a.q,a.x,a.y]] h = some (.bool (ruQ a.q a.B a.W),[],zF)
theorem k60_9 : K60 T9:=fun n lo hi h => by
 simp (disch:=decide) only [T1,T2,T3,T4,T5,T6,T7,T8,T9,addI_ne,addX_ne,addV_ne,addK_ne]
 exact k60 n lo hi h
theorem k57 : KR 57 T10:=fun h a ha => by
 obtain ⟨v,own,e,rfl,rfl⟩:=addK_some (Pre:=PreR) (Post:=PostR) (fun a args h hp => by
  obtain ⟨⟨h1,h2,h3,h4⟩,rfl⟩:=hp
  exact ⟨_,_,c57_ok T9 k60_9 k87 (fun _ _ => by simp (disch:=decide) only [T1,T2,T3,T4,T5,T6,T7,T8,T9,addI_ne,addX_ne,addV_ne,addK_ne]; rfl) h h1 h2 h3 h4,rfl,rfl⟩) a _ h ⟨ha,rfl⟩
 exact e
theorem gs_at (A : List Int) {k : Nat} (hk : k < A.length) : (gs A)[k]? = some (G (A.getD k 0)):=by
 rw [List.getElem?_map,zd,zq hk]; rfl
section
variable {H : Heap} {b v n : Nat} {cs : List AV}
end
def Pre67 (a : AT) (args : List AV) (h : Heap) : Prop:=(MR h a.y a.M ∧ smallM a.M ∧ 1 ≤ a.q ∧ a.q ≤ 3) ∧ args = [a.y,G a.q]
noncomputable def T11 : CallF:=addK tbl T10 67 Pre67 Post87
theorem t11 : Sound zp T11:=Sound.addK follows ok t10 (by decide) _ _
noncomputable def T12 : CallF:=addK tbl T11 27 PreR PostR
theorem t12 : Sound zp T12:=Sound.addK follows ok t11 (by decide) _ _
def TQ (h : Heap) (x : AV) (q : Nat) (B : List (List Int)) : Prop:=∃ b v cs,x = .slice b 0 q v ∧ h.get b = .cells 1 v cs ∧ ∀ i,i < q → ∃ rb rv,cs[i]? = some (.slice rb 0 q rv) ∧ h.get rb = .cells 1 rv (gs (B.getD i [])) ∧ (B.getD i []).length = q
theorem tabQ_row {q : Nat} {M : List (List Int)} (hm : tabQ q M = zT) : M.length = q ∧ ∀ i,i < q → (M.getD i []).length = q:=by
 unfold tabQ at hm
 rw [Bool.and_eq_true,decide_eq_true_iff] at hm
 obtain ⟨a,c⟩:=hm
 have a' : M.length = q:=by omega
 refine ⟨a',fun i hi => ?_⟩
 have:=(List.all_eq_true.1 c) (M.getD i []) (by rw [zd,zq (by omega)]; exact List.getElem_mem _)
 unfold rowQ at this
 rw [Bool.and_eq_true,decide_eq_true_iff] at this
 omega
theorem MR.tq {h : Heap} {x : AV} {q : Nat} {M : List (List Int)} (m : MR h x M) (hm : tabQ q M = zT) (hq : 1 ≤ q) : TQ h x q M:=by
 obtain ⟨h1,h2⟩:=tabQ_row hm
 rcases m with ⟨_,e⟩ | ⟨b,v,cs,rfl,g,hl,hr⟩
 ·rw [e] at h1; simp at h1; omega
 ·refine ⟨b,v,cs,by rw [h1],g,fun i hi => ?_⟩
  obtain ⟨l,e1,e2⟩:=hr i cs[i] (zq (by omega))
  have e3 : M.getD i [] = l:=by rw [zd,e1]; rfl
  have e4:=h2 i hi
  rw [e3] at e4
  rcases e2.cases with ⟨_,e⟩ | ⟨_,e⟩ | ⟨rb,rv,e,g'⟩
  ·rw [e] at e4; simp at e4; omega
  ·rw [e] at e4; simp at e4; omega
  ·exact ⟨rb,rv,by rw [zq (by omega),e,e4],by rw [e3]; exact g',by rw [e3]; exact e4⟩
theorem TQ.kp {M : Nat → Prop} {h h' : Heap} {x : AV} {q : Nat} {B : List (List Int)} (t : TQ h x q B) (k : Kp (fun _ => False) h h') : TQ h' x q B:=by
 obtain ⟨b,v,cs,e,g,r⟩:=t
 exact ⟨b,v,cs,e,k.at g (by simp) id,fun i hi => by obtain ⟨rb,rv,e1,e2,e3⟩:=r i hi; exact ⟨rb,rv,e1,k.at e2 (by simp) id,e3⟩⟩
theorem ent_at {B : List (List Int)} {i j q : Nat} (hl : (B.getD i []).length = q) (hj : j < q) : (gs (B.getD i []))[j]? = some (G (ent B i j)):=gs_at _ (by omega)
def stW (w : List Nat) : List UInt8:=w.map fun c => UInt8.ofNat (48 + c)
theorem stW_len (w : List Nat) : (stW w).length = w.length:=by simp [stW]
theorem stW_at {w : List Nat} {q i : Nat} (hw : ∀ c ∈ w,c < q) (h3 : q ≤ 3) (hi : i < w.length) : (stW w)[i]? = some (UInt8.ofNat (48 + w.getD i 0)):=by
 unfold stW
 rw [List.getElem?_map,zd,zq hi]; rfl
theorem u8_nat {c : Nat} (h : c < 3) : ((UInt8.ofNat (48 + c)).toNat : Int) = 48 + c:=by
 rw [UInt8.toNat_ofNat']; omega
theorem wrap8 (c : Nat) (h : c < 3) : IntKind.u8.wrap ((48 + c : Int) - 48) = c:=by
 unfold IntKind.wrap IntKind.bits IntKind.signed
 simp; omega
theorem getD_lt {w : List Nat} {q i : Nat} (hw : ∀ c ∈ w,c < q) (hi : i < w.length) : w.getD i 0 < q:=by
 rw [zd,zq hi]
 exact hw _ (List.getElem_mem _)
def bs (B : List (List Int)) (w : List Nat) (i : Nat) : Bool:=decide (ent B (w.getD i 0) (w.getD (i + 1) 0) ≠ 0)
def bsd (B : List (List Int)) (w : List Nat) : Bool:=af (bs B w) 0 (w.length - 1)
def bl (W : List (List Int)) (s t : List Nat) (i : Nat) : Bool:=decide (ent W (s.getD i 0) (t.getD i 0) ≠ 0)
def blw (W : List (List Int)) (s t : List Nat) : Bool:=af (bl W s t) 0 s.length
structure AG where
 q : Nat
 x : AV
 y : AV
 B : List (List Int)
 W : List (List Int)
structure OkG (a : AG) (h : Heap) : Prop where
 x : MR h a.x a.B
 y : MR h a.y a.W
 r : ruQ a.q a.B a.W = zT
theorem OkG.q1 {a : AG} {h : Heap} (o : OkG a h) : 1 ≤ a.q ∧ a.q ≤ 3:=by
 have:=o.r
 unfold ruQ at this
 simp only [Bool.and_eq_true,decide_eq_true_eq] at this
 omega
theorem OkG.tx {a : AG} {h : Heap} (o : OkG a h) : TQ h a.x a.q a.B:=by
 have r:=o.r
 unfold ruQ at r
 simp only [Bool.and_eq_true,decide_eq_true_eq] at r
 exact o.x.tq r.1.2 (by omega)
theorem OkG.ty {a : AG} {h : Heap} (o : OkG a h) : TQ h a.y a.q a.W:=by
 have r:=o.r
 unfold ruQ at r
 simp only [Bool.and_eq_true,decide_eq_true_eq] at r
 exact o.y.tq r.2 (by omega)
theorem OkG.lo {a : AG} {h : Heap} (o : OkG a h) (own : List AObj) : OkG a ⟨h.get,h.size,own⟩:=⟨o.x.lo own,o.y.lo own,o.r⟩
theorem OkG.fr {a : AG} {h : Heap} (o : OkG a h) : OkG a (frameOf h):=o.lo []
theorem OkG.kp {a : AG} {h h' : Heap} (o : OkG a h) (k : Kp (fun _ => False) h h') : OkG a h':=⟨o.x.kp k,o.y.kp k,o.r⟩
abbrev AG.v (a : AG) : AV:=.agg [G a.q,a.x,a.y]
section
variable {a : AG} {H : Heap}
theorem c89_l (J : CallF) (o : OkG a H) {w : List Nat} (hw : ∀ c ∈ w,c < a.q) (lw : w.length ≤ 1000) :
  (bsd a.B w = zT → Tr tbl J c89_l0 (fun s h => h = H.plus [.cells 0 3 [G a.q,a.x,a.y]] ∧ s.get [zF] = .str (stW w) ∧ s.get [zT] = .ptr H.size 0 3 ∧ s.get [zF,zT] = G ((0 : Nat) + 1 : Int)) (.exit 0) (fun s h => True)) ∧
  (bsd a.B w = zF → Tr tbl J c89_l0 (fun s h => h = H.plus [.cells 0 3 [G a.q,a.x,a.y]] ∧ s.get [zF] = .str (stW w) ∧ s.get [zT] = .ptr H.size 0 3 ∧ s.get [zF,zT] = G ((0 : Nat) + 1 : Int)) .ret (fun s h => s.get [zT,zF] = .bool zF)):=by
 have q3:=o.q1
 obtain ⟨b,v,cs,ex,gx,rx⟩:=o.tx.kp (M:=fun _ => False) (Kp.plus H [.cells 0 3 [G a.q,a.x,a.y]])
 have key : ∀ i,i < w.length - 1 → Tr tbl J (.trim [[zF],[zT],[zF,zT]] c89_b0) (fun s h => h = H.plus [.cells 0 3 [G a.q,a.x,a.y]] ∧ s.get [zF] = .str (stW w) ∧ s.get [zT] = .ptr H.size 0 3 ∧ s.get [zF,zT] = G ((i : Nat) + 1 : Int)) (if bs a.B w i then .normal else .ret)
   (if bs a.B w i then (fun s h => h = H.plus [.cells 0 3 [G a.q,a.x,a.y]] ∧ s.get [zF] = .str (stW w) ∧ s.get [zT] = .ptr H.size 0 3 ∧ s.get [zF,zT] = G ((i + 1 : Nat) + 1 : Int)) else (fun s h => s.get [zT,zF] = .bool zF)):=fun i hi => by
  have d1:=getD_lt hw (show i < w.length by omega)
  have d2:=getD_lt hw (show i + 1 < w.length by omega)
  have f1:=stW_at hw q3.2 (show i < w.length by omega)
  have f2:=stW_at hw q3.2 (show i + 1 < w.length by omega)
  have f1':=getI f1
  have f2':=getI f2
  have lw':=stW_len w
  have n1:=u8_nat (show w.getD i 0 < 3 by omega)
  have n2:=u8_nat (show w.getD (i + 1) 0 < 3 by omega)
  have w1:=wrap8 (w.getD i 0) (by omega)
  have w2:=wrap8 (w.getD (i + 1) 0) (by omega)
  obtain ⟨rb,rv,e1,g1,l1⟩:=rx _ d1
  have e2:=ent_at l1 d2
  have e1':=getI e1
  have e2':=getI e2
  have eb : bs a.B w i = decide (ent a.B (w.getD i 0) (w.getD (i + 1) 0) ≠ 0):=rfl
  rw [eb]
  clear rx o eb hw
  generalize w.length = n at *
  generalize stW w = cw at *
  generalize UInt8.ofNat (48 + w.getD i 0) = u1 at *
  generalize UInt8.ofNat (48 + w.getD (i + 1) 0) = u2 at *
  generalize ent a.B (w.getD i 0) (w.getD (i + 1) 0) = z at *
  generalize w.getD i 0 = c1 at *
  generalize w.getD (i + 1) 0 = c2 at *
  generalize gs (a.B.getD c1 []) = cr at *
  obtain ⟨qq,x,y,tB,tW⟩:=a
  simp only at *
  subst ex
  by_cases hz : z = 0
  ·subst hz
   rw [if_neg (by simp),if_neg (by simp)]
   refine Tr.w fun s1 H1 hp _ kR => W.trim ?_
   obtain ⟨rfl,q⟩:=hp
   refine W.assoc ?_
   refine zCh ?_
   simp (disch:=omega) [c89_o2,zG,q]
   refine zCh ?_
   simp (disch:=omega) [zG,q]
   refine W.seq (W.block ?_)
   refine zCh ?_
   simp (disch:=omega) [c89_o3,zG,q,gx,e1,e1',g1,e2,e2',f1,f1',f2,f2',n1,n2,w1,w2,lw',-evDraw_c,evDraw_0]
   refine W.chunk ?_
   simp (disch:=omega) [c89_o4,zG,q]
   exact kR _ _ (by simp [T.get,q])
  ·rw [if_pos (by simpa using hz),if_pos (by simpa using hz)]
   refine Tr.w fun s1 H1 hp _ kR => W.trim ?_
   obtain ⟨rfl,q⟩:=hp
   refine W.assoc ?_
   refine zCh ?_
   simp (disch:=omega) [c89_o2,zG,q]
   refine zCh ?_
   simp (disch:=omega) [zG,q]
   refine W.seq (W.block ?_)
   refine zCh ?_
   simp (disch:=omega) [c89_o3,zG,q,gx,e1,e1',g1,e2,e2',f1,f1',f2,f2',n1,n2,w1,w2,lw',hz,-evDraw_c,evDraw_0]
   refine W.chunk ?_
   simp (disch:=omega) [c89_o4,zG,q]
   refine W.chunk ?_
   simp (disch:=omega) [c89_o5,zG,q]
   exact kR _ _ (by simp [T.get,q])
 have fin : Tr tbl J (.trim [[zF],[zT],[zF,zT]] c89_b0) (fun s h => h = H.plus [.cells 0 3 [G a.q,a.x,a.y]] ∧ s.get [zF] = .str (stW w) ∧ s.get [zT] = .ptr H.size 0 3 ∧ s.get [zF,zT] = G ((w.length - 1 : Nat) + 1 : Int)) (.exit 0) (fun s h => True):=by
  have lw':=stW_len w
  generalize stW w = cw at *
  refine Tr.w fun s1 H1 hp _ kR => W.trim ?_
  obtain ⟨rfl,q⟩:=hp
  refine W.assoc ?_
  refine zCh ?_
  simp (disch:=omega) [c89_o2,zG,q,lw']
  refine zCh ?_
  simp (disch:=omega) [zG,q]
  exact kR _ _ trivial
 exact ⟨Tr.allT (P:=fun i => (fun s h => h = H.plus [.cells 0 3 [G a.q,a.x,a.y]] ∧ s.get [zF] = .str (stW w) ∧ s.get [zT] = .ptr H.size 0 3 ∧ s.get [zF,zT] = G ((i : Nat) + 1 : Int))) (w.length - 1) (fun i hi hp => by have:=key i hi; rw [if_pos hp,if_pos hp] at this; exact this) fin (by simp) _ 0 (by omega),
  Tr.allF (P:=fun i => (fun s h => h = H.plus [.cells 0 3 [G a.q,a.x,a.y]] ∧ s.get [zF] = .str (stW w) ∧ s.get [zT] = .ptr H.size 0 3 ∧ s.get [zF,zT] = G ((i : Nat) + 1 : Int))) (w.length - 1) (fun i hi hp => by have:=key i hi; rw [if_pos hp,if_pos hp] at this; exact this) (fun i hi hp => by have:=key i hi; rw [if_neg (by rw [hp]; simp),if_neg (by rw [hp]; simp)] at this; exact this) (by simp) _ 0 (by omega)⟩
theorem c89_ok (J : CallF) (hJ : ∀ a h,J 89 a h = none) (h : Heap) (o : OkG a h) {w : List Nat} (hw : ∀ c ∈ w,c < a.q) (lw : w.length ≤ 1000) : CallsTo tbl J 89 [a.v,.str (stW w)] h (.bool (bsd a.B w),[],zF):=by
 refine Tr.fnv (cf:=c89) (e:=.ret) (s:=T.set (T.set .leaf [] a.v) [zF] (.str (stW w))) (by decide) rfl (hJ _ _) rfl rfl rfl (by simp) ?_
 refine Tr.post (Q:=(fun s h => s.get [zT,zF] = .bool (bsd a.B w))) (fun s h q => by simp [c89,q]) ?_
 have l0:=c89_l J o.fr hw lw
 cases c : bsd a.B w
 ·have l0:=l0.2 c
  generalize stW w = cw at *
  clear c o
  refine Tr.w fun s1 H1 hp _ kR => ?_
  obtain ⟨rfl,rfl⟩:=hp
  have q : True:=trivial
  refine zCh ?_
  simp (disch:=omega) [c89_o0,zG,q]
  refine W.assoc ?_
  refine zCh ?_
  simp (disch:=omega) [c89_o1,zG,q]
  refine W.seq (W.block ?_)
  refine W.use (l0) (by simp (disch:=omega) [zG,q]) fun s1 H1 hp => ?_
  try simp only [zW,if_true]
  exact kR _ _ hp
 ·have l0:=l0.1 c
  generalize stW w = cw at *
  clear c o
  refine Tr.w fun s1 H1 hp _ kR => ?_
  obtain ⟨rfl,rfl⟩:=hp
  have q : True:=trivial
  refine zCh ?_
  simp (disch:=omega) [c89_o0,zG,q]
  refine W.assoc ?_
  refine zCh ?_
  simp (disch:=omega) [c89_o1,zG,q]
  refine W.seq (W.block ?_)
  refine W.use (l0) (by simp (disch:=omega) [zG,q]) fun s1 H1 hp => ?_
  try simp only [zW,if_true]
  refine zCh ?_
  simp (disch:=omega) [c89_o6,zG,q]
  refine W.ret ?_
  try simp only [zW,if_true]
  exact kR _ _ (by simp [T.get])
end
section
variable {a : AG} {H : Heap}
end
structure AW where
 a : AG
 w : List Nat
def PreW (b : AW) (args : List AV) (h : Heap) : Prop:=(OkG b.a h ∧ (∀ c ∈ b.w,c < b.a.q) ∧ b.w.length ≤ 1000) ∧ args = [b.a.v,.str (stW b.w)]
def PostW (b : AW) (h : Heap) (v : AV) (own : List AObj) : Prop:=v = .bool (bsd b.a.B b.w) ∧ own = []
abbrev KW (f : Nat) (J : CallF) : Prop:=∀ (h : Heap) (a : AG) (w : List Nat),OkG a h → (∀ c ∈ w,c < a.q) → w.length ≤ 1000 → J f [a.v,.str (stW w)] h = some (.bool (bsd a.B w),[],zF)
noncomputable def T13 : CallF:=addK tbl T12 89 PreW PostW
theorem t13 : Sound zp T13:=Sound.addK follows ok t12 (by decide) _ _
theorem k89 : KW 89 T13:=fun h a w o hw lw => by
 obtain ⟨v,own,e,rfl,rfl⟩:=addK_some (Pre:=PreW) (Post:=PostW) (fun b args h hp => by
  obtain ⟨⟨h1,h2,h3⟩,rfl⟩:=hp
  exact ⟨_,_,c89_ok T12 (fun _ _ => by simp (disch:=decide) only [T1,T2,T3,T4,T5,T6,T7,T8,T9,T10,T11,T12,addI_ne,addX_ne,addV_ne,addK_ne]; rfl) h h1 h2 h3,rfl,rfl⟩) ⟨a,w⟩ _ h ⟨⟨o,hw,lw⟩,rfl⟩
 exact e
noncomputable def T14 : CallF:=addK tbl T13 68 PreW PostW
theorem t14 : Sound zp T14:=Sound.addK follows ok t13 (by decide) _ _
section
variable {a : AG} {H : Heap}
theorem c90_l (J : CallF) (o : OkG a H) {u t : List Nat} (hs : ∀ c ∈ u,c < a.q) (ht : ∀ c ∈ t,c < a.q) (ls : u.length ≤ 1000) (lt : t.length = u.length) :
  (blw a.W u t = zT → Tr tbl J c90_l0 (fun s h => h = H.plus [.cells 0 3 [G a.q,a.x,a.y]] ∧ s.get [zF] = .str (stW u) ∧ s.get [zT] = .str (stW t) ∧ s.get [zF,zF] = .ptr H.size 0 3 ∧ s.get [zF,zT,zF] = G u.length ∧ s.get [zT,zT,zF] = G ((0 : Nat) : Int)) (.exit 0) (fun s h => True)) ∧
  (blw a.W u t = zF → Tr tbl J c90_l0 (fun s h => h = H.plus [.cells 0 3 [G a.q,a.x,a.y]] ∧ s.get [zF] = .str (stW u) ∧ s.get [zT] = .str (stW t) ∧ s.get [zF,zF] = .ptr H.size 0 3 ∧ s.get [zF,zT,zF] = G u.length ∧ s.get [zT,zT,zF] = G ((0 : Nat) : Int)) .ret (fun s h => s.get [zT,zT] = .bool zF)):=by
 have q3:=o.q1
 obtain ⟨b,v,cs,ex,gx,rx⟩:=o.ty.kp (M:=fun _ => False) (Kp.plus H [.cells 0 3 [G a.q,a.x,a.y]])
 have key : ∀ i,i < u.length → Tr tbl J (.trim [[zF],[zT],[zF,zF],[zF,zT,zF],[zT,zT,zF]] c90_b0) (fun s h => h = H.plus [.cells 0 3 [G a.q,a.x,a.y]] ∧ s.get [zF] = .str (stW u) ∧ s.get [zT] = .str (stW t) ∧ s.get [zF,zF] = .ptr H.size 0 3 ∧ s.get [zF,zT,zF] = G u.length ∧ s.get [zT,zT,zF] = G i) (if bl a.W u t i then .normal else .ret)
   (if bl a.W u t i then (fun s h => h = H.plus [.cells 0 3 [G a.q,a.x,a.y]] ∧ s.get [zF] = .str (stW u) ∧ s.get [zT] = .str (stW t) ∧ s.get [zF,zF] = .ptr H.size 0 3 ∧ s.get [zF,zT,zF] = G u.length ∧ s.get [zT,zT,zF] = G ((i + 1 : Nat) : Int)) else (fun s h => s.get [zT,zT] = .bool zF)):=fun i hi => by
  have d1:=getD_lt hs (show i < u.length by omega)
  have d2:=getD_lt ht (show i < t.length by omega)
  have f1:=stW_at hs q3.2 (show i < u.length by omega)
  have f2:=stW_at ht q3.2 (show i < t.length by omega)
  have f1':=getI f1
  have f2':=getI f2
  have ls':=stW_len u
  have lt':=stW_len t
  rw [lt] at lt'
  have n1:=u8_nat (show u.getD i 0 < 3 by omega)
  have n2:=u8_nat (show t.getD i 0 < 3 by omega)
  have w1:=wrap8 (u.getD i 0) (by omega)
  have w2:=wrap8 (t.getD i 0) (by omega)
  obtain ⟨rb,rv,e1,g1,l1⟩:=rx _ d1
  have e2:=ent_at l1 d2
  have e1':=getI e1
  have e2':=getI e2
  have eb : bl a.W u t i = decide (ent a.W (u.getD i 0) (t.getD i 0) ≠ 0):=rfl
  rw [eb]
  clear rx o eb hs ht
  clear lt
  generalize u.length = n at *
  generalize stW u = cw at *
  generalize stW t = cz at *
  generalize UInt8.ofNat (48 + u.getD i 0) = u1 at *
  generalize UInt8.ofNat (48 + t.getD i 0) = u2 at *
  generalize ent a.W (u.getD i 0) (t.getD i 0) = z at *
  generalize u.getD i 0 = c1 at *
  generalize t.getD i 0 = c2 at *
  generalize gs (a.W.getD c1 []) = cr at *
  obtain ⟨qq,x,y,tB,tW⟩:=a
  simp only at *
  subst ex
  by_cases hz : z = 0
  ·subst hz
   rw [if_neg (by simp),if_neg (by simp)]
   refine Tr.w fun s1 H1 hp _ kR => W.trim ?_
   obtain ⟨rfl,q⟩:=hp
   refine zCh ?_
   simp (disch:=omega) [c90_o2,zG,q,lt',ls']
   refine zCh ?_
   simp (disch:=omega) [zG,q]
   refine W.seq (W.block ?_)
   refine zCh ?_
   simp (disch:=omega) [c90_o3,zG,q]
   refine zCh ?_
   simp (disch:=omega) [c90_o4,zG,q,gx,e1,e1',g1,e2,e2',f1,f1',f2,f2',n1,n2,w1,w2,ls',lt',-evDraw_c,evDraw_0]
   refine W.chunk ?_
   simp (disch:=omega) [c90_o5,zG,q]
   exact kR _ _ (by simp [T.get,q])
  ·rw [if_pos (by simpa using hz),if_pos (by simpa using hz)]
   refine Tr.w fun s1 H1 hp _ kR => W.trim ?_
   obtain ⟨rfl,q⟩:=hp
   refine zCh ?_
   simp (disch:=omega) [c90_o2,zG,q,lt',ls']
   refine zCh ?_
   simp (disch:=omega) [zG,q]
   refine W.seq (W.block ?_)
   refine zCh ?_
   simp (disch:=omega) [c90_o3,zG,q]
   refine zCh ?_
   simp (disch:=omega) [c90_o4,zG,q,gx,e1,e1',g1,e2,e2',f1,f1',f2,f2',n1,n2,w1,w2,ls',lt',hz,-evDraw_c,evDraw_0]
   refine W.chunk ?_
   simp (disch:=omega) [c90_o5,zG,q]
   refine W.chunk ?_
   simp (disch:=omega) [c90_o6,zG,q]
   exact kR _ _ (by simp [T.get,q])
 have fin : Tr tbl J (.trim [[zF],[zT],[zF,zF],[zF,zT,zF],[zT,zT,zF]] c90_b0) (fun s h => h = H.plus [.cells 0 3 [G a.q,a.x,a.y]] ∧ s.get [zF] = .str (stW u) ∧ s.get [zT] = .str (stW t) ∧ s.get [zF,zF] = .ptr H.size 0 3 ∧ s.get [zF,zT,zF] = G u.length ∧ s.get [zT,zT,zF] = G (u.length : Nat)) (.exit 0) (fun s h => True):=by
  have ls':=stW_len u
  have lt':=stW_len t
  rw [lt] at lt'
  generalize stW u = cw at *
  generalize stW t = cz at *
  generalize u.length = n at *
  refine Tr.w fun s1 H1 hp _ kR => W.trim ?_
  obtain ⟨rfl,q⟩:=hp
  refine zCh ?_
  simp (disch:=omega) [c90_o2,zG,q,ls',lt']
  refine zCh ?_
  simp (disch:=omega) [zG,q]
  exact kR _ _ trivial
 exact ⟨Tr.allT (P:=fun i => (fun s h => h = H.plus [.cells 0 3 [G a.q,a.x,a.y]] ∧ s.get [zF] = .str (stW u) ∧ s.get [zT] = .str (stW t) ∧ s.get [zF,zF] = .ptr H.size 0 3 ∧ s.get [zF,zT,zF] = G u.length ∧ s.get [zT,zT,zF] = G i)) u.length (fun i hi hp => by have:=key i hi; rw [if_pos hp,if_pos hp] at this; exact this) fin (by simp) _ 0 (by omega),
  Tr.allF (P:=fun i => (fun s h => h = H.plus [.cells 0 3 [G a.q,a.x,a.y]] ∧ s.get [zF] = .str (stW u) ∧ s.get [zT] = .str (stW t) ∧ s.get [zF,zF] = .ptr H.size 0 3 ∧ s.get [zF,zT,zF] = G u.length ∧ s.get [zT,zT,zF] = G i)) u.length (fun i hi hp => by have:=key i hi; rw [if_pos hp,if_pos hp] at this; exact this) (fun i hi hp => by have:=key i hi; rw [if_neg (by rw [hp]; simp),if_neg (by rw [hp]; simp)] at this; exact this) (by simp) _ 0 (by omega)⟩
theorem c90_ok (J : CallF) (hJ : ∀ a h,J 90 a h = none) (h : Heap) (o : OkG a h) {u t : List Nat} (hs : ∀ c ∈ u,c < a.q) (ht : ∀ c ∈ t,c < a.q) (ls : u.length ≤ 1000) (lt : t.length = u.length) : CallsTo tbl J 90 [a.v,.str (stW u),.str (stW t)] h (.bool (blw a.W u t),[],zF):=by
 refine Tr.fnv (cf:=c90) (e:=.ret) (s:=T.set (T.set (T.set .leaf [] a.v) [zF] (.str (stW u))) [zT] (.str (stW t))) (by decide) rfl (hJ _ _) rfl rfl rfl (by simp) ?_
 refine Tr.post (Q:=(fun s h => s.get [zT,zT] = .bool (blw a.W u t))) (fun s h q => by simp [c90,q]) ?_
 have l0:=c90_l J o.fr hs ht ls lt
 have ls':=stW_len u
 have lt':=stW_len t
 rw [lt] at lt'
 cases c : blw a.W u t
 ·have l0:=l0.2 c
  generalize stW u = cw at *
  generalize stW t = cz at *
  clear c o
  refine Tr.w fun s1 H1 hp _ kR => ?_
  obtain ⟨rfl,rfl⟩:=hp
  have q : True:=trivial
  refine zCh ?_
  simp (disch:=omega) [c90_o0,zG,q,ls',lt']
  refine W.assoc ?_
  refine zCh ?_
  simp (disch:=omega) [c90_o1,zG,q,ls',lt']
  refine W.seq (W.block ?_)
  refine W.use (l0) (by simp (disch:=omega) [zG,q,ls',lt']) fun s1 H1 hp => ?_
  try simp only [zW,if_true]
  exact kR _ _ hp
 ·have l0:=l0.1 c
  generalize stW u = cw at *
  generalize stW t = cz at *
  clear c o
  refine Tr.w fun s1 H1 hp _ kR => ?_
  obtain ⟨rfl,rfl⟩:=hp
  have q : True:=trivial
  refine zCh ?_
  simp (disch:=omega) [c90_o0,zG,q,ls',lt']
  refine W.assoc ?_
  refine zCh ?_
  simp (disch:=omega) [c90_o1,zG,q,ls',lt']
  refine W.seq (W.block ?_)
  refine W.use (l0) (by simp (disch:=omega) [zG,q,ls',lt']) fun s1 H1 hp => ?_
  try simp only [zW,if_true]
  refine zCh ?_
  simp (disch:=omega) [c90_o7,zG,q,ls',lt']
  refine W.ret ?_
  try simp only [zW,if_true]
  exact kR _ _ (by simp [T.get])
end
section
variable {a : AG} {H : Heap}
end
structure AB where
 a : AG
 s : List Nat
 t : List Nat
def PreB (b : AB) (args : List AV) (h : Heap) : Prop:=(OkG b.a h ∧ (∀ c ∈ b.s,c < b.a.q) ∧ (∀ c ∈ b.t,c < b.a.q) ∧ b.s.length ≤ 1000 ∧ b.t.length = b.s.length) ∧ args = [b.a.v,.str (stW b.s),.str (stW b.t)]
def PostB (b : AB) (h : Heap) (v : AV) (own : List AObj) : Prop:=v = .bool (blw b.a.W b.s b.t) ∧ own = []
abbrev KB (f : Nat) (J : CallF) : Prop:=∀ (h : Heap) (a : AG) (s t : List Nat),OkG a h → (∀ c ∈ s,c < a.q) → (∀ c ∈ t,c < a.q) → s.length ≤ 1000 → t.length = s.length → J f [a.v,.str (stW s),.str (stW t)] h = some (.bool (blw a.W s t),[],zF)
noncomputable def T15 : CallF:=addK tbl T14 90 PreB PostB
theorem t15 : Sound zp T15:=Sound.addK follows ok t14 (by decide) _ _
theorem k90 : KB 90 T15:=fun h a s t o hs ht ls lt => by
 obtain ⟨v,own,e,rfl,rfl⟩:=addK_some (Pre:=PreB) (Post:=PostB) (fun b args h hp => by
  obtain ⟨⟨h1,h2,h3,h4,h5⟩,rfl⟩:=hp
  exact ⟨_,_,c90_ok T14 (fun _ _ => by simp (disch:=decide) only [T1,T2,T3,T4,T5,T6,T7,T8,T9,T10,T11,T12,T13,T14,addI_ne,addX_ne,addV_ne,addK_ne]; rfl) h h1 h2 h3 h4 h5,rfl,rfl⟩) ⟨a,s,t⟩ _ h ⟨⟨o,hs,ht,ls,lt⟩,rfl⟩
 exact e
noncomputable def T16 : CallF:=addK tbl T15 69 PreB PostB
theorem t16 : Sound zp T16:=Sound.addK follows ok t15 (by decide) _ _
end Go.Proofs.Ytljgfdamdcikgaa.Ev
set_option linter.unusedVariables false
set_option linter.unusedSimpArgs false
namespace Go.Proofs.Ytljgfdamdcikgaa.Ev
open Go Go.AEv
def exL (q : Nat) : Nat → List Nat → List (List Nat)
 | 0,s => [s]
 | k + 1,s => (List.range q).flatMap fun c => exL q k (s ++ [c])
theorem exL_mem {q : Nat} : ∀ k s t,t ∈ exL q k s → ∃ u,t = s ++ u ∧ u.length = k ∧ ∀ c ∈ u,c < q
 | 0,s,t,h => by
  have : t = s:=by simpa [exL] using h
  exact ⟨[],by simp [this],rfl,by simp⟩
 | k + 1,s,t,h => by
  simp only [exL,List.mem_flatMap,List.mem_range] at h
  obtain ⟨c,hc,h⟩:=h
  obtain ⟨u,rfl,h2,h3⟩:=exL_mem k _ _ h
  refine ⟨c :: u,by simp,by simp [h2],fun d hd => ?_⟩
  rcases List.mem_cons.1 hd with rfl | hd
  ·exact hc
  ·exact h3 d hd
theorem exL_len {q : Nat} : ∀ k s,(exL q k s).length = q ^ k
 | 0,s => rfl
 | k + 1,s => by
  simp only [exL,List.length_flatMap,exL_len k]
  rw [List.map_const',List.sum_replicate_nat,List.length_range,Nat.pow_succ,Nat.mul_comm]
theorem exL_small {q m : Nat} (hq : q ≤ 3) (hm : m ≤ 5) (s : List Nat) : (exL q m s).length ≤ 243:=by
 rw [exL_len]
 exact Nat.le_trans (Nat.pow_le_pow_left hq m) (Nat.le_trans (Nat.pow_le_pow_right (by decide) hm) (by decide))
def rwL (q : Nat) (B : List (List Int)) (m : Nat) : List (List Nat):=(exL q m []).filter (bsd B)
theorem rwL_small {q m : Nat} {B : List (List Int)} (hq : q ≤ 3) (hm : m ≤ 5) : (rwL q B m).length ≤ 243:=Nat.le_trans (List.length_filter_le _ _) (exL_small hq hm _)
theorem rwL_mem {q m : Nat} {B : List (List Int)} {w : List Nat} (h : w ∈ rwL q B m) : w.length = m ∧ (∀ c ∈ w,c < q) ∧ bsd B w = zT:=by
 obtain ⟨h1,h2⟩:=List.mem_filter.1 h
 obtain ⟨u,e,h3,h4⟩:=exL_mem _ _ _ h1
 rw [List.nil_append] at e
 subst e
 exact ⟨h3,h4,h2⟩
def nxL (W : List (List Int)) (R : List (List Nat)) (s : List Nat) : List Nat:=(List.range R.length).filter fun j => blw W s (R.getD j [])
def stL (W : List (List Int)) (R : List (List Nat)) : List (List Nat):=R.map (nxL W R)
theorem nxL_lt {W : List (List Int)} {R : List (List Nat)} {s : List Nat} {j : Nat} (h : j ∈ nxL W R s) : j < R.length:=List.mem_range.1 (List.mem_filter.1 h).1
theorem nxL_len (W : List (List Int)) (R : List (List Nat)) (s : List Nat) : (nxL W R s).length ≤ R.length:=Nat.le_trans (List.length_filter_le _ _) (by simp)
end Go.Proofs.Ytljgfdamdcikgaa.Ev
set_option linter.unusedVariables false
set_option linter.unusedSimpArgs false
namespace Go.Proofs.Ytljgfdamdcikgaa.Ev
open Go Go.AEv
attribute [local simp] evFunc initS evOps_c evTrim_c evSkip_c evExit_c evRet_c evSeq_c evCond_c evBlock_c evDraw_c runOps_n runOps_c exec_n exec_g pure1_c act AOpd.ev T.get T.set T.put evBin evUn forceT_eq forceV_eq forceL_eq evRess evRes one keep runFP_n runFP_c app_none AV.flats AV.flat came_some List.getElem?_cons_zero List.getElem?_cons_succ beqT wrapI idxI tdivI tmodI decT decF ibT ibF inT inF evScope_c if_pos if_neg Cm_some thenW_n thenW_e thenW_r blkW_n blkW_e blkW_r goI kn putAt AV.cells fillA loadA takeA mk Eff.isAll Eff.isNone Eff.commutes Eff.spares okPair apart eqAgg fits LK.fits allEq aveq eqk mmA
theorem app_allP (h : Heap) (own : List AObj) : Eff.app (.all own) h = some ⟨h.lo,h.N,own⟩:=by simp [Eff.app,forceL_eq]
theorem c88_ok (J : CallF) (hJ : ∀ a h,J 88 a h = none) (h : Heap) (q m : Nat) : CallsTo tbl J 88 [G q,G m] h (.func 105 [.ptr (h.size + 1) 0 1,.ptr h.size 0 1],[.cells 0 1 [G q],.cells 0 1 [G m]],zF):=by
 refine Tr.fnh (cf:=c88) (e:=.ret) (s:=T.set (T.set .leaf [] (G q)) [zF] (G m)) (by decide) rfl (hJ _ _) rfl rfl rfl (by simp) ?_
 refine Tr.post (Q:=(fun s h' => s.get [zT,zF] = .func 105 [.ptr (h.size + 1) 0 1,.ptr h.size 0 1] ∧ h' = ⟨h.get,h.size,[.cells 0 1 [G q],.cells 0 1 [G m]]⟩)) (fun s h' q => by
  obtain ⟨q1,rfl⟩:=q
  simp [c88,q1]) ?_
 have t : Tr tbl J (c88.body) (fun s h' => s = T.set (T.set .leaf [] (G q)) [zF] (G m) ∧ h' = frameOf h) .ret (fun s h' => s.get [zT,zF] = .func 105 [.ptr (h.size + 1) 0 1,.ptr h.size 0 1] ∧ h' = ⟨h.get,h.size,[.cells 0 1 [G q],.cells 0 1 [G m]]⟩):=Tr.region fun s h hp => by
  obtain ⟨rfl,rfl⟩:=hp
  simp (disch:=first|omega|exact zE rfl|exact zO|exact zL rfl) [c88,c88_o0,c88_o1,size_mk,get_mk_lt,get_mk_ge,frameOf,Eff.app,Heap.setOwn]
 exact t
structure CE (h : Heap) (pm py pq pe l m n : Nat) : Prop where
 gm : h.get pm = .cells 0 1 [G m]
 gy : h.get py = .cells 0 1 [.yld l]
 gq : h.get pq = .cells 0 1 [G n]
 ge : h.get pe = .cells 0 1 [.func 106 [.ptr pm 0 1,.ptr py 0 1,.ptr pq 0 1,.ptr pe 0 1]]
theorem CE.kp {M : Nat → Prop} {h h' : Heap} {pm py pq pe l m n : Nat} (c : CE h pm py pq pe l m n) (k : Kp M h h') (am : ¬ M pm ∧ ¬ M py ∧ ¬ M pq ∧ ¬ M pe) : CE h' pm py pq pe l m n :=
 ⟨k.at c.gm (by simp) am.1,k.at c.gy (by simp) am.2.1,k.at c.gq (by simp) am.2.2.1,k.at c.ge (by simp) am.2.2.2⟩
structure Feed (J : CallF) (l m n : Nat) (M : Nat → Prop) (Iv : List (List Nat) → Heap → Prop) : Prop where
 y : ∀ U w h,U.length ≤ 243 → w.length = m → (∀ c ∈ w,c < n) → Iv U h → ∃ h',CallsTo tbl J 0 [.yld l,.str (stW w)] h (.bool zT,h'.own,zT) ∧ Kp M h h' ∧ Iv (U ++ [w]) h'
theorem y106 (J : CallF) {l py : Nat} {w : List UInt8} {own : List AObj} (X : Heap) (x1 : X.get py = .cells 0 1 [.yld l]) (hc : CallsTo tbl J 0 [.yld l,.str w] X (.bool zT,own,zT)) :
  Tr tbl J c106_o2 (fun s h => s.get [] = .str w ∧ s.get [zT] = .ptr py 0 1 ∧ h = X) .normal (fun s h => s.get [zT,zT] = .bool zT ∧ h = ⟨X.lo,X.N,own⟩):=Tr.fuel fun s h hp => by
 obtain ⟨k,hk⟩:=hc
 refine ⟨k,?_⟩
 obtain ⟨g0,g1,rfl⟩:=hp
 simp (disch:=omega) [c106_o2,zG,g0,g1,x1,hk,app_allP]
theorem stW_add (s : List Nat) (c : Nat) : stW (s ++ [c]) = stW s ++ [UInt8.ofNat (48 + c)]:=by simp [stW]
theorem rune_u8 (c : Nat) : Nat.toUInt8 (48 + (c : Int)).toNat = UInt8.ofNat (48 + c):=by
 rw [show (48 + (c : Int)).toNat = 48 + c by omega]
section
variable {l m n pm py pq pe : Nat} {M : Nat → Prop} {Iv : List (List Nat) → Heap → Prop}
def RE (M : Nat → Prop) (Iv : List (List Nat) → Heap → Prop) (h : Heap) (U : List (List Nat)) (h' : Heap) : Prop:=Kp M h h' ∧ Iv U h'
theorem c106_l (J : CallF) (q3 : n ≤ 3) (m5 : m ≤ 5) (am : ¬ M pm ∧ ¬ M py ∧ ¬ M pq ∧ ¬ M pe) {h : Heap} (ce : CE h pm py pq pe l m n) {U : List (List Nat)} {s : List Nat} {k : Nat} (ls : s.length ≤ 5) (iv : Iv U h)
  (ih : ∀ c U' h',c < n → U' = U ++ (List.range c).flatMap (fun c => exL n k (s ++ [c])) → RE M Iv h U' h' → ∃ h2,RE M Iv h' (U' ++ exL n k (s ++ [c])) h2 ∧ CallsTo tbl J 106 [.str (stW (s ++ [c])),.ptr pm 0 1,.ptr py 0 1,.ptr pq 0 1,.ptr pe 0 1] h' (.bool zT,h2.own,zT)) :
  Tr tbl J c106_l0 (fun s' h' => RE M Iv h U h' ∧ s'.get [] = .str (stW s) ∧ s'.get [zT,zF] = .ptr pe 0 1 ∧ s'.get [zF,zF,zF,zF] = G n ∧ s'.get [zT,zF,zF,zF] = G ((0 : Nat) : Int)) (.exit 0)
   (fun s' h' => RE M Iv h (U ++ exL n (k + 1) s) h' ∧ s'.get [] = .str (stW s)):=by
 refine Tr.pre (P:=fun s' h' => RE M Iv h (U ++ (List.range 0).flatMap fun c => exL n k (s ++ [c])) h' ∧ s'.get [] = .str (stW s) ∧ s'.get [zT,zF] = .ptr pe 0 1 ∧ s'.get [zF,zF,zF,zF] = G n ∧ s'.get [zT,zF,zF,zF] = G ((0 : Nat) : Int)) (fun s' h' hp => by simpa using hp) ?_
 refine Tr.rounds (P:=fun c s' h' => RE M Iv h (U ++ (List.range c).flatMap fun c => exL n k (s ++ [c])) h' ∧ s'.get [] = .str (stW s) ∧ s'.get [zT,zF] = .ptr pe 0 1 ∧ s'.get [zF,zF,zF,zF] = G n ∧ s'.get [zT,zF,zF,zF] = G c) (M:=n) (fun c hc => ?_) ?_ (by simp) 0 (by omega)
 ·refine Tr.w fun s1 H1 hp _ kR => W.trim ?_
  obtain ⟨rg,q⟩:=hp
  obtain ⟨h2,rg2,call⟩:=ih c _ H1 hc rfl rg
  have aa:=all_eq rg2.1
  have g4:=(ce.kp rg.1 am).ge
  have rg3 : RE M Iv h (U ++ (List.range (c + 1)).flatMap fun c => exL n k (s ++ [c])) ⟨H1.lo,H1.N,h2.own⟩:=by
   rw [aa]
   refine ⟨rg.1.trans rg2.1,?_⟩
   have:=rg2.2
   rw [List.range_succ,List.flatMap_append]
   simpa using this
  refine W.point (by decide) call ?_
  have k106:=pt_at (I:=J) (f:=106) (args:=[.str (stW (s ++ [c])),.ptr pm 0 1,.ptr py 0 1,.ptr pq 0 1,.ptr pe 0 1]) (h:=H1) (x:=(.bool zT,h2.own,zT))
  generalize pt J 106 [.str (stW (s ++ [c])),.ptr pm 0 1,.ptr py 0 1,.ptr pq 0 1,.ptr pe 0 1] H1 (.bool zT,h2.own,zT) = J at *
  rw [stW_add] at k106
  have lw:=stW_len s
  have ru:=rune_u8 c
  have ri : IntKind.i32.wrap (48 + (c : Int)) = 48 + c:=by unfold IntKind.wrap IntKind.bits IntKind.signed; simp; omega
  clear ih call rg rg2 ce
  generalize stW s = w at *
  generalize UInt8.ofNat (48 + c) = u at *
  refine zCh ?_
  simp (disch:=omega) [c106_o4,zG,q]
  refine zCh ?_
  simp (disch:=omega) [zG,q]
  refine W.seq (W.block ?_)
  refine zCh ?_
  simp (disch:=omega) [c106_o5,zG,q]
  refine zCh ?_
  simp (disch:=omega) [c106_o6,zG,q,g4,k106,ru,ri,lw]
  refine W.chunk ?_
  simp (disch:=omega) [c106_o7,zG,q]
  refine W.chunk ?_
  simp (disch:=omega) [c106_o8,zG,q]
  exact kR _ _ ⟨rg3,by simp [T.get,q]⟩
 ·refine Tr.w fun s1 H1 hp _ kR => W.trim ?_
  obtain ⟨rg,q⟩:=hp
  clear ih
  generalize stW s = w at *
  refine zCh ?_
  simp (disch:=omega) [c106_o4,zG,q]
  refine zCh ?_
  simp (disch:=omega) [zG,q]
  exact kR _ _ ⟨rg,by simp [T.get,q]⟩
theorem c106_ok (J : CallF) (hJ : ∀ a h,J 106 a h = none) (q3 : n ≤ 3) (m5 : m ≤ 5) (am : ¬ M pm ∧ ¬ M py ∧ ¬ M pq ∧ ¬ M pe) (fd : Feed J l m n M Iv) :
  ∀ k s U h,s.length + k = m → (∀ c ∈ s,c < n) → CE h pm py pq pe l m n → U.length + (exL n k s).length ≤ 243 → Iv U h →
   ∃ h',RE M Iv h (U ++ exL n k s) h' ∧ CallsTo tbl J 106 [.str (stW s),.ptr pm 0 1,.ptr py 0 1,.ptr pq 0 1,.ptr pe 0 1] h (.bool zT,h'.own,zT):=fun k => by
 induction k with
 | zero =>
  intro s U h hk hs ce hU iv
  obtain ⟨h2,call,k2,i2⟩:=fd.y U s h (by omega) (by omega) hs iv
  refine Tr.shr (R:=RE M Iv h (U ++ [s])) (args:=[.str (stW s),.ptr pm 0 1,.ptr py 0 1,.ptr pq 0 1,.ptr pe 0 1]) (cf:=c106) (e:=.ret) (s:=T.set (T.set (T.set (T.set (T.set .leaf [] (.str (stW s))) [zF] (.ptr pm 0 1)) [zT] (.ptr py 0 1)) [zF,zF] (.ptr pq 0 1)) [zT,zF] (.ptr pe 0 1)) (by decide) rfl (hJ _ _) rfl rfl (by simp) ?_
  have yt:=y106 J h ce.gy call
  have gm:=ce.gm
  rw [all_eq k2] at yt
  have lw:=stW_len s
  have rg : RE M Iv h (U ++ [s]) h2:=⟨k2,i2⟩
  clear ce call iv i2 k2
  generalize stW s = w at *
  refine Tr.w fun s1 H1 hp _ kR => ?_
  obtain ⟨rfl,rfl⟩:=hp
  have q : True:=trivial
  refine zCh ?_
  simp (disch:=omega) [c106_o0,zG,q]
  refine W.assoc ?_
  refine zCh ?_
  simp (disch:=omega) [c106_o1,zG,q,gm,lw]
  refine W.seq (W.cond (v:=zT) (by simp (disch:=omega) [zG,q]) ?_)
  simp only [if_true,if_false,Bool.false_eq_true]
  refine W.seq (W.use (yt) (by simp (disch:=omega) [zG,q]) fun s1 H1 hp => ?_)
  obtain ⟨q,rfl⟩:=hp
  try simp only [zW,if_true]
  refine W.ret ?_
  try simp only [zW,if_true]
  exact kR _ _ ⟨rg,[.bool zT],by simp [T.get,c106,evRess,evRes,q],rfl⟩
 | succ k ih =>
  intro s U h hk hs ce hU iv
  refine Tr.shr (R:=RE M Iv h (U ++ exL n (k + 1) s)) (args:=[.str (stW s),.ptr pm 0 1,.ptr py 0 1,.ptr pq 0 1,.ptr pe 0 1]) (cf:=c106) (e:=.ret) (s:=T.set (T.set (T.set (T.set (T.set .leaf [] (.str (stW s))) [zF] (.ptr pm 0 1)) [zT] (.ptr py 0 1)) [zF,zF] (.ptr pq 0 1)) [zT,zF] (.ptr pe 0 1)) (by decide) rfl (hJ _ _) rfl rfl (by simp) ?_
  have l0:=c106_l (l:=l) (m:=m) (k:=k) (s:=s) J q3 m5 am ce (by omega) iv (fun c U' h' hc hU' rg => by
   refine ih (s ++ [c]) U' h' (by simp; omega) (fun d hd => ?_) (ce.kp rg.1 am) ?_ rg.2
   ·rcases List.mem_append.1 hd with hd | hd
    ·exact hs d hd
    ·rw [List.mem_singleton.1 hd]; exact hc
   ·rw [hU',List.length_append,List.length_flatMap,exL_len]
    simp only [exL_len] at hU ⊢
    rw [List.map_const',List.sum_replicate_nat,List.length_range]
    have : c * n ^ k + n ^ k ≤ n ^ (k + 1):=by
     rw [Nat.pow_succ,Nat.mul_comm (n ^ k) n,← Nat.succ_mul]
     exact Nat.mul_le_mul_right _ hc
    omega)
  have rg0 : RE M Iv h U h:=⟨Kp.refl _,iv⟩
  have gm:=ce.gm
  have gq:=ce.gq
  have lw:=stW_len s
  clear ih ce
  generalize stW s = w at *
  refine Tr.w fun s1 H1 hp _ kR => ?_
  obtain ⟨rfl,rfl⟩:=hp
  have q : True:=trivial
  refine zCh ?_
  simp (disch:=omega) [c106_o0,zG,q]
  refine W.assoc ?_
  refine zCh ?_
  simp (disch:=omega) [c106_o1,zG,q,gm,lw]
  refine zCh ?_
  simp (disch:=omega) [c106_o2,zG,q]
  refine W.assoc ?_
  refine zCh ?_
  simp (disch:=omega) [c106_o3,zG,q,gq]
  refine W.seq (W.block ?_)
  refine W.use (l0) (by simp (disch:=omega) [zG,q,rg0]) fun s1 H1 hp => ?_
  obtain ⟨rg,q⟩:=hp
  try simp only [zW,if_true]
  refine zCh ?_
  simp (disch:=omega) [c106_o9,zG,q]
  refine W.ret ?_
  try simp only [zW,if_true]
  exact kR _ _ ⟨rg,[.bool zT],by simp [T.get,c106,evRess,evRes,q],rfl⟩
end
def wsL (R : List (List Nat)) : List AV:=R.map fun w => AV.str (stW w)
theorem wsL_len (R : List (List Nat)) : (wsL R).length = R.length:=by simp [wsL]
def SK (es : List (AV × AV)) : Prop:=∀ e ∈ es,∃ u,e.1 = AV.str u
theorem SK.put {u : List UInt8} {v : AV} : ∀ {es : List (AV × AV)},SK es → ∃ es',putMap (.str u) v es = some es' ∧ SK es'
 | [],_ => ⟨_,rfl,fun e he => ⟨u,by simp at he; rw [he]⟩⟩
 | e :: es,h => by
  obtain ⟨z,hz⟩:=h e (by simp)
  have ht : SK es:=fun e he => h e (List.mem_cons_of_mem _ he)
  obtain ⟨es',h1,h2⟩:=SK.put (u:=u) (v:=v) ht
  obtain ⟨k,x⟩:=e
  simp only at hz
  subst hz
  simp only [putMap,aveq]
  cases hb : (u == z)
  ·simp only
   rw [h1]
   exact ⟨_,rfl,fun e he => by
    rcases List.mem_cons.1 he with rfl | he
    ·exact ⟨z,rfl⟩
    ·exact h2 e he⟩
  ·exact ⟨_,rfl,fun e he => by
    rcases List.mem_cons.1 he with rfl | he
    ·exact ⟨u,rfl⟩
    ·exact ht e he⟩
theorem find_pne {u z : List UInt8} (hu : z ≠ u) {v : AV} : ∀ {es es' : List (AV × AV)},SK es → putMap (.str u) v es = some es' → findA (.str z) es' = findA (.str z) es
 | [],es',_,h => by
  simp only [putMap,Option.some.injEq] at h
  subst h
  show (match aveq (.str z) (.str u) with | some zT => _ | some zF => _ | none => _) = _
  simp only [aveq]
  rw [beq_eq_false_iff_ne.2 hu]
 | e :: es,es',h,hp => by
  obtain ⟨y,hy⟩:=h e (by simp)
  have ht : SK es:=fun e he => h e (List.mem_cons_of_mem _ he)
  obtain ⟨k,x⟩:=e
  simp only at hy
  subst hy
  simp only [putMap,aveq] at hp
  cases hb : (u == y)
  ·rw [hb] at hp
   simp only [Option.map_eq_some_iff] at hp
   obtain ⟨es1,h1,rfl⟩:=hp
   have ih:=find_pne hu ht h1
   simp only [findA,aveq,ih]
  ·rw [hb] at hp
   simp only [Option.some.injEq] at hp
   subst hp
   have : u = y:=by simpa using hb
   subst this
   simp only [findA,aveq]
   rw [beq_eq_false_iff_ne.2 hu]
theorem find_psame {u : List UInt8} {v : AV} : ∀ {es es' : List (AV × AV)},SK es → putMap (.str u) v es = some es' → findA (.str u) es' = some (some v)
 | [],es',_,h => by
  simp only [putMap,Option.some.injEq] at h
  subst h
  simp [findA,aveq]
 | e :: es,es',h,hp => by
  obtain ⟨y,hy⟩:=h e (by simp)
  have ht : SK es:=fun e he => h e (List.mem_cons_of_mem _ he)
  obtain ⟨k,x⟩:=e
  simp only at hy
  subst hy
  simp only [putMap,aveq] at hp
  cases hb : (u == y)
  ·rw [hb] at hp
   simp only [Option.map_eq_some_iff] at hp
   obtain ⟨es1,h1,rfl⟩:=hp
   have ih:=find_psame ht h1
   simp only [findA,aveq,hb,ih]
  ·rw [hb] at hp
   simp only [Option.some.injEq] at hp
   subst hp
   simp [findA,aveq]
theorem stW_inj {v w : List Nat} (hv : ∀ c ∈ v,c < 3) (hw : ∀ c ∈ w,c < 3) (e : stW v = stW w) : v = w:=by
 induction v generalizing w with
 | nil =>
  cases w with
  | nil => rfl
  | cons b w => simp [stW] at e
 | cons a v ih =>
  cases w with
  | nil => simp [stW] at e
  | cons b w =>
   simp only [stW,List.map_cons,List.cons.injEq] at e
   have e1:=congrArg UInt8.toNat e.1
   have ha:=hv a (by simp)
   have hb:=hw b (by simp)
   rw [UInt8.toNat_ofNat',UInt8.toNat_ofNat'] at e1
   rw [ih (fun c hc => hv c (by simp [hc])) (fun c hc => hw c (by simp [hc])) e.2,show a = b by omega]
def AtR (es : List (AV × AV)) (R : List (List Nat)) : Prop:=∀ i,i < R.length → findA (.str (stW (R.getD i []))) es = some (some (G i))
theorem AtR.put {es es' : List (AV × AV)} {R : List (List Nat)} {w : List Nat} (sk : SK es) (t : AtR es R) (hR : ∀ r ∈ R,∀ c ∈ r,c < 3) (hw : ∀ c ∈ w,c < 3) (hn : w ∉ R) (hp : putMap (.str (stW w)) (G R.length) es = some es') : AtR es' (R ++ [w]):=fun i hi => by
 by_cases c : i < R.length
 ·have e : (R ++ [w]).getD i [] = R.getD i []:=by
   rw [zd,zd,List.getElem?_append_left c]
  have hm : R.getD i [] ∈ R:=by
   rw [zd,zq c]
   exact List.getElem_mem _
  rw [e,find_pne (fun q => hn (stW_inj (hR _ hm) hw q ▸ hm)) sk hp]
  exact t i c
 ·rw [List.length_append,List.length_singleton] at hi
  obtain rfl : i = R.length:=by omega
  have e : (R ++ [w]).getD R.length [] = w:=by
   rw [zd,List.getElem?_append_right (Nat.le_refl _),Nat.sub_self]; rfl
  rw [e]
  exact find_psame sk hp
def AtU (B : List (List Int)) (es : List (AV × AV)) (U : List (List Nat)) : Prop:=(∀ u ∈ U,∀ c ∈ u,c < 3) → U.Nodup → AtR es (U.filter (bsd B))
structure IL (S : Nat) (s0 : T) (a : AG) (h0 : Heap) (st : LoopState) (U : List (List Nat)) (h : Heap) : Prop where
 lo : h.lo = h0.get
 N : h.N = S
 sz : S + 9 ≤ h.size
 gr : h.get S = .cells 0 3 [G a.q,a.x,a.y]
 gc : h.get (S + 3) = .cells 0 1 [.ptr (S + 2) 0 3]
 gl : h.get (S + 6) = .loop st none s0 [[zT,zT,zF,zF]] c61_o6 c61_r0
 gm : ∃ es,h.get (S + 1) = .map es ∧ SK es ∧ AtU a.B es U
 gx : ∃ x,h.get (S + 2) = .cells 0 3 [x,.map (S + 1),.nils] ∧ LV h x (wsL (U.filter (bsd a.B))) ∧ ∀ b,blk x = some b → S + 9 ≤ b
def ML (S : Nat) (b : Nat) : Prop:=b = S + 1 ∨ b = S + 2 ∨ b = S + 6 ∨ S + 9 ≤ b
theorem Kp.low {h0 h : Heap} (lo : h.lo = h0.get) (N : h.N = h0.size) : Kp (fun _ => False) (frameOf h0) h:=by
 refine ⟨lo,N,?_,fun b hb _ => ?_⟩
 ·show h0.size + 0 ≤ h.size
  unfold Heap.size at *
  omega
 ·have hb : b < h0.size:=hb
  unfold Heap.get
  rw [if_pos (by omega),if_pos (show b < (frameOf h0).N from hb),lo]; rfl
theorem IL.st {S : Nat} {s0 : T} {a : AG} {h0 : Heap} {st st' : LoopState} {U : List (List Nat)} {h : Heap} (i : IL S s0 a h0 st U h) : IL S s0 a h0 st' U (h.upd (S + 6) (.loop st' none s0 [[zT,zT,zF,zF]] c61_o6 c61_r0)) ∧ Kp (ML S) h (h.upd (S + 6) (.loop st' none s0 [[zT,zT,zF,zF]] c61_o6 c61_r0)):=by
 have hN:=i.N
 have hs:=i.sz
 have e : ∀ b,b ≠ S + 6 → (h.upd (S + 6) (.loop st' none s0 [[zT,zT,zF,zF]] c61_o6 c61_r0)).get b = h.get b:=fun b hb => upd_ne _ _ _ _ (by omega) (by omega)
 refine ⟨⟨i.lo,i.N,by rw [upd_size]; exact hs,by rw [e _ (by omega)]; exact i.gr,by rw [e _ (by omega)]; exact i.gc,upd_same _ _ _ (by omega) (by omega),?_,?_⟩,Kp.upd _ _ _ (by omega) (.inr (.inr (.inl rfl)))⟩
 ·rw [e _ (by omega)]; exact i.gm
 ·obtain ⟨x,g,l,hb⟩:=i.gx
  exact ⟨x,by rw [e _ (by omega)]; exact g,l.kp (Kp.upd (M:=(· = S + 6)) _ _ _ (by omega) rfl) (fun b hb' => by have:=hb b hb'; omega),hb⟩
section
variable {S : Nat} {s0 : T} {a : AG} {h0 : Heap} {U : List (List Nat)}
theorem b61_f (J : CallF) (k89 : KW 89 J) (hS : S = h0.size) (o : OkG a h0) {w : List Nat} (hw : ∀ c ∈ w,c < a.q) (lw : w.length ≤ 1000) {X : Heap} (il : IL S s0 a h0 .busy U X) (hb : bsd a.B w = zF) :
  Tr tbl J c61_r0 (fun s h => s.get [zT] = .ptr S 0 3 ∧ s.get [zF,zT] = .ptr (S + 3) 0 1 ∧ s.get [zT,zT] = .str (stW w) ∧ h = X) .normal (fun s h => h = X):=by
 have k:=k89 X a w (o.fr.kp (Kp.low il.lo (by rw [il.N,hS]))) hw lw
 rw [hb] at k
 have gr:=il.gr
 clear il
 generalize stW w = u at *
 refine Tr.w fun s1 H1 hp R kR => ?_
 obtain ⟨g0,g1,g2,rfl⟩:=hp
 have q : True:=trivial
 refine W.block ?_
 refine zCh ?_
 simp (disch:=omega) [c61_o3,zG,q,g0,g1,g2,k,gr]
 refine W.chunk ?_
 simp (disch:=omega) [c61_o4,c61_o5,zG,q,-evDraw_c,evDraw_0]
 exact kR _ _ rfl
theorem filter_one {p : List Nat → Bool} (U : List (List Nat)) (w : List Nat) : (U ++ [w]).filter p = U.filter p ++ if p w then [w] else []:=by
 rw [List.filter_append]
 congr 1
 cases h : p w <;> simp [h]
theorem b61_t (J : CallF) (k89 : KW 89 J) (hS : S = h0.size) (o : OkG a h0) {w : List Nat} (hw : ∀ c ∈ w,c < a.q) (lw : w.length ≤ 1000) {X : Heap} (il : IL S s0 a h0 .busy U X) (hU : U.length ≤ 1000) (hb : bsd a.B w = zT) :
  Tr tbl J c61_r0 (fun s h => s.get [zT] = .ptr S 0 3 ∧ s.get [zF,zT] = .ptr (S + 3) 0 1 ∧ s.get [zT,zT] = .str (stW w) ∧ h = X) .normal (fun s h => IL S s0 a h0 .busy (U ++ [w]) h ∧ Kp (ML S) X h):=by
 have k:=k89 X a w (o.fr.kp (Kp.low il.lo (by rw [il.N,hS]))) hw lw
 rw [hb] at k
 have gr:=il.gr
 have gc:=il.gc
 have sz:=il.sz
 have hN:=il.N
 obtain ⟨es,gm,sk,au⟩:=il.gm
 obtain ⟨x,gx,lv,xb⟩:=il.gx
 obtain ⟨es',pm,sk'⟩:=sk.put (u:=stW w) (v:=G (wsL (U.filter (bsd a.B))).length)
 have au' : AtU a.B es' (U ++ [w]):=fun h1 h2 => by
  rw [List.nodup_append] at h2
  obtain ⟨h3,_,h4⟩:=h2
  rw [List.filter_append,show [w].filter (bsd a.B) = [w] by simp [hb]]
  rw [wsL_len] at pm
  exact (au (fun u hu => h1 u (List.mem_append_left _ hu)) h3).put sk (fun r hr => h1 r (List.mem_append_left _ (List.mem_filter.1 hr).1)) (h1 w (by simp)) (fun hm => h4 w (List.mem_filter.1 hm).1 w (by simp) rfl) pm
 have ma:=mapA_at gm
 have lr : (wsL (U.filter (bsd a.B))).length ≤ 1000:=by rw [wsL_len]; exact Nat.le_trans (List.length_filter_le _ _) hU
 obtain ⟨Y,hY⟩ : ∃ Y,X.upd (S + 1) (.map es') = Y:=⟨_,rfl⟩
 have p1 : Eff.app (.mput (S + 1) es') X = some Y:=by rw [← hY]; exact mput_gen _ _ _ _ (by omega) gm
 have eY : ∀ b,b ≠ S + 1 → Y.get b = X.get b:=fun b hb => by rw [← hY]; exact upd_ne _ _ _ _ (by omega) (by omega)
 have kY : Kp (· = S + 1) X Y:=by rw [← hY]; exact Kp.upd _ _ _ (by omega) rfl
 have yc : Y.get (S + 3) = .cells 0 1 [.ptr (S + 2) 0 3]:=by rw [eY _ (by omega)]; exact gc
 have yx : Y.get (S + 2) = .cells 0 3 [x,.map (S + 1),.nils]:=by rw [eY _ (by omega)]; exact gx
 have ym : Y.get (S + 1) = .map es':=by rw [← hY]; exact upd_same _ _ _ (by omega) (by omega)
 have yN : Y.N = S:=by rw [kY.N,hN]
 have ys:=kY.size
 have yl : LV Y x (wsL (U.filter (bsd a.B))):=lv.kp kY (fun b hb => by have:=xb b hb; omega)
 have fin : ∀ {x1 : AV} {H2 : Heap},LV H2 x1 (wsL (U.filter (bsd a.B)) ++ [.str (stW w)]) → Kp (ML S) Y H2 → (∀ b,b ≤ S + 6 → H2.get b = Y.get b) → (∀ b,blk x1 = some b → S + 9 ≤ b) → IL S s0 a h0 .busy (U ++ [w]) (H2.upd (S + 2) (.cells 0 3 [x1,.map (S + 1),.nils])) ∧ Kp (ML S) X (H2.upd (S + 2) (.cells 0 3 [x1,.map (S + 1),.nils])):=fun {x1 H2} l2 k2 e2 b2 => by
  have n2 : H2.N = S:=by rw [k2.N,yN]
  have s2:=k2.size
  have k3 : Kp (ML S) X (H2.upd (S + 2) (.cells 0 3 [x1,.map (S + 1),.nils])):=((kY.mono (fun b _ e => .inl e)).trans k2).trans (Kp.upd _ _ _ (by omega) (.inr (.inl rfl)))
  have e3 : ∀ b,b ≤ S + 6 → b ≠ S + 2 → (H2.upd (S + 2) (.cells 0 3 [x1,.map (S + 1),.nils])).get b = Y.get b:=fun b h1 h2 => by rw [upd_ne _ _ _ _ (by omega) (by omega),e2 b h1]
  refine ⟨⟨by rw [k3.lo]; exact il.lo,by rw [k3.N]; exact hN,by rw [upd_size]; omega,?_,?_,?_,⟨es',?_,sk',au'⟩,x1,?_,?_,b2⟩,k3⟩
  ·rw [e3 _ (by omega) (by omega),eY _ (by omega)]; exact gr
  ·rw [e3 _ (by omega) (by omega)]; exact yc
  ·rw [e3 _ (by omega) (by omega),eY _ (by omega)]; exact il.gl
  ·rw [e3 _ (by omega) (by omega)]; exact ym
  ·exact upd_same _ _ _ (by omega) (by omega)
  ·rw [filter_one,if_pos hb]
   have : wsL (U.filter (bsd a.B) ++ [w]) = wsL (U.filter (bsd a.B)) ++ [.str (stW w)]:=by simp [wsL]
   rw [this]
   exact l2.kp (Kp.upd (M:=(· = S + 2)) _ _ _ (by omega) rfl) (fun b hb => by have:=b2 b hb; omega)
 clear il lv sk sk' eY kY ym hw au au'
 generalize hL : wsL (U.filter (bsd a.B)) = L at *
 generalize stW w = u at *
 obtain ⟨n,hn⟩ : ∃ n,L.length = n:=⟨_,rfl⟩
 rcases yl with ⟨rfl,rfl⟩ | ⟨b,rfl,g,nb⟩
 ·have x1 : Eff.app (.fill (Y.size + 1) (.cells 1 1 [.str u])) (Y.plus [.cells 1 1 [.str u],.hole]) = some (Y.plus [.cells 1 1 [.str u],.cells 1 1 [.str u]]):=fill_plus1 _ _ rfl _ _ _
  have x0 : Eff.app (.fill Y.size (.cells 1 1 [.str u])) (Y.plus [.hole,.hole]) = some (Y.plus [.cells 1 1 [.str u],.hole]):=fill_plus0 _ _ rfl _ _
  have v0:=fun xs => plus_keep (h:=Y) xs yc (by simp)
  have v1:=fun xs => plus_keep (h:=Y) xs yx (by simp)
  have p2 : Eff.app (.put (S + 2) 3 0 [.slice (Y.size + 1) 0 1 1]) (Y.plus [.cells 1 1 [.str u],.cells 1 1 [.str u]]) = some ((Y.plus [.cells 1 1 [.str u],.cells 1 1 [.str u]]).upd (S + 2) (.cells 0 3 [.slice (Y.size + 1) 0 1 1,.map (S + 1),.nils])):=put_gen _ _ _ _ _ _ _ (by rw [plus_N]; omega) (v1 _) (by simp)
  have f:=fin (x1:=.slice (Y.size + 1) 0 1 1) (H2:=Y.plus [.cells 1 1 [.str u],.cells 1 1 [.str u]]) (.inr ⟨_,rfl,by rw [plus_ge _ _ _ (by omega),show Y.size + 1 - Y.size = 1 by omega]; rfl,by rw [plus_N]; omega⟩) (Kp.plus _ _) (fun b hb => plus_lt _ _ _ (by omega)) (fun b hb => by cases hb; omega)
  have pm : putMap (.str u) (G 0) es = some es':=pm
  clear fin
  refine Tr.w fun s1 H1 hp R kR => ?_
  obtain ⟨g0,g1,g2,rfl⟩:=hp
  have q : True:=trivial
  refine W.block ?_
  refine zCh ?_
  simp (disch:=omega) [c61_o3,zG,q,g0,g1,g2,k,gr]
  refine W.cond (v:=zT) (by simp (disch:=omega) [zG,q]) ?_
  simp only [if_true,if_false,Bool.false_eq_true]
  refine zCh ?_
  simp (disch:=omega) [c61_o4,zG,q,gc,gx,ma,pm,p1,-evDraw_c,evDraw_0]
  refine W.chunk ?_
  simp (disch:=omega) [-evDraw_c,c61_o5,zG,q,evDraw_k,yc,yx,x0,x1,v0,v1,p2,appA,elems,rdOf]
  exact kR _ _ f
 ·rw [hn] at g gx yx pm lr
  have x0 : Eff.app (.fill Y.size (.cells 1 1 [.str u])) (Y.plus [.hole,.hole]) = some (Y.plus [.cells 1 1 [.str u],.hole]):=fill_plus0 _ _ rfl _ _
  have v0:=fun xs => plus_keep (h:=Y) xs yc (by simp)
  have v1:=fun xs => plus_keep (h:=Y) xs yx (by simp)
  have v2:=plus_keep (h:=Y) [.cells 1 1 [.str u],.hole] g (by simp)
  have b9:=xb b rfl
  have bY:=get_lt g (by simp)
  have ap : appA (Y.plus [.cells 1 1 [.str u],.hole]) Y.size (some 1) 1 16 1 [.str u] (.slice b 0 n n) = some (.slice b 0 (n + 1) (n + 1),.ext b n 1 [.str u]):=by
   simp only [appA,Nat.mul_one,Nat.one_mul]
   rw [if_neg (by decide),if_pos ⟨trivial,trivial,by omega⟩]
  have ex : Eff.app (.ext b n 1 [.str u]) (Y.plus [.cells 1 1 [.str u],.hole]) = some ((Y.plus [.cells 1 1 [.str u],.hole]).upd b (.cells 1 (n + 1) (L ++ [.str u]))):=ext_gen _ _ _ _ _ _ (by rw [plus_N]; omega) v2 hn
  obtain ⟨Z,hZ⟩ : ∃ Z,(Y.plus [.cells 1 1 [.str u],.hole]).upd b (.cells 1 (n + 1) (L ++ [.str u])) = Z:=⟨_,rfl⟩
  rw [hZ] at ex
  have kZ : Kp (· = b) Y Z:=by rw [← hZ]; exact (Kp.plus _ _).trans (Kp.upd _ _ _ (by rw [plus_N]; omega) rfl)
  have eZ : ∀ c,c < Y.size → c ≠ b → Z.get c = Y.get c:=fun c h1 h2 => kZ.get c h1 h2
  have zx : Z.get (S + 2) = .cells 0 3 [.slice b 0 n n,.map (S + 1),.nils]:=by rw [eZ _ (by omega) (by omega)]; exact yx
  have zb : Z.get b = .cells 1 (n + 1) (L ++ [.str u]):=by rw [← hZ]; exact upd_same _ _ _ (by rw [plus_N]; omega) (by rw [plus_size]; omega)
  have p2 : Eff.app (.put (S + 2) 3 0 [.slice b 0 (n + 1) (n + 1)]) Z = some (Z.upd (S + 2) (.cells 0 3 [.slice b 0 (n + 1) (n + 1),.map (S + 1),.nils])):=put_gen _ _ _ _ _ _ _ (by rw [kZ.N]; omega) zx (by simp)
  have f:=fin (x1:=.slice b 0 (n + 1) (n + 1)) (H2:=Z) (.inr ⟨b,by simp [hn],by simpa [hn] using zb,by rw [kZ.N]; omega⟩) (kZ.mono (fun c _ e => .inr (.inr (.inr (by omega))))) (fun c hc => eZ _ (by omega) (by omega)) (fun c hc => by cases hc; omega)
  have ne1 : ¬ (S + 3 = b):=by omega
  have ne2 : ¬ (S + 2 = b):=by omega
  clear fin hZ kZ eZ zb
  refine Tr.w fun s1 H1 hp R kR => ?_
  obtain ⟨g0,g1,g2,rfl⟩:=hp
  have q : True:=trivial
  refine W.block ?_
  refine zCh ?_
  simp (disch:=omega) [c61_o3,zG,q,g0,g1,g2,k,gr]
  refine W.cond (v:=zT) (by simp (disch:=omega) [zG,q]) ?_
  simp only [if_true,if_false,Bool.false_eq_true]
  refine zCh ?_
  simp (disch:=omega) [c61_o4,zG,q,gc,gx,ma,pm,p1,-evDraw_c,evDraw_0]
  refine W.chunk ?_
  simp (disch:=omega) [-evDraw_c,c61_o5,zG,q,evDraw_k,yc,yx,x0,v0,v1,p2,ap,ex,elems,rdOf,ne1,ne2]
  exact kR _ _ f
end
section
variable {S : Nat} {s0 : T} {a : AG} {h0 : Heap} {U : List (List Nat)} {m : Nat}
theorem feed61 (J : CallF) (k89 : KW 89 J) (hS : S = h0.size) (o : OkG a h0) (m5 : m ≤ 5) (g2 : s0.get [zT] = .ptr S 0 3) (g5 : s0.get [zF,zT] = .ptr (S + 3) 0 1) : Feed J (S + 6) m a.q (ML S) (fun U h => IL S s0 a h0 .ready U h):=⟨fun U w h hU lw hw il => by
 have t8 : Tr tbl J c61_o6 (fun s h' => s.get [zT] = .ptr S 0 3 ∧ s.get [zF,zT] = .ptr (S + 3) 0 1 ∧ s.get [zT,zT,zF,zF] = .str (stW w) ∧ h' = h) .normal (fun s h' => s.get [zT] = .ptr S 0 3 ∧ s.get [zF,zT] = .ptr (S + 3) 0 1 ∧ s.get [zT,zT] = .str (stW w) ∧ h' = h):=by
  have t : Tr tbl J (c61_o6) (fun s h' => s.get [zT] = .ptr S 0 3 ∧ s.get [zF,zT] = .ptr (S + 3) 0 1 ∧ s.get [zT,zT,zF,zF] = .str (stW w) ∧ h' = h) .normal (fun s h' => s.get [zT] = .ptr S 0 3 ∧ s.get [zF,zT] = .ptr (S + 3) 0 1 ∧ s.get [zT,zT] = .str (stW w) ∧ h' = h):=Tr.region fun s h hp => by
   obtain ⟨g0,g1,g2,rfl⟩:=hp
   simp (disch:=omega) [c61_o6,zG,g0,g1,g2]
  exact t
 obtain ⟨s1,h1,r1,q0,q1,q2,rfl⟩:=t8 (s0.set [zT,zT,zF,zF] (.str (stW w))) h ⟨by rw [T.get_set,if_neg (by simp)]; exact g2,by rw [T.get_set,if_neg (by simp)]; exact g5,by rw [T.get_set,if_pos rfl],rfl⟩
 obtain ⟨ib,kb⟩:=il.st (st':=.busy)
 have hN:=il.N
 have r2 : ∃ s2 h2,Runs tbl J c61_r0 s1 (h1.upd (S + 6) (.loop .busy none s0 [[zT,zT,zF,zF]] c61_o6 c61_r0)) (.normal,s2,h2) ∧ IL S s0 a h0 .busy (U ++ [w]) h2 ∧ Kp (ML S) (h1.upd (S + 6) (.loop .busy none s0 [[zT,zT,zF,zF]] c61_o6 c61_r0)) h2:=by
  cases hb : bsd a.B w
  ·obtain ⟨s2,h2,r,rfl⟩:=b61_f J k89 hS o hw (by omega) ib hb s1 _ ⟨q0,q1,q2,rfl⟩
   refine ⟨s2,_,r,?_,Kp.refl _⟩
   obtain ⟨x,gx,lv,xb⟩:=ib.gx
   obtain ⟨es,gm,sk,au⟩:=ib.gm
   refine ⟨ib.lo,ib.N,ib.sz,ib.gr,ib.gc,ib.gl,⟨es,gm,sk,fun h1 h2 => ?_⟩,x,gx,?_,xb⟩
   ·rw [filter_one,if_neg (by rw [hb]; simp),List.append_nil]
    rw [List.nodup_append] at h2
    exact au (fun u hu => h1 u (List.mem_append_left _ hu)) h2.1
   rw [filter_one,if_neg (by rw [hb]; simp),List.append_nil]
   exact lv
  ·obtain ⟨s2,h2,r,i2,k2⟩:=b61_t J k89 hS o hw (by omega) ib (by omega) hb s1 _ ⟨q0,q1,q2,rfl⟩
   exact ⟨s2,h2,r,i2,k2⟩
 obtain ⟨s2,h2,r2,i2,k2⟩:=r2
 have hc:=CallsTo.yld (args:=[.str (stW w)]) (by omega) il.gl rfl r1 (by omega) il.gl r2 (by rw [i2.N]; omega) i2.gl
 obtain ⟨i3,k3⟩:=i2.st (st':=.ready)
 exact ⟨_,hc,(kb.trans k2).trans k3,i3⟩⟩
theorem c105_ok (J : CallF) (hJ : ∀ a h,J 105 a h = none) {H : Heap} {l pm pq m n : Nat} {M : Nat → Prop} {R : Heap → Prop} (gm : H.get pm = .cells 0 1 [G m]) (gq : H.get pq = .cells 0 1 [G n])
  (call : ∃ h',(Kp M (H.plus [.cells 0 1 [.yld l],.cells 0 1 [.func 106 [.ptr pm 0 1,.ptr H.size 0 1,.ptr pq 0 1,.ptr (H.size + 1) 0 1]]]) h' ∧ R h') ∧ CallsTo tbl J 106 [.str [],.ptr pm 0 1,.ptr H.size 0 1,.ptr pq 0 1,.ptr (H.size + 1) 0 1] (H.plus [.cells 0 1 [.yld l],.cells 0 1 [.func 106 [.ptr pm 0 1,.ptr H.size 0 1,.ptr pq 0 1,.ptr (H.size + 1) 0 1]]]) (.bool zT,h'.own,zT)) :
  ∃ h',R h' ∧ Kp (fun b => M b ∨ H.size ≤ b) H h' ∧ CallsTo tbl J 105 [.yld l,.ptr pm 0 1,.ptr pq 0 1] H (.tup [],h'.own,zT):=by
 obtain ⟨h2,⟨k2,r2⟩,call⟩:=call
 have x:=Tr.shr (tbl:=tbl) (I:=J) (f:=105) (h:=H) (v:=.tup []) (R:=fun h' => h' = h2) (args:=[.yld l,.ptr pm 0 1,.ptr pq 0 1]) (cf:=c105) (e:=.normal) (s:=T.set (T.set (T.set .leaf [] (.yld l)) [zF] (.ptr pm 0 1)) [zT] (.ptr pq 0 1)) (by decide) rfl (hJ _ _) rfl rfl (by simp) ?_
 ·obtain ⟨h',rfl,hc⟩:=x
  exact ⟨_,r2,((Kp.plus (M:=fun b => M b ∨ H.size ≤ b) H _).trans (k2.mono fun b _ e => .inl e)),hc⟩
 ·refine Tr.w fun s1 H1 hp Q kR => ?_
  obtain ⟨rfl,rfl⟩:=hp
  have aa:=all_eq k2
  refine W.point (by decide) call ?_
  have k106:=pt_at (I:=J) (f:=106) (args:=[.str [],.ptr pm 0 1,.ptr H1.size 0 1,.ptr pq 0 1,.ptr (H1.size + 1) 0 1]) (h:=H1.plus [.cells 0 1 [.yld l],.cells 0 1 [.func 106 [.ptr pm 0 1,.ptr H1.size 0 1,.ptr pq 0 1,.ptr (H1.size + 1) 0 1]]]) (x:=(.bool zT,h2.own,zT))
  generalize pt J 106 [.str [],.ptr pm 0 1,.ptr H1.size 0 1,.ptr pq 0 1,.ptr (H1.size + 1) 0 1] (H1.plus [.cells 0 1 [.yld l],.cells 0 1 [.func 106 [.ptr pm 0 1,.ptr H1.size 0 1,.ptr pq 0 1,.ptr (H1.size + 1) 0 1]]]) (.bool zT,h2.own,zT) = J at *
  clear call
  have q : True:=trivial
  have p1 : ∀ x,Eff.app (.put (H1.size + 1) 1 0 [x]) (H1.plus [.cells 0 1 [.yld l],.cells 0 1 [.nilf]]) = some (H1.plus [.cells 0 1 [.yld l],.cells 0 1 [x]]):=fun x => by
   rw [put_plus H1 [.cells 0 1 [.yld l],.cells 0 1 [.nilf]] 1 1 0 0 [.nilf] [x] (H1.size + 1) rfl rfl (by simp)]; rfl
  have g1 : ∀ x y,(H1.plus [x,y]).get (H1.size + 1) = y:=fun x y => by rw [plus_ge _ _ _ (by omega),Nat.add_sub_cancel_left]; rfl
  refine zCh ?_
  simp (disch:=omega) [c105_o0,zG,q,plus_plus,plus_size]
  refine zCh ?_
  simp (disch:=omega) [c105_o1,zG,q,plus_plus,plus_size]
  refine zCh ?_
  simp (disch:=omega) [c105_o2,zG,q,plus_plus,plus_size,p1]
  refine W.chunk ?_
  simp (disch:=omega) [c105_o3,zG,q,plus_plus,plus_size,g1,k106]
  exact kR _ _ ⟨aa,[],by simp [c105,evRess],rfl⟩
abbrev O61 (S m : Nat) (a : AG) : List AObj:=[.cells 0 3 [G a.q,a.x,a.y],.map [],.cells 0 3 [.nils,.map (S + 1),.nils],.cells 0 1 [.ptr (S + 2) 0 3],.cells 0 1 [G a.q],.cells 0 1 [G m]]
theorem c61_range (J : CallF) (k89 : KW 89 J) (h5 : ∀ a h,J 105 a h = none) (h6 : ∀ a h,J 106 a h = none) (h : Heap) (o : OkG a h) (m5 : m ≤ 5) :
  Tr tbl J (.range (.s [zF,zT,zF,zF]) [[zT,zT,zF,zF]] c61_o6 c61_r0) (fun s h' => s.get [zT] = .ptr h.size 0 3 ∧ s.get [zF,zT] = .ptr (h.size + 3) 0 1 ∧ s.get [zF,zT,zF,zF] = .func 105 [.ptr (h.size + 5) 0 1,.ptr (h.size + 4) 0 1] ∧ h' = ⟨h.get,h.size,O61 h.size m a⟩) .normal
   (fun s h' => IL h.size s a h .exhausted (exL a.q m []) h' ∧ s.get [zT] = .ptr h.size 0 3 ∧ s.get [zF,zT] = .ptr (h.size + 3) 0 1):=fun s h' hp => by
 obtain ⟨g2,g5,g17,hH⟩:=hp
 obtain ⟨S,hS⟩ : ∃ S,h.size = S:=⟨_,rfl⟩
 rw [hS] at g2 g5 g17 hH ⊢
 have q3:=o.q1
 have hs : h'.size = S + 6:=by rw [hH]; rfl
 have hN : h'.N = S:=by rw [hH]
 have hlo : h'.lo = h.get:=by rw [hH]
 have hget : ∀ j x,(O61 S m a)[j]? = some x → h'.get (S + j) = x:=fun j x hx => by
  rw [hH,get_mk_ge _ _ _ _ (by omega),Nat.add_sub_cancel_left,zd,hx]; rfl
 obtain ⟨H0,hH0⟩ : ∃ X,h'.plus [.loop .ready none s [[zT,zT,zF,zF]] c61_o6 c61_r0] = X:=⟨_,rfl⟩
 have k0 : ∀ b x,h'.get b = x → x ≠ .hole → H0.get b = x:=fun b x e hx => by rw [← hH0]; exact plus_keep _ e hx
 have hs0 : H0.size = S + 7:=by rw [← hH0,plus_size,hs]; rfl
 have hl0 : H0.get (S + 6) = .loop .ready none s [[zT,zT,zF,zF]] c61_o6 c61_r0:=by rw [← hH0]; exact plus_at0 _ _ _ _ hs
 obtain ⟨H1,hH1⟩ : ∃ X,H0.plus [.cells 0 1 [.yld (S + 6)],.cells 0 1 [.func 106 [.ptr (S + 5) 0 1,.ptr H0.size 0 1,.ptr (S + 4) 0 1,.ptr (H0.size + 1) 0 1]]] = X:=⟨_,rfl⟩
 have k1 : ∀ b x,H0.get b = x → x ≠ .hole → H1.get b = x:=fun b x e hx => by rw [← hH1]; exact plus_keep _ e hx
 have k01 : ∀ b x,h'.get b = x → x ≠ .hole → H1.get b = x:=fun b x e hx => k1 b x (k0 b x e hx) hx
 have hs1 : H1.size = S + 9:=by rw [← hH1,plus_size,hs0]; rfl
 have e7 : H1.get (S + 7) = .cells 0 1 [.yld (S + 6)]:=by rw [← hH1]; exact plus_at0 _ _ _ _ hs0
 have e8 : H1.get (S + 8) = .cells 0 1 [.func 106 [.ptr (S + 5) 0 1,.ptr (S + 7) 0 1,.ptr (S + 4) 0 1,.ptr (S + 8) 0 1]]:=by
  rw [← hH1,plus_ge _ _ _ (by omega),hs0,show S + 8 - (S + 7) = 1 by omega]; rfl
 have il : IL S s a h .ready [] H1:=by
  refine ⟨by rw [← hH1,← hH0]; exact hlo,by rw [← hH1,← hH0]; exact hN,by omega,k01 _ _ (hget 0 _ rfl) (by simp),k01 _ _ (hget 3 _ rfl) (by simp),k1 _ _ hl0 (by simp),⟨[],k01 _ _ (hget 1 _ rfl) (by simp),fun e he => (by cases he),fun _ _ i hi => absurd hi (by simp)⟩,.nils,k01 _ _ (hget 2 _ rfl) (by simp),LV.nil _,fun b hb => by cases hb⟩
 have ce : CE H1 (S + 5) (S + 7) (S + 4) (S + 8) (S + 6) m a.q:=⟨k01 _ _ (hget 5 _ rfl) (by simp),e7,k01 _ _ (hget 4 _ rfl) (by simp),e8⟩
 have am : ¬ ML S (S + 5) ∧ ¬ ML S (S + 7) ∧ ¬ ML S (S + 4) ∧ ¬ ML S (S + 8):=by unfold ML; omega
 obtain ⟨h2,⟨kk,il2⟩,call⟩:=c106_ok (l:=S + 6) J h6 q3.2 m5 am (feed61 J k89 hS.symm o m5 g2 g5) m [] [] H1 (by simp) (by simp) ce (by have:=exL_small q3.2 m5 []; simpa using this) il
 rw [List.nil_append] at il2
 obtain ⟨h3,i3,k3,c5⟩:=c105_ok (l:=S + 6) (pm:=S + 5) (pq:=S + 4) (m:=m) (n:=a.q) (M:=ML S) (R:=fun h' => IL S s a h .ready (exL a.q m []) h') J h5 (k0 _ _ (hget 5 _ rfl) (by simp)) (k0 _ _ (hget 4 _ rfl) (by simp)) ⟨h2,⟨by rw [hH1]; exact kk,il2⟩,by rw [hH1,hs0]; exact call⟩
 have hl3:=i3.gl
 have eH : (⟨h'.lo,h'.N,h3.own⟩ : Heap) = h3:=by
  have:=all_eq k3
  rw [← hH0] at this
  exact this
 rw [← hH0] at c5
 have r:=Runs.range (tbl:=tbl) (I:=J) (f:=.s [zF,zT,zF,zF]) (s:=s) (h:=h') (g:=105) g17 (by decide) (by rw [hs]; exact c5) (by rw [eH,hs]; exact hl3) (by simp)
 rw [eH,hs] at r
 exact ⟨_,_,r,(i3.st (st':=.exhausted)).1,g2,g5⟩
end
def mkD (k h0 g bytes : Nat) (z : List AV) (n : Int) : Option (AV × FP):=if 0 ≤ n ∧ n * bytes ≤ 1099511627776 ∧ z.length = g then some (.slice (h0 + k) 0 n.toNat (n.toNat * g),{ eff:=.fill (h0 + k) (.cells g (n.toNat * g) (repl n.toNat z)) }) else none
theorem act_mkD (call : CallF) (h0 : Heap) (s : T) (h : Heap) (k g bytes : Nat) (z : List AV) (x : AOpd) : act call h0 s h (.makeSlice (some k) g bytes z x) = match x.ev s with
  | .int _ n => mkD k h0.size g bytes z n
  | _ => none:=by
 simp only [act]
 cases x.ev s <;> rfl
theorem mkD_ok (k h0 bytes : Nat) (z : AV) (n : Nat) (N : Int) (hN : N = n) (hb : n * bytes ≤ 1099511627776) : mkD k h0 1 bytes [z] N = some (.slice (h0 + k) 0 n n,{ eff:=.fill (h0 + k) (.cells 1 n (List.replicate n z)) }):=by
 subst hN
 unfold mkD
 rw [if_pos ⟨by omega,by rw [← Int.natCast_mul]; omega,rfl⟩,Int.toNat_natCast,Nat.mul_one]
 rfl
def gn (L : List Nat) : List AV:=L.map fun (k : Nat) => G k
theorem gn_len (L : List Nat) : (gn L).length = L.length:=by simp [gn]
structure FL (S : Nat) (a : AG) (h0 : Heap) (bx vx nb : Nat) (R : List (List Nat)) (H : Heap) : Prop where
 lo : H.lo = h0.get
 N : H.N = S
 sz : S + 9 ≤ H.size
 gr : H.get S = .cells 0 3 [G a.q,a.x,a.y]
 gc : H.get (S + 3) = .cells 0 1 [.ptr (S + 2) 0 3]
 gx : H.get (S + 2) = .cells 0 3 [.slice bx 0 R.length vx,.map (S + 1),.slice nb 0 R.length R.length]
 gb : H.get bx = .cells 1 vx (wsL R)
 bn : bx ≠ nb
 n9 : S + 4 ≤ nb
theorem FL.kp {M : Nat → Prop} {S : Nat} {a : AG} {h0 : Heap} {bx vx nb : Nat} {R : List (List Nat)} {H H' : Heap} (f : FL S a h0 bx vx nb R H) (k : Kp M H H') (hM : ∀ b,M b → b = nb ∨ H.size ≤ b) : FL S a h0 bx vx nb R H':=by
 have sz:=f.sz
 have n9:=f.n9
 have bn:=f.bn
 have lb:=get_lt f.gb (by simp)
 have nm : ∀ b,b < S + 4 → ¬ M b:=fun b hb m => by rcases hM b m with e | e <;> omega
 exact ⟨by rw [k.lo]; exact f.lo,by rw [k.N]; exact f.N,Nat.le_trans f.sz k.size,k.at f.gr (by simp) (nm _ (by omega)),k.at f.gc (by simp) (nm _ (by omega)),k.at f.gx (by simp) (nm _ (by omega)),k.at f.gb (by simp) (fun m => by rcases hM _ m with e | e <;> omega),f.bn,f.n9⟩
section
variable {S : Nat} {a : AG} {h0 : Heap} {bx vx nb : Nat} {R : List (List Nat)}
theorem wsL_at {i : Nat} (hi : i < R.length) : (wsL R)[i]? = some (.str (stW (R.getD i []))):=by
 unfold wsL
 rw [List.getElem?_map,zd,zq hi]; rfl
def nxP (W : List (List Int)) (R : List (List Nat)) (s : List Nat) (j : Nat) : List Nat:=(List.range j).filter fun j => blw W s (R.getD j [])
theorem nxP_succ (W : List (List Int)) (R : List (List Nat)) (s : List Nat) (j : Nat) : nxP W R s (j + 1) = nxP W R s j ++ if blw W s (R.getD j []) then [j] else []:=by
 unfold nxP
 rw [List.range_succ,List.filter_append]
 congr 1
 rw [List.filter_cons]
 cases h : blw W s (R.getD j []) <;> rfl
theorem nxP_len (W : List (List Int)) (R : List (List Nat)) (s : List Nat) (j : Nat) : (nxP W R s j).length ≤ j:=Nat.le_trans (List.length_filter_le _ _) (by simp)
structure II (S : Nat) (nb i n : Nat) (rs : List AV) (Hi : Heap) (L : List Nat) (h : Heap) : Prop where
 k : Kp (· = nb) Hi h
 g : ∃ y,h.get nb = .cells 1 n (rs.set i y) ∧ LV h y (gn L) ∧ ∀ b,blk y = some b → Hi.size ≤ b
theorem o15_ok (J : CallF) {Hi X : Heap} (f : FL S a h0 bx vx nb R Hi) {i j : Nat} {rs : List AV} {L : List Nat} (ii : II S nb i R.length rs Hi L X) (hi : i < R.length) (lrs : rs.length = R.length) (hL : L.length ≤ 1000) (hn : R.length ≤ 1000) (hnb : nb < Hi.size) {v8 : AV} :
  Tr tbl J c61_o15 (fun s h => s.get [zT] = .ptr S 0 3 ∧ s.get [zF,zT] = .ptr (S + 3) 0 1 ∧ s.get [zF,zF,zF] = G i ∧ s.get [zT,zF,zF] = v8 ∧ s.get [zF,zT,zF] = G j ∧ s.get [zT,zT,zT,zF,zT] = .slice bx 0 R.length vx ∧ s.get [zF,zF,zF,zT,zT] = G R.length ∧ s.get [zT,zF,zF,zT,zT] = G i ∧ s.get [zT,zF,zF,zF,zF,zF] = .slice bx 0 R.length vx ∧ s.get [zF,zT,zF,zF,zF,zF] = G R.length ∧ s.get [zT,zT,zF,zF,zF,zF] = G j ∧ h = X) .normal
   (fun s h => II S nb i R.length rs Hi (L ++ [j]) h ∧ (fun s h => s.get [zT] = .ptr S 0 3 ∧ s.get [zF,zT] = .ptr (S + 3) 0 1 ∧ s.get [zF,zF,zF] = G i ∧ s.get [zT,zF,zF] = v8 ∧ s.get [zT,zT,zT,zF,zT] = .slice bx 0 R.length vx ∧ s.get [zF,zF,zF,zT,zT] = G R.length ∧ s.get [zT,zF,zF,zT,zT] = G i ∧ s.get [zT,zF,zF,zF,zF,zF] = .slice bx 0 R.length vx ∧ s.get [zF,zT,zF,zF,zF,zF] = G R.length ∧ s.get [zT,zT,zF,zF,zF,zF] = G j) s h):=by
 obtain ⟨kX,y,gy,lv,yb⟩:=ii
 have fX:=f.kp kX (fun b e => .inl e)
 have n9:=f.n9
 have hN:=fX.N
 have gc:=fX.gc
 have gx:=fX.gx
 have sX:=fX.sz
 have iN:=f.N
 have si:=f.sz
 have kXs:=kX.size
 have gyi : (rs.set i y)[i]? = some y:=by rw [List.getElem?_set_self (by omega)]
 have gyi':=getI gyi
 have fin : ∀ {x1 : AV} {H2 : Heap},LV H2 x1 (gn L ++ [G j]) → Kp (fun b => blk y = some b) X H2 → (∀ b,blk x1 = some b → Hi.size ≤ b) → II S nb i R.length rs Hi (L ++ [j]) (H2.upd nb (.cells 1 R.length (rs.set i x1))):=fun {x1 H2} l2 k2 b2 => by
  have s2:=k2.size
  have n2 : H2.N = S:=by rw [k2.N,hN]
  refine ⟨?_,x1,upd_same _ _ _ (by omega) (by omega),?_,b2⟩
  ·refine ⟨by show H2.lo = _; rw [k2.lo,kX.lo],by show H2.N = _; rw [k2.N,kX.N],by rw [upd_size]; omega,fun b hb hm => ?_⟩
   rw [upd_ne _ _ _ _ (by omega) (fun e => hm e.symm),k2.get b (by omega) (fun e => by have:=yb b e; omega),kX.get b hb hm]
  ·have : gn (L ++ [j]) = gn L ++ [G j]:=by simp [gn]
   rw [this]
   exact l2.kp (Kp.upd (M:=(· = nb)) _ _ _ (by omega) rfl) (fun b hb => by have:=b2 b hb; omega)
 have ps : ∀ (H2 : Heap) (x1 : AV),H2.N = S → H2.get nb = .cells 1 R.length (rs.set i y) → Eff.app (.put nb R.length i [x1]) H2 = some (H2.upd nb (.cells 1 R.length (rs.set i x1))):=fun H2 x1 h1 h2 => by
  rw [put_gen H2 nb R.length i 1 (rs.set i y) [x1] (by omega) h2 (by simp; omega)]
  simp only [putAt,List.set_set]
 have lset : (rs.set i y).length = R.length:=by simp [lrs]
 have nbX:=get_lt gy (by simp)
 clear kX
 rw [← gn_len] at hL
 obtain ⟨M,hM⟩ : ∃ M,gn L = M:=⟨_,rfl⟩
 rw [hM] at lv hL fin
 obtain ⟨n,hn'⟩ : ∃ n,M.length = n:=⟨_,rfl⟩
 generalize R.length = len at *
 rcases lv with ⟨rfl,rfl⟩ | ⟨b,rfl,g,hNb⟩
 ·have x1 : Eff.app (.fill (X.size + 1) (.cells 1 1 [G j])) (X.plus [.cells 1 1 [G j],.hole]) = some (X.plus [.cells 1 1 [G j],.cells 1 1 [G j]]):=fill_plus1 _ _ rfl _ _ _
  have x0 : Eff.app (.fill X.size (.cells 1 1 [G j])) (X.plus [.hole,.hole]) = some (X.plus [.cells 1 1 [G j],.hole]):=fill_plus0 _ _ rfl _ _
  have v0:=fun xs => plus_keep (h:=X) xs gc (by simp)
  have v1:=fun xs => plus_keep (h:=X) xs gx (by simp)
  have v2:=fun xs => plus_keep (h:=X) xs gy (by simp)
  have p2:=ps (X.plus [.cells 1 1 [G j],.cells 1 1 [G j]]) (.slice (X.size + 1) 0 1 1) (by rw [plus_N]; exact hN) (v2 _)
  have ff:=fin (x1:=.slice (X.size + 1) 0 1 1) (H2:=X.plus [.cells 1 1 [G j],.cells 1 1 [G j]]) (.inr ⟨_,rfl,by rw [plus_ge _ _ _ (by omega),show X.size + 1 - X.size = 1 by omega]; rfl,by rw [plus_N]; omega⟩) (Kp.plus _ _) (fun b hb => by cases hb; omega)
  clear fin ps f fX
  generalize rs.set i .nils = ry at *
  refine Tr.w fun s1 H1 hp Q kR => ?_
  obtain ⟨g0,g1,g2,g3,g4,g6,g7,g8,g9,g10,g11,rfl⟩:=hp
  have q : True:=trivial
  refine W.chunk ?_
  simp (disch:=omega) [-evDraw_c,c61_o15,zG,q,evDraw_k,g0,g1,g2,g3,g4,g6,g7,g8,g9,g10,g11,gc,gx,gy,gyi,gyi',lset,x0,x1,v0,v1,v2,p2,appA,elems,rdOf]
  exact kR _ _ ⟨ff,by simp [T.get,g0,g1,g2,g3,g4,g6,g7,g8,g9,g10,g11]⟩
 ·rw [hn'] at hL gy gyi gyi' ps lset g fin yb
  have x0 : Eff.app (.fill X.size (.cells 1 1 [G j])) (X.plus [.hole,.hole]) = some (X.plus [.cells 1 1 [G j],.hole]):=fill_plus0 _ _ rfl _ _
  have v0:=fun xs => plus_keep (h:=X) xs gc (by simp)
  have v1:=fun xs => plus_keep (h:=X) xs gx (by simp)
  have v2:=fun xs => plus_keep (h:=X) xs gy (by simp)
  have v3:=plus_keep (h:=X) [.cells 1 1 [G j],.hole] g (by simp)
  have b9:=yb b rfl
  have bX:=get_lt g (by simp)
  have ap : appA (X.plus [.cells 1 1 [G j],.hole]) X.size (some 1) 1 8 1 [G j] (.slice b 0 n n) = some (.slice b 0 (n + 1) (n + 1),.ext b n 1 [G j]):=by
   simp only [appA,Nat.mul_one,Nat.one_mul]
   rw [if_neg (by decide),if_pos ⟨trivial,trivial,by omega⟩]
  have ex : Eff.app (.ext b n 1 [G j]) (X.plus [.cells 1 1 [G j],.hole]) = some ((X.plus [.cells 1 1 [G j],.hole]).upd b (.cells 1 (n + 1) (M ++ [G j]))):=ext_gen _ _ _ _ _ _ (by rw [plus_N]; omega) v3 hn'
  obtain ⟨Z,hZ⟩ : ∃ Z,(X.plus [.cells 1 1 [G j],.hole]).upd b (.cells 1 (n + 1) (M ++ [G j])) = Z:=⟨_,rfl⟩
  rw [hZ] at ex
  have kZ : Kp (· = b) X Z:=by rw [← hZ]; exact (Kp.plus _ _).trans (Kp.upd _ _ _ (by rw [plus_N]; omega) rfl)
  have zy : Z.get nb = .cells 1 len (rs.set i (.slice b 0 n n)):=by rw [kZ.get nb (by omega) (by omega)]; exact gy
  have zb : Z.get b = .cells 1 (n + 1) (M ++ [G j]):=by rw [← hZ]; exact upd_same _ _ _ (by rw [plus_N]; omega) (by rw [plus_size]; omega)
  have zc : Z.get (S + 3) = .cells 0 1 [.ptr (S + 2) 0 3]:=by rw [kZ.get _ (by omega) (by omega)]; exact gc
  have zx : Z.get (S + 2) = .cells 0 3 [.slice bx 0 len vx,.map (S + 1),.slice nb 0 len len]:=by rw [kZ.get _ (by omega) (by omega)]; exact gx
  have p2:=ps Z (.slice b 0 (n + 1) (n + 1)) (by rw [kZ.N]; exact hN) zy
  have ff:=fin (x1:=.slice b 0 (n + 1) (n + 1)) (H2:=Z) (.inr ⟨b,by simp [hn'],by simpa [hn'] using zb,by rw [kZ.N]; omega⟩) (kZ.mono (fun c _ e => by simp only [blk]; exact congrArg some e.symm)) (fun c hc => by cases hc; exact b9)
  have ne1 : ¬ (S + 3 = b):=by omega
  have ne2 : ¬ (S + 2 = b):=by omega
  have ne3 : ¬ (nb = b):=by omega
  clear fin hZ kZ zb ps f fX
  generalize rs.set i (.slice b 0 n n) = ry at *
  refine Tr.w fun s1 H1 hp Q kR => ?_
  obtain ⟨g0,g1,g2,g3,g4,g6,g7,g8,g9,g10,g11,rfl⟩:=hp
  have q : True:=trivial
  refine W.chunk ?_
  simp (disch:=omega) [-evDraw_c,c61_o15,zG,q,evDraw_k,g0,g1,g2,g3,g4,g6,g7,g8,g9,g10,g11,gc,gx,gy,gyi,gyi',lset,x0,v0,v1,v2,zy,zc,zx,ap,ex,p2,elems,rdOf,ne1,ne2,ne3]
  exact kR _ _ ⟨ff,by simp [T.get,g0,g1,g2,g3,g4,g6,g7,g8,g9,g10,g11]⟩
theorem set_self {L : List AV} {i : Nat} {x : AV} (h : L[i]? = some x) : L.set i x = L:=by
 apply List.ext_getElem?
 intro k
 by_cases e : i = k
 ·subst e
  rw [h,List.getElem?_set_self (List.getElem?_eq_some_iff.1 h).1]
 ·rw [List.getElem?_set_ne e]
def RowsOk (q m : Nat) (R : List (List Nat)) : Prop:=∀ i,i < R.length → (R.getD i []).length = m ∧ ∀ c ∈ R.getD i [],c < q
theorem II.frame {n i : Nat} {rs : List AV} {Hi h : Heap} {L : List Nat} (ii : II S nb i n rs Hi L h) (f : FL S a h0 bx vx nb R Hi) : FL S a h0 bx vx nb R h:=f.kp ii.k fun b e => .inl e
theorem FL.ok {H : Heap} (f : FL S a h0 bx vx nb R H) (hS : S = h0.size) (o : OkG a h0) : OkG a H:=o.fr.kp (Kp.low f.lo (by rw [f.N,hS]))
theorem c61_l1_ok (J : CallF) (k90 : KB 90 J) (hS : S = h0.size) (o : OkG a h0) {m : Nat} (m5 : m ≤ 5) (hR : RowsOk a.q m R) (hn : R.length ≤ 1000) {Hi : Heap} (f : FL S a h0 bx vx nb R Hi) {i : Nat} (hi : i < R.length) {rs : List AV} (lrs : rs.length = R.length) (gn0 : Hi.get nb = .cells 1 R.length rs) (ri : rs[i]? = some .nils) :
  Tr tbl J c61_l1 (fun s h => h = Hi ∧ s.get [zT] = .ptr S 0 3 ∧ s.get [zF,zT] = .ptr (S + 3) 0 1 ∧ s.get [zF,zF,zF] = G i ∧ s.get [zT,zF,zF] = .str (stW (R.getD i [])) ∧ s.get [zT,zT,zT,zF,zT] = .slice bx 0 R.length vx ∧ s.get [zF,zF,zF,zT,zT] = G R.length ∧ s.get [zT,zF,zF,zT,zT] = G i ∧ s.get [zT,zF,zF,zF,zF,zF] = .slice bx 0 R.length vx ∧ s.get [zF,zT,zF,zF,zF,zF] = G R.length ∧ s.get [zT,zT,zF,zF,zF,zF] = G ((0 : Nat) : Int)) (.exit 4)
   (fun s h => II S nb i R.length rs Hi (nxL a.W R (R.getD i [])) h ∧ (fun s h => s.get [zT] = .ptr S 0 3 ∧ s.get [zF,zT] = .ptr (S + 3) 0 1 ∧ s.get [zT,zT,zT,zF,zT] = .slice bx 0 R.length vx ∧ s.get [zF,zF,zF,zT,zT] = G R.length ∧ s.get [zT,zF,zF,zT,zT] = G i) s h):=by
 have hnb:=get_lt gn0 (by simp)
 refine Tr.pre (P:=fun s h => II S nb i R.length rs Hi (nxP a.W R (R.getD i []) 0) h ∧ (fun s h => s.get [zT] = .ptr S 0 3 ∧ s.get [zF,zT] = .ptr (S + 3) 0 1 ∧ s.get [zF,zF,zF] = G i ∧ s.get [zT,zF,zF] = .str (stW (R.getD i [])) ∧ s.get [zT,zT,zT,zF,zT] = .slice bx 0 R.length vx ∧ s.get [zF,zF,zF,zT,zT] = G R.length ∧ s.get [zT,zF,zF,zT,zT] = G i ∧ s.get [zT,zF,zF,zF,zF,zF] = .slice bx 0 R.length vx ∧ s.get [zF,zT,zF,zF,zF,zF] = G R.length ∧ s.get [zT,zT,zF,zF,zF,zF] = G ((0 : Nat) : Int)) s h) (fun s h hp => ⟨⟨by rw [hp.1]; exact Kp.refl _,.nils,by
  rw [hp.1,gn0,set_self ri],LV.nil _,fun b e => by cases e⟩,hp.2⟩) ?_
 refine Tr.rounds (e:=.exit 4) (P:=fun j s h => II S nb i R.length rs Hi (nxP a.W R (R.getD i []) j) h ∧ (fun s h => s.get [zT] = .ptr S 0 3 ∧ s.get [zF,zT] = .ptr (S + 3) 0 1 ∧ s.get [zF,zF,zF] = G i ∧ s.get [zT,zF,zF] = .str (stW (R.getD i [])) ∧ s.get [zT,zT,zT,zF,zT] = .slice bx 0 R.length vx ∧ s.get [zF,zF,zF,zT,zT] = G R.length ∧ s.get [zT,zF,zF,zT,zT] = G i ∧ s.get [zT,zF,zF,zF,zF,zF] = .slice bx 0 R.length vx ∧ s.get [zF,zT,zF,zF,zF,zF] = G R.length ∧ s.get [zT,zT,zF,zF,zF,zF] = G j) s h) (M:=R.length) (fun j hj => ?_) ?_ (by simp) 0 (by omega)
 ·refine Tr.w fun s1 H1 hp _ kR => W.trim ?_
  obtain ⟨ii,q⟩:=hp
  have f1:=ii.frame f
  have gr:=f1.gr
  have gb:=f1.gb
  have wj:=wsL_at hj
  have wj':=getI wj
  have lw:=wsL_len R
  have k:=k90 H1 a _ _ (f1.ok hS o) (hR i hi).2 (hR j hj).2 (by rw [(hR i hi).1]; omega) (by rw [(hR i hi).1,(hR j hj).1])
  have nl:=nxP_len a.W R (R.getD i []) j
  have t15:=o15_ok (v8:=.str (stW (R.getD i []))) J f ii hi lrs (j:=j) (by omega) hn hnb
  have sc:=nxP_succ a.W R (R.getD i []) j
  simp only [sc] at kR
  clear sc f f1 hR gn0 ri
  generalize stW (R.getD i []) = wi at *
  generalize stW (R.getD j []) = wj0 at *
  generalize nxP a.W R (R.getD i []) j = L at *
  cases hb : blw a.W (R.getD i []) (R.getD j [])
  ·rw [hb] at k kR
   rw [if_neg (by simp),List.append_nil] at kR
   clear t15 hb
   generalize R.length = n at *
   generalize wsL R = ws at *
   refine zCh ?_
   simp (disch:=omega) [c61_o12,zG,q]
   refine zCh ?_
   simp (disch:=omega) [zG,q]
   refine W.seq (W.block ?_)
   refine zCh ?_
   simp (disch:=omega) [c61_o13,zG,q,gb,wj,wj',lw]
   refine zCh ?_
   simp (disch:=omega) [c61_o14,zG,q,gr,k]
   refine W.cond (v:=zF) (by simp (disch:=omega) [zG,q]) ?_
   simp only [if_true,if_false,Bool.false_eq_true]
   refine W.skip ?_
   try simp only [zW,if_true]
   refine W.chunk ?_
   simp (disch:=omega) [c61_o16,zG,q]
   exact kR _ _ ⟨ii,by simp [T.get,q]⟩
  ·rw [hb] at k kR
   rw [if_pos rfl] at kR
   clear hb ii
   generalize R.length = n at *
   generalize wsL R = ws at *
   refine zCh ?_
   simp (disch:=omega) [c61_o12,zG,q]
   refine zCh ?_
   simp (disch:=omega) [zG,q]
   refine W.seq (W.block ?_)
   refine zCh ?_
   simp (disch:=omega) [c61_o13,zG,q,gb,wj,wj',lw]
   refine zCh ?_
   simp (disch:=omega) [c61_o14,zG,q,gr,k]
   refine W.cond (v:=zT) (by simp (disch:=omega) [zG,q]) ?_
   simp only [if_true,if_false,Bool.false_eq_true]
   refine W.use (t15) (by simp (disch:=omega) [zG,q]) fun s1 H1 hp => ?_
   obtain ⟨ii,q⟩:=hp
   try simp only [zW,if_true]
   refine W.chunk ?_
   simp (disch:=omega) [c61_o16,zG,q]
   exact kR _ _ ⟨ii,by simp [T.get,q]⟩
 ·refine Tr.w fun s1 H1 hp _ kR => W.trim ?_
  obtain ⟨ii,q⟩:=hp
  have en : nxP a.W R (R.getD i []) R.length = nxL a.W R (R.getD i []):=rfl
  rw [en] at ii
  clear en f hR gn0
  generalize stW (R.getD i []) = wi at *
  generalize R.length = n at *
  refine zCh ?_
  simp (disch:=omega) [c61_o12,zG,q]
  refine zCh ?_
  simp (disch:=omega) [zG,q]
  exact kR _ _ ⟨ii,by simp [T.get,q]⟩
end
def RV (h : Heap) (x : AV) (cs : List AV) : Prop:=(x = .nils ∧ cs = []) ∨ ∃ b v,x = .slice b 0 cs.length v ∧ h.get b = .cells 1 v cs
theorem LV.rv {h : Heap} {x : AV} {cs : List AV} (l : LV h x cs) : RV h x cs:=by
 rcases l with l | ⟨b,e,g,_⟩
 ·exact .inl l
 ·exact .inr ⟨b,_,e,g⟩
theorem RV.kp {M : Nat → Prop} {h h' : Heap} {x : AV} {cs : List AV} (l : RV h x cs) (k : Kp M h h') (hm : ∀ b,blk x = some b → ¬ M b) : RV h' x cs:=by
 rcases l with l | ⟨b,v,rfl,g⟩
 ·exact .inl l
 ·exact .inr ⟨b,v,rfl,k.at g (by simp) (hm b rfl)⟩
theorem RV.lt {h : Heap} {x : AV} {cs : List AV} (l : RV h x cs) {b : Nat} (e : blk x = some b) : b < h.size:=by
 rcases l with ⟨rfl,_⟩ | ⟨b,v,rfl,g⟩
 ·cases e
 ·cases e; exact get_lt g (by simp)
theorem RV.congr {h h' : Heap} (e : ∀ b,h.get b = h'.get b) {x : AV} {cs : List AV} (l : RV h x cs) : RV h' x cs:=by
 rcases l with l | ⟨b,v,rfl,g⟩
 ·exact .inl l
 ·exact .inr ⟨b,v,rfl,by rw [← e]; exact g⟩
section
variable {S : Nat} {a : AG} {h0 : Heap} {bx vx nb : Nat} {R : List (List Nat)}
structure OI (nb : Nat) (W : List (List Int)) (R : List (List Nat)) (Hb : Heap) (i : Nat) (h : Heap) : Prop where
 k : Kp (· = nb) Hb h
 r : ∃ rs,h.get nb = .cells 1 R.length rs ∧ rs.length = R.length ∧ (∀ k,k < i → ∃ y,rs[k]? = some y ∧ RV h y (gn (nxL W R (R.getD k []))) ∧ ∀ b,blk y = some b → b ≠ nb ∧ Hb.size ≤ b) ∧ ∀ k,i ≤ k → k < R.length → rs[k]? = some .nils
theorem c61_l2_ok (J : CallF) (k90 : KB 90 J) (hS : S = h0.size) (o : OkG a h0) {m : Nat} (m5 : m ≤ 5) (hR : RowsOk a.q m R) (hn : R.length ≤ 1000) {Hb : Heap} (f : FL S a h0 bx vx nb R Hb) (gn0 : Hb.get nb = .cells 1 R.length (List.replicate R.length .nils)) :
  Tr tbl J c61_l2 (fun s h => h = Hb ∧ s.get [zT] = .ptr S 0 3 ∧ s.get [zF,zT] = .ptr (S + 3) 0 1 ∧ s.get [zT,zT,zT,zF,zT] = .slice bx 0 R.length vx ∧ s.get [zF,zF,zF,zT,zT] = G R.length ∧ s.get [zT,zF,zF,zT,zT] = G ((0 : Nat) : Int)) (.exit 2)
   (fun s h => OI nb a.W R Hb R.length h ∧ s.get [zF,zT] = .ptr (S + 3) 0 1):=by
 have hnb:=get_lt gn0 (by simp)
 refine Tr.pre (P:=fun s h => OI nb a.W R Hb 0 h ∧ (fun s h => s.get [zT] = .ptr S 0 3 ∧ s.get [zF,zT] = .ptr (S + 3) 0 1 ∧ s.get [zT,zT,zT,zF,zT] = .slice bx 0 R.length vx ∧ s.get [zF,zF,zF,zT,zT] = G R.length ∧ s.get [zT,zF,zF,zT,zT] = G ((0 : Nat) : Int)) s h) (fun s h hp => ⟨⟨by rw [hp.1]; exact Kp.refl _,List.replicate R.length .nils,by rw [hp.1,gn0],by simp,fun k hk => by omega,fun k _ hk => by rw [List.getElem?_replicate,if_pos hk]⟩,hp.2⟩) ?_
 refine Tr.rounds (e:=.exit 2) (P:=fun i s h => OI nb a.W R Hb i h ∧ (fun s h => s.get [zT] = .ptr S 0 3 ∧ s.get [zF,zT] = .ptr (S + 3) 0 1 ∧ s.get [zT,zT,zT,zF,zT] = .slice bx 0 R.length vx ∧ s.get [zF,zF,zF,zT,zT] = G R.length ∧ s.get [zT,zF,zF,zT,zT] = G i) s h) (M:=R.length) (fun i hi => ?_) ?_ (by simp) 0 (by omega)
 ·refine Tr.w fun s1 H1 hp _ kR => W.trim ?_
  obtain ⟨oi,q⟩:=hp
  have f1:=f.kp oi.k (fun b e => .inl e)
  obtain ⟨kk,rs,g,lrs,hlo,hhi⟩:=oi
  have l1:=c61_l1_ok J k90 hS o m5 hR hn f1 hi lrs g (hhi i (Nat.le_refl _) hi)
  have fin : ∀ h,II S nb i R.length rs H1 (nxL a.W R (R.getD i [])) h → OI nb a.W R Hb (i + 1) h:=fun h ii => by
   obtain ⟨k2,y,gy,lv,yb⟩:=ii
   have ks:=kk.size
   refine ⟨kk.trans k2,_,gy,by simp [lrs],fun k hk => ?_,fun k h1 h2 => ?_⟩
   ·by_cases e : k = i
    ·subst e
     exact ⟨y,List.getElem?_set_self (by omega),lv.rv,fun b hb => by have:=yb b hb; omega⟩
    ·obtain ⟨z,e1,e2,e3⟩:=hlo k (by omega)
     exact ⟨z,by rw [List.getElem?_set_ne (by omega)]; exact e1,e2.kp k2 (fun b hb => (e3 b hb).1),e3⟩
   ·rw [List.getElem?_set_ne (by omega)]
    exact hhi k (by omega) h2
  have gc:=f1.gc
  have gx:=f1.gx
  have gb:=f1.gb
  have wi:=wsL_at hi
  have wi':=getI wi
  have lw:=wsL_len R
  clear hlo hhi f f1 hR gn0 g
  generalize stW (R.getD i []) = w at *
  generalize wsL R = ws at *
  generalize hnn : R.length = n at *
  refine zCh ?_
  simp (disch:=omega) [c61_o9,zG,q]
  refine zCh ?_
  simp (disch:=omega) [zG,q]
  refine W.seq (W.block ?_)
  refine zCh ?_
  simp (disch:=omega) [c61_o10,zG,q,gb,wi,wi',lw]
  refine zCh ?_
  simp (disch:=omega) [c61_o11,zG,q,gc,gx]
  refine W.block ?_
  refine W.use (l1) (by simp (disch:=omega) [zG,q]) fun s1 H1 hp => ?_
  obtain ⟨ii,q⟩:=hp
  try simp only [zW,if_true]
  refine W.chunk ?_
  simp (disch:=omega) [c61_o17,zG,q]
  exact kR _ _ ⟨fin _ ii,by simp [T.get,q]⟩
 ·refine Tr.w fun s1 H1 hp _ kR => W.trim ?_
  obtain ⟨oi,q⟩:=hp
  clear f hR gn0
  generalize hnn : R.length = n at *
  refine zCh ?_
  simp (disch:=omega) [c61_o9,zG,q]
  refine zCh ?_
  simp (disch:=omega) [zG,q]
  exact kR _ _ ⟨oi,by simp [T.get,q]⟩
theorem c61_l2_nil (J : CallF) (Hb : Heap) : Tr tbl J c61_l2 (fun s h => h = Hb ∧ s.get [zF,zT] = .ptr (S + 3) 0 1 ∧ s.get [zT,zT,zT,zF,zT] = .nils ∧ s.get [zF,zF,zF,zT,zT] = G 0 ∧ s.get [zT,zF,zF,zT,zT] = G 0) (.exit 2) (fun s h => h = Hb ∧ s.get [zF,zT] = .ptr (S + 3) 0 1):=by
 refine Tr.out ?_ (by simp)
 refine Tr.w fun s1 H1 hp _ kR => W.trim ?_
 obtain ⟨rfl,q⟩:=hp
 refine zCh ?_
 simp (disch:=omega) [c61_o9,zG,q]
 refine zCh ?_
 simp (disch:=omega) [zG,q]
 exact kR _ _ (by simp [T.get,q])
def LM (h : Heap) (p B : Nat) (W : List (List Int)) (R : List (List Nat)) : Prop:=∃ x mb nb rs,h.get p = .cells 0 3 [x,.map mb,.slice nb 0 R.length R.length] ∧ RV h x (wsL R) ∧ (∀ b,blk x = some b → B ≤ b) ∧ h.get nb = .cells 1 R.length rs ∧ B ≤ nb ∧ rs.length = R.length ∧ ∀ k,k < R.length → ∃ y,rs[k]? = some y ∧ RV h y (gn (nxL W R (R.getD k []))) ∧ ∀ b,blk y = some b → b ≠ nb ∧ B ≤ b
def LMm (h : Heap) (p : Nat) (R : List (List Nat)) : Prop:=∃ x mb nx es,h.get p = .cells 0 3 [x,.map mb,nx] ∧ h.get mb = .map es ∧ AtR es R
theorem LMm.congr {h h' : Heap} (e : ∀ b,h.get b = h'.get b) {p : Nat} {R : List (List Nat)} (l : LMm h p R) : LMm h' p R:=by
 obtain ⟨x,mb,nx,es,h1,h2,h3⟩:=l
 exact ⟨x,mb,nx,es,by rw [← e]; exact h1,by rw [← e]; exact h2,h3⟩
theorem LMm.kp {h h' : Heap} {p : Nat} {R : List (List Nat)} (l : LMm h p R) (k : Kp (fun _ => False) h h') : LMm h' p R:=by
 obtain ⟨x,mb,nx,es,h1,h2,h3⟩:=l
 exact ⟨x,mb,nx,es,k.at h1 (by simp) id,k.at h2 (by simp) id,h3⟩
theorem LM.congr {h h' : Heap} (e : ∀ b,h.get b = h'.get b) {p B : Nat} {W : List (List Int)} {R : List (List Nat)} (l : LM h p B W R) : LM h' p B W R:=by
 obtain ⟨x,mb,nb,rs,h1,h2,h3,h4,h5,h6,h7⟩:=l
 refine ⟨x,mb,nb,rs,by rw [← e]; exact h1,h2.congr e,h3,by rw [← e]; exact h4,h5,h6,fun k hk => ?_⟩
 obtain ⟨y,e1,e2,e3⟩:=h7 k hk
 exact ⟨y,e1,e2.congr e,e3⟩
theorem rows_ok {q m : Nat} {B : List (List Int)} : RowsOk q m (rwL q B m):=fun i hi => by
 have : (rwL q B m).getD i [] ∈ rwL q B m:=by
  rw [zd,zq hi]
  exact List.getElem_mem _
 have:=rwL_mem this
 exact ⟨this.1,this.2.1⟩
theorem act_fa (call : CallF) (h0 : Heap) (s : T) (h : Heap) (off : Nat) (x : AOpd) : act call h0 s h (.fieldAddr off x) = pure1 (match x.ev s with | .ptr b o v => some (.ptr b (o + off) v) | _ => none):=rfl
theorem act_load (call : CallF) (h0 : Heap) (s : T) (h : Heap) (k : Option Nat) (x : AOpd) : act call h0 s h (.load k x) = match x.ev s with
  | .ptr b o v => (loadA h k (.ptr b o v)).map fun r => (r,{ reads:=[(b,o,k.getD 1)] })
  | _ => none:=rfl
theorem act_nil (call : CallF) (h0 : Heap) (s : T) (h : Heap) (x : AOpd) : act call h0 s h (.nilCheck x) = pure1 (match x.ev s with | .ptr b o v => some (.ptr b o v) | .func f c => some (.func f c) | _ => none):=rfl
theorem act_len1 (call : CallF) (h0 : Heap) (s : T) (h : Heap) (x : AOpd) : act call h0 s h (.len 1 x) = match x.ev s with
  | .slice _ _ n _ => pure1 (some (goI n))
  | .nils => pure1 (some (goI 0))
  | .slice0 => pure1 (some (goI 0))
  | _ => none:=by
 simp only [act]
 cases x.ev s <;> rfl
theorem act_store (call : CallF) (h0 : Heap) (s : T) (h : Heap) (n : Nat) (x v : AOpd) : act call h0 s h (.store n x v) = match x.ev s,(v.ev s).cells with
  | .ptr b o ver,some c => if c.length = n then some (.undef,{ eff:=.put b ver o c }) else none
  | _,_ => none:=rfl
structure HB (S : Nat) (a : AG) (h0 : Heap) (x : AV) (nb : Nat) (R : List (List Nat)) (H : Heap) : Prop where
 lo : H.lo = h0.get
 N : H.N = S
 sz : S + 9 ≤ H.size
 gr : H.get S = .cells 0 3 [G a.q,a.x,a.y]
 gc : H.get (S + 3) = .cells 0 1 [.ptr (S + 2) 0 3]
 gx : H.get (S + 2) = .cells 0 3 [x,.map (S + 1),.slice nb 0 R.length R.length]
 gn : H.get nb = .cells 1 R.length (List.replicate R.length .nils)
 lv : LV H x (wsL R)
 xb : ∀ b,blk x = some b → S + 9 ≤ b ∧ b < nb
 nS : S + 9 ≤ nb
 gm : ∃ es,H.get (S + 1) = .map es ∧ AtR es R
theorem o7_ok (J : CallF) {s0 : T} {U : List (List Nat)} {H1 : Heap} {x : AV} (il : IL S s0 a h0 .exhausted U H1) (gx : H1.get (S + 2) = .cells 0 3 [x,.map (S + 1),.nils]) (lv : LV H1 x (wsL R)) (xb : ∀ b,blk x = some b → S + 9 ≤ b) (hn : R.length ≤ 1000) (gmR : ∃ es,H1.get (S + 1) = .map es ∧ AtR es R) :
  Tr tbl J c61_o7 (fun s h => s.get [zT] = .ptr S 0 3 ∧ s.get [zF,zT] = .ptr (S + 3) 0 1 ∧ h = H1) .normal (fun s h => HB S a h0 x H1.size R h ∧ (fun s h => s.get [zT] = .ptr S 0 3 ∧ s.get [zF,zT] = .ptr (S + 3) 0 1) s h):=by
 have sz:=il.sz
 have N:=il.N
 have gc:=il.gc
 have gr:=il.gr
 have lo:=il.lo
 clear il
 have lw:=wsL_len R
 obtain ⟨n,hnn⟩ : ∃ n,R.length = n:=⟨_,rfl⟩
 have xl : ∀ b,blk x = some b → b < H1.size:=fun b hb => lv.lt hb
 have small : R.length * 24 ≤ 1099511627776:=by omega
 rw [hnn] at hn lw small
 obtain ⟨Y,hY⟩ : ∃ Y,H1.plus [.cells 1 n (List.replicate n .nils)] = Y:=⟨_,rfl⟩
 have e1 : ∀ b x,H1.get b = x → x ≠ .hole → Y.get b = x:=fun b x e hx => by rw [← hY]; exact plus_keep _ e hx
 have yN : Y.N = S:=by rw [← hY]; exact N
 have yS : Y.size = H1.size + 1:=by rw [← hY,plus_size]; rfl
 have e2 : ∀ b,b ≠ S + 2 → (Y.upd (S + 2) (.cells 0 3 [x,.map (S + 1),.slice H1.size 0 n n])).get b = Y.get b:=fun b hb => upd_ne _ _ _ _ (by omega) (by omega)
 have yc:=e1 _ _ gc (by simp)
 have k1 : Kp (· = S + 2) H1 Y:=by rw [← hY]; exact Kp.plus _ _
 have hb : HB S a h0 x H1.size R (Y.upd (S + 2) (.cells 0 3 [x,.map (S + 1),.slice H1.size 0 n n])):=by
  refine ⟨?_,yN,by rw [upd_size]; omega,?_,?_,?_,?_,?_,fun b hb => ⟨xb b hb,xl b hb⟩,sz,?_⟩
  ·show Y.lo = _; rw [← hY]; exact lo
  ·rw [e2 _ (by omega)]; exact e1 _ _ gr (by simp)
  ·rw [e2 _ (by omega)]; exact yc
  ·rw [hnn]; exact upd_same _ _ _ (by omega) (by omega)
  ·rw [hnn,e2 _ (by omega),← hY]; exact plus_at0 _ _ _ _ rfl
  ·exact LV.kp (M:=(· = S + 2)) lv (k1.trans (Kp.upd _ _ _ (by omega) rfl)) (fun b hb => by have:=xb b hb; omega)
  ·obtain ⟨es,g1,g2⟩:=gmR
   exact ⟨es,by rw [e2 _ (by omega)]; exact e1 _ _ g1 (by simp),g2⟩
 clear gmR
 have x0 : Eff.app (.fill H1.size (.cells 1 n (List.replicate n .nils))) (H1.plus [.hole]) = some Y:=by rw [← hY]; exact fill_plus0 _ _ rfl _ _
 have p2 : Eff.app (.put (S + 2) 3 2 [.slice H1.size 0 n n]) Y = some (Y.upd (S + 2) (.cells 0 3 [x,.map (S + 1),.slice H1.size 0 n n])):=by
  rw [put_gen _ _ _ _ _ _ _ (by omega) (e1 _ _ gx (by simp)) (by simp)]; rfl
 have v0:=fun xs => plus_keep (h:=H1) xs gc (by simp)
 have v1:=fun xs => plus_keep (h:=H1) xs gx (by simp)
 have mk : mkD 0 H1.size 1 24 [.nils] n = some (.slice H1.size 0 n n,{ eff:=.fill H1.size (.cells 1 n (List.replicate n .nils)) }):=mkD_ok 0 _ _ _ _ _ rfl small
 generalize List.replicate n AV.nils = rp at *
 generalize Y.upd (S + 2) (.cells 0 3 [x,.map (S + 1),.slice H1.size 0 n n]) = Hb at *
 have ln : (x = .nils ∧ n = 0) ∨ ∃ b,x = .slice b 0 n n:=by
  rcases lv with ⟨rfl,e⟩ | ⟨b,e,_⟩
  ·rw [e] at lw; exact .inl ⟨rfl,lw.symm⟩
  ·rw [lw] at e; exact .inr ⟨b,e⟩
 clear e1 e2 lv k1 hY xb xl
 rcases ln with ⟨rfl,rfl⟩ | ⟨b,rfl⟩
 all_goals
  try rw [show ((0 : Nat) : Int) = 0 from rfl] at mk
  refine Tr.w fun s1 H hp _ kR => ?_
  obtain ⟨g0,g1,rfl⟩:=hp
  have q : True:=trivial
  refine W.chunk ?_
  simp (disch:=omega) [-evDraw_c,-act,c61_o7,zG,q,evDraw_k,act_mkD,act_load,act_nil,act_fa,act_len1,act_store,g0,g1,x0,yc,v0,v1,p2,mk]
  exact kR _ _ ⟨hb,by simp [T.get,g0,g1]⟩
theorem exL_nd {q : Nat} : ∀ k s,(exL q k s).Nodup
 | 0,s => by simp [exL]
 | k + 1,s => by
  show ((List.range q).flatMap fun c => exL q k (s ++ [c])).Nodup
  unfold List.Nodup
  rw [List.pairwise_flatMap]
  refine ⟨fun c _ => exL_nd k _,List.nodup_range.imp fun {a b} hab x hx y hy e => ?_⟩
  obtain ⟨u,e1,_⟩:=exL_mem _ _ _ hx
  obtain ⟨v,e2,_⟩:=exL_mem _ _ _ hy
  rw [e1,e2,List.append_assoc,List.append_assoc] at e
  have:=List.append_cancel_left e
  simp only [List.singleton_append,List.cons.injEq] at this
  exact hab this.1
theorem au_all {q m : Nat} {B : List (List Int)} {P : List (AV × AV) → Prop} (q3 : q ≤ 3) (h : ∃ es,P es ∧ SK es ∧ AtU B es (exL q m [])) : ∃ es,P es ∧ AtR es (rwL q B m):=by
 obtain ⟨es,h1,_,h2⟩:=h
 refine ⟨es,h1,h2 (fun u hu c hc => ?_) (exL_nd m [])⟩
 obtain ⟨v,e,_,h3⟩:=exL_mem _ _ _ hu
 rw [List.nil_append] at e
 subst e
 have:=h3 c hc
 omega
theorem o8_ok (J : CallF) {x : AV} {nb : Nat} {H : Heap} (b : HB S a h0 x nb R H) :
  Tr tbl J c61_o8 (fun s h => s.get [zT] = .ptr S 0 3 ∧ s.get [zF,zT] = .ptr (S + 3) 0 1 ∧ h = H) .normal (fun s h => h = H ∧ s.get [zT] = .ptr S 0 3 ∧ s.get [zF,zT] = .ptr (S + 3) 0 1 ∧ s.get [zT,zT,zT,zF,zT] = x ∧ s.get [zF,zF,zF,zT,zT] = G R.length ∧ s.get [zT,zF,zF,zT,zT] = G ((0 : Nat) : Int)):=by
 have gc:=b.gc
 have gx:=b.gx
 have lw:=wsL_len R
 have ln : (x = .nils ∧ R.length = 0) ∨ ∃ b,x = .slice b 0 R.length R.length:=by
  rcases b.lv with ⟨rfl,e⟩ | ⟨b,e,_⟩
  ·rw [e] at lw; exact .inl ⟨rfl,lw.symm⟩
  ·rw [lw] at e; exact .inr ⟨b,e⟩
 clear b
 generalize R.length = n at *
 rcases ln with ⟨rfl,rfl⟩ | ⟨b,rfl⟩
 all_goals
  refine Tr.w fun s1 H hp _ kR => ?_
  obtain ⟨g0,g1,rfl⟩:=hp
  have q : True:=trivial
  refine W.chunk ?_
  simp (disch:=omega) [c61_o8,zG,q,g0,g1,gc,gx]
  exact kR _ _ (by simp [T.get,g0,g1])
theorem l2_ok (J : CallF) (k90 : KB 90 J) (hS : S = h0.size) (o : OkG a h0) {m : Nat} (m5 : m ≤ 5) (hR : RowsOk a.q m R) (hn : R.length ≤ 1000) {x : AV} {nb : Nat} {H : Heap} (b : HB S a h0 x nb R H) :
  Tr tbl J c61_l2 (fun s h => s.get [zT] = .ptr S 0 3 ∧ s.get [zF,zT] = .ptr (S + 3) 0 1 ∧ s.get [zT,zT,zT,zF,zT] = x ∧ s.get [zF,zF,zF,zT,zT] = G R.length ∧ s.get [zT,zF,zF,zT,zT] = G ((0 : Nat) : Int) ∧ h = H) (.exit 2) (fun s h => (h.lo = h0.get ∧ h.N = S ∧ h.get (S + 3) = .cells 0 1 [.ptr (S + 2) 0 3] ∧ LM h (S + 2) S a.W R ∧ LMm h (S + 2) R) ∧ s.get [zF,zT] = .ptr (S + 3) 0 1):=by
 have nS:=b.nS
 have lw:=wsL_len R
 rcases b.lv with ⟨e1,e2⟩ | ⟨bx,e1,gb,_⟩
 ·rw [e2] at lw
  have lz : R.length = 0:=lw.symm
  have l:=c61_l2_nil (S:=S) J H
  refine Tr.post (fun s h q => ?_) (Tr.pre (fun s h hp => ?_) l)
  ·obtain ⟨rfl,q⟩:=q
   refine ⟨⟨b.lo,b.N,b.gc,⟨x,S + 1,nb,_,b.gx,b.lv.rv,fun c hc => by have:=b.xb c hc; omega,b.gn,by omega,by simp,fun k hk => by omega⟩,_,_,_,_,b.gx,b.gm.choose_spec.1,b.gm.choose_spec.2⟩,q⟩
  ·obtain ⟨h1,h2,h3,h4,h5,h6⟩:=hp
   rw [lz] at h4
   exact ⟨h6,h2,by rw [h3,e1],h4,h5⟩
 ·rw [lw] at e1 gb
  have xb:=b.xb bx (by rw [e1]; rfl)
  have f : FL S a h0 bx R.length nb R H:=⟨b.lo,b.N,b.sz,b.gr,b.gc,by rw [b.gx,e1],gb,by omega,by omega⟩
  have l:=c61_l2_ok J k90 hS o m5 hR hn f b.gn
  refine Tr.post (fun s h q => ?_) (Tr.pre (fun s h hp => ?_) l)
  ·obtain ⟨⟨k,rs,g,lrs,hlo,_⟩,q⟩:=q
   have hs:=b.sz
   have hx:=get_lt gb (by simp)
   refine ⟨⟨by rw [k.lo]; exact b.lo,by rw [k.N]; exact b.N,k.at b.gc (by simp) (by omega),⟨x,S + 1,nb,rs,k.at b.gx (by simp) (by omega),b.lv.rv.kp k (fun c hc => by have:=b.xb c hc; omega),fun c hc => by have:=b.xb c hc; omega,g,by omega,lrs,fun i hi => ?_⟩,_,_,_,_,k.at b.gx (by simp) (by omega),k.at b.gm.choose_spec.1 (by simp) (by omega),b.gm.choose_spec.2⟩,q⟩
   obtain ⟨y,y1,y2,y3⟩:=hlo i hi
   exact ⟨y,y1,y2,fun c hc => by have:=y3 c hc; omega⟩
  ·obtain ⟨h1,h2,h3,h4,h5,h6⟩:=hp
   exact ⟨h6,h1,h2,by rw [h3,e1],h4,h5⟩
end
section
variable {a : AG}
theorem c61_ok (J : CallF) (k88 : ∀ h (q m : Nat),J 88 [G q,G m] h = some (.func 105 [.ptr (h.size + 1) 0 1,.ptr h.size 0 1],[.cells 0 1 [G q],.cells 0 1 [G m]],zF)) (k89 : KW 89 J) (k90 : KB 90 J) (hJ : ∀ a h,J 61 a h = none) (h5 : ∀ a h,J 105 a h = none) (h6 : ∀ a h,J 106 a h = none) (h : Heap) (o : OkG a h) {m : Nat} (m5 : m ≤ 5) :
  ∃ v own,CallsTo tbl J 61 [a.v,G m] h (v,own,zF) ∧ ∃ p,v = .ptr p 0 3 ∧ LM (h.plus own) p h.size a.W (rwL a.q a.B m) ∧ LMm (h.plus own) p (rwL a.q a.B m):=by
 refine Tr.fny (cf:=c61) (e:=.ret) (s:=T.set (T.set .leaf [] a.v) [zF] (G m)) (by decide) rfl (hJ _ _) rfl rfl (by simp) ?_
 have rg:=c61_range J k89 h5 h6 h o m5
 have k8:=k88 ⟨h.get,h.size,[.cells 0 3 [G a.q,a.x,a.y],.map [],.cells 0 3 [.nils,.map (h.size + 1),.nils],.cells 0 1 [.ptr (h.size + 2) 0 3]]⟩ a.q m
 have q3:=o.q1
 have small:=rwL_small (B:=a.B) q3.2 m5
 refine Tr.w fun s1 H1 hp _ kR => ?_
 obtain ⟨rfl,rfl⟩:=hp
 have q : True:=trivial
 refine zCh ?_
 simp (disch:=first|omega|exact zE rfl|exact zO|exact zL rfl) [c61_o0,size_mk,get_mk_lt,get_mk_ge,frameOf,Eff.app,Heap.setOwn,q]
 refine zCh ?_
 simp (disch:=first|omega|exact zE rfl|exact zO|exact zL rfl) [c61_o1,size_mk,get_mk_lt,get_mk_ge,frameOf,Eff.app,Heap.setOwn,q]
 refine W.assoc ?_
 refine zCh ?_
 simp (disch:=first|omega|exact zE rfl|exact zO|exact zL rfl) [c61_o2,size_mk,get_mk_lt,get_mk_ge,frameOf,Eff.app,Heap.setOwn,q,k8]
 refine W.seq (W.block ?_)
 refine W.use (rg) (by simp (disch:=first|omega|exact zE rfl|exact zO|exact zL rfl) [size_mk,get_mk_lt,get_mk_ge,frameOf,Eff.app,Heap.setOwn,q]) fun s1 H1 hp => ?_
 obtain ⟨il,q⟩:=hp
 try simp only [zW,if_true]
 obtain ⟨x,gx,lv,xb⟩:=il.gx
 have gmR:=au_all q3.2 il.gm
 refine W.seq (W.use (o7_ok (R:=rwL a.q a.B m) J il gx lv xb (by omega) gmR) (by simp (disch:=first|omega|exact zE rfl|exact zO|exact zL rfl) [size_mk,get_mk_lt,get_mk_ge,frameOf,Eff.app,Heap.setOwn,q]) fun s1 H1 hp => ?_)
 obtain ⟨hb,q⟩:=hp
 try simp only [zW,if_true]
 refine W.assoc ?_
 refine W.seq (W.use (o8_ok J hb) (by simp (disch:=first|omega|exact zE rfl|exact zO|exact zL rfl) [size_mk,get_mk_lt,get_mk_ge,frameOf,Eff.app,Heap.setOwn,q]) fun s1 H1 hp => ?_)
 obtain ⟨rfl,q⟩:=hp
 try simp only [zW,if_true]
 refine W.seq (W.block ?_)
 refine W.use (l2_ok J k90 rfl o m5 rows_ok (by omega) hb) (by simp (disch:=first|omega|exact zE rfl|exact zO|exact zL rfl) [size_mk,get_mk_lt,get_mk_ge,frameOf,Eff.app,Heap.setOwn,q]) fun s1 H1 hp => ?_
 obtain ⟨⟨u1,u2,u3,u4,u5⟩,q⟩:=hp
 try simp only [zW,if_true]
 refine zCh ?_
 simp (disch:=omega) [c61_o18,zG,q,u3]
 refine W.ret ?_
 try simp only [zW,if_true]
 have e : H1 = ⟨h.get,h.size,H1.own⟩:=by
  obtain ⟨lo,N,own⟩:=H1
  simp only at u1 u2
  rw [u1,u2]
 refine kR _ _ ⟨[.ptr (h.size + 2) 0 3],by simp [T.get,c61,evRess,evRes,q],h.size + 2,rfl,?_⟩
 exact ⟨u4.congr fun b => by rw [e]; exact fr_get h _ b,u5.congr fun b => by rw [e]; exact fr_get h _ b⟩
end
def Pre88 (b : Nat × Nat) (args : List AV) (h : Heap) : Prop:=args = [G b.1,G b.2]
def Post88 (b : Nat × Nat) (h : Heap) (v : AV) (own : List AObj) : Prop:=v = .func 105 [.ptr (h.size + 1) 0 1,.ptr h.size 0 1] ∧ own = [.cells 0 1 [G b.1],.cells 0 1 [G b.2]]
noncomputable def T17 : CallF:=addK tbl T16 88 Pre88 Post88
theorem t17 : Sound zp T17:=Sound.addK follows ok t16 (by decide) _ _
theorem k88 : ∀ h (q m : Nat),T17 88 [G q,G m] h = some (.func 105 [.ptr (h.size + 1) 0 1,.ptr h.size 0 1],[.cells 0 1 [G q],.cells 0 1 [G m]],zF):=fun h q m => by
 obtain ⟨v,own,e,rfl,rfl⟩:=addK_some (Pre:=Pre88) (Post:=Post88) (fun b args h hp => by
  have hp : args = [G b.1,G b.2]:=hp
  subst hp
  exact ⟨_,_,c88_ok T16 (fun _ _ => by simp (disch:=decide) only [T1,T2,T3,T4,T5,T6,T7,T8,T9,T10,T11,T12,T13,T14,T15,T16,addI_ne,addX_ne,addV_ne,addK_ne]; rfl) h _ _,rfl,rfl⟩) ⟨q,m⟩ _ h rfl
 exact e
structure AM where
 a : AG
 m : Nat
def Pre61 (b : AM) (args : List AV) (h : Heap) : Prop:=(OkG b.a h ∧ b.m ≤ 5) ∧ args = [b.a.v,G b.m]
def Post61 (b : AM) (h : Heap) (v : AV) (own : List AObj) : Prop:=∃ p,v = .ptr p 0 3 ∧ LM (h.plus own) p h.size b.a.W (rwL b.a.q b.a.B b.m) ∧ LMm (h.plus own) p (rwL b.a.q b.a.B b.m)
abbrev K61m (J : CallF) : Prop:=∀ (h : Heap) (a : AG) (m : Nat),OkG a h → m ≤ 5 → ∃ p own,J 61 [a.v,G m] h = some (.ptr p 0 3,own,zF) ∧ LM (h.plus own) p h.size a.W (rwL a.q a.B m) ∧ LMm (h.plus own) p (rwL a.q a.B m)
abbrev K61 (J : CallF) : Prop:=∀ (h : Heap) (a : AG) (m : Nat),OkG a h → m ≤ 5 → ∃ p own,J 61 [a.v,G m] h = some (.ptr p 0 3,own,zF) ∧ LM (h.plus own) p h.size a.W (rwL a.q a.B m)
noncomputable def T18 : CallF:=addK tbl T17 61 Pre61 Post61
theorem t18 : Sound zp T18:=Sound.addK follows ok t17 (by decide) _ _
theorem k89_17 : KW 89 T17:=fun h a w o hw lw => by
 have e:=k89 h a w o hw lw
 rw [show T17 89 [a.v,.str (stW w)] h = T13 89 [a.v,.str (stW w)] h from by simp (disch:=decide) only [T1,T2,T3,T4,T5,T6,T7,T8,T9,T10,T11,T12,T13,T14,T15,T16,T17,addI_ne,addX_ne,addV_ne,addK_ne]]
 exact e
theorem k90_17 : KB 90 T17:=fun h a s t o hs ht ls lt => by
 have e:=k90 h a s t o hs ht ls lt
 rw [show T17 90 [a.v,.str (stW s),.str (stW t)] h = T15 90 [a.v,.str (stW s),.str (stW t)] h from by simp (disch:=decide) only [T1,T2,T3,T4,T5,T6,T7,T8,T9,T10,T11,T12,T13,T14,T15,T16,T17,addI_ne,addX_ne,addV_ne,addK_ne]]
 exact e
theorem k61m : K61m T18:=fun h a m o m5 => by
 obtain ⟨v,own,e,p,rfl,l⟩:=addK_some (Pre:=Pre61) (Post:=Post61) (fun b args h hp => by
  obtain ⟨⟨h1,h2⟩,rfl⟩:=hp
  exact c61_ok T17 k88 k89_17 k90_17 (fun _ _ => by simp (disch:=decide) only [T1,T2,T3,T4,T5,T6,T7,T8,T9,T10,T11,T12,T13,T14,T15,T16,T17,addI_ne,addX_ne,addV_ne,addK_ne]; rfl) (fun _ _ => by simp (disch:=decide) only [T1,T2,T3,T4,T5,T6,T7,T8,T9,T10,T11,T12,T13,T14,T15,T16,T17,addI_ne,addX_ne,addV_ne,addK_ne]; rfl) (fun _ _ => by simp (disch:=decide) only [T1,T2,T3,T4,T5,T6,T7,T8,T9,T10,T11,T12,T13,T14,T15,T16,T17,addI_ne,addX_ne,addV_ne,addK_ne]; rfl) h h1 h2) ⟨a,m⟩ _ h ⟨⟨o,m5⟩,rfl⟩
 exact ⟨p,own,e,l⟩
theorem k61 : K61 T18:=fun h a m o m5 => by
 obtain ⟨p,own,e,l,_⟩:=k61m h a m o m5
 exact ⟨p,own,e,l⟩
def AR.g (a : AR) : AG:=⟨a.q.toNat,a.x,a.y,a.B,a.W⟩
abbrev AR.v (a : AR) : AV:=.agg [G a.q,a.x,a.y]
def AR.ru (a : AR) : Bool:=ruQ a.q a.B a.W
theorem AR.q3 {a : AR} (h : a.ru = zT) : 1 ≤ a.q ∧ a.q ≤ 3:=by
 unfold AR.ru ruQ at h
 simp only [Bool.and_eq_true,decide_eq_true_eq] at h
 exact h.1.1
theorem AR.gv {a : AR} (h : a.ru = zT) : a.g.v = a.v:=by
 have:=a.q3 h
 unfold AG.v AR.g AR.v
 simp only
 rw [Int.toNat_of_nonneg (by omega)]
theorem AR.gq {a : AR} (h : a.ru = zT) : (a.g.q : Int) = a.q:=by
 have:=a.q3 h
 exact Int.toNat_of_nonneg (by omega)
theorem OkR.g {a : AR} {h : Heap} (o : OkR a h) (r : a.ru = zT) : OkG a.g h:=⟨o.1,o.2.1,by
 have e:=a.gq r
 show ruQ (a.g.q : Int) a.B a.W = zT
 rw [e]; exact r⟩
theorem OkR.lo {a : AR} {h : Heap} (o : OkR a h) (own : List AObj) : OkR a ⟨h.get,h.size,own⟩:=⟨o.1.lo own,o.2.1.lo own,o.2.2⟩
theorem OkR.kp {a : AR} {h h' : Heap} (o : OkR a h) (k : Kp (fun _ => False) h h') : OkR a h':=⟨o.1.kp k,o.2.1.kp k,o.2.2⟩
def AR.rm (a : AR) (m : Int) : Bool:=a.ru && decide (1 ≤ m ∧ m ≤ 5)
def AR.rows (a : AR) (m : Int) : List (List Nat):=rwL a.q.toNat a.B m.toNat
def AR.steps (a : AR) (m : Int) : List (List Nat):=stL a.W (a.rows m)
theorem gn_gs (L : List Nat) : gn L = gs (L.map fun (k : Nat) => (k : Int)):=by simp [gn,gs]
theorem RV.list {h : Heap} {y : AV} {L : List Nat} (r : RV h y (gn L)) : listOf h y = some (L.map fun (k : Nat) => (k : Int)):=by
 rcases r with ⟨rfl,e⟩ | ⟨b,v,rfl,g⟩
 ·have : L = []:=by simpa [gn] using e
  subst this; rfl
 ·rw [gn_gs] at g
  exact listOf_cells g (by simp [gn])
def ntI (N : List (List Nat)) : List (List Int):=N.map fun L => L.map fun (k : Nat) => (k : Int)
theorem LM.lt {h : Heap} {p B : Nat} {W : List (List Int)} {R : List (List Nat)} (l : LM h p B W R) : ∃ x mb nx,h.get p = .cells 0 3 [x,.map mb,nx] ∧ RV h x (wsL R) ∧ (∀ b,blk x = some b → B ≤ b) ∧ LT h nx (ntI (stL W R)) ∧ (∃ nb,nx = .slice nb 0 R.length R.length ∧ B ≤ nb):=by
 obtain ⟨x,mb,nb,rs,h1,h2,h3,h4,h5,h6,h7⟩:=l
 refine ⟨x,mb,_,h1,h2,h3,⟨rs,.inr ⟨nb,by rw [h6],by rw [h6]; exact h4⟩,by simp [ntI,stL,h6],fun i r hi => ?_⟩,nb,rfl,h5⟩
 have hlt : i < R.length:=by have:=(List.getElem?_eq_some_iff.1 hi).1; omega
 obtain ⟨y,e1,e2,e3⟩:=h7 i hlt
 rw [hi] at e1
 cases e1
 refine ⟨_,?_,e2.list⟩
 unfold ntI stL
 rw [List.getElem?_map,List.getElem?_map,zq hlt,zd,zq hlt]
 rfl
theorem LT.congr {h h' : Heap} (e : ∀ b,h.get b = h'.get b) {x : AV} {A : List (List Int)} (t : LT h x A) : LT h' x A:=by
 obtain ⟨rs,lv,hl,hr⟩:=t
 refine ⟨rs,?_,hl,fun i r hi => ?_⟩
 ·rcases lv with l | ⟨b,e',g⟩
  ·exact .inl l
  ·exact .inr ⟨b,e',by rw [← e]; exact g⟩
 ·obtain ⟨l,h1,h2⟩:=hr i r hi
  exact ⟨l,h1,(listOf_congr e r).symm.trans h2⟩
section
variable {a : AR} {m : Int}
theorem rs_pre (J : CallF) (k57 : KR 57 J) (k60 : K60 J) {h : Heap} (o : OkR a h) : J 57 [a.v] ⟨h.get,h.size,[.cells 0 3 [G a.q,a.x,a.y]]⟩ = some (.bool a.ru,[],zF) ∧ J 60 [G m,G 1,G 5] ⟨h.get,h.size,[.cells 0 3 [G a.q,a.x,a.y]]⟩ = some (.bool (decide (1 ≤ m ∧ m ≤ 5)),[],zF) :=
 ⟨k57 _ a (o.lo _),k60 m 1 5 _⟩
end
structure ARm where
 a : AR
 m : Int
def PreRm (b : ARm) (args : List AV) (h : Heap) : Prop:=OkR b.a h ∧ args = [b.a.v,G b.m]
def Post25 (b : ARm) (h : Heap) (v : AV) (own : List AObj) : Prop:=(b.a.rm b.m = zF → v = .tup [.nils,G 2] ∧ own = []) ∧ (b.a.rm b.m = zT → ∃ x,v = .tup [x,G 0] ∧ RV (h.plus own) x (wsL (b.a.rows b.m)) ∧ ∀ c,blk x = some c → h.size ≤ c)
noncomputable def T19 : CallF:=addK tbl T18 25 PreRm Post25
theorem t19 : Sound zp T19:=Sound.addK follows ok t18 (by decide) _ _
def Post26 (b : ARm) (h : Heap) (v : AV) (own : List AObj) : Prop:=(b.a.rm b.m = zF → v = .tup [.nils,G 2] ∧ own = []) ∧ (b.a.rm b.m = zT → ∃ x,v = .tup [x,G 0] ∧ LT (h.plus own) x (ntI (b.a.steps b.m)) ∧ ∀ c,blk x = some c → h.size ≤ c)
noncomputable def T20 : CallF:=addK tbl T19 26 PreRm Post26
theorem t20 : Sound zp T20:=Sound.addK follows ok t19 (by decide) _ _
structure A59 where
 b : Nat
 n : Nat
 v : Nat
 cs : List AV
def Ok59 (a : A59) (h : Heap) : Prop:=h.get a.b = .cells 1 a.v a.cs ∧ a.cs.length = a.n ∧ 0 < a.n ∧ a.n ≤ 1000
def Pre59 (a : A59) (args : List AV) (h : Heap) : Prop:=Ok59 a h ∧ args = [.slice a.b 0 a.n a.v]
def Post59 (a : A59) (h : Heap) (v : AV) (own : List AObj) : Prop:=v = .slice h.size 0 a.n a.n ∧ own = [.cells 1 a.n a.cs]
noncomputable def T21 : CallF:=addK tbl T20 59 Pre59 Post59
theorem t21 : Sound zp T21:=Sound.addK follows ok t20 (by decide) _ _
section
variable {q0 : Nat} {B : List (List Int)}
end
structure A58 where
 q : Nat
 x : AV
 B : List (List Int)
def Pre58 (b : A58) (args : List AV) (h : Heap) : Prop:=(TQ h b.x b.q b.B ∧ b.B.length = b.q ∧ 1 ≤ b.q ∧ b.q ≤ 3) ∧ args = [b.x]
def Post58 (b : A58) (h : Heap) (v : AV) (own : List AObj) : Prop:=TB h (h.plus own) v (b.B.map gs)
noncomputable def T22 : CallF:=addK tbl T21 58 Pre58 Post58
theorem t22 : Sound zp T22:=Sound.addK follows ok t21 (by decide) _ _
theorem TB.kpm {M : Nat → Prop} {Hb H0 h h' : Heap} {x : AV} {L : List (List AV)} (t : TB H0 h x L) (k : Kp M h h') (hM : ∀ b,M b → b < H0.size) (k0 : Kp (fun _ => False) Hb h') (hs : Hb.size ≤ H0.size) : TB Hb h' x L:=by
 obtain ⟨rs,lv,hl,hr⟩:=t.r
 refine ⟨k0,fun q hq => Nat.le_trans hs (t.x0 q hq),rs,lv.kp k (fun b hb m => by have:=t.x0 b hb; have:=hM b m; omega),hl,fun i r hi => ?_⟩
 obtain ⟨cs,b,h1,h2,h3,h4,h5⟩:=hr i r hi
 exact ⟨cs,b,h1,h2,k.at h3 (by simp) (fun m => by have:=hM b m; omega),h4,by omega⟩
section
variable {a : AR}
end
def Pre20 (a : AR) (args : List AV) (h : Heap) : Prop:=OkR a h ∧ args = [a.v]
def Post20 (a : AR) (h : Heap) (v : AV) (own : List AObj) : Prop:=(a.ru = zF → v = .tup [.agg [G 0,.nils,.nils],G 2] ∧ own = []) ∧ (a.ru = zT → ∃ x y,v = .tup [.agg [G a.q,x,y],G 0] ∧ TB h (h.plus own) x (a.W.map gs) ∧ TB h (h.plus own) y (a.B.map gs))
noncomputable def T23 : CallF:=addK tbl T22 20 Pre20 Post20
theorem t23 : Sound zp T23:=Sound.addK follows ok t22 (by decide) _ _
structure NV (H0 h : Heap) (x : AV) (L : List AV) : Prop where
 k : Kp (fun _ => False) H0 h
 x0 : ∀ q,blk x = some q → H0.size ≤ q
 l : LV h x L
theorem NV.nil (H0 : Heap) : NV H0 H0 .nils []:=⟨Kp.refl _,fun _ e => (by cases e),LV.nil _⟩
theorem NV.kp {H0 h h' : Heap} {x : AV} {L : List AV} (t : NV H0 h x L) (k : Kp (fun _ => False) h h') : NV H0 h' x L:=⟨t.k.trans k,t.x0,t.l.kp k (fun _ _ => id)⟩
theorem NV.app {H0 h : Heap} (h0 bytes : Nat) {x : AV} {L : List AV} (t : NV H0 h x L) (z : AV) (hn : (L.length + 1) * bytes ≤ 1099511627776) :
  ∃ x1 e h2,appA (h.plus [.cells 1 1 [z]]) h0 none 1 bytes 1 [z] x = some (x1,e) ∧ Eff.app e (h.plus [.cells 1 1 [z]]) = some h2 ∧ NV H0 h2 x1 (L ++ [z]) ∧ AV.cells x1 = some [x1]:=by
 have k1 : Kp (fun _ => False) h (h.plus [.cells 1 1 [z]]):=Kp.plus _ _
 obtain ⟨x1,e,h2,q1,q2,q3,q4,q5,q6⟩:=app_v (h.plus [.cells 1 1 [z]]) h0 bytes z (t.l.kp k1 (fun _ _ => id)) hn
 refine ⟨x1,e,h2,q1,q2,⟨(t.k.trans k1).late q4 t.x0,fun q hq => ?_,q3⟩,q6⟩
 rcases q5 with h' | ⟨_,h'⟩
 ·rw [h'] at hq; exact t.x0 q hq
 ·rw [h'] at hq; cases hq; have:=t.k.size; have:=k1.size; omega
theorem NV.base {H0 H1 H : Heap} {x : AV} {L : List AV} (k : Kp (fun _ => False) H0 H1) (t : NV H1 H x L) : NV H0 H x L:=⟨k.trans t.k,fun q hq => Nat.le_trans k.size (t.x0 q hq),t.l⟩
section
variable {a : AG} {S : Nat}
theorem NV.rv {H0 h : Heap} {x : AV} {L : List AV} (t : NV H0 h x L) : RV h x L:=t.l.rv
theorem RV.fr {h H' : Heap} {x : AV} {L : List AV} (t : RV H' x L) (k : Kp (fun _ => False) (frameOf h) H') : RV (h.plus (if (one [x]).flat then [] else H'.own)) x L:=by
 split
 ·rename_i hf
  rcases t with ⟨rfl,e2⟩ | ⟨b,v,rfl,g⟩
  ·exact .inl ⟨rfl,e2⟩
  ·simp [one,AV.flat,AV.flats] at hf
 ·have e:=Kp.own k
  exact t.congr fun b => by rw [e]; exact fr_get h _ b
end
def Pre30 (b : AM) (args : List AV) (h : Heap) : Prop:=(OkG b.a h ∧ b.m ≤ 5) ∧ args = [b.a.v,G b.m]
def Post30 (b : AM) (h : Heap) (v : AV) (own : List AObj) : Prop:=RV (h.plus own) v (wsL (rwL b.a.q b.a.B b.m)) ∧ ∀ c,blk v = some c → h.size ≤ c
noncomputable def T24 : CallF:=addK tbl T23 30 Pre30 Post30
theorem t24 : Sound zp T24:=Sound.addK follows ok t23 (by decide) _ _
section
variable {a : AG} {S : Nat} {bx v : Nat} {R : List (List Nat)}
theorem RV.sl {h : Heap} {x : AV} {cs : List AV} (r : RV h x cs) : (x = .nils ∧ cs.length = 0) ∨ ∃ b v,x = .slice b 0 cs.length v:=by
 rcases r with ⟨e,e2⟩ | ⟨b,v,e,_⟩
 ·exact .inl ⟨e,by rw [e2]; rfl⟩
 ·exact .inr ⟨b,v,e⟩
theorem LV.sh {h : Heap} {x : AV} {cs : List AV} (r : LV h x cs) : x = .nils ∨ ∃ b n,x = .slice b 0 n n:=by
 rcases r with ⟨e,_⟩ | ⟨b,e,_⟩
 ·exact .inl e
 ·exact .inr ⟨b,_,e⟩
theorem TG.base {H0 H1 H : Heap} {x : AV} {L : List (List Int)} (k : Kp (fun _ => False) H0 H1) (t : TG H1 H x L) : TG H0 H x L:=by
 obtain ⟨cs,lv,hl,hr⟩:=t.r
 exact ⟨k.trans t.k,fun q hq => Nat.le_trans k.size (t.x0 q hq),cs,lv,hl,fun i r hi => by
  obtain ⟨l,h1,h2,h3⟩:=hr i r hi
  exact ⟨l,h1,h2,fun q hq => ⟨(h3 q hq).1,Nat.le_trans k.size (h3 q hq).2.1,(h3 q hq).2.2⟩⟩⟩
theorem LT.fr {h H' : Heap} {x : AV} {L : List (List Int)} (t : LT H' x L) (k : Kp (fun _ => False) (frameOf h) H') : LT (h.plus (if (one [x]).flat then [] else H'.own)) x L:=by
 split
 ·rename_i hf
  obtain ⟨rs,lv,hl,hr⟩:=t
  rcases lv with ⟨rfl,e2⟩ | ⟨b,rfl,g⟩
  ·subst e2
   exact ⟨[],.inl ⟨rfl,rfl⟩,hl,fun i r e => by simp at e⟩
  ·simp [one,AV.flat,AV.flats] at hf
 ·have e:=Kp.own k
  exact t.congr fun b => by rw [e]; exact fr_get h _ b
end
def Post31 (b : AM) (h : Heap) (v : AV) (own : List AObj) : Prop:=LT (h.plus own) v (ntI (stL b.a.W (rwL b.a.q b.a.B b.m)))
noncomputable def T25 : CallF:=addK tbl T24 31 Pre30 Post31
theorem t25 : Sound zp T25:=Sound.addK follows ok t24 (by decide) _ _
section
variable {a b : List Int} {b1 b2 v1 v2 n : Nat}
theorem ints_loop (J : CallF) (h : Heap) {ca cb : List AV} (ha : h.get b1 = .cells 1 v1 ca) (hb : h.get b2 = .cells 1 v2 cb) (hca : ∀ i : Nat,ca[i]? = (a[i]?).map fun n => AV.int .i64 n) (hcb : ∀ i : Nat,cb[i]? = (b[i]?).map fun n => AV.int .i64 n) (la : a.length = n) (lb : b.length = n) (hn : n ≤ 1000000) :
  ∀ j i,i + j = n → (a.drop i = b.drop i → Tr tbl J c64_l0 (fun s h' => s.get [] = .slice b1 0 n v1 ∧ s.get [zF] = .slice b2 0 n v2 ∧ s.get [zF,zT] = G i ∧ h' = ⟨h.get,h.size,[]⟩) (.exit 0) (fun s h => True)) ∧
   (a.drop i ≠ b.drop i → Tr tbl J c64_l0 (fun s h' => s.get [] = .slice b1 0 n v1 ∧ s.get [zF] = .slice b2 0 n v2 ∧ s.get [zF,zT] = G i ∧ h' = ⟨h.get,h.size,[]⟩) .ret (fun s h => s.get [zT,zF] = .bool zF)):=by
 have h1:=get_lt ha (by simp)
 have h2:=get_lt hb (by simp)
 intro j
 induction j with
 | zero =>
  intro i hi
  obtain rfl : i = n:=by omega
  have e1 : a.drop i = []:=List.drop_of_length_le (by omega)
  have e2 : b.drop i = []:=List.drop_of_length_le (by omega)
  refine ⟨fun _ => ?_,fun hne => absurd (e1.trans e2.symm) hne⟩
  have t : Tr tbl J ((.trim [[],[zF],[zF,zT]] c64_b0)) (fun s h' => s.get [] = .slice b1 0 i v1 ∧ s.get [zF] = .slice b2 0 i v2 ∧ s.get [zF,zT] = G i ∧ h' = ⟨h.get,h.size,[]⟩) (.exit 0) (fun s h => True):=Tr.region fun s h hp => by
   obtain ⟨g0,g1,g2,rfl⟩:=hp
   simp (disch:=first|omega|exact zE rfl|exact zO|exact zL rfl) [c64_b0,c64_o4,size_mk,get_mk_lt,get_mk_ge,frameOf,Eff.app,Heap.setOwn,g0,g1,g2]
  exact Tr.out t (by simp)
 | succ j ih =>
  intro i hi
  have hia : i < a.length:=by omega
  have hib : i < b.length:=by omega
  have ea : a[i]? = some a[i]:=zq hia
  have eb : b[i]? = some b[i]:=zq hib
  have da : a.drop i = a[i] :: a.drop (i + 1):=List.drop_eq_getElem_cons hia
  have db : b.drop i = b[i] :: b.drop (i + 1):=List.drop_eq_getElem_cons hib
  rw [da,db]
  have xa:=hca i
  have xb:=hcb i
  rw [ea] at xa
  rw [eb] at xb
  simp only [Option.map_some] at xa xb
  clear ea eb da db hca hcb
  generalize a[i] = p at *
  generalize b[i] = q at *
  have ih':=ih (i + 1) (by omega)
  by_cases hpq : p = q
  ·subst hpq
   have t : Tr tbl J ((.trim [[],[zF],[zF,zT]] c64_b0)) (fun s h' => s.get [] = .slice b1 0 n v1 ∧ s.get [zF] = .slice b2 0 n v2 ∧ s.get [zF,zT] = G i ∧ h' = ⟨h.get,h.size,[]⟩) .normal (fun s h' => s.get [] = .slice b1 0 n v1 ∧ s.get [zF] = .slice b2 0 n v2 ∧ s.get [zF,zT] = G ((i + 1 : Nat) : Int) ∧ h' = ⟨h.get,h.size,[]⟩):=Tr.region fun s h hp => by
    obtain ⟨g0,g1,g2,rfl⟩:=hp
    simp (disch:=first|omega|exact zE rfl|exact zO|exact zL rfl) [c64_b0,c64_o4,c64_o5,c64_o7,size_mk,get_mk_lt,get_mk_ge,frameOf,Eff.app,Heap.setOwn,g0,g1,g2,ha,hb,xa,xb]
   exact ⟨fun e => Tr.next t (ih'.1 (by simpa using e)),fun e => Tr.next t (ih'.2 (by simpa using e))⟩
  ·refine ⟨fun e => absurd (List.cons.inj e).1 hpq,fun _ => ?_⟩
   have t : Tr tbl J ((.trim [[],[zF],[zF,zT]] c64_b0)) (fun s h' => s.get [] = .slice b1 0 n v1 ∧ s.get [zF] = .slice b2 0 n v2 ∧ s.get [zF,zT] = G i ∧ h' = ⟨h.get,h.size,[]⟩) .ret (fun s h => s.get [zT,zF] = .bool zF):=Tr.region fun s h hp => by
    obtain ⟨g0,g1,g2,rfl⟩:=hp
    simp (disch:=first|omega|exact zE rfl|exact zO|exact zL rfl) [c64_b0,c64_o4,c64_o5,c64_o6,size_mk,get_mk_lt,get_mk_ge,frameOf,Eff.app,Heap.setOwn,g0,g1,g2,ha,hb,xa,xb,hpq]
   exact Tr.out t (by simp)
theorem ints_nn (J : CallF) (hJ : ∀ a h,J 64 a h = none) (h : Heap)  : CallsTo tbl J 64 [.nils,.nils] h (.bool (decide (([] : List Int) = [])),[],zF):=by
 refine Tr.fnv (cf:=c64) (e:=.ret) (s:=T.set (T.set .leaf [] (.nils)) [zF] (.nils)) (by decide) rfl (hJ _ _) rfl rfl rfl (by simp) ?_
 have t0 : Tr tbl J (c64_o0) (fun s h' => s = T.set (T.set .leaf [] (.nils)) [zF] (.nils) ∧ h' = frameOf h) .normal (fun s h' => s.get [] = .nils ∧ s.get [zF] = .nils ∧ h' = ⟨h.get,h.size,[]⟩):=Tr.region fun s h hp => by
  obtain ⟨rfl,rfl⟩:=hp
  simp (disch:=first|omega|exact zE rfl|exact zO|exact zL rfl) [c64_o0,frameOf,Heap.size,Heap.get,Eff.app,Heap.setOwn]
 by_cases hab : (0) = 0
 ·
  have t1 : Tr tbl J ((.seq c64_o1 (.cond (.s [zT,zT,zF]) (.seq c64_o2 .ret) .skip))) (fun s h' => s.get [] = .nils ∧ s.get [zF] = .nils ∧ h' = ⟨h.get,h.size,[]⟩) .normal (fun s h' => s.get [] = .nils ∧ s.get [zF] = .nils ∧ h' = ⟨h.get,h.size,[]⟩):=Tr.region fun s h hp => by
   obtain ⟨g0,g1,rfl⟩:=hp
   simp (disch:=first|omega|exact zE rfl|exact zO|exact zL rfl) [c64_o1,size_mk,get_mk_lt,get_mk_ge,frameOf,Eff.app,Heap.setOwn,g0,g1,hab]
  have t2 : Tr tbl J (c64_o3) (fun s h' => s.get [] = .nils ∧ s.get [zF] = .nils ∧ h' = ⟨h.get,h.size,[]⟩) .normal (fun s h' => s.get [] = .nils ∧ s.get [zF] = .nils ∧ s.get [zF,zT] = G ((0 : Nat) : Int) ∧ h' = ⟨h.get,h.size,[]⟩):=Tr.region fun s h hp => by
   obtain ⟨g0,g1,rfl⟩:=hp
   simp (disch:=first|omega|exact zE rfl|exact zO|exact zL rfl) [c64_o3,size_mk,get_mk_lt,get_mk_ge,frameOf,Eff.app,Heap.setOwn,g0,g1]
  have t3 : Tr tbl J ((.seq c64_o8 .ret)) (fun s h => True) .ret (fun s h => s.get [zT,zF] = .bool zT):=Tr.region fun s h hp => by
   simp (disch:=first|omega|exact zE rfl|exact zO|exact zL rfl) [c64_o8,frameOf,Heap.size,Heap.get,Eff.app,Heap.setOwn]
  have t4 : Tr tbl J ((.trim [[],[zF],[zF,zT]] c64_b0)) (fun s h' => s.get [] = .nils ∧ s.get [zF] = .nils ∧ s.get [zF,zT] = G ((0 : Nat) : Int) ∧ h' = ⟨h.get,h.size,[]⟩) (.exit 0) (fun s h => True):=Tr.region fun s h hp => by
   obtain ⟨g0,g1,g2,rfl⟩:=hp
   simp (disch:=first|omega|exact zE rfl|exact zO|exact zL rfl) [c64_b0,c64_o4,size_mk,get_mk_lt,get_mk_ge,frameOf,Eff.app,Heap.setOwn,g0,g1,g2,hab]
  exact Tr.post (fun s h q => by simp [c64,q]) (Tr.seq t0 (Tr.seq t1 (Tr.seq (Tr.seq t2 (Tr.block (Tr.out t4 (by simp)))) t3)))
 ·exact absurd rfl hab
theorem ints_ns (J : CallF) (hJ : ∀ a h,J 64 a h = none) (h : Heap)  : CallsTo tbl J 64 [.nils,.slice b2 0 b.length v2] h (.bool (decide (([] : List Int) = b)),[],zF):=by
 refine Tr.fnv (cf:=c64) (e:=.ret) (s:=T.set (T.set .leaf [] (.nils)) [zF] (.slice b2 0 b.length v2)) (by decide) rfl (hJ _ _) rfl rfl rfl (by simp) ?_
 have t0 : Tr tbl J (c64_o0) (fun s h' => s = T.set (T.set .leaf [] (.nils)) [zF] (.slice b2 0 b.length v2) ∧ h' = frameOf h) .normal (fun s h' => s.get [] = .nils ∧ s.get [zF] = .slice b2 0 b.length v2 ∧ h' = ⟨h.get,h.size,[]⟩):=Tr.region fun s h hp => by
  obtain ⟨rfl,rfl⟩:=hp
  simp (disch:=first|omega|exact zE rfl|exact zO|exact zL rfl) [c64_o0,frameOf,Heap.size,Heap.get,Eff.app,Heap.setOwn]
 by_cases hab : (0) = b.length
 ·
  have t1 : Tr tbl J ((.seq c64_o1 (.cond (.s [zT,zT,zF]) (.seq c64_o2 .ret) .skip))) (fun s h' => s.get [] = .nils ∧ s.get [zF] = .slice b2 0 b.length v2 ∧ h' = ⟨h.get,h.size,[]⟩) .normal (fun s h' => s.get [] = .nils ∧ s.get [zF] = .slice b2 0 b.length v2 ∧ h' = ⟨h.get,h.size,[]⟩):=Tr.region fun s h hp => by
   obtain ⟨g0,g1,rfl⟩:=hp
   simp (disch:=first|omega|exact zE rfl|exact zO|exact zL rfl) [c64_o1,size_mk,get_mk_lt,get_mk_ge,frameOf,Eff.app,Heap.setOwn,g0,g1,hab]
  have t2 : Tr tbl J (c64_o3) (fun s h' => s.get [] = .nils ∧ s.get [zF] = .slice b2 0 b.length v2 ∧ h' = ⟨h.get,h.size,[]⟩) .normal (fun s h' => s.get [] = .nils ∧ s.get [zF] = .slice b2 0 b.length v2 ∧ s.get [zF,zT] = G ((0 : Nat) : Int) ∧ h' = ⟨h.get,h.size,[]⟩):=Tr.region fun s h hp => by
   obtain ⟨g0,g1,rfl⟩:=hp
   simp (disch:=first|omega|exact zE rfl|exact zO|exact zL rfl) [c64_o3,size_mk,get_mk_lt,get_mk_ge,frameOf,Eff.app,Heap.setOwn,g0,g1]
  have t3 : Tr tbl J ((.seq c64_o8 .ret)) (fun s h => True) .ret (fun s h => s.get [zT,zF] = .bool zT):=Tr.region fun s h hp => by
   simp (disch:=first|omega|exact zE rfl|exact zO|exact zL rfl) [c64_o8,frameOf,Heap.size,Heap.get,Eff.app,Heap.setOwn]
  have t4 : Tr tbl J ((.trim [[],[zF],[zF,zT]] c64_b0)) (fun s h' => s.get [] = .nils ∧ s.get [zF] = .slice b2 0 b.length v2 ∧ s.get [zF,zT] = G ((0 : Nat) : Int) ∧ h' = ⟨h.get,h.size,[]⟩) (.exit 0) (fun s h => True):=Tr.region fun s h hp => by
   obtain ⟨g0,g1,g2,rfl⟩:=hp
   simp (disch:=first|omega|exact zE rfl|exact zO|exact zL rfl) [c64_b0,c64_o4,size_mk,get_mk_lt,get_mk_ge,frameOf,Eff.app,Heap.setOwn,g0,g1,g2,hab]
  have e1 : b = []:=List.length_eq_zero_iff.1 hab.symm
  exact Tr.post (fun s h q => by simp [c64,q,e1]) (Tr.seq t0 (Tr.seq t1 (Tr.seq (Tr.seq t2 (Tr.block (Tr.out t4 (by simp)))) t3)))
 ·
  have t1 : Tr tbl J ((.seq c64_o1 (.cond (.s [zT,zT,zF]) (.seq c64_o2 .ret) .skip))) (fun s h' => s.get [] = .nils ∧ s.get [zF] = .slice b2 0 b.length v2 ∧ h' = ⟨h.get,h.size,[]⟩) .ret (fun s h => s.get [zT,zF] = .bool zF):=Tr.region fun s h hp => by
   obtain ⟨g0,g1,rfl⟩:=hp
   simp (disch:=first|omega|exact zE rfl|exact zO|exact zL rfl) [c64_o1,c64_o2,size_mk,get_mk_lt,get_mk_ge,frameOf,Eff.app,Heap.setOwn,g0,g1,hab]
  refine Tr.post (fun s h q => ?_) (Tr.seq t0 (Tr.seq_out t1 (by simp)))
  have hne : ¬ b = []:=fun e => hab (by rw [e]; rfl)
  simp [c64,q,hne]
theorem ints_sn (J : CallF) (hJ : ∀ a h,J 64 a h = none) (h : Heap)  : CallsTo tbl J 64 [.slice b1 0 a.length v1,.nils] h (.bool (decide (a = [])),[],zF):=by
 refine Tr.fnv (cf:=c64) (e:=.ret) (s:=T.set (T.set .leaf [] (.slice b1 0 a.length v1)) [zF] (.nils)) (by decide) rfl (hJ _ _) rfl rfl rfl (by simp) ?_
 have t0 : Tr tbl J (c64_o0) (fun s h' => s = T.set (T.set .leaf [] (.slice b1 0 a.length v1)) [zF] (.nils) ∧ h' = frameOf h) .normal (fun s h' => s.get [] = .slice b1 0 a.length v1 ∧ s.get [zF] = .nils ∧ h' = ⟨h.get,h.size,[]⟩):=Tr.region fun s h hp => by
  obtain ⟨rfl,rfl⟩:=hp
  simp (disch:=first|omega|exact zE rfl|exact zO|exact zL rfl) [c64_o0,frameOf,Heap.size,Heap.get,Eff.app,Heap.setOwn]
 by_cases hab : (a.length) = 0
 ·
  have t1 : Tr tbl J ((.seq c64_o1 (.cond (.s [zT,zT,zF]) (.seq c64_o2 .ret) .skip))) (fun s h' => s.get [] = .slice b1 0 a.length v1 ∧ s.get [zF] = .nils ∧ h' = ⟨h.get,h.size,[]⟩) .normal (fun s h' => s.get [] = .slice b1 0 a.length v1 ∧ s.get [zF] = .nils ∧ h' = ⟨h.get,h.size,[]⟩):=Tr.region fun s h hp => by
   obtain ⟨g0,g1,rfl⟩:=hp
   simp (disch:=first|omega|exact zE rfl|exact zO|exact zL rfl) [c64_o1,size_mk,get_mk_lt,get_mk_ge,frameOf,Eff.app,Heap.setOwn,g0,g1,hab]
  have t2 : Tr tbl J (c64_o3) (fun s h' => s.get [] = .slice b1 0 a.length v1 ∧ s.get [zF] = .nils ∧ h' = ⟨h.get,h.size,[]⟩) .normal (fun s h' => s.get [] = .slice b1 0 a.length v1 ∧ s.get [zF] = .nils ∧ s.get [zF,zT] = G ((0 : Nat) : Int) ∧ h' = ⟨h.get,h.size,[]⟩):=Tr.region fun s h hp => by
   obtain ⟨g0,g1,rfl⟩:=hp
   simp (disch:=first|omega|exact zE rfl|exact zO|exact zL rfl) [c64_o3,size_mk,get_mk_lt,get_mk_ge,frameOf,Eff.app,Heap.setOwn,g0,g1]
  have t3 : Tr tbl J ((.seq c64_o8 .ret)) (fun s h => True) .ret (fun s h => s.get [zT,zF] = .bool zT):=Tr.region fun s h hp => by
   simp (disch:=first|omega|exact zE rfl|exact zO|exact zL rfl) [c64_o8,frameOf,Heap.size,Heap.get,Eff.app,Heap.setOwn]
  have t4 : Tr tbl J ((.trim [[],[zF],[zF,zT]] c64_b0)) (fun s h' => s.get [] = .slice b1 0 a.length v1 ∧ s.get [zF] = .nils ∧ s.get [zF,zT] = G ((0 : Nat) : Int) ∧ h' = ⟨h.get,h.size,[]⟩) (.exit 0) (fun s h => True):=Tr.region fun s h hp => by
   obtain ⟨g0,g1,g2,rfl⟩:=hp
   simp (disch:=first|omega|exact zE rfl|exact zO|exact zL rfl) [c64_b0,c64_o4,size_mk,get_mk_lt,get_mk_ge,frameOf,Eff.app,Heap.setOwn,g0,g1,g2,hab]
  have e1 : a = []:=List.length_eq_zero_iff.1 hab
  exact Tr.post (fun s h q => by simp [c64,q,e1]) (Tr.seq t0 (Tr.seq t1 (Tr.seq (Tr.seq t2 (Tr.block (Tr.out t4 (by simp)))) t3)))
 ·
  have t1 : Tr tbl J ((.seq c64_o1 (.cond (.s [zT,zT,zF]) (.seq c64_o2 .ret) .skip))) (fun s h' => s.get [] = .slice b1 0 a.length v1 ∧ s.get [zF] = .nils ∧ h' = ⟨h.get,h.size,[]⟩) .ret (fun s h => s.get [zT,zF] = .bool zF):=Tr.region fun s h hp => by
   obtain ⟨g0,g1,rfl⟩:=hp
   simp (disch:=first|omega|exact zE rfl|exact zO|exact zL rfl) [c64_o1,c64_o2,size_mk,get_mk_lt,get_mk_ge,frameOf,Eff.app,Heap.setOwn,g0,g1,hab]
  refine Tr.post (fun s h q => ?_) (Tr.seq t0 (Tr.seq_out t1 (by simp)))
  have hne : ¬ a = []:=fun e => hab (by rw [e]; rfl)
  simp [c64,q,hne]
theorem ints_ss (J : CallF) (hJ : ∀ a h,J 64 a h = none) (h : Heap) (hn : a.length ≤ 1000000) {ca cb : List AV} (ha : h.get b1 = .cells 1 v1 ca) (hb : h.get b2 = .cells 1 v2 cb) (hca : ∀ i : Nat,ca[i]? = (a[i]?).map fun n => AV.int .i64 n) (hcb : ∀ i : Nat,cb[i]? = (b[i]?).map fun n => AV.int .i64 n) : CallsTo tbl J 64 [.slice b1 0 a.length v1,.slice b2 0 b.length v2] h (.bool (decide (a = b)),[],zF):=by
 refine Tr.fnv (cf:=c64) (e:=.ret) (s:=T.set (T.set .leaf [] (.slice b1 0 a.length v1)) [zF] (.slice b2 0 b.length v2)) (by decide) rfl (hJ _ _) rfl rfl rfl (by simp) ?_
 have t0 : Tr tbl J (c64_o0) (fun s h' => s = T.set (T.set .leaf [] (.slice b1 0 a.length v1)) [zF] (.slice b2 0 b.length v2) ∧ h' = frameOf h) .normal (fun s h' => s.get [] = .slice b1 0 a.length v1 ∧ s.get [zF] = .slice b2 0 b.length v2 ∧ h' = ⟨h.get,h.size,[]⟩):=Tr.region fun s h hp => by
  obtain ⟨rfl,rfl⟩:=hp
  simp (disch:=first|omega|exact zE rfl|exact zO|exact zL rfl) [c64_o0,frameOf,Heap.size,Heap.get,Eff.app,Heap.setOwn]
 by_cases hab : (a.length) = b.length
 ·
  have t1 : Tr tbl J ((.seq c64_o1 (.cond (.s [zT,zT,zF]) (.seq c64_o2 .ret) .skip))) (fun s h' => s.get [] = .slice b1 0 a.length v1 ∧ s.get [zF] = .slice b2 0 b.length v2 ∧ h' = ⟨h.get,h.size,[]⟩) .normal (fun s h' => s.get [] = .slice b1 0 a.length v1 ∧ s.get [zF] = .slice b2 0 b.length v2 ∧ h' = ⟨h.get,h.size,[]⟩):=Tr.region fun s h hp => by
   obtain ⟨g0,g1,rfl⟩:=hp
   simp (disch:=first|omega|exact zE rfl|exact zO|exact zL rfl) [c64_o1,size_mk,get_mk_lt,get_mk_ge,frameOf,Eff.app,Heap.setOwn,g0,g1,hab]
  have t2 : Tr tbl J (c64_o3) (fun s h' => s.get [] = .slice b1 0 a.length v1 ∧ s.get [zF] = .slice b2 0 b.length v2 ∧ h' = ⟨h.get,h.size,[]⟩) .normal (fun s h' => s.get [] = .slice b1 0 a.length v1 ∧ s.get [zF] = .slice b2 0 b.length v2 ∧ s.get [zF,zT] = G ((0 : Nat) : Int) ∧ h' = ⟨h.get,h.size,[]⟩):=Tr.region fun s h hp => by
   obtain ⟨g0,g1,rfl⟩:=hp
   simp (disch:=first|omega|exact zE rfl|exact zO|exact zL rfl) [c64_o3,size_mk,get_mk_lt,get_mk_ge,frameOf,Eff.app,Heap.setOwn,g0,g1]
  have t3 : Tr tbl J ((.seq c64_o8 .ret)) (fun s h => True) .ret (fun s h => s.get [zT,zF] = .bool zT):=Tr.region fun s h hp => by
   simp (disch:=first|omega|exact zE rfl|exact zO|exact zL rfl) [c64_o8,frameOf,Heap.size,Heap.get,Eff.app,Heap.setOwn]
  obtain ⟨l1,l2⟩:=ints_loop J h ha hb hca hcb rfl hab.symm hn a.length 0 (by omega)
  simp only [List.drop_zero] at l1 l2
  rw [← hab] at t0 t1 t2
  by_cases e : a = b
  ·rw [decide_eq_true e]
   exact Tr.post (fun s h q => by simp [c64,q]) (Tr.seq (by rw [← hab]; exact t0) (Tr.seq t1 (Tr.seq (Tr.seq t2 (Tr.block (l1 e))) t3)))
  ·rw [decide_eq_false e]
   exact Tr.post (fun s h q => by simp [c64,q]) (Tr.seq (by rw [← hab]; exact t0) (Tr.seq t1 (Tr.seq_out (Tr.seq t2 (Tr.block_out (l2 e) (by simp))) (by simp))))
 ·
  have t1 : Tr tbl J ((.seq c64_o1 (.cond (.s [zT,zT,zF]) (.seq c64_o2 .ret) .skip))) (fun s h' => s.get [] = .slice b1 0 a.length v1 ∧ s.get [zF] = .slice b2 0 b.length v2 ∧ h' = ⟨h.get,h.size,[]⟩) .ret (fun s h => s.get [zT,zF] = .bool zF):=Tr.region fun s h hp => by
   obtain ⟨g0,g1,rfl⟩:=hp
   simp (disch:=first|omega|exact zE rfl|exact zO|exact zL rfl) [c64_o1,c64_o2,size_mk,get_mk_lt,get_mk_ge,frameOf,Eff.app,Heap.setOwn,g0,g1,hab]
  refine Tr.post (fun s h q => ?_) (Tr.seq t0 (Tr.seq_out t1 (by simp)))
  have hne : ¬ a = b:=fun e => hab (by rw [e])
  simp [c64,q,hne]
theorem c64_ok (J : CallF) (hJ : ∀ a h,J 64 a h = none) (h : Heap) (x y : AV) (hx : listOf h x = some a) (hy : listOf h y = some b) (hn : a.length ≤ 1000000) : CallsTo tbl J 64 [x,y] h (.bool (decide (a = b)),[],zF):=by
 rcases listOf_some hx with ⟨rfl,rfl⟩ | ⟨b1,v1,rfl,g1⟩ <;> rcases listOf_some hy with ⟨rfl,rfl⟩ | ⟨b2,v2,rfl,g2⟩
 ·exact ints_nn J hJ h
 ·exact ints_ns J hJ h
 ·exact ints_sn J hJ h
 ·exact ints_ss J hJ h hn g1 g2 (fun i => List.getElem?_map) (fun i => List.getElem?_map)
end
def spec64 : SpecF:=fun args h => match args with
 | [x,y] => match listOf h x,listOf h y with
  | some a,some b => if a.length ≤ 1000000 then some (.bool (decide (a = b)),[],zF) else none
  | _,_ => none
 | _ => none
noncomputable def T26 : CallF:=addI T25 64 spec64
theorem t26 : Sound zp T26:=Sound.add follows ok t25 (by decide) fun args h x e => by
 unfold spec64 at e
 split at e
 ·split at e
  ·rename_i h1 h2
   split at e
   ·rename_i hn
    simp only [Option.some.injEq] at e; subst e; exact c64_ok T25 (fun _ _ => by simp (disch:=decide) only [T1,T2,T3,T4,T5,T6,T7,T8,T9,T10,T11,T12,T13,T14,T15,T16,T17,T18,T19,T20,T21,T22,T23,T24,T25,addI_ne,addX_ne,addV_ne,addK_ne]; rfl) h _ _ h1 h2 hn
   ·cases e
  ·cases e
 ·cases e
abbrev ss (L : List (List UInt8)) : List AV:=L.map AV.str
theorem ss_at {L : List (List UInt8)} {i : Nat} (hi : i < L.length) : (ss L)[i]? = some (.str (L.getD i [])):=by
 rw [List.getElem?_map,zd,zq hi]; rfl
def sE (L M : List (List UInt8)) (i : Nat) : Bool:=decide (L.getD i [] = M.getD i [])
theorem sE_all {L M : List (List UInt8)} (h : L.length = M.length) : af (sE L M) 0 L.length = decide (L = M):=by
 rw [Bool.eq_iff_iff,af_iff,decide_eq_true_eq]
 constructor
 ·intro a
  apply List.ext_getElem?
  intro i
  by_cases hi : i < L.length
  ·have:=a i (Nat.zero_le _) (by omega)
   unfold sE at this
   rw [decide_eq_true_eq,zd,zd,zq hi,zq (by omega : i < M.length)] at this
   rw [zq hi,zq (by omega : i < M.length)]
   exact congrArg some this
  ·rw [List.getElem?_eq_none (by omega),List.getElem?_eq_none (by omega)]
 ·rintro rfl k _ _
  simp [sE]
section
variable {L M : List (List UInt8)}
end
structure A29 where
 x : AV
 z : AV
 L : List (List UInt8)
 M : List (List UInt8)
def Pre29 (b : A29) (args : List AV) (h : Heap) : Prop:=(RV h b.x (ss b.L) ∧ RV h b.z (ss b.M) ∧ b.L.length ≤ 1000000 ∧ b.M.length ≤ 1000000) ∧ args = [b.x,b.z]
def Post29 (b : A29) (h : Heap) (v : AV) (own : List AObj) : Prop:=v = .bool (decide (b.L = b.M)) ∧ own = []
noncomputable def T27 : CallF:=addK tbl T26 29 Pre29 Post29
theorem t27 : Sound zp T27:=Sound.addK follows ok t26 (by decide) _ _
section
variable {A B : List (List Int)}
end
structure A47 where
 A : List (List Int)
 B : List (List Int)
 x : AV
 z : AV
def Ok47 (a : A47) (h : Heap) : Prop:=LT h a.x a.A ∧ LT h a.z a.B ∧ a.A.length ≤ 1000000 ∧ a.B.length ≤ 1000000 ∧ ∀ l ∈ a.A,l.length ≤ 1000000
def Pre22 (a : A47) (args : List AV) (h : Heap) : Prop:=Ok47 a h ∧ args = [a.x,a.z]
def Post22 (a : A47) (h : Heap) (v : AV) (own : List AObj) : Prop:=v = .bool (decide (a.A = a.B)) ∧ own = []
noncomputable def T28 : CallF:=addK tbl T27 22 Pre22 Post22
theorem t28 : Sound zp T28:=Sound.addK follows ok t27 (by decide) _ _
theorem c92_nil (J : CallF) (hJ : ∀ a h,J 92 a h = none) (h : Heap) {x : AV} (hx : x = .nils ∨ x = .slice0) : CallsTo tbl J 92 [x] h (.nils,[],zF):=by
 refine Tr.fnv (cf:=c92) (e:=.ret) (s:=T.set .leaf [] x) (by decide) rfl (hJ _ _) rfl rfl rfl (by simp) ?_
 refine Tr.post (Q:=(fun s h => s.get [zT] = .nils)) (fun s h q => by simp [c92,q]) ?_
 have t : Tr tbl J ((.seq c92_o0 (.seq c92_o1 (.seq c92_o2 .ret)))) (fun s h' => s = T.set .leaf [] x ∧ h' = frameOf h) .ret (fun s h => s.get [zT] = .nils):=Tr.region fun s h hp => by
  obtain ⟨rfl,rfl⟩:=hp
  rcases hx with rfl | rfl <;> simp (disch:=first|omega|exact zE rfl|exact zO|exact zL rfl) [c92_o0,c92_o1,c92_o2,size_mk,get_mk_lt,get_mk_ge,frameOf,Eff.app,Heap.setOwn,slSlA,bounds,elems,rdOf,appA]
 exact t
theorem c92_nil2 (J : CallF) (hJ : ∀ a h,J 92 a h = none) (h : Heap) {b v : Nat} (hb : h.get b = .cells 1 v []) : CallsTo tbl J 92 [.slice b 0 0 v] h (.nils,[],zF):=by
 have hlt:=get_lt hb (by simp)
 refine Tr.fnv (cf:=c92) (e:=.ret) (s:=T.set .leaf [] (.slice b 0 0 v)) (by decide) rfl (hJ _ _) rfl rfl rfl (by simp) ?_
 refine Tr.post (Q:=(fun s h => s.get [zT] = .nils)) (fun s h q => by simp [c92,q]) ?_
 have t : Tr tbl J ((.seq c92_o0 (.seq c92_o1 (.seq c92_o2 .ret)))) (fun s h' => s = T.set .leaf [] (.slice b 0 0 v) ∧ h' = frameOf h) .ret (fun s h => s.get [zT] = .nils):=Tr.region fun s h hp => by
  obtain ⟨rfl,rfl⟩:=hp
  simp (disch:=first|omega|exact zE rfl|exact zO|exact zL rfl) [c92_o0,c92_o1,c92_o2,frameOf,size_mk,get_mk_lt,get_mk_ge,frameOf,Eff.app,Heap.setOwn,slSlA,bounds,elems,rdOf,appA,hb]
 exact t
theorem c92_ok (J : CallF) (hJ : ∀ a h,J 92 a h = none) (h : Heap) {b v : Nat} {A : List Int} (hb : h.get b = .cells 1 v (gs A)) (hA : A ≠ []) :
  CallsTo tbl J 92 [.slice b 0 A.length v] h (.slice h.size 0 (A.take 6).length (A.take 6).length,[.cells 1 (A.take 6).length (gs (A.take 6))],zF):=by
 have hlt:=get_lt hb (by simp)
 have hl : (A.take 6).length = min 6 A.length:=List.length_take
 have hp : 0 < A.length:=List.length_pos_iff.2 hA
 obtain ⟨m,hm⟩ : ∃ m,(A.take 6).length = m:=⟨_,rfl⟩
 rw [hm] at hl ⊢
 have e1 : (gs A).take m = gs (A.take 6):=by
  rw [← List.map_take]
  congr 1
  by_cases hA : A.length ≤ 6
  ·rw [List.take_of_length_le (by omega),List.take_of_length_le hA]
  ·rw [show m = 6 by omega]
 have e2 : (gs (A.take 6)).length = m:=by simp; omega
 obtain ⟨L,hL⟩ : ∃ L,A.length = L:=⟨_,rfl⟩
 rw [hL] at hl hp ⊢
 have e3 : (if (6 : Int) < (L : Int) then (6 : Int) else (L : Int)) = m:=by split <;> omega
 have e4 : ¬ (0 = L ∧ 0 < L):=by omega
 generalize gs (A.take 6) = cs at *
 generalize gs A = ca at *
 refine Tr.fnh (cf:=c92) (e:=.ret) (s:=T.set .leaf [] (.slice b 0 L v)) (by decide) rfl (hJ _ _) rfl rfl rfl (by simp) ?_
 refine Tr.post (Q:=(fun s h' => s.get [zT] = .slice h.size 0 m m ∧ h' = ⟨h.get,h.size,[.cells 1 m cs]⟩)) (fun s h' q => by
  obtain ⟨q1,rfl⟩:=q
  simp [c92,q1]) ?_
 have t : Tr tbl J ((.seq c92_o0 (.seq c92_o1 (.seq c92_o2 .ret)))) (fun s h' => s = T.set .leaf [] (.slice b 0 L v) ∧ h' = frameOf h) .ret (fun s h' => s.get [zT] = .slice h.size 0 m m ∧ h' = ⟨h.get,h.size,[.cells 1 m cs]⟩):=Tr.region fun s h hp => by
  obtain ⟨rfl,rfl⟩:=hp
  simp (disch:=first|omega|exact zE rfl|exact zO|exact zL rfl) [c92_o0,c92_o1,c92_o2,frameOf,size_mk,get_mk_lt,get_mk_ge,frameOf,Eff.app,Heap.setOwn,slSlA,bounds,elems,rdOf,appA,hb,e1,e2,e3,e4]
 exact t
def spec92 : SpecF:=fun args h => match args with
 | [.nils] => some (.nils,[],zF)
 | [.slice0] => some (.nils,[],zF)
 | [.slice b o len v] => match listOf h (.slice b o len v) with
  | some A => if A = [] then some (.nils,[],zF) else some (.slice h.size 0 (A.take 6).length (A.take 6).length,[.cells 1 (A.take 6).length (gs (A.take 6))],zF)
  | none => none
 | _ => none
theorem spec92_ok (J : CallF) (hJ : ∀ a h,J 92 a h = none) (args : List AV) (h : Heap) (x : AV × List AObj × Bool) (e : spec92 args h = some x) : CallsTo tbl J 92 args h x:=by
 unfold spec92 at e
 split at e
 ·simp only [Option.some.injEq] at e; subst e; exact c92_nil J hJ h (.inl rfl)
 ·simp only [Option.some.injEq] at e; subst e; exact c92_nil J hJ h (.inr rfl)
 ·split at e
  ·rename_i hl
   split at e
   ·rename_i hA
    subst hA
    simp only [Option.some.injEq] at e; subst e
    rcases listOf_some hl with ⟨h1,_⟩ | ⟨b',v',h1,g⟩
    ·cases h1
    ·cases h1; exact c92_nil2 J hJ h g
   ·rename_i hA
    simp only [Option.some.injEq] at e; subst e
    rcases listOf_some hl with ⟨h1,_⟩ | ⟨b',v',h1,g⟩
    ·cases h1
    ·cases h1; exact c92_ok J hJ h g hA
  ·cases e
 ·cases e
noncomputable def T29 : CallF:=addI T28 92 spec92
theorem t29 : Sound zp T29:=Sound.add follows ok t28 (by decide) (fun args h x e => spec92_ok _ (fun _ _ => by simp (disch:=decide) only [T1,T2,T3,T4,T5,T6,T7,T8,T9,T10,T11,T12,T13,T14,T15,T16,T17,T18,T19,T20,T21,T22,T23,T24,T25,T26,T27,T28,addI_ne,addX_ne,addV_ne,addK_ne]; rfl) args h x e)
def cutM (M : List (List Int)) : List (List Int):=(M.take 7).map (·.take 6)
section
variable {M : List (List Int)} {y : AV}
end
def Pre66 (b : AV × List (List Int)) (args : List AV) (h : Heap) : Prop:=MR h b.1 b.2 ∧ args = [b.1]
def Post66 (b : AV × List (List Int)) (h : Heap) (v : AV) (own : List AObj) : Prop:=TG h (h.plus own) v (cutM b.2)
noncomputable def T30 : CallF:=addK tbl T29 66 Pre66 Post66
theorem t30 : Sound zp T30:=Sound.addK follows ok t29 (by decide) _ _
theorem TG.kpm {M : Nat → Prop} {Hb H0 h h' : Heap} {x : AV} {L : List (List Int)} (t : TG H0 h x L) (k : Kp M h h') (hM : ∀ b,M b → b < H0.size) (k0 : Kp (fun _ => False) Hb h') (hs : Hb.size ≤ H0.size) : TG Hb h' x L:=by
 obtain ⟨rs,lv,hl,hr⟩:=t.r
 refine ⟨k0,fun q hq => Nat.le_trans hs (t.x0 q hq),rs,lv.kp k (fun b hb m => by have:=t.x0 b hb; have:=hM b m; omega),hl,fun i r hi => ?_⟩
 obtain ⟨l,h1,h2,h3⟩:=hr i r hi
 exact ⟨l,h1,listOf_kp k h2 (fun q hq m => by have:=hM q m; have:=h3 q hq; omega),fun q hq => ⟨(h3 q hq).1,Nat.le_trans hs (h3 q hq).2.1,Nat.lt_of_lt_of_le (h3 q hq).2.2 k.size⟩⟩
theorem TG.sh {H0 h : Heap} {x : AV} {L : List (List Int)} (t : TG H0 h x L) : x = .nils ∨ ∃ b n,x = .slice b 0 n n:=by
 obtain ⟨rs,lv,_⟩:=t.r
 exact lv.sh
structure ATs where
 q : Int
 x : AV
 y : AV
 B : List (List Int)
 W : List (List Int)
def Ok24 (a : ATs) (h : Heap) : Prop:=MR h a.x a.B ∧ MR h a.y a.W
section
variable {a : ATs}
end
def Pre24 (a : ATs) (args : List AV) (h : Heap) : Prop:=Ok24 a h ∧ args = [.agg [G a.q,a.x,a.y]]
def Post24 (a : ATs) (h : Heap) (v : AV) (own : List AObj) : Prop:=∃ x y,v = .agg [G a.q,x,y] ∧ TG h (h.plus own) x (cutM a.B) ∧ TG h (h.plus own) y (cutM a.W)
noncomputable def T31 : CallF:=addK tbl T30 24 Pre24 Post24
theorem t31 : Sound zp T31:=Sound.addK follows ok t30 (by decide) _ _
section
variable {a : AR} {m : Int}
end
def Post28 (b : ARm) (h : Heap) (v : AV) (own : List AObj) : Prop:=v = .bool (b.a.rm b.m) ∧ own = []
noncomputable def T32 : CallF:=addK tbl T31 28 PreRm Post28
theorem t32 : Sound zp T32:=Sound.addK follows ok t31 (by decide) _ _
end Go.Proofs.Ytljgfdamdcikgaa.Ev
set_option linter.unusedVariables false
set_option linter.unusedSimpArgs false
namespace Go.Proofs.Ytljgfdamdcikgaa.Ev
open Go Go.AEv
def chk99 (n : Nat) : Bool:=match (evW tbl noIntr 12).call 99 [.int .u64 1,.int .u64 n] e0 with
 | some (.tup [.int .u64 0,.int .u64 m],[],zF) => m == n
 | _ => zF
theorem chk99_all : (List.range 244).all chk99 = zT:=by decide +kernel
theorem c99_ok (n : Nat) (h : n < 244) : CallsTo tbl noIntr 99 [.int .u64 1,.int .u64 n] e0 (.tup [.int .u64 0,.int .u64 n],[],zF):=by
 have:=List.all_eq_true.1 chk99_all n (List.mem_range.2 h)
 unfold chk99 at this
 split at this
 ·rename_i m e
  simp only [beq_iff_eq] at this
  subst this
  exact ⟨12,e⟩
 ·cases this
def spec99 : SpecV
 | [.int .u64 a,.int .u64 n] => if a = 1 ∧ 0 ≤ n ∧ n < 244 then some (.tup [.int .u64 0,.int .u64 n]) else none
 | _ => none
end Go.Proofs.Ytljgfdamdcikgaa.Ev
