/-
 HOW the evaluator is reasoned with: more rounds of fuel tell the same; what a piece of code comes to ('Runs'),what a call comes to ('CallsTo'); what is known of calls grows ('Sound.add').
-/
import Derived.Test.YtljgfdamdcikgaaEvFunc
import Derived.Below
set_option linter.unusedVariables false
set_option linter.unusedSimpArgs false
namespace Go.AEv

def CallLe (c1 c2 : CallF) : Prop:=∀ f a h x,c1 f a h = some x → c2 f a h = some x

theorem act_mono {c1 c2 : CallF} (hc : CallLe c1 c2) {h0 h : Heap} {s : T} {o : COp} {x : AV × FP} (e : act c1 h0 s h o = some x) : act c2 h0 s h o = some x:=by
 cases o with
 | call early f args =>
  simp only [act] at e ⊢
  split at e
  ·rename_i g cap hf
   split at e
   ·cases e
   ·rename_i hg
    rw [if_neg hg]
    split at e
    ·rename_i he
     simp only [he,if_true]
     split at e
     ·rename_i hfl
      simp only [hfl,if_true]
      split at e
      ·rename_i v hcall
       rw [hc _ _ _ _ hcall]; exact e
      ·rename_i v x xs hcall
       rw [hc _ _ _ _ hcall]
       simp only
       split at e
       ·rename_i v2 own hcall2
        rw [hc _ _ _ _ hcall2]; exact e
       ·cases e
      ·cases e
     ·cases e
    ·rename_i he
     simp only [he,if_false,Bool.false_eq_true]
     split at e
     ·rename_i v own hcall; rw [hc _ _ _ _ hcall]; exact e
     ·rename_i v own hcall; rw [hc _ _ _ _ hcall]; exact e
     ·cases e
  ·split at e
   ·cases e
   ·rename_i he
    simp only [he,if_false,Bool.false_eq_true]
    split at e
    ·rename_i v own hcall; rw [hc _ _ _ _ hcall]; exact e
    ·cases e
  ·cases e
 | _ => exact e

theorem exec_mono {c1 c2 : CallF} (hc : CallLe c1 c2) {h0 h : Heap} {s : T} {o : COper} {x : T × Heap × FP} (e : exec c1 h0 o s h = some x) : exec c2 h0 o s h = some x:=by
 rw [exec_eq] at e ⊢
 cases hw : wantedA o s with
 | none => rw [hw] at e; cases e
 | some t =>
  rw [hw] at e
  cases t with
  | false => exact e
  | true =>
   simp only [Option.bind_eq_some_iff,Option.map_eq_some_iff] at e ⊢
   obtain ⟨⟨v,f⟩,e1,h',e2,rfl⟩:=e
   exact ⟨(v,f),act_mono hc e1,h',e2,rfl⟩

theorem runL_mono {c1 c2 : CallF} (hc : CallLe c1 c2) {h0 : Heap} : ∀ {os : List COper} {s : T} {h : Heap} {x : T × Heap × List FP},runL c1 h0 os s h = some x → runL c2 h0 os s h = some x
 | [],s,h,x,e => e
 | o :: os,s,h,x,e => by
  simp only [runL,Option.bind_eq_some_iff,Option.map_eq_some_iff] at e ⊢
  obtain ⟨⟨s1,h1,f1⟩,e1,⟨s2,h2,f2⟩,e2,rfl⟩:=e
  exact ⟨_,exec_mono hc e1,_,runL_mono hc e2,rfl⟩

structure RecLe (r1 r2 : Rec) : Prop where
 call : CallLe r1.call r2.call
 code : ∀ c s h x,r1.code c s h = some x → r2.code c s h = some x

theorem evCode_mono {r1 r2 : Rec} (hr : RecLe r1 r2) : ∀ (c : CCode) {s : T} {h : Heap} {x : AExit × T × Heap},evCode r1 c s h = some x → evCode r2 c s h = some x:=by
 intro c
 induction c with
 | skip => exact fun e => e
 | exit id => exact fun e => e
 | ret => exact fun e => e
 | ops os =>
  intro s h x e
  simp only [evCode,runOps_eq,Option.map_map,Option.map_eq_some_iff] at e ⊢
  obtain ⟨y,e1,e2⟩:=e
  exact ⟨y,runL_mono hr.call e1,e2⟩
 | draw k cs ps anc =>
  intro s h x e
  simp only [evCode,runFP_eq] at e ⊢
  split at e
  ·rename_i s1 h1 fps e1
   rw [runL_mono hr.call e1]; exact e
  ·cases e
 | seq a b iha ihb =>
  intro s h x e
  simp only [evCode] at e ⊢
  cases ha : evCode r1 a s h with
  | none => rw [ha] at e; cases e
  | some q =>
   obtain ⟨e1,s1,h1⟩:=q
   rw [ha] at e; rw [iha ha]
   cases e1 with
   | normal => exact ihb e
   | exit id => exact e
   | ret => exact e
 | cond c a b iha ihb =>
  intro s h x e
  simp only [evCode] at e ⊢
  split at e
  ·rename_i t ht
   split at e
   ·rename_i hb; simp only [hb,if_true]; exact iha e
   ·rename_i hb; simp only [hb]; exact ihb e
  ·cases e
 | block id a ih =>
  intro s h x e
  simp only [evCode] at e ⊢
  cases ha : evCode r1 a s h with
  | none => rw [ha] at e; cases e
  | some q => rw [ha] at e; rw [ih ha]; exact e
 | scope a ih => intro s h x e; simp only [evCode] at e ⊢; exact ih e
 | trim live a ih => intro s h x e; simp only [evCode] at e ⊢; exact ih e
 | loop live a ih =>
  intro s h x e
  simp only [evCode,forceT_eq] at e ⊢
  cases ha : evCode r1 a (keep live s) h with
  | none => rw [ha] at e; cases e
  | some q =>
   obtain ⟨e1,s1,h1⟩:=q
   rw [ha] at e; rw [ih ha]
   cases e1 with
   | normal => exact hr.code _ _ _ _ e
   | exit id => exact e
   | ret => exact e
 | range f ps a b iha ihb =>
  intro s h x e
  simp only [evCode] at e ⊢
  split at e
  ·rename_i g cap hf
   split at e
   ·cases e
   ·rename_i hg
    rw [if_neg hg]
    split at e
    ·rename_i v own hcall
     rw [hr.call _ _ _ _ hcall]; exact e
    ·cases e
  ·cases e

theorem evFunc_mono {r1 r2 : Rec} (hr : RecLe r1 r2) {cf : CFunc} {args : List AV} {h : Heap} {x : AV × Heap} (e : evFunc r1 cf args h = some x) : evFunc r2 cf args h = some x:=by
 unfold evFunc at e ⊢
 split at e
 ·rename_i s hs
  cases ha : evCode r1 cf.body s h with
  | none => rw [ha] at e; cases e
  | some q => rw [ha] at e; rw [evCode_mono hr _ ha]; exact e
 ·cases e

theorem evRound_mono {r1 r2 : Rec} (hr : RecLe r1 r2) {l : Nat} {args : List AV} {h : Heap} {x : AV × Heap} (e : evRound r1 l args h = some x) : evRound r2 l args h = some x:=by
 unfold evRound at e ⊢
 split at e
 ·cases e
 ·rename_i hl
  rw [if_neg hl]
  split at e
  ·rename_i pend s0 ps as bs hown
   split at e
   ·rename_i s hs
    cases ha : evCode r1 as s h with
    | none => rw [ha] at e; cases e
    | some q =>
     obtain ⟨e1,s1,h1⟩:=q
     rw [ha] at e
     rw [evCode_mono hr _ ha]
     cases e1 with
     | exit id => cases e
     | ret => cases e
     | normal =>
      simp only at e ⊢
      split at e
      ·rename_i p1 t1 ps1 as1 b1 hown1
       cases hb : evCode r1 bs s1 (h1.setOwn l (.loop .busy p1 t1 ps1 as1 b1)) with
       | none => rw [hb] at e; cases e
       | some q => rw [hb] at e; rw [evCode_mono hr _ hb]; exact e
      ·cases e
   ·cases e
  ·cases e

theorem callBody_mono {r1 r2 : Rec} (hr : RecLe r1 r2) {tbl : Nat → Option CFunc} {f : Nat} {args : List AV} {h : Heap} {x : AV × List AObj × Bool} (e : callBody tbl r1 f args h = some x) : callBody tbl r2 f args h = some x:=by
 unfold callBody at e ⊢
 split at e
 ·rename_i cf hcf
  split at e
  ·rename_i hs
   simp only [hs,if_true]
   cases ha : evFunc r1 cf args h with
   | none => rw [ha] at e; cases e
   | some q => rw [ha] at e; rw [evFunc_mono hr ha]; exact e
  ·rename_i hs
   simp only [hs,Bool.false_eq_true,if_false,forceN_eq] at e ⊢
   cases ha : evFunc r1 cf args ⟨h.get,h.size,[]⟩ with
   | none => rw [ha] at e; cases e
   | some q => rw [ha] at e; rw [evFunc_mono hr ha]; exact e
 ·cases e

theorem evW_le (tbl : Nat → Option CFunc) (I : CallF) : ∀ n,RecLe (evW tbl I n) (evW tbl I (n + 1))
 | 0 => ⟨fun _ _ _ _ h => (by simp [evW] at h),fun _ _ _ _ h => (by simp [evW] at h)⟩
 | n + 1 => by
  have ih:=evW_le tbl I n
  refine ⟨?_,?_⟩
  ·intro f args h x e
   cases f with
   | zero =>
    cases args with
    | nil => exact e
    | cons v rest =>
     cases v with
     | yld l =>
      have e' : (match evRound (evW tbl I n) l rest h with | some (v,h') => some (v,h'.own,true) | none => none) = some x:=e
      show (match evRound (evW tbl I (n + 1)) l rest h with | some (v,h') => some (v,h'.own,true) | none => none) = some x
      cases ha : evRound (evW tbl I n) l rest h with
      | none => rw [ha] at e'; cases e'
      | some q => rw [ha] at e'; rw [evRound_mono ih ha]; exact e'
     | _ => exact e
   | succ f =>
    cases hi : I (f + 1) args h with
    | some y =>
     have e1 : (evW tbl I (n + 1)).call (f + 1) args h = some y:=by
      show (match I (f + 1) args h with | some x => some x | none => callBody tbl (evW tbl I n) (f + 1) args h) = some y
      rw [hi]
     have e2 : (evW tbl I (n + 1 + 1)).call (f + 1) args h = some y:=by
      show (match I (f + 1) args h with | some x => some x | none => callBody tbl (evW tbl I (n + 1)) (f + 1) args h) = some y
      rw [hi]
     rw [e2,← e,e1]
    | none =>
     have e1 : (evW tbl I (n + 1)).call (f + 1) args h = callBody tbl (evW tbl I n) (f + 1) args h:=by
      show (match I (f + 1) args h with | some x => some x | none => callBody tbl (evW tbl I n) (f + 1) args h) = _
      rw [hi]
     have e2 : (evW tbl I (n + 1 + 1)).call (f + 1) args h = callBody tbl (evW tbl I (n + 1)) (f + 1) args h:=by
      show (match I (f + 1) args h with | some x => some x | none => callBody tbl (evW tbl I (n + 1)) (f + 1) args h) = _
      rw [hi]
     rw [e1] at e
     rw [e2]
     exact callBody_mono ih e
  ·intro c s h x e
   exact evCode_mono ih c e

theorem RecLe.trans {a b c : Rec} (x : RecLe a b) (y : RecLe b c) : RecLe a c:=⟨fun f a h v e => y.call _ _ _ _ (x.call f a h v e),fun c s h v e => y.code _ _ _ _ (x.code c s h v e)⟩
theorem RecLe.refl (a : Rec) : RecLe a a:=⟨fun _ _ _ _ e => e,fun _ _ _ _ e => e⟩

section
variable {tbl : Nat → Option CFunc} {I : CallF}

theorem evW_le' {n m : Nat} (h : n ≤ m) : RecLe (evW tbl I n) (evW tbl I m):=by
 induction h with
 | refl => exact RecLe.refl _
 | step _ ih => exact ih.trans (evW_le tbl I _)

/-- What a piece of code comes to. -/
def Runs (tbl : Nat → Option CFunc) (I : CallF) (c : CCode) (s : T) (h : Heap) (x : AExit × T × Heap) : Prop:=∃ n,evCode (evW tbl I n) c s h = some x
/-- What a call comes to. -/
def CallsTo (tbl : Nat → Option CFunc) (I : CallF) (f : Nat) (args : List AV) (h : Heap) (x : AV × List AObj × Bool) : Prop:=∃ n,(evW tbl I n).call f args h = some x

/-- Known calls alone. -/
def kn (I : CallF) : Rec:=⟨fun g args h => if g = 0 then none else I g args h,fun _ _ _ => none⟩

theorem kn_le : RecLe (kn I) (evW tbl I 1):=by
 refine ⟨fun g args h x e => ?_,fun _ _ _ _ e => (by cases e)⟩
 cases g with
 | zero => simp [kn] at e
 | succ g =>
  have e' : I (g + 1) args h = some x:=by simpa [kn] using e
  show (match I (g + 1) args h with | some x => some x | none => callBody tbl (evW tbl I 0) (g + 1) args h) = some x
  rw [e']

theorem Runs.chunk {c : CCode} {s : T} {h : Heap} {x : AExit × T × Heap} (e : evCode (kn I) c s h = some x) : Runs tbl I c s h x:=⟨1,evCode_mono kn_le c e⟩

theorem Runs.seq {a b : CCode} {s s1 : T} {h h1 : Heap} {x : AExit × T × Heap} (ha : Runs tbl I a s h (.normal,s1,h1)) (hb : Runs tbl I b s1 h1 x) : Runs tbl I (.seq a b) s h x:=by
 obtain ⟨n,ea⟩:=ha
 obtain ⟨m,eb⟩:=hb
 refine ⟨max n m,?_⟩
 simp only [evCode,evCode_mono (evW_le' (Nat.le_max_left n m)) a ea]
 exact evCode_mono (evW_le' (Nat.le_max_right n m)) b eb

theorem Runs.seq_out {a b : CCode} {s s1 : T} {h h1 : Heap} {e : AExit} (ha : Runs tbl I a s h (e,s1,h1)) (he : e ≠ .normal) : Runs tbl I (.seq a b) s h (e,s1,h1):=by
 obtain ⟨n,ea⟩:=ha
 refine ⟨n,?_⟩
 simp only [evCode,ea]
 cases e with
 | normal => exact absurd rfl he
 | exit i => rfl
 | ret => rfl

/-- The first part of a sequence may be told with what stands ahead of it. -/
theorem Runs.assoc {a b c : CCode} {s : T} {h : Heap} {x : AExit × T × Heap} (hx : Runs tbl I (.seq (.seq a b) c) s h x) : Runs tbl I (.seq a (.seq b c)) s h x:=by
 obtain ⟨n,e⟩:=hx
 refine ⟨n,?_⟩
 simp only [evCode] at e ⊢
 cases ha : evCode (evW tbl I n) a s h with
 | none => rw [ha] at e; exact e
 | some q =>
  obtain ⟨e1,s1,h1⟩:=q
  rw [ha] at e
  cases e1 <;> exact e

theorem Runs.cond {c : AOpd} {x y : CCode} {s : T} {h : Heap} {r : AExit × T × Heap} {b : Bool} (hc : c.ev s = .bool b) (hx : Runs tbl I (if b then x else y) s h r) : Runs tbl I (.cond c x y) s h r:=by
 obtain ⟨n,e⟩:=hx
 refine ⟨n,?_⟩
 simp only [evCode,hc]
 cases b <;> simpa using e

theorem Runs.block {id : Nat} {c : CCode} {s s1 : T} {h h1 : Heap} {e : AExit} (hc : Runs tbl I c s h (e,s1,h1)) : Runs tbl I (.block id c) s h (if e = .exit id then .normal else e,s1,h1):=by
 obtain ⟨n,hc⟩:=hc
 refine ⟨n,?_⟩
 simp only [evCode,hc]
 cases e with
 | normal => rfl
 | ret => rfl
 | exit i => simp only [AExit.exit.injEq]; split <;> simp

theorem Runs.block_exit {id : Nat} {c : CCode} {s s1 : T} {h h1 : Heap} (hc : Runs tbl I c s h (.exit id,s1,h1)) : Runs tbl I (.block id c) s h (.normal,s1,h1):=by
 have:=Runs.block (id:=id) hc
 rwa [if_pos rfl] at this
theorem Runs.block_out {id : Nat} {c : CCode} {s s1 : T} {h h1 : Heap} {e : AExit} (hc : Runs tbl I c s h (e,s1,h1)) (he : e ≠ .exit id) : Runs tbl I (.block id c) s h (e,s1,h1):=by
 have:=Runs.block (id:=id) hc
 rwa [if_neg he] at this

theorem Runs.trim {live : List Path} {c : CCode} {s : T} {h : Heap} {x : AExit × T × Heap} (hc : Runs tbl I c (keep live s) h x) : Runs tbl I (.trim live c) s h x:=hc
theorem Runs.scope {c : CCode} {s : T} {h : Heap} {x : AExit × T × Heap} (hc : Runs tbl I c s h x) : Runs tbl I (.scope c) s h x:=hc

theorem Runs.loop_next {live : List Path} {c : CCode} {s s1 : T} {h h1 : Heap} {x : AExit × T × Heap} (hc : Runs tbl I c (keep live s) h (.normal,s1,h1)) (hl : Runs tbl I (.loop live c) s1 h1 x) : Runs tbl I (.loop live c) s h x:=by
 obtain ⟨n,e⟩:=hc
 obtain ⟨m,el⟩:=hl
 refine ⟨max n m + 1,?_⟩
 simp only [evCode,forceT_eq,evCode_mono (evW_le' (Nat.le_trans (Nat.le_max_left n m) (Nat.le_succ _))) c e]
 show evCode (evW tbl I (max n m)) (.loop live c) s1 h1 = some x
 exact evCode_mono (evW_le' (Nat.le_max_right n m)) _ el

theorem Runs.loop_out {live : List Path} {c : CCode} {s s1 : T} {h h1 : Heap} {e : AExit} (hc : Runs tbl I c (keep live s) h (e,s1,h1)) (he : e ≠ .normal) : Runs tbl I (.loop live c) s h (e,s1,h1):=by
 obtain ⟨n,hc⟩:=hc
 refine ⟨n,?_⟩
 simp only [evCode,forceT_eq,hc]
 cases e with
 | normal => exact absurd rfl he
 | exit i => rfl
 | ret => rfl

/-- A function that runs in a frame of its own. -/
theorem CallsTo.fn {f : Nat} {cf : CFunc} {args : List AV} {h : Heap} {s s' : T} {h' : Heap} {e : AExit} {vs : List AV} (hf : f ≠ 0) (ht : tbl f = some cf) (hi : I f args h = none) (hsh : cf.shared = false) (hs : initS cf.params args .leaf = some s)
  (hb : Runs tbl I cf.body s (frameOf h) (e,s',h')) (he : ∀ i,e ≠ .exit i) (hr : evRess h' s' cf.results = some vs) : CallsTo tbl I f args h (one vs,(if (one vs).flat then [] else h'.own),false):=by
 obtain ⟨n,hb⟩:=hb
 refine ⟨n + 1,?_⟩
 cases f with
 | zero => exact absurd rfl hf
 | succ f =>
  show (match I (f + 1) args h with | some x => some x | none => callBody tbl (evW tbl I n) (f + 1) args h) = _
  rw [hi]
  have hb' : evCode (evW tbl I n) cf.body s ⟨h.get,h.size,[]⟩ = some (e,s',h'):=hb
  simp only [callBody,ht,hsh,Bool.false_eq_true,if_false,forceN_eq,evFunc,hs,hb']
  cases e with
  | exit i => exact absurd rfl (he i)
  | normal => simp [hr,forceV_eq]
  | ret => simp [hr,forceV_eq]
/-- A function without loops,its calls known. -/
theorem CallsTo.direct {f : Nat} {cf : CFunc} {args : List AV} {h : Heap} {v : AV} {h' : Heap} (hf : f ≠ 0) (ht : tbl f = some cf) (hi : I f args h = none) (hsh : cf.shared = false)
  (he : evFunc (kn I) cf args (frameOf h) = some (v,h')) : CallsTo tbl I f args h (v,(if v.flat then [] else h'.own),false):=by
 refine ⟨2,?_⟩
 cases f with
 | zero => exact absurd rfl hf
 | succ f =>
  show (match I (f + 1) args h with | some x => some x | none => callBody tbl (evW tbl I 1) (f + 1) args h) = _
  rw [hi]
  have:=evFunc_mono (kn_le (tbl:=tbl)) he
  simp only [frameOf] at this
  simp only [callBody,ht,hsh,Bool.false_eq_true,if_false,forceN_eq,this]

/-- The same,at a value without addresses. -/
theorem CallsTo.plain {f : Nat} {cf : CFunc} {args : List AV} {h : Heap} {v : AV} {h' : Heap} (hf : f ≠ 0) (ht : tbl f = some cf) (hi : I f args h = none) (hsh : cf.shared = false) (hv : v.flat = true)
  (he : evFunc (kn I) cf args (frameOf h) = some (v,h')) : CallsTo tbl I f args h (v,[],false):=by
 have:=CallsTo.direct hf ht hi hsh he
 rwa [hv] at this
end

/-! ### What is known grows -/

def Sound (P : Program) (I : CallF) : Prop:=∀ g args h v own sh,I g args h = some (v,own,sh) → Enterable P g ∧
 ∀ w0 K φ w vals,HR (ckOf P) w0 K φ h w → VRs φ h args vals → CallsIn (fenceR none) 0 P g vals.toArray w (RetP (ckOf P) w0 K φ h v (mrg h own sh))

theorem Sound.empty {P : Program} : Sound P noIntr:=fun _ _ _ _ _ _ h => (by cases h)

abbrev SpecF:=List AV → Heap → Option (AV × List AObj × Bool)

def addI (I : CallF) (f : Nat) (spec : SpecF) : CallF:=fun g args h => if g = f then spec args h else I g args h

theorem Sound.calls {P : Program} {tbl : Nat → Option CFunc} (hm : P.follows .mixedOrders = true) (htbl : ∀ f cf,tbl f = some cf → funcOk P f cf = true) {I : CallF} (hI : Sound P I) {f : Nat} (hf : f ≠ 0) {args : List AV} {h : Heap} {v : AV} {own : List AObj} {sh : Bool}
  (hc : CallsTo tbl I f args h (v,own,sh)) : Enterable P f ∧
 ∀ w0 K φ w vals,HR (ckOf P) w0 K φ h w → VRs φ h args vals → CallsIn (fenceR none) 0 P f vals.toArray w (RetP (ckOf P) w0 K φ h v (mrg h own sh)):=by
 obtain ⟨n,hc⟩:=hc
 exact (ev_sound hm htbl hI n).1.fn f args h v own sh hf hc

theorem Sound.add {P : Program} {tbl : Nat → Option CFunc} (hm : P.follows .mixedOrders = true) (htbl : ∀ f cf,tbl f = some cf → funcOk P f cf = true) {I : CallF} (hI : Sound P I) {f : Nat} (hf : f ≠ 0) {spec : SpecF}
  (hs : ∀ args h x,spec args h = some x → CallsTo tbl I f args h x) : Sound P (addI I f spec):=by
 intro g args h v own sh e
 unfold addI at e
 split at e
 ·rename_i hg
  subst hg
  exact Sound.calls hm htbl hI hf (hs args h _ e)
 ·exact hI g args h v own sh e

/-! ### Functions of plain data: told of the empty memory alone -/

def e0 : Heap:=⟨fun _ => .hole,0,[]⟩

theorem e0_hr {CK : CKT} (φ : Nat → Emb) (w : World) : HR CK w [] φ e0 w:=by
 have hge : ∀ i,Heap.get e0 i = .hole:=fun i => by unfold Heap.get e0; split <;> simp
 exact ⟨Nat.le_refl _,fun _ _ => rfl,fun i => by rw [hge]; trivial,fun i _ hh => absurd (hge i) hh,fun i j _ hh _ _ => absurd (hge i) hh,by simp,by simp,Env.refl w⟩

abbrev SpecV:=List AV → Option AV
def addV (I : CallF) (f : Nat) (spec : SpecV) : CallF:=fun g args h => if g = f then (if AV.flats args then (spec args).bind fun v => if v.flat then some (v,[],false) else none else none) else I g args h

theorem Sound.addV2 {P : Program} {tbl : Nat → Option CFunc} (hm : P.follows .mixedOrders = true) (htbl : ∀ f cf,tbl f = some cf → funcOk P f cf = true) {I J : CallF} (hI : Sound P I) (hJ : Sound P J) {f : Nat} (hf : f ≠ 0) {spec : SpecV}
  (hs : ∀ args v,spec args = some v → CallsTo tbl J f args e0 (v,[],false)) : Sound P (addV I f spec):=by
 intro g args h v own sh e
 unfold AEv.addV at e
 split at e
 ·rename_i hg
  subst hg
  split at e
  ·rename_i hfl
   simp only [Option.bind_eq_some_iff] at e
   obtain ⟨v',e1,e2⟩:=e
   split at e2
   ·rename_i hvf
    simp only [Option.some.injEq,Prod.mk.injEq] at e2
    obtain ⟨rfl,rfl,rfl⟩:=e2
    obtain ⟨hent,hc⟩:=Sound.calls hm htbl hJ hf (hs args _ e1)
    refine ⟨hent,fun w0 K φ w vals hr hv => ?_⟩
    refine CallsIn.mono (hc w [] φ w vals (e0_hr φ w) (VRs.ofFlat _ _ hfl hv)) ?_
    rintro en w' ⟨φ',x,rfl,q1,q2,q3⟩
    have hsame : ∀ b,b < w.heap.size → w'.heap[b]? = w.heap[b]?:=q2.old
    have hm0 : mrg h [] false = h:=by simp [mrg]
    rw [hm0]
    refine ⟨φ,x,rfl,VR.ofFlat _ _ hvf q1,⟨Nat.le_trans hr.size q2.size,fun b hb => ?_,fun i => ?_,fun i hi hh => ?_,hr.sep,fun k hk => ?_,hr.nodup,hr.env.trans q2.env⟩,Stp.refl φ h⟩
    ·rw [hsame b (by have:=hr.size; omega)]; exact hr.old b hb
    ·exact OR.step (Stp.refl φ h) (fun hh => hsame _ (OR.lt (hr.obj i) hh)) (hr.obj i)
    ·rw [hsame _ (OR.lt (hr.obj i) hh)]; exact hr.own i hi hh
    ·obtain ⟨k1,k2⟩:=hr.keep k hk
     rw [hsame k (Array.getElem?_eq_some_iff.1 k2).1]; exact ⟨k1,k2⟩
   ·cases e2
  ·cases e
 ·exact hI g args h v own sh e

theorem Sound.addV {P : Program} {tbl : Nat → Option CFunc} (hm : P.follows .mixedOrders = true) (htbl : ∀ f cf,tbl f = some cf → funcOk P f cf = true) {I : CallF} (hI : Sound P I) {f : Nat} (hf : f ≠ 0) {spec : SpecV}
  (hs : ∀ args v,spec args = some v → CallsTo tbl I f args e0 (v,[],false)) : Sound P (addV I f spec):=Sound.addV2 hm htbl hI hI hf hs

/-- A CALL OF PLAIN DATA,in the model's words. -/
theorem flat_calls {P : Program} {tbl : Nat → Option CFunc} (hm : P.follows .mixedOrders = true) (htbl : ∀ f cf,tbl f = some cf → funcOk P f cf = true) {I : CallF} (hI : Sound P I) {f : Nat} (hf : f ≠ 0) {args : List AV}
  (hc : CallsTo tbl I f args e0 (.bool true,[],false)) {w : World} {vals : List Value} (hv : ∀ φ,VRs φ e0 args vals) : Calls P f vals.toArray w fun e w' => e = .returned (.bool true) ∧ Go.RowKit.Below w.heap.size w w':=by
 obtain ⟨_,h⟩:=Sound.calls hm htbl hI hf hc
 have h1:=h w [] (fun _ => ⟨0,0,0⟩) w vals (e0_hr _ w) (hv _)
 refine (CallsIn.calls (CallsIn.mono h1 ?_) (fun k d hd => by simp [fenceR] at hd))
 rintro e w' ⟨φ',x,rfl,q1,q2,q3⟩
 simp only [VR] at q1
 exact ⟨by rw [q1],⟨q2.env.1,q2.env.2.1,q2.env.2.2,q2.size,q2.old⟩⟩

/-! ### One operation after another,for 'simp': nothing is looked at before what stands ahead of it is reckoned out -/

theorem runOps_n (call : CallF) (h0 : Heap) (s : T) (h : Heap) : runOps call h0 [] s h = some (s,h):=by simp only [runOps,forceT_eq]
theorem runOps_c (call : CallF) (h0 : Heap) (o : COper) (os : List COper) (s : T) (h : Heap) : runOps call h0 (o :: os) s h = match exec call h0 o s h with
  | some (s',h',_) => runOps call h0 os s' h'
  | none => none:=by
 rw [runOps]; cases exec call h0 o s h <;> rfl
theorem runFP_n (call : CallF) (h0 : Heap) (s : T) (h : Heap) : runFP call h0 [] s h = some (s,h,[]):=by simp only [runFP,forceT_eq]
theorem runFP_c (call : CallF) (h0 : Heap) (o : COper) (os : List COper) (s : T) (h : Heap) : runFP call h0 (o :: os) s h = match exec call h0 o s h with
  | some (s',h',fp) => (match runFP call h0 os s' h' with
   | some (s'',h'',fps) => some (s'',h'',fp :: fps)
   | none => none)
  | none => none:=by
 rw [runFP]
 cases exec call h0 o s h with
 | none => rfl
 | some x =>
  obtain ⟨s',h',fp⟩:=x
  simp only [Option.bind_some]
  cases runFP call h0 os s' h' <;> rfl
theorem exec_n (call : CallF) (h0 : Heap) (d : Option Path) (op : COp) (s : T) (h : Heap) : exec call h0 ⟨d,op,none⟩ s h = match act call h0 s h op with
  | some (v,fp) => (match fp.eff.app h with
   | some h' => some (s.put d v,h',fp)
   | none => none)
  | none => none:=by
 simp only [exec,forceV_eq]
 cases act call h0 s h op with
 | none => rfl
 | some x =>
  obtain ⟨v,fp⟩:=x
  simp only [Option.bind_some]
  cases fp.eff.app h <;> rfl
theorem exec_g (call : CallF) (h0 : Heap) (d : Option Path) (op : COp) (p : Path) (want : Bool) (s : T) (h : Heap) : exec call h0 ⟨d,op,some (p,want)⟩ s h = match s.get p with
  | .bool b => if b = want then exec call h0 ⟨d,op,none⟩ s h else some (s.put d (.tup []),h,{})
  | .tup [] => some (s.put d (.tup []),h,{})
  | _ => none:=by
 simp only [exec]
 cases s.get p with
 | tup c => cases c <;> rfl
 | _ => rfl
theorem evOps_c (r : Rec) (os : List COper) (s : T) (h : Heap) : evCode r (.ops os) s h = match runOps r.call h os s h with
  | some (s',h') => some (.normal,s',h')
  | none => none:=by
 rw [evCode]; cases runOps r.call h os s h <;> rfl
theorem evTrim_c (r : Rec) (live : List Path) (c : CCode) (s : T) (h : Heap) : evCode r (.trim live c) s h = evCode r c (keep live s) h:=rfl
theorem evSkip_c (r : Rec) (s : T) (h : Heap) : evCode r .skip s h = some (.normal,s,h):=rfl
theorem evExit_c (r : Rec) (id : Nat) (s : T) (h : Heap) : evCode r (.exit id) s h = some (.exit id,s,h):=rfl
theorem evRet_c (r : Rec) (s : T) (h : Heap) : evCode r .ret s h = some (.ret,s,h):=rfl
theorem evSeq_c (r : Rec) (a b : CCode) (s : T) (h : Heap) : evCode r (.seq a b) s h = match evCode r a s h with
  | some (.normal,s',h') => evCode r b s' h'
  | some (.exit id,s',h') => some (.exit id,s',h')
  | some (.ret,s',h') => some (.ret,s',h')
  | none => none:=by
 rw [evCode]
 cases evCode r a s h with
 | none => rfl
 | some x => obtain ⟨e,s',h'⟩:=x; cases e <;> rfl
theorem evCond_c (r : Rec) (c : AOpd) (x y : CCode) (s : T) (h : Heap) : evCode r (.cond c x y) s h = match c.ev s with
  | .bool b => if b then evCode r x s h else evCode r y s h
  | _ => none:=by
 rw [evCode]
 cases c.ev s <;> rfl
theorem evBlock_c (r : Rec) (id : Nat) (c : CCode) (s : T) (h : Heap) : evCode r (.block id c) s h = match evCode r c s h with
  | some (.exit i,s',h') => if i = id then some (.normal,s',h') else some (.exit i,s',h')
  | some (.normal,s',h') => some (.normal,s',h')
  | some (.ret,s',h') => some (.ret,s',h')
  | none => none:=by
 rw [evCode]
 cases evCode r c s h with
 | none => rfl
 | some x => obtain ⟨e,s',h'⟩:=x; cases e <;> rfl
theorem evDraw_c (r : Rec) (k : Nat) (os : List COper) (ps : List (Nat × Nat)) (anc : List (List Nat)) (s : T) (h : Heap) : evCode r (.draw k os ps anc) s h = match runFP r.call h os s { h with own:=h.own ++ List.replicate k .hole } with
  | some (s',h',fps) => if ps.all (fun p => okPair h.size (fps.getD p.1 {}) (fps.getD p.2 {})) && (fps.all (fun f => !f.eff.isAll) || bars anc fps) then some (.normal,s',h') else none
  | none => none:=rfl
theorem pure1_c (v : Option AV) : pure1 v = match v with
  | some v => some (v,{})
  | none => none:=by
 cases v <;> rfl

end Go.AEv
