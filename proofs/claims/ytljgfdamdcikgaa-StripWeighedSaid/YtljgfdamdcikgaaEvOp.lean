/-
 Each operation of the evaluator (but for calls) stands for the model's: 'op_sim'.
-/
import Derived.Test.YtljgfdamdcikgaaEvOpsG
import Derived.Laws.BytesString
set_option linter.unusedVariables false
set_option linter.unusedSimpArgs false
namespace Go.AEv

def structOk (P : Program) (t : TypeId) (i : Nat) (p : Field → Bool) : Bool :=
 match P.underlying t with
 | some (.struct fs) => match fs[i]? with
  | some f => p f
  | none => false
 | _ => false
def arrOk (P : Program) (t : TypeId) (n g : Nat) (p : TypeId → Bool) : Bool :=
 match P.underlying t with
 | some (.array m e) => m == n && sizeOk P e g && p e
 | _ => false
def mapOk (P : Program) (t : TypeId) (kk : LK) (p : TypeId → Bool) : Bool :=
 match P.underlying t with
 | some (.map k e) => (match P.underlying k,kk with
  | some .bool,.b => true
  | some (.int i),.i j => i == j
  | some .string,.s => true
  | _,_ => false) && p e
 | _ => false
def stringOk (P : Program) (t : TypeId) : Bool:=match P.underlying t with | some .string => true | _ => false
def intOk (P : Program) (t : TypeId) (k : IntKind) : Bool:=match P.underlying t with | some (.int j) => j == k | _ => false
def lenOkT (P : Program) (t : TypeId) (k : Nat) : Bool:=match P.underlying t,k with | some .string,0 | some (.slice _),1 | some (.map _ _),2 => true | _,_ => false
def lenCOk (P : Program) (t : TypeId) (n : Nat) : Bool :=
 match P.underlying t with
 | some (.array m _) => m == n
 | some (.pointer a) => match P.underlying a with | some (.array m _) => m == n | _ => false
 | _ => false
def eqvOk (P : Program) (t : TypeId) (k : Nat) : Bool:=match P.underlying t with | some d => eqkOk k d | none => false
def bopOk (a b : BinOp) : Bool:=match a,b with
 | .add,.add | .sub,.sub | .mul,.mul | .quo,.quo | .rem,.rem | .and,.and | .or,.or | .xor,.xor | .shl,.shl | .shr,.shr | .eql,.eql | .neq,.neq | .lss,.lss | .leq,.leq | .gtr,.gtr | .geq,.geq => true
 | _,_ => false
def eqNeg (a : BinOp) (neg : Bool) : Bool:=match a,neg with
 | .eql,false | .neq,true => true
 | _,_ => false
def unopOk (a b : UnOp) : Bool:=match a,b with
 | .neg,.neg | .not,.not => true
 | _,_ => false
def eqaOk (P : Program) (t : TypeId) (L : List LK) : Bool:=(layT P 8 t == some L) && kOk P t (some L.length) && !P.eqGuardType P.depth t

/-- Keys that are arrays of plain values. -/
def keyOkA (P : Program) (k : TypeId) (L : List LK) : Bool :=
 match P.underlying k,L with
 | some (.array n e),q :: _ => (match P.underlying e,q with
  | some .bool,.b => true
  | some (.int i),.i j => i == j
  | some .string,.s => true
  | _,_ => false) && sizeOk P e 1 && (layT P 8 k == some L) && kOk P k (some L.length) && L.length == n
 | _,_ => false
def mapOkA (P : Program) (t : TypeId) (L : List LK) (p : TypeId → Bool) : Bool :=
 match P.underlying t with
 | some (.map k e) => keyOkA P k L && p e
 | _ => false

def opOk (P : Program) : Op → COp → Bool
 | .move x,.move y => opdOk x y
 | .assign x,.move y => opdOk x y
 | .pick c a b,.pick c' a' b' => opdOk c c' && opdOk a a' && opdOk b b'
 | .alloc e,.alloc _ z => zeroOk P e z
 | .box _ x,.box _ y => opdOk x y
 | .build t ps,.build z qs => buildOk P t ps z qs
 | .buildSlice t len ps,.buildSlice _ g len' z qs => len == len' && buildSliceOk P t len ps g z qs
 | .load t x,.load k y => kOk P t k && opdOk x y
 | .store t x v,.store n y u => sizeOk P t n && opdOk x y && opdOk v u
 | .nilCheck x,.nilCheck y => opdOk x y
 | .binOp op _ x y _,.bin op' x' y' => bopOk op op' && opdOk x x' && opdOk y y'
 | .binOp op t x y _,.eqv k neg x' y' => eqNeg op neg && eqvOk P t k && opdOk x x' && opdOk y y'
 | .binOp op t x y _,.eqa L neg x' y' => eqNeg op neg && eqaOk P t L && opdOk x x' && opdOk y y'
 | .unOp op _ x,.un op' y => unopOk op op' && opdOk x y
 | .convert a b x,.conv k y => (P.underlying a).isSome && intOk P b k && opdOk x y
 | .convert a b x,.same y => stringOk P a && stringOk P b && opdOk x y
 | .fieldAddr t x i,.fieldAddr off y => structOk P t i (fun f => f.offset == off && (match P.info? f.type with | some i => i.size != 0 | none => false)) && opdOk x y
 | .field t x i,.field k off y => structOk P t i (fun f => f.offset == off && kOk P f.type k) && opdOk x y
 | .indexAddr t x i,.idxArr n g y j => arrOk P t n g (fun _ => true) && opdOk x y && opdOk i j
 | .indexAddr t x i,.idxSl g y j => sliceElem P t g && opdOk x y && opdOk i j
 | .index t x i,.idxVal n g k y j => arrOk P t n g (fun e => kOk P e k) && opdOk x y && opdOk i j
 | .index t x i,.idxStr y j => stringOk P t && opdOk x y && opdOk i j
 | .slice t x lo hi none,.slArr n g y lo' hi' => arrOk P t n g (fun _ => true) && opdOk x y && oopdOk lo lo' && oopdOk hi hi'
 | .slice t x lo hi none,.slSl g y lo' hi' => sliceElem P t g && opdOk x y && oopdOk lo lo' && oopdOk hi hi'
 | .slice t x lo hi none,.slStr y lo' hi' => stringOk P t && opdOk x y && oopdOk lo lo' && oopdOk hi hi'
 | .makeFunc (.func f) first cap,.makeFunc g cap' => f == g && first.isEmpty && opdsOk cap.toList cap'
 | .makeMap _ none,.makeMap _ => true
 | .lookup t m k ok,.lookup kk z ok' m' k' => mapOk P t kk (fun e => zeroVOk P e z) && ok == ok' && opdOk m m' && opdOk k k'
 | .mapUpdate t m k v,.mapUpdate kk m' k' v' => mapOk P t kk (fun _ => true) && opdOk m m' && opdOk k k' && opdOk v v'
 | .makeSlice t l c,.makeSlice _ g bytes z y => (match P.underlying t with | some (.slice e) => sizeOk P e g && bytesOk P e bytes && zeroOk P e z && decide (0 < bytes) | _ => false) && opdOk l y && opdOk c y
 | .extract x i,.extract i' y => i == i' && opdOk x y
 | .makeInterface t x,.iface t' y => t == t' && (match P.underlying t with | some (.interface _) => false | some _ => true | none => false) && opdOk x y
 | .call { callee:=.builtin .len,args,argTypes },.len k y => (match args.toList,argTypes.toList with | [x],[t] => lenOkT P t k && opdOk x y | _,_ => false)
 | .call { callee:=.builtin .len,args,argTypes },.lenC n => (match args.toList,argTypes.toList with | [_],[t] => lenCOk P t n | _,_ => false)
 | .call { callee:=.builtin .append,args,argTypes },.append _ g bytes x y => (match args.toList,argTypes.toList with | [x',y'],[t,u] => appOk P t u g bytes && opdOk x' x && opdOk y' y | _,_ => false)
 | .call { callee:=.builtin .copy,args,argTypes },.copy g x y => (match args.toList,argTypes.toList with | [x',y'],[t,_] => sliceElem P t g && opdOk x' x && opdOk y' y | _,_ => false)
 | .call { callee:=.builtin .max,args,.. },.minmax true x y => (match args.toList with | [x',y'] => opdOk x' x && opdOk y' y | _ => false)
 | .call { callee:=.builtin .min,args,.. },.minmax false x y => (match args.toList with | [x',y'] => opdOk x' x && opdOk y' y | _ => false)
 | .convert a b x,.runeStr y => (P.underlying a).isSome && stringOk P b && opdOk x y
 | .convert a b x,.bytesStr y => (match P.underlying a with | some (.slice e) => intOk P e .u8 | _ => false) && stringOk P b && opdOk x y
 | .panic _,.fail => true
 | .range t x,.rangeS y => stringOk P t && opdOk x y
 | .next x true,.next y => opdOk x y
 | .lookup t m k ok,.lookupA L z ok' m' k' => mapOkA P t L (fun e => zeroVOk P e z) && ok == ok' && opdOk m m' && opdOk k k'
 | .mapUpdate t m k v,.mapUpdateA L m' k' v' => mapOkA P t L (fun _ => true) && opdOk m m' && opdOk k k' && opdOk v v'
 | _,_ => false

theorem bytesN_VRs {φ : Nat → Emb} {H : Heap} : ∀ {ys : List AV} {ns : List Int} {xs : List Value},bytesN ys = some ns → VRs φ H ys xs → xs = ns.map (Value.int .u8)
 | [],ns,xs,h,hv => by
  simp only [bytesN,Option.some.injEq] at h; subst h
  simp only [VRs] at hv; subst hv; rfl
 | y :: ys,ns,xs,h,hv => by
  simp only [VRs] at hv
  obtain ⟨v,vs,rfl,h1,h2⟩:=hv
  unfold bytesN at h
  split at h
  ·rename_i e; cases e
  ·rename_i n r e
   simp only [List.cons.injEq] at e
   obtain ⟨rfl,rfl⟩:=e
   simp only [Option.map_eq_some_iff] at h
   obtain ⟨ms,h3,rfl⟩:=h
   simp only [VR] at h1
   subst h1
   rw [bytesN_VRs h3 h2,List.map_cons]
  ·cases h

theorem push_all : ∀ (ns : List Int) (s : ByteArray),ns.foldl (fun r n => r.push (UInt8.ofNat n.toNat)) s = ⟨s.data ++ (ns.map fun n => UInt8.ofNat n.toNat).toArray⟩
 | [],s => by simp
 | n :: ns,s => by
  rw [List.foldl_cons,push_all ns]
  congr 1
  apply Array.ext'
  simp [ByteArray.push]

section
variable {CK : CKT} {P : Program} {w0 : World} {K : List Nat} {φ : Nat → Emb} {H H' : Heap} {w : World} {s : T} {ρ : Operand → Value} {v : AV} {fp : FP} {call : CallF} {h0 : Heap}

theorem Done.val {sem : Sem Value} (hr : HR CK w0 K φ H w) (h : Val P w φ H sem v) : Done CK P w0 K φ H w (do Pure.pure (Next.value (← sem))) v H:=by
 obtain ⟨x,hx,hv⟩:=h
 exact ⟨φ,w,_,x,by simp only [Sem.run_bind,hx,Result.andThen_ok,Sem.run_pure],.inl rfl,hr,hv,Stp.refl φ H⟩

theorem Done.mem {sem : Sem Value} (h : ∃ φ' w' x,sem.run P w = .ok x w' ∧ HR CK w0 K φ' H' w' ∧ VR φ' H' v x ∧ Stp φ H φ' H') : Done CK P w0 K φ H w (do Pure.pure (Next.value (← sem))) v H':=by
 obtain ⟨φ',w',x,h1,h2,h3,h4⟩:=h
 exact ⟨φ',w',_,x,by simp only [Sem.run_bind,h1,Result.andThen_ok,Sem.run_pure],.inl rfl,h2,h3,h4⟩

theorem Done.unit {sem : Sem Unit} (h : ∃ w',sem.run P w = .ok () w' ∧ HR CK w0 K φ H' w' ∧ Stp φ H φ H') : Done CK P w0 K φ H w (do sem; Pure.pure Next.skip) .undef H':=by
 obtain ⟨w',h1,h2,h3⟩:=h
 exact ⟨φ,w',.skip,undef,by simp only [Sem.run_bind,h1,Result.andThen_ok,Sem.run_pure],.inr ⟨rfl,rfl⟩,h2,by simp [VR],h3⟩

/-- A builtin that is called. -/
theorem run_builtin (o : Oper) {b : Builtin} {args : Array Operand} {argTypes : Array TypeId} (ho : o.op = .call { callee:=.builtin b,args,argTypes }) :
  (execOp ρ o).run P w = (builtin b argTypes o.type (args.map fun | .const _ => true | _ => false) (args.map ρ)).run P w:=by
 unfold execOp
 rw [ho]
 simp only [resolve,invoke,Sem.run_bind,Sem.run_pure,Result.andThen_ok]
 rfl

theorem bopOk_eq {a b : BinOp} (h : bopOk a b = true) : a = b:=by
 unfold bopOk at h; split at h <;> first | rfl | cases h
theorem unopOk_eq {a b : UnOp} (h : unopOk a b = true) : a = b:=by
 unfold unopOk at h; split at h <;> first | rfl | cases h
theorem eqNeg_eq {a : BinOp} {neg : Bool} (h : eqNeg a neg = true) : (a = .eql ∧ neg = false) ∨ (a = .neq ∧ neg = true):=by
 unfold eqNeg at h; split at h <;> first | (cases h; done) | simp

theorem eqv_sim {op : BinOp} {neg : Bool} {t : TypeId} {d : TypeDesc} {k : Nat} {x y : Operand} {a b : AV} {u z : Value} {r : Bool} (hop : (op = .eql ∧ neg = false) ∨ (op = .neq ∧ neg = true)) (hu : P.underlying t = some d) (hk : eqkOk k d = true) (ha : VR φ H a u) (hb : VR φ H b z) (h : eqk k a b = some r) :
  Val P w φ H (do eqGuard op t x y u z; binOp op t u z) (.bool (r != neg)):=by
 have he:=eqk_sim (P:=P) (w:=w) hu hk ha hb h
 have hplain : (eqGuard op t x y u z).run P w = .ok () w ∧ (binOp op t u z).run P w = .ok (.bool (r != neg)) w:=by
  rcases k with _ | _ | _ | _ | _ | k
  all_goals (unfold eqk at h; split at h)
  all_goals first | (exfalso; omega) | cases h | skip
  all_goals simp only [VR] at ha hb
  all_goals first
   | (subst ha; subst hb)
   | (obtain ⟨a1,a2,a3,a4,rfl,_⟩:=hb; subst ha)
   | (obtain ⟨a1,a2,a3,a4,rfl,_⟩:=ha; subst hb)
   | (obtain ⟨a1,a2,a3,a4,a5,rfl,_⟩:=hb; subst ha)
   | (obtain ⟨a1,a2,a3,a4,a5,rfl,_⟩:=ha; subst hb)
   | (obtain ⟨a1,a2,rfl⟩:=hb; subst ha)
   | (obtain ⟨a1,a2,rfl⟩:=ha; subst hb)
   | (obtain ⟨a1,rfl,_⟩:=hb; subst ha)
   | (obtain ⟨a1,rfl,_⟩:=ha; subst hb)
  all_goals
   rcases hop with ⟨rfl,rfl⟩ | ⟨rfl,rfl⟩ <;> exact ⟨by simp [eqGuard],by simp [binOp,he]⟩
 exact ⟨.bool (r != neg),by simp only [Sem.run_bind,hplain.1,Result.andThen_ok,hplain.2],by simp [VR]⟩

theorem max2_sim {mx : Bool} {a b : AV} {x y : Value} (ha : VR φ H a x) (hb : VR φ H b y) (h : mmA mx a b = some v) :
  ∃ z,(if mx then Builtin.max2 x y else Builtin.min2 x y).run P w = .ok z w ∧ VR φ H v z:=by
 unfold mmA at h
 cases a <;> cases b <;> simp only [reduceCtorEq] at h
 ·simp only [VR] at ha hb; subst ha; subst hb
  simp only [Option.some.injEq] at h; subst h
  cases mx
  ·exact ⟨_,by simp only [Bool.false_eq_true,if_false,Builtin.min2,Sem.run_pure]; rfl,by simp [VR]⟩
  ·exact ⟨_,by simp only [if_true,Builtin.max2,Sem.run_pure]; rfl,by simp [VR]⟩

theorem mapOkA_spec {t : TypeId} {L : List LK} {p : TypeId → Bool} (h : mapOkA P t L p = true) : ∃ k e,P.underlying t = some (.map k e) ∧ KeyA P k L ∧ p e = true:=by
 unfold mapOkA at h
 split at h
 ·rename_i k e hu
  simp only [Bool.and_eq_true] at h
  refine ⟨k,e,hu,?_,h.2⟩
  have h1:=h.1
  unfold keyOkA at h1
  split at h1
  ·rename_i n et q L hk
   simp only [Bool.and_eq_true,beq_iff_eq] at h1
   obtain ⟨⟨⟨⟨h2,h3⟩,h4⟩,h5⟩,h6⟩:=h1
   refine ⟨n,et,q,hk,?_,h3,h4,h5,h6⟩
   split at h2 <;> first | (cases h2; done) | skip
   ·rename_i he; rw [he]; rfl
   ·rename_i he; rw [he]; rw [eq_of_beq h2]; rfl
   ·rename_i he; rw [he]; rfl
  ·cases h1
 ·cases h

theorem mapOk_spec {t : TypeId} {kk : LK} {p : TypeId → Bool} (h : mapOk P t kk p = true) : ∃ k e,P.underlying t = some (.map k e) ∧ P.underlying k = some kk.desc ∧ p e = true:=by
 unfold mapOk at h
 split at h
 ·rename_i k e hu
  simp only [Bool.and_eq_true] at h
  refine ⟨k,e,hu,?_,h.2⟩
  have h1:=h.1
  split at h1 <;> first | (cases h1; done) | skip
  ·rename_i hk; rw [hk]; rfl
  ·rename_i hk; rw [hk]; simp at h1; rw [h1]; rfl
  ·rename_i hk; rw [hk]; rfl
 ·cases h

end
section
variable {CK : CKT} {P : Program} {w0 : World} {K : List Nat} {φ : Nat → Emb} {H H' : Heap} {w : World} {s : T} {ρ : Operand → Value} {v : AV} {fp : FP} {call : CallF} {h0 : Heap}

def COp.isCall : COp → Bool
 | .call _ _ _ => true
 | _ => false

set_option maxHeartbeats 4000000 in
theorem op_sim (hr : HR CK w0 K φ H w) (hρ : RhoR φ H s ρ) (o : Oper) (c : COp) (hk : opOk P o.op c = true) (h : act call h0 s H c = some (v,fp)) (ha : fp.eff.app H = some H') :
  Done CK P w0 K φ H w (execOp ρ o) v H':=by
 unfold opOk at hk
 split at hk
 case h_1 x y ho =>
  simp only [act] at h
  obtain ⟨hh,he⟩:=pure1_app h ha
  clear h ha; subst he; have h:=hh; clear hh
  cases h
  exact Done.pure hr (x:=ρ x) (by simp only [execOp,ho,Sem.run_pure]) (hρ x y hk)
 case h_2 x y ho =>
  simp only [act] at h
  obtain ⟨hh,he⟩:=pure1_app h ha
  clear h ha; subst he; have h:=hh; clear hh
  cases h
  exact Done.pure hr (x:=ρ x) (by simp only [execOp,ho,Sem.run_pure]) (hρ x y hk)
 case h_3 c a b c' a' b' ho =>
  simp only [Bool.and_eq_true] at hk
  simp only [act] at h
  obtain ⟨hh,he⟩:=pure1_app h ha
  clear h ha; subst he; have h:=hh; clear hh
  have hc:=hρ c c' hk.1.1
  split at h
  ·rename_i q hq
   rw [hq] at hc
   simp only [VR] at hc
   simp only [Option.some.injEq] at h; subst h
   refine Done.pure hr (x:=if q then ρ a else ρ b) (by simp only [execOp,ho,hc,asBool,Sem.run_bind,Sem.run_pure,Result.andThen_ok]) ?_
   cases q
   ·exact hρ b b' hk.2
   ·exact hρ a a' hk.1.2
  ·cases h
 case h_4 e j z ho =>
  simp only [act,Option.some.injEq,Prod.mk.injEq] at h
  obtain ⟨rfl,rfl⟩:=h
  obtain ⟨zv,z1,z2,z3⟩:=run_zero (P:=P) (w:=w) hk
  have hl:=(z2 φ H).length
  simp only [Array.length_toList] at hl
  obtain ⟨r1,r2,r3⟩:=new_cells hr (t:=e) (c:=zv.cells) ha (by rw [List.take_of_length_le (by simp [hl])]; exact z2 φ H) (by omega) z3
  simp only [execOp,ho]
  refine Done.mem ⟨_,_,.pointer (some ⟨w.heap.size,0,none⟩),by simp only [Instr.alloc,Sem.run_bind,z1,Result.andThen_ok,newVar,newRow,run_newObj,Sem.run_pure],r1,?_,r2⟩
  simp only [VR]
  exact ⟨_,0,_,_,rfl,r3,Nat.le_refl _,fun _ => by rw [upd_self]⟩
 case h_5 e x j y ho =>
  simp only [act] at h
  split at h
  ·rename_i cc hcc
   simp only [Option.some.injEq,Prod.mk.injEq] at h
   obtain ⟨rfl,rfl⟩:=h
   obtain ⟨hv,h1⟩:=VR.cells (hρ x y hk) hcc
   have hl:=hv.length
   simp only [Array.length_toList] at hl
   obtain ⟨r1,r2,r3⟩:=new_cells hr (t:=e) (c:=(ρ x).cells) ha (by rw [List.take_of_length_le (by simp [hl])]; exact hv) (by omega) h1
   simp only [execOp,ho]
   refine Done.mem ⟨_,_,.pointer (some ⟨w.heap.size,0,none⟩),by simp only [Instr.box,Sem.run_bind,Result.andThen_ok,newVar,newRow,run_newObj,Sem.run_pure],r1,?_,r2⟩
   simp only [VR]
   exact ⟨_,0,_,_,rfl,r3,Nat.le_refl _,fun _ => by rw [upd_self]⟩
  ·cases h
 case h_6 t ps z qs ho =>
  simp only [act] at h
  obtain ⟨hh,he⟩:=pure1_app h ha
  clear h ha; subst he; have h:=hh; clear hh
  simp only [Option.map_eq_some_iff] at h
  obtain ⟨c,hc,rfl⟩:=h
  simp only [execOp,ho]
  exact Done.val hr (build_sim hρ hk hc)
 case h_7 t len ps j g len' z qs ho =>
  simp only [Bool.and_eq_true,beq_iff_eq] at hk
  obtain ⟨rfl,hk⟩:=hk
  simp only [act] at h
  split at h
  ·rename_i c hc
   split at h
   ·rename_i hl
    simp only [Option.some.injEq,Prod.mk.injEq] at h
    obtain ⟨rfl,rfl⟩:=h
    simp only [execOp,ho]
    exact Done.mem (buildSlice_sim hr hρ hk hc hl ha)
   ·cases h
  ·cases h
 case h_8 t x k y ho =>
  simp only [Bool.and_eq_true] at hk
  simp only [act] at h
  split at h
  ·rename_i b o ver hy
   simp only [Option.map_eq_some_iff,Prod.mk.injEq] at h
   obtain ⟨r,h,rfl,rfl⟩:=h
   simp only [Eff.app,Option.some.injEq] at ha; subst ha
   have hx:=hρ x y hk.2
   rw [hy] at hx
   obtain ⟨a,z,e1,e2,e3⟩:=loadA_sim (P:=P) hr hk.1 hx h
   simp only [execOp,ho]
   exact Done.val hr ⟨z,by simp only [Instr.loadAt,e1,Instr.sureAddr,Sem.run_bind,Sem.run_pure,Result.andThen_ok,e2],e3⟩
  ·cases h
 case h_9 t x v n y u ho =>
  simp only [Bool.and_eq_true] at hk
  simp only [act] at h
  split at h
  ·rename_i b o ver cc hy hc
   split at h
   ·rename_i hl
    simp only [Option.some.injEq,Prod.mk.injEq] at h
    obtain ⟨rfl,rfl⟩:=h
    have hx:=hρ x y hk.1.2
    rw [hy] at hx
    simp only [execOp,ho]
    exact Done.unit (store_sim hr hk.1.1 hx (hρ v u hk.2) hc hl ha)
   ·cases h
  ·cases h
 case h_10 x y ho =>
  simp only [act] at h
  obtain ⟨hh,he⟩:=pure1_app h ha
  clear h ha; subst he; have h:=hh; clear hh
  have hx:=hρ x y hk
  split at h
  ·rename_i b o ver hy
   rw [hy] at hx
   simp only [Option.some.injEq] at h; subst h
   obtain ⟨a,e,_⟩:=ptr_inv hx
   exact Done.pure hr (x:=ρ x) (by simp only [execOp,ho,e,Sem.run_pure]) hx
  ·rename_i f cc hy
   rw [hy] at hx
   simp only [Option.some.injEq] at h; subst h
   have hx':=hx
   simp only [VR] at hx'
   obtain ⟨vs,e,_⟩:=hx'
   exact Done.pure hr (x:=ρ x) (by simp only [execOp,ho,e,Sem.run_pure]) hx
  ·cases h
 case h_11 op t x y ut op' x' y' ho =>
  simp only [Bool.and_eq_true] at hk
  obtain rfl:=bopOk_eq hk.1.1
  simp only [act] at h
  obtain ⟨hh,he⟩:=pure1_app h ha
  clear h ha; subst he; have h:=hh; clear hh
  simp only [execOp,ho]
  exact Done.val hr (bin_sim (hρ x x' hk.1.2) (hρ y y' hk.2) h)
 case h_12 op t x y ut k neg x' y' ho =>
  simp only [Bool.and_eq_true] at hk
  simp only [act] at h
  obtain ⟨hh,he⟩:=pure1_app h ha
  clear h ha; subst he; have h:=hh; clear hh
  simp only [Option.map_eq_some_iff] at h
  obtain ⟨r,h,rfl⟩:=h
  have hq:=hk.1.1.2
  unfold eqvOk at hq
  split at hq
  ·rename_i d hu
   simp only [execOp,ho]
   exact Done.val hr (eqv_sim (eqNeg_eq hk.1.1.1) hu hq (hρ x x' hk.1.2) (hρ y y' hk.2) h)
  ·cases hq
 case h_13 op t x y ut L neg x' y' ho =>
  simp only [Bool.and_eq_true] at hk
  simp only [act] at h
  obtain ⟨hh,he⟩:=pure1_app h ha
  clear h ha; subst he; have h:=hh; clear hh
  simp only [Option.map_eq_some_iff] at h
  obtain ⟨r,h,rfl⟩:=h
  have hq:=hk.1.1.2
  simp only [eqaOk,Bool.and_eq_true,beq_iff_eq,Bool.not_eq_true'] at hq
  simp only [execOp,ho]
  exact Done.val hr (eqa_sim (eqNeg_eq hk.1.1.1) hq.1.1 hq.1.2 (by decide) hq.2 (hρ x x' hk.1.2) (hρ y y' hk.2) h)
 case h_14 op t x op' y ho =>
  simp only [Bool.and_eq_true] at hk
  obtain rfl:=unopOk_eq hk.1
  simp only [act] at h
  obtain ⟨hh,he⟩:=pure1_app h ha
  clear h ha; subst he; have h:=hh; clear hh
  simp only [execOp,ho]
  exact Done.val hr (un_sim (hρ x y hk.2) h)
 case h_15 a b x k y ho =>
  simp only [Bool.and_eq_true] at hk
  simp only [act] at h
  obtain ⟨hh,he⟩:=pure1_app h ha
  clear h ha; subst he; have h:=hh; clear hh
  have hx:=hρ x y hk.2
  split at h
  ·rename_i k' n hy
   rw [hy] at hx
   simp only [VR] at hx
   simp only [Option.some.injEq] at h; subst h
   obtain ⟨d,hd⟩:=Option.isSome_iff_exists.1 hk.1.1
   have hi:=hk.1.2
   unfold intOk at hi
   split at hi
   ·rename_i j hj
    have hi : j = k:=by simpa using hi
    subst hi
    simp only [execOp,ho]
    exact Done.val hr ⟨.int j (j.wrap n),by simp only [convert,Sem.run_bind,run_und hd,run_und hj,Result.andThen_ok,hx,Conv.intToInt,Sem.run_pure],by simp [VR]⟩
   ·cases hi
  ·cases h
 case h_16 a b x y ho =>
  simp only [Bool.and_eq_true] at hk
  simp only [act] at h
  obtain ⟨hh,he⟩:=pure1_app h ha
  clear h ha; subst he; have h:=hh; clear hh
  have hx:=hρ x y hk.2
  split at h
  ·rename_i c hy
   rw [hy] at hx
   simp only [Option.some.injEq] at h; subst h
   have hq:=hk.1.2
   unfold stringOk at hq
   split at hq
   ·rename_i hu
    have hq2:=hk.1.1
    unfold stringOk at hq2
    split at hq2
    ·rename_i hu2
     have hx':=hx
     simp only [VR] at hx'
     simp only [execOp,ho]
     exact Done.val hr ⟨ρ x,by simp only [convert,Sem.run_bind,run_und hu,run_und hu2,Result.andThen_ok,hx',Sem.run_pure],hx⟩
    ·cases hq2
   ·cases hq
  ·cases h
 case h_17 t x i off y ho =>
  simp only [Bool.and_eq_true] at hk
  simp only [act] at h
  obtain ⟨hh,he⟩:=pure1_app h ha
  clear h ha; subst he; have h:=hh; clear hh
  have hx:=hρ x y hk.2
  split at h
  ·rename_i b o ver hy
   rw [hy] at hx
   simp only [Option.some.injEq] at h; subst h
   have hq:=hk.1
   unfold structOk at hq
   split at hq
   ·rename_i fs hu
    split at hq
    ·rename_i f hf
     simp only [Bool.and_eq_true,beq_iff_eq] at hq
     obtain ⟨rfl,hq⟩:=hq
     split at hq
     ·rename_i inf hinf
      have hn : inf.size ≠ 0:=by simpa using hq
      simp only [execOp,ho]
      exact Done.val hr (fieldAddr_sim hu hf (n:=inf.size) (by unfold sizeOk; rw [hinf]; simp) hn hx)
     ·cases hq
    ·cases hq
   ·cases hq
  ·cases h
 case h_18 t x i k off y ho =>
  simp only [Bool.and_eq_true] at hk
  simp only [act] at h
  obtain ⟨hh,he⟩:=pure1_app h ha
  clear h ha; subst he; have h:=hh; clear hh
  have hx:=hρ x y hk.2
  split at h
  ·rename_i c hy
   rw [hy] at hx
   have hq:=hk.1
   unfold structOk at hq
   split at hq
   ·rename_i fs hu
    split at hq
    ·rename_i f hf
     simp only [Bool.and_eq_true,beq_iff_eq] at hq
     obtain ⟨rfl,hq⟩:=hq
     simp only [execOp,ho]
     exact Done.val hr (field_sim hu hf hq hx h)
    ·cases hq
   ·cases hq
  ·cases h
 case h_19 t x i n g y j ho =>
  simp only [Bool.and_eq_true] at hk
  simp only [act] at h
  obtain ⟨hh,he⟩:=pure1_app h ha
  clear h ha; subst he; have h:=hh; clear hh
  have hx:=hρ x y hk.1.2
  have hi:=hρ i j hk.2
  split at h
  ·rename_i b o ver k q hy hj
   rw [hy] at hx; rw [hj] at hi
   simp only [Option.map_eq_some_iff] at h
   obtain ⟨m,hm,rfl⟩:=h
   simp only [VR] at hi
   have hq:=hk.1.1
   unfold arrOk at hq
   split at hq
   ·rename_i m' e hu
    simp only [Bool.and_eq_true,beq_iff_eq] at hq
    obtain ⟨⟨rfl,hs⟩,hp⟩:=hq
    simp only [execOp,ho,hi]
    exact Done.val hr (idxArr_sim hu hs hx hm)
   ·cases hq
  ·cases h
 case h_20 t x i g y j ho =>
  simp only [Bool.and_eq_true] at hk
  simp only [act] at h
  obtain ⟨hh,he⟩:=pure1_app h ha
  clear h ha; subst he; have h:=hh; clear hh
  have hx:=hρ x y hk.1.2
  have hi:=hρ i j hk.2
  split at h
  ·rename_i b o len ver k q hy hj
   rw [hy] at hx; rw [hj] at hi
   simp only [Option.map_eq_some_iff] at h
   obtain ⟨m,hm,rfl⟩:=h
   simp only [VR] at hi
   have hq:=hk.1.1
   unfold sliceElem at hq
   split at hq
   ·rename_i e hu
    simp only [execOp,ho,hi]
    exact Done.val hr (idxSl_sim hu hq hx hm)
   ·cases hq
  ·cases h
 case h_21 t x i n g k y j ho =>
  simp only [Bool.and_eq_true] at hk
  simp only [act] at h
  obtain ⟨hh,he⟩:=pure1_app h ha
  clear h ha; subst he; have h:=hh; clear hh
  have hx:=hρ x y hk.1.2
  have hi:=hρ i j hk.2
  split at h
  ·rename_i c k' q hy hj
   rw [hy] at hx; rw [hj] at hi
   simp only [Option.bind_eq_some_iff] at h
   obtain ⟨m,hm,h⟩:=h
   simp only [VR] at hi
   have hq:=hk.1.1
   unfold arrOk at hq
   split at hq
   ·rename_i m' e hu
    simp only [Bool.and_eq_true,beq_iff_eq] at hq
    obtain ⟨⟨rfl,hs⟩,hp⟩:=hq
    simp only [execOp,ho,hi]
    exact Done.val hr (idxVal_sim hu hs hp hx hm h)
   ·cases hq
  ·cases h
 case h_22 t x i y j ho =>
  simp only [Bool.and_eq_true] at hk
  simp only [act] at h
  obtain ⟨hh,he⟩:=pure1_app h ha
  clear h ha; subst he; have h:=hh; clear hh
  have hx:=hρ x y hk.1.2
  have hi:=hρ i j hk.2
  split at h
  ·rename_i c k' q hy hj
   rw [hy] at hx; rw [hj] at hi
   simp only [Option.bind_eq_some_iff,Option.map_eq_some_iff] at h
   obtain ⟨m,hm,z,hz,rfl⟩:=h
   simp only [VR] at hi
   have hq:=hk.1.1
   unfold stringOk at hq
   split at hq
   ·rename_i hu
    simp only [execOp,ho,hi]
    exact Done.val hr (idxStr_sim hu hx hm hz)
   ·cases hq
  ·cases h
 case h_23 t x lo hi n g y lo' hi' ho =>
  simp only [Bool.and_eq_true] at hk
  simp only [act] at h
  have hx:=hρ x y hk.1.1.2
  split at h
  ·rename_i b o ver l m hy hb
   rw [hy] at hx
   split at h
   ·rename_i gn cs hg
    simp only [Option.some.injEq,Prod.mk.injEq] at h
    obtain ⟨rfl,rfl⟩:=h
    simp only [Eff.app,Option.some.injEq] at ha; subst ha
    have hq:=hk.1.1.1
    unfold arrOk at hq
    split at hq
    ·rename_i m' e hu
     simp only [Bool.and_eq_true,beq_iff_eq] at hq
     obtain ⟨⟨rfl,hs⟩,hp⟩:=hq
     simp only [execOp,ho]
     exact Done.val hr (slArr_sim hρ hu hs hk.1.2 hk.2 hx hb hg)
    ·cases hq
   ·cases h
  ·cases h
 case h_24 t x lo hi g y lo' hi' ho =>
  simp only [Bool.and_eq_true] at hk
  simp only [act] at h
  obtain ⟨hh,he⟩:=pure1_app h ha
  clear h ha; subst he; have h:=hh; clear hh
  have hx:=hρ x y hk.1.1.2
  have hq:=hk.1.1.1
  unfold sliceElem at hq
  split at hq
  ·rename_i e hu
   simp only [execOp,ho]
   exact Done.val hr (slSl_sim hρ hu hq hk.1.2 hk.2 hx h)
  ·cases hq
 case h_25 t x lo hi y lo' hi' ho =>
  simp only [Bool.and_eq_true] at hk
  simp only [act] at h
  obtain ⟨hh,he⟩:=pure1_app h ha
  clear h ha; subst he; have h:=hh; clear hh
  have hx:=hρ x y hk.1.1.2
  split at h
  ·rename_i c hy
   rw [hy] at hx
   simp only [Option.map_eq_some_iff] at h
   obtain ⟨⟨l,m⟩,hb,rfl⟩:=h
   have hq:=hk.1.1.1
   unfold stringOk at hq
   split at hq
   ·rename_i hu
    simp only [execOp,ho]
    exact Done.val hr (slStr_sim hρ hu hk.1.2 hk.2 hx hb)
   ·cases hq
  ·cases h
 case h_26 f first cap g cap' ho =>
  simp only [Bool.and_eq_true,beq_iff_eq] at hk
  obtain ⟨⟨rfl,hf⟩,hc⟩:=hk
  simp only [act] at h
  obtain ⟨hh,he⟩:=pure1_app h ha
  clear h ha; subst he; have h:=hh; clear hh
  simp only [Option.some.injEq] at h; subst h
  have hfe : first = #[]:=by simpa using hf
  simp only [execOp,ho]
  refine Done.val hr ⟨.func (.func f) #[] (cap.map ρ),by simp [Instr.makeFunc,hfe],?_⟩
  simp only [VR]
  exact ⟨_,rfl,by simpa using hρ.list hc⟩
 case h_27 t j ho =>
  simp only [act,Option.some.injEq,Prod.mk.injEq] at h
  obtain ⟨rfl,rfl⟩:=h
  simp only [execOp,ho]
  exact Done.mem (makeMap_sim hr ha)
 case h_28 t m k ok kk z ok' m' k' ho =>
  simp only [Bool.and_eq_true,beq_iff_eq] at hk
  obtain ⟨⟨⟨hmo,rfl⟩,hm⟩,hkk⟩:=hk
  obtain ⟨kt,et,hu,hk2,hz⟩:=mapOk_spec hmo
  simp only [act] at h
  split at h
  ·rename_i es hes
   split at hes
   ·rename_i hfit
    split at h
    ·rename_i r hr2
     simp only [Option.some.injEq,Prod.mk.injEq] at h
     obtain ⟨rfl,rfl⟩:=h
     simp only [Eff.app,Option.some.injEq] at ha; subst ha
     simp only [execOp,ho]
     exact Done.val hr (lookup_sim (r:=some r) hr hu hk2 hz hfit (hρ m m' hm) (hρ k k' hkk) hes hr2)
    ·rename_i hr2
     simp only [Option.some.injEq,Prod.mk.injEq] at h
     obtain ⟨rfl,rfl⟩:=h
     simp only [Eff.app,Option.some.injEq] at ha; subst ha
     simp only [execOp,ho]
     exact Done.val hr (lookup_sim (r:=none) hr hu hk2 hz hfit (hρ m m' hm) (hρ k k' hkk) hes hr2)
    ·cases h
   ·cases hes
  ·cases h
 case h_29 t m k u kk m' k' v' ho =>
  simp only [Bool.and_eq_true] at hk
  obtain ⟨⟨⟨hmo,hm⟩,hkk⟩,hvv⟩:=hk
  obtain ⟨kt,et,hu,hk2,_⟩:=mapOk_spec hmo
  simp only [act] at h
  split at h
  ·rename_i b hb
   split at h
   ·rename_i es hes
    split at hes
    ·rename_i hfit
     simp only [Option.map_eq_some_iff,Prod.mk.injEq] at h
     obtain ⟨es',hp,rfl,rfl⟩:=h
     have hx:=hρ m m' hm
     rw [hb] at hx
     simp only [execOp,ho]
     exact Done.unit (mapUpdate_sim hr hu hk2 hfit hx (hρ k k' hkk) (hρ u v' hvv) hes hp ha)
    ·cases hes
   ·cases h
  ·cases h
 case h_30 t l c j g bytes z y ho =>
  simp only [Bool.and_eq_true] at hk
  obtain ⟨⟨hq,hl⟩,hc⟩:=hk
  split at hq
  ·rename_i e hu
   simp only [Bool.and_eq_true,decide_eq_true_eq] at hq
   obtain ⟨⟨⟨hs,hby⟩,hz⟩,hb0⟩:=hq
   have h1:=hρ l y hl
   have h2:=hρ c y hc
   simp only [act] at h
   split at h
   ·rename_i k n hy
    rw [hy] at h1 h2
    simp only [VR] at h1 h2
    split at h
    ·rename_i hcond
     obtain ⟨hn0,hle,hzl⟩:=hcond
     simp only [Option.some.injEq,Prod.mk.injEq] at h
     obtain ⟨rfl,rfl⟩:=h
     simp only [execOp,ho,h1,h2]
     exact Done.mem (makeSlice_sim hr hu hs hby hz hb0 hn0 hle hzl ha)
    ·cases h
   ·cases h
  ·cases hq
 case h_31 x i i' y ho =>
  simp only [Bool.and_eq_true,beq_iff_eq] at hk
  obtain ⟨rfl,hk⟩:=hk
  simp only [act] at h
  obtain ⟨hh,he⟩:=pure1_app h ha
  clear h ha; subst he; have h:=hh; clear hh
  have hx:=hρ x y hk
  split at h
  ·rename_i c hy
   rw [hy] at hx
   simp only [VR] at hx
   obtain ⟨vs,e,hvs⟩:=hx
   obtain ⟨z,hz,hvz⟩:=VRs.get hvs h
   have hz' : vs[i]? = some z:=by simpa using hz
   simp only [execOp,ho]
   exact Done.val hr ⟨z,by simp only [Instr.extract,e,hz',Sem.run_pure],hvz⟩
  ·cases h
 case h_32 t x t' y ho =>
  simp only [Bool.and_eq_true,beq_iff_eq] at hk
  obtain ⟨⟨rfl,hq⟩,hk⟩:=hk
  simp only [act] at h
  obtain ⟨hh,he⟩:=pure1_app h ha
  clear h ha; subst he; have h:=hh; clear hh
  have hx:=hρ x y hk
  have hv : v = .iface t (y.ev s):=by
   split at h
   ·cases h
   ·simp only [Option.some.injEq] at h; exact h.symm
  subst hv
  have hnu : y.ev s ≠ .undef:=by
   intro e; rw [e] at h; simp at h
  cases hu : P.underlying t with
  | none => rw [hu] at hq; simp at hq
  | some d =>
   simp only [execOp,ho]
   refine Done.val hr ⟨.iface t (ρ x),?_,by simp only [VR]; exact ⟨_,rfl,hx⟩⟩
   simp only [Instr.makeInterface,Sem.run_bind,run_und hu,Result.andThen_ok]
   rw [hu] at hq
   cases d <;> first | rfl | simp at hq
 case h_33 args argTypes k y ho =>
  split at hk
  ·rename_i x' t hargs htys
   obtain rfl : args = #[x']:=by apply Array.ext'; simpa using hargs
   obtain rfl : argTypes = #[t]:=by apply Array.ext'; simpa using htys
   simp only [Bool.and_eq_true] at hk
   have hx:=hρ x' y hk.2
   have hq:=hk.1
   unfold lenOkT at hq
   have fin : ∀ n : Int,v = goI n → H' = H → (Builtin.len_ #[t] o.type #[ρ x']).run P w = .ok (.int .i64 n) w → Done CK P w0 K φ H w (execOp ρ o) v H':=by
    rintro n rfl rfl hrun
    refine Done.pure hr (x:=.int .i64 n) ?_ (by simp [VR,goI])
    rw [run_builtin o ho]
    simp only [builtin,List.map_toArray,List.map_cons,List.map_nil,Sem.run_bind,hrun,Result.andThen_ok,Sem.run_pure]
   simp only [act] at h
   split at h
   ·rename_i c hy
    rw [hy] at hx
    simp only [VR] at hx
    obtain ⟨h1,h2⟩:=pure1_app h ha
    simp only [Option.some.injEq] at h1
    split at hq <;> first | (exfalso; omega) | (cases hq; done) | skip
    rename_i hu _
    exact fin _ h1.symm h2 (by rw [hx]; simp only [Builtin.len_,List.getElem?_toArray,List.getElem?_cons_zero,Sem.run_bind,run_und hu,Result.andThen_ok,Sem.run_pure,goInt,ByteArray.size,List.size_toArray])
   ·rename_i b q n ver hy
    rw [hy] at hx
    simp only [VR] at hx
    obtain ⟨a1,a2,a3,a4,a5,e,_⟩:=hx
    obtain ⟨h1,h2⟩:=pure1_app h ha
    simp only [Option.some.injEq] at h1
    split at hq <;> first | (exfalso; omega) | (cases hq; done) | skip
    rename_i hu _
    exact fin _ h1.symm h2 (by rw [e]; simp only [Builtin.len_,List.getElem?_toArray,List.getElem?_cons_zero,Sem.run_bind,run_und hu,Result.andThen_ok,Sem.run_pure,goInt] <;> rfl)
   ·rename_i hy
    rw [hy] at hx
    simp only [VR] at hx
    obtain ⟨h1,h2⟩:=pure1_app h ha
    simp only [Option.some.injEq] at h1
    split at hq <;> first | (exfalso; omega) | (cases hq; done) | skip
    rename_i hu _
    exact fin _ h1.symm h2 (by rw [hx]; simp only [Builtin.len_,List.getElem?_toArray,List.getElem?_cons_zero,Sem.run_bind,run_und hu,Result.andThen_ok,Sem.run_pure,goInt] <;> rfl)
   ·rename_i hy
    rw [hy] at hx
    simp only [VR] at hx
    obtain ⟨a1,a2,e⟩:=hx
    obtain ⟨h1,h2⟩:=pure1_app h ha
    simp only [Option.some.injEq] at h1
    split at hq <;> first | (exfalso; omega) | (cases hq; done) | skip
    rename_i hu _
    exact fin _ h1.symm h2 (by rw [e]; simp only [Builtin.len_,List.getElem?_toArray,List.getElem?_cons_zero,Sem.run_bind,run_und hu,Result.andThen_ok,Sem.run_pure,goInt] <;> rfl)
   ·rename_i hy
    rw [hy] at hx
    simp only [VR] at hx
    obtain ⟨h1,h2⟩:=pure1_app h ha
    simp only [Option.some.injEq] at h1
    split at hq <;> first | (exfalso; omega) | (cases hq; done) | skip
    rename_i hu _
    exact fin _ h1.symm h2 (by rw [hx]; simp only [Builtin.len_,List.getElem?_toArray,List.getElem?_cons_zero,Sem.run_bind,run_und hu,Result.andThen_ok,Sem.run_pure,goInt] <;> rfl)
   ·rename_i b hy
    rw [hy] at hx
    simp only [Option.map_eq_some_iff,Prod.mk.injEq] at h
    obtain ⟨es,hes,h1,h2⟩:=h
    subst h2
    simp only [Eff.app,Option.some.injEq] at ha
    split at hq <;> first | (exfalso; omega) | (cases hq; done) | skip
    rename_i hu _
    rcases mapA_sim hr hx hes with ⟨e,_⟩ | ⟨b',xs,clock,e,e2,hw,he,hg⟩
    ·simp only [VR] at hx; obtain ⟨_,e',_⟩:=hx; rw [e] at e'; cases e'
    ·have hl : ∀ {es : List (AV × AV)} {xs : List MapEntry},ER φ H es xs → xs.length = es.length:=by
      intro es
      induction es with
      | nil => intro xs h; simp only [ER] at h; subst h; rfl
      | cons e es ih => intro xs h; simp only [ER] at h; obtain ⟨m,xs',rfl,_,_,h⟩:=h; simp [ih h]
     have hl':=hl he
     exact fin _ h1.symm ha.symm (by rw [e2]; simp only [Builtin.len_,List.getElem?_toArray,List.getElem?_cons_zero,Sem.run_bind,run_und hu,Result.andThen_ok,Sem.run_pure,goInt,getObj,Sem.run,hw,← hl',Array.length_toList])
   ·cases h
  ·cases hk
 case h_34 args argTypes n ho =>
  split at hk
  ·rename_i x' t hargs htys
   obtain rfl : args = #[x']:=by apply Array.ext'; simpa using hargs
   obtain rfl : argTypes = #[t]:=by apply Array.ext'; simpa using htys
   simp only [act] at h
   obtain ⟨h1,h2⟩:=pure1_app h ha
   simp only [Option.some.injEq] at h1
   subst h1; subst h2
   refine Done.pure hr (x:=.int .i64 n) ?_ (by simp [VR,goI])
   rw [run_builtin o ho]
   unfold lenCOk at hk
   split at hk
   ·rename_i m e hu
    have : m = n:=by simpa using hk
    subst this
    simp only [builtin,List.map_toArray,List.map_cons,List.map_nil,Sem.run_bind,Builtin.len_,List.getElem?_toArray,List.getElem?_cons_zero,run_und hu,Result.andThen_ok,Sem.run_pure,goInt]
   ·rename_i a hu
    split at hk
    ·rename_i m e hu2
     have : m = n:=by simpa using hk
     subst this
     simp only [builtin,List.map_toArray,List.map_cons,List.map_nil,Sem.run_bind,Builtin.len_,List.getElem?_toArray,List.getElem?_cons_zero,run_und hu,run_und hu2,Result.andThen_ok,Sem.run_pure,goInt]
    ·cases hk
   ·cases hk
  ·cases hk
 case h_35 args argTypes j g bytes x y ho =>
  split at hk
  ·rename_i x' y' t u hargs htys
   obtain rfl : args = #[x',y']:=by apply Array.ext'; simpa using hargs
   obtain rfl : argTypes = #[t,u]:=by apply Array.ext'; simpa using htys
   simp only [Bool.and_eq_true] at hk
   simp only [act] at h
   split at h
   ·rename_i n ys he
    simp only [Option.map_eq_some_iff,Prod.mk.injEq] at h
    obtain ⟨⟨v',e⟩,h,rfl,rfl⟩:=h
    obtain ⟨φ',w',r,h1,h2,h3,h4⟩:=append_sim (P:=P) (ty:=o.type) hr hk.1.1 (hρ x' x hk.1.2) (hρ y' y hk.2) he h ha
    refine ⟨φ',w',.value r,r,?_,.inl rfl,h2,h3,h4⟩
    rw [run_builtin o ho]
    simp only [builtin,List.map_toArray,List.map_cons,List.map_nil,Sem.run_bind,h1,Result.andThen_ok,Sem.run_pure]
   ·cases h
  ·cases hk
 case h_36 args argTypes g x y ho =>
  split at hk
  ·rename_i x' y' t u hargs htys
   obtain rfl : args = #[x',y']:=by apply Array.ext'; simpa using hargs
   obtain rfl : argTypes = #[t,u]:=by apply Array.ext'; simpa using htys
   simp only [Bool.and_eq_true] at hk
   simp only [act] at h
   split at h
   ·rename_i n ys he
    simp only [Option.map_eq_some_iff,Prod.mk.injEq] at h
    obtain ⟨⟨v',e⟩,h,rfl,rfl⟩:=h
    have hq:=hk.1.1
    unfold sliceElem at hq
    split at hq
    ·rename_i el hu
     obtain ⟨w',r,h1,h2,h3,h4⟩:=copy_sim (P:=P) (sT:=u) (ty:=o.type) hr hu hq (hρ x' x hk.1.2) (hρ y' y hk.2) he h ha
     refine ⟨φ,w',.value r,r,?_,.inl rfl,h2,h3,h4⟩
     rw [run_builtin o ho]
     simp only [builtin,List.map_toArray,List.map_cons,List.map_nil,Sem.run_bind,h1,Result.andThen_ok,Sem.run_pure]
    ·cases hq
   ·cases h
  ·cases hk
 case h_37 args _ x y ho =>
  split at hk
  ·rename_i x' y' hargs
   obtain rfl : args = #[x',y']:=by apply Array.ext'; simpa using hargs
   simp only [Bool.and_eq_true] at hk
   simp only [act] at h
   obtain ⟨h1,h2⟩:=pure1_app h ha
   subst h2
   obtain ⟨z,hz,hv⟩:=max2_sim (P:=P) (w:=w) (mx:=true) (hρ x' x hk.1) (hρ y' y hk.2) h1
   refine Done.pure hr (x:=z) ?_ hv
   rw [run_builtin o ho]
   simp only [if_true] at hz
   simp [builtin,Builtin.max_,hz]
  ·cases hk
 case h_38 args _ x y ho =>
  split at hk
  ·rename_i x' y' hargs
   obtain rfl : args = #[x',y']:=by apply Array.ext'; simpa using hargs
   simp only [Bool.and_eq_true] at hk
   simp only [act] at h
   obtain ⟨h1,h2⟩:=pure1_app h ha
   subst h2
   obtain ⟨z,hz,hv⟩:=max2_sim (P:=P) (w:=w) (mx:=false) (hρ x' x hk.1) (hρ y' y hk.2) h1
   refine Done.pure hr (x:=z) ?_ hv
   rw [run_builtin o ho]
   simp only [Bool.false_eq_true,if_false] at hz
   simp [builtin,Builtin.min_,hz]
  ·cases hk
 case h_39 a b x y ho =>
  simp only [Bool.and_eq_true] at hk
  simp only [act] at h
  obtain ⟨hh,he⟩:=pure1_app h ha
  clear h ha; subst he; have h:=hh; clear hh
  have hx:=hρ x y hk.2
  split at h
  ·rename_i k' n hy
   rw [hy] at hx
   simp only [VR] at hx
   split at h
   ·rename_i hn
    simp only [Option.some.injEq] at h; subst h
    obtain ⟨d,hd⟩:=Option.isSome_iff_exists.1 hk.1.1
    have hi:=hk.1.2
    unfold stringOk at hi
    split at hi
    ·rename_i hu
     have en : Utf8.encode n = ⟨[n.toNat.toUInt8].toArray⟩:=by
      have hv : Utf8.valid n = true:=by
       unfold Utf8.valid
       simp only [Bool.or_eq_true,Bool.and_eq_true,decide_eq_true_eq]
       exact .inl ⟨hn.1,by omega⟩
      unfold Utf8.encode
      simp only [hv,if_true]
      rw [if_pos (by omega)]
     simp only [execOp,ho]
     exact Done.val hr ⟨.string (Utf8.encode n),by simp only [convert,Sem.run_bind,run_und hd,run_und hu,Result.andThen_ok,hx,Conv.intToString,Sem.run_pure],by simp only [VR]; rw [en]⟩
    ·cases hi
   ·cases h
  ·cases h
 case h_40 a b x y ho =>
  simp only [Bool.and_eq_true] at hk
  simp only [act] at h
  have hx:=hρ x y hk.2
  split at h
  ·rename_i n ys he
   split at he
   ·cases he
   ·rename_i hns
    simp only [Option.map_eq_some_iff,Prod.mk.injEq] at h
    obtain ⟨ns,hb,rfl,rfl⟩:=h
    simp only [Eff.app,Option.some.injEq] at ha; subst ha
    have hd:=hk.1.2
    unfold stringOk at hd
    split at hd
    ·rename_i hu
     have hk1:=hk.1.1
     split at hk1
     ·rename_i e hs
      unfold intOk at hk1
      split at hk1
      ·rename_i j hj
       obtain rfl : j = .u8:=by simpa using hk1
       simp only [execOp,ho]
       refine Done.val hr ⟨.string ⟨(ns.map fun n => UInt8.ofNat n.toNat).toArray⟩,?_,by simp only [VR]⟩
       obtain ⟨arr,hf,h1,_⟩:=elems_some (P:=P) (m:=n) hr hx he (Nat.le_refl _)
       have hne : n * 1 = ys.length:=by
        unfold elems at he
        split at he
        ·simp only [Option.some.injEq,Prod.mk.injEq] at he; obtain ⟨rfl,rfl⟩:=he; rfl
        ·simp only [Option.some.injEq,Prod.mk.injEq] at he; obtain ⟨rfl,rfl⟩:=he; rfl
        ·rename_i l hl; rw [hl] at hns; simp [isStrA] at hns
        ·split at he
         ·split at he
          ·split at he
           ·rename_i hl
            simp only [Option.some.injEq,Prod.mk.injEq] at he; obtain ⟨rfl,rfl⟩:=he; exact hl.symm
           ·cases he
          ·cases he
         ·cases he
        ·cases he
       rw [hne,List.take_length] at h1
       have h2:=bytesN_VRs hb h1
       have h3 : arr = (ns.map (Value.int .u8)).toArray:=by rw [← h2]
       subst h3
       have hnl : n = ns.length:=by
        have:=VRs.length h1
        simp at this; omega
       generalize hv : y.ev s = yv at he hx hns
       cases yv <;> simp only [elems,reduceCtorEq] at he
       case nils =>
        simp only [VR] at hx
        simp only [Option.some.injEq,Prod.mk.injEq] at he; obtain ⟨rfl,rfl⟩:=he
        obtain rfl : ns = []:=List.eq_nil_of_length_eq_zero hnl.symm
        rw [hx,run_convert_bytes_string w a b e none 0 0 hs hj hu]
        simp [Conv.bytesToString]
        rfl
       case str => simp [isStrA] at hns
       case slice0 =>
        simp only [VR] at hx
        obtain ⟨ad,c,hx⟩:=hx
        simp only [Option.some.injEq,Prod.mk.injEq] at he; obtain ⟨rfl,rfl⟩:=he
        obtain rfl : ns = []:=List.eq_nil_of_length_eq_zero hnl.symm
        rw [hx,run_convert_bytes_string w a b e (some ad) 0 c hs hj hu]
        rw [run_bytesToString w ad 0 c [] (by simp [loadCells,loadCellsFrom])]
        rfl
       case slice bb oo ll vv =>
        simp only [VR] at hx
        obtain ⟨ad,c,gg,nn,cs,hx,hl,hg,hle,had⟩:=hx
        have hll : ll = n:=by
         rw [hg] at he; simp only at he
         split at he
         ·split at he
          ·simp only [Option.some.injEq,Prod.mk.injEq] at he; exact he.1
          ·cases he
         ·cases he
        subst hll
        rw [hx,run_convert_bytes_string w a b e (some ad) ll c hs hj hu]
        rw [hx] at hf
        simp only [Builtin.firstCells,Nat.mul_one] at hf
        rw [run_bytesToString w ad ll c ns hf,push_all]
        simp
      ·cases hk1
     ·cases hk1
    ·cases hd
  ·cases h
 case h_41 ho => simp [act] at h
 case h_42 t x y ho =>
  simp only [Bool.and_eq_true] at hk
  obtain ⟨ht,hx⟩:=hk
  have hu : P.underlying t = some .string:=by
   unfold stringOk at ht
   split at ht
   ·assumption
   ·cases ht
  have h1:=hρ x y hx
  simp only [act] at h
  split at h
  ·rename_i c hc
   rw [hc] at h1
   simp only [Option.some.injEq,Prod.mk.injEq] at h
   obtain ⟨rfl,rfl⟩:=h
   simp only [Eff.app,forceL_eq,Option.some.injEq] at ha; subst ha
   simp only [execOp,ho]
   exact Done.mem (rangeS_sim hr hu h1)
  ·cases h
 case h_43 x y ho =>
  have h1:=hρ x y hk
  simp only [act] at h
  split at h
  ·rename_i b hb
   rw [hb] at h1
   split at h
   ·rename_i c pos hg
    obtain ⟨n1,n2⟩:=next_sim (P:=P) (ty:=o.type) hr h1 hg
    split at h
    ·rename_i hlt
     simp only [Option.some.injEq,Prod.mk.injEq] at h
     obtain ⟨rfl,rfl⟩:=h
     obtain ⟨w',e1,e2,e3⟩:=n1 hlt ha
     simp only [execOp,ho]
     refine Done.mem ⟨φ,w',_,e1,e2,?_,e3⟩
     simp only [VR,VRs]
     exact ⟨_,rfl,_,_,rfl,rfl,_,_,rfl,rfl,_,_,rfl,rfl,rfl⟩
    ·rename_i hlt
     simp only [Option.some.injEq,Prod.mk.injEq] at h
     obtain ⟨rfl,rfl⟩:=h
     simp only [Eff.app,Option.some.injEq] at ha; subst ha
     simp only [execOp,ho]
     refine Done.val hr ⟨_,n2 hlt,?_⟩
     simp only [VR,VRs]
     exact ⟨_,rfl,_,_,rfl,rfl,rfl⟩
   ·cases h
  ·cases h
 case h_44 t m k ok L z ok' m' k' ho =>
  simp only [Bool.and_eq_true,beq_iff_eq] at hk
  obtain ⟨⟨⟨hmo,rfl⟩,hm⟩,hkk⟩:=hk
  obtain ⟨kt,et,hu,hk2,hz⟩:=mapOkA_spec hmo
  simp only [act] at h
  split at h
  ·rename_i es hes
   split at hes
   ·rename_i hfit
    split at h
    ·rename_i r hr2
     simp only [Option.some.injEq,Prod.mk.injEq] at h
     obtain ⟨rfl,rfl⟩:=h
     simp only [Eff.app,Option.some.injEq] at ha; subst ha
     simp only [execOp,ho]
     exact Done.val hr (lookupA_sim (r:=some r) hr hu hk2 hz hfit (hρ m m' hm) (hρ k k' hkk) hes hr2)
    ·rename_i hr2
     simp only [Option.some.injEq,Prod.mk.injEq] at h
     obtain ⟨rfl,rfl⟩:=h
     simp only [Eff.app,Option.some.injEq] at ha; subst ha
     simp only [execOp,ho]
     exact Done.val hr (lookupA_sim (r:=none) hr hu hk2 hz hfit (hρ m m' hm) (hρ k k' hkk) hes hr2)
    ·cases h
   ·cases hes
  ·cases h
 case h_45 t m k u L m' k' v' ho =>
  simp only [Bool.and_eq_true] at hk
  obtain ⟨⟨⟨hmo,hm⟩,hkk⟩,hvv⟩:=hk
  obtain ⟨kt,et,hu,hk2,_⟩:=mapOkA_spec hmo
  simp only [act] at h
  split at h
  ·rename_i b hb
   split at h
   ·rename_i es hes
    split at hes
    ·rename_i hfit
     simp only [Option.map_eq_some_iff,Prod.mk.injEq] at h
     obtain ⟨es',hp,rfl,rfl⟩:=h
     have hx:=hρ m m' hm
     rw [hb] at hx
     simp only [execOp,ho]
     exact Done.unit (mapUpdateA_sim hr hu hk2 hfit hx (hρ k k' hkk) (hρ u v' hvv) hes hp ha)
    ·cases hes
   ·cases h
  ·cases h
 case h_46 => cases hk

end
end Go.AEv
