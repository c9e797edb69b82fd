/-
  Each operation of the evaluator stands for the model's: part one: the checks,new blocks,operations without memory.
  Each operation of the evaluator stands for the model's: part two: what reads and writes cells.
  Each operation of the evaluator stands for the model's: part three: operations that only reckon.
  '==' of arrays and structs whose cells are numbers,bools and strings: the evaluator's is the model's.
  Each operation of the evaluator stands for the model's: part four: literals,places,cuts,'==' of arrays and structs.
  Each operation of the evaluator stands for the model's: part five: places,slices.
  Each operation of the evaluator stands for the model's: part six: append,copy,make.
  Each operation of the evaluator stands for the model's: part seven: copy,make,maps.
  Each operation of the evaluator stands for the model's: part eight: maps.
-/
import Derived.Test.YtljgfdamdcikgaaEvRel
import Derived.Laws.Strings
set_option linter.unusedVariables false
set_option linter.unusedSimpArgs false
namespace Go.AEv

/-! ### Checks: does an operation of the evaluator belong to one of the program's? -/

mutual
def litOk : Value → AV → Bool
 | .bool a,.bool b => a == b
 | .int k n,.int k' m => k == k' && n == m
 | .string s,.str l => s.data.toList == l
 | .pointer none,.nilp => true
 | .slice none 0 0,.nils => true
 | .map none,.nilm => true
 | .nilFunc,.nilf => true
 | .nilIface,.nili => true
 | .agg c,.agg d => litsOk c.toList d && c.toList.all Value.oneCell'
 | .tuple c,.tup d => litsOk c.toList d
 | _,_ => false
def litsOk : List Value → List AV → Bool
 | [],[] => true
 | v :: vs,a :: as => litOk v a && litsOk vs as
 | _,_ => false
end

def opdOk : Operand → AOpd → Bool
 | .tmp t,.s p => p == pathOf t
 | .const v,.c a => litOk v a
 | .func f,.c (.func g []) => f == g
 | _,_ => false

def opdsOk : List Operand → List AOpd → Bool
 | [],[] => true
 | x :: xs,y :: ys => opdOk x y && opdsOk xs ys
 | _,_ => false

def oopdOk : Option Operand → Option AOpd → Bool
 | none,none => true
 | some x,some y => opdOk x y
 | _,_ => false

section
variable {φ : Nat → Emb} {H : Heap}
mutual
theorem VR.ofLit : ∀ (v : Value) (a : AV),litOk v a = true → VR φ H a v
 | .bool a,y,h => by cases y <;> simp_all [litOk,VR]
 | .int k n,y,h => by cases y <;> simp_all [litOk,VR]
 | .string s,y,h => by
  cases y <;> simp only [litOk,Bool.false_eq_true] at h
  rename_i l
  simp only [VR]
  have : s.data.toList = l:=by simpa using h
  subst this
  rfl
 | .pointer p,y,h => by cases p <;> cases y <;> simp_all [litOk,VR]
 | .slice a n c,y,h => by
  cases a with
  | some a => cases y <;> simp [litOk] at h
  | none =>
   cases n with
   | succ n => cases y <;> simp [litOk] at h
   | zero =>
    cases c with
    | succ c => cases y <;> simp [litOk] at h
    | zero => cases y <;> simp_all [litOk,VR]
 | .map p,y,h => by cases p <;> cases y <;> simp_all [litOk,VR]
 | .nilFunc,y,h => by cases y <;> simp_all [litOk,VR]
 | .nilIface,y,h => by cases y <;> simp_all [litOk,VR]
 | .agg c,y,h => by
  cases y <;> simp only [litOk,Bool.false_eq_true,Bool.and_eq_true] at h
  rename_i d
  simp only [VR]
  exact ⟨c,rfl,VRs.ofLit c.toList d h.1,fun x hx => (List.all_eq_true.1 h.2) x hx⟩
 | .tuple c,y,h => by
  cases y <;> simp only [litOk,Bool.false_eq_true] at h
  rename_i d
  simp only [VR]
  exact ⟨c,rfl,VRs.ofLit c.toList d h⟩
 | .float k b,y,h => by cases y <;> simp [litOk] at h
 | .complex k a b,y,h => by cases y <;> simp [litOk] at h
 | .chan r,y,h => by cases y <;> simp [litOk] at h
 | .func f a b,y,h => by cases y <;> simp [litOk] at h
 | .iface t v,y,h => by cases y <;> simp [litOk] at h
theorem VRs.ofLit : ∀ (v : List Value) (a : List AV),litsOk v a = true → VRs φ H a v
 | [],y,h => by cases y <;> simp_all [litsOk,VRs]
 | v :: vs,y,h => by
  cases y with
  | nil => simp [litsOk] at h
  | cons a as =>
   simp only [litsOk,Bool.and_eq_true] at h
   simp only [VRs]
   exact ⟨v,vs,rfl,VR.ofLit v a h.1,VRs.ofLit vs as h.2⟩
end
end

/-- The operands stand for the program's. -/
def RhoR (φ : Nat → Emb) (H : Heap) (s : T) (ρ : Operand → Value) : Prop:=∀ x y,opdOk x y = true → VR φ H (y.ev s) (ρ x)

theorem RhoR.list {φ : Nat → Emb} {H : Heap} {s : T} {ρ : Operand → Value} (h : RhoR φ H s ρ) : ∀ {xs : List Operand} {ys : List AOpd},opdsOk xs ys = true → VRs φ H (ys.map (AOpd.ev s)) (xs.map ρ)
 | [],[],_ => by simp [VRs]
 | x :: xs,y :: ys,e => by
  simp only [opdsOk,Bool.and_eq_true] at e
  simp only [List.map_cons,VRs]
  exact ⟨_,_,rfl,h x y e.1,RhoR.list h e.2⟩
 | [],_ :: _,e => by simp [opdsOk] at e
 | _ :: _,[],e => by simp [opdsOk] at e

theorem RhoR.step {φ φ' : Nat → Emb} {H H' : Heap} {s : T} {ρ : Operand → Value} (hs : Stp φ H φ' H') (h : RhoR φ H s ρ) : RhoR φ' H' s ρ:=fun x y e => VR.step hs _ _ (h x y e)

/-- What an operation comes to. -/
def Done (CK : CKT) (P : Program) (w0 : World) (K : List Nat) (φ : Nat → Emb) (H : Heap) (w : World) (sem : Sem Next) (v : AV) (H' : Heap) : Prop :=
 ∃ φ' w' r x,sem.run P w = .ok r w' ∧ (r = .value x ∨ (r = .skip ∧ x = undef)) ∧ HR CK w0 K φ' H' w' ∧ VR φ' H' v x ∧ Stp φ H φ' H'

section
variable {CK : CKT} {P : Program} {w0 : World} {K : List Nat} {φ : Nat → Emb} {H H' : Heap} {w : World} {s : T} {ρ : Operand → Value} {v : AV} {fp : FP} {call : CallF} {h0 : Heap}

theorem Done.pure {sem : Sem Next} {x : Value} (hr : HR CK w0 K φ H w) (h : sem.run P w = .ok (.value x) w) (hv : VR φ H v x) : Done CK P w0 K φ H w sem v H :=
 ⟨φ,w,_,x,h,.inl rfl,hr,hv,Stp.refl φ H⟩

theorem app_none {h : Heap} : Eff.app .none h = some h:=rfl

theorem pure1_some {o : Option AV} {v : AV} {fp : FP} (h : pure1 o = some (v,fp)) : o = some v ∧ fp = {}:=by
 unfold pure1 at h
 cases o with
 | none => simp at h
 | some x => simp at h; exact ⟨by rw [h.1],h.2.symm⟩

theorem pure1_app {o : Option AV} (h : pure1 o = some (v,fp)) (ha : fp.eff.app H = some H') : o = some v ∧ H' = H:=by
 obtain ⟨a,rfl⟩:=pure1_some h
 exact ⟨a,by simpa [Eff.app] using ha.symm⟩

/-! ### New blocks -/

theorem Heap.get_grow (H : Heap) (X : AObj) (j : Nat) : Heap.get { H with own:=H.own ++ [X] } j = if j = H.size then X else H.get j:=by
 unfold Heap.get Heap.size
 by_cases h : j < H.N
 ·have : j ≠ H.N + H.own.length:=by omega
  simp [h,this]
 ·simp only [h,if_false]
  by_cases e : j = H.N + H.own.length
  ·subst e; simp
  ·simp only [e,if_false,List.getD_eq_getElem?_getD]
   by_cases l : j - H.N < H.own.length
   ·rw [List.getElem?_append_left l]
   ·rw [List.getElem?_eq_none (by simp; omega),List.getElem?_eq_none (by omega)]

theorem Heap.get_size (H : Heap) : H.get H.size = .hole:=by
 unfold Heap.get Heap.size
 rw [if_neg (by omega)]
 simp

theorem Heap.get_lt {H : Heap} {i : Nat} (h : H.get i ≠ .hole) : i < H.size ∨ i < H.N:=by
 unfold Heap.get Heap.size at *
 by_cases h' : i < H.N
 ·exact .inr h'
 ·simp only [h',if_false] at h
  left
  by_cases l : i - H.N < H.own.length
  ·omega
  ·exact absurd (by simp [List.getElem?_eq_none (Nat.le_of_not_lt l)]) h

theorem Heap.setOwn_eq (H : Heap) (b : Nat) (x : AObj) : H.setOwn b x = { H with own:=H.own.set (b - H.N) x }:=by
 unfold Heap.setOwn; rw [forceL_eq]

theorem Heap.get_setOwn (H : Heap) (b : Nat) (x y : AObj) (hb : ¬ b < H.N) (hy : H.own[b - H.N]? = some y) (j : Nat) : (H.setOwn b x).get j = if j = b then x else H.get j:=by
 rw [Heap.setOwn_eq]
 unfold Heap.get
 have hl : b - H.N < H.own.length:=(List.getElem?_eq_some_iff.1 hy).1
 by_cases h : j < H.N
 ·have : j ≠ b:=by omega
  simp [h,this]
 ·simp only [h,if_false,List.getD_eq_getElem?_getD,List.getElem?_set]
  by_cases e : j = b
  ·subst e; simp [hl]
  ·have : ¬ b - H.N = j - H.N:=by omega
   simp [e,this]

theorem Heap.get_own (H : Heap) (b : Nat) (y : AObj) (hb : ¬ b < H.N) (hy : H.own[b - H.N]? = some y) : H.get b = y:=by
 unfold Heap.get; simp [hb,hy]

theorem mk_spec {n0 : Nat} {j : Option Nat} {X : AObj} (h : (mk H n0 j X).2.app H = some H') :
  H.N ≤ (mk H n0 j X).1 ∧ H.get (mk H n0 j X).1 = .hole ∧ H'.N = H.N ∧ ∀ k,H'.get k = if k = (mk H n0 j X).1 then X else H.get k:=by
 cases j with
 | none =>
  simp only [mk,Eff.app,forceL_eq,Option.some.injEq] at h ⊢
  subst h
  exact ⟨by simp [Heap.size],Heap.get_size H,rfl,Heap.get_grow H X⟩
 | some j =>
  simp only [mk,Eff.app] at h ⊢
  split at h
  ·cases h
  ·rename_i hb
   split at h
   ·rename_i hy
    cases h
    exact ⟨by omega,Heap.get_own H _ _ hb hy,by rw [Heap.setOwn_eq],Heap.get_setOwn H _ X _ hb hy⟩
   ·cases h

theorem Stp.fresh {i : Nat} {X : AObj} {e : Emb} (hh : H.get i = .hole) (hget : ∀ k,H'.get k = if k = i then X else H.get k) : Stp φ H (upd φ i e) H':=fun b => by
 have hb : ∀ o,H.get b = o → o ≠ .hole → H'.get b = o ∧ upd φ i e b = φ b:=by
  intro o ho hne
  have : b ≠ i:=by intro e; subst e; rw [hh] at ho; exact hne ho.symm
  exact ⟨by rw [hget,if_neg this,ho],by simp [upd,this]⟩
 refine ⟨fun g n cs e => ?_,fun es e => ?_,fun st pend s ps x y e => ?_,fun c pos e => ?_⟩
 ·obtain ⟨h1,h2⟩:=hb _ e (by simp); exact ⟨n,cs,h1,Nat.le_refl _,fun _ => h2⟩
 ·obtain ⟨h1,h2⟩:=hb _ e (by simp); exact ⟨es,h1,h2⟩
 ·obtain ⟨h1,h2⟩:=hb _ e (by simp); exact ⟨st,pend,s,ps,x,y,h1,h2⟩
 ·obtain ⟨h1,h2⟩:=hb _ e (by simp); exact ⟨c,pos,h1,h2⟩

theorem heap_push_same {w : World} {o : Obj} (r : Nat) (h : r < w.heap.size) : (w.heap.push o)[r]? = w.heap[r]?:=by
 rw [Array.getElem?_push]; split <;> simp_all

/-- A new row of cells. -/
theorem new_cells (hr : HR CK w0 K φ H w) {n0 : Nat} {j : Option Nat} {g n : Nat} {cs : List AV} {c : Array Value} {t : TypeId}
  (hm : (mk H n0 j (.cells g n cs)).2.app H = some H') (hv : VRs φ H cs (c.toList.take cs.length)) (hl : cs.length ≤ c.size) (h1 : ∀ x ∈ c.toList,Value.oneCell' x = true) :
  HR CK w0 K (upd φ (mk H n0 j (.cells g n cs)).1 ⟨w.heap.size,0,c.size⟩) H' { w with heap:=w.heap.push (.cells c t) } ∧
  Stp φ H (upd φ (mk H n0 j (.cells g n cs)).1 ⟨w.heap.size,0,c.size⟩) H' ∧ H'.get (mk H n0 j (.cells g n cs)).1 = .cells g n cs:=by
 obtain ⟨hi,hh,hN,hget⟩:=mk_spec hm
 generalize (mk H n0 j (.cells g n cs)).1 = i at *
 have hs : Stp φ H (upd φ i ⟨w.heap.size,0,c.size⟩) H':=Stp.fresh hh hget
 refine ⟨HR.upd hr i hi (.cells g n cs) _ hN hget (by simp) (fun r hr' _ => heap_push_same r hr') (.inr (Nat.le_refl _)) rfl hs ?_ ?_,hs,by rw [hget]; simp⟩
 ·refine ⟨c,t,(0,0),by simp,by simp,hl,fun k v hk => ?_⟩
  obtain ⟨x,hx,hvx⟩:=VRs.get hv hk
  have hk' : k < cs.length:=(List.getElem?_eq_some_iff.1 hk).1
  rw [List.getElem?_take_of_lt hk'] at hx
  refine ⟨x,by simpa using hx,VR.step hs _ _ hvx,h1 x (List.mem_of_getElem? hx)⟩
 ·intro c' t' fr e; simp at e; exact e.2.2.symm

end
end Go.AEv

set_option linter.unusedVariables false
set_option linter.unusedSimpArgs false
namespace Go.AEv
section
variable {CK : CKT} {P : Program} {w0 : World} {K : List Nat} {φ : Nat → Emb} {H H' : Heap} {w : World} {s : T} {ρ : Operand → Value} {v : AV} {fp : FP} {call : CallF} {h0 : Heap}

def sizeOk (P : Program) (t : TypeId) (n : Nat) : Bool:=match P.info? t with | some i => i.size == n | none => false
def bytesOk (P : Program) (t : TypeId) (n : Nat) : Bool:=match P.info? t with | some i => i.bytes == n | none => false
def zeroOk (P : Program) (t : TypeId) (z : List AV) : Bool :=
 match P.info? t with
 | some i => match i.zero with
  | some v => litsOk v.cells.toList z && v.cells.toList.all Value.oneCell'
  | none => false
 | none => false
def kOk (P : Program) (t : TypeId) (k : Option Nat) : Bool :=
 match P.underlying t,k with
 | some (.struct _),some n | some (.array _ _),some n => sizeOk P t n
 | some (.struct _),none | some (.array _ _),none => false
 | some _,none => true
 | _,_ => false
def sliceElem (P : Program) (t : TypeId) (g : Nat) : Bool:=match P.underlying t with | some (.slice e) => sizeOk P e g | _ => false

theorem run_und {t : TypeId} {d : TypeDesc} (h : P.underlying t = some d) : (underlying t).run P w = .ok d w:=run_underlying h w
theorem run_info {t : TypeId} {i : TypeInfo} (h : P.info? t = some i) : (typeInfo t).run P w = .ok i w:=by
 simp [typeInfo,h]
theorem run_size {t : TypeId} {n : Nat} (h : sizeOk P t n = true) : (sizeOf t).run P w = .ok n w:=by
 unfold sizeOk at h
 split at h
 ·rename_i i hi
  simp only [sizeOf,Sem.run_bind,run_info hi,Result.andThen_ok,Sem.run_pure]
  rw [eq_of_beq h]
 ·cases h
theorem run_zero {t : TypeId} {z : List AV} (h : zeroOk P t z = true) : ∃ v,(zeroValue t).run P w = .ok v w ∧ (∀ φ H,VRs φ H z v.cells.toList) ∧ ∀ x ∈ v.cells.toList,Value.oneCell' x = true:=by
 unfold zeroOk at h
 split at h
 ·rename_i i hi
  split at h
  ·rename_i v hv
   simp only [Bool.and_eq_true] at h
   refine ⟨v,?_,fun φ H => VRs.ofLit _ _ h.1,fun x hx => (List.all_eq_true.1 h.2) x hx⟩
   simp only [zeroValue,Sem.run_bind,run_info hi,Result.andThen_ok,hv,Sem.run_pure]
  ·cases h
 ·cases h
theorem run_isAgg {t : TypeId} {k : Option Nat} (h : kOk P t k = true) : (isAgg t).run P w = .ok k.isSome w:=by
 unfold kOk at h
 cases hu : P.underlying t with
 | none => rw [hu] at h; simp at h
 | some d =>
  rw [hu] at h
  simp only [isAgg,Sem.run_bind,run_und hu,Result.andThen_ok]
  cases d <;> cases k <;> first | rfl | simp at h
theorem kOk_size {t : TypeId} {n : Nat} (h : kOk P t (some n) = true) : sizeOk P t n = true:=by
 unfold kOk at h
 split at h <;> simp_all

/-! ### Cells -/

theorem VRs.drop : ∀ {n : Nat} {vs : List AV} {xs : List Value},VRs φ H vs xs → VRs φ H (vs.drop n) (xs.drop n)
 | 0,vs,xs,h => by simpa using h
 | n + 1,[],xs,h => by simp only [VRs] at h; subst h; simp [VRs]
 | n + 1,v :: vs,xs,h => by
  simp only [VRs] at h
  obtain ⟨y,ys,rfl,_,h2⟩:=h
  simpa using VRs.drop (n:=n) h2
theorem VRs.take : ∀ {n : Nat} {vs : List AV} {xs : List Value},VRs φ H vs xs → VRs φ H (vs.take n) (xs.take n)
 | 0,vs,xs,h => by simp [VRs]
 | n + 1,[],xs,h => by simp only [VRs] at h; subst h; simp [VRs]
 | n + 1,v :: vs,xs,h => by
  simp only [VRs] at h
  obtain ⟨y,ys,rfl,h1,h2⟩:=h
  simp only [List.take_succ_cons,VRs]
  exact ⟨y,ys.take n,rfl,h1,VRs.take h2⟩
theorem VRs.set : ∀ {n : Nat} {vs : List AV} {xs : List Value} {v : AV} {x : Value},VRs φ H vs xs → VR φ H v x → VRs φ H (vs.set n v) (xs.set n x)
 | n,[],xs,v,x,h,hv => by simp only [VRs] at h; subst h; simp [VRs]
 | 0,a :: vs,xs,v,x,h,hv => by
  simp only [VRs] at h
  obtain ⟨y,ys,rfl,h1,h2⟩:=h
  simp only [List.set_cons_zero,VRs]
  exact ⟨x,ys,rfl,hv,h2⟩
 | n + 1,a :: vs,xs,v,x,h,hv => by
  simp only [VRs] at h
  obtain ⟨y,ys,rfl,h1,h2⟩:=h
  simp only [List.set_cons_succ,VRs]
  exact ⟨y,ys.set n x,rfl,h1,VRs.set h2 hv⟩

theorem addr_add (b o n : Nat) : (⟨b,o,none⟩ : Addr).add n = ⟨b,o + n,none⟩:=by
 unfold Addr.add; split <;> simp_all

/-- What a live address reads as. -/
theorem cells_at (hr : HR CK w0 K φ H w) {b g n : Nat} {cs : List AV} (hg : H.get b = .cells g n cs) {j : Nat} {v : AV} (hv : cs[j]? = some v) :
  ∃ x,w.cell? ⟨(φ b).blk,(φ b).off + j,none⟩ = some x ∧ VR φ H v x ∧ Value.oneCell' x = true:=by
 have ho:=hr.obj b
 rw [hg] at ho
 obtain ⟨c,t,fr,h1,h2,h3,h4⟩:=ho
 obtain ⟨x,hx,hvx,hc⟩:=h4 j v hv
 exact ⟨x,by simp [World.cell?,h1,hx],hvx,hc⟩

theorem takeA_spec {k : Option Nat} {cs : List AV} {o : Nat} {v : AV} (h : takeA k cs o = some v) :
  (k = none ∧ cs[o]? = some v) ∨ (∃ m,k = some m ∧ v = .agg ((cs.drop o).take m) ∧ ((cs.drop o).take m).length = m):=by
 unfold takeA at h
 cases k with
 | none => exact .inl ⟨rfl,h⟩
 | some m =>
  simp only at h
  split at h
  ·rename_i hl; cases h; exact .inr ⟨m,rfl,rfl,hl⟩
  ·cases h

/-- A range of cells,as the world has it. -/
theorem range_at (hr : HR CK w0 K φ H w) {b g n : Nat} {cs : List AV} (hg : H.get b = .cells g n cs) (o m : Nat) (hl : ((cs.drop o).take m).length = m) :
  ∃ xs : List Value,xs.length = m ∧ VRs φ H ((cs.drop o).take m) xs ∧ (∀ x ∈ xs,Value.oneCell' x = true) ∧ ∀ j x,xs[j]? = some x → w.cell? ((⟨(φ b).blk,(φ b).off + o,none⟩ : Addr).add j) = some x:=by
 have ho:=hr.obj b
 rw [hg] at ho
 obtain ⟨c,t,fr,h1,h2,h3,h4⟩:=ho
 have hlen : o + m ≤ cs.length ∨ m = 0:=by simp at hl; omega
 rcases hlen with hlen | rfl
 ·refine ⟨(c.toList.drop ((φ b).off + o)).take m,by simp; omega,?_,?_,?_⟩
  ·refine VRs.ofGet (by simp; omega) fun i a x ha hx => ?_
   have hi : i < m:=by
    have:=(List.getElem?_eq_some_iff.1 ha).1; simp at this; omega
   rw [List.getElem?_take_of_lt hi,List.getElem?_drop] at ha hx
   obtain ⟨y,hy,hvy,_⟩:=h4 _ _ ha
   have : y = x:=by
    have hx' : c[(φ b).off + o + i]? = some x:=by simpa using hx
    rw [← Nat.add_assoc] at hy
    rw [hy] at hx'; exact Option.some.inj hx'
   exact this ▸ hvy
  ·intro x hx
   obtain ⟨i,hi⟩:=List.mem_iff_getElem?.1 hx
   have hi' : i < m:=by
    have:=(List.getElem?_eq_some_iff.1 hi).1; simp at this; omega
   rw [List.getElem?_take_of_lt hi',List.getElem?_drop] at hi
   have hc : o + i < cs.length:=by omega
   obtain ⟨y,hy,_,h⟩:=h4 (o + i) cs[o + i] (by simp [hc])
   have : y = x:=by
    have hx' : c[(φ b).off + o + i]? = some x:=by simpa using hi
    rw [← Nat.add_assoc] at hy
    rw [hy] at hx'; exact Option.some.inj hx'
   exact this ▸ h
  ·intro j x hx
   have hi' : j < m:=by
    have:=(List.getElem?_eq_some_iff.1 hx).1; simp at this; omega
   rw [List.getElem?_take_of_lt hi',List.getElem?_drop] at hx
   rw [addr_add]
   simp only [World.cell?,h1]
   simpa using hx
 ·exact ⟨[],rfl,by simp [VRs],by simp,by simp⟩

theorem loadA_sim (hr : HR CK w0 K φ H w) {t : TypeId} {k : Option Nat} {p v : AV} {x : Value} (hk : kOk P t k = true) (hx : VR φ H p x) (h : loadA H k p = some v) :
  ∃ a y,x = .pointer (some a) ∧ (loadVar t a).run P w = .ok y w ∧ VR φ H v y:=by
 unfold loadA at h
 split at h
 ·rename_i b o ver
  simp only [VR] at hx
  obtain ⟨a,g,n,cs,rfl,hg,hv,ha⟩:=hx
  rw [hg] at h
  simp only at h
  split at h
  ·rename_i hn
   obtain rfl:=ha hn.symm
   rcases takeA_spec h with ⟨rfl,hc⟩ | ⟨m,rfl,rfl,hl⟩
   ·obtain ⟨y,hy,hvy,_⟩:=cells_at hr hg hc
    refine ⟨_,y,rfl,?_,hvy⟩
    simp only [loadVar,Sem.run_bind,run_isAgg hk,Result.andThen_ok,Option.isSome_none,Bool.false_eq_true,if_false,run_load,hy]
   ·obtain ⟨xs,hxl,hxs,hxc,hxa⟩:=range_at hr hg o m hl
    refine ⟨_,.agg xs.toArray,rfl,?_,?_⟩
    ·have:=run_loadCells_list (P:=P) w _ xs hxa
     rw [hxl] at this
     simp only [loadVar,Sem.run_bind,run_isAgg hk,Result.andThen_ok,Option.isSome_some,if_true,run_size (kOk_size hk),this,Sem.run_pure]
    ·simp only [VR]
     exact ⟨xs.toArray,rfl,by simpa using hxs,by simpa using hxc⟩
  ·cases h
 ·cases h

theorem putAt_eq : ∀ (vs cs : List AV) (o : Nat),o + vs.length ≤ cs.length → putAt cs o vs = cs.take o ++ vs ++ cs.drop (o + vs.length)
 | [],cs,o,h => by simp [putAt]
 | v :: vs,cs,o,h => by
  simp only [List.length_cons] at h
  simp only [putAt]
  rw [putAt_eq vs _ _ (by simp; omega)]
  apply List.ext_getElem?
  intro i
  simp only [List.length_cons]
  by_cases h1 : i < o
  ·have l1 : i < ((cs.set o v).take (o + 1) ++ vs).length:=by simp; omega
   have l2 : i < ((cs.set o v).take (o + 1)).length:=by simp; omega
   have l3 : i < (cs.take o ++ v :: vs).length:=by simp; omega
   have l4 : i < (cs.take o).length:=by simp; omega
   rw [List.getElem?_append_left l1,List.getElem?_append_left l2,List.getElem?_append_left l3,List.getElem?_append_left l4]
   rw [List.getElem?_take_of_lt (by omega),List.getElem?_take_of_lt h1,List.getElem?_set]
   simp; omega
  ·by_cases h2 : i < o + 1 + vs.length
   ·have l1 : i < ((cs.set o v).take (o + 1) ++ vs).length:=by simp; omega
    have l3 : i < (cs.take o ++ v :: vs).length:=by simp; omega
    rw [List.getElem?_append_left l1,List.getElem?_append_left l3]
    rw [List.getElem?_append_right (l₁:=cs.take o) (by simp; omega)]
    have e1 : (cs.take o).length = o:=by simp; omega
    rw [e1]
    by_cases h3 : i = o
    ·subst h3
     rw [List.getElem?_append_left (by simp; omega),List.getElem?_take_of_lt (by omega),List.getElem?_set]
     simp; omega
    ·have e2 : ((cs.set o v).take (o + 1)).length = o + 1:=by simp; omega
     rw [List.getElem?_append_right (by omega),e2]
     have : i - o = (i - (o + 1)) + 1:=by omega
     rw [this]; simp
   ·have e2 : ((cs.set o v).take (o + 1) ++ vs).length = o + 1 + vs.length:=by simp; omega
    have e3 : (cs.take o ++ v :: vs).length = o + (vs.length + 1):=by simp; omega
    rw [List.getElem?_append_right (by omega),List.getElem?_append_right (by omega),e2,e3]
    rw [List.getElem?_drop,List.getElem?_drop,List.getElem?_set]
    have : ¬ o = o + 1 + vs.length + (i - (o + 1 + vs.length)):=by omega
    simp only [this,if_false]
    congr 1; omega

/-- A block of one's own changes. -/
theorem own_upd (hr : HR CK w0 K φ H w) {b g n n' : Nat} {cs cs' : List AV} {c' : Array Value} {t : TypeId} {c : Array Value} {fr : Nat × Nat} (hb : ¬ b < H.N) (hy : H.own[b - H.N]? = some (.cells g n cs))
  (hw : w.heap[(φ b).blk]? = some (.cells c t fr)) (hsz : c'.size = c.size) (hn : n ≤ n') (hl : cs'.length ≤ (φ b).ext)
  (hv : ∀ (j : Nat) v,cs'[j]? = some v → ∃ x,c'[j]? = some x ∧ VR φ H v x ∧ Value.oneCell' x = true) :
  HR CK w0 K φ (H.setOwn b (.cells g n' cs')) (w.setRow (φ b).blk c') ∧ Stp φ H φ (H.setOwn b (.cells g n' cs')):=by
 have hg:=Heap.get_own H b _ hb hy
 have hs : Stp φ H φ (H.setOwn b (.cells g n' cs')):=by
  intro k
  have hgk:=Heap.get_setOwn H b (.cells g n' cs') _ hb hy k
  by_cases hk : k = b
  ·subst hk
   simp only [if_true] at hgk
   refine ⟨fun g1 n1 cs1 e => ?_,fun es e => ?_,fun st pend s ps x y e => ?_,fun c pos e => ?_⟩
   ·rw [hg] at e; cases e; exact ⟨n',cs',hgk,hn,fun _ => rfl⟩
   ·rw [hg] at e; cases e
   ·rw [hg] at e; cases e
   ·rw [hg] at e; cases e
  ·simp only [hk,if_false] at hgk
   exact ⟨fun g1 n1 cs1 e => ⟨n1,cs1,by rw [hgk,e],Nat.le_refl _,fun _ => rfl⟩,fun es e => ⟨es,by rw [hgk,e],rfl⟩,fun st pend s ps x y e => ⟨st,pend,s,ps,x,y,by rw [hgk,e],rfl⟩,fun c pos e => ⟨c,pos,by rw [hgk,e],rfl⟩⟩
 have hf : (0,0) = fr:=((hr.own b (by omega) (by rw [hg]; simp)).2.2 _ _ _ hw).symm
 subst hf
 have hoff:=(hr.own b (by omega) (by rw [hg]; simp)).2.1
 have hlt : (φ b).blk < w.heap.size:=(Array.getElem?_eq_some_iff.1 hw).1
 have hrow : (w.setRow (φ b).blk c').heap[(φ b).blk]? = some (.cells c' t (0,0)):=setRow_heap w _ c _ t _ hw
 have hphi : upd φ b (φ b) = φ:=by funext k; unfold upd; split <;> simp_all
 have ho:=hr.obj b
 rw [hg] at ho
 obtain ⟨c2,t2,fr2,h1,h2,h3,h4⟩:=ho
 rw [hw] at h1; cases h1
 have main:=HR.upd hr b (by omega) (.cells g n' cs') (φ b) (H':=H.setOwn b (.cells g n' cs')) (w':=w.setRow (φ b).blk c') (by rw [Heap.setOwn_eq]) (Heap.get_setOwn H b _ _ hb hy)
  (by simp [World.setRow]) (fun r hr' hne => by simp only [World.setRow]; rw [Array.getElem?_modify]; simp [Ne.symm hne]) (.inl ⟨rfl,by rw [hg]; simp⟩) hoff (by rw [hphi]; exact hs) ?_ ?_
 ·rw [hphi] at main; exact ⟨main,hs⟩
 ·rw [hphi]
  refine ⟨c',t,(0,0),hrow,by omega,hl,fun j v hj => ?_⟩
  obtain ⟨x,hx,hvx,hc⟩:=hv j v hj
  exact ⟨x,by rw [hoff]; simpa using hx,VR.step hs _ _ hvx,hc⟩
 ·intro c3 t3 fr3 e; rw [hrow] at e; cases e; rfl

/-- Cells written into a block of one's own. -/
theorem put_sim (hr : HR CK w0 K φ H w) {b ver o : Nat} {vs : List AV} {xs : List Value} {a : Addr} (hp : VR φ H (.ptr b o ver) (.pointer (some a))) (hv : VRs φ H vs xs) (h1 : ∀ x ∈ xs,Value.oneCell' x = true)
  (h : (Eff.put b ver o vs).app H = some H') : ∃ w',(storeCells a xs).run P w = .ok () w' ∧ HR CK w0 K φ H' w' ∧ Stp φ H φ H':=by
 simp only [Eff.app] at h
 split at h
 ·cases h
 ·rename_i hb
  split at h
  ·rename_i g n cs hy
   split at h
   ·rename_i hc
    obtain ⟨rfl,hlen⟩:=hc
    rw [forceL_eq] at h
    cases h
    have hg:=Heap.get_own H b _ hb hy
    simp only [VR] at hp
    obtain ⟨a',g',n',cs',e,hg',hle,ha⟩:=hp
    cases e
    rw [hg] at hg'; cases hg'
    obtain rfl:=ha rfl
    have ho:=hr.obj b
    rw [hg] at ho
    obtain ⟨c,t,fr,hw,h2,h3,h4⟩:=ho
    have hoff:=(hr.own b (by omega) (by rw [hg]; simp)).2.1
    have hf:=(hr.own b (by omega) (by rw [hg]; simp)).2.2 _ _ _ hw
    subst hf
    have hxl:=hv.length
    rw [hoff] at h2 h4 ⊢
    have hst:=run_storeCells_at P (φ b).blk o t xs 0 c w hw (by omega) h1
    simp only [Nat.zero_add,Nat.add_zero] at hst ⊢
    have hown:=own_upd hr (n':=n) (cs':=putAt cs o vs) (c':=(c.toList.take o ++ xs ++ c.toList.drop (o + xs.length)).toArray) hb hy hw (by simp; omega) (Nat.le_refl _)
     (by rw [putAt_eq _ _ _ hlen]; simp; omega)
    refine ⟨_,hst,hown ?_⟩
    ·intro j v hj
     rw [putAt_eq _ _ _ hlen] at hj
     simp only [List.getElem?_toArray]
     have e1 : (cs.take o).length = o:=by simp; omega
     have e2 : (c.toList.take o).length = o:=by simp; omega
     by_cases l1 : j < o
     ·rw [List.append_assoc,List.getElem?_append_left (by omega),List.getElem?_take_of_lt l1] at hj ⊢
      obtain ⟨x,hx,hvx,hc⟩:=h4 j v hj
      exact ⟨x,by simpa using hx,hvx,hc⟩
     ·by_cases l2 : j < o + vs.length
      ·rw [List.append_assoc,List.getElem?_append_right (by omega),List.getElem?_append_left (by omega),e1] at hj
       rw [List.append_assoc,List.getElem?_append_right (by omega),List.getElem?_append_left (by omega),e2]
       obtain ⟨x,hx,hvx⟩:=VRs.get hv hj
       exact ⟨x,hx,hvx,h1 x (List.mem_of_getElem? hx)⟩
      ·have e3 : (cs.take o ++ vs).length = o + vs.length:=by simp; omega
       have e4 : (c.toList.take o ++ xs).length = o + vs.length:=by simp; omega
       rw [List.getElem?_append_right (by omega),e3,List.getElem?_drop] at hj
       rw [List.getElem?_append_right (by omega),e4,List.getElem?_drop,hxl]
       have e5 : o + vs.length + (j - (o + vs.length)) = j:=by omega
       rw [e5] at hj ⊢
       obtain ⟨x,hx,hvx,hc⟩:=h4 j v hj
       exact ⟨x,by simpa using hx,hvx,hc⟩
   ·cases h
  ·cases h

theorem store_sim (hr : HR CK w0 K φ H w) {t : TypeId} {n : Nat} {b o ver : Nat} {c : List AV} {vv : AV} {x y : Value} (hs : sizeOk P t n = true) (hx : VR φ H (.ptr b o ver) x) (hy : VR φ H vv y) (hc : vv.cells = some c) (hl : c.length = n)
  (h : (Eff.put b ver o c).app H = some H') : ∃ w',(Instr.storeAt t x y).run P w = .ok () w' ∧ HR CK w0 K φ H' w' ∧ Stp φ H φ H':=by
 obtain ⟨hv,h1⟩:=VR.cells hy hc
 have hx':=hx
 simp only [VR] at hx'
 obtain ⟨a,g,m,cs,rfl,hg,hle,ha⟩:=hx'
 obtain ⟨w',hw',r1,r2⟩:=put_sim (P:=P) hr hx hv h1 h
 refine ⟨w',?_,r1,r2⟩
 have hlen:=hv.length
 have : y.cells.size = n:=by simpa using hlen.trans hl
 simp only [Instr.storeAt,Instr.sureAddr,Sem.run_bind,Sem.run_pure,Result.andThen_ok,storeVar,run_size hs,this,ne_eq,not_true_eq_false,if_false,hw']

end
end Go.AEv

set_option linter.unusedVariables false
set_option linter.unusedSimpArgs false
namespace Go.AEv
section
variable {CK : CKT} {P : Program} {w0 : World} {K : List Nat} {φ : Nat → Emb} {H H' : Heap} {w : World} {s : T} {ρ : Operand → Value} {v : AV} {fp : FP} {call : CallF} {h0 : Heap}

/-- A value that is reckoned without memory. -/
def Val (P : Program) (w : World) (φ : Nat → Emb) (H : Heap) (sem : Sem Value) (v : AV) : Prop:=∃ x,sem.run P w = .ok x w ∧ VR φ H v x

theorem Val.pure {x : Value} {sem : Sem Value} (h : sem.run P w = .ok x w) (hv : VR φ H v x) : Val P w φ H sem v:=⟨x,h,hv⟩

theorem bin_sim {op : BinOp} {t : TypeId} {x y : Operand} {a b : AV} {u z : Value} (ha : VR φ H a u) (hb : VR φ H b z) (h : evBin op a b = some v) :
  Val P w φ H (do eqGuard op t x y u z; binOp op t u z) v:=by
 unfold evBin at h
 split at h
 ·rename_i k a k' b
  simp only [VR] at ha hb
  subst ha; subst hb
  have hg : (eqGuard op t x y (.int k a) (.int k' b)).run P w = .ok () w:=by
   unfold eqGuard
   cases op <;> rfl
  simp only [Val,Sem.run_bind,hg,Result.andThen_ok]
  cases op
  case shl => simp only at h; split at h <;> simp_all [binOp,Op.shift,VR] <;> (subst h; simp [VR]; intro hh; omega)
  case shr => simp only at h; split at h <;> simp_all [binOp,Op.shift,VR] <;> (subst h; simp [VR]; intro hh; omega)
  all_goals
   simp only at h
   split at h
   ·cases h
   ·rename_i hk
    have hk' : k = k':=by simpa using hk
    subst hk'
    first
     | (cases h; exact ⟨_,rfl,rfl⟩)
     | (simp only [Option.some.injEq] at h; subst h; exact ⟨_,by simp [binOp,Op.intArith,Op.intBits,Op.intCmp]; rfl,by simp [VR]⟩)
     | (split at h
        · cases h
        · rename_i hz
          simp only [Option.some.injEq] at h; subst h
          exact ⟨_,by simp [binOp,Op.intDiv,hz]; rfl,by simp [VR]⟩)
     | simp at h
 ·rename_i a b
  simp only [VR] at ha hb
  subst ha; subst hb
  have hg : (eqGuard op t x y (.string ⟨a.toArray⟩) (.string ⟨b.toArray⟩)).run P w = .ok () w:=by
   unfold eqGuard
   cases op <;> rfl
  have hl : ∀ l : List UInt8,(ByteArray.mk l.toArray).toList = l:=by
   intro l; exact ByteArray.toList_mk l
  simp only [Val,Sem.run_bind,hg,Result.andThen_ok]
  cases op
  case add =>
   simp only at h
   split at h
   ·rename_i hle
    simp only [Option.some.injEq] at h; subst h
    refine ⟨.string ⟨(a ++ b).toArray⟩,?_,by simp [VR]⟩
    simp only [binOp,Op.stringOp]
    have : ¬ (((ByteArray.mk a.toArray).size + (ByteArray.mk b.toArray).size : Nat) : Int) > IntKind.i64.max:=by
     simp [ByteArray.size,IntKind.max,IntKind.signed,IntKind.bits]; omega
    rw [if_neg this]
    simp only [Sem.run_pure]
    congr 2
   ·cases h
  all_goals first
   | (simp only [Option.some.injEq] at h; subst h; exact ⟨_,by simp only [binOp,Op.stringOp,hl,Sem.run_pure]; rfl,by simp [VR]⟩)
   | (simp at h)
 ·cases h


theorem un_sim {op : UnOp} {a : AV} {u : Value} (ha : VR φ H a u) (h : evUn op a = some v) : Val P w φ H (Op.unary op u) v:=by
 unfold evUn at h
 split at h
 ·simp only [VR] at ha
  subst ha
  cases op <;> simp at h
  subst h
  exact ⟨_,rfl,by simp [VR]⟩
 ·simp only [VR] at ha
  subst ha
  cases op <;> simp at h
  subst h
  exact ⟨_,rfl,by simp [VR]⟩
 ·cases h

def eqkOk : Nat → TypeDesc → Bool
 | 0,.bool | 1,.pointer _ | 2,.slice _ | 3,.func _ _ _ | 4,.map _ _ => true
 | _,_ => false

theorem eqk_sim {t : TypeId} {d : TypeDesc} {k : Nat} {a b : AV} {u z : Value} {r : Bool} (hu : P.underlying t = some d) (hk : eqkOk k d = true) (ha : VR φ H a u) (hb : VR φ H b z) (h : eqk k a b = some r) :
  (Op.equal t u z).run P w = .ok r w:=by
 obtain ⟨dp,hd⟩ : ∃ dp,Op.maxDepth = dp + 1:=⟨9999,rfl⟩
 have he : Op.equal t u z = Op.equalIn (dp + 1) t u z:=by unfold Op.equal; rw [hd]
 rw [he]
 clear hd he
 rcases k with _ | _ | _ | _ | _ | k
 all_goals (cases d <;> simp only [eqkOk,Bool.false_eq_true] at hk)
 all_goals (unfold eqk at h; split at h)
 all_goals first | (exfalso; omega) | cases h | skip
 all_goals simp only [VR] at ha hb
 ·subst ha; subst hb; simp only [Op.equalIn,Sem.run_bind,run_und hu,Result.andThen_ok,Sem.run_pure]
 ·subst ha; subst hb; simp only [Op.equalIn,Sem.run_bind,run_und hu,Result.andThen_ok,Sem.run_pure,Option.isNone_none]
 ·obtain ⟨a1,a2,a3,a4,rfl,_⟩:=hb; subst ha; simp only [Op.equalIn,Sem.run_bind,run_und hu,Result.andThen_ok,Sem.run_pure,Option.isNone_some]
 ·obtain ⟨a1,a2,a3,a4,rfl,_⟩:=ha; subst hb; simp only [Op.equalIn,Sem.run_bind,run_und hu,Result.andThen_ok,Sem.run_pure]
 ·subst ha; subst hb; simp only [Op.equalIn,Sem.run_bind,run_und hu,Result.andThen_ok,Sem.run_pure,Option.isNone_none]
 ·obtain ⟨a1,a2,a3,a4,a5,rfl,_⟩:=hb; subst ha; simp only [Op.equalIn,Sem.run_bind,run_und hu,Result.andThen_ok,Sem.run_pure,Option.isNone_some]
 ·obtain ⟨a1,a2,a3,a4,a5,rfl,_⟩:=ha; subst hb; simp only [Op.equalIn,Sem.run_bind,run_und hu,Result.andThen_ok,Sem.run_pure]
 ·obtain ⟨a1,a2,rfl⟩:=hb; subst ha; simp only [Op.equalIn,Sem.run_bind,run_und hu,Result.andThen_ok,Sem.run_pure,Option.isNone_some]
 ·obtain ⟨a1,a2,rfl⟩:=ha; subst hb; simp only [Op.equalIn,Sem.run_bind,run_und hu,Result.andThen_ok,Sem.run_pure]
 ·subst ha; subst hb; simp only [Op.equalIn,Sem.run_bind,run_und hu,Result.andThen_ok,Sem.run_pure]
 ·obtain ⟨a1,rfl,_⟩:=hb; subst ha; simp only [Op.equalIn,Sem.run_bind,run_und hu,Result.andThen_ok,Sem.run_pure]
 ·obtain ⟨a1,rfl,_⟩:=ha; subst hb; simp only [Op.equalIn,Sem.run_bind,run_und hu,Result.andThen_ok,Sem.run_pure]
 ·subst ha; subst hb; simp only [Op.equalIn,Sem.run_bind,run_und hu,Result.andThen_ok,Sem.run_pure,Option.isNone_none]
 ·obtain ⟨a1,rfl,_⟩:=hb; subst ha; simp only [Op.equalIn,Sem.run_bind,run_und hu,Result.andThen_ok,Sem.run_pure,Option.isNone_some]
 ·obtain ⟨a1,rfl,_⟩:=ha; subst hb; simp only [Op.equalIn,Sem.run_bind,run_und hu,Result.andThen_ok,Sem.run_pure]

end
end Go.AEv

set_option linter.unusedVariables false
set_option linter.unusedSimpArgs false
namespace Go.AEv

def layF (P : Program) (rec : TypeId → Option (List LK)) : List Field → Nat → Option (List LK)
 | [],_ => some []
 | f :: fs,o =>
  if f.name ≠ "_" ∧ f.offset = o then
   match rec f.type with
   | some L => if sizeOk P f.type L.length then (layF P rec fs (o + L.length)).map (L ++ ·) else none
   | none => none
  else none

def layT (P : Program) : Nat → TypeId → Option (List LK)
 | 0,_ => none
 | d + 1,t =>
  match P.underlying t with
  | some .bool => some [.b]
  | some (.int k) => some [.i k]
  | some .string => some [.s]
  | some (.struct fs) => if P.stoodInHeld t then none else layF P (layT P d) fs.toList 0
  | some (.array n e) =>
   match layT P d e with
   | some L => if sizeOk P e L.length then some (List.replicate n L).flatten else none
   | none => none
  | _ => none

section
variable {P : Program} {φ : Nat → Emb} {H : Heap} {w : World}

theorem fits_length : ∀ {L : List LK} {vs : List AV},fits L vs = true → vs.length = L.length
 | [],[],_ => rfl
 | k :: ks,v :: vs,h => by simp only [fits,Bool.and_eq_true] at h; simp [fits_length h.2]
 | [],_ :: _,h => by simp [fits] at h
 | _ :: _,[],h => by simp [fits] at h

theorem fits_append : ∀ {L M : List LK} {vs : List AV},fits (L ++ M) vs = true → fits L (vs.take L.length) = true ∧ fits M (vs.drop L.length) = true
 | [],M,vs,h => by simpa [fits] using h
 | k :: L,M,[],h => by simp [fits] at h
 | k :: L,M,v :: vs,h => by
  simp only [List.cons_append,fits,Bool.and_eq_true] at h
  have:=fits_append h.2
  simp only [List.length_cons,List.take_succ_cons,List.drop_succ_cons,fits,Bool.and_eq_true]
  exact ⟨⟨h.1,this.1⟩,this.2⟩

theorem allEq_split : ∀ (n : Nat) (vs ws : List AV),vs.length = ws.length → allEq vs ws = (allEq (vs.take n) (ws.take n) && allEq (vs.drop n) (ws.drop n))
 | 0,vs,ws,_ => by simp [allEq]
 | n + 1,[],[],_ => by simp [allEq]
 | n + 1,v :: vs,w :: ws,h => by
  simp only [List.take_succ_cons,List.drop_succ_cons,allEq]
  rw [allEq_split n vs ws (by simpa using h),Bool.and_assoc]
 | n + 1,[],w :: ws,h => by simp at h
 | n + 1,v :: vs,[],h => by simp at h

/-- A loop that stops at the first 'no'. -/
theorem run_forIn_all {α : Type} (l : List α) (B : α → Option Bool × Unit → Sem (ForInStep (Option Bool × Unit))) (e : α → Bool)
  (h : ∀ a ∈ l,(B a (none,())).run P w = .ok (if e a then .yield (none,()) else .done (some false,())) w) :
  (forIn l ((none,()) : Option Bool × Unit) B).run P w = .ok (if l.all e then (none,()) else (some false,())) w:=by
 induction l with
 | nil => simp
 | cons a l ih =>
  simp only [List.forIn_cons,Sem.run_bind,h a (by simp),Result.andThen_ok,List.all_cons]
  by_cases ha : e a = true
  ·simp only [ha,if_true,Bool.true_and]
   exact ih fun b hb => h b (by simp [hb])
  ·simp [ha]

/-- The scalars. -/
theorem eq_scalar {d : Nat} {t : TypeId} {k : LK} {a b : AV} {x y : Value} (hk : P.underlying t = some (match k with | .b => .bool | .i k => .int k | .s => .string))
  (fa : k.fits a = true) (fb : k.fits b = true) (ha : VR φ H a x) (hb : VR φ H b y) : (Op.equalIn (d + 1) t x y).run P w = .ok (aveq a b == some true) w:=by
 cases k with
 | b =>
  cases a <;> simp only [LK.fits,Bool.false_eq_true] at fa
  cases b <;> simp only [LK.fits,Bool.false_eq_true] at fb
  simp only [VR] at ha hb; subst ha; subst hb
  simp [Op.equalIn,run_und hk,aveq]
 | i q =>
  cases a <;> simp only [LK.fits,Bool.false_eq_true,beq_iff_eq] at fa
  cases b <;> simp only [LK.fits,Bool.false_eq_true,beq_iff_eq] at fb
  subst fa; subst fb
  simp only [VR] at ha hb; subst ha; subst hb
  simp [Op.equalIn,run_und hk,aveq]
 | s =>
  cases a <;> simp only [LK.fits,Bool.false_eq_true] at fa
  cases b <;> simp only [LK.fits,Bool.false_eq_true] at fb
  rename_i l m
  simp only [VR] at ha hb; subst ha; subst hb
  simp only [Op.equalIn,Sem.run_bind,run_und hk,Result.andThen_ok,Sem.run_pure,aveq]
  have e : ∀ a b : ByteArray,(a == b) = (a.data == b.data):=fun a b => by cases a; cases b; rfl
  rw [e]
  congr 1
  simp

/-- 'part' of cells that are laid out. -/
theorem run_part_agg {t : TypeId} {n : Nat} {c : Array Value} {o : Nat} (h : kOk P t (some n) = true) : (part t c o).run P w = .ok (.agg (c.extract o (o + n))) w:=by
 simp only [part,Sem.run_bind,run_isAgg h,Result.andThen_ok,Option.isSome_some,if_true,run_size (kOk_size h),Sem.run_pure]
theorem run_part_one {t : TypeId} {c : Array Value} {o : Nat} {x : Value} (h : kOk P t none = true) (hx : c[o]? = some x) : (part t c o).run P w = .ok x w:=by
 simp only [part,Sem.run_bind,run_isAgg h,Result.andThen_ok,Option.isSome_none,Bool.false_eq_true,if_false,hx,Sem.run_pure]

def EqA (P : Program) (φ : Nat → Emb) (H : Heap) (w : World) (d : Nat) : Prop:=∀ t L,layT P d t = some L → sizeOk P t L.length = true → ∀ as bs (cs ds : Array Value) D o o',d ≤ D → fits L as = true → fits L bs = true →
 VRs φ H as ((cs.toList.drop o).take L.length) → VRs φ H bs ((ds.toList.drop o').take L.length) →
 (do let x ← part t cs o; let y ← part t ds o'; Op.equalIn D t x y : Sem Bool).run P w = .ok (allEq as bs) w

def EqB (P : Program) (φ : Nat → Emb) (H : Heap) (w : World) (d : Nat) : Prop:=∀ t L n,layT P d t = some L → kOk P t (some n) = true → ∀ as bs (cs ds : Array Value) D,d ≤ D → fits L as = true → fits L bs = true →
 VRs φ H as cs.toList → VRs φ H bs ds.toList → (Op.equalIn D t (.agg cs) (.agg ds)).run P w = .ok (allEq as bs) w

theorem layF_all {φ : Nat → Emb} {H : Heap} {d D : Nat} (hA : EqA P φ H w d) (hD : d ≤ D) {B : Field → Option Bool × Unit → Sem (ForInStep (Option Bool × Unit))} {cs ds : Array Value}
  (hB : ∀ f,f.name ≠ "_" → ∀ b,(do let x ← part f.type cs f.offset; let y ← part f.type ds f.offset; Op.equalIn D f.type x y : Sem Bool).run P w = .ok b w → (B f (none,())).run P w = .ok (if b then .yield (none,()) else .done (some false,())) w) :
  ∀ (fs : List Field) (o : Nat) (L : List LK),layF P (layT P d) fs o = some L → ∀ as bs,fits L as = true → fits L bs = true → VRs φ H as ((cs.toList.drop o).take L.length) → VRs φ H bs ((ds.toList.drop o).take L.length) →
  (forIn fs ((none,()) : Option Bool × Unit) B).run P w = .ok (if allEq as bs then (none,()) else (some false,())) w
 | [],o,L,h,as,bs,fa,fb,ha,hb => by
  simp only [layF,Option.some.injEq] at h; subst h
  cases as <;> simp only [fits,Bool.false_eq_true] at fa
  simp [allEq]
 | f :: fs,o,L,h,as,bs,fa,fb,ha,hb => by
  simp only [layF] at h
  split at h
  ·rename_i hf
   obtain ⟨hf,rfl⟩:=hf
   split at h
   ·rename_i L1 hL1
    split at h
    ·rename_i hsz
     simp only [Option.map_eq_some_iff] at h
     obtain ⟨L2,hL2,rfl⟩:=h
     have la:=fits_length fa
     have lb:=fits_length fb
     obtain ⟨fa1,fa2⟩:=fits_append fa
     obtain ⟨fb1,fb2⟩:=fits_append fb
     simp only [List.length_append] at ha hb la lb
     have ha1:=VRs.take (n:=L1.length) ha
     have hb1:=VRs.take (n:=L1.length) hb
     have ha2:=VRs.drop (n:=L1.length) ha
     have hb2:=VRs.drop (n:=L1.length) hb
     rw [List.take_take,Nat.min_eq_left (by omega)] at ha1 hb1
     rw [List.drop_take,List.drop_drop,show L1.length + L2.length - L1.length = L2.length by omega] at ha2 hb2
     have h1:=hB f hf _ (hA f.type L1 hL1 hsz _ _ cs ds D f.offset f.offset hD fa1 fb1 ha1 hb1)
     simp only [List.forIn_cons,Sem.run_bind,h1,Result.andThen_ok]
     have hsp:=allEq_split L1.length as bs (by omega)
     by_cases hc : allEq (as.take L1.length) (bs.take L1.length) = true
     ·simp only [hc,if_true]
      rw [layF_all hA hD hB fs _ L2 hL2 _ _ fa2 fb2 ha2 hb2,hsp,hc,Bool.true_and]
     ·simp only [hc,Bool.false_eq_true,if_false]
      rw [hsp]; simp [hc]
    ·cases h
   ·cases h
  ·cases h

theorem ex_toList (c : Array Value) (o n : Nat) : (c.extract o (o + n)).toList = (c.toList.drop o).take n:=by
 rw [Array.toList_extract,List.extract_eq_take_drop,Nat.add_sub_cancel_left]

theorem eqAB (d : Nat) : EqA P φ H w d ∧ EqB P φ H w d:=by
 induction d with
 | zero => exact ⟨fun t L h => by simp [layT] at h,fun t L n h => by simp [layT] at h⟩
 | succ d ih =>
  have hB : EqB P φ H w (d + 1):=by
   intro t L n h hk as bs cs ds D hD fa fb ha hb
   obtain ⟨D,rfl⟩ : ∃ e,D = e + 1:=⟨D - 1,by omega⟩
   simp only [layT] at h
   cases hu : P.underlying t with
   | none => rw [hu] at h; simp at h
   | some u =>
    rw [hu] at h
    cases u <;> simp only [reduceCtorEq,Option.some.injEq] at h
    case bool => unfold kOk at hk; rw [hu] at hk; simp at hk
    case int => unfold kOk at hk; rw [hu] at hk; simp at hk
    case string => unfold kOk at hk; rw [hu] at hk; simp at hk
    case struct fs =>
     split at h
     ·cases h
     ·rename_i hst
      simp only [Op.equalIn,Sem.run_bind,run_und hu,Result.andThen_ok,run_program,hst,Bool.false_eq_true,if_false]
      rw [← Array.forIn_toList]
      have hlen : cs.size = L.length:=by
       have:=ha.length; have:=fits_length fa; simp_all
      have hlen' : ds.size = L.length:=by
       have:=hb.length; have:=fits_length fb; simp_all
      rw [layF_all (cs:=cs) (ds:=ds) ih.1 (show d ≤ D by omega) (fun f hf b hb => by
       simp only [Sem.run_bind] at hb ⊢
       rw [if_pos hf]
       simp only [Sem.run_bind]
       cases hx : Sem.run P (part f.type cs f.offset) w with
       | halt q w' => rw [hx] at hb; cases hb
       | ok x w1 =>
        rw [hx] at hb; simp only [Result.andThen_ok] at hb ⊢
        cases hy : Sem.run P (part f.type ds f.offset) w1 with
        | halt q w' => rw [hy] at hb; cases hb
        | ok y w2 =>
         rw [hy] at hb; simp only [Result.andThen_ok] at hb ⊢
         rw [hb]
         cases b <;> rfl) fs.toList 0 L h as bs fa fb (by simpa [List.take_of_length_le,hlen] using ha) (by simpa [List.take_of_length_le,hlen'] using hb)]
      simp only [Result.andThen_ok]
      cases allEq as bs <;> rfl
    case array len e =>
     split at h
     ·rename_i M hM
      split at h
      ·rename_i hsz
       simp only [Option.some.injEq] at h; subst h
       simp only [Op.equalIn,Sem.run_bind,run_und hu,Result.andThen_ok,run_program,run_size hsz]
       rw [Std.Legacy.Range.forIn_eq_forIn_range']
       have key : ∀ (n o : Nat) (as bs : List AV),fits (List.replicate n M).flatten as = true → fits (List.replicate n M).flatten bs = true →
         VRs φ H as ((cs.toList.drop (o * M.length)).take (n * M.length)) → VRs φ H bs ((ds.toList.drop (o * M.length)).take (n * M.length)) →
         (forIn (List.range' o n) ((none,()) : Option Bool × Unit) fun i (_ : Option Bool × Unit) => do
          let __do_lift ← part e cs (i * M.length)
          let __do_lift_1 ← part e ds (i * M.length)
          let __do_lift ← Op.equalIn D e __do_lift __do_lift_1
          if (!__do_lift) = true then Pure.pure (ForInStep.done (some false,())) else Pure.pure (ForInStep.yield (none,())) : Sem (Option Bool × Unit)).run P w = .ok (if allEq as bs then (none,()) else (some false,())) w:=by
        intro n
        induction n with
        | zero =>
         intro o as bs fa fb _ _
         cases as <;> simp [fits] at fa
         simp [allEq]
        | succ n ihn =>
         intro o as bs fa fb ha hb
         have la:=fits_length fa
         have lb:=fits_length fb
         simp only [List.replicate_succ,List.flatten_cons] at fa fb
         obtain ⟨fa1,fa2⟩:=fits_append fa
         obtain ⟨fb1,fb2⟩:=fits_append fb
         have e1 : (n + 1) * M.length = n * M.length + M.length:=Nat.succ_mul n _
         have e2 : (o + 1) * M.length = o * M.length + M.length:=Nat.succ_mul o _
         have ha1:=VRs.take (n:=M.length) ha
         have hb1:=VRs.take (n:=M.length) hb
         have ha2:=VRs.drop (n:=M.length) ha
         have hb2:=VRs.drop (n:=M.length) hb
         rw [List.take_take,Nat.min_eq_left (by omega)] at ha1 hb1
         rw [List.drop_take,List.drop_drop,show (n + 1) * M.length - M.length = n * M.length by omega,← e2] at ha2 hb2
         have h1:=ih.1 e M hM hsz _ _ cs ds D (o * M.length) (o * M.length) (by omega) fa1 fb1 ha1 hb1
         have hl' : as.length = bs.length:=by omega
         have hsp:=allEq_split M.length as bs hl'
         have ih':=ihn (o + 1) _ _ fa2 fb2 ha2 hb2
         simp only [List.range'_succ,List.forIn_cons,Sem.run_bind] at h1 ⊢
         cases hx : Sem.run P (part e cs (o * M.length)) w with
         | halt q w' => rw [hx] at h1; cases h1
         | ok x w1 =>
          rw [hx] at h1; simp only [Result.andThen_ok] at h1 ⊢
          cases hy : Sem.run P (part e ds (o * M.length)) w1 with
          | halt q w' => rw [hy] at h1; cases h1
          | ok y w2 =>
           rw [hy] at h1; simp only [Result.andThen_ok] at h1 ⊢
           rw [h1,hsp]
           simp only [Result.andThen_ok]
           by_cases hc : allEq (as.take M.length) (bs.take M.length) = true
           ·rw [hc]
            simp only [Bool.not_true,Bool.false_eq_true,if_false,Sem.run_pure,Result.andThen_ok,Bool.true_and]
            exact ih'
           ·rw [Bool.not_eq_true] at hc
            rw [hc]
            simp
       have fl:=fits_length fa
       have e3 : ∀ m : Nat,((List.replicate m M).flatten).length = m * M.length:=by intro m; simp
       have k2:=key len 0 as bs fa fb (by
        have:=ha.length
        rw [Nat.zero_mul,List.drop_zero,List.take_of_length_le (by rw [this,fl,e3]; exact Nat.le_refl _)]; exact ha) (by
        have:=hb.length
        have fl':=fits_length fb
        rw [Nat.zero_mul,List.drop_zero,List.take_of_length_le (by rw [this,fl',e3]; exact Nat.le_refl _)]; exact hb)
       simp only [Std.Legacy.Range.size,Nat.sub_zero,Nat.add_sub_cancel,Nat.div_one] at *
       rw [k2]
       simp only [Result.andThen_ok]
       cases allEq as bs <;> rfl
      ·cases h
     ·cases h
  refine ⟨?_,hB⟩
  intro t L h hsz as bs cs ds D o o' hD fa fb ha hb
  obtain ⟨D,rfl⟩ : ∃ e,D = e + 1:=⟨D - 1,by omega⟩
  have la:=fits_length fa
  have lb:=fits_length fb
  have h':=h
  simp only [layT] at h
  cases hu : P.underlying t with
  | none => rw [hu] at h; simp at h
  | some u =>
   rw [hu] at h
   have scal : ∀ k : LK,u = (match k with | .b => .bool | .i k => .int k | .s => .string) → L = [k] → (do let x ← part t cs o; let y ← part t ds o'; Op.equalIn (D + 1) t x y : Sem Bool).run P w = .ok (allEq as bs) w:=by
    intro k hk hL
    subst hL
    match as,bs,fa,fb,ha,hb with
    | [a],[b],fa,fb,ha,hb =>
     simp only [fits,Bool.and_true] at fa fb
     have kok : kOk P t none = true:=by unfold kOk; rw [hu,hk]; cases k <;> rfl
     obtain ⟨x,hx,hvx⟩:=VRs.get ha (i:=0) (v:=a) rfl
     obtain ⟨y,hy,hvy⟩:=VRs.get hb (i:=0) (v:=b) rfl
     rw [List.getElem?_take_of_lt (by simp),List.getElem?_drop] at hx hy
     simp only [Sem.run_bind,run_part_one (P:=P) (w:=w) kok (by simpa using hx),run_part_one (P:=P) (w:=w) kok (by simpa using hy),Result.andThen_ok]
     rw [eq_scalar (by rw [hu,hk]) fa fb hvx hvy]
     simp [allEq]
    | [],_,fa,_,_,_ => simp [fits] at fa
    | _ :: _ :: _,_,fa,_,_,_ => simp [fits] at fa
    | [_],[],_,fb,_,_ => simp [fits] at fb
    | [_],_ :: _ :: _,_,fb,_,_ => simp [fits] at fb
   have agg : kOk P t (some L.length) = true → (do let x ← part t cs o; let y ← part t ds o'; Op.equalIn (D + 1) t x y : Sem Bool).run P w = .ok (allEq as bs) w:=by
    intro kok
    simp only [Sem.run_bind,run_part_agg (P:=P) (w:=w) kok,Result.andThen_ok]
    refine hB t L L.length h' kok as bs _ _ (D + 1) hD fa fb ?_ ?_
    ·rw [ex_toList]; exact ha
    ·rw [ex_toList]; exact hb
   cases u <;> simp only [reduceCtorEq,Option.some.injEq] at h
   case bool => exact scal .b rfl h.symm
   case int k => exact scal (.i k) rfl h.symm
   case string => exact scal .s rfl h.symm
   case struct fs => exact agg (by unfold kOk; rw [hu]; exact hsz)
   case array n e => exact agg (by unfold kOk; rw [hu]; exact hsz)

end
end Go.AEv

set_option linter.unusedVariables false
set_option linter.unusedSimpArgs false
namespace Go.AEv

def partsOk (place : Nat → Option (Nat × Nat)) : List (Nat × Operand) → List (Nat × Nat × AOpd) → Bool
 | [],[] => true
 | (i,x) :: ps,(off,n,y) :: qs => place i == some (off,n) && opdOk x y && partsOk place ps qs
 | _,_ => false

section
variable {CK : CKT} {P : Program} {w0 : World} {K : List Nat} {φ : Nat → Emb} {H H' : Heap} {w : World} {s : T} {ρ : Operand → Value} {v : AV} {fp : FP} {call : CallF} {h0 : Heap}

theorem foldl_put : ∀ (xs : List Value) (c : Array Value) (o j : Nat) (z : List AV) (vs : List AV),VRs φ H z c.toList → VRs φ H vs xs → (∀ x ∈ c.toList,Value.oneCell' x = true) → (∀ x ∈ xs,Value.oneCell' x = true) →
  VRs φ H (putAt z (o + j) vs) ((xs.zipIdx j).foldl (fun cs (p : Value × Nat) => cs.setIfInBounds (o + p.2) p.1) c).toList ∧
  ((xs.zipIdx j).foldl (fun cs (p : Value × Nat) => cs.setIfInBounds (o + p.2) p.1) c).size = c.size ∧
  ∀ x ∈ ((xs.zipIdx j).foldl (fun cs (p : Value × Nat) => cs.setIfInBounds (o + p.2) p.1) c).toList,Value.oneCell' x = true
 | [],c,o,j,z,vs,hz,hv,h1,h2 => by
  simp only [List.zipIdx_nil,List.foldl_nil]
  cases vs with
  | nil => refine ⟨by simpa [putAt] using hz,?_,h1⟩; first | rfl | trivial
  | cons a as => simp only [VRs] at hv; obtain ⟨_,_,e,_⟩:=hv; cases e
 | x :: xs,c,o,j,z,vs,hz,hv,h1,h2 => by
  cases vs with
  | nil => simp only [VRs] at hv; cases hv
  | cons a as =>
   simp only [VRs] at hv
   obtain ⟨y,ys,e,hy,hys⟩:=hv
   cases e
   simp only [List.zipIdx_cons,List.foldl_cons,putAt]
   have hz' : VRs φ H (z.set (o + j) a) (c.setIfInBounds (o + j) x).toList:=by
    rw [Array.toList_setIfInBounds]; exact VRs.set hz hy
   have h1' : ∀ q ∈ (c.setIfInBounds (o + j) x).toList,Value.oneCell' q = true:=by
    intro q hq
    rw [Array.toList_setIfInBounds] at hq
    rcases List.mem_or_eq_of_mem_set hq with h | h
    ·exact h1 q h
    ·exact h ▸ h2 x (by simp)
   obtain ⟨r1,r2,r3⟩:=foldl_put xs (c.setIfInBounds (o + j) x) o (j + 1) (z.set (o + j) a) as hz' hys h1' (fun q hq => h2 q (by simp [hq]))
   exact ⟨r1,by rw [r2]; simp,r3⟩

theorem fill_sim (hρ : RhoR φ H s ρ) {place : Nat → Option (Nat × Nat)} : ∀ {ps : List (Nat × Operand)} {qs : List (Nat × Nat × AOpd)} {z c : List AV} {zr : Array Value},partsOk place ps qs = true → fillA s qs z = some c →
  VRs φ H z zr.toList → (∀ x ∈ zr.toList,Value.oneCell' x = true) → ∃ cr,Instr.fill place zr (ps.map fun p => (p.1,ρ p.2)) = some cr ∧ VRs φ H c cr.toList ∧ (∀ x ∈ cr.toList,Value.oneCell' x = true) ∧ cr.size = zr.size
 | [],[],z,c,zr,_,h,hz,h1 => by
  simp only [fillA,Option.some.injEq] at h; subst h
  exact ⟨zr,rfl,hz,h1,rfl⟩
 | (i,x) :: ps,(off,n,y) :: qs,z,c,zr,hp,h,hz,h1 => by
  simp only [partsOk,Bool.and_eq_true,beq_iff_eq] at hp
  simp only [fillA] at h
  split at h
  ·rename_i cc hcc
   split at h
   ·rename_i hc
    obtain ⟨hl,hle⟩:=hc
    obtain ⟨hv,ho⟩:=VR.cells (hρ x y hp.1.2) hcc
    have hzl:=hz.length
    have hvl:=hv.length
    simp only [Array.length_toList] at hzl hvl
    obtain ⟨r1,r2,r3⟩:=foldl_put (ρ x).cells.toList zr off 0 z cc hz hv h1 ho
    obtain ⟨cr,e1,e2,e3,e4⟩:=fill_sim hρ hp.2 h r1 r3
    refine ⟨cr,?_,e2,e3,e4.trans r2⟩
    simp only [List.map_cons,Instr.fill,hp.1.1]
    rw [if_neg (by simp; omega)]
    rw [← e1]
    congr 1
    rw [← Array.foldl_toList]
    simp [Array.toList_zipIdx]
   ·cases h
  ·cases h
 | [],_ :: _,_,_,_,hp,_,_,_ => by simp [partsOk] at hp
 | _ :: _,[],_,_,_,hp,_,_,_ => by simp [partsOk] at hp

def placeOf (P : Program) (fs : Array Field) (i : Nat) : Option (Nat × Nat):=(fs[i]?).bind fun f => (P.info? f.type).map fun i => (f.offset,i.size)

theorem run_places (fs : Array Field) (h : ∀ f ∈ fs.toList,(P.info? f.type).isSome = true) :
  (fs.mapM fun f => (do pure (f.offset,← sizeOf f.type) : Sem (Nat × Nat))).run P w = .ok (fs.map fun f => (f.offset,((P.info? f.type).map (·.size)).getD 0)) w:=by
 rw [Array.mapM_eq_mapM_toList]
 have key : ∀ l : List Field,(∀ f ∈ l,(P.info? f.type).isSome = true) → (l.mapM fun f => (do pure (f.offset,← sizeOf f.type) : Sem (Nat × Nat))).run P w = .ok (l.map fun f => (f.offset,((P.info? f.type).map (·.size)).getD 0)) w:=by
  intro l
  induction l with
  | nil => intro _; rfl
  | cons f l ih =>
   intro hl
   obtain ⟨i,hi⟩:=Option.isSome_iff_exists.1 (hl f (by simp))
   have : (sizeOf f.type).run P w = .ok i.size w:=by simp [sizeOf,run_info hi]
   simp only [List.mapM_cons,Sem.run_bind,this,Result.andThen_ok,Sem.run_pure,ih (fun g hg => hl g (by simp [hg])),List.map_cons,hi,Option.map_some,Option.getD_some]
 rw [map_eq_pure_bind]
 simp only [Sem.run_bind,key fs.toList h,Result.andThen_ok,Sem.run_pure]
 congr 1
 apply Array.ext'
 simp

def buildOk (P : Program) (t : TypeId) (ps : Array (Nat × Operand)) (z : List AV) (qs : List (Nat × Nat × AOpd)) : Bool :=
 zeroOk P t z &&
 match P.underlying t with
 | some (.struct fs) => fs.toList.all (fun f => (P.info? f.type).isSome) && partsOk (placeOf P fs) ps.toList qs
 | some (.array _ e) => match P.info? e with
  | some i => partsOk (fun k => some (k * i.size,i.size)) ps.toList qs
  | none => false
 | _ => false

theorem build_sim (hρ : RhoR φ H s ρ) {t : TypeId} {ps : Array (Nat × Operand)} {z : List AV} {qs : List (Nat × Nat × AOpd)} {c : List AV} (hk : buildOk P t ps z qs = true) (h : fillA s qs z = some c) :
  Val P w φ H (Instr.build t (ps.map fun p => (p.1,ρ p.2))) (.agg c):=by
 simp only [buildOk,Bool.and_eq_true] at hk
 obtain ⟨hz,hk⟩:=hk
 obtain ⟨zv,hz1,hz2,hz3⟩:=run_zero (P:=P) (w:=w) hz
 have mk : ∀ {place : Nat → Option (Nat × Nat)},partsOk place ps.toList qs = true → ∃ cr,Instr.fill place zv.cells (ps.map fun p => (p.1,ρ p.2)).toList = some cr ∧ VR φ H (.agg c) (.agg cr):=by
  intro place hp
  obtain ⟨cr,e1,e2,e3,_⟩:=fill_sim hρ hp h (hz2 φ H) hz3
  refine ⟨cr,by simpa using e1,?_⟩
  simp only [VR]
  exact ⟨cr,rfl,e2,e3⟩
 split at hk
 ·rename_i fs hu
  simp only [Bool.and_eq_true,List.all_eq_true] at hk
  obtain ⟨cr,e1,e2⟩:=mk hk.2
  refine ⟨.agg cr,?_,e2⟩
  have e0 : placeOf P fs = fun i => ((fs.map fun f => (f.offset,((P.info? f.type).map (·.size)).getD 0))[i]? : Option (Nat × Nat)):=by
   funext i
   simp only [placeOf,Array.getElem?_map]
   cases hf : fs[i]? with
   | none => rfl
   | some f =>
    have:=hk.1 f (by have:=Array.mem_of_getElem? hf; simpa using this)
    obtain ⟨inf,hinf⟩:=Option.isSome_iff_exists.1 this
    simp [hinf]
  rw [e0] at e1
  simp only [Instr.build,Sem.run_bind,hz1,Result.andThen_ok,run_und hu,run_places fs hk.1,e1,Sem.run_pure]
 ·rename_i n e hu
  split at hk
  ·rename_i i hi
   obtain ⟨cr,e1,e2⟩:=mk hk
   refine ⟨.agg cr,?_,e2⟩
   have : (sizeOf e).run P w = .ok i.size w:=by simp [sizeOf,run_info hi]
   simp only [Instr.build,Sem.run_bind,hz1,Result.andThen_ok,run_und hu,this,e1,Sem.run_pure]
  ·cases hk
 ·cases hk

def buildSliceOk (P : Program) (t : TypeId) (len : Nat) (ps : Array (Nat × Operand)) (g : Nat) (z : List AV) (qs : List (Nat × Nat × AOpd)) : Bool :=
 match P.underlying t with
 | some (.slice e) => match P.info? e with
  | some i => i.size == g && decide (len * g ≤ 2 ^ 24) && partsOk (fun k => some (k * g,g)) ps.toList qs &&
   (if len * g = 0 then z.isEmpty else match i.zero with
    | some v => litsOk ((Array.range (len * g)).map (v.cells[· % v.cells.size]!)).toList z && ((Array.range (len * g)).map (v.cells[· % v.cells.size]!)).toList.all Value.oneCell'
    | none => false)
  | none => false
 | _ => false

theorem buildSlice_sim (hr : HR CK w0 K φ H w) (hρ : RhoR φ H s ρ) {t : TypeId} {len g n0 : Nat} {j : Option Nat} {ps : Array (Nat × Operand)} {z : List AV} {qs : List (Nat × Nat × AOpd)} {c : List AV} (hk : buildSliceOk P t len ps g z qs = true)
  (h : fillA s qs z = some c) (hl : c.length = len * g) (hm : (mk H n0 j (.cells g (len * g) c)).2.app H = some H') :
  ∃ φ' w' x,(Instr.buildSlice t len (ps.map fun p => (p.1,ρ p.2))).run P w = .ok x w' ∧ HR CK w0 K φ' H' w' ∧ VR φ' H' (.slice (mk H n0 j (.cells g (len * g) c)).1 0 len (len * g)) x ∧ Stp φ H φ' H':=by
 unfold buildSliceOk at hk
 split at hk
 ·rename_i e hu
  split at hk
  ·rename_i i hi
   simp only [Bool.and_eq_true,beq_iff_eq,decide_eq_true_eq] at hk
   obtain ⟨⟨⟨hg,hle⟩,hp⟩,hz⟩:=hk
   have hsz : (sizeOf e).run P w = .ok g w:=by simp [sizeOf,run_info hi,hg]
   have hzero : ∃ zr : Array Value,((len * g = 0 ∧ zr = #[]) ∨ (len * g ≠ 0 ∧ ∃ v : Value,(zeroValue e).run P w = .ok v w ∧ zr = v.cells)) ∧ VRs φ H z ((Array.range (len * g)).map (zr[· % zr.size]!)).toList ∧
     ∀ x ∈ ((Array.range (len * g)).map (zr[· % zr.size]!)).toList,Value.oneCell' x = true:=by
    by_cases h0 : len * g = 0
    ·rw [if_pos h0] at hz
     refine ⟨#[],.inl ⟨h0,rfl⟩,?_,by simp [h0]⟩
     have : z = []:=by simpa using hz
     subst this
     simp [h0,VRs]
    ·rw [if_neg h0] at hz
     split at hz
     ·rename_i v hv
      simp only [Bool.and_eq_true] at hz
      refine ⟨v.cells,.inr ⟨h0,v,?_,rfl⟩,VRs.ofLit _ _ hz.1,List.all_eq_true.1 hz.2⟩
      simp only [zeroValue,Sem.run_bind,run_info hi,Result.andThen_ok,hv,Sem.run_pure]
     ·cases hz
   obtain ⟨zr,z1,z2,z3⟩:=hzero
   obtain ⟨cr,e1,e2,e3,e4⟩:=fill_sim hρ hp h z2 z3
   have hcl:=e2.length
   have hcs : cr.size = c.length:=by simpa using hcl
   obtain ⟨r1,r2,r3⟩:=new_cells hr (t:=e) (c:=cr) hm (by rw [List.take_of_length_le (by simp [hcs])]; exact e2) (by omega) e3
   refine ⟨_,_,.slice (some ⟨w.heap.size,0,none⟩) len len,?_,r1,?_,r2⟩
   ·simp only [Instr.buildSlice,Sem.run_bind,run_und hu,Result.andThen_ok,hsz]
    rw [if_neg (by omega)]
    have e5 : (ps.map fun p => (p.1,ρ p.2)).toList = ps.toList.map fun p => (p.1,ρ p.2):=by simp
    rcases z1 with ⟨h0,rfl⟩ | ⟨h0,v,hv,rfl⟩
    ·rw [if_pos h0]
     simp only [Sem.run_bind,Sem.run_pure,Result.andThen_ok,e5,e1,newRow,run_newObj]
    ·rw [if_neg h0]
     simp only [Sem.run_bind,hv,Sem.run_pure,Result.andThen_ok,e5,e1,newRow,run_newObj]
   ·simp only [VR]
    refine ⟨_,len,g,_,_,rfl,Nat.le_refl _,r3,Nat.le_refl _,fun _ => ⟨by simp [upd],fun _ _ => ?_⟩⟩
    simp [upd]; omega
  ·cases hk
 ·cases hk

theorem eqa_sim {op : BinOp} {neg : Bool} {t : TypeId} {x y : Operand} {a b : AV} {u z : Value} {L : List LK} {d n : Nat} {r : Bool} (hop : (op = .eql ∧ neg = false) ∨ (op = .neq ∧ neg = true))
  (hL : layT P d t = some L) (hk : kOk P t (some n) = true) (hd : d ≤ Op.maxDepth) (hgt : P.eqGuardType P.depth t = false) (ha : VR φ H a u) (hb : VR φ H b z) (h : eqAgg L a b = some r) :
  Val P w φ H (do eqGuard op t x y u z; binOp op t u z) (.bool (r != neg)):=by
 unfold eqAgg at h
 split at h
 ·rename_i as bs
  split at h
  ·rename_i hf
   simp only [Bool.and_eq_true] at hf
   simp only [Option.some.injEq] at h; subst h
   have ha' : ∃ vs,u = .agg vs ∧ VRs φ H as vs.toList ∧ ∀ x ∈ vs.toList,Value.oneCell' x = true:=by simpa only [VR] using ha
   have hb' : ∃ vs,z = .agg vs ∧ VRs φ H bs vs.toList ∧ ∀ x ∈ vs.toList,Value.oneCell' x = true:=by simpa only [VR] using hb
   clear ha hb
   obtain ⟨cs,rfl,ha,_⟩:=ha'
   obtain ⟨ds,rfl,hb,_⟩:=hb'
   have hg : (eqGuard op t x y (.agg cs) (.agg ds)).run P w = .ok () w:=by
    unfold eqGuard
    rcases hop with ⟨rfl,_⟩ | ⟨rfl,_⟩ <;> simp [hgt]
   have he:=(eqAB (P:=P) (φ:=φ) (H:=H) (w:=w) d).2 t L n hL hk as bs cs ds Op.maxDepth hd hf.1 hf.2 ha hb
   simp only [Val,Sem.run_bind,hg,Result.andThen_ok]
   rcases hop with ⟨rfl,rfl⟩ | ⟨rfl,rfl⟩
   ·exact ⟨.bool (allEq as bs),by simp [binOp,Op.equal,he],by simp [VR]⟩
   ·exact ⟨.bool (!allEq as bs),by simp [binOp,Op.equal,he],by simp [VR]⟩
  ·cases h
 ·cases h

end
end Go.AEv

set_option linter.unusedVariables false
set_option linter.unusedSimpArgs false
namespace Go.AEv
section
variable {CK : CKT} {P : Program} {w0 : World} {K : List Nat} {φ : Nat → Emb} {H H' : Heap} {w : World} {s : T} {ρ : Operand → Value} {v : AV} {fp : FP} {call : CallF} {h0 : Heap}

theorem ptr_inv {b o ver : Nat} {x : Value} (h : VR φ H (.ptr b o ver) x) : ∃ a,x = .pointer (some a) ∧ ∀ k,VR φ H (.ptr b (o + k) ver) (.pointer (some (a.add k))):=by
 simp only [VR] at h
 obtain ⟨a,g,n,cs,rfl,hg,hv,ha⟩:=h
 refine ⟨a,rfl,fun k => ?_⟩
 simp only [VR]
 refine ⟨a.add k,g,n,cs,rfl,hg,hv,fun e => ?_⟩
 rw [ha e,addr_add,Nat.add_assoc]

theorem idx_spec {n : Int} {len m : Nat} (h : idx n len = some m) : 0 ≤ n ∧ n < len ∧ m = n.toNat:=by
 unfold idx at h
 split at h
 ·rename_i hc; simp only [Option.some.injEq] at h; exact ⟨hc.1,hc.2,h.symm⟩
 ·cases h

theorem idxArr_sim {t e : TypeId} {len g : Nat} {b o ver m : Nat} {k : IntKind} {n : Int} {x : Value} (hu : P.underlying t = some (.array len e)) (hs : sizeOk P e g = true) (hx : VR φ H (.ptr b o ver) x) (hi : idx n len = some m) :
  Val P w φ H (Instr.indexAt t x (.int k n)) (.ptr b (o + m * g) ver):=by
 obtain ⟨a,rfl,ha⟩:=ptr_inv hx
 obtain ⟨h1,h2,rfl⟩:=idx_spec hi
 refine ⟨_,?_,ha (n.toNat * g)⟩
 simp only [Instr.indexAt,asIntOf,Sem.run_bind,Sem.run_pure,Result.andThen_ok,run_und hu,Instr.sureAddr]
 rw [if_pos ⟨h1,h2⟩]
 simp only [Sem.run_bind,run_size hs,Result.andThen_ok,Sem.run_pure]

theorem idxSl_sim {t e : TypeId} {len g : Nat} {b o ver m : Nat} {k : IntKind} {n : Int} {x : Value} (hu : P.underlying t = some (.slice e)) (hs : sizeOk P e g = true) (hx : VR φ H (.slice b o len ver) x) (hi : idx n len = some m) :
  Val P w φ H (Instr.indexAt t x (.int k n)) (.ptr b (o + m * g) ver):=by
 simp only [VR] at hx
 obtain ⟨a,c,gg,nn,cs,rfl,hl,hg,hv,ha⟩:=hx
 obtain ⟨h1,h2,rfl⟩:=idx_spec hi
 refine ⟨.pointer (some (a.add (n.toNat * g))),?_,?_⟩
 ·simp only [Instr.indexAt,asIntOf,Sem.run_bind,Sem.run_pure,Result.andThen_ok,run_und hu,Instr.sureAddr]
  rw [if_pos ⟨h1,h2⟩]
  simp only [Sem.run_bind,run_size hs,Result.andThen_ok,Sem.run_pure]
 ·simp only [VR]
  refine ⟨_,gg,nn,cs,rfl,hg,hv,fun e => ?_⟩
  rw [(ha e).1,addr_add,Nat.add_assoc]

theorem part_sim {t : TypeId} {k : Option Nat} {c : List AV} {cr : Array Value} {o : Nat} (hk : kOk P t k = true) (hc : VRs φ H c cr.toList) (h1 : ∀ x ∈ cr.toList,Value.oneCell' x = true) (h : takeA k c o = some v) : Val P w φ H (part t cr o) v:=by
 rcases takeA_spec h with ⟨rfl,hv⟩ | ⟨m,rfl,rfl,hl⟩
 ·obtain ⟨x,hx,hvx⟩:=VRs.get hc hv
  exact ⟨x,run_part_one hk (by simpa using hx),hvx⟩
 ·refine ⟨_,run_part_agg hk,?_⟩
  simp only [VR]
  refine ⟨_,rfl,?_,?_⟩
  ·rw [ex_toList]; exact VRs.take (VRs.drop hc)
  ·intro x hx
   rw [ex_toList] at hx
   exact h1 x (List.mem_of_mem_drop (List.mem_of_mem_take hx))

theorem idxVal_sim {t e : TypeId} {len g : Nat} {kk : Option Nat} {c : List AV} {m : Nat} {k : IntKind} {n : Int} {x : Value} (hu : P.underlying t = some (.array len e)) (hs : sizeOk P e g = true) (hk : kOk P e kk = true) (hx : VR φ H (.agg c) x) (hi : idx n len = some m) (h : takeA kk c (m * g) = some v) :
  Val P w φ H (Instr.index t x (.int k n)) v:=by
 simp only [VR] at hx
 obtain ⟨cr,rfl,hc,h1⟩:=hx
 obtain ⟨a1,a2,rfl⟩:=idx_spec hi
 obtain ⟨y,hy,hvy⟩:=part_sim (P:=P) (w:=w) hk hc h1 h
 refine ⟨y,?_,hvy⟩
 simp only [Instr.index,asIntOf,Sem.run_bind,Sem.run_pure,Result.andThen_ok,run_und hu]
 rw [if_pos ⟨a1,a2⟩]
 simp only [Sem.run_bind,run_size hs,Result.andThen_ok,hy]

theorem idxStr_sim {t : TypeId} {c : List UInt8} {m : Nat} {k : IntKind} {n : Int} {x : Value} {y : UInt8} (hu : P.underlying t = some .string) (hx : VR φ H (.str c) x) (hi : idx n c.length = some m) (h : c[m]? = some y) :
  Val P w φ H (Instr.index t x (.int k n)) (.int .u8 y.toNat):=by
 simp only [VR] at hx; subst hx
 obtain ⟨a1,a2,rfl⟩:=idx_spec hi
 refine ⟨.int .u8 y.toNat,?_,by simp [VR]⟩
 have : (ByteArray.mk c.toArray)[n.toNat]? = some y:=by
  have hl:=(List.getElem?_eq_some_iff.1 h)
  obtain ⟨hl,he⟩:=hl
  rw [getElem?_pos (ByteArray.mk c.toArray) n.toNat (by simpa [ByteArray.size] using hl)]
  simp only [Option.some.injEq]
  exact he
 simp only [Instr.index,asIntOf,Sem.run_bind,Sem.run_pure,Result.andThen_ok,run_und hu,if_pos a1,this]

theorem fieldAddr_sim {t : TypeId} {fs : Array Field} {i b o ver : Nat} {f : Field} {x : Value} {n : Nat} (hu : P.underlying t = some (.struct fs)) (hf : fs[i]? = some f) (hs : sizeOk P f.type n = true) (hn : n ≠ 0) (hx : VR φ H (.ptr b o ver) x) :
  Val P w φ H (Instr.fieldAt t x i) (.ptr b (o + f.offset) ver):=by
 obtain ⟨a,rfl,ha⟩:=ptr_inv hx
 refine ⟨_,?_,ha f.offset⟩
 simp only [Instr.fieldAt,Sem.run_bind,run_und hu,Result.andThen_ok,hf,Instr.sureAddr,Sem.run_pure,fieldPlace,run_size hs,if_neg hn]

theorem field_sim {t : TypeId} {fs : Array Field} {i : Nat} {f : Field} {x : Value} {k : Option Nat} {c : List AV} (hu : P.underlying t = some (.struct fs)) (hf : fs[i]? = some f) (hk : kOk P f.type k = true) (hx : VR φ H (.agg c) x) (h : takeA k c f.offset = some v) :
  Val P w φ H (Instr.field t x i) v:=by
 simp only [VR] at hx
 obtain ⟨cr,rfl,hc,h1⟩:=hx
 obtain ⟨y,hy,hvy⟩:=part_sim (P:=P) (w:=w) hk hc h1 h
 exact ⟨y,by simp only [Instr.field,Sem.run_bind,run_und hu,Result.andThen_ok,hf,asAgg,Sem.run_pure,hy],hvy⟩

/-! ### Cuts -/

theorem run_bound {x : AV} {u : Value} {n : Int} {k : IntKind} {y : Nat} {code : BoundsCode} (hx : VR φ H (.int k n) u) (h : 0 ≤ n ∧ n ≤ y) : (Instr.sliceBound u y code).run P w = .ok n.toNat w:=by
 simp only [VR] at hx; subst hx
 simp only [Instr.sliceBound,asIntOf,Sem.run_bind,Sem.run_pure,Result.andThen_ok,if_pos h]

theorem bounds_sim (hρ : RhoR φ H s ρ) {lo hi : Option AOpd} {lo' hi' : Option Operand} {len cap l m : Nat} {isS : Bool} (hlo : oopdOk lo' lo = true) (hhi : oopdOk hi' hi = true) (hc : len ≤ cap) (h : bounds s len lo hi = some (l,m)) :
  (Instr.sliceBounds isS len cap (lo'.map ρ) (hi'.map ρ) none).run P w = .ok (l,m,cap) w ∧ l ≤ m ∧ m ≤ len:=by
 unfold bounds at h
 simp only at h
 cases lo' with
 | none =>
  cases lo with
  | some _ => simp [oopdOk] at hlo
  | none =>
   cases hi' with
   | none =>
    cases hi with
    | some _ => simp [oopdOk] at hhi
    | none =>
     simp only at h
     split at h
     ·simp only [Option.some.injEq,Prod.mk.injEq] at h
      obtain ⟨rfl,rfl⟩:=h
      refine ⟨?_,by omega,by omega⟩
      simp [Instr.sliceBounds]
     ·cases h
   | some y' =>
    cases hi with
    | none => simp [oopdOk] at hhi
    | some y =>
     have hy:=hρ y' y hhi
     simp only at h
     split at h
     ·rename_i hl hh
      split at hh
      ·rename_i k n hyv
       rw [hyv] at hy
       simp only [Option.some.injEq] at hl hh; subst hl; subst hh
       split at h
       ·rename_i hc'
        simp only [Option.some.injEq,Prod.mk.injEq] at h
        obtain ⟨rfl,rfl⟩:=h
        refine ⟨?_,by omega,by omega⟩
        have r1 : ∀ code,(Instr.sliceBound (ρ y') cap code).run P w = .ok n.toNat w:=fun code => run_bound (x:=.undef) hy ⟨by omega,by omega⟩
        simp [Instr.sliceBounds,r1]
       ·cases h
      ·cases hh
     ·cases h
 | some x' =>
  cases lo with
  | none => simp [oopdOk] at hlo
  | some x =>
   have hx:=hρ x' x hlo
   cases hi' with
   | none =>
    cases hi with
    | some _ => simp [oopdOk] at hhi
    | none =>
     simp only at h
     split at h
     ·rename_i hl hh
      split at hl
      ·rename_i k n hxv
       rw [hxv] at hx
       simp only [Option.some.injEq] at hl hh; subst hl; subst hh
       split at h
       ·rename_i hc'
        simp only [Option.some.injEq,Prod.mk.injEq] at h
        obtain ⟨rfl,rfl⟩:=h
        refine ⟨?_,by omega,by omega⟩
        have r1 : ∀ code,(Instr.sliceBound (ρ x') len code).run P w = .ok n.toNat w:=fun code => run_bound (x:=.undef) hx ⟨by omega,by omega⟩
        simp [Instr.sliceBounds,r1]
       ·cases h
      ·cases hl
     ·cases h
   | some y' =>
    cases hi with
    | none => simp [oopdOk] at hhi
    | some y =>
     have hy:=hρ y' y hhi
     simp only at h
     split at h
     ·rename_i hl hh
      split at hl
      ·rename_i k n hxv
       split at hh
       ·rename_i k2 n2 hyv
        rw [hxv] at hx
        rw [hyv] at hy
        simp only [Option.some.injEq] at hl hh; subst hl; subst hh
        split at h
        ·rename_i hc'
         simp only [Option.some.injEq,Prod.mk.injEq] at h
         obtain ⟨rfl,rfl⟩:=h
         refine ⟨?_,by omega,by omega⟩
         have r1 : ∀ code,(Instr.sliceBound (ρ y') cap code).run P w = .ok n2.toNat w:=fun code => run_bound (x:=.undef) hy ⟨by omega,by omega⟩
         have r2 : ∀ code,(Instr.sliceBound (ρ x') n2.toNat code).run P w = .ok n.toNat w:=fun code => run_bound (x:=.undef) hx ⟨by omega,by omega⟩
         simp [Instr.sliceBounds,r1,r2]
        ·cases h
       ·cases hh
      ·cases hl
     ·cases h

theorem slArr_sim (hρ : RhoR φ H s ρ) {t e : TypeId} {n g b o ver l m : Nat} {x : Value} {lo hi : Option AOpd} {lo' hi' : Option Operand} {gn : Nat} {cs : List AV} (hu : P.underlying t = some (.array n e)) (hs : sizeOk P e g = true) (hlo : oopdOk lo' lo = true) (hhi : oopdOk hi' hi = true)
  (hx : VR φ H (.ptr b o ver) x) (hb : bounds s n lo hi = some (l,m)) (hg : H.get b = .cells 0 gn cs) :
  Val P w φ H (Instr.sliceAt t x (lo'.map ρ) (hi'.map ρ) none) (if l = n ∧ 0 < n then .slice0 else .slice b (o + l * g) (m - l) ver):=by
 obtain ⟨hbs,h1,h2⟩:=bounds_sim (P:=P) (w:=w) (isS:=false) hρ hlo hhi (Nat.le_refl n) hb
 obtain ⟨a,rfl,ha⟩:=ptr_inv hx
 refine ⟨.slice (some (if n = l then a else a.add (l * g))) (m - l) (n - l),?_,?_⟩
 ·simp only [Instr.sliceAt,Sem.run_bind,run_und hu,Result.andThen_ok,Instr.sureAddr,Sem.run_pure,hbs,run_size hs]
 ·by_cases hc : l = n ∧ 0 < n
  ·rw [if_pos hc]
   simp only [VR]
   exact ⟨_,_,by rw [show m - l = 0 by omega]⟩
  ·rw [if_neg hc]
   simp only [VR] at hx ⊢
   obtain ⟨a',g',n',cs',e1,hg',hv,ha'⟩:=hx
   cases e1
   rw [hg] at hg'; cases hg'
   refine ⟨_,_,0,gn,cs,rfl,by omega,hg,hv,fun q => ⟨?_,fun k => absurd rfl k⟩⟩
   rw [ha' q]
   by_cases hnl : n = l
   ·have : l = 0:=by omega
    subst this
    simp [hnl]
   ·rw [if_neg hnl,addr_add,Nat.add_assoc]

theorem sliceAt_slice {t e : TypeId} {x : Value} {lo hi mx : Option Value} (hu : P.underlying t = some (.slice e)) : (Instr.sliceAt t x lo hi mx).run P w = (Instr.slice t x lo hi mx).run P w:=by
 simp only [Instr.sliceAt,Sem.run_bind,run_und hu,Result.andThen_ok]
theorem sliceAt_string {t : TypeId} {x : Value} {lo hi mx : Option Value} (hu : P.underlying t = some .string) : (Instr.sliceAt t x lo hi mx).run P w = (Instr.slice t x lo hi mx).run P w:=by
 simp only [Instr.sliceAt,Sem.run_bind,run_und hu,Result.andThen_ok]

theorem slSl_sim (hρ : RhoR φ H s ρ) {t e : TypeId} {g : Nat} {a : AV} {x : Value} {lo hi : Option AOpd} {lo' hi' : Option Operand} (hu : P.underlying t = some (.slice e)) (hs : sizeOk P e g = true) (hlo : oopdOk lo' lo = true) (hhi : oopdOk hi' hi = true)
  (hx : VR φ H a x) (h : slSlA s g a lo hi = some v) : Val P w φ H (Instr.sliceAt t x (lo'.map ρ) (hi'.map ρ) none) v:=by
 unfold slSlA at h
 unfold Val
 simp only [sliceAt_slice hu]
 cases a <;> simp only [reduceCtorEq] at h
 case slice b o len ver =>
  simp only [VR] at hx
  obtain ⟨ad,c,gg,nn,cs,rfl,hl,hg,hv,ha⟩:=hx
  simp only [Option.map_eq_some_iff] at h
  obtain ⟨⟨l,m⟩,hb,rfl⟩:=h
  obtain ⟨hbs,h1,h2⟩:=bounds_sim (P:=P) (w:=w) (isS:=true) hρ hlo hhi hl hb
  refine ⟨.slice (if c = l then some ad else some (ad.add (l * g))) (m - l) (c - l),?_,?_⟩
  ·simp only [Instr.slice,Sem.run_bind,run_und hu,Result.andThen_ok,hbs,run_size hs,Sem.run_pure,Option.map_some]
  ·simp only
   by_cases hc : l = len ∧ 0 < len
   ·rw [if_pos hc]
    simp only [VR]
    by_cases hcl : c = l
    ·exact ⟨ad,c - l,by rw [if_pos hcl,show m - l = 0 by omega]⟩
    ·exact ⟨ad.add (l * g),c - l,by rw [if_neg hcl,show m - l = 0 by omega]⟩
   ·rw [if_neg hc]
    simp only [VR]
    by_cases hcl : c = l
    ·have hl0 : l = 0:=by omega
     subst hl0
     refine ⟨ad,c - 0,gg,nn,cs,by rw [if_pos hcl],by omega,hg,hv,fun q => ⟨by simpa using (ha q).1,fun k k2 => ?_⟩⟩
     simp at k2
     simpa using (ha q).2 k k2
    ·refine ⟨ad.add (l * g),c - l,gg,nn,cs,by rw [if_neg hcl],by omega,hg,hv,fun q => ⟨?_,fun k k2 => ?_⟩⟩
     ·rw [(ha q).1,addr_add,Nat.add_assoc]
     ·have:=(ha q).2 k (by omega)
      exact Nat.le_trans (Nat.mul_le_mul_right gg (by omega)) this
 case nils =>
  simp only [VR] at hx; subst hx
  simp only [Option.map_eq_some_iff] at h
  obtain ⟨⟨l,m⟩,hb,rfl⟩:=h
  obtain ⟨hbs,h1,h2⟩:=bounds_sim (P:=P) (w:=w) (isS:=true) hρ hlo hhi (Nat.le_refl 0) hb
  refine ⟨.slice none 0 0,?_,by simp [VR]⟩
  simp only [Instr.slice,Sem.run_bind,run_und hu,Result.andThen_ok,hbs,run_size hs,Sem.run_pure,Option.map_none,ite_self]
  rw [show m - l = 0 by omega,show 0 - l = 0 by omega]
 case slice0 =>
  simp only [VR] at hx
  obtain ⟨ad,c,rfl⟩:=hx
  simp only [Option.map_eq_some_iff] at h
  obtain ⟨⟨l,m⟩,hb,rfl⟩:=h
  obtain ⟨hbs,h1,h2⟩:=bounds_sim (P:=P) (w:=w) (isS:=true) hρ hlo hhi (Nat.zero_le c) hb
  refine ⟨.slice (if c = l then some ad else some (ad.add (l * g))) (m - l) (c - l),?_,?_⟩
  ·simp only [Instr.slice,Sem.run_bind,run_und hu,Result.andThen_ok,hbs,run_size hs,Sem.run_pure,Option.map_some]
  ·simp only [VR]
   by_cases hcl : c = l
   ·exact ⟨ad,c - l,by rw [if_pos hcl,show m - l = 0 by omega]⟩
   ·exact ⟨ad.add (l * g),c - l,by rw [if_neg hcl,show m - l = 0 by omega]⟩

theorem slStr_sim (hρ : RhoR φ H s ρ) {t : TypeId} {c : List UInt8} {x : Value} {lo hi : Option AOpd} {lo' hi' : Option Operand} {l m : Nat} (hu : P.underlying t = some .string) (hlo : oopdOk lo' lo = true) (hhi : oopdOk hi' hi = true)
  (hx : VR φ H (.str c) x) (h : bounds s c.length lo hi = some (l,m)) : Val P w φ H (Instr.sliceAt t x (lo'.map ρ) (hi'.map ρ) none) (.str ((c.drop l).take (m - l))):=by
 unfold Val
 simp only [sliceAt_string hu]
 simp only [VR] at hx; subst hx
 obtain ⟨hbs,h1,h2⟩:=bounds_sim (P:=P) (w:=w) (isS:=false) hρ hlo hhi (Nat.le_refl c.length) h
 refine ⟨.string ((ByteArray.mk c.toArray).extract l m),?_,?_⟩
 ·have hsz : (ByteArray.mk c.toArray).size = c.length:=by simp [ByteArray.size]
  simp only [Instr.slice,Sem.run_bind,run_und hu,Result.andThen_ok,hsz,Option.isSome_none,Bool.false_eq_true,if_false,Sem.run_pure,hbs]
 ·simp only [VR]
  congr 1
  apply ByteArray.ext
  rw [ByteArray.data_extract]
  apply Array.ext'
  rw [Array.toList_extract,List.extract_eq_take_drop]

end
end Go.AEv

set_option linter.unusedVariables false
set_option linter.unusedSimpArgs false
namespace Go.AEv
section
variable {CK : CKT} {P : Program} {w0 : World} {K : List Nat} {φ : Nat → Emb} {H H' : Heap} {w : World} {s : T} {ρ : Operand → Value} {v : AV} {fp : FP} {call : CallF} {h0 : Heap}

/-- What is appended,or copied. -/
theorem elems_sim (hr : HR CK w0 K φ H w) {g n : Nat} {y : AV} {u : Value} {ys : List AV} (hy : VR φ H y u) (h : elems H g y = some (n,ys)) :
  (Builtin.lenOf u).run P w = .ok n w ∧ ys.length = n * g ∧ ∃ arr : Array Value,(∀ w' : World,w'.heap = w.heap → (Builtin.firstCells g n u).run P w' = .ok arr w') ∧ VRs φ H ys arr.toList ∧ ∀ x ∈ arr.toList,Value.oneCell' x = true:=by
 unfold elems at h
 split at h
 ·simp only [VR] at hy; subst hy
  simp only [Option.some.injEq,Prod.mk.injEq] at h
  obtain ⟨rfl,rfl⟩:=h
  exact ⟨by simp [Builtin.lenOf],by simp,#[],fun w' _ => by simp [Builtin.firstCells],by simp [VRs],by simp⟩
 ·simp only [VR] at hy
  obtain ⟨a,c,rfl⟩:=hy
  simp only [Option.some.injEq,Prod.mk.injEq] at h
  obtain ⟨rfl,rfl⟩:=h
  refine ⟨by simp [Builtin.lenOf],by simp,#[],fun w' _ => ?_,by simp [VRs],by simp⟩
  simp [Builtin.firstCells,loadCells,loadCellsFrom]
 ·rename_i l
  simp only [VR] at hy; subst hy
  split at h
  ·rename_i hg
   subst hg
   simp only [Option.some.injEq,Prod.mk.injEq] at h
   obtain ⟨rfl,rfl⟩:=h
   refine ⟨by simp [Builtin.lenOf,ByteArray.size],by simp,l.toArray.map fun b => .int .u8 b.toNat,fun w' _ => ?_,?_,by simp [Value.oneCell']⟩
   ·simp only [Builtin.firstCells,Sem.run_pure]
    congr 2
    rw [ByteArray.data_extract]
    simp
   ·simp only [Array.toList_map]
    induction l with
    | nil => simp [VRs]
    | cons b l ih => simp only [List.map_cons,VRs,VR]; exact ⟨_,_,rfl,rfl,by simpa using ih⟩
  ·cases h
 ·rename_i b o len ver
  simp only [VR] at hy
  obtain ⟨a,c,gg,nn,cs,rfl,hl,hg,hv,ha⟩:=hy
  rw [hg] at h
  simp only at h
  split at h
  ·rename_i hn
   split at h
   ·rename_i hlen
    simp only [Option.some.injEq,Prod.mk.injEq] at h
    obtain ⟨rfl,rfl⟩:=h
    obtain ⟨rfl,_⟩:=ha hn.symm
    obtain ⟨xs,hxl,hxs,hxc,hxa⟩:=range_at hr hg o (len * g) hlen
    refine ⟨by simp [Builtin.lenOf],hlen,xs.toArray,fun w' hw' => ?_,by simpa using hxs,by simpa using hxc⟩
    have:=run_loadCells_list (P:=P) w' ⟨(φ b).blk,(φ b).off + o,none⟩ xs (fun k q hk => by
     have:=hxa k q hk
     unfold World.cell? at this ⊢
     rw [hw']; exact this)
    rw [hxl] at this
    simp only [Builtin.firstCells,this]
   ·cases h
  ·cases h
 ·cases h

def zeroSz (P : Program) (e : TypeId) (g : Nat) : Bool :=
 match P.info? e with
 | some i => match i.zero with
  | some v => v.cells.size == g && v.cells.toList.all Value.oneCell'
  | none => false
 | none => false

def appOk (P : Program) (sT xT : TypeId) (g bytes : Nat) : Bool :=
 (match P.underlying sT with
  | some (.slice e) => sizeOk P e g && bytesOk P e bytes && zeroSz P e g && decide (0 < g) && decide (0 < bytes) && decide (bytes ≤ 1073741824)
  | _ => false) &&
 (match P.underlying xT with
  | some (.slice _) | some .string => true
  | _ => false)

theorem growBy_le (need : Nat) : ∀ (k c : Nat),c ≤ need + (need + 768) / 4 → Builtin.growBy need k c ≤ need + (need + 768) / 4
 | 0,c,h => h
 | k + 1,c,h => by
  simp only [Builtin.growBy]
  split
  ·exact h
  ·exact growBy_le need k _ (by omega)

theorem cap_le (need old : Nat) (h : old < need) : Builtin.nextslicecap need old ≤ 2 * need + 192:=by
 unfold Builtin.nextslicecap
 split
 ·omega
 ·split
  ·omega
  ·have:=growBy_le need 4 old (by omega); omega

/-- What append makes where the cells do not suffice. -/
theorem run_append_grow {sT xT ty e : TypeId} {g bytes len c n : Nat} {base : Option Addr} {u : Value} {old new : Array Value}
  (hu : P.underlying sT = some (.slice e)) (hx : (match P.underlying xT with | some (.slice _) | some .string => true | _ => false) = true) (hs : sizeOk P e g = true) (hby : bytesOk P e bytes = true) (hz : zeroSz P e g = true)
  (hb0 : 0 < bytes) (hb1 : bytes ≤ 1073741824) (hle : (len + n) * bytes ≤ 1099511627776) (hc : c < len + n)
  (hl : (Builtin.lenOf u).run P w = .ok n w) (ho : ∀ w' : World,w'.heap = w.heap → (Builtin.firstCells g len (.slice base len c)).run P w' = .ok old w') (hn : ∀ w' : World,w'.heap = w.heap → (Builtin.firstCells g n u).run P w' = .ok new w')
  (hos : old.size = len * g) (hns : new.size = n * g) :
  ∃ (cap : Nat) (rest : Array Value) (w1 : World),(w1.heap = w.heap ∧ Env w w1) ∧ len + n ≤ cap ∧ rest.size = (cap - (len + n)) * g ∧ (∀ x ∈ rest.toList,Value.oneCell' x = true) ∧
   (Builtin.append_ #[sT,xT] ty #[.slice base len c,u]).run P w = .ok (.slice (some ⟨w1.heap.size,0,none⟩) (len + n) cap) { w1 with heap:=w1.heap.push (.cells (old ++ new ++ rest) e) }:=by
 unfold bytesOk at hby
 unfold zeroSz at hz
 cases hi : P.info? e with
 | none => rw [hi] at hby; cases hby
 | some i =>
  rw [hi] at hby hz
  simp only [beq_iff_eq] at hby
  simp only at hz
  cases hzz : i.zero with
  | none => rw [hzz] at hz; cases hz
  | some zv =>
   rw [hzz] at hz
   simp only [Bool.and_eq_true,beq_iff_eq,List.all_eq_true] at hz
   have hzero : ∀ w' : World,(zeroValue e).run P w' = .ok zv w':=fun w' => by simp only [zeroValue,Sem.run_bind,run_info hi,Result.andThen_ok,hzz,Sem.run_pure]
   have hcap:=cap_le (len + n) c hc
   have hbig : ¬ (Builtin.nextslicecap (len + n) c * i.bytes > 2 ^ 48):=by
    rw [hby]
    have h1:=Nat.mul_le_mul_right bytes hcap
    have h2 : (2 * (len + n) + 192) * bytes = 2 * ((len + n) * bytes) + 192 * bytes:=by rw [Nat.add_mul,Nat.mul_assoc]
    omega
   have hneed : len + n ≤ 1099511627776:=Nat.le_trans (Nat.le_mul_of_pos_right _ hb0) hle
   generalize hcv : (Question.appendCap (len + n) c e).cut (w.tape w.drawn (.appendCap (len + n) c e)) = cap
   have hcg : len + n ≤ cap:=by rw [← hcv]; simp [Question.cut]
   have hxu : ∃ d,P.underlying xT = some d ∧ ((∃ q,d = .slice q) ∨ d = .string):=by
    cases hq : P.underlying xT with
    | none => rw [hq] at hx; simp at hx
    | some d => exact ⟨d,rfl,by rw [hq] at hx; cases d <;> simp_all⟩
   refine ⟨cap,Builtin.zeroCells zv.cells (cap - (len + n)),{ w with drawn:=w.drawn + 1 },⟨rfl,rfl,rfl,rfl⟩,hcg,by simp [Builtin.zeroCells,hz.1],?_,?_⟩
   ·intro x hx'
    simp only [Builtin.zeroCells,Array.toList_map,List.mem_map] at hx'
    obtain ⟨k,_,rfl⟩:=hx'
    by_cases hzs : zv.cells.size = 0
    ·simp only [hz.1] at hzs
     exfalso
     rename_i hk
     simp [hz.1,hzs] at hk
    ·have hlt : k % zv.cells.size < zv.cells.size:=Nat.mod_lt _ (by omega)
     rw [getElem!_pos zv.cells _ hlt]
     exact hz.2 _ (by simp)
   ·obtain ⟨d,hd,hdz⟩:=hxu
    have hforced : (Question.appendCap (len + n) c e).forced = false:=rfl
    simp only [Builtin.append_,List.getElem?_toArray,List.getElem?_cons_zero,List.getElem?_cons_succ,Sem.run_bind,run_und hu,Result.andThen_ok,run_size hs,run_und hd,Sem.run_pure]
    rcases hdz with ⟨q,rfl⟩ | rfl <;>
    (simp only [Bool.false_eq_true,if_false,Sem.run_bind,hl,Result.andThen_ok,Sem.run_ite,if_neg (show ¬ len + n ≤ c by omega),run_info hi,false_or,hby]
     rw [if_neg (by rintro ⟨_,h⟩; omega),if_neg (by rw [← hby]; exact hbig)]
     simp only [Sem.run_bind,run_choose,hforced,Bool.false_eq_true,if_false,Result.andThen_ok,hcv,run_info hi,run_askRoom,ho { w with drawn:=w.drawn + 1 } rfl,hn { w with drawn:=w.drawn + 1 } rfl,Bool.not_false,if_true,hzero,newRow,run_newObj,Sem.run_pure])

theorem run_append_fit {sT xT ty e : TypeId} {g len c n : Nat} {base : Option Addr} {u : Value} {new : Array Value} {w' : World}
  (hu : P.underlying sT = some (.slice e)) (hx : (match P.underlying xT with | some (.slice _) | some .string => true | _ => false) = true) (hs : sizeOk P e g = true)
  (hc : len + n ≤ c) (hl : (Builtin.lenOf u).run P w = .ok n w) (hn : (Builtin.firstCells g n u).run P w = .ok new w)
  (hst : ∀ a,base = some a → (storeCells (a.add (len * g)) new.toList).run P w = .ok () w') (hno : base = none → w' = w) :
  (Builtin.append_ #[sT,xT] ty #[.slice base len c,u]).run P w = .ok (.slice base (len + n) c) w':=by
 have hxu : ∃ d,P.underlying xT = some d ∧ ((∃ q,d = .slice q) ∨ d = .string):=by
  cases hq : P.underlying xT with
  | none => rw [hq] at hx; simp at hx
  | some d => exact ⟨d,rfl,by rw [hq] at hx; cases d <;> simp_all⟩
 obtain ⟨d,hd,hdz⟩:=hxu
 simp only [Builtin.append_,List.getElem?_toArray,List.getElem?_cons_zero,List.getElem?_cons_succ,Sem.run_bind,run_und hu,Result.andThen_ok,run_size hs,run_und hd,Sem.run_pure]
 rcases hdz with ⟨q,rfl⟩ | rfl <;>
 (simp only [Bool.false_eq_true,if_false,Sem.run_bind,hl,Result.andThen_ok,if_pos hc,Bool.not_false,if_true,hn]
  cases base with
  | none => obtain rfl:=hno rfl; simp
  | some a => simp [hst a rfl])

theorem upd_self (φ : Nat → Emb) (i : Nat) (e : Emb) : upd φ i e i = e:=by simp [upd]

theorem append_sim (hr : HR CK w0 K φ H w) {sT xT ty : TypeId} {g bytes n n0 : Nat} {j : Option Nat} {a b : AV} {x u : Value} {ys : List AV} (hk : appOk P sT xT g bytes = true) (hx : VR φ H a x) (hy : VR φ H b u) (he : elems H g b = some (n,ys)) {eff : Eff}
  (hv : appA H n0 j g bytes n ys a = some (v,eff)) (ha : eff.app H = some H') :
  ∃ φ' w' r,(Builtin.append_ #[sT,xT] ty #[x,u]).run P w = .ok r w' ∧ HR CK w0 K φ' H' w' ∧ VR φ' H' v r ∧ Stp φ H φ' H':=by
 simp only [appOk,Bool.and_eq_true] at hk
 obtain ⟨hk1,hk2⟩:=hk
 cases hu : P.underlying sT with
 | none => rw [hu] at hk1; simp at hk1
 | some d =>
 rw [hu] at hk1
 cases d <;> simp only [Bool.false_eq_true] at hk1
 rename_i e
 simp only [Bool.and_eq_true,decide_eq_true_eq] at hk1
 obtain ⟨⟨⟨⟨⟨hs,hby⟩,hz⟩,hg0⟩,hb0⟩,hb1⟩:=hk1
 obtain ⟨hl,hyl,arr,hf',hya,hyo⟩:=elems_sim (P:=P) hr hy he
 have hral : arr.size = n * g:=by have:=hya.length; simp at this; omega
 have hf:=hf' w rfl
 unfold appA at hv
 cases a <;> simp only [reduceCtorEq] at hv
 case nils =>
  simp only [VR] at hx; subst hx
  split at hv
  ·rename_i hn0
   simp only [Option.some.injEq,Prod.mk.injEq] at hv
   obtain ⟨rfl,rfl⟩:=hv
   simp only [Eff.app,Option.some.injEq] at ha; subst ha
   subst hn0
   exact ⟨φ,w,_,run_append_fit (w':=w) hu hk2 hs (by omega) hl hf (by simp) (fun _ => rfl),hr,by simp [VR],Stp.refl φ H⟩
  ·rename_i hn0
   split at hv
   ·rename_i hle
    simp only [Option.some.injEq,Prod.mk.injEq] at hv
    obtain ⟨rfl,rfl⟩:=hv
    obtain ⟨cap,rest,w1,hw1,hcap,hrs,hro,hrun⟩:=run_append_grow (ty:=ty) (len:=0) (c:=0) (base:=none) (old:=#[]) hu hk2 hs hby hz hb0 hb1 (by simpa using hle) (by omega) hl (fun w' _ => by simp [Builtin.firstCells]) hf' (by simp) hral
    obtain ⟨r1,r2,r3⟩:=new_cells (hr.ofHeap hw1.1 hw1.2) (t:=e) (c:=#[] ++ arr ++ rest) ha (by
      rw [show ((#[] : Array Value) ++ arr ++ rest).toList.take ys.length = arr.toList by simp [hyl,← hral]]; exact hya) (by simp; omega) (by simp; intro q hq; rcases hq with hq | hq; exact hyo q (by simpa using hq); exact hro q (by simpa using hq))
    refine ⟨_,_,_,hrun,r1,?_,r2⟩
    simp only [VR]
    refine ⟨_,_,g,_,_,by rw [Nat.zero_add],by omega,r3,Nat.le_refl _,fun _ => ⟨by rw [upd_self],fun _ _ => ?_⟩⟩
    rw [upd_self]
    simp only [Array.size_append,hral,hrs,Nat.zero_add]
    have : cap * g = n * g + (cap - n) * g:=by rw [← Nat.add_mul]; congr 1; omega
    simp; omega
   ·cases hv
 case slice0 =>
  simp only [VR] at hx
  obtain ⟨ad,c,rfl⟩:=hx
  split at hv
  ·rename_i hn0
   simp only [Option.some.injEq,Prod.mk.injEq] at hv
   obtain ⟨rfl,rfl⟩:=hv
   simp only [Eff.app,Option.some.injEq] at ha; subst ha
   subst hn0
   have hae : arr = #[]:=by apply Array.eq_empty_of_size_eq_zero; simpa using hral
   subst hae
   exact ⟨φ,w,_,run_append_fit (w':=w) hu hk2 hs (by omega) hl hf (by simp [storeCells]) (by simp),hr,by simp only [VR]; exact ⟨_,_,rfl⟩,Stp.refl φ H⟩
  ·cases hv
 case slice b o len ver =>
  split at hv
  ·rename_i hn0
   simp only [Option.some.injEq,Prod.mk.injEq] at hv
   obtain ⟨rfl,rfl⟩:=hv
   simp only [Eff.app,Option.some.injEq] at ha; subst ha
   subst hn0
   have hae : arr = #[]:=by apply Array.eq_empty_of_size_eq_zero; simpa using hral
   subst hae
   have hx':=hx
   simp only [VR] at hx'
   obtain ⟨ad,c,gg,nn,cs,rfl,hlc,_⟩:=hx'
   exact ⟨φ,w,_,run_append_fit (w':=w) hu hk2 hs (by omega) hl hf (by simp [storeCells]) (by simp),hr,hx,Stp.refl φ H⟩
  ·rename_i hn0
   split at hv
   ·rename_i hc
    obtain ⟨rfl,rfl,hle⟩:=hc
    simp only [Option.some.injEq,Prod.mk.injEq] at hv
    obtain ⟨rfl,rfl⟩:=hv
    simp only [Eff.app] at ha
    split at ha
    ·cases ha
    ·rename_i hb
     split at ha
     ·rename_i g' nn cs hown
      split at ha
      ·rename_i hcond
       obtain ⟨rfl,rfl,hcl⟩:=hcond
       rw [forceL_eq] at ha
       cases ha
       have hg:=Heap.get_own H b _ hb hown
       simp only [VR] at hx
       obtain ⟨ad,c,gg,nn,cs',rfl,hlc,hg2,hv2,had⟩:=hx
       rw [hg] at hg2; cases hg2
       obtain ⟨rfl,hcc⟩:=had rfl
       have hcc:=hcc (by omega) trivial
       have ho:=hr.obj b
       rw [hg] at ho
       obtain ⟨cr,t,fr,hw,h2,h3,h4⟩:=ho
       obtain ⟨hlow,hoff,hfz⟩:=hr.own b (by omega) (by rw [hg]; simp)
       obtain rfl:=hfz _ _ _ hw
       rw [hoff] at h2 h4 ⊢
       have hlen : (cs ++ ys).length = (len + n) * g':=by rw [List.length_append,hcl,hyl,Nat.add_mul]
       by_cases hfit : len + n ≤ c
       ·have hmul : (len + n) * g' ≤ c * g':=Nat.mul_le_mul_right _ hfit
        have e1 : (len + n) * g' = len * g' + n * g':=Nat.add_mul _ _ _
        have hst:=run_storeCells_at P (φ b).blk (len * g') t arr.toList 0 cr w hw (by simp [hral]; omega) hyo
        simp only [Nat.add_zero] at hst
        have hup:=own_upd hr (n':=len * g' + ys.length) (cs':=cs ++ ys) (c':=(cr.toList.take (len * g') ++ arr.toList ++ cr.toList.drop (len * g' + arr.toList.length)).toArray) hb hown hw (by simp [hral]; omega) (by omega) (by rw [hlen]; omega) ?_
        ·refine ⟨φ,_,_,run_append_fit (w':=w.setRow (φ b).blk (cr.toList.take (len * g') ++ arr.toList ++ cr.toList.drop (len * g' + arr.toList.length)).toArray) hu hk2 hs hfit hl hf ?_ (by simp),hup.1,?_,hup.2⟩
         ·rintro _ ⟨⟩
          rw [addr_add]
          simpa using hst
         ·simp only [VR]
          refine ⟨_,c,g',_,_,rfl,hfit,by rw [Heap.get_setOwn H b _ _ hb hown,if_pos rfl],by omega,fun _ => ⟨by rw [hoff],fun _ _ => hcc⟩⟩
        ·intro k v hk
         by_cases hkl : k < cs.length
         ·rw [List.getElem?_append_left hkl] at hk
          obtain ⟨x,hx,hvx,hc1⟩:=h4 k v hk
          refine ⟨x,?_,hvx,hc1⟩
          simp only [List.getElem?_toArray]
          rw [List.append_assoc,List.getElem?_append_left (by simp; omega),List.getElem?_take_of_lt (by omega)]
          simpa using hx
         ·rw [List.getElem?_append_right (by omega)] at hk
          obtain ⟨x,hx,hvx⟩:=VRs.get hya hk
          have hlt : k - cs.length < ys.length:=(List.getElem?_eq_some_iff.1 hk).1
          refine ⟨x,?_,hvx,hyo x (List.mem_of_getElem? hx)⟩
          simp only [List.getElem?_toArray]
          have e2 : (cr.toList.take (len * g')).length = len * g':=by simp; omega
          rw [List.append_assoc,List.getElem?_append_right (by omega),List.getElem?_append_left (by rw [e2]; simp [hral]; omega),e2,← hcl]
          exact hx
       ·have hlt : c < len + n:=by omega
        have hlenv : ((cs.drop 0).take (len * g')).length = len * g':=by simp [hcl]
        have hold : ∃ old : Array Value,(∀ w' : World,w'.heap = w.heap → (Builtin.firstCells g' len (.slice (some ⟨(φ b).blk,0 + 0,none⟩) len c)).run P w' = .ok old w') ∧ VRs φ H cs old.toList ∧ (∀ q ∈ old.toList,Value.oneCell' q = true) ∧ old.size = len * g':=by
         obtain ⟨xs,hxl,hxs,hxc,hxa⟩:=range_at hr hg 0 (len * g') hlenv
         refine ⟨xs.toArray,fun w' hw' => ?_,?_,by simpa using hxc,by simpa using hxl⟩
         ·have:=run_loadCells_list (P:=P) w' ⟨(φ b).blk,(φ b).off + 0,none⟩ xs (fun k q hk => by
           have:=hxa k q hk
           unfold World.cell? at this ⊢
           rw [hw']; exact this)
          rw [hxl,hoff] at this
          simp only [Builtin.firstCells,this]
         ·simpa [List.take_of_length_le (Nat.le_of_eq hcl)] using hxs
        obtain ⟨old,ho1,ho2,ho3,ho4⟩:=hold
        obtain ⟨cap,rest,w1,hw1,hcap,hrs,hro,hrun⟩:=run_append_grow (ty:=ty) hu hk2 hs hby hz hb0 hb1 hle hlt hl ho1 hf' ho4 hral
        have hs2 : Stp φ H (upd φ b ⟨w1.heap.size,0,(old ++ arr ++ rest).size⟩) (H.setOwn b (.cells g' (len * g' + ys.length) (cs ++ ys))):=by
         intro k
         have hgk:=Heap.get_setOwn H b (.cells g' (len * g' + ys.length) (cs ++ ys)) _ hb hown k
         by_cases hk : k = b
         ·subst hk
          simp only [if_true] at hgk
          refine ⟨fun g1 n1 cs1 e => ?_,fun es e => ?_,fun st pend s ps x y e => ?_,fun c pos e => ?_⟩
          ·rw [hg] at e; cases e; refine ⟨_,_,hgk,by omega,fun q => ?_⟩
           have : 0 < n * g':=Nat.mul_pos (by omega) hg0
           omega
          ·rw [hg] at e; cases e
          ·rw [hg] at e; cases e
          ·rw [hg] at e; cases e
         ·simp only [hk,if_false] at hgk
          have hp : upd φ b ⟨w1.heap.size,0,(old ++ arr ++ rest).size⟩ k = φ k:=by simp [upd,hk]
          exact ⟨fun g1 n1 cs1 e => ⟨n1,cs1,by rw [hgk,e],Nat.le_refl _,fun _ => hp⟩,fun es e => ⟨es,by rw [hgk,e],hp⟩,fun st pend s ps x y e => ⟨st,pend,s,ps,x,y,by rw [hgk,e],hp⟩,fun c pos e => ⟨c,pos,by rw [hgk,e],hp⟩⟩
        have hr1:=hr.ofHeap hw1.1 hw1.2
        have htot : (old ++ arr ++ rest).size = cap * g':=by
         simp only [Array.size_append,ho4,hral,hrs]
         rw [← Nat.add_mul,← Nat.add_mul]; congr 1; omega
        have e1 : (len + n) * g' = len * g' + n * g':=Nat.add_mul _ _ _
        have hmul : (len + n) * g' ≤ cap * g':=Nat.mul_le_mul_right _ hcap
        refine ⟨_,_,_,hrun,HR.upd hr1 b (by omega) (.cells g' (len * g' + ys.length) (cs ++ ys)) ⟨w1.heap.size,0,(old ++ arr ++ rest).size⟩ (by rw [Heap.setOwn_eq]) (Heap.get_setOwn H b _ _ hb hown) (by simp) (fun r hr' _ => heap_push_same r hr') (.inr (Nat.le_refl _)) rfl hs2 ?_ ?_,?_,hs2⟩
        ·refine ⟨old ++ arr ++ rest,e,(0,0),by simp,by simp,by rw [hlen,htot]; exact hmul,fun k v hk => ?_⟩
         simp only [Nat.zero_add]
         have hva:=VRs.append ho2 hya
         obtain ⟨x,hx,hvx⟩:=VRs.get hva hk
         have hkl : k < (cs ++ ys).length:=(List.getElem?_eq_some_iff.1 hk).1
         refine ⟨x,?_,VR.step hs2 _ _ hvx,?_⟩
         ·rw [← Array.getElem?_toList,Array.toList_append,Array.toList_append,List.getElem?_append_left (by simp [ho4,hral]; omega)]
          exact hx
         ·have:=List.mem_of_getElem? hx
          rw [List.mem_append] at this
          rcases this with h | h
          ·exact ho3 x h
          ·exact hyo x h
        ·intro c' t' fr e; simp at e; exact e.2.2.symm
        ·simp only [VR]
         refine ⟨_,cap,g',_,_,rfl,hcap,by rw [Heap.get_setOwn H b _ _ hb hown,if_pos rfl],by omega,fun _ => ⟨by rw [upd_self],fun _ _ => ?_⟩⟩
         rw [upd_self]
         show cap * g' ≤ (old ++ arr ++ rest).size
         omega
      ·cases ha
     ·cases ha
   ·cases hv

end
end Go.AEv

set_option linter.unusedVariables false
set_option linter.unusedSimpArgs false
namespace Go.AEv
section
variable {CK : CKT} {P : Program} {w0 : World} {K : List Nat} {φ : Nat → Emb} {H H' : Heap} {w : World} {s : T} {ρ : Operand → Value} {v : AV} {fp : FP} {call : CallF} {h0 : Heap}

theorem VRs.takeR {n : Nat} {vs : List AV} {xs : List Value} (h : VRs φ H vs xs) : VRs φ H (vs.take n) (xs.take n):=VRs.take h

/-- What is copied: at most as many cells as there is room for. -/
theorem elems_some (hr : HR CK w0 K φ H w) {g n m : Nat} {y : AV} {u : Value} {ys : List AV} (hy : VR φ H y u) (h : elems H g y = some (n,ys)) (hm : m ≤ n) :
  ∃ arr : Array Value,(Builtin.firstCells g m u).run P w = .ok arr w ∧ VRs φ H (ys.take (m * g)) arr.toList ∧ ∀ x ∈ arr.toList,Value.oneCell' x = true:=by
 unfold elems at h
 split at h
 ·simp only [VR] at hy; subst hy
  simp only [Option.some.injEq,Prod.mk.injEq] at h
  obtain ⟨rfl,rfl⟩:=h
  exact ⟨#[],by simp [Builtin.firstCells],by simp [VRs],by simp⟩
 ·simp only [VR] at hy
  obtain ⟨a,c,rfl⟩:=hy
  simp only [Option.some.injEq,Prod.mk.injEq] at h
  obtain ⟨rfl,rfl⟩:=h
  obtain rfl : m = 0:=by omega
  exact ⟨#[],by simp [Builtin.firstCells,loadCells,loadCellsFrom],by simp [VRs],by simp⟩
 ·rename_i l
  simp only [VR] at hy; subst hy
  split at h
  ·rename_i hg
   subst hg
   simp only [Option.some.injEq,Prod.mk.injEq] at h
   obtain ⟨rfl,rfl⟩:=h
   refine ⟨(l.take m).toArray.map fun b => .int .u8 b.toNat,?_,?_,by
    intro x hx; rw [Array.toList_map] at hx; obtain ⟨q,_,rfl⟩:=List.mem_map.1 hx; rfl⟩
   ·simp only [Builtin.firstCells,Sem.run_pure]
    congr 2
    rw [ByteArray.data_extract]
    apply Array.ext'
    simp
   ·rw [Nat.mul_one,← List.map_take]
    simp only [Array.toList_map]
    generalize l.take m = q
    induction q with
    | nil => simp [VRs]
    | cons b l ih => simp only [List.map_cons,VRs,VR]; exact ⟨_,_,rfl,rfl,by simpa using ih⟩
  ·cases h
 ·rename_i b o len ver
  simp only [VR] at hy
  obtain ⟨a,c,gg,nn,cs,rfl,hl,hg,hv,ha⟩:=hy
  rw [hg] at h
  simp only at h
  split at h
  ·rename_i hn
   split at h
   ·rename_i hlen
    simp only [Option.some.injEq,Prod.mk.injEq] at h
    obtain ⟨rfl,rfl⟩:=h
    obtain ⟨rfl,_⟩:=ha hn.symm
    have hle : m * g ≤ len * g:=Nat.mul_le_mul_right _ hm
    have hlen' : ((cs.drop o).take (m * g)).length = m * g:=by simp at hlen ⊢; omega
    obtain ⟨xs,hxl,hxs,hxc,hxa⟩:=range_at hr hg o (m * g) hlen'
    refine ⟨xs.toArray,?_,?_,by simpa using hxc⟩
    ·have:=run_loadCells_list (P:=P) w _ xs hxa
     rw [hxl] at this
     simp only [Builtin.firstCells,this]
    ·rw [List.take_take,Nat.min_eq_left hle]; exact hxs
   ·cases h
  ·cases h
 ·cases h

theorem copy_sim (hr : HR CK w0 K φ H w) {dT sT ty e : TypeId} {g n : Nat} {a b : AV} {x u : Value} {ys : List AV} (hu : P.underlying dT = some (.slice e)) (hs : sizeOk P e g = true) (hx : VR φ H a x) (hy : VR φ H b u) (he : elems H g b = some (n,ys)) {eff : Eff}
  (hv : copyA g n ys a = some (v,eff)) (ha : eff.app H = some H') :
  ∃ w' r,(Builtin.copy_ #[dT,sT] ty #[x,u]).run P w = .ok r w' ∧ HR CK w0 K φ H' w' ∧ VR φ H' v r ∧ Stp φ H φ H':=by
 obtain ⟨hl,hyl,_,_,_,_⟩:=elems_sim (P:=P) hr hy he
 unfold copyA at hv
 cases a <;> simp only [reduceCtorEq,Option.some.injEq,Prod.mk.injEq] at hv
 case nils =>
  obtain ⟨rfl,rfl⟩:=hv
  simp only [Eff.app,Option.some.injEq] at ha; subst ha
  simp only [VR] at hx; subst hx
  obtain ⟨arr,hf,_,_⟩:=elems_some (P:=P) (m:=0) hr hy he (by simp)
  refine ⟨w,.int .i64 0,?_,hr,by simp [VR,goI],Stp.refl φ H⟩
  simp [Builtin.copy_,run_und hu,hl,run_size hs,hf,goInt]
 case slice0 =>
  obtain ⟨rfl,rfl⟩:=hv
  simp only [Eff.app,Option.some.injEq] at ha; subst ha
  simp only [VR] at hx
  obtain ⟨ad,c,rfl⟩:=hx
  obtain ⟨arr,hf,h1,_⟩:=elems_some (P:=P) (m:=0) hr hy he (by simp)
  have hae : arr = #[]:=by
   apply Array.eq_empty_of_size_eq_zero
   have:=h1.length
   simpa using this
  subst hae
  refine ⟨w,.int .i64 0,?_,hr,by simp [VR,goI],Stp.refl φ H⟩
  simp [Builtin.copy_,run_und hu,hl,run_size hs,hf,goInt,storeCells]
 case slice bb o len ver =>
  obtain ⟨rfl,rfl⟩:=hv
  have hx':=hx
  simp only [VR] at hx'
  obtain ⟨ad,c,gg,nn,cs,rfl,hlc,hg,hle,had⟩:=hx'
  obtain ⟨arr,hf,h1,h2⟩:=elems_some (P:=P) (m:=Nat.min n len) hr hy he (Nat.min_le_left _ _)
  have hp : VR φ H (.ptr bb o ver) (.pointer (some ad)):=by
   simp only [VR]; exact ⟨ad,gg,nn,cs,rfl,hg,hle,fun q => (had q).1⟩
  obtain ⟨w',hw',r1,r2⟩:=put_sim (P:=P) hr hp h1 h2 ha
  refine ⟨w',.int .i64 (Nat.min n len : Nat),?_,r1,by
   simp only [VR,goI]; congr 1; show ((min n len : Nat) : Int) = min (n : Int) len; omega,r2⟩
  simp [Builtin.copy_,run_und hu,hl,run_size hs,hf,goInt,hw']

theorem repl_get : ∀ (n : Nat) (z : List AV) (i : Nat),i < n * z.length → (repl n z)[i]? = z[i % z.length]?:=by
 have gen : ∀ (z : List AV) (n i : Nat),i < n * z.length → ((List.replicate n z).flatten)[i]? = z[i % z.length]?:=by
  intro z n
  induction n with
  | zero => intro i h; simp at h
  | succ n ih =>
   intro i h
   have e : (n + 1) * z.length = n * z.length + z.length:=Nat.succ_mul _ _
   simp only [List.replicate_succ,List.flatten_cons]
   by_cases hi : i < z.length
   ·rw [List.getElem?_append_left hi,Nat.mod_eq_of_lt hi]
   ·rw [List.getElem?_append_right (by omega),ih (i - z.length) (by omega)]
    congr 1
    rw [← Nat.mod_eq_sub_mod (by omega)]
 intro n z i h
 unfold repl
 split
 ·rename_i a
  simp at h
  rw [List.getElem?_replicate]
  simp [h,Nat.mod_one]
 ·exact gen z n i h

theorem repl_length (n : Nat) (z : List AV) : (repl n z).length = n * z.length:=by
 unfold repl
 split <;> simp

theorem makeSlice_sim (hr : HR CK w0 K φ H w) {t e : TypeId} {g bytes n0 : Nat} {j : Option Nat} {z : List AV} {k : IntKind} {n : Int} (hu : P.underlying t = some (.slice e)) (hs : sizeOk P e g = true) (hby : bytesOk P e bytes = true) (hz : zeroOk P e z = true) (hb0 : 0 < bytes)
  (h0 : 0 ≤ n) (hle : n * bytes ≤ 1099511627776) (hzl : z.length = g) (hm : (mk H n0 j (.cells g (n.toNat * g) (repl n.toNat z))).2.app H = some H') :
  ∃ φ' w' x,(Instr.makeSlice t (.int k n) (.int k n)).run P w = .ok x w' ∧ HR CK w0 K φ' H' w' ∧ VR φ' H' (.slice (mk H n0 j (.cells g (n.toNat * g) (repl n.toNat z))).1 0 n.toNat (n.toNat * g)) x ∧ Stp φ H φ' H':=by
 obtain ⟨zv,hz1,hz2,hz3⟩:=run_zero (P:=P) (w:=w) hz
 have hzs : zv.cells.size = g:=by have:=(hz2 φ H).length; simp at this; omega
 unfold bytesOk at hby
 split at hby
 ·rename_i i hi
  have hby : i.bytes = bytes:=by simpa using hby
  have hn1 : n ≤ 1099511627776:=by
   have h1 : n * 1 ≤ n * bytes:=Int.mul_le_mul_of_nonneg_left (by omega) h0
   omega
  have hwrap : IntKind.i64.wrap n = n:=by
   simp [IntKind.wrap,IntKind.bits,IntKind.signed]; omega
  obtain ⟨m,rfl⟩:=Int.eq_ofNat_of_zero_le h0
  simp only [Int.toNat_natCast] at *
  have hlen : (repl m z).length = m * g:=by rw [repl_length,hzl]
  generalize hc : (Array.range (m * g)).map (zv.cells[· % zv.cells.size]!) = c
  have hcs : c.size = m * g:=by rw [← hc]; simp
  have hget : ∀ i,i < m * g → c[i]? = some (zv.cells[i % g]!):=by
   intro i hi'
   rw [← hc,hzs]; simp [hi']
  have hcr : VRs φ H (repl m z) (c.toList.take (repl m z).length):=by
   rw [List.take_of_length_le (by simp [hcs,hlen])]
   refine VRs.ofGet (by simp [hcs,hlen]) fun i a x ha hx => ?_
   have hi' : i < m * g:=by have:=(List.getElem?_eq_some_iff.1 ha).1; omega
   rw [repl_get m z i (by rw [hzl]; exact hi'),hzl] at ha
   obtain ⟨y,hy,hvy⟩:=VRs.get (hz2 φ H) ha
   have h2:=hget i hi'
   have h3 : c[i]? = some x:=by simpa using hx
   rw [h2] at h3
   have h4 : zv.cells[i % g]? = some y:=by simpa using hy
   have h5 : zv.cells[i % g]! = y:=by
    have hlt:=(Array.getElem?_eq_some_iff.1 h4)
    obtain ⟨hlt,he⟩:=hlt
    rw [getElem!_pos zv.cells _ hlt,he]
   rw [h5] at h3
   cases h3; exact hvy
  have hc1 : ∀ x ∈ c.toList,Value.oneCell' x = true:=by
   intro x hx
   obtain ⟨i,hi'⟩:=List.mem_iff_getElem?.1 hx
   have hlt : i < m * g:=by have:=(List.getElem?_eq_some_iff.1 hi').1; simp [hcs] at this; exact this
   have h2:=hget i hlt
   have h3 : c[i]? = some x:=by simpa using hi'
   rw [h2] at h3; cases h3
   have hg0 : 0 < g:=by
    rcases Nat.eq_zero_or_pos g with h | h
    ·subst h; simp at hlt
    ·exact h
   have hlt' : i % g < zv.cells.size:=by rw [hzs]; exact Nat.mod_lt _ hg0
   rw [getElem!_pos zv.cells _ hlt']
   exact hz3 _ (by simp)
  obtain ⟨r1,r2,r3⟩:=new_cells hr (t:=e) (c:=c) hm hcr (by omega) hc1
  refine ⟨_,_,.slice (some ⟨w.heap.size,0,none⟩) m m,?_,r1,?_,r2⟩
  ·have ht : (decide ((m : Int) < 0) || decide ((i.bytes : Int) * (m : Int) > 2 ^ 48)) = false:=by
    rw [hby,Int.mul_comm]; simp; omega
   simp only [Instr.makeSlice,Sem.run_bind,run_und hu,Result.andThen_ok,asInt,asIntOf,Sem.run_pure,run_info hi,hwrap]
   rw [if_neg (by rw [ht]; simp)]
   simp only [Sem.run_bind,run_askRoom,Result.andThen_ok,Int.toNat_natCast,run_size hs]
   by_cases hz0 : m * g = 0
   ·rw [if_pos hz0]
    have hce : c = #[]:=Array.eq_empty_of_size_eq_zero (by omega)
    subst hce
    have er : (Array.range 0 : Array Nat) = #[]:=rfl
    simp [newRow,hz0,er]
   ·rw [if_neg hz0]
    simp only [Sem.run_bind,Sem.run_pure,Result.andThen_ok,newRow,run_newObj,hz1,hc]
  ·simp only [VR]
   refine ⟨_,m,g,_,_,rfl,Nat.le_refl _,r3,Nat.le_refl _,fun _ => ⟨by rw [upd_self],fun _ _ => ?_⟩⟩
   rw [upd_self]
   show m * g ≤ c.size
   omega
 ·cases hby

end
end Go.AEv

set_option linter.unusedVariables false
set_option linter.unusedSimpArgs false
namespace Go.AEv
section
variable {CK : CKT} {P : Program} {w0 : World} {K : List Nat} {φ : Nat → Emb} {H H' : Heap} {w : World} {s : T} {ρ : Operand → Value} {v : AV} {fp : FP} {call : CallF} {h0 : Heap}

def LK.desc : LK → TypeDesc
 | .b => .bool
 | .i k => .int k
 | .s => .string

theorem sameNow_sim {kk : LK} {a b : AV} {x y : Value} {r : Bool} (hk : kk.fits a = true) (ha : VR φ H a x) (hb : VR φ H b y) (h : aveq a b = some r) : Instr.sameNow kk.desc x y = some r:=by
 cases kk <;> cases a <;> simp only [LK.fits,Bool.false_eq_true] at hk <;> cases b <;> simp only [aveq,reduceCtorEq] at h
 ·simp only [VR] at ha hb; subst ha; subst hb; simpa [Instr.sameNow,LK.desc] using h
 ·simp only [VR] at ha hb; subst ha; subst hb; simpa [Instr.sameNow,LK.desc] using h
 ·rename_i l m
  simp only [VR] at ha hb; subst ha; subst hb
  simp only [Option.some.injEq] at h; subst h
  have e : ∀ a b : ByteArray,(a == b) = (a.data == b.data):=fun a b => by cases a; cases b; rfl
  simp [Instr.sameNow,LK.desc,e]

/-- The first entry with a key. -/
theorem find_sim {kk : LK} {k : AV} {x : Value} (hk : kk.fits k = true) (hx : VR φ H k x) : ∀ {es : List (AV × AV)} {xs : List MapEntry} {r : Option AV} (i : Nat),ER φ H es xs → findA k es = some r →
  ∃ q,Instr.findNow kk.desc x xs i = some q ∧ (match r,q with
   | none,none => True
   | some v,some (_,y) => VR φ H v y
   | _,_ => False)
 | [],xs,r,i,he,h => by
  simp only [ER] at he; subst he
  simp only [findA,Option.some.injEq] at h; subst h
  exact ⟨none,rfl,trivial⟩
 | e :: es,xs,r,i,he,h => by
  simp only [ER] at he
  obtain ⟨m,xs',rfl,h1,h2,h3⟩:=he
  simp only [findA] at h
  cases ha : aveq k e.1 with
  | none => rw [ha] at h; simp at h
  | some b =>
   rw [ha] at h
   have hs:=sameNow_sim hk hx h1 ha
   simp only [Instr.findNow,hs]
   cases b with
   | true => simp only [Option.some.injEq] at h; subst h; exact ⟨_,rfl,h2⟩
   | false => exact find_sim hk hx (i + 1) h3 h

theorem run_checkKey' {kk : LK} {t : TypeId} {x : Value} {b : Bool} (n : Nat) (hu : P.underlying t = some kk.desc) : (Instr.checkKey b (n + 1) t x).run P w = .ok () w:=by
 simp only [Instr.checkKey,Sem.run_bind,run_und hu,Result.andThen_ok]
 cases kk <;> rfl
theorem run_checkKey {kk : LK} {t : TypeId} {x : Value} {b : Bool} (hu : P.underlying t = some kk.desc) : (Instr.checkKey b 10000 t x).run P w = .ok () w:=run_checkKey' 9999 hu

theorem mapA_sim (hr : HR CK w0 K φ H w) {a : AV} {x : Value} {es : List (AV × AV)} (hx : VR φ H a x) (h : mapA H a = some es) :
  (x = .map none ∧ es = []) ∨ ∃ b xs clock,a = .map b ∧ x = .map (some (φ b).blk) ∧ w.heap[(φ b).blk]? = some (.map xs clock) ∧ ER φ H es xs.toList ∧ H.get b = .map es:=by
 unfold mapA at h
 split at h
 ·simp only [VR] at hx
  simp only [Option.some.injEq] at h
  exact .inl ⟨hx,h.symm⟩
 ·rename_i b
  simp only [VR] at hx
  obtain ⟨es',rfl,hg⟩:=hx
  rw [hg] at h
  simp only [Option.some.injEq] at h; subst h
  have ho:=hr.obj b
  rw [hg] at ho
  obtain ⟨xs,clock,h1,h2⟩:=ho
  exact .inr ⟨b,xs,clock,rfl,rfl,h1,h2,hg⟩
 ·cases h

def zeroVOk (P : Program) (t : TypeId) (z : AV) : Bool:=match P.info? t with | some i => (match i.zero with | some v => litOk v z | none => false) | none => false
theorem run_zeroV {t : TypeId} {z : AV} (h : zeroVOk P t z = true) : ∃ v,(zeroValue t).run P w = .ok v w ∧ ∀ φ H,VR φ H z v:=by
 unfold zeroVOk at h
 split at h
 ·rename_i i hi
  split at h
  ·rename_i v hv
   exact ⟨v,by simp only [zeroValue,Sem.run_bind,run_info hi,Result.andThen_ok,hv,Sem.run_pure],fun φ H => VR.ofLit _ _ h⟩
  ·cases h
 ·cases h

def lookRes (z : AV) (ok : Bool) : Option AV → AV
 | some v => if ok then .tup [v,.bool true] else v
 | none => if ok then .tup [z,.bool false] else z

theorem lookRes_sim {z : AV} {zv : Value} {ok : Bool} {r : Option AV} {q : Option (Nat × Value)} (z2 : VR φ H z zv) (hm : match r,q with
      | none,none => True
      | some v,some (_,y) => VR φ H v y
      | _,_ => False) : VR φ H (lookRes z ok r) (match q with | some (_,y) => if ok then .tuple #[y,.bool true] else y | none => if ok then .tuple #[zv,.bool false] else zv):=by
 cases r with
 | none =>
  cases q with
  | some p => simp at hm
  | none =>
   cases ok
   ·exact z2
   ·simp only [lookRes,if_true,VR]
    refine ⟨_,rfl,?_⟩
    simp only [VRs,VR]
    exact ⟨_,_,rfl,z2,_,_,rfl,rfl,rfl⟩
 | some v =>
  cases q with
  | none => simp at hm
  | some p =>
   cases ok
   ·exact hm
   ·simp only [lookRes,if_true,VR]
    refine ⟨_,rfl,?_⟩
    simp only [VRs,VR]
    exact ⟨_,_,rfl,hm,_,_,rfl,rfl,rfl⟩

theorem lookup_sim (hr : HR CK w0 K φ H w) {t kt et : TypeId} {kk : LK} {z : AV} {ok : Bool} {a k : AV} {x y : Value} {es : List (AV × AV)} {r : Option AV} (hu : P.underlying t = some (.map kt et)) (hk : P.underlying kt = some kk.desc) (hz : zeroVOk P et z = true)
  (hf : kk.fits k = true) (hx : VR φ H a x) (hy : VR φ H k y) (h : mapA H a = some es) (hr2 : findA k es = some r) :
  Val P w φ H (Instr.lookup t x y ok) (lookRes z ok r):=by
 obtain ⟨zv,z1,z2⟩:=run_zeroV (P:=P) (w:=w) hz
 rcases mapA_sim hr hx h with ⟨rfl,rfl⟩ | ⟨b,xs,clock,rfl,rfl,hw,he,hg⟩
 ·obtain ⟨q,hq,hm⟩:=find_sim hf hy 0 (φ:=φ) (H:=H) (es:=[]) (xs:=[]) (by simp [ER]) hr2
  refine ⟨_,?_,lookRes_sim (z2 φ H) hm⟩
  simp only [Instr.lookup,Sem.run_bind,run_und hu,Result.andThen_ok,Sem.run_pure,run_checkKey hk,Instr.findKey,run_und hk,hq]
  cases q with
  | none => simp only [Sem.run_bind,z1,Result.andThen_ok,Sem.run_pure]
  | some p => simp only [Sem.run_bind,Result.andThen_ok,Sem.run_pure]
 ·obtain ⟨q,hq,hm⟩:=find_sim hf hy 0 he hr2
  refine ⟨_,?_,lookRes_sim (z2 φ H) hm⟩
  simp only [Instr.lookup,Sem.run_bind,run_und hu,Result.andThen_ok,Sem.run_pure,getObj,Sem.run,hw,run_checkKey hk,Instr.findKey,run_und hk,hq]
  cases q with
  | none => simp only [Sem.run_bind,z1,Result.andThen_ok,Sem.run_pure]
  | some p => simp only [Sem.run_bind,Result.andThen_ok,Sem.run_pure]

theorem sameBits_sim {kk : LK} {a b : AV} {x y : Value} (hk : kk.fits a = true) (ha : VR φ H a x) (hb : VR φ H b y) (h : aveq a b = some true) (n : Nat) : Instr.sameBits n y x = true:=by
 cases kk <;> cases a <;> simp only [LK.fits,Bool.false_eq_true] at hk <;> cases b <;> simp only [aveq,reduceCtorEq] at h
 ·simp only [VR] at ha hb; subst ha; subst hb
  simp only [Option.some.injEq,beq_iff_eq] at h; subst h; simp [Instr.sameBits]
 ·simp only [VR] at ha hb; subst ha; subst hb
  split at h
  ·rename_i hk'; subst hk'
   simp only [Option.some.injEq,beq_iff_eq] at h; subst h; simp [Instr.sameBits]
  ·cases h
 ·rename_i l m
  simp only [VR] at ha hb; subst ha; subst hb
  simp only [Option.some.injEq,beq_iff_eq] at h; subst h
  have e : ∀ a b : ByteArray,(a == b) = (a.data == b.data):=fun a b => by cases a; cases b; rfl
  simp [Instr.sameBits,e]

/-- An entry changed,or put behind the others. -/
theorem put_map {kk : LK} {k v : AV} {x y : Value} (hk : kk.fits k = true) (hx : VR φ H k x) (hy : VR φ H v y) : ∀ {es es' : List (AV × AV)} {xs : List MapEntry} (i : Nat),ER φ H es xs → putMap k v es = some es' →
  (Instr.findNow kk.desc x xs i = some none ∧ ∀ born,ER φ H es' (xs ++ [{ key:=x,val:=y,born }])) ∨
  (∃ j z,Instr.findNow kk.desc x xs i = some (some (i + j,z)) ∧ (∃ e,xs[j]? = some e ∧ Instr.sameBits 10000 e.key x = true) ∧ ER φ H es' (xs.modify j fun e => { e with key:=x,val:=y }))
 | [],es',xs,i,he,h => by
  simp only [ER] at he; subst he
  simp only [putMap,Option.some.injEq] at h; subst h
  refine .inl ⟨rfl,fun born => ?_⟩
  simp only [List.nil_append,ER]
  exact ⟨_,_,rfl,hx,hy,rfl⟩
 | e :: es,es',xs,i,he,h => by
  simp only [ER] at he
  obtain ⟨m,xs',rfl,h1,h2,h3⟩:=he
  simp only [putMap] at h
  cases ha : aveq k e.1 with
  | none => rw [ha] at h; simp at h
  | some b =>
   rw [ha] at h
   have hs:=sameNow_sim hk hx h1 ha
   cases b with
   | true =>
    simp only [Option.some.injEq] at h; subst h
    refine .inr ⟨0,m.val,by simp [Instr.findNow,hs],⟨m,rfl,sameBits_sim hk hx h1 ha _⟩,?_⟩
    simp only [List.modify_zero_cons,ER]
    exact ⟨_,_,rfl,hx,hy,h3⟩
   | false =>
    simp only [Option.map_eq_some_iff] at h
    obtain ⟨es'',h4,rfl⟩:=h
    rcases put_map hk hx hy (i + 1) h3 h4 with ⟨f1,f2⟩ | ⟨j,z,f1,⟨e',f2,f3⟩,f4⟩
    ·refine .inl ⟨by simp [Instr.findNow,hs,f1],fun born => ?_⟩
     simp only [List.cons_append,ER]
     exact ⟨_,_,rfl,h1,h2,f2 born⟩
    ·refine .inr ⟨j + 1,z,by simp [Instr.findNow,hs,f1]; omega,⟨e',by simpa using f2,f3⟩,?_⟩
     simp only [List.modify_succ_cons,ER]
     exact ⟨_,_,rfl,h1,h2,f4⟩

theorem mapUpdate_sim (hr : HR CK w0 K φ H w) {t kt et : TypeId} {kk : LK} {b : Nat} {k vv : AV} {x y z : Value} {es es' : List (AV × AV)} (hu : P.underlying t = some (.map kt et)) (hk : P.underlying kt = some kk.desc)
  (hf : kk.fits k = true) (hx : VR φ H (.map b) x) (hy : VR φ H k y) (hv : VR φ H vv z) (h : mapA H (.map b) = some es) (hp : putMap k vv es = some es') (ha : (Eff.mput b es').app H = some H') :
  ∃ w',(Instr.mapUpdate t x y z).run P w = .ok () w' ∧ HR CK w0 K φ H' w' ∧ Stp φ H φ H':=by
 rcases mapA_sim hr hx h with ⟨rfl,rfl⟩ | ⟨b',xs,clock,e,rfl,hw,he,hg⟩
 ·simp only [VR] at hx; obtain ⟨_,e,_⟩:=hx; cases e
 ·cases e
  simp only [Eff.app] at ha
  split at ha
  ·cases ha
  ·rename_i hb
   split at ha
   ·rename_i es0 hown
    cases ha
    have hg0:=Heap.get_own H b _ hb hown
    rw [hg] at hg0; cases hg0
    have hs : Stp φ H φ (H.setOwn b (.map es')):=by
     intro q
     have hgk:=Heap.get_setOwn H b (.map es') _ hb hown q
     by_cases hq : q = b
     ·subst hq
      simp only [if_true] at hgk
      refine ⟨fun g1 n1 cs1 e => ?_,fun es e => ⟨es',hgk,rfl⟩,fun st pend s ps x y e => ?_,fun c pos e => ?_⟩
      ·rw [hg] at e; cases e
      ·rw [hg] at e; cases e
      ·rw [hg] at e; cases e
     ·simp only [hq,if_false] at hgk
      exact ⟨fun g1 n1 cs1 e => ⟨n1,cs1,by rw [hgk,e],Nat.le_refl _,fun _ => rfl⟩,fun es e => ⟨es,by rw [hgk,e],rfl⟩,fun st pend s ps x y e => ⟨st,pend,s,ps,x,y,by rw [hgk,e],rfl⟩,fun c pos e => ⟨c,pos,by rw [hgk,e],rfl⟩⟩
    obtain ⟨hlow,hoff,_⟩:=hr.own b (by omega) (by rw [hg]; simp)
    have hphi : upd φ b (φ b) = φ:=by funext q; unfold upd; split <;> simp_all
    have mkHR : ∀ (ys : Array MapEntry) (cl : Nat),ER φ H es' ys.toList → HR CK w0 K φ (H.setOwn b (.map es')) { w with heap:=w.heap.setIfInBounds (φ b).blk (.map ys cl) }:=by
     intro ys cl hys
     have hlt : (φ b).blk < w.heap.size:=(Array.getElem?_eq_some_iff.1 hw).1
     have hrow : (w.heap.setIfInBounds (φ b).blk (.map ys cl))[(φ b).blk]? = some (.map ys cl):=by simp [hlt]
     have main:=HR.upd hr b (by omega) (.map es') (φ b) (H':=H.setOwn b (.map es')) (w':={ w with heap:=w.heap.setIfInBounds (φ b).blk (.map ys cl) }) (by rw [Heap.setOwn_eq]) (Heap.get_setOwn H b _ _ hb hown)
      (by simp) (fun r hr' hne => by simp [Array.getElem?_setIfInBounds,Ne.symm hne]) (.inl ⟨rfl,by rw [hg]; simp⟩) hoff (by rw [hphi]; exact hs) ?_ ?_
     ·rw [hphi] at main; exact main
     ·rw [hphi]; exact ⟨ys,cl,hrow,ER.step hs hys⟩
     ·intro c t fr e; rw [hrow] at e; cases e
    rcases put_map hf hy hv 0 he hp with ⟨f1,f2⟩ | ⟨j,z',f1,⟨e',f2,f3⟩,f4⟩
    ·refine ⟨_,?_,mkHR (xs.push { key:=y,val:=z,born:=clock }) (clock + 1) (by simpa using f2 clock),hs⟩
     simp only [Instr.mapUpdate,Sem.run_bind,run_und hu,Result.andThen_ok,getObj,Sem.run,hw,run_checkKey hk,Instr.findKey,run_und hk,f1,Sem.run_pure,setObj]
    ·refine ⟨_,?_,mkHR (xs.modify j fun e => { e with key:=y,val:=z }) clock (by simpa using f4),hs⟩
     have f2' : xs[j]? = some e':=by simpa using f2
     simp only [Instr.mapUpdate,Sem.run_bind,run_und hu,Result.andThen_ok,getObj,Sem.run,hw,run_checkKey hk,Instr.findKey,run_und hk,f1,Sem.run_pure,setObj,Nat.zero_add,f2',Option.map_some,Option.getD_some,Instr.keyThatStays,f3,if_true]
   ·cases ha

/-! ### Keys of several cells -/
/-- The key type is an array of plain values. -/
def KeyA (P : Program) (kt : TypeId) (L : List LK) : Prop:=∃ n et q,P.underlying kt = some (.array n et) ∧ P.underlying et = some (LK.desc q) ∧ sizeOk P et 1 = true ∧ layT P 8 kt = some L ∧ kOk P kt (some L.length) = true ∧ L.length = n

theorem run_checkA {kt : TypeId} {L : List LK} {k : AV} {x : Value} {b : Bool} (hk : KeyA P kt L) (hf : fitsK L k = true) (hx : VR φ H k x) : (Instr.checkKey b 10000 kt x).run P w = .ok () w:=by
 obtain ⟨n,et,q,hu,he,hs,_,_,hl⟩:=hk
 cases k <;> simp only [fitsK,Bool.false_eq_true] at hf
 rename_i as
 have hx' : ∃ vs,x = .agg vs ∧ VRs φ H as vs.toList ∧ ∀ x ∈ vs.toList,Value.oneCell' x = true:=by simpa only [VR] using hx
 obtain ⟨cs,rfl,ha,_⟩:=hx'
 have hsz : cs.size = n:=by
  have h1:=ha.length
  have h2:=fits_length hf
  simp only [Array.length_toList] at h1
  omega
 have kok : kOk P et none = true:=by unfold kOk; rw [he]; cases q <;> rfl
 suffices gen : ∀ d,(Instr.checkKey b (d + 1 + 1) kt (.agg cs)).run P w = .ok () w from gen 9998
 intro d
 have hd : ∀ v,(Instr.checkKey b (d + 1) et v).run P w = .ok () w:=fun v => run_checkKey' (P:=P) (w:=w) d he
 generalize d + 1 = d1 at *
 simp only [Instr.checkKey,Sem.run_bind,run_und hu,Result.andThen_ok]
 rw [Std.Legacy.Range.forIn_eq_forIn_range']
 have key : ∀ (m o : Nat),o + m ≤ cs.size → (forIn (List.range' o m) PUnit.unit fun i (_ : PUnit) => do
   let __do_lift ← sizeOf et
   let __do_lift ← part et cs (i * __do_lift)
   Instr.checkKey b d1 et __do_lift
   Pure.pure (ForInStep.yield PUnit.unit) : Sem PUnit).run P w = .ok PUnit.unit w:=by
  intro m
  induction m with
  | zero => intro o _; simp
  | succ m ih =>
   intro o ho
   have hx : cs[o * 1]? = some cs[o]:=by rw [Nat.mul_one]; exact Array.getElem?_eq_getElem (by omega)
   simp only [List.range'_succ,List.forIn_cons,Sem.run_bind,run_size hs,Result.andThen_ok,run_part_one (P:=P) (w:=w) kok hx,hd,Sem.run_pure]
   exact ih (o + 1) (by omega)
 have:=key n 0 (by omega)
 simp only [Std.Legacy.Range.size,Nat.sub_zero,Nat.add_sub_cancel,Nat.div_one] at *
 rw [this]; rfl

theorem eqG {kt : TypeId} {L : List LK} {a b : AV} {u z : Value} {r : Bool} (hk : KeyA P kt L) (ha : VR φ H a u) (hb : VR φ H b z) (h : eqAgg L a b = some r) : (Op.equal kt u z).run P w = .ok r w:=by
 obtain ⟨n,et,q,hu,he,hs,hL,hko,hl⟩:=hk
 unfold eqAgg at h
 split at h
 ·rename_i as bs
  split at h
  ·rename_i hf
   simp only [Bool.and_eq_true] at hf
   simp only [Option.some.injEq] at h; subst h
   have ha' : ∃ vs,u = .agg vs ∧ VRs φ H as vs.toList ∧ ∀ x ∈ vs.toList,Value.oneCell' x = true:=by simpa only [VR] using ha
   have hb' : ∃ vs,z = .agg vs ∧ VRs φ H bs vs.toList ∧ ∀ x ∈ vs.toList,Value.oneCell' x = true:=by simpa only [VR] using hb
   clear ha hb
   obtain ⟨cs,rfl,ha,_⟩:=ha'
   obtain ⟨ds,rfl,hb,_⟩:=hb'
   exact (eqAB (P:=P) (φ:=φ) (H:=H) (w:=w) 8).2 kt L _ hL hko as bs cs ds Op.maxDepth (by decide) hf.1 hf.2 ha hb
  ·cases h
 ·cases h

/-- The first entry with a key. -/
theorem findG_ask {kt : TypeId} {L : List LK} {k : AV} {x : Value} (hk : KeyA P kt L) (hx : VR φ H k x) : ∀ {es : List (AV × AV)} {xs : List MapEntry} {r : Option AV} (i : Nat),ER φ H es xs → findG L k es = some r →
  ∃ q,(Instr.findAsking kt x xs i).run P w = .ok q w ∧ (match r,q with
   | none,none => True
   | some v,some (_,y) => VR φ H v y
   | _,_ => False)
 | [],xs,r,i,he,h => by
  simp only [ER] at he; subst he
  simp only [findG,Option.some.injEq] at h; subst h
  exact ⟨none,rfl,trivial⟩
 | e :: es,xs,r,i,he,h => by
  simp only [ER] at he
  obtain ⟨m,xs',rfl,h1,h2,h3⟩:=he
  simp only [findG] at h
  cases ha : eqAgg L k e.1 with
  | none => rw [ha] at h; simp at h
  | some b =>
   rw [ha] at h
   have hs:=eqG (P:=P) (w:=w) hk hx h1 ha
   simp only [Instr.findAsking,Sem.run_bind,hs,Result.andThen_ok]
   cases b with
   | true => simp only [Option.some.injEq] at h; subst h; exact ⟨_,rfl,h2⟩
   | false => exact findG_ask hk hx (i + 1) h3 h
theorem findNow_arr {n : Nat} {et : TypeId} {x : Value} {xs : List MapEntry} : Instr.findNow (.array n et) x xs 0 = if xs = [] then some none else none:=by
 cases xs with
 | nil => rfl
 | cons e es => simp [Instr.findNow,Instr.sameNow]
theorem run_findKeyA {kt : TypeId} {L : List LK} {x : Value} {xs : List MapEntry} {q : Option (Nat × Value)} (hk : KeyA P kt L) (h : (Instr.findAsking kt x xs 0).run P w = .ok q w) : (Instr.findKey kt x xs).run P w = .ok q w:=by
 obtain ⟨n,et,_,hu,_⟩:=hk
 simp only [Instr.findKey,Sem.run_bind,run_und hu,Result.andThen_ok,findNow_arr]
 cases xs with
 | nil =>
  rw [if_pos rfl]
  exact h
 | cons e es =>
  rw [if_neg (by simp)]
  exact h
theorem findG_sim {kt : TypeId} {L : List LK} {k : AV} {x : Value} {es : List (AV × AV)} {xs : List MapEntry} (hk : KeyA P kt L) (hx : VR φ H k x) (he : ER φ H es xs) : ∀ {r : Option AV},findG L k es = some r →
  ∃ q,(Instr.findKey kt x xs).run P w = .ok q w ∧ (match r,q with
   | none,none => True
   | some v,some (_,y) => VR φ H v y
   | _,_ => False):=by
 intro r h
 obtain ⟨q,h1,h2⟩:=findG_ask (P:=P) (w:=w) hk hx 0 he h
 exact ⟨q,run_findKeyA hk h1,h2⟩

theorem lookupA_sim (hr : HR CK w0 K φ H w) {t kt et : TypeId} {L : List LK} {z : AV} {ok : Bool} {a k : AV} {x y : Value} {es : List (AV × AV)} {r : Option AV} (hu : P.underlying t = some (.map kt et)) (hk : KeyA P kt L) (hz : zeroVOk P et z = true)
  (hf : fitsK L k = true) (hx : VR φ H a x) (hy : VR φ H k y) (h : mapA H a = some es) (hr2 : findG L k es = some r) :
  Val P w φ H (Instr.lookup t x y ok) (lookRes z ok r):=by
 obtain ⟨zv,z1,z2⟩:=run_zeroV (P:=P) (w:=w) hz
 rcases mapA_sim hr hx h with ⟨rfl,rfl⟩ | ⟨b,xs,clock,rfl,rfl,hw,he,hg⟩
 ·obtain ⟨q,hq,hm⟩:=findG_sim (P:=P) (w:=w) (φ:=φ) (H:=H) (es:=[]) (xs:=[]) hk hy (by simp [ER]) hr2
  refine ⟨_,?_,lookRes_sim (z2 φ H) hm⟩
  simp only [Instr.lookup,Sem.run_bind,run_und hu,Result.andThen_ok,Sem.run_pure,run_checkA hk hf hy,hq]
  cases q with
  | none => simp only [Sem.run_bind,z1,Result.andThen_ok,Sem.run_pure]
  | some p => simp only [Sem.run_bind,Result.andThen_ok,Sem.run_pure]
 ·obtain ⟨q,hq,hm⟩:=findG_sim (P:=P) (w:=w) hk hy he hr2
  refine ⟨_,?_,lookRes_sim (z2 φ H) hm⟩
  simp only [Instr.lookup,Sem.run_bind,run_und hu,Result.andThen_ok,Sem.run_pure,getObj,Sem.run,hw,run_checkA hk hf hy,hq]
  cases q with
  | none => simp only [Sem.run_bind,z1,Result.andThen_ok,Sem.run_pure]
  | some p => simp only [Sem.run_bind,Result.andThen_ok,Sem.run_pure]

theorem fits_same : ∀ {L : List LK} {as : List AV} {cs ds : List Value},fits L as = true → VRs φ H as cs → VRs φ H as ds → cs = ds ∧ ∀ m,((cs.zip ds).all fun (x,y) => Instr.sameBits m x y) = true
 | [],[],cs,ds,_,ha,hb => by
  simp only [VRs] at ha hb; subst ha; subst hb; exact ⟨rfl,fun m => rfl⟩
 | [],_ :: _,_,_,hf,_,_ => by simp [fits] at hf
 | _ :: _,[],_,_,hf,_,_ => by simp [fits] at hf
 | q :: L,a :: as,cs,ds,hf,ha,hb => by
  simp only [fits,Bool.and_eq_true] at hf
  simp only [VRs] at ha hb
  obtain ⟨c,cs',rfl,a1,a2⟩:=ha
  obtain ⟨d,ds',rfl,b1,b2⟩:=hb
  obtain ⟨rfl,h2⟩:=fits_same hf.2 a2 b2
  have hcd : c = d ∧ ∀ m,Instr.sameBits m c d = true:=by
   have h1:=hf.1
   cases q <;> cases a <;> simp only [LK.fits,Bool.false_eq_true] at h1 <;> simp only [VR] at a1 b1 <;> subst a1 <;> subst b1 <;> exact ⟨rfl,fun m => by
    have e : ∀ a b : ByteArray,(a == b) = (a.data == b.data):=fun a b => by cases a; cases b; rfl
    simp [Instr.sameBits,e]⟩
  obtain ⟨rfl,h3⟩:=hcd
  refine ⟨rfl,fun m => ?_⟩
  simp only [List.zip_cons_cons,List.all_cons,Bool.and_eq_true]
  exact ⟨h3 m,h2 m⟩
theorem allEq_same : ∀ {L : List LK} {as bs : List AV},fits L as = true → fits L bs = true → allEq as bs = true → as = bs
 | [],[],[],_,_,_ => rfl
 | [],_ :: _,_,hf,_,_ => by simp [fits] at hf
 | [],[],_ :: _,_,hf,_ => by simp [fits] at hf
 | _ :: _,[],_,hf,_,_ => by simp [fits] at hf
 | _ :: _,_ :: _,[],_,hf,_ => by simp [fits] at hf
 | q :: L,a :: as,b :: bs,ha,hb,h => by
  simp only [fits,Bool.and_eq_true] at ha hb
  simp only [allEq,Bool.and_eq_true,beq_iff_eq] at h
  obtain rfl:=allEq_same ha.2 hb.2 h.2
  have h1:=ha.1
  have h2:=hb.1
  have h3:=h.1
  cases q <;> cases a <;> simp only [LK.fits,Bool.false_eq_true,beq_iff_eq] at h1 <;> cases b <;> simp only [LK.fits,Bool.false_eq_true,beq_iff_eq] at h2 <;> simp_all [aveq]

/-- An entry changed,or put behind the others. -/
theorem putG_ask {kt : TypeId} {L : List LK} {k v : AV} {x y : Value} (hk : KeyA P kt L) (hf : fitsK L k = true) (hx : VR φ H k x) (hy : VR φ H v y) : ∀ {es es' : List (AV × AV)} {xs : List MapEntry} (i : Nat),ER φ H es xs → putG L k v es = some es' →
  ((Instr.findAsking kt x xs i).run P w = .ok none w ∧ ∀ born,ER φ H es' (xs ++ [{ key:=x,val:=y,born }])) ∨
  (∃ j z,(Instr.findAsking kt x xs i).run P w = .ok (some (i + j,z)) w ∧ (∃ e,xs[j]? = some e ∧ Instr.sameBits 10000 e.key x = true) ∧ ER φ H es' (xs.modify j fun e => { e with key:=x,val:=y }))
 | [],es',xs,i,he,h => by
  simp only [ER] at he; subst he
  simp only [putG,Option.some.injEq] at h; subst h
  refine .inl ⟨rfl,fun born => ?_⟩
  simp only [List.nil_append,ER]
  exact ⟨_,_,rfl,hx,hy,rfl⟩
 | e :: es,es',xs,i,he,h => by
  simp only [ER] at he
  obtain ⟨m,xs',rfl,h1,h2,h3⟩:=he
  simp only [putG] at h
  cases ha : eqAgg L k e.1 with
  | none => rw [ha] at h; simp at h
  | some b =>
   rw [ha] at h
   have hs:=eqG (P:=P) (w:=w) hk hx h1 ha
   cases b with
   | true =>
    simp only [Option.some.injEq] at h; subst h
    refine .inr ⟨0,m.val,by simp only [Instr.findAsking,Sem.run_bind,hs,Result.andThen_ok,if_true,Sem.run_pure,Nat.add_zero],⟨m,rfl,?_⟩,?_⟩
    ·unfold eqAgg at ha
     split at ha
     ·rename_i as bs hb'
      split at ha
      ·rename_i hff
       simp only [Bool.and_eq_true] at hff
       simp only [Option.some.injEq] at ha
       obtain rfl:=allEq_same hff.1 hff.2 ha
       rw [hb'] at h1
       have hx' : ∃ vs,x = .agg vs ∧ VRs φ H as vs.toList ∧ ∀ x ∈ vs.toList,Value.oneCell' x = true:=by simpa only [VR] using hx
       have h1' : ∃ vs,m.key = .agg vs ∧ VRs φ H as vs.toList ∧ ∀ x ∈ vs.toList,Value.oneCell' x = true:=by simpa only [VR] using h1
       obtain ⟨cs,rfl,ha1,_⟩:=hx'
       obtain ⟨ds,e2,ha2,_⟩:=h1'
       obtain ⟨e3,e4⟩:=fits_same hff.1 ha2 ha1
       rw [e2]
       show (ds.size == cs.size && (ds.toList.zip cs.toList).all fun (x,y) => Instr.sameBits 9999 x y) = true
       rw [e4 9999,Bool.and_true,beq_iff_eq]
       have:=congrArg List.length e3
       simpa using this
      ·cases ha
     ·cases ha
    ·simp only [List.modify_zero_cons,ER]
     exact ⟨_,_,rfl,hx,hy,h3⟩
   | false =>
    simp only [Option.map_eq_some_iff] at h
    obtain ⟨es'',h4,rfl⟩:=h
    rcases putG_ask hk hf hx hy (i + 1) h3 h4 with ⟨f1,f2⟩ | ⟨j,z,f1,⟨e',f2,f3⟩,f4⟩
    ·refine .inl ⟨by simp only [Instr.findAsking,Sem.run_bind,hs,Result.andThen_ok,Bool.false_eq_true,if_false,f1],fun born => ?_⟩
     simp only [List.cons_append,ER]
     exact ⟨_,_,rfl,h1,h2,f2 born⟩
    ·refine .inr ⟨j + 1,z,by simp only [Instr.findAsking,Sem.run_bind,hs,Result.andThen_ok,Bool.false_eq_true,if_false,f1]; rw [show i + 1 + j = i + (j + 1) by omega],⟨e',by simpa using f2,f3⟩,?_⟩
     simp only [List.modify_succ_cons,ER]
     exact ⟨_,_,rfl,h1,h2,f4⟩
theorem putG_map {kt : TypeId} {L : List LK} {k v : AV} {x y : Value} (hk : KeyA P kt L) (hf : fitsK L k = true) (hx : VR φ H k x) (hy : VR φ H v y) {es es' : List (AV × AV)} {xs : List MapEntry} (i : Nat) (he : ER φ H es xs) (h : putG L k v es = some es') :
  ((Instr.findKey kt x xs).run P w = .ok none w ∧ ∀ born,ER φ H es' (xs ++ [{ key:=x,val:=y,born }])) ∨
  (∃ j z,(Instr.findKey kt x xs).run P w = .ok (some (0 + j,z)) w ∧ (∃ e,xs[j]? = some e ∧ Instr.sameBits 10000 e.key x = true) ∧ ER φ H es' (xs.modify j fun e => { e with key:=x,val:=y })):=by
 rcases putG_ask (P:=P) (w:=w) hk hf hx hy 0 he h with ⟨f1,f2⟩ | ⟨j,z,f1,f2,f3⟩
 ·exact .inl ⟨run_findKeyA hk f1,f2⟩
 ·exact .inr ⟨j,z,run_findKeyA hk f1,f2,f3⟩

theorem mapUpdateA_sim (hr : HR CK w0 K φ H w) {t kt et : TypeId} {L : List LK} {b : Nat} {k vv : AV} {x y z : Value} {es es' : List (AV × AV)} (hu : P.underlying t = some (.map kt et)) (hk : KeyA P kt L)
  (hf : fitsK L k = true) (hx : VR φ H (.map b) x) (hy : VR φ H k y) (hv : VR φ H vv z) (h : mapA H (.map b) = some es) (hp : putG L k vv es = some es') (ha : (Eff.mput b es').app H = some H') :
  ∃ w',(Instr.mapUpdate t x y z).run P w = .ok () w' ∧ HR CK w0 K φ H' w' ∧ Stp φ H φ H':=by
 rcases mapA_sim hr hx h with ⟨rfl,rfl⟩ | ⟨b',xs,clock,e,rfl,hw,he,hg⟩
 ·simp only [VR] at hx; obtain ⟨_,e,_⟩:=hx; cases e
 ·cases e
  simp only [Eff.app] at ha
  split at ha
  ·cases ha
  ·rename_i hb
   split at ha
   ·rename_i es0 hown
    cases ha
    have hg0:=Heap.get_own H b _ hb hown
    rw [hg] at hg0; cases hg0
    have hs : Stp φ H φ (H.setOwn b (.map es')):=by
     intro q
     have hgk:=Heap.get_setOwn H b (.map es') _ hb hown q
     by_cases hq : q = b
     ·subst hq
      simp only [if_true] at hgk
      refine ⟨fun g1 n1 cs1 e => ?_,fun es e => ⟨es',hgk,rfl⟩,fun st pend s ps x y e => ?_,fun c pos e => ?_⟩
      ·rw [hg] at e; cases e
      ·rw [hg] at e; cases e
      ·rw [hg] at e; cases e
     ·simp only [hq,if_false] at hgk
      exact ⟨fun g1 n1 cs1 e => ⟨n1,cs1,by rw [hgk,e],Nat.le_refl _,fun _ => rfl⟩,fun es e => ⟨es,by rw [hgk,e],rfl⟩,fun st pend s ps x y e => ⟨st,pend,s,ps,x,y,by rw [hgk,e],rfl⟩,fun c pos e => ⟨c,pos,by rw [hgk,e],rfl⟩⟩
    obtain ⟨hlow,hoff,_⟩:=hr.own b (by omega) (by rw [hg]; simp)
    have hphi : upd φ b (φ b) = φ:=by funext q; unfold upd; split <;> simp_all
    have mkHR : ∀ (ys : Array MapEntry) (cl : Nat),ER φ H es' ys.toList → HR CK w0 K φ (H.setOwn b (.map es')) { w with heap:=w.heap.setIfInBounds (φ b).blk (.map ys cl) }:=by
     intro ys cl hys
     have hlt : (φ b).blk < w.heap.size:=(Array.getElem?_eq_some_iff.1 hw).1
     have hrow : (w.heap.setIfInBounds (φ b).blk (.map ys cl))[(φ b).blk]? = some (.map ys cl):=by simp [hlt]
     have main:=HR.upd hr b (by omega) (.map es') (φ b) (H':=H.setOwn b (.map es')) (w':={ w with heap:=w.heap.setIfInBounds (φ b).blk (.map ys cl) }) (by rw [Heap.setOwn_eq]) (Heap.get_setOwn H b _ _ hb hown)
      (by simp) (fun r hr' hne => by simp [Array.getElem?_setIfInBounds,Ne.symm hne]) (.inl ⟨rfl,by rw [hg]; simp⟩) hoff (by rw [hphi]; exact hs) ?_ ?_
     ·rw [hphi] at main; exact main
     ·rw [hphi]; exact ⟨ys,cl,hrow,ER.step hs hys⟩
     ·intro c t fr e; rw [hrow] at e; cases e
    rcases putG_map (w:=w) hk hf hy hv 0 he hp with ⟨f1,f2⟩ | ⟨j,z',f1,⟨e',f2,f3⟩,f4⟩
    ·refine ⟨_,?_,mkHR (xs.push { key:=y,val:=z,born:=clock }) (clock + 1) (by simpa using f2 clock),hs⟩
     simp only [Instr.mapUpdate,Sem.run_bind,run_und hu,Result.andThen_ok,getObj,Sem.run,hw,run_checkA hk hf hy,f1,Sem.run_pure,setObj]
    ·refine ⟨_,?_,mkHR (xs.modify j fun e => { e with key:=y,val:=z }) clock (by simpa using f4),hs⟩
     have f2' : xs[j]? = some e':=by simpa using f2
     simp only [Instr.mapUpdate,Sem.run_bind,run_und hu,Result.andThen_ok,getObj,Sem.run,hw,run_checkA hk hf hy,f1,Sem.run_pure,setObj,Nat.zero_add,f2',Option.map_some,Option.getD_some,Instr.keyThatStays,f3,if_true]
   ·cases ha

theorem makeMap_sim (hr : HR CK w0 K φ H w) {t : TypeId} {n0 : Nat} {j : Option Nat} (hm : (mk H n0 j (.map [])).2.app H = some H') :
  ∃ φ' w' x,(Instr.makeMap t none).run P w = .ok x w' ∧ HR CK w0 K φ' H' w' ∧ VR φ' H' (.map (mk H n0 j (.map [])).1) x ∧ Stp φ H φ' H':=by
 obtain ⟨hi,hh,hN,hget⟩:=mk_spec hm
 generalize (mk H n0 j (.map [])).1 = i at *
 have hs : Stp φ H (upd φ i ⟨w.heap.size,0,0⟩) H':=Stp.fresh hh hget
 refine ⟨_,{ w with heap:=w.heap.push (.map #[] 0) },.map (some w.heap.size),by simp [Instr.makeMap],HR.upd hr i hi (.map []) ⟨w.heap.size,0,0⟩ hN hget (by simp) (fun r hr' _ => heap_push_same r hr') (.inr (Nat.le_refl _)) rfl hs ⟨#[],0,by simp,by simp [ER]⟩ ?_,?_,hs⟩
 ·intro c t fr e; simp at e
 ·simp only [VR]
  exact ⟨[],by rw [upd_self],by rw [hget]; simp⟩

/-! ### A range over a string -/
theorem rangeS_sim (hr : HR CK w0 K φ H w) {t : TypeId} {c : List UInt8} {x : Value} (hu : P.underlying t = some .string) (hx : VR φ H (.str c) x) :
  ∃ φ' w' y,(Instr.range t x).run P w = .ok y w' ∧ HR CK w0 K φ' { H with own:=H.own ++ [.iter c 0] } w' ∧ VR φ' { H with own:=H.own ++ [.iter c 0] } (.itr H.size) y ∧ Stp φ H φ' { H with own:=H.own ++ [.iter c 0] }:=by
 simp only [VR] at hx; subst hx
 have hget:=Heap.get_grow H (.iter c 0)
 have hs : Stp φ H (upd φ H.size ⟨w.heap.size,0,0⟩) { H with own:=H.own ++ [.iter c 0] }:=Stp.fresh (Heap.get_size H) hget
 refine ⟨_,{ w with heap:=w.heap.push (.stringIter ⟨c.toArray⟩ 0) },.pointer (some ⟨w.heap.size,0,none⟩),?_,HR.upd hr H.size (by unfold Heap.size; omega) (.iter c 0) ⟨w.heap.size,0,0⟩ rfl hget (by simp) (fun r hr' _ => heap_push_same r hr') (.inr (Nat.le_refl _)) rfl hs ?_ ?_,?_,hs⟩
 ·simp [Instr.range,run_und hu]
 ·simp only [OR]; simp
 ·intro c t fr e; simp at e
 ·simp only [VR]
  exact ⟨c,0,by rw [upd_self],by rw [hget]; simp⟩
theorem next_sim (hr : HR CK w0 K φ H w) {ty : TypeId} {b pos : Nat} {c : List UInt8} {x : Value} (hx : VR φ H (.itr b) x) (hg : H.get b = .iter c pos) :
  (pos < c.length → ∀ {H'},(Eff.inext b (pos + (Utf8.decode ⟨c.toArray⟩ pos).2)).app H = some H' → ∃ w',(Instr.next x true ty).run P w = .ok (.tuple #[.bool true,goInt pos,.int .i32 (Utf8.decode ⟨c.toArray⟩ pos).1]) w' ∧ HR CK w0 K φ H' w' ∧ Stp φ H φ H') ∧
  (¬ pos < c.length → (Instr.next x true ty).run P w = .ok (.tuple #[.bool false]) w):=by
 simp only [VR] at hx
 obtain ⟨c',pos',rfl,hg'⟩:=hx
 have ho:=hr.obj b
 rw [hg] at ho
 simp only [OR] at ho
 have hsz : (⟨c.toArray⟩ : ByteArray).size = c.length:=by simp [ByteArray.size]
 constructor
 ·intro hlt H' ha
  simp only [Eff.app] at ha
  split at ha
  ·cases ha
  ·rename_i hb
   split at ha
   ·rename_i c1 p1 hown
    cases ha
    have hg0:=Heap.get_own H b _ hb hown
    rw [hg] at hg0; cases hg0
    have hget:=Heap.get_setOwn H b (.iter c (pos + (Utf8.decode ⟨c.toArray⟩ pos).2)) _ hb hown
    have hs : Stp φ H φ (H.setOwn b (.iter c (pos + (Utf8.decode ⟨c.toArray⟩ pos).2))):=by
     intro q
     have hgk:=hget q
     by_cases hq : q = b
     ·subst hq
      simp only [if_true] at hgk
      refine ⟨fun g1 n1 cs1 e => ?_,fun es e => ?_,fun st pend s ps x y e => ?_,fun c2 p2 e => ⟨_,_,hgk,rfl⟩⟩
      ·rw [hg] at e; cases e
      ·rw [hg] at e; cases e
      ·rw [hg] at e; cases e
     ·simp only [hq,if_false] at hgk
      exact ⟨fun g1 n1 cs1 e => ⟨n1,cs1,by rw [hgk,e],Nat.le_refl _,fun _ => rfl⟩,fun es e => ⟨es,by rw [hgk,e],rfl⟩,fun st pend s ps x y e => ⟨st,pend,s,ps,x,y,by rw [hgk,e],rfl⟩,fun c pos e => ⟨c,pos,by rw [hgk,e],rfl⟩⟩
    obtain ⟨hlow,hoff,_⟩:=hr.own b (by omega) (by rw [hg]; simp)
    have hphi : upd φ b (φ b) = φ:=by funext q; unfold upd; split <;> simp_all
    have hlt2 : (φ b).blk < w.heap.size:=(Array.getElem?_eq_some_iff.1 ho).1
    have hrow : (w.heap.setIfInBounds (φ b).blk (.stringIter ⟨c.toArray⟩ (pos + (Utf8.decode ⟨c.toArray⟩ pos).2)))[(φ b).blk]? = some (.stringIter ⟨c.toArray⟩ (pos + (Utf8.decode ⟨c.toArray⟩ pos).2)):=by simp [hlt2]
    have main:=HR.upd hr b (by omega) (.iter c (pos + (Utf8.decode ⟨c.toArray⟩ pos).2)) (φ b) (H':=H.setOwn b (.iter c (pos + (Utf8.decode ⟨c.toArray⟩ pos).2))) (w':={ w with heap:=w.heap.setIfInBounds (φ b).blk (.stringIter ⟨c.toArray⟩ (pos + (Utf8.decode ⟨c.toArray⟩ pos).2)) }) (by rw [Heap.setOwn_eq]) hget
     (by simp) (fun r hr' hne => by simp [Array.getElem?_setIfInBounds,Ne.symm hne]) (.inl ⟨rfl,by rw [hg]; simp⟩) hoff (by rw [hphi]; exact hs) (by rw [hphi]; exact hrow) (by intro c t fr e; rw [hrow] at e; cases e)
    rw [hphi] at main
    refine ⟨_,?_,main,hs⟩
    simp only [Instr.next,Sem.run_bind,getObj,Sem.run,ho,Result.andThen_ok,hsz,hlt,if_true,setObj,Sem.run_pure]
   ·cases ha
 ·intro hlt
  simp only [Instr.next,Sem.run_bind,getObj,Sem.run,ho,Result.andThen_ok,hsz,hlt,if_false,Sem.run_pure]

end
end Go.AEv
