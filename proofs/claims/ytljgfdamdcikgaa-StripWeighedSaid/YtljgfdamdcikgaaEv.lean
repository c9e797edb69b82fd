/-
 AN EVALUATOR for the program's code over an abstract memory: blocks have numbers of their own,what Go leaves open (orders,capacities,addresses) does not occur in it. EvSound proves it sound against the model. Nothing of a program stands here.
-/
import Derived.RangeFuncIn
namespace Go.AEv

abbrev Path:=List Bool

inductive AV where
 | undef
 | bool (b : Bool)
 | int (k : IntKind) (n : Int)
 | str (s : List UInt8)
 | ptr (b o v : Nat)
 | nilp
 | slice (b o len v : Nat)
 | slice0
 | nils
 | map (b : Nat)
 | nilm
 | func (f : Nat) (cap : List AV)
 | yld (l : Nat)
 | nilf
 | iface (t : Nat) (v : AV)
 | nili
 | itr (b : Nat)
 | agg (c : List AV)
 | tup (c : List AV)
 deriving Inhabited

/-- The slots of a frame. -/
inductive T where
 | leaf
 | node (l : T) (v : AV) (r : T)
 deriving Inhabited

def T.get : T → Path → AV
 | .leaf,_ => .undef
 | .node _ v _,[] => v
 | .node l _ _,false :: p => l.get p
 | .node _ _ r,true :: p => r.get p

def T.set : T → Path → AV → T
 | .leaf,[],x => .node .leaf x .leaf
 | .leaf,false :: p,x => .node (T.set .leaf p x) .undef .leaf
 | .leaf,true :: p,x => .node .leaf .undef (T.set .leaf p x)
 | .node l _ r,[],x => .node l x r
 | .node l v r,false :: p,x => .node (l.set p x) v r
 | .node l v r,true :: p,x => .node l v (r.set p x)

def T.put (s : T) : Option Path → AV → T
 | none,_ => s
 | some p,x => s.set p x

/-- What is kept of the slots where a loop begins: all others are forgotten. -/
def keep (live : List Path) (s : T) : T:=live.foldl (fun t p => t.set p (s.get p)) .leaf

/-! ### What makes the kernel reckon a value out before it goes on ('forceX x k' is 'k x') -/

def forceN {β : Sort _} (n : Nat) (k : Nat → β) : β :=
 match n with
 | 0 => k 0
 | m + 1 => k (m + 1)
def forceI {β : Sort _} (n : Int) (k : Int → β) : β :=
 match n with
 | .ofNat m => forceN m fun m => k (.ofNat m)
 | .negSucc m => forceN m fun m => k (.negSucc m)
def forceB {β : Sort _} (b : Bool) (k : Bool → β) : β :=
 match b with
 | true => k true
 | false => k false
def forceL {α : Type} {β : Sort _} : List α → (List α → β) → β
 | [],k => k []
 | x :: xs,k => forceL xs fun xs => k (x :: xs)
mutual
def forceV {β : Sort _} : AV → (AV → β) → β
 | .bool b,k => forceB b fun b => k (.bool b)
 | .int i n,k => forceI n fun n => k (.int i n)
 | .str s,k => forceL s fun s => k (.str s)
 | .ptr b o v,k => forceN b fun b => forceN o fun o => forceN v fun v => k (.ptr b o v)
 | .slice b o l v,k => forceN b fun b => forceN o fun o => forceN l fun l => forceN v fun v => k (.slice b o l v)
 | .map b,k => forceN b fun b => k (.map b)
 | .itr b,k => forceN b fun b => k (.itr b)
 | .yld l,k => forceN l fun l => k (.yld l)
 | .func f c,k => forceVs c fun c => k (.func f c)
 | .iface t v,k => forceV v fun v => k (.iface t v)
 | .agg c,k => forceVs c fun c => k (.agg c)
 | .tup c,k => forceVs c fun c => k (.tup c)
 | v,k => k v
def forceVs {β : Sort _} : List AV → (List AV → β) → β
 | [],k => k []
 | v :: vs,k => forceV v fun v => forceVs vs fun vs => k (v :: vs)
end
def forceT {β : Sort _} : T → (T → β) → β
 | .leaf,k => k .leaf
 | .node l v r,k => forceT l fun l => forceT r fun r => k (.node l v r)

theorem forceN_eq {β : Sort _} (n : Nat) (k : Nat → β) : forceN n k = k n:=by cases n <;> rfl
theorem forceI_eq {β : Sort _} (n : Int) (k : Int → β) : forceI n k = k n:=by cases n <;> simp [forceI,forceN_eq]
theorem forceB_eq {β : Sort _} (b : Bool) (k : Bool → β) : forceB b k = k b:=by cases b <;> rfl
theorem forceL_eq {α : Type} {β : Sort _} (l : List α) (k : List α → β) : forceL l k = k l:=by
 induction l generalizing k with
 | nil => rfl
 | cons x xs ih => simp [forceL,ih]
theorem forceT_eq {β : Sort _} (t : T) (k : T → β) : forceT t k = k t:=by
 induction t generalizing k with
 | leaf => rfl
 | node l v r hl hr => simp [forceT,hl,hr]
mutual
theorem forceV_eq {β : Sort _} : ∀ (v : AV) (k : AV → β),forceV v k = k v
 | .func f c,k => by simp [forceV,forceVs_eq c]
 | .iface t v,k => by simp [forceV,forceV_eq v]
 | .agg c,k => by simp [forceV,forceVs_eq c]
 | .tup c,k => by simp [forceV,forceVs_eq c]
 | .bool b,k => by simp [forceV,forceB_eq]
 | .int i n,k => by simp [forceV,forceI_eq]
 | .str s,k => by simp [forceV,forceL_eq]
 | .ptr b o v,k => by simp [forceV,forceN_eq]
 | .slice b o l v,k => by simp [forceV,forceN_eq]
 | .map b,k => by simp [forceV,forceN_eq]
 | .yld b,k => by simp [forceV,forceN_eq]
 | .undef,k => by simp [forceV]
 | .nilp,k => by simp [forceV]
 | .slice0,k => by simp [forceV]
 | .nils,k => by simp [forceV]
 | .nilm,k => by simp [forceV]
 | .nilf,k => by simp [forceV]
 | .nili,k => by simp [forceV]
 | .itr b,k => by simp [forceV,forceN_eq]
theorem forceVs_eq {β : Sort _} : ∀ (v : List AV) (k : List AV → β),forceVs v k = k v
 | [],k => by simp [forceVs]
 | v :: vs,k => by simp [forceVs,forceV_eq v,forceVs_eq vs]
end

inductive AOpd where
 | s (p : Path)
 | c (v : AV)
 deriving Inhabited

def AOpd.ev (s : T) : AOpd → AV
 | .s p => s.get p
 | .c v => v

/-- The kinds of the cells of an array or a struct that is compared. -/
inductive LK where
 | b
 | i (k : IntKind)
 | s
 deriving Inhabited,DecidableEq

inductive COp where
 | move (x : AOpd)
 | pick (c a b : AOpd)
 | alloc (j : Option Nat) (z : List AV)
 | box (j : Option Nat) (x : AOpd)
 | build (z : List AV) (parts : List (Nat × Nat × AOpd))
 | buildSlice (j : Option Nat) (g len : Nat) (z : List AV) (parts : List (Nat × Nat × AOpd))
 | load (k : Option Nat) (x : AOpd)
 | store (n : Nat) (x v : AOpd)
 | nilCheck (x : AOpd)
 | bin (op : BinOp) (x y : AOpd)
 | eqv (kind : Nat) (neg : Bool) (x y : AOpd)
 | eqa (L : List LK) (neg : Bool) (x y : AOpd)
 | un (op : UnOp) (x : AOpd)
 | conv (k : IntKind) (x : AOpd)
 | strBytes (j : Option Nat) (x : AOpd)
 | bytesStr (x : AOpd)
 | same (x : AOpd)
 | fieldAddr (off : Nat) (x : AOpd)
 | field (k : Option Nat) (off : Nat) (x : AOpd)
 | idxArr (len g : Nat) (x i : AOpd)
 | idxSl (g : Nat) (x i : AOpd)
 | idxVal (len g : Nat) (k : Option Nat) (x i : AOpd)
 | idxStr (x i : AOpd)
 | slArr (n g : Nat) (x : AOpd) (lo hi : Option AOpd)
 | slSl (g : Nat) (x : AOpd) (lo hi : Option AOpd)
 | slStr (x : AOpd) (lo hi : Option AOpd)
 | len (k : Nat) (x : AOpd)
 | lenC (n : Nat)
 | append (j : Option Nat) (g bytes : Nat) (x y : AOpd)
 | copy (g : Nat) (x y : AOpd)
 | minmax (mx : Bool) (x y : AOpd)
 | makeFunc (f : Nat) (cap : List AOpd)
 | makeMap (j : Option Nat)
 | lookup (kk : LK) (z : AV) (ok : Bool) (m k : AOpd)
 | mapUpdate (kk : LK) (m k v : AOpd)
 | lookupA (L : List LK) (z : AV) (ok : Bool) (m k : AOpd)
 | mapUpdateA (L : List LK) (m k v : AOpd)
 | makeSlice (j : Option Nat) (g bytes : Nat) (z : List AV) (n : AOpd)
 | extract (i : Nat) (x : AOpd)
 | iface (t : Nat) (x : AOpd)
 | runeStr (x : AOpd)
 | rangeS (x : AOpd)
 | next (x : AOpd)
 | fail
 | call (early : Bool) (f : AOpd) (args : List AOpd)
 deriving Inhabited

structure COper where
 dst : Option Path
 op : COp
 guard : Option (Path × Bool):=none
 deriving Inhabited

inductive CCode where
 | skip
 | ops (os : List COper)
 | draw (holes : Nat) (os : List COper) (pairs : List (Nat × Nat)) (anc : List (List Nat))
 | seq (a b : CCode)
 | cond (c : AOpd) (x y : CCode)
 | block (id : Nat) (c : CCode)
 | scope (c : CCode)
 | trim (live : List Path) (c : CCode)
 | loop (live : List Path) (c : CCode)
 | range (f : AOpd) (params : List Path) (assign body : CCode)
 | exit (id : Nat)
 | ret
 deriving Inhabited

inductive AExit where
 | normal
 | exit (id : Nat)
 | ret
 deriving Inhabited,DecidableEq

inductive AObj where
 | hole
 | cells (g n : Nat) (cs : List AV)
 | map (es : List (AV × AV))
 | iter (s : List UInt8) (pos : Nat)
 | loop (st : LoopState) (pend : Option AExit) (slots : T) (params : List Path) (assign body : CCode)
 deriving Inhabited

/-- The memory: 'lo' are the blocks that came in (they may be read alone),'own' those made since. -/
structure Heap where
 lo : Nat → AObj
 N : Nat
 own : List AObj
 deriving Inhabited

def Heap.size (h : Heap) : Nat:=h.N + h.own.length
def Heap.get (h : Heap) (i : Nat) : AObj:=if i < h.N then h.lo i else h.own.getD (i - h.N) .hole

inductive CRes where
 | slot (p : Path)
 | cell (p : Path) (k : Option Nat)
 deriving Inhabited

structure CFunc where
 params : List Path
 body : CCode
 results : List CRes
 shared : Bool:=false
 deriving Inhabited

/-! ### Values -/

def AV.cells : AV → Option (List AV)
 | .undef => none
 | .tup _ => none
 | .agg c => some c
 | v => some [v]

mutual
def AV.flat : AV → Bool
 | .undef | .bool _ | .int _ _ | .str _ | .nilp | .slice0 | .nils | .nilm | .nilf | .nili => true
 | .iface _ v => v.flat
 | .agg c | .tup c => AV.flats c
 | _ => false
def AV.flats : List AV → Bool
 | [] => true
 | v :: vs => v.flat && AV.flats vs
end

/-- '==' of two plain values. -/
def aveq : AV → AV → Option Bool
 | .bool a,.bool b => some (a == b)
 | .int k a,.int k' b => if k = k' then some (a == b) else none
 | .str a,.str b => some (a == b)
 | _,_ => none

/-- '==' of two values of one kind: 0 bool,1 pointer,2 slice,3 function,4 map (but for the first,with nil). -/
def eqk : Nat → AV → AV → Option Bool
 | 0,.bool a,.bool b => some (a == b)
 | 1,.nilp,.nilp => some true
 | 1,.nilp,.ptr _ _ _ | 1,.ptr _ _ _,.nilp => some false
 | 2,.nils,.nils => some true
 | 2,.nils,.slice _ _ _ _ | 2,.slice _ _ _ _,.nils | 2,.nils,.slice0 | 2,.slice0,.nils => some false
 | 3,.nilf,.nilf => some true
 | 3,.nilf,.func _ _ | 3,.func _ _,.nilf => some false
 | 4,.nilm,.nilm => some true
 | 4,.nilm,.map _ | 4,.map _,.nilm => some false
 | _,_,_ => none

def LK.fits : LK → AV → Bool
 | .b,.bool _ => true
 | .i k,.int k' _ => k == k'
 | .s,.str _ => true
 | _,_ => false
def fits : List LK → List AV → Bool
 | [],[] => true
 | k :: ks,v :: vs => k.fits v && fits ks vs
 | _,_ => false
def allEq : List AV → List AV → Bool
 | v :: vs,w :: ws => (aveq v w == some true) && allEq vs ws
 | _,_ => true
def eqAgg (L : List LK) : AV → AV → Option Bool
 | .agg a,.agg b => if fits L a && fits L b then some (allEq a b) else none
 | _,_ => none

def goI (n : Int) : AV:=.int .i64 n

def evBin (op : BinOp) : AV → AV → Option AV
 | .int k a,.int k' b =>
  match op with
  | .shl => if 0 ≤ b then some (.int k (k.wrap (a * 2 ^ (min b.toNat k.bits)))) else none
  | .shr => if 0 ≤ b then some (.int k (a.fdiv (2 ^ (min b.toNat k.bits)))) else none
  | op =>
   if k ≠ k' then none else
   match op with
   | .add => some (.int k (k.wrap (a + b)))
   | .sub => some (.int k (k.wrap (a - b)))
   | .mul => some (.int k (k.wrap (a * b)))
   | .quo => if b = 0 then none else some (.int k (k.wrap (a.tdiv b)))
   | .rem => if b = 0 then none else some (.int k (a.tmod b))
   | .and => some (.int k (k.wrap (BitVec.ofInt k.bits a &&& BitVec.ofInt k.bits b).toNat))
   | .or => some (.int k (k.wrap (BitVec.ofInt k.bits a ||| BitVec.ofInt k.bits b).toNat))
   | .xor => some (.int k (k.wrap (BitVec.ofInt k.bits a ^^^ BitVec.ofInt k.bits b).toNat))
   | .eql => some (.bool (a == b))
   | .neq => some (.bool (a != b))
   | .lss => some (.bool (decide (a < b)))
   | .leq => some (.bool (decide (a ≤ b)))
   | .gtr => some (.bool (decide (b < a)))
   | .geq => some (.bool (decide (b ≤ a)))
   | _ => none
 | .str a,.str b =>
  match op with
  | .add => if a.length + b.length ≤ 1099511627776 then some (.str (a ++ b)) else none
  | .eql => some (.bool (a == b))
  | .neq => some (.bool (!(a == b)))
  | .lss => some (.bool (Op.bytesLess a b))
  | .leq => some (.bool (Op.bytesLess a b || a == b))
  | .gtr => some (.bool (!(Op.bytesLess a b || a == b)))
  | .geq => some (.bool (!Op.bytesLess a b))
  | _ => none
 | _,_ => none

def evUn (op : UnOp) : AV → Option AV
 | .bool b => match op with | .not => some (.bool !b) | _ => none
 | .int k n => match op with | .neg => some (.int k (k.wrap (0 - n))) | _ => none
 | _ => none

/-! ### Reads -/

def takeA (k : Option Nat) (cs : List AV) (o : Nat) : Option AV :=
 match k with
 | none => cs[o]?
 | some m => if ((cs.drop o).take m).length = m then some (.agg ((cs.drop o).take m)) else none

def loadA (h : Heap) (k : Option Nat) : AV → Option AV
 | .ptr b o v =>
  match h.get b with
  | .cells _ n cs => if n = v then takeA k cs o else none
  | _ => none
 | _ => none

/-- The cells that a slice or a string reads as. -/
def elems (h : Heap) (g : Nat) : AV → Option (Nat × List AV)
 | .nils | .slice0 => some (0,[])
 | .str s => if g = 1 then some (s.length,s.map fun b => .int .u8 b.toNat) else none
 | .slice b o len v =>
  match h.get b with
  | .cells _ n cs => if n = v then (if ((cs.drop o).take (len * g)).length = len * g then some (len,(cs.drop o).take (len * g)) else none) else none
  | _ => none
 | _ => none

def mapA (h : Heap) : AV → Option (List (AV × AV))
 | .nilm => some []
 | .map b =>
  match h.get b with
  | .map es => some es
  | _ => none
 | _ => none

def findA (k : AV) : List (AV × AV) → Option (Option AV)
 | [] => some none
 | e :: es =>
  match aveq k e.1 with
  | some true => some (some e.2)
  | some false => findA k es
  | none => none

def putMap (k v : AV) : List (AV × AV) → Option (List (AV × AV))
 | [] => some [(k,v)]
 | e :: es =>
  match aveq k e.1 with
  | some true => some ((k,v) :: es)
  | some false => (putMap k v es).map (e :: ·)
  | none => none

/-- Keys of several cells. -/
def fitsK (L : List LK) : AV → Bool
 | .agg a => fits L a
 | _ => false
def findG (L : List LK) (k : AV) : List (AV × AV) → Option (Option AV)
 | [] => some none
 | e :: es =>
  match eqAgg L k e.1 with
  | some true => some (some e.2)
  | some false => findG L k es
  | none => none
def putG (L : List LK) (k v : AV) : List (AV × AV) → Option (List (AV × AV))
 | [] => some [(k,v)]
 | e :: es =>
  match eqAgg L k e.1 with
  | some true => some ((k,v) :: es)
  | some false => (putG L k v es).map (e :: ·)
  | none => none

def putAt : List AV → Nat → List AV → List AV
 | cs,_,[] => cs
 | cs,o,v :: vs => putAt (cs.set o v) (o + 1) vs

def fillA (s : T) : List (Nat × Nat × AOpd) → List AV → Option (List AV)
 | [],z => some z
 | (off,n,x) :: ps,z =>
  match (x.ev s).cells with
  | some c => if c.length = n ∧ off + n ≤ z.length then fillA s ps (putAt z off c) else none
  | none => none

def repl (n : Nat) : List AV → List AV
 | [a] => List.replicate n a
 | z => (List.replicate n z).flatten

/-! ### Effects -/

/-- What an operation does to the memory. -/
inductive Eff where
 | none
 | put (b v o : Nat) (vs : List AV)
 | fill (i : Nat) (x : AObj)
 | grow (xs : List AObj)
 | ext (b v : Nat) (g : Nat) (vs : List AV)
 | mput (b : Nat) (es : List (AV × AV))
 | inext (b pos : Nat)
 | all (own : List AObj)

def Heap.setOwn (h : Heap) (b : Nat) (x : AObj) : Heap:=forceL (h.own.set (b - h.N) x) fun own => { h with own:=own }

def Eff.app : Eff → Heap → Option Heap
 | .none,h => some h
 | .put b v o vs,h =>
  if b < h.N then .none else
  match h.own[b - h.N]? with
  | some (.cells g n cs) => if n = v ∧ o + vs.length ≤ cs.length then forceL (putAt cs o vs) fun cs' => some (h.setOwn b (.cells g n cs')) else .none
  | _ => .none
 | .fill i x,h =>
  if i < h.N then .none else
  match h.own[i - h.N]? with
  | some .hole => some (h.setOwn i x)
  | _ => .none
 | .grow xs,h => forceL (h.own ++ xs) fun own => some { h with own:=own }
 | .ext b v g vs,h =>
  if b < h.N then .none else
  match h.own[b - h.N]? with
  | some (.cells g' n cs) => if g' = g ∧ n = v ∧ cs.length = v then forceL (cs ++ vs) fun cs' => some (h.setOwn b (.cells g (n + vs.length) cs')) else .none
  | _ => .none
 | .mput b es,h =>
  if b < h.N then .none else
  match h.own[b - h.N]? with
  | some (.map _) => some (h.setOwn b (.map es))
  | _ => .none
 | .inext b pos,h =>
  if b < h.N then .none else
  match h.own[b - h.N]? with
  | some (.iter c _) => some (h.setOwn b (.iter c pos))
  | _ => .none
 | .all own,h => some { h with own:=own }

/-- What an operation reads: ranges of blocks; 'whole': whatever it can reach of the blocks that were there when the region began. -/
structure FP where
 reads : List (Nat × Nat × Nat):=[]
 whole : Bool:=false
 eff : Eff:=.none
 /-- Does it look at how many blocks there are? -/
 sized : Bool:=false

def rdOf (g : Nat) : AV → List (Nat × Nat × Nat)
 | .slice b o len _ => [(b,o,len * g)]
 | _ => []

abbrev CallF:=Nat → List AV → Heap → Option (AV × List AObj × Bool)

/-- A new block: its number,and what making it does. -/
def mk (h : Heap) (h0 : Nat) (j : Option Nat) (x : AObj) : Nat × Eff :=
 match j with
 | none => (h.size,.grow [x])
 | some j => (h0 + j,.fill (h0 + j) x)

def appA (h : Heap) (h0 : Nat) (j : Option Nat) (g bytes n : Nat) (ys : List AV) : AV → Option (AV × Eff)
 | .nils =>
  if n = 0 then some (.nils,.none) else
  if n * bytes ≤ 1099511627776 then some (.slice (mk h h0 j (.cells g (n * g) ys)).1 0 n (n * g),(mk h h0 j (.cells g (n * g) ys)).2) else none
 | .slice0 => if n = 0 then some (.slice0,.none) else none
 | .slice b o len v =>
  if n = 0 then some (.slice b o len v,.none) else
  if o = 0 ∧ len * g = v ∧ (len + n) * bytes ≤ 1099511627776 then some (.slice b 0 (len + n) (v + n * g),.ext b v g ys) else none
 | _ => none

def copyA (g n : Nat) (ys : List AV) : AV → Option (AV × Eff)
 | .nils | .slice0 => some (goI 0,.none)
 | .slice b o len v => some (goI (min n len),.put b v o (ys.take (min n len * g)))
 | _ => none

def idx (n : Int) (len : Nat) : Option Nat:=if 0 ≤ n ∧ n < len then some n.toNat else none

def bounds (s : T) (len : Nat) (lo hi : Option AOpd) : Option (Nat × Nat) :=
 let h:=match hi with
  | none => some (len : Int)
  | some x => match x.ev s with | .int _ n => some n | _ => none
 let l:=match lo with
  | none => some (0 : Int)
  | some x => match x.ev s with | .int _ n => some n | _ => none
 match l,h with
 | some l,some h => if 0 ≤ l ∧ l ≤ h ∧ h ≤ len then some (l.toNat,h.toNat) else none
 | _,_ => none

def mmA (mx : Bool) : AV → AV → Option AV
 | .int k a,.int _ b => some (.int k (if mx then (if b > a then b else a) else (if b < a then b else a)))
 | _,_ => none

def slSlA (s : T) (g : Nat) (a : AV) (lo hi : Option AOpd) : Option AV :=
 match a with
 | .slice b o len v => (bounds s len lo hi).map fun (l,m) => if l = len ∧ 0 < len then .slice0 else .slice b (o + l * g) (m - l) v
 | .nils => (bounds s 0 lo hi).map fun _ => .nils
 | .slice0 => (bounds s 0 lo hi).map fun _ => .slice0
 | _ => none

def isStrA : AV → Bool
 | .str _ => true
 | _ => false
/-- The numbers of a list of bytes. -/
def bytesN : List AV → Option (List Int)
 | [] => some []
 | .int .u8 n :: r => (bytesN r).map (n :: ·)
 | _ => none

def pure1 (v : Option AV) : Option (AV × FP):=v.map fun v => (v,{})

def act (call : CallF) (h0 : Heap) (s : T) (h : Heap) : COp → Option (AV × FP)
 | .move x => pure1 (some (x.ev s))
 | .pick c a b => pure1 (match c.ev s with | .bool t => some (if t then a.ev s else b.ev s) | _ => none)
 | .alloc j z => let m:=mk h h0.size j (.cells 0 z.length z); some (.ptr m.1 0 z.length,{ eff:=m.2 })
 | .box j x =>
  match (x.ev s).cells with
  | some c => let m:=mk h h0.size j (.cells 0 c.length c); some (.ptr m.1 0 c.length,{ eff:=m.2 })
  | none => none
 | .build z ps => pure1 ((fillA s ps z).map .agg)
 | .buildSlice j g len z ps =>
  match fillA s ps z with
  | some c => if c.length = len * g then (let m:=mk h h0.size j (.cells g (len * g) c); some (.slice m.1 0 len (len * g),{ eff:=m.2 })) else none
  | none => none
 | .load k x =>
  match x.ev s with
  | .ptr b o v => (loadA h k (.ptr b o v)).map fun r => (r,{ reads:=[(b,o,k.getD 1)] })
  | _ => none
 | .store n x v =>
  match x.ev s,(v.ev s).cells with
  | .ptr b o ver,some c => if c.length = n then some (.undef,{ eff:=.put b ver o c }) else none
  | _,_ => none
 | .nilCheck x => pure1 (match x.ev s with | .ptr b o v => some (.ptr b o v) | .func f c => some (.func f c) | _ => none)
 | .bin op x y => pure1 (evBin op (x.ev s) (y.ev s))
 | .eqv k neg x y => pure1 ((eqk k (x.ev s) (y.ev s)).map fun b => .bool (b != neg))
 | .eqa L neg x y => pure1 ((eqAgg L (x.ev s) (y.ev s)).map fun b => .bool (b != neg))
 | .un op x => pure1 (evUn op (x.ev s))
 | .conv k x => pure1 (match x.ev s with | .int _ n => some (.int k (k.wrap n)) | _ => none)
 | .strBytes j x =>
  match x.ev s with
  | .str b => let m:=mk h h0.size j (.cells 1 b.length (b.map fun c => .int .u8 c.toNat)); if b.length ≤ 1099511627776 then some (.slice m.1 0 b.length b.length,{ eff:=m.2 }) else none
  | _ => none
 | .bytesStr x =>
  match if isStrA (x.ev s) then none else elems h 1 (x.ev s) with
  | some (_,ys) => (bytesN ys).map fun ns => (.str (ns.map fun n => UInt8.ofNat n.toNat),{ reads:=rdOf 1 (x.ev s) })
  | none => none
 | .same x => pure1 (match x.ev s with | .str c => some (.str c) | _ => none)
 | .fieldAddr off x => pure1 (match x.ev s with | .ptr b o v => some (.ptr b (o + off) v) | _ => none)
 | .field k off x => pure1 (match x.ev s with | .agg c => takeA k c off | _ => none)
 | .idxArr len g x i => pure1 (match x.ev s,i.ev s with | .ptr b o v,.int _ n => (idx n len).map fun m => .ptr b (o + m * g) v | _,_ => none)
 | .idxSl g x i => pure1 (match x.ev s,i.ev s with | .slice b o len v,.int _ n => (idx n len).map fun m => .ptr b (o + m * g) v | _,_ => none)
 | .idxVal len g k x i => pure1 (match x.ev s,i.ev s with | .agg c,.int _ n => (idx n len).bind fun m => takeA k c (m * g) | _,_ => none)
 | .idxStr x i => pure1 (match x.ev s,i.ev s with | .str c,.int _ n => (idx n c.length).bind fun m => (c[m]?).map fun b => .int .u8 b.toNat | _,_ => none)
 | .slArr n g x lo hi =>
  match x.ev s,bounds s n lo hi with
  | .ptr b o v,some (l,m) =>
   match h.get b with
   | .cells 0 _ _ => some (if l = n ∧ 0 < n then .slice0 else .slice b (o + l * g) (m - l) v,{ reads:=[(b,o,0)] })
   | _ => none
  | _,_ => none
 | .slSl g x lo hi =>
  pure1 (slSlA s g (x.ev s) lo hi)
 | .slStr x lo hi => pure1 (match x.ev s with | .str c => (bounds s c.length lo hi).map fun (l,m) => .str ((c.drop l).take (m - l)) | _ => none)
 | .len k x =>
  match k,x.ev s with
  | 0,.str c => pure1 (some (goI c.length))
  | 1,.slice _ _ n _ => pure1 (some (goI n))
  | 1,.nils | 1,.slice0 | 2,.nilm => pure1 (some (goI 0))
  | 2,.map b => (mapA h (.map b)).map fun es => (goI es.length,{ reads:=[(b,0,1)] })
  | _,_ => none
 | .lenC n => pure1 (some (goI n))
 | .append j g bytes x y =>
  match elems h g (y.ev s) with
  | some (n,ys) =>
   (appA h h0.size j g bytes n ys (x.ev s)).map fun (v,e) => (v,{ reads:=rdOf g (y.ev s),eff:=e })
  | none => none
 | .copy g x y =>
  match elems h g (y.ev s) with
  | some (n,ys) =>
   (copyA g n ys (x.ev s)).map fun (v,e) => (v,{ reads:=rdOf g (y.ev s),eff:=e })
  | none => none
 | .minmax mx x y => pure1 (mmA mx (x.ev s) (y.ev s))
 | .makeFunc f cap => pure1 (some (.func f (cap.map (AOpd.ev s))))
 | .makeMap j => let m:=mk h h0.size j (.map []); some (.map m.1,{ eff:=m.2 })
 | .lookup kk z ok m k =>
  match if kk.fits (k.ev s) then mapA h (m.ev s) else none with
  | some es =>
   let rd:=match m.ev s with | .map b => [(b,0,1)] | _ => []
   match findA (k.ev s) es with
   | some (some v) => some (if ok then .tup [v,.bool true] else v,{ reads:=rd })
   | some none => some (if ok then .tup [z,.bool false] else z,{ reads:=rd })
   | none => none
  | none => none
 | .mapUpdate kk m k v =>
  match m.ev s,(v.ev s) with
  | .map b,x =>
   match if kk.fits (k.ev s) then mapA h (.map b) else none with
   | some es => (putMap (k.ev s) x es).map fun es' => (.undef,{ reads:=[(b,0,1)],eff:=.mput b es' })
   | none => none
  | _,_ => none
 | .lookupA L z ok m k =>
  match if fitsK L (k.ev s) then mapA h (m.ev s) else none with
  | some es =>
   let rd:=match m.ev s with | .map b => [(b,0,1)] | _ => []
   match findG L (k.ev s) es with
   | some (some v) => some (if ok then .tup [v,.bool true] else v,{ reads:=rd })
   | some none => some (if ok then .tup [z,.bool false] else z,{ reads:=rd })
   | none => none
  | none => none
 | .mapUpdateA L m k v =>
  match m.ev s,(v.ev s) with
  | .map b,x =>
   match if fitsK L (k.ev s) then mapA h (.map b) else none with
   | some es => (putG L (k.ev s) x es).map fun es' => (.undef,{ reads:=[(b,0,1)],eff:=.mput b es' })
   | none => none
  | _,_ => none
 | .makeSlice j g bytes z x =>
  match x.ev s with
  | .int _ n =>
   if 0 ≤ n ∧ n * bytes ≤ 1099511627776 ∧ z.length = g then
    (let m:=mk h h0.size j (.cells g (n.toNat * g) (repl n.toNat z)); some (.slice m.1 0 n.toNat (n.toNat * g),{ eff:=m.2 }))
   else none
  | _ => none
 | .extract i x => pure1 (match x.ev s with | .tup c => c[i]? | _ => none)
 | .iface t x => pure1 (match x.ev s with | .undef => none | v => some (.iface t v))
 | .runeStr x => pure1 (match x.ev s with | .int _ n => if 0 ≤ n ∧ n < 128 then some (.str [n.toNat.toUInt8]) else none | _ => none)
 | .rangeS x =>
  match x.ev s with
  | .str c => some (.itr h.size,{ reads:=[(h.size,0,0)],eff:=.grow [.iter c 0],sized:=true })
  | _ => none
 | .next x =>
  match x.ev s with
  | .itr b =>
   match h.get b with
   | .iter c pos =>
    if pos < c.length then some (.tup [.bool true,goI pos,.int .i32 (Utf8.decode ⟨c.toArray⟩ pos).1],{ whole:=true,eff:=.inext b (pos + (Utf8.decode ⟨c.toArray⟩ pos).2) })
    else some (.tup [.bool false],{ whole:=true })
   | _ => none
  | _ => none
 | .fail => none
 | .call early f args =>
  match f.ev s with
  | .func g cap =>
   if g = 0 then none else
   if early then
    (if AV.flats (args.map (AOpd.ev s) ++ cap) then
     match call g (args.map (AOpd.ev s) ++ cap) ⟨fun _ => .hole,0,[]⟩ with
     | some (v,[],false) => if v.flat then some (v,{}) else none
     | some (_,_ :: _,false) =>
      match call g (args.map (AOpd.ev s) ++ cap) ⟨fun _ => .hole,h.size,[]⟩ with
      | some (v,own,false) => some (v,{ reads:=[(h.size,0,0)],eff:=.grow own,sized:=true })
      | _ => none
     | _ => none
    else none)
   else
    match call g (args.map (AOpd.ev s) ++ cap) h with
    | some (v,own,false) => some (v,{ whole:=true,eff:=if own.isEmpty then .none else .grow own })
    | some (v,own,true) => some (v,{ whole:=true,eff:=.all own })
    | none => none
  | .yld l =>
   if early then none else
   match call 0 (.yld l :: args.map (AOpd.ev s)) h with
   | some (v,own,true) => some (v,{ whole:=true,eff:=.all own })
   | _ => none
  | _ => none

/-! ### Regions -/

def exec (call : CallF) (h0 : Heap) (o : COper) (s : T) (h : Heap) : Option (T × Heap × FP) :=
 match o.guard with
 | none => (act call h0 s h o.op).bind fun (v,fp) => forceV v fun v => (fp.eff.app h).map fun h' => (s.put o.dst v,h',fp)
 | some (p,want) =>
  match s.get p with
  | .bool b => if b = want then (act call h0 s h o.op).bind fun (v,fp) => forceV v fun v => (fp.eff.app h).map fun h' => (s.put o.dst v,h',fp) else some (s.put o.dst (.tup []),h,{})
  | .tup [] => some (s.put o.dst (.tup []),h,{})
  | _ => none

def runOps (call : CallF) (h0 : Heap) : List COper → T → Heap → Option (T × Heap)
 | [],s,h => forceT s fun s => some (s,h)
 | o :: os,s,h => (exec call h0 o s h).bind fun (s',h',_) => runOps call h0 os s' h'

def runFP (call : CallF) (h0 : Heap) : List COper → T → Heap → Option (T × Heap × List FP)
 | [],s,h => forceT s fun s => some (s,h,[])
 | o :: os,s,h => (exec call h0 o s h).bind fun (s',h',fp) => (runFP call h0 os s' h').map fun (s'',h'',fps) => (s'',h'',fp :: fps)

def apart (a b : Nat × Nat × Nat) : Bool:=a.1 != b.1 || decide (a.2.1 + a.2.2 ≤ b.2.1) || decide (b.2.1 + b.2.2 ≤ a.2.1)

def Eff.level : Eff → Bool
 | .none | .put _ _ _ _ | .fill _ _ => true
 | _ => false
/-- Does an effect leave alone what is read? 'n0': how many blocks there were when the region began. -/
def Eff.spares (e : Eff) (n0 : Nat) (fp : FP) : Bool :=
 !fp.whole && (!fp.sized || e.level) && (fp.reads.isEmpty ||
  match e with
  | .none => true
  | .put b _ o vs => fp.reads.all (apart (b,o,vs.length))
  | .fill i _ => fp.reads.all (·.1 != i)
  | .ext b _ _ _ => fp.reads.all (·.1 != b)
  | .grow _ => fp.reads.all (decide <| ·.1 < n0)
  | _ => false)

def Eff.commutes (a b : Eff) : Bool :=
 match a,b with
 | .none,_ | _,.none => true
 | .put b _ o vs,.put b' _ o' vs' => apart (b,o,vs.length) (b',o',vs'.length)
 | .fill i _,.fill j _ => i != j
 | .put b _ _ _,.fill i _ | .fill i _,.put b _ _ _ => b != i
 | _,_ => false

def Eff.isAll : Eff → Bool
 | .all _ => true
 | _ => false

def Eff.isNone : Eff → Bool
 | .none => true
 | _ => false

/-- New blocks at the end,and a place that was kept. -/
def growsBy (a b : FP) : Bool:=a.sized && (match a.eff,b.eff with
 | .grow _,.fill i _ => (match a.reads with | [(n,_,_)] => decide (i < n) | _ => false)
 | _,_ => false)
def okPair (n0 : Nat) (a b : FP) : Bool:=(a.eff.commutes b.eff || growsBy a b || growsBy b a) && (a.eff.isNone || a.eff.spares n0 b) && (b.eff.isNone || b.eff.spares n0 a)

/-- An operation that writes the memory anew stands still: from it on,each comes after all before it. -/
def bars (anc : List (List Nat)) (fps : List FP) : Bool:=(List.range fps.length).all fun i => !(fps.getD i {}).eff.isAll || (List.range fps.length).all fun j => decide (j < i) || (List.range j).all fun k => (anc.getD j []).contains k

/-! ### Code -/

structure Rec where
 call : CallF
 code : CCode → T → Heap → Option (AExit × T × Heap)

def jump : Option AExit → AExit
 | none => .normal
 | some e => e

/-- Code,but for its loops and calls ('r'). -/
def evCode (r : Rec) : CCode → T → Heap → Option (AExit × T × Heap)
 | .skip,s,h => some (.normal,s,h)
 | .ops os,s,h => (runOps r.call h os s h).map fun (s',h') => (.normal,s',h')
 | .draw k os ps anc,s,h =>
  let h1 : Heap:={ h with own:=h.own ++ List.replicate k .hole }
  let n0:=h.size
  match runFP r.call h os s h1 with
  | some (s',h',fps) => if ps.all (fun p => okPair n0 (fps.getD p.1 {}) (fps.getD p.2 {})) && (fps.all (fun f => !f.eff.isAll) || bars anc fps) then some (.normal,s',h') else none
  | none => none
 | .seq a b,s,h =>
  match evCode r a s h with
  | some (.normal,s',h') => evCode r b s' h'
  | x => x
 | .cond c x y,s,h =>
  match c.ev s with
  | .bool b => if b then evCode r x s h else evCode r y s h
  | _ => none
 | .block id c,s,h =>
  match evCode r c s h with
  | some (.exit i,s',h') => if i = id then some (.normal,s',h') else some (.exit i,s',h')
  | x => x
 | .scope c,s,h => evCode r c s h
 | .trim live c,s,h => evCode r c (keep live s) h
 | .loop live c,s,h =>
  forceT (keep live s) fun s =>
  match evCode r c s h with
  | some (.normal,s',h') => r.code (.loop live c) s' h'
  | x => x
 | .range f ps assign body,s,h =>
  let l:=h.size
  let h1 : Heap:={ h with own:=h.own ++ [.loop .ready none s ps assign body] }
  match f.ev s with
  | .func g cap =>
   if g = 0 then none else
   match r.call g (.yld l :: cap) h1 with
   | some (_,own,true) =>
    let h2 : Heap:={ h with own:=own }
    match h2.get l with
    | .loop st pend s0 ps0 x0 y0 => if st = .busy then none else some (jump pend,s,h2.setOwn l (.loop .exhausted pend s0 ps0 x0 y0))
    | _ => none
   | _ => none
  | _ => none
 | .exit id,s,h => some (.exit id,s,h)
 | .ret,s,h => some (.ret,s,h)

def evRes (h : Heap) (s : T) : CRes → Option AV
 | .slot p => some (s.get p)
 | .cell p k => loadA h k (s.get p)

def evRess (h : Heap) (s : T) : List CRes → Option (List AV)
 | [] => some []
 | r :: rs => match evRes h s r,evRess h s rs with
  | some v,some vs => some (v :: vs)
  | _,_ => none

def one : List AV → AV
 | [v] => v
 | vs => .tup vs

def initS : List Path → List AV → T → Option T
 | [],[],t => some t
 | p :: ps,v :: vs,t => initS ps vs (t.set p v)
 | _,_,_ => none

def evFunc (r : Rec) (f : CFunc) (args : List AV) (h : Heap) : Option (AV × Heap) :=
 match initS f.params args .leaf with
 | some s =>
  match evCode r f.body s h with
  | some (.exit _,_,_) => none
  | some (_,s',h') => (evRess h' s' f.results).bind fun vs => forceV (one vs) fun v => some (v,h')
  | none => none
 | none => none

/-- One round of a range over a function: the loop's record is block l. -/
def evRound (r : Rec) (l : Nat) (args : List AV) (h : Heap) : Option (AV × Heap) :=
 if l < h.N then none else
 match h.own[l - h.N]? with
 | some (.loop .ready _ s0 ps assign body) =>
  match initS ps args s0 with
  | some s =>
   match evCode r assign s h with
   | some (.normal,s1,h1) =>
    match h1.own[l - h1.N]? with
    | some (.loop .ready p1 t1 ps1 as1 b1) =>
     match evCode r body s1 (h1.setOwn l (.loop .busy p1 t1 ps1 as1 b1)) with
     | some (e,_,h2) =>
      match h2.own[l - h2.N]? with
      | some (.loop .busy _ t2 ps2 as2 b2) =>
       match e with
       | .normal => some (.bool true,h2.setOwn l (.loop .ready none t2 ps2 as2 b2))
       | e => some (.bool false,h2.setOwn l (.loop .done (some e) t2 ps2 as2 b2))
      | _ => none
     | none => none
    | _ => none
   | _ => none
  | none => none
 | _ => none

def callBody (tbl : Nat → Option CFunc) (r : Rec) (f : Nat) (args : List AV) (h : Heap) : Option (AV × List AObj × Bool) :=
 match tbl f with
 | some cf =>
  if cf.shared then
   match evFunc r cf args h with
   | some (v,h') => some (v,h'.own,true)
   | none => none
  else
   forceN h.size fun n =>
   match evFunc r cf args ⟨h.get,n,[]⟩ with
   | some (v,h') => some (v,if v.flat then [] else h'.own,false)
   | none => none
 | none => none

/-- 'intr': what is known of some calls already. -/
def stepRec (tbl : Nat → Option CFunc) (intr : CallF) (r : Rec) : Rec where
 call f args h :=
  match f,args with
  | 0,.yld l :: rest =>
   match evRound r l rest h with
   | some (v,h') => some (v,h'.own,true)
   | none => none
  | 0,_ => none
  | f + 1,args =>
   match intr (f + 1) args h with
   | some x => some x
   | none => callBody tbl r (f + 1) args h
 code c s h:=evCode r c s h

def evW (tbl : Nat → Option CFunc) (intr : CallF) : Nat → Rec
 | 0 => ⟨fun _ _ _ => none,fun _ _ _ => none⟩
 | n + 1 => stepRec tbl intr (evW tbl intr n)

def noIntr : CallF:=fun _ _ _ => none
abbrev ev (tbl : Nat → Option CFunc) : Nat → Rec:=evW tbl noIntr

end Go.AEv
