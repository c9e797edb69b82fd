/-
 CODE of the evaluator stands for the model's.
-/
import Derived.Test.YtljgfdamdcikgaaEvReg
import Derived.RangeFuncRecord
import Derived.LoopNIn
set_option linter.unusedVariables false
set_option linter.unusedSimpArgs false
namespace Go.AEv

def codeOk (P : Program) (n : Nat) : Code → CCode → Bool → Bool
 | .skip,.skip,_ => true
 | .label _,.skip,_ => true
 | .region _ ops false,.ops cs,_ => opsOk P n ops ops.toList cs
 | .region _ ops true,.draw _ cs pairs anc,_ => drawOk P n ops cs pairs anc
 | .seq a b,.seq x y,rg => codeOk P n a x rg && codeOk P n b y rg
 | .cond c a b,.cond c' x y,rg => opdOk c c' && codeOk P n a x rg && codeOk P n b y rg
 | .block id c,.block id' x,rg => id == id' && codeOk P n c x rg
 | .scope c,.scope x,rg => codeOk P n c x rg
 | c,.trim _ x,rg => codeOk P n c x rg
 | .loop c,.loop _ x,rg => codeOk P n c x rg
 | .rangeFunc f ps a b,.range f' ps' x y,rg => !rg && opdOk f f' && (ps' == ps.toList.map pathOf) && ps.toList.all (fun t => decide (t < n)) && codeOk P n a x true && codeOk P n b y true
 | .exit id,.exit id',_ => id == id'
 | .ret,.ret,_ => true
 | _,_,_ => false

def ckOf (P : Program) : CKT:=fun m c cc => ∃ n,n ≤ m ∧ codeOk P n c cc true = true

def exitOf : AExit → Exit
 | .normal => .normal
 | .exit id => .exit id
 | .ret => .ret

def mark (r : Nat) : Deferred:={ target:=.collected r,args:=#[] }

def PostC (CK : CKT) (w0 : World) (K : List Nat) (φ : Nat → Emb) (h : Heap) (s' : T) (h' : Heap) (a : Act) (rg : Bool) (Q : Exit → Act → World → Prop) (e : AExit) : Prop :=
 ∀ φ' a' w' K2,HR CK w0 (K2 ++ K) φ' h' w' → SR φ' h' s' a'.tmps → Stp φ h φ' h' → a'.defers = K2.map mark ++ a.defers → a'.tmps.size = a.tmps.size → (rg = true → K2 = []) → Q (exitOf e) a' w'

/-- What is known of loops: at most 'm' rounds. -/
def SimK (P : Program) (m : Nat) (code : CCode → T → Heap → Option (AExit × T × Heap)) : Prop :=
 ∀ n c live cc rg s h e s' h',codeOk P n c cc rg = true → code (.loop live cc) s h = some (e,s',h') → ∀ r w0 K φ w a,(r.isSome = true → rg = true) → HR (ckOf P) w0 K φ h w → SR φ h s a.tmps → n ≤ a.tmps.size → ∀ Q,
  PostC (ckOf P) w0 K φ h s' h' a rg Q e → Code.roundsIn (fenceR r) 0 P c Q m a w

theorem keep_sr {φ : Nat → Emb} {h : Heap} {s : T} {tmps : Array Value} (live : List Path) (hs : SR φ h s tmps) : SR φ h (keep live s) tmps:=by
 have key : ∀ (l : List Path) (t : T),(∀ q,t.get q = .undef ∨ t.get q = s.get q) → ∀ q,(l.foldl (fun t p => t.set p (s.get p)) t).get q = .undef ∨ (l.foldl (fun t p => t.set p (s.get p)) t).get q = s.get q:=by
  intro l
  induction l with
  | nil => exact fun t h => h
  | cons p l ih =>
   intro t ht
   refine ih _ (fun q => ?_)
   rw [T.get_set]
   split
   ·rename_i e; subst e; exact .inr rfl
   ·exact ht q
 intro i
 rcases key live .leaf (fun q => .inl (T.get_leaf q)) (pathOf i) with h | h
 ·show VR φ _ ((keep live s).get (pathOf i)) _
  unfold keep; rw [h]; simp [VR]
 ·show VR φ _ ((keep live s).get (pathOf i)) _
  unfold keep; rw [h]; exact hs i

section
variable {P : Program} {r : Rec} {m : Nat}

theorem HR.mark {CK : CKT} {w0 : World} {K : List Nat} {φ : Nat → Emb} {h : Heap} {w : World} (hr : HR CK w0 K φ h w) : HR CK w0 (w.heap.size :: K) φ h (w.alloc (.deferred (some []))):=by
 have hsame : ∀ b,b < w.heap.size → (w.alloc (.deferred (some []))).heap[b]? = w.heap[b]?:=fun b hb => heap_push_same b hb
 refine ⟨Nat.le_trans hr.size (by simp [World.size_alloc]),fun b hb => ?_,fun i => ?_,fun i hi hh => ?_,hr.sep,fun k hk => ?_,?_,hr.env.trans ⟨rfl,rfl,rfl⟩⟩
 ·rw [hsame b (by have:=hr.size; omega)]; exact hr.old b hb
 ·exact OR.step (Stp.refl φ h) (fun hh => hsame _ (OR.lt (hr.obj i) hh)) (hr.obj i)
 ·rw [hsame _ (OR.lt (hr.obj i) hh)]; exact hr.own i hi hh
 ·rcases List.mem_cons.1 hk with rfl | hk
  ·exact ⟨hr.size,World.alloc_heap_new w _⟩
  ·obtain ⟨k1,k2⟩:=hr.keep k hk
   rw [hsame k (Array.getElem?_eq_some_iff.1 k2).1]; exact ⟨k1,k2⟩
 ·refine List.nodup_cons.2 ⟨fun hk => ?_,hr.nodup⟩
  have:=(Array.getElem?_eq_some_iff.1 (hr.keep _ hk).2).1
  omega

theorem HR.drop {CK : CKT} {w0 : World} {K : List Nat} {φ : Nat → Emb} {h : Heap} {w : World} {k : Nat} (hr : HR CK w0 (k :: K) φ h w) : HR CK w0 K φ h (w.putObj k (.deferred none)):=by
 obtain ⟨hk0,hk⟩:=hr.keep k (by simp)
 have hne : ∀ i,h.get i ≠ .hole → (φ i).blk ≠ k:=by
  intro i hi e
  have ho:=hr.obj i
  rw [← e] at hk
  cases hX' : h.get i with
  | hole => exact hi hX'
  | cells g n cs => rw [hX'] at ho; obtain ⟨c,t,fr,h1,_⟩:=ho; rw [h1] at hk; cases hk
  | map es => rw [hX'] at ho; obtain ⟨xs,clock,h1,_⟩:=ho; rw [h1] at hk; cases hk
  | iter c pos => rw [hX'] at ho; simp only [OR] at ho; rw [ho] at hk; cases hk
  | loop st pend s ps x y => rw [hX'] at ho; obtain ⟨L,h1,_⟩:=ho; rw [h1] at hk; cases hk
 refine ⟨by rw [World.putObj_size]; exact hr.size,fun b hb => ?_,fun i => ?_,fun i hi hh => ?_,hr.sep,fun j hj => ?_,(List.nodup_cons.1 hr.nodup).2,hr.env.trans ⟨rfl,rfl,rfl⟩⟩
 ·rw [World.putObj_heap_other (by omega)]; exact hr.old b hb
 ·exact OR.step (Stp.refl φ h) (fun hh => World.putObj_heap_other (hne i hh)) (hr.obj i)
 ·rw [World.putObj_heap_other (hne i hh)]; exact hr.own i hi hh
 ·obtain ⟨k1,k2⟩:=hr.keep j (by simp [hj])
  have : j ≠ k:=fun e => (List.nodup_cons.1 hr.nodup).1 (e ▸ hj)
  rw [World.putObj_heap_other this]; exact ⟨k1,k2⟩

/-- A loop's record is written. -/
theorem loop_put {CK : CKT} {w0 : World} {K : List Nat} {φ : Nat → Emb} {h : Heap} {w : World} (hr : HR CK w0 K φ h w) {l : Nat} {st st' : LoopState} {pend pend' : Option AExit} {s : T} {ps : List Path} {x y : CCode}
  (hl : ¬ l < h.N) (hy : h.own[l - h.N]? = some (.loop st pend s ps x y)) {L : Loop} (hL : w.heap[(φ l).blk]? = some (.loop L)) {j : Option Code} (hj : j = match pend' with | none => none | some e => exitC e) :
  HR CK w0 K φ (h.setOwn l (.loop st' pend' s ps x y)) (w.putObj (φ l).blk (.loop { L with state:=st',pending:=j })) ∧ Stp φ h φ (h.setOwn l (.loop st' pend' s ps x y)):=by
 have hg:=Heap.get_own h l _ hl hy
 have hget:=Heap.get_setOwn h l (.loop st' pend' s ps x y) _ hl hy
 have hu : upd φ l (φ l) = φ:=by funext i; unfold upd; split <;> simp_all
 have hs : Stp φ h φ (h.setOwn l (.loop st' pend' s ps x y)):=fun b => by
  by_cases hb : b = l
  ·subst hb
   rw [hget,if_pos rfl,hg]
   exact ⟨fun _ _ _ e => (by cases e),fun _ e => (by cases e),fun _ _ _ _ _ _ e => ⟨_,_,_,_,_,_,rfl,rfl⟩,fun _ _ e => (by cases e)⟩
  ·rw [hget,if_neg hb]
   exact Stp.refl φ h b
 have ho:=hr.obj l
 rw [hg] at ho
 obtain ⟨L',h1,h2,h3,h4,h5,h6,h7⟩:=ho
 rw [hL] at h1
 simp only [Option.some.injEq,Obj.loop.injEq] at h1
 subst h1
 have hlt : (φ l).blk < w.heap.size:=(Array.getElem?_eq_some_iff.1 hL).1
 refine ⟨?_,hs⟩
 have:=HR.upd hr (w':=w.putObj (φ l).blk (.loop { L with state:=st',pending:=j })) (H':=h.setOwn l (.loop st' pend' s ps x y)) l (by omega) (.loop st' pend' s ps x y) (φ l) (by rw [Heap.setOwn_eq]) hget (by simp) (fun r hr' hne => World.putObj_heap_other hne) (.inl ⟨rfl,by rw [hg]; simp⟩) (hr.own l (by omega) (by rw [hg]; simp)).2.1
  (by rw [hu]; exact hs) (by rw [hu]; exact ⟨_,World.putObj_heap_same hlt,rfl,hj,SR.step hs h4,h5,h6,h7⟩) (fun c t fr e => by rw [World.putObj_heap_same hlt] at e; cases e)
 rwa [hu] at this

theorem wpIn_scope {F : Fence} {n : Nat} {Q : Exit → Act → World → Prop} {a : Act} {w : World} {c : Code} (h : c.wpIn F n P (fun e a w => (∀ l,e ≠ .goto l) ∧ Q e a w) a w) : (Code.scope c).wpIn F n P Q a w:=by
 intro b k cs hro hb hr
 have h0 : (lone (b.atR a (.code (.scope c) :: k)) cs w).fenced P F:=fenced_calm hb hr rfl
 have hs : step P (lone (b.atR a (.code (.scope c) :: k)) cs w) = .next (lone (b.atR a (.code c :: .inScope c :: k)) cs w):=step_lone_go (by simp [stepG,stepG.exec,Frame.atR])
 obtain ⟨e,a₁,w₁,hq,harr⟩:=h b (.inScope c :: k) cs hro hb hr
 cases e with
 | normal =>
  have hs' : step P (lone (b.atR a₁ (.inScope c :: k)) cs w₁) = .next (lone (b.atR a₁ k) cs w₁):=step_lone_go (by simp [stepG,stepG.exec,Frame.atR])
  exact ⟨.normal,a₁,w₁,hq.2,.head h0 hs (StepsIn.trans harr (.one (fenced_calm hb hr rfl) hs'))⟩
 | exit id =>
  have hx : exitTo id (.inScope c :: k) = exitTo id k:=by simp [exitTo]
  exact ⟨.exit id,a₁,w₁,hq.2,fun k' hk => .head h0 hs (harr.1 k' (by rw [hx]; exact hk)),
   fun hr' hk => let ⟨k₁,h1,h2⟩:=harr.2 hr' (by rw [hx]; exact hk); ⟨k₁,h1,.head h0 hs h2⟩⟩
 | goto l => exact absurd rfl (hq.1 l)
 | ret => exact ⟨_,a₁,w₁,hq.2,.of_steps (.one h0 hs) harr⟩
 | panic ch => exact ⟨_,a₁,w₁,hq.2,.of_steps (.one h0 hs) harr⟩
 | outgrown => exact ⟨_,a₁,w₁,hq.2,.of_steps (.one h0 hs) harr⟩

theorem evCode_sim (hm : P.follows .mixedOrders = true) (hC : SimC (ckOf P) P r.call) (hK : SimK P m r.code) : ∀ (cc : CCode) (n : Nat) (c : Code) (rg : Bool) (s : T) (h : Heap) (e : AExit) (s' : T) (h' : Heap),
  codeOk P n c cc rg = true → evCode r cc s h = some (e,s',h') → ∀ (ro : Option Nat) (w0 : World) (K : List Nat) (φ : Nat → Emb) (w : World) (a : Act),(ro.isSome = true → rg = true) → HR (ckOf P) w0 K φ h w → SR φ h s a.tmps → n ≤ a.tmps.size → ∀ Q,
  PostC (ckOf P) w0 K φ h s' h' a rg Q e → c.wpIn (fenceR ro) 0 P Q a w:=by
 intro cc
 induction cc with
 | skip =>
  intro n c rg s h e s' h' hok he ro w0 K φ w a hro hr hs hn Q hQ
  simp only [evCode,Option.some.injEq,Prod.mk.injEq] at he
  obtain ⟨rfl,rfl,rfl⟩:=he
  have:=hQ φ a w [] hr hs (Stp.refl φ h) rfl rfl (fun _ => rfl)
  cases c <;> simp only [codeOk,Bool.false_eq_true] at hok
  ·exact wpIn_skip this
  ·exact wpIn_label this
 | ops cs =>
  intro n c rg s h e s' h' hok he ro w0 K φ w a hro hr hs hn Q hQ
  cases c <;> (try simp only [codeOk,Bool.false_eq_true] at hok)
  rename_i id ops dr
  cases dr <;> simp only [codeOk,Bool.false_eq_true] at hok
  simp only [evCode,runOps_eq,Option.map_map,Option.map_eq_some_iff,Function.comp] at he
  obtain ⟨⟨s1,h1,fps⟩,e1,e2⟩:=he
  simp only [Prod.mk.injEq] at e2
  obtain ⟨rfl,rfl,rfl⟩:=e2
  exact region_sim hC hok hr hs hn e1 (fun φ' a' w' q1 q2 q3 q4 q5 => hQ φ' a' w' [] q1 q2 q3 q4 q5 (fun _ => rfl))
 | draw k cs ps anc =>
  intro n c rg s h e s' h' hok he ro w0 K φ w a hro hr hs hn Q hQ
  cases c <;> (try simp only [codeOk,Bool.false_eq_true] at hok)
  rename_i id ops dr
  cases dr <;> simp only [codeOk,Bool.false_eq_true] at hok
  simp only [evCode,runFP_eq] at he
  split at he
  ·rename_i s1 h1 fps e1
   split at he
   ·rename_i hp
    simp only [Option.some.injEq,Prod.mk.injEq] at he
    obtain ⟨rfl,rfl,rfl⟩:=he
    simp only [Bool.and_eq_true] at hp
    exact draw_sim hm hC hok hr hs hn e1 hp.1 hp.2 (fun φ' a' w' q1 q2 q3 q4 q5 => hQ φ' a' w' [] q1 q2 q3 q4 q5 (fun _ => rfl))
   ·cases he
  ·cases he
 | seq x y ihx ihy =>
  intro n c rg s h e s' h' hok he ro w0 K φ w a hro hr hs hn Q hQ
  cases c <;> (try simp only [codeOk,Bool.false_eq_true] at hok)
  simp only [Bool.and_eq_true] at hok
  simp only [evCode] at he
  cases hx : evCode r x s h with
  | none => rw [hx] at he; cases he
  | some q =>
   obtain ⟨e1,s1,h1⟩:=q
   rw [hx] at he
   refine wpIn_seq (ihx n _ rg s h e1 s1 h1 hok.1 hx ro w0 K φ w a hro hr hs hn _ ?_)
   intro φ1 a1 w1 K2 q1 q2 q3 q4 q5 q6
   cases e1 with
   | normal =>
    refine ihy n _ rg s1 h1 e s' h' hok.2 he ro w0 (K2 ++ K) φ1 w1 a1 hro q1 q2 (by omega) Q ?_
    intro φ2 a2 w2 K3 p1 p2 p3 p4 p5 p6
    exact hQ φ2 a2 w2 (K3 ++ K2) (by rw [List.append_assoc]; exact p1) p2 (q3.trans p3) (by rw [p4,q4,List.map_append,List.append_assoc]) (by omega) (fun e => by rw [p6 e,q6 e]; rfl)
   | exit id =>
    simp only [Option.some.injEq,Prod.mk.injEq] at he
    obtain ⟨rfl,rfl,rfl⟩:=he
    exact hQ φ1 a1 w1 K2 q1 q2 q3 q4 q5 q6
   | ret =>
    simp only [Option.some.injEq,Prod.mk.injEq] at he
    obtain ⟨rfl,rfl,rfl⟩:=he
    exact hQ φ1 a1 w1 K2 q1 q2 q3 q4 q5 q6
 | cond co x y ihx ihy =>
  intro n c rg s h e s' h' hok he ro w0 K φ w a hro hr hs hn Q hQ
  cases c <;> (try simp only [codeOk,Bool.false_eq_true] at hok)
  simp only [Bool.and_eq_true] at hok
  simp only [evCode] at he
  have hc:=hs.rho _ _ hok.1.1
  split at he
  ·rename_i b hb
   rw [hb] at hc
   simp only [VR] at hc
   refine wpIn_cond hc ?_
   cases b with
   | true => exact ihx n _ rg s h e s' h' hok.1.2 (by simpa using he) ro w0 K φ w a hro hr hs hn Q hQ
   | false => exact ihy n _ rg s h e s' h' hok.2 (by simpa using he) ro w0 K φ w a hro hr hs hn Q hQ
  ·cases he
 | block id x ih =>
  intro n c rg s h e s' h' hok he ro w0 K φ w a hro hr hs hn Q hQ
  cases c <;> (try simp only [codeOk,Bool.false_eq_true] at hok)
  simp only [Bool.and_eq_true,beq_iff_eq] at hok
  obtain ⟨rfl,hok⟩:=hok
  simp only [evCode] at he
  cases hx : evCode r x s h with
  | none => rw [hx] at he; cases he
  | some q =>
   obtain ⟨e1,s1,h1⟩:=q
   rw [hx] at he
   refine wpIn_block (ih n _ rg s h e1 s1 h1 hok hx ro w0 K φ w a hro hr hs hn _ ?_)
   intro φ1 a1 w1 K2 q1 q2 q3 q4 q5 q6
   cases e1 with
   | normal =>
    simp only [Option.some.injEq,Prod.mk.injEq] at he
    obtain ⟨rfl,rfl,rfl⟩:=he
    exact hQ φ1 a1 w1 K2 q1 q2 q3 q4 q5 q6
   | ret =>
    simp only [Option.some.injEq,Prod.mk.injEq] at he
    obtain ⟨rfl,rfl,rfl⟩:=he
    exact hQ φ1 a1 w1 K2 q1 q2 q3 q4 q5 q6
   | exit j =>
    simp only at he
    split at he
    ·rename_i hj
     subst hj
     simp only [Option.some.injEq,Prod.mk.injEq] at he
     obtain ⟨rfl,rfl,rfl⟩:=he
     have:=hQ φ1 a1 w1 K2 q1 q2 q3 q4 q5 q6
     simpa [exitOf,Exit.inBlock] using this
    ·rename_i hj
     simp only [Option.some.injEq,Prod.mk.injEq] at he
     obtain ⟨rfl,rfl,rfl⟩:=he
     have:=hQ φ1 a1 w1 K2 q1 q2 q3 q4 q5 q6
     simpa [exitOf,Exit.inBlock,hj] using this
 | trim live x ih =>
  intro n c rg s h e s' h' hok he ro w0 K φ w a hro hr hs hn Q hQ
  have hok' : codeOk P n c x rg = true:=by
   cases c <;> simpa only [codeOk] using hok
  simp only [evCode] at he
  exact ih n c rg (keep live s) h e s' h' hok' he ro w0 K φ w a hro hr (keep_sr live hs) hn Q hQ
 | scope x ih =>
  intro n c rg s h e s' h' hok he ro w0 K φ w a hro hr hs hn Q hQ
  cases c <;> (try simp only [codeOk,Bool.false_eq_true] at hok)
  simp only [evCode] at he
  refine wpIn_scope (ih n _ rg s h e s' h' hok he ro w0 K φ w a hro hr hs hn _ ?_)
  intro φ1 a1 w1 K2 q1 q2 q3 q4 q5 q6
  exact ⟨fun l => (by cases e <;> simp [exitOf]),hQ φ1 a1 w1 K2 q1 q2 q3 q4 q5 q6⟩
 | loop live x ih =>
  intro n c rg s h e s' h' hok he ro w0 K φ w a hro hr hs hn Q hQ
  cases c <;> (try simp only [codeOk,Bool.false_eq_true] at hok)
  simp only [evCode,forceT_eq] at he
  refine wpIn_loop_rounds (m + 1) ?_
  cases hx : evCode r x (keep live s) h with
  | none => rw [hx] at he; cases he
  | some q =>
   obtain ⟨e1,s1,h1⟩:=q
   rw [hx] at he
   rw [roundsIn_succ]
   refine ih n _ rg (keep live s) h e1 s1 h1 hok hx ro w0 K φ w a hro hr (keep_sr live hs) hn _ ?_
   intro φ1 a1 w1 K2 q1 q2 q3 q4 q5 q6
   cases e1 with
   | normal =>
    refine hK n _ live x rg s1 h1 e s' h' hok he ro w0 (K2 ++ K) φ1 w1 a1 hro q1 q2 (by omega) Q ?_
    intro φ2 a2 w2 K3 p1 p2 p3 p4 p5 p6
    exact hQ φ2 a2 w2 (K3 ++ K2) (by rw [List.append_assoc]; exact p1) p2 (q3.trans p3) (by rw [p4,q4,List.map_append,List.append_assoc]) (by omega) (fun e => by rw [p6 e,q6 e]; rfl)
   | exit id =>
    simp only [Option.some.injEq,Prod.mk.injEq] at he
    obtain ⟨rfl,rfl,rfl⟩:=he
    exact hQ φ1 a1 w1 K2 q1 q2 q3 q4 q5 q6
   | ret =>
    simp only [Option.some.injEq,Prod.mk.injEq] at he
    obtain ⟨rfl,rfl,rfl⟩:=he
    exact hQ φ1 a1 w1 K2 q1 q2 q3 q4 q5 q6
 | range f ps x y ihx ihy =>
  intro n c rg s h e s' h' hok he ro w0 K φ w a hro hr hs hn Q hQ
  cases c <;> (try simp only [codeOk,Bool.false_eq_true] at hok)
  rename_i f' ps' ca cb
  simp only [Bool.and_eq_true,Bool.not_eq_true',beq_iff_eq,List.all_eq_true,decide_eq_true_eq] at hok
  obtain ⟨⟨⟨⟨⟨hrg,hf⟩,hps⟩,hpn⟩,hok1⟩,hok2⟩:=hok
  subst hrg
  have hro' : ro = none:=by cases ro with | none => rfl | some _ => simp at hro
  subst hro'
  have hfv:=hs.rho _ _ hf
  simp only [evCode] at he
  split at he
  ·rename_i g cap hfe
   rw [hfe] at hfv
   simp only [VR] at hfv
   obtain ⟨vs,hfe',hcap⟩:=hfv
   split at he
   ·cases he
   rename_i hg0
   split at he
   ·rename_i v own hcall
    split at he
    ·rename_i st pend s0 ps0 x0 y0 hl2
     split at he
     ·cases he
     ·rename_i hbusy
      simp only [Option.some.injEq,Prod.mk.injEq] at he
      obtain ⟨rfl,rfl,rfl⟩:=he
      obtain ⟨hent,hcalls⟩:=hC.fn g _ _ _ _ _ hg0 hcall
      refine wpIn_rangeFunc (fun fn _ => ?_)
      -- what the statement lays
      have hrm:=HR.mark hr
      let X : AObj:=.loop .ready none s ps x y
      let L : Loop:={ state:=.ready,pending:=none,fn,tmps:=a.tmps,params:=ps',assign:=ca,body:=cb,defers:=w.heap.size }
      let w1 : World:=(w.alloc (.deferred (some []))).alloc (.loop L)
      let H1 : Heap:={ h with own:=h.own ++ [X] }
      let e1 : Emb:=⟨w.heap.size + 1,0,0⟩
      have hget1 : ∀ k,H1.get k = if k = h.size then X else h.get k:=Heap.get_grow h X
      have hst1 : Stp φ h (upd φ h.size e1) H1:=Stp.fresh (Heap.get_size h) hget1
      have hsz1 : (w.alloc (.deferred (some []))).heap.size = w.heap.size + 1:=by rw [World.size_alloc]
      have hnew : w1.heap[w.heap.size + 1]? = some (.loop L):=by
       rw [← hsz1]; exact World.alloc_heap_new _ _
      have hr1 : HR (ckOf P) w0 (w.heap.size :: K) (upd φ h.size e1) H1 w1:=by
       refine HR.upd hrm (w':=w1) (H':=H1) h.size (by simp [Heap.size]) X e1 rfl hget1 (by simp [w1,World.size_alloc]) (fun r hr' hne => heap_push_same r hr') (.inr (by rw [hsz1]; exact Nat.le_refl _)) rfl hst1 ?_ (fun c t fr e => by rw [hnew] at e; cases e)
       exact ⟨L,hnew,rfl,rfl,SR.step hst1 hs,hps,fun t ht => Nat.lt_of_lt_of_le (hpn t ht) hn,⟨n,hn,hok1⟩,⟨n,hn,hok2⟩⟩
      have hyl : VR (upd φ h.size e1) H1 (.yld h.size) (.func (.yield (w.heap.size + 1)) #[] #[]):=by
       simp only [VR]
       exact ⟨_,_,_,_,_,_,by simp [upd,e1],by rw [hget1,if_pos rfl]⟩
      have hargs : VRs (upd φ h.size e1) H1 (.yld h.size :: cap) (.func (.yield (w.heap.size + 1)) #[] #[] :: vs.toList):=⟨_,_,rfl,hyl,VRs.step hst1 _ _ hcap⟩
      obtain ⟨fnr,hfn,hbody,hname⟩:=hent
      have hcf : ∀ args : Array Value,(callFunc g args).run P w1 = .ok (.enter g args) w1:=by
       intro args
       simp only [callFunc,Sem.run_bind,run_program,Result.andThen_ok,hfn,hname,hbody,Bool.false_eq_true,if_false,Sem.run_pure]
      refine ⟨w.heap.size + 1,[mark w.heap.size],w1,{ target:=.fn (.func g) vs,args:=#[.func (.yield (w.heap.size + 1)) #[] #[]] },w1,g,(Value.func (.yield (w.heap.size + 1)) #[] #[] :: vs.toList).toArray,w1,run_enterLoop_outer fn a.tmps ps' ca cb,?_,fun _ _ => trivial,?_,by simp [fenceR],?_⟩
      ·have hh : resolve a.eval (rangeCall f' (w.heap.size + 1)) 0 = Deferred.ofValue (a.eval f') #[.func (.yield (w.heap.size + 1)) #[] #[]]:=by
        simp [resolve,rangeCall,Act.eval]
       rw [hh,hfe']
       simp [Deferred.ofValue,Sem.run_pure]
      ·have hh : (#[Value.func (.yield (w.heap.size + 1)) #[] #[]] ++ vs) = (Value.func (.yield (w.heap.size + 1)) #[] #[] :: vs.toList).toArray:=by
        apply Array.ext'; simp
       show (callFunc g (#[Value.func (.yield (w.heap.size + 1)) #[] #[]] ++ vs)).run P w1 = _
       rw [hh]; exact hcf _
      ·refine CallsIn.mono (hcalls w0 (w.heap.size :: K) (upd φ h.size e1) w1 _ hr1 hargs) ?_
       rintro e2 w3 ⟨φ2,xr,rfl,q4,q3,q5⟩
       have hH2 : mrg H1 own true = { h with own:=own }:=by simp [mrg,H1]
       rw [hH2] at q3 q5 q4
       obtain ⟨_,_,_,_,_,_,_,hφ2⟩:=(q5 h.size).2.2.1 _ _ _ _ _ _ (by rw [hget1,if_pos rfl])
       have hb2 : (φ2 h.size).blk = w.heap.size + 1:=by rw [hφ2]; simp [upd,e1]
       have ho:=q3.obj h.size
       rw [hl2] at ho
       obtain ⟨L2,g1,g2,g3,g4,g5,g6,g7⟩:=ho
       have hlN : ¬ h.size < ({ h with own:=own } : Heap).N:=by simp [Heap.size]
       have hown : ({ h with own:=own } : Heap).own[h.size - ({ h with own:=own } : Heap).N]? = some (.loop st pend s0 ps0 x0 y0):=by
        have:=hl2
        unfold Heap.get at this
        rw [if_neg hlN] at this
        show own[h.size - h.N]? = _
        have this : own.getD (h.size - h.N) AObj.hole = _:=this
        rw [List.getD_eq_getElem?_getD] at this
        cases hq : own[h.size - h.N]? with
        | none => rw [hq] at this; cases this
        | some z => rw [hq] at this; simp only [Option.getD_some] at this; rw [this]
       obtain ⟨hr4,hst4⟩:=loop_put q3 hlN hown g1 (st':=.exhausted) (pend':=pend) (j:=L2.pending) g3
       have hpost:=fun e => hQ φ2 { tmps:=a.tmps,defers:=[mark w.heap.size] ++ a.defers } (w3.putObj (φ2 h.size).blk (.loop { L2 with state:=.exhausted,pending:=L2.pending })) [w.heap.size] hr4 (SR.step (hst1.trans (q5.trans hst4)) hs) (hst1.trans (q5.trans hst4)) rfl rfl e
       have hpost:=hpost (by simp)
       rw [hb2] at g1 hpost
       refine ⟨L2.pending,_,run_endLoop g1 (by rw [g2]; exact hbusy),?_⟩
       rw [g3] at hpost ⊢
       cases pend with
       | none => exact hpost
       | some ex =>
        cases ex with
        | normal => exact hpost
        | exit id => exact wpIn_exit hpost
        | ret => exact wpIn_ret hpost
    ·cases he
   ·cases he
  ·cases he
 | exit id =>
  intro n c rg s h e s' h' hok he ro w0 K φ w a hro hr hs hn Q hQ
  simp only [evCode,Option.some.injEq,Prod.mk.injEq] at he
  obtain ⟨rfl,rfl,rfl⟩:=he
  cases c <;> simp only [codeOk,Bool.false_eq_true,beq_iff_eq] at hok
  subst hok
  exact wpIn_exit (hQ φ a w [] hr hs (Stp.refl φ h) rfl rfl (fun _ => rfl))
 | ret =>
  intro n c rg s h e s' h' hok he ro w0 K φ w a hro hr hs hn Q hQ
  simp only [evCode,Option.some.injEq,Prod.mk.injEq] at he
  obtain ⟨rfl,rfl,rfl⟩:=he
  cases c <;> simp only [codeOk,Bool.false_eq_true] at hok
  exact wpIn_ret (hQ φ a w [] hr hs (Stp.refl φ h) rfl rfl (fun _ => rfl))

end
end Go.AEv
