/-
  RANGE OVER A FUNCTION: what the function that yields and the one that takes are to each other. No condition.
-/
import Derived.Test.YtlkgpcfhpeilhaaEvHeap
set_option linter.unusedVariables false
set_option linter.unusedSimpArgs false
namespace Go.AEv

section
variable {tbl : Nat → Option CFunc} {I : CallF}

theorem get_own {h : Heap} {b : Nat} {x : AObj} (hN : h.N ≤ b) (e : h.get b = x) (hx : x ≠ .hole) : h.own[b - h.N]? = some x := by
  unfold Heap.get at e
  rw [if_neg (by omega), List.getD_eq_getElem?_getD] at e
  cases hh : h.own[b - h.N]? with
  | none => rw [hh] at e; exact absurd e.symm hx
  | some y => rw [hh] at e; exact congrArg some e
theorem setOwn_upd (h : Heap) (b : Nat) (x : AObj) : h.setOwn b x = h.upd b x := Heap.setOwn_eq h b x

/-- A function that shares the memory of the one that calls it. -/
theorem CallsTo.shared {f : Nat} {cf : CFunc} {args : List AV} {h : Heap} {s s' : T} {h' : Heap} {e : AExit} {vs : List AV} (hf : f ≠ 0) (ht : tbl f = some cf) (hi : I f args h = none) (hsh : cf.shared = true) (hs : initS cf.params args .leaf = some s)
    (hb : Runs tbl I cf.body s h (e, s', h')) (he : ∀ i, e ≠ .exit i) (hr : evRess h' s' cf.results = some vs) : CallsTo tbl I f args h (one vs, h'.own, true) := by
  obtain ⟨n, hb⟩ := hb
  refine ⟨n + 1, ?_⟩
  cases f with
  | zero => exact absurd rfl hf
  | succ f =>
    show (match I (f + 1) args h with | some x => some x | none => callBody tbl (evW tbl I n) (f + 1) args h) = _
    rw [hi]
    simp only [callBody, ht, hsh, if_true, evFunc, hs, hb]
    cases e with
    | exit i => exact absurd rfl (he i)
    | normal => simp [hr, forceV_eq]
    | ret => simp [hr, forceV_eq]

/-- One round. -/
theorem CallsTo.yld {l : Nat} {args : List AV} {h h1 h2 : Heap} {s0 s s1 s2 t1 t2 : T} {ps ps1 ps2 : List Path} {as bs as1 bs1 as2 bs2 : CCode} {p0 p1 p2 : Option AExit}
    (hN : h.N ≤ l) (hl : h.get l = .loop .ready p0 s0 ps as bs) (hs : initS ps args s0 = some s) (ha : Runs tbl I as s h (.normal, s1, h1))
    (hN1 : h1.N ≤ l) (hl1 : h1.get l = .loop .ready p1 t1 ps1 as1 bs1) (hb : Runs tbl I bs s1 (h1.upd l (.loop .busy p1 t1 ps1 as1 bs1)) (.normal, s2, h2))
    (hN2 : h2.N ≤ l) (hl2 : h2.get l = .loop .busy p2 t2 ps2 as2 bs2) : CallsTo tbl I 0 (.yld l :: args) h (.bool true, (h2.upd l (.loop .ready none t2 ps2 as2 bs2)).own, true) := by
  obtain ⟨n, ea⟩ := ha
  obtain ⟨m, eb⟩ := hb
  refine ⟨max n m + 1, ?_⟩
  show (match evRound (evW tbl I (max n m)) l args h with | some (v, h') => some (v, h'.own, true) | none => none) = _
  have xa := evCode_mono (evW_le' (Nat.le_max_left n m)) as ea
  have xb := evCode_mono (evW_le' (Nat.le_max_right n m)) bs eb
  unfold evRound
  rw [if_neg (by omega), get_own hN hl (by simp)]
  simp only [hs, xa]
  rw [get_own hN1 hl1 (by simp)]
  simp only [setOwn_upd, xb]
  rw [get_own hN2 hl2 (by simp)]

/-- The loop that takes. -/
theorem Runs.range {f : AOpd} {ps ps1 : List Path} {as bs as1 bs1 : CCode} {s t1 : T} {h : Heap} {g : Nat} {cap : List AV} {v : AV} {ow : List AObj} {st : Go.LoopState} {p1 : Option AExit}
    (hf : f.ev s = .func g cap) (hg : g ≠ 0) (hc : CallsTo tbl I g (.yld h.size :: cap) (h.plus [.loop .ready none s ps as bs]) (v, ow, true))
    (hl : Heap.get ⟨h.lo, h.N, ow⟩ h.size = .loop st p1 t1 ps1 as1 bs1) (hst : st ≠ .busy) :
    Runs tbl I (.range f ps as bs) s h (jump p1, s, (⟨h.lo, h.N, ow⟩ : Heap).upd h.size (.loop .exhausted p1 t1 ps1 as1 bs1)) := by
  obtain ⟨n, hc⟩ := hc
  refine ⟨n, ?_⟩
  have hc' : (evW tbl I n).call g (.yld h.size :: cap) { h with own := h.own ++ [.loop .ready none s ps as bs] } = some (v, ow, true) := hc
  simp only [evCode, hf, if_neg hg, hc', hl, if_neg hst, setOwn_upd]

theorem evW_keeps : ∀ n c s h e s' h', (evW tbl I n).code c s h = some (e, s', h') → Keeps h h'
  | 0 => fun _ _ _ _ _ _ e => (by cases e)
  | n + 1 => fun c s h e s' h' he => evCode_keeps (evW_keeps n) c s h e s' h' he
theorem Runs.keeps {c : CCode} {s s' : T} {h h' : Heap} {e : AExit} (x : Runs tbl I c s h (e, s', h')) : h'.lo = h.lo ∧ h'.N = h.N := by
  obtain ⟨n, hn⟩ := x
  exact evCode_keeps (evW_keeps n) _ _ _ _ _ _ hn
theorem Tr.split {P Q : SP} {a b : CCode} (x : Tr tbl I (.seq a b) P .normal Q) : ∃ R, Tr tbl I a P .normal R ∧ Tr tbl I b R .normal Q := by
  refine ⟨fun s h => ∃ s' h', Runs tbl I b s h (.normal, s', h') ∧ Q s' h', fun s h hp => ?_, fun s h hp => hp⟩
  obtain ⟨s', h', ⟨n, e⟩, q⟩ := x s h hp
  simp only [evCode] at e
  cases ha : evCode (evW tbl I n) a s h with
  | none => rw [ha] at e; cases e
  | some y =>
    obtain ⟨e1, s1, h1⟩ := y
    rw [ha] at e
    cases e1 with
    | normal => exact ⟨s1, h1, ⟨n, ha⟩, s', h', ⟨n, e⟩, q⟩
    | exit id => simp at e
    | ret => simp at e
theorem Tr.app6 {P Q R : SP} {a b c d f g k : CCode} {e : AExit} (x : Tr tbl I (.seq a (.seq b (.seq c (.seq d (.seq f g))))) P .normal R) (y : Tr tbl I k R e Q) : Tr tbl I (.seq a (.seq b (.seq c (.seq d (.seq f (.seq g k)))))) P e Q := by
  obtain ⟨_, x1, x⟩ := x.split
  obtain ⟨_, x2, x⟩ := x.split
  obtain ⟨_, x3, x⟩ := x.split
  obtain ⟨_, x4, x⟩ := x.split
  obtain ⟨_, x5, x⟩ := x.split
  exact Tr.seq x1 (Tr.seq x2 (Tr.seq x3 (Tr.seq x4 (Tr.seq x5 (Tr.seq x y)))))
theorem Tr.fuel {P Q : SP} {c : CCode} {e : AExit} (k : ∀ s h, P s h → ∃ n, Came (evCode (evW tbl I n) c s h) e Q) : Tr tbl I c P e Q := fun s h hp => by
  obtain ⟨n, hk⟩ := k s h hp
  unfold Came at hk
  split at hk
  · rename_i e' s' h' e1
    obtain ⟨rfl, q⟩ := hk
    exact ⟨s', h', ⟨n, e1⟩, q⟩
  · cases hk
end

/-- h' holds what h holds, but for the blocks in M. -/
structure Kp (M : Nat → Prop) (h h' : Heap) : Prop where
  lo : h'.lo = h.lo
  N : h'.N = h.N
  size : h.size ≤ h'.size
  get : ∀ b, b < h.size → ¬ M b → h'.get b = h.get b
theorem Kp.refl {M : Nat → Prop} (h : Heap) : Kp M h h := ⟨rfl, rfl, Nat.le_refl _, fun _ _ _ => rfl⟩
theorem Kp.trans {M : Nat → Prop} {a b c : Heap} (x : Kp M a b) (y : Kp M b c) : Kp M a c :=
  ⟨y.lo.trans x.lo, y.N.trans x.N, Nat.le_trans x.size y.size, fun i hi hm => by rw [y.get i (Nat.lt_of_lt_of_le hi x.size) hm, x.get i hi hm]⟩
theorem Kp.plus {M : Nat → Prop} (h : Heap) (xs : List AObj) : Kp M h (h.plus xs) := ⟨rfl, rfl, by rw [plus_size]; omega, fun b hb _ => plus_lt _ _ _ hb⟩
theorem Kp.upd {M : Nat → Prop} (h : Heap) (b : Nat) (x : AObj) (hN : h.N ≤ b) (hb : M b) : Kp M h (h.upd b x) := ⟨rfl, rfl, by rw [upd_size]; exact Nat.le_refl _, fun i _ hm => upd_ne _ _ _ _ hN (fun e => hm (e ▸ hb))⟩
/-- A block that came later may be written. -/
theorem Kp.updn {M : Nat → Prop} {h0 h : Heap} (k : Kp M h0 h) (b : Nat) (x : AObj) (hN : h.N ≤ b) (hb : h0.size ≤ b) : Kp M h0 (h.upd b x) := ⟨k.lo, k.N, by rw [upd_size]; exact k.size, fun i hi hm => by rw [upd_ne _ _ _ _ hN (by omega)]; exact k.get i hi hm⟩
theorem Kp.at {M : Nat → Prop} {h h' : Heap} (k : Kp M h h') {b : Nat} {x : AObj} (e : h.get b = x) (hx : x ≠ .hole) (hm : ¬ M b) : h'.get b = x := by rw [k.get b (get_lt e hx) hm, e]
theorem Kp.mono {M M' : Nat → Prop} {h h' : Heap} (k : Kp M h h') (hM : ∀ b, b < h.size → M b → M' b) : Kp M' h h' := ⟨k.lo, k.N, k.size, fun b hb hm => k.get b hb fun q => hm (hM b hb q)⟩
theorem Kp.late {M : Nat → Prop} {h0 h h' : Heap} (x : Kp (fun _ => False) h0 h) (y : Kp M h h') (hm : ∀ q, M q → h0.size ≤ q) : Kp (fun _ => False) h0 h' :=
  ⟨y.lo.trans x.lo, y.N.trans x.N, Nat.le_trans x.size y.size, fun b hb _ => by rw [y.get b (Nat.lt_of_lt_of_le hb x.size) (fun m => by have := hm b m; omega), x.get b hb id]⟩

end Go.AEv
