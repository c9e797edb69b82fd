/-
  Each operation of the evaluator stands for the model's: part four: literals, places, cuts, '==' of arrays and structs.
-/
import Derived.Test.YtlkgpcfhpeilhaaEvEq
set_option linter.unusedVariables false
set_option linter.unusedSimpArgs false
namespace Go.AEv

def partsOk (place : Nat → Option (Nat × Nat)) : List (Nat × Operand) → List (Nat × Nat × AOpd) → Bool
  | [], [] => true
  | (i, x) :: ps, (off, n, y) :: qs => place i == some (off, n) && opdOk x y && partsOk place ps qs
  | _, _ => false

section
variable {CK : CKT} {P : Program} {w0 : World} {K : List Nat} {φ : Nat → Emb} {H H' : Heap} {w : World} {s : T} {ρ : Operand → Value} {v : AV} {fp : FP} {call : CallF} {h0 : Heap}

theorem foldl_put : ∀ (xs : List Value) (c : Array Value) (o j : Nat) (z : List AV) (vs : List AV), VRs φ H z c.toList → VRs φ H vs xs → (∀ x ∈ c.toList, Value.oneCell' x = true) → (∀ x ∈ xs, Value.oneCell' x = true) →
    VRs φ H (putAt z (o + j) vs) ((xs.zipIdx j).foldl (fun cs (p : Value × Nat) => cs.setIfInBounds (o + p.2) p.1) c).toList ∧
    ((xs.zipIdx j).foldl (fun cs (p : Value × Nat) => cs.setIfInBounds (o + p.2) p.1) c).size = c.size ∧
    ∀ x ∈ ((xs.zipIdx j).foldl (fun cs (p : Value × Nat) => cs.setIfInBounds (o + p.2) p.1) c).toList, Value.oneCell' x = true
  | [], c, o, j, z, vs, hz, hv, h1, h2 => by
    simp only [List.zipIdx_nil, List.foldl_nil]
    cases vs with
    | nil => refine ⟨by simpa [putAt] using hz, ?_, h1⟩; first | rfl | trivial
    | cons a as => simp only [VRs] at hv; obtain ⟨_, _, e, _⟩ := hv; cases e
  | x :: xs, c, o, j, z, vs, hz, hv, h1, h2 => by
    cases vs with
    | nil => simp only [VRs] at hv; cases hv
    | cons a as =>
      simp only [VRs] at hv
      obtain ⟨y, ys, e, hy, hys⟩ := hv
      cases e
      simp only [List.zipIdx_cons, List.foldl_cons, putAt]
      have hz' : VRs φ H (z.set (o + j) a) (c.setIfInBounds (o + j) x).toList := by
        rw [Array.toList_setIfInBounds]; exact VRs.set hz hy
      have h1' : ∀ q ∈ (c.setIfInBounds (o + j) x).toList, Value.oneCell' q = true := by
        intro q hq
        rw [Array.toList_setIfInBounds] at hq
        rcases List.mem_or_eq_of_mem_set hq with h | h
        · exact h1 q h
        · exact h ▸ h2 x (by simp)
      obtain ⟨r1, r2, r3⟩ := foldl_put xs (c.setIfInBounds (o + j) x) o (j + 1) (z.set (o + j) a) as hz' hys h1' (fun q hq => h2 q (by simp [hq]))
      exact ⟨r1, by rw [r2]; simp, r3⟩

theorem fill_sim (hρ : RhoR φ H s ρ) {place : Nat → Option (Nat × Nat)} : ∀ {ps : List (Nat × Operand)} {qs : List (Nat × Nat × AOpd)} {z c : List AV} {zr : Array Value}, partsOk place ps qs = true → fillA s qs z = some c →
    VRs φ H z zr.toList → (∀ x ∈ zr.toList, Value.oneCell' x = true) → ∃ cr, Instr.fill place zr (ps.map fun p => (p.1, ρ p.2)) = some cr ∧ VRs φ H c cr.toList ∧ (∀ x ∈ cr.toList, Value.oneCell' x = true) ∧ cr.size = zr.size
  | [], [], z, c, zr, _, h, hz, h1 => by
    simp only [fillA, Option.some.injEq] at h; subst h
    exact ⟨zr, rfl, hz, h1, rfl⟩
  | (i, x) :: ps, (off, n, y) :: qs, z, c, zr, hp, h, hz, h1 => by
    simp only [partsOk, Bool.and_eq_true, beq_iff_eq] at hp
    simp only [fillA] at h
    split at h
    · rename_i cc hcc
      split at h
      · rename_i hc
        obtain ⟨hl, hle⟩ := hc
        obtain ⟨hv, ho⟩ := VR.cells (hρ x y hp.1.2) hcc
        have hzl := hz.length
        have hvl := hv.length
        simp only [Array.length_toList] at hzl hvl
        obtain ⟨r1, r2, r3⟩ := foldl_put (ρ x).cells.toList zr off 0 z cc hz hv h1 ho
        obtain ⟨cr, e1, e2, e3, e4⟩ := fill_sim hρ hp.2 h r1 r3
        refine ⟨cr, ?_, e2, e3, e4.trans r2⟩
        simp only [List.map_cons, Instr.fill, hp.1.1]
        rw [if_neg (by simp; omega)]
        rw [← e1]
        congr 1
        rw [← Array.foldl_toList]
        simp [Array.toList_zipIdx]
      · cases h
    · cases h
  | [], _ :: _, _, _, _, hp, _, _, _ => by simp [partsOk] at hp
  | _ :: _, [], _, _, _, hp, _, _, _ => by simp [partsOk] at hp

def placeOf (P : Program) (fs : Array Field) (i : Nat) : Option (Nat × Nat) := (fs[i]?).bind fun f => (P.info? f.type).map fun i => (f.offset, i.size)

theorem run_places (fs : Array Field) (h : ∀ f ∈ fs.toList, (P.info? f.type).isSome = true) :
    (fs.mapM fun f => (do pure (f.offset, ← sizeOf f.type) : Sem (Nat × Nat))).run P w = .ok (fs.map fun f => (f.offset, ((P.info? f.type).map (·.size)).getD 0)) w := by
  rw [Array.mapM_eq_mapM_toList]
  have key : ∀ l : List Field, (∀ f ∈ l, (P.info? f.type).isSome = true) → (l.mapM fun f => (do pure (f.offset, ← sizeOf f.type) : Sem (Nat × Nat))).run P w = .ok (l.map fun f => (f.offset, ((P.info? f.type).map (·.size)).getD 0)) w := by
    intro l
    induction l with
    | nil => intro _; rfl
    | cons f l ih =>
      intro hl
      obtain ⟨i, hi⟩ := Option.isSome_iff_exists.1 (hl f (by simp))
      have : (sizeOf f.type).run P w = .ok i.size w := by simp [sizeOf, run_info hi]
      simp only [List.mapM_cons, Sem.run_bind, this, Result.andThen_ok, Sem.run_pure, ih (fun g hg => hl g (by simp [hg])), List.map_cons, hi, Option.map_some, Option.getD_some]
  rw [map_eq_pure_bind]
  simp only [Sem.run_bind, key fs.toList h, Result.andThen_ok, Sem.run_pure]
  congr 1
  apply Array.ext'
  simp

def buildOk (P : Program) (t : TypeId) (ps : Array (Nat × Operand)) (z : List AV) (qs : List (Nat × Nat × AOpd)) : Bool :=
  zeroOk P t z &&
  match P.underlying t with
  | some (.struct fs) => fs.toList.all (fun f => (P.info? f.type).isSome) && partsOk (placeOf P fs) ps.toList qs
  | some (.array _ e) => match P.info? e with
    | some i => partsOk (fun k => some (k * i.size, i.size)) ps.toList qs
    | none => false
  | _ => false

theorem build_sim (hρ : RhoR φ H s ρ) {t : TypeId} {ps : Array (Nat × Operand)} {z : List AV} {qs : List (Nat × Nat × AOpd)} {c : List AV} (hk : buildOk P t ps z qs = true) (h : fillA s qs z = some c) :
    Val P w φ H (Instr.build t (ps.map fun p => (p.1, ρ p.2))) (.agg c) := by
  simp only [buildOk, Bool.and_eq_true] at hk
  obtain ⟨hz, hk⟩ := hk
  obtain ⟨zv, hz1, hz2, hz3⟩ := run_zero (P := P) (w := w) hz
  have mk : ∀ {place : Nat → Option (Nat × Nat)}, partsOk place ps.toList qs = true → ∃ cr, Instr.fill place zv.cells (ps.map fun p => (p.1, ρ p.2)).toList = some cr ∧ VR φ H (.agg c) (.agg cr) := by
    intro place hp
    obtain ⟨cr, e1, e2, e3, _⟩ := fill_sim hρ hp h (hz2 φ H) hz3
    refine ⟨cr, by simpa using e1, ?_⟩
    simp only [VR]
    exact ⟨cr, rfl, e2, e3⟩
  split at hk
  · rename_i fs hu
    simp only [Bool.and_eq_true, List.all_eq_true] at hk
    obtain ⟨cr, e1, e2⟩ := mk hk.2
    refine ⟨.agg cr, ?_, e2⟩
    have e0 : placeOf P fs = fun i => ((fs.map fun f => (f.offset, ((P.info? f.type).map (·.size)).getD 0))[i]? : Option (Nat × Nat)) := by
      funext i
      simp only [placeOf, Array.getElem?_map]
      cases hf : fs[i]? with
      | none => rfl
      | some f =>
        have := hk.1 f (by have := Array.mem_of_getElem? hf; simpa using this)
        obtain ⟨inf, hinf⟩ := Option.isSome_iff_exists.1 this
        simp [hinf]
    rw [e0] at e1
    simp only [Instr.build, Sem.run_bind, hz1, Result.andThen_ok, run_und hu, run_places fs hk.1, e1, Sem.run_pure]
  · rename_i n e hu
    split at hk
    · rename_i i hi
      obtain ⟨cr, e1, e2⟩ := mk hk
      refine ⟨.agg cr, ?_, e2⟩
      have : (sizeOf e).run P w = .ok i.size w := by simp [sizeOf, run_info hi]
      simp only [Instr.build, Sem.run_bind, hz1, Result.andThen_ok, run_und hu, this, e1, Sem.run_pure]
    · cases hk
  · cases hk

def buildSliceOk (P : Program) (t : TypeId) (len : Nat) (ps : Array (Nat × Operand)) (g : Nat) (z : List AV) (qs : List (Nat × Nat × AOpd)) : Bool :=
  match P.underlying t with
  | some (.slice e) => match P.info? e with
    | some i => i.size == g && decide (len * g ≤ 2 ^ 24) && partsOk (fun k => some (k * g, g)) ps.toList qs &&
      (if len * g = 0 then z.isEmpty else match i.zero with
        | some v => litsOk ((Array.range (len * g)).map (v.cells[· % v.cells.size]!)).toList z && ((Array.range (len * g)).map (v.cells[· % v.cells.size]!)).toList.all Value.oneCell'
        | none => false)
    | none => false
  | _ => false

theorem buildSlice_sim (hr : HR CK w0 K φ H w) (hρ : RhoR φ H s ρ) {t : TypeId} {len g n0 : Nat} {j : Option Nat} {ps : Array (Nat × Operand)} {z : List AV} {qs : List (Nat × Nat × AOpd)} {c : List AV} (hk : buildSliceOk P t len ps g z qs = true)
    (h : fillA s qs z = some c) (hl : c.length = len * g) (hm : (mk H n0 j (.cells g (len * g) c)).2.app H = some H') :
    ∃ φ' w' x, (Instr.buildSlice t len (ps.map fun p => (p.1, ρ p.2))).run P w = .ok x w' ∧ HR CK w0 K φ' H' w' ∧ VR φ' H' (.slice (mk H n0 j (.cells g (len * g) c)).1 0 len (len * g)) x ∧ Stp φ H φ' H' := by
  unfold buildSliceOk at hk
  split at hk
  · rename_i e hu
    split at hk
    · rename_i i hi
      simp only [Bool.and_eq_true, beq_iff_eq, decide_eq_true_eq] at hk
      obtain ⟨⟨⟨hg, hle⟩, hp⟩, hz⟩ := hk
      have hsz : (sizeOf e).run P w = .ok g w := by simp [sizeOf, run_info hi, hg]
      have hzero : ∃ zr : Array Value, ((len * g = 0 ∧ zr = #[]) ∨ (len * g ≠ 0 ∧ ∃ v : Value, (zeroValue e).run P w = .ok v w ∧ zr = v.cells)) ∧ VRs φ H z ((Array.range (len * g)).map (zr[· % zr.size]!)).toList ∧
          ∀ x ∈ ((Array.range (len * g)).map (zr[· % zr.size]!)).toList, Value.oneCell' x = true := by
        by_cases h0 : len * g = 0
        · rw [if_pos h0] at hz
          refine ⟨#[], .inl ⟨h0, rfl⟩, ?_, by simp [h0]⟩
          have : z = [] := by simpa using hz
          subst this
          simp [h0, VRs]
        · rw [if_neg h0] at hz
          split at hz
          · rename_i v hv
            simp only [Bool.and_eq_true] at hz
            refine ⟨v.cells, .inr ⟨h0, v, ?_, rfl⟩, VRs.ofLit _ _ hz.1, List.all_eq_true.1 hz.2⟩
            simp only [zeroValue, Sem.run_bind, run_info hi, Result.andThen_ok, hv, Sem.run_pure]
          · cases hz
      obtain ⟨zr, z1, z2, z3⟩ := hzero
      obtain ⟨cr, e1, e2, e3, e4⟩ := fill_sim hρ hp h z2 z3
      have hcl := e2.length
      have hcs : cr.size = c.length := by simpa using hcl
      obtain ⟨r1, r2, r3⟩ := new_cells hr (t := e) (c := cr) hm (by rw [List.take_of_length_le (by simp [hcs])]; exact e2) (by omega) e3
      refine ⟨_, _, .slice (some ⟨w.heap.size, 0, none⟩) len len, ?_, r1, ?_, r2⟩
      · simp only [Instr.buildSlice, Sem.run_bind, run_und hu, Result.andThen_ok, hsz]
        rw [if_neg (by omega)]
        have e5 : (ps.map fun p => (p.1, ρ p.2)).toList = ps.toList.map fun p => (p.1, ρ p.2) := by simp
        rcases z1 with ⟨h0, rfl⟩ | ⟨h0, v, hv, rfl⟩
        · rw [if_pos h0]
          simp only [Sem.run_bind, Sem.run_pure, Result.andThen_ok, e5, e1, newRow, run_newObj]
        · rw [if_neg h0]
          simp only [Sem.run_bind, hv, Sem.run_pure, Result.andThen_ok, e5, e1, newRow, run_newObj]
      · simp only [VR]
        refine ⟨_, len, g, _, _, rfl, Nat.le_refl _, r3, Nat.le_refl _, fun _ => ⟨by simp [upd], fun _ _ => ?_⟩⟩
        simp [upd]; omega
    · cases hk
  · cases hk

theorem eqa_sim {op : BinOp} {neg : Bool} {t : TypeId} {x y : Operand} {a b : AV} {u z : Value} {L : List LK} {d n : Nat} {r : Bool} (hop : (op = .eql ∧ neg = false) ∨ (op = .neq ∧ neg = true))
    (hL : layT P d t = some L) (hk : kOk P t (some n) = true) (hd : d ≤ Op.maxDepth) (hgt : P.eqGuardType P.depth t = false) (ha : VR φ H a u) (hb : VR φ H b z) (h : eqAgg L a b = some r) :
    Val P w φ H (do eqGuard op t x y u z; binOp op t u z) (.bool (r != neg)) := by
  unfold eqAgg at h
  split at h
  · rename_i as bs
    split at h
    · rename_i hf
      simp only [Bool.and_eq_true] at hf
      simp only [Option.some.injEq] at h; subst h
      have ha' : ∃ vs, u = .agg vs ∧ VRs φ H as vs.toList ∧ ∀ x ∈ vs.toList, Value.oneCell' x = true := by simpa only [VR] using ha
      have hb' : ∃ vs, z = .agg vs ∧ VRs φ H bs vs.toList ∧ ∀ x ∈ vs.toList, Value.oneCell' x = true := by simpa only [VR] using hb
      clear ha hb
      obtain ⟨cs, rfl, ha, _⟩ := ha'
      obtain ⟨ds, rfl, hb, _⟩ := hb'
      have hg : (eqGuard op t x y (.agg cs) (.agg ds)).run P w = .ok () w := by
        unfold eqGuard
        rcases hop with ⟨rfl, _⟩ | ⟨rfl, _⟩ <;> simp [hgt]
      have he := (eqAB (P := P) (φ := φ) (H := H) (w := w) d).2 t L n hL hk as bs cs ds Op.maxDepth hd hf.1 hf.2 ha hb
      simp only [Val, Sem.run_bind, hg, Result.andThen_ok]
      rcases hop with ⟨rfl, rfl⟩ | ⟨rfl, rfl⟩
      · exact ⟨.bool (allEq as bs), by simp [binOp, Op.equal, he], by simp [VR]⟩
      · exact ⟨.bool (!allEq as bs), by simp [binOp, Op.equal, he], by simp [VR]⟩
    · cases h
  · cases h

end
end Go.AEv
