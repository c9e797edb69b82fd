/-
  '==' of arrays and structs whose cells are numbers, bools and strings: the evaluator's is the model's.
-/
import Derived.Test.YtlkgpcfhpeilhaaEvOpsB
set_option linter.unusedVariables false
set_option linter.unusedSimpArgs false
namespace Go.AEv

def layF (P : Program) (rec : TypeId → Option (List LK)) : List Field → Nat → Option (List LK)
  | [], _ => some []
  | f :: fs, o =>
    if f.name ≠ "_" ∧ f.offset = o then
      match rec f.type with
      | some L => if sizeOk P f.type L.length then (layF P rec fs (o + L.length)).map (L ++ ·) else none
      | none => none
    else none

def layT (P : Program) : Nat → TypeId → Option (List LK)
  | 0, _ => none
  | d + 1, t =>
    match P.underlying t with
    | some .bool => some [.b]
    | some (.int k) => some [.i k]
    | some .string => some [.s]
    | some (.struct fs) => if P.stoodInHeld t then none else layF P (layT P d) fs.toList 0
    | some (.array n e) =>
      match layT P d e with
      | some L => if sizeOk P e L.length then some (List.replicate n L).flatten else none
      | none => none
    | _ => none

section
variable {P : Program} {φ : Nat → Emb} {H : Heap} {w : World}

theorem fits_length : ∀ {L : List LK} {vs : List AV}, fits L vs = true → vs.length = L.length
  | [], [], _ => rfl
  | k :: ks, v :: vs, h => by simp only [fits, Bool.and_eq_true] at h; simp [fits_length h.2]
  | [], _ :: _, h => by simp [fits] at h
  | _ :: _, [], h => by simp [fits] at h

theorem fits_append : ∀ {L M : List LK} {vs : List AV}, fits (L ++ M) vs = true → fits L (vs.take L.length) = true ∧ fits M (vs.drop L.length) = true
  | [], M, vs, h => by simpa [fits] using h
  | k :: L, M, [], h => by simp [fits] at h
  | k :: L, M, v :: vs, h => by
    simp only [List.cons_append, fits, Bool.and_eq_true] at h
    have := fits_append h.2
    simp only [List.length_cons, List.take_succ_cons, List.drop_succ_cons, fits, Bool.and_eq_true]
    exact ⟨⟨h.1, this.1⟩, this.2⟩

theorem allEq_split : ∀ (n : Nat) (vs ws : List AV), vs.length = ws.length → allEq vs ws = (allEq (vs.take n) (ws.take n) && allEq (vs.drop n) (ws.drop n))
  | 0, vs, ws, _ => by simp [allEq]
  | n + 1, [], [], _ => by simp [allEq]
  | n + 1, v :: vs, w :: ws, h => by
    simp only [List.take_succ_cons, List.drop_succ_cons, allEq]
    rw [allEq_split n vs ws (by simpa using h), Bool.and_assoc]
  | n + 1, [], w :: ws, h => by simp at h
  | n + 1, v :: vs, [], h => by simp at h

/-- A loop that stops at the first 'no'. -/
theorem run_forIn_all {α : Type} (l : List α) (B : α → Option Bool × Unit → Sem (ForInStep (Option Bool × Unit))) (e : α → Bool)
    (h : ∀ a ∈ l, (B a (none, ())).run P w = .ok (if e a then .yield (none, ()) else .done (some false, ())) w) :
    (forIn l ((none, ()) : Option Bool × Unit) B).run P w = .ok (if l.all e then (none, ()) else (some false, ())) w := by
  induction l with
  | nil => simp
  | cons a l ih =>
    simp only [List.forIn_cons, Sem.run_bind, h a (by simp), Result.andThen_ok, List.all_cons]
    by_cases ha : e a = true
    · simp only [ha, if_true, Bool.true_and]
      exact ih fun b hb => h b (by simp [hb])
    · simp [ha]

/-- The scalars. -/
theorem eq_scalar {d : Nat} {t : TypeId} {k : LK} {a b : AV} {x y : Value} (hk : P.underlying t = some (match k with | .b => .bool | .i k => .int k | .s => .string))
    (fa : k.fits a = true) (fb : k.fits b = true) (ha : VR φ H a x) (hb : VR φ H b y) : (Op.equalIn (d + 1) t x y).run P w = .ok (aveq a b == some true) w := by
  cases k with
  | b =>
    cases a <;> simp only [LK.fits, Bool.false_eq_true] at fa
    cases b <;> simp only [LK.fits, Bool.false_eq_true] at fb
    simp only [VR] at ha hb; subst ha; subst hb
    simp [Op.equalIn, run_und hk, aveq]
  | i q =>
    cases a <;> simp only [LK.fits, Bool.false_eq_true, beq_iff_eq] at fa
    cases b <;> simp only [LK.fits, Bool.false_eq_true, beq_iff_eq] at fb
    subst fa; subst fb
    simp only [VR] at ha hb; subst ha; subst hb
    simp [Op.equalIn, run_und hk, aveq]
  | s =>
    cases a <;> simp only [LK.fits, Bool.false_eq_true] at fa
    cases b <;> simp only [LK.fits, Bool.false_eq_true] at fb
    rename_i l m
    simp only [VR] at ha hb; subst ha; subst hb
    simp only [Op.equalIn, Sem.run_bind, run_und hk, Result.andThen_ok, Sem.run_pure, aveq]
    have e : ∀ a b : ByteArray, (a == b) = (a.data == b.data) := fun a b => by cases a; cases b; rfl
    rw [e]
    congr 1
    simp

/-- 'part' of cells that are laid out. -/
theorem run_part_agg {t : TypeId} {n : Nat} {c : Array Value} {o : Nat} (h : kOk P t (some n) = true) : (part t c o).run P w = .ok (.agg (c.extract o (o + n))) w := by
  simp only [part, Sem.run_bind, run_isAgg h, Result.andThen_ok, Option.isSome_some, if_true, run_size (kOk_size h), Sem.run_pure]
theorem run_part_one {t : TypeId} {c : Array Value} {o : Nat} {x : Value} (h : kOk P t none = true) (hx : c[o]? = some x) : (part t c o).run P w = .ok x w := by
  simp only [part, Sem.run_bind, run_isAgg h, Result.andThen_ok, Option.isSome_none, Bool.false_eq_true, if_false, hx, Sem.run_pure]

def EqA (P : Program) (φ : Nat → Emb) (H : Heap) (w : World) (d : Nat) : Prop := ∀ t L, layT P d t = some L → sizeOk P t L.length = true → ∀ as bs (cs ds : Array Value) D o o', d ≤ D → fits L as = true → fits L bs = true →
  VRs φ H as ((cs.toList.drop o).take L.length) → VRs φ H bs ((ds.toList.drop o').take L.length) →
  (do let x ← part t cs o; let y ← part t ds o'; Op.equalIn D t x y : Sem Bool).run P w = .ok (allEq as bs) w

def EqB (P : Program) (φ : Nat → Emb) (H : Heap) (w : World) (d : Nat) : Prop := ∀ t L n, layT P d t = some L → kOk P t (some n) = true → ∀ as bs (cs ds : Array Value) D, d ≤ D → fits L as = true → fits L bs = true →
  VRs φ H as cs.toList → VRs φ H bs ds.toList → (Op.equalIn D t (.agg cs) (.agg ds)).run P w = .ok (allEq as bs) w

theorem layF_all {φ : Nat → Emb} {H : Heap} {d D : Nat} (hA : EqA P φ H w d) (hD : d ≤ D) {B : Field → Option Bool × Unit → Sem (ForInStep (Option Bool × Unit))} {cs ds : Array Value}
    (hB : ∀ f, f.name ≠ "_" → ∀ b, (do let x ← part f.type cs f.offset; let y ← part f.type ds f.offset; Op.equalIn D f.type x y : Sem Bool).run P w = .ok b w → (B f (none, ())).run P w = .ok (if b then .yield (none, ()) else .done (some false, ())) w) :
    ∀ (fs : List Field) (o : Nat) (L : List LK), layF P (layT P d) fs o = some L → ∀ as bs, fits L as = true → fits L bs = true → VRs φ H as ((cs.toList.drop o).take L.length) → VRs φ H bs ((ds.toList.drop o).take L.length) →
    (forIn fs ((none, ()) : Option Bool × Unit) B).run P w = .ok (if allEq as bs then (none, ()) else (some false, ())) w
  | [], o, L, h, as, bs, fa, fb, ha, hb => by
    simp only [layF, Option.some.injEq] at h; subst h
    cases as <;> simp only [fits, Bool.false_eq_true] at fa
    simp [allEq]
  | f :: fs, o, L, h, as, bs, fa, fb, ha, hb => by
    simp only [layF] at h
    split at h
    · rename_i hf
      obtain ⟨hf, rfl⟩ := hf
      split at h
      · rename_i L1 hL1
        split at h
        · rename_i hsz
          simp only [Option.map_eq_some_iff] at h
          obtain ⟨L2, hL2, rfl⟩ := h
          have la := fits_length fa
          have lb := fits_length fb
          obtain ⟨fa1, fa2⟩ := fits_append fa
          obtain ⟨fb1, fb2⟩ := fits_append fb
          simp only [List.length_append] at ha hb la lb
          have ha1 := VRs.take (n := L1.length) ha
          have hb1 := VRs.take (n := L1.length) hb
          have ha2 := VRs.drop (n := L1.length) ha
          have hb2 := VRs.drop (n := L1.length) hb
          rw [List.take_take, Nat.min_eq_left (by omega)] at ha1 hb1
          rw [List.drop_take, List.drop_drop, show L1.length + L2.length - L1.length = L2.length by omega] at ha2 hb2
          have h1 := hB f hf _ (hA f.type L1 hL1 hsz _ _ cs ds D f.offset f.offset hD fa1 fb1 ha1 hb1)
          simp only [List.forIn_cons, Sem.run_bind, h1, Result.andThen_ok]
          have hsp := allEq_split L1.length as bs (by omega)
          by_cases hc : allEq (as.take L1.length) (bs.take L1.length) = true
          · simp only [hc, if_true]
            rw [layF_all hA hD hB fs _ L2 hL2 _ _ fa2 fb2 ha2 hb2, hsp, hc, Bool.true_and]
          · simp only [hc, Bool.false_eq_true, if_false]
            rw [hsp]; simp [hc]
        · cases h
      · cases h
    · cases h

theorem ex_toList (c : Array Value) (o n : Nat) : (c.extract o (o + n)).toList = (c.toList.drop o).take n := by
  rw [Array.toList_extract, List.extract_eq_take_drop, Nat.add_sub_cancel_left]

theorem eqAB (d : Nat) : EqA P φ H w d ∧ EqB P φ H w d := by
  induction d with
  | zero => exact ⟨fun t L h => by simp [layT] at h, fun t L n h => by simp [layT] at h⟩
  | succ d ih =>
    have hB : EqB P φ H w (d + 1) := by
      intro t L n h hk as bs cs ds D hD fa fb ha hb
      obtain ⟨D, rfl⟩ : ∃ e, D = e + 1 := ⟨D - 1, by omega⟩
      simp only [layT] at h
      cases hu : P.underlying t with
      | none => rw [hu] at h; simp at h
      | some u =>
        rw [hu] at h
        cases u <;> simp only [reduceCtorEq, Option.some.injEq] at h
        case bool => unfold kOk at hk; rw [hu] at hk; simp at hk
        case int => unfold kOk at hk; rw [hu] at hk; simp at hk
        case string => unfold kOk at hk; rw [hu] at hk; simp at hk
        case struct fs =>
          split at h
          · cases h
          · rename_i hst
            simp only [Op.equalIn, Sem.run_bind, run_und hu, Result.andThen_ok, run_program, hst, Bool.false_eq_true, if_false]
            rw [← Array.forIn_toList]
            have hlen : cs.size = L.length := by
              have := ha.length; have := fits_length fa; simp_all
            have hlen' : ds.size = L.length := by
              have := hb.length; have := fits_length fb; simp_all
            rw [layF_all (cs := cs) (ds := ds) ih.1 (show d ≤ D by omega) (fun f hf b hb => by
              simp only [Sem.run_bind] at hb ⊢
              rw [if_pos hf]
              simp only [Sem.run_bind]
              cases hx : Sem.run P (part f.type cs f.offset) w with
              | halt q w' => rw [hx] at hb; cases hb
              | ok x w1 =>
                rw [hx] at hb; simp only [Result.andThen_ok] at hb ⊢
                cases hy : Sem.run P (part f.type ds f.offset) w1 with
                | halt q w' => rw [hy] at hb; cases hb
                | ok y w2 =>
                  rw [hy] at hb; simp only [Result.andThen_ok] at hb ⊢
                  rw [hb]
                  cases b <;> rfl) fs.toList 0 L h as bs fa fb (by simpa [List.take_of_length_le, hlen] using ha) (by simpa [List.take_of_length_le, hlen'] using hb)]
            simp only [Result.andThen_ok]
            cases allEq as bs <;> rfl
        case array len e =>
          split at h
          · rename_i M hM
            split at h
            · rename_i hsz
              simp only [Option.some.injEq] at h; subst h
              simp only [Op.equalIn, Sem.run_bind, run_und hu, Result.andThen_ok, run_program, run_size hsz]
              rw [Std.Legacy.Range.forIn_eq_forIn_range']
              have key : ∀ (n o : Nat) (as bs : List AV), fits (List.replicate n M).flatten as = true → fits (List.replicate n M).flatten bs = true →
                  VRs φ H as ((cs.toList.drop (o * M.length)).take (n * M.length)) → VRs φ H bs ((ds.toList.drop (o * M.length)).take (n * M.length)) →
                  (forIn (List.range' o n) ((none, ()) : Option Bool × Unit) fun i (_ : Option Bool × Unit) => do
                    let __do_lift ← part e cs (i * M.length)
                    let __do_lift_1 ← part e ds (i * M.length)
                    let __do_lift ← Op.equalIn D e __do_lift __do_lift_1
                    if (!__do_lift) = true then Pure.pure (ForInStep.done (some false, ())) else Pure.pure (ForInStep.yield (none, ())) : Sem (Option Bool × Unit)).run P w = .ok (if allEq as bs then (none, ()) else (some false, ())) w := by
                intro n
                induction n with
                | zero =>
                  intro o as bs fa fb _ _
                  cases as <;> simp [fits] at fa
                  simp [allEq]
                | succ n ihn =>
                  intro o as bs fa fb ha hb
                  have la := fits_length fa
                  have lb := fits_length fb
                  simp only [List.replicate_succ, List.flatten_cons] at fa fb
                  obtain ⟨fa1, fa2⟩ := fits_append fa
                  obtain ⟨fb1, fb2⟩ := fits_append fb
                  have e1 : (n + 1) * M.length = n * M.length + M.length := Nat.succ_mul n _
                  have e2 : (o + 1) * M.length = o * M.length + M.length := Nat.succ_mul o _
                  have ha1 := VRs.take (n := M.length) ha
                  have hb1 := VRs.take (n := M.length) hb
                  have ha2 := VRs.drop (n := M.length) ha
                  have hb2 := VRs.drop (n := M.length) hb
                  rw [List.take_take, Nat.min_eq_left (by omega)] at ha1 hb1
                  rw [List.drop_take, List.drop_drop, show (n + 1) * M.length - M.length = n * M.length by omega, ← e2] at ha2 hb2
                  have h1 := ih.1 e M hM hsz _ _ cs ds D (o * M.length) (o * M.length) (by omega) fa1 fb1 ha1 hb1
                  have hl' : as.length = bs.length := by omega
                  have hsp := allEq_split M.length as bs hl'
                  have ih' := ihn (o + 1) _ _ fa2 fb2 ha2 hb2
                  simp only [List.range'_succ, List.forIn_cons, Sem.run_bind] at h1 ⊢
                  cases hx : Sem.run P (part e cs (o * M.length)) w with
                  | halt q w' => rw [hx] at h1; cases h1
                  | ok x w1 =>
                    rw [hx] at h1; simp only [Result.andThen_ok] at h1 ⊢
                    cases hy : Sem.run P (part e ds (o * M.length)) w1 with
                    | halt q w' => rw [hy] at h1; cases h1
                    | ok y w2 =>
                      rw [hy] at h1; simp only [Result.andThen_ok] at h1 ⊢
                      rw [h1, hsp]
                      simp only [Result.andThen_ok]
                      by_cases hc : allEq (as.take M.length) (bs.take M.length) = true
                      · rw [hc]
                        simp only [Bool.not_true, Bool.false_eq_true, if_false, Sem.run_pure, Result.andThen_ok, Bool.true_and]
                        exact ih'
                      · rw [Bool.not_eq_true] at hc
                        rw [hc]
                        simp
              have fl := fits_length fa
              have e3 : ∀ m : Nat, ((List.replicate m M).flatten).length = m * M.length := by intro m; simp
              have k2 := key len 0 as bs fa fb (by
                have := ha.length
                rw [Nat.zero_mul, List.drop_zero, List.take_of_length_le (by rw [this, fl, e3]; exact Nat.le_refl _)]; exact ha) (by
                have := hb.length
                have fl' := fits_length fb
                rw [Nat.zero_mul, List.drop_zero, List.take_of_length_le (by rw [this, fl', e3]; exact Nat.le_refl _)]; exact hb)
              simp only [Std.Legacy.Range.size, Nat.sub_zero, Nat.add_sub_cancel, Nat.div_one] at *
              rw [k2]
              simp only [Result.andThen_ok]
              cases allEq as bs <;> rfl
            · cases h
          · cases h
    refine ⟨?_, hB⟩
    intro t L h hsz as bs cs ds D o o' hD fa fb ha hb
    obtain ⟨D, rfl⟩ : ∃ e, D = e + 1 := ⟨D - 1, by omega⟩
    have la := fits_length fa
    have lb := fits_length fb
    have h' := h
    simp only [layT] at h
    cases hu : P.underlying t with
    | none => rw [hu] at h; simp at h
    | some u =>
      rw [hu] at h
      have scal : ∀ k : LK, u = (match k with | .b => .bool | .i k => .int k | .s => .string) → L = [k] → (do let x ← part t cs o; let y ← part t ds o'; Op.equalIn (D + 1) t x y : Sem Bool).run P w = .ok (allEq as bs) w := by
        intro k hk hL
        subst hL
        match as, bs, fa, fb, ha, hb with
        | [a], [b], fa, fb, ha, hb =>
          simp only [fits, Bool.and_true] at fa fb
          have kok : kOk P t none = true := by unfold kOk; rw [hu, hk]; cases k <;> rfl
          obtain ⟨x, hx, hvx⟩ := VRs.get ha (i := 0) (v := a) rfl
          obtain ⟨y, hy, hvy⟩ := VRs.get hb (i := 0) (v := b) rfl
          rw [List.getElem?_take_of_lt (by simp), List.getElem?_drop] at hx hy
          simp only [Sem.run_bind, run_part_one (P := P) (w := w) kok (by simpa using hx), run_part_one (P := P) (w := w) kok (by simpa using hy), Result.andThen_ok]
          rw [eq_scalar (by rw [hu, hk]) fa fb hvx hvy]
          simp [allEq]
        | [], _, fa, _, _, _ => simp [fits] at fa
        | _ :: _ :: _, _, fa, _, _, _ => simp [fits] at fa
        | [_], [], _, fb, _, _ => simp [fits] at fb
        | [_], _ :: _ :: _, _, fb, _, _ => simp [fits] at fb
      have agg : kOk P t (some L.length) = true → (do let x ← part t cs o; let y ← part t ds o'; Op.equalIn (D + 1) t x y : Sem Bool).run P w = .ok (allEq as bs) w := by
        intro kok
        simp only [Sem.run_bind, run_part_agg (P := P) (w := w) kok, Result.andThen_ok]
        refine hB t L L.length h' kok as bs _ _ (D + 1) hD fa fb ?_ ?_
        · rw [ex_toList]; exact ha
        · rw [ex_toList]; exact hb
      cases u <;> simp only [reduceCtorEq, Option.some.injEq] at h
      case bool => exact scal .b rfl h.symm
      case int k => exact scal (.i k) rfl h.symm
      case string => exact scal .s rfl h.symm
      case struct fs => exact agg (by unfold kOk; rw [hu]; exact hsz)
      case array n e => exact agg (by unfold kOk; rw [hu]; exact hsz)

end
end Go.AEv
