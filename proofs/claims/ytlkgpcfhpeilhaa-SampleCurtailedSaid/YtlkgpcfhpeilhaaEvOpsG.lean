/-
  Each operation of the evaluator stands for the model's: part eight: maps.
-/
import Derived.Test.YtlkgpcfhpeilhaaEvOpsF
set_option linter.unusedVariables false
set_option linter.unusedSimpArgs false
namespace Go.AEv
section
variable {CK : CKT} {P : Program} {w0 : World} {K : List Nat} {φ : Nat → Emb} {H H' : Heap} {w : World} {s : T} {ρ : Operand → Value} {v : AV} {fp : FP} {call : CallF} {h0 : Heap}

def LK.desc : LK → TypeDesc
  | .b => .bool
  | .i k => .int k
  | .s => .string

theorem sameNow_sim {kk : LK} {a b : AV} {x y : Value} {r : Bool} (hk : kk.fits a = true) (ha : VR φ H a x) (hb : VR φ H b y) (h : aveq a b = some r) : Instr.sameNow kk.desc x y = some r := by
  cases kk <;> cases a <;> simp only [LK.fits, Bool.false_eq_true] at hk <;> cases b <;> simp only [aveq, reduceCtorEq] at h
  · simp only [VR] at ha hb; subst ha; subst hb; simpa [Instr.sameNow, LK.desc] using h
  · simp only [VR] at ha hb; subst ha; subst hb; simpa [Instr.sameNow, LK.desc] using h
  · rename_i l m
    simp only [VR] at ha hb; subst ha; subst hb
    simp only [Option.some.injEq] at h; subst h
    have e : ∀ a b : ByteArray, (a == b) = (a.data == b.data) := fun a b => by cases a; cases b; rfl
    simp [Instr.sameNow, LK.desc, e]

/-- The first entry with a key. -/
theorem find_sim {kk : LK} {k : AV} {x : Value} (hk : kk.fits k = true) (hx : VR φ H k x) : ∀ {es : List (AV × AV)} {xs : List MapEntry} {r : Option AV} (i : Nat), ER φ H es xs → findA k es = some r →
    ∃ q, Instr.findNow kk.desc x xs i = some q ∧ (match r, q with
      | none, none => True
      | some v, some (_, y) => VR φ H v y
      | _, _ => False)
  | [], xs, r, i, he, h => by
    simp only [ER] at he; subst he
    simp only [findA, Option.some.injEq] at h; subst h
    exact ⟨none, rfl, trivial⟩
  | e :: es, xs, r, i, he, h => by
    simp only [ER] at he
    obtain ⟨m, xs', rfl, h1, h2, h3⟩ := he
    simp only [findA] at h
    cases ha : aveq k e.1 with
    | none => rw [ha] at h; simp at h
    | some b =>
      rw [ha] at h
      have hs := sameNow_sim hk hx h1 ha
      simp only [Instr.findNow, hs]
      cases b with
      | true => simp only [Option.some.injEq] at h; subst h; exact ⟨_, rfl, h2⟩
      | false => exact find_sim hk hx (i + 1) h3 h

theorem run_checkKey' {kk : LK} {t : TypeId} {x : Value} {b : Bool} (n : Nat) (hu : P.underlying t = some kk.desc) : (Instr.checkKey b (n + 1) t x).run P w = .ok () w := by
  simp only [Instr.checkKey, Sem.run_bind, run_und hu, Result.andThen_ok]
  cases kk <;> rfl
theorem run_checkKey {kk : LK} {t : TypeId} {x : Value} {b : Bool} (hu : P.underlying t = some kk.desc) : (Instr.checkKey b 10000 t x).run P w = .ok () w := run_checkKey' 9999 hu

theorem mapA_sim (hr : HR CK w0 K φ H w) {a : AV} {x : Value} {es : List (AV × AV)} (hx : VR φ H a x) (h : mapA H a = some es) :
    (x = .map none ∧ es = []) ∨ ∃ b xs clock, a = .map b ∧ x = .map (some (φ b).blk) ∧ w.heap[(φ b).blk]? = some (.map xs clock) ∧ ER φ H es xs.toList ∧ H.get b = .map es := by
  unfold mapA at h
  split at h
  · simp only [VR] at hx
    simp only [Option.some.injEq] at h
    exact .inl ⟨hx, h.symm⟩
  · rename_i b
    simp only [VR] at hx
    obtain ⟨es', rfl, hg⟩ := hx
    rw [hg] at h
    simp only [Option.some.injEq] at h; subst h
    have ho := hr.obj b
    rw [hg] at ho
    obtain ⟨xs, clock, h1, h2⟩ := ho
    exact .inr ⟨b, xs, clock, rfl, rfl, h1, h2, hg⟩
  · cases h

def zeroVOk (P : Program) (t : TypeId) (z : AV) : Bool := match P.info? t with | some i => (match i.zero with | some v => litOk v z | none => false) | none => false
theorem run_zeroV {t : TypeId} {z : AV} (h : zeroVOk P t z = true) : ∃ v, (zeroValue t).run P w = .ok v w ∧ ∀ φ H, VR φ H z v := by
  unfold zeroVOk at h
  split at h
  · rename_i i hi
    split at h
    · rename_i v hv
      exact ⟨v, by simp only [zeroValue, Sem.run_bind, run_info hi, Result.andThen_ok, hv, Sem.run_pure], fun φ H => VR.ofLit _ _ h⟩
    · cases h
  · cases h

def lookRes (z : AV) (ok : Bool) : Option AV → AV
  | some v => if ok then .tup [v, .bool true] else v
  | none => if ok then .tup [z, .bool false] else z

theorem lookRes_sim {z : AV} {zv : Value} {ok : Bool} {r : Option AV} {q : Option (Nat × Value)} (z2 : VR φ H z zv) (hm : match r, q with
      | none, none => True
      | some v, some (_, y) => VR φ H v y
      | _, _ => False) : VR φ H (lookRes z ok r) (match q with | some (_, y) => if ok then .tuple #[y, .bool true] else y | none => if ok then .tuple #[zv, .bool false] else zv) := by
  cases r with
  | none =>
    cases q with
    | some p => simp at hm
    | none =>
      cases ok
      · exact z2
      · simp only [lookRes, if_true, VR]
        refine ⟨_, rfl, ?_⟩
        simp only [VRs, VR]
        exact ⟨_, _, rfl, z2, _, _, rfl, rfl, rfl⟩
  | some v =>
    cases q with
    | none => simp at hm
    | some p =>
      cases ok
      · exact hm
      · simp only [lookRes, if_true, VR]
        refine ⟨_, rfl, ?_⟩
        simp only [VRs, VR]
        exact ⟨_, _, rfl, hm, _, _, rfl, rfl, rfl⟩

theorem lookup_sim (hr : HR CK w0 K φ H w) {t kt et : TypeId} {kk : LK} {z : AV} {ok : Bool} {a k : AV} {x y : Value} {es : List (AV × AV)} {r : Option AV} (hu : P.underlying t = some (.map kt et)) (hk : P.underlying kt = some kk.desc) (hz : zeroVOk P et z = true)
    (hf : kk.fits k = true) (hx : VR φ H a x) (hy : VR φ H k y) (h : mapA H a = some es) (hr2 : findA k es = some r) :
    Val P w φ H (Instr.lookup t x y ok) (lookRes z ok r) := by
  obtain ⟨zv, z1, z2⟩ := run_zeroV (P := P) (w := w) hz
  rcases mapA_sim hr hx h with ⟨rfl, rfl⟩ | ⟨b, xs, clock, rfl, rfl, hw, he, hg⟩
  · obtain ⟨q, hq, hm⟩ := find_sim hf hy 0 (φ := φ) (H := H) (es := []) (xs := []) (by simp [ER]) hr2
    refine ⟨_, ?_, lookRes_sim (z2 φ H) hm⟩
    simp only [Instr.lookup, Sem.run_bind, run_und hu, Result.andThen_ok, Sem.run_pure, run_checkKey hk, Instr.findKey, run_und hk, hq]
    cases q with
    | none => simp only [Sem.run_bind, z1, Result.andThen_ok, Sem.run_pure]
    | some p => simp only [Sem.run_bind, Result.andThen_ok, Sem.run_pure]
  · obtain ⟨q, hq, hm⟩ := find_sim hf hy 0 he hr2
    refine ⟨_, ?_, lookRes_sim (z2 φ H) hm⟩
    simp only [Instr.lookup, Sem.run_bind, run_und hu, Result.andThen_ok, Sem.run_pure, getObj, Sem.run, hw, run_checkKey hk, Instr.findKey, run_und hk, hq]
    cases q with
    | none => simp only [Sem.run_bind, z1, Result.andThen_ok, Sem.run_pure]
    | some p => simp only [Sem.run_bind, Result.andThen_ok, Sem.run_pure]

theorem sameBits_sim {kk : LK} {a b : AV} {x y : Value} (hk : kk.fits a = true) (ha : VR φ H a x) (hb : VR φ H b y) (h : aveq a b = some true) (n : Nat) : Instr.sameBits n y x = true := by
  cases kk <;> cases a <;> simp only [LK.fits, Bool.false_eq_true] at hk <;> cases b <;> simp only [aveq, reduceCtorEq] at h
  · simp only [VR] at ha hb; subst ha; subst hb
    simp only [Option.some.injEq, beq_iff_eq] at h; subst h; simp [Instr.sameBits]
  · simp only [VR] at ha hb; subst ha; subst hb
    split at h
    · rename_i hk'; subst hk'
      simp only [Option.some.injEq, beq_iff_eq] at h; subst h; simp [Instr.sameBits]
    · cases h
  · rename_i l m
    simp only [VR] at ha hb; subst ha; subst hb
    simp only [Option.some.injEq, beq_iff_eq] at h; subst h
    have e : ∀ a b : ByteArray, (a == b) = (a.data == b.data) := fun a b => by cases a; cases b; rfl
    simp [Instr.sameBits, e]

/-- An entry changed, or put behind the others. -/
theorem put_map {kk : LK} {k v : AV} {x y : Value} (hk : kk.fits k = true) (hx : VR φ H k x) (hy : VR φ H v y) : ∀ {es es' : List (AV × AV)} {xs : List MapEntry} (i : Nat), ER φ H es xs → putMap k v es = some es' →
    (Instr.findNow kk.desc x xs i = some none ∧ ∀ born, ER φ H es' (xs ++ [{ key := x, val := y, born }])) ∨
    (∃ j z, Instr.findNow kk.desc x xs i = some (some (i + j, z)) ∧ (∃ e, xs[j]? = some e ∧ Instr.sameBits 10000 e.key x = true) ∧ ER φ H es' (xs.modify j fun e => { e with key := x, val := y }))
  | [], es', xs, i, he, h => by
    simp only [ER] at he; subst he
    simp only [putMap, Option.some.injEq] at h; subst h
    refine .inl ⟨rfl, fun born => ?_⟩
    simp only [List.nil_append, ER]
    exact ⟨_, _, rfl, hx, hy, rfl⟩
  | e :: es, es', xs, i, he, h => by
    simp only [ER] at he
    obtain ⟨m, xs', rfl, h1, h2, h3⟩ := he
    simp only [putMap] at h
    cases ha : aveq k e.1 with
    | none => rw [ha] at h; simp at h
    | some b =>
      rw [ha] at h
      have hs := sameNow_sim hk hx h1 ha
      cases b with
      | true =>
        simp only [Option.some.injEq] at h; subst h
        refine .inr ⟨0, m.val, by simp [Instr.findNow, hs], ⟨m, rfl, sameBits_sim hk hx h1 ha _⟩, ?_⟩
        simp only [List.modify_zero_cons, ER]
        exact ⟨_, _, rfl, hx, hy, h3⟩
      | false =>
        simp only [Option.map_eq_some_iff] at h
        obtain ⟨es'', h4, rfl⟩ := h
        rcases put_map hk hx hy (i + 1) h3 h4 with ⟨f1, f2⟩ | ⟨j, z, f1, ⟨e', f2, f3⟩, f4⟩
        · refine .inl ⟨by simp [Instr.findNow, hs, f1], fun born => ?_⟩
          simp only [List.cons_append, ER]
          exact ⟨_, _, rfl, h1, h2, f2 born⟩
        · refine .inr ⟨j + 1, z, by simp [Instr.findNow, hs, f1]; omega, ⟨e', by simpa using f2, f3⟩, ?_⟩
          simp only [List.modify_succ_cons, ER]
          exact ⟨_, _, rfl, h1, h2, f4⟩

theorem mapUpdate_sim (hr : HR CK w0 K φ H w) {t kt et : TypeId} {kk : LK} {b : Nat} {k vv : AV} {x y z : Value} {es es' : List (AV × AV)} (hu : P.underlying t = some (.map kt et)) (hk : P.underlying kt = some kk.desc)
    (hf : kk.fits k = true) (hx : VR φ H (.map b) x) (hy : VR φ H k y) (hv : VR φ H vv z) (h : mapA H (.map b) = some es) (hp : putMap k vv es = some es') (ha : (Eff.mput b es').app H = some H') :
    ∃ w', (Instr.mapUpdate t x y z).run P w = .ok () w' ∧ HR CK w0 K φ H' w' ∧ Stp φ H φ H' := by
  rcases mapA_sim hr hx h with ⟨rfl, rfl⟩ | ⟨b', xs, clock, e, rfl, hw, he, hg⟩
  · simp only [VR] at hx; obtain ⟨_, e, _⟩ := hx; cases e
  · cases e
    simp only [Eff.app] at ha
    split at ha
    · cases ha
    · rename_i hb
      split at ha
      · rename_i es0 hown
        cases ha
        have hg0 := Heap.get_own H b _ hb hown
        rw [hg] at hg0; cases hg0
        have hs : Stp φ H φ (H.setOwn b (.map es')) := by
          intro q
          have hgk := Heap.get_setOwn H b (.map es') _ hb hown q
          by_cases hq : q = b
          · subst hq
            simp only [if_true] at hgk
            refine ⟨fun g1 n1 cs1 e => ?_, fun es e => ⟨es', hgk, rfl⟩, fun st pend s ps x y e => ?_⟩
            · rw [hg] at e; cases e
            · rw [hg] at e; cases e
          · simp only [hq, if_false] at hgk
            exact ⟨fun g1 n1 cs1 e => ⟨n1, cs1, by rw [hgk, e], Nat.le_refl _, fun _ => rfl⟩, fun es e => ⟨es, by rw [hgk, e], rfl⟩, fun st pend s ps x y e => ⟨st, pend, s, ps, x, y, by rw [hgk, e], rfl⟩⟩
        obtain ⟨hlow, hoff, _⟩ := hr.own b (by omega) (by rw [hg]; simp)
        have hphi : upd φ b (φ b) = φ := by funext q; unfold upd; split <;> simp_all
        have mkHR : ∀ (ys : Array MapEntry) (cl : Nat), ER φ H es' ys.toList → HR CK w0 K φ (H.setOwn b (.map es')) { w with heap := w.heap.setIfInBounds (φ b).blk (.map ys cl) } := by
          intro ys cl hys
          have hlt : (φ b).blk < w.heap.size := (Array.getElem?_eq_some_iff.1 hw).1
          have hrow : (w.heap.setIfInBounds (φ b).blk (.map ys cl))[(φ b).blk]? = some (.map ys cl) := by simp [hlt]
          have main := HR.upd hr b (by omega) (.map es') (φ b) (H' := H.setOwn b (.map es')) (w' := { w with heap := w.heap.setIfInBounds (φ b).blk (.map ys cl) }) (by rw [Heap.setOwn_eq]) (Heap.get_setOwn H b _ _ hb hown)
            (by simp) (fun r hr' hne => by simp [Array.getElem?_setIfInBounds, Ne.symm hne]) (.inl ⟨rfl, by rw [hg]; simp⟩) hoff (by rw [hphi]; exact hs) ?_ ?_
          · rw [hphi] at main; exact main
          · rw [hphi]; exact ⟨ys, cl, hrow, ER.step hs hys⟩
          · intro c t fr e; rw [hrow] at e; cases e
        rcases put_map hf hy hv 0 he hp with ⟨f1, f2⟩ | ⟨j, z', f1, ⟨e', f2, f3⟩, f4⟩
        · refine ⟨_, ?_, mkHR (xs.push { key := y, val := z, born := clock }) (clock + 1) (by simpa using f2 clock), hs⟩
          simp only [Instr.mapUpdate, Sem.run_bind, run_und hu, Result.andThen_ok, getObj, Sem.run, hw, run_checkKey hk, Instr.findKey, run_und hk, f1, Sem.run_pure, setObj]
        · refine ⟨_, ?_, mkHR (xs.modify j fun e => { e with key := y, val := z }) clock (by simpa using f4), hs⟩
          have f2' : xs[j]? = some e' := by simpa using f2
          simp only [Instr.mapUpdate, Sem.run_bind, run_und hu, Result.andThen_ok, getObj, Sem.run, hw, run_checkKey hk, Instr.findKey, run_und hk, f1, Sem.run_pure, setObj, Nat.zero_add, f2', Option.map_some, Option.getD_some, Instr.keyThatStays, f3, if_true]
      · cases ha

theorem makeMap_sim (hr : HR CK w0 K φ H w) {t : TypeId} {n0 : Nat} {j : Option Nat} (hm : (mk H n0 j (.map [])).2.app H = some H') :
    ∃ φ' w' x, (Instr.makeMap t none).run P w = .ok x w' ∧ HR CK w0 K φ' H' w' ∧ VR φ' H' (.map (mk H n0 j (.map [])).1) x ∧ Stp φ H φ' H' := by
  obtain ⟨hi, hh, hN, hget⟩ := mk_spec hm
  generalize (mk H n0 j (.map [])).1 = i at *
  have hs : Stp φ H (upd φ i ⟨w.heap.size, 0, 0⟩) H' := Stp.fresh hh hget
  refine ⟨_, { w with heap := w.heap.push (.map #[] 0) }, .map (some w.heap.size), by simp [Instr.makeMap], HR.upd hr i hi (.map []) ⟨w.heap.size, 0, 0⟩ hN hget (by simp) (fun r hr' _ => heap_push_same r hr') (.inr (Nat.le_refl _)) rfl hs ⟨#[], 0, by simp, by simp [ER]⟩ ?_, ?_, hs⟩
  · intro c t fr e; simp at e
  · simp only [VR]
    exact ⟨[], by rw [upd_self], by rw [hget]; simp⟩

end
end Go.AEv
