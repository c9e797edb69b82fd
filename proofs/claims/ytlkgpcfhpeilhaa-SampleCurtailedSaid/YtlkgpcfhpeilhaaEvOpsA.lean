/-
  Each operation of the evaluator stands for the model's: part two: what reads and writes cells.
-/
import Derived.Test.YtlkgpcfhpeilhaaEvOps
set_option linter.unusedVariables false
set_option linter.unusedSimpArgs false
namespace Go.AEv
section
variable {CK : CKT} {P : Program} {w0 : World} {K : List Nat} {φ : Nat → Emb} {H H' : Heap} {w : World} {s : T} {ρ : Operand → Value} {v : AV} {fp : FP} {call : CallF} {h0 : Heap}

def sizeOk (P : Program) (t : TypeId) (n : Nat) : Bool := match P.info? t with | some i => i.size == n | none => false
def bytesOk (P : Program) (t : TypeId) (n : Nat) : Bool := match P.info? t with | some i => i.bytes == n | none => false
def zeroOk (P : Program) (t : TypeId) (z : List AV) : Bool :=
  match P.info? t with
  | some i => match i.zero with
    | some v => litsOk v.cells.toList z && v.cells.toList.all Value.oneCell'
    | none => false
  | none => false
def kOk (P : Program) (t : TypeId) (k : Option Nat) : Bool :=
  match P.underlying t, k with
  | some (.struct _), some n | some (.array _ _), some n => sizeOk P t n
  | some (.struct _), none | some (.array _ _), none => false
  | some _, none => true
  | _, _ => false
def sliceElem (P : Program) (t : TypeId) (g : Nat) : Bool := match P.underlying t with | some (.slice e) => sizeOk P e g | _ => false

theorem run_und {t : TypeId} {d : TypeDesc} (h : P.underlying t = some d) : (underlying t).run P w = .ok d w := run_underlying h w
theorem run_info {t : TypeId} {i : TypeInfo} (h : P.info? t = some i) : (typeInfo t).run P w = .ok i w := by
  simp [typeInfo, h]
theorem run_size {t : TypeId} {n : Nat} (h : sizeOk P t n = true) : (sizeOf t).run P w = .ok n w := by
  unfold sizeOk at h
  split at h
  · rename_i i hi
    simp only [sizeOf, Sem.run_bind, run_info hi, Result.andThen_ok, Sem.run_pure]
    rw [eq_of_beq h]
  · cases h
theorem run_zero {t : TypeId} {z : List AV} (h : zeroOk P t z = true) : ∃ v, (zeroValue t).run P w = .ok v w ∧ (∀ φ H, VRs φ H z v.cells.toList) ∧ ∀ x ∈ v.cells.toList, Value.oneCell' x = true := by
  unfold zeroOk at h
  split at h
  · rename_i i hi
    split at h
    · rename_i v hv
      simp only [Bool.and_eq_true] at h
      refine ⟨v, ?_, fun φ H => VRs.ofLit _ _ h.1, fun x hx => (List.all_eq_true.1 h.2) x hx⟩
      simp only [zeroValue, Sem.run_bind, run_info hi, Result.andThen_ok, hv, Sem.run_pure]
    · cases h
  · cases h
theorem run_isAgg {t : TypeId} {k : Option Nat} (h : kOk P t k = true) : (isAgg t).run P w = .ok k.isSome w := by
  unfold kOk at h
  cases hu : P.underlying t with
  | none => rw [hu] at h; simp at h
  | some d =>
    rw [hu] at h
    simp only [isAgg, Sem.run_bind, run_und hu, Result.andThen_ok]
    cases d <;> cases k <;> first | rfl | simp at h
theorem kOk_size {t : TypeId} {n : Nat} (h : kOk P t (some n) = true) : sizeOk P t n = true := by
  unfold kOk at h
  split at h <;> simp_all

/-! ### Cells -/

theorem VRs.drop : ∀ {n : Nat} {vs : List AV} {xs : List Value}, VRs φ H vs xs → VRs φ H (vs.drop n) (xs.drop n)
  | 0, vs, xs, h => by simpa using h
  | n + 1, [], xs, h => by simp only [VRs] at h; subst h; simp [VRs]
  | n + 1, v :: vs, xs, h => by
    simp only [VRs] at h
    obtain ⟨y, ys, rfl, _, h2⟩ := h
    simpa using VRs.drop (n := n) h2
theorem VRs.take : ∀ {n : Nat} {vs : List AV} {xs : List Value}, VRs φ H vs xs → VRs φ H (vs.take n) (xs.take n)
  | 0, vs, xs, h => by simp [VRs]
  | n + 1, [], xs, h => by simp only [VRs] at h; subst h; simp [VRs]
  | n + 1, v :: vs, xs, h => by
    simp only [VRs] at h
    obtain ⟨y, ys, rfl, h1, h2⟩ := h
    simp only [List.take_succ_cons, VRs]
    exact ⟨y, ys.take n, rfl, h1, VRs.take h2⟩
theorem VRs.set : ∀ {n : Nat} {vs : List AV} {xs : List Value} {v : AV} {x : Value}, VRs φ H vs xs → VR φ H v x → VRs φ H (vs.set n v) (xs.set n x)
  | n, [], xs, v, x, h, hv => by simp only [VRs] at h; subst h; simp [VRs]
  | 0, a :: vs, xs, v, x, h, hv => by
    simp only [VRs] at h
    obtain ⟨y, ys, rfl, h1, h2⟩ := h
    simp only [List.set_cons_zero, VRs]
    exact ⟨x, ys, rfl, hv, h2⟩
  | n + 1, a :: vs, xs, v, x, h, hv => by
    simp only [VRs] at h
    obtain ⟨y, ys, rfl, h1, h2⟩ := h
    simp only [List.set_cons_succ, VRs]
    exact ⟨y, ys.set n x, rfl, h1, VRs.set h2 hv⟩

theorem addr_add (b o n : Nat) : (⟨b, o, none⟩ : Addr).add n = ⟨b, o + n, none⟩ := by
  unfold Addr.add; split <;> simp_all

/-- What a live address reads as. -/
theorem cells_at (hr : HR CK w0 K φ H w) {b g n : Nat} {cs : List AV} (hg : H.get b = .cells g n cs) {j : Nat} {v : AV} (hv : cs[j]? = some v) :
    ∃ x, w.cell? ⟨(φ b).blk, (φ b).off + j, none⟩ = some x ∧ VR φ H v x ∧ Value.oneCell' x = true := by
  have ho := hr.obj b
  rw [hg] at ho
  obtain ⟨c, t, fr, h1, h2, h3, h4⟩ := ho
  obtain ⟨x, hx, hvx, hc⟩ := h4 j v hv
  exact ⟨x, by simp [World.cell?, h1, hx], hvx, hc⟩

theorem takeA_spec {k : Option Nat} {cs : List AV} {o : Nat} {v : AV} (h : takeA k cs o = some v) :
    (k = none ∧ cs[o]? = some v) ∨ (∃ m, k = some m ∧ v = .agg ((cs.drop o).take m) ∧ ((cs.drop o).take m).length = m) := by
  unfold takeA at h
  cases k with
  | none => exact .inl ⟨rfl, h⟩
  | some m =>
    simp only at h
    split at h
    · rename_i hl; cases h; exact .inr ⟨m, rfl, rfl, hl⟩
    · cases h

/-- A range of cells, as the world has it. -/
theorem range_at (hr : HR CK w0 K φ H w) {b g n : Nat} {cs : List AV} (hg : H.get b = .cells g n cs) (o m : Nat) (hl : ((cs.drop o).take m).length = m) :
    ∃ xs : List Value, xs.length = m ∧ VRs φ H ((cs.drop o).take m) xs ∧ (∀ x ∈ xs, Value.oneCell' x = true) ∧ ∀ j x, xs[j]? = some x → w.cell? ((⟨(φ b).blk, (φ b).off + o, none⟩ : Addr).add j) = some x := by
  have ho := hr.obj b
  rw [hg] at ho
  obtain ⟨c, t, fr, h1, h2, h3, h4⟩ := ho
  have hlen : o + m ≤ cs.length ∨ m = 0 := by simp at hl; omega
  rcases hlen with hlen | rfl
  · refine ⟨(c.toList.drop ((φ b).off + o)).take m, by simp; omega, ?_, ?_, ?_⟩
    · refine VRs.ofGet (by simp; omega) fun i a x ha hx => ?_
      have hi : i < m := by
        have := (List.getElem?_eq_some_iff.1 ha).1; simp at this; omega
      rw [List.getElem?_take_of_lt hi, List.getElem?_drop] at ha hx
      obtain ⟨y, hy, hvy, _⟩ := h4 _ _ ha
      have : y = x := by
        have hx' : c[(φ b).off + o + i]? = some x := by simpa using hx
        rw [← Nat.add_assoc] at hy
        rw [hy] at hx'; exact Option.some.inj hx'
      exact this ▸ hvy
    · intro x hx
      obtain ⟨i, hi⟩ := List.mem_iff_getElem?.1 hx
      have hi' : i < m := by
        have := (List.getElem?_eq_some_iff.1 hi).1; simp at this; omega
      rw [List.getElem?_take_of_lt hi', List.getElem?_drop] at hi
      have hc : o + i < cs.length := by omega
      obtain ⟨y, hy, _, h⟩ := h4 (o + i) cs[o + i] (by simp [hc])
      have : y = x := by
        have hx' : c[(φ b).off + o + i]? = some x := by simpa using hi
        rw [← Nat.add_assoc] at hy
        rw [hy] at hx'; exact Option.some.inj hx'
      exact this ▸ h
    · intro j x hx
      have hi' : j < m := by
        have := (List.getElem?_eq_some_iff.1 hx).1; simp at this; omega
      rw [List.getElem?_take_of_lt hi', List.getElem?_drop] at hx
      rw [addr_add]
      simp only [World.cell?, h1]
      simpa using hx
  · exact ⟨[], rfl, by simp [VRs], by simp, by simp⟩

theorem loadA_sim (hr : HR CK w0 K φ H w) {t : TypeId} {k : Option Nat} {p v : AV} {x : Value} (hk : kOk P t k = true) (hx : VR φ H p x) (h : loadA H k p = some v) :
    ∃ a y, x = .pointer (some a) ∧ (loadVar t a).run P w = .ok y w ∧ VR φ H v y := by
  unfold loadA at h
  split at h
  · rename_i b o ver
    simp only [VR] at hx
    obtain ⟨a, g, n, cs, rfl, hg, hv, ha⟩ := hx
    rw [hg] at h
    simp only at h
    split at h
    · rename_i hn
      obtain rfl := ha hn.symm
      rcases takeA_spec h with ⟨rfl, hc⟩ | ⟨m, rfl, rfl, hl⟩
      · obtain ⟨y, hy, hvy, _⟩ := cells_at hr hg hc
        refine ⟨_, y, rfl, ?_, hvy⟩
        simp only [loadVar, Sem.run_bind, run_isAgg hk, Result.andThen_ok, Option.isSome_none, Bool.false_eq_true, if_false, run_load, hy]
      · obtain ⟨xs, hxl, hxs, hxc, hxa⟩ := range_at hr hg o m hl
        refine ⟨_, .agg xs.toArray, rfl, ?_, ?_⟩
        · have := run_loadCells_list (P := P) w _ xs hxa
          rw [hxl] at this
          simp only [loadVar, Sem.run_bind, run_isAgg hk, Result.andThen_ok, Option.isSome_some, if_true, run_size (kOk_size hk), this, Sem.run_pure]
        · simp only [VR]
          exact ⟨xs.toArray, rfl, by simpa using hxs, by simpa using hxc⟩
    · cases h
  · cases h

theorem putAt_eq : ∀ (vs cs : List AV) (o : Nat), o + vs.length ≤ cs.length → putAt cs o vs = cs.take o ++ vs ++ cs.drop (o + vs.length)
  | [], cs, o, h => by simp [putAt]
  | v :: vs, cs, o, h => by
    simp only [List.length_cons] at h
    simp only [putAt]
    rw [putAt_eq vs _ _ (by simp; omega)]
    apply List.ext_getElem?
    intro i
    simp only [List.length_cons]
    by_cases h1 : i < o
    · have l1 : i < ((cs.set o v).take (o + 1) ++ vs).length := by simp; omega
      have l2 : i < ((cs.set o v).take (o + 1)).length := by simp; omega
      have l3 : i < (cs.take o ++ v :: vs).length := by simp; omega
      have l4 : i < (cs.take o).length := by simp; omega
      rw [List.getElem?_append_left l1, List.getElem?_append_left l2, List.getElem?_append_left l3, List.getElem?_append_left l4]
      rw [List.getElem?_take_of_lt (by omega), List.getElem?_take_of_lt h1, List.getElem?_set]
      simp; omega
    · by_cases h2 : i < o + 1 + vs.length
      · have l1 : i < ((cs.set o v).take (o + 1) ++ vs).length := by simp; omega
        have l3 : i < (cs.take o ++ v :: vs).length := by simp; omega
        rw [List.getElem?_append_left l1, List.getElem?_append_left l3]
        rw [List.getElem?_append_right (l₁ := cs.take o) (by simp; omega)]
        have e1 : (cs.take o).length = o := by simp; omega
        rw [e1]
        by_cases h3 : i = o
        · subst h3
          rw [List.getElem?_append_left (by simp; omega), List.getElem?_take_of_lt (by omega), List.getElem?_set]
          simp; omega
        · have e2 : ((cs.set o v).take (o + 1)).length = o + 1 := by simp; omega
          rw [List.getElem?_append_right (by omega), e2]
          have : i - o = (i - (o + 1)) + 1 := by omega
          rw [this]; simp
      · have e2 : ((cs.set o v).take (o + 1) ++ vs).length = o + 1 + vs.length := by simp; omega
        have e3 : (cs.take o ++ v :: vs).length = o + (vs.length + 1) := by simp; omega
        rw [List.getElem?_append_right (by omega), List.getElem?_append_right (by omega), e2, e3]
        rw [List.getElem?_drop, List.getElem?_drop, List.getElem?_set]
        have : ¬ o = o + 1 + vs.length + (i - (o + 1 + vs.length)) := by omega
        simp only [this, if_false]
        congr 1; omega

/-- A block of one's own changes. -/
theorem own_upd (hr : HR CK w0 K φ H w) {b g n n' : Nat} {cs cs' : List AV} {c' : Array Value} {t : TypeId} {c : Array Value} {fr : Nat × Nat} (hb : ¬ b < H.N) (hy : H.own[b - H.N]? = some (.cells g n cs))
    (hw : w.heap[(φ b).blk]? = some (.cells c t fr)) (hsz : c'.size = c.size) (hn : n ≤ n') (hl : cs'.length ≤ (φ b).ext)
    (hv : ∀ (j : Nat) v, cs'[j]? = some v → ∃ x, c'[j]? = some x ∧ VR φ H v x ∧ Value.oneCell' x = true) :
    HR CK w0 K φ (H.setOwn b (.cells g n' cs')) (w.setRow (φ b).blk c') ∧ Stp φ H φ (H.setOwn b (.cells g n' cs')) := by
  have hg := Heap.get_own H b _ hb hy
  have hs : Stp φ H φ (H.setOwn b (.cells g n' cs')) := by
    intro k
    have hgk := Heap.get_setOwn H b (.cells g n' cs') _ hb hy k
    by_cases hk : k = b
    · subst hk
      simp only [if_true] at hgk
      refine ⟨fun g1 n1 cs1 e => ?_, fun es e => ?_, fun st pend s ps x y e => ?_⟩
      · rw [hg] at e; cases e; exact ⟨n', cs', hgk, hn, fun _ => rfl⟩
      · rw [hg] at e; cases e
      · rw [hg] at e; cases e
    · simp only [hk, if_false] at hgk
      exact ⟨fun g1 n1 cs1 e => ⟨n1, cs1, by rw [hgk, e], Nat.le_refl _, fun _ => rfl⟩, fun es e => ⟨es, by rw [hgk, e], rfl⟩, fun st pend s ps x y e => ⟨st, pend, s, ps, x, y, by rw [hgk, e], rfl⟩⟩
  have hf : (0, 0) = fr := ((hr.own b (by omega) (by rw [hg]; simp)).2.2 _ _ _ hw).symm
  subst hf
  have hoff := (hr.own b (by omega) (by rw [hg]; simp)).2.1
  have hlt : (φ b).blk < w.heap.size := (Array.getElem?_eq_some_iff.1 hw).1
  have hrow : (w.setRow (φ b).blk c').heap[(φ b).blk]? = some (.cells c' t (0, 0)) := setRow_heap w _ c _ t _ hw
  have hphi : upd φ b (φ b) = φ := by funext k; unfold upd; split <;> simp_all
  have ho := hr.obj b
  rw [hg] at ho
  obtain ⟨c2, t2, fr2, h1, h2, h3, h4⟩ := ho
  rw [hw] at h1; cases h1
  have main := HR.upd hr b (by omega) (.cells g n' cs') (φ b) (H' := H.setOwn b (.cells g n' cs')) (w' := w.setRow (φ b).blk c') (by rw [Heap.setOwn_eq]) (Heap.get_setOwn H b _ _ hb hy)
    (by simp [World.setRow]) (fun r hr' hne => by simp only [World.setRow]; rw [Array.getElem?_modify]; simp [Ne.symm hne]) (.inl ⟨rfl, by rw [hg]; simp⟩) hoff (by rw [hphi]; exact hs) ?_ ?_
  · rw [hphi] at main; exact ⟨main, hs⟩
  · rw [hphi]
    refine ⟨c', t, (0, 0), hrow, by omega, hl, fun j v hj => ?_⟩
    obtain ⟨x, hx, hvx, hc⟩ := hv j v hj
    exact ⟨x, by rw [hoff]; simpa using hx, VR.step hs _ _ hvx, hc⟩
  · intro c3 t3 fr3 e; rw [hrow] at e; cases e; rfl

/-- Cells written into a block of one's own. -/
theorem put_sim (hr : HR CK w0 K φ H w) {b ver o : Nat} {vs : List AV} {xs : List Value} {a : Addr} (hp : VR φ H (.ptr b o ver) (.pointer (some a))) (hv : VRs φ H vs xs) (h1 : ∀ x ∈ xs, Value.oneCell' x = true)
    (h : (Eff.put b ver o vs).app H = some H') : ∃ w', (storeCells a xs).run P w = .ok () w' ∧ HR CK w0 K φ H' w' ∧ Stp φ H φ H' := by
  simp only [Eff.app] at h
  split at h
  · cases h
  · rename_i hb
    split at h
    · rename_i g n cs hy
      split at h
      · rename_i hc
        obtain ⟨rfl, hlen⟩ := hc
        rw [forceL_eq] at h
        cases h
        have hg := Heap.get_own H b _ hb hy
        simp only [VR] at hp
        obtain ⟨a', g', n', cs', e, hg', hle, ha⟩ := hp
        cases e
        rw [hg] at hg'; cases hg'
        obtain rfl := ha rfl
        have ho := hr.obj b
        rw [hg] at ho
        obtain ⟨c, t, fr, hw, h2, h3, h4⟩ := ho
        have hoff := (hr.own b (by omega) (by rw [hg]; simp)).2.1
        have hf := (hr.own b (by omega) (by rw [hg]; simp)).2.2 _ _ _ hw
        subst hf
        have hxl := hv.length
        rw [hoff] at h2 h4 ⊢
        have hst := run_storeCells_at P (φ b).blk o t xs 0 c w hw (by omega) h1
        simp only [Nat.zero_add, Nat.add_zero] at hst ⊢
        have hown := own_upd hr (n' := n) (cs' := putAt cs o vs) (c' := (c.toList.take o ++ xs ++ c.toList.drop (o + xs.length)).toArray) hb hy hw (by simp; omega) (Nat.le_refl _)
          (by rw [putAt_eq _ _ _ hlen]; simp; omega)
        refine ⟨_, hst, hown ?_⟩
        · intro j v hj
          rw [putAt_eq _ _ _ hlen] at hj
          simp only [List.getElem?_toArray]
          have e1 : (cs.take o).length = o := by simp; omega
          have e2 : (c.toList.take o).length = o := by simp; omega
          by_cases l1 : j < o
          · rw [List.append_assoc, List.getElem?_append_left (by omega), List.getElem?_take_of_lt l1] at hj ⊢
            obtain ⟨x, hx, hvx, hc⟩ := h4 j v hj
            exact ⟨x, by simpa using hx, hvx, hc⟩
          · by_cases l2 : j < o + vs.length
            · rw [List.append_assoc, List.getElem?_append_right (by omega), List.getElem?_append_left (by omega), e1] at hj
              rw [List.append_assoc, List.getElem?_append_right (by omega), List.getElem?_append_left (by omega), e2]
              obtain ⟨x, hx, hvx⟩ := VRs.get hv hj
              exact ⟨x, hx, hvx, h1 x (List.mem_of_getElem? hx)⟩
            · have e3 : (cs.take o ++ vs).length = o + vs.length := by simp; omega
              have e4 : (c.toList.take o ++ xs).length = o + vs.length := by simp; omega
              rw [List.getElem?_append_right (by omega), e3, List.getElem?_drop] at hj
              rw [List.getElem?_append_right (by omega), e4, List.getElem?_drop, hxl]
              have e5 : o + vs.length + (j - (o + vs.length)) = j := by omega
              rw [e5] at hj ⊢
              obtain ⟨x, hx, hvx, hc⟩ := h4 j v hj
              exact ⟨x, by simpa using hx, hvx, hc⟩
      · cases h
    · cases h

theorem store_sim (hr : HR CK w0 K φ H w) {t : TypeId} {n : Nat} {b o ver : Nat} {c : List AV} {vv : AV} {x y : Value} (hs : sizeOk P t n = true) (hx : VR φ H (.ptr b o ver) x) (hy : VR φ H vv y) (hc : vv.cells = some c) (hl : c.length = n)
    (h : (Eff.put b ver o c).app H = some H') : ∃ w', (Instr.storeAt t x y).run P w = .ok () w' ∧ HR CK w0 K φ H' w' ∧ Stp φ H φ H' := by
  obtain ⟨hv, h1⟩ := VR.cells hy hc
  have hx' := hx
  simp only [VR] at hx'
  obtain ⟨a, g, m, cs, rfl, hg, hle, ha⟩ := hx'
  obtain ⟨w', hw', r1, r2⟩ := put_sim (P := P) hr hx hv h1 h
  refine ⟨w', ?_, r1, r2⟩
  have hlen := hv.length
  have : y.cells.size = n := by simpa using hlen.trans hl
  simp only [Instr.storeAt, Instr.sureAddr, Sem.run_bind, Sem.run_pure, Result.andThen_ok, storeVar, run_size hs, this, ne_eq, not_true_eq_false, if_false, hw']

end
end Go.AEv
