/-
  Arguments that are slices of slices of ints, in the caller's memory. No condition.
-/
import Derived.Test.YtjeemgaoonapgaaRList
set_option linter.unusedVariables false
set_option linter.unusedSimpArgs false
namespace Go.AEv
open Go.ChangeShapes Go.WideShapes Go.Proofs.Ytjeemgaoonapgaa.Ev

theorem MR.ext {h h' : Heap} (e : Ext h h') {y : AV} {M : List (List Int)} (m : MR h y M) : MR h' y M := by
  rcases m with m | ⟨b, v, cs, rfl, g, hl, hr⟩
  · exact .inl m
  · refine .inr ⟨b, v, cs, rfl, e _ _ g (by simp), hl, fun i r q => ?_⟩
    obtain ⟨l, h1, h2⟩ := hr i r q
    exact ⟨l, h1, LR.ext e h2⟩

theorem rows_lo {CK : CKT} {w : World} {H : Type} {enc : TypeId × Value → H} {P : Program} {e i : TypeId} (he : P.underlying e = some (.slice i)) (hi : P.underlying i = some (.int .i64)) (hc : P.cellsOf i = 1) :
    ∀ (vs : List Value) {φ : Nat → Emb} {h : Heap} (ho : h.own = []) (hr : HR CK w [] φ h w), (∀ u ∈ vs, ∃ fuel z, DataW.trod enc P w 0 (fun _ => true) true fuel e [u] = some z) →
    ∃ φ' h', ∃ (rs : List AV) (ls : List (List Int)), h'.own = [] ∧ HR CK w [] φ' h' w ∧ Stp φ h φ' h' ∧ Ext h h' ∧ rs.length = vs.length ∧ ls.length = vs.length ∧ ∀ (j : Nat) u r, vs[j]? = some u → rs[j]? = some r → VR φ' h' r u ∧ Value.oneCell' u = true ∧ ∃ l, ls[j]? = some l ∧ LR h' r l
  | [], φ, h, ho, hr, _ => ⟨φ, h, [], [], ho, hr, Stp.refl φ h, Ext.refl h, rfl, rfl, fun j u r q => by simp at q⟩
  | u :: us, φ, h, ho, hr, ht => by
    obtain ⟨fuel, z, hf⟩ := ht u (by simp)
    obtain ⟨φ1, h1, x, l, o1, r1, s1, e1, v1, p1, c1⟩ := ints_lo0 ho hr he hi hc hf
    obtain ⟨φ2, h2, rs, ls, o2, r2, s2, e2, l1, l2, q⟩ := rows_lo he hi hc us o1 r1 (fun u' hu => ht u' (by simp [hu]))
    refine ⟨φ2, h2, x :: rs, l :: ls, o2, r2, s1.trans s2, e1.trans e2, by simp [l1], by simp [l2], fun j u' r hu hr' => ?_⟩
    cases j with
    | zero =>
      simp only [List.getElem?_cons_zero, Option.some.injEq] at hu hr'
      subst hu hr'
      exact ⟨VR.step s2 _ _ v1, c1, l, rfl, p1.ext e2⟩
    | succ j =>
      simp only [List.getElem?_cons_succ] at hu hr' ⊢
      exact q j u' r hu hr'

/-- A slice of slices of ints that is an argument. -/
theorem mat_lo {CK : CKT} {φ : Nat → Emb} {h : Heap} {w : World} (ho : h.own = []) (hr : HR CK w [] φ h w) {H : Type} {enc : TypeId × Value → H} {P : Program} {t e i : TypeId} {v : Value} {d : DataW H} {p : List MemPlace}
    (ht : P.underlying t = some (.slice e)) (he : P.underlying e = some (.slice i)) (hi : P.underlying i = some (.int .i64)) (hce : P.cellsOf e = 1) (hci : P.cellsOf i = 1) (hvs : ∃ a len cap, v = .slice a len cap) (k : DataW.Trod enc P w 0 (fun _ => true) true t v d p) :
    ∃ φ' h' x M, h'.own = [] ∧ HR CK w [] φ' h' w ∧ Stp φ h φ' h' ∧ Ext h h' ∧ VR φ' h' x v ∧ MR h' x M := by
  obtain ⟨va, vl, vc, rfl⟩ := hvs
  obtain ⟨fuel, hf⟩ := k
  rcases DataW.trod_slice ht hf with ⟨hcs, _⟩ | ⟨a, len, cap, elems, rest, n, _, hcs, _, _, hl, hm, hlen, hel, hsp, _⟩
  · have hcs' : Value.slice va vl vc = .slice none 0 0 := (List.cons.inj hcs).1
    rw [hcs']
    exact ⟨φ, h, .nils, [], ho, hr, Stp.refl φ h, Ext.refl h, by simp [VR], .inl ⟨.inl rfl, rfl⟩⟩
  · have hcs' : Value.slice va vl vc = .slice (some a) len cap := (List.cons.inj hcs).1
    rw [hcs']
    by_cases h0 : len = 0
    · subst h0
      exact ⟨φ, h, .slice0, [], ho, hr, Stp.refl φ h, Ext.refl h, by simp [VR], .inl ⟨.inr rfl, rfl⟩⟩
    · obtain ⟨hrl, hre⟩ := hsp rfl
      have each : ∀ j, j < cap → ∃ u, w.cell? (a.add j) = some u ∧ ∃ z, DataW.trod enc P w 0 (fun _ => true) true n e [u] = some z := fun j hj => by
        have hb' : ∃ y, (w.cells? 0 (a.add (j * P.cellsOf e)) (P.cellsOf e)).bind (DataW.trod enc P w 0 (fun _ => true) true n e) = some y := by
          by_cases hjl : j < len
          · rw [hel j hjl, List.getElem?_eq_getElem (by omega)]; exact ⟨_, rfl⟩
          · have := hre (j - len) (by omega)
            rw [show len + (j - len) = j by omega] at this
            rw [this, List.getElem?_eq_getElem (by omega)]; exact ⟨_, rfl⟩
        obtain ⟨y, hy⟩ := hb'
        rw [hce, Nat.mul_one, Option.bind_eq_some_iff] at hy
        obtain ⟨cs', h1, h2⟩ := hy
        have hl1 := (World.cells?_some h1).2.1
        obtain ⟨u, rfl⟩ : ∃ u, cs' = [u] := by
          cases cs' with
          | nil => simp at hl1
          | cons u r => cases r with
            | nil => exact ⟨u, rfl⟩
            | cons u' r => simp at hl1
        exact ⟨u, cell_of_cells?_one h1, y, h2⟩
      obtain ⟨f, hfe⟩ : ∃ f : Nat → Value, ∀ j, j < cap → w.cell? (a.add j) = some (f j) ∧ ∃ z, DataW.trod enc P w 0 (fun _ => true) true n e [f j] = some z :=
        ⟨fun j => if hj : j < cap then Classical.choose (each j hj) else .nilFunc, fun j hj => by
          simp only [dif_pos hj]
          exact Classical.choose_spec (each j hj)⟩
      obtain ⟨b, off, spot⟩ := a
      have hspot : spot = none := by simpa [Addr.add] using World.cell?_spot (hfe 0 (by omega)).1
      subst hspot
      have hcell : ∀ j, j < cap → w.cell? ⟨b, off + j, none⟩ = some (f j) := fun j hj => by rw [← Go.WideShapes.add_plain]; exact (hfe j hj).1
      obtain ⟨c, ty, fr, hb, hc0⟩ := cell_obj (hcell 0 (by omega))
      have hcj : ∀ j, j < cap → c[off + j]? = some (f j) := fun j hj => by
        obtain ⟨c', ty', fr', hb', hcj⟩ := cell_obj (hcell j hj)
        rw [hb] at hb'
        simp only [Option.some.injEq, Obj.cells.injEq] at hb'
        obtain ⟨rfl, _⟩ := hb'
        exact hcj
      have hsize : off + cap ≤ c.size := by
        have := (Array.getElem?_eq_some_iff.1 (hcj (cap - 1) (by omega))).1
        omega
      obtain ⟨φ1, h1, rs, ls, o1, r1, s1, e1, l1, l2, q⟩ := rows_lo he hi hci ((List.range len).map f) ho hr (fun u hu => by
        obtain ⟨j, hj, rfl⟩ := List.mem_map.1 hu
        obtain ⟨z, hz⟩ := (hfe j (by have := List.mem_range.1 hj; omega)).2
        exact ⟨n, z, hz⟩)
      simp only [List.length_map, List.length_range] at l1 l2
      have hat : ∀ j, j < len → ((List.range len).map f)[j]? = some (f j) := fun j hj => by simp [hj]
      refine ⟨AEv.upd φ1 h1.N ⟨b, off, cap⟩, h1.more (.cells 1 len rs), .slice h1.N 0 len len, ls, rfl, lo_add o1 r1 _ _ ?_, s1.trans (lo_stp o1 _ _), e1.trans (more_ext h1 o1 _), ?_, .inr ⟨h1.N, len, rs, by rw [l2], more_at _ _, by omega, fun j r hr' => ?_⟩⟩
      · refine ⟨c, ty, fr, hb, hsize, by show rs.length ≤ cap; omega, fun j x hx => ?_⟩
        have hj : j < len := by have := (List.getElem?_eq_some_iff.1 hx).1; omega
        obtain ⟨q1, q2, _⟩ := q j (f j) x (hat j hj) hx
        exact ⟨f j, hcj j (by omega), VR.step (lo_stp o1 _ _) _ _ q1, q2⟩
      · simp only [VR]
        exact ⟨_, cap, 1, len, _, rfl, hl, more_at _ _, Nat.le_refl _, fun _ => ⟨by simp [AEv.upd], fun _ _ => by simp [AEv.upd]⟩⟩
      · have hj : j < len := by have := (List.getElem?_eq_some_iff.1 hr').1; omega
        obtain ⟨_, _, l, q3, q4⟩ := q j (f j) r (hat j hj) hr'
        exact ⟨l, q3, q4.ext (more_ext h1 o1 _)⟩
end Go.AEv
