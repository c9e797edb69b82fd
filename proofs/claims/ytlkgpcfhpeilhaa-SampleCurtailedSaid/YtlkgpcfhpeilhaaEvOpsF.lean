/-
  Each operation of the evaluator stands for the model's: part seven: copy, make, maps.
-/
import Derived.Test.YtlkgpcfhpeilhaaEvOpsE
set_option linter.unusedVariables false
set_option linter.unusedSimpArgs false
namespace Go.AEv
section
variable {CK : CKT} {P : Program} {w0 : World} {K : List Nat} {φ : Nat → Emb} {H H' : Heap} {w : World} {s : T} {ρ : Operand → Value} {v : AV} {fp : FP} {call : CallF} {h0 : Heap}

theorem VRs.takeR {n : Nat} {vs : List AV} {xs : List Value} (h : VRs φ H vs xs) : VRs φ H (vs.take n) (xs.take n) := VRs.take h

/-- What is copied: at most as many cells as there is room for. -/
theorem elems_some (hr : HR CK w0 K φ H w) {g n m : Nat} {y : AV} {u : Value} {ys : List AV} (hy : VR φ H y u) (h : elems H g y = some (n, ys)) (hm : m ≤ n) :
    ∃ arr : Array Value, (Builtin.firstCells g m u).run P w = .ok arr w ∧ VRs φ H (ys.take (m * g)) arr.toList ∧ ∀ x ∈ arr.toList, Value.oneCell' x = true := by
  unfold elems at h
  split at h
  · simp only [VR] at hy; subst hy
    simp only [Option.some.injEq, Prod.mk.injEq] at h
    obtain ⟨rfl, rfl⟩ := h
    exact ⟨#[], by simp [Builtin.firstCells], by simp [VRs], by simp⟩
  · simp only [VR] at hy
    obtain ⟨a, c, rfl⟩ := hy
    simp only [Option.some.injEq, Prod.mk.injEq] at h
    obtain ⟨rfl, rfl⟩ := h
    obtain rfl : m = 0 := by omega
    exact ⟨#[], by simp [Builtin.firstCells, loadCells, loadCellsFrom], by simp [VRs], by simp⟩
  · rename_i l
    simp only [VR] at hy; subst hy
    split at h
    · rename_i hg
      subst hg
      simp only [Option.some.injEq, Prod.mk.injEq] at h
      obtain ⟨rfl, rfl⟩ := h
      refine ⟨(l.take m).toArray.map fun b => .int .u8 b.toNat, ?_, ?_, by
        intro x hx; rw [Array.toList_map] at hx; obtain ⟨q, _, rfl⟩ := List.mem_map.1 hx; rfl⟩
      · simp only [Builtin.firstCells, Sem.run_pure]
        congr 2
        rw [ByteArray.data_extract]
        apply Array.ext'
        simp
      · rw [Nat.mul_one, ← List.map_take]
        simp only [Array.toList_map]
        generalize l.take m = q
        induction q with
        | nil => simp [VRs]
        | cons b l ih => simp only [List.map_cons, VRs, VR]; exact ⟨_, _, rfl, rfl, by simpa using ih⟩
    · cases h
  · rename_i b o len ver
    simp only [VR] at hy
    obtain ⟨a, c, gg, nn, cs, rfl, hl, hg, hv, ha⟩ := hy
    rw [hg] at h
    simp only at h
    split at h
    · rename_i hn
      split at h
      · rename_i hlen
        simp only [Option.some.injEq, Prod.mk.injEq] at h
        obtain ⟨rfl, rfl⟩ := h
        obtain ⟨rfl, _⟩ := ha hn.symm
        have hle : m * g ≤ len * g := Nat.mul_le_mul_right _ hm
        have hlen' : ((cs.drop o).take (m * g)).length = m * g := by simp at hlen ⊢; omega
        obtain ⟨xs, hxl, hxs, hxc, hxa⟩ := range_at hr hg o (m * g) hlen'
        refine ⟨xs.toArray, ?_, ?_, by simpa using hxc⟩
        · have := run_loadCells_list (P := P) w _ xs hxa
          rw [hxl] at this
          simp only [Builtin.firstCells, this]
        · rw [List.take_take, Nat.min_eq_left hle]; exact hxs
      · cases h
    · cases h
  · cases h

theorem copy_sim (hr : HR CK w0 K φ H w) {dT sT ty e : TypeId} {g n : Nat} {a b : AV} {x u : Value} {ys : List AV} (hu : P.underlying dT = some (.slice e)) (hs : sizeOk P e g = true) (hx : VR φ H a x) (hy : VR φ H b u) (he : elems H g b = some (n, ys)) {eff : Eff}
    (hv : copyA g n ys a = some (v, eff)) (ha : eff.app H = some H') :
    ∃ w' r, (Builtin.copy_ #[dT, sT] ty #[x, u]).run P w = .ok r w' ∧ HR CK w0 K φ H' w' ∧ VR φ H' v r ∧ Stp φ H φ H' := by
  obtain ⟨hl, hyl, _, _, _, _⟩ := elems_sim (P := P) hr hy he
  unfold copyA at hv
  cases a <;> simp only [reduceCtorEq, Option.some.injEq, Prod.mk.injEq] at hv
  case nils =>
    obtain ⟨rfl, rfl⟩ := hv
    simp only [Eff.app, Option.some.injEq] at ha; subst ha
    simp only [VR] at hx; subst hx
    obtain ⟨arr, hf, _, _⟩ := elems_some (P := P) (m := 0) hr hy he (by simp)
    refine ⟨w, .int .i64 0, ?_, hr, by simp [VR, goI], Stp.refl φ H⟩
    simp [Builtin.copy_, run_und hu, hl, run_size hs, hf, goInt]
  case slice0 =>
    obtain ⟨rfl, rfl⟩ := hv
    simp only [Eff.app, Option.some.injEq] at ha; subst ha
    simp only [VR] at hx
    obtain ⟨ad, c, rfl⟩ := hx
    obtain ⟨arr, hf, h1, _⟩ := elems_some (P := P) (m := 0) hr hy he (by simp)
    have hae : arr = #[] := by
      apply Array.eq_empty_of_size_eq_zero
      have := h1.length
      simpa using this
    subst hae
    refine ⟨w, .int .i64 0, ?_, hr, by simp [VR, goI], Stp.refl φ H⟩
    simp [Builtin.copy_, run_und hu, hl, run_size hs, hf, goInt, storeCells]
  case slice bb o len ver =>
    obtain ⟨rfl, rfl⟩ := hv
    have hx' := hx
    simp only [VR] at hx'
    obtain ⟨ad, c, gg, nn, cs, rfl, hlc, hg, hle, had⟩ := hx'
    obtain ⟨arr, hf, h1, h2⟩ := elems_some (P := P) (m := Nat.min n len) hr hy he (Nat.min_le_left _ _)
    have hp : VR φ H (.ptr bb o ver) (.pointer (some ad)) := by
      simp only [VR]; exact ⟨ad, gg, nn, cs, rfl, hg, hle, fun q => (had q).1⟩
    obtain ⟨w', hw', r1, r2⟩ := put_sim (P := P) hr hp h1 h2 ha
    refine ⟨w', .int .i64 (Nat.min n len : Nat), ?_, r1, by
      simp only [VR, goI]; congr 1; show ((min n len : Nat) : Int) = min (n : Int) len; omega, r2⟩
    simp [Builtin.copy_, run_und hu, hl, run_size hs, hf, goInt, hw']

theorem repl_get : ∀ (n : Nat) (z : List AV) (i : Nat), i < n * z.length → (repl n z)[i]? = z[i % z.length]? := by
  have gen : ∀ (z : List AV) (n i : Nat), i < n * z.length → ((List.replicate n z).flatten)[i]? = z[i % z.length]? := by
    intro z n
    induction n with
    | zero => intro i h; simp at h
    | succ n ih =>
      intro i h
      have e : (n + 1) * z.length = n * z.length + z.length := Nat.succ_mul _ _
      simp only [List.replicate_succ, List.flatten_cons]
      by_cases hi : i < z.length
      · rw [List.getElem?_append_left hi, Nat.mod_eq_of_lt hi]
      · rw [List.getElem?_append_right (by omega), ih (i - z.length) (by omega)]
        congr 1
        rw [← Nat.mod_eq_sub_mod (by omega)]
  intro n z i h
  unfold repl
  split
  · rename_i a
    simp at h
    rw [List.getElem?_replicate]
    simp [h, Nat.mod_one]
  · exact gen z n i h

theorem repl_length (n : Nat) (z : List AV) : (repl n z).length = n * z.length := by
  unfold repl
  split <;> simp

theorem makeSlice_sim (hr : HR CK w0 K φ H w) {t e : TypeId} {g bytes n0 : Nat} {j : Option Nat} {z : List AV} {k : IntKind} {n : Int} (hu : P.underlying t = some (.slice e)) (hs : sizeOk P e g = true) (hby : bytesOk P e bytes = true) (hz : zeroOk P e z = true) (hb0 : 0 < bytes)
    (h0 : 0 ≤ n) (hle : n * bytes ≤ 1099511627776) (hzl : z.length = g) (hm : (mk H n0 j (.cells g (n.toNat * g) (repl n.toNat z))).2.app H = some H') :
    ∃ φ' w' x, (Instr.makeSlice t (.int k n) (.int k n)).run P w = .ok x w' ∧ HR CK w0 K φ' H' w' ∧ VR φ' H' (.slice (mk H n0 j (.cells g (n.toNat * g) (repl n.toNat z))).1 0 n.toNat (n.toNat * g)) x ∧ Stp φ H φ' H' := by
  obtain ⟨zv, hz1, hz2, hz3⟩ := run_zero (P := P) (w := w) hz
  have hzs : zv.cells.size = g := by have := (hz2 φ H).length; simp at this; omega
  unfold bytesOk at hby
  split at hby
  · rename_i i hi
    have hby : i.bytes = bytes := by simpa using hby
    have hn1 : n ≤ 1099511627776 := by
      have h1 : n * 1 ≤ n * bytes := Int.mul_le_mul_of_nonneg_left (by omega) h0
      omega
    have hwrap : IntKind.i64.wrap n = n := by
      simp [IntKind.wrap, IntKind.bits, IntKind.signed]; omega
    obtain ⟨m, rfl⟩ := Int.eq_ofNat_of_zero_le h0
    simp only [Int.toNat_natCast] at *
    have hlen : (repl m z).length = m * g := by rw [repl_length, hzl]
    generalize hc : (Array.range (m * g)).map (zv.cells[· % zv.cells.size]!) = c
    have hcs : c.size = m * g := by rw [← hc]; simp
    have hget : ∀ i, i < m * g → c[i]? = some (zv.cells[i % g]!) := by
      intro i hi'
      rw [← hc, hzs]; simp [hi']
    have hcr : VRs φ H (repl m z) (c.toList.take (repl m z).length) := by
      rw [List.take_of_length_le (by simp [hcs, hlen])]
      refine VRs.ofGet (by simp [hcs, hlen]) fun i a x ha hx => ?_
      have hi' : i < m * g := by have := (List.getElem?_eq_some_iff.1 ha).1; omega
      rw [repl_get m z i (by rw [hzl]; exact hi'), hzl] at ha
      obtain ⟨y, hy, hvy⟩ := VRs.get (hz2 φ H) ha
      have h2 := hget i hi'
      have h3 : c[i]? = some x := by simpa using hx
      rw [h2] at h3
      have h4 : zv.cells[i % g]? = some y := by simpa using hy
      have h5 : zv.cells[i % g]! = y := by
        have hlt := (Array.getElem?_eq_some_iff.1 h4)
        obtain ⟨hlt, he⟩ := hlt
        rw [getElem!_pos zv.cells _ hlt, he]
      rw [h5] at h3
      cases h3; exact hvy
    have hc1 : ∀ x ∈ c.toList, Value.oneCell' x = true := by
      intro x hx
      obtain ⟨i, hi'⟩ := List.mem_iff_getElem?.1 hx
      have hlt : i < m * g := by have := (List.getElem?_eq_some_iff.1 hi').1; simp [hcs] at this; exact this
      have h2 := hget i hlt
      have h3 : c[i]? = some x := by simpa using hi'
      rw [h2] at h3; cases h3
      have hg0 : 0 < g := by
        rcases Nat.eq_zero_or_pos g with h | h
        · subst h; simp at hlt
        · exact h
      have hlt' : i % g < zv.cells.size := by rw [hzs]; exact Nat.mod_lt _ hg0
      rw [getElem!_pos zv.cells _ hlt']
      exact hz3 _ (by simp)
    obtain ⟨r1, r2, r3⟩ := new_cells hr (t := e) (c := c) hm hcr (by omega) hc1
    refine ⟨_, _, .slice (some ⟨w.heap.size, 0, none⟩) m m, ?_, r1, ?_, r2⟩
    · have ht : (decide ((m : Int) < 0) || decide ((i.bytes : Int) * (m : Int) > 2 ^ 48)) = false := by
        rw [hby, Int.mul_comm]; simp; omega
      simp only [Instr.makeSlice, Sem.run_bind, run_und hu, Result.andThen_ok, asInt, asIntOf, Sem.run_pure, run_info hi, hwrap]
      rw [if_neg (by rw [ht]; simp)]
      simp only [Sem.run_bind, run_askRoom, Result.andThen_ok, Int.toNat_natCast, run_size hs]
      by_cases hz0 : m * g = 0
      · rw [if_pos hz0]
        have hce : c = #[] := Array.eq_empty_of_size_eq_zero (by omega)
        subst hce
        have er : (Array.range 0 : Array Nat) = #[] := rfl
        simp [newRow, hz0, er]
      · rw [if_neg hz0]
        simp only [Sem.run_bind, Sem.run_pure, Result.andThen_ok, newRow, run_newObj, hz1, hc]
    · simp only [VR]
      refine ⟨_, m, g, _, _, rfl, Nat.le_refl _, r3, Nat.le_refl _, fun _ => ⟨by rw [upd_self], fun _ _ => ?_⟩⟩
      rw [upd_self]
      show m * g ≤ c.size
      omega
  · cases hby

end
end Go.AEv
