/-
  Each operation of the evaluator stands for the model's: part five: places, slices.
-/
import Derived.Test.YtlkgpcfhpeilhaaEvOpsC
set_option linter.unusedVariables false
set_option linter.unusedSimpArgs false
namespace Go.AEv
section
variable {CK : CKT} {P : Program} {w0 : World} {K : List Nat} {φ : Nat → Emb} {H H' : Heap} {w : World} {s : T} {ρ : Operand → Value} {v : AV} {fp : FP} {call : CallF} {h0 : Heap}

theorem ptr_inv {b o ver : Nat} {x : Value} (h : VR φ H (.ptr b o ver) x) : ∃ a, x = .pointer (some a) ∧ ∀ k, VR φ H (.ptr b (o + k) ver) (.pointer (some (a.add k))) := by
  simp only [VR] at h
  obtain ⟨a, g, n, cs, rfl, hg, hv, ha⟩ := h
  refine ⟨a, rfl, fun k => ?_⟩
  simp only [VR]
  refine ⟨a.add k, g, n, cs, rfl, hg, hv, fun e => ?_⟩
  rw [ha e, addr_add, Nat.add_assoc]

theorem idx_spec {n : Int} {len m : Nat} (h : idx n len = some m) : 0 ≤ n ∧ n < len ∧ m = n.toNat := by
  unfold idx at h
  split at h
  · rename_i hc; simp only [Option.some.injEq] at h; exact ⟨hc.1, hc.2, h.symm⟩
  · cases h

theorem idxArr_sim {t e : TypeId} {len g : Nat} {b o ver m : Nat} {k : IntKind} {n : Int} {x : Value} (hu : P.underlying t = some (.array len e)) (hs : sizeOk P e g = true) (hx : VR φ H (.ptr b o ver) x) (hi : idx n len = some m) :
    Val P w φ H (Instr.indexAt t x (.int k n)) (.ptr b (o + m * g) ver) := by
  obtain ⟨a, rfl, ha⟩ := ptr_inv hx
  obtain ⟨h1, h2, rfl⟩ := idx_spec hi
  refine ⟨_, ?_, ha (n.toNat * g)⟩
  simp only [Instr.indexAt, asIntOf, Sem.run_bind, Sem.run_pure, Result.andThen_ok, run_und hu, Instr.sureAddr]
  rw [if_pos ⟨h1, h2⟩]
  simp only [Sem.run_bind, run_size hs, Result.andThen_ok, Sem.run_pure]

theorem idxSl_sim {t e : TypeId} {len g : Nat} {b o ver m : Nat} {k : IntKind} {n : Int} {x : Value} (hu : P.underlying t = some (.slice e)) (hs : sizeOk P e g = true) (hx : VR φ H (.slice b o len ver) x) (hi : idx n len = some m) :
    Val P w φ H (Instr.indexAt t x (.int k n)) (.ptr b (o + m * g) ver) := by
  simp only [VR] at hx
  obtain ⟨a, c, gg, nn, cs, rfl, hl, hg, hv, ha⟩ := hx
  obtain ⟨h1, h2, rfl⟩ := idx_spec hi
  refine ⟨.pointer (some (a.add (n.toNat * g))), ?_, ?_⟩
  · simp only [Instr.indexAt, asIntOf, Sem.run_bind, Sem.run_pure, Result.andThen_ok, run_und hu, Instr.sureAddr]
    rw [if_pos ⟨h1, h2⟩]
    simp only [Sem.run_bind, run_size hs, Result.andThen_ok, Sem.run_pure]
  · simp only [VR]
    refine ⟨_, gg, nn, cs, rfl, hg, hv, fun e => ?_⟩
    rw [(ha e).1, addr_add, Nat.add_assoc]

theorem part_sim {t : TypeId} {k : Option Nat} {c : List AV} {cr : Array Value} {o : Nat} (hk : kOk P t k = true) (hc : VRs φ H c cr.toList) (h1 : ∀ x ∈ cr.toList, Value.oneCell' x = true) (h : takeA k c o = some v) : Val P w φ H (part t cr o) v := by
  rcases takeA_spec h with ⟨rfl, hv⟩ | ⟨m, rfl, rfl, hl⟩
  · obtain ⟨x, hx, hvx⟩ := VRs.get hc hv
    exact ⟨x, run_part_one hk (by simpa using hx), hvx⟩
  · refine ⟨_, run_part_agg hk, ?_⟩
    simp only [VR]
    refine ⟨_, rfl, ?_, ?_⟩
    · rw [ex_toList]; exact VRs.take (VRs.drop hc)
    · intro x hx
      rw [ex_toList] at hx
      exact h1 x (List.mem_of_mem_drop (List.mem_of_mem_take hx))

theorem idxVal_sim {t e : TypeId} {len g : Nat} {kk : Option Nat} {c : List AV} {m : Nat} {k : IntKind} {n : Int} {x : Value} (hu : P.underlying t = some (.array len e)) (hs : sizeOk P e g = true) (hk : kOk P e kk = true) (hx : VR φ H (.agg c) x) (hi : idx n len = some m) (h : takeA kk c (m * g) = some v) :
    Val P w φ H (Instr.index t x (.int k n)) v := by
  simp only [VR] at hx
  obtain ⟨cr, rfl, hc, h1⟩ := hx
  obtain ⟨a1, a2, rfl⟩ := idx_spec hi
  obtain ⟨y, hy, hvy⟩ := part_sim (P := P) (w := w) hk hc h1 h
  refine ⟨y, ?_, hvy⟩
  simp only [Instr.index, asIntOf, Sem.run_bind, Sem.run_pure, Result.andThen_ok, run_und hu]
  rw [if_pos ⟨a1, a2⟩]
  simp only [Sem.run_bind, run_size hs, Result.andThen_ok, hy]

theorem idxStr_sim {t : TypeId} {c : List UInt8} {m : Nat} {k : IntKind} {n : Int} {x : Value} {y : UInt8} (hu : P.underlying t = some .string) (hx : VR φ H (.str c) x) (hi : idx n c.length = some m) (h : c[m]? = some y) :
    Val P w φ H (Instr.index t x (.int k n)) (.int .u8 y.toNat) := by
  simp only [VR] at hx; subst hx
  obtain ⟨a1, a2, rfl⟩ := idx_spec hi
  refine ⟨.int .u8 y.toNat, ?_, by simp [VR]⟩
  have : (ByteArray.mk c.toArray)[n.toNat]? = some y := by
    have hl := (List.getElem?_eq_some_iff.1 h)
    obtain ⟨hl, he⟩ := hl
    rw [getElem?_pos (ByteArray.mk c.toArray) n.toNat (by simpa [ByteArray.size] using hl)]
    simp only [Option.some.injEq]
    exact he
  simp only [Instr.index, asIntOf, Sem.run_bind, Sem.run_pure, Result.andThen_ok, run_und hu, if_pos a1, this]

theorem fieldAddr_sim {t : TypeId} {fs : Array Field} {i b o ver : Nat} {f : Field} {x : Value} {n : Nat} (hu : P.underlying t = some (.struct fs)) (hf : fs[i]? = some f) (hs : sizeOk P f.type n = true) (hn : n ≠ 0) (hx : VR φ H (.ptr b o ver) x) :
    Val P w φ H (Instr.fieldAt t x i) (.ptr b (o + f.offset) ver) := by
  obtain ⟨a, rfl, ha⟩ := ptr_inv hx
  refine ⟨_, ?_, ha f.offset⟩
  simp only [Instr.fieldAt, Sem.run_bind, run_und hu, Result.andThen_ok, hf, Instr.sureAddr, Sem.run_pure, fieldPlace, run_size hs, if_neg hn]

theorem field_sim {t : TypeId} {fs : Array Field} {i : Nat} {f : Field} {x : Value} {k : Option Nat} {c : List AV} (hu : P.underlying t = some (.struct fs)) (hf : fs[i]? = some f) (hk : kOk P f.type k = true) (hx : VR φ H (.agg c) x) (h : takeA k c f.offset = some v) :
    Val P w φ H (Instr.field t x i) v := by
  simp only [VR] at hx
  obtain ⟨cr, rfl, hc, h1⟩ := hx
  obtain ⟨y, hy, hvy⟩ := part_sim (P := P) (w := w) hk hc h1 h
  exact ⟨y, by simp only [Instr.field, Sem.run_bind, run_und hu, Result.andThen_ok, hf, asAgg, Sem.run_pure, hy], hvy⟩

/-! ### Cuts -/

theorem run_bound {x : AV} {u : Value} {n : Int} {k : IntKind} {y : Nat} {code : BoundsCode} (hx : VR φ H (.int k n) u) (h : 0 ≤ n ∧ n ≤ y) : (Instr.sliceBound u y code).run P w = .ok n.toNat w := by
  simp only [VR] at hx; subst hx
  simp only [Instr.sliceBound, asIntOf, Sem.run_bind, Sem.run_pure, Result.andThen_ok, if_pos h]

theorem bounds_sim (hρ : RhoR φ H s ρ) {lo hi : Option AOpd} {lo' hi' : Option Operand} {len cap l m : Nat} {isS : Bool} (hlo : oopdOk lo' lo = true) (hhi : oopdOk hi' hi = true) (hc : len ≤ cap) (h : bounds s len lo hi = some (l, m)) :
    (Instr.sliceBounds isS len cap (lo'.map ρ) (hi'.map ρ) none).run P w = .ok (l, m, cap) w ∧ l ≤ m ∧ m ≤ len := by
  unfold bounds at h
  simp only at h
  cases lo' with
  | none =>
    cases lo with
    | some _ => simp [oopdOk] at hlo
    | none =>
      cases hi' with
      | none =>
        cases hi with
        | some _ => simp [oopdOk] at hhi
        | none =>
          simp only at h
          split at h
          · simp only [Option.some.injEq, Prod.mk.injEq] at h
            obtain ⟨rfl, rfl⟩ := h
            refine ⟨?_, by omega, by omega⟩
            simp [Instr.sliceBounds]
          · cases h
      | some y' =>
        cases hi with
        | none => simp [oopdOk] at hhi
        | some y =>
          have hy := hρ y' y hhi
          simp only at h
          split at h
          · rename_i hl hh
            split at hh
            · rename_i k n hyv
              rw [hyv] at hy
              simp only [Option.some.injEq] at hl hh; subst hl; subst hh
              split at h
              · rename_i hc'
                simp only [Option.some.injEq, Prod.mk.injEq] at h
                obtain ⟨rfl, rfl⟩ := h
                refine ⟨?_, by omega, by omega⟩
                have r1 : ∀ code, (Instr.sliceBound (ρ y') cap code).run P w = .ok n.toNat w := fun code => run_bound (x := .undef) hy ⟨by omega, by omega⟩
                simp [Instr.sliceBounds, r1]
              · cases h
            · cases hh
          · cases h
  | some x' =>
    cases lo with
    | none => simp [oopdOk] at hlo
    | some x =>
      have hx := hρ x' x hlo
      cases hi' with
      | none =>
        cases hi with
        | some _ => simp [oopdOk] at hhi
        | none =>
          simp only at h
          split at h
          · rename_i hl hh
            split at hl
            · rename_i k n hxv
              rw [hxv] at hx
              simp only [Option.some.injEq] at hl hh; subst hl; subst hh
              split at h
              · rename_i hc'
                simp only [Option.some.injEq, Prod.mk.injEq] at h
                obtain ⟨rfl, rfl⟩ := h
                refine ⟨?_, by omega, by omega⟩
                have r1 : ∀ code, (Instr.sliceBound (ρ x') len code).run P w = .ok n.toNat w := fun code => run_bound (x := .undef) hx ⟨by omega, by omega⟩
                simp [Instr.sliceBounds, r1]
              · cases h
            · cases hl
          · cases h
      | some y' =>
        cases hi with
        | none => simp [oopdOk] at hhi
        | some y =>
          have hy := hρ y' y hhi
          simp only at h
          split at h
          · rename_i hl hh
            split at hl
            · rename_i k n hxv
              split at hh
              · rename_i k2 n2 hyv
                rw [hxv] at hx
                rw [hyv] at hy
                simp only [Option.some.injEq] at hl hh; subst hl; subst hh
                split at h
                · rename_i hc'
                  simp only [Option.some.injEq, Prod.mk.injEq] at h
                  obtain ⟨rfl, rfl⟩ := h
                  refine ⟨?_, by omega, by omega⟩
                  have r1 : ∀ code, (Instr.sliceBound (ρ y') cap code).run P w = .ok n2.toNat w := fun code => run_bound (x := .undef) hy ⟨by omega, by omega⟩
                  have r2 : ∀ code, (Instr.sliceBound (ρ x') n2.toNat code).run P w = .ok n.toNat w := fun code => run_bound (x := .undef) hx ⟨by omega, by omega⟩
                  simp [Instr.sliceBounds, r1, r2]
                · cases h
              · cases hh
            · cases hl
          · cases h

theorem slArr_sim (hρ : RhoR φ H s ρ) {t e : TypeId} {n g b o ver l m : Nat} {x : Value} {lo hi : Option AOpd} {lo' hi' : Option Operand} {gn : Nat} {cs : List AV} (hu : P.underlying t = some (.array n e)) (hs : sizeOk P e g = true) (hlo : oopdOk lo' lo = true) (hhi : oopdOk hi' hi = true)
    (hx : VR φ H (.ptr b o ver) x) (hb : bounds s n lo hi = some (l, m)) (hg : H.get b = .cells 0 gn cs) :
    Val P w φ H (Instr.sliceAt t x (lo'.map ρ) (hi'.map ρ) none) (if l = n ∧ 0 < n then .slice0 else .slice b (o + l * g) (m - l) ver) := by
  obtain ⟨hbs, h1, h2⟩ := bounds_sim (P := P) (w := w) (isS := false) hρ hlo hhi (Nat.le_refl n) hb
  obtain ⟨a, rfl, ha⟩ := ptr_inv hx
  refine ⟨.slice (some (if n = l then a else a.add (l * g))) (m - l) (n - l), ?_, ?_⟩
  · simp only [Instr.sliceAt, Sem.run_bind, run_und hu, Result.andThen_ok, Instr.sureAddr, Sem.run_pure, hbs, run_size hs]
  · by_cases hc : l = n ∧ 0 < n
    · rw [if_pos hc]
      simp only [VR]
      exact ⟨_, _, by rw [show m - l = 0 by omega]⟩
    · rw [if_neg hc]
      simp only [VR] at hx ⊢
      obtain ⟨a', g', n', cs', e1, hg', hv, ha'⟩ := hx
      cases e1
      rw [hg] at hg'; cases hg'
      refine ⟨_, _, 0, gn, cs, rfl, by omega, hg, hv, fun q => ⟨?_, fun k => absurd rfl k⟩⟩
      rw [ha' q]
      by_cases hnl : n = l
      · have : l = 0 := by omega
        subst this
        simp [hnl]
      · rw [if_neg hnl, addr_add, Nat.add_assoc]

theorem sliceAt_slice {t e : TypeId} {x : Value} {lo hi mx : Option Value} (hu : P.underlying t = some (.slice e)) : (Instr.sliceAt t x lo hi mx).run P w = (Instr.slice t x lo hi mx).run P w := by
  simp only [Instr.sliceAt, Sem.run_bind, run_und hu, Result.andThen_ok]
theorem sliceAt_string {t : TypeId} {x : Value} {lo hi mx : Option Value} (hu : P.underlying t = some .string) : (Instr.sliceAt t x lo hi mx).run P w = (Instr.slice t x lo hi mx).run P w := by
  simp only [Instr.sliceAt, Sem.run_bind, run_und hu, Result.andThen_ok]

theorem slSl_sim (hρ : RhoR φ H s ρ) {t e : TypeId} {g : Nat} {a : AV} {x : Value} {lo hi : Option AOpd} {lo' hi' : Option Operand} (hu : P.underlying t = some (.slice e)) (hs : sizeOk P e g = true) (hlo : oopdOk lo' lo = true) (hhi : oopdOk hi' hi = true)
    (hx : VR φ H a x) (h : slSlA s g a lo hi = some v) : Val P w φ H (Instr.sliceAt t x (lo'.map ρ) (hi'.map ρ) none) v := by
  unfold slSlA at h
  unfold Val
  simp only [sliceAt_slice hu]
  cases a <;> simp only [reduceCtorEq] at h
  case slice b o len ver =>
    simp only [VR] at hx
    obtain ⟨ad, c, gg, nn, cs, rfl, hl, hg, hv, ha⟩ := hx
    simp only [Option.map_eq_some_iff] at h
    obtain ⟨⟨l, m⟩, hb, rfl⟩ := h
    obtain ⟨hbs, h1, h2⟩ := bounds_sim (P := P) (w := w) (isS := true) hρ hlo hhi hl hb
    refine ⟨.slice (if c = l then some ad else some (ad.add (l * g))) (m - l) (c - l), ?_, ?_⟩
    · simp only [Instr.slice, Sem.run_bind, run_und hu, Result.andThen_ok, hbs, run_size hs, Sem.run_pure, Option.map_some]
    · simp only
      by_cases hc : l = len ∧ 0 < len
      · rw [if_pos hc]
        simp only [VR]
        by_cases hcl : c = l
        · exact ⟨ad, c - l, by rw [if_pos hcl, show m - l = 0 by omega]⟩
        · exact ⟨ad.add (l * g), c - l, by rw [if_neg hcl, show m - l = 0 by omega]⟩
      · rw [if_neg hc]
        simp only [VR]
        by_cases hcl : c = l
        · have hl0 : l = 0 := by omega
          subst hl0
          refine ⟨ad, c - 0, gg, nn, cs, by rw [if_pos hcl], by omega, hg, hv, fun q => ⟨by simpa using (ha q).1, fun k k2 => ?_⟩⟩
          simp at k2
          simpa using (ha q).2 k k2
        · refine ⟨ad.add (l * g), c - l, gg, nn, cs, by rw [if_neg hcl], by omega, hg, hv, fun q => ⟨?_, fun k k2 => ?_⟩⟩
          · rw [(ha q).1, addr_add, Nat.add_assoc]
          · have := (ha q).2 k (by omega)
            exact Nat.le_trans (Nat.mul_le_mul_right gg (by omega)) this
  case nils =>
    simp only [VR] at hx; subst hx
    simp only [Option.map_eq_some_iff] at h
    obtain ⟨⟨l, m⟩, hb, rfl⟩ := h
    obtain ⟨hbs, h1, h2⟩ := bounds_sim (P := P) (w := w) (isS := true) hρ hlo hhi (Nat.le_refl 0) hb
    refine ⟨.slice none 0 0, ?_, by simp [VR]⟩
    simp only [Instr.slice, Sem.run_bind, run_und hu, Result.andThen_ok, hbs, run_size hs, Sem.run_pure, Option.map_none, ite_self]
    rw [show m - l = 0 by omega, show 0 - l = 0 by omega]
  case slice0 =>
    simp only [VR] at hx
    obtain ⟨ad, c, rfl⟩ := hx
    simp only [Option.map_eq_some_iff] at h
    obtain ⟨⟨l, m⟩, hb, rfl⟩ := h
    obtain ⟨hbs, h1, h2⟩ := bounds_sim (P := P) (w := w) (isS := true) hρ hlo hhi (Nat.zero_le c) hb
    refine ⟨.slice (if c = l then some ad else some (ad.add (l * g))) (m - l) (c - l), ?_, ?_⟩
    · simp only [Instr.slice, Sem.run_bind, run_und hu, Result.andThen_ok, hbs, run_size hs, Sem.run_pure, Option.map_some]
    · simp only [VR]
      by_cases hcl : c = l
      · exact ⟨ad, c - l, by rw [if_pos hcl, show m - l = 0 by omega]⟩
      · exact ⟨ad.add (l * g), c - l, by rw [if_neg hcl, show m - l = 0 by omega]⟩

theorem slStr_sim (hρ : RhoR φ H s ρ) {t : TypeId} {c : List UInt8} {x : Value} {lo hi : Option AOpd} {lo' hi' : Option Operand} {l m : Nat} (hu : P.underlying t = some .string) (hlo : oopdOk lo' lo = true) (hhi : oopdOk hi' hi = true)
    (hx : VR φ H (.str c) x) (h : bounds s c.length lo hi = some (l, m)) : Val P w φ H (Instr.sliceAt t x (lo'.map ρ) (hi'.map ρ) none) (.str ((c.drop l).take (m - l))) := by
  unfold Val
  simp only [sliceAt_string hu]
  simp only [VR] at hx; subst hx
  obtain ⟨hbs, h1, h2⟩ := bounds_sim (P := P) (w := w) (isS := false) hρ hlo hhi (Nat.le_refl c.length) h
  refine ⟨.string ((ByteArray.mk c.toArray).extract l m), ?_, ?_⟩
  · have hsz : (ByteArray.mk c.toArray).size = c.length := by simp [ByteArray.size]
    simp only [Instr.slice, Sem.run_bind, run_und hu, Result.andThen_ok, hsz, Option.isSome_none, Bool.false_eq_true, if_false, Sem.run_pure, hbs]
  · simp only [VR]
    congr 1
    apply ByteArray.ext
    rw [ByteArray.data_extract]
    apply Array.ext'
    rw [Array.toList_extract, List.extract_eq_take_drop]

end
end Go.AEv
