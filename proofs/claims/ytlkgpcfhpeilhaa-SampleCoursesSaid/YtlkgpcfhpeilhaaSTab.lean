/-
  What is known of the calls: of courses too. No condition.
-/
import Derived.Test.YtlkgpcfhpeilhaaSCourse
import Derived.Test.YtlkgpcfhpeilhaaSCurt0
import Derived.Test.YtlkgpcfhpeilhaaSValid
set_option linter.unusedVariables false
set_option linter.unusedSimpArgs false
namespace Go.Proofs.Ytlkgpcfhpeilhaa.Ev
open Go Go.AEv

open Classical in
noncomputable def spec62 : SpecF := fun args h => match args with
  | [.int .i64 lot, .agg [x, y]] => match listOf h x, listOf h y with
    | some A, some R => if lot ≤ 36 then some (.bool (decide (crsOk lot A R)), [], false) else none
    | _, _ => none
  | _ => none
open Classical in
noncomputable def spec33 : SpecF := fun args h => match args with
  | [.int .i64 lot, .agg [x, y]] => match listOf h x, listOf h y with
    | some A, some R => some (G (if lotOk lot 0 ∧ crsOk lot A R then 0 else 2), [], false)
    | _, _ => none
  | _ => none
open Classical in
noncomputable def spec34 : SpecF := fun args h => match args with
  | [.int .i64 lot, .int .i64 bad, .agg [x, y]] => match listOf h x, listOf h y with
    | some A, some R => if lotOk lot bad ∧ crsOk lot A R then some (.tup [fr (yT lot bad (A.getD · 0) (R.getD · 0) A.length) (ofZ lot bad), fr (pT lot bad (A.getD · 0) (R.getD · 0) A.length) (ofZ lot bad), G 0], [], false)
      else some (.tup [.agg [G 0, G 0], .agg [G 0, G 0], G 2], [], false)
    | _, _ => none
  | _ => none

noncomputable def D1 : CallF := addV I20 69 spec69
theorem u1 : Sound Go.Proofs.Try.prog D1 := Sound.addV2 follows ok s20 Sound.empty (by decide) (fun args v h => by
  unfold spec69 at h
  split at h
  · split at h
    · rename_i a n hh
      obtain ⟨rfl, h1, h2⟩ := hh
      obtain ⟨N, rfl⟩ : ∃ N : Nat, n = N := ⟨n.toNat, by omega⟩
      simp only [Option.some.injEq] at h; subst h; exact c69_ok N (by omega)
    · cases h
  · cases h)
theorem y69 (h : Heap) (n : Int) (h1 : 0 ≤ n) (h2 : n < 64) : D1 69 [.int .u64 1, .int .u64 n] h = some (.tup [.int .u64 0, .int .u64 n], [], false) := by simp [D1, AEv.addV, spec69, h1, h2, AV.flats, AV.flat]
noncomputable def D2 : CallF := addI D1 61 spec61
theorem u2 : Sound Go.Proofs.Try.prog D2 := Sound.add follows ok u1 (by decide) (fun args h x e => by
  unfold spec61 at e
  split at e
  · split at e
    · split at e
      · rename_i b n _ xv hg hh
        simp only [Option.some.injEq] at e; subst e
        obtain ⟨N, rfl⟩ : ∃ N : Nat, n = N := ⟨n.toNat, by omega⟩
        exact c61_ok D1 y69 (fun _ _ => rfl) h b hg (by omega) (by omega)
      · cases e
    · cases e
  · cases e)
theorem y61 (h : Heap) (b : Nat) (n x : Int) (hb : h.get b = .cells 1 1 [G x]) (h1 : 1 ≤ n) (h2 : n ≤ 60) : D2 61 [.slice b 0 1 1, G n] h = some (.slice h.size 0 n.toNat n.toNat, [.cells 1 n.toNat (List.replicate n.toNat (G x))], false) := by
  simp [D2, addI, spec61, hb, h1, h2]
theorem knD2 : Kn D2 := ⟨f67, f68, f59, f52, f60, f54, f58, f57, f56, f25, f18, f20, f30, f29, f31, f24, f22, f28, f23, f55, f27, f55r⟩
noncomputable def D3 : CallF := addV D2 26 spec26
theorem u3 : Sound Go.Proofs.Try.prog D3 := Sound.addV follows ok u2 (by decide) (fun args v h => by
  unfold spec26 at h
  split at h
  · split at h
    · rename_i hh
      simp only [Option.some.injEq] at h; subst h; exact c26_ok D2 knD2 (fun _ _ => rfl) _ _ hh
    · cases h
  · cases h)
theorem knD3 : Kn D3 := ⟨f67, f68, f59, f52, f60, f54, f58, f57, f56, f25, f18, f20, f30, f29, f31, f24, f22, f28, f23, f55, f27, f55r⟩
noncomputable def D4 : CallF := addI D3 32 spec32
theorem u4 : Sound Go.Proofs.Try.prog D4 := Sound.add follows ok u3 (by decide) (fun args h x e => by
  unfold spec32 at e
  split at e
  · rename_i lot n c
    split at e
    · rename_i hh
      obtain ⟨⟨⟨a1, a2⟩, _⟩, ⟨b1, b2⟩, b3, b4⟩ := hh
      simp only [Option.some.injEq] at e; subst e
      obtain ⟨N, rfl⟩ : ∃ N : Nat, n = N := ⟨n.toNat, by omega⟩
      exact c32_good D3 knD3 y61 (fun _ _ => rfl) h a2 (by omega) b2 ⟨b3, by omega⟩
    · rename_i hh
      split at e
      · rename_i hlt
        simp only [Option.some.injEq] at e; subst e; exact c32_bad D3 knD3 (fun _ _ => rfl) h hlt hh
      · cases e
  · cases e)
theorem knD4 : Kn D4 := ⟨f67, f68, f59, f52, f60, f54, f58, f57, f56, f25, f18, f20, f30, f29, f31, f24, f22, f28, f23, f55, f27, f55r⟩
noncomputable def D5 : CallF := addI D4 62 spec62
theorem u5 : Sound Go.Proofs.Try.prog D5 := Sound.add follows ok u4 (by decide) (fun args h x e => by
  unfold spec62 at e
  split at e
  · split at e
    · rename_i h1 h2
      split at e
      · rename_i hl
        simp only [Option.some.injEq] at e; subst e; exact c62_ok D4 knD4 (fun _ _ => rfl) h _ _ h1 h2 hl
      · cases e
    · cases e
  · cases e)
theorem y62 : K62 D5 := fun h lot x y A R hx hy hl => by simp only [D5, addI, if_true, spec62, hx, hy, if_pos hl]
theorem knD5 : Kn D5 := ⟨f67, f68, f59, f52, f60, f54, f58, f57, f56, f25, f18, f20, f30, f29, f31, f24, f22, f28, f23, f55, f27, f55r⟩
noncomputable def D6 : CallF := addI D5 33 spec33
theorem u6 : Sound Go.Proofs.Try.prog D6 := Sound.add follows ok u5 (by decide) (fun args h x e => by
  unfold spec33 at e
  split at e
  · split at e
    · rename_i h1 h2
      simp only [Option.some.injEq] at e; subst e; exact c33_ok D5 knD5 y62 (fun _ _ => rfl) h _ _ h1 h2
    · cases e
  · cases e)
noncomputable def D7 : CallF := addI D6 63 spec63
theorem u7 : Sound Go.Proofs.Try.prog D7 := Sound.add follows ok u6 (by decide) (fun args h x e => by
  unfold spec63 at e
  split at e
  · simp only [Option.some.injEq] at e; subst e; exact c63_ok D6 (fun _ _ => rfl) h _ _ _ _ _
  · cases e)
theorem z62 : K62 D7 := y62
theorem y63 : K63 D7 := fun h tb lot bad x y => rfl
theorem knD7 : Kn D7 := ⟨f67, f68, f59, f52, f60, f54, f58, f57, f56, f25, f18, f20, f30, f29, f31, f24, f22, f28, f23, f55, f27, f55r⟩
noncomputable def D8 : CallF := addI D7 34 spec34
theorem u8 : Sound Go.Proofs.Try.prog D8 := Sound.add follows ok u7 (by decide) (fun args h x e => by
  unfold spec34 at e
  split at e
  · split at e
    · rename_i lot bad x y A R h1 h2
      split at e
      · rename_i hh
        simp only [Option.some.injEq] at e; subst e
        have hc := hh.2
        rcases listOf_some h1 with ⟨rfl, rfl⟩ | ⟨bA, vA, rfl, gA⟩
        · exact absurd hc.1.1 (by simp)
        · rcases listOf_some h2 with ⟨rfl, rfl⟩ | ⟨bR, vR, rfl, gR⟩
          · have := hc.1.1; have := hc.2.1; simp at this; omega
          · rw [hc.2.1]
            exact c34_good D7 knD7 z62 y63 (fun _ _ => rfl) (fun _ _ => rfl) h gA gR rfl hh.1 hc
      · rename_i hh
        simp only [Option.some.injEq] at e; subst e
        exact c34_bad D7 knD7 z62 (fun _ _ => rfl) h _ _ h1 h2 hh
    · cases e
  · cases e)

/-- What is known of the calls, of courses too. -/
structure KnC (J : CallF) : Prop extends Kn J where
  k26 : ∀ (h : Heap) (u v : Int) (hv : vOk u v), J 26 [.agg [G u, G v]] h = some (.bool true, [], false)
  k32 : ∀ (h : Heap) (lot n c : Int) (h0 : 1 ≤ n) (h1 : n ≤ lot) (h2 : lot ≤ 36) (h3 : 0 ≤ c) (h4 : c < n), J 32 [G lot, G n, G c] h = some (.tup [.agg [.slice (h.size + 5) 0 n.toNat n.toNat, .slice (h.size + 2) 0 n.toNat n.toNat], G 0], own32 h.size n.toNat c, false)
  k33 : ∀ (h : Heap) (lot : Int) (x y : AV) (A R : List Int) (hx : listOf h x = some A) (hy : listOf h y = some R) (hl : lotOk lot 0) (hc : crsOk lot A R), J 33 [G lot, .agg [x, y]] h = some (G 0, [], false)
  k33n : ∀ (h : Heap) (lot : Int) (x y : AV) (A R : List Int) (hx : listOf h x = some A) (hy : listOf h y = some R) (hc : ¬ (lotOk lot 0 ∧ crsOk lot A R)), J 33 [G lot, .agg [x, y]] h = some (G 2, [], false)
  k34 : ∀ (h : Heap) (lot bad : Int) (x y : AV) (A R : List Int) (hx : listOf h x = some A) (hy : listOf h y = some R) (hl : lotOk lot bad) (hc : crsOk lot A R), J 34 [G lot, G bad, .agg [x, y]] h = some (.tup [fr (yT lot bad (A.getD · 0) (R.getD · 0) A.length) (ofZ lot bad), fr (pT lot bad (A.getD · 0) (R.getD · 0) A.length) (ofZ lot bad), G 0], [], false)
  k34n : ∀ (h : Heap) (lot bad : Int) (x y : AV) (A R : List Int) (hx : listOf h x = some A) (hy : listOf h y = some R) (hc : ¬ (lotOk lot bad ∧ crsOk lot A R)), J 34 [G lot, G bad, .agg [x, y]] h = some (.tup [.agg [G 0, G 0], .agg [G 0, G 0], G 2], [], false)
theorem knD8 : Kn D8 := ⟨f67, f68, f59, f52, f60, f54, f58, f57, f56, f25, f18, f20, f30, f29, f31, f24, f22, f28, f23, f55, f27, f55r⟩
theorem y26 (h : Heap) (u v : Int) (hv : vOk u v) : D8 26 [.agg [G u, G v]] h = some (.bool true, [], false) := by
  have : D3 26 [.agg [G u, G v]] h = some (.bool true, [], false) := by simp [D3, AEv.addV, spec26, hv, AV.flats, AV.flat]
  exact this
theorem y32 (h : Heap) (lot n c : Int) (h0 : 1 ≤ n) (h1 : n ≤ lot) (h2 : lot ≤ 36) (h3 : 0 ≤ c) (h4 : c < n) : D8 32 [G lot, G n, G c] h = some (.tup [.agg [.slice (h.size + 5) 0 n.toNat n.toNat, .slice (h.size + 2) 0 n.toNat n.toNat], G 0], own32 h.size n.toNat c, false) := by
  have hh : lotOk lot 0 ∧ planOk lot n c := by unfold lotOk planOk; omega
  have : D4 32 [G lot, G n, G c] h = some (.tup [.agg [.slice (h.size + 5) 0 n.toNat n.toNat, .slice (h.size + 2) 0 n.toNat n.toNat], G 0], own32 h.size n.toNat c, false) := by
    simp only [D4, addI, if_true, spec32, if_pos hh]
  exact this
theorem y33 (h : Heap) (lot : Int) (x y : AV) (A R : List Int) (hx : listOf h x = some A) (hy : listOf h y = some R) (hl : lotOk lot 0) (hc : crsOk lot A R) : D8 33 [G lot, .agg [x, y]] h = some (G 0, [], false) := by
  have : D6 33 [G lot, .agg [x, y]] h = some (G 0, [], false) := by simp only [D6, addI, if_true, spec33, hx, hy, if_pos (⟨hl, hc⟩ : lotOk lot 0 ∧ crsOk lot A R)]
  exact this
theorem y33n (h : Heap) (lot : Int) (x y : AV) (A R : List Int) (hx : listOf h x = some A) (hy : listOf h y = some R) (hc : ¬ (lotOk lot 0 ∧ crsOk lot A R)) : D8 33 [G lot, .agg [x, y]] h = some (G 2, [], false) := by
  have : D6 33 [G lot, .agg [x, y]] h = some (G 2, [], false) := by simp only [D6, addI, if_true, spec33, hx, hy, if_neg hc]
  exact this
theorem y34 (h : Heap) (lot bad : Int) (x y : AV) (A R : List Int) (hx : listOf h x = some A) (hy : listOf h y = some R) (hl : lotOk lot bad) (hc : crsOk lot A R) : D8 34 [G lot, G bad, .agg [x, y]] h = some (.tup [fr (yT lot bad (A.getD · 0) (R.getD · 0) A.length) (ofZ lot bad), fr (pT lot bad (A.getD · 0) (R.getD · 0) A.length) (ofZ lot bad), G 0], [], false) := by
  simp only [D8, addI, if_true, spec34, hx, hy, if_pos (⟨hl, hc⟩ : lotOk lot bad ∧ crsOk lot A R)]
theorem y34n (h : Heap) (lot bad : Int) (x y : AV) (A R : List Int) (hx : listOf h x = some A) (hy : listOf h y = some R) (hc : ¬ (lotOk lot bad ∧ crsOk lot A R)) : D8 34 [G lot, G bad, .agg [x, y]] h = some (.tup [.agg [G 0, G 0], .agg [G 0, G 0], G 2], [], false) := by
  simp only [D8, addI, if_true, spec34, hx, hy, if_neg hc]
theorem knC8 : KnC D8 := ⟨knD8, y26, y32, y33, y33n, y34, y34n⟩

end Go.Proofs.Ytlkgpcfhpeilhaa.Ev
