/-
  Lists of lists of any cells, that grow; the rows of a matrix. No condition.
-/
import Derived.Test.YtjeemgaoonapgaaRWlk
set_option linter.unusedVariables false
set_option linter.unusedSimpArgs false
namespace Go.Proofs.Ytjeemgaoonapgaa.Ev
open Go Go.AEv

/-- A list of lists that grows, all of it newer than H0: the cells of each row. -/
structure TB (H0 h : Heap) (x : AV) (M : List (List AV)) : Prop where
  k : Kp (fun _ => False) H0 h
  x0 : ∀ q, blk x = some q → H0.size ≤ q
  r : ∃ rs, LV h x rs ∧ rs.length = M.length ∧ ∀ (i : Nat) r, rs[i]? = some r → ∃ cs b, M[i]? = some cs ∧ r = .slice b 0 cs.length cs.length ∧ h.get b = .cells 1 cs.length cs ∧ blk x ≠ some b ∧ H0.size ≤ b
theorem TB.nil (H0 : Heap) : TB H0 H0 .nils [] := ⟨Kp.refl _, fun _ e => (by cases e), [], LV.nil _, rfl, fun i r e => by simp at e⟩
theorem TB.kp {H0 h h' : Heap} {x : AV} {M : List (List AV)} (t : TB H0 h x M) (k : Kp (fun _ => False) h h') : TB H0 h' x M := by
  obtain ⟨cs, l, hl, hr⟩ := t.r
  refine ⟨t.k.trans k, t.x0, cs, l.kp k (fun _ _ => id), hl, fun i r e => ?_⟩
  obtain ⟨l, b, h1, h2, h3, h4⟩ := hr i r e
  exact ⟨l, b, h1, h2, k.at h3 (by simp) id, h4⟩
/-- One row more. -/
theorem TB.app {H0 h : Heap} (h0 : Nat) {x : AV} {M : List (List AV)} {b : Nat} {cs : List AV} (t : TB H0 h x M) (hv : h.get b = .cells 1 cs.length cs) (hb : blk x ≠ some b ∧ H0.size ≤ b) (hn : M.length ≤ 1000000) :
    ∃ x1 e h2, appA (h.plus [.cells 1 1 [.slice b 0 cs.length cs.length]]) h0 none 1 24 1 [.slice b 0 cs.length cs.length] x = some (x1, e) ∧ Eff.app e (h.plus [.cells 1 1 [.slice b 0 cs.length cs.length]]) = some h2 ∧ TB H0 h2 x1 (M ++ [cs]) ∧ AV.cells x1 = some [x1] := by
  obtain ⟨rs, lv, hl, hr⟩ := t.r
  generalize hvv : AV.slice b 0 cs.length cs.length = v
  have k1 : Kp (fun _ => False) h (h.plus [.cells 1 1 [v]]) := Kp.plus _ _
  obtain ⟨x1, e, h2, q1, q2, q3, q4, q5, q6⟩ := app_v (h.plus [.cells 1 1 [v]]) h0 24 v (lv.kp k1 (fun _ _ => id)) (by omega)
  have hsz : (h.plus [.cells 1 1 [v]]).size = h.size + 1 := by rw [plus_size]; rfl
  have hx1 : ∀ q, q < h.size → blk x ≠ some q → blk x1 ≠ some q := fun q hq hne hx1 => by
    rcases q5 with h' | ⟨_, h'⟩
    · rw [h'] at hx1; exact hne hx1
    · rw [h'] at hx1; cases hx1; omega
  have hsz2 := q4.size
  refine ⟨x1, e, h2, q1, q2, ⟨(t.k.trans k1).late q4 t.x0, fun q hq => ?_, rs ++ [v], q3, by simp [hl], fun i r hi => ?_⟩, q6⟩
  · rcases q5 with h' | ⟨_, h'⟩
    · rw [h'] at hq; exact t.x0 q hq
    · rw [h'] at hq; cases hq; have := t.k.size; omega
  · by_cases hi' : i < rs.length
    · rw [List.getElem?_append_left hi'] at hi
      obtain ⟨l', b', h1, h2', h3, h4, h5⟩ := hr i r hi
      have hlt := get_lt h3 (by simp)
      exact ⟨l', b', by rw [List.getElem?_append_left (by omega)]; exact h1, h2', q4.at (k1.at h3 (by simp) id) (by simp) (fun q => h4 q), hx1 b' hlt h4, h5⟩
    · rw [List.getElem?_append_right (by omega)] at hi
      have hi0 : i - rs.length = 0 := by
        rcases Nat.eq_zero_or_pos (i - rs.length) with e | e
        · exact e
        · rw [List.getElem?_eq_none (by simp; omega)] at hi; cases hi
      rw [hi0] at hi
      simp only [List.getElem?_cons_zero, Option.some.injEq] at hi
      subst hi
      exact ⟨cs, b, by rw [List.getElem?_append_right (by omega), ← hl, hi0]; rfl, hvv.symm, q4.at (k1.at hv (by simp) id) (by simp) (fun q => hb.1 q), hx1 b (get_lt hv (by simp)) hb.1, hb.2⟩
theorem TB.sl {H0 h : Heap} {x : AV} {M : List (List AV)} (t : TB H0 h x M) {i : Nat} (hi : i < M.length) : ∃ q rs, x = .slice q 0 M.length M.length ∧ h.get q = .cells 1 M.length rs ∧ rs.length = M.length ∧ ∀ (i : Nat) cs, M[i]? = some cs → ∃ b, rs[i]? = some (.slice b 0 cs.length cs.length) ∧ h.get b = .cells 1 cs.length cs := by
  obtain ⟨rs, lv, hl, hr⟩ := t.r
  obtain ⟨q, e1, e2⟩ := lv.sl (by intro e; rw [e] at hl; simp at hl; omega)
  rw [hl] at e1 e2
  refine ⟨q, rs, e1, e2, hl, fun i cs hc => ?_⟩
  have hi : i < rs.length := by have := (List.getElem?_eq_some_iff.1 hc).1; omega
  obtain ⟨cs', b, h1, h2, h3, _⟩ := hr i rs[i] (List.getElem?_eq_getElem hi)
  rw [hc] at h1
  cases h1
  exact ⟨b, by rw [List.getElem?_eq_getElem hi, h2], h3⟩
theorem TB.fr {h h' : Heap} {x : AV} {M : List (List AV)} (t : TB (frameOf h) h' x M) : TB h (h.plus h'.own) x M := by
  have e := Kp.own t.k
  obtain ⟨cs, l, hl, hr⟩ := t.r
  have hg : ∀ b, h'.get b = (h.plus h'.own).get b := fun b => by rw [e]; exact fr_get h _ b
  refine ⟨Kp.plus _ _, t.x0, cs, ?_, hl, fun i r hi => ?_⟩
  · rcases l with l | ⟨b, rfl, g, n⟩
    · exact .inl l
    · have hb : h.size ≤ b := t.x0 b rfl
      exact .inr ⟨b, rfl, (hg b).symm.trans g, by rw [plus_N]; unfold Heap.size at hb; omega⟩
  · obtain ⟨l, b, h1, h2, h3, h4, h5⟩ := hr i r hi
    exact ⟨l, b, h1, h2, (hg b).symm.trans h3, h4, h5⟩

/-- The rows of a matrix. -/
structure MX (h : Heap) (M : List (List Int)) (b v : Nat) (cs : List AV) : Prop where
  g : h.get b = .cells 1 v cs
  l : cs.length = M.length
  r : ∀ i, i < M.length → ∃ rb rv, cs[i]? = some (.slice rb 0 M.length rv) ∧ h.get rb = .cells 1 rv (gs (M.getD i []))
theorem MX.kp {h h' : Heap} {M : List (List Int)} {b v : Nat} {cs : List AV} (m : MX h M b v cs) (k : Kp (fun _ => False) h h') : MX h' M b v cs :=
  ⟨k.at m.g (by simp) id, m.l, fun i hi => by obtain ⟨rb, rv, e1, e2⟩ := m.r i hi; exact ⟨rb, rv, e1, k.at e2 (by simp) id⟩⟩
theorem row_at {M : List (List Int)} (hm : isMat M = true) {i j : Nat} (hi : i < M.length) (hj : j < M.length) : (gs (M.getD i []))[j]? = some (G (ent M i j)) := by
  unfold ent
  have := (isMat_row hm hi).1
  rw [lf_of (M.getD i []), gl_at _ (by omega), lf_getD _ (by omega)]
theorem MR.mx {h : Heap} {y : AV} {M : List (List Int)} (m : MR h y M) (hm : isMat M = true) : ∃ b v cs, y = .slice b 0 M.length v ∧ MX h M b v cs := by
  have h8 := isMat_n hm
  rcases m with ⟨_, e⟩ | ⟨b, v, cs, rfl, g, hl, hr⟩
  · rw [e] at h8; simp at h8
  · refine ⟨b, v, cs, rfl, g, hl, fun i hi => ?_⟩
    obtain ⟨l, e1, e2⟩ := hr i cs[i] (List.getElem?_eq_getElem (by omega))
    have e3 : M.getD i [] = l := by rw [List.getD_eq_getElem?_getD, e1]; rfl
    have e4 := (isMat_row hm hi).1
    rw [e3] at e4
    rcases e2.cases with ⟨_, e⟩ | ⟨_, e⟩ | ⟨rb, rv, e, g'⟩
    · rw [e] at e4; simp at e4; omega
    · rw [e] at e4; simp at e4; omega
    · exact ⟨rb, rv, by rw [List.getElem?_eq_getElem (by omega), e, e4], by rw [e3]; exact g'⟩

end Go.Proofs.Ytjeemgaoonapgaa.Ev
