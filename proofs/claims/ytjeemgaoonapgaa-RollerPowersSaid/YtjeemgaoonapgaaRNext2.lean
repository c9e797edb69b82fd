/-
  What Next and the reference's Next answer. No condition.
-/
import Derived.Test.YtjeemgaoonapgaaRNext
set_option linter.unusedVariables false
set_option linter.unusedSimpArgs false
namespace Go.Proofs.Ytjeemgaoonapgaa.Ev
open Go Go.AEv

attribute [local simp] evFunc initS evOps_c evTrim_c evSkip_c evExit_c evRet_c evSeq_c evCond_c evBlock_c evDraw_c runOps_n runOps_c exec_n exec_g pure1_c act AOpd.ev T.get T.set T.put evBin evUn forceT_eq forceV_eq forceL_eq evRess evRes one keep runFP_n runFP_c app_none AV.flats AV.flat came_some List.getElem?_cons_zero List.getElem?_cons_succ beqT wrapI idxI tdivI tmodI decT decF ibT ibF inT inF evScope_c if_pos if_neg Cm_some thenW_n thenW_e thenW_r blkW_n blkW_e blkW_r goI kn putAt AV.cells fillA loadA takeA mk Eff.isAll Eff.isNone Eff.commutes Eff.spares okPair apart eqAgg fits LK.fits allEq aveq eqk mmA

/-! ### A list of ints that grows, newer than H0 -/
structure NG (H0 h : Heap) (x : AV) (L : List Int) : Prop where
  k : Kp (fun _ => False) H0 h
  x0 : ∀ q, blk x = some q → H0.size ≤ q
  l : LV h x (gs L)
theorem NG.nil (H0 : Heap) : NG H0 H0 .nils [] := ⟨Kp.refl _, fun _ e => (by cases e), LV.nil _⟩
theorem NG.list {H0 h : Heap} {x : AV} {L : List Int} (t : NG H0 h x L) : listOf h x = some L := by
  rcases t.l with ⟨rfl, e⟩ | ⟨b, rfl, g, n⟩
  · have : L = [] := by simpa using e
    subst this; rfl
  · simp only [List.length_map] at g ⊢
    exact listOf_cells g rfl
theorem NG.kp {H0 h h' : Heap} {x : AV} {L : List Int} (t : NG H0 h x L) (k : Kp (fun _ => False) h h') : NG H0 h' x L := ⟨t.k.trans k, t.x0, t.l.kp k (fun _ _ => id)⟩
theorem NG.app {H0 h : Heap} (h0 : Nat) {x : AV} {L : List Int} (t : NG H0 h x L) (z : Int) (hn : L.length ≤ 1000000) :
    ∃ x1 e h2, appA (h.plus [.cells 1 1 [G z]]) h0 none 1 8 1 [G z] x = some (x1, e) ∧ Eff.app e (h.plus [.cells 1 1 [G z]]) = some h2 ∧ NG H0 h2 x1 (L ++ [z]) ∧ AV.cells x1 = some [x1] := by
  have k1 : Kp (fun _ => False) h (h.plus [.cells 1 1 [G z]]) := Kp.plus _ _
  obtain ⟨x1, e, h2, q1, q2, q3, q4, q5, q6⟩ := app_v (h.plus [.cells 1 1 [G z]]) h0 8 (G z) (t.l.kp k1 (fun _ _ => id)) (by simp; omega)
  have hsz : (h.plus [.cells 1 1 [G z]]).size = h.size + 1 := by rw [plus_size]; rfl
  refine ⟨x1, e, h2, q1, q2, ⟨(t.k.trans k1).late q4 t.x0, fun q hq => ?_, by simpa using q3⟩, q6⟩
  rcases q5 with h' | ⟨_, h'⟩
  · rw [h'] at hq; exact t.x0 q hq
  · rw [h'] at hq; cases hq; have := t.k.size; omega
theorem NG.fr {h h' : Heap} {x : AV} {L : List Int} (t : NG (frameOf h) h' x L) : NG h (h.plus h'.own) x L := by
  have e := Kp.own t.k
  have hg : ∀ b, h'.get b = (h.plus h'.own).get b := fun b => by rw [e]; exact fr_get h _ b
  refine ⟨Kp.plus _ _, t.x0, ?_⟩
  rcases t.l with l | ⟨b, rfl, g, n⟩
  · exact .inl l
  · have hb : h.size ≤ b := t.x0 b rfl
    exact .inr ⟨b, rfl, (hg b).symm.trans g, by rw [plus_N]; unfold Heap.size at hb; omega⟩
theorem NG.fr0 {h h' : Heap} {x : AV} {L : List Int} (t : NG (frameOf h) h' x L) : NG h (h.plus (if (one [x]).flat then [] else h'.own)) x L := by
  split
  · rename_i hf
    rcases t.l with ⟨rfl, e⟩ | ⟨b, rfl, g, n⟩
    · have : L = [] := by simpa using e
      subst this
      have : h.plus [] = h := by simp [Heap.plus]
      rw [this]; exact NG.nil h
    · simp [one, AV.flat, AV.flats] at hf
  · exact t.fr

/-- The lists that a matrix can be applied to. -/
def vOk (lo : Int) (M : List (List Int)) (X : List Int) : Prop := isMat M = true ∧ X.length = M.length ∧ allIn lo 100000000 X = true

def Good58 (args : List AV) (h : Heap) (v : AV) (own : List AObj) : Prop := ∀ M x X, args = [.agg (matC M), x] → LR h x X → vOk 0 M X → v = .slice (h.size + 1) 0 M.length M.length ∧ own = [.cells 0 65 (matC M), .cells 1 M.length (gs (nxtL M X))]
noncomputable def R17 : CallF := addX tbl R16 58 Good58
theorem s17 : Sound Go.Proofs.Try.prog R17 := Sound.addX follows ok s16 (by decide) Good58
/-! ### Next -/
section
variable {M : List (List Int)} {X : List Int} {x y : AV}
end
def Good19 (args : List AV) (h : Heap) (v : AV) (own : List AObj) : Prop := ∀ y x M X, args = [y, x] → MR h y M → LR h x X → (vOk 0 M X → ∃ w, v = .tup [w, G 0] ∧ NG h (h.plus own) w (nxtL M X)) ∧ (¬ vOk 0 M X → v = .tup [.nils, G 2] ∧ own = [])
noncomputable def R18 : CallF := addX tbl R17 19 Good19
theorem s18 : Sound Go.Proofs.Try.prog R18 := Sound.addX follows ok s17 (by decide) Good19
/-! ### The reference's Next -/
section
variable {M : List (List Int)} {X : List Int} {n : Nat}
end
def Good25 (args : List AV) (h : Heap) (v : AV) (own : List AObj) : Prop := ∀ y x M X, args = [y, x] → MR h y M → LR h x X → vOk 0 M X → NG h (h.plus own) v (nxtL M X)
noncomputable def R19 : CallF := addX tbl R18 25 Good25
theorem s19 : Sound Go.Proofs.Try.prog R19 := Sound.addX follows ok s18 (by decide) Good25
end Go.Proofs.Ytjeemgaoonapgaa.Ev
