/-
  Of the functions that this law reaches, part 1: what they answer. No condition.
-/
import Derived.Test.YtjeemgaoonapgaaRP0
set_option linter.unusedVariables false
set_option linter.unusedSimpArgs false
namespace Go.Proofs.Ytjeemgaoonapgaa.Ev
open Go Go.AEv
attribute [local simp] evFunc initS evOps_c evTrim_c evSkip_c evExit_c evRet_c evSeq_c evCond_c evBlock_c evDraw_c runOps_n runOps_c exec_n exec_g pure1_c act AOpd.ev T.get T.set T.put evBin evUn forceT_eq forceV_eq forceL_eq evRess evRes one keep runFP_n runFP_c app_none AV.flats AV.flat came_some List.getElem?_cons_zero List.getElem?_cons_succ beqT wrapI idxI tdivI tmodI decT decF ibT ibF inT inF evScope_c if_pos if_neg Cm_some thenW_n thenW_e thenW_r blkW_n blkW_e blkW_r goI kn putAt AV.cells fillA loadA takeA mk Eff.isAll Eff.isNone Eff.commutes Eff.spares okPair apart eqAgg fits LK.fits allEq aveq eqk mmA
section
variable {M : List (List Int)}
end
structure AM where
  M : List (List Int)
  y : AV
def PreM (a : AM) (args : List AV) (h : Heap) : Prop := MR h a.y a.M ∧ args = [a.y]
def Post34 (a : AM) (h : Heap) (v : AV) (own : List AObj) : Prop := v = (if isMat a.M then (if exB a.M then .tup [G (exN a.M), G 0] else .tup [G 0, G 6]) else .tup [G 0, G 2]) ∧ own = []
noncomputable def T10 : CallF := addK tbl T9 34 PreM Post34
theorem t10 : Sound Go.Proofs.Try.prog T10 := Sound.addK follows ok t9 (by decide) _ _
def PreO (a : AM) (args : List AV) (h : Heap) : Prop := (MR h a.y a.M ∧ isMat a.M = true) ∧ args = [a.y]
def Post44 (a : AM) (h : Heap) (v : AV) (own : List AObj) : Prop := v = (if exB a.M then .tup [G (exN a.M), .bool true] else .tup [G 0, .bool false]) ∧ own = []
noncomputable def T11 : CallF := addK tbl T10 44 PreO Post44
theorem t11 : Sound Go.Proofs.Try.prog T11 := Sound.addK follows ok t10 (by decide) _ _
end Go.Proofs.Ytjeemgaoonapgaa.Ev
set_option linter.unusedVariables false
set_option linter.unusedSimpArgs false
namespace Go.Proofs.Ytjeemgaoonapgaa.Ev
open Go Go.AEv
attribute [local simp] evFunc initS evOps_c evTrim_c evSkip_c evExit_c evRet_c evSeq_c evCond_c evBlock_c evDraw_c runOps_n runOps_c exec_n exec_g pure1_c act AOpd.ev T.get T.set T.put evBin evUn forceT_eq forceV_eq forceL_eq evRess evRes one keep runFP_n runFP_c app_none AV.flats AV.flat came_some List.getElem?_cons_zero List.getElem?_cons_succ beqT wrapI idxI tdivI tmodI decT decF ibT ibF inT inF evScope_c if_pos if_neg Cm_some thenW_n thenW_e thenW_r blkW_n blkW_e blkW_r goI kn putAt AV.cells fillA loadA takeA mk Eff.isAll Eff.isNone Eff.commutes Eff.spares okPair apart eqAgg fits LK.fits allEq aveq eqk mmA
def onF (i x : Nat) : Int := if x / 8 = x % 8 ∧ x / 8 < i then 1 else 0
section
variable {M : List (List Int)}
abbrev mostP : Int := 1152921504606846976
def dt (M : List (List Int)) (X : Nat → Int) (i j : Nat) : Nat → Int
  | 0 => 0
  | k + 1 => dt M X i j k + X (i * 8 + k) * ent M k j
def prF (M : List (List Int)) (X : Nat → Int) (x : Nat) : Int := if x / 8 < M.length then dt M X (x / 8) (x % 8) M.length else 0
def entS (M : List (List Int)) (x : Nat) : Int := ent M (x / 8) (x % 8)
end
end Go.Proofs.Ytjeemgaoonapgaa.Ev
set_option linter.unusedVariables false
set_option linter.unusedSimpArgs false
namespace Go.Proofs.Ytjeemgaoonapgaa.Ev
open Go Go.AEv
attribute [local simp] evFunc initS evOps_c evTrim_c evSkip_c evExit_c evRet_c evSeq_c evCond_c evBlock_c evDraw_c runOps_n runOps_c exec_n exec_g pure1_c act AOpd.ev T.get T.set T.put evBin evUn forceT_eq forceV_eq forceL_eq evRess evRes one keep runFP_n runFP_c app_none AV.flats AV.flat came_some List.getElem?_cons_zero List.getElem?_cons_succ beqT wrapI idxI tdivI tmodI decT decF ibT ibF inT inF evScope_c if_pos if_neg Cm_some thenW_n thenW_e thenW_r blkW_n blkW_e blkW_r goI kn putAt AV.cells fillA loadA takeA mk Eff.isAll Eff.isNone Eff.commutes Eff.spares okPair apart eqAgg fits LK.fits allEq aveq eqk mmA
section
variable {M : List (List Int)}
def rwOk (M : List (List Int)) (X : Nat → Int) (i j : Nat) : Prop := ∀ j', j ≤ j' → j' < M.length → dt M X i j' M.length ≤ mostP
def prOk (M : List (List Int)) (X : Nat → Int) (i : Nat) : Prop := ∀ i', i ≤ i' → i' < M.length → rwOk M X i' 0
open Classical in
end
end Go.Proofs.Ytjeemgaoonapgaa.Ev
set_option linter.unusedVariables false
set_option linter.unusedSimpArgs false
namespace Go.Proofs.Ytjeemgaoonapgaa.Ev
open Go Go.AEv
attribute [local simp] evFunc initS evOps_c evTrim_c evSkip_c evExit_c evRet_c evSeq_c evCond_c evBlock_c evDraw_c runOps_n runOps_c exec_n exec_g pure1_c act AOpd.ev T.get T.set T.put evBin evUn forceT_eq forceV_eq forceL_eq evRess evRes one keep runFP_n runFP_c app_none AV.flats AV.flat came_some List.getElem?_cons_zero List.getElem?_cons_succ beqT wrapI idxI tdivI tmodI decT decF ibT ibF inT inF evScope_c if_pos if_neg Cm_some thenW_n thenW_e thenW_r blkW_n blkW_e blkW_r goI kn putAt AV.cells fillA loadA takeA mk Eff.isAll Eff.isNone Eff.commutes Eff.spares okPair apart eqAgg fits LK.fits allEq aveq eqk mmA
structure A79 where
  b : Nat
  o : Nat
  n : Nat
  v : Nat
  g : Nat
  cs : List AV
def Ok79 (a : A79) (h : Heap) : Prop := h.get a.b = .cells a.g a.v a.cs ∧ ((a.cs.drop a.o).take a.n).length = a.n ∧ 0 < a.n ∧ a.n ≤ 1000
def Pre79 (a : A79) (args : List AV) (h : Heap) : Prop := Ok79 a h ∧ args = [.slice a.b a.o a.n a.v]
def Post79 (a : A79) (h : Heap) (v : AV) (own : List AObj) : Prop := v = .slice h.size 0 a.n a.n ∧ own = [.cells 1 a.n ((a.cs.drop a.o).take a.n)]
noncomputable def T12 : CallF := addK tbl T11 79 Pre79 Post79
theorem t12 : Sound Go.Proofs.Try.prog T12 := Sound.addK follows ok t11 (by decide) _ _
def rwL (X : Nat → Int) (n i : Nat) : List Int := lf (fun j => X (i * 8 + j)) n
section
variable {M : List (List Int)}
theorem TB.fr0 {h h' : Heap} {x : AV} {L : List (List AV)} (t : TB (frameOf h) h' x L) : TB h (h.plus (if (one [x]).flat then [] else h'.own)) x L := by
  split
  · rename_i hf
    obtain ⟨rs, lv, hl, hr⟩ := t.r
    rcases lv with ⟨rfl, rfl⟩ | ⟨b, rfl, g, n⟩
    · have : L = [] := List.length_eq_zero_iff.1 hl.symm
      subst this
      have : h.plus [] = h := by simp [Heap.plus]
      rw [this]; exact TB.nil h
    · simp [one, AV.flat, AV.flats] at hf
  · exact t.fr
theorem TB.up {h : Heap} {X : List AObj} {H' : Heap} {w : AV} {L : List (List AV)} (t : TB ⟨h.get, h.size, X⟩ H' w L) : TB (frameOf h) H' w L := by
  obtain ⟨rs, lv, hl, hr⟩ := t.r
  have ks := (Kp.plus (M := fun _ => False) (frameOf h) X).size
  exact ⟨(Kp.plus (frameOf h) X).trans t.k, fun q hq => Nat.le_trans ks (t.x0 q hq), rs, lv, hl, fun i r hi => by
    obtain ⟨cs, b, h1, h2, h3, h4, h5⟩ := hr i r hi
    exact ⟨cs, b, h1, h2, h3, h4, Nat.le_trans ks h5⟩⟩
end
end Go.Proofs.Ytjeemgaoonapgaa.Ev
set_option linter.unusedVariables false
set_option linter.unusedSimpArgs false
namespace Go.Proofs.Ytjeemgaoonapgaa.Ev
open Go Go.AEv
attribute [local simp] evFunc initS evOps_c evTrim_c evSkip_c evExit_c evRet_c evSeq_c evCond_c evBlock_c evDraw_c runOps_n runOps_c exec_n exec_g pure1_c act AOpd.ev T.get T.set T.put evBin evUn forceT_eq forceV_eq forceL_eq evRess evRes one keep runFP_n runFP_c app_none AV.flats AV.flat came_some List.getElem?_cons_zero List.getElem?_cons_succ beqT wrapI idxI tdivI tmodI decT decF ibT ibF inT inF evScope_c if_pos if_neg Cm_some thenW_n thenW_e thenW_r blkW_n blkW_e blkW_r goI kn putAt AV.cells fillA loadA takeA mk Eff.isAll Eff.isNone Eff.commutes Eff.spares okPair apart eqAgg fits LK.fits allEq aveq eqk mmA
def Pre72 (M : List (List Int)) (args : List AV) (h : Heap) : Prop := isMat M = true ∧ args = [.agg (matC M)]
def Post72 (M : List (List Int)) (h : Heap) (v : AV) (own : List AObj) : Prop := v = .agg (sq (onF M.length)) ∧ own = []
noncomputable def T13 : CallF := addK tbl T12 72 Pre72 Post72
theorem t13 : Sound Go.Proofs.Try.prog T13 := Sound.addK follows ok t12 (by decide) _ _
structure A73 where
  M : List (List Int)
  X : Nat → Int
def Ok73 (a : A73) : Prop := isMat a.M = true ∧ ∀ x, 0 ≤ a.X x ∧ a.X x ≤ mostP
open Classical in
noncomputable def v73 (a : A73) : AV := if prOk a.M a.X 0 then .tup [.agg (sq (prF a.M a.X)), .bool true] else .tup [.agg (sq fun _ => 0), .bool false]
def Pre73 (a : A73) (args : List AV) (h : Heap) : Prop := Ok73 a ∧ args = [.agg (matC a.M), .agg (sq a.X), .agg (sq (entS a.M))]
def Post73 (a : A73) (h : Heap) (v : AV) (own : List AObj) : Prop := v = v73 a ∧ own = []
noncomputable def T14 : CallF := addK tbl T13 73 Pre73 Post73
theorem t14 : Sound Go.Proofs.Try.prog T14 := Sound.addK follows ok t13 (by decide) _ _
def Pre74 (a : A73) (args : List AV) (h : Heap) : Prop := isMat a.M = true ∧ args = [.agg (matC a.M), .agg (sq a.X)]
def Post74 (a : A73) (h : Heap) (v : AV) (own : List AObj) : Prop := TB h (h.plus own) v ((List.range a.M.length).map fun i => gs (rwL a.X a.M.length i))
noncomputable def T15 : CallF := addK tbl T14 74 Pre74 Post74
theorem t15 : Sound Go.Proofs.Try.prog T15 := Sound.addK follows ok t14 (by decide) _ _
section
variable {M : List (List Int)} {y : AV}
def pwX (M : List (List Int)) : Nat → Nat → Int
  | 0 => onF M.length
  | k + 1 => prF M (pwX M k)
def okP (M : List (List Int)) (k : Nat) : Prop := ∀ m, m < k → prOk M (pwX M m) 0
def pwL (M : List (List Int)) (k : Nat) : List (List Int) := (List.range M.length).map fun i => rwL (pwX M k) M.length i
end
end Go.Proofs.Ytjeemgaoonapgaa.Ev
set_option linter.unusedVariables false
set_option linter.unusedSimpArgs false
namespace Go.Proofs.Ytjeemgaoonapgaa.Ev
open Go Go.AEv
attribute [local simp] evFunc initS evOps_c evTrim_c evSkip_c evExit_c evRet_c evSeq_c evCond_c evBlock_c evDraw_c runOps_n runOps_c exec_n exec_g pure1_c act AOpd.ev T.get T.set T.put evBin evUn forceT_eq forceV_eq forceL_eq evRess evRes one keep runFP_n runFP_c app_none AV.flats AV.flat came_some List.getElem?_cons_zero List.getElem?_cons_succ beqT wrapI idxI tdivI tmodI decT decF ibT ibF inT inF evScope_c if_pos if_neg Cm_some thenW_n thenW_e thenW_r blkW_n blkW_e blkW_r goI kn putAt AV.cells fillA loadA takeA mk Eff.isAll Eff.isNone Eff.commutes Eff.spares okPair apart eqAgg fits LK.fits allEq aveq eqk mmA
section
variable {M : List (List Int)}
structure E46 (M : List (List Int)) (X : Nat → Int) (H : Heap) (b v q0 : Nat) (cs rs : List AV) : Prop where
  mx : MX H M b v cs
  gq : H.get q0 = .cells 1 M.length rs
  r : ∀ i, i < M.length → ∃ b2, rs[i]? = some (.slice b2 0 M.length M.length) ∧ H.get b2 = .cells 1 M.length (gs (rwL X M.length i))
theorem E46.kp {X : Nat → Int} {H H' : Heap} {b v q0 : Nat} {cs rs : List AV} (e : E46 M X H b v q0 cs rs) (k : Kp (fun _ => False) H H') : E46 M X H' b v q0 cs rs :=
  ⟨e.mx.kp k, k.at e.gq (by simp) id, fun i hi => by obtain ⟨b2, x, y⟩ := e.r i hi; exact ⟨b2, x, k.at y (by simp) id⟩⟩
end
end Go.Proofs.Ytjeemgaoonapgaa.Ev
set_option linter.unusedVariables false
set_option linter.unusedSimpArgs false
namespace Go.Proofs.Ytjeemgaoonapgaa.Ev
open Go Go.AEv
attribute [local simp] evFunc initS evOps_c evTrim_c evSkip_c evExit_c evRet_c evSeq_c evCond_c evBlock_c evDraw_c runOps_n runOps_c exec_n exec_g pure1_c act AOpd.ev T.get T.set T.put evBin evUn forceT_eq forceV_eq forceL_eq evRess evRes one keep runFP_n runFP_c app_none AV.flats AV.flat came_some List.getElem?_cons_zero List.getElem?_cons_succ beqT wrapI idxI tdivI tmodI decT decF ibT ibF inT inF evScope_c if_pos if_neg Cm_some thenW_n thenW_e thenW_r blkW_n blkW_e blkW_r goI kn putAt AV.cells fillA loadA takeA mk Eff.isAll Eff.isNone Eff.commutes Eff.spares okPair apart eqAgg fits LK.fits allEq aveq eqk mmA
theorem TB.base {H0 H1 H : Heap} {x : AV} {L : List (List AV)} (k : Kp (fun _ => False) H0 H1) (t : TB H1 H x L) : TB H0 H x L := by
  obtain ⟨rs, lv, hl, hr⟩ := t.r
  exact ⟨k.trans t.k, fun q hq => Nat.le_trans k.size (t.x0 q hq), rs, lv, hl, fun i r hi => by
    obtain ⟨cs, b, h1, h2, h3, h4, h5⟩ := hr i r hi
    exact ⟨cs, b, h1, h2, h3, h4, Nat.le_trans k.size h5⟩⟩
section
variable {M : List (List Int)}
theorem pwL_len (k : Nat) : ((pwL M k).map gs).length = M.length := by simp [pwL]
theorem pwL_at (k : Nat) {i : Nat} (hi : i < M.length) : ((pwL M k).map gs)[i]? = some (gs (rwL (pwX M k) M.length i)) := by simp [pwL, hi]
end
structure A43 where
  M : List (List Int)
  y : AV
  k : Int
def pkOk (a : A43) : Prop := isMat a.M = true ∧ 0 ≤ a.k ∧ a.k ≤ 100
def Pre43 (a : A43) (args : List AV) (h : Heap) : Prop := MR h a.y a.M ∧ args = [a.y, G a.k]
def Post43 (a : A43) (h : Heap) (v : AV) (own : List AObj) : Prop := (¬ pkOk a → v = .tup [.nils, G 2] ∧ own = []) ∧ (pkOk a → ¬ okP a.M a.k.toNat → v = .tup [.nils, G 5] ∧ own = []) ∧ (pkOk a → okP a.M a.k.toNat → ∃ w, v = .tup [w, G 0] ∧ TB h (h.plus own) w ((pwL a.M a.k.toNat).map gs))
noncomputable def T16 : CallF := addK tbl T15 43 Pre43 Post43
theorem t16 : Sound Go.Proofs.Try.prog T16 := Sound.addK follows ok t15 (by decide) _ _
structure A46 where
  M : List (List Int)
  y : AV
  k : Nat
def Ok46 (a : A46) (h : Heap) : Prop := MR h a.y a.M ∧ isMat a.M = true ∧ a.k ≤ 100
def Pre46 (a : A46) (args : List AV) (h : Heap) : Prop := Ok46 a h ∧ args = [a.y, G a.k]
def Post46 (a : A46) (h : Heap) (v : AV) (own : List AObj) : Prop := (¬ okP a.M a.k → v = .tup [.nils, .bool false] ∧ own = []) ∧ (okP a.M a.k → ∃ w, v = .tup [w, .bool true] ∧ TB h (h.plus own) w ((pwL a.M a.k).map gs))
noncomputable def T17 : CallF := addK tbl T16 46 Pre46 Post46
theorem t17 : Sound Go.Proofs.Try.prog T17 := Sound.addK follows ok t16 (by decide) _ _
end Go.Proofs.Ytjeemgaoonapgaa.Ev
set_option linter.unusedVariables false
set_option linter.unusedSimpArgs false
namespace Go.Proofs.Ytjeemgaoonapgaa.Ev
open Go Go.AEv
attribute [local simp] evFunc initS evOps_c evTrim_c evSkip_c evExit_c evRet_c evSeq_c evCond_c evBlock_c evDraw_c runOps_n runOps_c exec_n exec_g pure1_c act AOpd.ev T.get T.set T.put evBin evUn forceT_eq forceV_eq forceL_eq evRess evRes one keep runFP_n runFP_c app_none AV.flats AV.flat came_some List.getElem?_cons_zero List.getElem?_cons_succ beqT wrapI idxI tdivI tmodI decT decF ibT ibF inT inF evScope_c if_pos if_neg Cm_some thenW_n thenW_e thenW_r blkW_n blkW_e blkW_r goI kn putAt AV.cells fillA loadA takeA mk Eff.isAll Eff.isNone Eff.commutes Eff.spares okPair apart eqAgg fits LK.fits allEq aveq eqk mmA
section
variable {M : List (List Int)}
def sm (f : Nat → Int) : Nat → Int
  | 0 => 0
  | k + 1 => sm f k + f k
end
structure TT (H : Heap) (n : Nat) (X : Nat → Int) (q : Nat) (rs : List AV) : Prop where
  g : H.get q = .cells 1 n rs
  r : ∀ i, i < n → ∃ b, rs[i]? = some (.slice b 0 n n) ∧ H.get b = .cells 1 n (gs (rwL X n i))
theorem TT.kp {H H' : Heap} {n : Nat} {X : Nat → Int} {q : Nat} {rs : List AV} (t : TT H n X q rs) (k : Kp (fun _ => False) H H') : TT H' n X q rs :=
  ⟨k.at t.g (by simp) id, fun i hi => by obtain ⟨b, e1, e2⟩ := t.r i hi; exact ⟨b, e1, k.at e2 (by simp) id⟩⟩
theorem TB.tt {H0 H : Heap} {x : AV} {M : List (List Int)} {k : Nat} (hm : isMat M = true) (tb : TB H0 H x ((pwL M k).map gs)) : ∃ q rs, x = .slice q 0 M.length M.length ∧ TT H M.length (pwX M k) q rs := by
  have h8 := isMat_n hm
  obtain ⟨q0, rs, e, gq, lq, hr⟩ := tb.sl (i := 0) (by rw [pwL_len]; omega)
  rw [pwL_len] at e gq
  refine ⟨q0, rs, e, gq, fun i hi => ?_⟩
  obtain ⟨b2, e1, e2⟩ := hr i _ (pwL_at k hi)
  have lr : (gs (rwL (pwX M k) M.length i)).length = M.length := by simp [rwL, lf_len]
  rw [lr] at e1 e2
  exact ⟨b2, e1, e2⟩
section
variable {n : Nat} {A B C : Nat → Int} {qa qb qc : Nat} {ra rb rc : List AV} {H : Heap}
end
end Go.Proofs.Ytjeemgaoonapgaa.Ev
set_option linter.unusedVariables false
set_option linter.unusedSimpArgs false
namespace Go.Proofs.Ytjeemgaoonapgaa.Ev
open Go Go.AEv
attribute [local simp] evFunc initS evOps_c evTrim_c evSkip_c evExit_c evRet_c evSeq_c evCond_c evBlock_c evDraw_c runOps_n runOps_c exec_n exec_g pure1_c act AOpd.ev T.get T.set T.put evBin evUn forceT_eq forceV_eq forceL_eq evRess evRes one keep runFP_n runFP_c app_none AV.flats AV.flat came_some List.getElem?_cons_zero List.getElem?_cons_succ beqT wrapI idxI tdivI tmodI decT decF ibT ibF inT inF evScope_c if_pos if_neg Cm_some thenW_n thenW_e thenW_r blkW_n blkW_e blkW_r goI kn putAt AV.cells fillA loadA takeA mk Eff.isAll Eff.isNone Eff.commutes Eff.spares okPair apart eqAgg fits LK.fits allEq aveq eqk mmA
abbrev w6 (x : Int) : Int := IntKind.i64.wrap x
section
variable {M : List (List Int)}
def sP (M : List (List Int)) (X : Nat → Int) (i j h : Nat) : Int := sm (fun h => ent M i h * X (h * 8 + j)) h
def fuC (M : List (List Int)) (X : Nat → Int) (c : Int) (i j : Nat) : Int := if j < M.length then (if i = j then w6 (w6 (sP M X i j M.length) + c) else w6 (sP M X i j M.length)) else 0
def nxX (M : List (List Int)) (X : Nat → Int) (c : Int) (x : Nat) : Int := if x / 8 < M.length then fuC M X c (x / 8) (x % 8) else 0
def tI (M : List (List Int)) (X : Nat → Int) (i h : Nat) : Int := sm (fun h => ent M i h * X (h * 8 + i)) h
def tJ (M : List (List Int)) (X : Nat → Int) (i : Nat) : Int := sm (fun i => tI M X i M.length) i
def cf (k : Nat) (T : Int) : Int := w6 ((w6 (0 - w6 T)).tdiv k)
def pQ (M : List (List Int)) : Nat → (Nat → Int) × (Nat → Int)
  | 0 => (fun _ => 0, fun t => if t = M.length then 1 else 0)
  | k + 1 => (nxX M (pQ M k).1 ((pQ M k).2 (M.length - k)), fun t => if t = M.length - (k + 1) then cf (k + 1) (tJ M (nxX M (pQ M k).1 ((pQ M k).2 (M.length - k))) M.length) else (pQ M k).2 t)
def pyL (M : List (List Int)) : List Int := lf (pQ M M.length).2 (M.length + 1)
end
end Go.Proofs.Ytjeemgaoonapgaa.Ev
set_option linter.unusedVariables false
set_option linter.unusedSimpArgs false
namespace Go.Proofs.Ytjeemgaoonapgaa.Ev
open Go Go.AEv
attribute [local simp] evFunc initS evOps_c evTrim_c evSkip_c evExit_c evRet_c evSeq_c evCond_c evBlock_c evDraw_c runOps_n runOps_c exec_n exec_g pure1_c act AOpd.ev T.get T.set T.put evBin evUn forceT_eq forceV_eq forceL_eq evRess evRes one keep runFP_n runFP_c app_none AV.flats AV.flat came_some List.getElem?_cons_zero List.getElem?_cons_succ beqT wrapI idxI tdivI tmodI decT decF ibT ibF inT inF evScope_c if_pos if_neg Cm_some thenW_n thenW_e thenW_r blkW_n blkW_e blkW_r goI kn putAt AV.cells fillA loadA takeA mk Eff.isAll Eff.isNone Eff.commutes Eff.spares okPair apart eqAgg fits LK.fits allEq aveq eqk mmA
section
variable {M : List (List Int)}
end
def Post33 (a : AM) (h : Heap) (v : AV) (own : List AObj) : Prop := (isMat a.M = false → v = .tup [.nils, G 2] ∧ own = []) ∧ (isMat a.M = true → ∃ w, v = .tup [w, G 0] ∧ NG h (h.plus own) w (pyL a.M))
noncomputable def T18 : CallF := addK tbl T17 33 PreM Post33
theorem t18 : Sound Go.Proofs.Try.prog T18 := Sound.addK follows ok t17 (by decide) _ _
end Go.Proofs.Ytjeemgaoonapgaa.Ev
set_option linter.unusedVariables false
set_option linter.unusedSimpArgs false
namespace Go.Proofs.Ytjeemgaoonapgaa.Ev
open Go Go.AEv
attribute [local simp] evFunc initS evOps_c evTrim_c evSkip_c evExit_c evRet_c evSeq_c evCond_c evBlock_c evDraw_c runOps_n runOps_c exec_n exec_g pure1_c act AOpd.ev T.get T.set T.put evBin evUn forceT_eq forceV_eq forceL_eq evRess evRes one keep runFP_n runFP_c app_none AV.flats AV.flat came_some List.getElem?_cons_zero List.getElem?_cons_succ beqT wrapI idxI tdivI tmodI decT decF ibT ibF inT inF evScope_c if_pos if_neg Cm_some thenW_n thenW_e thenW_r blkW_n blkW_e blkW_r goI kn putAt AV.cells fillA loadA takeA mk Eff.isAll Eff.isNone Eff.commutes Eff.spares okPair apart eqAgg fits LK.fits allEq aveq eqk mmA
structure TQ (H : Heap) (n : Nat) (X : Nat → Int) (q : Nat) (rs : List AV) (p : Nat) : Prop where
  g : H.get q = .cells 1 n rs
  q0 : p < q
  r : ∀ i, i < n → ∃ b, p < b ∧ rs[i]? = some (.slice b 0 n n) ∧ H.get b = .cells 1 n (gs (rwL X n i))
theorem TQ.upd {H : Heap} {n : Nat} {X : Nat → Int} {q : Nat} {rs : List AV} {p : Nat} (t : TQ H n X q rs p) (Y : AObj) (hN : H.N ≤ p) : TQ (H.upd p Y) n X q rs p :=
  ⟨by rw [upd_ne _ _ _ _ hN (by have := t.q0; omega)]; exact t.g, t.q0, fun i hi => by
    obtain ⟨b, e0, e1, e2⟩ := t.r i hi
    exact ⟨b, e0, e1, by rw [upd_ne _ _ _ _ hN (by omega)]; exact e2⟩⟩
section
variable {M : List (List Int)}
end
def Post45 (a : AM) (h : Heap) (v : AV) (own : List AObj) : Prop := NG h (h.plus own) v (pyL a.M)
noncomputable def T19 : CallF := addK tbl T18 45 PreO Post45
theorem t19 : Sound Go.Proofs.Try.prog T19 := Sound.addK follows ok t18 (by decide) _ _
end Go.Proofs.Ytjeemgaoonapgaa.Ev
set_option linter.unusedVariables false
set_option linter.unusedSimpArgs false
namespace Go.Proofs.Ytjeemgaoonapgaa.Ev
open Go Go.AEv
attribute [local simp] evFunc initS evOps_c evTrim_c evSkip_c evExit_c evRet_c evSeq_c evCond_c evBlock_c evDraw_c runOps_n runOps_c exec_n exec_g pure1_c act AOpd.ev T.get T.set T.put evBin evUn forceT_eq forceV_eq forceL_eq evRess evRes one keep runFP_n runFP_c app_none AV.flats AV.flat came_some List.getElem?_cons_zero List.getElem?_cons_succ beqT wrapI idxI tdivI tmodI decT decF ibT ibF inT inF evScope_c if_pos if_neg Cm_some thenW_n thenW_e thenW_r blkW_n blkW_e blkW_r goI kn putAt AV.cells fillA loadA takeA mk Eff.isAll Eff.isNone Eff.commutes Eff.spares okPair apart eqAgg fits LK.fits allEq aveq eqk mmA
def LT (h : Heap) (x : AV) (A : List (List Int)) : Prop := ∃ rs, ((x = .nils ∧ rs = []) ∨ ∃ b, x = .slice b 0 rs.length rs.length ∧ h.get b = .cells 1 rs.length rs) ∧ rs.length = A.length ∧ ∀ (i : Nat) r, rs[i]? = some r → ∃ l, A[i]? = some l ∧ listOf h r = some l
theorem TB.lt {H0 H : Heap} {x : AV} {N : List (List Int)} (t : TB H0 H x (N.map gs)) : LT H x N := by
  obtain ⟨rs, lv, hl, hr⟩ := t.r
  refine ⟨rs, ?_, by simpa using hl, fun i r hi => ?_⟩
  · rcases lv with l | ⟨b, e, g, _⟩
    · exact .inl l
    · exact .inr ⟨b, e, g⟩
  · obtain ⟨cs, b, h1, h2, h3, _⟩ := hr i r hi
    rw [List.getElem?_map] at h1
    cases hN : N[i]? with
    | none => rw [hN] at h1; cases h1
    | some l =>
      rw [hN] at h1
      simp only [Option.map_some, Option.some.injEq] at h1
      subst h1
      exact ⟨l, rfl, by rw [h2]; exact listOf_cells h3 (by simp)⟩
theorem TG.lt {H0 H : Heap} {x : AV} {N : List (List Int)} (t : TG H0 H x N) : LT H x N := by
  obtain ⟨rs, lv, hl, hr⟩ := t.r
  refine ⟨rs, ?_, hl, fun i r hi => ?_⟩
  · rcases lv with l | ⟨b, e, g, _⟩
    · exact .inl l
    · exact .inr ⟨b, e, g⟩
  · obtain ⟨l, h1, h2, _⟩ := hr i r hi
    exact ⟨l, h1, h2⟩
theorem LT.kp {h h' : Heap} {x : AV} {A : List (List Int)} (t : LT h x A) (k : Kp (fun _ => False) h h') : LT h' x A := by
  obtain ⟨rs, lv, hl, hr⟩ := t
  refine ⟨rs, ?_, hl, fun i r hi => ?_⟩
  · rcases lv with l | ⟨b, e, g⟩
    · exact .inl l
    · exact .inr ⟨b, e, k.at g (by simp) id⟩
  · obtain ⟨l, h1, h2⟩ := hr i r hi
    exact ⟨l, h1, listOf_kp k h2 (fun _ _ => id)⟩
theorem LT.lo {h : Heap} {x : AV} {A : List (List Int)} (t : LT h x A) (own : List AObj) : LT ⟨h.get, h.size, own⟩ x A := by
  obtain ⟨rs, lv, hl, hr⟩ := t
  refine ⟨rs, ?_, hl, fun i r hi => ?_⟩
  · rcases lv with l | ⟨b, e, g⟩
    · exact .inl l
    · exact .inr ⟨b, e, by rw [get_mk_lt _ _ _ _ (get_lt g (by simp))]; exact g⟩
  · obtain ⟨l, h1, h2⟩ := hr i r hi
    exact ⟨l, h1, listOf_at h2 own⟩
section
variable {A B : List (List Int)}
theorem c47_loop (J : CallF) (k24 : K24 J) {H : Heap} {bx bz : Nat} {rx rz : List AV} {n : Nat} (gx : H.get bx = .cells 1 n rx) (gz : H.get bz = .cells 1 n rz) (lx : rx.length = n) (lz : rz.length = n) (hn : n ≤ 1000000) (hA : A.length = n) (hB : B.length = n) (hs : ∀ l ∈ A, l.length ≤ 1000000)
    (hx : ∀ (i : Nat) r, rx[i]? = some r → ∃ l, A[i]? = some l ∧ listOf H r = some l) (hz : ∀ (i : Nat) r, rz[i]? = some r → ∃ l, B[i]? = some l ∧ listOf H r = some l) : ∀ d i, i + d = n →
    (A.drop i = B.drop i → Tr tbl J c47_l0 (fun s h => h = H ∧ s.get [] = .slice bx 0 n n ∧ s.get [false] = .slice bz 0 n n ∧ s.get [false, true] = G i) (.exit 0) (fun _ _ => True)) ∧
    (A.drop i ≠ B.drop i → Tr tbl J c47_l0 (fun s h => h = H ∧ s.get [] = .slice bx 0 n n ∧ s.get [false] = .slice bz 0 n n ∧ s.get [false, true] = G i) .ret (fun s h => s.get [true, false] = .bool false)) := by
  intro d
  induction d with
  | zero =>
    intro i hi
    obtain rfl : i = n := by omega
    refine ⟨fun _ => Tr.out ?_ (by simp), fun c => absurd (by rw [List.drop_of_length_le (by omega), List.drop_of_length_le (by omega)]) c⟩
    refine Tr.w fun s1 H1 hp R kR => W.trim ?_
    obtain ⟨rfl, q⟩ := hp
    refine W.assoc ?_
    refine W.seq (W.chunk ?_)
    simp (disch := first | omega | exact getEq rfl | exact getO0 | exact Nat.le_of_ble_eq_true rfl) [c47_o4, app_growP, app_noneP, plus_N, plus_at0, put_plus0, put_plus1, upd_N, upd_size, q]
    refine W.seq (W.chunk ?_)
    simp (disch := first | omega | exact getEq rfl | exact getO0 | exact Nat.le_of_ble_eq_true rfl) [app_growP, app_noneP, plus_N, plus_at0, put_plus0, put_plus1, upd_N, upd_size, q]
    exact kR _ _ trivial
  | succ d ih =>
    intro i hi
    obtain ⟨ih1, ih2⟩ := ih (i + 1) (by omega)
    have e1 : rx[i]? = some rx[i] := List.getElem?_eq_getElem (by omega)
    have e2 : rz[i]? = some rz[i] := List.getElem?_eq_getElem (by omega)
    obtain ⟨la, a1, a2⟩ := hx i _ e1
    obtain ⟨lb, b1, b2⟩ := hz i _ e2
    have k := k24 H _ _ la lb a2 b2 (hs la (List.mem_of_getElem? a1))
    have da : A.drop i = la :: A.drop (i + 1) := by rw [List.drop_eq_getElem_cons (by omega)]; congr 1; rw [List.getElem?_eq_getElem (by omega)] at a1; exact Option.some.inj a1
    have db : B.drop i = lb :: B.drop (i + 1) := by rw [List.drop_eq_getElem_cons (by omega)]; congr 1; rw [List.getElem?_eq_getElem (by omega)] at b1; exact Option.some.inj b1
    rw [da, db]
    generalize rx[i] = ra at *
    generalize rz[i] = rb at *
    have e1' := getI e1
    have e2' := getI e2
    clear hx hz ih
    by_cases c : la = lb
    · rw [decide_eq_true c] at k
      have step : Tr tbl J (.trim [[], [false], [false, true]] c47_b0) (fun s h => h = H ∧ s.get [] = .slice bx 0 n n ∧ s.get [false] = .slice bz 0 n n ∧ s.get [false, true] = G i) .normal (fun s h => h = H ∧ s.get [] = .slice bx 0 n n ∧ s.get [false] = .slice bz 0 n n ∧ s.get [false, true] = G ((i + 1 : Nat) : Int)) := by
        refine Tr.w fun s1 H1 hp R kR => W.trim ?_
        obtain ⟨rfl, q⟩ := hp
        refine W.assoc ?_
        refine W.seq (W.chunk ?_)
        simp (disch := first | omega | exact getEq rfl | exact getO0 | exact Nat.le_of_ble_eq_true rfl) [c47_o4, app_growP, app_noneP, plus_N, plus_at0, put_plus0, put_plus1, upd_N, upd_size, q]
        refine W.seq (W.chunk ?_)
        simp (disch := first | omega | exact getEq rfl | exact getO0 | exact Nat.le_of_ble_eq_true rfl) [app_growP, app_noneP, plus_N, plus_at0, put_plus0, put_plus1, upd_N, upd_size, q]
        refine W.seq (W.block ?_)
        refine W.seq (W.chunk ?_)
        simp (disch := first | omega | exact getEq rfl | exact getO0 | exact Nat.le_of_ble_eq_true rfl) [c47_o5, app_growP, app_noneP, plus_N, plus_at0, put_plus0, put_plus1, upd_N, upd_size, q, gx, gz, e1, e1', e2, e2', k, -evDraw_c, evDraw_0]
        refine W.chunk ?_
        simp (disch := first | omega | exact getEq rfl | exact getO0 | exact Nat.le_of_ble_eq_true rfl) [c47_o6, app_growP, app_noneP, plus_N, plus_at0, put_plus0, put_plus1, upd_N, upd_size, q]
        refine W.chunk ?_
        simp (disch := first | omega | exact getEq rfl | exact getO0 | exact Nat.le_of_ble_eq_true rfl) [c47_o7, app_growP, app_noneP, plus_N, plus_at0, put_plus0, put_plus1, upd_N, upd_size, q]
        exact kR _ _ (by simp [T.get, q])
      subst c
      exact ⟨fun q => Tr.next step (ih1 (List.cons.inj q).2), fun q => Tr.next step (ih2 fun r => q (by rw [r]))⟩
    · rw [decide_eq_false c] at k
      refine ⟨fun q => absurd (List.cons.inj q).1 c, fun _ => Tr.out ?_ (by simp)⟩
      refine Tr.w fun s1 H1 hp R kR => W.trim ?_
      obtain ⟨rfl, q⟩ := hp
      refine W.assoc ?_
      refine W.seq (W.chunk ?_)
      simp (disch := first | omega | exact getEq rfl | exact getO0 | exact Nat.le_of_ble_eq_true rfl) [c47_o4, app_growP, app_noneP, plus_N, plus_at0, put_plus0, put_plus1, upd_N, upd_size, q]
      refine W.seq (W.chunk ?_)
      simp (disch := first | omega | exact getEq rfl | exact getO0 | exact Nat.le_of_ble_eq_true rfl) [app_growP, app_noneP, plus_N, plus_at0, put_plus0, put_plus1, upd_N, upd_size, q]
      refine W.seq (W.block ?_)
      refine W.seq (W.chunk ?_)
      simp (disch := first | omega | exact getEq rfl | exact getO0 | exact Nat.le_of_ble_eq_true rfl) [c47_o5, app_growP, app_noneP, plus_N, plus_at0, put_plus0, put_plus1, upd_N, upd_size, q, gx, gz, e1, e1', e2, e2', k, -evDraw_c, evDraw_0]
      refine W.chunk ?_
      simp (disch := first | omega | exact getEq rfl | exact getO0 | exact Nat.le_of_ble_eq_true rfl) [c47_o6, app_growP, app_noneP, plus_N, plus_at0, put_plus0, put_plus1, upd_N, upd_size, q]
      exact kR _ _ (by simp [T.get, q])
theorem c47_l00 (J : CallF) {H : Heap} {y z : AV} (hy : y = .nils ∨ ∃ b, y = .slice b 0 0 0) : Tr tbl J c47_l0 (fun s h => h = H ∧ s.get [] = y ∧ s.get [false] = z ∧ s.get [false, true] = G 0) (.exit 0) (fun _ _ => True) := by
  refine Tr.out ?_ (by simp)
  rcases hy with rfl | ⟨b, rfl⟩
  all_goals
    refine Tr.w fun s1 H1 hp R kR => W.trim ?_
    obtain ⟨rfl, q⟩ := hp
    refine W.assoc ?_
    refine W.seq (W.chunk ?_)
    simp (disch := first | omega | exact getEq rfl | exact getO0 | exact Nat.le_of_ble_eq_true rfl) [c47_o4, app_growP, app_noneP, plus_N, plus_at0, put_plus0, put_plus1, upd_N, upd_size, q]
    refine W.seq (W.chunk ?_)
    simp (disch := first | omega | exact getEq rfl | exact getO0 | exact Nat.le_of_ble_eq_true rfl) [app_growP, app_noneP, plus_N, plus_at0, put_plus0, put_plus1, upd_N, upd_size, q]
    exact kR _ _ trivial
theorem c47_ok (J : CallF) (k24 : K24 J) (hJ : ∀ a h, J 47 a h = none) (h : Heap) {x z : AV} (hx : LT h x A) (hz : LT h z B) (hA : A.length ≤ 1000000) (hB : B.length ≤ 1000000) (hs : ∀ l ∈ A, l.length ≤ 1000000) : CallsTo tbl J 47 [x, z] h (.bool (decide (A = B)), [], false) := by
  refine Tr.fnv (cf := c47) (e := .ret) (s := T.set (T.set .leaf [] x) [false] z) (by decide) rfl (hJ _ _) rfl rfl rfl (by simp) ?_
  obtain ⟨rx, vx, lx, hxr⟩ := hx.lo []
  obtain ⟨rz, vz, lz, hzr⟩ := hz.lo []
  have fe : (⟨h.get, h.size, []⟩ : Heap) = frameOf h := rfl
  rw [fe] at vx vz hxr hzr
  refine Tr.w fun s1 H1 hp R kR => ?_
  obtain ⟨rfl, rfl⟩ := hp
  have q : True := trivial
  have fin : ∀ b : Bool, decide (A = B) = b → ∀ s h', s.get [true, false] = .bool b → R .ret s h' := fun b e s h' a => kR _ _ ⟨[.bool b], by simp [c47, evRess, evRes, a], by rw [e]; rfl⟩
  clear kR
  rw [lx] at vx
  rw [lz] at vz
  by_cases hl : A.length = B.length
  · by_cases h0 : A.length = 0
    · have hA0 : A = [] := List.length_eq_zero_iff.1 h0
      have hB0 : B = [] := List.length_eq_zero_iff.1 (by omega)
      subst hA0 hB0
      have fin := fin true rfl
      have sx : x = .nils ∨ ∃ b, x = .slice b 0 0 0 := by
        rcases vx with ⟨e, _⟩ | ⟨b, e, _⟩
        · exact .inl e
        · exact .inr ⟨b, e⟩
      have sz : z = .nils ∨ ∃ b, z = .slice b 0 0 0 := by
        rcases vz with ⟨e, _⟩ | ⟨b, e, _⟩
        · exact .inl e
        · exact .inr ⟨b, e⟩
      have l0 := c47_l00 (z := z) (H := frameOf h) J sx
      clear vx vz hxr hzr hx hz
      rcases sx with rfl | ⟨b, rfl⟩ <;> rcases sz with rfl | ⟨b', rfl⟩
      all_goals
        refine W.seq (W.chunk ?_)
        simp (disch := first | omega | exact getEq rfl | exact getO0 | exact Nat.le_of_ble_eq_true rfl) [c47_o0, app_growP, app_noneP, plus_N, plus_at0, put_plus0, put_plus1, upd_N, upd_size, q]
        refine W.assoc ?_
        refine W.seq (W.chunk ?_)
        simp (disch := first | omega | exact getEq rfl | exact getO0 | exact Nat.le_of_ble_eq_true rfl) [c47_o1, app_growP, app_noneP, plus_N, plus_at0, put_plus0, put_plus1, upd_N, upd_size, q]
        refine W.seq (W.chunk ?_)
        simp (disch := first | omega | exact getEq rfl | exact getO0 | exact Nat.le_of_ble_eq_true rfl) [c47_o2, app_growP, app_noneP, plus_N, plus_at0, put_plus0, put_plus1, upd_N, upd_size, q]
        refine W.assoc ?_
        refine W.seq (W.chunk ?_)
        simp (disch := first | omega | exact getEq rfl | exact getO0 | exact Nat.le_of_ble_eq_true rfl) [c47_o3, app_growP, app_noneP, plus_N, plus_at0, put_plus0, put_plus1, upd_N, upd_size, q]
        refine W.seq (W.block ?_)
        refine W.use (l0) (by simp (disch := first | omega | exact getEq rfl | exact getO0 | exact Nat.le_of_ble_eq_true rfl) [app_growP, app_noneP, plus_N, plus_at0, put_plus0, put_plus1, upd_N, upd_size, q]) fun s1 H1 hp => ?_
        try simp only [thenW_n, thenW_e, thenW_r, blkW_n, blkW_e, blkW_r, if_true]
        refine W.seq (W.chunk ?_)
        simp (disch := first | omega | exact getEq rfl | exact getO0 | exact Nat.le_of_ble_eq_true rfl) [c47_o8, app_growP, app_noneP, plus_N, plus_at0, put_plus0, put_plus1, upd_N, upd_size, q]
        refine W.ret ?_
        try simp only [thenW_n, thenW_e, thenW_r, blkW_n, blkW_e, blkW_r, if_true]
        exact fin _ _ (by simp [T.get])
    · rcases vx with ⟨rfl, e⟩ | ⟨bx, rfl, gx⟩
      · rw [e] at lx; simp at lx; omega
      rcases vz with ⟨rfl, e⟩ | ⟨bz, rfl, gz⟩
      · rw [e] at lz; simp at lz; omega
      rw [← hl] at lz gz ⊢
      obtain ⟨l1, l2⟩ := c47_loop (A := A) (B := B) J k24 gx gz lx lz hA rfl hl.symm hs hxr hzr A.length 0 (by omega)
      rw [List.drop_zero, List.drop_zero] at l1 l2
      clear hxr hzr hx hz hs
      generalize A.length = n at *
      by_cases c : A = B
      · have l1 := l1 c
        have fin := fin true (decide_eq_true c)
        refine W.seq (W.chunk ?_)
        simp (disch := first | omega | exact getEq rfl | exact getO0 | exact Nat.le_of_ble_eq_true rfl) [c47_o0, app_growP, app_noneP, plus_N, plus_at0, put_plus0, put_plus1, upd_N, upd_size, q]
        refine W.assoc ?_
        refine W.seq (W.chunk ?_)
        simp (disch := first | omega | exact getEq rfl | exact getO0 | exact Nat.le_of_ble_eq_true rfl) [c47_o1, app_growP, app_noneP, plus_N, plus_at0, put_plus0, put_plus1, upd_N, upd_size, q]
        refine W.seq (W.chunk ?_)
        simp (disch := first | omega | exact getEq rfl | exact getO0 | exact Nat.le_of_ble_eq_true rfl) [c47_o2, app_growP, app_noneP, plus_N, plus_at0, put_plus0, put_plus1, upd_N, upd_size, q]
        refine W.assoc ?_
        refine W.seq (W.chunk ?_)
        simp (disch := first | omega | exact getEq rfl | exact getO0 | exact Nat.le_of_ble_eq_true rfl) [c47_o3, app_growP, app_noneP, plus_N, plus_at0, put_plus0, put_plus1, upd_N, upd_size, q]
        refine W.seq (W.block ?_)
        refine W.use (l1) (by simp (disch := first | omega | exact getEq rfl | exact getO0 | exact Nat.le_of_ble_eq_true rfl) [app_growP, app_noneP, plus_N, plus_at0, put_plus0, put_plus1, upd_N, upd_size, q]) fun s1 H1 hp => ?_
        try simp only [thenW_n, thenW_e, thenW_r, blkW_n, blkW_e, blkW_r, if_true]
        refine W.seq (W.chunk ?_)
        simp (disch := first | omega | exact getEq rfl | exact getO0 | exact Nat.le_of_ble_eq_true rfl) [c47_o8, app_growP, app_noneP, plus_N, plus_at0, put_plus0, put_plus1, upd_N, upd_size, q]
        refine W.ret ?_
        try simp only [thenW_n, thenW_e, thenW_r, blkW_n, blkW_e, blkW_r, if_true]
        exact fin _ _ (by simp [T.get])
      · have l2 := l2 c
        have fin := fin false (decide_eq_false c)
        refine W.seq (W.chunk ?_)
        simp (disch := first | omega | exact getEq rfl | exact getO0 | exact Nat.le_of_ble_eq_true rfl) [c47_o0, app_growP, app_noneP, plus_N, plus_at0, put_plus0, put_plus1, upd_N, upd_size, q]
        refine W.assoc ?_
        refine W.seq (W.chunk ?_)
        simp (disch := first | omega | exact getEq rfl | exact getO0 | exact Nat.le_of_ble_eq_true rfl) [c47_o1, app_growP, app_noneP, plus_N, plus_at0, put_plus0, put_plus1, upd_N, upd_size, q]
        refine W.seq (W.chunk ?_)
        simp (disch := first | omega | exact getEq rfl | exact getO0 | exact Nat.le_of_ble_eq_true rfl) [c47_o2, app_growP, app_noneP, plus_N, plus_at0, put_plus0, put_plus1, upd_N, upd_size, q]
        refine W.assoc ?_
        refine W.seq (W.chunk ?_)
        simp (disch := first | omega | exact getEq rfl | exact getO0 | exact Nat.le_of_ble_eq_true rfl) [c47_o3, app_growP, app_noneP, plus_N, plus_at0, put_plus0, put_plus1, upd_N, upd_size, q]
        refine W.seq (W.block ?_)
        refine W.use (l2) (by simp (disch := first | omega | exact getEq rfl | exact getO0 | exact Nat.le_of_ble_eq_true rfl) [app_growP, app_noneP, plus_N, plus_at0, put_plus0, put_plus1, upd_N, upd_size, q]) fun s1 H1 hp => ?_
        try simp only [thenW_n, thenW_e, thenW_r, blkW_n, blkW_e, blkW_r, if_true]
        exact fin _ _ hp
  · have fin := fin false (decide_eq_false fun e => hl (by rw [e]))
    clear hxr hzr hx hz hs
    generalize A.length = n at *
    generalize B.length = m at *
    have sx : (x = .nils ∧ n = 0) ∨ ∃ b, x = .slice b 0 n n := by
      rcases vx with ⟨e, e2⟩ | ⟨b, e, _⟩
      · exact .inl ⟨e, by rw [← lx, e2]; rfl⟩
      · exact .inr ⟨b, e⟩
    have sz : (z = .nils ∧ m = 0) ∨ ∃ b, z = .slice b 0 m m := by
      rcases vz with ⟨e, e2⟩ | ⟨b, e, _⟩
      · exact .inl ⟨e, by rw [← lz, e2]; rfl⟩
      · exact .inr ⟨b, e⟩
    clear vx vz
    rcases sx with ⟨rfl, rfl⟩ | ⟨b, rfl⟩ <;> rcases sz with ⟨rfl, rfl⟩ | ⟨b', rfl⟩
    all_goals try (exfalso; omega)
    all_goals
      refine W.seq (W.chunk ?_)
      simp (disch := first | omega | exact getEq rfl | exact getO0 | exact Nat.le_of_ble_eq_true rfl) [c47_o0, app_growP, app_noneP, plus_N, plus_at0, put_plus0, put_plus1, upd_N, upd_size, q]
      refine W.assoc ?_
      refine W.seq (W.chunk ?_)
      simp (disch := first | omega | exact getEq rfl | exact getO0 | exact Nat.le_of_ble_eq_true rfl) [c47_o1, app_growP, app_noneP, plus_N, plus_at0, put_plus0, put_plus1, upd_N, upd_size, q]
      refine W.seq (W.chunk ?_)
      simp (disch := first | omega | exact getEq rfl | exact getO0 | exact Nat.le_of_ble_eq_true rfl) [c47_o2, app_growP, app_noneP, plus_N, plus_at0, put_plus0, put_plus1, upd_N, upd_size, q]
      exact fin _ _ (by simp [T.get])
end
structure A47 where
  A : List (List Int)
  B : List (List Int)
  x : AV
  z : AV
def Ok47 (a : A47) (h : Heap) : Prop := LT h a.x a.A ∧ LT h a.z a.B ∧ a.A.length ≤ 1000000 ∧ a.B.length ≤ 1000000 ∧ ∀ l ∈ a.A, l.length ≤ 1000000
def Pre47 (a : A47) (args : List AV) (h : Heap) : Prop := Ok47 a h ∧ args = [a.x, a.z]
def Post47 (a : A47) (h : Heap) (v : AV) (own : List AObj) : Prop := v = .bool (decide (a.A = a.B)) ∧ own = []
noncomputable def T20 : CallF := addK tbl T19 47 Pre47 Post47
theorem t20 : Sound Go.Proofs.Try.prog T20 := Sound.addK follows ok t19 (by decide) _ _
abbrev K47 (J : CallF) : Prop := ∀ (h : Heap) (a : A47), Ok47 a h → J 47 [a.x, a.z] h = some (.bool (decide (a.A = a.B)), [], false)
theorem k24_19 : K24 T19 := fun h x y a b hx hy hn => by
  simp (disch := decide) only [T19, T18, T17, T16, T15, T14, T13, T12, T11, T10, T9, T8, T7, T6, T5, T4, T3, T2, T1, addI_ne, addX_ne, addV_ne, addK_ne]
  exact k24_r h x y a b hx hy hn
theorem k47 : K47 T20 := fun h a ha => by
  obtain ⟨v, own, e, rfl, rfl⟩ := addK_some (tbl := tbl) (I := T19) (f := 47) (Pre := Pre47) (Post := Post47) (fun a args h hp => by
    obtain ⟨⟨h1, h2, h3, h4, h5⟩, rfl⟩ := hp
    exact ⟨_, _, c47_ok T19 k24_19 (fun _ _ => by simp (disch := decide) only [T19, T18, T17, T16, T15, T14, T13, T12, T11, T10, T9, T8, T7, T6, T5, T4, T3, T2, T1, R21, R20, R19, R18, R17, R16, R15, R14, R13, R12, R11, R10, R9, R8, R7, R6, R5, R4, R3, R2, R1, addI_ne, addX_ne, addV_ne, addK_ne]; rfl) h h1 h2 h3 h4 h5, rfl, rfl⟩) a _ h ⟨ha, rfl⟩
  exact e
end Go.Proofs.Ytjeemgaoonapgaa.Ev
set_option linter.unusedVariables false
set_option linter.unusedSimpArgs false
namespace Go.Proofs.Ytjeemgaoonapgaa.Ev
open Go Go.AEv
theorem pigeon : ∀ (n : Nat) (f : Nat → Nat), (∀ i, i ≤ n → f i < n) → ∃ i j, i < j ∧ j ≤ n ∧ f i = f j
  | 0, f, h => absurd (h 0 (Nat.le_refl _)) (by omega)
  | n + 1, f, h => by
    by_cases c : ∃ i, i ≤ n ∧ f i = f (n + 1)
    · obtain ⟨i, a, b⟩ := c
      exact ⟨i, n + 1, by omega, Nat.le_refl _, b⟩
    · have c' : ∀ i, i ≤ n → f i ≠ f (n + 1) := fun i a b => c ⟨i, a, b⟩
      obtain ⟨i, j, a1, a2, a3⟩ := pigeon n (fun i => if f i = n then f (n + 1) else f i) (fun i hi => by
        have h1 := h i (by omega)
        have h2 := h (n + 1) (Nat.le_refl _)
        have h3 := c' i hi
        by_cases e : f i = n
        · simp only [e, if_true]; omega
        · simp only [e, if_false]; omega)
      refine ⟨i, j, a1, by omega, ?_⟩
      have h3 := c' i (by omega)
      have h4 := c' j (by omega)
      by_cases e1 : f i = n
      · by_cases e2 : f j = n
        · omega
        · simp only [e1, e2, if_true, if_false] at a3; omega
      · by_cases e2 : f j = n
        · simp only [e1, e2, if_true, if_false] at a3; omega
        · simp only [e1, e2, if_false] at a3; exact a3
section
variable {M : List (List Int)}
theorem Wk.path : ∀ {k i j : Nat}, Wk M k i j → ∃ f : Nat → Nat, f 0 = i ∧ f k = j ∧ ∀ t, t < k → 0 < ent M (f t) (f (t + 1))
  | 0, i, j, h => ⟨fun _ => i, rfl, h, fun t ht => absurd ht (by omega)⟩
  | k + 1, i, j, ⟨v, e, w⟩ => by
    obtain ⟨f, f0, fk, fe⟩ := Wk.path w
    refine ⟨fun t => match t with | 0 => i | t + 1 => f t, rfl, fk, fun t ht => ?_⟩
    cases t with
    | zero => show 0 < ent M i (f 0); rw [f0]; exact e
    | succ t => exact fe t (by omega)
theorem path_wk {f : Nat → Nat} {k : Nat} (fe : ∀ t, t < k → 0 < ent M (f t) (f (t + 1))) : ∀ (d s : Nat), s + d ≤ k → Wk M d (f s) (f (s + d))
  | 0, s, _ => rfl
  | d + 1, s, h => by
    refine ⟨f (s + 1), fe s (by omega), ?_⟩
    have := path_wk fe d (s + 1) (by omega)
    rwa [show s + 1 + d = s + (d + 1) by omega] at this
theorem Wk.short (hm : isMat M = true) {i j : Nat} (hi : i < M.length) : ∀ {k : Nat}, Wk M k i j → ∃ k', k' < M.length ∧ k' ≤ k ∧ Wk M k' i j := by
  intro k
  induction k using Nat.strongRecOn with
  | _ k ih =>
    intro w
    by_cases c : k < M.length
    · exact ⟨k, c, Nat.le_refl _, w⟩
    · obtain ⟨f, f0, fk, fe⟩ := w.path
      have fb : ∀ t, t ≤ M.length → f t < M.length := fun t ht => by
        cases t with
        | zero => rw [f0]; exact hi
        | succ t => exact (ent_lt hm (fe t (by omega))).2
      obtain ⟨a, b, hab, hb, e⟩ := pigeon M.length f fb
      have w1 := path_wk fe a 0 (by omega)
      have w2 := path_wk fe (k - b) b (by omega)
      rw [Nat.zero_add, f0, e] at w1
      rw [show b + (k - b) = k by omega, fk] at w2
      obtain ⟨k', h1, h2, h3⟩ := ih (a + (k - b)) (by omega) (w1.add w2)
      exact ⟨k', h1, by omega, h3⟩
theorem Rc.short (hm : isMat M = true) {i j : Nat} (hi : i < M.length) (h : Rc M i j) : ∃ k, k < M.length ∧ Wk M k i j := by
  obtain ⟨k, w⟩ := h
  obtain ⟨k', a, _, b⟩ := w.short hm hi
  exact ⟨k', a, b⟩
end
end Go.Proofs.Ytjeemgaoonapgaa.Ev
set_option linter.unusedVariables false
set_option linter.unusedSimpArgs false
namespace Go.Proofs.Ytjeemgaoonapgaa.Ev
open Go Go.AEv
attribute [local simp] evFunc initS evOps_c evTrim_c evSkip_c evExit_c evRet_c evSeq_c evCond_c evBlock_c evDraw_c runOps_n runOps_c exec_n exec_g pure1_c act AOpd.ev T.get T.set T.put evBin evUn forceT_eq forceV_eq forceL_eq evRess evRes one keep runFP_n runFP_c app_none AV.flats AV.flat came_some List.getElem?_cons_zero List.getElem?_cons_succ beqT wrapI idxI tdivI tmodI decT decF ibT ibF inT inF evScope_c if_pos if_neg Cm_some thenW_n thenW_e thenW_r blkW_n blkW_e blkW_r goI kn putAt AV.cells fillA loadA takeA mk Eff.isAll Eff.isNone Eff.commutes Eff.spares okPair apart eqAgg fits LK.fits allEq aveq eqk mmA
section
variable {M : List (List Int)}
def Wl (M : List (List Int)) (t i x : Nat) : Prop := ∃ k, k ≤ t ∧ Wk M k i x
structure LI (M : List (List Int)) (i t x y : Nat) (r : Nat → Bool) : Prop where
  s : ∀ z, z < M.length → r z = true → Rc M i z
  c : ∀ z, Wl M t i z → z < M.length → r z = true
  cx : ∀ x', x' < x → Wl M t i x' → ∀ z, 0 < ent M x' z → r z = true
  cy : ∀ z, z < y → Wl M t i x → 0 < ent M x z → r z = true
theorem LI.step {i t x y : Nat} {r : Nat → Bool} (hx : x < M.length) (l : LI M i t x y r) : LI M i t x (y + 1) (fun z => if z = y then (r y || (r x && decide (0 < ent M x y))) else r z) := by
  have up : ∀ z, r z = true → (if z = y then (r y || (r x && decide (0 < ent M x y))) else r z) = true := fun z h => by
    by_cases e : z = y
    · rw [if_pos e, ← e, h, Bool.true_or]
    · rw [if_neg e]; exact h
  refine ⟨fun z hz h => ?_, fun z w hz => up z (l.c z w hz), fun x' a w z e => up z (l.cx x' a w z e), fun z hz w e => ?_⟩
  · by_cases e : z = y
    · rw [if_pos e] at h
      subst e
      rw [Bool.or_eq_true, Bool.and_eq_true, decide_eq_true_eq] at h
      rcases h with h | ⟨h1, h2⟩
      · exact l.s z hz h
      · exact (l.s x hx h1).trans (Rc.one h2)
    · rw [if_neg e] at h; exact l.s z hz h
  · by_cases e' : z = y
    · rw [if_pos e', Bool.or_eq_true]
      subst e'
      exact .inr (by rw [l.c x w hx, decide_eq_true e]; rfl)
    · exact up z (l.cy z (by omega) w e)
theorem LI.nextx (hm : isMat M = true) {i t x : Nat} {r : Nat → Bool} (l : LI M i t x M.length r) : LI M i t (x + 1) 0 r :=
  ⟨l.s, l.c, fun x' a w z e => by
    by_cases h : x' = x
    · subst h; exact l.cy z (ent_lt hm e).2 w e
    · exact l.cx x' (by omega) w z e, fun z hz => absurd hz (by omega)⟩
theorem LI.nextt (hm : isMat M = true) {i t : Nat} {r : Nat → Bool} (l : LI M i t M.length 0 r) : LI M i (t + 1) 0 0 r :=
  ⟨l.s, fun z ⟨k, hk, w⟩ hz => by
    by_cases e : k ≤ t
    · exact l.c z ⟨k, e, w⟩ hz
    · obtain rfl : k = t + 1 := by omega
      obtain ⟨v, w', e'⟩ := Wk.snoc.1 w
      exact l.cx v (ent_lt hm e').1 ⟨t, Nat.le_refl _, w'⟩ z e', fun x' a => absurd a (by omega), fun z hz => absurd hz (by omega)⟩
theorem LI.done (hm : isMat M = true) {i : Nat} (hi : i < M.length) {r : Nat → Bool} (l : LI M i M.length 0 0 r) {z : Nat} (hz : z < M.length) : r z = ldF M (i * 8 + z) := by
  apply Bool.eq_iff_iff.2
  rw [ldF_iff hm hi hz]
  constructor
  · exact l.s z hz
  · intro h
    obtain ⟨k, a, w⟩ := h.short hm hi
    exact l.c z ⟨k, by omega, w⟩ hz
theorem LI.init {i : Nat} (hi : i < M.length) : LI M i 0 0 0 (fun z => decide (z = i)) :=
  ⟨fun z hz h => by
    have : z = i := by simpa using h
    subst this; exact Rc.refl z, fun z ⟨k, hk, w⟩ hz => by
    obtain rfl : k = 0 := by omega
    have : i = z := w
    simp [this], fun x' a => absurd a (by omega), fun z hz => absurd hz (by omega)⟩
theorem n69_13 (J : CallF) (H1 H : Heap) {n i t x y b v rb rv : Nat} {cs cr c0 : List AV} {xo : AV} {a : Int} {d0 d2 : Bool} (hh : H1 = H.plus [.cells 1 n c0]) (gb : H.get b = .cells 1 v cs) (er : cs[x]? = some (.slice rb 0 n rv)) (gr : H.get rb = .cells 1 rv cr) (ea : cr[y]? = some (G a)) (l0 : c0.length = n) (e0 : c0[y]? = some (.bool d0)) (e2 : c0[x]? = some (.bool d2)) (hx : x < n) (hy : y < n) (h8 : n ≤ 8) :
    Tr tbl J c69_o13 (fun s h => h = H1 ∧ s.get [] = .slice b 0 n v ∧ s.get [false, false] = G n ∧ s.get [true, false] = xo ∧ s.get [false, true] = G i ∧ s.get [true, true] = .slice H.size 0 n n ∧ s.get [false, false, false] = G t ∧ s.get [true, false, false] = G x ∧ s.get [false, true, false] = G y) .normal (fun s h => h = H.plus [.cells 1 n (c0.set y (.bool (d0 || (d2 && decide (0 < a)))))] ∧ s.get [] = .slice b 0 n v ∧ s.get [false, false] = G n ∧ s.get [true, false] = xo ∧ s.get [false, true] = G i ∧ s.get [true, true] = .slice H.size 0 n n ∧ s.get [false, false, false] = G t ∧ s.get [true, false, false] = G x ∧ s.get [false, true, false] = G y) := by
  subst hh
  have er' := getI er
  have ea' := getI ea
  have e2' := getI e2
  have e0' := getI e0
  have gb' := fun c => plus_keep [c] gb (by simp)
  have gr' := fun c => plus_keep [c] gr (by simp)
  refine Tr.w fun s1 H1 hp R kR => ?_
  obtain ⟨rfl, q⟩ := hp
  by_cases ca : 0 < a <;> cases d0 <;> cases d2
  all_goals
    simp only [ca, decide_true, decide_false, Bool.false_or, Bool.true_or, Bool.true_and, Bool.false_and, Bool.and_false, Bool.and_true] at kR
    refine W.chunk ?_
    simp (disch := first | omega | exact getEq rfl | exact getO0 | exact Nat.le_of_ble_eq_true rfl) [c69_o13, app_growP, app_noneP, plus_N, plus_at0, put_plus0, put_plus1, upd_N, upd_size, q, gb', gr', l0, er, er', ea, ea', e0, e0', e2, e2']
    exact kR _ _ (by simp [T.get, q])
theorem c69_y (J : CallF) (hm : isMat M = true) {H : Heap} {b v i t x : Nat} {cs : List AV} {xo : AV} (mx : MX H M b v cs) (hx : x < M.length) :
    Tr tbl J c69_l0 (fun s h => ∃ r, LI M i t x 0 r ∧ h = H.plus [.cells 1 M.length (bls r M.length)] ∧ s.get [] = .slice b 0 M.length v ∧ s.get [false, false] = G M.length ∧ s.get [true, false] = xo ∧ s.get [false, true] = G i ∧ s.get [true, true] = .slice H.size 0 M.length M.length ∧ s.get [false, false, false] = G t ∧ s.get [true, false, false] = G x ∧ s.get [false, true, false] = G ((0 : Nat) : Int)) (.exit 6)
      (fun s h => ∃ r, LI M i t x M.length r ∧ h = H.plus [.cells 1 M.length (bls r M.length)] ∧ s.get [] = .slice b 0 M.length v ∧ s.get [false, false] = G M.length ∧ s.get [true, false] = xo ∧ s.get [false, true] = G i ∧ s.get [true, true] = .slice H.size 0 M.length M.length ∧ s.get [false, false, false] = G t ∧ s.get [true, false, false] = G x) := by
  have h8 := isMat_n hm
  refine Tr.rounds (P := fun y s h => ∃ r, LI M i t x y r ∧ h = H.plus [.cells 1 M.length (bls r M.length)] ∧ s.get [] = .slice b 0 M.length v ∧ s.get [false, false] = G M.length ∧ s.get [true, false] = xo ∧ s.get [false, true] = G i ∧ s.get [true, true] = .slice H.size 0 M.length M.length ∧ s.get [false, false, false] = G t ∧ s.get [true, false, false] = G x ∧ s.get [false, true, false] = G y) (M := M.length) (fun y hy => ?_) ?_ (by simp) 0 (by omega)
  · refine Tr.w fun s1 H1 hp R kR => W.trim ?_
    obtain ⟨r, li, rfl, q⟩ := hp
    obtain ⟨rb, rv, er, gr⟩ := mx.r x hx
    have tt := n69_13 (i := i) (t := t) (xo := xo) J (H.plus [.cells 1 M.length (bls r M.length)]) H rfl mx.g er gr (row_at hm hx hy) (bls_len _ _) (bls_getN r hy rfl) (bls_getN r hx rfl) hx hy h8.2
    rw [bls_set _ _ _ _ hy] at tt
    have li2 := li.step hx
    clear mx er gr
    generalize hr2 : (fun z => if z = y then (r y || (r x && decide (0 < ent M x y))) else r z) = r2 at *
    generalize hn : M.length = n at *
    refine W.assoc ?_
    refine W.seq (W.chunk ?_)
    simp (disch := first | omega | exact getEq rfl | exact getO0 | exact Nat.le_of_ble_eq_true rfl) [c69_o12, app_growP, app_noneP, plus_N, plus_at0, put_plus0, put_plus1, upd_N, upd_size, q]
    refine W.seq (W.chunk ?_)
    simp (disch := first | omega | exact getEq rfl | exact getO0 | exact Nat.le_of_ble_eq_true rfl) [app_growP, app_noneP, plus_N, plus_at0, put_plus0, put_plus1, upd_N, upd_size, q]
    refine W.seq (W.block ?_)
    refine W.use (tt) (by simp (disch := first | omega | exact getEq rfl | exact getO0 | exact Nat.le_of_ble_eq_true rfl) [app_growP, app_noneP, plus_N, plus_at0, put_plus0, put_plus1, upd_N, upd_size, q]) fun s1 H1 hp => ?_
    obtain ⟨rfl, q⟩ := hp
    try simp only [thenW_n, thenW_e, thenW_r, blkW_n, blkW_e, blkW_r, if_true]
    refine W.chunk ?_
    simp (disch := first | omega | exact getEq rfl | exact getO0 | exact Nat.le_of_ble_eq_true rfl) [c69_o14, app_growP, app_noneP, plus_N, plus_at0, put_plus0, put_plus1, upd_N, upd_size, q]
    exact kR _ _ ⟨r2, li2, by simp [T.get, q]⟩
  · refine Tr.w fun s1 H1 hp R kR => W.trim ?_
    obtain ⟨r, li, rfl, q⟩ := hp
    clear mx
    generalize hn : M.length = n at *
    refine W.assoc ?_
    refine W.seq (W.chunk ?_)
    simp (disch := first | omega | exact getEq rfl | exact getO0 | exact Nat.le_of_ble_eq_true rfl) [c69_o12, app_growP, app_noneP, plus_N, plus_at0, put_plus0, put_plus1, upd_N, upd_size, q]
    refine W.seq (W.chunk ?_)
    simp (disch := first | omega | exact getEq rfl | exact getO0 | exact Nat.le_of_ble_eq_true rfl) [app_growP, app_noneP, plus_N, plus_at0, put_plus0, put_plus1, upd_N, upd_size, q]
    exact kR _ _ ⟨r, li, by simp [T.get, q]⟩
theorem c69_x (J : CallF) (hm : isMat M = true) {H : Heap} {b v i t : Nat} {cs : List AV} {xo : AV} (mx : MX H M b v cs) :
    Tr tbl J c69_l1 (fun s h => ∃ r, LI M i t 0 0 r ∧ h = H.plus [.cells 1 M.length (bls r M.length)] ∧ s.get [] = .slice b 0 M.length v ∧ s.get [false, false] = G M.length ∧ s.get [true, false] = xo ∧ s.get [false, true] = G i ∧ s.get [true, true] = .slice H.size 0 M.length M.length ∧ s.get [false, false, false] = G t ∧ s.get [true, false, false] = G ((0 : Nat) : Int)) (.exit 4)
      (fun s h => ∃ r, LI M i t M.length 0 r ∧ h = H.plus [.cells 1 M.length (bls r M.length)] ∧ s.get [] = .slice b 0 M.length v ∧ s.get [false, false] = G M.length ∧ s.get [true, false] = xo ∧ s.get [false, true] = G i ∧ s.get [true, true] = .slice H.size 0 M.length M.length ∧ s.get [false, false, false] = G t) := by
  have h8 := isMat_n hm
  refine Tr.rounds (P := fun x s h => ∃ r, LI M i t x 0 r ∧ h = H.plus [.cells 1 M.length (bls r M.length)] ∧ s.get [] = .slice b 0 M.length v ∧ s.get [false, false] = G M.length ∧ s.get [true, false] = xo ∧ s.get [false, true] = G i ∧ s.get [true, true] = .slice H.size 0 M.length M.length ∧ s.get [false, false, false] = G t ∧ s.get [true, false, false] = G x) (M := M.length) (fun x hx => ?_) ?_ (by simp) 0 (by omega)
  · refine Tr.w fun s1 H1 hp R kR => W.trim ?_
    obtain ⟨r, li, rfl, q⟩ := hp
    have l0 := c69_y (i := i) (t := t) (xo := xo) J hm mx hx
    have ex : ∃ r', LI M i t x 0 r' ∧ H.plus [.cells 1 M.length (bls r M.length)] = H.plus [.cells 1 M.length (bls r' M.length)] := ⟨r, li, rfl⟩
    clear mx
    refine W.assoc ?_
    refine W.seq (W.chunk ?_)
    simp (disch := first | omega | exact getEq rfl | exact getO0 | exact Nat.le_of_ble_eq_true rfl) [c69_o10, app_growP, app_noneP, plus_N, plus_at0, put_plus0, put_plus1, upd_N, upd_size, q]
    refine W.seq (W.chunk ?_)
    simp (disch := first | omega | exact getEq rfl | exact getO0 | exact Nat.le_of_ble_eq_true rfl) [app_growP, app_noneP, plus_N, plus_at0, put_plus0, put_plus1, upd_N, upd_size, q]
    refine W.seq (W.block ?_)
    refine W.seq (W.chunk ?_)
    simp (disch := first | omega | exact getEq rfl | exact getO0 | exact Nat.le_of_ble_eq_true rfl) [c69_o11, app_growP, app_noneP, plus_N, plus_at0, put_plus0, put_plus1, upd_N, upd_size, q]
    refine W.block ?_
    refine W.use (l0) (by simp (disch := first | omega | exact getEq rfl | exact getO0 | exact Nat.le_of_ble_eq_true rfl) [app_growP, app_noneP, plus_N, plus_at0, put_plus0, put_plus1, upd_N, upd_size, q, ex]) fun s1 H1 hp => ?_
    obtain ⟨r2, li2, rfl, q⟩ := hp
    try simp only [thenW_n, thenW_e, thenW_r, blkW_n, blkW_e, blkW_r, if_true]
    refine W.chunk ?_
    simp (disch := first | omega | exact getEq rfl | exact getO0 | exact Nat.le_of_ble_eq_true rfl) [c69_o15, app_growP, app_noneP, plus_N, plus_at0, put_plus0, put_plus1, upd_N, upd_size, q]
    exact kR _ _ ⟨r2, li2.nextx hm, by simp [T.get, q]⟩
  · refine Tr.w fun s1 H1 hp R kR => W.trim ?_
    obtain ⟨r, li, rfl, q⟩ := hp
    clear mx
    refine W.assoc ?_
    refine W.seq (W.chunk ?_)
    simp (disch := first | omega | exact getEq rfl | exact getO0 | exact Nat.le_of_ble_eq_true rfl) [c69_o10, app_growP, app_noneP, plus_N, plus_at0, put_plus0, put_plus1, upd_N, upd_size, q]
    refine W.seq (W.chunk ?_)
    simp (disch := first | omega | exact getEq rfl | exact getO0 | exact Nat.le_of_ble_eq_true rfl) [app_growP, app_noneP, plus_N, plus_at0, put_plus0, put_plus1, upd_N, upd_size, q]
    exact kR _ _ ⟨r, li, by simp [T.get, q]⟩
theorem c69_t (J : CallF) (hm : isMat M = true) {H : Heap} {b v i : Nat} {cs : List AV} {xo : AV} (mx : MX H M b v cs) (hi : i < M.length) :
    Tr tbl J c69_l2 (fun s h => ∃ r, LI M i 0 0 0 r ∧ h = H.plus [.cells 1 M.length (bls r M.length)] ∧ s.get [] = .slice b 0 M.length v ∧ s.get [false, false] = G M.length ∧ s.get [true, false] = xo ∧ s.get [false, true] = G i ∧ s.get [true, true] = .slice H.size 0 M.length M.length ∧ s.get [false, false, false] = G ((0 : Nat) : Int)) (.exit 2)
      (fun s h => h = H.plus [.cells 1 M.length (bls (fun z => ldF M (i * 8 + z)) M.length)] ∧ s.get [] = .slice b 0 M.length v ∧ s.get [false, false] = G M.length ∧ s.get [true, false] = xo ∧ s.get [false, true] = G i ∧ s.get [true, true] = .slice H.size 0 M.length M.length) := by
  have h8 := isMat_n hm
  refine Tr.rounds (P := fun t s h => ∃ r, LI M i t 0 0 r ∧ h = H.plus [.cells 1 M.length (bls r M.length)] ∧ s.get [] = .slice b 0 M.length v ∧ s.get [false, false] = G M.length ∧ s.get [true, false] = xo ∧ s.get [false, true] = G i ∧ s.get [true, true] = .slice H.size 0 M.length M.length ∧ s.get [false, false, false] = G t) (M := M.length) (fun t ht => ?_) ?_ (by simp) 0 (by omega)
  · refine Tr.w fun s1 H1 hp R kR => W.trim ?_
    obtain ⟨r, li, rfl, q⟩ := hp
    have l1 := c69_x (i := i) (t := t) (xo := xo) J hm mx
    have ex : ∃ r', LI M i t 0 0 r' ∧ H.plus [.cells 1 M.length (bls r M.length)] = H.plus [.cells 1 M.length (bls r' M.length)] := ⟨r, li, rfl⟩
    clear mx
    refine W.assoc ?_
    refine W.seq (W.chunk ?_)
    simp (disch := first | omega | exact getEq rfl | exact getO0 | exact Nat.le_of_ble_eq_true rfl) [c69_o8, app_growP, app_noneP, plus_N, plus_at0, put_plus0, put_plus1, upd_N, upd_size, q]
    refine W.seq (W.chunk ?_)
    simp (disch := first | omega | exact getEq rfl | exact getO0 | exact Nat.le_of_ble_eq_true rfl) [app_growP, app_noneP, plus_N, plus_at0, put_plus0, put_plus1, upd_N, upd_size, q]
    refine W.seq (W.block ?_)
    refine W.seq (W.chunk ?_)
    simp (disch := first | omega | exact getEq rfl | exact getO0 | exact Nat.le_of_ble_eq_true rfl) [c69_o9, app_growP, app_noneP, plus_N, plus_at0, put_plus0, put_plus1, upd_N, upd_size, q]
    refine W.block ?_
    refine W.use (l1) (by simp (disch := first | omega | exact getEq rfl | exact getO0 | exact Nat.le_of_ble_eq_true rfl) [app_growP, app_noneP, plus_N, plus_at0, put_plus0, put_plus1, upd_N, upd_size, q, ex]) fun s1 H1 hp => ?_
    obtain ⟨r2, li2, rfl, q⟩ := hp
    try simp only [thenW_n, thenW_e, thenW_r, blkW_n, blkW_e, blkW_r, if_true]
    refine W.chunk ?_
    simp (disch := first | omega | exact getEq rfl | exact getO0 | exact Nat.le_of_ble_eq_true rfl) [c69_o16, app_growP, app_noneP, plus_N, plus_at0, put_plus0, put_plus1, upd_N, upd_size, q]
    exact kR _ _ ⟨r2, li2.nextt hm, by simp [T.get, q]⟩
  · refine Tr.w fun s1 H1 hp R kR => W.trim ?_
    obtain ⟨r, li, rfl, q⟩ := hp
    have e := bls_ext r (fun z => ldF M (i * 8 + z)) M.length fun z hz => li.done hm hi hz
    rw [e]
    clear mx
    generalize bls (fun z => ldF M (i * 8 + z)) M.length = c0 at *
    refine W.assoc ?_
    refine W.seq (W.chunk ?_)
    simp (disch := first | omega | exact getEq rfl | exact getO0 | exact Nat.le_of_ble_eq_true rfl) [c69_o8, app_growP, app_noneP, plus_N, plus_at0, put_plus0, put_plus1, upd_N, upd_size, q]
    refine W.seq (W.chunk ?_)
    simp (disch := first | omega | exact getEq rfl | exact getO0 | exact Nat.le_of_ble_eq_true rfl) [app_growP, app_noneP, plus_N, plus_at0, put_plus0, put_plus1, upd_N, upd_size, q]
    exact kR _ _ (by simp [T.get, q])
def ldR (M : List (List Int)) (i : Nat) : List (List AV) := (List.range i).map fun i => bls (fun z => ldF M (i * 8 + z)) M.length
theorem ldR_s (i : Nat) : ldR M (i + 1) = ldR M i ++ [bls (fun z => ldF M (i * 8 + z)) M.length] := by simp [ldR, List.range_succ]
theorem c69_i (J : CallF) (hm : isMat M = true) {H0 : Heap} {b v : Nat} {cs : List AV} (mx : MX H0 M b v cs) :
    Tr tbl J c69_l3 (fun s h => h = H0 ∧ s.get [] = .slice b 0 M.length v ∧ s.get [false, false] = G M.length ∧ s.get [true, false] = .nils ∧ s.get [false, true] = G ((0 : Nat) : Int)) (.exit 0) (fun s h => ∃ xo, TB H0 h xo (ldR M M.length) ∧ s.get [true, false] = xo) := by
  have h8 := isMat_n hm
  refine Tr.pre (P := fun s h => ∃ xo, TB H0 h xo (ldR M 0) ∧ s.get [] = .slice b 0 M.length v ∧ s.get [false, false] = G M.length ∧ s.get [true, false] = xo ∧ s.get [false, true] = G ((0 : Nat) : Int)) (fun s h q => ⟨.nils, by rw [q.1]; exact TB.nil H0, q.2⟩) ?_
  refine Tr.rounds (P := fun i s h => ∃ xo, TB H0 h xo (ldR M i) ∧ s.get [] = .slice b 0 M.length v ∧ s.get [false, false] = G M.length ∧ s.get [true, false] = xo ∧ s.get [false, true] = G i) (M := M.length) (fun i hi => ?_) ?_ (by simp) 0 (by omega)
  · refine Tr.w fun s1 H1 hp R kR => W.trim ?_
    obtain ⟨xo, tb, q⟩ := hp
    have l2 := c69_t (i := i) (xo := xo) J hm (mx.kp tb.k) hi
    have li := LI.init hi
    have es : (bls (fun _ => false) M.length).set i (.bool true) = bls (fun z => decide (z = i)) M.length := by
      rw [bls_set _ _ _ _ hi]
      apply bls_ext
      intro z hz
      by_cases e : z = i
      · rw [if_pos e, decide_eq_true e]
      · rw [if_neg e, decide_eq_false e]
    have ex : ∃ r', LI M i 0 0 0 r' ∧ H1.plus [.cells 1 M.length (bls (fun z => decide (z = i)) M.length)] = H1.plus [.cells 1 M.length (bls r' M.length)] := ⟨_, li, rfl⟩
    have mk1 := fun H => mkSl_ok H 1 (.bool false) M.length (M.length : Int) rfl (by omega)
    have rp := bls_rep M.length
    have lz := bls_len (fun _ => false) M.length
    have k1 : Kp (fun _ => False) H1 (H1.plus [.cells 1 M.length (bls (fun z => ldF M (i * 8 + z)) M.length)]) := Kp.plus _ _
    have lc := bls_len (fun z => ldF M (i * 8 + z)) M.length
    obtain ⟨x1, e, h2, q1, q2, tb2, _⟩ := (tb.kp k1).app (cs := bls (fun z => ldF M (i * 8 + z)) M.length) (b := H1.size) (H1.plus [.cells 1 M.length (bls (fun z => ldF M (i * 8 + z)) M.length)]).size (by rw [lc]; exact plus_at0 _ _ _ _ rfl) ⟨fun e => by
      obtain ⟨rs, lv, _⟩ := tb.r
      have := lv.lt e; omega, tb.k.size⟩ (by simp [ldR]; omega)
    rw [← ldR_s] at tb2
    rw [lc] at q1 q2
    have f1 := app1_at (H1.plus [.cells 1 M.length (bls (fun z => ldF M (i * 8 + z)) M.length)]) (.slice H1.size 0 M.length M.length)
    clear tb li mx
    generalize hcd : bls (fun z => decide (z = i)) M.length = cd at *
    generalize bls (fun z => ldF M (i * 8 + z)) M.length = c2 at *
    generalize bls (fun _ => false) M.length = cz at *
    refine W.assoc ?_
    refine W.seq (W.chunk ?_)
    simp (disch := first | omega | exact getEq rfl | exact getO0 | exact Nat.le_of_ble_eq_true rfl) [c69_o4, app_growP, app_noneP, plus_N, plus_at0, put_plus0, put_plus1, upd_N, upd_size, q]
    refine W.seq (W.chunk ?_)
    simp (disch := first | omega | exact getEq rfl | exact getO0 | exact Nat.le_of_ble_eq_true rfl) [app_growP, app_noneP, plus_N, plus_at0, put_plus0, put_plus1, upd_N, upd_size, q]
    refine W.seq (W.block ?_)
    refine W.seq (W.chunk ?_)
    simp (disch := first | omega | exact getEq rfl | exact getO0 | exact Nat.le_of_ble_eq_true rfl) [-act, c69_o5, app_growP, app_noneP, plus_N, plus_at0, put_plus0, put_plus1, upd_N, upd_size, q, act_move, act_mkSl, mk1, rp]
    refine W.seq (W.chunk ?_)
    simp (disch := first | omega | exact getEq rfl | exact getO0 | exact Nat.le_of_ble_eq_true rfl) [c69_o6, app_growP, app_noneP, plus_N, plus_at0, put_plus0, put_plus1, upd_N, upd_size, q, lz, es]
    refine W.assoc ?_
    refine W.seq (W.chunk ?_)
    simp (disch := first | omega | exact getEq rfl | exact getO0 | exact Nat.le_of_ble_eq_true rfl) [c69_o7, app_growP, app_noneP, plus_N, plus_at0, put_plus0, put_plus1, upd_N, upd_size, q]
    refine W.seq (W.block ?_)
    refine W.use (l2) (by simp (disch := first | omega | exact getEq rfl | exact getO0 | exact Nat.le_of_ble_eq_true rfl) [app_growP, app_noneP, plus_N, plus_at0, put_plus0, put_plus1, upd_N, upd_size, q, ex]) fun s1 H1 hp => ?_
    obtain ⟨rfl, q⟩ := hp
    try simp only [thenW_n, thenW_e, thenW_r, blkW_n, blkW_e, blkW_r, if_true]
    refine W.chunk ?_
    simp (disch := first | omega | exact getEq rfl | exact getO0 | exact Nat.le_of_ble_eq_true rfl) [c69_o17, app_growP, app_noneP, plus_N, plus_at0, put_plus0, put_plus1, upd_N, upd_size, q, elems, rdOf, f1, q1, q2]
    refine W.chunk ?_
    simp (disch := first | omega | exact getEq rfl | exact getO0 | exact Nat.le_of_ble_eq_true rfl) [c69_o18, app_growP, app_noneP, plus_N, plus_at0, put_plus0, put_plus1, upd_N, upd_size, q]
    exact kR _ _ ⟨_, tb2, by simp [T.get, q]⟩
  · refine Tr.w fun s1 H1 hp R kR => W.trim ?_
    obtain ⟨xo, tb, q⟩ := hp
    clear mx
    refine W.assoc ?_
    refine W.seq (W.chunk ?_)
    simp (disch := first | omega | exact getEq rfl | exact getO0 | exact Nat.le_of_ble_eq_true rfl) [c69_o4, app_growP, app_noneP, plus_N, plus_at0, put_plus0, put_plus1, upd_N, upd_size, q]
    refine W.seq (W.chunk ?_)
    simp (disch := first | omega | exact getEq rfl | exact getO0 | exact Nat.le_of_ble_eq_true rfl) [app_growP, app_noneP, plus_N, plus_at0, put_plus0, put_plus1, upd_N, upd_size, q]
    exact kR _ _ ⟨_, tb, by simp [T.get, q]⟩
theorem c69_ok (J : CallF) (hJ : ∀ a h, J 69 a h = none) (h : Heap) {y : AV} (hy : MR h y M) (hm : isMat M = true) : ∃ v own, CallsTo tbl J 69 [y] h (v, own, false) ∧ TB h (h.plus own) v (ldR M M.length) := by
  refine Tr.fny (cf := c69) (e := .ret) (s := T.set .leaf [] y) (by decide) rfl (hJ _ _) rfl rfl (by simp) ?_
  have h8 := isMat_n hm
  obtain ⟨b, v, cs, rfl, mx⟩ := (hy.lo []).mx hm
  have mx : MX (frameOf h) M b v cs := mx
  have l3 := c69_i J hm mx
  clear mx hy
  refine Tr.w fun s1 H1 hp R kR => ?_
  obtain ⟨rfl, rfl⟩ := hp
  have q : True := trivial
  refine W.seq (W.chunk ?_)
  simp (disch := first | omega | exact getEq rfl | exact getO0 | exact Nat.le_of_ble_eq_true rfl) [c69_o0, app_growP, app_noneP, plus_N, plus_at0, put_plus0, put_plus1, upd_N, upd_size, q]
  refine W.seq (W.chunk ?_)
  simp (disch := first | omega | exact getEq rfl | exact getO0 | exact Nat.le_of_ble_eq_true rfl) [c69_o1, app_growP, app_noneP, plus_N, plus_at0, put_plus0, put_plus1, upd_N, upd_size, q]
  refine W.seq (W.chunk ?_)
  simp (disch := first | omega | exact getEq rfl | exact getO0 | exact Nat.le_of_ble_eq_true rfl) [c69_o2, app_growP, app_noneP, plus_N, plus_at0, put_plus0, put_plus1, upd_N, upd_size, q]
  refine W.assoc ?_
  refine W.seq (W.chunk ?_)
  simp (disch := first | omega | exact getEq rfl | exact getO0 | exact Nat.le_of_ble_eq_true rfl) [c69_o3, app_growP, app_noneP, plus_N, plus_at0, put_plus0, put_plus1, upd_N, upd_size, q]
  refine W.seq (W.block ?_)
  refine W.use (l3) (by simp (disch := first | omega | exact getEq rfl | exact getO0 | exact Nat.le_of_ble_eq_true rfl) [app_growP, app_noneP, plus_N, plus_at0, put_plus0, put_plus1, upd_N, upd_size, q]) fun s1 H1 hp => ?_
  obtain ⟨x, tb, q⟩ := hp
  try simp only [thenW_n, thenW_e, thenW_r, blkW_n, blkW_e, blkW_r, if_true]
  refine W.seq (W.chunk ?_)
  simp (disch := first | omega | exact getEq rfl | exact getO0 | exact Nat.le_of_ble_eq_true rfl) [c69_o19, app_growP, app_noneP, plus_N, plus_at0, put_plus0, put_plus1, upd_N, upd_size, q]
  refine W.ret ?_
  try simp only [thenW_n, thenW_e, thenW_r, blkW_n, blkW_e, blkW_r, if_true]
  exact kR _ _ ⟨[x], by simp [T.get, c69, evRess, evRes, q], tb.fr0⟩
end
def Post69 (a : AM) (h : Heap) (v : AV) (own : List AObj) : Prop := TB h (h.plus own) v (ldR a.M a.M.length)
noncomputable def T21 : CallF := addK tbl T20 69 PreO Post69
theorem t21 : Sound Go.Proofs.Try.prog T21 := Sound.addK follows ok t20 (by decide) _ _
abbrev K69 (J : CallF) : Prop := ∀ (h : Heap) (a : AM), MR h a.y a.M → isMat a.M = true → ∃ v own, J 69 [a.y] h = some (v, own, false) ∧ TB h (h.plus own) v (ldR a.M a.M.length)
theorem k69 : K69 T21 := fun h a ha hm => addK_some (Pre := PreO) (Post := Post69) (fun a args h hp => by
  obtain ⟨⟨hy, hm⟩, rfl⟩ := hp
  exact c69_ok T20 (fun _ _ => by simp (disch := decide) only [T20, T19, T18, T17, T16, T15, T14, T13, T12, T11, T10, T9, T8, T7, T6, T5, T4, T3, T2, T1, R21, R20, R19, R18, R17, R16, R15, R14, R13, R12, R11, R10, R9, R8, R7, R6, R5, R4, R3, R2, R1, addI_ne, addX_ne, addV_ne, addK_ne]; rfl) h hy hm) a _ h ⟨⟨ha, hm⟩, rfl⟩
end Go.Proofs.Ytjeemgaoonapgaa.Ev
set_option linter.unusedVariables false
set_option linter.unusedSimpArgs false
namespace Go.Proofs.Ytjeemgaoonapgaa.Ev
open Go Go.AEv
attribute [local simp] evFunc initS evOps_c evTrim_c evSkip_c evExit_c evRet_c evSeq_c evCond_c evBlock_c evDraw_c runOps_n runOps_c exec_n exec_g pure1_c act AOpd.ev T.get T.set T.put evBin evUn forceT_eq forceV_eq forceL_eq evRess evRes one keep runFP_n runFP_c app_none AV.flats AV.flat came_some List.getElem?_cons_zero List.getElem?_cons_succ beqT wrapI idxI tdivI tmodI decT decF ibT ibF inT inF evScope_c if_pos if_neg Cm_some thenW_n thenW_e thenW_r blkW_n blkW_e blkW_r goI kn putAt AV.cells fillA loadA takeA mk Eff.isAll Eff.isNone Eff.commutes Eff.spares okPair apart eqAgg fits LK.fits allEq aveq eqk mmA
structure LD (H : Heap) (M : List (List Int)) (q : Nat) (rs : List AV) : Prop where
  g : H.get q = .cells 1 M.length rs
  r : ∀ i, i < M.length → ∃ b, rs[i]? = some (.slice b 0 M.length M.length) ∧ H.get b = .cells 1 M.length (bls (fun z => ldF M (i * 8 + z)) M.length)
section
variable {M : List (List Int)}
theorem LD.kp {H H' : Heap} {q : Nat} {rs : List AV} (t : LD H M q rs) (k : Kp (fun _ => False) H H') : LD H' M q rs :=
  ⟨k.at t.g (by simp) id, fun i hi => by obtain ⟨b, e1, e2⟩ := t.r i hi; exact ⟨b, e1, k.at e2 (by simp) id⟩⟩
theorem TB.ld {H0 H : Heap} {x : AV} (tb : TB H0 H x (ldR M M.length)) (hn : 0 < M.length) : ∃ q rs, x = .slice q 0 M.length M.length ∧ LD H M q rs := by
  have hl : (ldR M M.length).length = M.length := by simp [ldR]
  obtain ⟨q0, rs, e, gq, lq, hr⟩ := tb.sl (i := 0) (by omega)
  rw [hl] at e gq
  refine ⟨q0, rs, e, gq, fun i hi => ?_⟩
  obtain ⟨b2, e1, e2⟩ := hr i (bls (fun z => ldF M (i * 8 + z)) M.length) (by simp [ldR, hi])
  rw [bls_len] at e1 e2
  exact ⟨b2, e1, e2⟩
theorem mu_ld (hm : isMat M = true) {i c : Nat} (hi : i < M.length) (hc : c < M.length) : (ldF M (i * 8 + c) && ldF M (c * 8 + i)) = true ↔ Mu M i c := by
  rw [Bool.and_eq_true, ldF_iff hm hi hc, ldF_iff hm hc hi]; rfl
theorem c50_in (J : CallF) (hm : isMat M = true) {H : Heap} {q0 i : Nat} {rs : List AV} {y xo : AV} (ld : LD H M q0 rs) (hi : i < M.length) : ∀ d c, c + d = clN M i → Tr tbl J c50_l0 (fun s h => h = H ∧ s.get [] = y ∧ s.get [false, false] = .slice q0 0 M.length M.length ∧ s.get [true, false] = xo ∧ s.get [false, true] = G i ∧ s.get [true, true] = G c) (.exit 2) (fun s h => h = H ∧ s.get [] = y ∧ s.get [false, false] = .slice q0 0 M.length M.length ∧ s.get [true, false] = xo ∧ s.get [false, true] = G i ∧ s.get [true, true] = G (clN M i)) := by
  have h8 := isMat_n hm
  obtain ⟨n1, n2, n3⟩ := clN_ok hm hi
  obtain ⟨b1, e1, g1⟩ := ld.r i hi
  have gq := ld.g
  have e1' := getI e1
  intro d
  induction d with
  | zero =>
    intro c hc
    obtain rfl : c = clN M i := by omega
    have hcn : clN M i < M.length := by omega
    obtain ⟨b2, e2, g2⟩ := ld.r (clN M i) hcn
    have mu := (mu_ld hm hi hcn).2 n2
    rw [Bool.and_eq_true] at mu
    have a1 := bls_getN (fun z => ldF M (i * 8 + z)) hcn mu.1
    have a2 := bls_getN (fun z => ldF M (clN M i * 8 + z)) hi mu.2
    have e2' := getI e2
    have a1' := getI a1
    have a2' := getI a2
    refine Tr.out ?_ (by simp)
    clear ld n3 n2
    generalize clN M i = c at *
    generalize bls (fun z => ldF M (i * 8 + z)) M.length = ca at *
    generalize bls (fun z => ldF M (c * 8 + z)) M.length = cb at *
    generalize M.length = n at *
    refine Tr.w fun s1 H1 hp R kR => W.trim ?_
    obtain ⟨rfl, q⟩ := hp
    refine W.assoc ?_
    refine W.seq (W.chunk ?_)
    simp (disch := first | omega | exact getEq rfl | exact getO0 | exact Nat.le_of_ble_eq_true rfl) [c50_o6, app_growP, app_noneP, plus_N, plus_at0, put_plus0, put_plus1, upd_N, upd_size, q, gq, e1, e1', g1, e2, e2', g2, a1, a1', a2, a2']
    refine W.seq (W.chunk ?_)
    simp (disch := first | omega | exact getEq rfl | exact getO0 | exact Nat.le_of_ble_eq_true rfl) [app_growP, app_noneP, plus_N, plus_at0, put_plus0, put_plus1, upd_N, upd_size, q, gq, e1, e1', g1, e2, e2', g2, a1, a1', a2, a2']
    exact kR _ _ (by simp [T.get, q])
  | succ d ih =>
    intro c hc
    refine Tr.next ?_ (ih (c + 1) (by omega))
    have hcn : c < M.length := by omega
    obtain ⟨b2, e2, g2⟩ := ld.r c hcn
    have mu : ¬ (ldF M (i * 8 + c) && ldF M (c * 8 + i)) = true := fun q => by have := n3 c ((mu_ld hm hi hcn).1 q); omega
    have a1 := bls_getN (fun z => ldF M (i * 8 + z)) hcn rfl
    have a2 := bls_getN (fun z => ldF M (c * 8 + z)) hi rfl
    have e2' := getI e2
    have a1' := getI a1
    have a2' := getI a2
    clear ld n3 n2 ih
    generalize hca : bls (fun z => ldF M (i * 8 + z)) M.length = ca at *
    generalize hcb : bls (fun z => ldF M (c * 8 + z)) M.length = cb at *
    try simp only at a1 a2 a1' a2'
    generalize ldF M (i * 8 + c) = p1 at *
    generalize ldF M (c * 8 + i) = p2 at *
    clear hca hcb
    generalize M.length = n at *
    cases p1 <;> cases p2
    all_goals first | (exact absurd rfl mu) | skip
    all_goals
      refine Tr.w fun s1 H1 hp R kR => W.trim ?_
      obtain ⟨rfl, q⟩ := hp
      refine W.assoc ?_
      refine W.seq (W.chunk ?_)
      simp (disch := first | omega | exact getEq rfl | exact getO0 | exact Nat.le_of_ble_eq_true rfl) [c50_o6, app_growP, app_noneP, plus_N, plus_at0, put_plus0, put_plus1, upd_N, upd_size, q, gq, e1, e1', g1, e2, e2', g2, a1, a1', a2, a2']
      refine W.seq (W.chunk ?_)
      simp (disch := first | omega | exact getEq rfl | exact getO0 | exact Nat.le_of_ble_eq_true rfl) [app_growP, app_noneP, plus_N, plus_at0, put_plus0, put_plus1, upd_N, upd_size, q, gq, e1, e1', g1, e2, e2', g2, a1, a1', a2, a2']
      refine W.block ?_
      refine W.chunk ?_
      simp (disch := first | omega | exact getEq rfl | exact getO0 | exact Nat.le_of_ble_eq_true rfl) [c50_o7, app_growP, app_noneP, plus_N, plus_at0, put_plus0, put_plus1, upd_N, upd_size, q, gq, e1, e1', g1, e2, e2', g2, a1, a1', a2, a2']
      exact kR _ _ (by simp [T.get, q])
theorem c50_out (J : CallF) (hm : isMat M = true) {H0 : Heap} {q0 b v : Nat} {rs : List AV} (ld : LD H0 M q0 rs) : Tr tbl J c50_l1 (fun s h => h = H0 ∧ s.get [] = .slice b 0 M.length v ∧ s.get [false, false] = .slice q0 0 M.length M.length ∧ s.get [true, false] = .nils ∧ s.get [false, true] = G ((0 : Nat) : Int)) (.exit 0) (fun s h => ∃ x, NG H0 h x (clsL M) ∧ s.get [true, false] = x) := by
  have h8 := isMat_n hm
  refine Tr.pre (P := fun s h => ∃ x, NG H0 h x (lf (fun i => (clN M i : Int)) 0) ∧ s.get [] = .slice b 0 M.length v ∧ s.get [false, false] = .slice q0 0 M.length M.length ∧ s.get [true, false] = x ∧ s.get [false, true] = G ((0 : Nat) : Int)) (fun s h q => ⟨.nils, by rw [q.1]; exact NG.nil H0, q.2⟩) ?_
  refine Tr.rounds (P := fun i s h => ∃ x, NG H0 h x (lf (fun i => (clN M i : Int)) i) ∧ s.get [] = .slice b 0 M.length v ∧ s.get [false, false] = .slice q0 0 M.length M.length ∧ s.get [true, false] = x ∧ s.get [false, true] = G i) (M := M.length) (fun i hi => ?_) ?_ (by simp) 0 (by omega)
  · refine Tr.w fun s1 H1 hp R kR => W.trim ?_
    obtain ⟨x, ng, q⟩ := hp
    have l0 := c50_in (y := .slice b 0 M.length v) (xo := x) J hm (ld.kp ng.k) hi (clN M i) 0 (by omega)
    obtain ⟨x1, e, h2, q1, q2, ng2, _⟩ := ng.app H1.size (clN M i) (by rw [lf_len]; omega)
    rw [← lf_succ] at ng2
    have f1 := app1_at H1 (G (clN M i))
    clear ld ng
    refine W.assoc ?_
    refine W.seq (W.chunk ?_)
    simp (disch := first | omega | exact getEq rfl | exact getO0 | exact Nat.le_of_ble_eq_true rfl) [c50_o4, app_growP, app_noneP, plus_N, plus_at0, put_plus0, put_plus1, upd_N, upd_size, q]
    refine W.seq (W.chunk ?_)
    simp (disch := first | omega | exact getEq rfl | exact getO0 | exact Nat.le_of_ble_eq_true rfl) [app_growP, app_noneP, plus_N, plus_at0, put_plus0, put_plus1, upd_N, upd_size, q]
    refine W.seq (W.block ?_)
    refine W.seq (W.chunk ?_)
    simp (disch := first | omega | exact getEq rfl | exact getO0 | exact Nat.le_of_ble_eq_true rfl) [c50_o5, app_growP, app_noneP, plus_N, plus_at0, put_plus0, put_plus1, upd_N, upd_size, q]
    refine W.seq (W.block ?_)
    refine W.use (l0) (by simp (disch := first | omega | exact getEq rfl | exact getO0 | exact Nat.le_of_ble_eq_true rfl) [app_growP, app_noneP, plus_N, plus_at0, put_plus0, put_plus1, upd_N, upd_size, q]) fun s1 H1 hp => ?_
    obtain ⟨rfl, q⟩ := hp
    try simp only [thenW_n, thenW_e, thenW_r, blkW_n, blkW_e, blkW_r, if_true]
    refine W.chunk ?_
    simp (disch := first | omega | exact getEq rfl | exact getO0 | exact Nat.le_of_ble_eq_true rfl) [c50_o8, app_growP, app_noneP, plus_N, plus_at0, put_plus0, put_plus1, upd_N, upd_size, q, elems, rdOf, f1, q1, q2]
    refine W.chunk ?_
    simp (disch := first | omega | exact getEq rfl | exact getO0 | exact Nat.le_of_ble_eq_true rfl) [c50_o9, app_growP, app_noneP, plus_N, plus_at0, put_plus0, put_plus1, upd_N, upd_size, q]
    exact kR _ _ ⟨_, ng2, by simp [T.get, q]⟩
  · refine Tr.w fun s1 H1 hp R kR => W.trim ?_
    obtain ⟨x, ng, q⟩ := hp
    clear ld
    refine W.assoc ?_
    refine W.seq (W.chunk ?_)
    simp (disch := first | omega | exact getEq rfl | exact getO0 | exact Nat.le_of_ble_eq_true rfl) [c50_o4, app_growP, app_noneP, plus_N, plus_at0, put_plus0, put_plus1, upd_N, upd_size, q]
    refine W.seq (W.chunk ?_)
    simp (disch := first | omega | exact getEq rfl | exact getO0 | exact Nat.le_of_ble_eq_true rfl) [app_growP, app_noneP, plus_N, plus_at0, put_plus0, put_plus1, upd_N, upd_size, q]
    exact kR _ _ ⟨_, ng, by simp [T.get, q]⟩
theorem NG.base {H0 H1 H : Heap} {x : AV} {L : List Int} (k : Kp (fun _ => False) H0 H1) (t : NG H1 H x L) : NG H0 H x L := ⟨k.trans t.k, fun q hq => Nat.le_trans k.size (t.x0 q hq), t.l⟩
theorem c50_ok (J : CallF) (k69 : K69 J) (hJ : ∀ a h, J 50 a h = none) (h : Heap) {y : AV} (hy : MR h y M) (hm : isMat M = true) : ∃ v own, CallsTo tbl J 50 [y] h (v, own, false) ∧ NG h (h.plus own) v (clsL M) := by
  refine Tr.fny (cf := c50) (e := .ret) (s := T.set .leaf [] y) (by decide) rfl (hJ _ _) rfl rfl (by simp) ?_
  have h8 := isMat_n hm
  have hy0 : MR (frameOf h) y M := hy.lo []
  obtain ⟨w, own, k69, tb⟩ := k69 (frameOf h) ⟨M, y⟩ hy0 hm
  simp only at k69 tb
  obtain ⟨q0, rs, rfl, ld⟩ := tb.ld (by omega)
  obtain ⟨b, v, cs, rfl, mx⟩ := hy0.mx hm
  have l1 := c50_out (b := b) (v := v) J hm ld
  have kp : Kp (fun _ => False) (frameOf h) ((frameOf h).plus own) := Kp.plus _ _
  clear tb ld mx
  refine Tr.w fun s1 H1 hp R kR => ?_
  obtain ⟨rfl, rfl⟩ := hp
  have q : True := trivial
  refine W.seq (W.chunk ?_)
  simp (disch := first | omega | exact getEq rfl | exact getO0 | exact Nat.le_of_ble_eq_true rfl) [c50_o0, app_growP, app_noneP, plus_N, plus_at0, put_plus0, put_plus1, upd_N, upd_size, q]
  refine W.seq (W.chunk ?_)
  simp (disch := first | omega | exact getEq rfl | exact getO0 | exact Nat.le_of_ble_eq_true rfl) [c50_o1, app_growP, app_noneP, plus_N, plus_at0, put_plus0, put_plus1, upd_N, upd_size, q, k69, app_if, app_if']
  refine W.seq (W.chunk ?_)
  simp (disch := first | omega | exact getEq rfl | exact getO0 | exact Nat.le_of_ble_eq_true rfl) [c50_o2, app_growP, app_noneP, plus_N, plus_at0, put_plus0, put_plus1, upd_N, upd_size, q]
  refine W.assoc ?_
  refine W.seq (W.chunk ?_)
  simp (disch := first | omega | exact getEq rfl | exact getO0 | exact Nat.le_of_ble_eq_true rfl) [c50_o3, app_growP, app_noneP, plus_N, plus_at0, put_plus0, put_plus1, upd_N, upd_size, q]
  refine W.seq (W.block ?_)
  refine W.use (l1) (by simp (disch := first | omega | exact getEq rfl | exact getO0 | exact Nat.le_of_ble_eq_true rfl) [app_growP, app_noneP, plus_N, plus_at0, put_plus0, put_plus1, upd_N, upd_size, q]) fun s1 H1 hp => ?_
  obtain ⟨x, ng, q⟩ := hp
  try simp only [thenW_n, thenW_e, thenW_r, blkW_n, blkW_e, blkW_r, if_true]
  refine W.seq (W.chunk ?_)
  simp (disch := first | omega | exact getEq rfl | exact getO0 | exact Nat.le_of_ble_eq_true rfl) [c50_o10, app_growP, app_noneP, plus_N, plus_at0, put_plus0, put_plus1, upd_N, upd_size, q]
  refine W.ret ?_
  try simp only [thenW_n, thenW_e, thenW_r, blkW_n, blkW_e, blkW_r, if_true]
  exact kR _ _ ⟨[x], by simp [T.get, c50, evRess, evRes, q], (ng.base kp).fr0⟩
theorem c31_bad (J : CallF) (k54 : K54 J) (hJ : ∀ a h, J 31 a h = none) (h : Heap) {y : AV} (hy : MR h y M) (hm : isMat M = false) : CallsTo tbl J 31 [y] h (.tup [.nils, G 2], [], false) := by
  refine Tr.fnv (cf := c31) (e := .ret) (s := T.set .leaf [] y) (by decide) rfl (hJ _ _) rfl rfl rfl (by simp) ?_
  obtain ⟨cs, k54, hl, hc⟩ := k54 ⟨h.get, h.size, []⟩ y M (hy.lo [])
  have rp : (List.replicate 65 (AV.int .i64 0)).length = 65 := List.length_replicate
  have ep : putAt (List.replicate 65 (AV.int .i64 0)) 0 cs = cs := putAt_all _ _ (by omega)
  refine Tr.w fun s1 H1 hp R kR => ?_
  obtain ⟨rfl, rfl⟩ := hp
  have q : True := trivial
  generalize hZ : List.replicate 65 (AV.int .i64 0) = Z at *
  rw [hm] at k54
  refine W.seq (W.chunk ?_)
  simp (disch := first | omega | exact getEq rfl | exact getO0 | exact Nat.le_of_ble_eq_true rfl) [-List.reduceReplicate, c31_o0, size_mk, get_mk_lt, get_mk_ge, frameOf, Eff.app, Heap.setOwn, q]
  refine W.seq (W.chunk ?_)
  simp (disch := first | omega | exact getEq rfl | exact getO0 | exact Nat.le_of_ble_eq_true rfl) [-List.reduceReplicate, c31_o1, size_mk, get_mk_lt, get_mk_ge, frameOf, Eff.app, Heap.setOwn, q, k54, hZ, ep, rp, hl, frameOf]
  refine W.assoc ?_
  refine W.seq (W.chunk ?_)
  simp (disch := first | omega | exact getEq rfl | exact getO0 | exact Nat.le_of_ble_eq_true rfl) [-List.reduceReplicate, c31_o2, size_mk, get_mk_lt, get_mk_ge, frameOf, Eff.app, Heap.setOwn, q]
  refine W.seq (W.chunk ?_)
  simp (disch := first | omega | exact getEq rfl | exact getO0 | exact Nat.le_of_ble_eq_true rfl) [-List.reduceReplicate, c31_o3, size_mk, get_mk_lt, get_mk_ge, frameOf, Eff.app, Heap.setOwn, q]
  exact kR _ _ ⟨[.nils, G 2], by simp [T.get, c31, evRess, evRes], rfl⟩
theorem c31_ok (J : CallF) (k54 : K54 J) (k62 : K62 J) (hJ : ∀ a h, J 31 a h = none) (h : Heap) {y : AV} (hy : MR h y M) (hm : isMat M = true) : ∃ v own, CallsTo tbl J 31 [y] h (v, own, false) ∧ ∃ w, v = .tup [w, G 0] ∧ NG h (h.plus own) w (clsL M) := by
  refine Tr.fny (cf := c31) (e := .ret) (s := T.set .leaf [] y) (by decide) rfl (hJ _ _) rfl rfl (by simp) ?_
  obtain ⟨cs, k54, hl, hc⟩ := k54 ⟨h.get, h.size, []⟩ y M (hy.lo [])
  have rp : (List.replicate 65 (AV.int .i64 0)).length = 65 := List.length_replicate
  obtain rfl := hc hm
  have ep : putAt (List.replicate 65 (AV.int .i64 0)) 0 (matC M) = matC M := putAt_all _ _ (by omega)
  have et : (matC M).take 65 = matC M := List.take_of_length_le (by omega)
  obtain ⟨w, own, k62, ng⟩ := k62 ⟨h.get, h.size, [.cells 0 65 (matC M)]⟩ M hm
  have ng := ng.up
  refine Tr.w fun s1 H1 hp R kR => ?_
  obtain ⟨rfl, rfl⟩ := hp
  have q : True := trivial
  generalize hZ : List.replicate 65 (AV.int .i64 0) = Z at *
  rw [hm] at k54
  refine W.seq (W.chunk ?_)
  simp (disch := first | omega | exact getEq rfl | exact getO0 | exact Nat.le_of_ble_eq_true rfl) [-List.reduceReplicate, c31_o0, size_mk, get_mk_lt, get_mk_ge, frameOf, Eff.app, Heap.setOwn, q]
  refine W.seq (W.chunk ?_)
  simp (disch := first | omega | exact getEq rfl | exact getO0 | exact Nat.le_of_ble_eq_true rfl) [-List.reduceReplicate, c31_o1, size_mk, get_mk_lt, get_mk_ge, frameOf, Eff.app, Heap.setOwn, q, k54, hZ, ep, rp, hl, frameOf]
  refine W.assoc ?_
  refine W.seq (W.chunk ?_)
  simp (disch := first | omega | exact getEq rfl | exact getO0 | exact Nat.le_of_ble_eq_true rfl) [-List.reduceReplicate, c31_o2, size_mk, get_mk_lt, get_mk_ge, frameOf, Eff.app, Heap.setOwn, q]
  refine W.seq (W.chunk ?_)
  simp (disch := first | omega | exact getEq rfl | exact getO0 | exact Nat.le_of_ble_eq_true rfl) [-List.reduceReplicate, c31_o3, size_mk, get_mk_lt, get_mk_ge, frameOf, Eff.app, Heap.setOwn, q]
  refine W.seq (W.chunk ?_)
  simp (disch := first | omega | exact getEq rfl | exact getO0 | exact Nat.le_of_ble_eq_true rfl) [-List.reduceReplicate, c31_o4, app_growP, app_noneP, plus_N, plus_at0, put_plus0, put_plus1, upd_N, upd_size, q, get_mk_ge, et, hl, k62, app_if, app_if']
  refine W.ret ?_
  try simp only [thenW_n, thenW_e, thenW_r, blkW_n, blkW_e, blkW_r, if_true]
  exact kR _ _ ⟨[w, G 0], by simp [T.get, c31, evRess, evRes], w, rfl, ng.fr1⟩
end
def Post50 (a : AM) (h : Heap) (v : AV) (own : List AObj) : Prop := NG h (h.plus own) v (clsL a.M)
noncomputable def T22 : CallF := addK tbl T21 50 PreO Post50
theorem t22 : Sound Go.Proofs.Try.prog T22 := Sound.addK follows ok t21 (by decide) _ _
abbrev K50 (J : CallF) : Prop := ∀ (h : Heap) (a : AM), MR h a.y a.M → isMat a.M = true → ∃ v own, J 50 [a.y] h = some (v, own, false) ∧ NG h (h.plus own) v (clsL a.M)
theorem k50 : K50 T22 := fun h a ha hm => addK_some (Pre := PreO) (Post := Post50) (fun a args h hp => by
  obtain ⟨⟨hy, hm⟩, rfl⟩ := hp
  exact c50_ok T21 k69 (fun _ _ => by simp (disch := decide) only [T21, T20, T19, T18, T17, T16, T15, T14, T13, T12, T11, T10, T9, T8, T7, T6, T5, T4, T3, T2, T1, R21, R20, R19, R18, R17, R16, R15, R14, R13, R12, R11, R10, R9, R8, R7, R6, R5, R4, R3, R2, R1, addI_ne, addX_ne, addV_ne, addK_ne]; rfl) h hy hm) a _ h ⟨⟨ha, hm⟩, rfl⟩
def Post31 (a : AM) (h : Heap) (v : AV) (own : List AObj) : Prop := (isMat a.M = false → v = .tup [.nils, G 2] ∧ own = []) ∧ (isMat a.M = true → ∃ w, v = .tup [w, G 0] ∧ NG h (h.plus own) w (clsL a.M))
noncomputable def T23 : CallF := addK tbl T22 31 PreM Post31
theorem t23 : Sound Go.Proofs.Try.prog T23 := Sound.addK follows ok t22 (by decide) _ _
abbrev K31 (J : CallF) : Prop := ∀ (h : Heap) (a : AM), MR h a.y a.M → ∃ v own, J 31 [a.y] h = some (v, own, false) ∧ Post31 a h v own
theorem k54_22 : K54 T22 := fun h y M hy => by
  simp (disch := decide) only [T22, T21, T20, T19, T18, T17, T16, T15, T14, T13, T12, T11, T10, T9, T8, T7, T6, T5, T4, T3, T2, T1, R21, R20, R19, R18, R17, R16, R15, R14, R13, R12, R11, R10, R9, R8, R7, R6, R5, R4, R3, R2, R1, addI_ne, addX_ne, addV_ne, addK_ne]
  exact k54 h y M hy
theorem k62_22 : K62 T22 := fun h M hm => by
  simp (disch := decide) only [T22, T21, T20, T19, T18, T17, T16, T15, T14, T13, T12, T11, T10, T9, T8, T7, addK_ne]
  exact k62 h M hm
theorem k31 : K31 T23 := fun h a ha => addK_some (Pre := PreM) (Post := Post31) (fun a args h hp => by
  obtain ⟨hy, rfl⟩ := hp
  have hn : ∀ a h, T22 31 a h = none := (fun _ _ => by simp (disch := decide) only [T22, T21, T20, T19, T18, T17, T16, T15, T14, T13, T12, T11, T10, T9, T8, T7, T6, T5, T4, T3, T2, T1, R21, R20, R19, R18, R17, R16, R15, R14, R13, R12, R11, R10, R9, R8, R7, R6, R5, R4, R3, R2, R1, addI_ne, addX_ne, addV_ne, addK_ne]; rfl)
  cases c : isMat a.M
  · exact ⟨_, _, c31_bad T22 k54_22 hn h hy c, fun _ => ⟨rfl, rfl⟩, fun q => by rw [c] at q; cases q⟩
  · obtain ⟨v, own, e, p⟩ := c31_ok T22 k54_22 k62_22 hn h hy c
    exact ⟨v, own, e, fun q => (by rw [c] at q; cases q), fun _ => p⟩) a _ h ⟨ha, rfl⟩
end Go.Proofs.Ytjeemgaoonapgaa.Ev
set_option linter.unusedVariables false
set_option linter.unusedSimpArgs false
namespace Go.Proofs.Ytjeemgaoonapgaa.Ev
open Go Go.AEv
def PerS (M : List (List Int)) (i p : Nat) : Prop := (∀ k, Wk M k i i → p ∣ k) ∧ ∀ g, (∀ k, Wk M k i i → g ∣ k) → g ∣ p
section
variable {M : List (List Int)}
theorem PerS.eq {i p q : Nat} (a : PerS M i p) (b : PerS M i q) : p = q := Nat.dvd_antisymm (b.2 p a.1) (a.2 q b.1)
theorem cyc_mu {i j g : Nat} (m : Mu M i j) (h : ∀ k, Wk M k i i → g ∣ k) : ∀ k, Wk M k j j → g ∣ k := fun k w => by
  obtain ⟨⟨a, wa⟩, ⟨b, wb⟩⟩ := m
  have h1 := h _ ((wa.add w).add wb)
  have h2 := h _ (wa.add wb)
  have e : k = (a + k + b) - (a + b) := by omega
  rw [e]
  exact Nat.dvd_sub h1 h2
theorem PerS.mu {i j p : Nat} (m : Mu M i j) (h : PerS M i p) : PerS M j p :=
  ⟨cyc_mu m h.1, fun g hg => h.2 g (cyc_mu m.symm hg)⟩
theorem mu_mid {i u v : Nat} (mv : Mu M i v) (hu : Rc M i u) (e : 0 < ent M u v) : Mu M i u := ⟨hu, (Rc.one e).trans mv.2⟩
theorem tele {i p : Nat} {f : Nat → Int} (h1 : ∀ u v, Mu M i u → Mu M i v → 0 < ent M u v → (p : Int) ∣ f u + 1 - f v) : ∀ {k v : Nat}, Mu M i v → Wk M k i v → (p : Int) ∣ f i + k - f v
  | 0, v, m, w => by
    have e : i = v := w
    subst e
    rw [show f i + ((0 : Nat) : Int) - f i = 0 by omega]
    exact Int.dvd_zero _
  | k + 1, v, m, w => by
    obtain ⟨u, w', e⟩ := Wk.snoc.1 w
    have mu := mu_mid m ⟨k, w'⟩ e
    have a := tele h1 mu w'
    have b := h1 u v mu m e
    have := Int.dvd_add a b
    rwa [show f i + (k : Int) - f u + (f u + 1 - f v) = f i + ((k + 1 : Nat) : Int) - f v by omega] at this
theorem edge_dvd {i g u v : Nat} {f : Nat → Int} (hf : ∀ z, Mu M i z → ∃ d : Nat, f z = d ∧ Wk M d i z) (hg : ∀ k, Wk M k i i → g ∣ k) (mu : Mu M i u) (mv : Mu M i v) (e : 0 < ent M u v) : (g : Int) ∣ f u + 1 - f v := by
  obtain ⟨a, ea, wa⟩ := hf u mu
  obtain ⟨b, eb, wb⟩ := hf v mv
  obtain ⟨l, wl⟩ := mv.2
  have h1 := hg _ ((wa.add (Wk.one e)).add wl)
  have h2 := hg _ (wb.add wl)
  have h1' : (g : Int) ∣ ((a + 1 + l : Nat) : Int) := Int.natCast_dvd_natCast.2 h1
  have h2' : (g : Int) ∣ ((b + l : Nat) : Int) := Int.natCast_dvd_natCast.2 h2
  have := Int.dvd_sub h1' h2'
  rw [ea, eb]
  rwa [show ((a + 1 + l : Nat) : Int) - ((b + l : Nat) : Int) = (a : Int) + 1 - b by omega] at this
theorem per_of {i p : Nat} {f : Nat → Int} (f0 : f i = 0) (hf : ∀ z, Mu M i z → ∃ d : Nat, f z = d ∧ Wk M d i z) (h1 : ∀ u v, Mu M i u → Mu M i v → 0 < ent M u v → (p : Int) ∣ f u + 1 - f v) (h2 : ∀ g, (∀ k, Wk M k i i → g ∣ k) → g ∣ p) : PerS M i p := by
  refine ⟨fun k w => ?_, h2⟩
  have := tele h1 (Mu.refl i) w
  rw [show f i + (k : Int) - f i = (k : Int) by omega] at this
  exact Int.natCast_dvd_natCast.1 this
open Classical in
noncomputable def perN (M : List (List Int)) (i : Nat) : Nat := if h : ∃ p, PerS M i p then Classical.choose h else 0
theorem perN_eq {i p : Nat} (h : PerS M i p) : perN M i = p := by
  have hx : ∃ p, PerS M i p := ⟨p, h⟩
  unfold perN
  rw [dif_pos hx]
  exact (Classical.choose_spec hx).eq h
def Fk (M : List (List Int)) (d i z : Nat) : Prop := Wk M d i z ∧ ∀ k, k < d → ¬ Wk M k i z
theorem Fk.eq {d e i z : Nat} (a : Fk M d i z) (b : Fk M e i z) : d = e := by
  rcases Nat.lt_trichotomy d e with h | h | h
  · exact absurd a.1 (b.2 d h)
  · exact h
  · exact absurd b.1 (a.2 e h)
theorem Wk.first {i z : Nat} : ∀ {k : Nat}, Wk M k i z → ∃ d, d ≤ k ∧ Fk M d i z := by
  intro k
  induction k using Nat.strongRecOn with
  | _ k ih =>
    intro w
    by_cases c : ∃ j, j < k ∧ Wk M j i z
    · obtain ⟨j, hj, wj⟩ := c
      obtain ⟨d, hd, f⟩ := ih j hj wj
      exact ⟨d, by omega, f⟩
    · exact ⟨k, Nat.le_refl _, w, fun j hj wj => c ⟨j, hj, wj⟩⟩
open Classical in
noncomputable def dsN (M : List (List Int)) (i z : Nat) : Int := if h : ∃ d, Fk M d i z then ((Classical.choose h : Nat) : Int) else -1
theorem dsN_eq {d i z : Nat} (h : Fk M d i z) : dsN M i z = d := by
  have hx : ∃ d, Fk M d i z := ⟨d, h⟩
  unfold dsN
  rw [dif_pos hx]
  exact congrArg Nat.cast ((Classical.choose_spec hx).eq h)
theorem dsN_no {i z : Nat} (h : ¬ Rc M i z) : dsN M i z = -1 := by
  unfold dsN
  rw [dif_neg]
  rintro ⟨d, f⟩
  exact h ⟨d, f.1⟩
structure DI (M : List (List Int)) (i k x y : Nat) (f : Nat → Int) : Prop where
  a : ∀ z, z < M.length → f z ≠ -1 → ∃ d : Nat, f z = d ∧ Fk M d i z ∧ d ≤ k + 1
  b : ∀ z d, z < M.length → d ≤ k → Fk M d i z → f z = d
  d : ∀ x', x' < x → f x' = k → ∀ z, 0 < ent M x' z → f z ≠ -1
  e : ∀ z, z < y → f x = k → 0 < ent M x z → f z ≠ -1
theorem DI.skip {i k x y : Nat} {f : Nat → Int} (l : DI M i k x y f) (h : f x = k → 0 < ent M x y → f y ≠ -1) : DI M i k x (y + 1) f :=
  ⟨l.a, l.b, l.d, fun z hz q e => by
    by_cases c : z = y
    · subst c; exact h q e
    · exact l.e z (by omega) q e⟩
theorem DI.set (hm : isMat M = true) {i k x y : Nat} {f : Nat → Int} (l : DI M i k x y f) (hx : x < M.length) (hy : y < M.length) (h1 : f x = k) (h2 : 0 < ent M x y) (h3 : f y = -1) : DI M i k x (y + 1) (fun z => if z = y then ((k + 1 : Nat) : Int) else f z) := by
  have keep : ∀ z, f z ≠ -1 → (if z = y then ((k + 1 : Nat) : Int) else f z) ≠ -1 := fun z h => by
    split
    · omega
    · exact h
  obtain ⟨d0, e0, w0, _⟩ := l.a x hx (by rw [h1]; omega)
  have hd0 : d0 = k := by omega
  subst hd0
  have fy : Fk M (d0 + 1) i y := ⟨Wk.snoc.2 ⟨x, w0.1, h2⟩, fun j hj wj => by
    obtain ⟨d, hd, f1⟩ := wj.first
    have := l.b y d hy (by omega) f1
    omega⟩
  refine ⟨fun z hz hne => ?_, fun z d hz hd q => ?_, fun x' hx' q z ez => ?_, fun z hz q ez => ?_⟩
  · by_cases c : z = y
    · subst c
      rw [if_pos rfl]
      exact ⟨d0 + 1, rfl, fy, Nat.le_refl _⟩
    · rw [if_neg c] at hne ⊢
      exact l.a z hz hne
  · by_cases c : z = y
    · subst c
      have := fy.eq q
      omega
    · rw [if_neg c]; exact l.b z d hz hd q
  · by_cases c : x' = y
    · rw [if_pos c] at q; omega
    · rw [if_neg c] at q
      exact keep z (l.d x' hx' q z ez)
  · by_cases c : x = y
    · rw [c] at h1; omega
    · rw [if_neg c] at q
      by_cases c2 : z = y
      · rw [if_pos c2]; omega
      · rw [if_neg c2]; exact l.e z (by omega) q ez
theorem DI.nextx (hm : isMat M = true) {i k x : Nat} {f : Nat → Int} (l : DI M i k x M.length f) : DI M i k (x + 1) 0 f :=
  ⟨l.a, l.b, fun x' hx' q z ez => by
    by_cases c : x' = x
    · subst c; exact l.e z (ent_lt hm ez).2 q ez
    · exact l.d x' (by omega) q z ez, fun z hz => absurd hz (by omega)⟩
theorem DI.nextk (hm : isMat M = true) {i k : Nat} {f : Nat → Int} (l : DI M i k M.length 0 f) : DI M i (k + 1) 0 0 f :=
  ⟨fun z hz q => by
    obtain ⟨d, e1, e2, e3⟩ := l.a z hz q
    exact ⟨d, e1, e2, by omega⟩, fun z d hz hd q => by
    by_cases c : d ≤ k
    · exact l.b z d hz c q
    · obtain rfl : d = k + 1 := by omega
      obtain ⟨v, wv, ev⟩ := Wk.snoc.1 q.1
      have hv := (ent_lt hm ev).1
      obtain ⟨dv, hdv, fv⟩ := wv.first
      have : dv = k := by
        apply Nat.le_antisymm hdv
        apply Nat.le_of_not_lt
        intro hlt
        exact q.2 (dv + 1) (by omega) (Wk.snoc.2 ⟨v, fv.1, ev⟩)
      subst this
      have h1 := l.b v dv hv (Nat.le_refl _) fv
      obtain ⟨d', e1, e2, _⟩ := l.a z hz (l.d v hv h1 z ev)
      rw [e1, e2.eq q], fun x' hx' => absurd hx' (by omega), fun z hz => absurd hz (by omega)⟩
theorem DI.done (hm : isMat M = true) {i : Nat} (hi : i < M.length) {f : Nat → Int} (l : DI M i M.length 0 0 f) {z : Nat} (hz : z < M.length) : f z = dsN M i z := by
  by_cases c : Rc M i z
  · obtain ⟨k, hk, w⟩ := c.short hm hi
    obtain ⟨d, hd, q⟩ := w.first
    rw [dsN_eq q]
    exact l.b z d hz (by omega) q
  · rw [dsN_no c]
    apply Decidable.byContradiction
    intro h
    obtain ⟨d, _, q, _⟩ := l.a z hz h
    exact c ⟨d, q.1⟩
theorem DI.init {i : Nat} : DI M i 0 0 0 (fun z => if z = i then 0 else -1) :=
  ⟨fun z hz q => by
    by_cases c : z = i
    · subst c
      exact ⟨0, if_pos rfl, ⟨rfl, fun k hk => absurd hk (by omega)⟩, by omega⟩
    · simp only [if_neg c] at q; exact absurd rfl q, fun z d hz hd q => by
    obtain rfl : d = 0 := by omega
    have : i = z := q.1
    simp [this], fun x' hx' => absurd hx' (by omega), fun z hz => absurd hz (by omega)⟩
end
end Go.Proofs.Ytjeemgaoonapgaa.Ev
set_option linter.unusedVariables false
set_option linter.unusedSimpArgs false
namespace Go.Proofs.Ytjeemgaoonapgaa.Ev
open Go Go.AEv
attribute [local simp] evFunc initS evOps_c evTrim_c evSkip_c evExit_c evRet_c evSeq_c evCond_c evBlock_c evDraw_c runOps_n runOps_c exec_n exec_g pure1_c act AOpd.ev T.get T.set T.put evBin evUn forceT_eq forceV_eq forceL_eq evRess evRes one keep runFP_n runFP_c app_none AV.flats AV.flat came_some List.getElem?_cons_zero List.getElem?_cons_succ beqT wrapI idxI tdivI tmodI decT decF ibT ibF inT inF evScope_c if_pos if_neg Cm_some thenW_n thenW_e thenW_r blkW_n blkW_e blkW_r goI kn putAt AV.cells fillA loadA takeA mk Eff.isAll Eff.isNone Eff.commutes Eff.spares okPair apart eqAgg fits LK.fits allEq aveq eqk mmA
section
variable {M : List (List Int)}
theorem upd_gs (f : Nat → Int) {n y : Nat} (hy : y < n) (z : Int) : (gs (lf f n)).set y (G z) = gs (lf (fun x => if x = y then z else f x) n) := gl_set f n y z hy
theorem c71_y (J : CallF) (hm : isMat M = true) {H : Heap} {b v i k x : Nat} {cs : List AV} (mx : MX H M b v cs) (hx : x < M.length) (hk : k < M.length) :
    Tr tbl J c71_l1 (fun s h => ∃ f, DI M i k x 0 f ∧ h = H.plus [.cells 1 M.length (gs (lf f M.length))] ∧ s.get [] = .slice b 0 M.length v ∧ s.get [false, true] = G M.length ∧ s.get [true, true] = .slice H.size 0 M.length M.length ∧ s.get [true, false, false] = G k ∧ s.get [false, true, false] = G x ∧ s.get [true, true, false] = G ((0 : Nat) : Int)) (.exit 6)
      (fun s h => ∃ f, DI M i k x M.length f ∧ h = H.plus [.cells 1 M.length (gs (lf f M.length))] ∧ s.get [] = .slice b 0 M.length v ∧ s.get [false, true] = G M.length ∧ s.get [true, true] = .slice H.size 0 M.length M.length ∧ s.get [true, false, false] = G k ∧ s.get [false, true, false] = G x) := by
  have h8 := isMat_n hm
  refine Tr.rounds (P := fun y s h => ∃ f, DI M i k x y f ∧ h = H.plus [.cells 1 M.length (gs (lf f M.length))] ∧ s.get [] = .slice b 0 M.length v ∧ s.get [false, true] = G M.length ∧ s.get [true, true] = .slice H.size 0 M.length M.length ∧ s.get [true, false, false] = G k ∧ s.get [false, true, false] = G x ∧ s.get [true, true, false] = G y) (M := M.length) (fun y hy => ?_) ?_ (by simp) 0 (by omega)
  · refine Tr.w fun s1 H1 hp R kR => W.trim ?_
    obtain ⟨f, di, rfl, q⟩ := hp
    obtain ⟨rb, rv, er, gr⟩ := mx.r x hx
    have gb := mx.g
    have ea := row_at hm hx hy
    have ex : (gs (lf f M.length))[x]? = some (G (f x)) := gl_at f hx
    have ey : (gs (lf f M.length))[y]? = some (G (f y)) := gl_at f hy
    have er' := getI er
    have ea' := getI ea
    have ex' := getI ex
    have ey' := getI ey
    have gb' := fun c => plus_keep [c] gb (by simp)
    have gr' := fun c => plus_keep [c] gr (by simp)
    have lc := gl_len f M.length
    have bx : f x = -1 ∨ 0 ≤ f x := by
      by_cases c : f x = -1
      · exact .inl c
      · obtain ⟨d, e, _⟩ := di.a x hx c; exact .inr (by omega)
    have by' : f y = -1 ∨ 0 ≤ f y := by
      by_cases c : f y = -1
      · exact .inl c
      · obtain ⟨d, e, _⟩ := di.a y hy c; exact .inr (by omega)
    by_cases cc : f x = k ∧ 0 < ent M x y ∧ f y = -1
    · obtain ⟨c1, c2, c3⟩ := cc
      have di2 := di.set hm hx hy c1 c2 c3
      have es := upd_gs f hy ((k + 1 : Nat) : Int)
      rw [c1] at ex ex'
      rw [c3] at ey ey'
      clear mx di
      generalize hf2 : (fun z => if z = y then ((k + 1 : Nat) : Int) else f z) = f2 at *
      generalize hc1' : gs (lf f2 M.length) = c1' at *
      have es' : (gs (lf f M.length)).set y (G ((k : Int) + 1)) = c1' := es
      generalize gs (lf f M.length) = c0 at *
      generalize ent M x y = a at *
      generalize gs (M.getD x []) = cr at *
      have ex2 : ∃ f', DI M i k x (y + 1) f' ∧ H.plus [.cells 1 M.length c1'] = H.plus [.cells 1 M.length (gs (lf f' M.length))] := ⟨f2, di2, by rw [hc1']⟩
      generalize hn : M.length = n at *
      refine W.assoc ?_
      refine W.seq (W.chunk ?_)
      simp (disch := first | omega | exact getEq rfl | exact getO0 | exact Nat.le_of_ble_eq_true rfl) [c71_o13, app_growP, app_noneP, plus_N, plus_at0, put_plus0, put_plus1, upd_N, upd_size, q]
      refine W.seq (W.chunk ?_)
      simp (disch := first | omega | exact getEq rfl | exact getO0 | exact Nat.le_of_ble_eq_true rfl) [app_growP, app_noneP, plus_N, plus_at0, put_plus0, put_plus1, upd_N, upd_size, q]
      refine W.seq (W.block ?_)
      refine W.seq (W.chunk ?_)
      simp (disch := first | omega | exact getEq rfl | exact getO0 | exact Nat.le_of_ble_eq_true rfl) [c71_o14, app_growP, app_noneP, plus_N, plus_at0, put_plus0, put_plus1, upd_N, upd_size, q, gb', gr', er, er', ea, ea', ex, ex', ey, ey', lc]
      refine W.chunk ?_
      simp (disch := first | omega | exact getEq rfl | exact getO0 | exact Nat.le_of_ble_eq_true rfl) [c71_o15, app_growP, app_noneP, plus_N, plus_at0, put_plus0, put_plus1, upd_N, upd_size, q, lc, es']
      refine W.chunk ?_
      simp (disch := first | omega | exact getEq rfl | exact getO0 | exact Nat.le_of_ble_eq_true rfl) [c71_o16, app_growP, app_noneP, plus_N, plus_at0, put_plus0, put_plus1, upd_N, upd_size, q]
      exact kR _ _ (by obtain ⟨f', d1, d2⟩ := ex2; exact ⟨f', d1, d2, by simp [T.get, q]⟩)
    · have di2 := di.skip (fun q e q2 => cc ⟨q, e, q2⟩)
      have a0 := (ent_bd hm x y).1
      clear mx
      generalize hfx : f x = u at *
      generalize hfy : f y = w at *
      generalize hc0 : gs (lf f M.length) = c0 at *
      generalize ent M x y = a at *
      generalize gs (M.getD x []) = cr at *
      generalize hn : M.length = n at *
      by_cases h1 : u = k
      · subst h1
        by_cases h2 : 0 < a
        · have h3 : ¬ w = -1 := fun e => cc ⟨rfl, h2, e⟩
          refine W.assoc ?_
          refine W.seq (W.chunk ?_)
          simp (disch := first | omega | exact getEq rfl | exact getO0 | exact Nat.le_of_ble_eq_true rfl) [c71_o13, app_growP, app_noneP, plus_N, plus_at0, put_plus0, put_plus1, upd_N, upd_size, q]
          refine W.seq (W.chunk ?_)
          simp (disch := first | omega | exact getEq rfl | exact getO0 | exact Nat.le_of_ble_eq_true rfl) [app_growP, app_noneP, plus_N, plus_at0, put_plus0, put_plus1, upd_N, upd_size, q]
          refine W.seq (W.block ?_)
          refine W.seq (W.chunk ?_)
          simp (disch := first | omega | exact getEq rfl | exact getO0 | exact Nat.le_of_ble_eq_true rfl) [c71_o14, app_growP, app_noneP, plus_N, plus_at0, put_plus0, put_plus1, upd_N, upd_size, q, gb', gr', er, er', ea, ea', ex, ex', ey, ey', lc]
          refine W.chunk ?_
          simp (disch := first | omega | exact getEq rfl | exact getO0 | exact Nat.le_of_ble_eq_true rfl) [c71_o15, app_growP, app_noneP, plus_N, plus_at0, put_plus0, put_plus1, upd_N, upd_size, q]
          refine W.chunk ?_
          simp (disch := first | omega | exact getEq rfl | exact getO0 | exact Nat.le_of_ble_eq_true rfl) [c71_o16, app_growP, app_noneP, plus_N, plus_at0, put_plus0, put_plus1, upd_N, upd_size, q]
          exact kR _ _ ⟨f, di2, by rw [hc0], by simp [T.get, q]⟩
        · refine W.assoc ?_
          refine W.seq (W.chunk ?_)
          simp (disch := first | omega | exact getEq rfl | exact getO0 | exact Nat.le_of_ble_eq_true rfl) [c71_o13, app_growP, app_noneP, plus_N, plus_at0, put_plus0, put_plus1, upd_N, upd_size, q]
          refine W.seq (W.chunk ?_)
          simp (disch := first | omega | exact getEq rfl | exact getO0 | exact Nat.le_of_ble_eq_true rfl) [app_growP, app_noneP, plus_N, plus_at0, put_plus0, put_plus1, upd_N, upd_size, q]
          refine W.seq (W.block ?_)
          refine W.seq (W.chunk ?_)
          simp (disch := first | omega | exact getEq rfl | exact getO0 | exact Nat.le_of_ble_eq_true rfl) [c71_o14, app_growP, app_noneP, plus_N, plus_at0, put_plus0, put_plus1, upd_N, upd_size, q, gb', gr', er, er', ea, ea', ex, ex', ey, ey', lc]
          refine W.chunk ?_
          simp (disch := first | omega | exact getEq rfl | exact getO0 | exact Nat.le_of_ble_eq_true rfl) [c71_o15, app_growP, app_noneP, plus_N, plus_at0, put_plus0, put_plus1, upd_N, upd_size, q]
          refine W.chunk ?_
          simp (disch := first | omega | exact getEq rfl | exact getO0 | exact Nat.le_of_ble_eq_true rfl) [c71_o16, app_growP, app_noneP, plus_N, plus_at0, put_plus0, put_plus1, upd_N, upd_size, q]
          exact kR _ _ ⟨f, di2, by rw [hc0], by simp [T.get, q]⟩
      · refine W.assoc ?_
        refine W.seq (W.chunk ?_)
        simp (disch := first | omega | exact getEq rfl | exact getO0 | exact Nat.le_of_ble_eq_true rfl) [c71_o13, app_growP, app_noneP, plus_N, plus_at0, put_plus0, put_plus1, upd_N, upd_size, q]
        refine W.seq (W.chunk ?_)
        simp (disch := first | omega | exact getEq rfl | exact getO0 | exact Nat.le_of_ble_eq_true rfl) [app_growP, app_noneP, plus_N, plus_at0, put_plus0, put_plus1, upd_N, upd_size, q]
        refine W.seq (W.block ?_)
        refine W.seq (W.chunk ?_)
        simp (disch := first | omega | exact getEq rfl | exact getO0 | exact Nat.le_of_ble_eq_true rfl) [c71_o14, app_growP, app_noneP, plus_N, plus_at0, put_plus0, put_plus1, upd_N, upd_size, q, gb', gr', er, er', ea, ea', ex, ex', ey, ey', lc]
        refine W.chunk ?_
        simp (disch := first | omega | exact getEq rfl | exact getO0 | exact Nat.le_of_ble_eq_true rfl) [c71_o15, app_growP, app_noneP, plus_N, plus_at0, put_plus0, put_plus1, upd_N, upd_size, q]
        refine W.chunk ?_
        simp (disch := first | omega | exact getEq rfl | exact getO0 | exact Nat.le_of_ble_eq_true rfl) [c71_o16, app_growP, app_noneP, plus_N, plus_at0, put_plus0, put_plus1, upd_N, upd_size, q]
        exact kR _ _ ⟨f, di2, by rw [hc0], by simp [T.get, q]⟩
  · refine Tr.w fun s1 H1 hp R kR => W.trim ?_
    obtain ⟨f, di, rfl, q⟩ := hp
    clear mx
    generalize hn : M.length = n at *
    refine W.assoc ?_
    refine W.seq (W.chunk ?_)
    simp (disch := first | omega | exact getEq rfl | exact getO0 | exact Nat.le_of_ble_eq_true rfl) [c71_o13, app_growP, app_noneP, plus_N, plus_at0, put_plus0, put_plus1, upd_N, upd_size, q]
    refine W.seq (W.chunk ?_)
    simp (disch := first | omega | exact getEq rfl | exact getO0 | exact Nat.le_of_ble_eq_true rfl) [app_growP, app_noneP, plus_N, plus_at0, put_plus0, put_plus1, upd_N, upd_size, q]
    exact kR _ _ ⟨f, di, by simp [T.get, q]⟩
theorem c71_x (J : CallF) (hm : isMat M = true) {H : Heap} {b v i k : Nat} {cs : List AV} (mx : MX H M b v cs) (hk : k < M.length) :
    Tr tbl J c71_l2 (fun s h => ∃ f, DI M i k 0 0 f ∧ h = H.plus [.cells 1 M.length (gs (lf f M.length))] ∧ s.get [] = .slice b 0 M.length v ∧ s.get [false, true] = G M.length ∧ s.get [true, true] = .slice H.size 0 M.length M.length ∧ s.get [true, false, false] = G k ∧ s.get [false, true, false] = G ((0 : Nat) : Int)) (.exit 4)
      (fun s h => ∃ f, DI M i k M.length 0 f ∧ h = H.plus [.cells 1 M.length (gs (lf f M.length))] ∧ s.get [] = .slice b 0 M.length v ∧ s.get [false, true] = G M.length ∧ s.get [true, true] = .slice H.size 0 M.length M.length ∧ s.get [true, false, false] = G k) := by
  have h8 := isMat_n hm
  refine Tr.rounds (P := fun x s h => ∃ f, DI M i k x 0 f ∧ h = H.plus [.cells 1 M.length (gs (lf f M.length))] ∧ s.get [] = .slice b 0 M.length v ∧ s.get [false, true] = G M.length ∧ s.get [true, true] = .slice H.size 0 M.length M.length ∧ s.get [true, false, false] = G k ∧ s.get [false, true, false] = G x) (M := M.length) (fun x hx => ?_) ?_ (by simp) 0 (by omega)
  · refine Tr.w fun s1 H1 hp R kR => W.trim ?_
    obtain ⟨f, di, rfl, q⟩ := hp
    have l1 := c71_y (i := i) J hm mx hx hk
    have ex : ∃ f', DI M i k x 0 f' ∧ H.plus [.cells 1 M.length (gs (lf f M.length))] = H.plus [.cells 1 M.length (gs (lf f' M.length))] := ⟨f, di, rfl⟩
    clear mx di
    generalize hc : gs (lf f M.length) = c0 at *
    generalize hn : M.length = n at *
    refine W.assoc ?_
    refine W.seq (W.chunk ?_)
    simp (disch := first | omega | exact getEq rfl | exact getO0 | exact Nat.le_of_ble_eq_true rfl) [c71_o11, app_growP, app_noneP, plus_N, plus_at0, put_plus0, put_plus1, upd_N, upd_size, q]
    refine W.seq (W.chunk ?_)
    simp (disch := first | omega | exact getEq rfl | exact getO0 | exact Nat.le_of_ble_eq_true rfl) [app_growP, app_noneP, plus_N, plus_at0, put_plus0, put_plus1, upd_N, upd_size, q]
    refine W.seq (W.block ?_)
    refine W.seq (W.chunk ?_)
    simp (disch := first | omega | exact getEq rfl | exact getO0 | exact Nat.le_of_ble_eq_true rfl) [c71_o12, app_growP, app_noneP, plus_N, plus_at0, put_plus0, put_plus1, upd_N, upd_size, q]
    refine W.block ?_
    refine W.use (l1) (by simp (disch := first | omega | exact getEq rfl | exact getO0 | exact Nat.le_of_ble_eq_true rfl) [app_growP, app_noneP, plus_N, plus_at0, put_plus0, put_plus1, upd_N, upd_size, q, ex]) fun s1 H1 hp => ?_
    obtain ⟨f2, di2, rfl, q⟩ := hp
    try simp only [thenW_n, thenW_e, thenW_r, blkW_n, blkW_e, blkW_r, if_true]
    refine W.chunk ?_
    simp (disch := first | omega | exact getEq rfl | exact getO0 | exact Nat.le_of_ble_eq_true rfl) [c71_o17, app_growP, app_noneP, plus_N, plus_at0, put_plus0, put_plus1, upd_N, upd_size, q]
    subst hn
    exact kR _ _ ⟨f2, di2.nextx hm, by simp [T.get, q]⟩
  · refine Tr.w fun s1 H1 hp R kR => W.trim ?_
    obtain ⟨f, di, rfl, q⟩ := hp
    clear mx
    generalize hn : M.length = n at *
    refine W.assoc ?_
    refine W.seq (W.chunk ?_)
    simp (disch := first | omega | exact getEq rfl | exact getO0 | exact Nat.le_of_ble_eq_true rfl) [c71_o11, app_growP, app_noneP, plus_N, plus_at0, put_plus0, put_plus1, upd_N, upd_size, q]
    refine W.seq (W.chunk ?_)
    simp (disch := first | omega | exact getEq rfl | exact getO0 | exact Nat.le_of_ble_eq_true rfl) [app_growP, app_noneP, plus_N, plus_at0, put_plus0, put_plus1, upd_N, upd_size, q]
    exact kR _ _ ⟨f, di, by simp [T.get, q]⟩
theorem c71_k (J : CallF) (hm : isMat M = true) {H : Heap} {b v i : Nat} {cs : List AV} (mx : MX H M b v cs) (hi : i < M.length) :
    Tr tbl J c71_l3 (fun s h => ∃ f, DI M i 0 0 0 f ∧ h = H.plus [.cells 1 M.length (gs (lf f M.length))] ∧ s.get [] = .slice b 0 M.length v ∧ s.get [false, true] = G M.length ∧ s.get [true, true] = .slice H.size 0 M.length M.length ∧ s.get [true, false, false] = G ((0 : Nat) : Int)) (.exit 2)
      (fun s h => h = H.plus [.cells 1 M.length (gs (lf (dsN M i) M.length))] ∧ s.get [true, true] = .slice H.size 0 M.length M.length) := by
  have h8 := isMat_n hm
  refine Tr.rounds (P := fun k s h => ∃ f, DI M i k 0 0 f ∧ h = H.plus [.cells 1 M.length (gs (lf f M.length))] ∧ s.get [] = .slice b 0 M.length v ∧ s.get [false, true] = G M.length ∧ s.get [true, true] = .slice H.size 0 M.length M.length ∧ s.get [true, false, false] = G k) (M := M.length) (fun k hk => ?_) ?_ (by simp) 0 (by omega)
  · refine Tr.w fun s1 H1 hp R kR => W.trim ?_
    obtain ⟨f, di, rfl, q⟩ := hp
    have l2 := c71_x (i := i) J hm mx hk
    have ex : ∃ f', DI M i k 0 0 f' ∧ H.plus [.cells 1 M.length (gs (lf f M.length))] = H.plus [.cells 1 M.length (gs (lf f' M.length))] := ⟨f, di, rfl⟩
    clear mx di
    generalize hc : gs (lf f M.length) = c0 at *
    generalize hn : M.length = n at *
    refine W.assoc ?_
    refine W.seq (W.chunk ?_)
    simp (disch := first | omega | exact getEq rfl | exact getO0 | exact Nat.le_of_ble_eq_true rfl) [c71_o9, app_growP, app_noneP, plus_N, plus_at0, put_plus0, put_plus1, upd_N, upd_size, q]
    refine W.seq (W.chunk ?_)
    simp (disch := first | omega | exact getEq rfl | exact getO0 | exact Nat.le_of_ble_eq_true rfl) [app_growP, app_noneP, plus_N, plus_at0, put_plus0, put_plus1, upd_N, upd_size, q]
    refine W.seq (W.block ?_)
    refine W.seq (W.chunk ?_)
    simp (disch := first | omega | exact getEq rfl | exact getO0 | exact Nat.le_of_ble_eq_true rfl) [c71_o10, app_growP, app_noneP, plus_N, plus_at0, put_plus0, put_plus1, upd_N, upd_size, q]
    refine W.block ?_
    refine W.use (l2) (by simp (disch := first | omega | exact getEq rfl | exact getO0 | exact Nat.le_of_ble_eq_true rfl) [app_growP, app_noneP, plus_N, plus_at0, put_plus0, put_plus1, upd_N, upd_size, q, ex]) fun s1 H1 hp => ?_
    obtain ⟨f2, di2, rfl, q⟩ := hp
    try simp only [thenW_n, thenW_e, thenW_r, blkW_n, blkW_e, blkW_r, if_true]
    refine W.chunk ?_
    simp (disch := first | omega | exact getEq rfl | exact getO0 | exact Nat.le_of_ble_eq_true rfl) [c71_o18, app_growP, app_noneP, plus_N, plus_at0, put_plus0, put_plus1, upd_N, upd_size, q]
    subst hn
    exact kR _ _ ⟨f2, di2.nextk hm, by simp [T.get, q]⟩
  · refine Tr.w fun s1 H1 hp R kR => W.trim ?_
    obtain ⟨f, di, rfl, q⟩ := hp
    rw [show lf f M.length = lf (dsN M i) M.length from lf_ext _ _ _ fun z hz => di.done hm hi hz]
    clear mx
    generalize hc : gs (lf (dsN M i) M.length) = c0 at *
    generalize hn : M.length = n at *
    refine W.assoc ?_
    refine W.seq (W.chunk ?_)
    simp (disch := first | omega | exact getEq rfl | exact getO0 | exact Nat.le_of_ble_eq_true rfl) [c71_o9, app_growP, app_noneP, plus_N, plus_at0, put_plus0, put_plus1, upd_N, upd_size, q]
    refine W.seq (W.chunk ?_)
    simp (disch := first | omega | exact getEq rfl | exact getO0 | exact Nat.le_of_ble_eq_true rfl) [app_growP, app_noneP, plus_N, plus_at0, put_plus0, put_plus1, upd_N, upd_size, q]
    exact kR _ _ (by simp [T.get, q])
def m1F (z x : Nat) : Int := if x < z then -1 else 0
theorem c71_l0_ok (J : CallF) {H : Heap} {y : AV} {n i : Nat} (h8 : n ≤ 8) : Tr tbl J c71_l0 (fun s h => h = H.plus [.cells 1 n (gs (lf (m1F 0) n))] ∧ s.get [] = y ∧ s.get [false] = G i ∧ s.get [false, true] = G n ∧ s.get [true, true] = .slice H.size 0 n n ∧ s.get [false, false, false] = G ((0 : Nat) : Int)) (.exit 0) (fun s h => h = H.plus [.cells 1 n (gs (lf (m1F n) n))] ∧ s.get [] = y ∧ s.get [false] = G i ∧ s.get [false, true] = G n ∧ s.get [true, true] = .slice H.size 0 n n) := by
  refine Tr.rounds (P := fun z => (fun s h => h = H.plus [.cells 1 n (gs (lf (m1F z) n))] ∧ s.get [] = y ∧ s.get [false] = G i ∧ s.get [false, true] = G n ∧ s.get [true, true] = .slice H.size 0 n n ∧ s.get [false, false, false] = G z)) (M := n) (fun z hz => ?_) ?_ (by simp) 0 (by omega)
  · refine Tr.w fun s1 H1 hp R kR => W.trim ?_
    obtain ⟨rfl, q⟩ := hp
    have es : (gs (lf (m1F z) n)).set z (G (-1)) = gs (lf (m1F (z + 1)) n) := by
      rw [gl_set _ _ _ _ hz]
      congr 1
      apply lf_ext
      intro x hx
      unfold m1F
      by_cases e : x = z
      · rw [if_pos e, if_pos (by omega)]
      · rw [if_neg e]
        by_cases c : x < z
        · rw [if_pos c, if_pos (by omega)]
        · rw [if_neg c, if_neg (by omega)]
    have lc := gl_len (m1F z) n
    generalize gs (lf (m1F (z + 1)) n) = c1 at *
    generalize gs (lf (m1F z) n) = c0 at *
    refine W.assoc ?_
    refine W.seq (W.chunk ?_)
    simp (disch := first | omega | exact getEq rfl | exact getO0 | exact Nat.le_of_ble_eq_true rfl) [c71_o4, app_growP, app_noneP, plus_N, plus_at0, put_plus0, put_plus1, upd_N, upd_size, q]
    refine W.seq (W.chunk ?_)
    simp (disch := first | omega | exact getEq rfl | exact getO0 | exact Nat.le_of_ble_eq_true rfl) [app_growP, app_noneP, plus_N, plus_at0, put_plus0, put_plus1, upd_N, upd_size, q]
    refine W.seq (W.block ?_)
    refine W.chunk ?_
    simp (disch := first | omega | exact getEq rfl | exact getO0 | exact Nat.le_of_ble_eq_true rfl) [c71_o5, app_growP, app_noneP, plus_N, plus_at0, put_plus0, put_plus1, upd_N, upd_size, q, lc, es]
    refine W.chunk ?_
    simp (disch := first | omega | exact getEq rfl | exact getO0 | exact Nat.le_of_ble_eq_true rfl) [c71_o6, app_growP, app_noneP, plus_N, plus_at0, put_plus0, put_plus1, upd_N, upd_size, q]
    exact kR _ _ (by simp [T.get, q])
  · refine Tr.w fun s1 H1 hp R kR => W.trim ?_
    obtain ⟨rfl, q⟩ := hp
    refine W.assoc ?_
    refine W.seq (W.chunk ?_)
    simp (disch := first | omega | exact getEq rfl | exact getO0 | exact Nat.le_of_ble_eq_true rfl) [c71_o4, app_growP, app_noneP, plus_N, plus_at0, put_plus0, put_plus1, upd_N, upd_size, q]
    refine W.seq (W.chunk ?_)
    simp (disch := first | omega | exact getEq rfl | exact getO0 | exact Nat.le_of_ble_eq_true rfl) [app_growP, app_noneP, plus_N, plus_at0, put_plus0, put_plus1, upd_N, upd_size, q]
    exact kR _ _ (by simp [T.get, q])
theorem c71_ok (J : CallF) (hJ : ∀ a h, J 71 a h = none) (h : Heap) {y : AV} (hy : MR h y M) (hm : isMat M = true) {i : Nat} (hi : i < M.length) : ∃ v own, CallsTo tbl J 71 [y, G i] h (v, own, false) ∧ NG h (h.plus own) v (lf (dsN M i) M.length) := by
  refine Tr.fny (cf := c71) (e := .ret) (s := T.set (T.set .leaf [] y) [false] (G i)) (by decide) rfl (hJ _ _) rfl rfl (by simp) ?_
  have h8 := isMat_n hm
  obtain ⟨b, v, cs, rfl, mx⟩ := (hy.lo []).mx hm
  have mx : MX (frameOf h) M b v cs := mx
  have l0 := c71_l0_ok (y := .slice b 0 M.length v) (i := i) (H := frameOf h) J h8.2
  have l3 := c71_k J hm mx hi
  have mk1 := fun H => mkSl_ok H 8 (G 0) M.length (M.length : Int) rfl (by omega)
  have rp := gl_rep M.length
  have e0 : gs (lf (m1F 0) M.length) = gs (lf (fun _ => 0) M.length) := by
    congr 1
  have es : (gs (lf (m1F M.length) M.length)).set i (G 0) = gs (lf (fun z => if z = i then 0 else -1) M.length) := by
    rw [gl_set _ _ _ _ hi]
    congr 1
    apply lf_ext
    intro x hx
    unfold m1F
    by_cases e : x = i
    · rw [if_pos e, if_pos e]
    · rw [if_neg e, if_neg e, if_pos hx]
  have lc := gl_len (m1F M.length) M.length
  have ex : ∃ f', DI M i 0 0 0 f' ∧ (frameOf h).plus [.cells 1 M.length (gs (lf (fun z => if z = i then 0 else -1) M.length))] = (frameOf h).plus [.cells 1 M.length (gs (lf f' M.length))] := ⟨_, DI.init, rfl⟩
  have ng : NG (frameOf h) ((frameOf h).plus [.cells 1 M.length (gs (lf (dsN M i) M.length))]) (.slice (frameOf h).size 0 M.length M.length) (lf (dsN M i) M.length) := ⟨Kp.plus _ _, fun q hq => by cases hq; exact Nat.le_refl _, .inr ⟨(frameOf h).size, by rw [gl_len], by rw [gl_len]; exact plus_at0 _ _ _ _ rfl, by show (frameOf h).N ≤ _; simp [frameOf, Heap.size]⟩⟩
  rw [e0] at l0
  clear mx hy e0
  refine Tr.w fun s1 H1 hp R kR => ?_
  obtain ⟨rfl, rfl⟩ := hp
  have q : True := trivial
  generalize gs (lf (m1F M.length) M.length) = c1 at *
  generalize gs (lf (fun z => if z = i then 0 else -1) M.length) = c2 at *
  generalize gs (lf (fun _ => 0) M.length) = cz at *
  refine W.seq (W.chunk ?_)
  simp (disch := first | omega | exact getEq rfl | exact getO0 | exact Nat.le_of_ble_eq_true rfl) [c71_o0, app_growP, app_noneP, plus_N, plus_at0, put_plus0, put_plus1, upd_N, upd_size, q]
  refine W.seq (W.chunk ?_)
  simp (disch := first | omega | exact getEq rfl | exact getO0 | exact Nat.le_of_ble_eq_true rfl) [c71_o1, app_growP, app_noneP, plus_N, plus_at0, put_plus0, put_plus1, upd_N, upd_size, q]
  refine W.seq (W.chunk ?_)
  simp (disch := first | omega | exact getEq rfl | exact getO0 | exact Nat.le_of_ble_eq_true rfl) [-act, c71_o2, app_growP, app_noneP, plus_N, plus_at0, put_plus0, put_plus1, upd_N, upd_size, q, act_move, act_mkSl, mk1, rp]
  refine W.assoc ?_
  refine W.seq (W.chunk ?_)
  simp (disch := first | omega | exact getEq rfl | exact getO0 | exact Nat.le_of_ble_eq_true rfl) [c71_o3, app_growP, app_noneP, plus_N, plus_at0, put_plus0, put_plus1, upd_N, upd_size, q]
  refine W.seq (W.block ?_)
  refine W.use (l0) (by simp (disch := first | omega | exact getEq rfl | exact getO0 | exact Nat.le_of_ble_eq_true rfl) [app_growP, app_noneP, plus_N, plus_at0, put_plus0, put_plus1, upd_N, upd_size, q]) fun s1 H1 hp => ?_
  obtain ⟨rfl, q⟩ := hp
  try simp only [thenW_n, thenW_e, thenW_r, blkW_n, blkW_e, blkW_r, if_true]
  refine W.seq (W.chunk ?_)
  simp (disch := first | omega | exact getEq rfl | exact getO0 | exact Nat.le_of_ble_eq_true rfl) [c71_o7, app_growP, app_noneP, plus_N, plus_at0, put_plus0, put_plus1, upd_N, upd_size, q, lc, es]
  refine W.assoc ?_
  refine W.seq (W.chunk ?_)
  simp (disch := first | omega | exact getEq rfl | exact getO0 | exact Nat.le_of_ble_eq_true rfl) [c71_o8, app_growP, app_noneP, plus_N, plus_at0, put_plus0, put_plus1, upd_N, upd_size, q]
  refine W.seq (W.block ?_)
  refine W.use (l3) (by simp (disch := first | omega | exact getEq rfl | exact getO0 | exact Nat.le_of_ble_eq_true rfl) [app_growP, app_noneP, plus_N, plus_at0, put_plus0, put_plus1, upd_N, upd_size, q, ex]) fun s1 H1 hp => ?_
  obtain ⟨rfl, q⟩ := hp
  try simp only [thenW_n, thenW_e, thenW_r, blkW_n, blkW_e, blkW_r, if_true]
  refine W.seq (W.chunk ?_)
  simp (disch := first | omega | exact getEq rfl | exact getO0 | exact Nat.le_of_ble_eq_true rfl) [c71_o19, app_growP, app_noneP, plus_N, plus_at0, put_plus0, put_plus1, upd_N, upd_size, q]
  refine W.ret ?_
  try simp only [thenW_n, thenW_e, thenW_r, blkW_n, blkW_e, blkW_r, if_true]
  exact kR _ _ ⟨[.slice (frameOf h).size 0 M.length M.length], by simp [T.get, c71, evRess, evRes], ng.fr0⟩
end
structure AI where
  M : List (List Int)
  y : AV
  i : Nat
def OkI (a : AI) (h : Heap) : Prop := MR h a.y a.M ∧ isMat a.M = true ∧ a.i < a.M.length
def PreI (a : AI) (args : List AV) (h : Heap) : Prop := OkI a h ∧ args = [a.y, G a.i]
def Post71 (a : AI) (h : Heap) (v : AV) (own : List AObj) : Prop := NG h (h.plus own) v (lf (dsN a.M a.i) a.M.length)
noncomputable def T24 : CallF := addK tbl T23 71 PreI Post71
theorem t24 : Sound Go.Proofs.Try.prog T24 := Sound.addK follows ok t23 (by decide) _ _
abbrev K71 (J : CallF) : Prop := ∀ (h : Heap) (a : AI), OkI a h → ∃ v own, J 71 [a.y, G a.i] h = some (v, own, false) ∧ NG h (h.plus own) v (lf (dsN a.M a.i) a.M.length)
theorem k71 : K71 T24 := fun h a ha => addK_some (Pre := PreI) (Post := Post71) (fun a args h hp => by
  obtain ⟨⟨hy, hm, hi⟩, rfl⟩ := hp
  exact c71_ok T23 (fun _ _ => by simp (disch := decide) only [T23, T22, T21, T20, T19, T18, T17, T16, T15, T14, T13, T12, T11, T10, T9, T8, T7, T6, T5, T4, T3, T2, T1, R21, R20, R19, R18, R17, R16, R15, R14, R13, R12, R11, R10, R9, R8, R7, R6, R5, R4, R3, R2, R1, addI_ne, addX_ne, addV_ne, addK_ne]; rfl) h hy hm hi) a _ h ⟨ha, rfl⟩
end Go.Proofs.Ytjeemgaoonapgaa.Ev
set_option linter.unusedVariables false
set_option linter.unusedSimpArgs false
namespace Go.Proofs.Ytjeemgaoonapgaa.Ev
open Go Go.AEv
attribute [local simp] evFunc initS evOps_c evTrim_c evSkip_c evExit_c evRet_c evSeq_c evCond_c evBlock_c evDraw_c runOps_n runOps_c exec_n exec_g pure1_c act AOpd.ev T.get T.set T.put evBin evUn forceT_eq forceV_eq forceL_eq evRess evRes one keep runFP_n runFP_c app_none AV.flats AV.flat came_some List.getElem?_cons_zero List.getElem?_cons_succ beqT wrapI idxI tdivI tmodI decT decF ibT ibF inT inF evScope_c if_pos if_neg Cm_some thenW_n thenW_e thenW_r blkW_n blkW_e blkW_r goI kn putAt AV.cells fillA loadA takeA mk Eff.isAll Eff.isNone Eff.commutes Eff.spares okPair apart eqAgg fits LK.fits allEq aveq eqk mmA
section
variable {M : List (List Int)}
structure PI (M : List (List Int)) (i0 : Nat) (f : Nat → Int) (x y p : Nat) : Prop where
  g : ∀ g, (∀ k, Wk M k i0 i0 → g ∣ k) → g ∣ p
  d : ∀ u v, (u < x ∨ (u = x ∧ v < y)) → Mu M i0 u → Mu M i0 v → 0 < ent M u v → (p : Int) ∣ f u + 1 - f v
  b : p ≤ 100
theorem PI.skip {i0 x y p : Nat} {f : Nat → Int} (l : PI M i0 f x y p) (h : ¬ (Mu M i0 x ∧ Mu M i0 y ∧ 0 < ent M x y)) : PI M i0 f x (y + 1) p :=
  ⟨l.g, fun u v c mu mv e => by
    by_cases cc : u = x ∧ v = y
    · rw [cc.1, cc.2] at e; rw [cc.1] at mu; rw [cc.2] at mv; exact absurd ⟨mu, mv, e⟩ h
    · exact l.d u v (by omega) mu mv e, l.b⟩
theorem PI.take {i0 x y p : Nat} {f : Nat → Int} (hf : ∀ z, Mu M i0 z → ∃ d : Nat, f z = d ∧ Wk M d i0 z) (l : PI M i0 f x y p) (mx : Mu M i0 x) (my : Mu M i0 y) (e : 0 < ent M x y) (hb : (f x + 1 - f y).natAbs ≤ 100) : PI M i0 f x (y + 1) (Nat.gcd p (f x + 1 - f y).natAbs) := by
  refine ⟨fun g hg => ?_, fun u v c mu mv ee => ?_, ?_⟩
  · refine Nat.dvd_gcd (l.g g hg) ?_
    have := edge_dvd hf hg mx my e
    exact Int.ofNat_dvd_left.1 this
  · by_cases cc : u = x ∧ v = y
    · rw [cc.1, cc.2]
      exact Int.ofNat_dvd_left.2 (Nat.gcd_dvd_right _ _)
    · have h1 := l.d u v (by omega) mu mv ee
      exact Int.dvd_trans (Int.natCast_dvd_natCast.2 (Nat.gcd_dvd_left _ _)) h1
  · by_cases c : p = 0
    · subst c; rw [Nat.gcd_zero_left]; exact hb
    · have := Nat.gcd_le_left (n := (f x + 1 - f y).natAbs) (Nat.pos_of_ne_zero c)
      have := l.b
      omega
theorem PI.nextx (hm : isMat M = true) {i0 x p : Nat} {f : Nat → Int} (l : PI M i0 f x M.length p) : PI M i0 f (x + 1) 0 p :=
  ⟨l.g, fun u v c mu mv e => l.d u v (by
    have := (ent_lt hm e).2
    omega) mu mv e, l.b⟩
theorem PI.init {i0 : Nat} {f : Nat → Int} : PI M i0 f 0 0 0 := ⟨fun g _ => ⟨0, rfl⟩, fun u v c => absurd c (by omega), by omega⟩
theorem PI.done (hm : isMat M = true) {i0 p : Nat} {f : Nat → Int} (f0 : f i0 = 0) (hf : ∀ z, Mu M i0 z → ∃ d : Nat, f z = d ∧ Wk M d i0 z) (l : PI M i0 f M.length 0 p) : PerS M i0 p :=
  per_of f0 hf (fun u v mu mv e => l.d u v (.inl (ent_lt hm e).1) mu mv e) l.g
theorem ds_mu (hm : isMat M = true) {i z : Nat} (hi : i < M.length) (m : Mu M i z) : ∃ d : Nat, dsN M i z = d ∧ Wk M d i z ∧ d < M.length := by
  obtain ⟨k, hk, w⟩ := m.1.short hm hi
  obtain ⟨d, hd, f⟩ := w.first
  exact ⟨d, dsN_eq f, f.1, by omega⟩
theorem ds_0 (i : Nat) : dsN M i i = 0 := dsN_eq (d := 0) ⟨rfl, fun k hk => absurd hk (by omega)⟩
theorem n51_12 (J : CallF) (k76 : K76 J) {H : Heap} {y0 c0 : AV} {xo : AV} {qd n i x y p : Nat} {cd : List AV} {a b : Int} (gd : H.get qd = .cells 1 n cd) (ea : cd[x]? = some (G a)) (eb : cd[y]? = some (G b)) (hx : x < n) (hy : y < n) (h8 : n ≤ 8) (ha : 0 ≤ a ∧ a ≤ 8) (hb : 0 ≤ b ∧ b ≤ 8) (hp : p ≤ 100) :
    Tr tbl J c51_o12 (fun s h => h = H ∧ s.get [] = y0 ∧ s.get [false, false] = c0 ∧ s.get [true, false] = xo ∧ s.get [false, true] = G i ∧ s.get [true, true] = .slice qd 0 n n ∧ s.get [false, false, false] = G p ∧ s.get [true, false, false] = G x ∧ s.get [false, true, false] = G y) .normal (fun s h => h = H ∧ s.get [] = y0 ∧ s.get [false, false] = c0 ∧ s.get [true, false] = xo ∧ s.get [false, true] = G i ∧ s.get [true, true] = .slice qd 0 n n ∧ s.get [false, false, false] = G (Nat.gcd p (a + 1 - b).natAbs) ∧ s.get [true, false, false] = G x ∧ s.get [false, true, false] = G y) := by
  have ea' := getI ea
  have eb' := getI eb
  refine Tr.w fun s1 H1 hp' R kR => ?_
  obtain ⟨rfl, q⟩ := hp'
  by_cases c : 0 ≤ a + 1 - b
  · obtain ⟨t, ht⟩ : ∃ t : Nat, a + 1 - b = t := ⟨(a + 1 - b).toNat, by omega⟩
    have k := fun h => k76 p t h (by omega) (by omega) (by omega) (by omega)
    simp only [Int.toNat_natCast] at k
    rw [ht, Int.natAbs_natCast] at kR
    have h2 : ¬ (t : Int) < b - a - 1 := by omega
    refine W.chunk ?_
    simp (disch := first | omega | exact getEq rfl | exact getO0 | exact Nat.le_of_ble_eq_true rfl) [c51_o12, app_growP, app_noneP, plus_N, plus_at0, put_plus0, put_plus1, upd_N, upd_size, q, gd, ea, ea', eb, eb', ht, h2, k, -evDraw_c, evDraw_0]
    exact kR _ _ (by simp [T.get, q])
  · obtain ⟨t, ht⟩ : ∃ t : Nat, b - a - 1 = t := ⟨(b - a - 1).toNat, by omega⟩
    have k := fun h => k76 p t h (by omega) (by omega) (by omega) (by omega)
    simp only [Int.toNat_natCast] at k
    rw [show (a + 1 - b).natAbs = t by omega] at kR
    have h2 : a + 1 - b < (t : Int) := by omega
    refine W.chunk ?_
    simp (disch := first | omega | exact getEq rfl | exact getO0 | exact Nat.le_of_ble_eq_true rfl) [c51_o12, app_growP, app_noneP, plus_N, plus_at0, put_plus0, put_plus1, upd_N, upd_size, q, gd, ea, ea', eb, eb', ht, h2, k, -evDraw_c, evDraw_0]
    exact kR _ _ (by simp [T.get, q])
structure C51 (H : Heap) (M : List (List Int)) (b v qc qd : Nat) (cs : List AV) (i0 : Nat) : Prop where
  mx : MX H M b v cs
  gc : H.get qc = .cells 1 M.length (gs (clsL M))
  gd : H.get qd = .cells 1 M.length (gs (lf (dsN M i0) M.length))
theorem c51_y (J : CallF) (k76 : K76 J) (hm : isMat M = true) {H : Heap} {b v qc qd i x : Nat} {cs : List AV} {xo : AV} (C : C51 H M b v qc qd cs (clN M i)) (hi : i < M.length) (hx : x < M.length) :
    Tr tbl J c51_l0 (fun s h => ∃ p, PI M (clN M i) (dsN M (clN M i)) x 0 p ∧ h = H ∧ s.get [] = .slice b 0 M.length v ∧ s.get [false, false] = .slice qc 0 M.length M.length ∧ s.get [true, false] = xo ∧ s.get [false, true] = G i ∧ s.get [true, true] = .slice qd 0 M.length M.length ∧ s.get [false, false, false] = G p ∧ s.get [true, false, false] = G x ∧ s.get [false, true, false] = G ((0 : Nat) : Int)) (.exit 4)
      (fun s h => ∃ p, PI M (clN M i) (dsN M (clN M i)) x M.length p ∧ h = H ∧ s.get [] = .slice b 0 M.length v ∧ s.get [false, false] = .slice qc 0 M.length M.length ∧ s.get [true, false] = xo ∧ s.get [false, true] = G i ∧ s.get [true, true] = .slice qd 0 M.length M.length ∧ s.get [false, false, false] = G p ∧ s.get [true, false, false] = G x) := by
  have h8 := isMat_n hm
  refine Tr.rounds (P := fun y s h => ∃ p, PI M (clN M i) (dsN M (clN M i)) x y p ∧ h = H ∧ s.get [] = .slice b 0 M.length v ∧ s.get [false, false] = .slice qc 0 M.length M.length ∧ s.get [true, false] = xo ∧ s.get [false, true] = G i ∧ s.get [true, true] = .slice qd 0 M.length M.length ∧ s.get [false, false, false] = G p ∧ s.get [true, false, false] = G x ∧ s.get [false, true, false] = G y) (M := M.length) (fun y hy => ?_) ?_ (by simp) 0 (by omega)
  · refine Tr.w fun s1 H1 hp R kR => W.trim ?_
    obtain ⟨p, pi, rfl, q⟩ := hp
    obtain ⟨rb, rv, er, gr⟩ := C.mx.r x hx
    obtain ⟨n1, n2, n3⟩ := clN_ok hm hi
    have hcn : clN M i < M.length := by omega
    have gb := C.mx.g
    have gc := C.gc
    have ee := row_at hm hx hy
    have ci : (gs (clsL M))[i]? = some (G (clN M i)) := gl_at _ hi
    have cx : (gs (clsL M))[x]? = some (G (clN M x)) := gl_at _ hx
    have cy : (gs (clsL M))[y]? = some (G (clN M y)) := gl_at _ hy
    have er' := getI er
    have ee' := getI ee
    have ci' := getI ci
    have cx' := getI cx
    have cy' := getI cy
    have ex : clN M x = clN M i ↔ Mu M (clN M i) x := by
      rw [clN_eq hm hx hi]
      exact ⟨fun m => n2.symm.trans m.symm, fun m => (n2.trans m).symm⟩
    have ey : clN M y = clN M i ↔ Mu M (clN M i) y := by
      rw [clN_eq hm hy hi]
      exact ⟨fun m => n2.symm.trans m.symm, fun m => (n2.trans m).symm⟩
    have a0 := (ent_bd hm x y).1
    by_cases cc : Mu M (clN M i) x ∧ Mu M (clN M i) y ∧ 0 < ent M x y
    · obtain ⟨m1, m2, m3⟩ := cc
      obtain ⟨dx, d1, d2, d3⟩ := ds_mu hm hcn m1
      obtain ⟨dy, d4, d5, d6⟩ := ds_mu hm hcn m2
      have pi2 := pi.take (fun z m => by obtain ⟨d, a, b, _⟩ := ds_mu hm hcn m; exact ⟨d, a, b⟩) m1 m2 m3 (by omega)
      have t12 := n51_12 (y0 := .slice b 0 M.length v) (c0 := .slice qc 0 M.length M.length) (xo := xo) (i := i) (p := p) J k76 C.gd (gl_at _ hx) (gl_at _ hy) hx hy h8.2 (by omega) (by omega) pi.b
      have e1 := ex.2 m1
      have e2 := ey.2 m2
      rw [e1] at cx cx'
      rw [e2] at cy cy'
      clear C pi d2 d5 n2 n3 ex ey m1 m2
      generalize hg : Nat.gcd p (dsN M (clN M i) x + 1 - dsN M (clN M i) y).natAbs = p2 at *
      generalize ent M x y = a at *
      generalize gs (M.getD x []) = cr at *
      generalize gs (clsL M) = cc at *
      refine W.assoc ?_
      refine W.seq (W.chunk ?_)
      simp (disch := first | omega | exact getEq rfl | exact getO0 | exact Nat.le_of_ble_eq_true rfl) [c51_o10, app_growP, app_noneP, plus_N, plus_at0, put_plus0, put_plus1, upd_N, upd_size, q]
      refine W.seq (W.chunk ?_)
      simp (disch := first | omega | exact getEq rfl | exact getO0 | exact Nat.le_of_ble_eq_true rfl) [app_growP, app_noneP, plus_N, plus_at0, put_plus0, put_plus1, upd_N, upd_size, q]
      refine W.seq (W.block ?_)
      refine W.seq (W.chunk ?_)
      simp (disch := first | omega | exact getEq rfl | exact getO0 | exact Nat.le_of_ble_eq_true rfl) [c51_o11, app_growP, app_noneP, plus_N, plus_at0, put_plus0, put_plus1, upd_N, upd_size, q, gb, gc, er, er', gr, ee, ee', ci, ci', cx, cx', cy, cy', -evDraw_c, evDraw_0]
      refine W.cond (v := true) (by simp (disch := first | omega | exact getEq rfl | exact getO0 | exact Nat.le_of_ble_eq_true rfl) [app_growP, app_noneP, plus_N, plus_at0, put_plus0, put_plus1, upd_N, upd_size, q]) ?_
      simp only [if_true, if_false, Bool.false_eq_true]
      refine W.use (t12) (by simp (disch := first | omega | exact getEq rfl | exact getO0 | exact Nat.le_of_ble_eq_true rfl) [app_growP, app_noneP, plus_N, plus_at0, put_plus0, put_plus1, upd_N, upd_size, q]) fun s1 H1 hp => ?_
      obtain ⟨rfl, q⟩ := hp
      try simp only [thenW_n, thenW_e, thenW_r, blkW_n, blkW_e, blkW_r, if_true]
      refine W.chunk ?_
      simp (disch := first | omega | exact getEq rfl | exact getO0 | exact Nat.le_of_ble_eq_true rfl) [c51_o13, app_growP, app_noneP, plus_N, plus_at0, put_plus0, put_plus1, upd_N, upd_size, q]
      exact kR _ _ ⟨p2, pi2, rfl, by simp [T.get, q]⟩
    · have pi2 := pi.skip cc
      rw [← ex, ← ey] at cc
      clear C pi n2 n3 ex ey
      generalize hu : clN M x = cu at *
      generalize hw : clN M y = cw at *
      generalize hz : clN M i = cz at *
      generalize ent M x y = a at *
      generalize gs (M.getD x []) = cr at *
      generalize gs (clsL M) = ccs at *
      by_cases c1 : cu = cz
      · by_cases c2 : cw = cz
        · have c3 : ¬ 0 < a := fun c => cc ⟨c1, c2, c⟩
          refine W.assoc ?_
          refine W.seq (W.chunk ?_)
          simp (disch := first | omega | exact getEq rfl | exact getO0 | exact Nat.le_of_ble_eq_true rfl) [c51_o10, app_growP, app_noneP, plus_N, plus_at0, put_plus0, put_plus1, upd_N, upd_size, q]
          refine W.seq (W.chunk ?_)
          simp (disch := first | omega | exact getEq rfl | exact getO0 | exact Nat.le_of_ble_eq_true rfl) [app_growP, app_noneP, plus_N, plus_at0, put_plus0, put_plus1, upd_N, upd_size, q]
          refine W.seq (W.block ?_)
          refine W.seq (W.chunk ?_)
          simp (disch := first | omega | exact getEq rfl | exact getO0 | exact Nat.le_of_ble_eq_true rfl) [c51_o11, app_growP, app_noneP, plus_N, plus_at0, put_plus0, put_plus1, upd_N, upd_size, q, gb, gc, er, er', gr, ee, ee', ci, ci', cx, cx', cy, cy', -evDraw_c, evDraw_0]
          refine W.chunk ?_
          simp (disch := first | omega | exact getEq rfl | exact getO0 | exact Nat.le_of_ble_eq_true rfl) [c51_o12, app_growP, app_noneP, plus_N, plus_at0, put_plus0, put_plus1, upd_N, upd_size, q, -evDraw_c, evDraw_0]
          refine W.chunk ?_
          simp (disch := first | omega | exact getEq rfl | exact getO0 | exact Nat.le_of_ble_eq_true rfl) [c51_o13, app_growP, app_noneP, plus_N, plus_at0, put_plus0, put_plus1, upd_N, upd_size, q]
          exact kR _ _ ⟨p, pi2, rfl, by simp [T.get, q]⟩
        · have c2' : ¬ (cw : Int) = cz := by omega
          refine W.assoc ?_
          refine W.seq (W.chunk ?_)
          simp (disch := first | omega | exact getEq rfl | exact getO0 | exact Nat.le_of_ble_eq_true rfl) [c51_o10, app_growP, app_noneP, plus_N, plus_at0, put_plus0, put_plus1, upd_N, upd_size, q]
          refine W.seq (W.chunk ?_)
          simp (disch := first | omega | exact getEq rfl | exact getO0 | exact Nat.le_of_ble_eq_true rfl) [app_growP, app_noneP, plus_N, plus_at0, put_plus0, put_plus1, upd_N, upd_size, q]
          refine W.seq (W.block ?_)
          refine W.seq (W.chunk ?_)
          simp (disch := first | omega | exact getEq rfl | exact getO0 | exact Nat.le_of_ble_eq_true rfl) [c51_o11, app_growP, app_noneP, plus_N, plus_at0, put_plus0, put_plus1, upd_N, upd_size, q, gb, gc, er, er', gr, ee, ee', ci, ci', cx, cx', cy, cy', -evDraw_c, evDraw_0]
          refine W.chunk ?_
          simp (disch := first | omega | exact getEq rfl | exact getO0 | exact Nat.le_of_ble_eq_true rfl) [c51_o12, app_growP, app_noneP, plus_N, plus_at0, put_plus0, put_plus1, upd_N, upd_size, q, -evDraw_c, evDraw_0]
          refine W.chunk ?_
          simp (disch := first | omega | exact getEq rfl | exact getO0 | exact Nat.le_of_ble_eq_true rfl) [c51_o13, app_growP, app_noneP, plus_N, plus_at0, put_plus0, put_plus1, upd_N, upd_size, q]
          exact kR _ _ ⟨p, pi2, rfl, by simp [T.get, q]⟩
      · have c1' : ¬ (cu : Int) = cz := by omega
        refine W.assoc ?_
        refine W.seq (W.chunk ?_)
        simp (disch := first | omega | exact getEq rfl | exact getO0 | exact Nat.le_of_ble_eq_true rfl) [c51_o10, app_growP, app_noneP, plus_N, plus_at0, put_plus0, put_plus1, upd_N, upd_size, q]
        refine W.seq (W.chunk ?_)
        simp (disch := first | omega | exact getEq rfl | exact getO0 | exact Nat.le_of_ble_eq_true rfl) [app_growP, app_noneP, plus_N, plus_at0, put_plus0, put_plus1, upd_N, upd_size, q]
        refine W.seq (W.block ?_)
        refine W.seq (W.chunk ?_)
        simp (disch := first | omega | exact getEq rfl | exact getO0 | exact Nat.le_of_ble_eq_true rfl) [c51_o11, app_growP, app_noneP, plus_N, plus_at0, put_plus0, put_plus1, upd_N, upd_size, q, gb, gc, er, er', gr, ee, ee', ci, ci', cx, cx', cy, cy', -evDraw_c, evDraw_0]
        refine W.chunk ?_
        simp (disch := first | omega | exact getEq rfl | exact getO0 | exact Nat.le_of_ble_eq_true rfl) [c51_o12, app_growP, app_noneP, plus_N, plus_at0, put_plus0, put_plus1, upd_N, upd_size, q, -evDraw_c, evDraw_0]
        refine W.chunk ?_
        simp (disch := first | omega | exact getEq rfl | exact getO0 | exact Nat.le_of_ble_eq_true rfl) [c51_o13, app_growP, app_noneP, plus_N, plus_at0, put_plus0, put_plus1, upd_N, upd_size, q]
        exact kR _ _ ⟨p, pi2, rfl, by simp [T.get, q]⟩
  · refine Tr.w fun s1 H1 hp R kR => W.trim ?_
    obtain ⟨p, pi, rfl, q⟩ := hp
    clear C
    refine W.assoc ?_
    refine W.seq (W.chunk ?_)
    simp (disch := first | omega | exact getEq rfl | exact getO0 | exact Nat.le_of_ble_eq_true rfl) [c51_o10, app_growP, app_noneP, plus_N, plus_at0, put_plus0, put_plus1, upd_N, upd_size, q]
    refine W.seq (W.chunk ?_)
    simp (disch := first | omega | exact getEq rfl | exact getO0 | exact Nat.le_of_ble_eq_true rfl) [app_growP, app_noneP, plus_N, plus_at0, put_plus0, put_plus1, upd_N, upd_size, q]
    exact kR _ _ ⟨p, pi, rfl, by simp [T.get, q]⟩
theorem c51_x (J : CallF) (k76 : K76 J) (hm : isMat M = true) {H : Heap} {b v qc qd i : Nat} {cs : List AV} {xo : AV} (C : C51 H M b v qc qd cs (clN M i)) (hi : i < M.length) :
    Tr tbl J c51_l1 (fun s h => ∃ p, PI M (clN M i) (dsN M (clN M i)) 0 0 p ∧ h = H ∧ s.get [] = .slice b 0 M.length v ∧ s.get [false, false] = .slice qc 0 M.length M.length ∧ s.get [true, false] = xo ∧ s.get [false, true] = G i ∧ s.get [true, true] = .slice qd 0 M.length M.length ∧ s.get [false, false, false] = G p ∧ s.get [true, false, false] = G ((0 : Nat) : Int)) (.exit 2)
      (fun s h => h = H ∧ s.get [] = .slice b 0 M.length v ∧ s.get [false, false] = .slice qc 0 M.length M.length ∧ s.get [true, false] = xo ∧ s.get [false, true] = G i ∧ s.get [false, false, false] = G (perN M i)) := by
  have h8 := isMat_n hm
  refine Tr.rounds (P := fun x s h => ∃ p, PI M (clN M i) (dsN M (clN M i)) x 0 p ∧ h = H ∧ s.get [] = .slice b 0 M.length v ∧ s.get [false, false] = .slice qc 0 M.length M.length ∧ s.get [true, false] = xo ∧ s.get [false, true] = G i ∧ s.get [true, true] = .slice qd 0 M.length M.length ∧ s.get [false, false, false] = G p ∧ s.get [true, false, false] = G x) (M := M.length) (fun x hx => ?_) ?_ (by simp) 0 (by omega)
  · refine Tr.w fun s1 H1 hp R kR => W.trim ?_
    obtain ⟨p, pi, rfl, q⟩ := hp
    have l0 := c51_y (xo := xo) J k76 hm C hi hx
    have ex : ∃ p1 : Nat, PI M (clN M i) (dsN M (clN M i)) x 0 p1 ∧ (p : Int) = p1 := ⟨p, pi, rfl⟩
    clear C
    refine W.assoc ?_
    refine W.seq (W.chunk ?_)
    simp (disch := first | omega | exact getEq rfl | exact getO0 | exact Nat.le_of_ble_eq_true rfl) [c51_o8, app_growP, app_noneP, plus_N, plus_at0, put_plus0, put_plus1, upd_N, upd_size, q]
    refine W.seq (W.chunk ?_)
    simp (disch := first | omega | exact getEq rfl | exact getO0 | exact Nat.le_of_ble_eq_true rfl) [app_growP, app_noneP, plus_N, plus_at0, put_plus0, put_plus1, upd_N, upd_size, q]
    refine W.seq (W.block ?_)
    refine W.seq (W.chunk ?_)
    simp (disch := first | omega | exact getEq rfl | exact getO0 | exact Nat.le_of_ble_eq_true rfl) [c51_o9, app_growP, app_noneP, plus_N, plus_at0, put_plus0, put_plus1, upd_N, upd_size, q]
    refine W.block ?_
    refine W.use (l0) (by simp (disch := first | omega | exact getEq rfl | exact getO0 | exact Nat.le_of_ble_eq_true rfl) [app_growP, app_noneP, plus_N, plus_at0, put_plus0, put_plus1, upd_N, upd_size, q, ex]) fun s1 H1 hp => ?_
    obtain ⟨p2, pi2, rfl, q⟩ := hp
    try simp only [thenW_n, thenW_e, thenW_r, blkW_n, blkW_e, blkW_r, if_true]
    refine W.chunk ?_
    simp (disch := first | omega | exact getEq rfl | exact getO0 | exact Nat.le_of_ble_eq_true rfl) [c51_o14, app_growP, app_noneP, plus_N, plus_at0, put_plus0, put_plus1, upd_N, upd_size, q]
    exact kR _ _ ⟨p2, pi2.nextx hm, rfl, by simp [T.get, q]⟩
  · refine Tr.w fun s1 H1 hp R kR => W.trim ?_
    obtain ⟨p, pi, rfl, q⟩ := hp
    obtain ⟨n1, n2, n3⟩ := clN_ok hm hi
    have pd := pi.done hm (ds_0 _) (fun z m => by obtain ⟨d, a, b, _⟩ := ds_mu hm (by omega) m; exact ⟨d, a, b⟩)
    rw [perN_eq (pd.mu n2.symm)] at kR
    clear C pi n2 n3 pd
    refine W.assoc ?_
    refine W.seq (W.chunk ?_)
    simp (disch := first | omega | exact getEq rfl | exact getO0 | exact Nat.le_of_ble_eq_true rfl) [c51_o8, app_growP, app_noneP, plus_N, plus_at0, put_plus0, put_plus1, upd_N, upd_size, q]
    refine W.seq (W.chunk ?_)
    simp (disch := first | omega | exact getEq rfl | exact getO0 | exact Nat.le_of_ble_eq_true rfl) [app_growP, app_noneP, plus_N, plus_at0, put_plus0, put_plus1, upd_N, upd_size, q]
    exact kR _ _ (by simp [T.get, q])
noncomputable def pdL (M : List (List Int)) : List Int := lf (fun i => (perN M i : Int)) M.length
theorem c51_i (J : CallF) (k76 : K76 J) (k71 : K71 J) (hm : isMat M = true) {H0 : Heap} {b v qc : Nat} {cs : List AV} (mx : MX H0 M b v cs) (hy : MR H0 (.slice b 0 M.length v) M) (gc : H0.get qc = .cells 1 M.length (gs (clsL M))) :
    Tr tbl J c51_l2 (fun s h => h = H0 ∧ s.get [] = .slice b 0 M.length v ∧ s.get [false, false] = .slice qc 0 M.length M.length ∧ s.get [true, false] = .nils ∧ s.get [false, true] = G ((0 : Nat) : Int)) (.exit 0) (fun s h => ∃ xo, NG H0 h xo (pdL M) ∧ s.get [true, false] = xo) := by
  have h8 := isMat_n hm
  refine Tr.pre (P := fun s h => ∃ xo, NG H0 h xo (lf (fun i => (perN M i : Int)) 0) ∧ s.get [] = .slice b 0 M.length v ∧ s.get [false, false] = .slice qc 0 M.length M.length ∧ s.get [true, false] = xo ∧ s.get [false, true] = G ((0 : Nat) : Int)) (fun s h q => ⟨.nils, by rw [q.1]; exact NG.nil H0, q.2⟩) ?_
  refine Tr.rounds (P := fun i s h => ∃ xo, NG H0 h xo (lf (fun i => (perN M i : Int)) i) ∧ s.get [] = .slice b 0 M.length v ∧ s.get [false, false] = .slice qc 0 M.length M.length ∧ s.get [true, false] = xo ∧ s.get [false, true] = G i) (M := M.length) (fun i hi => ?_) ?_ (by simp) 0 (by omega)
  · refine Tr.w fun s1 H1 hp R kR => W.trim ?_
    obtain ⟨xo, ng, q⟩ := hp
    obtain ⟨n1, n2, n3⟩ := clN_ok hm hi
    obtain ⟨w, own, k71, nd⟩ := k71 H1 ⟨M, _, clN M i⟩ ⟨hy.kp ng.k, hm, by simp only; omega⟩
    simp only at k71 nd
    obtain ⟨qd, rfl, gd⟩ := nd.l.sl (by intro e; have h0 : (gs (lf (dsN M (clN M i)) M.length)).length = M.length := gl_len _ _; rw [e] at h0; simp at h0; omega)
    rw [gl_len] at k71 gd
    have kp : Kp (fun _ => False) H1 (H1.plus own) := Kp.plus _ _
    have gc1 := ng.k.at gc (by simp) id
    have C : C51 (H1.plus own) M b v qc qd cs (clN M i) := ⟨(mx.kp ng.k).kp kp, kp.at gc1 (by simp) id, gd⟩
    have l1 := c51_x (xo := xo) J k76 hm C hi
    obtain ⟨x1, e, h2, q1, q2, ng2, _⟩ := (ng.kp kp).app (H1.plus own).size (perN M i : Int) (by rw [lf_len]; omega)
    rw [← lf_succ] at ng2
    have f1 := app1_at (H1.plus own) (G (perN M i : Int))
    have ci : (gs (clsL M))[i]? = some (G (clN M i)) := gl_at _ hi
    have ci' := getI ci
    have pi0 : PI M (clN M i) (dsN M (clN M i)) 0 0 0 := PI.init
    have pe : ∃ p : Nat, PI M (clN M i) (dsN M (clN M i)) 0 0 p ∧ (0 : Int) = p := ⟨0, pi0, rfl⟩
    clear C ng nd mx hy n2 n3
    generalize clN M i = c at *
    generalize gs (clsL M) = cc at *
    refine W.assoc ?_
    refine W.seq (W.chunk ?_)
    simp (disch := first | omega | exact getEq rfl | exact getO0 | exact Nat.le_of_ble_eq_true rfl) [c51_o4, app_growP, app_noneP, plus_N, plus_at0, put_plus0, put_plus1, upd_N, upd_size, q]
    refine W.seq (W.chunk ?_)
    simp (disch := first | omega | exact getEq rfl | exact getO0 | exact Nat.le_of_ble_eq_true rfl) [app_growP, app_noneP, plus_N, plus_at0, put_plus0, put_plus1, upd_N, upd_size, q]
    refine W.seq (W.block ?_)
    refine W.seq (W.chunk ?_)
    simp (disch := first | omega | exact getEq rfl | exact getO0 | exact Nat.le_of_ble_eq_true rfl) [c51_o5, app_growP, app_noneP, plus_N, plus_at0, put_plus0, put_plus1, upd_N, upd_size, q, gc1, ci, ci', k71, app_if, app_if']
    refine W.seq (W.chunk ?_)
    simp (disch := first | omega | exact getEq rfl | exact getO0 | exact Nat.le_of_ble_eq_true rfl) [c51_o6, app_growP, app_noneP, plus_N, plus_at0, put_plus0, put_plus1, upd_N, upd_size, q]
    refine W.assoc ?_
    refine W.seq (W.chunk ?_)
    simp (disch := first | omega | exact getEq rfl | exact getO0 | exact Nat.le_of_ble_eq_true rfl) [c51_o7, app_growP, app_noneP, plus_N, plus_at0, put_plus0, put_plus1, upd_N, upd_size, q]
    refine W.seq (W.block ?_)
    refine W.use (l1) (by simp (disch := first | omega | exact getEq rfl | exact getO0 | exact Nat.le_of_ble_eq_true rfl) [app_growP, app_noneP, plus_N, plus_at0, put_plus0, put_plus1, upd_N, upd_size, q, pe]) fun s1 H1 hp => ?_
    obtain ⟨rfl, q⟩ := hp
    try simp only [thenW_n, thenW_e, thenW_r, blkW_n, blkW_e, blkW_r, if_true]
    refine W.chunk ?_
    simp (disch := first | omega | exact getEq rfl | exact getO0 | exact Nat.le_of_ble_eq_true rfl) [c51_o15, app_growP, app_noneP, plus_N, plus_at0, put_plus0, put_plus1, upd_N, upd_size, q, elems, rdOf, f1, q1, q2]
    refine W.chunk ?_
    simp (disch := first | omega | exact getEq rfl | exact getO0 | exact Nat.le_of_ble_eq_true rfl) [c51_o16, app_growP, app_noneP, plus_N, plus_at0, put_plus0, put_plus1, upd_N, upd_size, q]
    exact kR _ _ ⟨_, ng2, by simp [T.get, q]⟩
  · refine Tr.w fun s1 H1 hp R kR => W.trim ?_
    obtain ⟨xo, ng, q⟩ := hp
    clear mx hy
    refine W.assoc ?_
    refine W.seq (W.chunk ?_)
    simp (disch := first | omega | exact getEq rfl | exact getO0 | exact Nat.le_of_ble_eq_true rfl) [c51_o4, app_growP, app_noneP, plus_N, plus_at0, put_plus0, put_plus1, upd_N, upd_size, q]
    refine W.seq (W.chunk ?_)
    simp (disch := first | omega | exact getEq rfl | exact getO0 | exact Nat.le_of_ble_eq_true rfl) [app_growP, app_noneP, plus_N, plus_at0, put_plus0, put_plus1, upd_N, upd_size, q]
    exact kR _ _ ⟨_, ng, by simp [T.get, q]⟩
theorem c51_ok (J : CallF) (k76 : K76 J) (k71 : K71 J) (k50 : K50 J) (hJ : ∀ a h, J 51 a h = none) (h : Heap) {y : AV} (hy : MR h y M) (hm : isMat M = true) : ∃ v own, CallsTo tbl J 51 [y] h (v, own, false) ∧ NG h (h.plus own) v (pdL M) := by
  refine Tr.fny (cf := c51) (e := .ret) (s := T.set .leaf [] y) (by decide) rfl (hJ _ _) rfl rfl (by simp) ?_
  have h8 := isMat_n hm
  have hy0 : MR (frameOf h) y M := hy.lo []
  obtain ⟨w, own, k50, nc⟩ := k50 (frameOf h) ⟨M, y⟩ hy0 hm
  simp only at k50 nc
  obtain ⟨qc, rfl, gc⟩ := nc.l.sl (by intro e; have h0 : (gs (clsL M)).length = M.length := gl_len _ _; rw [e] at h0; simp at h0; omega)
  rw [show (gs (clsL M)).length = M.length from gl_len _ _] at k50 gc
  obtain ⟨b, v, cs, rfl, mx⟩ := hy0.mx hm
  have kp : Kp (fun _ => False) (frameOf h) ((frameOf h).plus own) := Kp.plus _ _
  have l2 := c51_i J k76 k71 hm (mx.kp kp) (hy0.kp kp) gc
  clear nc mx hy hy0
  refine Tr.w fun s1 H1 hp R kR => ?_
  obtain ⟨rfl, rfl⟩ := hp
  have q : True := trivial
  refine W.seq (W.chunk ?_)
  simp (disch := first | omega | exact getEq rfl | exact getO0 | exact Nat.le_of_ble_eq_true rfl) [c51_o0, app_growP, app_noneP, plus_N, plus_at0, put_plus0, put_plus1, upd_N, upd_size, q]
  refine W.seq (W.chunk ?_)
  simp (disch := first | omega | exact getEq rfl | exact getO0 | exact Nat.le_of_ble_eq_true rfl) [c51_o1, app_growP, app_noneP, plus_N, plus_at0, put_plus0, put_plus1, upd_N, upd_size, q, k50, app_if, app_if']
  refine W.seq (W.chunk ?_)
  simp (disch := first | omega | exact getEq rfl | exact getO0 | exact Nat.le_of_ble_eq_true rfl) [c51_o2, app_growP, app_noneP, plus_N, plus_at0, put_plus0, put_plus1, upd_N, upd_size, q]
  refine W.assoc ?_
  refine W.seq (W.chunk ?_)
  simp (disch := first | omega | exact getEq rfl | exact getO0 | exact Nat.le_of_ble_eq_true rfl) [c51_o3, app_growP, app_noneP, plus_N, plus_at0, put_plus0, put_plus1, upd_N, upd_size, q]
  refine W.seq (W.block ?_)
  refine W.use (l2) (by simp (disch := first | omega | exact getEq rfl | exact getO0 | exact Nat.le_of_ble_eq_true rfl) [app_growP, app_noneP, plus_N, plus_at0, put_plus0, put_plus1, upd_N, upd_size, q]) fun s1 H1 hp => ?_
  obtain ⟨x, ng, q⟩ := hp
  try simp only [thenW_n, thenW_e, thenW_r, blkW_n, blkW_e, blkW_r, if_true]
  refine W.seq (W.chunk ?_)
  simp (disch := first | omega | exact getEq rfl | exact getO0 | exact Nat.le_of_ble_eq_true rfl) [c51_o17, app_growP, app_noneP, plus_N, plus_at0, put_plus0, put_plus1, upd_N, upd_size, q]
  refine W.ret ?_
  try simp only [thenW_n, thenW_e, thenW_r, blkW_n, blkW_e, blkW_r, if_true]
  exact kR _ _ ⟨[x], by simp [T.get, c51, evRess, evRes, q], (ng.base kp).fr0⟩
end
def Post51 (a : AM) (h : Heap) (v : AV) (own : List AObj) : Prop := NG h (h.plus own) v (pdL a.M)
noncomputable def T25 : CallF := addK tbl T24 51 PreO Post51
theorem t25 : Sound Go.Proofs.Try.prog T25 := Sound.addK follows ok t24 (by decide) _ _
abbrev K51 (J : CallF) : Prop := ∀ (h : Heap) (a : AM), MR h a.y a.M → isMat a.M = true → ∃ v own, J 51 [a.y] h = some (v, own, false) ∧ NG h (h.plus own) v (pdL a.M)
theorem k76_24 : K76 T24 := fun a b h h1 h2 h3 h4 => by
  simp (disch := decide) only [T24, T23, T22, T21, T20, T19, T18, T17, T16, T15, T14, T13, T12, T11, T10, T9, T8, T7, T6, T5, T4, T3, T2, T1, R21, R20, R19, R18, R17, R16, R15, R14, R13, R12, R11, R10, R9, R8, R7, R6, R5, R4, R3, R2, R1, addI_ne, addX_ne, addV_ne, addK_ne]
  exact k76 a b h h1 h2 h3 h4
theorem k50_24 : K50 T24 := fun h a ha hm => by
  simp (disch := decide) only [T24, T23, addK_ne]
  exact k50 h a ha hm
theorem k51 : K51 T25 := fun h a ha hm => addK_some (Pre := PreO) (Post := Post51) (fun a args h hp => by
  obtain ⟨⟨hy, hm⟩, rfl⟩ := hp
  exact c51_ok T24 k76_24 k71 k50_24 (fun _ _ => by simp (disch := decide) only [T24, T23, T22, T21, T20, T19, T18, T17, T16, T15, T14, T13, T12, T11, T10, T9, T8, T7, T6, T5, T4, T3, T2, T1, R21, R20, R19, R18, R17, R16, R15, R14, R13, R12, R11, R10, R9, R8, R7, R6, R5, R4, R3, R2, R1, addI_ne, addX_ne, addV_ne, addK_ne]; rfl) h hy hm) a _ h ⟨⟨ha, hm⟩, rfl⟩
end Go.Proofs.Ytjeemgaoonapgaa.Ev
set_option linter.unusedVariables false
set_option linter.unusedSimpArgs false
namespace Go.Proofs.Ytjeemgaoonapgaa.Ev
open Go Go.AEv
attribute [local simp] evFunc initS evOps_c evTrim_c evSkip_c evExit_c evRet_c evSeq_c evCond_c evBlock_c evDraw_c runOps_n runOps_c exec_n exec_g pure1_c act AOpd.ev T.get T.set T.put evBin evUn forceT_eq forceV_eq forceL_eq evRess evRes one keep runFP_n runFP_c app_none AV.flats AV.flat came_some List.getElem?_cons_zero List.getElem?_cons_succ beqT wrapI idxI tdivI tmodI decT decF ibT ibF inT inF evScope_c if_pos if_neg Cm_some thenW_n thenW_e thenW_r blkW_n blkW_e blkW_r goI kn putAt AV.cells fillA loadA takeA mk Eff.isAll Eff.isNone Eff.commutes Eff.spares okPair apart eqAgg fits LK.fits allEq aveq eqk mmA
theorem W.loop {tbl : Nat → Option CFunc} {I : CallF} {live : List Path} {c : CCode} {s : T} {h : Heap} {Q : PQ} (x : W tbl I (.trim live c) s h (thenW tbl I (.loop live c) Q)) : W tbl I (.loop live c) s h Q := by
  obtain ⟨e, s1, h1, ⟨n, r⟩, q⟩ := x
  cases e with
  | normal =>
    obtain ⟨e2, s2, h2, r2, q2⟩ := q
    exact ⟨e2, s2, h2, Runs.loop_next ⟨n, r⟩ r2, q2⟩
  | exit i => exact ⟨_, s1, h1, Runs.loop_out ⟨n, r⟩ (by simp), q⟩
  | ret => exact ⟨_, s1, h1, Runs.loop_out ⟨n, r⟩ (by simp), q⟩
def cu (f : Nat → Int) : Nat → Nat
  | 0 => 0
  | m + 1 => cu f m + (if f m = -1 then 1 else 0)
theorem cu_congr {f g : Nat → Int} : ∀ {m}, (∀ z, z < m → f z = g z) → cu f m = cu g m
  | 0, _ => rfl
  | m + 1, h => by
    show cu f m + _ = cu g m + _
    rw [cu_congr (fun z hz => h z (by omega)), h m (by omega)]
theorem cu_upd {f : Nat → Int} {y : Nat} {w : Int} (hf : f y = -1) (hw : w ≠ -1) : ∀ {m}, y < m → cu (fun z => if z = y then w else f z) m + 1 = cu f m
  | 0, h => by omega
  | m + 1, h => by
    show cu _ m + (if (if m = y then w else f m) = -1 then 1 else 0) + 1 = cu f m + (if f m = -1 then 1 else 0)
    by_cases e : y = m
    · subst e
      rw [if_pos rfl, if_neg hw, if_pos hf, cu_congr (g := f) (fun z hz => if_neg (by omega))]
    · rw [if_neg (show ¬ m = y from fun e' => e e'.symm)]
      have := cu_upd hf hw (m := m) (by omega)
      omega
section
variable {M : List (List Int)}
structure BI (M : List (List Int)) (i : Nat) (f : Nat → Int) (Q : List Nat) (k v p : Nat) : Prop where
  f0 : f i = 0
  a : ∀ z, z < M.length → f z ≠ -1 → Mu M i z ∧ (∃ d : Nat, f z = d ∧ Wk M d i z) ∧ z ∈ Q
  q : ∀ (j z : Nat), Q[j]? = some z → z < M.length ∧ f z ≠ -1 ∧ f z ≤ j
  cn : Q.length + cu f M.length = M.length
  g : ∀ g, (∀ k, Wk M k i i → g ∣ k) → g ∣ p
  d : ∀ (j u : Nat), j < k → Q[j]? = some u → ∀ z, Mu M i z → 0 < ent M u z → f z ≠ -1 ∧ (p : Int) ∣ f u + 1 - f z
  e : ∀ u, Q[k]? = some u → ∀ z, z < v → Mu M i z → 0 < ent M u z → f z ≠ -1 ∧ (p : Int) ∣ f u + 1 - f z
  b : p ≤ 100
theorem BI.skip {i k v p u : Nat} {f : Nat → Int} {Q : List Nat} (l : BI M i f Q k v p) (hu : Q[k]? = some u) (h : ¬ (Mu M i v ∧ 0 < ent M u v)) : BI M i f Q k (v + 1) p :=
  ⟨l.f0, l.a, l.q, l.cn, l.g, l.d, fun u' hu' z hz m ez => by
    by_cases c : z = v
    · subst c
      rw [hu] at hu'
      cases hu'
      exact absurd ⟨m, ez⟩ h
    · exact l.e u' hu' z (by omega) m ez, l.b⟩
theorem BI.old (h8 : M.length ≤ 8) {i k v p u : Nat} {f : Nat → Int} {Q : List Nat} (l : BI M i f Q k v p) (hu : Q[k]? = some u) (m : Mu M i v) (e : 0 < ent M u v) (hv : v < M.length) (hf : f v ≠ -1) : BI M i f Q k (v + 1) (Nat.gcd (f u + 1 - f v).natAbs p) := by
  obtain ⟨hu1, hu2, hu3⟩ := l.q k u hu
  obtain ⟨mu, ⟨du, eu, wu⟩, _⟩ := l.a u hu1 hu2
  obtain ⟨_, ⟨dv, ev, wv⟩, hq⟩ := l.a v hv hf
  have dv2 : ∀ x, (p : Int) ∣ x → ((Nat.gcd (f u + 1 - f v).natAbs p : Nat) : Int) ∣ x := fun x hx => Int.dvd_trans (Int.natCast_dvd_natCast.2 (Nat.gcd_dvd_right _ _)) hx
  refine ⟨l.f0, l.a, l.q, l.cn, fun g hg => Nat.dvd_gcd ?_ (l.g g hg), fun j u' hj hu' z mz ez => ⟨(l.d j u' hj hu' z mz ez).1, dv2 _ (l.d j u' hj hu' z mz ez).2⟩, fun u' hu' z hz mz ez => ?_, ?_⟩
  · obtain ⟨lb, wl⟩ := m.2
    have h1 := hg _ ((wu.add (Wk.one e)).add wl)
    have h2 := hg _ (wv.add wl)
    have h1' : (g : Int) ∣ ((du + 1 + lb : Nat) : Int) := Int.natCast_dvd_natCast.2 h1
    have h2' : (g : Int) ∣ ((dv + lb : Nat) : Int) := Int.natCast_dvd_natCast.2 h2
    have := Int.dvd_sub h1' h2'
    rw [show ((du + 1 + lb : Nat) : Int) - ((dv + lb : Nat) : Int) = f u + 1 - f v by omega] at this
    exact Int.ofNat_dvd_left.1 this
  · by_cases c : z = v
    · subst c
      rw [hu] at hu'
      cases hu'
      exact ⟨hf, Int.ofNat_dvd_left.2 (Nat.gcd_dvd_left _ _)⟩
    · have := l.e u' hu' z (by omega) mz ez
      exact ⟨this.1, dv2 _ this.2⟩
  · have hb := l.b
    by_cases c : p = 0
    · subst c
      rw [Nat.gcd_zero_right]
      obtain ⟨j, hj⟩ := List.mem_iff_getElem?.1 hq
      have h1 := (l.q j v hj).2.2
      have h2 := (List.getElem?_eq_some_iff.1 hj).1
      have h3 := (List.getElem?_eq_some_iff.1 hu).1
      have := l.cn
      omega
    · have := Nat.gcd_le_right (m := (f u + 1 - f v).natAbs) (Nat.pos_of_ne_zero c)
      omega
theorem BI.new {i k v p u : Nat} {f : Nat → Int} {Q : List Nat} (l : BI M i f Q k v p) (hu : Q[k]? = some u) (m : Mu M i v) (e : 0 < ent M u v) (hv : v < M.length) (hf : f v = -1) : BI M i (fun z => if z = v then f u + 1 else f z) (Q ++ [v]) k (v + 1) p := by
  obtain ⟨hu1, hu2, hu3⟩ := l.q k u hu
  obtain ⟨mu, ⟨du, eu, wu⟩, _⟩ := l.a u hu1 hu2
  have huv : u ≠ v := fun e => by rw [e, hf] at hu2; exact hu2 rfl
  have hkQ := (List.getElem?_eq_some_iff.1 hu).1
  have old : ∀ z, f z ≠ -1 → (if z = v then f u + 1 else f z) = f z := fun z hz => if_neg (fun e => by rw [e] at hz; exact hz hf)
  have inQ : ∀ (j z : Nat), j < Q.length → (Q ++ [v])[j]? = some z → Q[j]? = some z := fun j z hj h => by rwa [List.getElem?_append_left hj] at h
  refine ⟨?_, fun z hz hne => ?_, fun j z hj => ?_, ?_, l.g, fun j u' hj hu' z mz ez => ?_, fun u' hu' z hz mz ez => ?_, l.b⟩
  · show (if i = v then f u + 1 else f i) = 0
    rw [old i (by rw [l.f0]; omega), l.f0]
  · by_cases c : z = v
    · subst c
      exact ⟨m, ⟨du + 1, by rw [if_pos rfl]; omega, wu.add (Wk.one e)⟩, by simp⟩
    · simp only [if_neg c] at hne ⊢
      obtain ⟨a1, a2, a3⟩ := l.a z hz hne
      exact ⟨a1, a2, by simp [a3]⟩
  · by_cases c : j < Q.length
    · obtain ⟨a1, a2, a3⟩ := l.q j z (inQ j z c hj)
      show z < M.length ∧ (if z = v then f u + 1 else f z) ≠ -1 ∧ (if z = v then f u + 1 else f z) ≤ j
      rw [old z a2]
      exact ⟨a1, a2, a3⟩
    · rw [List.getElem?_append_right (by omega)] at hj
      have hj0 : j - Q.length = 0 := by
        have := (List.getElem?_eq_some_iff.1 hj).1
        simpa using this
      rw [hj0] at hj
      simp only [List.getElem?_cons_zero, Option.some.injEq] at hj
      subst hj
      show v < M.length ∧ (if v = v then f u + 1 else f v) ≠ -1 ∧ (if v = v then f u + 1 else f v) ≤ j
      rw [if_pos rfl]
      exact ⟨hv, by omega, by omega⟩
  · have := cu_upd (w := f u + 1) hf (by omega) hv
    have := l.cn
    rw [List.length_append, List.length_singleton]
    omega
  · have hjQ : j < Q.length := by omega
    have h := l.d j u' hj (inQ j u' hjQ hu') z mz ez
    obtain ⟨_, hu2', _⟩ := l.q j u' (inQ j u' hjQ hu')
    show (if z = v then f u + 1 else f z) ≠ -1 ∧ (p : Int) ∣ (if u' = v then f u + 1 else f u') + 1 - (if z = v then f u + 1 else f z)
    rw [old z h.1, old u' hu2']
    exact h
  · have hu'' := inQ k u' hkQ hu'
    rw [hu] at hu''
    cases hu''
    show (if z = v then f u + 1 else f z) ≠ -1 ∧ (p : Int) ∣ (if u = v then f u + 1 else f u) + 1 - (if z = v then f u + 1 else f z)
    rw [old u hu2]
    by_cases c : z = v
    · rw [if_pos c]
      exact ⟨by omega, by rw [Int.sub_self]; exact Int.dvd_zero _⟩
    · rw [if_neg c]
      exact l.e u hu z (by omega) mz ez
theorem BI.nextk (hm : isMat M = true) {i k p : Nat} {f : Nat → Int} {Q : List Nat} (l : BI M i f Q k M.length p) : BI M i f Q (k + 1) 0 p :=
  ⟨l.f0, l.a, l.q, l.cn, l.g, fun j u hj hu z mz ez => by
    by_cases c : j = k
    · subst c; exact l.e u hu z (ent_lt hm ez).2 mz ez
    · exact l.d j u (by omega) hu z mz ez, fun u hu z hz => absurd hz (by omega), l.b⟩
theorem BI.done (hm : isMat M = true) {i p : Nat} {f : Nat → Int} {Q : List Nat} (hi : i < M.length) (l : BI M i f Q Q.length 0 p) : (∀ z, z < M.length → Mu M i z → ∃ d : Nat, f z = d ∧ Wk M d i z) ∧ (∀ z, z < M.length → ¬ Mu M i z → f z = -1) ∧ perN M i = p := by
  have all : ∀ {k z}, Wk M k i z → Mu M i z → f z ≠ -1 := fun {k} => by
    induction k with
    | zero =>
      intro z w _
      have : i = z := w
      subst this
      rw [l.f0]; omega
    | succ k ih =>
      intro z w m
      obtain ⟨u, w', e⟩ := Wk.snoc.1 w
      have mu := mu_mid m ⟨k, w'⟩ e
      have hu := (ent_lt hm e).1
      obtain ⟨_, _, hq⟩ := l.a u hu (ih w' mu)
      obtain ⟨j, hj⟩ := List.mem_iff_getElem?.1 hq
      exact (l.d j u (List.getElem?_eq_some_iff.1 hj).1 hj z m e).1
  have h1 : ∀ z, Mu M i z → ∃ d : Nat, f z = d ∧ Wk M d i z := fun z m => by
    obtain ⟨k, w⟩ := m.1
    exact (l.a z (w.lt' hm hi) (all w m)).2.1
  refine ⟨fun z _ m => h1 z m, fun z hz m => ?_, ?_⟩
  · apply Decidable.byContradiction
    intro c
    exact m (l.a z hz c).1
  · refine perN_eq (per_of l.f0 h1 (fun u v mu mv e => ?_) l.g)
    obtain ⟨k, w⟩ := mu.1
    obtain ⟨_, _, hq⟩ := l.a u (w.lt' hm hi) (all w mu)
    obtain ⟨j, hj⟩ := List.mem_iff_getElem?.1 hq
    exact (l.d j u (List.getElem?_eq_some_iff.1 hj).1 hj v mv e).2
end
end Go.Proofs.Ytjeemgaoonapgaa.Ev
set_option linter.unusedVariables false
set_option linter.unusedSimpArgs false
namespace Go.Proofs.Ytjeemgaoonapgaa.Ev
open Go Go.AEv
attribute [local simp] evFunc initS evOps_c evTrim_c evSkip_c evExit_c evRet_c evSeq_c evCond_c evBlock_c evDraw_c runOps_n runOps_c exec_n exec_g pure1_c act AOpd.ev T.get T.set T.put evBin evUn forceT_eq forceV_eq forceL_eq evRess evRes one keep runFP_n runFP_c app_none AV.flats AV.flat came_some List.getElem?_cons_zero List.getElem?_cons_succ beqT wrapI idxI tdivI tmodI decT decF ibT ibF inT inF evScope_c if_pos if_neg Cm_some thenW_n thenW_e thenW_r blkW_n blkW_e blkW_r goI kn putAt AV.cells fillA loadA takeA mk Eff.isAll Eff.isNone Eff.commutes Eff.spares okPair apart eqAgg fits LK.fits allEq aveq eqk mmA
def qs (Q : List Nat) : List AV := Q.map fun (z : Nat) => G (z : Int)
theorem qs_len (Q : List Nat) : (qs Q).length = Q.length := by simp [qs]
theorem qs_at {Q : List Nat} {k u : Nat} (h : Q[k]? = some u) : (qs Q)[k]? = some (G u) := by simp [qs, h]
structure BS (h0 H : Heap) (M : List (List Int)) (qc qo : Nat) (f : Nat → Int) (xq : AV) (Q : List Nat) : Prop where
  kf : Kp (fun _ => False) (frameOf h0) H
  gm : H.get h0.size = .cells 0 65 (matC M)
  gc : H.get qc = .cells 1 M.length (gs (clsL M))
  c1 : h0.size < qc
  go : H.get qo = .cells 1 M.length (gs (lf f M.length))
  o1 : h0.size < qo
  o2 : qo ≠ qc
  lq : ∃ bq, xq = .slice bq 0 Q.length Q.length ∧ H.get bq = .cells 1 Q.length (qs Q) ∧ h0.size < bq ∧ bq ≠ qo ∧ bq ≠ qc
section
variable {M : List (List Int)}
theorem fr_size (h : Heap) : (frameOf h).size = h.size := by simp [frameOf, Heap.size]
theorem BS.set {h0 H : Heap} {qc qo : Nat} {f : Nat → Int} {xq : AV} {Q : List Nat} (b : BS h0 H M qc qo f xq Q) {v : Nat} (hv : v < M.length) (z : Int) : ∃ H', Eff.app (.put qo M.length v [G z]) H = some H' ∧ BS h0 H' M qc qo (fun x => if x = v then z else f x) xq Q := by
  have hN : H.N = h0.size := b.kf.N
  have o1 := b.o1
  have p := put_gen H qo M.length v 1 (gs (lf f M.length)) [G z] (by omega) b.go (by rw [gl_len]; show v + 1 ≤ M.length; omega)
  rw [show putAt (gs (lf f M.length)) v [G z] = gs (lf (fun x => if x = v then z else f x) M.length) from gl_set f M.length v z hv] at p
  have hlt := get_lt b.go (by simp)
  refine ⟨_, p, b.kf.updn _ _ (by omega) (by rw [fr_size]; omega), ?_, ?_, b.c1, upd_same _ _ _ (by omega) hlt, b.o1, b.o2, ?_⟩
  · rw [upd_ne _ _ _ _ (by omega) (by omega)]; exact b.gm
  · rw [upd_ne _ _ _ _ (by omega) b.o2]; exact b.gc
  · obtain ⟨bq, e1, e2, e3, e4, e5⟩ := b.lq
    exact ⟨bq, e1, by rw [upd_ne _ _ _ _ (by omega) (fun e => e4 e.symm)]; exact e2, e3, e4, e5⟩
theorem BS.push {h0 H : Heap} (k0 : Nat) {qc qo : Nat} {f : Nat → Int} {xq : AV} {Q : List Nat} (b : BS h0 H M qc qo f xq Q) (v : Nat) (hn : Q.length ≤ 1000) :
    ∃ x1 e H', appA (H.plus [.cells 1 1 [G v]]) k0 none 1 8 1 [G v] xq = some (x1, e) ∧ Eff.app e (H.plus [.cells 1 1 [G v]]) = some H' ∧ BS h0 H' M qc qo f x1 (Q ++ [v]) := by
  have hN : H.N = h0.size := b.kf.N
  have o1 := b.o1
  have c1 := b.c1
  obtain ⟨bq, rfl, e2, e3, e4, e5⟩ := b.lq
  have hlt := get_lt e2 (by simp)
  have g2 := plus_keep [.cells 1 1 [G v]] e2 (by simp)
  have hN' : (H.plus [.cells 1 1 [G (v : Int)]]).N ≤ bq := by rw [plus_N]; omega
  have x := ext_gen (H.plus [.cells 1 1 [G v]]) bq Q.length 1 (qs Q) [G v] hN' g2 (qs_len Q)
  refine ⟨.slice bq 0 (Q.length + 1) (Q.length + 1), .ext bq Q.length 1 [G v], _, ?_, x, (b.kf.trans (Kp.plus _ _)).updn _ _ hN' (by rw [fr_size]; omega), ?_, ?_, c1, ?_, o1, b.o2, bq, by simp, ?_, e3, e4, e5⟩
  · simp only [appA, Nat.mul_one, Nat.one_mul]
    rw [if_neg (by decide), if_pos ⟨trivial, by simp, by omega⟩]
  · rw [upd_ne _ _ _ _ hN' (by omega)]; exact plus_keep _ b.gm (by simp)
  · rw [upd_ne _ _ _ _ hN' e5]; exact plus_keep _ b.gc (by simp)
  · rw [upd_ne _ _ _ _ hN' e4]; exact plus_keep _ b.go (by simp)
  · rw [upd_same _ _ _ hN' (by rw [plus_size]; omega)]
    simp [qs]
set_option maxHeartbeats 1000000 in
theorem c63_v (J : CallF) (k60 : K60 J) (h0 : Heap) (hm : isMat M = true) {qc qo i k u : Nat} (hi : i < M.length) :
    Tr tbl J c63_l1 (fun s h => ∃ f xq Q p, BI M i f Q k 0 p ∧ Q[k]? = some u ∧ BS h0 h M qc qo f xq Q ∧ s.get [false] = G i ∧ s.get [true] = .ptr h0.size 0 65 ∧ s.get [true, true] = .slice qc 0 M.length M.length ∧ s.get [false, false, false] = .slice qo 0 M.length M.length ∧ s.get [false, true, false] = xq ∧ s.get [true, true, false] = G (p : Nat) ∧ s.get [false, false, true] = G k ∧ s.get [true, false, true] = G u ∧ s.get [true, false, true, true, false] = G M.length ∧ s.get [false, true, true, true, false] = G ((0 : Nat) : Int)) (.exit 4)
      (fun s h => ∃ f xq Q p, BI M i f Q k M.length p ∧ Q[k]? = some u ∧ BS h0 h M qc qo f xq Q ∧ s.get [false] = G i ∧ s.get [true] = .ptr h0.size 0 65 ∧ s.get [true, true] = .slice qc 0 M.length M.length ∧ s.get [false, false, false] = .slice qo 0 M.length M.length ∧ s.get [false, true, false] = xq ∧ s.get [true, true, false] = G (p : Nat) ∧ s.get [false, false, true] = G k) := by
  have h8 := isMat_n hm
  refine Tr.rounds (P := fun v s h => ∃ f xq Q p, BI M i f Q k v p ∧ Q[k]? = some u ∧ BS h0 h M qc qo f xq Q ∧ s.get [false] = G i ∧ s.get [true] = .ptr h0.size 0 65 ∧ s.get [true, true] = .slice qc 0 M.length M.length ∧ s.get [false, false, false] = .slice qo 0 M.length M.length ∧ s.get [false, true, false] = xq ∧ s.get [true, true, false] = G (p : Nat) ∧ s.get [false, false, true] = G k ∧ s.get [true, false, true] = G u ∧ s.get [true, false, true, true, false] = G M.length ∧ s.get [false, true, true, true, false] = G v) (M := M.length) (fun v hv => ?_) ?_ (by simp) 0 (by omega)
  · refine Tr.w fun s1 H1 hp R kR => W.trim ?_
    obtain ⟨f, xq, Q, p, bi, hu, bs, q⟩ := hp
    obtain ⟨hun, hfu, hfk⟩ := bi.q k u hu
    have hkQ := (List.getElem?_eq_some_iff.1 hu).1
    have hQn : Q.length ≤ M.length := by have := bi.cn; omega
    obtain ⟨_, ⟨du, edu, _⟩, _⟩ := bi.a u hun hfu
    have gm := bs.gm
    have gc := bs.gc
    have go := bs.go
    have ea := matC_at M (i := u) (j := v) (by omega) (by omega)
    have ci : (gs (clsL M))[i]? = some (G (clN M i)) := gl_at _ hi
    have cv : (gs (clsL M))[v]? = some (G (clN M v)) := gl_at _ hv
    have fu : (gs (lf f M.length))[u]? = some (G (f u)) := gl_at f hun
    have fv : (gs (lf f M.length))[v]? = some (G (f v)) := gl_at f hv
    have ea' := getI ea
    have ci' := getI ci
    have cv' := getI cv
    have fu' := getI fu
    have fv' := getI fv
    have lm := matC_len M
    have ev : clN M v = clN M i ↔ Mu M i v := by
      rw [clN_eq hm hv hi]; exact ⟨Mu.symm, Mu.symm⟩
    have a0 := (ent_bd hm u v).1
    by_cases cc : Mu M i v ∧ 0 < ent M u v
    · obtain ⟨m1, m2⟩ := cc
      have e1 := ev.2 m1
      rw [e1] at cv cv'
      have am : ¬ ent M u v = 0 := by omega
      by_cases hf : f v = -1
      · have bi2 := bi.new hu m1 m2 hv hf
        obtain ⟨H2, p1, bs2⟩ := bs.set hv (f u + 1)
        obtain ⟨x1, e, H3, q1, q2, bs3⟩ := bs2.push H2.size v (by omega)
        have hu2 : (Q ++ [v])[k]? = some u := by rw [List.getElem?_append_left hkQ]; exact hu
        have f1 := app1_at H2 (G (v : Int))
        rw [hf] at fv fv'
        clear bs bs2 bi ev
        generalize hF : (fun x => if x = v then f u + 1 else f x) = F at *
        generalize clN M i = cz at *
        generalize ent M u v = a at *
        generalize gs (clsL M) = ccs at *
        generalize gs (lf f M.length) = co at *
        generalize matC M = cm at *
        generalize f u = w at *
        refine W.seq (W.chunk ?_)
        simp (disch := first | omega | exact getEq rfl | exact getO0 | exact Nat.le_of_ble_eq_true rfl) [c63_o15, app_growP, app_noneP, plus_N, plus_at0, put_plus0, put_plus1, upd_N, upd_size, q]
        refine W.seq (W.chunk ?_)
        simp (disch := first | omega | exact getEq rfl | exact getO0 | exact Nat.le_of_ble_eq_true rfl) [app_growP, app_noneP, plus_N, plus_at0, put_plus0, put_plus1, upd_N, upd_size, q]
        refine W.seq (W.block ?_)
        refine W.seq (W.chunk ?_)
        simp (disch := first | omega | exact getEq rfl | exact getO0 | exact Nat.le_of_ble_eq_true rfl) [c63_o16, app_growP, app_noneP, plus_N, plus_at0, put_plus0, put_plus1, upd_N, upd_size, q]
        refine W.block ?_
        refine W.seq (W.chunk ?_)
        simp (disch := first | omega | exact getEq rfl | exact getO0 | exact Nat.le_of_ble_eq_true rfl) [c63_o17, app_growP, app_noneP, plus_N, plus_at0, put_plus0, put_plus1, upd_N, upd_size, q, gm, gc, lm, ea, ea', ci, ci', cv, cv', am, -evDraw_c, evDraw_0]
        refine W.cond (v := false) (by simp (disch := first | omega | exact getEq rfl | exact getO0 | exact Nat.le_of_ble_eq_true rfl) [app_growP, app_noneP, plus_N, plus_at0, put_plus0, put_plus1, upd_N, upd_size, q]) ?_
        simp only [if_true, if_false, Bool.false_eq_true]
        refine W.seq (W.chunk ?_)
        simp (disch := first | omega | exact getEq rfl | exact getO0 | exact Nat.le_of_ble_eq_true rfl) [c63_o18, app_growP, app_noneP, plus_N, plus_at0, put_plus0, put_plus1, upd_N, upd_size, q, go, fv, fv']
        refine W.cond (v := true) (by simp (disch := first | omega | exact getEq rfl | exact getO0 | exact Nat.le_of_ble_eq_true rfl) [app_growP, app_noneP, plus_N, plus_at0, put_plus0, put_plus1, upd_N, upd_size, q]) ?_
        simp only [if_true, if_false, Bool.false_eq_true]
        refine W.seq (W.chunk ?_)
        simp (disch := first | omega | exact getEq rfl | exact getO0 | exact Nat.le_of_ble_eq_true rfl) [c63_o19, app_growP, app_noneP, plus_N, plus_at0, put_plus0, put_plus1, upd_N, upd_size, q, go, fu, fu', p1]
        refine W.chunk ?_
        simp (disch := first | omega | exact getEq rfl | exact getO0 | exact Nat.le_of_ble_eq_true rfl) [c63_o20, app_growP, app_noneP, plus_N, plus_at0, put_plus0, put_plus1, upd_N, upd_size, q, elems, rdOf, f1, q1, q2]
        refine W.chunk ?_
        simp (disch := first | omega | exact getEq rfl | exact getO0 | exact Nat.le_of_ble_eq_true rfl) [c63_o22, app_growP, app_noneP, plus_N, plus_at0, put_plus0, put_plus1, upd_N, upd_size, q]
        exact kR _ _ ⟨F, x1, Q ++ [v], p, bi2, hu2, bs3, by simp [T.get, q]⟩
      · obtain ⟨_, ⟨dv, edv, _⟩, hvQ⟩ := bi.a v hv hf
        obtain ⟨jv, hjv⟩ := List.mem_iff_getElem?.1 hvQ
        have hfj := (bi.q jv v hjv).2.2
        have hjQ := (List.getElem?_eq_some_iff.1 hjv).1
        have bi2 := bi.old h8.2 hu m1 m2 hv hf
        have hb := bi.b
        have hf0 : ¬ f v < 0 := by omega
        have bu : 0 ≤ f u ∧ f u ≤ 8 := by omega
        have bv : 0 ≤ f v ∧ f v ≤ 8 := by omega
        clear bi ev
        generalize hw : f u = w at *
        generalize hz : f v = z at *
        by_cases c : 0 ≤ w + 1 - z
        · obtain ⟨t, ht⟩ : ∃ t : Nat, w + 1 - z = t := ⟨(w + 1 - z).toNat, by omega⟩
          have k60' := fun h => k60 t p h (by omega) (by omega) (by omega) (by omega)
          simp only [Int.toNat_natCast] at k60'
          rw [ht, Int.natAbs_natCast] at bi2
          have h2 : ¬ (t : Int) < z - w - 1 := by omega
          generalize hco : gs (lf f M.length) = co at *
          generalize clN M i = cz at *
          generalize ent M u v = a at *
          generalize gs (clsL M) = ccs at *
          generalize matC M = cm at *
          refine W.seq (W.chunk ?_)
          simp (disch := first | omega | exact getEq rfl | exact getO0 | exact Nat.le_of_ble_eq_true rfl) [c63_o15, app_growP, app_noneP, plus_N, plus_at0, put_plus0, put_plus1, upd_N, upd_size, q]
          refine W.seq (W.chunk ?_)
          simp (disch := first | omega | exact getEq rfl | exact getO0 | exact Nat.le_of_ble_eq_true rfl) [app_growP, app_noneP, plus_N, plus_at0, put_plus0, put_plus1, upd_N, upd_size, q]
          refine W.seq (W.block ?_)
          refine W.seq (W.chunk ?_)
          simp (disch := first | omega | exact getEq rfl | exact getO0 | exact Nat.le_of_ble_eq_true rfl) [c63_o16, app_growP, app_noneP, plus_N, plus_at0, put_plus0, put_plus1, upd_N, upd_size, q]
          refine W.block ?_
          refine W.seq (W.chunk ?_)
          simp (disch := first | omega | exact getEq rfl | exact getO0 | exact Nat.le_of_ble_eq_true rfl) [c63_o17, app_growP, app_noneP, plus_N, plus_at0, put_plus0, put_plus1, upd_N, upd_size, q, gm, gc, lm, ea, ea', ci, ci', cv, cv', am, -evDraw_c, evDraw_0]
          refine W.cond (v := false) (by simp (disch := first | omega | exact getEq rfl | exact getO0 | exact Nat.le_of_ble_eq_true rfl) [app_growP, app_noneP, plus_N, plus_at0, put_plus0, put_plus1, upd_N, upd_size, q]) ?_
          simp only [if_true, if_false, Bool.false_eq_true]
          refine W.seq (W.chunk ?_)
          simp (disch := first | omega | exact getEq rfl | exact getO0 | exact Nat.le_of_ble_eq_true rfl) [c63_o18, app_growP, app_noneP, plus_N, plus_at0, put_plus0, put_plus1, upd_N, upd_size, q, go, fv, fv']
          refine W.cond (v := false) (by simp (disch := first | omega | exact getEq rfl | exact getO0 | exact Nat.le_of_ble_eq_true rfl) [app_growP, app_noneP, plus_N, plus_at0, put_plus0, put_plus1, upd_N, upd_size, q]) ?_
          simp only [if_true, if_false, Bool.false_eq_true]
          refine W.chunk ?_
          simp (disch := first | omega | exact getEq rfl | exact getO0 | exact Nat.le_of_ble_eq_true rfl) [c63_o21, app_growP, app_noneP, plus_N, plus_at0, put_plus0, put_plus1, upd_N, upd_size, q, go, fu, fu', fv, fv', ht, h2, k60', -evDraw_c, evDraw_0]
          refine W.chunk ?_
          simp (disch := first | omega | exact getEq rfl | exact getO0 | exact Nat.le_of_ble_eq_true rfl) [c63_o22, app_growP, app_noneP, plus_N, plus_at0, put_plus0, put_plus1, upd_N, upd_size, q]
          exact kR _ _ ⟨f, xq, Q, _, bi2, hu, bs, by simp [T.get, q]⟩
        · obtain ⟨t, ht⟩ : ∃ t : Nat, z - w - 1 = t := ⟨(z - w - 1).toNat, by omega⟩
          have k60' := fun h => k60 t p h (by omega) (by omega) (by omega) (by omega)
          simp only [Int.toNat_natCast] at k60'
          rw [show (w + 1 - z).natAbs = t by omega] at bi2
          have h2 : w + 1 - z < (t : Int) := by omega
          generalize hco : gs (lf f M.length) = co at *
          generalize clN M i = cz at *
          generalize ent M u v = a at *
          generalize gs (clsL M) = ccs at *
          generalize matC M = cm at *
          refine W.seq (W.chunk ?_)
          simp (disch := first | omega | exact getEq rfl | exact getO0 | exact Nat.le_of_ble_eq_true rfl) [c63_o15, app_growP, app_noneP, plus_N, plus_at0, put_plus0, put_plus1, upd_N, upd_size, q]
          refine W.seq (W.chunk ?_)
          simp (disch := first | omega | exact getEq rfl | exact getO0 | exact Nat.le_of_ble_eq_true rfl) [app_growP, app_noneP, plus_N, plus_at0, put_plus0, put_plus1, upd_N, upd_size, q]
          refine W.seq (W.block ?_)
          refine W.seq (W.chunk ?_)
          simp (disch := first | omega | exact getEq rfl | exact getO0 | exact Nat.le_of_ble_eq_true rfl) [c63_o16, app_growP, app_noneP, plus_N, plus_at0, put_plus0, put_plus1, upd_N, upd_size, q]
          refine W.block ?_
          refine W.seq (W.chunk ?_)
          simp (disch := first | omega | exact getEq rfl | exact getO0 | exact Nat.le_of_ble_eq_true rfl) [c63_o17, app_growP, app_noneP, plus_N, plus_at0, put_plus0, put_plus1, upd_N, upd_size, q, gm, gc, lm, ea, ea', ci, ci', cv, cv', am, -evDraw_c, evDraw_0]
          refine W.cond (v := false) (by simp (disch := first | omega | exact getEq rfl | exact getO0 | exact Nat.le_of_ble_eq_true rfl) [app_growP, app_noneP, plus_N, plus_at0, put_plus0, put_plus1, upd_N, upd_size, q]) ?_
          simp only [if_true, if_false, Bool.false_eq_true]
          refine W.seq (W.chunk ?_)
          simp (disch := first | omega | exact getEq rfl | exact getO0 | exact Nat.le_of_ble_eq_true rfl) [c63_o18, app_growP, app_noneP, plus_N, plus_at0, put_plus0, put_plus1, upd_N, upd_size, q, go, fv, fv']
          refine W.cond (v := false) (by simp (disch := first | omega | exact getEq rfl | exact getO0 | exact Nat.le_of_ble_eq_true rfl) [app_growP, app_noneP, plus_N, plus_at0, put_plus0, put_plus1, upd_N, upd_size, q]) ?_
          simp only [if_true, if_false, Bool.false_eq_true]
          refine W.chunk ?_
          simp (disch := first | omega | exact getEq rfl | exact getO0 | exact Nat.le_of_ble_eq_true rfl) [c63_o21, app_growP, app_noneP, plus_N, plus_at0, put_plus0, put_plus1, upd_N, upd_size, q, go, fu, fu', fv, fv', ht, h2, k60', -evDraw_c, evDraw_0]
          refine W.chunk ?_
          simp (disch := first | omega | exact getEq rfl | exact getO0 | exact Nat.le_of_ble_eq_true rfl) [c63_o22, app_growP, app_noneP, plus_N, plus_at0, put_plus0, put_plus1, upd_N, upd_size, q]
          exact kR _ _ ⟨f, xq, Q, _, bi2, hu, bs, by simp [T.get, q]⟩
    · have bi2 := bi.skip hu cc
      rw [← ev] at cc
      clear bi ev
      generalize hca : clN M v = ca at *
      generalize hcz : clN M i = cz at *
      generalize ent M u v = a at *
      generalize gs (clsL M) = ccs at *
      generalize matC M = cm at *
      by_cases c : a = 0
      · refine W.seq (W.chunk ?_)
        simp (disch := first | omega | exact getEq rfl | exact getO0 | exact Nat.le_of_ble_eq_true rfl) [c63_o15, app_growP, app_noneP, plus_N, plus_at0, put_plus0, put_plus1, upd_N, upd_size, q]
        refine W.seq (W.chunk ?_)
        simp (disch := first | omega | exact getEq rfl | exact getO0 | exact Nat.le_of_ble_eq_true rfl) [app_growP, app_noneP, plus_N, plus_at0, put_plus0, put_plus1, upd_N, upd_size, q]
        refine W.seq (W.block ?_)
        refine W.seq (W.chunk ?_)
        simp (disch := first | omega | exact getEq rfl | exact getO0 | exact Nat.le_of_ble_eq_true rfl) [c63_o16, app_growP, app_noneP, plus_N, plus_at0, put_plus0, put_plus1, upd_N, upd_size, q]
        refine W.block ?_
        refine W.seq (W.chunk ?_)
        simp (disch := first | omega | exact getEq rfl | exact getO0 | exact Nat.le_of_ble_eq_true rfl) [c63_o17, app_growP, app_noneP, plus_N, plus_at0, put_plus0, put_plus1, upd_N, upd_size, q, gm, gc, lm, ea, ea', ci, ci', cv, cv', c, -evDraw_c, evDraw_0]
        refine W.cond (v := true) (by simp (disch := first | omega | exact getEq rfl | exact getO0 | exact Nat.le_of_ble_eq_true rfl) [app_growP, app_noneP, plus_N, plus_at0, put_plus0, put_plus1, upd_N, upd_size, q]) ?_
        simp only [if_true, if_false, Bool.false_eq_true]
        refine W.skip ?_
        try simp only [thenW_n, thenW_e, thenW_r, blkW_n, blkW_e, blkW_r, if_true]
        refine W.chunk ?_
        simp (disch := first | omega | exact getEq rfl | exact getO0 | exact Nat.le_of_ble_eq_true rfl) [c63_o22, app_growP, app_noneP, plus_N, plus_at0, put_plus0, put_plus1, upd_N, upd_size, q]
        exact kR _ _ ⟨f, xq, Q, p, bi2, hu, bs, by simp [T.get, q]⟩
      · have c2 : ¬ (ca : Int) = cz := fun e => cc ⟨by omega, by omega⟩
        refine W.seq (W.chunk ?_)
        simp (disch := first | omega | exact getEq rfl | exact getO0 | exact Nat.le_of_ble_eq_true rfl) [c63_o15, app_growP, app_noneP, plus_N, plus_at0, put_plus0, put_plus1, upd_N, upd_size, q]
        refine W.seq (W.chunk ?_)
        simp (disch := first | omega | exact getEq rfl | exact getO0 | exact Nat.le_of_ble_eq_true rfl) [app_growP, app_noneP, plus_N, plus_at0, put_plus0, put_plus1, upd_N, upd_size, q]
        refine W.seq (W.block ?_)
        refine W.seq (W.chunk ?_)
        simp (disch := first | omega | exact getEq rfl | exact getO0 | exact Nat.le_of_ble_eq_true rfl) [c63_o16, app_growP, app_noneP, plus_N, plus_at0, put_plus0, put_plus1, upd_N, upd_size, q]
        refine W.block ?_
        refine W.seq (W.chunk ?_)
        simp (disch := first | omega | exact getEq rfl | exact getO0 | exact Nat.le_of_ble_eq_true rfl) [c63_o17, app_growP, app_noneP, plus_N, plus_at0, put_plus0, put_plus1, upd_N, upd_size, q, gm, gc, lm, ea, ea', ci, ci', cv, cv', c, c2, -evDraw_c, evDraw_0]
        refine W.cond (v := true) (by simp (disch := first | omega | exact getEq rfl | exact getO0 | exact Nat.le_of_ble_eq_true rfl) [app_growP, app_noneP, plus_N, plus_at0, put_plus0, put_plus1, upd_N, upd_size, q]) ?_
        simp only [if_true, if_false, Bool.false_eq_true]
        refine W.skip ?_
        try simp only [thenW_n, thenW_e, thenW_r, blkW_n, blkW_e, blkW_r, if_true]
        refine W.chunk ?_
        simp (disch := first | omega | exact getEq rfl | exact getO0 | exact Nat.le_of_ble_eq_true rfl) [c63_o22, app_growP, app_noneP, plus_N, plus_at0, put_plus0, put_plus1, upd_N, upd_size, q]
        exact kR _ _ ⟨f, xq, Q, p, bi2, hu, bs, by simp [T.get, q]⟩
  · refine Tr.w fun s1 H1 hp R kR => W.trim ?_
    obtain ⟨f, xq, Q, p, bi, hu, bs, q⟩ := hp
    refine W.seq (W.chunk ?_)
    simp (disch := first | omega | exact getEq rfl | exact getO0 | exact Nat.le_of_ble_eq_true rfl) [c63_o15, app_growP, app_noneP, plus_N, plus_at0, put_plus0, put_plus1, upd_N, upd_size, q]
    refine W.seq (W.chunk ?_)
    simp (disch := first | omega | exact getEq rfl | exact getO0 | exact Nat.le_of_ble_eq_true rfl) [app_growP, app_noneP, plus_N, plus_at0, put_plus0, put_plus1, upd_N, upd_size, q]
    exact kR _ _ ⟨f, xq, Q, p, bi, hu, bs, by simp [T.get, q]⟩
end
end Go.Proofs.Ytjeemgaoonapgaa.Ev
set_option linter.unusedVariables false
set_option linter.unusedSimpArgs false
namespace Go.Proofs.Ytjeemgaoonapgaa.Ev
open Go Go.AEv
attribute [local simp] evFunc initS evOps_c evTrim_c evSkip_c evExit_c evRet_c evSeq_c evCond_c evBlock_c evDraw_c runOps_n runOps_c exec_n exec_g pure1_c act AOpd.ev T.get T.set T.put evBin evUn forceT_eq forceV_eq forceL_eq evRess evRes one keep runFP_n runFP_c app_none AV.flats AV.flat came_some List.getElem?_cons_zero List.getElem?_cons_succ beqT wrapI idxI tdivI tmodI decT decF ibT ibF inT inF evScope_c if_pos if_neg Cm_some thenW_n thenW_e thenW_r blkW_n blkW_e blkW_r goI kn putAt AV.cells fillA loadA takeA mk Eff.isAll Eff.isNone Eff.commutes Eff.spares okPair apart eqAgg fits LK.fits allEq aveq eqk mmA
section
variable {M : List (List Int)}
theorem c63_k (J : CallF) (k60 : K60 J) (h0 : Heap) (hm : isMat M = true) {qc qo i : Nat} (hi : i < M.length) : ∀ d k, k + d = M.length →
    Tr tbl J c63_l2 (fun s h => ∃ f xq Q p, BI M i f Q k 0 p ∧ k ≤ Q.length ∧ BS h0 h M qc qo f xq Q ∧ s.get [false] = G i ∧ s.get [true] = .ptr h0.size 0 65 ∧ s.get [true, true] = .slice qc 0 M.length M.length ∧ s.get [false, false, false] = .slice qo 0 M.length M.length ∧ s.get [false, true, false] = xq ∧ s.get [true, true, false] = G (p : Nat) ∧ s.get [false, false, true] = G k) (.exit 2)
      (fun s h => ∃ f xq Q p, BI M i f Q Q.length 0 p ∧ BS h0 h M qc qo f xq Q ∧ s.get [false, false, false] = .slice qo 0 M.length M.length ∧ s.get [true, true, false] = G (p : Nat)) := by
  have h8 := isMat_n hm
  have e0 : (matC M)[0]? = some (G M.length) := rfl
  have e0' := getI e0
  have lm := matC_len M
  intro d
  induction d with
  | zero =>
    intro k hk
    refine Tr.w fun s1 H1 hp R kR => ?_
    obtain ⟨f, xq, Q, p, bi, hkQ, bs, q⟩ := hp
    have hQn : Q.length ≤ M.length := by have := bi.cn; omega
    obtain rfl : k = Q.length := by omega
    obtain ⟨bq, rfl, g9, _⟩ := id bs.lq
    refine W.loop (W.trim ?_)
    refine W.assoc ?_
    refine W.seq (W.chunk ?_)
    simp (disch := first | omega | exact getEq rfl | exact getO0 | exact Nat.le_of_ble_eq_true rfl) [c63_o12, app_growP, app_noneP, plus_N, plus_at0, put_plus0, put_plus1, upd_N, upd_size, q]
    refine W.seq (W.chunk ?_)
    simp (disch := first | omega | exact getEq rfl | exact getO0 | exact Nat.le_of_ble_eq_true rfl) [app_growP, app_noneP, plus_N, plus_at0, put_plus0, put_plus1, upd_N, upd_size, q]
    exact kR _ _ ⟨f, _, Q, p, bi, bs, by simp [T.get, q]⟩
  | succ d ih =>
    intro k hk
    have ih := ih (k + 1) (by omega)
    refine Tr.w fun s1 H1 hp R kR => ?_
    obtain ⟨f, xq, Q, p, bi, hkQ, bs, q⟩ := hp
    have hQn : Q.length ≤ M.length := by have := bi.cn; omega
    by_cases c : k = Q.length
    · subst c
      obtain ⟨bq, rfl, g9, _⟩ := id bs.lq
      refine W.loop (W.trim ?_)
      refine W.assoc ?_
      refine W.seq (W.chunk ?_)
      simp (disch := first | omega | exact getEq rfl | exact getO0 | exact Nat.le_of_ble_eq_true rfl) [c63_o12, app_growP, app_noneP, plus_N, plus_at0, put_plus0, put_plus1, upd_N, upd_size, q]
      refine W.seq (W.chunk ?_)
      simp (disch := first | omega | exact getEq rfl | exact getO0 | exact Nat.le_of_ble_eq_true rfl) [app_growP, app_noneP, plus_N, plus_at0, put_plus0, put_plus1, upd_N, upd_size, q]
      exact kR _ _ ⟨f, _, Q, p, bi, bs, by simp [T.get, q]⟩
    · have hlt : k < Q.length := by omega
      obtain ⟨u, hu⟩ : ∃ u, Q[k]? = some u := ⟨Q[k], List.getElem?_eq_getElem hlt⟩
      have l1 := c63_v (u := u) (k := k) (qc := qc) (qo := qo) J k60 h0 hm hi
      obtain ⟨bq, rfl, g9, _⟩ := id bs.lq
      have ex : ∃ f' xq' Q' p', BI M i f' Q' k 0 p' ∧ Q'[k]? = some u ∧ BS h0 H1 M qc qo f' xq' Q' ∧ AV.slice bq 0 Q.length Q.length = xq' ∧ (p : Int) = (p' : Nat) := ⟨f, _, Q, p, bi, hu, bs, rfl, rfl⟩
      have eu := qs_at hu
      have lq := qs_len Q
      have eu' := getI eu
      have gm := bs.gm
      clear bi
      generalize qs Q = cq at *
      refine W.loop (W.trim ?_)
      refine W.assoc ?_
      refine W.seq (W.chunk ?_)
      simp (disch := first | omega | exact getEq rfl | exact getO0 | exact Nat.le_of_ble_eq_true rfl) [c63_o12, app_growP, app_noneP, plus_N, plus_at0, put_plus0, put_plus1, upd_N, upd_size, q]
      refine W.seq (W.chunk ?_)
      simp (disch := first | omega | exact getEq rfl | exact getO0 | exact Nat.le_of_ble_eq_true rfl) [app_growP, app_noneP, plus_N, plus_at0, put_plus0, put_plus1, upd_N, upd_size, q]
      refine W.seq (W.block ?_)
      refine W.seq (W.chunk ?_)
      simp (disch := first | omega | exact getEq rfl | exact getO0 | exact Nat.le_of_ble_eq_true rfl) [c63_o13, app_growP, app_noneP, plus_N, plus_at0, put_plus0, put_plus1, upd_N, upd_size, q, g9, eu, eu', lq]
      refine W.seq (W.chunk ?_)
      simp (disch := first | omega | exact getEq rfl | exact getO0 | exact Nat.le_of_ble_eq_true rfl) [c63_o14, app_growP, app_noneP, plus_N, plus_at0, put_plus0, put_plus1, upd_N, upd_size, q, gm, e0, e0', lm]
      refine W.block ?_
      refine W.use (l1) (by simp (disch := first | omega | exact getEq rfl | exact getO0 | exact Nat.le_of_ble_eq_true rfl) [app_growP, app_noneP, plus_N, plus_at0, put_plus0, put_plus1, upd_N, upd_size, q, ex]) fun s1 H1 hp => ?_
      obtain ⟨f2, xq2, Q2, p2, bi2, hu2, bs2, q⟩ := hp
      try simp only [thenW_n, thenW_e, thenW_r, blkW_n, blkW_e, blkW_r, if_true]
      refine W.chunk ?_
      simp (disch := first | omega | exact getEq rfl | exact getO0 | exact Nat.le_of_ble_eq_true rfl) [c63_o23, app_growP, app_noneP, plus_N, plus_at0, put_plus0, put_plus1, upd_N, upd_size, q]
      have hk2 := (List.getElem?_eq_some_iff.1 hu2).1
      exact W.use ih ⟨f2, xq2, Q2, p2, bi2.nextk hm, hk2, bs2, by simp [T.get, q]⟩ kR
theorem c63_l0_ok (J : CallF) {H : Heap} {y1 y2 y6 : AV} {n : Nat} (h8 : n ≤ 8) : Tr tbl J c63_l0 (fun s h => h = H.plus [.cells 1 n (gs (lf (m1F 0) n))] ∧ s.get [false] = y1 ∧ s.get [true] = y2 ∧ s.get [true, true] = y6 ∧ s.get [false, false, false] = .slice H.size 0 n n ∧ s.get [true, false, true, false] = G n ∧ s.get [false, true, true, false] = G ((0 : Nat) : Int)) (.exit 0) (fun s h => h = H.plus [.cells 1 n (gs (lf (m1F n) n))] ∧ s.get [false] = y1 ∧ s.get [true] = y2 ∧ s.get [true, true] = y6 ∧ s.get [false, false, false] = .slice H.size 0 n n) := by
  refine Tr.rounds (P := fun z => (fun s h => h = H.plus [.cells 1 n (gs (lf (m1F z) n))] ∧ s.get [false] = y1 ∧ s.get [true] = y2 ∧ s.get [true, true] = y6 ∧ s.get [false, false, false] = .slice H.size 0 n n ∧ s.get [true, false, true, false] = G n ∧ s.get [false, true, true, false] = G z)) (M := n) (fun z hz => ?_) ?_ (by simp) 0 (by omega)
  · refine Tr.w fun s1 H1 hp R kR => W.trim ?_
    obtain ⟨rfl, q⟩ := hp
    have es : (gs (lf (m1F z) n)).set z (G (-1)) = gs (lf (m1F (z + 1)) n) := by
      rw [gl_set _ _ _ _ hz]
      congr 1
      apply lf_ext
      intro x hx
      unfold m1F
      by_cases e : x = z
      · rw [if_pos e, if_pos (by omega)]
      · rw [if_neg e]
        by_cases c : x < z
        · rw [if_pos c, if_pos (by omega)]
        · rw [if_neg c, if_neg (by omega)]
    have lc := gl_len (m1F z) n
    generalize gs (lf (m1F (z + 1)) n) = c1 at *
    generalize gs (lf (m1F z) n) = c0 at *
    refine W.seq (W.chunk ?_)
    simp (disch := first | omega | exact getEq rfl | exact getO0 | exact Nat.le_of_ble_eq_true rfl) [c63_o4, app_growP, app_noneP, plus_N, plus_at0, put_plus0, put_plus1, upd_N, upd_size, q]
    refine W.seq (W.chunk ?_)
    simp (disch := first | omega | exact getEq rfl | exact getO0 | exact Nat.le_of_ble_eq_true rfl) [app_growP, app_noneP, plus_N, plus_at0, put_plus0, put_plus1, upd_N, upd_size, q]
    refine W.seq (W.block ?_)
    refine W.seq (W.chunk ?_)
    simp (disch := first | omega | exact getEq rfl | exact getO0 | exact Nat.le_of_ble_eq_true rfl) [c63_o5, app_growP, app_noneP, plus_N, plus_at0, put_plus0, put_plus1, upd_N, upd_size, q]
    refine W.chunk ?_
    simp (disch := first | omega | exact getEq rfl | exact getO0 | exact Nat.le_of_ble_eq_true rfl) [c63_o6, app_growP, app_noneP, plus_N, plus_at0, put_plus0, put_plus1, upd_N, upd_size, q, lc, es]
    refine W.chunk ?_
    simp (disch := first | omega | exact getEq rfl | exact getO0 | exact Nat.le_of_ble_eq_true rfl) [c63_o7, app_growP, app_noneP, plus_N, plus_at0, put_plus0, put_plus1, upd_N, upd_size, q]
    exact kR _ _ (by simp [T.get, q])
  · refine Tr.w fun s1 H1 hp R kR => W.trim ?_
    obtain ⟨rfl, q⟩ := hp
    refine W.seq (W.chunk ?_)
    simp (disch := first | omega | exact getEq rfl | exact getO0 | exact Nat.le_of_ble_eq_true rfl) [c63_o4, app_growP, app_noneP, plus_N, plus_at0, put_plus0, put_plus1, upd_N, upd_size, q]
    refine W.seq (W.chunk ?_)
    simp (disch := first | omega | exact getEq rfl | exact getO0 | exact Nat.le_of_ble_eq_true rfl) [app_growP, app_noneP, plus_N, plus_at0, put_plus0, put_plus1, upd_N, upd_size, q]
    exact kR _ _ (by simp [T.get, q])
theorem cu_init {i : Nat} : ∀ {m}, i < m → cu (fun z => if z = i then 0 else -1) m + 1 = m
  | 0, h => by omega
  | m + 1, h => by
    show cu _ m + (if (if m = i then (0 : Int) else -1) = -1 then 1 else 0) + 1 = m + 1
    by_cases e : i = m
    · subst e
      rw [if_pos rfl, if_neg (by omega)]
      have : ∀ k, k ≤ i → cu (fun z => if z = i then (0 : Int) else -1) k = k := fun k => by
        induction k with
        | zero => intro _; rfl
        | succ k ih =>
          intro hk
          show cu _ k + (if (if k = i then (0 : Int) else -1) = -1 then 1 else 0) = k + 1
          rw [if_neg (show ¬ k = i by omega), if_pos rfl, ih (by omega)]
      rw [this i (Nat.le_refl _)]
    · rw [if_neg (show ¬ m = i from fun e' => e e'.symm), if_pos rfl]
      have := cu_init (i := i) (m := m) (by omega)
      omega
theorem BI.init {i : Nat} (hi : i < M.length) : BI M i (fun z => if z = i then 0 else -1) [i] 0 0 0 := by
  refine ⟨if_pos rfl, fun z hz hne => ?_, fun j z hj => ?_, ?_, fun g _ => ⟨0, rfl⟩, fun j u hj => absurd hj (by omega), fun u hu z hz => absurd hz (by omega), by omega⟩
  · by_cases c : z = i
    · subst c
      exact ⟨Mu.refl z, ⟨0, if_pos rfl, rfl⟩, by simp⟩
    · simp only [if_neg c] at hne; exact absurd rfl hne
  · have hj0 : j = 0 := by
      have := (List.getElem?_eq_some_iff.1 hj).1
      simpa using this
    subst hj0
    simp only [List.getElem?_cons_zero, Option.some.injEq] at hj
    subst hj
    exact ⟨hi, by simp, by simp⟩
  · have := cu_init hi
    rw [List.length_singleton]; omega
def DSp (M : List (List Int)) (i : Nat) (f : Nat → Int) : Prop := (∀ z, z < M.length → Mu M i z → ∃ d : Nat, f z = d ∧ Wk M d i z) ∧ (∀ z, z < M.length → ¬ Mu M i z → f z = -1)
theorem c63_ok (J : CallF) (k60 : K60 J) (k62 : K62 J) (hJ : ∀ a h, J 63 a h = none) (h : Heap) (hm : isMat M = true) {i : Nat} (hi : i < M.length) : ∃ v own, CallsTo tbl J 63 [.agg (matC M), G i] h (v, own, false) ∧ ∃ w f, v = .tup [w, G (perN M i)] ∧ DSp M i f ∧ perN M i ≤ 100 ∧ NG h (h.plus own) w (lf f M.length) := by
  refine Tr.fny (cf := c63) (e := .ret) (s := T.set (T.set .leaf [] (.agg (matC M))) [false] (G i)) (by decide) rfl (hJ _ _) rfl rfl (by simp) ?_
  have h8 := isMat_n hm
  have lm := matC_len M
  have et : (matC M).take 65 = matC M := List.take_of_length_le (by omega)
  have e0 : (matC M)[0]? = some (G M.length) := rfl
  have e0' := getI e0
  obtain ⟨w, own, k62, nc⟩ := k62 ((frameOf h).plus [.cells 0 65 (matC M)]) M hm
  obtain ⟨qc, rfl, gc⟩ := nc.l.sl (by intro e; have h0 : (gs (clsL M)).length = M.length := gl_len _ _; rw [e] at h0; simp at h0; omega)
  rw [show (gs (clsL M)).length = M.length from gl_len _ _] at k62 gc
  have cq := nc.x0 qc rfl
  rw [plus_size, fr_size] at cq
  have cq : h.size + 1 ≤ qc := cq
  have kA : Kp (fun _ => False) (frameOf h) (((frameOf h).plus [.cells 0 65 (matC M)]).plus own) := (Kp.plus _ _).trans nc.k
  have gm : (((frameOf h).plus [.cells 0 65 (matC M)]).plus own).get h.size = .cells 0 65 (matC M) := nc.k.at (plus_at0 _ _ _ _ (fr_size h)) (by simp) id
  have gm0 : ((frameOf h).plus [.cells 0 65 (matC M)]).get h.size = .cells 0 65 (matC M) := plus_at0 _ _ _ _ (fr_size h)
  clear nc
  generalize hHa : ((frameOf h).plus [.cells 0 65 (matC M)]).plus own = Ha at *
  have sA : qc < Ha.size := get_lt gc (by simp)
  have mk1 := fun H => mkSl_ok H 8 (G 0) M.length (M.length : Int) rfl (by omega)
  have rp := gl_rep M.length
  have ez : gs (lf (m1F 0) M.length) = gs (lf (fun _ => 0) M.length) := by congr 1
  have l0 := c63_l0_ok (y1 := G i) (y2 := .ptr h.size 0 65) (y6 := .slice qc 0 M.length M.length) (H := Ha) J h8.2
  rw [ez] at l0
  have es : (gs (lf (m1F M.length) M.length)).set i (G 0) = gs (lf (fun z => if z = i then 0 else -1) M.length) := by
    rw [gl_set _ _ _ _ hi]
    congr 1
    apply lf_ext
    intro x hx
    unfold m1F
    by_cases e : x = i
    · rw [if_pos e, if_pos e]
    · rw [if_neg e, if_neg e, if_pos hx]
  have lc := gl_len (m1F M.length) M.length
  have bs0 : BS h ((Ha.plus [.cells 1 M.length (gs (lf (fun z => if z = i then 0 else -1) M.length))]).plus [.cells 1 1 [G i]]) M qc Ha.size (fun z => if z = i then 0 else -1) (.slice (Ha.size + 1) 0 1 1) [i] :=
    ⟨(kA.trans (Kp.plus _ _)).trans (Kp.plus _ _), plus_keep _ (plus_keep _ gm (by simp)) (by simp), plus_keep _ (plus_keep _ gc (by simp)) (by simp), by omega, plus_keep _ (plus_at0 _ _ _ _ rfl) (by simp), by have := kA.size; rw [fr_size] at this; omega, by omega, Ha.size + 1, rfl, plus_at0 _ _ _ _ (by rw [plus_size]; rfl), by omega, by omega, by omega⟩
  have bi0 := BI.init hi
  have l2 := c63_k (qc := qc) (qo := Ha.size) J k60 h hm hi M.length 0 (by omega)
  have ex : ∃ f xq Q p, BI M i f Q 0 0 p ∧ BS h ((Ha.plus [.cells 1 M.length (gs (lf (fun z => if z = i then 0 else -1) M.length))]).plus [.cells 1 1 [G i]]) M qc Ha.size f xq Q ∧ AV.slice (Ha.size + 1) 0 1 1 = xq ∧ (0 : Int) = (p : Nat) := ⟨_, _, _, 0, bi0, bs0, rfl, rfl⟩
  have fs := fr_size h
  refine Tr.w fun s1 H1 hp R kR => ?_
  obtain ⟨rfl, rfl⟩ := hp
  have q : True := trivial
  clear bs0 bi0
  generalize gs (lf (m1F M.length) M.length) = c1 at *
  generalize gs (lf (fun z => if z = i then 0 else -1) M.length) = c2 at *
  generalize gs (lf (fun _ => 0) M.length) = cz at *
  refine W.seq (W.chunk ?_)
  simp (disch := first | omega | exact getEq rfl | exact getO0 | exact Nat.le_of_ble_eq_true rfl) [c63_o0, app_growP, app_noneP, plus_N, plus_at0, put_plus0, put_plus1, upd_N, upd_size, q, lm, fs]
  refine W.seq (W.chunk ?_)
  simp (disch := first | omega | exact getEq rfl | exact getO0 | exact Nat.le_of_ble_eq_true rfl) [c63_o1, app_growP, app_noneP, plus_N, plus_at0, put_plus0, put_plus1, upd_N, upd_size, q, fs, gm0, et, lm, k62, app_if, app_if', hHa]
  refine W.seq (W.chunk ?_)
  simp (disch := first | omega | exact getEq rfl | exact getO0 | exact Nat.le_of_ble_eq_true rfl) [-act, c63_o2, app_growP, app_noneP, plus_N, plus_at0, put_plus0, put_plus1, upd_N, upd_size, q, act_move, act_mkSl, act_fa, act_load, act_bin, gm, e0, e0', lm, mk1, rp]
  refine W.assoc ?_
  refine W.seq (W.chunk ?_)
  simp (disch := first | omega | exact getEq rfl | exact getO0 | exact Nat.le_of_ble_eq_true rfl) [c63_o3, app_growP, app_noneP, plus_N, plus_at0, put_plus0, put_plus1, upd_N, upd_size, q]
  refine W.seq (W.block ?_)
  refine W.use (l0) (by simp (disch := first | omega | exact getEq rfl | exact getO0 | exact Nat.le_of_ble_eq_true rfl) [app_growP, app_noneP, plus_N, plus_at0, put_plus0, put_plus1, upd_N, upd_size, q]) fun s1 H1 hp => ?_
  obtain ⟨rfl, q⟩ := hp
  try simp only [thenW_n, thenW_e, thenW_r, blkW_n, blkW_e, blkW_r, if_true]
  refine W.seq (W.chunk ?_)
  simp (disch := first | omega | exact getEq rfl | exact getO0 | exact Nat.le_of_ble_eq_true rfl) [c63_o8, app_growP, app_noneP, plus_N, plus_at0, put_plus0, put_plus1, upd_N, upd_size, q, lc, es]
  refine W.seq (W.chunk ?_)
  simp (disch := first | omega | exact getEq rfl | exact getO0 | exact Nat.le_of_ble_eq_true rfl) [c63_o9, app_growP, app_noneP, plus_N, plus_at0, put_plus0, put_plus1, upd_N, upd_size, q, plus_size]
  refine W.seq (W.chunk ?_)
  simp (disch := first | omega | exact getEq rfl | exact getO0 | exact Nat.le_of_ble_eq_true rfl) [c63_o10, app_growP, app_noneP, plus_N, plus_at0, put_plus0, put_plus1, upd_N, upd_size, q]
  refine W.assoc ?_
  refine W.seq (W.chunk ?_)
  simp (disch := first | omega | exact getEq rfl | exact getO0 | exact Nat.le_of_ble_eq_true rfl) [c63_o11, app_growP, app_noneP, plus_N, plus_at0, put_plus0, put_plus1, upd_N, upd_size, q]
  refine W.seq (W.block ?_)
  refine W.use (l2) (by simp (disch := first | omega | exact getEq rfl | exact getO0 | exact Nat.le_of_ble_eq_true rfl) [app_growP, app_noneP, plus_N, plus_at0, put_plus0, put_plus1, upd_N, upd_size, q, ex]) fun s1 H1 hp => ?_
  obtain ⟨f, xq, Q, p, bi, bs, q⟩ := hp
  try simp only [thenW_n, thenW_e, thenW_r, blkW_n, blkW_e, blkW_r, if_true]
  refine W.seq (W.chunk ?_)
  simp (disch := first | omega | exact getEq rfl | exact getO0 | exact Nat.le_of_ble_eq_true rfl) [c63_o24, app_growP, app_noneP, plus_N, plus_at0, put_plus0, put_plus1, upd_N, upd_size, q]
  refine W.ret ?_
  try simp only [thenW_n, thenW_e, thenW_r, blkW_n, blkW_e, blkW_r, if_true]
  obtain ⟨d1, d2, d3⟩ := bi.done hm hi
  have ng : NG (frameOf h) H1 (.slice Ha.size 0 M.length M.length) (lf f M.length) := ⟨bs.kf, fun q hq => by cases hq; have := kA.size; exact this, .inr ⟨Ha.size, by rw [gl_len], by rw [gl_len]; exact bs.go, by rw [bs.kf.N]; have := kA.size; rw [fr_size] at this; simpa [frameOf] using this⟩⟩
  exact kR _ _ ⟨[.slice Ha.size 0 M.length M.length, G (perN M i)], by simp [T.get, c63, evRess, evRes, q, d3], _, f, rfl, ⟨d1, d2⟩, by rw [d3]; exact bi.b, ng.fr1⟩
end
end Go.Proofs.Ytjeemgaoonapgaa.Ev
set_option linter.unusedVariables false
set_option linter.unusedSimpArgs false
namespace Go.Proofs.Ytjeemgaoonapgaa.Ev
open Go Go.AEv
attribute [local simp] evFunc initS evOps_c evTrim_c evSkip_c evExit_c evRet_c evSeq_c evCond_c evBlock_c evDraw_c runOps_n runOps_c exec_n exec_g pure1_c act AOpd.ev T.get T.set T.put evBin evUn forceT_eq forceV_eq forceL_eq evRess evRes one keep runFP_n runFP_c app_none AV.flats AV.flat came_some List.getElem?_cons_zero List.getElem?_cons_succ beqT wrapI idxI tdivI tmodI decT decF ibT ibF inT inF evScope_c if_pos if_neg Cm_some thenW_n thenW_e thenW_r blkW_n blkW_e blkW_r goI kn putAt AV.cells fillA loadA takeA mk Eff.isAll Eff.isNone Eff.commutes Eff.spares okPair apart eqAgg fits LK.fits allEq aveq eqk mmA
structure AD where
  M : List (List Int)
  i : Nat
def OkD (a : AD) : Prop := isMat a.M = true ∧ a.i < a.M.length
def PreD (a : AD) (args : List AV) (_ : Heap) : Prop := OkD a ∧ args = [.agg (matC a.M), G a.i]
def Post63 (a : AD) (h : Heap) (v : AV) (own : List AObj) : Prop := ∃ w f, v = .tup [w, G (perN a.M a.i)] ∧ DSp a.M a.i f ∧ perN a.M a.i ≤ 100 ∧ NG h (h.plus own) w (lf f a.M.length)
noncomputable def T26 : CallF := addK tbl T25 63 PreD Post63
theorem t26 : Sound Go.Proofs.Try.prog T26 := Sound.addK follows ok t25 (by decide) _ _
abbrev K63 (J : CallF) : Prop := ∀ (h : Heap) (a : AD), OkD a → ∃ v own, J 63 [.agg (matC a.M), G a.i] h = some (v, own, false) ∧ Post63 a h v own
theorem k60_25 : K60 T25 := fun a b h h1 h2 h3 h4 => by
  simp (disch := decide) only [T25, T24, T23, T22, T21, T20, T19, T18, T17, T16, T15, T14, T13, T12, T11, T10, T9, T8, T7, T6, T5, T4, T3, T2, T1, R21, R20, R19, R18, R17, R16, R15, R14, R13, R12, R11, R10, R9, R8, R7, R6, R5, R4, R3, R2, R1, addI_ne, addX_ne, addV_ne, addK_ne]
  exact k60 a b h h1 h2 h3 h4
theorem k62_25 : K62 T25 := fun h M hm => by
  simp (disch := decide) only [T25, T24, T23, T22, T21, T20, T19, T18, T17, T16, T15, T14, T13, T12, T11, T10, T9, T8, T7, addK_ne]
  exact k62 h M hm
theorem k63 : K63 T26 := fun h a ha => addK_some (Pre := PreD) (Post := Post63) (fun a args h hp => by
  obtain ⟨⟨hm, hi⟩, rfl⟩ := hp
  exact c63_ok T25 k60_25 k62_25 (fun _ _ => by simp (disch := decide) only [T25, T24, T23, T22, T21, T20, T19, T18, T17, T16, T15, T14, T13, T12, T11, T10, T9, T8, T7, T6, T5, T4, T3, T2, T1, R21, R20, R19, R18, R17, R16, R15, R14, R13, R12, R11, R10, R9, R8, R7, R6, R5, R4, R3, R2, R1, addI_ne, addX_ne, addV_ne, addK_ne]; rfl) h hm hi) a _ h ⟨ha, rfl⟩
section
variable {M : List (List Int)}
theorem c32_i (J : CallF) (k63 : K63 J) (hm : isMat M = true) {H0 : Heap} {qm : Nat} (gm : H0.get qm = .cells 0 65 (matC M)) :
    Tr tbl J c32_l0 (fun s h => h = H0 ∧ s.get [true, false] = .ptr qm 0 65 ∧ s.get [true, true] = .nils ∧ s.get [true, true, false, false] = G M.length ∧ s.get [false, false, true, false] = G ((0 : Nat) : Int)) (.exit 0) (fun s h => ∃ xo, NG H0 h xo (pdL M) ∧ s.get [true, true] = xo) := by
  have h8 := isMat_n hm
  have lm := matC_len M
  have et : (matC M).take 65 = matC M := List.take_of_length_le (by omega)
  refine Tr.pre (P := fun s h => ∃ xo, NG H0 h xo (lf (fun i => (perN M i : Int)) 0) ∧ s.get [true, false] = .ptr qm 0 65 ∧ s.get [true, true] = xo ∧ s.get [true, true, false, false] = G M.length ∧ s.get [false, false, true, false] = G ((0 : Nat) : Int)) (fun s h q => ⟨.nils, by rw [q.1]; exact NG.nil H0, by simp [q.2]⟩) ?_
  refine Tr.rounds (P := fun i s h => ∃ xo, NG H0 h xo (lf (fun i => (perN M i : Int)) i) ∧ s.get [true, false] = .ptr qm 0 65 ∧ s.get [true, true] = xo ∧ s.get [true, true, false, false] = G M.length ∧ s.get [false, false, true, false] = G i) (M := M.length) (fun i hi => ?_) ?_ (by simp) 0 (by omega)
  · refine Tr.w fun s1 H1 hp R kR => W.trim ?_
    obtain ⟨xo, ng, q⟩ := hp
    obtain ⟨v, own, k63, w, f, rfl, _, _, _⟩ := k63 H1 ⟨M, i⟩ ⟨hm, hi⟩
    simp only at k63
    have gm1 := ng.k.at gm (by simp) id
    have kp : Kp (fun _ => False) H1 (H1.plus own) := Kp.plus _ _
    obtain ⟨x1, e, h2, q1, q2, ng2, _⟩ := (ng.kp kp).app (H1.plus own).size (perN M i : Int) (by rw [lf_len]; omega)
    rw [← lf_succ] at ng2
    have f1 := app1_at (H1.plus own) (G (perN M i : Int))
    clear ng
    refine W.seq (W.chunk ?_)
    simp (disch := first | omega | exact getEq rfl | exact getO0 | exact Nat.le_of_ble_eq_true rfl) [c32_o6, app_growP, app_noneP, plus_N, plus_at0, put_plus0, put_plus1, upd_N, upd_size, q]
    refine W.seq (W.chunk ?_)
    simp (disch := first | omega | exact getEq rfl | exact getO0 | exact Nat.le_of_ble_eq_true rfl) [app_growP, app_noneP, plus_N, plus_at0, put_plus0, put_plus1, upd_N, upd_size, q]
    refine W.seq (W.block ?_)
    refine W.seq (W.chunk ?_)
    simp (disch := first | omega | exact getEq rfl | exact getO0 | exact Nat.le_of_ble_eq_true rfl) [c32_o7, app_growP, app_noneP, plus_N, plus_at0, put_plus0, put_plus1, upd_N, upd_size, q]
    refine W.seq (W.chunk ?_)
    simp (disch := first | omega | exact getEq rfl | exact getO0 | exact Nat.le_of_ble_eq_true rfl) [c32_o8, app_growP, app_noneP, plus_N, plus_at0, put_plus0, put_plus1, upd_N, upd_size, q, gm1, et, lm, k63, app_if, app_if']
    refine W.chunk ?_
    simp (disch := first | omega | exact getEq rfl | exact getO0 | exact Nat.le_of_ble_eq_true rfl) [c32_o9, app_growP, app_noneP, plus_N, plus_at0, put_plus0, put_plus1, upd_N, upd_size, q, elems, rdOf, f1, q1, q2]
    refine W.chunk ?_
    simp (disch := first | omega | exact getEq rfl | exact getO0 | exact Nat.le_of_ble_eq_true rfl) [c32_o10, app_growP, app_noneP, plus_N, plus_at0, put_plus0, put_plus1, upd_N, upd_size, q]
    exact kR _ _ ⟨_, ng2, by simp [T.get, q]⟩
  · refine Tr.w fun s1 H1 hp R kR => W.trim ?_
    obtain ⟨xo, ng, q⟩ := hp
    refine W.seq (W.chunk ?_)
    simp (disch := first | omega | exact getEq rfl | exact getO0 | exact Nat.le_of_ble_eq_true rfl) [c32_o6, app_growP, app_noneP, plus_N, plus_at0, put_plus0, put_plus1, upd_N, upd_size, q]
    refine W.seq (W.chunk ?_)
    simp (disch := first | omega | exact getEq rfl | exact getO0 | exact Nat.le_of_ble_eq_true rfl) [app_growP, app_noneP, plus_N, plus_at0, put_plus0, put_plus1, upd_N, upd_size, q]
    exact kR _ _ ⟨_, ng, by simp [T.get, q]⟩
theorem c32_bad (J : CallF) (k54 : K54 J) (hJ : ∀ a h, J 32 a h = none) (h : Heap) {y : AV} (hy : MR h y M) (hm : isMat M = false) : CallsTo tbl J 32 [y] h (.tup [.nils, G 2], [], false) := by
  refine Tr.fnv (cf := c32) (e := .ret) (s := T.set .leaf [] y) (by decide) rfl (hJ _ _) rfl rfl rfl (by simp) ?_
  obtain ⟨cs, k54, hl, hc⟩ := k54 ⟨h.get, h.size, []⟩ y M (hy.lo [])
  have rp : (List.replicate 65 (AV.int .i64 0)).length = 65 := List.length_replicate
  have ep : putAt (List.replicate 65 (AV.int .i64 0)) 0 cs = cs := putAt_all _ _ (by omega)
  refine Tr.w fun s1 H1 hp R kR => ?_
  obtain ⟨rfl, rfl⟩ := hp
  have q : True := trivial
  generalize hZ : List.replicate 65 (AV.int .i64 0) = Z at *
  rw [hm] at k54
  refine W.seq (W.chunk ?_)
  simp (disch := first | omega | exact getEq rfl | exact getO0 | exact Nat.le_of_ble_eq_true rfl) [-List.reduceReplicate, c32_o0, size_mk, get_mk_lt, get_mk_ge, frameOf, Eff.app, Heap.setOwn, q]
  refine W.seq (W.chunk ?_)
  simp (disch := first | omega | exact getEq rfl | exact getO0 | exact Nat.le_of_ble_eq_true rfl) [-List.reduceReplicate, c32_o1, size_mk, get_mk_lt, get_mk_ge, frameOf, Eff.app, Heap.setOwn, q, k54, hZ, ep, rp, hl, frameOf]
  refine W.assoc ?_
  refine W.seq (W.chunk ?_)
  simp (disch := first | omega | exact getEq rfl | exact getO0 | exact Nat.le_of_ble_eq_true rfl) [-List.reduceReplicate, c32_o2, size_mk, get_mk_lt, get_mk_ge, frameOf, Eff.app, Heap.setOwn, q]
  refine W.seq (W.chunk ?_)
  simp (disch := first | omega | exact getEq rfl | exact getO0 | exact Nat.le_of_ble_eq_true rfl) [-List.reduceReplicate, c32_o3, size_mk, get_mk_lt, get_mk_ge, frameOf, Eff.app, Heap.setOwn, q]
  exact kR _ _ ⟨[.nils, G 2], by simp [T.get, c32, evRess, evRes], rfl⟩
theorem c32_ok (J : CallF) (k54 : K54 J) (k63 : K63 J) (hJ : ∀ a h, J 32 a h = none) (h : Heap) {y : AV} (hy : MR h y M) (hm : isMat M = true) : ∃ v own, CallsTo tbl J 32 [y] h (v, own, false) ∧ ∃ w, v = .tup [w, G 0] ∧ NG h (h.plus own) w (pdL M) := by
  refine Tr.fny (cf := c32) (e := .ret) (s := T.set .leaf [] y) (by decide) rfl (hJ _ _) rfl rfl (by simp) ?_
  obtain ⟨cs, k54, hl, hc⟩ := k54 ⟨h.get, h.size, []⟩ y M (hy.lo [])
  have rp : (List.replicate 65 (AV.int .i64 0)).length = 65 := List.length_replicate
  obtain rfl := hc hm
  have ep : putAt (List.replicate 65 (AV.int .i64 0)) 0 (matC M) = matC M := putAt_all _ _ (by omega)
  have lm := matC_len M
  have e0 : (matC M)[0]? = some (G M.length) := rfl
  have e0' := getI e0
  have gm : (Heap.mk h.get h.size [.cells 0 65 (matC M)]).get h.size = .cells 0 65 (matC M) := by simp [get_mk_ge]
  have l0 := c32_i J k63 hm gm
  refine Tr.w fun s1 H1 hp R kR => ?_
  obtain ⟨rfl, rfl⟩ := hp
  have q : True := trivial
  generalize hZ : List.replicate 65 (AV.int .i64 0) = Z at *
  rw [hm] at k54
  refine W.seq (W.chunk ?_)
  simp (disch := first | omega | exact getEq rfl | exact getO0 | exact Nat.le_of_ble_eq_true rfl) [-List.reduceReplicate, c32_o0, size_mk, get_mk_lt, get_mk_ge, frameOf, Eff.app, Heap.setOwn, q]
  refine W.seq (W.chunk ?_)
  simp (disch := first | omega | exact getEq rfl | exact getO0 | exact Nat.le_of_ble_eq_true rfl) [-List.reduceReplicate, c32_o1, size_mk, get_mk_lt, get_mk_ge, frameOf, Eff.app, Heap.setOwn, q, k54, hZ, ep, rp, hl, frameOf]
  refine W.assoc ?_
  refine W.seq (W.chunk ?_)
  simp (disch := first | omega | exact getEq rfl | exact getO0 | exact Nat.le_of_ble_eq_true rfl) [-List.reduceReplicate, c32_o2, size_mk, get_mk_lt, get_mk_ge, frameOf, Eff.app, Heap.setOwn, q]
  refine W.seq (W.chunk ?_)
  simp (disch := first | omega | exact getEq rfl | exact getO0 | exact Nat.le_of_ble_eq_true rfl) [-List.reduceReplicate, c32_o3, size_mk, get_mk_lt, get_mk_ge, frameOf, Eff.app, Heap.setOwn, q]
  refine W.seq (W.chunk ?_)
  simp (disch := first | omega | exact getEq rfl | exact getO0 | exact Nat.le_of_ble_eq_true rfl) [-List.reduceReplicate, c32_o4, size_mk, get_mk_lt, get_mk_ge, frameOf, Eff.app, Heap.setOwn, q]
  refine W.assoc ?_
  refine W.seq (W.chunk ?_)
  simp (disch := first | omega | exact getEq rfl | exact getO0 | exact Nat.le_of_ble_eq_true rfl) [-List.reduceReplicate, c32_o5, app_growP, app_noneP, plus_N, plus_at0, put_plus0, put_plus1, upd_N, upd_size, q, gm, lm, e0, e0']
  refine W.seq (W.block ?_)
  refine W.use (l0) (by simp (disch := first | omega | exact getEq rfl | exact getO0 | exact Nat.le_of_ble_eq_true rfl) [-List.reduceReplicate, size_mk, get_mk_lt, get_mk_ge, frameOf, Eff.app, Heap.setOwn, q]) fun s1 H1 hp => ?_
  obtain ⟨xo, ng, q⟩ := hp
  try simp only [thenW_n, thenW_e, thenW_r, blkW_n, blkW_e, blkW_r, if_true]
  refine W.seq (W.chunk ?_)
  simp (disch := first | omega | exact getEq rfl | exact getO0 | exact Nat.le_of_ble_eq_true rfl) [-List.reduceReplicate, c32_o11, size_mk, get_mk_lt, get_mk_ge, frameOf, Eff.app, Heap.setOwn, q]
  refine W.ret ?_
  try simp only [thenW_n, thenW_e, thenW_r, blkW_n, blkW_e, blkW_r, if_true]
  exact kR _ _ ⟨[xo, G 0], by simp [T.get, c32, evRess, evRes, q], xo, rfl, (NG.base (Kp.plus (frameOf h) [.cells 0 65 (matC M)]) ng).fr1⟩
end
def Post32 (a : AM) (h : Heap) (v : AV) (own : List AObj) : Prop := (isMat a.M = false → v = .tup [.nils, G 2] ∧ own = []) ∧ (isMat a.M = true → ∃ w, v = .tup [w, G 0] ∧ NG h (h.plus own) w (pdL a.M))
noncomputable def T27 : CallF := addK tbl T26 32 PreM Post32
theorem t27 : Sound Go.Proofs.Try.prog T27 := Sound.addK follows ok t26 (by decide) _ _
abbrev K32 (J : CallF) : Prop := ∀ (h : Heap) (a : AM), MR h a.y a.M → ∃ v own, J 32 [a.y] h = some (v, own, false) ∧ Post32 a h v own
theorem k54_26 : K54 T26 := fun h y M hy => by
  simp (disch := decide) only [T26, T25, T24, T23, T22, T21, T20, T19, T18, T17, T16, T15, T14, T13, T12, T11, T10, T9, T8, T7, T6, T5, T4, T3, T2, T1, R21, R20, R19, R18, R17, R16, R15, R14, R13, R12, R11, R10, R9, R8, R7, R6, R5, R4, R3, R2, R1, addI_ne, addX_ne, addV_ne, addK_ne]
  exact k54 h y M hy
theorem k32 : K32 T27 := fun h a ha => addK_some (Pre := PreM) (Post := Post32) (fun a args h hp => by
  obtain ⟨hy, rfl⟩ := hp
  have hn : ∀ a h, T26 32 a h = none := (fun _ _ => by simp (disch := decide) only [T26, T25, T24, T23, T22, T21, T20, T19, T18, T17, T16, T15, T14, T13, T12, T11, T10, T9, T8, T7, T6, T5, T4, T3, T2, T1, R21, R20, R19, R18, R17, R16, R15, R14, R13, R12, R11, R10, R9, R8, R7, R6, R5, R4, R3, R2, R1, addI_ne, addX_ne, addV_ne, addK_ne]; rfl)
  cases c : isMat a.M
  · exact ⟨_, _, c32_bad T26 k54_26 hn h hy c, fun _ => ⟨rfl, rfl⟩, fun q => by rw [c] at q; cases q⟩
  · obtain ⟨v, own, e, p⟩ := c32_ok T26 k54_26 k63 hn h hy c
    exact ⟨v, own, e, fun q => (by rw [c] at q; cases q), fun _ => p⟩) a _ h ⟨ha, rfl⟩
end Go.Proofs.Ytjeemgaoonapgaa.Ev
set_option linter.unusedVariables false
set_option linter.unusedSimpArgs false
namespace Go.Proofs.Ytjeemgaoonapgaa.Ev
open Go Go.AEv
def st (L : List Nat) : List (AV × AV) := L.map fun (c : Nat) => (G c, AV.bool true)
def ins (c : Nat) (L : List Nat) : List Nat := if c ∈ L then L else L ++ [c]
theorem mem_ins {z c : Nat} {L : List Nat} : z ∈ ins c L ↔ z = c ∨ z ∈ L := by
  unfold ins
  split
  · rename_i h
    exact ⟨.inr, fun q => q.elim (fun e => e ▸ h) id⟩
  · simp [or_comm]
theorem mapA_at {h : Heap} {b : Nat} {es : List (AV × AV)} (e : h.get b = .map es) : mapA h (.map b) = some es := by
  unfold mapA; simp only [e]
theorem aveq_n (a b : Nat) : aveq (G a) (G b) = some (a == b) := by
  simp only [aveq, if_true]
  congr 1
  by_cases e : a = b
  · subst e; simp
  · rw [beq_eq_false_iff_ne.2 e, beq_eq_false_iff_ne.2 (by omega)]
theorem find_st (k : Nat) : ∀ L : List Nat, findA (G k) (st L) = some (if k ∈ L then some (.bool true) else none)
  | [] => rfl
  | c :: L => by
    show (match aveq (G k) (G c) with | some true => some (some (AV.bool true)) | some false => findA (G k) (st L) | none => none) = _
    rw [aveq_n]
    by_cases e : k = c
    · subst e
      simp
    · rw [beq_eq_false_iff_ne.2 e]
      simp only
      rw [find_st k L]
      simp [e]
theorem put_st (k : Nat) : ∀ L : List Nat, putMap (G k) (.bool true) (st L) = some (st (ins k L))
  | [] => rfl
  | c :: L => by
    show (match aveq (G k) (G c) with | some true => some ((G k, AV.bool true) :: st L) | some false => (putMap (G k) (.bool true) (st L)).map ((G c, AV.bool true) :: ·) | none => none) = _
    rw [aveq_n]
    by_cases e : k = c
    · subst e
      simp [ins, st]
    · rw [beq_eq_false_iff_ne.2 e]
      simp only
      rw [put_st k L]
      unfold ins
      by_cases m : k ∈ L
      · rw [if_pos m, if_pos (List.mem_cons_of_mem _ m)]; rfl
      · rw [if_neg m, if_neg (by simp [e, m])]; rfl
theorem mput0 (h : Heap) (es es' : List (AV × AV)) (b : Nat) (hb : h.size = b) : Eff.app (.mput b es') (h.plus [.map es]) = some (h.plus [.map es']) := by
  subst hb
  have hn : h.N ≤ h.size := by unfold Heap.size; omega
  have e1 : (h.plus [.map es]).own[h.size - h.N]? = some (.map es) := by
    show (h.own ++ [.map es])[h.size - h.N]? = _
    rw [show h.size - h.N = h.own.length by unfold Heap.size; omega]
    simp
  simp only [Eff.app]
  rw [if_neg (by rw [plus_N]; omega), plus_N, e1]
  simp only [Heap.setOwn, forceL_eq, plus_N]
  congr 1
  unfold Heap.plus
  congr 1
  rw [show h.size - h.N = h.own.length by unfold Heap.size; omega]
  simp
theorem mput_gen (h : Heap) (b : Nat) (es es' : List (AV × AV)) (h1 : h.N ≤ b) (hg : h.get b = .map es) : Eff.app (.mput b es') h = some (h.upd b (.map es')) := by
  have e1 : h.own[b - h.N]? = some (.map es) := by
    unfold Heap.get at hg
    rw [if_neg (by omega), List.getD_eq_getElem?_getD] at hg
    cases c : h.own[b - h.N]? with
    | none => rw [c] at hg; cases hg
    | some x => rw [c] at hg; exact congrArg some hg
  simp only [Eff.app]
  rw [if_neg (by omega), e1]
  simp only [Heap.setOwn, forceL_eq, Heap.upd]
end Go.Proofs.Ytjeemgaoonapgaa.Ev
set_option linter.unusedVariables false
set_option linter.unusedSimpArgs false
namespace Go.Proofs.Ytjeemgaoonapgaa.Ev
open Go Go.AEv
attribute [local simp] evFunc initS evOps_c evTrim_c evSkip_c evExit_c evRet_c evSeq_c evCond_c evBlock_c evDraw_c runOps_n runOps_c exec_n exec_g pure1_c act AOpd.ev T.get T.set T.put evBin evUn forceT_eq forceV_eq forceL_eq evRess evRes one keep runFP_n runFP_c app_none AV.flats AV.flat came_some List.getElem?_cons_zero List.getElem?_cons_succ beqT wrapI idxI tdivI tmodI decT decF ibT ibF inT inF evScope_c if_pos if_neg Cm_some thenW_n thenW_e thenW_r blkW_n blkW_e blkW_r goI kn putAt AV.cells fillA loadA takeA mk Eff.isAll Eff.isNone Eff.commutes Eff.spares okPair apart eqAgg fits LK.fits allEq aveq eqk mmA
section
variable {M : List (List Int)}
def LVS (M : List (List Int)) (x y : Nat) (L : List Nat) : Prop := ∀ c, c ∈ L ↔ ∃ u v, (u < x ∨ (u = x ∧ v < y)) ∧ 0 < ent M u v ∧ clN M u ≠ clN M v ∧ clN M u = c
theorem LVS.init : LVS M 0 0 [] := fun c => ⟨fun h => (by cases h), fun ⟨u, v, h, _⟩ => absurd h (by omega)⟩
theorem LVS.skip {x y : Nat} {L : List Nat} (l : LVS M x y L) (h : ¬ (0 < ent M x y ∧ clN M x ≠ clN M y)) : LVS M x (y + 1) L := fun c =>
  ⟨fun q => by
    obtain ⟨u, v, a, b⟩ := (l c).1 q
    exact ⟨u, v, by omega, b⟩, fun ⟨u, v, a, b1, b2, b3⟩ => by
    by_cases cc : u = x ∧ v = y
    · rw [cc.1, cc.2] at b1 b2; exact absurd ⟨b1, b2⟩ h
    · exact (l c).2 ⟨u, v, by omega, b1, b2, b3⟩⟩
theorem LVS.put {x y : Nat} {L : List Nat} (l : LVS M x y L) (h1 : 0 < ent M x y) (h2 : clN M x ≠ clN M y) : LVS M x (y + 1) (ins (clN M x) L) := fun c => by
  rw [mem_ins]
  constructor
  · rintro (rfl | q)
    · exact ⟨x, y, by omega, h1, h2, rfl⟩
    · obtain ⟨u, v, a, b⟩ := (l c).1 q
      exact ⟨u, v, by omega, b⟩
  · rintro ⟨u, v, a, b1, b2, b3⟩
    by_cases cc : u = x ∧ v = y
    · rw [cc.1] at b3; exact .inl b3.symm
    · exact .inr ((l c).2 ⟨u, v, by omega, b1, b2, b3⟩)
theorem LVS.nextx (hm : isMat M = true) {x : Nat} {L : List Nat} (l : LVS M x M.length L) : LVS M (x + 1) 0 L := fun c =>
  ⟨fun q => by
    obtain ⟨u, v, a, b⟩ := (l c).1 q
    exact ⟨u, v, by omega, b⟩, fun ⟨u, v, a, b1, b2, b3⟩ => (l c).2 ⟨u, v, by have := (ent_lt hm b1).2; omega, b1, b2, b3⟩⟩
def finP (M : List (List Int)) (i : Nat) : Prop := clN M i = i ∧ ∀ u v, 0 < ent M u v → clN M u = i → clN M v = i
theorem LVS.fin (hm : isMat M = true) {L : List Nat} (l : LVS M M.length 0 L) (i : Nat) : finP M i ↔ clN M i = i ∧ i ∉ L := by
  refine ⟨fun ⟨a, b⟩ => ⟨a, fun q => ?_⟩, fun ⟨a, b⟩ => ⟨a, fun u v e c => ?_⟩⟩
  · obtain ⟨u, v, _, b1, b2, b3⟩ := (l i).1 q
    exact b2 (b3.trans (b u v b1 b3).symm)
  · exact Classical.byContradiction fun n => b ((l i).2 ⟨u, v, .inl (ent_lt hm e).1, e, fun q => n (q ▸ c), c⟩)
open Classical in
noncomputable def fnL (M : List (List Int)) : Nat → List Int
  | 0 => []
  | k + 1 => if finP M k then fnL M k ++ [(k : Int)] else fnL M k
theorem fnL_t {k : Nat} (h : finP M k) : fnL M (k + 1) = fnL M k ++ [(k : Int)] := if_pos h
theorem fnL_f {k : Nat} (h : ¬ finP M k) : fnL M (k + 1) = fnL M k := if_neg h
theorem fnL_len : ∀ k, (fnL M k).length ≤ k
  | 0 => Nat.le_refl _
  | k + 1 => by
    have := fnL_len k
    by_cases c : finP M k
    · rw [fnL_t c]; simp; omega
    · rw [fnL_f c]; omega
theorem c49_y (J : CallF) (hm : isMat M = true) {H : Heap} {qm qc x : Nat} (gm : H.get qm = .cells 0 65 (matC M)) (gc : H.get qc = .cells 1 M.length (gs (clsL M))) (hx : x < M.length) :
    Tr tbl J c49_l0 (fun s h => ∃ L, LVS M x 0 L ∧ h = H.plus [.map (st L)] ∧ s.get [true, false] = .ptr qm 0 65 ∧ s.get [true, true] = .slice qc 0 M.length M.length ∧ s.get [false, false, false] = .map H.size ∧ s.get [true, false, false] = G x ∧ s.get [true, false, false, true] = G M.length ∧ s.get [false, true, false, true] = G x ∧ s.get [false, true, true, true] = G M.length ∧ s.get [true, true, true, true] = G ((0 : Nat) : Int)) (.exit 2)
      (fun s h => ∃ L, LVS M x M.length L ∧ h = H.plus [.map (st L)] ∧ s.get [true, false] = .ptr qm 0 65 ∧ s.get [true, true] = .slice qc 0 M.length M.length ∧ s.get [false, false, false] = .map H.size ∧ s.get [true, false, false, true] = G M.length ∧ s.get [false, true, false, true] = G x) := by
  have h8 := isMat_n hm
  have lm := matC_len M
  refine Tr.rounds (P := fun y s h => ∃ L, LVS M x y L ∧ h = H.plus [.map (st L)] ∧ s.get [true, false] = .ptr qm 0 65 ∧ s.get [true, true] = .slice qc 0 M.length M.length ∧ s.get [false, false, false] = .map H.size ∧ s.get [true, false, false] = G x ∧ s.get [true, false, false, true] = G M.length ∧ s.get [false, true, false, true] = G x ∧ s.get [false, true, true, true] = G M.length ∧ s.get [true, true, true, true] = G y) (M := M.length) (fun y hy => ?_) ?_ (by simp) 0 (by omega)
  · refine Tr.w fun s1 H1 hp R kR => W.trim ?_
    obtain ⟨L, lv, rfl, q⟩ := hp
    have gm' := plus_keep [.map (st L)] gm (by simp)
    have gc' := plus_keep [.map (st L)] gc (by simp)
    have ga := mapA_at (plus_at0 H (.map (st L)) [] _ rfl)
    have ea := matC_at M (i := x) (j := y) (by omega) (by omega)
    have cx : (gs (clsL M))[x]? = some (G (clN M x)) := gl_at _ hx
    have cy : (gs (clsL M))[y]? = some (G (clN M y)) := gl_at _ hy
    have ea' := getI ea
    have cx' := getI cx
    have cy' := getI cy
    have a0 := (ent_bd hm x y).1
    by_cases cc : 0 < ent M x y ∧ clN M x ≠ clN M y
    · obtain ⟨c1, c2⟩ := cc
      have lv2 := lv.put c1 c2
      have c2' : ¬ (clN M x : Int) = clN M y := by omega
      have pst := put_st (clN M x) L
      have mp := mput0 H (st L) (st (ins (clN M x) L)) _ rfl
      clear lv
      generalize ins (clN M x) L = L2 at *
      generalize he2 : st L2 = e2 at *
      generalize st L = e1 at *
      generalize clN M x = u at *
      generalize clN M y = w at *
      generalize ent M x y = a at *
      generalize gs (clsL M) = ccs at *
      generalize matC M = cm at *
      refine W.seq (W.chunk ?_)
      simp (disch := first | omega | exact getEq rfl | exact getO0 | exact Nat.le_of_ble_eq_true rfl) [c49_o10, app_growP, app_noneP, plus_N, plus_at0, put_plus0, put_plus1, upd_N, upd_size, q]
      refine W.seq (W.chunk ?_)
      simp (disch := first | omega | exact getEq rfl | exact getO0 | exact Nat.le_of_ble_eq_true rfl) [app_growP, app_noneP, plus_N, plus_at0, put_plus0, put_plus1, upd_N, upd_size, q]
      refine W.seq (W.block ?_)
      refine W.seq (W.chunk ?_)
      simp (disch := first | omega | exact getEq rfl | exact getO0 | exact Nat.le_of_ble_eq_true rfl) [c49_o11, app_growP, app_noneP, plus_N, plus_at0, put_plus0, put_plus1, upd_N, upd_size, q]
      refine W.seq (W.chunk ?_)
      simp (disch := first | omega | exact getEq rfl | exact getO0 | exact Nat.le_of_ble_eq_true rfl) [c49_o12, app_growP, app_noneP, plus_N, plus_at0, put_plus0, put_plus1, upd_N, upd_size, q, gm', gc', lm, ea, ea', cx, cx', cy, cy', -evDraw_c, evDraw_0]
      refine W.cond (v := true) (by simp (disch := first | omega | exact getEq rfl | exact getO0 | exact Nat.le_of_ble_eq_true rfl) [app_growP, app_noneP, plus_N, plus_at0, put_plus0, put_plus1, upd_N, upd_size, q]) ?_
      simp only [if_true, if_false, Bool.false_eq_true]
      refine W.chunk ?_
      simp (disch := first | omega | exact getEq rfl | exact getO0 | exact Nat.le_of_ble_eq_true rfl) [c49_o13, app_growP, app_noneP, plus_N, plus_at0, put_plus0, put_plus1, upd_N, upd_size, q, gc', cx, cx', ga, pst, mp]
      refine W.chunk ?_
      simp (disch := first | omega | exact getEq rfl | exact getO0 | exact Nat.le_of_ble_eq_true rfl) [c49_o14, app_growP, app_noneP, plus_N, plus_at0, put_plus0, put_plus1, upd_N, upd_size, q]
      exact kR _ _ ⟨_, lv2, by rw [he2], by simp [T.get, q]⟩
    · have lv2 := lv.skip cc
      clear lv
      generalize he : st L = e1 at *
      generalize clN M x = u at *
      generalize clN M y = w at *
      generalize ent M x y = a at *
      generalize gs (clsL M) = ccs at *
      generalize matC M = cm at *
      by_cases c1 : 0 < a
      · obtain rfl : u = w := Classical.byContradiction fun n => cc ⟨c1, n⟩
        refine W.seq (W.chunk ?_)
        simp (disch := first | omega | exact getEq rfl | exact getO0 | exact Nat.le_of_ble_eq_true rfl) [c49_o10, app_growP, app_noneP, plus_N, plus_at0, put_plus0, put_plus1, upd_N, upd_size, q]
        refine W.seq (W.chunk ?_)
        simp (disch := first | omega | exact getEq rfl | exact getO0 | exact Nat.le_of_ble_eq_true rfl) [app_growP, app_noneP, plus_N, plus_at0, put_plus0, put_plus1, upd_N, upd_size, q]
        refine W.seq (W.block ?_)
        refine W.seq (W.chunk ?_)
        simp (disch := first | omega | exact getEq rfl | exact getO0 | exact Nat.le_of_ble_eq_true rfl) [c49_o11, app_growP, app_noneP, plus_N, plus_at0, put_plus0, put_plus1, upd_N, upd_size, q]
        refine W.seq (W.chunk ?_)
        simp (disch := first | omega | exact getEq rfl | exact getO0 | exact Nat.le_of_ble_eq_true rfl) [c49_o12, app_growP, app_noneP, plus_N, plus_at0, put_plus0, put_plus1, upd_N, upd_size, q, gm', gc', lm, ea, ea', cx, cx', cy, cy', -evDraw_c, evDraw_0]
        refine W.chunk ?_
        simp (disch := first | omega | exact getEq rfl | exact getO0 | exact Nat.le_of_ble_eq_true rfl) [c49_o13, app_growP, app_noneP, plus_N, plus_at0, put_plus0, put_plus1, upd_N, upd_size, q]
        refine W.chunk ?_
        simp (disch := first | omega | exact getEq rfl | exact getO0 | exact Nat.le_of_ble_eq_true rfl) [c49_o14, app_growP, app_noneP, plus_N, plus_at0, put_plus0, put_plus1, upd_N, upd_size, q]
        exact kR _ _ ⟨L, lv2, by rw [he], by simp [T.get, q]⟩
      · refine W.seq (W.chunk ?_)
        simp (disch := first | omega | exact getEq rfl | exact getO0 | exact Nat.le_of_ble_eq_true rfl) [c49_o10, app_growP, app_noneP, plus_N, plus_at0, put_plus0, put_plus1, upd_N, upd_size, q]
        refine W.seq (W.chunk ?_)
        simp (disch := first | omega | exact getEq rfl | exact getO0 | exact Nat.le_of_ble_eq_true rfl) [app_growP, app_noneP, plus_N, plus_at0, put_plus0, put_plus1, upd_N, upd_size, q]
        refine W.seq (W.block ?_)
        refine W.seq (W.chunk ?_)
        simp (disch := first | omega | exact getEq rfl | exact getO0 | exact Nat.le_of_ble_eq_true rfl) [c49_o11, app_growP, app_noneP, plus_N, plus_at0, put_plus0, put_plus1, upd_N, upd_size, q]
        refine W.seq (W.chunk ?_)
        simp (disch := first | omega | exact getEq rfl | exact getO0 | exact Nat.le_of_ble_eq_true rfl) [c49_o12, app_growP, app_noneP, plus_N, plus_at0, put_plus0, put_plus1, upd_N, upd_size, q, gm', gc', lm, ea, ea', cx, cx', cy, cy', -evDraw_c, evDraw_0]
        refine W.chunk ?_
        simp (disch := first | omega | exact getEq rfl | exact getO0 | exact Nat.le_of_ble_eq_true rfl) [c49_o13, app_growP, app_noneP, plus_N, plus_at0, put_plus0, put_plus1, upd_N, upd_size, q]
        refine W.chunk ?_
        simp (disch := first | omega | exact getEq rfl | exact getO0 | exact Nat.le_of_ble_eq_true rfl) [c49_o14, app_growP, app_noneP, plus_N, plus_at0, put_plus0, put_plus1, upd_N, upd_size, q]
        exact kR _ _ ⟨L, lv2, by rw [he], by simp [T.get, q]⟩
  · refine Tr.w fun s1 H1 hp R kR => W.trim ?_
    obtain ⟨L, lv, rfl, q⟩ := hp
    refine W.seq (W.chunk ?_)
    simp (disch := first | omega | exact getEq rfl | exact getO0 | exact Nat.le_of_ble_eq_true rfl) [c49_o10, app_growP, app_noneP, plus_N, plus_at0, put_plus0, put_plus1, upd_N, upd_size, q]
    refine W.seq (W.chunk ?_)
    simp (disch := first | omega | exact getEq rfl | exact getO0 | exact Nat.le_of_ble_eq_true rfl) [app_growP, app_noneP, plus_N, plus_at0, put_plus0, put_plus1, upd_N, upd_size, q]
    exact kR _ _ ⟨L, lv, rfl, by simp [T.get, q]⟩
theorem c49_x (J : CallF) (hm : isMat M = true) {H : Heap} {qm qc : Nat} (gm : H.get qm = .cells 0 65 (matC M)) (gc : H.get qc = .cells 1 M.length (gs (clsL M))) :
    Tr tbl J c49_l1 (fun s h => ∃ L, LVS M 0 0 L ∧ h = H.plus [.map (st L)] ∧ s.get [true, false] = .ptr qm 0 65 ∧ s.get [true, true] = .slice qc 0 M.length M.length ∧ s.get [false, false, false] = .map H.size ∧ s.get [true, false, false, true] = G M.length ∧ s.get [false, true, false, true] = G ((0 : Nat) : Int)) (.exit 0)
      (fun s h => ∃ L, LVS M M.length 0 L ∧ h = H.plus [.map (st L)] ∧ s.get [true, true] = .slice qc 0 M.length M.length ∧ s.get [false, false, false] = .map H.size) := by
  have h8 := isMat_n hm
  have lm := matC_len M
  have e0 : (matC M)[0]? = some (G M.length) := rfl
  have e0' := getI e0
  refine Tr.rounds (P := fun x s h => ∃ L, LVS M x 0 L ∧ h = H.plus [.map (st L)] ∧ s.get [true, false] = .ptr qm 0 65 ∧ s.get [true, true] = .slice qc 0 M.length M.length ∧ s.get [false, false, false] = .map H.size ∧ s.get [true, false, false, true] = G M.length ∧ s.get [false, true, false, true] = G x) (M := M.length) (fun x hx => ?_) ?_ (by simp) 0 (by omega)
  · refine Tr.w fun s1 H1 hp R kR => W.trim ?_
    obtain ⟨L, lv, rfl, q⟩ := hp
    have gm' := plus_keep [.map (st L)] gm (by simp)
    have l0 := c49_y J hm gm gc hx
    have ex : ∃ L', LVS M x 0 L' ∧ H.plus [.map (st L)] = H.plus [.map (st L')] := ⟨L, lv, rfl⟩
    refine W.seq (W.chunk ?_)
    simp (disch := first | omega | exact getEq rfl | exact getO0 | exact Nat.le_of_ble_eq_true rfl) [c49_o7, app_growP, app_noneP, plus_N, plus_at0, put_plus0, put_plus1, upd_N, upd_size, q]
    refine W.seq (W.chunk ?_)
    simp (disch := first | omega | exact getEq rfl | exact getO0 | exact Nat.le_of_ble_eq_true rfl) [app_growP, app_noneP, plus_N, plus_at0, put_plus0, put_plus1, upd_N, upd_size, q]
    refine W.seq (W.block ?_)
    refine W.seq (W.chunk ?_)
    simp (disch := first | omega | exact getEq rfl | exact getO0 | exact Nat.le_of_ble_eq_true rfl) [c49_o8, app_growP, app_noneP, plus_N, plus_at0, put_plus0, put_plus1, upd_N, upd_size, q]
    refine W.seq (W.chunk ?_)
    simp (disch := first | omega | exact getEq rfl | exact getO0 | exact Nat.le_of_ble_eq_true rfl) [c49_o9, app_growP, app_noneP, plus_N, plus_at0, put_plus0, put_plus1, upd_N, upd_size, q, gm', lm, e0, e0']
    refine W.block ?_
    refine W.use (l0) (by simp (disch := first | omega | exact getEq rfl | exact getO0 | exact Nat.le_of_ble_eq_true rfl) [app_growP, app_noneP, plus_N, plus_at0, put_plus0, put_plus1, upd_N, upd_size, q, ex]) fun s1 H1 hp => ?_
    obtain ⟨L2, lv2, rfl, q⟩ := hp
    try simp only [thenW_n, thenW_e, thenW_r, blkW_n, blkW_e, blkW_r, if_true]
    refine W.chunk ?_
    simp (disch := first | omega | exact getEq rfl | exact getO0 | exact Nat.le_of_ble_eq_true rfl) [c49_o15, app_growP, app_noneP, plus_N, plus_at0, put_plus0, put_plus1, upd_N, upd_size, q]
    exact kR _ _ ⟨L2, lv2.nextx hm, rfl, by simp [T.get, q]⟩
  · refine Tr.w fun s1 H1 hp R kR => W.trim ?_
    obtain ⟨L, lv, rfl, q⟩ := hp
    refine W.seq (W.chunk ?_)
    simp (disch := first | omega | exact getEq rfl | exact getO0 | exact Nat.le_of_ble_eq_true rfl) [c49_o7, app_growP, app_noneP, plus_N, plus_at0, put_plus0, put_plus1, upd_N, upd_size, q]
    refine W.seq (W.chunk ?_)
    simp (disch := first | omega | exact getEq rfl | exact getO0 | exact Nat.le_of_ble_eq_true rfl) [app_growP, app_noneP, plus_N, plus_at0, put_plus0, put_plus1, upd_N, upd_size, q]
    exact kR _ _ ⟨L, lv, rfl, by simp [T.get, q]⟩
theorem c49_i (J : CallF) (hm : isMat M = true) {H0 : Heap} {qp qc : Nat} {L : List Nat} (lv : LVS M M.length 0 L) (gp : H0.get qp = .map (st L)) (gc : H0.get qc = .cells 1 M.length (gs (clsL M))) :
    Tr tbl J c49_l2 (fun s h => h = H0 ∧ s.get [false, false, false] = .map qp ∧ s.get [true, true, false] = .nils ∧ s.get [true, true, false, true, true] = .slice qc 0 M.length M.length ∧ s.get [false, false, true, true, true] = G M.length ∧ s.get [true, false, true, true, true] = G ((0 : Nat) : Int)) (.exit 4) (fun s h => ∃ xo, NG H0 h xo (fnL M M.length) ∧ s.get [true, true, false] = xo) := by
  have h8 := isMat_n hm
  refine Tr.pre (P := fun s h => ∃ xo, NG H0 h xo (fnL M 0) ∧ s.get [false, false, false] = .map qp ∧ s.get [true, true, false] = xo ∧ s.get [true, true, false, true, true] = .slice qc 0 M.length M.length ∧ s.get [false, false, true, true, true] = G M.length ∧ s.get [true, false, true, true, true] = G ((0 : Nat) : Int)) (fun s h q => ⟨.nils, by rw [q.1]; exact NG.nil H0, by simp [q.2]⟩) ?_
  refine Tr.rounds (P := fun i s h => ∃ xo, NG H0 h xo (fnL M i) ∧ s.get [false, false, false] = .map qp ∧ s.get [true, true, false] = xo ∧ s.get [true, true, false, true, true] = .slice qc 0 M.length M.length ∧ s.get [false, false, true, true, true] = G M.length ∧ s.get [true, false, true, true, true] = G i) (M := M.length) (fun i hi => ?_) ?_ (by simp) 0 (by omega)
  · refine Tr.w fun s1 H1 hp R kR => W.trim ?_
    obtain ⟨xo, ng, q⟩ := hp
    have gc1 := ng.k.at gc (by simp) id
    have ga := mapA_at (ng.k.at gp (by simp) id)
    have ci : (gs (clsL M))[i]? = some (G (clN M i)) := gl_at _ hi
    have ci' := getI ci
    have fst := find_st i L
    have fp := lv.fin hm i
    by_cases c : finP M i
    · obtain ⟨c1, c2⟩ := fp.1 c
      obtain ⟨x1, e, h2, q1, q2, ng2, _⟩ := ng.app H1.size (i : Int) (by have := fnL_len (M := M) i; omega)
      rw [← fnL_t c] at ng2
      have f1 := app1_at H1 (G (i : Int))
      rw [c1] at ci ci'
      rw [if_neg c2] at fst
      clear ng fp
      generalize st L = e1 at *
      generalize gs (clsL M) = ccs at *
      refine W.seq (W.chunk ?_)
      simp (disch := first | omega | exact getEq rfl | exact getO0 | exact Nat.le_of_ble_eq_true rfl) [c49_o18, app_growP, app_noneP, plus_N, plus_at0, put_plus0, put_plus1, upd_N, upd_size, q]
      refine W.seq (W.chunk ?_)
      simp (disch := first | omega | exact getEq rfl | exact getO0 | exact Nat.le_of_ble_eq_true rfl) [app_growP, app_noneP, plus_N, plus_at0, put_plus0, put_plus1, upd_N, upd_size, q]
      refine W.seq (W.block ?_)
      refine W.seq (W.chunk ?_)
      simp (disch := first | omega | exact getEq rfl | exact getO0 | exact Nat.le_of_ble_eq_true rfl) [c49_o19, app_growP, app_noneP, plus_N, plus_at0, put_plus0, put_plus1, upd_N, upd_size, q, gc1, ci, ci']
      refine W.seq (W.chunk ?_)
      simp (disch := first | omega | exact getEq rfl | exact getO0 | exact Nat.le_of_ble_eq_true rfl) [c49_o20, app_growP, app_noneP, plus_N, plus_at0, put_plus0, put_plus1, upd_N, upd_size, q, ga, fst]
      refine W.cond (v := true) (by simp (disch := first | omega | exact getEq rfl | exact getO0 | exact Nat.le_of_ble_eq_true rfl) [app_growP, app_noneP, plus_N, plus_at0, put_plus0, put_plus1, upd_N, upd_size, q]) ?_
      simp only [if_true, if_false, Bool.false_eq_true]
      refine W.chunk ?_
      simp (disch := first | omega | exact getEq rfl | exact getO0 | exact Nat.le_of_ble_eq_true rfl) [c49_o21, app_growP, app_noneP, plus_N, plus_at0, put_plus0, put_plus1, upd_N, upd_size, q, elems, rdOf, f1, q1, q2]
      refine W.chunk ?_
      simp (disch := first | omega | exact getEq rfl | exact getO0 | exact Nat.le_of_ble_eq_true rfl) [c49_o22, app_growP, app_noneP, plus_N, plus_at0, put_plus0, put_plus1, upd_N, upd_size, q]
      exact kR _ _ ⟨_, ng2, by simp [T.get, q]⟩
    · have ng2 := ng
      rw [← fnL_f c] at ng2
      by_cases c1 : clN M i = i
      · have c2 : i ∈ L := Classical.byContradiction fun n => c (fp.2 ⟨c1, n⟩)
        rw [c1] at ci ci'
        rw [if_pos c2] at fst
        clear ng fp
        generalize st L = e1 at *
        generalize gs (clsL M) = ccs at *
        refine W.seq (W.chunk ?_)
        simp (disch := first | omega | exact getEq rfl | exact getO0 | exact Nat.le_of_ble_eq_true rfl) [c49_o18, app_growP, app_noneP, plus_N, plus_at0, put_plus0, put_plus1, upd_N, upd_size, q]
        refine W.seq (W.chunk ?_)
        simp (disch := first | omega | exact getEq rfl | exact getO0 | exact Nat.le_of_ble_eq_true rfl) [app_growP, app_noneP, plus_N, plus_at0, put_plus0, put_plus1, upd_N, upd_size, q]
        refine W.seq (W.block ?_)
        refine W.seq (W.chunk ?_)
        simp (disch := first | omega | exact getEq rfl | exact getO0 | exact Nat.le_of_ble_eq_true rfl) [c49_o19, app_growP, app_noneP, plus_N, plus_at0, put_plus0, put_plus1, upd_N, upd_size, q, gc1, ci, ci']
        refine W.seq (W.chunk ?_)
        simp (disch := first | omega | exact getEq rfl | exact getO0 | exact Nat.le_of_ble_eq_true rfl) [c49_o20, app_growP, app_noneP, plus_N, plus_at0, put_plus0, put_plus1, upd_N, upd_size, q, ga, fst]
        refine W.chunk ?_
        simp (disch := first | omega | exact getEq rfl | exact getO0 | exact Nat.le_of_ble_eq_true rfl) [c49_o21, app_growP, app_noneP, plus_N, plus_at0, put_plus0, put_plus1, upd_N, upd_size, q]
        refine W.chunk ?_
        simp (disch := first | omega | exact getEq rfl | exact getO0 | exact Nat.le_of_ble_eq_true rfl) [c49_o22, app_growP, app_noneP, plus_N, plus_at0, put_plus0, put_plus1, upd_N, upd_size, q]
        exact kR _ _ ⟨_, ng2, by simp [T.get, q]⟩
      · have c1' : ¬ (i : Int) = clN M i := by omega
        clear ng fp fst
        generalize clN M i = u at *
        generalize gs (clsL M) = ccs at *
        refine W.seq (W.chunk ?_)
        simp (disch := first | omega | exact getEq rfl | exact getO0 | exact Nat.le_of_ble_eq_true rfl) [c49_o18, app_growP, app_noneP, plus_N, plus_at0, put_plus0, put_plus1, upd_N, upd_size, q]
        refine W.seq (W.chunk ?_)
        simp (disch := first | omega | exact getEq rfl | exact getO0 | exact Nat.le_of_ble_eq_true rfl) [app_growP, app_noneP, plus_N, plus_at0, put_plus0, put_plus1, upd_N, upd_size, q]
        refine W.seq (W.block ?_)
        refine W.seq (W.chunk ?_)
        simp (disch := first | omega | exact getEq rfl | exact getO0 | exact Nat.le_of_ble_eq_true rfl) [c49_o19, app_growP, app_noneP, plus_N, plus_at0, put_plus0, put_plus1, upd_N, upd_size, q, gc1, ci, ci']
        refine W.seq (W.chunk ?_)
        simp (disch := first | omega | exact getEq rfl | exact getO0 | exact Nat.le_of_ble_eq_true rfl) [c49_o20, app_growP, app_noneP, plus_N, plus_at0, put_plus0, put_plus1, upd_N, upd_size, q]
        refine W.chunk ?_
        simp (disch := first | omega | exact getEq rfl | exact getO0 | exact Nat.le_of_ble_eq_true rfl) [c49_o21, app_growP, app_noneP, plus_N, plus_at0, put_plus0, put_plus1, upd_N, upd_size, q]
        refine W.chunk ?_
        simp (disch := first | omega | exact getEq rfl | exact getO0 | exact Nat.le_of_ble_eq_true rfl) [c49_o22, app_growP, app_noneP, plus_N, plus_at0, put_plus0, put_plus1, upd_N, upd_size, q]
        exact kR _ _ ⟨_, ng2, by simp [T.get, q]⟩
  · refine Tr.w fun s1 H1 hp R kR => W.trim ?_
    obtain ⟨xo, ng, q⟩ := hp
    refine W.seq (W.chunk ?_)
    simp (disch := first | omega | exact getEq rfl | exact getO0 | exact Nat.le_of_ble_eq_true rfl) [c49_o18, app_growP, app_noneP, plus_N, plus_at0, put_plus0, put_plus1, upd_N, upd_size, q]
    refine W.seq (W.chunk ?_)
    simp (disch := first | omega | exact getEq rfl | exact getO0 | exact Nat.le_of_ble_eq_true rfl) [app_growP, app_noneP, plus_N, plus_at0, put_plus0, put_plus1, upd_N, upd_size, q]
    exact kR _ _ ⟨_, ng, by simp [T.get, q]⟩
theorem c49_bad (J : CallF) (k54 : K54 J) (hJ : ∀ a h, J 49 a h = none) (h : Heap) {y : AV} (hy : MR h y M) (hm : isMat M = false) : CallsTo tbl J 49 [y] h (.tup [.nils, G 2], [], false) := by
  refine Tr.fnv (cf := c49) (e := .ret) (s := T.set .leaf [] y) (by decide) rfl (hJ _ _) rfl rfl rfl (by simp) ?_
  obtain ⟨cs, k54, hl, hc⟩ := k54 ⟨h.get, h.size, []⟩ y M (hy.lo [])
  have rp : (List.replicate 65 (AV.int .i64 0)).length = 65 := List.length_replicate
  have ep : putAt (List.replicate 65 (AV.int .i64 0)) 0 cs = cs := putAt_all _ _ (by omega)
  refine Tr.w fun s1 H1 hp R kR => ?_
  obtain ⟨rfl, rfl⟩ := hp
  have q : True := trivial
  generalize hZ : List.replicate 65 (AV.int .i64 0) = Z at *
  rw [hm] at k54
  refine W.seq (W.chunk ?_)
  simp (disch := first | omega | exact getEq rfl | exact getO0 | exact Nat.le_of_ble_eq_true rfl) [-List.reduceReplicate, c49_o0, size_mk, get_mk_lt, get_mk_ge, frameOf, Eff.app, Heap.setOwn, q]
  refine W.seq (W.chunk ?_)
  simp (disch := first | omega | exact getEq rfl | exact getO0 | exact Nat.le_of_ble_eq_true rfl) [-List.reduceReplicate, c49_o1, size_mk, get_mk_lt, get_mk_ge, frameOf, Eff.app, Heap.setOwn, q, k54, hZ, ep, rp, hl, frameOf]
  refine W.assoc ?_
  refine W.seq (W.chunk ?_)
  simp (disch := first | omega | exact getEq rfl | exact getO0 | exact Nat.le_of_ble_eq_true rfl) [-List.reduceReplicate, c49_o2, size_mk, get_mk_lt, get_mk_ge, frameOf, Eff.app, Heap.setOwn, q]
  refine W.seq (W.chunk ?_)
  simp (disch := first | omega | exact getEq rfl | exact getO0 | exact Nat.le_of_ble_eq_true rfl) [-List.reduceReplicate, c49_o3, size_mk, get_mk_lt, get_mk_ge, frameOf, Eff.app, Heap.setOwn, q]
  exact kR _ _ ⟨[.nils, G 2], by simp [T.get, c49, evRess, evRes], rfl⟩
theorem c49_ok (J : CallF) (k54 : K54 J) (k62 : K62 J) (hJ : ∀ a h, J 49 a h = none) (h : Heap) {y : AV} (hy : MR h y M) (hm : isMat M = true) : ∃ v own, CallsTo tbl J 49 [y] h (v, own, false) ∧ ∃ w, v = .tup [w, G 0] ∧ NG h (h.plus own) w (fnL M M.length) := by
  refine Tr.fny (cf := c49) (e := .ret) (s := T.set .leaf [] y) (by decide) rfl (hJ _ _) rfl rfl (by simp) ?_
  have h8 := isMat_n hm
  obtain ⟨cs, k54, hl, hc⟩ := k54 (frameOf h) y M (hy.lo [])
  have rp : (List.replicate 65 (AV.int .i64 0)).length = 65 := List.length_replicate
  obtain rfl := hc hm
  have ep : putAt (List.replicate 65 (AV.int .i64 0)) 0 (matC M) = matC M := putAt_all _ _ (by omega)
  have et : (matC M).take 65 = matC M := List.take_of_length_le (by omega)
  have lm := matC_len M
  have e0 : (matC M)[0]? = some (G M.length) := rfl
  have e0' := getI e0
  obtain ⟨w, own, k62, nc⟩ := k62 ((frameOf h).plus [.cells 0 65 (matC M)]) M hm
  obtain ⟨qc, rfl, gc⟩ := nc.l.sl (by intro e; have h0 : (gs (clsL M)).length = M.length := gl_len _ _; rw [e] at h0; simp at h0; omega)
  rw [show (gs (clsL M)).length = M.length from gl_len _ _] at k62 gc
  have kA : Kp (fun _ => False) (frameOf h) (((frameOf h).plus [.cells 0 65 (matC M)]).plus own) := (Kp.plus _ _).trans nc.k
  have gm : (((frameOf h).plus [.cells 0 65 (matC M)]).plus own).get h.size = .cells 0 65 (matC M) := nc.k.at (plus_at0 _ _ _ _ (fr_size h)) (by simp) id
  have gm0 : ((frameOf h).plus [.cells 0 65 (matC M)]).get h.size = .cells 0 65 (matC M) := plus_at0 _ _ _ _ (fr_size h)
  clear nc
  generalize hHa : ((frameOf h).plus [.cells 0 65 (matC M)]).plus own = Ha at *
  have gm1 := plus_keep [.map []] gm (by simp)
  have l1 := c49_x J hm gm gc
  have ex : ∃ L', LVS M 0 0 L' ∧ Ha.plus [.map []] = Ha.plus [.map (st L')] := ⟨[], LVS.init, rfl⟩
  have fs := fr_size h
  refine Tr.w fun s1 H1 hp R kR => ?_
  obtain ⟨rfl, rfl⟩ := hp
  have q : True := trivial
  generalize hZ : List.replicate 65 (AV.int .i64 0) = Z at *
  rw [hm] at k54
  refine W.seq (W.chunk ?_)
  simp (disch := first | omega | exact getEq rfl | exact getO0 | exact Nat.le_of_ble_eq_true rfl) [-List.reduceReplicate, c49_o0, app_growP, app_noneP, plus_N, plus_at0, put_plus0, put_plus1, upd_N, upd_size, q]
  refine W.seq (W.chunk ?_)
  simp (disch := first | omega | exact getEq rfl | exact getO0 | exact Nat.le_of_ble_eq_true rfl) [-List.reduceReplicate, c49_o1, app_growP, app_noneP, plus_N, plus_at0, put_plus0, put_plus1, upd_N, upd_size, q, k54, hZ, ep, rp, hl, app_if, app_if', fs]
  refine W.assoc ?_
  refine W.seq (W.chunk ?_)
  simp (disch := first | omega | exact getEq rfl | exact getO0 | exact Nat.le_of_ble_eq_true rfl) [-List.reduceReplicate, c49_o2, app_growP, app_noneP, plus_N, plus_at0, put_plus0, put_plus1, upd_N, upd_size, q]
  refine W.seq (W.chunk ?_)
  simp (disch := first | omega | exact getEq rfl | exact getO0 | exact Nat.le_of_ble_eq_true rfl) [-List.reduceReplicate, c49_o3, app_growP, app_noneP, plus_N, plus_at0, put_plus0, put_plus1, upd_N, upd_size, q]
  refine W.seq (W.chunk ?_)
  simp (disch := first | omega | exact getEq rfl | exact getO0 | exact Nat.le_of_ble_eq_true rfl) [-List.reduceReplicate, c49_o4, app_growP, app_noneP, plus_N, plus_at0, put_plus0, put_plus1, upd_N, upd_size, q, fs, gm0, et, lm, k62, app_if, app_if', hHa]
  refine W.seq (W.chunk ?_)
  simp (disch := first | omega | exact getEq rfl | exact getO0 | exact Nat.le_of_ble_eq_true rfl) [-List.reduceReplicate, c49_o5, app_growP, app_noneP, plus_N, plus_at0, put_plus0, put_plus1, upd_N, upd_size, q]
  refine W.assoc ?_
  refine W.seq (W.chunk ?_)
  simp (disch := first | omega | exact getEq rfl | exact getO0 | exact Nat.le_of_ble_eq_true rfl) [-List.reduceReplicate, c49_o6, app_growP, app_noneP, plus_N, plus_at0, put_plus0, put_plus1, upd_N, upd_size, q, gm1, lm, e0, e0']
  refine W.seq (W.block ?_)
  refine W.use (l1) (by simp (disch := first | omega | exact getEq rfl | exact getO0 | exact Nat.le_of_ble_eq_true rfl) [-List.reduceReplicate, app_growP, app_noneP, plus_N, plus_at0, put_plus0, put_plus1, upd_N, upd_size, q, ex]) fun s1 H1 hp => ?_
  obtain ⟨L, lv, rfl, q⟩ := hp
  try simp only [thenW_n, thenW_e, thenW_r, blkW_n, blkW_e, blkW_r, if_true]
  have l2 := c49_i J hm lv (plus_at0 Ha (.map (st L)) [] _ rfl) (plus_keep [.map (st L)] gc (by simp))
  refine W.seq (W.chunk ?_)
  simp (disch := first | omega | exact getEq rfl | exact getO0 | exact Nat.le_of_ble_eq_true rfl) [-List.reduceReplicate, c49_o16, app_growP, app_noneP, plus_N, plus_at0, put_plus0, put_plus1, upd_N, upd_size, q]
  refine W.assoc ?_
  refine W.seq (W.chunk ?_)
  simp (disch := first | omega | exact getEq rfl | exact getO0 | exact Nat.le_of_ble_eq_true rfl) [-List.reduceReplicate, c49_o17, app_growP, app_noneP, plus_N, plus_at0, put_plus0, put_plus1, upd_N, upd_size, q]
  refine W.seq (W.block ?_)
  refine W.use (l2) (by simp (disch := first | omega | exact getEq rfl | exact getO0 | exact Nat.le_of_ble_eq_true rfl) [-List.reduceReplicate, app_growP, app_noneP, plus_N, plus_at0, put_plus0, put_plus1, upd_N, upd_size, q]) fun s1 H1 hp => ?_
  obtain ⟨xo, ng, q⟩ := hp
  try simp only [thenW_n, thenW_e, thenW_r, blkW_n, blkW_e, blkW_r, if_true]
  refine W.seq (W.chunk ?_)
  simp (disch := first | omega | exact getEq rfl | exact getO0 | exact Nat.le_of_ble_eq_true rfl) [-List.reduceReplicate, c49_o23, app_growP, app_noneP, plus_N, plus_at0, put_plus0, put_plus1, upd_N, upd_size, q]
  refine W.ret ?_
  try simp only [thenW_n, thenW_e, thenW_r, blkW_n, blkW_e, blkW_r, if_true]
  exact kR _ _ ⟨[xo, G 0], by simp [T.get, c49, evRess, evRes, q], xo, rfl, (NG.base (kA.trans (Kp.plus _ _)) ng).fr1⟩
end
def Post49 (a : AM) (h : Heap) (v : AV) (own : List AObj) : Prop := (isMat a.M = false → v = .tup [.nils, G 2] ∧ own = []) ∧ (isMat a.M = true → ∃ w, v = .tup [w, G 0] ∧ NG h (h.plus own) w (fnL a.M a.M.length))
noncomputable def T28 : CallF := addK tbl T27 49 PreM Post49
theorem t28 : Sound Go.Proofs.Try.prog T28 := Sound.addK follows ok t27 (by decide) _ _
abbrev K49 (J : CallF) : Prop := ∀ (h : Heap) (a : AM), MR h a.y a.M → ∃ v own, J 49 [a.y] h = some (v, own, false) ∧ Post49 a h v own
theorem k54_27 : K54 T27 := fun h y M hy => by
  simp (disch := decide) only [T27, T26, T25, T24, T23, T22, T21, T20, T19, T18, T17, T16, T15, T14, T13, T12, T11, T10, T9, T8, T7, T6, T5, T4, T3, T2, T1, R21, R20, R19, R18, R17, R16, R15, R14, R13, R12, R11, R10, R9, R8, R7, R6, R5, R4, R3, R2, R1, addI_ne, addX_ne, addV_ne, addK_ne]
  exact k54 h y M hy
theorem k62_27 : K62 T27 := fun h M hm => by
  simp (disch := decide) only [T27, T26, T25, T24, T23, T22, T21, T20, T19, T18, T17, T16, T15, T14, T13, T12, T11, T10, T9, T8, T7, addK_ne]
  exact k62 h M hm
theorem k49 : K49 T28 := fun h a ha => addK_some (Pre := PreM) (Post := Post49) (fun a args h hp => by
  obtain ⟨hy, rfl⟩ := hp
  have hn : ∀ a h, T27 49 a h = none := (fun _ _ => by simp (disch := decide) only [T27, T26, T25, T24, T23, T22, T21, T20, T19, T18, T17, T16, T15, T14, T13, T12, T11, T10, T9, T8, T7, T6, T5, T4, T3, T2, T1, R21, R20, R19, R18, R17, R16, R15, R14, R13, R12, R11, R10, R9, R8, R7, R6, R5, R4, R3, R2, R1, addI_ne, addX_ne, addV_ne, addK_ne]; rfl)
  cases c : isMat a.M
  · exact ⟨_, _, c49_bad T27 k54_27 hn h hy c, fun _ => ⟨rfl, rfl⟩, fun q => by rw [c] at q; cases q⟩
  · obtain ⟨v, own, e, p⟩ := c49_ok T27 k54_27 k62_27 hn h hy c
    exact ⟨v, own, e, fun q => (by rw [c] at q; cases q), fun _ => p⟩) a _ h ⟨ha, rfl⟩
end Go.Proofs.Ytjeemgaoonapgaa.Ev
