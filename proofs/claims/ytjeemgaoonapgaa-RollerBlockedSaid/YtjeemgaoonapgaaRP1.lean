/-
  Of the functions that this law reaches, part 1: what they answer. No condition.
-/
import Derived.Test.YtjeemgaoonapgaaRP0
set_option linter.unusedVariables false
set_option linter.unusedSimpArgs false
namespace Go.Proofs.Ytjeemgaoonapgaa.Ev
open Go Go.AEv
attribute [local simp] evFunc initS evOps_c evTrim_c evSkip_c evExit_c evRet_c evSeq_c evCond_c evBlock_c evDraw_c runOps_n runOps_c exec_n exec_g pure1_c act AOpd.ev T.get T.set T.put evBin evUn forceT_eq forceV_eq forceL_eq evRess evRes one keep runFP_n runFP_c app_none AV.flats AV.flat came_some List.getElem?_cons_zero List.getElem?_cons_succ beqT wrapI idxI tdivI tmodI decT decF ibT ibF inT inF evScope_c if_pos if_neg Cm_some thenW_n thenW_e thenW_r blkW_n blkW_e blkW_r goI kn putAt AV.cells fillA loadA takeA mk Eff.isAll Eff.isNone Eff.commutes Eff.spares okPair apart eqAgg fits LK.fits allEq aveq eqk mmA
section
variable {M : List (List Int)}
def rwOk (M : List (List Int)) (X : Nat → Int) (i j : Nat) : Prop := ∀ j', j ≤ j' → j' < M.length → dt M X i j' M.length ≤ mostP
def prOk (M : List (List Int)) (X : Nat → Int) (i : Nat) : Prop := ∀ i', i ≤ i' → i' < M.length → rwOk M X i' 0
end
end Go.Proofs.Ytjeemgaoonapgaa.Ev
set_option linter.unusedVariables false
set_option linter.unusedSimpArgs false
namespace Go.Proofs.Ytjeemgaoonapgaa.Ev
open Go Go.AEv
attribute [local simp] evFunc initS evOps_c evTrim_c evSkip_c evExit_c evRet_c evSeq_c evCond_c evBlock_c evDraw_c runOps_n runOps_c exec_n exec_g pure1_c act AOpd.ev T.get T.set T.put evBin evUn forceT_eq forceV_eq forceL_eq evRess evRes one keep runFP_n runFP_c app_none AV.flats AV.flat came_some List.getElem?_cons_zero List.getElem?_cons_succ beqT wrapI idxI tdivI tmodI decT decF ibT ibF inT inF evScope_c if_pos if_neg Cm_some thenW_n thenW_e thenW_r blkW_n blkW_e blkW_r goI kn putAt AV.cells fillA loadA takeA mk Eff.isAll Eff.isNone Eff.commutes Eff.spares okPair apart eqAgg fits LK.fits allEq aveq eqk mmA
structure A79 where
  b : Nat
  o : Nat
  n : Nat
  v : Nat
  g : Nat
  cs : List AV
def Ok79 (a : A79) (h : Heap) : Prop := h.get a.b = .cells a.g a.v a.cs ∧ ((a.cs.drop a.o).take a.n).length = a.n ∧ 0 < a.n ∧ a.n ≤ 1000
def Pre79 (a : A79) (args : List AV) (h : Heap) : Prop := Ok79 a h ∧ args = [.slice a.b a.o a.n a.v]
def Post79 (a : A79) (h : Heap) (v : AV) (own : List AObj) : Prop := v = .slice h.size 0 a.n a.n ∧ own = [.cells 1 a.n ((a.cs.drop a.o).take a.n)]
noncomputable def T12 : CallF := addK tbl T11 79 Pre79 Post79
theorem t12 : Sound Go.Proofs.Try.prog T12 := Sound.addK follows ok t11 (by decide) _ _
def rwL (X : Nat → Int) (n i : Nat) : List Int := lf (fun j => X (i * 8 + j)) n
section
variable {M : List (List Int)}
theorem TB.fr0 {h h' : Heap} {x : AV} {L : List (List AV)} (t : TB (frameOf h) h' x L) : TB h (h.plus (if (one [x]).flat then [] else h'.own)) x L := by
  split
  · rename_i hf
    obtain ⟨rs, lv, hl, hr⟩ := t.r
    rcases lv with ⟨rfl, rfl⟩ | ⟨b, rfl, g, n⟩
    · have : L = [] := List.length_eq_zero_iff.1 hl.symm
      subst this
      have : h.plus [] = h := by simp [Heap.plus]
      rw [this]; exact TB.nil h
    · simp [one, AV.flat, AV.flats] at hf
  · exact t.fr
theorem TB.up {h : Heap} {X : List AObj} {H' : Heap} {w : AV} {L : List (List AV)} (t : TB ⟨h.get, h.size, X⟩ H' w L) : TB (frameOf h) H' w L := by
  obtain ⟨rs, lv, hl, hr⟩ := t.r
  have ks := (Kp.plus (M := fun _ => False) (frameOf h) X).size
  exact ⟨(Kp.plus (frameOf h) X).trans t.k, fun q hq => Nat.le_trans ks (t.x0 q hq), rs, lv, hl, fun i r hi => by
    obtain ⟨cs, b, h1, h2, h3, h4, h5⟩ := hr i r hi
    exact ⟨cs, b, h1, h2, h3, h4, Nat.le_trans ks h5⟩⟩
end
end Go.Proofs.Ytjeemgaoonapgaa.Ev
set_option linter.unusedVariables false
set_option linter.unusedSimpArgs false
namespace Go.Proofs.Ytjeemgaoonapgaa.Ev
open Go Go.AEv
attribute [local simp] evFunc initS evOps_c evTrim_c evSkip_c evExit_c evRet_c evSeq_c evCond_c evBlock_c evDraw_c runOps_n runOps_c exec_n exec_g pure1_c act AOpd.ev T.get T.set T.put evBin evUn forceT_eq forceV_eq forceL_eq evRess evRes one keep runFP_n runFP_c app_none AV.flats AV.flat came_some List.getElem?_cons_zero List.getElem?_cons_succ beqT wrapI idxI tdivI tmodI decT decF ibT ibF inT inF evScope_c if_pos if_neg Cm_some thenW_n thenW_e thenW_r blkW_n blkW_e blkW_r goI kn putAt AV.cells fillA loadA takeA mk Eff.isAll Eff.isNone Eff.commutes Eff.spares okPair apart eqAgg fits LK.fits allEq aveq eqk mmA
def Pre72 (M : List (List Int)) (args : List AV) (h : Heap) : Prop := isMat M = true ∧ args = [.agg (matC M)]
def Post72 (M : List (List Int)) (h : Heap) (v : AV) (own : List AObj) : Prop := v = .agg (sq (onF M.length)) ∧ own = []
noncomputable def T13 : CallF := addK tbl T12 72 Pre72 Post72
theorem t13 : Sound Go.Proofs.Try.prog T13 := Sound.addK follows ok t12 (by decide) _ _
structure A73 where
  M : List (List Int)
  X : Nat → Int
def Ok73 (a : A73) : Prop := isMat a.M = true ∧ ∀ x, 0 ≤ a.X x ∧ a.X x ≤ mostP
open Classical in
noncomputable def v73 (a : A73) : AV := if prOk a.M a.X 0 then .tup [.agg (sq (prF a.M a.X)), .bool true] else .tup [.agg (sq fun _ => 0), .bool false]
def Pre73 (a : A73) (args : List AV) (h : Heap) : Prop := Ok73 a ∧ args = [.agg (matC a.M), .agg (sq a.X), .agg (sq (entS a.M))]
def Post73 (a : A73) (h : Heap) (v : AV) (own : List AObj) : Prop := v = v73 a ∧ own = []
noncomputable def T14 : CallF := addK tbl T13 73 Pre73 Post73
theorem t14 : Sound Go.Proofs.Try.prog T14 := Sound.addK follows ok t13 (by decide) _ _
def Pre74 (a : A73) (args : List AV) (h : Heap) : Prop := isMat a.M = true ∧ args = [.agg (matC a.M), .agg (sq a.X)]
def Post74 (a : A73) (h : Heap) (v : AV) (own : List AObj) : Prop := TB h (h.plus own) v ((List.range a.M.length).map fun i => gs (rwL a.X a.M.length i))
noncomputable def T15 : CallF := addK tbl T14 74 Pre74 Post74
theorem t15 : Sound Go.Proofs.Try.prog T15 := Sound.addK follows ok t14 (by decide) _ _
section
variable {M : List (List Int)} {y : AV}
def pwX (M : List (List Int)) : Nat → Nat → Int
  | 0 => onF M.length
  | k + 1 => prF M (pwX M k)
def okP (M : List (List Int)) (k : Nat) : Prop := ∀ m, m < k → prOk M (pwX M m) 0
def pwL (M : List (List Int)) (k : Nat) : List (List Int) := (List.range M.length).map fun i => rwL (pwX M k) M.length i
end
end Go.Proofs.Ytjeemgaoonapgaa.Ev
set_option linter.unusedVariables false
set_option linter.unusedSimpArgs false
namespace Go.Proofs.Ytjeemgaoonapgaa.Ev
open Go Go.AEv
attribute [local simp] evFunc initS evOps_c evTrim_c evSkip_c evExit_c evRet_c evSeq_c evCond_c evBlock_c evDraw_c runOps_n runOps_c exec_n exec_g pure1_c act AOpd.ev T.get T.set T.put evBin evUn forceT_eq forceV_eq forceL_eq evRess evRes one keep runFP_n runFP_c app_none AV.flats AV.flat came_some List.getElem?_cons_zero List.getElem?_cons_succ beqT wrapI idxI tdivI tmodI decT decF ibT ibF inT inF evScope_c if_pos if_neg Cm_some thenW_n thenW_e thenW_r blkW_n blkW_e blkW_r goI kn putAt AV.cells fillA loadA takeA mk Eff.isAll Eff.isNone Eff.commutes Eff.spares okPair apart eqAgg fits LK.fits allEq aveq eqk mmA
section
variable {M : List (List Int)}
structure E46 (M : List (List Int)) (X : Nat → Int) (H : Heap) (b v q0 : Nat) (cs rs : List AV) : Prop where
  mx : MX H M b v cs
  gq : H.get q0 = .cells 1 M.length rs
  r : ∀ i, i < M.length → ∃ b2, rs[i]? = some (.slice b2 0 M.length M.length) ∧ H.get b2 = .cells 1 M.length (gs (rwL X M.length i))
theorem E46.kp {X : Nat → Int} {H H' : Heap} {b v q0 : Nat} {cs rs : List AV} (e : E46 M X H b v q0 cs rs) (k : Kp (fun _ => False) H H') : E46 M X H' b v q0 cs rs :=
  ⟨e.mx.kp k, k.at e.gq (by simp) id, fun i hi => by obtain ⟨b2, x, y⟩ := e.r i hi; exact ⟨b2, x, k.at y (by simp) id⟩⟩
end
end Go.Proofs.Ytjeemgaoonapgaa.Ev
set_option linter.unusedVariables false
set_option linter.unusedSimpArgs false
namespace Go.Proofs.Ytjeemgaoonapgaa.Ev
open Go Go.AEv
attribute [local simp] evFunc initS evOps_c evTrim_c evSkip_c evExit_c evRet_c evSeq_c evCond_c evBlock_c evDraw_c runOps_n runOps_c exec_n exec_g pure1_c act AOpd.ev T.get T.set T.put evBin evUn forceT_eq forceV_eq forceL_eq evRess evRes one keep runFP_n runFP_c app_none AV.flats AV.flat came_some List.getElem?_cons_zero List.getElem?_cons_succ beqT wrapI idxI tdivI tmodI decT decF ibT ibF inT inF evScope_c if_pos if_neg Cm_some thenW_n thenW_e thenW_r blkW_n blkW_e blkW_r goI kn putAt AV.cells fillA loadA takeA mk Eff.isAll Eff.isNone Eff.commutes Eff.spares okPair apart eqAgg fits LK.fits allEq aveq eqk mmA
theorem TB.base {H0 H1 H : Heap} {x : AV} {L : List (List AV)} (k : Kp (fun _ => False) H0 H1) (t : TB H1 H x L) : TB H0 H x L := by
  obtain ⟨rs, lv, hl, hr⟩ := t.r
  exact ⟨k.trans t.k, fun q hq => Nat.le_trans k.size (t.x0 q hq), rs, lv, hl, fun i r hi => by
    obtain ⟨cs, b, h1, h2, h3, h4, h5⟩ := hr i r hi
    exact ⟨cs, b, h1, h2, h3, h4, Nat.le_trans k.size h5⟩⟩
section
variable {M : List (List Int)}
end
structure A43 where
  M : List (List Int)
  y : AV
  k : Int
def pkOk (a : A43) : Prop := isMat a.M = true ∧ 0 ≤ a.k ∧ a.k ≤ 100
def Pre43 (a : A43) (args : List AV) (h : Heap) : Prop := MR h a.y a.M ∧ args = [a.y, G a.k]
def Post43 (a : A43) (h : Heap) (v : AV) (own : List AObj) : Prop := (¬ pkOk a → v = .tup [.nils, G 2] ∧ own = []) ∧ (pkOk a → ¬ okP a.M a.k.toNat → v = .tup [.nils, G 5] ∧ own = []) ∧ (pkOk a → okP a.M a.k.toNat → ∃ w, v = .tup [w, G 0] ∧ TB h (h.plus own) w ((pwL a.M a.k.toNat).map gs))
noncomputable def T16 : CallF := addK tbl T15 43 Pre43 Post43
theorem t16 : Sound Go.Proofs.Try.prog T16 := Sound.addK follows ok t15 (by decide) _ _
structure A46 where
  M : List (List Int)
  y : AV
  k : Nat
def Ok46 (a : A46) (h : Heap) : Prop := MR h a.y a.M ∧ isMat a.M = true ∧ a.k ≤ 100
def Pre46 (a : A46) (args : List AV) (h : Heap) : Prop := Ok46 a h ∧ args = [a.y, G a.k]
def Post46 (a : A46) (h : Heap) (v : AV) (own : List AObj) : Prop := (¬ okP a.M a.k → v = .tup [.nils, .bool false] ∧ own = []) ∧ (okP a.M a.k → ∃ w, v = .tup [w, .bool true] ∧ TB h (h.plus own) w ((pwL a.M a.k).map gs))
noncomputable def T17 : CallF := addK tbl T16 46 Pre46 Post46
theorem t17 : Sound Go.Proofs.Try.prog T17 := Sound.addK follows ok t16 (by decide) _ _
end Go.Proofs.Ytjeemgaoonapgaa.Ev
set_option linter.unusedVariables false
set_option linter.unusedSimpArgs false
namespace Go.Proofs.Ytjeemgaoonapgaa.Ev
open Go Go.AEv
attribute [local simp] evFunc initS evOps_c evTrim_c evSkip_c evExit_c evRet_c evSeq_c evCond_c evBlock_c evDraw_c runOps_n runOps_c exec_n exec_g pure1_c act AOpd.ev T.get T.set T.put evBin evUn forceT_eq forceV_eq forceL_eq evRess evRes one keep runFP_n runFP_c app_none AV.flats AV.flat came_some List.getElem?_cons_zero List.getElem?_cons_succ beqT wrapI idxI tdivI tmodI decT decF ibT ibF inT inF evScope_c if_pos if_neg Cm_some thenW_n thenW_e thenW_r blkW_n blkW_e blkW_r goI kn putAt AV.cells fillA loadA takeA mk Eff.isAll Eff.isNone Eff.commutes Eff.spares okPair apart eqAgg fits LK.fits allEq aveq eqk mmA
section
variable {M : List (List Int)}
def sm (f : Nat → Int) : Nat → Int
  | 0 => 0
  | k + 1 => sm f k + f k
end
structure TT (H : Heap) (n : Nat) (X : Nat → Int) (q : Nat) (rs : List AV) : Prop where
  g : H.get q = .cells 1 n rs
  r : ∀ i, i < n → ∃ b, rs[i]? = some (.slice b 0 n n) ∧ H.get b = .cells 1 n (gs (rwL X n i))
theorem TT.kp {H H' : Heap} {n : Nat} {X : Nat → Int} {q : Nat} {rs : List AV} (t : TT H n X q rs) (k : Kp (fun _ => False) H H') : TT H' n X q rs :=
  ⟨k.at t.g (by simp) id, fun i hi => by obtain ⟨b, e1, e2⟩ := t.r i hi; exact ⟨b, e1, k.at e2 (by simp) id⟩⟩
section
variable {n : Nat} {A B C : Nat → Int} {qa qb qc : Nat} {ra rb rc : List AV} {H : Heap}
end
end Go.Proofs.Ytjeemgaoonapgaa.Ev
set_option linter.unusedVariables false
set_option linter.unusedSimpArgs false
namespace Go.Proofs.Ytjeemgaoonapgaa.Ev
open Go Go.AEv
attribute [local simp] evFunc initS evOps_c evTrim_c evSkip_c evExit_c evRet_c evSeq_c evCond_c evBlock_c evDraw_c runOps_n runOps_c exec_n exec_g pure1_c act AOpd.ev T.get T.set T.put evBin evUn forceT_eq forceV_eq forceL_eq evRess evRes one keep runFP_n runFP_c app_none AV.flats AV.flat came_some List.getElem?_cons_zero List.getElem?_cons_succ beqT wrapI idxI tdivI tmodI decT decF ibT ibF inT inF evScope_c if_pos if_neg Cm_some thenW_n thenW_e thenW_r blkW_n blkW_e blkW_r goI kn putAt AV.cells fillA loadA takeA mk Eff.isAll Eff.isNone Eff.commutes Eff.spares okPair apart eqAgg fits LK.fits allEq aveq eqk mmA
abbrev w6 (x : Int) : Int := IntKind.i64.wrap x
section
variable {M : List (List Int)}
def sP (M : List (List Int)) (X : Nat → Int) (i j h : Nat) : Int := sm (fun h => ent M i h * X (h * 8 + j)) h
def fuC (M : List (List Int)) (X : Nat → Int) (c : Int) (i j : Nat) : Int := if j < M.length then (if i = j then w6 (w6 (sP M X i j M.length) + c) else w6 (sP M X i j M.length)) else 0
def nxX (M : List (List Int)) (X : Nat → Int) (c : Int) (x : Nat) : Int := if x / 8 < M.length then fuC M X c (x / 8) (x % 8) else 0
def tI (M : List (List Int)) (X : Nat → Int) (i h : Nat) : Int := sm (fun h => ent M i h * X (h * 8 + i)) h
def tJ (M : List (List Int)) (X : Nat → Int) (i : Nat) : Int := sm (fun i => tI M X i M.length) i
def cf (k : Nat) (T : Int) : Int := w6 ((w6 (0 - w6 T)).tdiv k)
def pQ (M : List (List Int)) : Nat → (Nat → Int) × (Nat → Int)
  | 0 => (fun _ => 0, fun t => if t = M.length then 1 else 0)
  | k + 1 => (nxX M (pQ M k).1 ((pQ M k).2 (M.length - k)), fun t => if t = M.length - (k + 1) then cf (k + 1) (tJ M (nxX M (pQ M k).1 ((pQ M k).2 (M.length - k))) M.length) else (pQ M k).2 t)
def pyL (M : List (List Int)) : List Int := lf (pQ M M.length).2 (M.length + 1)
end
end Go.Proofs.Ytjeemgaoonapgaa.Ev
set_option linter.unusedVariables false
set_option linter.unusedSimpArgs false
namespace Go.Proofs.Ytjeemgaoonapgaa.Ev
open Go Go.AEv
attribute [local simp] evFunc initS evOps_c evTrim_c evSkip_c evExit_c evRet_c evSeq_c evCond_c evBlock_c evDraw_c runOps_n runOps_c exec_n exec_g pure1_c act AOpd.ev T.get T.set T.put evBin evUn forceT_eq forceV_eq forceL_eq evRess evRes one keep runFP_n runFP_c app_none AV.flats AV.flat came_some List.getElem?_cons_zero List.getElem?_cons_succ beqT wrapI idxI tdivI tmodI decT decF ibT ibF inT inF evScope_c if_pos if_neg Cm_some thenW_n thenW_e thenW_r blkW_n blkW_e blkW_r goI kn putAt AV.cells fillA loadA takeA mk Eff.isAll Eff.isNone Eff.commutes Eff.spares okPair apart eqAgg fits LK.fits allEq aveq eqk mmA
section
variable {M : List (List Int)}
end
def Post33 (a : AM) (h : Heap) (v : AV) (own : List AObj) : Prop := (isMat a.M = false → v = .tup [.nils, G 2] ∧ own = []) ∧ (isMat a.M = true → ∃ w, v = .tup [w, G 0] ∧ NG h (h.plus own) w (pyL a.M))
noncomputable def T18 : CallF := addK tbl T17 33 PreM Post33
theorem t18 : Sound Go.Proofs.Try.prog T18 := Sound.addK follows ok t17 (by decide) _ _
end Go.Proofs.Ytjeemgaoonapgaa.Ev
set_option linter.unusedVariables false
set_option linter.unusedSimpArgs false
namespace Go.Proofs.Ytjeemgaoonapgaa.Ev
open Go Go.AEv
attribute [local simp] evFunc initS evOps_c evTrim_c evSkip_c evExit_c evRet_c evSeq_c evCond_c evBlock_c evDraw_c runOps_n runOps_c exec_n exec_g pure1_c act AOpd.ev T.get T.set T.put evBin evUn forceT_eq forceV_eq forceL_eq evRess evRes one keep runFP_n runFP_c app_none AV.flats AV.flat came_some List.getElem?_cons_zero List.getElem?_cons_succ beqT wrapI idxI tdivI tmodI decT decF ibT ibF inT inF evScope_c if_pos if_neg Cm_some thenW_n thenW_e thenW_r blkW_n blkW_e blkW_r goI kn putAt AV.cells fillA loadA takeA mk Eff.isAll Eff.isNone Eff.commutes Eff.spares okPair apart eqAgg fits LK.fits allEq aveq eqk mmA
structure TQ (H : Heap) (n : Nat) (X : Nat → Int) (q : Nat) (rs : List AV) (p : Nat) : Prop where
  g : H.get q = .cells 1 n rs
  q0 : p < q
  r : ∀ i, i < n → ∃ b, p < b ∧ rs[i]? = some (.slice b 0 n n) ∧ H.get b = .cells 1 n (gs (rwL X n i))
theorem TQ.upd {H : Heap} {n : Nat} {X : Nat → Int} {q : Nat} {rs : List AV} {p : Nat} (t : TQ H n X q rs p) (Y : AObj) (hN : H.N ≤ p) : TQ (H.upd p Y) n X q rs p :=
  ⟨by rw [upd_ne _ _ _ _ hN (by have := t.q0; omega)]; exact t.g, t.q0, fun i hi => by
    obtain ⟨b, e0, e1, e2⟩ := t.r i hi
    exact ⟨b, e0, e1, by rw [upd_ne _ _ _ _ hN (by omega)]; exact e2⟩⟩
section
variable {M : List (List Int)}
end
def Post45 (a : AM) (h : Heap) (v : AV) (own : List AObj) : Prop := NG h (h.plus own) v (pyL a.M)
noncomputable def T19 : CallF := addK tbl T18 45 PreO Post45
theorem t19 : Sound Go.Proofs.Try.prog T19 := Sound.addK follows ok t18 (by decide) _ _
end Go.Proofs.Ytjeemgaoonapgaa.Ev
set_option linter.unusedVariables false
set_option linter.unusedSimpArgs false
namespace Go.Proofs.Ytjeemgaoonapgaa.Ev
open Go Go.AEv
attribute [local simp] evFunc initS evOps_c evTrim_c evSkip_c evExit_c evRet_c evSeq_c evCond_c evBlock_c evDraw_c runOps_n runOps_c exec_n exec_g pure1_c act AOpd.ev T.get T.set T.put evBin evUn forceT_eq forceV_eq forceL_eq evRess evRes one keep runFP_n runFP_c app_none AV.flats AV.flat came_some List.getElem?_cons_zero List.getElem?_cons_succ beqT wrapI idxI tdivI tmodI decT decF ibT ibF inT inF evScope_c if_pos if_neg Cm_some thenW_n thenW_e thenW_r blkW_n blkW_e blkW_r goI kn putAt AV.cells fillA loadA takeA mk Eff.isAll Eff.isNone Eff.commutes Eff.spares okPair apart eqAgg fits LK.fits allEq aveq eqk mmA
def LT (h : Heap) (x : AV) (A : List (List Int)) : Prop := ∃ rs, ((x = .nils ∧ rs = []) ∨ ∃ b, x = .slice b 0 rs.length rs.length ∧ h.get b = .cells 1 rs.length rs) ∧ rs.length = A.length ∧ ∀ (i : Nat) r, rs[i]? = some r → ∃ l, A[i]? = some l ∧ listOf h r = some l
theorem TB.lt {H0 H : Heap} {x : AV} {N : List (List Int)} (t : TB H0 H x (N.map gs)) : LT H x N := by
  obtain ⟨rs, lv, hl, hr⟩ := t.r
  refine ⟨rs, ?_, by simpa using hl, fun i r hi => ?_⟩
  · rcases lv with l | ⟨b, e, g, _⟩
    · exact .inl l
    · exact .inr ⟨b, e, g⟩
  · obtain ⟨cs, b, h1, h2, h3, _⟩ := hr i r hi
    rw [List.getElem?_map] at h1
    cases hN : N[i]? with
    | none => rw [hN] at h1; cases h1
    | some l =>
      rw [hN] at h1
      simp only [Option.map_some, Option.some.injEq] at h1
      subst h1
      exact ⟨l, rfl, by rw [h2]; exact listOf_cells h3 (by simp)⟩
theorem TG.lt {H0 H : Heap} {x : AV} {N : List (List Int)} (t : TG H0 H x N) : LT H x N := by
  obtain ⟨rs, lv, hl, hr⟩ := t.r
  refine ⟨rs, ?_, hl, fun i r hi => ?_⟩
  · rcases lv with l | ⟨b, e, g, _⟩
    · exact .inl l
    · exact .inr ⟨b, e, g⟩
  · obtain ⟨l, h1, h2, _⟩ := hr i r hi
    exact ⟨l, h1, h2⟩
theorem LT.kp {h h' : Heap} {x : AV} {A : List (List Int)} (t : LT h x A) (k : Kp (fun _ => False) h h') : LT h' x A := by
  obtain ⟨rs, lv, hl, hr⟩ := t
  refine ⟨rs, ?_, hl, fun i r hi => ?_⟩
  · rcases lv with l | ⟨b, e, g⟩
    · exact .inl l
    · exact .inr ⟨b, e, k.at g (by simp) id⟩
  · obtain ⟨l, h1, h2⟩ := hr i r hi
    exact ⟨l, h1, listOf_kp k h2 (fun _ _ => id)⟩
theorem LT.lo {h : Heap} {x : AV} {A : List (List Int)} (t : LT h x A) (own : List AObj) : LT ⟨h.get, h.size, own⟩ x A := by
  obtain ⟨rs, lv, hl, hr⟩ := t
  refine ⟨rs, ?_, hl, fun i r hi => ?_⟩
  · rcases lv with l | ⟨b, e, g⟩
    · exact .inl l
    · exact .inr ⟨b, e, by rw [get_mk_lt _ _ _ _ (get_lt g (by simp))]; exact g⟩
  · obtain ⟨l, h1, h2⟩ := hr i r hi
    exact ⟨l, h1, listOf_at h2 own⟩
section
variable {A B : List (List Int)}
end
structure A47 where
  A : List (List Int)
  B : List (List Int)
  x : AV
  z : AV
def Ok47 (a : A47) (h : Heap) : Prop := LT h a.x a.A ∧ LT h a.z a.B ∧ a.A.length ≤ 1000000 ∧ a.B.length ≤ 1000000 ∧ ∀ l ∈ a.A, l.length ≤ 1000000
def Pre47 (a : A47) (args : List AV) (h : Heap) : Prop := Ok47 a h ∧ args = [a.x, a.z]
def Post47 (a : A47) (h : Heap) (v : AV) (own : List AObj) : Prop := v = .bool (decide (a.A = a.B)) ∧ own = []
noncomputable def T20 : CallF := addK tbl T19 47 Pre47 Post47
theorem t20 : Sound Go.Proofs.Try.prog T20 := Sound.addK follows ok t19 (by decide) _ _
end Go.Proofs.Ytjeemgaoonapgaa.Ev
set_option linter.unusedVariables false
set_option linter.unusedSimpArgs false
namespace Go.Proofs.Ytjeemgaoonapgaa.Ev
open Go Go.AEv
theorem pigeon : ∀ (n : Nat) (f : Nat → Nat), (∀ i, i ≤ n → f i < n) → ∃ i j, i < j ∧ j ≤ n ∧ f i = f j
  | 0, f, h => absurd (h 0 (Nat.le_refl _)) (by omega)
  | n + 1, f, h => by
    by_cases c : ∃ i, i ≤ n ∧ f i = f (n + 1)
    · obtain ⟨i, a, b⟩ := c
      exact ⟨i, n + 1, by omega, Nat.le_refl _, b⟩
    · have c' : ∀ i, i ≤ n → f i ≠ f (n + 1) := fun i a b => c ⟨i, a, b⟩
      obtain ⟨i, j, a1, a2, a3⟩ := pigeon n (fun i => if f i = n then f (n + 1) else f i) (fun i hi => by
        have h1 := h i (by omega)
        have h2 := h (n + 1) (Nat.le_refl _)
        have h3 := c' i hi
        by_cases e : f i = n
        · simp only [e, if_true]; omega
        · simp only [e, if_false]; omega)
      refine ⟨i, j, a1, by omega, ?_⟩
      have h3 := c' i (by omega)
      have h4 := c' j (by omega)
      by_cases e1 : f i = n
      · by_cases e2 : f j = n
        · omega
        · simp only [e1, e2, if_true, if_false] at a3; omega
      · by_cases e2 : f j = n
        · simp only [e1, e2, if_true, if_false] at a3; omega
        · simp only [e1, e2, if_false] at a3; exact a3
section
variable {M : List (List Int)}
theorem Wk.path : ∀ {k i j : Nat}, Wk M k i j → ∃ f : Nat → Nat, f 0 = i ∧ f k = j ∧ ∀ t, t < k → 0 < ent M (f t) (f (t + 1))
  | 0, i, j, h => ⟨fun _ => i, rfl, h, fun t ht => absurd ht (by omega)⟩
  | k + 1, i, j, ⟨v, e, w⟩ => by
    obtain ⟨f, f0, fk, fe⟩ := Wk.path w
    refine ⟨fun t => match t with | 0 => i | t + 1 => f t, rfl, fk, fun t ht => ?_⟩
    cases t with
    | zero => show 0 < ent M i (f 0); rw [f0]; exact e
    | succ t => exact fe t (by omega)
theorem path_wk {f : Nat → Nat} {k : Nat} (fe : ∀ t, t < k → 0 < ent M (f t) (f (t + 1))) : ∀ (d s : Nat), s + d ≤ k → Wk M d (f s) (f (s + d))
  | 0, s, _ => rfl
  | d + 1, s, h => by
    refine ⟨f (s + 1), fe s (by omega), ?_⟩
    have := path_wk fe d (s + 1) (by omega)
    rwa [show s + 1 + d = s + (d + 1) by omega] at this
theorem Wk.short (hm : isMat M = true) {i j : Nat} (hi : i < M.length) : ∀ {k : Nat}, Wk M k i j → ∃ k', k' < M.length ∧ k' ≤ k ∧ Wk M k' i j := by
  intro k
  induction k using Nat.strongRecOn with
  | _ k ih =>
    intro w
    by_cases c : k < M.length
    · exact ⟨k, c, Nat.le_refl _, w⟩
    · obtain ⟨f, f0, fk, fe⟩ := w.path
      have fb : ∀ t, t ≤ M.length → f t < M.length := fun t ht => by
        cases t with
        | zero => rw [f0]; exact hi
        | succ t => exact (ent_lt hm (fe t (by omega))).2
      obtain ⟨a, b, hab, hb, e⟩ := pigeon M.length f fb
      have w1 := path_wk fe a 0 (by omega)
      have w2 := path_wk fe (k - b) b (by omega)
      rw [Nat.zero_add, f0, e] at w1
      rw [show b + (k - b) = k by omega, fk] at w2
      obtain ⟨k', h1, h2, h3⟩ := ih (a + (k - b)) (by omega) (w1.add w2)
      exact ⟨k', h1, by omega, h3⟩
theorem Rc.short (hm : isMat M = true) {i j : Nat} (hi : i < M.length) (h : Rc M i j) : ∃ k, k < M.length ∧ Wk M k i j := by
  obtain ⟨k, w⟩ := h
  obtain ⟨k', a, _, b⟩ := w.short hm hi
  exact ⟨k', a, b⟩
end
end Go.Proofs.Ytjeemgaoonapgaa.Ev
set_option linter.unusedVariables false
set_option linter.unusedSimpArgs false
namespace Go.Proofs.Ytjeemgaoonapgaa.Ev
open Go Go.AEv
attribute [local simp] evFunc initS evOps_c evTrim_c evSkip_c evExit_c evRet_c evSeq_c evCond_c evBlock_c evDraw_c runOps_n runOps_c exec_n exec_g pure1_c act AOpd.ev T.get T.set T.put evBin evUn forceT_eq forceV_eq forceL_eq evRess evRes one keep runFP_n runFP_c app_none AV.flats AV.flat came_some List.getElem?_cons_zero List.getElem?_cons_succ beqT wrapI idxI tdivI tmodI decT decF ibT ibF inT inF evScope_c if_pos if_neg Cm_some thenW_n thenW_e thenW_r blkW_n blkW_e blkW_r goI kn putAt AV.cells fillA loadA takeA mk Eff.isAll Eff.isNone Eff.commutes Eff.spares okPair apart eqAgg fits LK.fits allEq aveq eqk mmA
section
variable {M : List (List Int)}
def Wl (M : List (List Int)) (t i x : Nat) : Prop := ∃ k, k ≤ t ∧ Wk M k i x
structure LI (M : List (List Int)) (i t x y : Nat) (r : Nat → Bool) : Prop where
  s : ∀ z, z < M.length → r z = true → Rc M i z
  c : ∀ z, Wl M t i z → z < M.length → r z = true
  cx : ∀ x', x' < x → Wl M t i x' → ∀ z, 0 < ent M x' z → r z = true
  cy : ∀ z, z < y → Wl M t i x → 0 < ent M x z → r z = true
theorem LI.step {i t x y : Nat} {r : Nat → Bool} (hx : x < M.length) (l : LI M i t x y r) : LI M i t x (y + 1) (fun z => if z = y then (r y || (r x && decide (0 < ent M x y))) else r z) := by
  have up : ∀ z, r z = true → (if z = y then (r y || (r x && decide (0 < ent M x y))) else r z) = true := fun z h => by
    by_cases e : z = y
    · rw [if_pos e, ← e, h, Bool.true_or]
    · rw [if_neg e]; exact h
  refine ⟨fun z hz h => ?_, fun z w hz => up z (l.c z w hz), fun x' a w z e => up z (l.cx x' a w z e), fun z hz w e => ?_⟩
  · by_cases e : z = y
    · rw [if_pos e] at h
      subst e
      rw [Bool.or_eq_true, Bool.and_eq_true, decide_eq_true_eq] at h
      rcases h with h | ⟨h1, h2⟩
      · exact l.s z hz h
      · exact (l.s x hx h1).trans (Rc.one h2)
    · rw [if_neg e] at h; exact l.s z hz h
  · by_cases e' : z = y
    · rw [if_pos e', Bool.or_eq_true]
      subst e'
      exact .inr (by rw [l.c x w hx, decide_eq_true e]; rfl)
    · exact up z (l.cy z (by omega) w e)
theorem LI.nextx (hm : isMat M = true) {i t x : Nat} {r : Nat → Bool} (l : LI M i t x M.length r) : LI M i t (x + 1) 0 r :=
  ⟨l.s, l.c, fun x' a w z e => by
    by_cases h : x' = x
    · subst h; exact l.cy z (ent_lt hm e).2 w e
    · exact l.cx x' (by omega) w z e, fun z hz => absurd hz (by omega)⟩
theorem LI.done (hm : isMat M = true) {i : Nat} (hi : i < M.length) {r : Nat → Bool} (l : LI M i M.length 0 0 r) {z : Nat} (hz : z < M.length) : r z = ldF M (i * 8 + z) := by
  apply Bool.eq_iff_iff.2
  rw [ldF_iff hm hi hz]
  constructor
  · exact l.s z hz
  · intro h
    obtain ⟨k, a, w⟩ := h.short hm hi
    exact l.c z ⟨k, by omega, w⟩ hz
theorem LI.init {i : Nat} (hi : i < M.length) : LI M i 0 0 0 (fun z => decide (z = i)) :=
  ⟨fun z hz h => by
    have : z = i := by simpa using h
    subst this; exact Rc.refl z, fun z ⟨k, hk, w⟩ hz => by
    obtain rfl : k = 0 := by omega
    have : i = z := w
    simp [this], fun x' a => absurd a (by omega), fun z hz => absurd hz (by omega)⟩
def ldR (M : List (List Int)) (i : Nat) : List (List AV) := (List.range i).map fun i => bls (fun z => ldF M (i * 8 + z)) M.length
end
def Post69 (a : AM) (h : Heap) (v : AV) (own : List AObj) : Prop := TB h (h.plus own) v (ldR a.M a.M.length)
noncomputable def T21 : CallF := addK tbl T20 69 PreO Post69
theorem t21 : Sound Go.Proofs.Try.prog T21 := Sound.addK follows ok t20 (by decide) _ _
end Go.Proofs.Ytjeemgaoonapgaa.Ev
set_option linter.unusedVariables false
set_option linter.unusedSimpArgs false
namespace Go.Proofs.Ytjeemgaoonapgaa.Ev
open Go Go.AEv
attribute [local simp] evFunc initS evOps_c evTrim_c evSkip_c evExit_c evRet_c evSeq_c evCond_c evBlock_c evDraw_c runOps_n runOps_c exec_n exec_g pure1_c act AOpd.ev T.get T.set T.put evBin evUn forceT_eq forceV_eq forceL_eq evRess evRes one keep runFP_n runFP_c app_none AV.flats AV.flat came_some List.getElem?_cons_zero List.getElem?_cons_succ beqT wrapI idxI tdivI tmodI decT decF ibT ibF inT inF evScope_c if_pos if_neg Cm_some thenW_n thenW_e thenW_r blkW_n blkW_e blkW_r goI kn putAt AV.cells fillA loadA takeA mk Eff.isAll Eff.isNone Eff.commutes Eff.spares okPair apart eqAgg fits LK.fits allEq aveq eqk mmA
structure LD (H : Heap) (M : List (List Int)) (q : Nat) (rs : List AV) : Prop where
  g : H.get q = .cells 1 M.length rs
  r : ∀ i, i < M.length → ∃ b, rs[i]? = some (.slice b 0 M.length M.length) ∧ H.get b = .cells 1 M.length (bls (fun z => ldF M (i * 8 + z)) M.length)
section
variable {M : List (List Int)}
theorem LD.kp {H H' : Heap} {q : Nat} {rs : List AV} (t : LD H M q rs) (k : Kp (fun _ => False) H H') : LD H' M q rs :=
  ⟨k.at t.g (by simp) id, fun i hi => by obtain ⟨b, e1, e2⟩ := t.r i hi; exact ⟨b, e1, k.at e2 (by simp) id⟩⟩
theorem NG.base {H0 H1 H : Heap} {x : AV} {L : List Int} (k : Kp (fun _ => False) H0 H1) (t : NG H1 H x L) : NG H0 H x L := ⟨k.trans t.k, fun q hq => Nat.le_trans k.size (t.x0 q hq), t.l⟩
end
def Post50 (a : AM) (h : Heap) (v : AV) (own : List AObj) : Prop := NG h (h.plus own) v (clsL a.M)
noncomputable def T22 : CallF := addK tbl T21 50 PreO Post50
theorem t22 : Sound Go.Proofs.Try.prog T22 := Sound.addK follows ok t21 (by decide) _ _
def Post31 (a : AM) (h : Heap) (v : AV) (own : List AObj) : Prop := (isMat a.M = false → v = .tup [.nils, G 2] ∧ own = []) ∧ (isMat a.M = true → ∃ w, v = .tup [w, G 0] ∧ NG h (h.plus own) w (clsL a.M))
noncomputable def T23 : CallF := addK tbl T22 31 PreM Post31
theorem t23 : Sound Go.Proofs.Try.prog T23 := Sound.addK follows ok t22 (by decide) _ _
end Go.Proofs.Ytjeemgaoonapgaa.Ev
set_option linter.unusedVariables false
set_option linter.unusedSimpArgs false
namespace Go.Proofs.Ytjeemgaoonapgaa.Ev
open Go Go.AEv
def PerS (M : List (List Int)) (i p : Nat) : Prop := (∀ k, Wk M k i i → p ∣ k) ∧ ∀ g, (∀ k, Wk M k i i → g ∣ k) → g ∣ p
section
variable {M : List (List Int)}
theorem PerS.eq {i p q : Nat} (a : PerS M i p) (b : PerS M i q) : p = q := Nat.dvd_antisymm (b.2 p a.1) (a.2 q b.1)
theorem cyc_mu {i j g : Nat} (m : Mu M i j) (h : ∀ k, Wk M k i i → g ∣ k) : ∀ k, Wk M k j j → g ∣ k := fun k w => by
  obtain ⟨⟨a, wa⟩, ⟨b, wb⟩⟩ := m
  have h1 := h _ ((wa.add w).add wb)
  have h2 := h _ (wa.add wb)
  have e : k = (a + k + b) - (a + b) := by omega
  rw [e]
  exact Nat.dvd_sub h1 h2
theorem PerS.mu {i j p : Nat} (m : Mu M i j) (h : PerS M i p) : PerS M j p :=
  ⟨cyc_mu m h.1, fun g hg => h.2 g (cyc_mu m.symm hg)⟩
theorem mu_mid {i u v : Nat} (mv : Mu M i v) (hu : Rc M i u) (e : 0 < ent M u v) : Mu M i u := ⟨hu, (Rc.one e).trans mv.2⟩
theorem tele {i p : Nat} {f : Nat → Int} (h1 : ∀ u v, Mu M i u → Mu M i v → 0 < ent M u v → (p : Int) ∣ f u + 1 - f v) : ∀ {k v : Nat}, Mu M i v → Wk M k i v → (p : Int) ∣ f i + k - f v
  | 0, v, m, w => by
    have e : i = v := w
    subst e
    rw [show f i + ((0 : Nat) : Int) - f i = 0 by omega]
    exact Int.dvd_zero _
  | k + 1, v, m, w => by
    obtain ⟨u, w', e⟩ := Wk.snoc.1 w
    have mu := mu_mid m ⟨k, w'⟩ e
    have a := tele h1 mu w'
    have b := h1 u v mu m e
    have := Int.dvd_add a b
    rwa [show f i + (k : Int) - f u + (f u + 1 - f v) = f i + ((k + 1 : Nat) : Int) - f v by omega] at this
theorem edge_dvd {i g u v : Nat} {f : Nat → Int} (hf : ∀ z, Mu M i z → ∃ d : Nat, f z = d ∧ Wk M d i z) (hg : ∀ k, Wk M k i i → g ∣ k) (mu : Mu M i u) (mv : Mu M i v) (e : 0 < ent M u v) : (g : Int) ∣ f u + 1 - f v := by
  obtain ⟨a, ea, wa⟩ := hf u mu
  obtain ⟨b, eb, wb⟩ := hf v mv
  obtain ⟨l, wl⟩ := mv.2
  have h1 := hg _ ((wa.add (Wk.one e)).add wl)
  have h2 := hg _ (wb.add wl)
  have h1' : (g : Int) ∣ ((a + 1 + l : Nat) : Int) := Int.natCast_dvd_natCast.2 h1
  have h2' : (g : Int) ∣ ((b + l : Nat) : Int) := Int.natCast_dvd_natCast.2 h2
  have := Int.dvd_sub h1' h2'
  rw [ea, eb]
  rwa [show ((a + 1 + l : Nat) : Int) - ((b + l : Nat) : Int) = (a : Int) + 1 - b by omega] at this
theorem per_of {i p : Nat} {f : Nat → Int} (f0 : f i = 0) (hf : ∀ z, Mu M i z → ∃ d : Nat, f z = d ∧ Wk M d i z) (h1 : ∀ u v, Mu M i u → Mu M i v → 0 < ent M u v → (p : Int) ∣ f u + 1 - f v) (h2 : ∀ g, (∀ k, Wk M k i i → g ∣ k) → g ∣ p) : PerS M i p := by
  refine ⟨fun k w => ?_, h2⟩
  have := tele h1 (Mu.refl i) w
  rw [show f i + (k : Int) - f i = (k : Int) by omega] at this
  exact Int.natCast_dvd_natCast.1 this
open Classical in
noncomputable def perN (M : List (List Int)) (i : Nat) : Nat := if h : ∃ p, PerS M i p then Classical.choose h else 0
theorem perN_eq {i p : Nat} (h : PerS M i p) : perN M i = p := by
  have hx : ∃ p, PerS M i p := ⟨p, h⟩
  unfold perN
  rw [dif_pos hx]
  exact (Classical.choose_spec hx).eq h
def Fk (M : List (List Int)) (d i z : Nat) : Prop := Wk M d i z ∧ ∀ k, k < d → ¬ Wk M k i z
theorem Fk.eq {d e i z : Nat} (a : Fk M d i z) (b : Fk M e i z) : d = e := by
  rcases Nat.lt_trichotomy d e with h | h | h
  · exact absurd a.1 (b.2 d h)
  · exact h
  · exact absurd b.1 (a.2 e h)
theorem Wk.first {i z : Nat} : ∀ {k : Nat}, Wk M k i z → ∃ d, d ≤ k ∧ Fk M d i z := by
  intro k
  induction k using Nat.strongRecOn with
  | _ k ih =>
    intro w
    by_cases c : ∃ j, j < k ∧ Wk M j i z
    · obtain ⟨j, hj, wj⟩ := c
      obtain ⟨d, hd, f⟩ := ih j hj wj
      exact ⟨d, by omega, f⟩
    · exact ⟨k, Nat.le_refl _, w, fun j hj wj => c ⟨j, hj, wj⟩⟩
open Classical in
noncomputable def dsN (M : List (List Int)) (i z : Nat) : Int := if h : ∃ d, Fk M d i z then ((Classical.choose h : Nat) : Int) else -1
theorem dsN_eq {d i z : Nat} (h : Fk M d i z) : dsN M i z = d := by
  have hx : ∃ d, Fk M d i z := ⟨d, h⟩
  unfold dsN
  rw [dif_pos hx]
  exact congrArg Nat.cast ((Classical.choose_spec hx).eq h)
theorem dsN_no {i z : Nat} (h : ¬ Rc M i z) : dsN M i z = -1 := by
  unfold dsN
  rw [dif_neg]
  rintro ⟨d, f⟩
  exact h ⟨d, f.1⟩
structure DI (M : List (List Int)) (i k x y : Nat) (f : Nat → Int) : Prop where
  a : ∀ z, z < M.length → f z ≠ -1 → ∃ d : Nat, f z = d ∧ Fk M d i z ∧ d ≤ k + 1
  b : ∀ z d, z < M.length → d ≤ k → Fk M d i z → f z = d
  d : ∀ x', x' < x → f x' = k → ∀ z, 0 < ent M x' z → f z ≠ -1
  e : ∀ z, z < y → f x = k → 0 < ent M x z → f z ≠ -1
theorem DI.skip {i k x y : Nat} {f : Nat → Int} (l : DI M i k x y f) (h : f x = k → 0 < ent M x y → f y ≠ -1) : DI M i k x (y + 1) f :=
  ⟨l.a, l.b, l.d, fun z hz q e => by
    by_cases c : z = y
    · subst c; exact h q e
    · exact l.e z (by omega) q e⟩
theorem DI.set (hm : isMat M = true) {i k x y : Nat} {f : Nat → Int} (l : DI M i k x y f) (hx : x < M.length) (hy : y < M.length) (h1 : f x = k) (h2 : 0 < ent M x y) (h3 : f y = -1) : DI M i k x (y + 1) (fun z => if z = y then ((k + 1 : Nat) : Int) else f z) := by
  have keep : ∀ z, f z ≠ -1 → (if z = y then ((k + 1 : Nat) : Int) else f z) ≠ -1 := fun z h => by
    split
    · omega
    · exact h
  obtain ⟨d0, e0, w0, _⟩ := l.a x hx (by rw [h1]; omega)
  have hd0 : d0 = k := by omega
  subst hd0
  have fy : Fk M (d0 + 1) i y := ⟨Wk.snoc.2 ⟨x, w0.1, h2⟩, fun j hj wj => by
    obtain ⟨d, hd, f1⟩ := wj.first
    have := l.b y d hy (by omega) f1
    omega⟩
  refine ⟨fun z hz hne => ?_, fun z d hz hd q => ?_, fun x' hx' q z ez => ?_, fun z hz q ez => ?_⟩
  · by_cases c : z = y
    · subst c
      rw [if_pos rfl]
      exact ⟨d0 + 1, rfl, fy, Nat.le_refl _⟩
    · rw [if_neg c] at hne ⊢
      exact l.a z hz hne
  · by_cases c : z = y
    · subst c
      have := fy.eq q
      omega
    · rw [if_neg c]; exact l.b z d hz hd q
  · by_cases c : x' = y
    · rw [if_pos c] at q; omega
    · rw [if_neg c] at q
      exact keep z (l.d x' hx' q z ez)
  · by_cases c : x = y
    · rw [c] at h1; omega
    · rw [if_neg c] at q
      by_cases c2 : z = y
      · rw [if_pos c2]; omega
      · rw [if_neg c2]; exact l.e z (by omega) q ez
theorem DI.nextx (hm : isMat M = true) {i k x : Nat} {f : Nat → Int} (l : DI M i k x M.length f) : DI M i k (x + 1) 0 f :=
  ⟨l.a, l.b, fun x' hx' q z ez => by
    by_cases c : x' = x
    · subst c; exact l.e z (ent_lt hm ez).2 q ez
    · exact l.d x' (by omega) q z ez, fun z hz => absurd hz (by omega)⟩
theorem DI.done (hm : isMat M = true) {i : Nat} (hi : i < M.length) {f : Nat → Int} (l : DI M i M.length 0 0 f) {z : Nat} (hz : z < M.length) : f z = dsN M i z := by
  by_cases c : Rc M i z
  · obtain ⟨k, hk, w⟩ := c.short hm hi
    obtain ⟨d, hd, q⟩ := w.first
    rw [dsN_eq q]
    exact l.b z d hz (by omega) q
  · rw [dsN_no c]
    apply Decidable.byContradiction
    intro h
    obtain ⟨d, _, q, _⟩ := l.a z hz h
    exact c ⟨d, q.1⟩
theorem DI.init {i : Nat} : DI M i 0 0 0 (fun z => if z = i then 0 else -1) :=
  ⟨fun z hz q => by
    by_cases c : z = i
    · subst c
      exact ⟨0, if_pos rfl, ⟨rfl, fun k hk => absurd hk (by omega)⟩, by omega⟩
    · simp only [if_neg c] at q; exact absurd rfl q, fun z d hz hd q => by
    obtain rfl : d = 0 := by omega
    have : i = z := q.1
    simp [this], fun x' hx' => absurd hx' (by omega), fun z hz => absurd hz (by omega)⟩
end
end Go.Proofs.Ytjeemgaoonapgaa.Ev
set_option linter.unusedVariables false
set_option linter.unusedSimpArgs false
namespace Go.Proofs.Ytjeemgaoonapgaa.Ev
open Go Go.AEv
attribute [local simp] evFunc initS evOps_c evTrim_c evSkip_c evExit_c evRet_c evSeq_c evCond_c evBlock_c evDraw_c runOps_n runOps_c exec_n exec_g pure1_c act AOpd.ev T.get T.set T.put evBin evUn forceT_eq forceV_eq forceL_eq evRess evRes one keep runFP_n runFP_c app_none AV.flats AV.flat came_some List.getElem?_cons_zero List.getElem?_cons_succ beqT wrapI idxI tdivI tmodI decT decF ibT ibF inT inF evScope_c if_pos if_neg Cm_some thenW_n thenW_e thenW_r blkW_n blkW_e blkW_r goI kn putAt AV.cells fillA loadA takeA mk Eff.isAll Eff.isNone Eff.commutes Eff.spares okPair apart eqAgg fits LK.fits allEq aveq eqk mmA
section
variable {M : List (List Int)}
theorem upd_gs (f : Nat → Int) {n y : Nat} (hy : y < n) (z : Int) : (gs (lf f n)).set y (G z) = gs (lf (fun x => if x = y then z else f x) n) := gl_set f n y z hy
end
structure AI where
  M : List (List Int)
  y : AV
  i : Nat
def OkI (a : AI) (h : Heap) : Prop := MR h a.y a.M ∧ isMat a.M = true ∧ a.i < a.M.length
def PreI (a : AI) (args : List AV) (h : Heap) : Prop := OkI a h ∧ args = [a.y, G a.i]
def Post71 (a : AI) (h : Heap) (v : AV) (own : List AObj) : Prop := NG h (h.plus own) v (lf (dsN a.M a.i) a.M.length)
noncomputable def T24 : CallF := addK tbl T23 71 PreI Post71
theorem t24 : Sound Go.Proofs.Try.prog T24 := Sound.addK follows ok t23 (by decide) _ _
end Go.Proofs.Ytjeemgaoonapgaa.Ev
set_option linter.unusedVariables false
set_option linter.unusedSimpArgs false
namespace Go.Proofs.Ytjeemgaoonapgaa.Ev
open Go Go.AEv
attribute [local simp] evFunc initS evOps_c evTrim_c evSkip_c evExit_c evRet_c evSeq_c evCond_c evBlock_c evDraw_c runOps_n runOps_c exec_n exec_g pure1_c act AOpd.ev T.get T.set T.put evBin evUn forceT_eq forceV_eq forceL_eq evRess evRes one keep runFP_n runFP_c app_none AV.flats AV.flat came_some List.getElem?_cons_zero List.getElem?_cons_succ beqT wrapI idxI tdivI tmodI decT decF ibT ibF inT inF evScope_c if_pos if_neg Cm_some thenW_n thenW_e thenW_r blkW_n blkW_e blkW_r goI kn putAt AV.cells fillA loadA takeA mk Eff.isAll Eff.isNone Eff.commutes Eff.spares okPair apart eqAgg fits LK.fits allEq aveq eqk mmA
section
variable {M : List (List Int)}
structure PI (M : List (List Int)) (i0 : Nat) (f : Nat → Int) (x y p : Nat) : Prop where
  g : ∀ g, (∀ k, Wk M k i0 i0 → g ∣ k) → g ∣ p
  d : ∀ u v, (u < x ∨ (u = x ∧ v < y)) → Mu M i0 u → Mu M i0 v → 0 < ent M u v → (p : Int) ∣ f u + 1 - f v
  b : p ≤ 100
theorem PI.skip {i0 x y p : Nat} {f : Nat → Int} (l : PI M i0 f x y p) (h : ¬ (Mu M i0 x ∧ Mu M i0 y ∧ 0 < ent M x y)) : PI M i0 f x (y + 1) p :=
  ⟨l.g, fun u v c mu mv e => by
    by_cases cc : u = x ∧ v = y
    · rw [cc.1, cc.2] at e; rw [cc.1] at mu; rw [cc.2] at mv; exact absurd ⟨mu, mv, e⟩ h
    · exact l.d u v (by omega) mu mv e, l.b⟩
theorem PI.take {i0 x y p : Nat} {f : Nat → Int} (hf : ∀ z, Mu M i0 z → ∃ d : Nat, f z = d ∧ Wk M d i0 z) (l : PI M i0 f x y p) (mx : Mu M i0 x) (my : Mu M i0 y) (e : 0 < ent M x y) (hb : (f x + 1 - f y).natAbs ≤ 100) : PI M i0 f x (y + 1) (Nat.gcd p (f x + 1 - f y).natAbs) := by
  refine ⟨fun g hg => ?_, fun u v c mu mv ee => ?_, ?_⟩
  · refine Nat.dvd_gcd (l.g g hg) ?_
    have := edge_dvd hf hg mx my e
    exact Int.ofNat_dvd_left.1 this
  · by_cases cc : u = x ∧ v = y
    · rw [cc.1, cc.2]
      exact Int.ofNat_dvd_left.2 (Nat.gcd_dvd_right _ _)
    · have h1 := l.d u v (by omega) mu mv ee
      exact Int.dvd_trans (Int.natCast_dvd_natCast.2 (Nat.gcd_dvd_left _ _)) h1
  · by_cases c : p = 0
    · subst c; rw [Nat.gcd_zero_left]; exact hb
    · have := Nat.gcd_le_left (n := (f x + 1 - f y).natAbs) (Nat.pos_of_ne_zero c)
      have := l.b
      omega
theorem PI.nextx (hm : isMat M = true) {i0 x p : Nat} {f : Nat → Int} (l : PI M i0 f x M.length p) : PI M i0 f (x + 1) 0 p :=
  ⟨l.g, fun u v c mu mv e => l.d u v (by
    have := (ent_lt hm e).2
    omega) mu mv e, l.b⟩
theorem PI.init {i0 : Nat} {f : Nat → Int} : PI M i0 f 0 0 0 := ⟨fun g _ => ⟨0, rfl⟩, fun u v c => absurd c (by omega), by omega⟩
theorem PI.done (hm : isMat M = true) {i0 p : Nat} {f : Nat → Int} (f0 : f i0 = 0) (hf : ∀ z, Mu M i0 z → ∃ d : Nat, f z = d ∧ Wk M d i0 z) (l : PI M i0 f M.length 0 p) : PerS M i0 p :=
  per_of f0 hf (fun u v mu mv e => l.d u v (.inl (ent_lt hm e).1) mu mv e) l.g
noncomputable def pdL (M : List (List Int)) : List Int := lf (fun i => (perN M i : Int)) M.length
end
def Post51 (a : AM) (h : Heap) (v : AV) (own : List AObj) : Prop := NG h (h.plus own) v (pdL a.M)
noncomputable def T25 : CallF := addK tbl T24 51 PreO Post51
theorem t25 : Sound Go.Proofs.Try.prog T25 := Sound.addK follows ok t24 (by decide) _ _
end Go.Proofs.Ytjeemgaoonapgaa.Ev
set_option linter.unusedVariables false
set_option linter.unusedSimpArgs false
namespace Go.Proofs.Ytjeemgaoonapgaa.Ev
open Go Go.AEv
attribute [local simp] evFunc initS evOps_c evTrim_c evSkip_c evExit_c evRet_c evSeq_c evCond_c evBlock_c evDraw_c runOps_n runOps_c exec_n exec_g pure1_c act AOpd.ev T.get T.set T.put evBin evUn forceT_eq forceV_eq forceL_eq evRess evRes one keep runFP_n runFP_c app_none AV.flats AV.flat came_some List.getElem?_cons_zero List.getElem?_cons_succ beqT wrapI idxI tdivI tmodI decT decF ibT ibF inT inF evScope_c if_pos if_neg Cm_some thenW_n thenW_e thenW_r blkW_n blkW_e blkW_r goI kn putAt AV.cells fillA loadA takeA mk Eff.isAll Eff.isNone Eff.commutes Eff.spares okPair apart eqAgg fits LK.fits allEq aveq eqk mmA
theorem W.loop {tbl : Nat → Option CFunc} {I : CallF} {live : List Path} {c : CCode} {s : T} {h : Heap} {Q : PQ} (x : W tbl I (.trim live c) s h (thenW tbl I (.loop live c) Q)) : W tbl I (.loop live c) s h Q := by
  obtain ⟨e, s1, h1, ⟨n, r⟩, q⟩ := x
  cases e with
  | normal =>
    obtain ⟨e2, s2, h2, r2, q2⟩ := q
    exact ⟨e2, s2, h2, Runs.loop_next ⟨n, r⟩ r2, q2⟩
  | exit i => exact ⟨_, s1, h1, Runs.loop_out ⟨n, r⟩ (by simp), q⟩
  | ret => exact ⟨_, s1, h1, Runs.loop_out ⟨n, r⟩ (by simp), q⟩
def cu (f : Nat → Int) : Nat → Nat
  | 0 => 0
  | m + 1 => cu f m + (if f m = -1 then 1 else 0)
theorem cu_congr {f g : Nat → Int} : ∀ {m}, (∀ z, z < m → f z = g z) → cu f m = cu g m
  | 0, _ => rfl
  | m + 1, h => by
    show cu f m + _ = cu g m + _
    rw [cu_congr (fun z hz => h z (by omega)), h m (by omega)]
theorem cu_upd {f : Nat → Int} {y : Nat} {w : Int} (hf : f y = -1) (hw : w ≠ -1) : ∀ {m}, y < m → cu (fun z => if z = y then w else f z) m + 1 = cu f m
  | 0, h => by omega
  | m + 1, h => by
    show cu _ m + (if (if m = y then w else f m) = -1 then 1 else 0) + 1 = cu f m + (if f m = -1 then 1 else 0)
    by_cases e : y = m
    · subst e
      rw [if_pos rfl, if_neg hw, if_pos hf, cu_congr (g := f) (fun z hz => if_neg (by omega))]
    · rw [if_neg (show ¬ m = y from fun e' => e e'.symm)]
      have := cu_upd hf hw (m := m) (by omega)
      omega
section
variable {M : List (List Int)}
structure BI (M : List (List Int)) (i : Nat) (f : Nat → Int) (Q : List Nat) (k v p : Nat) : Prop where
  f0 : f i = 0
  a : ∀ z, z < M.length → f z ≠ -1 → Mu M i z ∧ (∃ d : Nat, f z = d ∧ Wk M d i z) ∧ z ∈ Q
  q : ∀ (j z : Nat), Q[j]? = some z → z < M.length ∧ f z ≠ -1 ∧ f z ≤ j
  cn : Q.length + cu f M.length = M.length
  g : ∀ g, (∀ k, Wk M k i i → g ∣ k) → g ∣ p
  d : ∀ (j u : Nat), j < k → Q[j]? = some u → ∀ z, Mu M i z → 0 < ent M u z → f z ≠ -1 ∧ (p : Int) ∣ f u + 1 - f z
  e : ∀ u, Q[k]? = some u → ∀ z, z < v → Mu M i z → 0 < ent M u z → f z ≠ -1 ∧ (p : Int) ∣ f u + 1 - f z
  b : p ≤ 100
theorem BI.skip {i k v p u : Nat} {f : Nat → Int} {Q : List Nat} (l : BI M i f Q k v p) (hu : Q[k]? = some u) (h : ¬ (Mu M i v ∧ 0 < ent M u v)) : BI M i f Q k (v + 1) p :=
  ⟨l.f0, l.a, l.q, l.cn, l.g, l.d, fun u' hu' z hz m ez => by
    by_cases c : z = v
    · subst c
      rw [hu] at hu'
      cases hu'
      exact absurd ⟨m, ez⟩ h
    · exact l.e u' hu' z (by omega) m ez, l.b⟩
theorem BI.old (h8 : M.length ≤ 8) {i k v p u : Nat} {f : Nat → Int} {Q : List Nat} (l : BI M i f Q k v p) (hu : Q[k]? = some u) (m : Mu M i v) (e : 0 < ent M u v) (hv : v < M.length) (hf : f v ≠ -1) : BI M i f Q k (v + 1) (Nat.gcd (f u + 1 - f v).natAbs p) := by
  obtain ⟨hu1, hu2, hu3⟩ := l.q k u hu
  obtain ⟨mu, ⟨du, eu, wu⟩, _⟩ := l.a u hu1 hu2
  obtain ⟨_, ⟨dv, ev, wv⟩, hq⟩ := l.a v hv hf
  have dv2 : ∀ x, (p : Int) ∣ x → ((Nat.gcd (f u + 1 - f v).natAbs p : Nat) : Int) ∣ x := fun x hx => Int.dvd_trans (Int.natCast_dvd_natCast.2 (Nat.gcd_dvd_right _ _)) hx
  refine ⟨l.f0, l.a, l.q, l.cn, fun g hg => Nat.dvd_gcd ?_ (l.g g hg), fun j u' hj hu' z mz ez => ⟨(l.d j u' hj hu' z mz ez).1, dv2 _ (l.d j u' hj hu' z mz ez).2⟩, fun u' hu' z hz mz ez => ?_, ?_⟩
  · obtain ⟨lb, wl⟩ := m.2
    have h1 := hg _ ((wu.add (Wk.one e)).add wl)
    have h2 := hg _ (wv.add wl)
    have h1' : (g : Int) ∣ ((du + 1 + lb : Nat) : Int) := Int.natCast_dvd_natCast.2 h1
    have h2' : (g : Int) ∣ ((dv + lb : Nat) : Int) := Int.natCast_dvd_natCast.2 h2
    have := Int.dvd_sub h1' h2'
    rw [show ((du + 1 + lb : Nat) : Int) - ((dv + lb : Nat) : Int) = f u + 1 - f v by omega] at this
    exact Int.ofNat_dvd_left.1 this
  · by_cases c : z = v
    · subst c
      rw [hu] at hu'
      cases hu'
      exact ⟨hf, Int.ofNat_dvd_left.2 (Nat.gcd_dvd_left _ _)⟩
    · have := l.e u' hu' z (by omega) mz ez
      exact ⟨this.1, dv2 _ this.2⟩
  · have hb := l.b
    by_cases c : p = 0
    · subst c
      rw [Nat.gcd_zero_right]
      obtain ⟨j, hj⟩ := List.mem_iff_getElem?.1 hq
      have h1 := (l.q j v hj).2.2
      have h2 := (List.getElem?_eq_some_iff.1 hj).1
      have h3 := (List.getElem?_eq_some_iff.1 hu).1
      have := l.cn
      omega
    · have := Nat.gcd_le_right (m := (f u + 1 - f v).natAbs) (Nat.pos_of_ne_zero c)
      omega
theorem BI.new {i k v p u : Nat} {f : Nat → Int} {Q : List Nat} (l : BI M i f Q k v p) (hu : Q[k]? = some u) (m : Mu M i v) (e : 0 < ent M u v) (hv : v < M.length) (hf : f v = -1) : BI M i (fun z => if z = v then f u + 1 else f z) (Q ++ [v]) k (v + 1) p := by
  obtain ⟨hu1, hu2, hu3⟩ := l.q k u hu
  obtain ⟨mu, ⟨du, eu, wu⟩, _⟩ := l.a u hu1 hu2
  have huv : u ≠ v := fun e => by rw [e, hf] at hu2; exact hu2 rfl
  have hkQ := (List.getElem?_eq_some_iff.1 hu).1
  have old : ∀ z, f z ≠ -1 → (if z = v then f u + 1 else f z) = f z := fun z hz => if_neg (fun e => by rw [e] at hz; exact hz hf)
  have inQ : ∀ (j z : Nat), j < Q.length → (Q ++ [v])[j]? = some z → Q[j]? = some z := fun j z hj h => by rwa [List.getElem?_append_left hj] at h
  refine ⟨?_, fun z hz hne => ?_, fun j z hj => ?_, ?_, l.g, fun j u' hj hu' z mz ez => ?_, fun u' hu' z hz mz ez => ?_, l.b⟩
  · show (if i = v then f u + 1 else f i) = 0
    rw [old i (by rw [l.f0]; omega), l.f0]
  · by_cases c : z = v
    · subst c
      exact ⟨m, ⟨du + 1, by rw [if_pos rfl]; omega, wu.add (Wk.one e)⟩, by simp⟩
    · simp only [if_neg c] at hne ⊢
      obtain ⟨a1, a2, a3⟩ := l.a z hz hne
      exact ⟨a1, a2, by simp [a3]⟩
  · by_cases c : j < Q.length
    · obtain ⟨a1, a2, a3⟩ := l.q j z (inQ j z c hj)
      show z < M.length ∧ (if z = v then f u + 1 else f z) ≠ -1 ∧ (if z = v then f u + 1 else f z) ≤ j
      rw [old z a2]
      exact ⟨a1, a2, a3⟩
    · rw [List.getElem?_append_right (by omega)] at hj
      have hj0 : j - Q.length = 0 := by
        have := (List.getElem?_eq_some_iff.1 hj).1
        simpa using this
      rw [hj0] at hj
      simp only [List.getElem?_cons_zero, Option.some.injEq] at hj
      subst hj
      show v < M.length ∧ (if v = v then f u + 1 else f v) ≠ -1 ∧ (if v = v then f u + 1 else f v) ≤ j
      rw [if_pos rfl]
      exact ⟨hv, by omega, by omega⟩
  · have := cu_upd (w := f u + 1) hf (by omega) hv
    have := l.cn
    rw [List.length_append, List.length_singleton]
    omega
  · have hjQ : j < Q.length := by omega
    have h := l.d j u' hj (inQ j u' hjQ hu') z mz ez
    obtain ⟨_, hu2', _⟩ := l.q j u' (inQ j u' hjQ hu')
    show (if z = v then f u + 1 else f z) ≠ -1 ∧ (p : Int) ∣ (if u' = v then f u + 1 else f u') + 1 - (if z = v then f u + 1 else f z)
    rw [old z h.1, old u' hu2']
    exact h
  · have hu'' := inQ k u' hkQ hu'
    rw [hu] at hu''
    cases hu''
    show (if z = v then f u + 1 else f z) ≠ -1 ∧ (p : Int) ∣ (if u = v then f u + 1 else f u) + 1 - (if z = v then f u + 1 else f z)
    rw [old u hu2]
    by_cases c : z = v
    · rw [if_pos c]
      exact ⟨by omega, by rw [Int.sub_self]; exact Int.dvd_zero _⟩
    · rw [if_neg c]
      exact l.e u hu z (by omega) mz ez
theorem BI.done (hm : isMat M = true) {i p : Nat} {f : Nat → Int} {Q : List Nat} (hi : i < M.length) (l : BI M i f Q Q.length 0 p) : (∀ z, z < M.length → Mu M i z → ∃ d : Nat, f z = d ∧ Wk M d i z) ∧ (∀ z, z < M.length → ¬ Mu M i z → f z = -1) ∧ perN M i = p := by
  have all : ∀ {k z}, Wk M k i z → Mu M i z → f z ≠ -1 := fun {k} => by
    induction k with
    | zero =>
      intro z w _
      have : i = z := w
      subst this
      rw [l.f0]; omega
    | succ k ih =>
      intro z w m
      obtain ⟨u, w', e⟩ := Wk.snoc.1 w
      have mu := mu_mid m ⟨k, w'⟩ e
      have hu := (ent_lt hm e).1
      obtain ⟨_, _, hq⟩ := l.a u hu (ih w' mu)
      obtain ⟨j, hj⟩ := List.mem_iff_getElem?.1 hq
      exact (l.d j u (List.getElem?_eq_some_iff.1 hj).1 hj z m e).1
  have h1 : ∀ z, Mu M i z → ∃ d : Nat, f z = d ∧ Wk M d i z := fun z m => by
    obtain ⟨k, w⟩ := m.1
    exact (l.a z (w.lt' hm hi) (all w m)).2.1
  refine ⟨fun z _ m => h1 z m, fun z hz m => ?_, ?_⟩
  · apply Decidable.byContradiction
    intro c
    exact m (l.a z hz c).1
  · refine perN_eq (per_of l.f0 h1 (fun u v mu mv e => ?_) l.g)
    obtain ⟨k, w⟩ := mu.1
    obtain ⟨_, _, hq⟩ := l.a u (w.lt' hm hi) (all w mu)
    obtain ⟨j, hj⟩ := List.mem_iff_getElem?.1 hq
    exact (l.d j u (List.getElem?_eq_some_iff.1 hj).1 hj v mv e).2
end
end Go.Proofs.Ytjeemgaoonapgaa.Ev
set_option linter.unusedVariables false
set_option linter.unusedSimpArgs false
namespace Go.Proofs.Ytjeemgaoonapgaa.Ev
open Go Go.AEv
attribute [local simp] evFunc initS evOps_c evTrim_c evSkip_c evExit_c evRet_c evSeq_c evCond_c evBlock_c evDraw_c runOps_n runOps_c exec_n exec_g pure1_c act AOpd.ev T.get T.set T.put evBin evUn forceT_eq forceV_eq forceL_eq evRess evRes one keep runFP_n runFP_c app_none AV.flats AV.flat came_some List.getElem?_cons_zero List.getElem?_cons_succ beqT wrapI idxI tdivI tmodI decT decF ibT ibF inT inF evScope_c if_pos if_neg Cm_some thenW_n thenW_e thenW_r blkW_n blkW_e blkW_r goI kn putAt AV.cells fillA loadA takeA mk Eff.isAll Eff.isNone Eff.commutes Eff.spares okPair apart eqAgg fits LK.fits allEq aveq eqk mmA
def qs (Q : List Nat) : List AV := Q.map fun (z : Nat) => G (z : Int)
theorem qs_len (Q : List Nat) : (qs Q).length = Q.length := by simp [qs]
structure BS (h0 H : Heap) (M : List (List Int)) (qc qo : Nat) (f : Nat → Int) (xq : AV) (Q : List Nat) : Prop where
  kf : Kp (fun _ => False) (frameOf h0) H
  gm : H.get h0.size = .cells 0 65 (matC M)
  gc : H.get qc = .cells 1 M.length (gs (clsL M))
  c1 : h0.size < qc
  go : H.get qo = .cells 1 M.length (gs (lf f M.length))
  o1 : h0.size < qo
  o2 : qo ≠ qc
  lq : ∃ bq, xq = .slice bq 0 Q.length Q.length ∧ H.get bq = .cells 1 Q.length (qs Q) ∧ h0.size < bq ∧ bq ≠ qo ∧ bq ≠ qc
section
variable {M : List (List Int)}
theorem fr_size (h : Heap) : (frameOf h).size = h.size := by simp [frameOf, Heap.size]
theorem BS.set {h0 H : Heap} {qc qo : Nat} {f : Nat → Int} {xq : AV} {Q : List Nat} (b : BS h0 H M qc qo f xq Q) {v : Nat} (hv : v < M.length) (z : Int) : ∃ H', Eff.app (.put qo M.length v [G z]) H = some H' ∧ BS h0 H' M qc qo (fun x => if x = v then z else f x) xq Q := by
  have hN : H.N = h0.size := b.kf.N
  have o1 := b.o1
  have p := put_gen H qo M.length v 1 (gs (lf f M.length)) [G z] (by omega) b.go (by rw [gl_len]; show v + 1 ≤ M.length; omega)
  rw [show putAt (gs (lf f M.length)) v [G z] = gs (lf (fun x => if x = v then z else f x) M.length) from gl_set f M.length v z hv] at p
  have hlt := get_lt b.go (by simp)
  refine ⟨_, p, b.kf.updn _ _ (by omega) (by rw [fr_size]; omega), ?_, ?_, b.c1, upd_same _ _ _ (by omega) hlt, b.o1, b.o2, ?_⟩
  · rw [upd_ne _ _ _ _ (by omega) (by omega)]; exact b.gm
  · rw [upd_ne _ _ _ _ (by omega) b.o2]; exact b.gc
  · obtain ⟨bq, e1, e2, e3, e4, e5⟩ := b.lq
    exact ⟨bq, e1, by rw [upd_ne _ _ _ _ (by omega) (fun e => e4 e.symm)]; exact e2, e3, e4, e5⟩
theorem BS.push {h0 H : Heap} (k0 : Nat) {qc qo : Nat} {f : Nat → Int} {xq : AV} {Q : List Nat} (b : BS h0 H M qc qo f xq Q) (v : Nat) (hn : Q.length ≤ 1000) :
    ∃ x1 e H', appA (H.plus [.cells 1 1 [G v]]) k0 none 1 8 1 [G v] xq = some (x1, e) ∧ Eff.app e (H.plus [.cells 1 1 [G v]]) = some H' ∧ BS h0 H' M qc qo f x1 (Q ++ [v]) := by
  have hN : H.N = h0.size := b.kf.N
  have o1 := b.o1
  have c1 := b.c1
  obtain ⟨bq, rfl, e2, e3, e4, e5⟩ := b.lq
  have hlt := get_lt e2 (by simp)
  have g2 := plus_keep [.cells 1 1 [G v]] e2 (by simp)
  have hN' : (H.plus [.cells 1 1 [G (v : Int)]]).N ≤ bq := by rw [plus_N]; omega
  have x := ext_gen (H.plus [.cells 1 1 [G v]]) bq Q.length 1 (qs Q) [G v] hN' g2 (qs_len Q)
  refine ⟨.slice bq 0 (Q.length + 1) (Q.length + 1), .ext bq Q.length 1 [G v], _, ?_, x, (b.kf.trans (Kp.plus _ _)).updn _ _ hN' (by rw [fr_size]; omega), ?_, ?_, c1, ?_, o1, b.o2, bq, by simp, ?_, e3, e4, e5⟩
  · simp only [appA, Nat.mul_one, Nat.one_mul]
    rw [if_neg (by decide), if_pos ⟨trivial, by simp, by omega⟩]
  · rw [upd_ne _ _ _ _ hN' (by omega)]; exact plus_keep _ b.gm (by simp)
  · rw [upd_ne _ _ _ _ hN' e5]; exact plus_keep _ b.gc (by simp)
  · rw [upd_ne _ _ _ _ hN' e4]; exact plus_keep _ b.go (by simp)
  · rw [upd_same _ _ _ hN' (by rw [plus_size]; omega)]
    simp [qs]
end
end Go.Proofs.Ytjeemgaoonapgaa.Ev
set_option linter.unusedVariables false
set_option linter.unusedSimpArgs false
namespace Go.Proofs.Ytjeemgaoonapgaa.Ev
open Go Go.AEv
attribute [local simp] evFunc initS evOps_c evTrim_c evSkip_c evExit_c evRet_c evSeq_c evCond_c evBlock_c evDraw_c runOps_n runOps_c exec_n exec_g pure1_c act AOpd.ev T.get T.set T.put evBin evUn forceT_eq forceV_eq forceL_eq evRess evRes one keep runFP_n runFP_c app_none AV.flats AV.flat came_some List.getElem?_cons_zero List.getElem?_cons_succ beqT wrapI idxI tdivI tmodI decT decF ibT ibF inT inF evScope_c if_pos if_neg Cm_some thenW_n thenW_e thenW_r blkW_n blkW_e blkW_r goI kn putAt AV.cells fillA loadA takeA mk Eff.isAll Eff.isNone Eff.commutes Eff.spares okPair apart eqAgg fits LK.fits allEq aveq eqk mmA
section
variable {M : List (List Int)}
theorem cu_init {i : Nat} : ∀ {m}, i < m → cu (fun z => if z = i then 0 else -1) m + 1 = m
  | 0, h => by omega
  | m + 1, h => by
    show cu _ m + (if (if m = i then (0 : Int) else -1) = -1 then 1 else 0) + 1 = m + 1
    by_cases e : i = m
    · subst e
      rw [if_pos rfl, if_neg (by omega)]
      have : ∀ k, k ≤ i → cu (fun z => if z = i then (0 : Int) else -1) k = k := fun k => by
        induction k with
        | zero => intro _; rfl
        | succ k ih =>
          intro hk
          show cu _ k + (if (if k = i then (0 : Int) else -1) = -1 then 1 else 0) = k + 1
          rw [if_neg (show ¬ k = i by omega), if_pos rfl, ih (by omega)]
      rw [this i (Nat.le_refl _)]
    · rw [if_neg (show ¬ m = i from fun e' => e e'.symm), if_pos rfl]
      have := cu_init (i := i) (m := m) (by omega)
      omega
theorem BI.init {i : Nat} (hi : i < M.length) : BI M i (fun z => if z = i then 0 else -1) [i] 0 0 0 := by
  refine ⟨if_pos rfl, fun z hz hne => ?_, fun j z hj => ?_, ?_, fun g _ => ⟨0, rfl⟩, fun j u hj => absurd hj (by omega), fun u hu z hz => absurd hz (by omega), by omega⟩
  · by_cases c : z = i
    · subst c
      exact ⟨Mu.refl z, ⟨0, if_pos rfl, rfl⟩, by simp⟩
    · simp only [if_neg c] at hne; exact absurd rfl hne
  · have hj0 : j = 0 := by
      have := (List.getElem?_eq_some_iff.1 hj).1
      simpa using this
    subst hj0
    simp only [List.getElem?_cons_zero, Option.some.injEq] at hj
    subst hj
    exact ⟨hi, by simp, by simp⟩
  · have := cu_init hi
    rw [List.length_singleton]; omega
def DSp (M : List (List Int)) (i : Nat) (f : Nat → Int) : Prop := (∀ z, z < M.length → Mu M i z → ∃ d : Nat, f z = d ∧ Wk M d i z) ∧ (∀ z, z < M.length → ¬ Mu M i z → f z = -1)
end
end Go.Proofs.Ytjeemgaoonapgaa.Ev
set_option linter.unusedVariables false
set_option linter.unusedSimpArgs false
namespace Go.Proofs.Ytjeemgaoonapgaa.Ev
open Go Go.AEv
attribute [local simp] evFunc initS evOps_c evTrim_c evSkip_c evExit_c evRet_c evSeq_c evCond_c evBlock_c evDraw_c runOps_n runOps_c exec_n exec_g pure1_c act AOpd.ev T.get T.set T.put evBin evUn forceT_eq forceV_eq forceL_eq evRess evRes one keep runFP_n runFP_c app_none AV.flats AV.flat came_some List.getElem?_cons_zero List.getElem?_cons_succ beqT wrapI idxI tdivI tmodI decT decF ibT ibF inT inF evScope_c if_pos if_neg Cm_some thenW_n thenW_e thenW_r blkW_n blkW_e blkW_r goI kn putAt AV.cells fillA loadA takeA mk Eff.isAll Eff.isNone Eff.commutes Eff.spares okPair apart eqAgg fits LK.fits allEq aveq eqk mmA
structure AD where
  M : List (List Int)
  i : Nat
def OkD (a : AD) : Prop := isMat a.M = true ∧ a.i < a.M.length
def PreD (a : AD) (args : List AV) (_ : Heap) : Prop := OkD a ∧ args = [.agg (matC a.M), G a.i]
def Post63 (a : AD) (h : Heap) (v : AV) (own : List AObj) : Prop := ∃ w f, v = .tup [w, G (perN a.M a.i)] ∧ DSp a.M a.i f ∧ perN a.M a.i ≤ 100 ∧ NG h (h.plus own) w (lf f a.M.length)
noncomputable def T26 : CallF := addK tbl T25 63 PreD Post63
theorem t26 : Sound Go.Proofs.Try.prog T26 := Sound.addK follows ok t25 (by decide) _ _
section
variable {M : List (List Int)}
end
def Post32 (a : AM) (h : Heap) (v : AV) (own : List AObj) : Prop := (isMat a.M = false → v = .tup [.nils, G 2] ∧ own = []) ∧ (isMat a.M = true → ∃ w, v = .tup [w, G 0] ∧ NG h (h.plus own) w (pdL a.M))
noncomputable def T27 : CallF := addK tbl T26 32 PreM Post32
theorem t27 : Sound Go.Proofs.Try.prog T27 := Sound.addK follows ok t26 (by decide) _ _
end Go.Proofs.Ytjeemgaoonapgaa.Ev
set_option linter.unusedVariables false
set_option linter.unusedSimpArgs false
namespace Go.Proofs.Ytjeemgaoonapgaa.Ev
open Go Go.AEv
def st (L : List Nat) : List (AV × AV) := L.map fun (c : Nat) => (G c, AV.bool true)
def ins (c : Nat) (L : List Nat) : List Nat := if c ∈ L then L else L ++ [c]
theorem mem_ins {z c : Nat} {L : List Nat} : z ∈ ins c L ↔ z = c ∨ z ∈ L := by
  unfold ins
  split
  · rename_i h
    exact ⟨.inr, fun q => q.elim (fun e => e ▸ h) id⟩
  · simp [or_comm]
theorem mapA_at {h : Heap} {b : Nat} {es : List (AV × AV)} (e : h.get b = .map es) : mapA h (.map b) = some es := by
  unfold mapA; simp only [e]
theorem aveq_n (a b : Nat) : aveq (G a) (G b) = some (a == b) := by
  simp only [aveq, if_true]
  congr 1
  by_cases e : a = b
  · subst e; simp
  · rw [beq_eq_false_iff_ne.2 e, beq_eq_false_iff_ne.2 (by omega)]
theorem find_st (k : Nat) : ∀ L : List Nat, findA (G k) (st L) = some (if k ∈ L then some (.bool true) else none)
  | [] => rfl
  | c :: L => by
    show (match aveq (G k) (G c) with | some true => some (some (AV.bool true)) | some false => findA (G k) (st L) | none => none) = _
    rw [aveq_n]
    by_cases e : k = c
    · subst e
      simp
    · rw [beq_eq_false_iff_ne.2 e]
      simp only
      rw [find_st k L]
      simp [e]
theorem put_st (k : Nat) : ∀ L : List Nat, putMap (G k) (.bool true) (st L) = some (st (ins k L))
  | [] => rfl
  | c :: L => by
    show (match aveq (G k) (G c) with | some true => some ((G k, AV.bool true) :: st L) | some false => (putMap (G k) (.bool true) (st L)).map ((G c, AV.bool true) :: ·) | none => none) = _
    rw [aveq_n]
    by_cases e : k = c
    · subst e
      simp [ins, st]
    · rw [beq_eq_false_iff_ne.2 e]
      simp only
      rw [put_st k L]
      unfold ins
      by_cases m : k ∈ L
      · rw [if_pos m, if_pos (List.mem_cons_of_mem _ m)]; rfl
      · rw [if_neg m, if_neg (by simp [e, m])]; rfl
theorem mput0 (h : Heap) (es es' : List (AV × AV)) (b : Nat) (hb : h.size = b) : Eff.app (.mput b es') (h.plus [.map es]) = some (h.plus [.map es']) := by
  subst hb
  have hn : h.N ≤ h.size := by unfold Heap.size; omega
  have e1 : (h.plus [.map es]).own[h.size - h.N]? = some (.map es) := by
    show (h.own ++ [.map es])[h.size - h.N]? = _
    rw [show h.size - h.N = h.own.length by unfold Heap.size; omega]
    simp
  simp only [Eff.app]
  rw [if_neg (by rw [plus_N]; omega), plus_N, e1]
  simp only [Heap.setOwn, forceL_eq, plus_N]
  congr 1
  unfold Heap.plus
  congr 1
  rw [show h.size - h.N = h.own.length by unfold Heap.size; omega]
  simp
theorem mput_gen (h : Heap) (b : Nat) (es es' : List (AV × AV)) (h1 : h.N ≤ b) (hg : h.get b = .map es) : Eff.app (.mput b es') h = some (h.upd b (.map es')) := by
  have e1 : h.own[b - h.N]? = some (.map es) := by
    unfold Heap.get at hg
    rw [if_neg (by omega), List.getD_eq_getElem?_getD] at hg
    cases c : h.own[b - h.N]? with
    | none => rw [c] at hg; cases hg
    | some x => rw [c] at hg; exact congrArg some hg
  simp only [Eff.app]
  rw [if_neg (by omega), e1]
  simp only [Heap.setOwn, forceL_eq, Heap.upd]
end Go.Proofs.Ytjeemgaoonapgaa.Ev
set_option linter.unusedVariables false
set_option linter.unusedSimpArgs false
namespace Go.Proofs.Ytjeemgaoonapgaa.Ev
open Go Go.AEv
attribute [local simp] evFunc initS evOps_c evTrim_c evSkip_c evExit_c evRet_c evSeq_c evCond_c evBlock_c evDraw_c runOps_n runOps_c exec_n exec_g pure1_c act AOpd.ev T.get T.set T.put evBin evUn forceT_eq forceV_eq forceL_eq evRess evRes one keep runFP_n runFP_c app_none AV.flats AV.flat came_some List.getElem?_cons_zero List.getElem?_cons_succ beqT wrapI idxI tdivI tmodI decT decF ibT ibF inT inF evScope_c if_pos if_neg Cm_some thenW_n thenW_e thenW_r blkW_n blkW_e blkW_r goI kn putAt AV.cells fillA loadA takeA mk Eff.isAll Eff.isNone Eff.commutes Eff.spares okPair apart eqAgg fits LK.fits allEq aveq eqk mmA
section
variable {M : List (List Int)}
def LVS (M : List (List Int)) (x y : Nat) (L : List Nat) : Prop := ∀ c, c ∈ L ↔ ∃ u v, (u < x ∨ (u = x ∧ v < y)) ∧ 0 < ent M u v ∧ clN M u ≠ clN M v ∧ clN M u = c
theorem LVS.init : LVS M 0 0 [] := fun c => ⟨fun h => (by cases h), fun ⟨u, v, h, _⟩ => absurd h (by omega)⟩
theorem LVS.skip {x y : Nat} {L : List Nat} (l : LVS M x y L) (h : ¬ (0 < ent M x y ∧ clN M x ≠ clN M y)) : LVS M x (y + 1) L := fun c =>
  ⟨fun q => by
    obtain ⟨u, v, a, b⟩ := (l c).1 q
    exact ⟨u, v, by omega, b⟩, fun ⟨u, v, a, b1, b2, b3⟩ => by
    by_cases cc : u = x ∧ v = y
    · rw [cc.1, cc.2] at b1 b2; exact absurd ⟨b1, b2⟩ h
    · exact (l c).2 ⟨u, v, by omega, b1, b2, b3⟩⟩
theorem LVS.put {x y : Nat} {L : List Nat} (l : LVS M x y L) (h1 : 0 < ent M x y) (h2 : clN M x ≠ clN M y) : LVS M x (y + 1) (ins (clN M x) L) := fun c => by
  rw [mem_ins]
  constructor
  · rintro (rfl | q)
    · exact ⟨x, y, by omega, h1, h2, rfl⟩
    · obtain ⟨u, v, a, b⟩ := (l c).1 q
      exact ⟨u, v, by omega, b⟩
  · rintro ⟨u, v, a, b1, b2, b3⟩
    by_cases cc : u = x ∧ v = y
    · rw [cc.1] at b3; exact .inl b3.symm
    · exact .inr ((l c).2 ⟨u, v, by omega, b1, b2, b3⟩)
theorem LVS.nextx (hm : isMat M = true) {x : Nat} {L : List Nat} (l : LVS M x M.length L) : LVS M (x + 1) 0 L := fun c =>
  ⟨fun q => by
    obtain ⟨u, v, a, b⟩ := (l c).1 q
    exact ⟨u, v, by omega, b⟩, fun ⟨u, v, a, b1, b2, b3⟩ => (l c).2 ⟨u, v, by have := (ent_lt hm b1).2; omega, b1, b2, b3⟩⟩
def finP (M : List (List Int)) (i : Nat) : Prop := clN M i = i ∧ ∀ u v, 0 < ent M u v → clN M u = i → clN M v = i
theorem LVS.fin (hm : isMat M = true) {L : List Nat} (l : LVS M M.length 0 L) (i : Nat) : finP M i ↔ clN M i = i ∧ i ∉ L := by
  refine ⟨fun ⟨a, b⟩ => ⟨a, fun q => ?_⟩, fun ⟨a, b⟩ => ⟨a, fun u v e c => ?_⟩⟩
  · obtain ⟨u, v, _, b1, b2, b3⟩ := (l i).1 q
    exact b2 (b3.trans (b u v b1 b3).symm)
  · exact Classical.byContradiction fun n => b ((l i).2 ⟨u, v, .inl (ent_lt hm e).1, e, fun q => n (q ▸ c), c⟩)
open Classical in
noncomputable def fnL (M : List (List Int)) : Nat → List Int
  | 0 => []
  | k + 1 => if finP M k then fnL M k ++ [(k : Int)] else fnL M k
theorem fnL_t {k : Nat} (h : finP M k) : fnL M (k + 1) = fnL M k ++ [(k : Int)] := if_pos h
theorem fnL_f {k : Nat} (h : ¬ finP M k) : fnL M (k + 1) = fnL M k := if_neg h
theorem fnL_len : ∀ k, (fnL M k).length ≤ k
  | 0 => Nat.le_refl _
  | k + 1 => by
    have := fnL_len k
    by_cases c : finP M k
    · rw [fnL_t c]; simp; omega
    · rw [fnL_f c]; omega
theorem c49_y (J : CallF) (hm : isMat M = true) {H : Heap} {qm qc x : Nat} (gm : H.get qm = .cells 0 65 (matC M)) (gc : H.get qc = .cells 1 M.length (gs (clsL M))) (hx : x < M.length) :
    Tr tbl J c49_l0 (fun s h => ∃ L, LVS M x 0 L ∧ h = H.plus [.map (st L)] ∧ s.get [true, false] = .ptr qm 0 65 ∧ s.get [true, true] = .slice qc 0 M.length M.length ∧ s.get [false, false, false] = .map H.size ∧ s.get [true, false, false] = G x ∧ s.get [true, false, false, true] = G M.length ∧ s.get [false, true, false, true] = G x ∧ s.get [false, true, true, true] = G M.length ∧ s.get [true, true, true, true] = G ((0 : Nat) : Int)) (.exit 2)
      (fun s h => ∃ L, LVS M x M.length L ∧ h = H.plus [.map (st L)] ∧ s.get [true, false] = .ptr qm 0 65 ∧ s.get [true, true] = .slice qc 0 M.length M.length ∧ s.get [false, false, false] = .map H.size ∧ s.get [true, false, false, true] = G M.length ∧ s.get [false, true, false, true] = G x) := by
  have h8 := isMat_n hm
  have lm := matC_len M
  refine Tr.rounds (P := fun y s h => ∃ L, LVS M x y L ∧ h = H.plus [.map (st L)] ∧ s.get [true, false] = .ptr qm 0 65 ∧ s.get [true, true] = .slice qc 0 M.length M.length ∧ s.get [false, false, false] = .map H.size ∧ s.get [true, false, false] = G x ∧ s.get [true, false, false, true] = G M.length ∧ s.get [false, true, false, true] = G x ∧ s.get [false, true, true, true] = G M.length ∧ s.get [true, true, true, true] = G y) (M := M.length) (fun y hy => ?_) ?_ (by simp) 0 (by omega)
  · refine Tr.w fun s1 H1 hp R kR => W.trim ?_
    obtain ⟨L, lv, rfl, q⟩ := hp
    have gm' := plus_keep [.map (st L)] gm (by simp)
    have gc' := plus_keep [.map (st L)] gc (by simp)
    have ga := mapA_at (plus_at0 H (.map (st L)) [] _ rfl)
    have ea := matC_at M (i := x) (j := y) (by omega) (by omega)
    have cx : (gs (clsL M))[x]? = some (G (clN M x)) := gl_at _ hx
    have cy : (gs (clsL M))[y]? = some (G (clN M y)) := gl_at _ hy
    have ea' := getI ea
    have cx' := getI cx
    have cy' := getI cy
    have a0 := (ent_bd hm x y).1
    by_cases cc : 0 < ent M x y ∧ clN M x ≠ clN M y
    · obtain ⟨c1, c2⟩ := cc
      have lv2 := lv.put c1 c2
      have c2' : ¬ (clN M x : Int) = clN M y := by omega
      have pst := put_st (clN M x) L
      have mp := mput0 H (st L) (st (ins (clN M x) L)) _ rfl
      clear lv
      generalize ins (clN M x) L = L2 at *
      generalize he2 : st L2 = e2 at *
      generalize st L = e1 at *
      generalize clN M x = u at *
      generalize clN M y = w at *
      generalize ent M x y = a at *
      generalize gs (clsL M) = ccs at *
      generalize matC M = cm at *
      refine W.seq (W.chunk ?_)
      simp (disch := first | omega | exact getEq rfl | exact getO0 | exact Nat.le_of_ble_eq_true rfl) [c49_o10, app_growP, app_noneP, plus_N, plus_at0, put_plus0, put_plus1, upd_N, upd_size, q]
      refine W.seq (W.chunk ?_)
      simp (disch := first | omega | exact getEq rfl | exact getO0 | exact Nat.le_of_ble_eq_true rfl) [app_growP, app_noneP, plus_N, plus_at0, put_plus0, put_plus1, upd_N, upd_size, q]
      refine W.seq (W.block ?_)
      refine W.seq (W.chunk ?_)
      simp (disch := first | omega | exact getEq rfl | exact getO0 | exact Nat.le_of_ble_eq_true rfl) [c49_o11, app_growP, app_noneP, plus_N, plus_at0, put_plus0, put_plus1, upd_N, upd_size, q]
      refine W.seq (W.chunk ?_)
      simp (disch := first | omega | exact getEq rfl | exact getO0 | exact Nat.le_of_ble_eq_true rfl) [c49_o12, app_growP, app_noneP, plus_N, plus_at0, put_plus0, put_plus1, upd_N, upd_size, q, gm', gc', lm, ea, ea', cx, cx', cy, cy', -evDraw_c, evDraw_0]
      refine W.cond (v := true) (by simp (disch := first | omega | exact getEq rfl | exact getO0 | exact Nat.le_of_ble_eq_true rfl) [app_growP, app_noneP, plus_N, plus_at0, put_plus0, put_plus1, upd_N, upd_size, q]) ?_
      simp only [if_true, if_false, Bool.false_eq_true]
      refine W.chunk ?_
      simp (disch := first | omega | exact getEq rfl | exact getO0 | exact Nat.le_of_ble_eq_true rfl) [c49_o13, app_growP, app_noneP, plus_N, plus_at0, put_plus0, put_plus1, upd_N, upd_size, q, gc', cx, cx', ga, pst, mp]
      refine W.chunk ?_
      simp (disch := first | omega | exact getEq rfl | exact getO0 | exact Nat.le_of_ble_eq_true rfl) [c49_o14, app_growP, app_noneP, plus_N, plus_at0, put_plus0, put_plus1, upd_N, upd_size, q]
      exact kR _ _ ⟨_, lv2, by rw [he2], by simp [T.get, q]⟩
    · have lv2 := lv.skip cc
      clear lv
      generalize he : st L = e1 at *
      generalize clN M x = u at *
      generalize clN M y = w at *
      generalize ent M x y = a at *
      generalize gs (clsL M) = ccs at *
      generalize matC M = cm at *
      by_cases c1 : 0 < a
      · obtain rfl : u = w := Classical.byContradiction fun n => cc ⟨c1, n⟩
        refine W.seq (W.chunk ?_)
        simp (disch := first | omega | exact getEq rfl | exact getO0 | exact Nat.le_of_ble_eq_true rfl) [c49_o10, app_growP, app_noneP, plus_N, plus_at0, put_plus0, put_plus1, upd_N, upd_size, q]
        refine W.seq (W.chunk ?_)
        simp (disch := first | omega | exact getEq rfl | exact getO0 | exact Nat.le_of_ble_eq_true rfl) [app_growP, app_noneP, plus_N, plus_at0, put_plus0, put_plus1, upd_N, upd_size, q]
        refine W.seq (W.block ?_)
        refine W.seq (W.chunk ?_)
        simp (disch := first | omega | exact getEq rfl | exact getO0 | exact Nat.le_of_ble_eq_true rfl) [c49_o11, app_growP, app_noneP, plus_N, plus_at0, put_plus0, put_plus1, upd_N, upd_size, q]
        refine W.seq (W.chunk ?_)
        simp (disch := first | omega | exact getEq rfl | exact getO0 | exact Nat.le_of_ble_eq_true rfl) [c49_o12, app_growP, app_noneP, plus_N, plus_at0, put_plus0, put_plus1, upd_N, upd_size, q, gm', gc', lm, ea, ea', cx, cx', cy, cy', -evDraw_c, evDraw_0]
        refine W.chunk ?_
        simp (disch := first | omega | exact getEq rfl | exact getO0 | exact Nat.le_of_ble_eq_true rfl) [c49_o13, app_growP, app_noneP, plus_N, plus_at0, put_plus0, put_plus1, upd_N, upd_size, q]
        refine W.chunk ?_
        simp (disch := first | omega | exact getEq rfl | exact getO0 | exact Nat.le_of_ble_eq_true rfl) [c49_o14, app_growP, app_noneP, plus_N, plus_at0, put_plus0, put_plus1, upd_N, upd_size, q]
        exact kR _ _ ⟨L, lv2, by rw [he], by simp [T.get, q]⟩
      · refine W.seq (W.chunk ?_)
        simp (disch := first | omega | exact getEq rfl | exact getO0 | exact Nat.le_of_ble_eq_true rfl) [c49_o10, app_growP, app_noneP, plus_N, plus_at0, put_plus0, put_plus1, upd_N, upd_size, q]
        refine W.seq (W.chunk ?_)
        simp (disch := first | omega | exact getEq rfl | exact getO0 | exact Nat.le_of_ble_eq_true rfl) [app_growP, app_noneP, plus_N, plus_at0, put_plus0, put_plus1, upd_N, upd_size, q]
        refine W.seq (W.block ?_)
        refine W.seq (W.chunk ?_)
        simp (disch := first | omega | exact getEq rfl | exact getO0 | exact Nat.le_of_ble_eq_true rfl) [c49_o11, app_growP, app_noneP, plus_N, plus_at0, put_plus0, put_plus1, upd_N, upd_size, q]
        refine W.seq (W.chunk ?_)
        simp (disch := first | omega | exact getEq rfl | exact getO0 | exact Nat.le_of_ble_eq_true rfl) [c49_o12, app_growP, app_noneP, plus_N, plus_at0, put_plus0, put_plus1, upd_N, upd_size, q, gm', gc', lm, ea, ea', cx, cx', cy, cy', -evDraw_c, evDraw_0]
        refine W.chunk ?_
        simp (disch := first | omega | exact getEq rfl | exact getO0 | exact Nat.le_of_ble_eq_true rfl) [c49_o13, app_growP, app_noneP, plus_N, plus_at0, put_plus0, put_plus1, upd_N, upd_size, q]
        refine W.chunk ?_
        simp (disch := first | omega | exact getEq rfl | exact getO0 | exact Nat.le_of_ble_eq_true rfl) [c49_o14, app_growP, app_noneP, plus_N, plus_at0, put_plus0, put_plus1, upd_N, upd_size, q]
        exact kR _ _ ⟨L, lv2, by rw [he], by simp [T.get, q]⟩
  · refine Tr.w fun s1 H1 hp R kR => W.trim ?_
    obtain ⟨L, lv, rfl, q⟩ := hp
    refine W.seq (W.chunk ?_)
    simp (disch := first | omega | exact getEq rfl | exact getO0 | exact Nat.le_of_ble_eq_true rfl) [c49_o10, app_growP, app_noneP, plus_N, plus_at0, put_plus0, put_plus1, upd_N, upd_size, q]
    refine W.seq (W.chunk ?_)
    simp (disch := first | omega | exact getEq rfl | exact getO0 | exact Nat.le_of_ble_eq_true rfl) [app_growP, app_noneP, plus_N, plus_at0, put_plus0, put_plus1, upd_N, upd_size, q]
    exact kR _ _ ⟨L, lv, rfl, by simp [T.get, q]⟩
theorem c49_x (J : CallF) (hm : isMat M = true) {H : Heap} {qm qc : Nat} (gm : H.get qm = .cells 0 65 (matC M)) (gc : H.get qc = .cells 1 M.length (gs (clsL M))) :
    Tr tbl J c49_l1 (fun s h => ∃ L, LVS M 0 0 L ∧ h = H.plus [.map (st L)] ∧ s.get [true, false] = .ptr qm 0 65 ∧ s.get [true, true] = .slice qc 0 M.length M.length ∧ s.get [false, false, false] = .map H.size ∧ s.get [true, false, false, true] = G M.length ∧ s.get [false, true, false, true] = G ((0 : Nat) : Int)) (.exit 0)
      (fun s h => ∃ L, LVS M M.length 0 L ∧ h = H.plus [.map (st L)] ∧ s.get [true, true] = .slice qc 0 M.length M.length ∧ s.get [false, false, false] = .map H.size) := by
  have h8 := isMat_n hm
  have lm := matC_len M
  have e0 : (matC M)[0]? = some (G M.length) := rfl
  have e0' := getI e0
  refine Tr.rounds (P := fun x s h => ∃ L, LVS M x 0 L ∧ h = H.plus [.map (st L)] ∧ s.get [true, false] = .ptr qm 0 65 ∧ s.get [true, true] = .slice qc 0 M.length M.length ∧ s.get [false, false, false] = .map H.size ∧ s.get [true, false, false, true] = G M.length ∧ s.get [false, true, false, true] = G x) (M := M.length) (fun x hx => ?_) ?_ (by simp) 0 (by omega)
  · refine Tr.w fun s1 H1 hp R kR => W.trim ?_
    obtain ⟨L, lv, rfl, q⟩ := hp
    have gm' := plus_keep [.map (st L)] gm (by simp)
    have l0 := c49_y J hm gm gc hx
    have ex : ∃ L', LVS M x 0 L' ∧ H.plus [.map (st L)] = H.plus [.map (st L')] := ⟨L, lv, rfl⟩
    refine W.seq (W.chunk ?_)
    simp (disch := first | omega | exact getEq rfl | exact getO0 | exact Nat.le_of_ble_eq_true rfl) [c49_o7, app_growP, app_noneP, plus_N, plus_at0, put_plus0, put_plus1, upd_N, upd_size, q]
    refine W.seq (W.chunk ?_)
    simp (disch := first | omega | exact getEq rfl | exact getO0 | exact Nat.le_of_ble_eq_true rfl) [app_growP, app_noneP, plus_N, plus_at0, put_plus0, put_plus1, upd_N, upd_size, q]
    refine W.seq (W.block ?_)
    refine W.seq (W.chunk ?_)
    simp (disch := first | omega | exact getEq rfl | exact getO0 | exact Nat.le_of_ble_eq_true rfl) [c49_o8, app_growP, app_noneP, plus_N, plus_at0, put_plus0, put_plus1, upd_N, upd_size, q]
    refine W.seq (W.chunk ?_)
    simp (disch := first | omega | exact getEq rfl | exact getO0 | exact Nat.le_of_ble_eq_true rfl) [c49_o9, app_growP, app_noneP, plus_N, plus_at0, put_plus0, put_plus1, upd_N, upd_size, q, gm', lm, e0, e0']
    refine W.block ?_
    refine W.use (l0) (by simp (disch := first | omega | exact getEq rfl | exact getO0 | exact Nat.le_of_ble_eq_true rfl) [app_growP, app_noneP, plus_N, plus_at0, put_plus0, put_plus1, upd_N, upd_size, q, ex]) fun s1 H1 hp => ?_
    obtain ⟨L2, lv2, rfl, q⟩ := hp
    try simp only [thenW_n, thenW_e, thenW_r, blkW_n, blkW_e, blkW_r, if_true]
    refine W.chunk ?_
    simp (disch := first | omega | exact getEq rfl | exact getO0 | exact Nat.le_of_ble_eq_true rfl) [c49_o15, app_growP, app_noneP, plus_N, plus_at0, put_plus0, put_plus1, upd_N, upd_size, q]
    exact kR _ _ ⟨L2, lv2.nextx hm, rfl, by simp [T.get, q]⟩
  · refine Tr.w fun s1 H1 hp R kR => W.trim ?_
    obtain ⟨L, lv, rfl, q⟩ := hp
    refine W.seq (W.chunk ?_)
    simp (disch := first | omega | exact getEq rfl | exact getO0 | exact Nat.le_of_ble_eq_true rfl) [c49_o7, app_growP, app_noneP, plus_N, plus_at0, put_plus0, put_plus1, upd_N, upd_size, q]
    refine W.seq (W.chunk ?_)
    simp (disch := first | omega | exact getEq rfl | exact getO0 | exact Nat.le_of_ble_eq_true rfl) [app_growP, app_noneP, plus_N, plus_at0, put_plus0, put_plus1, upd_N, upd_size, q]
    exact kR _ _ ⟨L, lv, rfl, by simp [T.get, q]⟩
theorem c49_i (J : CallF) (hm : isMat M = true) {H0 : Heap} {qp qc : Nat} {L : List Nat} (lv : LVS M M.length 0 L) (gp : H0.get qp = .map (st L)) (gc : H0.get qc = .cells 1 M.length (gs (clsL M))) :
    Tr tbl J c49_l2 (fun s h => h = H0 ∧ s.get [false, false, false] = .map qp ∧ s.get [true, true, false] = .nils ∧ s.get [true, true, false, true, true] = .slice qc 0 M.length M.length ∧ s.get [false, false, true, true, true] = G M.length ∧ s.get [true, false, true, true, true] = G ((0 : Nat) : Int)) (.exit 4) (fun s h => ∃ xo, NG H0 h xo (fnL M M.length) ∧ s.get [true, true, false] = xo) := by
  have h8 := isMat_n hm
  refine Tr.pre (P := fun s h => ∃ xo, NG H0 h xo (fnL M 0) ∧ s.get [false, false, false] = .map qp ∧ s.get [true, true, false] = xo ∧ s.get [true, true, false, true, true] = .slice qc 0 M.length M.length ∧ s.get [false, false, true, true, true] = G M.length ∧ s.get [true, false, true, true, true] = G ((0 : Nat) : Int)) (fun s h q => ⟨.nils, by rw [q.1]; exact NG.nil H0, by simp [q.2]⟩) ?_
  refine Tr.rounds (P := fun i s h => ∃ xo, NG H0 h xo (fnL M i) ∧ s.get [false, false, false] = .map qp ∧ s.get [true, true, false] = xo ∧ s.get [true, true, false, true, true] = .slice qc 0 M.length M.length ∧ s.get [false, false, true, true, true] = G M.length ∧ s.get [true, false, true, true, true] = G i) (M := M.length) (fun i hi => ?_) ?_ (by simp) 0 (by omega)
  · refine Tr.w fun s1 H1 hp R kR => W.trim ?_
    obtain ⟨xo, ng, q⟩ := hp
    have gc1 := ng.k.at gc (by simp) id
    have ga := mapA_at (ng.k.at gp (by simp) id)
    have ci : (gs (clsL M))[i]? = some (G (clN M i)) := gl_at _ hi
    have ci' := getI ci
    have fst := find_st i L
    have fp := lv.fin hm i
    by_cases c : finP M i
    · obtain ⟨c1, c2⟩ := fp.1 c
      obtain ⟨x1, e, h2, q1, q2, ng2, _⟩ := ng.app H1.size (i : Int) (by have := fnL_len (M := M) i; omega)
      rw [← fnL_t c] at ng2
      have f1 := app1_at H1 (G (i : Int))
      rw [c1] at ci ci'
      rw [if_neg c2] at fst
      clear ng fp
      generalize st L = e1 at *
      generalize gs (clsL M) = ccs at *
      refine W.seq (W.chunk ?_)
      simp (disch := first | omega | exact getEq rfl | exact getO0 | exact Nat.le_of_ble_eq_true rfl) [c49_o18, app_growP, app_noneP, plus_N, plus_at0, put_plus0, put_plus1, upd_N, upd_size, q]
      refine W.seq (W.chunk ?_)
      simp (disch := first | omega | exact getEq rfl | exact getO0 | exact Nat.le_of_ble_eq_true rfl) [app_growP, app_noneP, plus_N, plus_at0, put_plus0, put_plus1, upd_N, upd_size, q]
      refine W.seq (W.block ?_)
      refine W.seq (W.chunk ?_)
      simp (disch := first | omega | exact getEq rfl | exact getO0 | exact Nat.le_of_ble_eq_true rfl) [c49_o19, app_growP, app_noneP, plus_N, plus_at0, put_plus0, put_plus1, upd_N, upd_size, q, gc1, ci, ci']
      refine W.seq (W.chunk ?_)
      simp (disch := first | omega | exact getEq rfl | exact getO0 | exact Nat.le_of_ble_eq_true rfl) [c49_o20, app_growP, app_noneP, plus_N, plus_at0, put_plus0, put_plus1, upd_N, upd_size, q, ga, fst]
      refine W.cond (v := true) (by simp (disch := first | omega | exact getEq rfl | exact getO0 | exact Nat.le_of_ble_eq_true rfl) [app_growP, app_noneP, plus_N, plus_at0, put_plus0, put_plus1, upd_N, upd_size, q]) ?_
      simp only [if_true, if_false, Bool.false_eq_true]
      refine W.chunk ?_
      simp (disch := first | omega | exact getEq rfl | exact getO0 | exact Nat.le_of_ble_eq_true rfl) [c49_o21, app_growP, app_noneP, plus_N, plus_at0, put_plus0, put_plus1, upd_N, upd_size, q, elems, rdOf, f1, q1, q2]
      refine W.chunk ?_
      simp (disch := first | omega | exact getEq rfl | exact getO0 | exact Nat.le_of_ble_eq_true rfl) [c49_o22, app_growP, app_noneP, plus_N, plus_at0, put_plus0, put_plus1, upd_N, upd_size, q]
      exact kR _ _ ⟨_, ng2, by simp [T.get, q]⟩
    · have ng2 := ng
      rw [← fnL_f c] at ng2
      by_cases c1 : clN M i = i
      · have c2 : i ∈ L := Classical.byContradiction fun n => c (fp.2 ⟨c1, n⟩)
        rw [c1] at ci ci'
        rw [if_pos c2] at fst
        clear ng fp
        generalize st L = e1 at *
        generalize gs (clsL M) = ccs at *
        refine W.seq (W.chunk ?_)
        simp (disch := first | omega | exact getEq rfl | exact getO0 | exact Nat.le_of_ble_eq_true rfl) [c49_o18, app_growP, app_noneP, plus_N, plus_at0, put_plus0, put_plus1, upd_N, upd_size, q]
        refine W.seq (W.chunk ?_)
        simp (disch := first | omega | exact getEq rfl | exact getO0 | exact Nat.le_of_ble_eq_true rfl) [app_growP, app_noneP, plus_N, plus_at0, put_plus0, put_plus1, upd_N, upd_size, q]
        refine W.seq (W.block ?_)
        refine W.seq (W.chunk ?_)
        simp (disch := first | omega | exact getEq rfl | exact getO0 | exact Nat.le_of_ble_eq_true rfl) [c49_o19, app_growP, app_noneP, plus_N, plus_at0, put_plus0, put_plus1, upd_N, upd_size, q, gc1, ci, ci']
        refine W.seq (W.chunk ?_)
        simp (disch := first | omega | exact getEq rfl | exact getO0 | exact Nat.le_of_ble_eq_true rfl) [c49_o20, app_growP, app_noneP, plus_N, plus_at0, put_plus0, put_plus1, upd_N, upd_size, q, ga, fst]
        refine W.chunk ?_
        simp (disch := first | omega | exact getEq rfl | exact getO0 | exact Nat.le_of_ble_eq_true rfl) [c49_o21, app_growP, app_noneP, plus_N, plus_at0, put_plus0, put_plus1, upd_N, upd_size, q]
        refine W.chunk ?_
        simp (disch := first | omega | exact getEq rfl | exact getO0 | exact Nat.le_of_ble_eq_true rfl) [c49_o22, app_growP, app_noneP, plus_N, plus_at0, put_plus0, put_plus1, upd_N, upd_size, q]
        exact kR _ _ ⟨_, ng2, by simp [T.get, q]⟩
      · have c1' : ¬ (i : Int) = clN M i := by omega
        clear ng fp fst
        generalize clN M i = u at *
        generalize gs (clsL M) = ccs at *
        refine W.seq (W.chunk ?_)
        simp (disch := first | omega | exact getEq rfl | exact getO0 | exact Nat.le_of_ble_eq_true rfl) [c49_o18, app_growP, app_noneP, plus_N, plus_at0, put_plus0, put_plus1, upd_N, upd_size, q]
        refine W.seq (W.chunk ?_)
        simp (disch := first | omega | exact getEq rfl | exact getO0 | exact Nat.le_of_ble_eq_true rfl) [app_growP, app_noneP, plus_N, plus_at0, put_plus0, put_plus1, upd_N, upd_size, q]
        refine W.seq (W.block ?_)
        refine W.seq (W.chunk ?_)
        simp (disch := first | omega | exact getEq rfl | exact getO0 | exact Nat.le_of_ble_eq_true rfl) [c49_o19, app_growP, app_noneP, plus_N, plus_at0, put_plus0, put_plus1, upd_N, upd_size, q, gc1, ci, ci']
        refine W.seq (W.chunk ?_)
        simp (disch := first | omega | exact getEq rfl | exact getO0 | exact Nat.le_of_ble_eq_true rfl) [c49_o20, app_growP, app_noneP, plus_N, plus_at0, put_plus0, put_plus1, upd_N, upd_size, q]
        refine W.chunk ?_
        simp (disch := first | omega | exact getEq rfl | exact getO0 | exact Nat.le_of_ble_eq_true rfl) [c49_o21, app_growP, app_noneP, plus_N, plus_at0, put_plus0, put_plus1, upd_N, upd_size, q]
        refine W.chunk ?_
        simp (disch := first | omega | exact getEq rfl | exact getO0 | exact Nat.le_of_ble_eq_true rfl) [c49_o22, app_growP, app_noneP, plus_N, plus_at0, put_plus0, put_plus1, upd_N, upd_size, q]
        exact kR _ _ ⟨_, ng2, by simp [T.get, q]⟩
  · refine Tr.w fun s1 H1 hp R kR => W.trim ?_
    obtain ⟨xo, ng, q⟩ := hp
    refine W.seq (W.chunk ?_)
    simp (disch := first | omega | exact getEq rfl | exact getO0 | exact Nat.le_of_ble_eq_true rfl) [c49_o18, app_growP, app_noneP, plus_N, plus_at0, put_plus0, put_plus1, upd_N, upd_size, q]
    refine W.seq (W.chunk ?_)
    simp (disch := first | omega | exact getEq rfl | exact getO0 | exact Nat.le_of_ble_eq_true rfl) [app_growP, app_noneP, plus_N, plus_at0, put_plus0, put_plus1, upd_N, upd_size, q]
    exact kR _ _ ⟨_, ng, by simp [T.get, q]⟩
theorem c49_bad (J : CallF) (k54 : K54 J) (hJ : ∀ a h, J 49 a h = none) (h : Heap) {y : AV} (hy : MR h y M) (hm : isMat M = false) : CallsTo tbl J 49 [y] h (.tup [.nils, G 2], [], false) := by
  refine Tr.fnv (cf := c49) (e := .ret) (s := T.set .leaf [] y) (by decide) rfl (hJ _ _) rfl rfl rfl (by simp) ?_
  obtain ⟨cs, k54, hl, hc⟩ := k54 ⟨h.get, h.size, []⟩ y M (hy.lo [])
  have rp : (List.replicate 65 (AV.int .i64 0)).length = 65 := List.length_replicate
  have ep : putAt (List.replicate 65 (AV.int .i64 0)) 0 cs = cs := putAt_all _ _ (by omega)
  refine Tr.w fun s1 H1 hp R kR => ?_
  obtain ⟨rfl, rfl⟩ := hp
  have q : True := trivial
  generalize hZ : List.replicate 65 (AV.int .i64 0) = Z at *
  rw [hm] at k54
  refine W.seq (W.chunk ?_)
  simp (disch := first | omega | exact getEq rfl | exact getO0 | exact Nat.le_of_ble_eq_true rfl) [-List.reduceReplicate, c49_o0, size_mk, get_mk_lt, get_mk_ge, frameOf, Eff.app, Heap.setOwn, q]
  refine W.seq (W.chunk ?_)
  simp (disch := first | omega | exact getEq rfl | exact getO0 | exact Nat.le_of_ble_eq_true rfl) [-List.reduceReplicate, c49_o1, size_mk, get_mk_lt, get_mk_ge, frameOf, Eff.app, Heap.setOwn, q, k54, hZ, ep, rp, hl, frameOf]
  refine W.assoc ?_
  refine W.seq (W.chunk ?_)
  simp (disch := first | omega | exact getEq rfl | exact getO0 | exact Nat.le_of_ble_eq_true rfl) [-List.reduceReplicate, c49_o2, size_mk, get_mk_lt, get_mk_ge, frameOf, Eff.app, Heap.setOwn, q]
  refine W.seq (W.chunk ?_)
  simp (disch := first | omega | exact getEq rfl | exact getO0 | exact Nat.le_of_ble_eq_true rfl) [-List.reduceReplicate, c49_o3, size_mk, get_mk_lt, get_mk_ge, frameOf, Eff.app, Heap.setOwn, q]
  exact kR _ _ ⟨[.nils, G 2], by simp [T.get, c49, evRess, evRes], rfl⟩
theorem c49_ok (J : CallF) (k54 : K54 J) (k62 : K62 J) (hJ : ∀ a h, J 49 a h = none) (h : Heap) {y : AV} (hy : MR h y M) (hm : isMat M = true) : ∃ v own, CallsTo tbl J 49 [y] h (v, own, false) ∧ ∃ w, v = .tup [w, G 0] ∧ NG h (h.plus own) w (fnL M M.length) := by
  refine Tr.fny (cf := c49) (e := .ret) (s := T.set .leaf [] y) (by decide) rfl (hJ _ _) rfl rfl (by simp) ?_
  have h8 := isMat_n hm
  obtain ⟨cs, k54, hl, hc⟩ := k54 (frameOf h) y M (hy.lo [])
  have rp : (List.replicate 65 (AV.int .i64 0)).length = 65 := List.length_replicate
  obtain rfl := hc hm
  have ep : putAt (List.replicate 65 (AV.int .i64 0)) 0 (matC M) = matC M := putAt_all _ _ (by omega)
  have et : (matC M).take 65 = matC M := List.take_of_length_le (by omega)
  have lm := matC_len M
  have e0 : (matC M)[0]? = some (G M.length) := rfl
  have e0' := getI e0
  obtain ⟨w, own, k62, nc⟩ := k62 ((frameOf h).plus [.cells 0 65 (matC M)]) M hm
  obtain ⟨qc, rfl, gc⟩ := nc.l.sl (by intro e; have h0 : (gs (clsL M)).length = M.length := gl_len _ _; rw [e] at h0; simp at h0; omega)
  rw [show (gs (clsL M)).length = M.length from gl_len _ _] at k62 gc
  have kA : Kp (fun _ => False) (frameOf h) (((frameOf h).plus [.cells 0 65 (matC M)]).plus own) := (Kp.plus _ _).trans nc.k
  have gm : (((frameOf h).plus [.cells 0 65 (matC M)]).plus own).get h.size = .cells 0 65 (matC M) := nc.k.at (plus_at0 _ _ _ _ (fr_size h)) (by simp) id
  have gm0 : ((frameOf h).plus [.cells 0 65 (matC M)]).get h.size = .cells 0 65 (matC M) := plus_at0 _ _ _ _ (fr_size h)
  clear nc
  generalize hHa : ((frameOf h).plus [.cells 0 65 (matC M)]).plus own = Ha at *
  have gm1 := plus_keep [.map []] gm (by simp)
  have l1 := c49_x J hm gm gc
  have ex : ∃ L', LVS M 0 0 L' ∧ Ha.plus [.map []] = Ha.plus [.map (st L')] := ⟨[], LVS.init, rfl⟩
  have fs := fr_size h
  refine Tr.w fun s1 H1 hp R kR => ?_
  obtain ⟨rfl, rfl⟩ := hp
  have q : True := trivial
  generalize hZ : List.replicate 65 (AV.int .i64 0) = Z at *
  rw [hm] at k54
  refine W.seq (W.chunk ?_)
  simp (disch := first | omega | exact getEq rfl | exact getO0 | exact Nat.le_of_ble_eq_true rfl) [-List.reduceReplicate, c49_o0, app_growP, app_noneP, plus_N, plus_at0, put_plus0, put_plus1, upd_N, upd_size, q]
  refine W.seq (W.chunk ?_)
  simp (disch := first | omega | exact getEq rfl | exact getO0 | exact Nat.le_of_ble_eq_true rfl) [-List.reduceReplicate, c49_o1, app_growP, app_noneP, plus_N, plus_at0, put_plus0, put_plus1, upd_N, upd_size, q, k54, hZ, ep, rp, hl, app_if, app_if', fs]
  refine W.assoc ?_
  refine W.seq (W.chunk ?_)
  simp (disch := first | omega | exact getEq rfl | exact getO0 | exact Nat.le_of_ble_eq_true rfl) [-List.reduceReplicate, c49_o2, app_growP, app_noneP, plus_N, plus_at0, put_plus0, put_plus1, upd_N, upd_size, q]
  refine W.seq (W.chunk ?_)
  simp (disch := first | omega | exact getEq rfl | exact getO0 | exact Nat.le_of_ble_eq_true rfl) [-List.reduceReplicate, c49_o3, app_growP, app_noneP, plus_N, plus_at0, put_plus0, put_plus1, upd_N, upd_size, q]
  refine W.seq (W.chunk ?_)
  simp (disch := first | omega | exact getEq rfl | exact getO0 | exact Nat.le_of_ble_eq_true rfl) [-List.reduceReplicate, c49_o4, app_growP, app_noneP, plus_N, plus_at0, put_plus0, put_plus1, upd_N, upd_size, q, fs, gm0, et, lm, k62, app_if, app_if', hHa]
  refine W.seq (W.chunk ?_)
  simp (disch := first | omega | exact getEq rfl | exact getO0 | exact Nat.le_of_ble_eq_true rfl) [-List.reduceReplicate, c49_o5, app_growP, app_noneP, plus_N, plus_at0, put_plus0, put_plus1, upd_N, upd_size, q]
  refine W.assoc ?_
  refine W.seq (W.chunk ?_)
  simp (disch := first | omega | exact getEq rfl | exact getO0 | exact Nat.le_of_ble_eq_true rfl) [-List.reduceReplicate, c49_o6, app_growP, app_noneP, plus_N, plus_at0, put_plus0, put_plus1, upd_N, upd_size, q, gm1, lm, e0, e0']
  refine W.seq (W.block ?_)
  refine W.use (l1) (by simp (disch := first | omega | exact getEq rfl | exact getO0 | exact Nat.le_of_ble_eq_true rfl) [-List.reduceReplicate, app_growP, app_noneP, plus_N, plus_at0, put_plus0, put_plus1, upd_N, upd_size, q, ex]) fun s1 H1 hp => ?_
  obtain ⟨L, lv, rfl, q⟩ := hp
  try simp only [thenW_n, thenW_e, thenW_r, blkW_n, blkW_e, blkW_r, if_true]
  have l2 := c49_i J hm lv (plus_at0 Ha (.map (st L)) [] _ rfl) (plus_keep [.map (st L)] gc (by simp))
  refine W.seq (W.chunk ?_)
  simp (disch := first | omega | exact getEq rfl | exact getO0 | exact Nat.le_of_ble_eq_true rfl) [-List.reduceReplicate, c49_o16, app_growP, app_noneP, plus_N, plus_at0, put_plus0, put_plus1, upd_N, upd_size, q]
  refine W.assoc ?_
  refine W.seq (W.chunk ?_)
  simp (disch := first | omega | exact getEq rfl | exact getO0 | exact Nat.le_of_ble_eq_true rfl) [-List.reduceReplicate, c49_o17, app_growP, app_noneP, plus_N, plus_at0, put_plus0, put_plus1, upd_N, upd_size, q]
  refine W.seq (W.block ?_)
  refine W.use (l2) (by simp (disch := first | omega | exact getEq rfl | exact getO0 | exact Nat.le_of_ble_eq_true rfl) [-List.reduceReplicate, app_growP, app_noneP, plus_N, plus_at0, put_plus0, put_plus1, upd_N, upd_size, q]) fun s1 H1 hp => ?_
  obtain ⟨xo, ng, q⟩ := hp
  try simp only [thenW_n, thenW_e, thenW_r, blkW_n, blkW_e, blkW_r, if_true]
  refine W.seq (W.chunk ?_)
  simp (disch := first | omega | exact getEq rfl | exact getO0 | exact Nat.le_of_ble_eq_true rfl) [-List.reduceReplicate, c49_o23, app_growP, app_noneP, plus_N, plus_at0, put_plus0, put_plus1, upd_N, upd_size, q]
  refine W.ret ?_
  try simp only [thenW_n, thenW_e, thenW_r, blkW_n, blkW_e, blkW_r, if_true]
  exact kR _ _ ⟨[xo, G 0], by simp [T.get, c49, evRess, evRes, q], xo, rfl, (NG.base (kA.trans (Kp.plus _ _)) ng).fr1⟩
end
def Post49 (a : AM) (h : Heap) (v : AV) (own : List AObj) : Prop := (isMat a.M = false → v = .tup [.nils, G 2] ∧ own = []) ∧ (isMat a.M = true → ∃ w, v = .tup [w, G 0] ∧ NG h (h.plus own) w (fnL a.M a.M.length))
noncomputable def T28 : CallF := addK tbl T27 49 PreM Post49
theorem t28 : Sound Go.Proofs.Try.prog T28 := Sound.addK follows ok t27 (by decide) _ _
abbrev K49 (J : CallF) : Prop := ∀ (h : Heap) (a : AM), MR h a.y a.M → ∃ v own, J 49 [a.y] h = some (v, own, false) ∧ Post49 a h v own
theorem k54_27 : K54 T27 := fun h y M hy => by
  simp (disch := decide) only [T27, T26, T25, T24, T23, T22, T21, T20, T19, T18, T17, T16, T15, T14, T13, T12, T11, T10, T9, T8, T7, T6, T5, T4, T3, T2, T1, R21, R20, R19, R18, R17, R16, R15, R14, R13, R12, R11, R10, R9, R8, R7, R6, R5, R4, R3, R2, R1, addI_ne, addX_ne, addV_ne, addK_ne]
  exact k54 h y M hy
theorem k62_27 : K62 T27 := fun h M hm => by
  simp (disch := decide) only [T27, T26, T25, T24, T23, T22, T21, T20, T19, T18, T17, T16, T15, T14, T13, T12, T11, T10, T9, T8, T7, addK_ne]
  exact k62 h M hm
theorem k49 : K49 T28 := fun h a ha => addK_some (Pre := PreM) (Post := Post49) (fun a args h hp => by
  obtain ⟨hy, rfl⟩ := hp
  have hn : ∀ a h, T27 49 a h = none := (fun _ _ => by simp (disch := decide) only [T27, T26, T25, T24, T23, T22, T21, T20, T19, T18, T17, T16, T15, T14, T13, T12, T11, T10, T9, T8, T7, T6, T5, T4, T3, T2, T1, R21, R20, R19, R18, R17, R16, R15, R14, R13, R12, R11, R10, R9, R8, R7, R6, R5, R4, R3, R2, R1, addI_ne, addX_ne, addV_ne, addK_ne]; rfl)
  cases c : isMat a.M
  · exact ⟨_, _, c49_bad T27 k54_27 hn h hy c, fun _ => ⟨rfl, rfl⟩, fun q => by rw [c] at q; cases q⟩
  · obtain ⟨v, own, e, p⟩ := c49_ok T27 k54_27 k62_27 hn h hy c
    exact ⟨v, own, e, fun q => (by rw [c] at q; cases q), fun _ => p⟩) a _ h ⟨ha, rfl⟩
end Go.Proofs.Ytjeemgaoonapgaa.Ev
set_option linter.unusedVariables false
set_option linter.unusedSimpArgs false
namespace Go.Proofs.Ytjeemgaoonapgaa.Ev
open Go Go.AEv
attribute [local simp] evFunc initS evOps_c evTrim_c evSkip_c evExit_c evRet_c evSeq_c evCond_c evBlock_c evDraw_c runOps_n runOps_c exec_n exec_g pure1_c act AOpd.ev T.get T.set T.put evBin evUn forceT_eq forceV_eq forceL_eq evRess evRes one keep runFP_n runFP_c app_none AV.flats AV.flat came_some List.getElem?_cons_zero List.getElem?_cons_succ beqT wrapI idxI tdivI tmodI decT decF ibT ibF inT inF evScope_c if_pos if_neg Cm_some thenW_n thenW_e thenW_r blkW_n blkW_e blkW_r goI kn putAt AV.cells fillA loadA takeA mk Eff.isAll Eff.isNone Eff.commutes Eff.spares okPair apart eqAgg fits LK.fits allEq aveq eqk mmA
section
variable {M : List (List Int)}
def FI (M : List (List Int)) (i x y : Nat) (b : Bool) : Prop := b = true ↔ clN M i = i ∧ ∀ u v, (u < x ∨ (u = x ∧ v < y)) → 0 < ent M u v → clN M u = i → clN M v = i
theorem FI.no {i x y x' y' : Nat} (l : FI M i x y false) (h : x < x' ∨ (x = x' ∧ y ≤ y')) : FI M i x' y' false :=
  ⟨fun e => (by cases e), fun ⟨a, b⟩ => l.2 ⟨a, fun u v c => b u v (by omega)⟩⟩
theorem FI.keep {i x y : Nat} (l : FI M i x y true) (h : 0 < ent M x y → clN M x = i → clN M y = i) : FI M i x (y + 1) true :=
  ⟨fun e => ⟨(l.1 e).1, fun u v c => by
    by_cases cc : u = x ∧ v = y
    · rw [cc.1, cc.2]; exact h
    · exact (l.1 e).2 u v (by omega)⟩, fun _ => rfl⟩
theorem FI.nextx (hm : isMat M = true) {i x : Nat} {b : Bool} (l : FI M i x M.length b) : FI M i (x + 1) 0 b :=
  ⟨fun e => ⟨(l.1 e).1, fun u v c e2 => (l.1 e).2 u v (by have := (ent_lt hm e2).2; omega) e2⟩, fun ⟨a, c⟩ => l.2 ⟨a, fun u v d => c u v (by omega)⟩⟩
theorem FI.done (hm : isMat M = true) {i : Nat} {b : Bool} (l : FI M i M.length 0 b) : b = true ↔ finP M i :=
  l.trans ⟨fun ⟨a, c⟩ => ⟨a, fun u v e => c u v (.inl (ent_lt hm e).1) e⟩, fun ⟨a, c⟩ => ⟨a, fun u v _ => c u v⟩⟩
theorem FI.init {i : Nat} {b : Bool} (h : b = true ↔ clN M i = i) : FI M i 0 0 b := h.trans ⟨fun a => ⟨a, fun u v c => absurd c (by omega)⟩, fun a => a.1⟩
end
def Post52 (a : AM) (h : Heap) (v : AV) (own : List AObj) : Prop := NG h (h.plus own) v (fnL a.M a.M.length)
noncomputable def T29 : CallF := addK tbl T28 52 PreO Post52
theorem t29 : Sound Go.Proofs.Try.prog T29 := Sound.addK follows ok t28 (by decide) _ _
end Go.Proofs.Ytjeemgaoonapgaa.Ev
set_option linter.unusedVariables false
set_option linter.unusedSimpArgs false
namespace Go.Proofs.Ytjeemgaoonapgaa.Ev
open Go Go.AEv
theorem nodup_le {n : Nat} {P : List Nat} (nd : P.Nodup) (h : ∀ c ∈ P, c < n) : P.length ≤ n := by
  refine Nat.le_of_not_lt fun hl => ?_
  obtain ⟨i, j, h1, h2, h3⟩ := pigeon n (fun i => P.getD i 0) (fun i hi => by
    rw [List.getD_eq_getElem?_getD, List.getElem?_eq_getElem (by omega)]
    exact h _ (List.getElem_mem _))
  have hp := List.pairwise_iff_getElem.1 nd i j (by omega) (by omega) h1
  rw [List.getD_eq_getElem?_getD, List.getD_eq_getElem?_getD, List.getElem?_eq_getElem (by omega), List.getElem?_eq_getElem (by omega)] at h3
  exact hp h3
theorem nodup_snoc {P : List Nat} {c : Nat} (nd : P.Nodup) (h : c ∉ P) : (P ++ [c]).Nodup := by
  rw [List.nodup_append]
  refine ⟨nd, by simp, fun a ha b hb e => ?_⟩
  rw [List.mem_singleton] at hb
  subst hb; subst e
  exact h ha
section
variable {M : List (List Int)}
def rdy (M : List (List Int)) (P : List Nat) (c : Nat) : Prop := ∀ u v, 0 < ent M u v → clN M v = c → clN M u ≠ c → clN M u ∈ P
def cand (M : List (List Int)) (P : List Nat) (c : Nat) : Prop := clN M c = c ∧ c ∉ P ∧ rdy M P c
open Classical in
noncomputable def nxB (M : List (List Int)) (P : List Nat) : List Nat := if h : ∃ c, c < M.length ∧ cand M P c ∧ ∀ d, d < c → ¬ cand M P d then P ++ [Classical.choose h] else P
noncomputable def sqB (M : List (List Int)) : Nat → List Nat
  | 0 => []
  | k + 1 => nxB M (sqB M k)
theorem nxB_t {P : List Nat} {c : Nat} (h1 : c < M.length) (h2 : cand M P c) (h3 : ∀ d, d < c → ¬ cand M P d) : nxB M P = P ++ [c] := by
  have h : ∃ c, c < M.length ∧ cand M P c ∧ ∀ d, d < c → ¬ cand M P d := ⟨c, h1, h2, h3⟩
  unfold nxB
  rw [dif_pos h]
  obtain ⟨_, e2, e3⟩ := Classical.choose_spec h
  have : Classical.choose h = c := by
    rcases Nat.lt_trichotomy (Classical.choose h) c with l | l | l
    · exact absurd e2 (h3 _ l)
    · exact l
    · exact absurd h2 (e3 _ l)
  rw [this]
theorem nxB_f {P : List Nat} (h : ∀ c, c < M.length → ¬ cand M P c) : nxB M P = P := by
  unfold nxB
  exact dif_neg fun ⟨c, h1, h2, _⟩ => h c h1 h2
structure PB (M : List (List Int)) (P : List Nat) : Prop where
  e : P = sqB M P.length
  d : P.Nodup
  l : ∀ c ∈ P, c < M.length ∧ clN M c = c
theorem PB.nil : PB M [] := ⟨rfl, List.Pairwise.nil, fun c h => (by cases h)⟩
theorem PB.push {P : List Nat} (p : PB M P) {c : Nat} (h1 : c < M.length) (h2 : cand M P c) (h3 : ∀ d, d < c → ¬ cand M P d) : PB M (P ++ [c]) :=
  ⟨by
    rw [List.length_append]
    show P ++ [c] = nxB M (sqB M P.length)
    rw [← p.e, nxB_t h1 h2 h3], nodup_snoc p.d h2.2.1, fun d hd => by
    rcases List.mem_append.1 hd with q | q
    · exact p.l d q
    · rw [List.mem_singleton] at q; subst q; exact ⟨h1, h2.1⟩⟩
theorem PB.len {P : List Nat} (p : PB M P) : P.length ≤ M.length := nodup_le p.d fun c hc => (p.l c hc).1
noncomputable def seqB (M : List (List Int)) : List Nat := sqB M M.length
theorem PB.done {P : List Nat} (p : PB M P) (h : ∀ c, c < M.length → ¬ cand M P c) : P = seqB M := by
  have : ∀ d, sqB M (P.length + d) = P := fun d => by
    induction d with
    | zero => exact p.e.symm
    | succ d ih =>
      show nxB M (sqB M (P.length + d)) = P
      rw [ih, nxB_f h]
  have h2 := this (M.length - P.length)
  rw [show P.length + (M.length - P.length) = M.length by have := p.len; omega] at h2
  exact h2.symm
def cmL (M : List (List Int)) (c : Nat) : Nat → List Int
  | 0 => []
  | k + 1 => if clN M k = c then cmL M c k ++ [(k : Int)] else cmL M c k
theorem cmL_t {c k : Nat} (h : clN M k = c) : cmL M c (k + 1) = cmL M c k ++ [(k : Int)] := if_pos h
theorem cmL_f {c k : Nat} (h : ¬ clN M k = c) : cmL M c (k + 1) = cmL M c k := if_neg h
theorem cmL_len (c : Nat) : ∀ k, (cmL M c k).length ≤ k
  | 0 => Nat.le_refl _
  | k + 1 => by
    have := cmL_len c k
    by_cases h : clN M k = c
    · rw [cmL_t h]; simp; omega
    · rw [cmL_f h]; omega
theorem cmL_pos {c k : Nat} (h : clN M c = c) : c < k → cmL M c k ≠ [] := by
  induction k with
  | zero => intro q; omega
  | succ k ih =>
    intro q
    by_cases e : clN M k = c
    · rw [cmL_t e]; simp
    · rw [cmL_f e]
      exact ih (by
        rcases Nat.lt_or_ge c k with a | a
        · exact a
        · have : c = k := by omega
          subst this; exact absurd h e)
def bkC (M : List (List Int)) (P : List Nat) : List (List AV) := P.map fun c => gs (cmL M c M.length)
theorem bkC_s (P : List Nat) (c : Nat) : bkC M (P ++ [c]) = bkC M P ++ [gs (cmL M c M.length)] := by simp [bkC]
theorem bkC_len (P : List Nat) : (bkC M P).length = P.length := by simp [bkC]
structure PN (M : List (List Int)) (P L : List Nat) : Prop where
  d : L.Nodup
  m : ∀ u, u ∈ L ↔ u < M.length ∧ clN M u ∈ P
theorem PN.rdy (hm : isMat M = true) {P L : List Nat} (p : PN M P L) {c : Nat} : rdy M P c ↔ ∀ u v, 0 < ent M u v → clN M v = c → clN M u ≠ c → u ∈ L :=
  ⟨fun h u v e a b => (p.m u).2 ⟨(ent_lt hm e).1, h u v e a b⟩, fun h u v e a b => ((p.m u).1 (h u v e a b)).2⟩
theorem PN.lt {P L : List Nat} (p : PN M P L) : L.length ≤ M.length := nodup_le p.d fun c hc => ((p.m c).1 hc).1
theorem PN.full {P L : List Nat} (p : PN M P L) (h : ¬ L.length < M.length) {c : Nat} (hc : c < M.length) : ¬ cand M P c := fun ⟨a, b, _⟩ => by
  by_cases q : c ∈ L
  · have := ((p.m c).1 q).2; rw [a] at this; exact b this
  · have h2 := nodup_le (nodup_snoc p.d q) (fun x hx => by
      rcases List.mem_append.1 hx with y | y
      · exact ((p.m x).1 y).1
      · rw [List.mem_singleton] at y; rw [y]; exact hc)
    simp at h2
    omega
structure PK (M : List (List Int)) (P : List Nat) (c k : Nat) (L : List Nat) : Prop where
  d : L.Nodup
  m : ∀ u, u ∈ L ↔ u < M.length ∧ (clN M u ∈ P ∨ (clN M u = c ∧ u < k))
theorem PN.start {P L : List Nat} (p : PN M P L) (c : Nat) : PK M P c 0 L := ⟨p.d, fun u => by rw [p.m u]; simp⟩
theorem PK.skip {P L : List Nat} {c k : Nat} (p : PK M P c k L) (h : ¬ clN M k = c) : PK M P c (k + 1) L := ⟨p.d, fun u => by
  rw [p.m u]
  have : clN M u = c ∧ u < k + 1 ↔ clN M u = c ∧ u < k := ⟨fun ⟨a, b⟩ => ⟨a, by
    rcases Nat.lt_or_ge u k with x | x
    · exact x
    · have : u = k := by omega
      subst this; exact absurd a h⟩, fun ⟨a, b⟩ => ⟨a, by omega⟩⟩
  rw [this]⟩
theorem PK.take {P L : List Nat} {c k : Nat} (p : PK M P c k L) (hk : k < M.length) (h : clN M k = c) (hc : c ∉ P) : PK M P c (k + 1) (L ++ [k]) ∧ ins k L = L ++ [k] := by
  have hn : k ∉ L := fun q => by
    rcases ((p.m k).1 q).2 with a | ⟨_, a⟩
    · rw [h] at a; exact hc a
    · omega
  refine ⟨⟨nodup_snoc p.d hn, fun u => ?_⟩, if_neg hn⟩
  rw [List.mem_append, List.mem_singleton, p.m u]
  constructor
  · rintro (⟨a, b | ⟨b1, b2⟩⟩ | rfl)
    · exact ⟨a, .inl b⟩
    · exact ⟨a, .inr ⟨b1, by omega⟩⟩
    · exact ⟨hk, .inr ⟨h, by omega⟩⟩
  · rintro ⟨a, b | ⟨b1, b2⟩⟩
    · exact .inl ⟨a, .inl b⟩
    · by_cases e : u = k
      · exact .inr e
      · exact .inl ⟨a, .inr ⟨b1, by omega⟩⟩
theorem PK.done {P L : List Nat} {c : Nat} (p : PK M P c M.length L) : PN M (P ++ [c]) L := ⟨p.d, fun u => by
  rw [p.m u, List.mem_append, List.mem_singleton]
  exact ⟨fun ⟨a, b⟩ => ⟨a, b.imp id fun x => x.1⟩, fun ⟨a, b⟩ => ⟨a, b.imp id fun x => ⟨x, a⟩⟩⟩⟩
end
end Go.Proofs.Ytjeemgaoonapgaa.Ev
set_option linter.unusedVariables false
set_option linter.unusedSimpArgs false
namespace Go.Proofs.Ytjeemgaoonapgaa.Ev
open Go Go.AEv
attribute [local simp] evFunc initS evOps_c evTrim_c evSkip_c evExit_c evRet_c evSeq_c evCond_c evBlock_c evDraw_c runOps_n runOps_c exec_n exec_g pure1_c act AOpd.ev T.get T.set T.put evBin evUn forceT_eq forceV_eq forceL_eq evRess evRes one keep runFP_n runFP_c app_none AV.flats AV.flat came_some List.getElem?_cons_zero List.getElem?_cons_succ beqT wrapI idxI tdivI tmodI decT decF ibT ibF inT inF evScope_c if_pos if_neg Cm_some thenW_n thenW_e thenW_r blkW_n blkW_e blkW_r goI kn putAt AV.cells fillA loadA takeA mk Eff.isAll Eff.isNone Eff.commutes Eff.spares okPair apart eqAgg fits LK.fits allEq aveq eqk mmA
section
variable {M : List (List Int)}
def nb (M : List (List Int)) (L : List Nat) (c x y : Nat) : Prop := 0 < ent M x y → clN M y = c → clN M x ≠ c → x ∈ L
theorem c75_y (J : CallF) (hm : isMat M = true) {H : Heap} {qm qc qp c x : Nat} {L : List Nat} (gm : H.get qm = .cells 0 65 (matC M)) (gc : H.get qc = .cells 1 M.length (gs (clsL M))) (gp : H.get qp = .map (st L)) (hx : x < M.length) : ∀ d y, y + d = M.length →
    ((∀ z, y ≤ z → nb M L c x z) → Tr tbl J c75_l0 (fun s h => h = H ∧ s.get [false] = .slice qc 0 M.length M.length ∧ s.get [true] = .map qp ∧ s.get [false, false] = G c ∧ s.get [true, false] = .ptr qm 0 65 ∧ s.get [false, true, false] = G x ∧ s.get [true, false, true] = G M.length ∧ s.get [false, true, true] = G x ∧ s.get [false, true, false, false] = G M.length ∧ s.get [true, true, false, false] = G y) (.exit 2) (fun s h => h = H ∧ s.get [false] = .slice qc 0 M.length M.length ∧ s.get [true] = .map qp ∧ s.get [false, false] = G c ∧ s.get [true, false] = .ptr qm 0 65 ∧ s.get [true, false, true] = G M.length ∧ s.get [false, true, true] = G x)) ∧
    ((¬ ∀ z, y ≤ z → nb M L c x z) → Tr tbl J c75_l0 (fun s h => h = H ∧ s.get [false] = .slice qc 0 M.length M.length ∧ s.get [true] = .map qp ∧ s.get [false, false] = G c ∧ s.get [true, false] = .ptr qm 0 65 ∧ s.get [false, true, false] = G x ∧ s.get [true, false, true] = G M.length ∧ s.get [false, true, true] = G x ∧ s.get [false, true, false, false] = G M.length ∧ s.get [true, true, false, false] = G y) .ret (fun s h => s.get [true, false, false] = .bool false)) := by
  have h8 := isMat_n hm
  have lm := matC_len M
  intro d
  induction d with
  | zero =>
    intro y hy
    refine ⟨fun _ => Tr.out ?_ (by simp), fun n => absurd (fun z hz e => by have := (ent_lt hm e).2; omega) n⟩
    refine Tr.w fun s1 H1 hp R kR => W.trim ?_
    obtain ⟨rfl, q⟩ := hp
    refine W.seq (W.chunk ?_)
    simp (disch := first | omega | exact getEq rfl | exact getO0 | exact Nat.le_of_ble_eq_true rfl) [c75_o5, app_growP, app_noneP, plus_N, plus_at0, put_plus0, put_plus1, upd_N, upd_size, q]
    refine W.seq (W.chunk ?_)
    simp (disch := first | omega | exact getEq rfl | exact getO0 | exact Nat.le_of_ble_eq_true rfl) [app_growP, app_noneP, plus_N, plus_at0, put_plus0, put_plus1, upd_N, upd_size, q]
    exact kR _ _ (by simp [T.get, q])
  | succ d ih =>
    intro y hy
    obtain ⟨i1, i2⟩ := ih (y + 1) (by omega)
    have hyn : y < M.length := by omega
    have ga := mapA_at gp
    have ea := matC_at M (i := x) (j := y) (by omega) (by omega)
    have cx : (gs (clsL M))[x]? = some (G (clN M x)) := gl_at _ hx
    have cy : (gs (clsL M))[y]? = some (G (clN M y)) := gl_at _ hyn
    have ea' := getI ea
    have cx' := getI cx
    have cy' := getI cy
    have a0 := (ent_bd hm x y).1
    have fst := find_st x L
    have key : (∀ z, y ≤ z → nb M L c x z) ↔ nb M L c x y ∧ ∀ z, y + 1 ≤ z → nb M L c x z := ⟨fun h => ⟨h y (Nat.le_refl _), fun z hz => h z (by omega)⟩, fun ⟨a, b⟩ z hz => by
      rcases Nat.lt_or_ge y z with l | l
      · exact b z l
      · have : z = y := by omega
        subst this; exact a⟩
    rw [key]
    by_cases cc : 0 < ent M x y ∧ clN M y = c ∧ clN M x ≠ c ∧ x ∉ L
    · obtain ⟨c1, c2, c3, c4⟩ := cc
      refine ⟨fun h => absurd (h.1 c1 c2 c3) c4, fun _ => Tr.out ?_ (by simp)⟩
      rw [c2] at cy cy'
      rw [if_neg c4] at fst
      have c5 : ¬ (clN M x : Int) = c := by omega
      clear i1 i2 ih key c3
      generalize ent M x y = a at *
      generalize clN M x = u at *
      generalize st L = e1 at *
      generalize gs (clsL M) = ccs at *
      generalize matC M = cm at *
      refine Tr.w fun s1 H1 hp R kR => W.trim ?_
      obtain ⟨rfl, q⟩ := hp
      refine W.seq (W.chunk ?_)
      simp (disch := first | omega | exact getEq rfl | exact getO0 | exact Nat.le_of_ble_eq_true rfl) [c75_o5, app_growP, app_noneP, plus_N, plus_at0, put_plus0, put_plus1, upd_N, upd_size, q]
      refine W.seq (W.chunk ?_)
      simp (disch := first | omega | exact getEq rfl | exact getO0 | exact Nat.le_of_ble_eq_true rfl) [app_growP, app_noneP, plus_N, plus_at0, put_plus0, put_plus1, upd_N, upd_size, q]
      refine W.seq (W.block ?_)
      refine W.seq (W.chunk ?_)
      simp (disch := first | omega | exact getEq rfl | exact getO0 | exact Nat.le_of_ble_eq_true rfl) [c75_o6, app_growP, app_noneP, plus_N, plus_at0, put_plus0, put_plus1, upd_N, upd_size, q]
      refine W.seq (W.chunk ?_)
      simp (disch := first | omega | exact getEq rfl | exact getO0 | exact Nat.le_of_ble_eq_true rfl) [c75_o7, app_growP, app_noneP, plus_N, plus_at0, put_plus0, put_plus1, upd_N, upd_size, q, gm, gc, lm, ea, ea', cx, cx', cy, cy', ga, fst, c5]
      refine W.chunk ?_
      simp (disch := first | omega | exact getEq rfl | exact getO0 | exact Nat.le_of_ble_eq_true rfl) [c75_o8, app_growP, app_noneP, plus_N, plus_at0, put_plus0, put_plus1, upd_N, upd_size, q]
      exact kR _ _ (by simp [T.get, q])
    · have h0 : nb M L c x y := fun a b e => Classical.byContradiction fun n => cc ⟨a, b, e, n⟩
      have step : Tr tbl J (.trim [[false], [true], [false, false], [true, false], [false, true, false], [true, false, true], [false, true, true], [false, true, false, false], [true, true, false, false]] c75_b0) (fun s h => h = H ∧ s.get [false] = .slice qc 0 M.length M.length ∧ s.get [true] = .map qp ∧ s.get [false, false] = G c ∧ s.get [true, false] = .ptr qm 0 65 ∧ s.get [false, true, false] = G x ∧ s.get [true, false, true] = G M.length ∧ s.get [false, true, true] = G x ∧ s.get [false, true, false, false] = G M.length ∧ s.get [true, true, false, false] = G y) .normal (fun s h => h = H ∧ s.get [false] = .slice qc 0 M.length M.length ∧ s.get [true] = .map qp ∧ s.get [false, false] = G c ∧ s.get [true, false] = .ptr qm 0 65 ∧ s.get [false, true, false] = G x ∧ s.get [true, false, true] = G M.length ∧ s.get [false, true, true] = G x ∧ s.get [false, true, false, false] = G M.length ∧ s.get [true, true, false, false] = G ((y + 1 : Nat) : Int)) := by
        clear i1 i2 ih key h0
        generalize ent M x y = a at *
        generalize clN M x = u at *
        generalize clN M y = w at *
        by_cases c1 : 0 < a
        · by_cases c2 : w = c
          · subst c2
            by_cases c3 : u = w
            · subst c3
              generalize st L = e1 at *
              generalize gs (clsL M) = ccs at *
              generalize matC M = cm at *
              refine Tr.w fun s1 H1 hp R kR => W.trim ?_
              obtain ⟨rfl, q⟩ := hp
              refine W.seq (W.chunk ?_)
              simp (disch := first | omega | exact getEq rfl | exact getO0 | exact Nat.le_of_ble_eq_true rfl) [c75_o5, app_growP, app_noneP, plus_N, plus_at0, put_plus0, put_plus1, upd_N, upd_size, q]
              refine W.seq (W.chunk ?_)
              simp (disch := first | omega | exact getEq rfl | exact getO0 | exact Nat.le_of_ble_eq_true rfl) [app_growP, app_noneP, plus_N, plus_at0, put_plus0, put_plus1, upd_N, upd_size, q]
              refine W.seq (W.block ?_)
              refine W.seq (W.chunk ?_)
              simp (disch := first | omega | exact getEq rfl | exact getO0 | exact Nat.le_of_ble_eq_true rfl) [c75_o6, app_growP, app_noneP, plus_N, plus_at0, put_plus0, put_plus1, upd_N, upd_size, q]
              refine W.seq (W.chunk ?_)
              simp (disch := first | omega | exact getEq rfl | exact getO0 | exact Nat.le_of_ble_eq_true rfl) [c75_o7, app_growP, app_noneP, plus_N, plus_at0, put_plus0, put_plus1, upd_N, upd_size, q, gm, gc, lm, ea, ea', cx, cx', cy, cy', ga]
              refine W.chunk ?_
              simp (disch := first | omega | exact getEq rfl | exact getO0 | exact Nat.le_of_ble_eq_true rfl) [c75_o8, app_growP, app_noneP, plus_N, plus_at0, put_plus0, put_plus1, upd_N, upd_size, q]
              refine W.chunk ?_
              simp (disch := first | omega | exact getEq rfl | exact getO0 | exact Nat.le_of_ble_eq_true rfl) [c75_o9, app_growP, app_noneP, plus_N, plus_at0, put_plus0, put_plus1, upd_N, upd_size, q]
              exact kR _ _ (by simp [T.get, q])
            · have c4 : x ∈ L := Classical.byContradiction fun n => cc ⟨c1, rfl, c3, n⟩
              rw [if_pos c4] at fst
              have c5 : ¬ (u : Int) = w := by omega
              generalize st L = e1 at *
              generalize gs (clsL M) = ccs at *
              generalize matC M = cm at *
              refine Tr.w fun s1 H1 hp R kR => W.trim ?_
              obtain ⟨rfl, q⟩ := hp
              refine W.seq (W.chunk ?_)
              simp (disch := first | omega | exact getEq rfl | exact getO0 | exact Nat.le_of_ble_eq_true rfl) [c75_o5, app_growP, app_noneP, plus_N, plus_at0, put_plus0, put_plus1, upd_N, upd_size, q]
              refine W.seq (W.chunk ?_)
              simp (disch := first | omega | exact getEq rfl | exact getO0 | exact Nat.le_of_ble_eq_true rfl) [app_growP, app_noneP, plus_N, plus_at0, put_plus0, put_plus1, upd_N, upd_size, q]
              refine W.seq (W.block ?_)
              refine W.seq (W.chunk ?_)
              simp (disch := first | omega | exact getEq rfl | exact getO0 | exact Nat.le_of_ble_eq_true rfl) [c75_o6, app_growP, app_noneP, plus_N, plus_at0, put_plus0, put_plus1, upd_N, upd_size, q]
              refine W.seq (W.chunk ?_)
              simp (disch := first | omega | exact getEq rfl | exact getO0 | exact Nat.le_of_ble_eq_true rfl) [c75_o7, app_growP, app_noneP, plus_N, plus_at0, put_plus0, put_plus1, upd_N, upd_size, q, gm, gc, lm, ea, ea', cx, cx', cy, cy', ga, fst, c5]
              refine W.chunk ?_
              simp (disch := first | omega | exact getEq rfl | exact getO0 | exact Nat.le_of_ble_eq_true rfl) [c75_o8, app_growP, app_noneP, plus_N, plus_at0, put_plus0, put_plus1, upd_N, upd_size, q]
              refine W.chunk ?_
              simp (disch := first | omega | exact getEq rfl | exact getO0 | exact Nat.le_of_ble_eq_true rfl) [c75_o9, app_growP, app_noneP, plus_N, plus_at0, put_plus0, put_plus1, upd_N, upd_size, q]
              exact kR _ _ (by simp [T.get, q])
          · have c5 : ¬ (w : Int) = c := by omega
            generalize st L = e1 at *
            generalize gs (clsL M) = ccs at *
            generalize matC M = cm at *
            refine Tr.w fun s1 H1 hp R kR => W.trim ?_
            obtain ⟨rfl, q⟩ := hp
            refine W.seq (W.chunk ?_)
            simp (disch := first | omega | exact getEq rfl | exact getO0 | exact Nat.le_of_ble_eq_true rfl) [c75_o5, app_growP, app_noneP, plus_N, plus_at0, put_plus0, put_plus1, upd_N, upd_size, q]
            refine W.seq (W.chunk ?_)
            simp (disch := first | omega | exact getEq rfl | exact getO0 | exact Nat.le_of_ble_eq_true rfl) [app_growP, app_noneP, plus_N, plus_at0, put_plus0, put_plus1, upd_N, upd_size, q]
            refine W.seq (W.block ?_)
            refine W.seq (W.chunk ?_)
            simp (disch := first | omega | exact getEq rfl | exact getO0 | exact Nat.le_of_ble_eq_true rfl) [c75_o6, app_growP, app_noneP, plus_N, plus_at0, put_plus0, put_plus1, upd_N, upd_size, q]
            refine W.seq (W.chunk ?_)
            simp (disch := first | omega | exact getEq rfl | exact getO0 | exact Nat.le_of_ble_eq_true rfl) [c75_o7, app_growP, app_noneP, plus_N, plus_at0, put_plus0, put_plus1, upd_N, upd_size, q, gm, gc, lm, ea, ea', cx, cx', cy, cy', ga, c5]
            refine W.chunk ?_
            simp (disch := first | omega | exact getEq rfl | exact getO0 | exact Nat.le_of_ble_eq_true rfl) [c75_o8, app_growP, app_noneP, plus_N, plus_at0, put_plus0, put_plus1, upd_N, upd_size, q]
            refine W.chunk ?_
            simp (disch := first | omega | exact getEq rfl | exact getO0 | exact Nat.le_of_ble_eq_true rfl) [c75_o9, app_growP, app_noneP, plus_N, plus_at0, put_plus0, put_plus1, upd_N, upd_size, q]
            exact kR _ _ (by simp [T.get, q])
        · generalize st L = e1 at *
          generalize gs (clsL M) = ccs at *
          generalize matC M = cm at *
          refine Tr.w fun s1 H1 hp R kR => W.trim ?_
          obtain ⟨rfl, q⟩ := hp
          refine W.seq (W.chunk ?_)
          simp (disch := first | omega | exact getEq rfl | exact getO0 | exact Nat.le_of_ble_eq_true rfl) [c75_o5, app_growP, app_noneP, plus_N, plus_at0, put_plus0, put_plus1, upd_N, upd_size, q]
          refine W.seq (W.chunk ?_)
          simp (disch := first | omega | exact getEq rfl | exact getO0 | exact Nat.le_of_ble_eq_true rfl) [app_growP, app_noneP, plus_N, plus_at0, put_plus0, put_plus1, upd_N, upd_size, q]
          refine W.seq (W.block ?_)
          refine W.seq (W.chunk ?_)
          simp (disch := first | omega | exact getEq rfl | exact getO0 | exact Nat.le_of_ble_eq_true rfl) [c75_o6, app_growP, app_noneP, plus_N, plus_at0, put_plus0, put_plus1, upd_N, upd_size, q]
          refine W.seq (W.chunk ?_)
          simp (disch := first | omega | exact getEq rfl | exact getO0 | exact Nat.le_of_ble_eq_true rfl) [c75_o7, app_growP, app_noneP, plus_N, plus_at0, put_plus0, put_plus1, upd_N, upd_size, q, gm, gc, lm, ea, ea', cx, cx', cy, cy', ga]
          refine W.chunk ?_
          simp (disch := first | omega | exact getEq rfl | exact getO0 | exact Nat.le_of_ble_eq_true rfl) [c75_o8, app_growP, app_noneP, plus_N, plus_at0, put_plus0, put_plus1, upd_N, upd_size, q]
          refine W.chunk ?_
          simp (disch := first | omega | exact getEq rfl | exact getO0 | exact Nat.le_of_ble_eq_true rfl) [c75_o9, app_growP, app_noneP, plus_N, plus_at0, put_plus0, put_plus1, upd_N, upd_size, q]
          exact kR _ _ (by simp [T.get, q])
      exact ⟨fun h => Tr.next step (i1 h.2), fun h => Tr.next step (i2 fun g => h ⟨h0, g⟩)⟩
theorem c75_x (J : CallF) (hm : isMat M = true) {H : Heap} {qm qc qp c : Nat} {L : List Nat} (gm : H.get qm = .cells 0 65 (matC M)) (gc : H.get qc = .cells 1 M.length (gs (clsL M))) (gp : H.get qp = .map (st L)) : ∀ d x, x + d = M.length →
    ((∀ z, x ≤ z → ∀ w, nb M L c z w) → Tr tbl J c75_l1 (fun s h => h = H ∧ s.get [false] = .slice qc 0 M.length M.length ∧ s.get [true] = .map qp ∧ s.get [false, false] = G c ∧ s.get [true, false] = .ptr qm 0 65 ∧ s.get [true, false, true] = G M.length ∧ s.get [false, true, true] = G x) (.exit 0) (fun s h => h = H)) ∧
    ((¬ ∀ z, x ≤ z → ∀ w, nb M L c z w) → Tr tbl J c75_l1 (fun s h => h = H ∧ s.get [false] = .slice qc 0 M.length M.length ∧ s.get [true] = .map qp ∧ s.get [false, false] = G c ∧ s.get [true, false] = .ptr qm 0 65 ∧ s.get [true, false, true] = G M.length ∧ s.get [false, true, true] = G x) .ret (fun s h => s.get [true, false, false] = .bool false)) := by
  have h8 := isMat_n hm
  have lm := matC_len M
  have e0 : (matC M)[0]? = some (G M.length) := rfl
  have e0' := getI e0
  intro d
  induction d with
  | zero =>
    intro x hx
    refine ⟨fun _ => Tr.out ?_ (by simp), fun n => absurd (fun z hz w e => by have := (ent_lt hm e).1; omega) n⟩
    refine Tr.w fun s1 H1 hp R kR => W.trim ?_
    obtain ⟨rfl, q⟩ := hp
    refine W.seq (W.chunk ?_)
    simp (disch := first | omega | exact getEq rfl | exact getO0 | exact Nat.le_of_ble_eq_true rfl) [c75_o2, app_growP, app_noneP, plus_N, plus_at0, put_plus0, put_plus1, upd_N, upd_size, q]
    refine W.seq (W.chunk ?_)
    simp (disch := first | omega | exact getEq rfl | exact getO0 | exact Nat.le_of_ble_eq_true rfl) [app_growP, app_noneP, plus_N, plus_at0, put_plus0, put_plus1, upd_N, upd_size, q]
    exact kR _ _ rfl
  | succ d ih =>
    intro x hx
    obtain ⟨i1, i2⟩ := ih (x + 1) (by omega)
    have hxn : x < M.length := by omega
    obtain ⟨j1, j2⟩ := c75_y (c := c) J hm gm gc gp hxn M.length 0 (by omega)
    have key : (∀ z, x ≤ z → ∀ w, nb M L c z w) ↔ (∀ z, 0 ≤ z → nb M L c x z) ∧ ∀ z, x + 1 ≤ z → ∀ w, nb M L c z w := ⟨fun h => ⟨fun z _ => h x (Nat.le_refl _) z, fun z hz => h z (by omega)⟩, fun ⟨a, b⟩ z hz => by
      rcases Nat.lt_or_ge x z with l | l
      · exact b z l
      · have : z = x := by omega
        subst this; exact fun w => a w (Nat.zero_le _)⟩
    rw [key]
    by_cases cc : ∀ z, 0 ≤ z → nb M L c x z
    · have l0 := j1 cc
      have step : Tr tbl J (.trim [[false], [true], [false, false], [true, false], [true, false, true], [false, true, true]] c75_b1) (fun s h => h = H ∧ s.get [false] = .slice qc 0 M.length M.length ∧ s.get [true] = .map qp ∧ s.get [false, false] = G c ∧ s.get [true, false] = .ptr qm 0 65 ∧ s.get [true, false, true] = G M.length ∧ s.get [false, true, true] = G x) .normal (fun s h => h = H ∧ s.get [false] = .slice qc 0 M.length M.length ∧ s.get [true] = .map qp ∧ s.get [false, false] = G c ∧ s.get [true, false] = .ptr qm 0 65 ∧ s.get [true, false, true] = G M.length ∧ s.get [false, true, true] = G ((x + 1 : Nat) : Int)) := by
        clear i1 i2 ih key j1 j2
        refine Tr.w fun s1 H1 hp R kR => W.trim ?_
        obtain ⟨rfl, q⟩ := hp
        refine W.seq (W.chunk ?_)
        simp (disch := first | omega | exact getEq rfl | exact getO0 | exact Nat.le_of_ble_eq_true rfl) [c75_o2, app_growP, app_noneP, plus_N, plus_at0, put_plus0, put_plus1, upd_N, upd_size, q]
        refine W.seq (W.chunk ?_)
        simp (disch := first | omega | exact getEq rfl | exact getO0 | exact Nat.le_of_ble_eq_true rfl) [app_growP, app_noneP, plus_N, plus_at0, put_plus0, put_plus1, upd_N, upd_size, q]
        refine W.seq (W.block ?_)
        refine W.seq (W.chunk ?_)
        simp (disch := first | omega | exact getEq rfl | exact getO0 | exact Nat.le_of_ble_eq_true rfl) [c75_o3, app_growP, app_noneP, plus_N, plus_at0, put_plus0, put_plus1, upd_N, upd_size, q]
        refine W.seq (W.chunk ?_)
        simp (disch := first | omega | exact getEq rfl | exact getO0 | exact Nat.le_of_ble_eq_true rfl) [c75_o4, app_growP, app_noneP, plus_N, plus_at0, put_plus0, put_plus1, upd_N, upd_size, q, gm, lm, e0, e0']
        refine W.block ?_
        refine W.use (l0) (by simp (disch := first | omega | exact getEq rfl | exact getO0 | exact Nat.le_of_ble_eq_true rfl) [app_growP, app_noneP, plus_N, plus_at0, put_plus0, put_plus1, upd_N, upd_size, q]) fun s1 H1 hp => ?_
        obtain ⟨rfl, q⟩ := hp
        try simp only [thenW_n, thenW_e, thenW_r, blkW_n, blkW_e, blkW_r, if_true]
        refine W.chunk ?_
        simp (disch := first | omega | exact getEq rfl | exact getO0 | exact Nat.le_of_ble_eq_true rfl) [c75_o10, app_growP, app_noneP, plus_N, plus_at0, put_plus0, put_plus1, upd_N, upd_size, q]
        exact kR _ _ (by simp [T.get, q])
      exact ⟨fun h => Tr.next step (i1 h.2), fun h => Tr.next step (i2 fun g => h ⟨cc, g⟩)⟩
    · have l0 := j2 cc
      refine ⟨fun h => absurd h.1 cc, fun _ => Tr.out ?_ (by simp)⟩
      clear i1 i2 ih key j1 j2
      refine Tr.w fun s1 H1 hp R kR => W.trim ?_
      obtain ⟨rfl, q⟩ := hp
      refine W.seq (W.chunk ?_)
      simp (disch := first | omega | exact getEq rfl | exact getO0 | exact Nat.le_of_ble_eq_true rfl) [c75_o2, app_growP, app_noneP, plus_N, plus_at0, put_plus0, put_plus1, upd_N, upd_size, q]
      refine W.seq (W.chunk ?_)
      simp (disch := first | omega | exact getEq rfl | exact getO0 | exact Nat.le_of_ble_eq_true rfl) [app_growP, app_noneP, plus_N, plus_at0, put_plus0, put_plus1, upd_N, upd_size, q]
      refine W.seq (W.block ?_)
      refine W.seq (W.chunk ?_)
      simp (disch := first | omega | exact getEq rfl | exact getO0 | exact Nat.le_of_ble_eq_true rfl) [c75_o3, app_growP, app_noneP, plus_N, plus_at0, put_plus0, put_plus1, upd_N, upd_size, q]
      refine W.seq (W.chunk ?_)
      simp (disch := first | omega | exact getEq rfl | exact getO0 | exact Nat.le_of_ble_eq_true rfl) [c75_o4, app_growP, app_noneP, plus_N, plus_at0, put_plus0, put_plus1, upd_N, upd_size, q, gm, lm, e0, e0']
      refine W.block ?_
      refine W.use (l0) (by simp (disch := first | omega | exact getEq rfl | exact getO0 | exact Nat.le_of_ble_eq_true rfl) [app_growP, app_noneP, plus_N, plus_at0, put_plus0, put_plus1, upd_N, upd_size, q]) fun s1 H1 hp => ?_
      obtain q := hp
      try simp only [thenW_n, thenW_e, thenW_r, blkW_n, blkW_e, blkW_r, if_true]
      exact kR _ _ hp
def rdQ (M : List (List Int)) (L : List Nat) (c : Nat) : Prop := ∀ u v, 0 < ent M u v → clN M v = c → clN M u ≠ c → u ∈ L
theorem rdQ_iff {L : List Nat} {c : Nat} : (∀ z, 0 ≤ z → ∀ w, nb M L c z w) ↔ rdQ M L c := ⟨fun h u v => h u (Nat.zero_le _) v, fun h z _ w => h z w⟩
open Classical in
theorem c75_ok (J : CallF) (hm : isMat M = true) (hJ : ∀ a h, J 75 a h = none) (h : Heap) {qc qp c : Nat} {L : List Nat} (gc : h.get qc = .cells 1 M.length (gs (clsL M))) (gp : h.get qp = .map (st L)) : CallsTo tbl J 75 [.agg (matC M), .slice qc 0 M.length M.length, .map qp, G c] h (.bool (decide (rdQ M L c)), [], false) := by
  refine Tr.fnv (cf := c75) (e := .ret) (s := T.set (T.set (T.set (T.set .leaf [] (.agg (matC M))) [false] (.slice qc 0 M.length M.length)) [true] (.map qp)) [false, false] (G c)) (by decide) rfl (hJ _ _) rfl rfl rfl (by simp) ?_
  have lm := matC_len M
  have h8 := isMat_n hm
  have et : (matC M).take 65 = matC M := List.take_of_length_le (by omega)
  have e0 : (matC M)[0]? = some (G M.length) := rfl
  have e0' := getI e0
  have fs := fr_size h
  have gm : ((frameOf h).plus [.cells 0 65 (matC M)]).get h.size = .cells 0 65 (matC M) := plus_at0 _ _ _ _ fs
  have gc1 : ((frameOf h).plus [.cells 0 65 (matC M)]).get qc = .cells 1 M.length (gs (clsL M)) := plus_keep _ (by rw [frame_get]; exact gc) (by simp)
  have gp1 : ((frameOf h).plus [.cells 0 65 (matC M)]).get qp = .map (st L) := plus_keep _ (by rw [frame_get]; exact gp) (by simp)
  obtain ⟨j1, j2⟩ := c75_x (c := c) J hm gm gc1 gp1 M.length 0 (by omega)
  rw [rdQ_iff] at j1 j2
  refine Tr.w fun s1 H1 hp R kR => ?_
  obtain ⟨rfl, rfl⟩ := hp
  have q : True := trivial
  by_cases cc : rdQ M L c
  · have l1 := j1 cc
    rw [decide_eq_true cc] at kR
    clear j1 j2
    generalize matC M = cm at *
    refine W.seq (W.chunk ?_)
    simp (disch := first | omega | exact getEq rfl | exact getO0 | exact Nat.le_of_ble_eq_true rfl) [c75_o0, app_growP, app_noneP, plus_N, plus_at0, put_plus0, put_plus1, upd_N, upd_size, q, fs, lm]
    refine W.assoc ?_
    refine W.seq (W.chunk ?_)
    simp (disch := first | omega | exact getEq rfl | exact getO0 | exact Nat.le_of_ble_eq_true rfl) [c75_o1, app_growP, app_noneP, plus_N, plus_at0, put_plus0, put_plus1, upd_N, upd_size, q, gm, lm, e0, e0']
    refine W.seq (W.block ?_)
    refine W.use (l1) (by simp (disch := first | omega | exact getEq rfl | exact getO0 | exact Nat.le_of_ble_eq_true rfl) [app_growP, app_noneP, plus_N, plus_at0, put_plus0, put_plus1, upd_N, upd_size, q]) fun s1 H1 hp => ?_
    obtain rfl := hp
    try simp only [thenW_n, thenW_e, thenW_r, blkW_n, blkW_e, blkW_r, if_true]
    refine W.seq (W.chunk ?_)
    simp (disch := first | omega | exact getEq rfl | exact getO0 | exact Nat.le_of_ble_eq_true rfl) [c75_o11, app_growP, app_noneP, plus_N, plus_at0, put_plus0, put_plus1, upd_N, upd_size, q]
    refine W.ret ?_
    try simp only [thenW_n, thenW_e, thenW_r, blkW_n, blkW_e, blkW_r, if_true]
    exact kR _ _ ⟨[.bool true], by simp [T.get, c75, evRess, evRes], rfl⟩
  · have l1 := j2 cc
    rw [decide_eq_false cc] at kR
    clear j1 j2
    generalize matC M = cm at *
    refine W.seq (W.chunk ?_)
    simp (disch := first | omega | exact getEq rfl | exact getO0 | exact Nat.le_of_ble_eq_true rfl) [c75_o0, app_growP, app_noneP, plus_N, plus_at0, put_plus0, put_plus1, upd_N, upd_size, q, fs, lm]
    refine W.assoc ?_
    refine W.seq (W.chunk ?_)
    simp (disch := first | omega | exact getEq rfl | exact getO0 | exact Nat.le_of_ble_eq_true rfl) [c75_o1, app_growP, app_noneP, plus_N, plus_at0, put_plus0, put_plus1, upd_N, upd_size, q, gm, lm, e0, e0']
    refine W.seq (W.block ?_)
    refine W.use (l1) (by simp (disch := first | omega | exact getEq rfl | exact getO0 | exact Nat.le_of_ble_eq_true rfl) [app_growP, app_noneP, plus_N, plus_at0, put_plus0, put_plus1, upd_N, upd_size, q]) fun s1 H1 hp => ?_
    obtain q := hp
    try simp only [thenW_n, thenW_e, thenW_r, blkW_n, blkW_e, blkW_r, if_true]
    exact kR _ _ ⟨[.bool false], by simp [T.get, c75, evRess, evRes, hp], rfl⟩
end
structure A75 where
  M : List (List Int)
  qc : Nat
  qp : Nat
  c : Nat
  L : List Nat
def Ok75 (a : A75) (h : Heap) : Prop := isMat a.M = true ∧ h.get a.qc = .cells 1 a.M.length (gs (clsL a.M)) ∧ h.get a.qp = .map (st a.L)
def Pre75 (a : A75) (args : List AV) (h : Heap) : Prop := Ok75 a h ∧ args = [.agg (matC a.M), .slice a.qc 0 a.M.length a.M.length, .map a.qp, G a.c]
open Classical in
def Post75 (a : A75) (h : Heap) (v : AV) (own : List AObj) : Prop := v = .bool (decide (rdQ a.M a.L a.c)) ∧ own = []
noncomputable def T30 : CallF := addK tbl T29 75 Pre75 Post75
theorem t30 : Sound Go.Proofs.Try.prog T30 := Sound.addK follows ok t29 (by decide) _ _
open Classical in
abbrev K75 (J : CallF) : Prop := ∀ (h : Heap) (a : A75), Ok75 a h → J 75 [.agg (matC a.M), .slice a.qc 0 a.M.length a.M.length, .map a.qp, G a.c] h = some (.bool (decide (rdQ a.M a.L a.c)), [], false)
theorem k75 : K75 T30 := fun h a ha => by
  obtain ⟨v, own, e, rfl, rfl⟩ := addK_some (tbl := tbl) (I := T29) (f := 75) (Pre := Pre75) (Post := Post75) (fun a args h hp => by
    obtain ⟨⟨hm, g1, g2⟩, rfl⟩ := hp
    exact ⟨_, _, c75_ok T29 hm (fun _ _ => by simp (disch := decide) only [T29, T28, T27, T26, T25, T24, T23, T22, T21, T20, T19, T18, T17, T16, T15, T14, T13, T12, T11, T10, T9, T8, T7, T6, T5, T4, T3, T2, T1, R21, R20, R19, R18, R17, R16, R15, R14, R13, R12, R11, R10, R9, R8, R7, R6, R5, R4, R3, R2, R1, addI_ne, addX_ne, addV_ne, addK_ne]; rfl) h g1 g2, rfl, rfl⟩) a _ h ⟨ha, rfl⟩
  exact e
end Go.Proofs.Ytjeemgaoonapgaa.Ev
set_option linter.unusedVariables false
set_option linter.unusedSimpArgs false
namespace Go.Proofs.Ytjeemgaoonapgaa.Ev
open Go Go.AEv
attribute [local simp] evFunc initS evOps_c evTrim_c evSkip_c evExit_c evRet_c evSeq_c evCond_c evBlock_c evDraw_c runOps_n runOps_c exec_n exec_g pure1_c act AOpd.ev T.get T.set T.put evBin evUn forceT_eq forceV_eq forceL_eq evRess evRes one keep runFP_n runFP_c app_none AV.flats AV.flat came_some List.getElem?_cons_zero List.getElem?_cons_succ beqT wrapI idxI tdivI tmodI decT decF ibT ibF inT inF evScope_c if_pos if_neg Cm_some thenW_n thenW_e thenW_r blkW_n blkW_e blkW_r goI kn putAt AV.cells fillA loadA takeA mk Eff.isAll Eff.isNone Eff.commutes Eff.spares okPair apart eqAgg fits LK.fits allEq aveq eqk mmA
theorem Kp.both {A B : Heap} {b : Nat} {X : AObj} (k : Kp (fun _ => False) A B) (hN : A.N ≤ b) (hb : b < A.size) : Kp (fun _ => False) (A.upd b X) (B.upd b X) := by
  have hs := k.size
  have hNB : B.N ≤ b := by rw [k.N]; exact hN
  refine ⟨k.lo, k.N, by rw [upd_size, upd_size]; exact hs, fun i hi hm => ?_⟩
  rw [upd_size] at hi
  by_cases e : i = b
  · subst e
    rw [upd_same _ _ _ hN hb, upd_same _ _ _ hNB (by omega)]
  · rw [upd_ne _ _ _ _ hN (fun q => e q.symm), upd_ne _ _ _ _ hNB (fun q => e q.symm)]
    exact k.get i hi hm
theorem NG.both {A B : Heap} {b : Nat} {X : AObj} {x : AV} {L : List Int} (t : NG A B x L) (hN : A.N ≤ b) (hb : b < A.size) : NG (A.upd b X) (B.upd b X) x L :=
  ⟨Kp.both t.k hN hb, fun q hq => by rw [upd_size]; exact t.x0 q hq, t.l.kp (Kp.upd (M := fun i => i = b) B b X (by rw [t.k.N]; exact hN) rfl) (fun q hq e => by have := t.x0 q hq; omega)⟩
theorem TB.updm {H0 H : Heap} {b : Nat} {X : AObj} {x : AV} {R : List (List AV)} {es : List (AV × AV)} (t : TB H0 H x R) (hN : H.N ≤ b) (hb : H0.size ≤ b) (g : H.get b = .map es) : TB H0 (H.upd b X) x R := by
  obtain ⟨rs, lv, hl, hr⟩ := t.r
  refine ⟨t.k.updn _ _ hN hb, t.x0, rs, lv.kp (Kp.upd (M := fun i => i = b) H b X hN rfl) (fun q hq e => ?_), hl, fun i r hi => ?_⟩
  · subst e
    rcases lv with ⟨rfl, _⟩ | ⟨b', rfl, g', _⟩
    · cases hq
    · cases hq; rw [g] at g'; cases g'
  · obtain ⟨cs, b', h1, h2, h3, h4, h5⟩ := hr i r hi
    refine ⟨cs, b', h1, h2, ?_, h4, h5⟩
    rw [upd_ne _ _ _ _ hN (fun e => by subst e; rw [g] at h3; cases h3)]
    exact h3
section
variable {M : List (List Int)}
structure S48 (Hb h : Heap) (M : List (List Int)) (P : List Nat) (c k : Nat) (x8 x10 : AV) : Prop where
  e : ∃ Hr L, TB Hb Hr x8 (bkC M P) ∧ Hr.get Hb.size = .map (st L) ∧ PK M P c k L ∧ NG Hr h x10 (cmL M c k)
theorem c48_m (J : CallF) (hm : isMat M = true) {Hb : Heap} {qm qc c : Nat} {P : List Nat} {x8 : AV} (gm : Hb.get qm = .cells 0 65 (matC M)) (gc : Hb.get qc = .cells 1 M.length (gs (clsL M))) (hc : c ∉ P) :
    Tr tbl J c48_l0 (fun s h => ∃ x10, S48 Hb h M P c 0 x8 x10 ∧ s.get [true, false] = .ptr qm 0 65 ∧ s.get [true, true] = .slice qc 0 M.length M.length ∧ s.get [false, false, false] = .map Hb.size ∧ s.get [true, false, false] = x8 ∧ s.get [false, true, false] = G c ∧ s.get [true, true, false] = x10 ∧ s.get [true, false, true, false, true] = G M.length ∧ s.get [false, true, true, false, true] = G ((0 : Nat) : Int)) (.exit 4)
      (fun s h => ∃ x10, S48 Hb h M P c M.length x8 x10 ∧ s.get [true, false] = .ptr qm 0 65 ∧ s.get [true, true] = .slice qc 0 M.length M.length ∧ s.get [false, false, false] = .map Hb.size ∧ s.get [true, false, false] = x8 ∧ s.get [true, true, false] = x10) := by
  have h8 := isMat_n hm
  refine Tr.rounds (P := fun k s h => ∃ x10, S48 Hb h M P c k x8 x10 ∧ s.get [true, false] = .ptr qm 0 65 ∧ s.get [true, true] = .slice qc 0 M.length M.length ∧ s.get [false, false, false] = .map Hb.size ∧ s.get [true, false, false] = x8 ∧ s.get [false, true, false] = G c ∧ s.get [true, true, false] = x10 ∧ s.get [true, false, true, false, true] = G M.length ∧ s.get [false, true, true, false, true] = G k) (M := M.length) (fun k hk => ?_) ?_ (by simp) 0 (by omega)
  · refine Tr.w fun s1 H1 hp R kR => W.trim ?_
    obtain ⟨x10, ⟨Hr, L, tb, gp, pk, ng⟩, q⟩ := hp
    have gc1 := ng.k.at (tb.k.at gc (by simp) id) (by simp) id
    have ck : (gs (clsL M))[k]? = some (G (clN M k)) := gl_at _ hk
    have ck' := getI ck
    by_cases cc : clN M k = c
    · obtain ⟨pk2, ei⟩ := pk.take hk cc hc
      obtain ⟨x1, e, h2, q1, q2, ng2, _⟩ := ng.app H1.size (k : Int) (by have := cmL_len (M := M) c k; omega)
      rw [← cmL_t cc] at ng2
      have f1 := app1_at H1 (G (k : Int))
      have gp2 := ng2.k.at gp (by simp) id
      have ga := mapA_at gp2
      have pst := put_st k L
      have hN : Hr.N ≤ Hb.size := by rw [tb.k.N]; unfold Heap.size; omega
      have hN2 : h2.N ≤ Hb.size := by rw [ng2.k.N]; exact hN
      have mp := mput_gen h2 Hb.size (st L) (st (ins k L)) hN2 gp2
      have hlt := get_lt gp (by simp)
      have ng3 := ng2.both (X := .map (st (ins k L))) hN hlt
      have tb3 := tb.updm (X := .map (st (ins k L))) hN (Nat.le_refl _) gp
      have gp3 := upd_same Hr Hb.size (.map (st (ins k L))) hN hlt
      rw [← ei] at pk2
      rw [cc] at ck ck'
      have fin : S48 Hb (h2.upd Hb.size (.map (st (ins k L)))) M P c (k + 1) x8 x1 := ⟨_, _, tb3, gp3, pk2, ng3⟩
      clear tb ng ng2 pk pk2 ng3 tb3 gp3 ei
      generalize ins k L = L2 at *
      generalize st L2 = e2 at *
      generalize st L = e1 at *
      generalize gs (clsL M) = ccs at *
      refine W.seq (W.chunk ?_)
      simp (disch := first | omega | exact getEq rfl | exact getO0 | exact Nat.le_of_ble_eq_true rfl) [c48_o14, app_growP, app_noneP, plus_N, plus_at0, put_plus0, put_plus1, upd_N, upd_size, q]
      refine W.seq (W.chunk ?_)
      simp (disch := first | omega | exact getEq rfl | exact getO0 | exact Nat.le_of_ble_eq_true rfl) [app_growP, app_noneP, plus_N, plus_at0, put_plus0, put_plus1, upd_N, upd_size, q]
      refine W.seq (W.block ?_)
      refine W.seq (W.chunk ?_)
      simp (disch := first | omega | exact getEq rfl | exact getO0 | exact Nat.le_of_ble_eq_true rfl) [c48_o15, app_growP, app_noneP, plus_N, plus_at0, put_plus0, put_plus1, upd_N, upd_size, q]
      refine W.seq (W.chunk ?_)
      simp (disch := first | omega | exact getEq rfl | exact getO0 | exact Nat.le_of_ble_eq_true rfl) [c48_o16, app_growP, app_noneP, plus_N, plus_at0, put_plus0, put_plus1, upd_N, upd_size, q, gc1, ck, ck']
      refine W.cond (v := true) (by simp (disch := first | omega | exact getEq rfl | exact getO0 | exact Nat.le_of_ble_eq_true rfl) [app_growP, app_noneP, plus_N, plus_at0, put_plus0, put_plus1, upd_N, upd_size, q]) ?_
      simp only [if_true, if_false, Bool.false_eq_true]
      refine W.seq (W.chunk ?_)
      simp (disch := first | omega | exact getEq rfl | exact getO0 | exact Nat.le_of_ble_eq_true rfl) [c48_o17, app_growP, app_noneP, plus_N, plus_at0, put_plus0, put_plus1, upd_N, upd_size, q, elems, rdOf, f1, q1, q2]
      refine W.chunk ?_
      simp (disch := first | omega | exact getEq rfl | exact getO0 | exact Nat.le_of_ble_eq_true rfl) [c48_o18, app_growP, app_noneP, plus_N, plus_at0, put_plus0, put_plus1, upd_N, upd_size, q, ga, pst, mp]
      refine W.chunk ?_
      simp (disch := first | omega | exact getEq rfl | exact getO0 | exact Nat.le_of_ble_eq_true rfl) [c48_o19, app_growP, app_noneP, plus_N, plus_at0, put_plus0, put_plus1, upd_N, upd_size, q]
      exact kR _ _ ⟨x1, fin, by simp [T.get, q]⟩
    · have fin : S48 Hb H1 M P c (k + 1) x8 x10 := ⟨Hr, L, tb, gp, pk.skip cc, by rw [cmL_f cc]; exact ng⟩
      have cc' : ¬ (clN M k : Int) = c := by omega
      clear tb ng pk gp
      generalize clN M k = u at *
      generalize gs (clsL M) = ccs at *
      refine W.seq (W.chunk ?_)
      simp (disch := first | omega | exact getEq rfl | exact getO0 | exact Nat.le_of_ble_eq_true rfl) [c48_o14, app_growP, app_noneP, plus_N, plus_at0, put_plus0, put_plus1, upd_N, upd_size, q]
      refine W.seq (W.chunk ?_)
      simp (disch := first | omega | exact getEq rfl | exact getO0 | exact Nat.le_of_ble_eq_true rfl) [app_growP, app_noneP, plus_N, plus_at0, put_plus0, put_plus1, upd_N, upd_size, q]
      refine W.seq (W.block ?_)
      refine W.seq (W.chunk ?_)
      simp (disch := first | omega | exact getEq rfl | exact getO0 | exact Nat.le_of_ble_eq_true rfl) [c48_o15, app_growP, app_noneP, plus_N, plus_at0, put_plus0, put_plus1, upd_N, upd_size, q]
      refine W.seq (W.chunk ?_)
      simp (disch := first | omega | exact getEq rfl | exact getO0 | exact Nat.le_of_ble_eq_true rfl) [c48_o16, app_growP, app_noneP, plus_N, plus_at0, put_plus0, put_plus1, upd_N, upd_size, q, gc1, ck, ck']
      refine W.chunk ?_
      simp (disch := first | omega | exact getEq rfl | exact getO0 | exact Nat.le_of_ble_eq_true rfl) [c48_o17, c48_o18, app_growP, app_noneP, plus_N, plus_at0, put_plus0, put_plus1, upd_N, upd_size, q]
      refine W.chunk ?_
      simp (disch := first | omega | exact getEq rfl | exact getO0 | exact Nat.le_of_ble_eq_true rfl) [c48_o19, app_growP, app_noneP, plus_N, plus_at0, put_plus0, put_plus1, upd_N, upd_size, q]
      exact kR _ _ ⟨x10, fin, by simp [T.get, q]⟩
  · refine Tr.w fun s1 H1 hp R kR => W.trim ?_
    obtain ⟨x10, s8, q⟩ := hp
    refine W.seq (W.chunk ?_)
    simp (disch := first | omega | exact getEq rfl | exact getO0 | exact Nat.le_of_ble_eq_true rfl) [c48_o14, app_growP, app_noneP, plus_N, plus_at0, put_plus0, put_plus1, upd_N, upd_size, q]
    refine W.seq (W.chunk ?_)
    simp (disch := first | omega | exact getEq rfl | exact getO0 | exact Nat.le_of_ble_eq_true rfl) [app_growP, app_noneP, plus_N, plus_at0, put_plus0, put_plus1, upd_N, upd_size, q]
    exact kR _ _ ⟨x10, s8, by simp [T.get, q]⟩
structure T48 (Hb h : Heap) (M : List (List Int)) (P L : List Nat) (x8 : AV) : Prop where
  tb : TB Hb h x8 (bkC M P)
  gp : h.get Hb.size = .map (st L)
  pn : PN M P L
theorem S48.init {Hb h : Heap} {P L : List Nat} {x8 : AV} (t : T48 Hb h M P L x8) (c : Nat) : S48 Hb h M P c 0 x8 .nils := ⟨h, L, t.tb, t.gp, t.pn.start c, NG.nil h⟩
theorem S48.done {Hb h : Heap} {P : List Nat} {c : Nat} {x8 x10 : AV} (hc : clN M c = c) (hcn : c < M.length) (hl : P.length ≤ 8) (t : S48 Hb h M P c M.length x8 x10) :
    ∃ b n, x10 = .slice b 0 n n ∧ ∃ L x1 e h2, appA (h.plus [.cells 1 1 [.slice b 0 n n]]) h.size none 1 24 1 [.slice b 0 n n] x8 = some (x1, e) ∧ Eff.app e (h.plus [.cells 1 1 [.slice b 0 n n]]) = some h2 ∧ T48 Hb h2 M (P ++ [c]) L x1 ∧ AV.cells x1 = some [x1] := by
  obtain ⟨Hr, L, tb, gp, pk, ng⟩ := t
  obtain ⟨b, rfl, gb⟩ := ng.l.sl (by
    intro e
    have : cmL M c M.length = [] := by simpa using e
    exact cmL_pos hc hcn this)
  have hb := ng.x0 b rfl
  have tb2 := tb.kp ng.k
  have hx : blk x8 ≠ some b := fun e => by
    obtain ⟨rs, lv, _⟩ := tb.r
    have := lv.lt e
    omega
  obtain ⟨x1, e, h2, q1, q2, q3, q4⟩ := tb2.app h.size gb ⟨hx, by have := tb.k.size; omega⟩ (by rw [bkC_len]; omega)
  rw [← bkC_s] at q3
  have gp1 := ng.k.at gp (by simp) id
  have gp2 : h2.get Hb.size = .map (st L) := by
    obtain ⟨rs, lv, hrl, _⟩ := tb2.r
    rw [bkC_len] at hrl
    obtain ⟨x1', e', h2', a1, a2, _, k3, _⟩ := app_v (h.plus [.cells 1 1 [.slice b 0 (gs (cmL M c M.length)).length (gs (cmL M c M.length)).length]]) h.size 24 (.slice b 0 (gs (cmL M c M.length)).length (gs (cmL M c M.length)).length) (lv.kp (Kp.plus (M := fun _ => False) h _) (fun _ _ => id)) (by omega)
    rw [q1] at a1
    cases a1
    rw [q2] at a2
    cases a2
    refine k3.at (plus_keep _ gp1 (by simp)) (by simp) (fun q => ?_)
    rcases lv with ⟨rfl, _⟩ | ⟨b', rfl, g', _⟩
    · cases q
    · cases q; rw [gp1] at g'; cases g'
  exact ⟨b, _, rfl, L, x1, e, h2, q1, q2, ⟨q3, gp2, pk.done⟩, q4⟩
theorem PN.cand (hm : isMat M = true) {P L : List Nat} (p : PN M P L) {c : Nat} (hc : c < M.length) : cand M P c ↔ clN M c = c ∧ c ∉ L ∧ rdQ M L c := by
  have : clN M c = c → (c ∈ L ↔ c ∈ P) := fun e => by rw [p.m c, e]; exact ⟨fun x => x.2, fun x => ⟨hc, x⟩⟩
  constructor
  · rintro ⟨a, b, r⟩
    exact ⟨a, fun x => b ((this a).1 x), (PN.rdy hm p).1 r⟩
  · rintro ⟨a, b, r⟩
    exact ⟨a, fun x => b ((this a).2 x), (PN.rdy hm p).2 r⟩
open Classical in
theorem c48_s (J : CallF) (k75 : K75 J) (hm : isMat M = true) {Hb H : Heap} {qm qc i : Nat} {P L : List Nat} {x8 : AV} (gm : Hb.get qm = .cells 0 65 (matC M)) (gc : Hb.get qc = .cells 1 M.length (gs (clsL M))) (t : T48 Hb H M P L x8) (hi : i < M.length) (hn : ¬ cand M P i) :
    Tr tbl J (.trim [[true, false], [true, true], [false, false, false], [true, false, false], [true, false, true, true], [false, true, true, true]] c48_b1) (fun s h => h = H ∧ s.get [true, false] = .ptr qm 0 65 ∧ s.get [true, true] = .slice qc 0 M.length M.length ∧ s.get [false, false, false] = .map Hb.size ∧ s.get [true, false, false] = x8 ∧ s.get [true, false, true, true] = G M.length ∧ s.get [false, true, true, true] = G i) .normal (fun s h => h = H ∧ s.get [true, false] = .ptr qm 0 65 ∧ s.get [true, true] = .slice qc 0 M.length M.length ∧ s.get [false, false, false] = .map Hb.size ∧ s.get [true, false, false] = x8 ∧ s.get [true, false, true, true] = G M.length ∧ s.get [false, true, true, true] = G ((i + 1 : Nat) : Int)) := by
  have h8 := isMat_n hm
  have lm := matC_len M
  have et : (matC M).take 65 = matC M := List.take_of_length_le (by omega)
  rw [t.pn.cand hm hi] at hn
  have gm1 := t.tb.k.at gm (by simp) id
  have gc1 := t.tb.k.at gc (by simp) id
  have gp := t.gp
  have ga := mapA_at gp
  have ci : (gs (clsL M))[i]? = some (G (clN M i)) := gl_at _ hi
  have ci' := getI ci
  have fst := find_st i L
  have k75' := k75 H ⟨M, qc, Hb.size, i, L⟩ ⟨hm, gc1, gp⟩
  simp only at k75'
  clear t
  by_cases c1 : clN M i = i
  · rw [c1] at ci ci'
    by_cases c2 : i ∈ L
    · rw [if_pos c2] at fst
      clear k75'
      generalize st L = e1 at *
      generalize gs (clsL M) = ccs at *
      refine Tr.w fun s1 H1 hp R kR => W.trim ?_
      obtain ⟨rfl, q⟩ := hp
      refine W.seq (W.chunk ?_)
      simp (disch := first | omega | exact getEq rfl | exact getO0 | exact Nat.le_of_ble_eq_true rfl) [c48_o9, app_growP, app_noneP, plus_N, plus_at0, put_plus0, put_plus1, upd_N, upd_size, q]
      refine W.seq (W.chunk ?_)
      simp (disch := first | omega | exact getEq rfl | exact getO0 | exact Nat.le_of_ble_eq_true rfl) [app_growP, app_noneP, plus_N, plus_at0, put_plus0, put_plus1, upd_N, upd_size, q]
      refine W.seq (W.block ?_)
      refine W.seq (W.chunk ?_)
      simp (disch := first | omega | exact getEq rfl | exact getO0 | exact Nat.le_of_ble_eq_true rfl) [c48_o10, app_growP, app_noneP, plus_N, plus_at0, put_plus0, put_plus1, upd_N, upd_size, q]
      refine W.assoc ?_
      refine W.seq (W.chunk ?_)
      simp (disch := first | omega | exact getEq rfl | exact getO0 | exact Nat.le_of_ble_eq_true rfl) [c48_o11, app_growP, app_noneP, plus_N, plus_at0, put_plus0, put_plus1, upd_N, upd_size, q, gc1, ci, ci', ga, fst]
      refine W.seq (W.chunk ?_)
      simp (disch := first | omega | exact getEq rfl | exact getO0 | exact Nat.le_of_ble_eq_true rfl) [app_growP, app_noneP, plus_N, plus_at0, put_plus0, put_plus1, upd_N, upd_size, q]
      refine W.chunk ?_
      simp (disch := first | omega | exact getEq rfl | exact getO0 | exact Nat.le_of_ble_eq_true rfl) [c48_o21, app_growP, app_noneP, plus_N, plus_at0, put_plus0, put_plus1, upd_N, upd_size, q]
      exact kR _ _ (by simp [T.get, q])
    · rw [if_neg c2] at fst
      have c3 : ¬ rdQ M L i := fun r => hn ⟨c1, c2, r⟩
      rw [decide_eq_false c3] at k75'
      clear hn
      generalize st L = e1 at *
      generalize gs (clsL M) = ccs at *
      generalize matC M = cm at *
      refine Tr.w fun s1 H1 hp R kR => W.trim ?_
      obtain ⟨rfl, q⟩ := hp
      refine W.seq (W.chunk ?_)
      simp (disch := first | omega | exact getEq rfl | exact getO0 | exact Nat.le_of_ble_eq_true rfl) [c48_o9, app_growP, app_noneP, plus_N, plus_at0, put_plus0, put_plus1, upd_N, upd_size, q]
      refine W.seq (W.chunk ?_)
      simp (disch := first | omega | exact getEq rfl | exact getO0 | exact Nat.le_of_ble_eq_true rfl) [app_growP, app_noneP, plus_N, plus_at0, put_plus0, put_plus1, upd_N, upd_size, q]
      refine W.seq (W.block ?_)
      refine W.seq (W.chunk ?_)
      simp (disch := first | omega | exact getEq rfl | exact getO0 | exact Nat.le_of_ble_eq_true rfl) [c48_o10, app_growP, app_noneP, plus_N, plus_at0, put_plus0, put_plus1, upd_N, upd_size, q]
      refine W.assoc ?_
      refine W.seq (W.chunk ?_)
      simp (disch := first | omega | exact getEq rfl | exact getO0 | exact Nat.le_of_ble_eq_true rfl) [c48_o11, app_growP, app_noneP, plus_N, plus_at0, put_plus0, put_plus1, upd_N, upd_size, q, gc1, ci, ci', ga, fst, gm1, et, lm, k75', app_if, app_if']
      refine W.seq (W.chunk ?_)
      simp (disch := first | omega | exact getEq rfl | exact getO0 | exact Nat.le_of_ble_eq_true rfl) [app_growP, app_noneP, plus_N, plus_at0, put_plus0, put_plus1, upd_N, upd_size, q]
      refine W.chunk ?_
      simp (disch := first | omega | exact getEq rfl | exact getO0 | exact Nat.le_of_ble_eq_true rfl) [c48_o21, app_growP, app_noneP, plus_N, plus_at0, put_plus0, put_plus1, upd_N, upd_size, q]
      exact kR _ _ (by simp [T.get, q])
  · have c1' : ¬ (clN M i : Int) = i := by omega
    clear k75' fst hn
    generalize clN M i = u at *
    generalize gs (clsL M) = ccs at *
    refine Tr.w fun s1 H1 hp R kR => W.trim ?_
    obtain ⟨rfl, q⟩ := hp
    refine W.seq (W.chunk ?_)
    simp (disch := first | omega | exact getEq rfl | exact getO0 | exact Nat.le_of_ble_eq_true rfl) [c48_o9, app_growP, app_noneP, plus_N, plus_at0, put_plus0, put_plus1, upd_N, upd_size, q]
    refine W.seq (W.chunk ?_)
    simp (disch := first | omega | exact getEq rfl | exact getO0 | exact Nat.le_of_ble_eq_true rfl) [app_growP, app_noneP, plus_N, plus_at0, put_plus0, put_plus1, upd_N, upd_size, q]
    refine W.seq (W.block ?_)
    refine W.seq (W.chunk ?_)
    simp (disch := first | omega | exact getEq rfl | exact getO0 | exact Nat.le_of_ble_eq_true rfl) [c48_o10, app_growP, app_noneP, plus_N, plus_at0, put_plus0, put_plus1, upd_N, upd_size, q]
    refine W.assoc ?_
    refine W.seq (W.chunk ?_)
    simp (disch := first | omega | exact getEq rfl | exact getO0 | exact Nat.le_of_ble_eq_true rfl) [c48_o11, app_growP, app_noneP, plus_N, plus_at0, put_plus0, put_plus1, upd_N, upd_size, q, gc1, ci, ci', c1']
    refine W.seq (W.chunk ?_)
    simp (disch := first | omega | exact getEq rfl | exact getO0 | exact Nat.le_of_ble_eq_true rfl) [app_growP, app_noneP, plus_N, plus_at0, put_plus0, put_plus1, upd_N, upd_size, q]
    refine W.chunk ?_
    simp (disch := first | omega | exact getEq rfl | exact getO0 | exact Nat.le_of_ble_eq_true rfl) [c48_o21, app_growP, app_noneP, plus_N, plus_at0, put_plus0, put_plus1, upd_N, upd_size, q]
    exact kR _ _ (by simp [T.get, q])
open Classical in
theorem c48_f (J : CallF) (k75 : K75 J) (hm : isMat M = true) {Hb H : Heap} {qm qc c : Nat} {P L : List Nat} {x8 : AV} (gm : Hb.get qm = .cells 0 65 (matC M)) (gc : Hb.get qc = .cells 1 M.length (gs (clsL M))) (t : T48 Hb H M P L x8) (hP : P.length ≤ 8) (hi : c < M.length) (hn : cand M P c) :
    Tr tbl J (.trim [[true, false], [true, true], [false, false, false], [true, false, false], [true, false, true, true], [false, true, true, true]] c48_b1) (fun s h => h = H ∧ s.get [true, false] = .ptr qm 0 65 ∧ s.get [true, true] = .slice qc 0 M.length M.length ∧ s.get [false, false, false] = .map Hb.size ∧ s.get [true, false, false] = x8 ∧ s.get [true, false, true, true] = G M.length ∧ s.get [false, true, true, true] = G c) (.exit 1) (fun s h => ∃ L' x8', T48 Hb h M (P ++ [c]) L' x8' ∧ s.get [true, false] = .ptr qm 0 65 ∧ s.get [true, true] = .slice qc 0 M.length M.length ∧ s.get [false, false, false] = .map Hb.size ∧ s.get [true, false, false] = x8') := by
  have h8 := isMat_n hm
  have lm := matC_len M
  have et : (matC M).take 65 = matC M := List.take_of_length_le (by omega)
  have e0 : (matC M)[0]? = some (G M.length) := rfl
  have e0' := getI e0
  have l0 := c48_m (P := P) (c := c) (x8 := x8) J hm gm gc hn.2.1
  obtain ⟨c1, c2, c3⟩ := (t.pn.cand hm hi).1 hn
  have gm1 := t.tb.k.at gm (by simp) id
  have gc1 := t.tb.k.at gc (by simp) id
  have gp := t.gp
  have ga := mapA_at gp
  have ci : (gs (clsL M))[c]? = some (G (clN M c)) := gl_at _ hi
  have ci' := getI ci
  have fst := find_st c L
  have k75' := k75 H ⟨M, qc, Hb.size, c, L⟩ ⟨hm, gc1, gp⟩
  simp only at k75'
  rw [decide_eq_true c3] at k75'
  rw [if_neg c2] at fst
  rw [c1] at ci ci'
  have ex : ∃ x10, S48 Hb H M P c 0 x8 x10 ∧ AV.nils = x10 := ⟨_, S48.init t c, rfl⟩
  clear t hn c2 c3
  generalize st L = e1 at *
  generalize gs (clsL M) = ccs at *
  generalize matC M = cm at *
  refine Tr.w fun s1 H1 hp R kR => W.trim ?_
  obtain ⟨rfl, q⟩ := hp
  refine W.seq (W.chunk ?_)
  simp (disch := first | omega | exact getEq rfl | exact getO0 | exact Nat.le_of_ble_eq_true rfl) [c48_o9, app_growP, app_noneP, plus_N, plus_at0, put_plus0, put_plus1, upd_N, upd_size, q]
  refine W.seq (W.chunk ?_)
  simp (disch := first | omega | exact getEq rfl | exact getO0 | exact Nat.le_of_ble_eq_true rfl) [app_growP, app_noneP, plus_N, plus_at0, put_plus0, put_plus1, upd_N, upd_size, q]
  refine W.seq (W.block ?_)
  refine W.seq (W.chunk ?_)
  simp (disch := first | omega | exact getEq rfl | exact getO0 | exact Nat.le_of_ble_eq_true rfl) [c48_o10, app_growP, app_noneP, plus_N, plus_at0, put_plus0, put_plus1, upd_N, upd_size, q]
  refine W.assoc ?_
  refine W.seq (W.chunk ?_)
  simp (disch := first | omega | exact getEq rfl | exact getO0 | exact Nat.le_of_ble_eq_true rfl) [c48_o11, app_growP, app_noneP, plus_N, plus_at0, put_plus0, put_plus1, upd_N, upd_size, q, gc1, ci, ci', ga, fst, gm1, et, lm, k75', app_if, app_if']
  refine W.seq (W.chunk ?_)
  simp (disch := first | omega | exact getEq rfl | exact getO0 | exact Nat.le_of_ble_eq_true rfl) [app_growP, app_noneP, plus_N, plus_at0, put_plus0, put_plus1, upd_N, upd_size, q]
  refine W.seq (W.chunk ?_)
  simp (disch := first | omega | exact getEq rfl | exact getO0 | exact Nat.le_of_ble_eq_true rfl) [c48_o12, app_growP, app_noneP, plus_N, plus_at0, put_plus0, put_plus1, upd_N, upd_size, q]
  refine W.assoc ?_
  refine W.seq (W.chunk ?_)
  simp (disch := first | omega | exact getEq rfl | exact getO0 | exact Nat.le_of_ble_eq_true rfl) [c48_o13, app_growP, app_noneP, plus_N, plus_at0, put_plus0, put_plus1, upd_N, upd_size, q, gm1, lm, e0, e0']
  refine W.seq (W.block ?_)
  refine W.use (l0) (by simp (disch := first | omega | exact getEq rfl | exact getO0 | exact Nat.le_of_ble_eq_true rfl) [app_growP, app_noneP, plus_N, plus_at0, put_plus0, put_plus1, upd_N, upd_size, q, ex]) fun s1 H1 hp => ?_
  obtain ⟨x10, s8, q⟩ := hp
  try simp only [thenW_n, thenW_e, thenW_r, blkW_n, blkW_e, blkW_r, if_true]
  obtain ⟨b, n, rfl, L2, x1, e, h2, q1, q2, t2, q3⟩ := s8.done c1 hi hP
  have f1 := app1_at H1 (.slice b 0 n n)
  refine W.seq (W.chunk ?_)
  simp (disch := first | omega | exact getEq rfl | exact getO0 | exact Nat.le_of_ble_eq_true rfl) [c48_o20, app_growP, app_noneP, plus_N, plus_at0, put_plus0, put_plus1, upd_N, upd_size, q, elems, rdOf, f1, q1, q2]
  refine W.exit ?_
  try simp only [thenW_n, thenW_e, thenW_r, blkW_n, blkW_e, blkW_r, if_true]
  exact kR _ _ ⟨L2, x1, t2, by simp [T.get, q]⟩
theorem PB.find {P : List Nat} : ∀ k c, c < k → c < M.length → cand M P c → ∃ c0, c0 < M.length ∧ cand M P c0 ∧ ∀ e, e < c0 → ¬ cand M P e
  | 0, c, h, _, _ => by omega
  | k + 1, c, h1, h2, h3 => by
    by_cases q : ∃ e, e < c ∧ cand M P e
    · obtain ⟨e, a1, a3⟩ := q; exact PB.find k e (by omega) (by omega) a3
    · exact ⟨c, h2, h3, fun e a1 a2 => q ⟨e, a1, a2⟩⟩
theorem c48_no (J : CallF) (k75 : K75 J) (hm : isMat M = true) {Hb H : Heap} {qm qc : Nat} {P L : List Nat} {x8 : AV} (gm : Hb.get qm = .cells 0 65 (matC M)) (gc : Hb.get qc = .cells 1 M.length (gs (clsL M))) (t : T48 Hb H M P L x8) (hno : ∀ c, c < M.length → ¬ cand M P c) : ∀ d i, i + d = M.length →
    Tr tbl J c48_l1 (fun s h => h = H ∧ s.get [true, false] = .ptr qm 0 65 ∧ s.get [true, true] = .slice qc 0 M.length M.length ∧ s.get [false, false, false] = .map Hb.size ∧ s.get [true, false, false] = x8 ∧ s.get [true, false, true, true] = G M.length ∧ s.get [false, true, true, true] = G i) (.exit 2) (fun s h => h = H ∧ s.get [true, false, false] = x8) := by
  intro d
  induction d with
  | zero =>
    intro i hi
    refine Tr.out ?_ (by simp)
    refine Tr.w fun s1 H1 hp R kR => W.trim ?_
    obtain ⟨rfl, q⟩ := hp
    refine W.seq (W.chunk ?_)
    simp (disch := first | omega | exact getEq rfl | exact getO0 | exact Nat.le_of_ble_eq_true rfl) [c48_o9, app_growP, app_noneP, plus_N, plus_at0, put_plus0, put_plus1, upd_N, upd_size, q]
    refine W.seq (W.chunk ?_)
    simp (disch := first | omega | exact getEq rfl | exact getO0 | exact Nat.le_of_ble_eq_true rfl) [app_growP, app_noneP, plus_N, plus_at0, put_plus0, put_plus1, upd_N, upd_size, q]
    exact kR _ _ (by simp [T.get, q])
  | succ d ih =>
    intro i hi
    exact Tr.next (c48_s J k75 hm gm gc t (by omega) (hno i (by omega))) (ih (i + 1) (by omega))
theorem c48_yes (J : CallF) (k75 : K75 J) (hm : isMat M = true) {Hb H : Heap} {qm qc c : Nat} {P L : List Nat} {x8 : AV} (gm : Hb.get qm = .cells 0 65 (matC M)) (gc : Hb.get qc = .cells 1 M.length (gs (clsL M))) (t : T48 Hb H M P L x8) (hP : P.length ≤ 8) (hi : c < M.length) (hn : cand M P c) (hl : ∀ e, e < c → ¬ cand M P e) : ∀ d i, i + d = c →
    Tr tbl J c48_l1 (fun s h => h = H ∧ s.get [true, false] = .ptr qm 0 65 ∧ s.get [true, true] = .slice qc 0 M.length M.length ∧ s.get [false, false, false] = .map Hb.size ∧ s.get [true, false, false] = x8 ∧ s.get [true, false, true, true] = G M.length ∧ s.get [false, true, true, true] = G i) (.exit 1) (fun s h => ∃ L' x8', T48 Hb h M (P ++ [c]) L' x8' ∧ s.get [true, false] = .ptr qm 0 65 ∧ s.get [true, true] = .slice qc 0 M.length M.length ∧ s.get [false, false, false] = .map Hb.size ∧ s.get [true, false, false] = x8') := by
  intro d
  induction d with
  | zero =>
    intro i hi'
    obtain rfl : i = c := by omega
    exact Tr.out (c48_f J k75 hm gm gc t hP hi hn) (by simp)
  | succ d ih =>
    intro i hi'
    exact Tr.next (c48_s J k75 hm gm gc t (by omega) (hl i (by omega))) (ih (i + 1) (by omega))
theorem st_len (L : List Nat) : (st L).length = L.length := by simp [st]
theorem c48_end (J : CallF) (k75 : K75 J) (hm : isMat M = true) {Hb H : Heap} {qm qc : Nat} {P L : List Nat} {x8 : AV} (gm : Hb.get qm = .cells 0 65 (matC M)) (gc : Hb.get qc = .cells 1 M.length (gs (clsL M))) (pb : PB M P) (t : T48 Hb H M P L x8) (hno : ∀ c, c < M.length → ¬ cand M P c) :
    Tr tbl J c48_l2 (fun s h => h = H ∧ s.get [true, false] = .ptr qm 0 65 ∧ s.get [true, true] = .slice qc 0 M.length M.length ∧ s.get [false, false, false] = .map Hb.size ∧ s.get [true, false, false] = x8) (.exit 0) (fun s h => ∃ x8, TB Hb h x8 (bkC M (seqB M)) ∧ s.get [true, false, false] = x8) := by
  have h8 := isMat_n hm
  have lm := matC_len M
  have e0 : (matC M)[0]? = some (G M.length) := rfl
  have e0' := getI e0
  have gm1 := t.tb.k.at gm (by simp) id
  have ga := mapA_at t.gp
  have sl := st_len L
  have ln := t.pn.lt
  have l1 := c48_no J k75 hm gm gc t hno M.length 0 (by omega)
  have tb : TB Hb H x8 (bkC M (seqB M)) := by rw [← pb.done hno]; exact t.tb
  refine Tr.out ?_ (by simp)
  clear t
  by_cases c : L.length < M.length
  · refine Tr.w fun s1 H1 hp R kR => W.trim ?_
    obtain ⟨rfl, q⟩ := hp
    generalize st L = e1 at *
    generalize matC M = cm at *
    refine W.assoc ?_
    refine W.seq (W.chunk ?_)
    simp (disch := first | omega | exact getEq rfl | exact getO0 | exact Nat.le_of_ble_eq_true rfl) [c48_o7, app_growP, app_noneP, plus_N, plus_at0, put_plus0, put_plus1, upd_N, upd_size, q, gm1, lm, e0, e0', ga, sl]
    refine W.seq (W.chunk ?_)
    simp (disch := first | omega | exact getEq rfl | exact getO0 | exact Nat.le_of_ble_eq_true rfl) [app_growP, app_noneP, plus_N, plus_at0, put_plus0, put_plus1, upd_N, upd_size, q]
    refine W.block ?_
    refine W.assoc ?_
    refine W.seq (W.chunk ?_)
    simp (disch := first | omega | exact getEq rfl | exact getO0 | exact Nat.le_of_ble_eq_true rfl) [c48_o8, app_growP, app_noneP, plus_N, plus_at0, put_plus0, put_plus1, upd_N, upd_size, q, gm1, lm, e0, e0']
    refine W.seq (W.block ?_)
    refine W.use (l1) (by simp (disch := first | omega | exact getEq rfl | exact getO0 | exact Nat.le_of_ble_eq_true rfl) [app_growP, app_noneP, plus_N, plus_at0, put_plus0, put_plus1, upd_N, upd_size, q]) fun s1 H1 hp => ?_
    obtain ⟨rfl, q⟩ := hp
    try simp only [thenW_n, thenW_e, thenW_r, blkW_n, blkW_e, blkW_r, if_true]
    refine W.exit ?_
    try simp only [thenW_n, thenW_e, thenW_r, blkW_n, blkW_e, blkW_r, if_true]
    exact kR _ _ ⟨x8, tb, by simp [T.get, q]⟩
  · refine Tr.w fun s1 H1 hp R kR => W.trim ?_
    obtain ⟨rfl, q⟩ := hp
    generalize st L = e1 at *
    generalize matC M = cm at *
    refine W.assoc ?_
    refine W.seq (W.chunk ?_)
    simp (disch := first | omega | exact getEq rfl | exact getO0 | exact Nat.le_of_ble_eq_true rfl) [c48_o7, app_growP, app_noneP, plus_N, plus_at0, put_plus0, put_plus1, upd_N, upd_size, q, gm1, lm, e0, e0', ga, sl]
    refine W.seq (W.chunk ?_)
    simp (disch := first | omega | exact getEq rfl | exact getO0 | exact Nat.le_of_ble_eq_true rfl) [app_growP, app_noneP, plus_N, plus_at0, put_plus0, put_plus1, upd_N, upd_size, q]
    exact kR _ _ ⟨x8, tb, by simp [T.get, q]⟩
theorem c48_l (J : CallF) (k75 : K75 J) (hm : isMat M = true) {Hb : Heap} {qm qc : Nat} (gm : Hb.get qm = .cells 0 65 (matC M)) (gc : Hb.get qc = .cells 1 M.length (gs (clsL M))) : ∀ d P, P.length + d = M.length → PB M P →
    Tr tbl J c48_l2 (fun s h => ∃ L x8, T48 Hb h M P L x8 ∧ s.get [true, false] = .ptr qm 0 65 ∧ s.get [true, true] = .slice qc 0 M.length M.length ∧ s.get [false, false, false] = .map Hb.size ∧ s.get [true, false, false] = x8) (.exit 0) (fun s h => ∃ x8, TB Hb h x8 (bkC M (seqB M)) ∧ s.get [true, false, false] = x8) := by
  have h8 := isMat_n hm
  have lm := matC_len M
  have e0 : (matC M)[0]? = some (G M.length) := rfl
  have e0' := getI e0
  intro d
  induction d with
  | zero =>
    intro P hd pb
    refine Tr.w fun s1 H1 hp R kR => ?_
    obtain ⟨L, x8, t, q⟩ := hp
    have hno : ∀ c, c < M.length → ¬ cand M P c := fun c hc hn => by
      obtain ⟨c0, c1, c2, c3⟩ := PB.find (c + 1) c (by omega) hc hn
      have := (pb.push c1 c2 c3).len
      simp at this
      omega
    exact W.use (c48_end J k75 hm gm gc pb t hno) ⟨rfl, q⟩ kR
  | succ d ih =>
    intro P hd pb
    refine Tr.w fun s1 H1 hp R kR => ?_
    obtain ⟨L, x8, t, q⟩ := hp
    by_cases hc : ∃ c, c < M.length ∧ cand M P c
    · obtain ⟨c, hc, hn⟩ := hc
      obtain ⟨c0, c1, c2, c3⟩ := PB.find (c + 1) c (by omega) hc hn
      have ih := ih (P ++ [c0]) (by simp; omega) (pb.push c1 c2 c3)
      have l1 := c48_yes J k75 hm gm gc t (by omega) c1 c2 c3 c0 0 (by omega)
      have gm1 := t.tb.k.at gm (by simp) id
      have ga := mapA_at t.gp
      have sl := st_len L
      have hl : L.length < M.length := Classical.byContradiction fun n => t.pn.full n c1 c2
      clear t
      refine W.loop (W.trim ?_)
      generalize st L = e1 at *
      generalize matC M = cm at *
      refine W.assoc ?_
      refine W.seq (W.chunk ?_)
      simp (disch := first | omega | exact getEq rfl | exact getO0 | exact Nat.le_of_ble_eq_true rfl) [c48_o7, app_growP, app_noneP, plus_N, plus_at0, put_plus0, put_plus1, upd_N, upd_size, q, gm1, lm, e0, e0', ga, sl]
      refine W.seq (W.chunk ?_)
      simp (disch := first | omega | exact getEq rfl | exact getO0 | exact Nat.le_of_ble_eq_true rfl) [app_growP, app_noneP, plus_N, plus_at0, put_plus0, put_plus1, upd_N, upd_size, q]
      refine W.block ?_
      refine W.assoc ?_
      refine W.seq (W.chunk ?_)
      simp (disch := first | omega | exact getEq rfl | exact getO0 | exact Nat.le_of_ble_eq_true rfl) [c48_o8, app_growP, app_noneP, plus_N, plus_at0, put_plus0, put_plus1, upd_N, upd_size, q, gm1, lm, e0, e0']
      refine W.seq (W.block ?_)
      refine W.use (l1) (by simp (disch := first | omega | exact getEq rfl | exact getO0 | exact Nat.le_of_ble_eq_true rfl) [app_growP, app_noneP, plus_N, plus_at0, put_plus0, put_plus1, upd_N, upd_size, q]) fun s1 H1 hp => ?_
      obtain ⟨L2, x2, t2, q⟩ := hp
      try simp only [thenW_n, thenW_e, thenW_r, blkW_n, blkW_e, blkW_r, if_true]
      exact W.use ih ⟨L2, x2, t2, by simp [T.get, q]⟩ kR
    · exact W.use (c48_end J k75 hm gm gc pb t fun c h1 h2 => hc ⟨c, h1, h2⟩) ⟨rfl, q⟩ kR
theorem c48_bad (J : CallF) (k54 : K54 J) (hJ : ∀ a h, J 48 a h = none) (h : Heap) {y : AV} (hy : MR h y M) (hm : isMat M = false) : CallsTo tbl J 48 [y] h (.tup [.nils, G 2], [], false) := by
  refine Tr.fnv (cf := c48) (e := .ret) (s := T.set .leaf [] y) (by decide) rfl (hJ _ _) rfl rfl rfl (by simp) ?_
  obtain ⟨cs, k54, hl, hc⟩ := k54 ⟨h.get, h.size, []⟩ y M (hy.lo [])
  have rp : (List.replicate 65 (AV.int .i64 0)).length = 65 := List.length_replicate
  have ep : putAt (List.replicate 65 (AV.int .i64 0)) 0 cs = cs := putAt_all _ _ (by omega)
  refine Tr.w fun s1 H1 hp R kR => ?_
  obtain ⟨rfl, rfl⟩ := hp
  have q : True := trivial
  generalize hZ : List.replicate 65 (AV.int .i64 0) = Z at *
  rw [hm] at k54
  refine W.seq (W.chunk ?_)
  simp (disch := first | omega | exact getEq rfl | exact getO0 | exact Nat.le_of_ble_eq_true rfl) [-List.reduceReplicate, c48_o0, size_mk, get_mk_lt, get_mk_ge, frameOf, Eff.app, Heap.setOwn, q]
  refine W.scope ?_
  refine W.seq (W.chunk ?_)
  simp (disch := first | omega | exact getEq rfl | exact getO0 | exact Nat.le_of_ble_eq_true rfl) [-List.reduceReplicate, c48_o1, size_mk, get_mk_lt, get_mk_ge, frameOf, Eff.app, Heap.setOwn, q, k54, hZ, ep, rp, hl, frameOf]
  refine W.assoc ?_
  refine W.seq (W.chunk ?_)
  simp (disch := first | omega | exact getEq rfl | exact getO0 | exact Nat.le_of_ble_eq_true rfl) [-List.reduceReplicate, c48_o2, size_mk, get_mk_lt, get_mk_ge, frameOf, Eff.app, Heap.setOwn, q]
  refine W.seq (W.chunk ?_)
  simp (disch := first | omega | exact getEq rfl | exact getO0 | exact Nat.le_of_ble_eq_true rfl) [-List.reduceReplicate, c48_o3, size_mk, get_mk_lt, get_mk_ge, frameOf, Eff.app, Heap.setOwn, q]
  exact kR _ _ ⟨[.nils, G 2], by simp [T.get, c48, evRess, evRes], rfl⟩
theorem TB.fr1 {h h' : Heap} {x y : AV} {L : List (List AV)} (t : TB (frameOf h) h' x L) : TB h (h.plus (if (one [x, y]).flat then [] else h'.own)) x L := by
  split
  · rename_i hf
    obtain ⟨rs, lv, hl, hr⟩ := t.r
    rcases lv with ⟨rfl, rfl⟩ | ⟨b, rfl, g, n⟩
    · have : L = [] := List.eq_nil_of_length_eq_zero hl.symm
      subst this
      exact (TB.nil h).kp (Kp.plus _ _)
    · exact absurd hf (by simp [one, AV.flat, AV.flats])
  · exact t.fr
theorem c48_ok (J : CallF) (k54 : K54 J) (k62 : K62 J) (k75 : K75 J) (hJ : ∀ a h, J 48 a h = none) (h : Heap) {y : AV} (hy : MR h y M) (hm : isMat M = true) : ∃ v own, CallsTo tbl J 48 [y] h (v, own, false) ∧ ∃ w, v = .tup [w, G 0] ∧ TB h (h.plus own) w (bkC M (seqB M)) := by
  refine Tr.fny (cf := c48) (e := .ret) (s := T.set .leaf [] y) (by decide) rfl (hJ _ _) rfl rfl (by simp) ?_
  have h8 := isMat_n hm
  obtain ⟨cs, k54, hl, hc⟩ := k54 (frameOf h) y M (hy.lo [])
  have rp : (List.replicate 65 (AV.int .i64 0)).length = 65 := List.length_replicate
  obtain rfl := hc hm
  have ep : putAt (List.replicate 65 (AV.int .i64 0)) 0 (matC M) = matC M := putAt_all _ _ (by omega)
  have et : (matC M).take 65 = matC M := List.take_of_length_le (by omega)
  have lm := matC_len M
  obtain ⟨w, own, k62, nc⟩ := k62 ((frameOf h).plus [.cells 0 65 (matC M)]) M hm
  obtain ⟨qc, rfl, gc⟩ := nc.l.sl (by intro e; have h0 : (gs (clsL M)).length = M.length := gl_len _ _; rw [e] at h0; simp at h0; omega)
  rw [show (gs (clsL M)).length = M.length from gl_len _ _] at k62 gc
  have kA : Kp (fun _ => False) (frameOf h) (((frameOf h).plus [.cells 0 65 (matC M)]).plus own) := (Kp.plus _ _).trans nc.k
  have gm : (((frameOf h).plus [.cells 0 65 (matC M)]).plus own).get h.size = .cells 0 65 (matC M) := nc.k.at (plus_at0 _ _ _ _ (fr_size h)) (by simp) id
  have gm0 : ((frameOf h).plus [.cells 0 65 (matC M)]).get h.size = .cells 0 65 (matC M) := plus_at0 _ _ _ _ (fr_size h)
  clear nc
  generalize hHa : ((frameOf h).plus [.cells 0 65 (matC M)]).plus own = Ha at *
  have l2 := c48_l J k75 hm gm gc M.length [] (by simp) PB.nil
  have pn0 : PN M [] [] := ⟨List.Pairwise.nil, fun u => by simp⟩
  have t0 : T48 Ha (Ha.plus [.map []]) M [] [] .nils := ⟨(TB.nil Ha).kp (Kp.plus _ _), plus_at0 Ha (.map []) [] _ rfl, pn0⟩
  have ex : ∃ L, T48 Ha (Ha.plus [.map []]) M [] L .nils := ⟨[], t0⟩
  have fs := fr_size h
  clear t0 pn0
  refine Tr.w fun s1 H1 hp R kR => ?_
  obtain ⟨rfl, rfl⟩ := hp
  have q : True := trivial
  generalize hZ : List.replicate 65 (AV.int .i64 0) = Z at *
  rw [hm] at k54
  refine W.seq (W.chunk ?_)
  simp (disch := first | omega | exact getEq rfl | exact getO0 | exact Nat.le_of_ble_eq_true rfl) [-List.reduceReplicate, c48_o0, app_growP, app_noneP, plus_N, plus_at0, put_plus0, put_plus1, upd_N, upd_size, q]
  refine W.scope ?_
  refine W.seq (W.chunk ?_)
  simp (disch := first | omega | exact getEq rfl | exact getO0 | exact Nat.le_of_ble_eq_true rfl) [-List.reduceReplicate, c48_o1, app_growP, app_noneP, plus_N, plus_at0, put_plus0, put_plus1, upd_N, upd_size, q, k54, hZ, ep, rp, hl, app_if, app_if', fs]
  refine W.assoc ?_
  refine W.seq (W.chunk ?_)
  simp (disch := first | omega | exact getEq rfl | exact getO0 | exact Nat.le_of_ble_eq_true rfl) [-List.reduceReplicate, c48_o2, app_growP, app_noneP, plus_N, plus_at0, put_plus0, put_plus1, upd_N, upd_size, q]
  refine W.seq (W.chunk ?_)
  simp (disch := first | omega | exact getEq rfl | exact getO0 | exact Nat.le_of_ble_eq_true rfl) [-List.reduceReplicate, c48_o3, app_growP, app_noneP, plus_N, plus_at0, put_plus0, put_plus1, upd_N, upd_size, q]
  refine W.seq (W.chunk ?_)
  simp (disch := first | omega | exact getEq rfl | exact getO0 | exact Nat.le_of_ble_eq_true rfl) [-List.reduceReplicate, c48_o4, app_growP, app_noneP, plus_N, plus_at0, put_plus0, put_plus1, upd_N, upd_size, q, fs, gm0, et, lm, k62, app_if, app_if', hHa]
  refine W.seq (W.chunk ?_)
  simp (disch := first | omega | exact getEq rfl | exact getO0 | exact Nat.le_of_ble_eq_true rfl) [-List.reduceReplicate, c48_o5, app_growP, app_noneP, plus_N, plus_at0, put_plus0, put_plus1, upd_N, upd_size, q]
  refine W.seq (W.chunk ?_)
  simp (disch := first | omega | exact getEq rfl | exact getO0 | exact Nat.le_of_ble_eq_true rfl) [-List.reduceReplicate, c48_o6, app_growP, app_noneP, plus_N, plus_at0, put_plus0, put_plus1, upd_N, upd_size, q]
  refine W.seq (W.skip ?_)
  try simp only [thenW_n, thenW_e, thenW_r, blkW_n, blkW_e, blkW_r, if_true]
  refine W.seq (W.block ?_)
  refine W.use (l2) (by simp (disch := first | omega | exact getEq rfl | exact getO0 | exact Nat.le_of_ble_eq_true rfl) [-List.reduceReplicate, app_growP, app_noneP, plus_N, plus_at0, put_plus0, put_plus1, upd_N, upd_size, q, ex]) fun s1 H1 hp => ?_
  obtain ⟨xo, tb, q⟩ := hp
  try simp only [thenW_n, thenW_e, thenW_r, blkW_n, blkW_e, blkW_r, if_true]
  refine W.seq (W.chunk ?_)
  simp (disch := first | omega | exact getEq rfl | exact getO0 | exact Nat.le_of_ble_eq_true rfl) [-List.reduceReplicate, c48_o22, app_growP, app_noneP, plus_N, plus_at0, put_plus0, put_plus1, upd_N, upd_size, q]
  refine W.ret ?_
  try simp only [thenW_n, thenW_e, thenW_r, blkW_n, blkW_e, blkW_r, if_true]
  exact kR _ _ ⟨[xo, G 0], by simp [T.get, c48, evRess, evRes, q], xo, rfl, (TB.base kA tb).fr1⟩
end
def Post48 (a : AM) (h : Heap) (v : AV) (own : List AObj) : Prop := (isMat a.M = false → v = .tup [.nils, G 2] ∧ own = []) ∧ (isMat a.M = true → ∃ w, v = .tup [w, G 0] ∧ TB h (h.plus own) w (bkC a.M (seqB a.M)))
noncomputable def T31 : CallF := addK tbl T30 48 PreM Post48
theorem t31 : Sound Go.Proofs.Try.prog T31 := Sound.addK follows ok t30 (by decide) _ _
abbrev K48 (J : CallF) : Prop := ∀ (h : Heap) (a : AM), MR h a.y a.M → ∃ v own, J 48 [a.y] h = some (v, own, false) ∧ Post48 a h v own
theorem k54_30 : K54 T30 := fun h y M hy => by
  simp (disch := decide) only [T30, T29, T28, T27, T26, T25, T24, T23, T22, T21, T20, T19, T18, T17, T16, T15, T14, T13, T12, T11, T10, T9, T8, T7, T6, T5, T4, T3, T2, T1, R21, R20, R19, R18, R17, R16, R15, R14, R13, R12, R11, R10, R9, R8, R7, R6, R5, R4, R3, R2, R1, addI_ne, addX_ne, addV_ne, addK_ne]
  exact k54 h y M hy
theorem k62_30 : K62 T30 := fun h M hm => by
  simp (disch := decide) only [T30, T29, T28, T27, T26, T25, T24, T23, T22, T21, T20, T19, T18, T17, T16, T15, T14, T13, T12, T11, T10, T9, T8, T7, addK_ne]
  exact k62 h M hm
theorem k48 : K48 T31 := fun h a ha => addK_some (Pre := PreM) (Post := Post48) (fun a args h hp => by
  obtain ⟨hy, rfl⟩ := hp
  have hn : ∀ a h, T30 48 a h = none := (fun _ _ => by simp (disch := decide) only [T30, T29, T28, T27, T26, T25, T24, T23, T22, T21, T20, T19, T18, T17, T16, T15, T14, T13, T12, T11, T10, T9, T8, T7, T6, T5, T4, T3, T2, T1, R21, R20, R19, R18, R17, R16, R15, R14, R13, R12, R11, R10, R9, R8, R7, R6, R5, R4, R3, R2, R1, addI_ne, addX_ne, addV_ne, addK_ne]; rfl)
  cases c : isMat a.M
  · exact ⟨_, _, c48_bad T30 k54_30 hn h hy c, fun _ => ⟨rfl, rfl⟩, fun q => by rw [c] at q; cases q⟩
  · obtain ⟨v, own, e, p⟩ := c48_ok T30 k54_30 k62_30 k75 hn h hy c
    exact ⟨v, own, e, fun q => (by rw [c] at q; cases q), fun _ => p⟩) a _ h ⟨ha, rfl⟩
end Go.Proofs.Ytjeemgaoonapgaa.Ev
set_option linter.unusedVariables false
set_option linter.unusedSimpArgs false
namespace Go.Proofs.Ytjeemgaoonapgaa.Ev
open Go Go.AEv
open Classical in
noncomputable def ct (p : Nat → Prop) : Nat → Nat
  | 0 => 0
  | k + 1 => ct p k + (if p k then 1 else 0)
theorem ct_le {p q : Nat → Prop} : ∀ {k}, (∀ z, z < k → p z → q z) → ct p k ≤ ct q k
  | 0, _ => Nat.le_refl _
  | k + 1, h => by
    have a := ct_le (k := k) fun z hz => h z (by omega)
    unfold ct
    by_cases c : p k
    · rw [if_pos c, if_pos (h k (by omega) c)]; omega
    · rw [if_neg c]; omega
theorem ct_lt {p q : Nat → Prop} : ∀ {k}, (∀ z, z < k → p z → q z) → ∀ {w}, w < k → q w → ¬ p w → ct p k < ct q k
  | 0, _, w, hw, _, _ => by omega
  | k + 1, h, w, hw, a, b => by
    unfold ct
    by_cases e : w = k
    · subst e
      have := ct_le (k := w) fun z hz => h z (by omega)
      rw [if_pos a, if_neg b]; omega
    · have := ct_lt (k := k) (fun z hz => h z (by omega)) (show w < k by omega) a b
      by_cases c : p k
      · rw [if_pos c, if_pos (h k (by omega) c)]; omega
      · rw [if_neg c]; omega
theorem ct_all {p : Nat → Prop} : ∀ {k}, (∀ z, z < k → p z) → ct p k = k
  | 0, _ => rfl
  | k + 1, h => by
    unfold ct
    rw [if_pos (h k (by omega)), ct_all fun z hz => h z (by omega)]
theorem ct_none {p : Nat → Prop} : ∀ {k}, (∀ z, z < k → ¬ p z) → ct p k = 0
  | 0, _ => rfl
  | k + 1, h => by
    unfold ct
    rw [if_neg (h k (by omega)), ct_none fun z hz => h z (by omega)]
theorem ct_or {p q r : Nat → Prop} : ∀ {k}, (∀ z, z < k → (r z ↔ p z ∨ q z) ∧ ¬ (p z ∧ q z)) → ct r k = ct p k + ct q k
  | 0, _ => rfl
  | k + 1, h => by
    have a := ct_or (k := k) fun z hz => h z (by omega)
    obtain ⟨b, c⟩ := h k (by omega)
    unfold ct
    by_cases x : p k
    · rw [if_pos x, if_pos (b.2 (.inl x)), if_neg fun y => c ⟨x, y⟩]; omega
    · by_cases y : q k
      · rw [if_neg x, if_pos (b.2 (.inr y)), if_pos y]; omega
      · rw [if_neg x, if_neg fun z => (b.1 z).elim x y, if_neg y]; omega
theorem leastN {p : Nat → Prop} (n : Nat) : p n → ∃ m, m ≤ n ∧ p m ∧ ∀ k, k < m → ¬ p k := by
  induction n using Nat.strongRecOn with
  | _ n ih =>
    intro h
    by_cases c : ∃ k, k < n ∧ p k
    · obtain ⟨k, hk, pk⟩ := c
      obtain ⟨m, a, b⟩ := ih k hk pk
      exact ⟨m, by omega, b⟩
    · exact ⟨n, Nat.le_refl _, h, fun k hk pk => c ⟨k, hk, pk⟩⟩
theorem nd_inj {P : List Nat} (nd : P.Nodup) {i j c : Nat} (h1 : P[i]? = some c) (h2 : P[j]? = some c) : i = j := by
  obtain ⟨l1, e1⟩ := List.getElem?_eq_some_iff.1 h1
  obtain ⟨l2, e2⟩ := List.getElem?_eq_some_iff.1 h2
  rcases Nat.lt_trichotomy i j with l | l | l
  · exact absurd (e1.trans e2.symm) (List.pairwise_iff_getElem.1 nd i j l1 l2 l)
  · exact l
  · exact absurd (e2.trans e1.symm) (List.pairwise_iff_getElem.1 nd j i l2 l1 l)
section
variable {M : List (List Int)}
structure PO (M : List (List Int)) (P : List Nat) : Prop where
  b : PB M P
  o : ∀ k c, P[k]? = some c → rdy M (P.take k) c
theorem PO.push {P : List Nat} (p : PO M P) {c : Nat} (h1 : c < M.length) (h2 : cand M P c) (h3 : ∀ d, d < c → ¬ cand M P d) : PO M (P ++ [c]) :=
  ⟨p.b.push h1 h2 h3, fun k d e => by
    by_cases l : k < P.length
    · rw [List.getElem?_append_left l] at e
      rw [List.take_append_of_le_length (by omega)]
      exact p.o k d e
    · have : k = P.length := by have := (List.getElem?_eq_some_iff.1 e).1; simp at this; omega
      subst this
      rw [List.getElem?_append_right (Nat.le_refl _), Nat.sub_self] at e
      cases e
      rw [List.take_left']
      · exact h2.2.2
      · rfl⟩
theorem PO.sq : ∀ k, PO M (sqB M k) ∧ ((sqB M k).length = k ∨ ∀ c, c < M.length → ¬ cand M (sqB M k) c)
  | 0 => ⟨⟨PB.nil, fun k c e => by simp [sqB] at e⟩, .inl rfl⟩
  | k + 1 => by
    obtain ⟨p, q⟩ := PO.sq k
    by_cases c : ∃ c, c < M.length ∧ cand M (sqB M k) c
    · obtain ⟨c0, hc, hd⟩ := c
      obtain ⟨m, a, b, e⟩ := leastN (p := cand M (sqB M k)) c0 hd
      have e2 : sqB M (k + 1) = sqB M k ++ [m] := nxB_t (by omega) b e
      rw [e2]
      refine ⟨p.push (by omega) b e, .inl ?_⟩
      rcases q with q | q
      · simp [q]
      · exact absurd hd (q c0 hc)
    · have h : ∀ c, c < M.length → ¬ cand M (sqB M k) c := fun d hd x => c ⟨d, hd, x⟩
      have e2 : sqB M (k + 1) = sqB M k := nxB_f h
      rw [e2]
      exact ⟨p, .inr h⟩
theorem sq_ok : PO M (seqB M) ∧ ∀ c, c < M.length → ¬ cand M (seqB M) c := by
  obtain ⟨p, q⟩ := PO.sq (M := M) M.length
  refine ⟨p, fun c hc => ?_⟩
  rcases q with q | q
  · intro hd
    have := nodup_le (n := M.length) (nodup_snoc p.b.d hd.2.1) (fun d hd => by
      rcases List.mem_append.1 hd with y | y
      · exact (p.b.l d y).1
      · rw [List.mem_singleton] at y; omega)
    rw [List.length_append, q, List.length_singleton] at this
    omega
  · exact q c hc
theorem clN_id (hm : isMat M = true) {u : Nat} (hu : u < M.length) : clN M (clN M u) = clN M u := by
  obtain ⟨a, b, _⟩ := clN_ok hm hu
  exact ((clN_eq hm hu (by omega)).2 b).symm
theorem all_in (hm : isMat M = true) : ∀ r c, c < M.length → clN M c = c → ct (fun u => Rc M u c) M.length = r → c ∈ seqB M := fun r => by
  induction r using Nat.strongRecOn with
  | _ r ih =>
    intro c hc e hr
    refine Classical.byContradiction fun hn => sq_ok.2 c hc ⟨e, hn, fun u v ee ev eu => ?_⟩
    obtain ⟨hu, hv⟩ := ent_lt hm ee
    obtain ⟨lu, mu, _⟩ := clN_ok hm hu
    have mv := (clN_ok hm hv).2.1
    rw [ev] at mv
    have r1 : Rc M (clN M u) c := mu.2.trans ((Rc.one ee).trans mv.1)
    refine ih _ ?_ (clN M u) (by omega) (clN_id hm hu) rfl
    rw [← hr]
    refine ct_lt (fun z _ hz => hz.trans r1) hc (Rc.refl c) fun x => eu ?_
    have := (clN_eq hm (by omega) hc).2 (⟨r1, x⟩ : Mu M (clN M u) c)
    rw [clN_id hm hu, e] at this
    exact this
theorem pos_in (hm : isMat M = true) {z : Nat} (hz : z < M.length) : ∃ j : Nat, (seqB M)[j]? = some (clN M z) := by
  have l := (clN_ok hm hz).1
  exact List.mem_iff_getElem?.1 (all_in hm _ (clN M z) (by omega) (clN_id hm hz) rfl)
theorem ord_le (hm : isMat M = true) {x y i j : Nat} (e : 0 < ent M x y) (hi : (seqB M)[i]? = some (clN M x)) (hj : (seqB M)[j]? = some (clN M y)) : i ≤ j := by
  have nd := (sq_ok (M := M)).1.b.d
  by_cases c : clN M x = clN M y
  · rw [c] at hi; exact Nat.le_of_eq (nd_inj nd hi hj)
  · have := (sq_ok (M := M)).1.o j _ hj x y e rfl c
    obtain ⟨k, hk⟩ := List.mem_iff_getElem?.1 this
    rw [List.getElem?_take] at hk
    split at hk
    · have := nd_inj nd hi hk; omega
    · cases hk
theorem last_fin (hm : isMat M = true) {m c : Nat} (hl : (seqB M).length = m + 1) (hc : (seqB M)[m]? = some c) : finP M c := by
  have pc := (sq_ok (M := M)).1.b.l c (List.mem_of_getElem? hc)
  refine ⟨pc.2, fun u v e hu => ?_⟩
  obtain ⟨j, hj⟩ := pos_in hm (ent_lt hm e).2
  have h1 := ord_le hm e (by rw [hu]; exact hc) hj
  have h2 := (List.getElem?_eq_some_iff.1 hj).1
  have : j = m := by omega
  subst this
  rw [hc] at hj
  cases hj; rfl
theorem fn_mem {c : Nat} (h : finP M c) : ∀ {k}, c < k → ∃ i : Nat, (fnL M k)[i]? = some (c : Int)
  | 0, hk => by omega
  | k + 1, hk => by
    by_cases e : c = k
    · subst e
      rw [fnL_t h]
      exact ⟨(fnL M c).length, by rw [List.getElem?_append_right (Nat.le_refl _), Nat.sub_self]; rfl⟩
    · obtain ⟨i, hi⟩ := fn_mem h (k := k) (by omega)
      by_cases f : finP M k
      · rw [fnL_t f]
        exact ⟨i, by rw [List.getElem?_append_left (List.getElem?_eq_some_iff.1 hi).1]; exact hi⟩
      · rw [fnL_f f]; exact ⟨i, hi⟩
theorem cm_at {c : Nat} : ∀ {k i : Nat} {z : Int}, (cmL M c k)[i]? = some z → ∃ u : Nat, u < k ∧ z = u ∧ clN M u = c
  | 0, i, z, h => by simp [cmL] at h
  | k + 1, i, z, h => by
    by_cases e : clN M k = c
    · rw [cmL_t e] at h
      by_cases l : i < (cmL M c k).length
      · rw [List.getElem?_append_left l] at h
        obtain ⟨u, a, b⟩ := cm_at h
        exact ⟨u, by omega, b⟩
      · rw [List.getElem?_append_right (by omega)] at h
        have : i - (cmL M c k).length = 0 := by have := (List.getElem?_eq_some_iff.1 h).1; simp at this; omega
        rw [this] at h
        cases h
        exact ⟨k, by omega, rfl, e⟩
    · rw [cmL_f e] at h
      obtain ⟨u, a, b⟩ := cm_at h
      exact ⟨u, by omega, b⟩
theorem cm_inc {c : Nat} : ∀ {k i : Nat} {y z : Int}, (cmL M c k)[i]? = some y → (cmL M c k)[i + 1]? = some z → y < z
  | 0, i, y, z, h, _ => by simp [cmL] at h
  | k + 1, i, y, z, h, h2 => by
    by_cases e : clN M k = c
    · rw [cmL_t e] at h h2
      by_cases l : i + 1 < (cmL M c k).length
      · rw [List.getElem?_append_left (by omega)] at h h2
        exact cm_inc h h2
      · rw [List.getElem?_append_right (by omega)] at h2
        have : i + 1 - (cmL M c k).length = 0 := by have := (List.getElem?_eq_some_iff.1 h2).1; simp at this; omega
        rw [this] at h2
        cases h2
        rw [List.getElem?_append_left (by omega)] at h
        obtain ⟨u, a, b, _⟩ := cm_at h
        omega
    · rw [cmL_f e] at h h2
      exact cm_inc h h2
theorem cm_mem {c z : Nat} (h : clN M z = c) : ∀ {k}, z < k → ∃ i : Nat, (cmL M c k)[i]? = some (z : Int)
  | 0, hk => by omega
  | k + 1, hk => by
    by_cases e : z = k
    · subst e
      rw [cmL_t h]
      exact ⟨(cmL M c z).length, by rw [List.getElem?_append_right (Nat.le_refl _), Nat.sub_self]; rfl⟩
    · obtain ⟨i, hi⟩ := cm_mem h (k := k) (by omega)
      by_cases f : clN M k = c
      · rw [cmL_t f]
        exact ⟨i, by rw [List.getElem?_append_left (List.getElem?_eq_some_iff.1 hi).1]; exact hi⟩
      · rw [cmL_f f]; exact ⟨i, hi⟩
theorem cm_inc' {c : Nat} {k i : Nat} {y : Int} (h : (cmL M c k)[i]? = some y) : ∀ {d : Nat} {z : Int}, (cmL M c k)[i + d]? = some z → y ≤ z
  | 0, z, h2 => by rw [Nat.add_zero, h] at h2; cases h2; omega
  | d + 1, z, h2 => by
    have l := (List.getElem?_eq_some_iff.1 h2).1
    have e := List.getElem?_eq_getElem (show i + d < (cmL M c k).length by omega)
    have a := cm_inc' h e
    have b := cm_inc e h2
    omega
theorem cm_head (hm : isMat M = true) {c : Nat} (hc : c < M.length) (e : clN M c = c) : (cmL M c M.length)[0]? = some (c : Int) := by
  obtain ⟨i, hi⟩ := cm_mem e hc
  have l := (List.getElem?_eq_some_iff.1 hi).1
  have h0 := List.getElem?_eq_getElem (show 0 < (cmL M c M.length).length by omega)
  have a := cm_inc' h0 (d := i) (by rw [Nat.zero_add]; exact hi)
  obtain ⟨u, b1, b2, b3⟩ := cm_at h0
  have := (clN_ok hm b1).1
  rw [h0]
  congr 1
  omega
theorem cm_ct (c : Nat) : ∀ k, (cmL M c k).length = ct (fun z => clN M z = c) k
  | 0 => rfl
  | k + 1 => by
    unfold ct
    by_cases e : clN M k = c
    · rw [cmL_t e, if_pos e, List.length_append, cm_ct c k]; rfl
    · rw [cmL_f e, if_neg e, cm_ct c k]; rfl
noncomputable def cnB (M : List (List Int)) (k : Nat) : Nat := ct (fun z => clN M z ∈ (seqB M).take k) M.length
theorem cnB_s {k c : Nat} (hc : (seqB M)[k]? = some c) : cnB M (k + 1) = cnB M k + (cmL M c M.length).length := by
  have nd := (sq_ok (M := M)).1.b.d
  obtain ⟨l, e⟩ := List.getElem?_eq_some_iff.1 hc
  unfold cnB
  rw [cm_ct]
  refine ct_or fun z _ => ⟨?_, fun ⟨a, b⟩ => ?_⟩
  · rw [List.take_add_one, hc]
    simp
  · obtain ⟨j, hj⟩ := List.mem_iff_getElem?.1 a
    rw [List.getElem?_take] at hj
    split at hj
    · rw [b] at hj
      have := nd_inj nd hj hc; omega
    · cases hj
theorem cnB_0 : cnB M 0 = 0 := ct_none fun z _ h => by simp at h
theorem cnB_all (hm : isMat M = true) : cnB M (seqB M).length = M.length := by
  unfold cnB
  rw [List.take_length]
  exact ct_all fun z hz => by
    obtain ⟨j, hj⟩ := pos_in hm hz
    exact List.mem_of_getElem? hj
theorem cnB_le (k : Nat) : cnB M k ≤ M.length := by
  unfold cnB
  refine Nat.le_trans (ct_le (q := fun _ => True) fun _ _ _ => trivial) ?_
  rw [ct_all fun _ _ => trivial]
  exact Nat.le_refl _
structure AtI (M : List (List Int)) (k i : Nat) (f : Nat → Int) : Prop where
  a : ∀ z j, z < M.length → (seqB M)[j]? = some (clN M z) → j < k → f z = j
  b : ∀ c (i' z : Nat), (seqB M)[k]? = some c → i' < i → (cmL M c M.length)[i']? = some (z : Int) → f z = k
theorem AtI.init {f : Nat → Int} : AtI M 0 0 f := ⟨fun z j _ _ h => by omega, fun c i z _ h => by omega⟩
theorem AtI.set {k i c z : Nat} {f : Nat → Int} (t : AtI M k i f) (hc : (seqB M)[k]? = some c) (hz : (cmL M c M.length)[i]? = some (z : Int)) : AtI M k (i + 1) (fun x => if x = z then (k : Int) else f x) := by
  have nd := (sq_ok (M := M)).1.b.d
  obtain ⟨u, _, e, e2⟩ := cm_at hz
  have : u = z := by omega
  subst this
  refine ⟨fun x j hx hj hk => ?_, fun c' i' x hc' hi hx => ?_⟩
  · by_cases q : x = u
    · subst q
      rw [e2] at hj
      have := nd_inj nd hj hc; omega
    · rw [if_neg q]; exact t.a x j hx hj hk
  · by_cases q : x = u
    · rw [if_pos q]
    · rw [if_neg q]
      refine t.b c' i' x hc' ?_ hx
      rcases Nat.lt_or_ge i' i with a | a
      · exact a
      · have : i' = i := by omega
        subst this
        rw [hc] at hc'; cases hc'
        rw [hz] at hx
        have : (u : Int) = x := Option.some.inj hx
        omega
theorem AtI.next {k c : Nat} {f : Nat → Int} (t : AtI M k (cmL M c M.length).length f) (hc : (seqB M)[k]? = some c) : AtI M (k + 1) 0 f := by
  refine ⟨fun z j hz hj hk => ?_, fun c' i' z _ h => by omega⟩
  by_cases e : j = k
  · subst e
    rw [hc] at hj
    have e2 : clN M z = c := (Option.some.inj hj).symm
    obtain ⟨i, hi⟩ := cm_mem e2 hz
    exact t.b c i z hc (List.getElem?_eq_some_iff.1 hi).1 hi
  · exact t.a z j hz hj (by omega)
def fB (L : List Int) (z : Int) : Nat → Bool
  | 0 => false
  | k + 1 => fB L z k || decide (L.getD k 0 = z)
theorem fB_t {L : List Int} {z : Int} {i : Nat} (h : L[i]? = some z) : ∀ {m}, i < m → fB L z m = true
  | 0, hm => by omega
  | m + 1, hm => by
    unfold fB
    by_cases e : i = m
    · subst e
      rw [List.getD_eq_getElem?_getD, h]
      simp
    · rw [fB_t h (m := m) (by omega)]; rfl
end
end Go.Proofs.Ytjeemgaoonapgaa.Ev
set_option linter.unusedVariables false
set_option linter.unusedSimpArgs false
namespace Go.Proofs.Ytjeemgaoonapgaa.Ev
open Go Go.AEv
attribute [local simp] evFunc initS evOps_c evTrim_c evSkip_c evExit_c evRet_c evSeq_c evCond_c evBlock_c evDraw_c runOps_n runOps_c exec_n exec_g pure1_c act AOpd.ev T.get T.set T.put evBin evUn forceT_eq forceV_eq forceL_eq evRess evRes one keep runFP_n runFP_c app_none AV.flats AV.flat came_some List.getElem?_cons_zero List.getElem?_cons_succ beqT wrapI idxI tdivI tmodI decT decF ibT ibF inT inF evScope_c if_pos if_neg Cm_some thenW_n thenW_e thenW_r blkW_n blkW_e blkW_r goI kn putAt AV.cells fillA loadA takeA mk Eff.isAll Eff.isNone Eff.commutes Eff.spares okPair apart eqAgg fits LK.fits allEq aveq eqk mmA
section
variable {M : List (List Int)}
structure BR (H : Heap) (M : List (List Int)) (qb : Nat) (rs : List AV) : Prop where
  g : H.get qb = .cells 1 (seqB M).length rs
  l : rs.length = (seqB M).length
  r : ∀ (k : Nat) c, (seqB M)[k]? = some c → ∃ b : Nat, rs[k]? = some (AV.slice b 0 (cmL M c M.length).length (cmL M c M.length).length) ∧ H.get b = .cells 1 (cmL M c M.length).length (gs (cmL M c M.length))
theorem BR.kp {H H' : Heap} {qb : Nat} {rs : List AV} (t : BR H M qb rs) (k : Kp (fun _ => False) H H') : BR H' M qb rs :=
  ⟨k.at t.g (by simp) id, t.l, fun i c hc => by obtain ⟨b, e1, e2⟩ := t.r i c hc; exact ⟨b, e1, k.at e2 (by simp) id⟩⟩
theorem b13_i (J : CallF) (hm : isMat M = true) {H : Heap} {qb k c : Nat} {x l : AV} {rs : List AV} (br : BR H M qb rs) (hc : (seqB M)[k]? = some c) (hP : (seqB M).length ≤ 8) :
    Tr tbl J c13_l0 (fun s h => ∃ f, AtI M k 0 f ∧ h = H.plus [.cells 1 M.length (gs (lf f M.length))] ∧ s.get [] = G M.length ∧ s.get [false, true] = x ∧ s.get [true, true] = .slice qb 0 (seqB M).length (seqB M).length ∧ s.get [false, false, false] = G 0 ∧ s.get [true, false, false] = l ∧ s.get [false, true, false] = G 0 ∧ s.get [true, true, false] = .slice H.size 0 M.length M.length ∧ s.get [false, false, true] = G ((cnB M k + 0 : Nat) : Int) ∧ s.get [true, false, true] = G k ∧ s.get [false, true, true] = G ((0 : Nat) : Int)) (.exit 2)
      (fun s h => ∃ f, AtI M (k + 1) 0 f ∧ h = H.plus [.cells 1 M.length (gs (lf f M.length))] ∧ s.get [] = G M.length ∧ s.get [false, true] = x ∧ s.get [true, true] = .slice qb 0 (seqB M).length (seqB M).length ∧ s.get [false, false, false] = G 0 ∧ s.get [true, false, false] = l ∧ s.get [false, true, false] = G 0 ∧ s.get [true, true, false] = .slice H.size 0 M.length M.length ∧ s.get [false, false, true] = G (cnB M (k + 1)) ∧ s.get [true, false, true] = G k) := by
  have h8 := isMat_n hm
  have hk := (List.getElem?_eq_some_iff.1 hc).1
  obtain ⟨bk, er, gr⟩ := br.r k c hc
  have er' := getI er
  have gb' := fun c => plus_keep [c] br.g (by simp)
  have gr' := fun c => plus_keep [c] gr (by simp)
  have lrs := br.l
  have cs := cnB_s hc
  have cle := cnB_le (M := M) (k + 1)
  have ll := cmL_len (M := M) c M.length
  have lg : (gs (cmL M c M.length)).length = (cmL M c M.length).length := by simp
  clear br
  refine Tr.rounds (P := fun i s h => ∃ f, AtI M k i f ∧ h = H.plus [.cells 1 M.length (gs (lf f M.length))] ∧ s.get [] = G M.length ∧ s.get [false, true] = x ∧ s.get [true, true] = .slice qb 0 (seqB M).length (seqB M).length ∧ s.get [false, false, false] = G 0 ∧ s.get [true, false, false] = l ∧ s.get [false, true, false] = G 0 ∧ s.get [true, true, false] = .slice H.size 0 M.length M.length ∧ s.get [false, false, true] = G ((cnB M k + i : Nat) : Int) ∧ s.get [true, false, true] = G k ∧ s.get [false, true, true] = G i) (M := (cmL M c M.length).length) (fun i hi => ?_) ?_ (by simp) 0 (by omega)
  · refine Tr.w fun s1 H1 hp R kR => W.trim ?_
    obtain ⟨f, at0, rfl, q⟩ := hp
    have e := List.getElem?_eq_getElem hi
    obtain ⟨u, hu, eu, _⟩ := cm_at e
    rw [eu] at e
    have at2 := at0.set hc e
    have es := upd_gs f hu (k : Int)
    have ee : (gs (cmL M c M.length))[i]? = some (G u) := by simp [e]
    have ee' := getI ee
    have lc := gl_len f M.length
    have eq : cnB M k + (i + 1) ≤ 8 := by omega
    have n1 : ((cnB M k + (i + 1) : Nat) : Int) = ((cnB M k + i : Nat) : Int) + 1 := by omega
    have n2 : 0 ≤ ((cnB M k + i : Nat) : Int) ∧ ((cnB M k + i : Nat) : Int) ≤ 7 := by omega
    simp only [n1] at kR
    generalize hf2 : (fun x => if x = u then (k : Int) else f x) = f2 at *
    generalize hc1' : gs (lf f2 M.length) = c1' at *
    generalize gs (lf f M.length) = c0 at *
    have ex2 : ∃ f', AtI M k (i + 1) f' ∧ H.plus [.cells 1 M.length c1'] = H.plus [.cells 1 M.length (gs (lf f' M.length))] := ⟨f2, at2, by rw [hc1']⟩
    cases i with
    | zero =>
      clear at0 at2 e eu
      generalize ((cnB M k + 0 : Nat) : Int) = cc at *
      generalize (cmL M c M.length).length = ln at *
      generalize gs (cmL M c M.length) = cr at *
      generalize hPl : (seqB M).length = pl at *
      generalize hn : M.length = n at *
      refine W.assoc ?_
      refine W.seq (W.chunk ?_)
      simp (disch := first | omega | exact getEq rfl | exact getO0 | exact Nat.le_of_ble_eq_true rfl) [c13_o10, app_growP, app_noneP, plus_N, plus_at0, put_plus0, put_plus1, upd_N, upd_size, q, gb', er, er', gr', lrs]
      refine W.seq (W.chunk ?_)
      simp (disch := first | omega | exact getEq rfl | exact getO0 | exact Nat.le_of_ble_eq_true rfl) [app_growP, app_noneP, plus_N, plus_at0, put_plus0, put_plus1, upd_N, upd_size, q]
      refine W.seq (W.block ?_)
      refine W.assoc ?_
      refine W.seq (W.chunk ?_)
      simp (disch := first | omega | exact getEq rfl | exact getO0 | exact Nat.le_of_ble_eq_true rfl) [c13_o11, app_growP, app_noneP, plus_N, plus_at0, put_plus0, put_plus1, upd_N, upd_size, q, gb', er, er', gr', ee, ee', lrs, lg, -evDraw_c, evDraw_0]
      refine W.seq (W.chunk ?_)
      simp (disch := first | omega | exact getEq rfl | exact getO0 | exact Nat.le_of_ble_eq_true rfl) [c13_o12, app_growP, app_noneP, plus_N, plus_at0, put_plus0, put_plus1, upd_N, upd_size, q]
      refine W.seq (W.chunk ?_)
      simp (disch := first | omega | exact getEq rfl | exact getO0 | exact Nat.le_of_ble_eq_true rfl) [c13_o13, app_growP, app_noneP, plus_N, plus_at0, put_plus0, put_plus1, upd_N, upd_size, q, gb', er, er', gr', ee, ee', lrs, lg, lc, es]
      refine W.chunk ?_
      simp (disch := first | omega | exact getEq rfl | exact getO0 | exact Nat.le_of_ble_eq_true rfl) [c13_o14, app_growP, app_noneP, plus_N, plus_at0, put_plus0, put_plus1, upd_N, upd_size, q]
      refine W.chunk ?_
      simp (disch := first | omega | exact getEq rfl | exact getO0 | exact Nat.le_of_ble_eq_true rfl) [c13_o15, app_growP, app_noneP, plus_N, plus_at0, put_plus0, put_plus1, upd_N, upd_size, q]
      exact kR _ _ (by obtain ⟨f', d1, d2⟩ := ex2; exact ⟨f', d1, d2, by simp [T.get, q]⟩)
    | succ j =>
      have e2 := List.getElem?_eq_getElem (show j < (cmL M c M.length).length by omega)
      obtain ⟨w, hw, ew, _⟩ := cm_at e2
      rw [ew] at e2
      have lt := cm_inc e2 e
      have ej : (gs (cmL M c M.length))[j]? = some (G w) := by simp [e2]
      have ej' := getI ej
      have nj : ((j + 1 : Nat) : Int) = (j : Int) + 1 := by omega
      clear at0 at2 e eu e2 ew
      generalize ((cnB M k + (j + 1) : Nat) : Int) = cc at *
      generalize (cmL M c M.length).length = ln at *
      generalize gs (cmL M c M.length) = cr at *
      generalize hPl : (seqB M).length = pl at *
      generalize hn : M.length = n at *
      refine W.assoc ?_
      refine W.seq (W.chunk ?_)
      simp (disch := first | omega | exact getEq rfl | exact getO0 | exact Nat.le_of_ble_eq_true rfl) [c13_o10, app_growP, app_noneP, plus_N, plus_at0, put_plus0, put_plus1, upd_N, upd_size, q, gb', er, er', gr', lrs]
      refine W.seq (W.chunk ?_)
      simp (disch := first | omega | exact getEq rfl | exact getO0 | exact Nat.le_of_ble_eq_true rfl) [app_growP, app_noneP, plus_N, plus_at0, put_plus0, put_plus1, upd_N, upd_size, q]
      refine W.seq (W.block ?_)
      refine W.assoc ?_
      refine W.seq (W.chunk ?_)
      simp (disch := first | omega | exact getEq rfl | exact getO0 | exact Nat.le_of_ble_eq_true rfl) [c13_o11, app_growP, app_noneP, plus_N, plus_at0, put_plus0, put_plus1, upd_N, upd_size, q, gb', er, er', gr', ee, ee', lrs, lg, ej, ej', nj, -evDraw_c, evDraw_0]
      refine W.seq (W.chunk ?_)
      simp (disch := first | omega | exact getEq rfl | exact getO0 | exact Nat.le_of_ble_eq_true rfl) [c13_o12, app_growP, app_noneP, plus_N, plus_at0, put_plus0, put_plus1, upd_N, upd_size, q]
      refine W.seq (W.chunk ?_)
      simp (disch := first | omega | exact getEq rfl | exact getO0 | exact Nat.le_of_ble_eq_true rfl) [c13_o13, app_growP, app_noneP, plus_N, plus_at0, put_plus0, put_plus1, upd_N, upd_size, q, gb', er, er', gr', ee, ee', lrs, lg, lc, es]
      refine W.chunk ?_
      simp (disch := first | omega | exact getEq rfl | exact getO0 | exact Nat.le_of_ble_eq_true rfl) [c13_o14, app_growP, app_noneP, plus_N, plus_at0, put_plus0, put_plus1, upd_N, upd_size, q]
      refine W.chunk ?_
      simp (disch := first | omega | exact getEq rfl | exact getO0 | exact Nat.le_of_ble_eq_true rfl) [c13_o15, app_growP, app_noneP, plus_N, plus_at0, put_plus0, put_plus1, upd_N, upd_size, q]
      exact kR _ _ (by obtain ⟨f', d1, d2⟩ := ex2; exact ⟨f', d1, d2, by simp [T.get, q]⟩)
  · refine Tr.w fun s1 H1 hp R kR => W.trim ?_
    obtain ⟨f, at0, rfl, q⟩ := hp
    have at2 := at0.next hc
    rw [← cs] at q
    have ex2 : ∃ f', AtI M (k + 1) 0 f' ∧ H.plus [.cells 1 M.length (gs (lf f M.length))] = H.plus [.cells 1 M.length (gs (lf f' M.length))] := ⟨f, at2, rfl⟩
    clear at0 at2 cs
    generalize gs (lf f M.length) = c0 at *
    generalize (cmL M c M.length).length = ln at *
    generalize gs (cmL M c M.length) = cr at *
    generalize hPl : (seqB M).length = pl at *
    generalize hn : M.length = n at *
    refine W.assoc ?_
    refine W.seq (W.chunk ?_)
    simp (disch := first | omega | exact getEq rfl | exact getO0 | exact Nat.le_of_ble_eq_true rfl) [c13_o10, app_growP, app_noneP, plus_N, plus_at0, put_plus0, put_plus1, upd_N, upd_size, q, gb', er, er', gr', lrs]
    refine W.seq (W.chunk ?_)
    simp (disch := first | omega | exact getEq rfl | exact getO0 | exact Nat.le_of_ble_eq_true rfl) [app_growP, app_noneP, plus_N, plus_at0, put_plus0, put_plus1, upd_N, upd_size, q]
    exact kR _ _ (by obtain ⟨f', d1, d2⟩ := ex2; exact ⟨f', d1, d2, by simp [T.get, q]⟩)
theorem b13_o (J : CallF) (hm : isMat M = true) {H : Heap} {qb : Nat} {x l : AV} {rs : List AV} (br : BR H M qb rs) (hP : (seqB M).length ≤ 8) :
    Tr tbl J c13_l1 (fun s h => ∃ f, AtI M 0 0 f ∧ h = H.plus [.cells 1 M.length (gs (lf f M.length))] ∧ s.get [] = G M.length ∧ s.get [false, true] = x ∧ s.get [true, true] = .slice qb 0 (seqB M).length (seqB M).length ∧ s.get [false, false, false] = G 0 ∧ s.get [true, false, false] = l ∧ s.get [false, true, false] = G 0 ∧ s.get [true, true, false] = .slice H.size 0 M.length M.length ∧ s.get [false, false, true] = G (cnB M 0) ∧ s.get [true, false, true] = G ((0 : Nat) : Int)) (.exit 0)
      (fun s h => ∃ f, AtI M (seqB M).length 0 f ∧ h = H.plus [.cells 1 M.length (gs (lf f M.length))] ∧ s.get [] = G M.length ∧ s.get [false, true] = x ∧ s.get [true, true] = .slice qb 0 (seqB M).length (seqB M).length ∧ s.get [false, false, false] = G 0 ∧ s.get [true, false, false] = l ∧ s.get [false, true, false] = G 0 ∧ s.get [true, true, false] = .slice H.size 0 M.length M.length ∧ s.get [false, false, true] = G (cnB M (seqB M).length)) := by
  have h8 := isMat_n hm
  refine Tr.rounds (P := fun k s h => ∃ f, AtI M k 0 f ∧ h = H.plus [.cells 1 M.length (gs (lf f M.length))] ∧ s.get [] = G M.length ∧ s.get [false, true] = x ∧ s.get [true, true] = .slice qb 0 (seqB M).length (seqB M).length ∧ s.get [false, false, false] = G 0 ∧ s.get [true, false, false] = l ∧ s.get [false, true, false] = G 0 ∧ s.get [true, true, false] = .slice H.size 0 M.length M.length ∧ s.get [false, false, true] = G (cnB M k) ∧ s.get [true, false, true] = G k) (M := (seqB M).length) (fun k hk => ?_) ?_ (by simp) 0 (by omega)
  · refine Tr.w fun s1 H1 hp R kR => W.trim ?_
    obtain ⟨f, at0, rfl, q⟩ := hp
    have l0 := b13_i (x := x) (l := l) J hm br (List.getElem?_eq_getElem hk) hP
    rw [Nat.add_zero] at l0
    have ex : ∃ f', AtI M k 0 f' ∧ H.plus [.cells 1 M.length (gs (lf f M.length))] = H.plus [.cells 1 M.length (gs (lf f' M.length))] := ⟨f, at0, rfl⟩
    clear at0 br
    generalize gs (lf f M.length) = c0 at *
    refine W.assoc ?_
    refine W.seq (W.chunk ?_)
    simp (disch := first | omega | exact getEq rfl | exact getO0 | exact Nat.le_of_ble_eq_true rfl) [c13_o8, app_growP, app_noneP, plus_N, plus_at0, put_plus0, put_plus1, upd_N, upd_size, q]
    refine W.seq (W.chunk ?_)
    simp (disch := first | omega | exact getEq rfl | exact getO0 | exact Nat.le_of_ble_eq_true rfl) [app_growP, app_noneP, plus_N, plus_at0, put_plus0, put_plus1, upd_N, upd_size, q]
    refine W.seq (W.block ?_)
    refine W.seq (W.chunk ?_)
    simp (disch := first | omega | exact getEq rfl | exact getO0 | exact Nat.le_of_ble_eq_true rfl) [c13_o9, app_growP, app_noneP, plus_N, plus_at0, put_plus0, put_plus1, upd_N, upd_size, q]
    refine W.block ?_
    refine W.use (l0) (by simp (disch := first | omega | exact getEq rfl | exact getO0 | exact Nat.le_of_ble_eq_true rfl) [app_growP, app_noneP, plus_N, plus_at0, put_plus0, put_plus1, upd_N, upd_size, q, ex]) fun s1 H1 hp => ?_
    obtain ⟨f2, at2, rfl, q⟩ := hp
    try simp only [thenW_n, thenW_e, thenW_r, blkW_n, blkW_e, blkW_r, if_true]
    refine W.chunk ?_
    simp (disch := first | omega | exact getEq rfl | exact getO0 | exact Nat.le_of_ble_eq_true rfl) [c13_o16, app_growP, app_noneP, plus_N, plus_at0, put_plus0, put_plus1, upd_N, upd_size, q]
    exact kR _ _ ⟨f2, at2, rfl, by simp [T.get, q]⟩
  · refine Tr.w fun s1 H1 hp R kR => W.trim ?_
    obtain ⟨f, at0, rfl, q⟩ := hp
    clear br
    refine W.assoc ?_
    refine W.seq (W.chunk ?_)
    simp (disch := first | omega | exact getEq rfl | exact getO0 | exact Nat.le_of_ble_eq_true rfl) [c13_o8, app_growP, app_noneP, plus_N, plus_at0, put_plus0, put_plus1, upd_N, upd_size, q]
    refine W.seq (W.chunk ?_)
    simp (disch := first | omega | exact getEq rfl | exact getO0 | exact Nat.le_of_ble_eq_true rfl) [app_growP, app_noneP, plus_N, plus_at0, put_plus0, put_plus1, upd_N, upd_size, q]
    exact kR _ _ ⟨f, at0, rfl, by simp [T.get, q]⟩
theorem b13_y (J : CallF) (hm : isMat M = true) {H : Heap} {b v qa x : Nat} {bb l : AV} {cs : List AV} {f : Nat → Int} (mx : MX H M b v cs) (ga : H.get qa = .cells 1 M.length (gs (lf f M.length))) (hf : ∀ x y, 0 < ent M x y → f x ≤ f y) (hx : x < M.length) :
    Tr tbl J c13_l2 (fun s h => h = H ∧ s.get [] = G M.length ∧ s.get [false, true] = .slice b 0 M.length v ∧ s.get [true, true] = bb ∧ s.get [true, false, false] = l ∧ s.get [true, true, false] = .slice qa 0 M.length M.length ∧ s.get [true, true, true] = G x ∧ s.get [false, false, false, false] = G ((0 : Nat) : Int)) (.exit 6) (fun s h => h = H ∧ s.get [] = G M.length ∧ s.get [false, true] = .slice b 0 M.length v ∧ s.get [true, true] = bb ∧ s.get [true, false, false] = l ∧ s.get [true, true, false] = .slice qa 0 M.length M.length ∧ s.get [true, true, true] = G x) := by
  have h8 := isMat_n hm
  refine Tr.rounds (P := fun y => (fun s h => h = H ∧ s.get [] = G M.length ∧ s.get [false, true] = .slice b 0 M.length v ∧ s.get [true, true] = bb ∧ s.get [true, false, false] = l ∧ s.get [true, true, false] = .slice qa 0 M.length M.length ∧ s.get [true, true, true] = G x ∧ s.get [false, false, false, false] = G y)) (M := M.length) (fun y hy => ?_) ?_ (by simp) 0 (by omega)
  · refine Tr.w fun s1 H1 hp R kR => W.trim ?_
    obtain ⟨rfl, q⟩ := hp
    obtain ⟨rb, rv, er, gr⟩ := mx.r x hx
    have gb := mx.g
    have ee := row_at hm hx hy
    have ex : (gs (lf f M.length))[x]? = some (G (f x)) := gl_at _ hx
    have ey : (gs (lf f M.length))[y]? = some (G (f y)) := gl_at _ hy
    have er' := getI er
    have ee' := getI ee
    have ex' := getI ex
    have ey' := getI ey
    have hf := hf x y
    have e0 := ent_bd hm x y
    clear mx
    generalize f x = u at *
    generalize f y = w at *
    generalize ent M x y = e at *
    generalize gs (lf f M.length) = cf at *
    generalize gs (M.getD x []) = cr at *
    generalize M.length = n at *
    by_cases h3 : 0 < e
    · have hf := hf h3
      refine W.assoc ?_
      refine W.seq (W.chunk ?_)
      simp (disch := first | omega | exact getEq rfl | exact getO0 | exact Nat.le_of_ble_eq_true rfl) [c13_o22, app_growP, app_noneP, plus_N, plus_at0, put_plus0, put_plus1, upd_N, upd_size, q]
      refine W.seq (W.chunk ?_)
      simp (disch := first | omega | exact getEq rfl | exact getO0 | exact Nat.le_of_ble_eq_true rfl) [app_growP, app_noneP, plus_N, plus_at0, put_plus0, put_plus1, upd_N, upd_size, q]
      refine W.seq (W.block ?_)
      refine W.seq (W.chunk ?_)
      simp (disch := first | omega | exact getEq rfl | exact getO0 | exact Nat.le_of_ble_eq_true rfl) [c13_o23, app_growP, app_noneP, plus_N, plus_at0, put_plus0, put_plus1, upd_N, upd_size, q, gb, gr, ga, er, er', ee, ee', ex, ex', ey, ey', -evDraw_c, evDraw_0]
      refine W.chunk ?_
      simp (disch := first | omega | exact getEq rfl | exact getO0 | exact Nat.le_of_ble_eq_true rfl) [c13_o24, app_growP, app_noneP, plus_N, plus_at0, put_plus0, put_plus1, upd_N, upd_size, q]
      refine W.chunk ?_
      simp (disch := first | omega | exact getEq rfl | exact getO0 | exact Nat.le_of_ble_eq_true rfl) [c13_o25, app_growP, app_noneP, plus_N, plus_at0, put_plus0, put_plus1, upd_N, upd_size, q]
      exact kR _ _ (by simp [T.get, q])
    · refine W.assoc ?_
      refine W.seq (W.chunk ?_)
      simp (disch := first | omega | exact getEq rfl | exact getO0 | exact Nat.le_of_ble_eq_true rfl) [c13_o22, app_growP, app_noneP, plus_N, plus_at0, put_plus0, put_plus1, upd_N, upd_size, q]
      refine W.seq (W.chunk ?_)
      simp (disch := first | omega | exact getEq rfl | exact getO0 | exact Nat.le_of_ble_eq_true rfl) [app_growP, app_noneP, plus_N, plus_at0, put_plus0, put_plus1, upd_N, upd_size, q]
      refine W.seq (W.block ?_)
      refine W.seq (W.chunk ?_)
      simp (disch := first | omega | exact getEq rfl | exact getO0 | exact Nat.le_of_ble_eq_true rfl) [c13_o23, app_growP, app_noneP, plus_N, plus_at0, put_plus0, put_plus1, upd_N, upd_size, q, gb, gr, ga, er, er', ee, ee', ex, ex', ey, ey', -evDraw_c, evDraw_0]
      refine W.chunk ?_
      simp (disch := first | omega | exact getEq rfl | exact getO0 | exact Nat.le_of_ble_eq_true rfl) [c13_o24, app_growP, app_noneP, plus_N, plus_at0, put_plus0, put_plus1, upd_N, upd_size, q]
      refine W.chunk ?_
      simp (disch := first | omega | exact getEq rfl | exact getO0 | exact Nat.le_of_ble_eq_true rfl) [c13_o25, app_growP, app_noneP, plus_N, plus_at0, put_plus0, put_plus1, upd_N, upd_size, q]
      exact kR _ _ (by simp [T.get, q])
  · refine Tr.w fun s1 H1 hp R kR => W.trim ?_
    obtain ⟨rfl, q⟩ := hp
    clear mx
    generalize M.length = n at *
    refine W.assoc ?_
    refine W.seq (W.chunk ?_)
    simp (disch := first | omega | exact getEq rfl | exact getO0 | exact Nat.le_of_ble_eq_true rfl) [c13_o22, app_growP, app_noneP, plus_N, plus_at0, put_plus0, put_plus1, upd_N, upd_size, q]
    refine W.seq (W.chunk ?_)
    simp (disch := first | omega | exact getEq rfl | exact getO0 | exact Nat.le_of_ble_eq_true rfl) [app_growP, app_noneP, plus_N, plus_at0, put_plus0, put_plus1, upd_N, upd_size, q]
    exact kR _ _ (by simp [T.get, q])
theorem b13_x (J : CallF) (hm : isMat M = true) {H : Heap} {b v qa : Nat} {bb l : AV} {cs : List AV} {f : Nat → Int} (mx : MX H M b v cs) (ga : H.get qa = .cells 1 M.length (gs (lf f M.length))) (hf : ∀ x y, 0 < ent M x y → f x ≤ f y) :
    Tr tbl J c13_l3 (fun s h => h = H ∧ s.get [] = G M.length ∧ s.get [false, true] = .slice b 0 M.length v ∧ s.get [true, true] = bb ∧ s.get [true, false, false] = l ∧ s.get [true, true, false] = .slice qa 0 M.length M.length ∧ s.get [true, true, true] = G ((0 : Nat) : Int)) (.exit 4) (fun s h => h = H ∧ s.get [true, true] = bb ∧ s.get [true, false, false] = l) := by
  have h8 := isMat_n hm
  refine Tr.rounds (P := fun x => (fun s h => h = H ∧ s.get [] = G M.length ∧ s.get [false, true] = .slice b 0 M.length v ∧ s.get [true, true] = bb ∧ s.get [true, false, false] = l ∧ s.get [true, true, false] = .slice qa 0 M.length M.length ∧ s.get [true, true, true] = G x)) (M := M.length) (fun x hx => ?_) ?_ (by simp) 0 (by omega)
  · refine Tr.w fun s1 H1 hp R kR => W.trim ?_
    obtain ⟨rfl, q⟩ := hp
    have l0 := b13_y (bb := bb) (l := l) J hm mx ga hf hx
    clear mx ga
    generalize M.length = n at *
    refine W.assoc ?_
    refine W.seq (W.chunk ?_)
    simp (disch := first | omega | exact getEq rfl | exact getO0 | exact Nat.le_of_ble_eq_true rfl) [c13_o20, app_growP, app_noneP, plus_N, plus_at0, put_plus0, put_plus1, upd_N, upd_size, q]
    refine W.seq (W.chunk ?_)
    simp (disch := first | omega | exact getEq rfl | exact getO0 | exact Nat.le_of_ble_eq_true rfl) [app_growP, app_noneP, plus_N, plus_at0, put_plus0, put_plus1, upd_N, upd_size, q]
    refine W.seq (W.block ?_)
    refine W.seq (W.chunk ?_)
    simp (disch := first | omega | exact getEq rfl | exact getO0 | exact Nat.le_of_ble_eq_true rfl) [c13_o21, app_growP, app_noneP, plus_N, plus_at0, put_plus0, put_plus1, upd_N, upd_size, q]
    refine W.block ?_
    refine W.use (l0) (by simp (disch := first | omega | exact getEq rfl | exact getO0 | exact Nat.le_of_ble_eq_true rfl) [app_growP, app_noneP, plus_N, plus_at0, put_plus0, put_plus1, upd_N, upd_size, q]) fun s1 H1 hp => ?_
    obtain ⟨rfl, q⟩ := hp
    try simp only [thenW_n, thenW_e, thenW_r, blkW_n, blkW_e, blkW_r, if_true]
    refine W.chunk ?_
    simp (disch := first | omega | exact getEq rfl | exact getO0 | exact Nat.le_of_ble_eq_true rfl) [c13_o26, app_growP, app_noneP, plus_N, plus_at0, put_plus0, put_plus1, upd_N, upd_size, q]
    exact kR _ _ (by simp [T.get, q])
  · refine Tr.w fun s1 H1 hp R kR => W.trim ?_
    obtain ⟨rfl, q⟩ := hp
    clear mx ga
    generalize M.length = n at *
    refine W.assoc ?_
    refine W.seq (W.chunk ?_)
    simp (disch := first | omega | exact getEq rfl | exact getO0 | exact Nat.le_of_ble_eq_true rfl) [c13_o20, app_growP, app_noneP, plus_N, plus_at0, put_plus0, put_plus1, upd_N, upd_size, q]
    refine W.seq (W.chunk ?_)
    simp (disch := first | omega | exact getEq rfl | exact getO0 | exact Nat.le_of_ble_eq_true rfl) [app_growP, app_noneP, plus_N, plus_at0, put_plus0, put_plus1, upd_N, upd_size, q]
    exact kR _ _ (by simp [T.get, q])
theorem b13_l (J : CallF) {H : Heap} {qb ql m b lw : Nat} {rs cw : List AV} {L : List Int} {c : Int} (gb : H.get qb = .cells 1 (m + 1) rs) (er : rs[m]? = some (.slice b 0 (lw + 1) (lw + 1))) (gr : H.get b = .cells 1 (lw + 1) cw) (ec : cw[0]? = some (G c)) (gl : H.get ql = .cells 1 L.length (gs L)) (hm : m ≤ 8) (hw : lw ≤ 8) (hl : L.length ≤ 8) :
    Tr tbl J c13_l4 (fun s h => h = H ∧ s.get [true, true] = .slice qb 0 (m + 1) (m + 1) ∧ s.get [true, false, false] = .slice ql 0 L.length L.length ∧ s.get [true, false, false, false] = .bool (fB L c 0) ∧ s.get [false, true, false, false] = G ((0 : Nat) : Int)) (.exit 8) (fun s h => h = H ∧ s.get [true, false, false, false] = .bool (fB L c L.length)) := by
  have nm : ((m + 1 : Nat) : Int) = (m : Int) + 1 := by omega
  have er' := getI er
  have ec' := getI ec
  have lrs := (List.getElem?_eq_some_iff.1 er).1
  have lcw := (List.getElem?_eq_some_iff.1 ec).1
  refine Tr.rounds (P := fun k => (fun s h => h = H ∧ s.get [true, true] = .slice qb 0 (m + 1) (m + 1) ∧ s.get [true, false, false] = .slice ql 0 L.length L.length ∧ s.get [true, false, false, false] = .bool (fB L c k) ∧ s.get [false, true, false, false] = G k)) (M := L.length) (fun k hk => ?_) ?_ (by simp) 0 (by omega)
  · refine Tr.w fun s1 H1 hp R kR => W.trim ?_
    obtain ⟨rfl, q⟩ := hp
    have e0 := List.getElem?_eq_getElem hk
    have ed : L.getD k 0 = L[k] := by rw [List.getD_eq_getElem?_getD, e0]; rfl
    have el : (gs L)[k]? = some (G L[k]) := by simp [e0]
    have lgl : (gs L).length = L.length := by simp
    have el' := getI el
    have es : fB L c (k + 1) = (fB L c k || decide (L[k] = c)) := by rw [← ed]; rfl
    rw [es] at kR
    clear es ed e0
    generalize L[k] = z at *
    generalize fB L c k = d at *
    generalize gs L = cl at *
    generalize L.length = nl at *
    cases d
    · by_cases hz : z = c
      · subst hz
        refine W.assoc ?_
        refine W.seq (W.chunk ?_)
        simp (disch := first | omega | exact getEq rfl | exact getO0 | exact Nat.le_of_ble_eq_true rfl) [c13_o29, app_growP, app_noneP, plus_N, plus_at0, put_plus0, put_plus1, upd_N, upd_size, q]
        refine W.seq (W.chunk ?_)
        simp (disch := first | omega | exact getEq rfl | exact getO0 | exact Nat.le_of_ble_eq_true rfl) [app_growP, app_noneP, plus_N, plus_at0, put_plus0, put_plus1, upd_N, upd_size, q]
        refine W.seq (W.block ?_)
        refine W.chunk ?_
        simp (disch := first | omega | exact getEq rfl | exact getO0 | exact Nat.le_of_ble_eq_true rfl) [c13_o30, app_growP, app_noneP, plus_N, plus_at0, put_plus0, put_plus1, upd_N, upd_size, q, gb, er, er', gr, ec, ec', gl, el, el', nm, lgl, -evDraw_c, evDraw_0]
        refine W.chunk ?_
        simp (disch := first | omega | exact getEq rfl | exact getO0 | exact Nat.le_of_ble_eq_true rfl) [c13_o31, app_growP, app_noneP, plus_N, plus_at0, put_plus0, put_plus1, upd_N, upd_size, q]
        exact kR _ _ (by simp [T.get, q])
      · refine W.assoc ?_
        refine W.seq (W.chunk ?_)
        simp (disch := first | omega | exact getEq rfl | exact getO0 | exact Nat.le_of_ble_eq_true rfl) [c13_o29, app_growP, app_noneP, plus_N, plus_at0, put_plus0, put_plus1, upd_N, upd_size, q]
        refine W.seq (W.chunk ?_)
        simp (disch := first | omega | exact getEq rfl | exact getO0 | exact Nat.le_of_ble_eq_true rfl) [app_growP, app_noneP, plus_N, plus_at0, put_plus0, put_plus1, upd_N, upd_size, q]
        refine W.seq (W.block ?_)
        refine W.chunk ?_
        simp (disch := first | omega | exact getEq rfl | exact getO0 | exact Nat.le_of_ble_eq_true rfl) [c13_o30, app_growP, app_noneP, plus_N, plus_at0, put_plus0, put_plus1, upd_N, upd_size, q, gb, er, er', gr, ec, ec', gl, el, el', nm, lgl, -evDraw_c, evDraw_0]
        refine W.chunk ?_
        simp (disch := first | omega | exact getEq rfl | exact getO0 | exact Nat.le_of_ble_eq_true rfl) [c13_o31, app_growP, app_noneP, plus_N, plus_at0, put_plus0, put_plus1, upd_N, upd_size, q]
        exact kR _ _ (by simp [T.get, q, hz])
    · refine W.assoc ?_
      refine W.seq (W.chunk ?_)
      simp (disch := first | omega | exact getEq rfl | exact getO0 | exact Nat.le_of_ble_eq_true rfl) [c13_o29, app_growP, app_noneP, plus_N, plus_at0, put_plus0, put_plus1, upd_N, upd_size, q]
      refine W.seq (W.chunk ?_)
      simp (disch := first | omega | exact getEq rfl | exact getO0 | exact Nat.le_of_ble_eq_true rfl) [app_growP, app_noneP, plus_N, plus_at0, put_plus0, put_plus1, upd_N, upd_size, q]
      refine W.seq (W.block ?_)
      refine W.chunk ?_
      simp (disch := first | omega | exact getEq rfl | exact getO0 | exact Nat.le_of_ble_eq_true rfl) [c13_o30, app_growP, app_noneP, plus_N, plus_at0, put_plus0, put_plus1, upd_N, upd_size, q, gb, er, er', gr, ec, ec', gl, el, el', nm, lgl, -evDraw_c, evDraw_0]
      refine W.chunk ?_
      simp (disch := first | omega | exact getEq rfl | exact getO0 | exact Nat.le_of_ble_eq_true rfl) [c13_o31, app_growP, app_noneP, plus_N, plus_at0, put_plus0, put_plus1, upd_N, upd_size, q]
      exact kR _ _ (by simp [T.get, q])
  · refine Tr.w fun s1 H1 hp R kR => W.trim ?_
    obtain ⟨rfl, q⟩ := hp
    generalize gs L = cl at *
    generalize fB L c L.length = d at *
    generalize L.length = nl at *
    refine W.assoc ?_
    refine W.seq (W.chunk ?_)
    simp (disch := first | omega | exact getEq rfl | exact getO0 | exact Nat.le_of_ble_eq_true rfl) [c13_o29, app_growP, app_noneP, plus_N, plus_at0, put_plus0, put_plus1, upd_N, upd_size, q]
    refine W.seq (W.chunk ?_)
    simp (disch := first | omega | exact getEq rfl | exact getO0 | exact Nat.le_of_ble_eq_true rfl) [app_growP, app_noneP, plus_N, plus_at0, put_plus0, put_plus1, upd_N, upd_size, q]
    exact kR _ _ (by simp [T.get, q])
end
structure KnK (J : CallF) : Prop where
  k23 : ∀ h, J 23 [] h = some (.bool true, [], false)
  k27 : K27 J
  k28 : K28 J
  k48 : K48 J
  k49 : K49 J
theorem blocked_law (J : CallF) (K : KnK J) (hJ : ∀ a h, J 13 a h = none) (h : Heap) (a : Int) {m : AV} {M : List (List Int)} (hm : MR h m M) : CallsTo tbl J 13 [G a, m] h (.bool true, [], false) := by
  refine Tr.fnv (cf := c13) (e := .ret) (s := T.set (T.set .leaf [] (G a)) [false] m) (by decide) rfl (hJ _ _) rfl rfl rfl (by simp) ?_
  refine Tr.w fun s1 H1 hp R kR => ?_
  obtain ⟨rfl, rfl⟩ := hp
  have q : True := trivial
  have fin : ∀ s h', s.get [true, false] = .bool true → R .ret s h' := fun s h' a => kR _ _ ⟨[.bool true], by simp [c13, evRess, evRes, a], rfl⟩
  clear kR
  have b1 := mdZ_bd a (show (0 : Int) < 8 by decide)
  have k1 := fun h => K.k27 a 8 h (by decide) (by decide)
  obtain ⟨n, hn⟩ : ∃ n : Nat, mdZ a 8 = (n : Int) := ⟨(mdZ a 8).toNat, by omega⟩
  rw [hn] at b1 k1
  have ns : ((n + 1 : Nat) : Int) = 1 + (n : Int) := by omega
  obtain ⟨x, own, N, k28, tg, hlN, hq⟩ := K.k28 (frameOf h) m M (n + 1) 1 (hm.lo []) (by omega) (by decide)
  have hN : isMat N = true := sqM_mat hq hlN (by omega) (by decide)
  have hx := tg.mr
  clear tg
  rw [ns] at k28
  generalize hH : (frameOf h).plus own = Ha at *
  have k23 := K.k23
  have so := (sq_ok (M := N)).1
  have hP8 : (seqB N).length ≤ N.length := so.b.len
  obtain ⟨j0, hj0⟩ := pos_in hN (show 0 < N.length by omega)
  have hj0 := (List.getElem?_eq_some_iff.1 hj0).1
  obtain ⟨p, hp⟩ : ∃ p, (seqB N).length = p + 1 := ⟨(seqB N).length - 1, by omega⟩
  obtain ⟨c, hc⟩ : ∃ c, (seqB N)[p]? = some c := ⟨_, List.getElem?_eq_getElem (by omega)⟩
  have pc := so.b.l c (List.mem_of_getElem? hc)
  obtain ⟨fi, hfi⟩ := fn_mem (last_fin hN hp hc) pc.1
  have lfi := (List.getElem?_eq_some_iff.1 hfi).1
  have hfB := fB_t hfi lfi
  have hd := cm_head hN pc.1 pc.2
  have lhd := (List.getElem?_eq_some_iff.1 hd).1
  have lc8 := cmL_len (M := N) c N.length
  have lf8 := fnL_len (M := N) N.length
  obtain ⟨v1, own1, k48, _, p1⟩ := K.k48 Ha ⟨N, x⟩ hx
  obtain ⟨w1, rfl, tb1⟩ := p1 hN
  simp only at k48 tb1
  have kpa : Kp (fun _ => False) Ha (Ha.plus own1) := Kp.plus _ _
  have hxb := hx.kp kpa
  generalize hHb : Ha.plus own1 = Hb at *
  obtain ⟨qb, rs, rfl, gb, lrs, hrs⟩ := tb1.sl (i := 0) (by rw [bkC_len]; omega)
  rw [bkC_len] at k48 gb lrs
  have br : BR Hb N qb rs := ⟨gb, lrs, fun k c' hc' => by
    obtain ⟨b, e1, e2⟩ := hrs k (gs (cmL N c' N.length)) (by simp [bkC, hc'])
    rw [show (gs (cmL N c' N.length)).length = (cmL N c' N.length).length by simp] at e1 e2
    exact ⟨b, e1, e2⟩⟩
  obtain ⟨v2, own2, k49, _, p2⟩ := K.k49 Hb ⟨N, x⟩ hxb
  obtain ⟨w2, rfl, ng2⟩ := p2 hN
  simp only at k49 ng2
  have kpb : Kp (fun _ => False) Hb (Hb.plus own2) := Kp.plus _ _
  have hxc := hxb.kp kpb
  have br := br.kp kpb
  have lgf : (gs (fnL N N.length)).length = (fnL N N.length).length := by simp
  obtain ⟨ql, rfl, gl⟩ := ng2.l.sl (by intro e; rw [e] at lgf; simp at lgf; omega)
  rw [show (gs (fnL N N.length)).length = (fnL N N.length).length by simp] at k49 gl
  generalize hHc : Hb.plus own2 = Hc at *
  obtain ⟨b, v, cs, rfl, mx⟩ := hxc.mx hN
  have mk1 := fun H => mkSl_ok H 8 (G 0) (n + 1) (1 + (n : Int)) ns.symm (by omega)
  have rp := gl_rep (n + 1)
  have l1 := b13_o (x := .slice b 0 N.length v) (l := .slice ql 0 (fnL N N.length).length (fnL N N.length).length) J hN br (by omega)
  have ca := cnB_all hN
  have ex : ∃ f, AtI N 0 0 f ∧ Hc.plus [.cells 1 (n + 1) (gs (lf (fun _ => 0) (n + 1)))] = Hc.plus [.cells 1 N.length (gs (lf f N.length))] := ⟨fun _ => 0, AtI.init, by rw [hlN]⟩
  rw [cnB_0, ca] at l1
  have k48 : J 48 [.slice b 0 N.length v] Ha = some (.tup [.slice qb 0 (seqB N).length (seqB N).length, G 0], own1, false) := k48
  have k49 : J 49 [.slice b 0 N.length v] Hb = some (.tup [.slice ql 0 (fnL N N.length).length (fnL N N.length).length, G 0], own2, false) := k49
  have k28 : J 28 [m, G (1 + (n : Int)), G 1] (frameOf h) = some (.slice b 0 N.length v, own, false) := k28
  obtain ⟨bl, el, gbl⟩ := br.r p c hc
  have gq := br.g
  obtain ⟨lw, hlw⟩ : ∃ lw, (cmL N c N.length).length = lw + 1 := ⟨(cmL N c N.length).length - 1, by omega⟩
  rw [hp] at gq k48
  rw [hlw] at el gbl
  simp only [hp] at l1
  have n2 : ((p + 1 : Nat) : Int) = (p : Int) + 1 := by omega
  have nsc : 1 + (n : Int) = (n : Int) + 1 := by omega
  have n3 : ((lw + 1 : Nat) : Int) = (lw : Int) + 1 := by omega
  have el' := getI el
  have llrs : rs.length = p + 1 := by rw [br.l, hp]
  obtain ⟨nf, hnf⟩ : ∃ nf, (fnL N N.length).length = nf + 1 := ⟨(fnL N N.length).length - 1, by omega⟩
  have n4 : ((nf + 1 : Nat) : Int) = (nf : Int) + 1 := by omega
  have post : ∀ f, AtI N (p + 1) 0 f → ∀ x y, 0 < ent N x y → f x ≤ f y := fun f at0 x y e => by
    obtain ⟨hx, hy⟩ := ent_lt hN e
    obtain ⟨i, hi⟩ := pos_in hN hx
    obtain ⟨j, hj⟩ := pos_in hN hy
    have l1 := (List.getElem?_eq_some_iff.1 hi).1
    have l2 := (List.getElem?_eq_some_iff.1 hj).1
    have := ord_le hN e hi hj
    rw [at0.a x i hx hi (by omega), at0.a y j hy hj (by omega)]
    omega
  have l3 := fun (f : Nat → Int) (at0 : AtI N (p + 1) 0 f) => b13_x (J := J) (bb := .slice qb 0 (p + 1) (p + 1)) (l := .slice ql 0 (fnL N N.length).length (fnL N N.length).length) hN (mx.kp (Kp.plus Hc [.cells 1 N.length (gs (lf f N.length))])) (plus_at0 Hc (.cells 1 N.length (gs (lf f N.length))) [] _ rfl) (post f at0)
  have l4 := fun (f : Nat → Int) => b13_l (J := J) (L := fnL N N.length) (c := (c : Int)) (H := Hc.plus [.cells 1 N.length (gs (lf f N.length))]) (plus_keep _ gq (by simp)) el (plus_keep _ gbl (by simp)) (show (gs (cmL N c N.length))[0]? = some (G c) by simp [hd]) (plus_keep _ gl (by simp)) (by omega) (by omega) (by omega)
  rw [hfB] at l4
  have gq' := fun c => plus_keep [c] gq (by simp)
  have gbl' := fun c => plus_keep [c] gbl (by simp)
  clear hx hxb hxc tb1 ng2 br mx hrs ca hfi hd so post
  simp only [show fB (fnL N N.length) c 0 = false from rfl] at l4
  rw [hlN] at ex
  simp only [hlN] at l1 l3 l4 k28 k48 k49 hnf
  simp only [hnf] at l1 l3 l4 k49
  generalize gs (cmL N c (n + 1)) = cr at *
  refine W.seq (W.chunk ?_)
  simp (disch := first | omega | exact getEq rfl | exact getO0 | exact Nat.le_of_ble_eq_true rfl) [c13_o0, app_growP, app_noneP, plus_N, plus_at0, put_plus0, put_plus1, upd_N, upd_size, q]
  refine W.seq (W.chunk ?_)
  simp (disch := first | omega | exact getEq rfl | exact getO0 | exact Nat.le_of_ble_eq_true rfl) [c13_o1, app_growP, app_noneP, plus_N, plus_at0, put_plus0, put_plus1, upd_N, upd_size, q, k1]
  refine W.seq (W.chunk ?_)
  simp (disch := first | omega | exact getEq rfl | exact getO0 | exact Nat.le_of_ble_eq_true rfl) [c13_o2, app_growP, app_noneP, plus_N, plus_at0, put_plus0, put_plus1, upd_N, upd_size, q, k28, app_if, app_if', hH]
  refine W.seq (W.chunk ?_)
  simp (disch := first | omega | exact getEq rfl | exact getO0 | exact Nat.le_of_ble_eq_true rfl) [c13_o3, app_growP, app_noneP, plus_N, plus_at0, put_plus0, put_plus1, upd_N, upd_size, q, k48, app_if, app_if', hHb]
  refine W.seq (W.chunk ?_)
  simp (disch := first | omega | exact getEq rfl | exact getO0 | exact Nat.le_of_ble_eq_true rfl) [c13_o4, app_growP, app_noneP, plus_N, plus_at0, put_plus0, put_plus1, upd_N, upd_size, q, k49, app_if, app_if', hHc]
  refine W.seq (W.chunk ?_)
  simp (disch := first | omega | exact getEq rfl | exact getO0 | exact Nat.le_of_ble_eq_true rfl) [-act, c13_o5, app_growP, app_noneP, plus_N, plus_at0, put_plus0, put_plus1, upd_N, upd_size, q, act_move, act_mkSl, mk1, rp]
  refine W.seq (W.chunk ?_)
  simp (disch := first | omega | exact getEq rfl | exact getO0 | exact Nat.le_of_ble_eq_true rfl) [c13_o6, app_growP, app_noneP, plus_N, plus_at0, put_plus0, put_plus1, upd_N, upd_size, q]
  refine W.assoc ?_
  refine W.seq (W.chunk ?_)
  simp (disch := first | omega | exact getEq rfl | exact getO0 | exact Nat.le_of_ble_eq_true rfl) [c13_o7, app_growP, app_noneP, plus_N, plus_at0, put_plus0, put_plus1, upd_N, upd_size, q]
  refine W.seq (W.block ?_)
  refine W.use (l1) (by simp (disch := first | omega | exact getEq rfl | exact getO0 | exact Nat.le_of_ble_eq_true rfl) [app_growP, app_noneP, plus_N, plus_at0, put_plus0, put_plus1, upd_N, upd_size, q, ex, nsc]) fun s1 H1 hp => ?_
  obtain ⟨f, at1, rfl, q⟩ := hp
  try simp only [thenW_n, thenW_e, thenW_r, blkW_n, blkW_e, blkW_r, if_true]
  refine W.assoc ?_
  refine W.seq (W.chunk ?_)
  simp (disch := first | omega | exact getEq rfl | exact getO0 | exact Nat.le_of_ble_eq_true rfl) [c13_o17, app_growP, app_noneP, plus_N, plus_at0, put_plus0, put_plus1, upd_N, upd_size, q, gq', gbl', el, el', n2, n3, n4, ns, llrs]
  refine W.seq (W.chunk ?_)
  simp (disch := first | omega | exact getEq rfl | exact getO0 | exact Nat.le_of_ble_eq_true rfl) [c13_o18, app_growP, app_noneP, plus_N, plus_at0, put_plus0, put_plus1, upd_N, upd_size, q]
  refine W.assoc ?_
  refine W.seq (W.chunk ?_)
  simp (disch := first | omega | exact getEq rfl | exact getO0 | exact Nat.le_of_ble_eq_true rfl) [c13_o19, app_growP, app_noneP, plus_N, plus_at0, put_plus0, put_plus1, upd_N, upd_size, q]
  refine W.seq (W.block ?_)
  refine W.use ((l3 f at1)) (by simp (disch := first | omega | exact getEq rfl | exact getO0 | exact Nat.le_of_ble_eq_true rfl) [app_growP, app_noneP, plus_N, plus_at0, put_plus0, put_plus1, upd_N, upd_size, q, nsc]) fun s1 H1 hp => ?_
  obtain ⟨rfl, q⟩ := hp
  try simp only [thenW_n, thenW_e, thenW_r, blkW_n, blkW_e, blkW_r, if_true]
  refine W.seq (W.chunk ?_)
  simp (disch := first | omega | exact getEq rfl | exact getO0 | exact Nat.le_of_ble_eq_true rfl) [c13_o27, app_growP, app_noneP, plus_N, plus_at0, put_plus0, put_plus1, upd_N, upd_size, q]
  refine W.assoc ?_
  refine W.seq (W.chunk ?_)
  simp (disch := first | omega | exact getEq rfl | exact getO0 | exact Nat.le_of_ble_eq_true rfl) [c13_o28, app_growP, app_noneP, plus_N, plus_at0, put_plus0, put_plus1, upd_N, upd_size, q]
  refine W.seq (W.block ?_)
  refine W.use ((l4 f)) (by simp (disch := first | omega | exact getEq rfl | exact getO0 | exact Nat.le_of_ble_eq_true rfl) [app_growP, app_noneP, plus_N, plus_at0, put_plus0, put_plus1, upd_N, upd_size, q]) fun s1 H1 hp => ?_
  obtain ⟨rfl, q⟩ := hp
  try simp only [thenW_n, thenW_e, thenW_r, blkW_n, blkW_e, blkW_r, if_true]
  refine W.seq (W.chunk ?_)
  simp (disch := first | omega | exact getEq rfl | exact getO0 | exact Nat.le_of_ble_eq_true rfl) [c13_o32, app_growP, app_noneP, plus_N, plus_at0, put_plus0, put_plus1, upd_N, upd_size, q, k23]
  refine W.ret ?_
  try simp only [thenW_n, thenW_e, thenW_r, blkW_n, blkW_e, blkW_r, if_true]
  exact fin _ _ (by simp [T.get])
theorem knK : KnK T31 where
  k23 := fun h => by
    simp (disch := decide) only [T31, T30, T29, T28, T27, T26, T25, T24, T23, T22, T21, T20, T19, T18, T17, T16, T15, T14, T13, T12, T11, T10, T9, T8, T7, T6, T5, T4, T3, T2, T1, addI_ne, addX_ne, addV_ne, addK_ne]
    exact k23_r h
  k27 := fun x n h a b => by
    simp (disch := decide) only [T31, T30, T29, T28, T27, T26, T25, T24, T23, T22, T21, T20, T19, T18, T17, T16, T15, T14, T13, T12, T11, T10, T9, T8, T7, T6, T5, T4, T3, addX_ne, addK_ne]
    exact k27_2 x n h a b
  k28 := fun h y M n most a b c => by
    simp (disch := decide) only [T31, T30, T29, T28, T27, T26, T25, T24, T23, T22, T21, T20, T19, T18, T17, T16, T15, T14, T13, T12, T11, T10, T9, T8, T7, T6, T5, T4, addX_ne, addK_ne]
    exact k28 h y M n most a b c
  k48 := fun h a ha => k48 h a ha
  k49 := fun h a ha => by
    simp (disch := decide) only [T31, T30, T29, addK_ne]
    exact k49 h a ha
theorem blocked_ok (h : Heap) (a : Int) {m : AV} {M : List (List Int)} (hm : MR h m M) : CallsTo tbl T31 13 [G a, m] h (.bool true, [], false) := blocked_law T31 knK (fun _ _ => by simp (disch := decide) only [T31, T30, T29, T28, T27, T26, T25, T24, T23, T22, T21, T20, T19, T18, T17, T16, T15, T14, T13, T12, T11, T10, T9, T8, T7, T6, T5, T4, T3, T2, T1, R21, R20, R19, R18, R17, R16, R15, R14, R13, R12, R11, R10, R9, R8, R7, R6, R5, R4, R3, R2, R1, addI_ne, addX_ne, addV_ne, addK_ne]; rfl) h a hm
end Go.Proofs.Ytjeemgaoonapgaa.Ev
set_option linter.unusedVariables false
set_option linter.unusedSimpArgs false
namespace Go.AEv
open Go.ChangeShapes Go.WideShapes Go.Proofs.Ytjeemgaoonapgaa.Ev
theorem MR.ext {h h' : Heap} (e : Ext h h') {y : AV} {M : List (List Int)} (m : MR h y M) : MR h' y M := by
  rcases m with m | ⟨b, v, cs, rfl, g, hl, hr⟩
  · exact .inl m
  · refine .inr ⟨b, v, cs, rfl, e _ _ g (by simp), hl, fun i r q => ?_⟩
    obtain ⟨l, h1, h2⟩ := hr i r q
    exact ⟨l, h1, LR.ext e h2⟩
theorem rows_lo {CK : CKT} {w : World} {H : Type} {enc : TypeId × Value → H} {P : Program} {e i : TypeId} (he : P.underlying e = some (.slice i)) (hi : P.underlying i = some (.int .i64)) (hc : P.cellsOf i = 1) :
    ∀ (vs : List Value) {φ : Nat → Emb} {h : Heap} (ho : h.own = []) (hr : HR CK w [] φ h w), (∀ u ∈ vs, ∃ fuel z, DataW.trod enc P w 0 (fun _ => true) true fuel e [u] = some z) →
    ∃ φ' h', ∃ (rs : List AV) (ls : List (List Int)), h'.own = [] ∧ HR CK w [] φ' h' w ∧ Stp φ h φ' h' ∧ Ext h h' ∧ rs.length = vs.length ∧ ls.length = vs.length ∧ ∀ (j : Nat) u r, vs[j]? = some u → rs[j]? = some r → VR φ' h' r u ∧ Value.oneCell' u = true ∧ ∃ l, ls[j]? = some l ∧ LR h' r l
  | [], φ, h, ho, hr, _ => ⟨φ, h, [], [], ho, hr, Stp.refl φ h, Ext.refl h, rfl, rfl, fun j u r q => by simp at q⟩
  | u :: us, φ, h, ho, hr, ht => by
    obtain ⟨fuel, z, hf⟩ := ht u (by simp)
    obtain ⟨φ1, h1, x, l, o1, r1, s1, e1, v1, p1, c1⟩ := ints_lo0 ho hr he hi hc hf
    obtain ⟨φ2, h2, rs, ls, o2, r2, s2, e2, l1, l2, q⟩ := rows_lo he hi hc us o1 r1 (fun u' hu => ht u' (by simp [hu]))
    refine ⟨φ2, h2, x :: rs, l :: ls, o2, r2, s1.trans s2, e1.trans e2, by simp [l1], by simp [l2], fun j u' r hu hr' => ?_⟩
    cases j with
    | zero =>
      simp only [List.getElem?_cons_zero, Option.some.injEq] at hu hr'
      subst hu hr'
      exact ⟨VR.step s2 _ _ v1, c1, l, rfl, p1.ext e2⟩
    | succ j =>
      simp only [List.getElem?_cons_succ] at hu hr' ⊢
      exact q j u' r hu hr'
theorem mat_lo {CK : CKT} {φ : Nat → Emb} {h : Heap} {w : World} (ho : h.own = []) (hr : HR CK w [] φ h w) {H : Type} {enc : TypeId × Value → H} {P : Program} {t e i : TypeId} {v : Value} {d : DataW H} {p : List MemPlace}
    (ht : P.underlying t = some (.slice e)) (he : P.underlying e = some (.slice i)) (hi : P.underlying i = some (.int .i64)) (hce : P.cellsOf e = 1) (hci : P.cellsOf i = 1) (hvs : ∃ a len cap, v = .slice a len cap) (k : DataW.Trod enc P w 0 (fun _ => true) true t v d p) :
    ∃ φ' h' x M, h'.own = [] ∧ HR CK w [] φ' h' w ∧ Stp φ h φ' h' ∧ Ext h h' ∧ VR φ' h' x v ∧ MR h' x M := by
  obtain ⟨va, vl, vc, rfl⟩ := hvs
  obtain ⟨fuel, hf⟩ := k
  rcases DataW.trod_slice ht hf with ⟨hcs, _⟩ | ⟨a, len, cap, elems, rest, n, _, hcs, _, _, hl, hm, hlen, hel, hsp, _⟩
  · have hcs' : Value.slice va vl vc = .slice none 0 0 := (List.cons.inj hcs).1
    rw [hcs']
    exact ⟨φ, h, .nils, [], ho, hr, Stp.refl φ h, Ext.refl h, by simp [VR], .inl ⟨.inl rfl, rfl⟩⟩
  · have hcs' : Value.slice va vl vc = .slice (some a) len cap := (List.cons.inj hcs).1
    rw [hcs']
    by_cases h0 : len = 0
    · subst h0
      exact ⟨φ, h, .slice0, [], ho, hr, Stp.refl φ h, Ext.refl h, by simp [VR], .inl ⟨.inr rfl, rfl⟩⟩
    · obtain ⟨hrl, hre⟩ := hsp rfl
      have each : ∀ j, j < cap → ∃ u, w.cell? (a.add j) = some u ∧ ∃ z, DataW.trod enc P w 0 (fun _ => true) true n e [u] = some z := fun j hj => by
        have hb' : ∃ y, (w.cells? 0 (a.add (j * P.cellsOf e)) (P.cellsOf e)).bind (DataW.trod enc P w 0 (fun _ => true) true n e) = some y := by
          by_cases hjl : j < len
          · rw [hel j hjl, List.getElem?_eq_getElem (by omega)]; exact ⟨_, rfl⟩
          · have := hre (j - len) (by omega)
            rw [show len + (j - len) = j by omega] at this
            rw [this, List.getElem?_eq_getElem (by omega)]; exact ⟨_, rfl⟩
        obtain ⟨y, hy⟩ := hb'
        rw [hce, Nat.mul_one, Option.bind_eq_some_iff] at hy
        obtain ⟨cs', h1, h2⟩ := hy
        have hl1 := (World.cells?_some h1).2.1
        obtain ⟨u, rfl⟩ : ∃ u, cs' = [u] := by
          cases cs' with
          | nil => simp at hl1
          | cons u r => cases r with
            | nil => exact ⟨u, rfl⟩
            | cons u' r => simp at hl1
        exact ⟨u, cell_of_cells?_one h1, y, h2⟩
      obtain ⟨f, hfe⟩ : ∃ f : Nat → Value, ∀ j, j < cap → w.cell? (a.add j) = some (f j) ∧ ∃ z, DataW.trod enc P w 0 (fun _ => true) true n e [f j] = some z :=
        ⟨fun j => if hj : j < cap then Classical.choose (each j hj) else .nilFunc, fun j hj => by
          simp only [dif_pos hj]
          exact Classical.choose_spec (each j hj)⟩
      obtain ⟨b, off, spot⟩ := a
      have hspot : spot = none := by simpa [Addr.add] using World.cell?_spot (hfe 0 (by omega)).1
      subst hspot
      have hcell : ∀ j, j < cap → w.cell? ⟨b, off + j, none⟩ = some (f j) := fun j hj => by rw [← Go.WideShapes.add_plain]; exact (hfe j hj).1
      obtain ⟨c, ty, fr, hb, hc0⟩ := cell_obj (hcell 0 (by omega))
      have hcj : ∀ j, j < cap → c[off + j]? = some (f j) := fun j hj => by
        obtain ⟨c', ty', fr', hb', hcj⟩ := cell_obj (hcell j hj)
        rw [hb] at hb'
        simp only [Option.some.injEq, Obj.cells.injEq] at hb'
        obtain ⟨rfl, _⟩ := hb'
        exact hcj
      have hsize : off + cap ≤ c.size := by
        have := (Array.getElem?_eq_some_iff.1 (hcj (cap - 1) (by omega))).1
        omega
      obtain ⟨φ1, h1, rs, ls, o1, r1, s1, e1, l1, l2, q⟩ := rows_lo he hi hci ((List.range len).map f) ho hr (fun u hu => by
        obtain ⟨j, hj, rfl⟩ := List.mem_map.1 hu
        obtain ⟨z, hz⟩ := (hfe j (by have := List.mem_range.1 hj; omega)).2
        exact ⟨n, z, hz⟩)
      simp only [List.length_map, List.length_range] at l1 l2
      have hat : ∀ j, j < len → ((List.range len).map f)[j]? = some (f j) := fun j hj => by simp [hj]
      refine ⟨AEv.upd φ1 h1.N ⟨b, off, cap⟩, h1.more (.cells 1 len rs), .slice h1.N 0 len len, ls, rfl, lo_add o1 r1 _ _ ?_, s1.trans (lo_stp o1 _ _), e1.trans (more_ext h1 o1 _), ?_, .inr ⟨h1.N, len, rs, by rw [l2], more_at _ _, by omega, fun j r hr' => ?_⟩⟩
      · refine ⟨c, ty, fr, hb, hsize, by show rs.length ≤ cap; omega, fun j x hx => ?_⟩
        have hj : j < len := by have := (List.getElem?_eq_some_iff.1 hx).1; omega
        obtain ⟨q1, q2, _⟩ := q j (f j) x (hat j hj) hx
        exact ⟨f j, hcj j (by omega), VR.step (lo_stp o1 _ _) _ _ q1, q2⟩
      · simp only [VR]
        exact ⟨_, cap, 1, len, _, rfl, hl, more_at _ _, Nat.le_refl _, fun _ => ⟨by simp [AEv.upd], fun _ _ => by simp [AEv.upd]⟩⟩
      · have hj : j < len := by have := (List.getElem?_eq_some_iff.1 hr').1; omega
        obtain ⟨_, _, l, q3, q4⟩ := q j (f j) r (hat j hj) hr'
        exact ⟨l, q3, q4.ext (more_ext h1 o1 _)⟩
end Go.AEv
