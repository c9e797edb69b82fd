/-
  The reference's Power, and what is known of both. No condition.
-/
import Derived.Test.YtjeemgaoonapgaaRPow5
set_option linter.unusedVariables false
set_option linter.unusedSimpArgs false
namespace Go.Proofs.Ytjeemgaoonapgaa.Ev
open Go Go.AEv

attribute [local simp] evFunc initS evOps_c evTrim_c evSkip_c evExit_c evRet_c evSeq_c evCond_c evBlock_c evDraw_c runOps_n runOps_c exec_n exec_g pure1_c act AOpd.ev T.get T.set T.put evBin evUn forceT_eq forceV_eq forceL_eq evRess evRes one keep runFP_n runFP_c app_none AV.flats AV.flat

theorem TB.base {H0 H1 H : Heap} {x : AV} {L : List (List AV)} (k : Kp (fun _ => False) H0 H1) (t : TB H1 H x L) : TB H0 H x L := by
  obtain ⟨rs, lv, hl, hr⟩ := t.r
  exact ⟨k.trans t.k, fun q hq => Nat.le_trans k.size (t.x0 q hq), rs, lv, hl, fun i r hi => by
    obtain ⟨cs, b, h1, h2, h3, h4, h5⟩ := hr i r hi
    exact ⟨cs, b, h1, h2, h3, h4, Nat.le_trans k.size h5⟩⟩
section
variable {M : List (List Int)}
theorem pwL_len (k : Nat) : ((pwL M k).map gs).length = M.length := by simp [pwL]
theorem pwL_at (k : Nat) {i : Nat} (hi : i < M.length) : ((pwL M k).map gs)[i]? = some (gs (rwL (pwX M k) M.length i)) := by simp [pwL, hi]
end

/-! ### What is known -/
structure A43 where
  M : List (List Int)
  y : AV
  k : Int
def pkOk (a : A43) : Prop := isMat a.M = true ∧ 0 ≤ a.k ∧ a.k ≤ 100
def Pre43 (a : A43) (args : List AV) (h : Heap) : Prop := MR h a.y a.M ∧ args = [a.y, G a.k]
def Post43 (a : A43) (h : Heap) (v : AV) (own : List AObj) : Prop := (¬ pkOk a → v = .tup [.nils, G 2] ∧ own = []) ∧ (pkOk a → ¬ okP a.M a.k.toNat → v = .tup [.nils, G 5] ∧ own = []) ∧ (pkOk a → okP a.M a.k.toNat → ∃ w, v = .tup [w, G 0] ∧ TB h (h.plus own) w ((pwL a.M a.k.toNat).map gs))
noncomputable def T16 : CallF := addK tbl T15 43 Pre43 Post43
theorem t16 : Sound Go.Proofs.Try.prog T16 := Sound.addK follows ok t15 (by decide) _ _
abbrev K43 (J : CallF) : Prop := ∀ (h : Heap) (a : A43), MR h a.y a.M → ∃ v own, J 43 [a.y, G a.k] h = some (v, own, false) ∧ Post43 a h v own
theorem k54_15 : K54 T15 := fun h y M hy => by
  simp (disch := decide) only [T15, T14, T13, T12, T11, T10, T9, T8, T7, T6, T5, T4, T3, T2, T1, R21, R20, R19, R18, R17, R16, R15, R14, R13, R12, R11, R10, R9, R8, R7, R6, R5, R4, R3, R2, R1, addI_ne, addX_ne, addV_ne, addK_ne]
  exact k54 h y M hy
theorem k57_15 : K57 T15 := fun n lo hi h => by
  simp (disch := decide) only [T15, T14, T13, T12, T11, T10, T9, T8, T7, T6, T5, T4, T3, T2, T1, R21, R20, R19, R18, R17, R16, R15, R14, R13, R12, R11, R10, R9, R8, R7, R6, R5, R4, R3, R2, R1, addI_ne, addX_ne, addV_ne, addK_ne]
  exact k57 n lo hi h
theorem k72_15 : K72 T15 := fun h M hm => by
  simp (disch := decide) only [T15, T14, addK_ne]
  exact k72 h M hm
theorem k73_15 : K73 T15 := fun h a ha => by
  simp (disch := decide) only [T15, addK_ne]
  exact k73 h a ha
theorem k43 : K43 T16 := fun h a ha => addK_some (Pre := Pre43) (Post := Post43) (fun a args h hp => by
  obtain ⟨hy, rfl⟩ := hp
  have hn : ∀ a h, T15 43 a h = none := (fun _ _ => by simp (disch := decide) only [T15, T14, T13, T12, T11, T10, T9, T8, T7, T6, T5, T4, T3, T2, T1, R21, R20, R19, R18, R17, R16, R15, R14, R13, R12, R11, R10, R9, R8, R7, R6, R5, R4, R3, R2, R1, addI_ne, addX_ne, addV_ne, addK_ne]; rfl)
  by_cases c : pkOk a
  · obtain ⟨k, hk⟩ : ∃ k : Nat, a.k = k := ⟨a.k.toNat, by have := c.2; omega⟩
    obtain ⟨c1, c2⟩ := id c
    obtain ⟨v, own, e, p1, p2⟩ := c43_ok T15 k54_15 k57_15 k72_15 k73_15 k74 hn h hy c1 (k := k) (by omega)
    rw [hk]
    refine ⟨v, own, e, fun q => absurd c q, fun _ q => p1 ?_, fun _ q => ?_⟩
    · rw [hk] at q; simpa using q
    · rw [hk] at q ⊢; simpa using p2 (by simpa using q)
  · exact ⟨_, _, c43_bad T15 k54_15 k57_15 hn h hy c, fun _ => ⟨rfl, rfl⟩, fun q => absurd q c, fun q => absurd q c⟩) a _ h ⟨ha, rfl⟩
structure A46 where
  M : List (List Int)
  y : AV
  k : Nat
def Ok46 (a : A46) (h : Heap) : Prop := MR h a.y a.M ∧ isMat a.M = true ∧ a.k ≤ 100
def Pre46 (a : A46) (args : List AV) (h : Heap) : Prop := Ok46 a h ∧ args = [a.y, G a.k]
def Post46 (a : A46) (h : Heap) (v : AV) (own : List AObj) : Prop := (¬ okP a.M a.k → v = .tup [.nils, .bool false] ∧ own = []) ∧ (okP a.M a.k → ∃ w, v = .tup [w, .bool true] ∧ TB h (h.plus own) w ((pwL a.M a.k).map gs))
noncomputable def T17 : CallF := addK tbl T16 46 Pre46 Post46
theorem t17 : Sound Go.Proofs.Try.prog T17 := Sound.addK follows ok t16 (by decide) _ _
end Go.Proofs.Ytjeemgaoonapgaa.Ev
