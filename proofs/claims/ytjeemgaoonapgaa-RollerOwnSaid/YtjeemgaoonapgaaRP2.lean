/-
  Of the functions that this law reaches, part 2: what they answer. No condition.
-/
import Derived.Test.YtjeemgaoonapgaaRP1
import Derived.Test.YtjeemgaoonapgaaRP0
set_option linter.unusedVariables false
set_option linter.unusedSimpArgs false
namespace Go.Proofs.Ytjeemgaoonapgaa.Ev
open Go Go.AEv
attribute [local simp] evFunc initS evOps_c evTrim_c evSkip_c evExit_c evRet_c evSeq_c evCond_c evBlock_c evDraw_c runOps_n runOps_c exec_n exec_g pure1_c act AOpd.ev T.get T.set T.put evBin evUn forceT_eq forceV_eq forceL_eq evRess evRes one keep runFP_n runFP_c app_none AV.flats AV.flat came_some List.getElem?_cons_zero List.getElem?_cons_succ beqT wrapI idxI tdivI tmodI decT decF ibT ibF inT inF evScope_c if_pos if_neg Cm_some thenW_n thenW_e thenW_r blkW_n blkW_e blkW_r goI kn putAt AV.cells fillA loadA takeA mk Eff.isAll Eff.isNone Eff.commutes Eff.spares okPair apart eqAgg fits LK.fits allEq aveq eqk mmA
section
variable {M : List (List Int)}
theorem cu_init {i : Nat} : ∀ {m}, i < m → cu (fun z => if z = i then 0 else -1) m + 1 = m
  | 0, h => by omega
  | m + 1, h => by
    show cu _ m + (if (if m = i then (0 : Int) else -1) = -1 then 1 else 0) + 1 = m + 1
    by_cases e : i = m
    · subst e
      rw [if_pos rfl, if_neg (by omega)]
      have : ∀ k, k ≤ i → cu (fun z => if z = i then (0 : Int) else -1) k = k := fun k => by
        induction k with
        | zero => intro _; rfl
        | succ k ih =>
          intro hk
          show cu _ k + (if (if k = i then (0 : Int) else -1) = -1 then 1 else 0) = k + 1
          rw [if_neg (show ¬ k = i by omega), if_pos rfl, ih (by omega)]
      rw [this i (Nat.le_refl _)]
    · rw [if_neg (show ¬ m = i from fun e' => e e'.symm), if_pos rfl]
      have := cu_init (i := i) (m := m) (by omega)
      omega
theorem BI.init {i : Nat} (hi : i < M.length) : BI M i (fun z => if z = i then 0 else -1) [i] 0 0 0 := by
  refine ⟨if_pos rfl, fun z hz hne => ?_, fun j z hj => ?_, ?_, fun g _ => ⟨0, rfl⟩, fun j u hj => absurd hj (by omega), fun u hu z hz => absurd hz (by omega), by omega⟩
  · by_cases c : z = i
    · subst c
      exact ⟨Mu.refl z, ⟨0, if_pos rfl, rfl⟩, by simp⟩
    · simp only [if_neg c] at hne; exact absurd rfl hne
  · have hj0 : j = 0 := by
      have := (List.getElem?_eq_some_iff.1 hj).1
      simpa using this
    subst hj0
    simp only [List.getElem?_cons_zero, Option.some.injEq] at hj
    subst hj
    exact ⟨hi, by simp, by simp⟩
  · have := cu_init hi
    rw [List.length_singleton]; omega
def DSp (M : List (List Int)) (i : Nat) (f : Nat → Int) : Prop := (∀ z, z < M.length → Mu M i z → ∃ d : Nat, f z = d ∧ Wk M d i z) ∧ (∀ z, z < M.length → ¬ Mu M i z → f z = -1)
end
structure AD where
  M : List (List Int)
  i : Nat
def OkD (a : AD) : Prop := isMat a.M = true ∧ a.i < a.M.length
def PreD (a : AD) (args : List AV) (_ : Heap) : Prop := OkD a ∧ args = [.agg (matC a.M), G a.i]
def Post63 (a : AD) (h : Heap) (v : AV) (own : List AObj) : Prop := ∃ w f, v = .tup [w, G (perN a.M a.i)] ∧ DSp a.M a.i f ∧ perN a.M a.i ≤ 100 ∧ NG h (h.plus own) w (lf f a.M.length)
noncomputable def T26 : CallF := addK tbl T25 63 PreD Post63
theorem t26 : Sound Go.Proofs.Try.prog T26 := Sound.addK follows ok t25 (by decide) _ _
section
variable {M : List (List Int)}
end
def Post32 (a : AM) (h : Heap) (v : AV) (own : List AObj) : Prop := (isMat a.M = false → v = .tup [.nils, G 2] ∧ own = []) ∧ (isMat a.M = true → ∃ w, v = .tup [w, G 0] ∧ NG h (h.plus own) w (pdL a.M))
noncomputable def T27 : CallF := addK tbl T26 32 PreM Post32
theorem t27 : Sound Go.Proofs.Try.prog T27 := Sound.addK follows ok t26 (by decide) _ _
end Go.Proofs.Ytjeemgaoonapgaa.Ev
set_option linter.unusedVariables false
set_option linter.unusedSimpArgs false
namespace Go.Proofs.Ytjeemgaoonapgaa.Ev
open Go Go.AEv
def st (L : List Nat) : List (AV × AV) := L.map fun (c : Nat) => (G c, AV.bool true)
def ins (c : Nat) (L : List Nat) : List Nat := if c ∈ L then L else L ++ [c]
theorem mem_ins {z c : Nat} {L : List Nat} : z ∈ ins c L ↔ z = c ∨ z ∈ L := by
  unfold ins
  split
  · rename_i h
    exact ⟨.inr, fun q => q.elim (fun e => e ▸ h) id⟩
  · simp [or_comm]
theorem mapA_at {h : Heap} {b : Nat} {es : List (AV × AV)} (e : h.get b = .map es) : mapA h (.map b) = some es := by
  unfold mapA; simp only [e]
theorem aveq_n (a b : Nat) : aveq (G a) (G b) = some (a == b) := by
  simp only [aveq, if_true]
  congr 1
  by_cases e : a = b
  · subst e; simp
  · rw [beq_eq_false_iff_ne.2 e, beq_eq_false_iff_ne.2 (by omega)]
theorem find_st (k : Nat) : ∀ L : List Nat, findA (G k) (st L) = some (if k ∈ L then some (.bool true) else none)
  | [] => rfl
  | c :: L => by
    show (match aveq (G k) (G c) with | some true => some (some (AV.bool true)) | some false => findA (G k) (st L) | none => none) = _
    rw [aveq_n]
    by_cases e : k = c
    · subst e
      simp
    · rw [beq_eq_false_iff_ne.2 e]
      simp only
      rw [find_st k L]
      simp [e]
theorem put_st (k : Nat) : ∀ L : List Nat, putMap (G k) (.bool true) (st L) = some (st (ins k L))
  | [] => rfl
  | c :: L => by
    show (match aveq (G k) (G c) with | some true => some ((G k, AV.bool true) :: st L) | some false => (putMap (G k) (.bool true) (st L)).map ((G c, AV.bool true) :: ·) | none => none) = _
    rw [aveq_n]
    by_cases e : k = c
    · subst e
      simp [ins, st]
    · rw [beq_eq_false_iff_ne.2 e]
      simp only
      rw [put_st k L]
      unfold ins
      by_cases m : k ∈ L
      · rw [if_pos m, if_pos (List.mem_cons_of_mem _ m)]; rfl
      · rw [if_neg m, if_neg (by simp [e, m])]; rfl
theorem mput_gen (h : Heap) (b : Nat) (es es' : List (AV × AV)) (h1 : h.N ≤ b) (hg : h.get b = .map es) : Eff.app (.mput b es') h = some (h.upd b (.map es')) := by
  have e1 : h.own[b - h.N]? = some (.map es) := by
    unfold Heap.get at hg
    rw [if_neg (by omega), List.getD_eq_getElem?_getD] at hg
    cases c : h.own[b - h.N]? with
    | none => rw [c] at hg; cases hg
    | some x => rw [c] at hg; exact congrArg some hg
  simp only [Eff.app]
  rw [if_neg (by omega), e1]
  simp only [Heap.setOwn, forceL_eq, Heap.upd]
end Go.Proofs.Ytjeemgaoonapgaa.Ev
set_option linter.unusedVariables false
set_option linter.unusedSimpArgs false
namespace Go.Proofs.Ytjeemgaoonapgaa.Ev
open Go Go.AEv
attribute [local simp] evFunc initS evOps_c evTrim_c evSkip_c evExit_c evRet_c evSeq_c evCond_c evBlock_c evDraw_c runOps_n runOps_c exec_n exec_g pure1_c act AOpd.ev T.get T.set T.put evBin evUn forceT_eq forceV_eq forceL_eq evRess evRes one keep runFP_n runFP_c app_none AV.flats AV.flat came_some List.getElem?_cons_zero List.getElem?_cons_succ beqT wrapI idxI tdivI tmodI decT decF ibT ibF inT inF evScope_c if_pos if_neg Cm_some thenW_n thenW_e thenW_r blkW_n blkW_e blkW_r goI kn putAt AV.cells fillA loadA takeA mk Eff.isAll Eff.isNone Eff.commutes Eff.spares okPair apart eqAgg fits LK.fits allEq aveq eqk mmA
section
variable {M : List (List Int)}
def LVS (M : List (List Int)) (x y : Nat) (L : List Nat) : Prop := ∀ c, c ∈ L ↔ ∃ u v, (u < x ∨ (u = x ∧ v < y)) ∧ 0 < ent M u v ∧ clN M u ≠ clN M v ∧ clN M u = c
theorem LVS.init : LVS M 0 0 [] := fun c => ⟨fun h => (by cases h), fun ⟨u, v, h, _⟩ => absurd h (by omega)⟩
theorem LVS.skip {x y : Nat} {L : List Nat} (l : LVS M x y L) (h : ¬ (0 < ent M x y ∧ clN M x ≠ clN M y)) : LVS M x (y + 1) L := fun c =>
  ⟨fun q => by
    obtain ⟨u, v, a, b⟩ := (l c).1 q
    exact ⟨u, v, by omega, b⟩, fun ⟨u, v, a, b1, b2, b3⟩ => by
    by_cases cc : u = x ∧ v = y
    · rw [cc.1, cc.2] at b1 b2; exact absurd ⟨b1, b2⟩ h
    · exact (l c).2 ⟨u, v, by omega, b1, b2, b3⟩⟩
theorem LVS.put {x y : Nat} {L : List Nat} (l : LVS M x y L) (h1 : 0 < ent M x y) (h2 : clN M x ≠ clN M y) : LVS M x (y + 1) (ins (clN M x) L) := fun c => by
  rw [mem_ins]
  constructor
  · rintro (rfl | q)
    · exact ⟨x, y, by omega, h1, h2, rfl⟩
    · obtain ⟨u, v, a, b⟩ := (l c).1 q
      exact ⟨u, v, by omega, b⟩
  · rintro ⟨u, v, a, b1, b2, b3⟩
    by_cases cc : u = x ∧ v = y
    · rw [cc.1] at b3; exact .inl b3.symm
    · exact .inr ((l c).2 ⟨u, v, by omega, b1, b2, b3⟩)
theorem LVS.nextx (hm : isMat M = true) {x : Nat} {L : List Nat} (l : LVS M x M.length L) : LVS M (x + 1) 0 L := fun c =>
  ⟨fun q => by
    obtain ⟨u, v, a, b⟩ := (l c).1 q
    exact ⟨u, v, by omega, b⟩, fun ⟨u, v, a, b1, b2, b3⟩ => (l c).2 ⟨u, v, by have := (ent_lt hm b1).2; omega, b1, b2, b3⟩⟩
def finP (M : List (List Int)) (i : Nat) : Prop := clN M i = i ∧ ∀ u v, 0 < ent M u v → clN M u = i → clN M v = i
theorem LVS.fin (hm : isMat M = true) {L : List Nat} (l : LVS M M.length 0 L) (i : Nat) : finP M i ↔ clN M i = i ∧ i ∉ L := by
  refine ⟨fun ⟨a, b⟩ => ⟨a, fun q => ?_⟩, fun ⟨a, b⟩ => ⟨a, fun u v e c => ?_⟩⟩
  · obtain ⟨u, v, _, b1, b2, b3⟩ := (l i).1 q
    exact b2 (b3.trans (b u v b1 b3).symm)
  · exact Classical.byContradiction fun n => b ((l i).2 ⟨u, v, .inl (ent_lt hm e).1, e, fun q => n (q ▸ c), c⟩)
open Classical in
noncomputable def fnL (M : List (List Int)) : Nat → List Int
  | 0 => []
  | k + 1 => if finP M k then fnL M k ++ [(k : Int)] else fnL M k
end
def Post49 (a : AM) (h : Heap) (v : AV) (own : List AObj) : Prop := (isMat a.M = false → v = .tup [.nils, G 2] ∧ own = []) ∧ (isMat a.M = true → ∃ w, v = .tup [w, G 0] ∧ NG h (h.plus own) w (fnL a.M a.M.length))
noncomputable def T28 : CallF := addK tbl T27 49 PreM Post49
theorem t28 : Sound Go.Proofs.Try.prog T28 := Sound.addK follows ok t27 (by decide) _ _
section
variable {M : List (List Int)}
def FI (M : List (List Int)) (i x y : Nat) (b : Bool) : Prop := b = true ↔ clN M i = i ∧ ∀ u v, (u < x ∨ (u = x ∧ v < y)) → 0 < ent M u v → clN M u = i → clN M v = i
theorem FI.no {i x y x' y' : Nat} (l : FI M i x y false) (h : x < x' ∨ (x = x' ∧ y ≤ y')) : FI M i x' y' false :=
  ⟨fun e => (by cases e), fun ⟨a, b⟩ => l.2 ⟨a, fun u v c => b u v (by omega)⟩⟩
theorem FI.keep {i x y : Nat} (l : FI M i x y true) (h : 0 < ent M x y → clN M x = i → clN M y = i) : FI M i x (y + 1) true :=
  ⟨fun e => ⟨(l.1 e).1, fun u v c => by
    by_cases cc : u = x ∧ v = y
    · rw [cc.1, cc.2]; exact h
    · exact (l.1 e).2 u v (by omega)⟩, fun _ => rfl⟩
theorem FI.nextx (hm : isMat M = true) {i x : Nat} {b : Bool} (l : FI M i x M.length b) : FI M i (x + 1) 0 b :=
  ⟨fun e => ⟨(l.1 e).1, fun u v c e2 => (l.1 e).2 u v (by have := (ent_lt hm e2).2; omega) e2⟩, fun ⟨a, c⟩ => l.2 ⟨a, fun u v d => c u v (by omega)⟩⟩
theorem FI.done (hm : isMat M = true) {i : Nat} {b : Bool} (l : FI M i M.length 0 b) : b = true ↔ finP M i :=
  l.trans ⟨fun ⟨a, c⟩ => ⟨a, fun u v e => c u v (.inl (ent_lt hm e).1) e⟩, fun ⟨a, c⟩ => ⟨a, fun u v _ => c u v⟩⟩
theorem FI.init {i : Nat} {b : Bool} (h : b = true ↔ clN M i = i) : FI M i 0 0 b := h.trans ⟨fun a => ⟨a, fun u v c => absurd c (by omega)⟩, fun a => a.1⟩
end
def Post52 (a : AM) (h : Heap) (v : AV) (own : List AObj) : Prop := NG h (h.plus own) v (fnL a.M a.M.length)
noncomputable def T29 : CallF := addK tbl T28 52 PreO Post52
theorem t29 : Sound Go.Proofs.Try.prog T29 := Sound.addK follows ok t28 (by decide) _ _
end Go.Proofs.Ytjeemgaoonapgaa.Ev
set_option linter.unusedVariables false
set_option linter.unusedSimpArgs false
namespace Go.Proofs.Ytjeemgaoonapgaa.Ev
open Go Go.AEv
theorem nodup_le {n : Nat} {P : List Nat} (nd : P.Nodup) (h : ∀ c ∈ P, c < n) : P.length ≤ n := by
  refine Nat.le_of_not_lt fun hl => ?_
  obtain ⟨i, j, h1, h2, h3⟩ := pigeon n (fun i => P.getD i 0) (fun i hi => by
    rw [List.getD_eq_getElem?_getD, List.getElem?_eq_getElem (by omega)]
    exact h _ (List.getElem_mem _))
  have hp := List.pairwise_iff_getElem.1 nd i j (by omega) (by omega) h1
  rw [List.getD_eq_getElem?_getD, List.getD_eq_getElem?_getD, List.getElem?_eq_getElem (by omega), List.getElem?_eq_getElem (by omega)] at h3
  exact hp h3
theorem nodup_snoc {P : List Nat} {c : Nat} (nd : P.Nodup) (h : c ∉ P) : (P ++ [c]).Nodup := by
  rw [List.nodup_append]
  refine ⟨nd, by simp, fun a ha b hb e => ?_⟩
  rw [List.mem_singleton] at hb
  subst hb; subst e
  exact h ha
section
variable {M : List (List Int)}
def rdy (M : List (List Int)) (P : List Nat) (c : Nat) : Prop := ∀ u v, 0 < ent M u v → clN M v = c → clN M u ≠ c → clN M u ∈ P
def cand (M : List (List Int)) (P : List Nat) (c : Nat) : Prop := clN M c = c ∧ c ∉ P ∧ rdy M P c
open Classical in
noncomputable def nxB (M : List (List Int)) (P : List Nat) : List Nat := if h : ∃ c, c < M.length ∧ cand M P c ∧ ∀ d, d < c → ¬ cand M P d then P ++ [Classical.choose h] else P
noncomputable def sqB (M : List (List Int)) : Nat → List Nat
  | 0 => []
  | k + 1 => nxB M (sqB M k)
theorem nxB_t {P : List Nat} {c : Nat} (h1 : c < M.length) (h2 : cand M P c) (h3 : ∀ d, d < c → ¬ cand M P d) : nxB M P = P ++ [c] := by
  have h : ∃ c, c < M.length ∧ cand M P c ∧ ∀ d, d < c → ¬ cand M P d := ⟨c, h1, h2, h3⟩
  unfold nxB
  rw [dif_pos h]
  obtain ⟨_, e2, e3⟩ := Classical.choose_spec h
  have : Classical.choose h = c := by
    rcases Nat.lt_trichotomy (Classical.choose h) c with l | l | l
    · exact absurd e2 (h3 _ l)
    · exact l
    · exact absurd h2 (e3 _ l)
  rw [this]
theorem nxB_f {P : List Nat} (h : ∀ c, c < M.length → ¬ cand M P c) : nxB M P = P := by
  unfold nxB
  exact dif_neg fun ⟨c, h1, h2, _⟩ => h c h1 h2
structure PB (M : List (List Int)) (P : List Nat) : Prop where
  e : P = sqB M P.length
  d : P.Nodup
  l : ∀ c ∈ P, c < M.length ∧ clN M c = c
theorem PB.nil : PB M [] := ⟨rfl, List.Pairwise.nil, fun c h => (by cases h)⟩
theorem PB.push {P : List Nat} (p : PB M P) {c : Nat} (h1 : c < M.length) (h2 : cand M P c) (h3 : ∀ d, d < c → ¬ cand M P d) : PB M (P ++ [c]) :=
  ⟨by
    rw [List.length_append]
    show P ++ [c] = nxB M (sqB M P.length)
    rw [← p.e, nxB_t h1 h2 h3], nodup_snoc p.d h2.2.1, fun d hd => by
    rcases List.mem_append.1 hd with q | q
    · exact p.l d q
    · rw [List.mem_singleton] at q; subst q; exact ⟨h1, h2.1⟩⟩
theorem PB.len {P : List Nat} (p : PB M P) : P.length ≤ M.length := nodup_le p.d fun c hc => (p.l c hc).1
noncomputable def seqB (M : List (List Int)) : List Nat := sqB M M.length
theorem PB.done {P : List Nat} (p : PB M P) (h : ∀ c, c < M.length → ¬ cand M P c) : P = seqB M := by
  have : ∀ d, sqB M (P.length + d) = P := fun d => by
    induction d with
    | zero => exact p.e.symm
    | succ d ih =>
      show nxB M (sqB M (P.length + d)) = P
      rw [ih, nxB_f h]
  have h2 := this (M.length - P.length)
  rw [show P.length + (M.length - P.length) = M.length by have := p.len; omega] at h2
  exact h2.symm
def cmL (M : List (List Int)) (c : Nat) : Nat → List Int
  | 0 => []
  | k + 1 => if clN M k = c then cmL M c k ++ [(k : Int)] else cmL M c k
theorem cmL_t {c k : Nat} (h : clN M k = c) : cmL M c (k + 1) = cmL M c k ++ [(k : Int)] := if_pos h
theorem cmL_f {c k : Nat} (h : ¬ clN M k = c) : cmL M c (k + 1) = cmL M c k := if_neg h
theorem cmL_len (c : Nat) : ∀ k, (cmL M c k).length ≤ k
  | 0 => Nat.le_refl _
  | k + 1 => by
    have := cmL_len c k
    by_cases h : clN M k = c
    · rw [cmL_t h]; simp; omega
    · rw [cmL_f h]; omega
theorem cmL_pos {c k : Nat} (h : clN M c = c) : c < k → cmL M c k ≠ [] := by
  induction k with
  | zero => intro q; omega
  | succ k ih =>
    intro q
    by_cases e : clN M k = c
    · rw [cmL_t e]; simp
    · rw [cmL_f e]
      exact ih (by
        rcases Nat.lt_or_ge c k with a | a
        · exact a
        · have : c = k := by omega
          subst this; exact absurd h e)
def bkC (M : List (List Int)) (P : List Nat) : List (List AV) := P.map fun c => gs (cmL M c M.length)
theorem bkC_s (P : List Nat) (c : Nat) : bkC M (P ++ [c]) = bkC M P ++ [gs (cmL M c M.length)] := by simp [bkC]
theorem bkC_len (P : List Nat) : (bkC M P).length = P.length := by simp [bkC]
structure PN (M : List (List Int)) (P L : List Nat) : Prop where
  d : L.Nodup
  m : ∀ u, u ∈ L ↔ u < M.length ∧ clN M u ∈ P
theorem PN.rdy (hm : isMat M = true) {P L : List Nat} (p : PN M P L) {c : Nat} : rdy M P c ↔ ∀ u v, 0 < ent M u v → clN M v = c → clN M u ≠ c → u ∈ L :=
  ⟨fun h u v e a b => (p.m u).2 ⟨(ent_lt hm e).1, h u v e a b⟩, fun h u v e a b => ((p.m u).1 (h u v e a b)).2⟩
theorem PN.lt {P L : List Nat} (p : PN M P L) : L.length ≤ M.length := nodup_le p.d fun c hc => ((p.m c).1 hc).1
theorem PN.full {P L : List Nat} (p : PN M P L) (h : ¬ L.length < M.length) {c : Nat} (hc : c < M.length) : ¬ cand M P c := fun ⟨a, b, _⟩ => by
  by_cases q : c ∈ L
  · have := ((p.m c).1 q).2; rw [a] at this; exact b this
  · have h2 := nodup_le (nodup_snoc p.d q) (fun x hx => by
      rcases List.mem_append.1 hx with y | y
      · exact ((p.m x).1 y).1
      · rw [List.mem_singleton] at y; rw [y]; exact hc)
    simp at h2
    omega
structure PK (M : List (List Int)) (P : List Nat) (c k : Nat) (L : List Nat) : Prop where
  d : L.Nodup
  m : ∀ u, u ∈ L ↔ u < M.length ∧ (clN M u ∈ P ∨ (clN M u = c ∧ u < k))
theorem PN.start {P L : List Nat} (p : PN M P L) (c : Nat) : PK M P c 0 L := ⟨p.d, fun u => by rw [p.m u]; simp⟩
theorem PK.skip {P L : List Nat} {c k : Nat} (p : PK M P c k L) (h : ¬ clN M k = c) : PK M P c (k + 1) L := ⟨p.d, fun u => by
  rw [p.m u]
  have : clN M u = c ∧ u < k + 1 ↔ clN M u = c ∧ u < k := ⟨fun ⟨a, b⟩ => ⟨a, by
    rcases Nat.lt_or_ge u k with x | x
    · exact x
    · have : u = k := by omega
      subst this; exact absurd a h⟩, fun ⟨a, b⟩ => ⟨a, by omega⟩⟩
  rw [this]⟩
theorem PK.take {P L : List Nat} {c k : Nat} (p : PK M P c k L) (hk : k < M.length) (h : clN M k = c) (hc : c ∉ P) : PK M P c (k + 1) (L ++ [k]) ∧ ins k L = L ++ [k] := by
  have hn : k ∉ L := fun q => by
    rcases ((p.m k).1 q).2 with a | ⟨_, a⟩
    · rw [h] at a; exact hc a
    · omega
  refine ⟨⟨nodup_snoc p.d hn, fun u => ?_⟩, if_neg hn⟩
  rw [List.mem_append, List.mem_singleton, p.m u]
  constructor
  · rintro (⟨a, b | ⟨b1, b2⟩⟩ | rfl)
    · exact ⟨a, .inl b⟩
    · exact ⟨a, .inr ⟨b1, by omega⟩⟩
    · exact ⟨hk, .inr ⟨h, by omega⟩⟩
  · rintro ⟨a, b | ⟨b1, b2⟩⟩
    · exact .inl ⟨a, .inl b⟩
    · by_cases e : u = k
      · exact .inr e
      · exact .inl ⟨a, .inr ⟨b1, by omega⟩⟩
theorem PK.done {P L : List Nat} {c : Nat} (p : PK M P c M.length L) : PN M (P ++ [c]) L := ⟨p.d, fun u => by
  rw [p.m u, List.mem_append, List.mem_singleton]
  exact ⟨fun ⟨a, b⟩ => ⟨a, b.imp id fun x => x.1⟩, fun ⟨a, b⟩ => ⟨a, b.imp id fun x => ⟨x, a⟩⟩⟩⟩
end
end Go.Proofs.Ytjeemgaoonapgaa.Ev
set_option linter.unusedVariables false
set_option linter.unusedSimpArgs false
namespace Go.Proofs.Ytjeemgaoonapgaa.Ev
open Go Go.AEv
attribute [local simp] evFunc initS evOps_c evTrim_c evSkip_c evExit_c evRet_c evSeq_c evCond_c evBlock_c evDraw_c runOps_n runOps_c exec_n exec_g pure1_c act AOpd.ev T.get T.set T.put evBin evUn forceT_eq forceV_eq forceL_eq evRess evRes one keep runFP_n runFP_c app_none AV.flats AV.flat came_some List.getElem?_cons_zero List.getElem?_cons_succ beqT wrapI idxI tdivI tmodI decT decF ibT ibF inT inF evScope_c if_pos if_neg Cm_some thenW_n thenW_e thenW_r blkW_n blkW_e blkW_r goI kn putAt AV.cells fillA loadA takeA mk Eff.isAll Eff.isNone Eff.commutes Eff.spares okPair apart eqAgg fits LK.fits allEq aveq eqk mmA
section
variable {M : List (List Int)}
def nb (M : List (List Int)) (L : List Nat) (c x y : Nat) : Prop := 0 < ent M x y → clN M y = c → clN M x ≠ c → x ∈ L
theorem c75_y (J : CallF) (hm : isMat M = true) {H : Heap} {qm qc qp c x : Nat} {L : List Nat} (gm : H.get qm = .cells 0 65 (matC M)) (gc : H.get qc = .cells 1 M.length (gs (clsL M))) (gp : H.get qp = .map (st L)) (hx : x < M.length) : ∀ d y, y + d = M.length →
    ((∀ z, y ≤ z → nb M L c x z) → Tr tbl J c75_l0 (fun s h => h = H ∧ s.get [false] = .slice qc 0 M.length M.length ∧ s.get [true] = .map qp ∧ s.get [false, false] = G c ∧ s.get [true, false] = .ptr qm 0 65 ∧ s.get [false, true, false] = G x ∧ s.get [true, false, true] = G M.length ∧ s.get [false, true, true] = G x ∧ s.get [false, true, false, false] = G M.length ∧ s.get [true, true, false, false] = G y) (.exit 2) (fun s h => h = H ∧ s.get [false] = .slice qc 0 M.length M.length ∧ s.get [true] = .map qp ∧ s.get [false, false] = G c ∧ s.get [true, false] = .ptr qm 0 65 ∧ s.get [true, false, true] = G M.length ∧ s.get [false, true, true] = G x)) ∧
    ((¬ ∀ z, y ≤ z → nb M L c x z) → Tr tbl J c75_l0 (fun s h => h = H ∧ s.get [false] = .slice qc 0 M.length M.length ∧ s.get [true] = .map qp ∧ s.get [false, false] = G c ∧ s.get [true, false] = .ptr qm 0 65 ∧ s.get [false, true, false] = G x ∧ s.get [true, false, true] = G M.length ∧ s.get [false, true, true] = G x ∧ s.get [false, true, false, false] = G M.length ∧ s.get [true, true, false, false] = G y) .ret (fun s h => s.get [true, false, false] = .bool false)) := by
  have h8 := isMat_n hm
  have lm := matC_len M
  intro d
  induction d with
  | zero =>
    intro y hy
    refine ⟨fun _ => Tr.out ?_ (by simp), fun n => absurd (fun z hz e => by have := (ent_lt hm e).2; omega) n⟩
    refine Tr.w fun s1 H1 hp R kR => W.trim ?_
    obtain ⟨rfl, q⟩ := hp
    refine W.seq (W.chunk ?_)
    simp (disch := first|omega|exact zE rfl|exact zO|exact zL rfl) [c75_o5, zG, q]
    refine W.seq (W.chunk ?_)
    simp (disch := first|omega|exact zE rfl|exact zO|exact zL rfl) [zG, q]
    exact kR _ _ (by simp [T.get, q])
  | succ d ih =>
    intro y hy
    obtain ⟨i1, i2⟩ := ih (y + 1) (by omega)
    have hyn : y < M.length := by omega
    have ga := mapA_at gp
    have ea := matC_at M (i := x) (j := y) (by omega) (by omega)
    have cx : (gs (clsL M))[x]? = some (G (clN M x)) := gl_at _ hx
    have cy : (gs (clsL M))[y]? = some (G (clN M y)) := gl_at _ hyn
    have ea' := getI ea
    have cx' := getI cx
    have cy' := getI cy
    have a0 := (ent_bd hm x y).1
    have fst := find_st x L
    have key : (∀ z, y ≤ z → nb M L c x z) ↔ nb M L c x y ∧ ∀ z, y + 1 ≤ z → nb M L c x z := ⟨fun h => ⟨h y (Nat.le_refl _), fun z hz => h z (by omega)⟩, fun ⟨a, b⟩ z hz => by
      rcases Nat.lt_or_ge y z with l | l
      · exact b z l
      · have : z = y := by omega
        subst this; exact a⟩
    rw [key]
    by_cases cc : 0 < ent M x y ∧ clN M y = c ∧ clN M x ≠ c ∧ x ∉ L
    · obtain ⟨c1, c2, c3, c4⟩ := cc
      refine ⟨fun h => absurd (h.1 c1 c2 c3) c4, fun _ => Tr.out ?_ (by simp)⟩
      rw [c2] at cy cy'
      rw [if_neg c4] at fst
      have c5 : ¬ (clN M x : Int) = c := by omega
      clear i1 i2 ih key c3
      generalize ent M x y = a at *
      generalize clN M x = u at *
      generalize st L = e1 at *
      generalize gs (clsL M) = ccs at *
      generalize matC M = cm at *
      refine Tr.w fun s1 H1 hp R kR => W.trim ?_
      obtain ⟨rfl, q⟩ := hp
      refine W.seq (W.chunk ?_)
      simp (disch := first|omega|exact zE rfl|exact zO|exact zL rfl) [c75_o5, zG, q]
      refine W.seq (W.chunk ?_)
      simp (disch := first|omega|exact zE rfl|exact zO|exact zL rfl) [zG, q]
      refine W.seq (W.block ?_)
      refine W.seq (W.chunk ?_)
      simp (disch := first|omega|exact zE rfl|exact zO|exact zL rfl) [c75_o6, zG, q]
      refine W.seq (W.chunk ?_)
      simp (disch := first|omega|exact zE rfl|exact zO|exact zL rfl) [c75_o7, zG, q, gm, gc, lm, ea, ea', cx, cx', cy, cy', ga, fst, c5]
      refine W.chunk ?_
      simp (disch := first|omega|exact zE rfl|exact zO|exact zL rfl) [c75_o8, zG, q]
      exact kR _ _ (by simp [T.get, q])
    · have h0 : nb M L c x y := fun a b e => Classical.byContradiction fun n => cc ⟨a, b, e, n⟩
      have step : Tr tbl J (.trim [[false], [true], [false, false], [true, false], [false, true, false], [true, false, true], [false, true, true], [false, true, false, false], [true, true, false, false]] c75_b0) (fun s h => h = H ∧ s.get [false] = .slice qc 0 M.length M.length ∧ s.get [true] = .map qp ∧ s.get [false, false] = G c ∧ s.get [true, false] = .ptr qm 0 65 ∧ s.get [false, true, false] = G x ∧ s.get [true, false, true] = G M.length ∧ s.get [false, true, true] = G x ∧ s.get [false, true, false, false] = G M.length ∧ s.get [true, true, false, false] = G y) .normal (fun s h => h = H ∧ s.get [false] = .slice qc 0 M.length M.length ∧ s.get [true] = .map qp ∧ s.get [false, false] = G c ∧ s.get [true, false] = .ptr qm 0 65 ∧ s.get [false, true, false] = G x ∧ s.get [true, false, true] = G M.length ∧ s.get [false, true, true] = G x ∧ s.get [false, true, false, false] = G M.length ∧ s.get [true, true, false, false] = G ((y + 1 : Nat) : Int)) := by
        clear i1 i2 ih key h0
        generalize ent M x y = a at *
        generalize clN M x = u at *
        generalize clN M y = w at *
        by_cases c1 : 0 < a
        · by_cases c2 : w = c
          · subst c2
            by_cases c3 : u = w
            · subst c3
              generalize st L = e1 at *
              generalize gs (clsL M) = ccs at *
              generalize matC M = cm at *
              refine Tr.w fun s1 H1 hp R kR => W.trim ?_
              obtain ⟨rfl, q⟩ := hp
              refine W.seq (W.chunk ?_)
              simp (disch := first|omega|exact zE rfl|exact zO|exact zL rfl) [c75_o5, zG, q]
              refine W.seq (W.chunk ?_)
              simp (disch := first|omega|exact zE rfl|exact zO|exact zL rfl) [zG, q]
              refine W.seq (W.block ?_)
              refine W.seq (W.chunk ?_)
              simp (disch := first|omega|exact zE rfl|exact zO|exact zL rfl) [c75_o6, zG, q]
              refine W.seq (W.chunk ?_)
              simp (disch := first|omega|exact zE rfl|exact zO|exact zL rfl) [c75_o7, zG, q, gm, gc, lm, ea, ea', cx, cx', cy, cy', ga]
              refine W.chunk ?_
              simp (disch := first|omega|exact zE rfl|exact zO|exact zL rfl) [c75_o8, zG, q]
              refine W.chunk ?_
              simp (disch := first|omega|exact zE rfl|exact zO|exact zL rfl) [c75_o9, zG, q]
              exact kR _ _ (by simp [T.get, q])
            · have c4 : x ∈ L := Classical.byContradiction fun n => cc ⟨c1, rfl, c3, n⟩
              rw [if_pos c4] at fst
              have c5 : ¬ (u : Int) = w := by omega
              generalize st L = e1 at *
              generalize gs (clsL M) = ccs at *
              generalize matC M = cm at *
              refine Tr.w fun s1 H1 hp R kR => W.trim ?_
              obtain ⟨rfl, q⟩ := hp
              refine W.seq (W.chunk ?_)
              simp (disch := first|omega|exact zE rfl|exact zO|exact zL rfl) [c75_o5, zG, q]
              refine W.seq (W.chunk ?_)
              simp (disch := first|omega|exact zE rfl|exact zO|exact zL rfl) [zG, q]
              refine W.seq (W.block ?_)
              refine W.seq (W.chunk ?_)
              simp (disch := first|omega|exact zE rfl|exact zO|exact zL rfl) [c75_o6, zG, q]
              refine W.seq (W.chunk ?_)
              simp (disch := first|omega|exact zE rfl|exact zO|exact zL rfl) [c75_o7, zG, q, gm, gc, lm, ea, ea', cx, cx', cy, cy', ga, fst, c5]
              refine W.chunk ?_
              simp (disch := first|omega|exact zE rfl|exact zO|exact zL rfl) [c75_o8, zG, q]
              refine W.chunk ?_
              simp (disch := first|omega|exact zE rfl|exact zO|exact zL rfl) [c75_o9, zG, q]
              exact kR _ _ (by simp [T.get, q])
          · have c5 : ¬ (w : Int) = c := by omega
            generalize st L = e1 at *
            generalize gs (clsL M) = ccs at *
            generalize matC M = cm at *
            refine Tr.w fun s1 H1 hp R kR => W.trim ?_
            obtain ⟨rfl, q⟩ := hp
            refine W.seq (W.chunk ?_)
            simp (disch := first|omega|exact zE rfl|exact zO|exact zL rfl) [c75_o5, zG, q]
            refine W.seq (W.chunk ?_)
            simp (disch := first|omega|exact zE rfl|exact zO|exact zL rfl) [zG, q]
            refine W.seq (W.block ?_)
            refine W.seq (W.chunk ?_)
            simp (disch := first|omega|exact zE rfl|exact zO|exact zL rfl) [c75_o6, zG, q]
            refine W.seq (W.chunk ?_)
            simp (disch := first|omega|exact zE rfl|exact zO|exact zL rfl) [c75_o7, zG, q, gm, gc, lm, ea, ea', cx, cx', cy, cy', ga, c5]
            refine W.chunk ?_
            simp (disch := first|omega|exact zE rfl|exact zO|exact zL rfl) [c75_o8, zG, q]
            refine W.chunk ?_
            simp (disch := first|omega|exact zE rfl|exact zO|exact zL rfl) [c75_o9, zG, q]
            exact kR _ _ (by simp [T.get, q])
        · generalize st L = e1 at *
          generalize gs (clsL M) = ccs at *
          generalize matC M = cm at *
          refine Tr.w fun s1 H1 hp R kR => W.trim ?_
          obtain ⟨rfl, q⟩ := hp
          refine W.seq (W.chunk ?_)
          simp (disch := first|omega|exact zE rfl|exact zO|exact zL rfl) [c75_o5, zG, q]
          refine W.seq (W.chunk ?_)
          simp (disch := first|omega|exact zE rfl|exact zO|exact zL rfl) [zG, q]
          refine W.seq (W.block ?_)
          refine W.seq (W.chunk ?_)
          simp (disch := first|omega|exact zE rfl|exact zO|exact zL rfl) [c75_o6, zG, q]
          refine W.seq (W.chunk ?_)
          simp (disch := first|omega|exact zE rfl|exact zO|exact zL rfl) [c75_o7, zG, q, gm, gc, lm, ea, ea', cx, cx', cy, cy', ga]
          refine W.chunk ?_
          simp (disch := first|omega|exact zE rfl|exact zO|exact zL rfl) [c75_o8, zG, q]
          refine W.chunk ?_
          simp (disch := first|omega|exact zE rfl|exact zO|exact zL rfl) [c75_o9, zG, q]
          exact kR _ _ (by simp [T.get, q])
      exact ⟨fun h => Tr.next step (i1 h.2), fun h => Tr.next step (i2 fun g => h ⟨h0, g⟩)⟩
theorem c75_x (J : CallF) (hm : isMat M = true) {H : Heap} {qm qc qp c : Nat} {L : List Nat} (gm : H.get qm = .cells 0 65 (matC M)) (gc : H.get qc = .cells 1 M.length (gs (clsL M))) (gp : H.get qp = .map (st L)) : ∀ d x, x + d = M.length →
    ((∀ z, x ≤ z → ∀ w, nb M L c z w) → Tr tbl J c75_l1 (fun s h => h = H ∧ s.get [false] = .slice qc 0 M.length M.length ∧ s.get [true] = .map qp ∧ s.get [false, false] = G c ∧ s.get [true, false] = .ptr qm 0 65 ∧ s.get [true, false, true] = G M.length ∧ s.get [false, true, true] = G x) (.exit 0) (fun s h => h = H)) ∧
    ((¬ ∀ z, x ≤ z → ∀ w, nb M L c z w) → Tr tbl J c75_l1 (fun s h => h = H ∧ s.get [false] = .slice qc 0 M.length M.length ∧ s.get [true] = .map qp ∧ s.get [false, false] = G c ∧ s.get [true, false] = .ptr qm 0 65 ∧ s.get [true, false, true] = G M.length ∧ s.get [false, true, true] = G x) .ret (fun s h => s.get [true, false, false] = .bool false)) := by
  have h8 := isMat_n hm
  have lm := matC_len M
  have e0 : (matC M)[0]? = some (G M.length) := rfl
  have e0' := getI e0
  intro d
  induction d with
  | zero =>
    intro x hx
    refine ⟨fun _ => Tr.out ?_ (by simp), fun n => absurd (fun z hz w e => by have := (ent_lt hm e).1; omega) n⟩
    refine Tr.w fun s1 H1 hp R kR => W.trim ?_
    obtain ⟨rfl, q⟩ := hp
    refine W.seq (W.chunk ?_)
    simp (disch := first|omega|exact zE rfl|exact zO|exact zL rfl) [c75_o2, zG, q]
    refine W.seq (W.chunk ?_)
    simp (disch := first|omega|exact zE rfl|exact zO|exact zL rfl) [zG, q]
    exact kR _ _ rfl
  | succ d ih =>
    intro x hx
    obtain ⟨i1, i2⟩ := ih (x + 1) (by omega)
    have hxn : x < M.length := by omega
    obtain ⟨j1, j2⟩ := c75_y (c := c) J hm gm gc gp hxn M.length 0 (by omega)
    have key : (∀ z, x ≤ z → ∀ w, nb M L c z w) ↔ (∀ z, 0 ≤ z → nb M L c x z) ∧ ∀ z, x + 1 ≤ z → ∀ w, nb M L c z w := ⟨fun h => ⟨fun z _ => h x (Nat.le_refl _) z, fun z hz => h z (by omega)⟩, fun ⟨a, b⟩ z hz => by
      rcases Nat.lt_or_ge x z with l | l
      · exact b z l
      · have : z = x := by omega
        subst this; exact fun w => a w (Nat.zero_le _)⟩
    rw [key]
    by_cases cc : ∀ z, 0 ≤ z → nb M L c x z
    · have l0 := j1 cc
      have step : Tr tbl J (.trim [[false], [true], [false, false], [true, false], [true, false, true], [false, true, true]] c75_b1) (fun s h => h = H ∧ s.get [false] = .slice qc 0 M.length M.length ∧ s.get [true] = .map qp ∧ s.get [false, false] = G c ∧ s.get [true, false] = .ptr qm 0 65 ∧ s.get [true, false, true] = G M.length ∧ s.get [false, true, true] = G x) .normal (fun s h => h = H ∧ s.get [false] = .slice qc 0 M.length M.length ∧ s.get [true] = .map qp ∧ s.get [false, false] = G c ∧ s.get [true, false] = .ptr qm 0 65 ∧ s.get [true, false, true] = G M.length ∧ s.get [false, true, true] = G ((x + 1 : Nat) : Int)) := by
        clear i1 i2 ih key j1 j2
        refine Tr.w fun s1 H1 hp R kR => W.trim ?_
        obtain ⟨rfl, q⟩ := hp
        refine W.seq (W.chunk ?_)
        simp (disch := first|omega|exact zE rfl|exact zO|exact zL rfl) [c75_o2, zG, q]
        refine W.seq (W.chunk ?_)
        simp (disch := first|omega|exact zE rfl|exact zO|exact zL rfl) [zG, q]
        refine W.seq (W.block ?_)
        refine W.seq (W.chunk ?_)
        simp (disch := first|omega|exact zE rfl|exact zO|exact zL rfl) [c75_o3, zG, q]
        refine W.seq (W.chunk ?_)
        simp (disch := first|omega|exact zE rfl|exact zO|exact zL rfl) [c75_o4, zG, q, gm, lm, e0, e0']
        refine W.block ?_
        refine W.use (l0) (by simp (disch := first|omega|exact zE rfl|exact zO|exact zL rfl) [zG, q]) fun s1 H1 hp => ?_
        obtain ⟨rfl, q⟩ := hp
        try simp only [zW, if_true]
        refine W.chunk ?_
        simp (disch := first|omega|exact zE rfl|exact zO|exact zL rfl) [c75_o10, zG, q]
        exact kR _ _ (by simp [T.get, q])
      exact ⟨fun h => Tr.next step (i1 h.2), fun h => Tr.next step (i2 fun g => h ⟨cc, g⟩)⟩
    · have l0 := j2 cc
      refine ⟨fun h => absurd h.1 cc, fun _ => Tr.out ?_ (by simp)⟩
      clear i1 i2 ih key j1 j2
      refine Tr.w fun s1 H1 hp R kR => W.trim ?_
      obtain ⟨rfl, q⟩ := hp
      refine W.seq (W.chunk ?_)
      simp (disch := first|omega|exact zE rfl|exact zO|exact zL rfl) [c75_o2, zG, q]
      refine W.seq (W.chunk ?_)
      simp (disch := first|omega|exact zE rfl|exact zO|exact zL rfl) [zG, q]
      refine W.seq (W.block ?_)
      refine W.seq (W.chunk ?_)
      simp (disch := first|omega|exact zE rfl|exact zO|exact zL rfl) [c75_o3, zG, q]
      refine W.seq (W.chunk ?_)
      simp (disch := first|omega|exact zE rfl|exact zO|exact zL rfl) [c75_o4, zG, q, gm, lm, e0, e0']
      refine W.block ?_
      refine W.use (l0) (by simp (disch := first|omega|exact zE rfl|exact zO|exact zL rfl) [zG, q]) fun s1 H1 hp => ?_
      obtain q := hp
      try simp only [zW, if_true]
      exact kR _ _ hp
def rdQ (M : List (List Int)) (L : List Nat) (c : Nat) : Prop := ∀ u v, 0 < ent M u v → clN M v = c → clN M u ≠ c → u ∈ L
theorem rdQ_iff {L : List Nat} {c : Nat} : (∀ z, 0 ≤ z → ∀ w, nb M L c z w) ↔ rdQ M L c := ⟨fun h u v => h u (Nat.zero_le _) v, fun h z _ w => h z w⟩
open Classical in
theorem c75_ok (J : CallF) (hm : isMat M = true) (hJ : ∀ a h, J 75 a h = none) (h : Heap) {qc qp c : Nat} {L : List Nat} (gc : h.get qc = .cells 1 M.length (gs (clsL M))) (gp : h.get qp = .map (st L)) : CallsTo tbl J 75 [.agg (matC M), .slice qc 0 M.length M.length, .map qp, G c] h (.bool (decide (rdQ M L c)), [], false) := by
  refine Tr.fnv (cf := c75) (e := .ret) (s := T.set (T.set (T.set (T.set .leaf [] (.agg (matC M))) [false] (.slice qc 0 M.length M.length)) [true] (.map qp)) [false, false] (G c)) (by decide) rfl (hJ _ _) rfl rfl rfl (by simp) ?_
  have lm := matC_len M
  have h8 := isMat_n hm
  have et : (matC M).take 65 = matC M := List.take_of_length_le (by omega)
  have e0 : (matC M)[0]? = some (G M.length) := rfl
  have e0' := getI e0
  have fs := fr_size h
  have gm : ((frameOf h).plus [.cells 0 65 (matC M)]).get h.size = .cells 0 65 (matC M) := plus_at0 _ _ _ _ fs
  have gc1 : ((frameOf h).plus [.cells 0 65 (matC M)]).get qc = .cells 1 M.length (gs (clsL M)) := plus_keep _ (by rw [frame_get]; exact gc) (by simp)
  have gp1 : ((frameOf h).plus [.cells 0 65 (matC M)]).get qp = .map (st L) := plus_keep _ (by rw [frame_get]; exact gp) (by simp)
  obtain ⟨j1, j2⟩ := c75_x (c := c) J hm gm gc1 gp1 M.length 0 (by omega)
  rw [rdQ_iff] at j1 j2
  refine Tr.w fun s1 H1 hp R kR => ?_
  obtain ⟨rfl, rfl⟩ := hp
  have q : True := trivial
  by_cases cc : rdQ M L c
  · have l1 := j1 cc
    rw [decide_eq_true cc] at kR
    clear j1 j2
    generalize matC M = cm at *
    refine W.seq (W.chunk ?_)
    simp (disch := first|omega|exact zE rfl|exact zO|exact zL rfl) [c75_o0, zG, q, fs, lm]
    refine W.assoc ?_
    refine W.seq (W.chunk ?_)
    simp (disch := first|omega|exact zE rfl|exact zO|exact zL rfl) [c75_o1, zG, q, gm, lm, e0, e0']
    refine W.seq (W.block ?_)
    refine W.use (l1) (by simp (disch := first|omega|exact zE rfl|exact zO|exact zL rfl) [zG, q]) fun s1 H1 hp => ?_
    obtain rfl := hp
    try simp only [zW, if_true]
    refine W.seq (W.chunk ?_)
    simp (disch := first|omega|exact zE rfl|exact zO|exact zL rfl) [c75_o11, zG, q]
    refine W.ret ?_
    try simp only [zW, if_true]
    exact kR _ _ ⟨[.bool true], by simp [T.get, c75, evRess, evRes], rfl⟩
  · have l1 := j2 cc
    rw [decide_eq_false cc] at kR
    clear j1 j2
    generalize matC M = cm at *
    refine W.seq (W.chunk ?_)
    simp (disch := first|omega|exact zE rfl|exact zO|exact zL rfl) [c75_o0, zG, q, fs, lm]
    refine W.assoc ?_
    refine W.seq (W.chunk ?_)
    simp (disch := first|omega|exact zE rfl|exact zO|exact zL rfl) [c75_o1, zG, q, gm, lm, e0, e0']
    refine W.seq (W.block ?_)
    refine W.use (l1) (by simp (disch := first|omega|exact zE rfl|exact zO|exact zL rfl) [zG, q]) fun s1 H1 hp => ?_
    obtain q := hp
    try simp only [zW, if_true]
    exact kR _ _ ⟨[.bool false], by simp [T.get, c75, evRess, evRes, hp], rfl⟩
end
structure A75 where
  M : List (List Int)
  qc : Nat
  qp : Nat
  c : Nat
  L : List Nat
def Ok75 (a : A75) (h : Heap) : Prop := isMat a.M = true ∧ h.get a.qc = .cells 1 a.M.length (gs (clsL a.M)) ∧ h.get a.qp = .map (st a.L)
def Pre75 (a : A75) (args : List AV) (h : Heap) : Prop := Ok75 a h ∧ args = [.agg (matC a.M), .slice a.qc 0 a.M.length a.M.length, .map a.qp, G a.c]
open Classical in
def Post75 (a : A75) (h : Heap) (v : AV) (own : List AObj) : Prop := v = .bool (decide (rdQ a.M a.L a.c)) ∧ own = []
noncomputable def T30 : CallF := addK tbl T29 75 Pre75 Post75
theorem t30 : Sound Go.Proofs.Try.prog T30 := Sound.addK follows ok t29 (by decide) _ _
open Classical in
abbrev K75 (J : CallF) : Prop := ∀ (h : Heap) (a : A75), Ok75 a h → J 75 [.agg (matC a.M), .slice a.qc 0 a.M.length a.M.length, .map a.qp, G a.c] h = some (.bool (decide (rdQ a.M a.L a.c)), [], false)
theorem k75 : K75 T30 := fun h a ha => by
  obtain ⟨v, own, e, rfl, rfl⟩ := addK_some (tbl := tbl) (I := T29) (f := 75) (Pre := Pre75) (Post := Post75) (fun a args h hp => by
    obtain ⟨⟨hm, g1, g2⟩, rfl⟩ := hp
    exact ⟨_, _, c75_ok T29 hm (fun _ _ => by simp (disch := decide) only [T29, T28, T27, T26, T25, T24, T23, T22, T21, T20, T19, T18, T17, T16, T15, T14, T13, T12, T11, T10, T9, T8, T7, T6, T5, T4, T3, T2, T1, R21, R20, R19, R18, R17, R16, R15, R14, R13, R12, R11, R10, R9, R8, R7, R6, R5, R4, R3, R2, R1, addI_ne, addX_ne, addV_ne, addK_ne]; rfl) h g1 g2, rfl, rfl⟩) a _ h ⟨ha, rfl⟩
  exact e
theorem Kp.both {A B : Heap} {b : Nat} {X : AObj} (k : Kp (fun _ => False) A B) (hN : A.N ≤ b) (hb : b < A.size) : Kp (fun _ => False) (A.upd b X) (B.upd b X) := by
  have hs := k.size
  have hNB : B.N ≤ b := by rw [k.N]; exact hN
  refine ⟨k.lo, k.N, by rw [upd_size, upd_size]; exact hs, fun i hi hm => ?_⟩
  rw [upd_size] at hi
  by_cases e : i = b
  · subst e
    rw [upd_same _ _ _ hN hb, upd_same _ _ _ hNB (by omega)]
  · rw [upd_ne _ _ _ _ hN (fun q => e q.symm), upd_ne _ _ _ _ hNB (fun q => e q.symm)]
    exact k.get i hi hm
theorem NG.both {A B : Heap} {b : Nat} {X : AObj} {x : AV} {L : List Int} (t : NG A B x L) (hN : A.N ≤ b) (hb : b < A.size) : NG (A.upd b X) (B.upd b X) x L :=
  ⟨Kp.both t.k hN hb, fun q hq => by rw [upd_size]; exact t.x0 q hq, t.l.kp (Kp.upd (M := fun i => i = b) B b X (by rw [t.k.N]; exact hN) rfl) (fun q hq e => by have := t.x0 q hq; omega)⟩
theorem TB.updm {H0 H : Heap} {b : Nat} {X : AObj} {x : AV} {R : List (List AV)} {es : List (AV × AV)} (t : TB H0 H x R) (hN : H.N ≤ b) (hb : H0.size ≤ b) (g : H.get b = .map es) : TB H0 (H.upd b X) x R := by
  obtain ⟨rs, lv, hl, hr⟩ := t.r
  refine ⟨t.k.updn _ _ hN hb, t.x0, rs, lv.kp (Kp.upd (M := fun i => i = b) H b X hN rfl) (fun q hq e => ?_), hl, fun i r hi => ?_⟩
  · subst e
    rcases lv with ⟨rfl, _⟩ | ⟨b', rfl, g', _⟩
    · cases hq
    · cases hq; rw [g] at g'; cases g'
  · obtain ⟨cs, b', h1, h2, h3, h4, h5⟩ := hr i r hi
    refine ⟨cs, b', h1, h2, ?_, h4, h5⟩
    rw [upd_ne _ _ _ _ hN (fun e => by subst e; rw [g] at h3; cases h3)]
    exact h3
section
variable {M : List (List Int)}
structure S48 (Hb h : Heap) (M : List (List Int)) (P : List Nat) (c k : Nat) (x8 x10 : AV) : Prop where
  e : ∃ Hr L, TB Hb Hr x8 (bkC M P) ∧ Hr.get Hb.size = .map (st L) ∧ PK M P c k L ∧ NG Hr h x10 (cmL M c k)
theorem c48_m (J : CallF) (hm : isMat M = true) {Hb : Heap} {qm qc c : Nat} {P : List Nat} {x8 : AV} (gm : Hb.get qm = .cells 0 65 (matC M)) (gc : Hb.get qc = .cells 1 M.length (gs (clsL M))) (hc : c ∉ P) :
    Tr tbl J c48_l0 (fun s h => ∃ x10, S48 Hb h M P c 0 x8 x10 ∧ s.get [true, false] = .ptr qm 0 65 ∧ s.get [true, true] = .slice qc 0 M.length M.length ∧ s.get [false, false, false] = .map Hb.size ∧ s.get [true, false, false] = x8 ∧ s.get [false, true, false] = G c ∧ s.get [true, true, false] = x10 ∧ s.get [true, false, true, false, true] = G M.length ∧ s.get [false, true, true, false, true] = G ((0 : Nat) : Int)) (.exit 4)
      (fun s h => ∃ x10, S48 Hb h M P c M.length x8 x10 ∧ s.get [true, false] = .ptr qm 0 65 ∧ s.get [true, true] = .slice qc 0 M.length M.length ∧ s.get [false, false, false] = .map Hb.size ∧ s.get [true, false, false] = x8 ∧ s.get [true, true, false] = x10) := by
  have h8 := isMat_n hm
  refine Tr.rounds (P := fun k s h => ∃ x10, S48 Hb h M P c k x8 x10 ∧ s.get [true, false] = .ptr qm 0 65 ∧ s.get [true, true] = .slice qc 0 M.length M.length ∧ s.get [false, false, false] = .map Hb.size ∧ s.get [true, false, false] = x8 ∧ s.get [false, true, false] = G c ∧ s.get [true, true, false] = x10 ∧ s.get [true, false, true, false, true] = G M.length ∧ s.get [false, true, true, false, true] = G k) (M := M.length) (fun k hk => ?_) ?_ (by simp) 0 (by omega)
  · refine Tr.w fun s1 H1 hp R kR => W.trim ?_
    obtain ⟨x10, ⟨Hr, L, tb, gp, pk, ng⟩, q⟩ := hp
    have gc1 := ng.k.at (tb.k.at gc (by simp) id) (by simp) id
    have ck : (gs (clsL M))[k]? = some (G (clN M k)) := gl_at _ hk
    have ck' := getI ck
    by_cases cc : clN M k = c
    · obtain ⟨pk2, ei⟩ := pk.take hk cc hc
      obtain ⟨x1, e, h2, q1, q2, ng2, _⟩ := ng.app H1.size (k : Int) (by have := cmL_len (M := M) c k; omega)
      rw [← cmL_t cc] at ng2
      have f1 := app1_at H1 (G (k : Int))
      have gp2 := ng2.k.at gp (by simp) id
      have ga := mapA_at gp2
      have pst := put_st k L
      have hN : Hr.N ≤ Hb.size := by rw [tb.k.N]; unfold Heap.size; omega
      have hN2 : h2.N ≤ Hb.size := by rw [ng2.k.N]; exact hN
      have mp := mput_gen h2 Hb.size (st L) (st (ins k L)) hN2 gp2
      have hlt := get_lt gp (by simp)
      have ng3 := ng2.both (X := .map (st (ins k L))) hN hlt
      have tb3 := tb.updm (X := .map (st (ins k L))) hN (Nat.le_refl _) gp
      have gp3 := upd_same Hr Hb.size (.map (st (ins k L))) hN hlt
      rw [← ei] at pk2
      rw [cc] at ck ck'
      have fin : S48 Hb (h2.upd Hb.size (.map (st (ins k L)))) M P c (k + 1) x8 x1 := ⟨_, _, tb3, gp3, pk2, ng3⟩
      clear tb ng ng2 pk pk2 ng3 tb3 gp3 ei
      generalize ins k L = L2 at *
      generalize st L2 = e2 at *
      generalize st L = e1 at *
      generalize gs (clsL M) = ccs at *
      refine W.seq (W.chunk ?_)
      simp (disch := first|omega|exact zE rfl|exact zO|exact zL rfl) [c48_o14, zG, q]
      refine W.seq (W.chunk ?_)
      simp (disch := first|omega|exact zE rfl|exact zO|exact zL rfl) [zG, q]
      refine W.seq (W.block ?_)
      refine W.seq (W.chunk ?_)
      simp (disch := first|omega|exact zE rfl|exact zO|exact zL rfl) [c48_o15, zG, q]
      refine W.seq (W.chunk ?_)
      simp (disch := first|omega|exact zE rfl|exact zO|exact zL rfl) [c48_o16, zG, q, gc1, ck, ck']
      refine W.cond (v := true) (by simp (disch := first|omega|exact zE rfl|exact zO|exact zL rfl) [zG, q]) ?_
      simp only [if_true, if_false, Bool.false_eq_true]
      refine W.seq (W.chunk ?_)
      simp (disch := first|omega|exact zE rfl|exact zO|exact zL rfl) [c48_o17, zG, q, elems, rdOf, f1, q1, q2]
      refine W.chunk ?_
      simp (disch := first|omega|exact zE rfl|exact zO|exact zL rfl) [c48_o18, zG, q, ga, pst, mp]
      refine W.chunk ?_
      simp (disch := first|omega|exact zE rfl|exact zO|exact zL rfl) [c48_o19, zG, q]
      exact kR _ _ ⟨x1, fin, by simp [T.get, q]⟩
    · have fin : S48 Hb H1 M P c (k + 1) x8 x10 := ⟨Hr, L, tb, gp, pk.skip cc, by rw [cmL_f cc]; exact ng⟩
      have cc' : ¬ (clN M k : Int) = c := by omega
      clear tb ng pk gp
      generalize clN M k = u at *
      generalize gs (clsL M) = ccs at *
      refine W.seq (W.chunk ?_)
      simp (disch := first|omega|exact zE rfl|exact zO|exact zL rfl) [c48_o14, zG, q]
      refine W.seq (W.chunk ?_)
      simp (disch := first|omega|exact zE rfl|exact zO|exact zL rfl) [zG, q]
      refine W.seq (W.block ?_)
      refine W.seq (W.chunk ?_)
      simp (disch := first|omega|exact zE rfl|exact zO|exact zL rfl) [c48_o15, zG, q]
      refine W.seq (W.chunk ?_)
      simp (disch := first|omega|exact zE rfl|exact zO|exact zL rfl) [c48_o16, zG, q, gc1, ck, ck']
      refine W.chunk ?_
      simp (disch := first|omega|exact zE rfl|exact zO|exact zL rfl) [c48_o17, c48_o18, zG, q]
      refine W.chunk ?_
      simp (disch := first|omega|exact zE rfl|exact zO|exact zL rfl) [c48_o19, zG, q]
      exact kR _ _ ⟨x10, fin, by simp [T.get, q]⟩
  · refine Tr.w fun s1 H1 hp R kR => W.trim ?_
    obtain ⟨x10, s8, q⟩ := hp
    refine W.seq (W.chunk ?_)
    simp (disch := first|omega|exact zE rfl|exact zO|exact zL rfl) [c48_o14, zG, q]
    refine W.seq (W.chunk ?_)
    simp (disch := first|omega|exact zE rfl|exact zO|exact zL rfl) [zG, q]
    exact kR _ _ ⟨x10, s8, by simp [T.get, q]⟩
structure T48 (Hb h : Heap) (M : List (List Int)) (P L : List Nat) (x8 : AV) : Prop where
  tb : TB Hb h x8 (bkC M P)
  gp : h.get Hb.size = .map (st L)
  pn : PN M P L
theorem S48.init {Hb h : Heap} {P L : List Nat} {x8 : AV} (t : T48 Hb h M P L x8) (c : Nat) : S48 Hb h M P c 0 x8 .nils := ⟨h, L, t.tb, t.gp, t.pn.start c, NG.nil h⟩
theorem S48.done {Hb h : Heap} {P : List Nat} {c : Nat} {x8 x10 : AV} (hc : clN M c = c) (hcn : c < M.length) (hl : P.length ≤ 8) (t : S48 Hb h M P c M.length x8 x10) :
    ∃ b n, x10 = .slice b 0 n n ∧ ∃ L x1 e h2, appA (h.plus [.cells 1 1 [.slice b 0 n n]]) h.size none 1 24 1 [.slice b 0 n n] x8 = some (x1, e) ∧ Eff.app e (h.plus [.cells 1 1 [.slice b 0 n n]]) = some h2 ∧ T48 Hb h2 M (P ++ [c]) L x1 ∧ AV.cells x1 = some [x1] := by
  obtain ⟨Hr, L, tb, gp, pk, ng⟩ := t
  obtain ⟨b, rfl, gb⟩ := ng.l.sl (by
    intro e
    have : cmL M c M.length = [] := by simpa using e
    exact cmL_pos hc hcn this)
  have hb := ng.x0 b rfl
  have tb2 := tb.kp ng.k
  have hx : blk x8 ≠ some b := fun e => by
    obtain ⟨rs, lv, _⟩ := tb.r
    have := lv.lt e
    omega
  obtain ⟨x1, e, h2, q1, q2, q3, q4⟩ := tb2.app h.size gb ⟨hx, by have := tb.k.size; omega⟩ (by rw [bkC_len]; omega)
  rw [← bkC_s] at q3
  have gp1 := ng.k.at gp (by simp) id
  have gp2 : h2.get Hb.size = .map (st L) := by
    obtain ⟨rs, lv, hrl, _⟩ := tb2.r
    rw [bkC_len] at hrl
    obtain ⟨x1', e', h2', a1, a2, _, k3, _⟩ := app_v (h.plus [.cells 1 1 [.slice b 0 (gs (cmL M c M.length)).length (gs (cmL M c M.length)).length]]) h.size 24 (.slice b 0 (gs (cmL M c M.length)).length (gs (cmL M c M.length)).length) (lv.kp (Kp.plus (M := fun _ => False) h _) (fun _ _ => id)) (by omega)
    rw [q1] at a1
    cases a1
    rw [q2] at a2
    cases a2
    refine k3.at (plus_keep _ gp1 (by simp)) (by simp) (fun q => ?_)
    rcases lv with ⟨rfl, _⟩ | ⟨b', rfl, g', _⟩
    · cases q
    · cases q; rw [gp1] at g'; cases g'
  exact ⟨b, _, rfl, L, x1, e, h2, q1, q2, ⟨q3, gp2, pk.done⟩, q4⟩
theorem PN.cand (hm : isMat M = true) {P L : List Nat} (p : PN M P L) {c : Nat} (hc : c < M.length) : cand M P c ↔ clN M c = c ∧ c ∉ L ∧ rdQ M L c := by
  have : clN M c = c → (c ∈ L ↔ c ∈ P) := fun e => by rw [p.m c, e]; exact ⟨fun x => x.2, fun x => ⟨hc, x⟩⟩
  constructor
  · rintro ⟨a, b, r⟩
    exact ⟨a, fun x => b ((this a).1 x), (PN.rdy hm p).1 r⟩
  · rintro ⟨a, b, r⟩
    exact ⟨a, fun x => b ((this a).2 x), (PN.rdy hm p).2 r⟩
open Classical in
theorem c48_s (J : CallF) (k75 : K75 J) (hm : isMat M = true) {Hb H : Heap} {qm qc i : Nat} {P L : List Nat} {x8 : AV} (gm : Hb.get qm = .cells 0 65 (matC M)) (gc : Hb.get qc = .cells 1 M.length (gs (clsL M))) (t : T48 Hb H M P L x8) (hi : i < M.length) (hn : ¬ cand M P i) :
    Tr tbl J (.trim [[true, false], [true, true], [false, false, false], [true, false, false], [true, false, true, true], [false, true, true, true]] c48_b1) (fun s h => h = H ∧ s.get [true, false] = .ptr qm 0 65 ∧ s.get [true, true] = .slice qc 0 M.length M.length ∧ s.get [false, false, false] = .map Hb.size ∧ s.get [true, false, false] = x8 ∧ s.get [true, false, true, true] = G M.length ∧ s.get [false, true, true, true] = G i) .normal (fun s h => h = H ∧ s.get [true, false] = .ptr qm 0 65 ∧ s.get [true, true] = .slice qc 0 M.length M.length ∧ s.get [false, false, false] = .map Hb.size ∧ s.get [true, false, false] = x8 ∧ s.get [true, false, true, true] = G M.length ∧ s.get [false, true, true, true] = G ((i + 1 : Nat) : Int)) := by
  have h8 := isMat_n hm
  have lm := matC_len M
  have et : (matC M).take 65 = matC M := List.take_of_length_le (by omega)
  rw [t.pn.cand hm hi] at hn
  have gm1 := t.tb.k.at gm (by simp) id
  have gc1 := t.tb.k.at gc (by simp) id
  have gp := t.gp
  have ga := mapA_at gp
  have ci : (gs (clsL M))[i]? = some (G (clN M i)) := gl_at _ hi
  have ci' := getI ci
  have fst := find_st i L
  have k75' := k75 H ⟨M, qc, Hb.size, i, L⟩ ⟨hm, gc1, gp⟩
  simp only at k75'
  clear t
  by_cases c1 : clN M i = i
  · rw [c1] at ci ci'
    by_cases c2 : i ∈ L
    · rw [if_pos c2] at fst
      clear k75'
      generalize st L = e1 at *
      generalize gs (clsL M) = ccs at *
      refine Tr.w fun s1 H1 hp R kR => W.trim ?_
      obtain ⟨rfl, q⟩ := hp
      refine W.seq (W.chunk ?_)
      simp (disch := first|omega|exact zE rfl|exact zO|exact zL rfl) [c48_o9, zG, q]
      refine W.seq (W.chunk ?_)
      simp (disch := first|omega|exact zE rfl|exact zO|exact zL rfl) [zG, q]
      refine W.seq (W.block ?_)
      refine W.seq (W.chunk ?_)
      simp (disch := first|omega|exact zE rfl|exact zO|exact zL rfl) [c48_o10, zG, q]
      refine W.assoc ?_
      refine W.seq (W.chunk ?_)
      simp (disch := first|omega|exact zE rfl|exact zO|exact zL rfl) [c48_o11, zG, q, gc1, ci, ci', ga, fst]
      refine W.seq (W.chunk ?_)
      simp (disch := first|omega|exact zE rfl|exact zO|exact zL rfl) [zG, q]
      refine W.chunk ?_
      simp (disch := first|omega|exact zE rfl|exact zO|exact zL rfl) [c48_o21, zG, q]
      exact kR _ _ (by simp [T.get, q])
    · rw [if_neg c2] at fst
      have c3 : ¬ rdQ M L i := fun r => hn ⟨c1, c2, r⟩
      rw [decide_eq_false c3] at k75'
      clear hn
      generalize st L = e1 at *
      generalize gs (clsL M) = ccs at *
      generalize matC M = cm at *
      refine Tr.w fun s1 H1 hp R kR => W.trim ?_
      obtain ⟨rfl, q⟩ := hp
      refine W.seq (W.chunk ?_)
      simp (disch := first|omega|exact zE rfl|exact zO|exact zL rfl) [c48_o9, zG, q]
      refine W.seq (W.chunk ?_)
      simp (disch := first|omega|exact zE rfl|exact zO|exact zL rfl) [zG, q]
      refine W.seq (W.block ?_)
      refine W.seq (W.chunk ?_)
      simp (disch := first|omega|exact zE rfl|exact zO|exact zL rfl) [c48_o10, zG, q]
      refine W.assoc ?_
      refine W.seq (W.chunk ?_)
      simp (disch := first|omega|exact zE rfl|exact zO|exact zL rfl) [c48_o11, zG, q, gc1, ci, ci', ga, fst, gm1, et, lm, k75', app_if, app_if']
      refine W.seq (W.chunk ?_)
      simp (disch := first|omega|exact zE rfl|exact zO|exact zL rfl) [zG, q]
      refine W.chunk ?_
      simp (disch := first|omega|exact zE rfl|exact zO|exact zL rfl) [c48_o21, zG, q]
      exact kR _ _ (by simp [T.get, q])
  · have c1' : ¬ (clN M i : Int) = i := by omega
    clear k75' fst hn
    generalize clN M i = u at *
    generalize gs (clsL M) = ccs at *
    refine Tr.w fun s1 H1 hp R kR => W.trim ?_
    obtain ⟨rfl, q⟩ := hp
    refine W.seq (W.chunk ?_)
    simp (disch := first|omega|exact zE rfl|exact zO|exact zL rfl) [c48_o9, zG, q]
    refine W.seq (W.chunk ?_)
    simp (disch := first|omega|exact zE rfl|exact zO|exact zL rfl) [zG, q]
    refine W.seq (W.block ?_)
    refine W.seq (W.chunk ?_)
    simp (disch := first|omega|exact zE rfl|exact zO|exact zL rfl) [c48_o10, zG, q]
    refine W.assoc ?_
    refine W.seq (W.chunk ?_)
    simp (disch := first|omega|exact zE rfl|exact zO|exact zL rfl) [c48_o11, zG, q, gc1, ci, ci', c1']
    refine W.seq (W.chunk ?_)
    simp (disch := first|omega|exact zE rfl|exact zO|exact zL rfl) [zG, q]
    refine W.chunk ?_
    simp (disch := first|omega|exact zE rfl|exact zO|exact zL rfl) [c48_o21, zG, q]
    exact kR _ _ (by simp [T.get, q])
open Classical in
theorem c48_f (J : CallF) (k75 : K75 J) (hm : isMat M = true) {Hb H : Heap} {qm qc c : Nat} {P L : List Nat} {x8 : AV} (gm : Hb.get qm = .cells 0 65 (matC M)) (gc : Hb.get qc = .cells 1 M.length (gs (clsL M))) (t : T48 Hb H M P L x8) (hP : P.length ≤ 8) (hi : c < M.length) (hn : cand M P c) :
    Tr tbl J (.trim [[true, false], [true, true], [false, false, false], [true, false, false], [true, false, true, true], [false, true, true, true]] c48_b1) (fun s h => h = H ∧ s.get [true, false] = .ptr qm 0 65 ∧ s.get [true, true] = .slice qc 0 M.length M.length ∧ s.get [false, false, false] = .map Hb.size ∧ s.get [true, false, false] = x8 ∧ s.get [true, false, true, true] = G M.length ∧ s.get [false, true, true, true] = G c) (.exit 1) (fun s h => ∃ L' x8', T48 Hb h M (P ++ [c]) L' x8' ∧ s.get [true, false] = .ptr qm 0 65 ∧ s.get [true, true] = .slice qc 0 M.length M.length ∧ s.get [false, false, false] = .map Hb.size ∧ s.get [true, false, false] = x8') := by
  have h8 := isMat_n hm
  have lm := matC_len M
  have et : (matC M).take 65 = matC M := List.take_of_length_le (by omega)
  have e0 : (matC M)[0]? = some (G M.length) := rfl
  have e0' := getI e0
  have l0 := c48_m (P := P) (c := c) (x8 := x8) J hm gm gc hn.2.1
  obtain ⟨c1, c2, c3⟩ := (t.pn.cand hm hi).1 hn
  have gm1 := t.tb.k.at gm (by simp) id
  have gc1 := t.tb.k.at gc (by simp) id
  have gp := t.gp
  have ga := mapA_at gp
  have ci : (gs (clsL M))[c]? = some (G (clN M c)) := gl_at _ hi
  have ci' := getI ci
  have fst := find_st c L
  have k75' := k75 H ⟨M, qc, Hb.size, c, L⟩ ⟨hm, gc1, gp⟩
  simp only at k75'
  rw [decide_eq_true c3] at k75'
  rw [if_neg c2] at fst
  rw [c1] at ci ci'
  have ex : ∃ x10, S48 Hb H M P c 0 x8 x10 ∧ AV.nils = x10 := ⟨_, S48.init t c, rfl⟩
  clear t hn c2 c3
  generalize st L = e1 at *
  generalize gs (clsL M) = ccs at *
  generalize matC M = cm at *
  refine Tr.w fun s1 H1 hp R kR => W.trim ?_
  obtain ⟨rfl, q⟩ := hp
  refine W.seq (W.chunk ?_)
  simp (disch := first|omega|exact zE rfl|exact zO|exact zL rfl) [c48_o9, zG, q]
  refine W.seq (W.chunk ?_)
  simp (disch := first|omega|exact zE rfl|exact zO|exact zL rfl) [zG, q]
  refine W.seq (W.block ?_)
  refine W.seq (W.chunk ?_)
  simp (disch := first|omega|exact zE rfl|exact zO|exact zL rfl) [c48_o10, zG, q]
  refine W.assoc ?_
  refine W.seq (W.chunk ?_)
  simp (disch := first|omega|exact zE rfl|exact zO|exact zL rfl) [c48_o11, zG, q, gc1, ci, ci', ga, fst, gm1, et, lm, k75', app_if, app_if']
  refine W.seq (W.chunk ?_)
  simp (disch := first|omega|exact zE rfl|exact zO|exact zL rfl) [zG, q]
  refine W.seq (W.chunk ?_)
  simp (disch := first|omega|exact zE rfl|exact zO|exact zL rfl) [c48_o12, zG, q]
  refine W.assoc ?_
  refine W.seq (W.chunk ?_)
  simp (disch := first|omega|exact zE rfl|exact zO|exact zL rfl) [c48_o13, zG, q, gm1, lm, e0, e0']
  refine W.seq (W.block ?_)
  refine W.use (l0) (by simp (disch := first|omega|exact zE rfl|exact zO|exact zL rfl) [zG, q, ex]) fun s1 H1 hp => ?_
  obtain ⟨x10, s8, q⟩ := hp
  try simp only [zW, if_true]
  obtain ⟨b, n, rfl, L2, x1, e, h2, q1, q2, t2, q3⟩ := s8.done c1 hi hP
  have f1 := app1_at H1 (.slice b 0 n n)
  refine W.seq (W.chunk ?_)
  simp (disch := first|omega|exact zE rfl|exact zO|exact zL rfl) [c48_o20, zG, q, elems, rdOf, f1, q1, q2]
  refine W.exit ?_
  try simp only [zW, if_true]
  exact kR _ _ ⟨L2, x1, t2, by simp [T.get, q]⟩
theorem PB.find {P : List Nat} : ∀ k c, c < k → c < M.length → cand M P c → ∃ c0, c0 < M.length ∧ cand M P c0 ∧ ∀ e, e < c0 → ¬ cand M P e
  | 0, c, h, _, _ => by omega
  | k + 1, c, h1, h2, h3 => by
    by_cases q : ∃ e, e < c ∧ cand M P e
    · obtain ⟨e, a1, a3⟩ := q; exact PB.find k e (by omega) (by omega) a3
    · exact ⟨c, h2, h3, fun e a1 a2 => q ⟨e, a1, a2⟩⟩
theorem c48_no (J : CallF) (k75 : K75 J) (hm : isMat M = true) {Hb H : Heap} {qm qc : Nat} {P L : List Nat} {x8 : AV} (gm : Hb.get qm = .cells 0 65 (matC M)) (gc : Hb.get qc = .cells 1 M.length (gs (clsL M))) (t : T48 Hb H M P L x8) (hno : ∀ c, c < M.length → ¬ cand M P c) : ∀ d i, i + d = M.length →
    Tr tbl J c48_l1 (fun s h => h = H ∧ s.get [true, false] = .ptr qm 0 65 ∧ s.get [true, true] = .slice qc 0 M.length M.length ∧ s.get [false, false, false] = .map Hb.size ∧ s.get [true, false, false] = x8 ∧ s.get [true, false, true, true] = G M.length ∧ s.get [false, true, true, true] = G i) (.exit 2) (fun s h => h = H ∧ s.get [true, false, false] = x8) := by
  intro d
  induction d with
  | zero =>
    intro i hi
    refine Tr.out ?_ (by simp)
    refine Tr.w fun s1 H1 hp R kR => W.trim ?_
    obtain ⟨rfl, q⟩ := hp
    refine W.seq (W.chunk ?_)
    simp (disch := first|omega|exact zE rfl|exact zO|exact zL rfl) [c48_o9, zG, q]
    refine W.seq (W.chunk ?_)
    simp (disch := first|omega|exact zE rfl|exact zO|exact zL rfl) [zG, q]
    exact kR _ _ (by simp [T.get, q])
  | succ d ih =>
    intro i hi
    exact Tr.next (c48_s J k75 hm gm gc t (by omega) (hno i (by omega))) (ih (i + 1) (by omega))
theorem c48_yes (J : CallF) (k75 : K75 J) (hm : isMat M = true) {Hb H : Heap} {qm qc c : Nat} {P L : List Nat} {x8 : AV} (gm : Hb.get qm = .cells 0 65 (matC M)) (gc : Hb.get qc = .cells 1 M.length (gs (clsL M))) (t : T48 Hb H M P L x8) (hP : P.length ≤ 8) (hi : c < M.length) (hn : cand M P c) (hl : ∀ e, e < c → ¬ cand M P e) : ∀ d i, i + d = c →
    Tr tbl J c48_l1 (fun s h => h = H ∧ s.get [true, false] = .ptr qm 0 65 ∧ s.get [true, true] = .slice qc 0 M.length M.length ∧ s.get [false, false, false] = .map Hb.size ∧ s.get [true, false, false] = x8 ∧ s.get [true, false, true, true] = G M.length ∧ s.get [false, true, true, true] = G i) (.exit 1) (fun s h => ∃ L' x8', T48 Hb h M (P ++ [c]) L' x8' ∧ s.get [true, false] = .ptr qm 0 65 ∧ s.get [true, true] = .slice qc 0 M.length M.length ∧ s.get [false, false, false] = .map Hb.size ∧ s.get [true, false, false] = x8') := by
  intro d
  induction d with
  | zero =>
    intro i hi'
    obtain rfl : i = c := by omega
    exact Tr.out (c48_f J k75 hm gm gc t hP hi hn) (by simp)
  | succ d ih =>
    intro i hi'
    exact Tr.next (c48_s J k75 hm gm gc t (by omega) (hl i (by omega))) (ih (i + 1) (by omega))
theorem st_len (L : List Nat) : (st L).length = L.length := by simp [st]
theorem c48_end (J : CallF) (k75 : K75 J) (hm : isMat M = true) {Hb H : Heap} {qm qc : Nat} {P L : List Nat} {x8 : AV} (gm : Hb.get qm = .cells 0 65 (matC M)) (gc : Hb.get qc = .cells 1 M.length (gs (clsL M))) (pb : PB M P) (t : T48 Hb H M P L x8) (hno : ∀ c, c < M.length → ¬ cand M P c) :
    Tr tbl J c48_l2 (fun s h => h = H ∧ s.get [true, false] = .ptr qm 0 65 ∧ s.get [true, true] = .slice qc 0 M.length M.length ∧ s.get [false, false, false] = .map Hb.size ∧ s.get [true, false, false] = x8) (.exit 0) (fun s h => ∃ x8, TB Hb h x8 (bkC M (seqB M)) ∧ s.get [true, false, false] = x8) := by
  have h8 := isMat_n hm
  have lm := matC_len M
  have e0 : (matC M)[0]? = some (G M.length) := rfl
  have e0' := getI e0
  have gm1 := t.tb.k.at gm (by simp) id
  have ga := mapA_at t.gp
  have sl := st_len L
  have ln := t.pn.lt
  have l1 := c48_no J k75 hm gm gc t hno M.length 0 (by omega)
  have tb : TB Hb H x8 (bkC M (seqB M)) := by rw [← pb.done hno]; exact t.tb
  refine Tr.out ?_ (by simp)
  clear t
  by_cases c : L.length < M.length
  · refine Tr.w fun s1 H1 hp R kR => W.trim ?_
    obtain ⟨rfl, q⟩ := hp
    generalize st L = e1 at *
    generalize matC M = cm at *
    refine W.assoc ?_
    refine W.seq (W.chunk ?_)
    simp (disch := first|omega|exact zE rfl|exact zO|exact zL rfl) [c48_o7, zG, q, gm1, lm, e0, e0', ga, sl]
    refine W.seq (W.chunk ?_)
    simp (disch := first|omega|exact zE rfl|exact zO|exact zL rfl) [zG, q]
    refine W.block ?_
    refine W.assoc ?_
    refine W.seq (W.chunk ?_)
    simp (disch := first|omega|exact zE rfl|exact zO|exact zL rfl) [c48_o8, zG, q, gm1, lm, e0, e0']
    refine W.seq (W.block ?_)
    refine W.use (l1) (by simp (disch := first|omega|exact zE rfl|exact zO|exact zL rfl) [zG, q]) fun s1 H1 hp => ?_
    obtain ⟨rfl, q⟩ := hp
    try simp only [zW, if_true]
    refine W.exit ?_
    try simp only [zW, if_true]
    exact kR _ _ ⟨x8, tb, by simp [T.get, q]⟩
  · refine Tr.w fun s1 H1 hp R kR => W.trim ?_
    obtain ⟨rfl, q⟩ := hp
    generalize st L = e1 at *
    generalize matC M = cm at *
    refine W.assoc ?_
    refine W.seq (W.chunk ?_)
    simp (disch := first|omega|exact zE rfl|exact zO|exact zL rfl) [c48_o7, zG, q, gm1, lm, e0, e0', ga, sl]
    refine W.seq (W.chunk ?_)
    simp (disch := first|omega|exact zE rfl|exact zO|exact zL rfl) [zG, q]
    exact kR _ _ ⟨x8, tb, by simp [T.get, q]⟩
theorem c48_l (J : CallF) (k75 : K75 J) (hm : isMat M = true) {Hb : Heap} {qm qc : Nat} (gm : Hb.get qm = .cells 0 65 (matC M)) (gc : Hb.get qc = .cells 1 M.length (gs (clsL M))) : ∀ d P, P.length + d = M.length → PB M P →
    Tr tbl J c48_l2 (fun s h => ∃ L x8, T48 Hb h M P L x8 ∧ s.get [true, false] = .ptr qm 0 65 ∧ s.get [true, true] = .slice qc 0 M.length M.length ∧ s.get [false, false, false] = .map Hb.size ∧ s.get [true, false, false] = x8) (.exit 0) (fun s h => ∃ x8, TB Hb h x8 (bkC M (seqB M)) ∧ s.get [true, false, false] = x8) := by
  have h8 := isMat_n hm
  have lm := matC_len M
  have e0 : (matC M)[0]? = some (G M.length) := rfl
  have e0' := getI e0
  intro d
  induction d with
  | zero =>
    intro P hd pb
    refine Tr.w fun s1 H1 hp R kR => ?_
    obtain ⟨L, x8, t, q⟩ := hp
    have hno : ∀ c, c < M.length → ¬ cand M P c := fun c hc hn => by
      obtain ⟨c0, c1, c2, c3⟩ := PB.find (c + 1) c (by omega) hc hn
      have := (pb.push c1 c2 c3).len
      simp at this
      omega
    exact W.use (c48_end J k75 hm gm gc pb t hno) ⟨rfl, q⟩ kR
  | succ d ih =>
    intro P hd pb
    refine Tr.w fun s1 H1 hp R kR => ?_
    obtain ⟨L, x8, t, q⟩ := hp
    by_cases hc : ∃ c, c < M.length ∧ cand M P c
    · obtain ⟨c, hc, hn⟩ := hc
      obtain ⟨c0, c1, c2, c3⟩ := PB.find (c + 1) c (by omega) hc hn
      have ih := ih (P ++ [c0]) (by simp; omega) (pb.push c1 c2 c3)
      have l1 := c48_yes J k75 hm gm gc t (by omega) c1 c2 c3 c0 0 (by omega)
      have gm1 := t.tb.k.at gm (by simp) id
      have ga := mapA_at t.gp
      have sl := st_len L
      have hl : L.length < M.length := Classical.byContradiction fun n => t.pn.full n c1 c2
      clear t
      refine W.loop (W.trim ?_)
      generalize st L = e1 at *
      generalize matC M = cm at *
      refine W.assoc ?_
      refine W.seq (W.chunk ?_)
      simp (disch := first|omega|exact zE rfl|exact zO|exact zL rfl) [c48_o7, zG, q, gm1, lm, e0, e0', ga, sl]
      refine W.seq (W.chunk ?_)
      simp (disch := first|omega|exact zE rfl|exact zO|exact zL rfl) [zG, q]
      refine W.block ?_
      refine W.assoc ?_
      refine W.seq (W.chunk ?_)
      simp (disch := first|omega|exact zE rfl|exact zO|exact zL rfl) [c48_o8, zG, q, gm1, lm, e0, e0']
      refine W.seq (W.block ?_)
      refine W.use (l1) (by simp (disch := first|omega|exact zE rfl|exact zO|exact zL rfl) [zG, q]) fun s1 H1 hp => ?_
      obtain ⟨L2, x2, t2, q⟩ := hp
      try simp only [zW, if_true]
      exact W.use ih ⟨L2, x2, t2, by simp [T.get, q]⟩ kR
    · exact W.use (c48_end J k75 hm gm gc pb t fun c h1 h2 => hc ⟨c, h1, h2⟩) ⟨rfl, q⟩ kR
theorem c48_bad (J : CallF) (k54 : K54 J) (hJ : ∀ a h, J 48 a h = none) (h : Heap) {y : AV} (hy : MR h y M) (hm : isMat M = false) : CallsTo tbl J 48 [y] h (.tup [.nils, G 2], [], false) := by
  refine Tr.fnv (cf := c48) (e := .ret) (s := T.set .leaf [] y) (by decide) rfl (hJ _ _) rfl rfl rfl (by simp) ?_
  obtain ⟨cs, k54, hl, hc⟩ := k54 ⟨h.get, h.size, []⟩ y M (hy.lo [])
  have rp : (List.replicate 65 (AV.int .i64 0)).length = 65 := List.length_replicate
  have ep : putAt (List.replicate 65 (AV.int .i64 0)) 0 cs = cs := putAt_all _ _ (by omega)
  refine Tr.w fun s1 H1 hp R kR => ?_
  obtain ⟨rfl, rfl⟩ := hp
  have q : True := trivial
  generalize hZ : List.replicate 65 (AV.int .i64 0) = Z at *
  rw [hm] at k54
  refine W.seq (W.chunk ?_)
  simp (disch := first|omega|exact zE rfl|exact zO|exact zL rfl) [-List.reduceReplicate, c48_o0, size_mk, get_mk_lt, get_mk_ge, frameOf, Eff.app, Heap.setOwn, q]
  refine W.scope ?_
  refine W.seq (W.chunk ?_)
  simp (disch := first|omega|exact zE rfl|exact zO|exact zL rfl) [-List.reduceReplicate, c48_o1, size_mk, get_mk_lt, get_mk_ge, frameOf, Eff.app, Heap.setOwn, q, k54, hZ, ep, rp, hl, frameOf]
  refine W.assoc ?_
  refine W.seq (W.chunk ?_)
  simp (disch := first|omega|exact zE rfl|exact zO|exact zL rfl) [-List.reduceReplicate, c48_o2, size_mk, get_mk_lt, get_mk_ge, frameOf, Eff.app, Heap.setOwn, q]
  refine W.seq (W.chunk ?_)
  simp (disch := first|omega|exact zE rfl|exact zO|exact zL rfl) [-List.reduceReplicate, c48_o3, size_mk, get_mk_lt, get_mk_ge, frameOf, Eff.app, Heap.setOwn, q]
  exact kR _ _ ⟨[.nils, G 2], by simp [T.get, c48, evRess, evRes], rfl⟩
theorem TB.fr1 {h h' : Heap} {x y : AV} {L : List (List AV)} (t : TB (frameOf h) h' x L) : TB h (h.plus (if (one [x, y]).flat then [] else h'.own)) x L := by
  split
  · rename_i hf
    obtain ⟨rs, lv, hl, hr⟩ := t.r
    rcases lv with ⟨rfl, rfl⟩ | ⟨b, rfl, g, n⟩
    · have : L = [] := List.eq_nil_of_length_eq_zero hl.symm
      subst this
      exact (TB.nil h).kp (Kp.plus _ _)
    · exact absurd hf (by simp [one, AV.flat, AV.flats])
  · exact t.fr
theorem c48_ok (J : CallF) (k54 : K54 J) (k62 : K62 J) (k75 : K75 J) (hJ : ∀ a h, J 48 a h = none) (h : Heap) {y : AV} (hy : MR h y M) (hm : isMat M = true) : ∃ v own, CallsTo tbl J 48 [y] h (v, own, false) ∧ ∃ w, v = .tup [w, G 0] ∧ TB h (h.plus own) w (bkC M (seqB M)) := by
  refine Tr.fny (cf := c48) (e := .ret) (s := T.set .leaf [] y) (by decide) rfl (hJ _ _) rfl rfl (by simp) ?_
  have h8 := isMat_n hm
  obtain ⟨cs, k54, hl, hc⟩ := k54 (frameOf h) y M (hy.lo [])
  have rp : (List.replicate 65 (AV.int .i64 0)).length = 65 := List.length_replicate
  obtain rfl := hc hm
  have ep : putAt (List.replicate 65 (AV.int .i64 0)) 0 (matC M) = matC M := putAt_all _ _ (by omega)
  have et : (matC M).take 65 = matC M := List.take_of_length_le (by omega)
  have lm := matC_len M
  obtain ⟨w, own, k62, nc⟩ := k62 ((frameOf h).plus [.cells 0 65 (matC M)]) M hm
  obtain ⟨qc, rfl, gc⟩ := nc.l.sl (by intro e; have h0 : (gs (clsL M)).length = M.length := gl_len _ _; rw [e] at h0; simp at h0; omega)
  rw [show (gs (clsL M)).length = M.length from gl_len _ _] at k62 gc
  have kA : Kp (fun _ => False) (frameOf h) (((frameOf h).plus [.cells 0 65 (matC M)]).plus own) := (Kp.plus _ _).trans nc.k
  have gm : (((frameOf h).plus [.cells 0 65 (matC M)]).plus own).get h.size = .cells 0 65 (matC M) := nc.k.at (plus_at0 _ _ _ _ (fr_size h)) (by simp) id
  have gm0 : ((frameOf h).plus [.cells 0 65 (matC M)]).get h.size = .cells 0 65 (matC M) := plus_at0 _ _ _ _ (fr_size h)
  clear nc
  generalize hHa : ((frameOf h).plus [.cells 0 65 (matC M)]).plus own = Ha at *
  have l2 := c48_l J k75 hm gm gc M.length [] (by simp) PB.nil
  have pn0 : PN M [] [] := ⟨List.Pairwise.nil, fun u => by simp⟩
  have t0 : T48 Ha (Ha.plus [.map []]) M [] [] .nils := ⟨(TB.nil Ha).kp (Kp.plus _ _), plus_at0 Ha (.map []) [] _ rfl, pn0⟩
  have ex : ∃ L, T48 Ha (Ha.plus [.map []]) M [] L .nils := ⟨[], t0⟩
  have fs := fr_size h
  clear t0 pn0
  refine Tr.w fun s1 H1 hp R kR => ?_
  obtain ⟨rfl, rfl⟩ := hp
  have q : True := trivial
  generalize hZ : List.replicate 65 (AV.int .i64 0) = Z at *
  rw [hm] at k54
  refine W.seq (W.chunk ?_)
  simp (disch := first|omega|exact zE rfl|exact zO|exact zL rfl) [-List.reduceReplicate, c48_o0, zG, q]
  refine W.scope ?_
  refine W.seq (W.chunk ?_)
  simp (disch := first|omega|exact zE rfl|exact zO|exact zL rfl) [-List.reduceReplicate, c48_o1, zG, q, k54, hZ, ep, rp, hl, app_if, app_if', fs]
  refine W.assoc ?_
  refine W.seq (W.chunk ?_)
  simp (disch := first|omega|exact zE rfl|exact zO|exact zL rfl) [-List.reduceReplicate, c48_o2, zG, q]
  refine W.seq (W.chunk ?_)
  simp (disch := first|omega|exact zE rfl|exact zO|exact zL rfl) [-List.reduceReplicate, c48_o3, zG, q]
  refine W.seq (W.chunk ?_)
  simp (disch := first|omega|exact zE rfl|exact zO|exact zL rfl) [-List.reduceReplicate, c48_o4, zG, q, fs, gm0, et, lm, k62, app_if, app_if', hHa]
  refine W.seq (W.chunk ?_)
  simp (disch := first|omega|exact zE rfl|exact zO|exact zL rfl) [-List.reduceReplicate, c48_o5, zG, q]
  refine W.seq (W.chunk ?_)
  simp (disch := first|omega|exact zE rfl|exact zO|exact zL rfl) [-List.reduceReplicate, c48_o6, zG, q]
  refine W.seq (W.skip ?_)
  try simp only [zW, if_true]
  refine W.seq (W.block ?_)
  refine W.use (l2) (by simp (disch := first|omega|exact zE rfl|exact zO|exact zL rfl) [-List.reduceReplicate, zG, q, ex]) fun s1 H1 hp => ?_
  obtain ⟨xo, tb, q⟩ := hp
  try simp only [zW, if_true]
  refine W.seq (W.chunk ?_)
  simp (disch := first|omega|exact zE rfl|exact zO|exact zL rfl) [-List.reduceReplicate, c48_o22, zG, q]
  refine W.ret ?_
  try simp only [zW, if_true]
  exact kR _ _ ⟨[xo, G 0], by simp [T.get, c48, evRess, evRes, q], xo, rfl, (TB.base kA tb).fr1⟩
end
def Post48 (a : AM) (h : Heap) (v : AV) (own : List AObj) : Prop := (isMat a.M = false → v = .tup [.nils, G 2] ∧ own = []) ∧ (isMat a.M = true → ∃ w, v = .tup [w, G 0] ∧ TB h (h.plus own) w (bkC a.M (seqB a.M)))
noncomputable def T31 : CallF := addK tbl T30 48 PreM Post48
theorem t31 : Sound Go.Proofs.Try.prog T31 := Sound.addK follows ok t30 (by decide) _ _
abbrev K48 (J : CallF) : Prop := ∀ (h : Heap) (a : AM), MR h a.y a.M → ∃ v own, J 48 [a.y] h = some (v, own, false) ∧ Post48 a h v own
theorem k54_30 : K54 T30 := fun h y M hy => by
  simp (disch := decide) only [T30, T29, T28, T27, T26, T25, T24, T23, T22, T21, T20, T19, T18, T17, T16, T15, T14, T13, T12, T11, T10, T9, T8, T7, T6, T5, T4, T3, T2, T1, R21, R20, R19, R18, R17, R16, R15, R14, R13, R12, R11, R10, R9, R8, R7, R6, R5, R4, R3, R2, R1, addI_ne, addX_ne, addV_ne, addK_ne]
  exact k54 h y M hy
theorem k62_30 : K62 T30 := fun h M hm => by
  simp (disch := decide) only [T30, T29, T28, T27, T26, T25, T24, T23, T22, T21, T20, T19, T18, T17, T16, T15, T14, T13, T12, T11, T10, T9, T8, T7, addK_ne]
  exact k62 h M hm
theorem k48 : K48 T31 := fun h a ha => addK_some (Pre := PreM) (Post := Post48) (fun a args h hp => by
  obtain ⟨hy, rfl⟩ := hp
  have hn : ∀ a h, T30 48 a h = none := (fun _ _ => by simp (disch := decide) only [T30, T29, T28, T27, T26, T25, T24, T23, T22, T21, T20, T19, T18, T17, T16, T15, T14, T13, T12, T11, T10, T9, T8, T7, T6, T5, T4, T3, T2, T1, R21, R20, R19, R18, R17, R16, R15, R14, R13, R12, R11, R10, R9, R8, R7, R6, R5, R4, R3, R2, R1, addI_ne, addX_ne, addV_ne, addK_ne]; rfl)
  cases c : isMat a.M
  · exact ⟨_, _, c48_bad T30 k54_30 hn h hy c, fun _ => ⟨rfl, rfl⟩, fun q => by rw [c] at q; cases q⟩
  · obtain ⟨v, own, e, p⟩ := c48_ok T30 k54_30 k62_30 k75 hn h hy c
    exact ⟨v, own, e, fun q => (by rw [c] at q; cases q), fun _ => p⟩) a _ h ⟨ha, rfl⟩
end Go.Proofs.Ytjeemgaoonapgaa.Ev
set_option linter.unusedVariables false
set_option linter.unusedSimpArgs false
namespace Go.Proofs.Ytjeemgaoonapgaa.Ev
open Go Go.AEv
open Classical in
noncomputable def ct (p : Nat → Prop) : Nat → Nat
  | 0 => 0
  | k + 1 => ct p k + (if p k then 1 else 0)
theorem ct_le {p q : Nat → Prop} : ∀ {k}, (∀ z, z < k → p z → q z) → ct p k ≤ ct q k
  | 0, _ => Nat.le_refl _
  | k + 1, h => by
    have a := ct_le (k := k) fun z hz => h z (by omega)
    unfold ct
    by_cases c : p k
    · rw [if_pos c, if_pos (h k (by omega) c)]; omega
    · rw [if_neg c]; omega
theorem ct_lt {p q : Nat → Prop} : ∀ {k}, (∀ z, z < k → p z → q z) → ∀ {w}, w < k → q w → ¬ p w → ct p k < ct q k
  | 0, _, w, hw, _, _ => by omega
  | k + 1, h, w, hw, a, b => by
    unfold ct
    by_cases e : w = k
    · subst e
      have := ct_le (k := w) fun z hz => h z (by omega)
      rw [if_pos a, if_neg b]; omega
    · have := ct_lt (k := k) (fun z hz => h z (by omega)) (show w < k by omega) a b
      by_cases c : p k
      · rw [if_pos c, if_pos (h k (by omega) c)]; omega
      · rw [if_neg c]; omega
theorem leastN {p : Nat → Prop} (n : Nat) : p n → ∃ m, m ≤ n ∧ p m ∧ ∀ k, k < m → ¬ p k := by
  induction n using Nat.strongRecOn with
  | _ n ih =>
    intro h
    by_cases c : ∃ k, k < n ∧ p k
    · obtain ⟨k, hk, pk⟩ := c
      obtain ⟨m, a, b⟩ := ih k hk pk
      exact ⟨m, by omega, b⟩
    · exact ⟨n, Nat.le_refl _, h, fun k hk pk => c ⟨k, hk, pk⟩⟩
theorem nd_inj {P : List Nat} (nd : P.Nodup) {i j c : Nat} (h1 : P[i]? = some c) (h2 : P[j]? = some c) : i = j := by
  obtain ⟨l1, e1⟩ := List.getElem?_eq_some_iff.1 h1
  obtain ⟨l2, e2⟩ := List.getElem?_eq_some_iff.1 h2
  rcases Nat.lt_trichotomy i j with l | l | l
  · exact absurd (e1.trans e2.symm) (List.pairwise_iff_getElem.1 nd i j l1 l2 l)
  · exact l
  · exact absurd (e2.trans e1.symm) (List.pairwise_iff_getElem.1 nd j i l2 l1 l)
section
variable {M : List (List Int)}
structure PO (M : List (List Int)) (P : List Nat) : Prop where
  b : PB M P
  o : ∀ k c, P[k]? = some c → rdy M (P.take k) c
theorem PO.push {P : List Nat} (p : PO M P) {c : Nat} (h1 : c < M.length) (h2 : cand M P c) (h3 : ∀ d, d < c → ¬ cand M P d) : PO M (P ++ [c]) :=
  ⟨p.b.push h1 h2 h3, fun k d e => by
    by_cases l : k < P.length
    · rw [List.getElem?_append_left l] at e
      rw [List.take_append_of_le_length (by omega)]
      exact p.o k d e
    · have : k = P.length := by have := (List.getElem?_eq_some_iff.1 e).1; simp at this; omega
      subst this
      rw [List.getElem?_append_right (Nat.le_refl _), Nat.sub_self] at e
      cases e
      rw [List.take_left']
      · exact h2.2.2
      · rfl⟩
theorem PO.sq : ∀ k, PO M (sqB M k) ∧ ((sqB M k).length = k ∨ ∀ c, c < M.length → ¬ cand M (sqB M k) c)
  | 0 => ⟨⟨PB.nil, fun k c e => by simp [sqB] at e⟩, .inl rfl⟩
  | k + 1 => by
    obtain ⟨p, q⟩ := PO.sq k
    by_cases c : ∃ c, c < M.length ∧ cand M (sqB M k) c
    · obtain ⟨c0, hc, hd⟩ := c
      obtain ⟨m, a, b, e⟩ := leastN (p := cand M (sqB M k)) c0 hd
      have e2 : sqB M (k + 1) = sqB M k ++ [m] := nxB_t (by omega) b e
      rw [e2]
      refine ⟨p.push (by omega) b e, .inl ?_⟩
      rcases q with q | q
      · simp [q]
      · exact absurd hd (q c0 hc)
    · have h : ∀ c, c < M.length → ¬ cand M (sqB M k) c := fun d hd x => c ⟨d, hd, x⟩
      have e2 : sqB M (k + 1) = sqB M k := nxB_f h
      rw [e2]
      exact ⟨p, .inr h⟩
theorem sq_ok : PO M (seqB M) ∧ ∀ c, c < M.length → ¬ cand M (seqB M) c := by
  obtain ⟨p, q⟩ := PO.sq (M := M) M.length
  refine ⟨p, fun c hc => ?_⟩
  rcases q with q | q
  · intro hd
    have := nodup_le (n := M.length) (nodup_snoc p.b.d hd.2.1) (fun d hd => by
      rcases List.mem_append.1 hd with y | y
      · exact (p.b.l d y).1
      · rw [List.mem_singleton] at y; omega)
    rw [List.length_append, q, List.length_singleton] at this
    omega
  · exact q c hc
theorem clN_id (hm : isMat M = true) {u : Nat} (hu : u < M.length) : clN M (clN M u) = clN M u := by
  obtain ⟨a, b, _⟩ := clN_ok hm hu
  exact ((clN_eq hm hu (by omega)).2 b).symm
theorem all_in (hm : isMat M = true) : ∀ r c, c < M.length → clN M c = c → ct (fun u => Rc M u c) M.length = r → c ∈ seqB M := fun r => by
  induction r using Nat.strongRecOn with
  | _ r ih =>
    intro c hc e hr
    refine Classical.byContradiction fun hn => sq_ok.2 c hc ⟨e, hn, fun u v ee ev eu => ?_⟩
    obtain ⟨hu, hv⟩ := ent_lt hm ee
    obtain ⟨lu, mu, _⟩ := clN_ok hm hu
    have mv := (clN_ok hm hv).2.1
    rw [ev] at mv
    have r1 : Rc M (clN M u) c := mu.2.trans ((Rc.one ee).trans mv.1)
    refine ih _ ?_ (clN M u) (by omega) (clN_id hm hu) rfl
    rw [← hr]
    refine ct_lt (fun z _ hz => hz.trans r1) hc (Rc.refl c) fun x => eu ?_
    have := (clN_eq hm (by omega) hc).2 (⟨r1, x⟩ : Mu M (clN M u) c)
    rw [clN_id hm hu, e] at this
    exact this
theorem pos_in (hm : isMat M = true) {z : Nat} (hz : z < M.length) : ∃ j : Nat, (seqB M)[j]? = some (clN M z) := by
  have l := (clN_ok hm hz).1
  exact List.mem_iff_getElem?.1 (all_in hm _ (clN M z) (by omega) (clN_id hm hz) rfl)
theorem cm_at {c : Nat} : ∀ {k i : Nat} {z : Int}, (cmL M c k)[i]? = some z → ∃ u : Nat, u < k ∧ z = u ∧ clN M u = c
  | 0, i, z, h => by simp [cmL] at h
  | k + 1, i, z, h => by
    by_cases e : clN M k = c
    · rw [cmL_t e] at h
      by_cases l : i < (cmL M c k).length
      · rw [List.getElem?_append_left l] at h
        obtain ⟨u, a, b⟩ := cm_at h
        exact ⟨u, by omega, b⟩
      · rw [List.getElem?_append_right (by omega)] at h
        have : i - (cmL M c k).length = 0 := by have := (List.getElem?_eq_some_iff.1 h).1; simp at this; omega
        rw [this] at h
        cases h
        exact ⟨k, by omega, rfl, e⟩
    · rw [cmL_f e] at h
      obtain ⟨u, a, b⟩ := cm_at h
      exact ⟨u, by omega, b⟩
theorem cm_mem {c z : Nat} (h : clN M z = c) : ∀ {k}, z < k → ∃ i : Nat, (cmL M c k)[i]? = some (z : Int)
  | 0, hk => by omega
  | k + 1, hk => by
    by_cases e : z = k
    · subst e
      rw [cmL_t h]
      exact ⟨(cmL M c z).length, by rw [List.getElem?_append_right (Nat.le_refl _), Nat.sub_self]; rfl⟩
    · obtain ⟨i, hi⟩ := cm_mem h (k := k) (by omega)
      by_cases f : clN M k = c
      · rw [cmL_t f]
        exact ⟨i, by rw [List.getElem?_append_left (List.getElem?_eq_some_iff.1 hi).1]; exact hi⟩
      · rw [cmL_f f]; exact ⟨i, hi⟩
structure AtI (M : List (List Int)) (k i : Nat) (f : Nat → Int) : Prop where
  a : ∀ z j, z < M.length → (seqB M)[j]? = some (clN M z) → j < k → f z = j
  b : ∀ c (i' z : Nat), (seqB M)[k]? = some c → i' < i → (cmL M c M.length)[i']? = some (z : Int) → f z = k
theorem AtI.init {f : Nat → Int} : AtI M 0 0 f := ⟨fun z j _ _ h => by omega, fun c i z _ h => by omega⟩
theorem AtI.set {k i c z : Nat} {f : Nat → Int} (t : AtI M k i f) (hc : (seqB M)[k]? = some c) (hz : (cmL M c M.length)[i]? = some (z : Int)) : AtI M k (i + 1) (fun x => if x = z then (k : Int) else f x) := by
  have nd := (sq_ok (M := M)).1.b.d
  obtain ⟨u, _, e, e2⟩ := cm_at hz
  have : u = z := by omega
  subst this
  refine ⟨fun x j hx hj hk => ?_, fun c' i' x hc' hi hx => ?_⟩
  · by_cases q : x = u
    · subst q
      rw [e2] at hj
      have := nd_inj nd hj hc; omega
    · rw [if_neg q]; exact t.a x j hx hj hk
  · by_cases q : x = u
    · rw [if_pos q]
    · rw [if_neg q]
      refine t.b c' i' x hc' ?_ hx
      rcases Nat.lt_or_ge i' i with a | a
      · exact a
      · have : i' = i := by omega
        subst this
        rw [hc] at hc'; cases hc'
        rw [hz] at hx
        have : (u : Int) = x := Option.some.inj hx
        omega
theorem AtI.next {k c : Nat} {f : Nat → Int} (t : AtI M k (cmL M c M.length).length f) (hc : (seqB M)[k]? = some c) : AtI M (k + 1) 0 f := by
  refine ⟨fun z j hz hj hk => ?_, fun c' i' z _ h => by omega⟩
  by_cases e : j = k
  · subst e
    rw [hc] at hj
    have e2 : clN M z = c := (Option.some.inj hj).symm
    obtain ⟨i, hi⟩ := cm_mem e2 hz
    exact t.b c i z hc (List.getElem?_eq_some_iff.1 hi).1 hi
  · exact t.a z j hz hj (by omega)
end
end Go.Proofs.Ytjeemgaoonapgaa.Ev
set_option linter.unusedVariables false
set_option linter.unusedSimpArgs false
namespace Go.Proofs.Ytjeemgaoonapgaa.Ev
open Go Go.AEv
attribute [local simp] evFunc initS evOps_c evTrim_c evSkip_c evExit_c evRet_c evSeq_c evCond_c evBlock_c evDraw_c runOps_n runOps_c exec_n exec_g pure1_c act AOpd.ev T.get T.set T.put evBin evUn forceT_eq forceV_eq forceL_eq evRess evRes one keep runFP_n runFP_c app_none AV.flats AV.flat came_some List.getElem?_cons_zero List.getElem?_cons_succ beqT wrapI idxI tdivI tmodI decT decF ibT ibF inT inF evScope_c if_pos if_neg Cm_some thenW_n thenW_e thenW_r blkW_n blkW_e blkW_r goI kn putAt AV.cells fillA loadA takeA mk Eff.isAll Eff.isNone Eff.commutes Eff.spares okPair apart eqAgg fits LK.fits allEq aveq eqk mmA
theorem ext_p0 (h : Heap) (v g : Nat) (cs vs : List AV) (b : Nat) (hb : h.size = b) (hl : cs.length = v) : Eff.app (.ext b v g vs) (h.plus [.cells g v cs]) = some (h.plus [.cells g (v + vs.length) (cs ++ vs)]) := by
  subst hb
  have hn : h.N ≤ h.size := by unfold Heap.size; omega
  rw [ext_gen (h.plus [.cells g v cs]) h.size v g cs vs (by rw [plus_N]; exact hn) (plus_at0 _ _ _ _ rfl) hl]
  congr 1
  unfold Heap.upd Heap.plus
  congr 1
  show (h.own ++ [AObj.cells g v cs]).set (h.size - h.N) _ = _
  rw [show h.size - h.N = h.own.length by unfold Heap.size; omega]
  simp
structure SO (lo S : Nat) (A h : Heap) (ZZ : List AV) : Prop where
  k : Kp (fun b => lo ≤ b ∧ b < S) A h
  r : ∀ r ∈ ZZ, ∃ b cs, r = .slice b 0 cs.length cs.length ∧ h.get b = .cells 1 cs.length cs ∧ lo ≤ b ∧ b < S ∧ cs.length ≤ 100
theorem SO.put {lo S : Nat} {A h : Heap} {ZZ : List AV} (t : SO lo S A h ZZ) {b n : Nat} {cs cs' : List AV} (hA : A.N ≤ lo) (g : h.get b = .cells 1 n cs) (h1 : lo ≤ b ∧ b < S) (hl : cs.length = n) (hl' : cs'.length = n) : SO lo S A (h.upd b (.cells 1 n cs')) ZZ := by
  have hN : h.N ≤ b := by rw [t.k.N]; omega
  refine ⟨t.k.trans (Kp.upd h b _ hN h1), fun r hr => ?_⟩
  obtain ⟨b2, c2, e1, e2, e3⟩ := t.r r hr
  by_cases e : b2 = b
  · subst e
    rw [g] at e2
    simp only [AObj.cells.injEq, true_and] at e2
    obtain ⟨e2, _⟩ := e2
    refine ⟨b2, cs', ?_, ?_, e3.1, e3.2.1, by omega⟩
    · rw [e1, hl', e2]
    · rw [upd_same _ _ _ hN (get_lt g (by simp)), hl']
  · exact ⟨b2, c2, e1, by rw [upd_ne _ _ _ _ hN (fun q => e q.symm)]; exact e2, e3⟩
theorem o16_k (J : CallF) {A : Heap} {lo S i b n m : Nat} {ZZ : List AV} {x5 x6 x8 x10 x12 x14 : AV} (hA : A.N ≤ lo) (gS : A.get S = .cells 1 m ZZ) (hZ : ZZ.length = m) (hR : m ≤ 100) (hn : n ≤ 100) (hi : ZZ[i]? = some (.slice b 0 n n)) :
    Tr tbl J c16_l0 (fun s h => SO lo S A h ZZ ∧ s.get [false, true] = x5 ∧ s.get [true, true] = x6 ∧ s.get [true, false, false] = x8 ∧ s.get [true, true, false] = x10 ∧ s.get [true, false, true] = x12 ∧ s.get [true, true, true] = x14 ∧ s.get [false, false, false, false] = .slice S 0 m m ∧ s.get [true, false, false, false] = G i ∧ s.get [false, true, false, false] = G ((0 : Nat) : Int)) (.exit 2)
      (fun s h => SO lo S A h ZZ ∧ s.get [false, true] = x5 ∧ s.get [true, true] = x6 ∧ s.get [true, false, false] = x8 ∧ s.get [true, true, false] = x10 ∧ s.get [true, false, true] = x12 ∧ s.get [true, true, true] = x14 ∧ s.get [false, false, false, false] = .slice S 0 m m ∧ s.get [true, false, false, false] = G i) := by
  have hi' : ∀ h : i < ZZ.length, ZZ[i] = .slice b 0 n n := getI hi
  have hiR : i < m := by have := (List.getElem?_eq_some_iff.1 hi).1; omega
  refine Tr.rounds (P := fun k s h => SO lo S A h ZZ ∧ s.get [false, true] = x5 ∧ s.get [true, true] = x6 ∧ s.get [true, false, false] = x8 ∧ s.get [true, true, false] = x10 ∧ s.get [true, false, true] = x12 ∧ s.get [true, true, true] = x14 ∧ s.get [false, false, false, false] = .slice S 0 m m ∧ s.get [true, false, false, false] = G i ∧ s.get [false, true, false, false] = G k) (M := n) (fun k hk => ?_) ?_ (by simp) 0 (by omega)
  · refine Tr.w fun s1 H1 hp R kR => W.trim ?_
    obtain ⟨so, q⟩ := hp
    have gS1 := so.k.at gS (by simp) (by omega)
    obtain ⟨b', cs, e1, g, h1, h2, h3⟩ := so.r _ (List.mem_of_getElem? hi)
    simp only [AV.slice.injEq, true_and] at e1
    obtain ⟨rfl, e1, _⟩ := e1
    rw [← e1] at g
    have hN : H1.N ≤ b := by rw [so.k.N]; omega
    have p := put_gen H1 b n k 1 cs [G (-7)] hN g (by rw [← e1]; show k + 1 ≤ n; omega)
    have so2 := so.put (cs' := putAt cs k [G (-7)]) hA g ⟨h1, h2⟩ e1.symm (by show (cs.set k (G (-7))).length = n; rw [List.length_set]; exact e1.symm)
    have lcs : cs.length = n := e1.symm
    clear so
    generalize putAt cs k [G (-7)] = c2 at *
    refine W.assoc ?_
    refine W.seq (W.chunk ?_)
    simp (disch := first|omega|exact zE rfl|exact zO|exact zL rfl) [c16_o13, zG, q, gS1, hi, hi']
    refine W.seq (W.chunk ?_)
    simp (disch := first|omega|exact zE rfl|exact zO|exact zL rfl) [zG, q]
    refine W.seq (W.block ?_)
    refine W.chunk ?_
    simp (disch := first|omega|exact zE rfl|exact zO|exact zL rfl) [c16_o14, zG, q, gS1, hi, hi', g, p, lcs]
    refine W.chunk ?_
    simp (disch := first|omega|exact zE rfl|exact zO|exact zL rfl) [c16_o15, zG, q]
    exact kR _ _ ⟨so2, by simp [T.get, q]⟩
  · refine Tr.w fun s1 H1 hp R kR => W.trim ?_
    obtain ⟨so, q⟩ := hp
    have gS1 := so.k.at gS (by simp) (by omega)
    refine W.assoc ?_
    refine W.seq (W.chunk ?_)
    simp (disch := first|omega|exact zE rfl|exact zO|exact zL rfl) [c16_o13, zG, q, gS1, hi, hi']
    refine W.seq (W.chunk ?_)
    simp (disch := first|omega|exact zE rfl|exact zO|exact zL rfl) [zG, q]
    exact kR _ _ ⟨so, by simp [T.get, q]⟩
theorem o16_i (J : CallF) {A : Heap} {lo S m : Nat} {ZZ : List AV} {x5 x6 x8 x10 x12 x14 : AV} (hA : A.N ≤ lo) (gS : A.get S = .cells 1 m ZZ) (hZ : ZZ.length = m) (hR : m ≤ 100) :
    Tr tbl J c16_l1 (fun s h => SO lo S A h ZZ ∧ s.get [false, true] = x5 ∧ s.get [true, true] = x6 ∧ s.get [true, false, false] = x8 ∧ s.get [true, true, false] = x10 ∧ s.get [true, false, true] = x12 ∧ s.get [true, true, true] = x14 ∧ s.get [false, false, false, false] = .slice S 0 m m ∧ s.get [true, false, false, false] = G ((0 : Nat) : Int)) (.exit 0)
      (fun s h => SO lo S A h ZZ ∧ s.get [false, true] = x5 ∧ s.get [true, true] = x6 ∧ s.get [true, false, false] = x8 ∧ s.get [true, true, false] = x10 ∧ s.get [true, false, true] = x12 ∧ s.get [true, true, true] = x14) := by
  refine Tr.rounds (P := fun i s h => SO lo S A h ZZ ∧ s.get [false, true] = x5 ∧ s.get [true, true] = x6 ∧ s.get [true, false, false] = x8 ∧ s.get [true, true, false] = x10 ∧ s.get [true, false, true] = x12 ∧ s.get [true, true, true] = x14 ∧ s.get [false, false, false, false] = .slice S 0 m m ∧ s.get [true, false, false, false] = G i) (M := m) (fun i hi => ?_) ?_ (by simp) 0 (by omega)
  · refine Tr.w fun s1 H1 hp R kR => W.trim ?_
    obtain ⟨so, q⟩ := hp
    have gS1 := so.k.at gS (by simp) (by omega)
    have ei := List.getElem?_eq_getElem (show i < ZZ.length by omega)
    obtain ⟨b, cs, e1, g, h1, h2, h3⟩ := so.r (ZZ[i]'(by omega)) (List.getElem_mem _)
    rw [e1] at ei
    have l0 := o16_k (x5 := x5) (x6 := x6) (x8 := x8) (x10 := x10) (x12 := x12) (x14 := x14) J hA gS hZ hR h3 ei
    refine W.assoc ?_
    refine W.seq (W.chunk ?_)
    simp (disch := first|omega|exact zE rfl|exact zO|exact zL rfl) [c16_o11, zG, q]
    refine W.seq (W.chunk ?_)
    simp (disch := first|omega|exact zE rfl|exact zO|exact zL rfl) [zG, q]
    refine W.seq (W.block ?_)
    refine W.seq (W.chunk ?_)
    simp (disch := first|omega|exact zE rfl|exact zO|exact zL rfl) [c16_o12, zG, q]
    refine W.block ?_
    refine W.use (l0) (by simp (disch := first|omega|exact zE rfl|exact zO|exact zL rfl) [zG, q, so]) fun s1 H1 hp => ?_
    obtain ⟨so, q⟩ := hp
    try simp only [zW, if_true]
    refine W.chunk ?_
    simp (disch := first|omega|exact zE rfl|exact zO|exact zL rfl) [c16_o16, zG, q]
    exact kR _ _ ⟨so, by simp [T.get, q]⟩
  · refine Tr.w fun s1 H1 hp R kR => W.trim ?_
    obtain ⟨so, q⟩ := hp
    refine W.assoc ?_
    refine W.seq (W.chunk ?_)
    simp (disch := first|omega|exact zE rfl|exact zO|exact zL rfl) [c16_o11, zG, q]
    refine W.seq (W.chunk ?_)
    simp (disch := first|omega|exact zE rfl|exact zO|exact zL rfl) [zG, q]
    exact kR _ _ ⟨so, by simp [T.get, q]⟩
section
variable {M : List (List Int)}
theorem take_all {α : Type} {l : List α} {n : Nat} (h : l.length ≤ n) : l.take n = l := List.take_of_length_le h
theorem cutM_mat (hm : isMat M = true) : cutM M = M := by
  have h8 := isMat_n hm
  unfold cutM
  rw [take_all (by omega)]
  conv => rhs; rw [← List.map_id M]
  apply List.map_congr_left
  intro l hl
  obtain ⟨i, hi, rfl⟩ := List.getElem_of_mem hl
  have := (isMat_row hm hi).1
  have e : M.getD i [] = M[i] := by rw [List.getD_eq_getElem?_getD, List.getElem?_eq_getElem hi]; rfl
  rw [e] at this
  exact take_all (by omega)
theorem pwX_1 (hm : isMat M = true) {i j : Nat} (hi : i < M.length) (hj : j < M.length) : pwX M 1 (i * 8 + j) = ent M i j := by
  have h8 := isMat_n hm
  rw [pwX_s hi (by omega), sm_one hi (fun k hk hne => by
    show onF M.length (i * 8 + k) * ent M k j = 0
    unfold onF
    rw [if_neg (by omega), Int.zero_mul])]
  show onF M.length (i * 8 + i) * ent M i j = ent M i j
  unfold onF
  rw [if_pos (by omega), Int.one_mul]
theorem pwL_1 (hm : isMat M = true) : pwL M 1 = M := by
  unfold pwL
  apply List.ext_getElem
  · simp
  · intro i h1 h2
    rw [List.getElem_map, List.getElem_range]
    have e : M.getD i [] = M[i] := by rw [List.getD_eq_getElem?_getD, List.getElem?_eq_getElem h2]; rfl
    have hr := (isMat_row hm h2).1
    rw [← e, lf_of (M.getD i []), hr]
    unfold rwL
    apply lf_ext
    intro j hj
    rw [pwX_1 hm h2 hj]; rfl
end
theorem TB.rows {H0 H A : Heap} {x : AV} {L : List (List AV)} (t : TB H0 H x L) (hL : L ≠ []) (hl : ∀ cs ∈ L, cs.length ≤ 100) (k : Kp (fun _ => False) H A) :
    ∃ q rs, x = .slice q 0 L.length L.length ∧ H.get q = .cells 1 L.length rs ∧ rs.length = L.length ∧ ∀ r ∈ rs, ∃ b cs, r = .slice b 0 cs.length cs.length ∧ A.get b = .cells 1 cs.length cs ∧ H0.size ≤ b ∧ b < H.size ∧ cs.length ≤ 100 := by
  obtain ⟨rs, lv, e, hr⟩ := t.r
  obtain ⟨q, e1, e2⟩ := lv.sl (by intro x; rw [x] at e; exact hL (List.length_eq_zero_iff.1 e.symm))
  rw [e] at e1 e2
  refine ⟨q, rs, e1, e2, e, fun r hr' => ?_⟩
  obtain ⟨i, hi⟩ := List.mem_iff_getElem?.1 hr'
  obtain ⟨cs, b, h1, h2, h3, h4, h5⟩ := hr i r hi
  exact ⟨b, cs, h2, k.at h3 (by simp) id, h5, get_lt h3 (by simp), hl cs (List.mem_of_getElem? h1)⟩
theorem row_le {N : List (List Int)} (hm : isMat N = true) {l : List Int} (hl : l ∈ N) : l.length ≤ 8 := by
  have h8 := isMat_n hm
  obtain ⟨i, hi, rfl⟩ := List.getElem_of_mem hl
  have := (isMat_row hm hi).1
  have e : N.getD i [] = N[i] := by rw [List.getD_eq_getElem?_getD, List.getElem?_eq_getElem hi]; rfl
  rw [e] at this
  omega
structure KnO (J : CallF) : Prop where
  k17 : K17 J
  k23 : ∀ h, J 23 [] h = some (.bool true, [], false)
  k24 : K24 J
  k27 : K27 J
  k28 : K28 J
  k31 : K31 J
  k33 : K33 J
  k43 : K43 J
  k47 : K47 J
  k48 : K48 J
  k50 : K50 J
theorem own_law (J : CallF) (K : KnO J) (hJ : ∀ a h, J 16 a h = none) (h : Heap) (a : Int) {m : AV} {M : List (List Int)} (hm : MR h m M) : CallsTo tbl J 16 [G a, m] h (.bool true, [], false) := by
  refine Tr.fnv (cf := c16) (e := .ret) (s := T.set (T.set .leaf [] (G a)) [false] m) (by decide) rfl (hJ _ _) rfl rfl rfl (by simp) ?_
  refine Tr.w fun s1 H1 hp R kR => ?_
  obtain ⟨rfl, rfl⟩ := hp
  have q : True := trivial
  have fin : ∀ s h', s.get [true, false] = .bool true → R .ret s h' := fun s h' a => kR _ _ ⟨[.bool true], by simp [c16, evRess, evRes, a], rfl⟩
  clear kR
  have b1 := mdZ_bd a (show (0 : Int) < 8 by decide)
  have k1 := fun h => K.k27 a 8 h (by decide) (by decide)
  obtain ⟨n, hn⟩ : ∃ n : Nat, mdZ a 8 = (n : Int) := ⟨(mdZ a 8).toNat, by omega⟩
  rw [hn] at b1 k1
  have ns : ((n + 1 : Nat) : Int) = 1 + (n : Int) := by omega
  obtain ⟨x, own, N, k28, tg, hlN, hq⟩ := K.k28 (frameOf h) m M (n + 1) 9 (hm.lo []) (by omega) (by decide)
  have hN : isMat N = true := sqM_mat hq hlN (by omega) (by decide)
  have h8 := isMat_n hN
  have hx := tg.mr
  have lx := tg.lt
  clear tg hq
  rw [ns] at k28
  generalize hHa : (frameOf h).plus own = Ha at *
  have k23 := K.k23
  obtain ⟨y, owny, k17, ty⟩ := K.k17 Ha x N hx
  rw [cutM_mat hN] at ty
  have hy := ty.mr
  have ly := ty.lt
  have ka := ty.k
  clear ty
  generalize hHb : Ha.plus owny = Hb at *
  have hx := hx.kp ka
  have lx := lx.kp ka
  obtain ⟨v31, own31, k31, _, p31⟩ := K.k31 Hb ⟨N, x⟩ hx
  obtain ⟨wc, rfl, ngc⟩ := p31 hN
  simp only at k31 ngc
  have kc : Kp (fun _ => False) Hb (Hb.plus own31) := Kp.plus _ _
  generalize hHc : Hb.plus own31 = Hc at *
  obtain ⟨v43, own43, k43, _, _, p43⟩ := K.k43 Hc ⟨N, x, ((1 : Nat) : Int)⟩ (hx.kp kc)
  obtain ⟨wp, rfl, tbp⟩ := p43 ⟨hN, by simp only; omega, by simp only; omega⟩ (by simp only [Int.toNat_natCast]; exact okP_small hN (by omega))
  simp only [Int.toNat_natCast] at k43 tbp
  have k43 : J 43 [x, .int .i64 1] Hc = some (.tup [wp, G 0], own43, false) := k43
  have kd : Kp (fun _ => False) Hc (Hc.plus own43) := Kp.plus _ _
  generalize hHd : Hc.plus own43 = Hd at *
  obtain ⟨v48, own48, k48, _, p48⟩ := K.k48 Hd ⟨N, x⟩ ((hx.kp kc).kp kd)
  obtain ⟨wb, rfl, tbb⟩ := p48 hN
  simp only at k48 tbb
  have ke : Kp (fun _ => False) Hd (Hd.plus own48) := Kp.plus _ _
  generalize hHe : Hd.plus own48 = He at *
  obtain ⟨v33, own33, k33, _, p33⟩ := K.k33 He ⟨N, x⟩ (((hx.kp kc).kp kd).kp ke)
  obtain ⟨wq, rfl, ngq⟩ := p33 hN
  simp only at k33 ngq
  have kf : Kp (fun _ => False) He (He.plus own33) := Kp.plus _ _
  generalize hHf : He.plus own33 = Hf at *
  have lc : (gs (clsL N)).length = N.length := gl_len _ _
  have lq : (gs (pyL N)).length = N.length + 1 := gl_len _ _
  obtain ⟨qc, rfl, gc⟩ := ngc.l.sl (by intro e; rw [e] at lc; simp at lc; omega)
  obtain ⟨qq, rfl, gq⟩ := ngq.l.sl (by intro e; rw [e] at lq; simp at lq)
  have xc := ngc.x0 qc rfl
  have xq := ngq.x0 qq rfl
  have kbf : Kp (fun _ => False) Hb Hf := kc.trans (kd.trans (ke.trans kf))
  have so := (sq_ok (M := N)).1
  have hP8 : (seqB N).length ≤ N.length := so.b.len
  obtain ⟨j0, hj0⟩ := pos_in hN (show 0 < N.length by omega)
  have hj0 := (List.getElem?_eq_some_iff.1 hj0).1
  obtain ⟨qp, rp, rfl, gp, lrp, hrp⟩ := tbp.rows (by intro e; have h0 := pwL_len (M := N) 1; rw [e] at h0; simp at h0; omega) (fun cs hcs => by
    simp only [pwL, List.map_map, List.mem_map, List.mem_range] at hcs
    obtain ⟨i, _, rfl⟩ := hcs
    simp only [Function.comp, rwL, gl_len]; omega) (ke.trans kf)
  obtain ⟨qb, rb, rfl, gb, lrb, hrb⟩ := tbb.rows (by intro e; have h0 := bkC_len (M := N) (seqB N); rw [e] at h0; simp at h0; omega) (fun cs hcs => by
    simp only [bkC, List.mem_map] at hcs
    obtain ⟨c, _, rfl⟩ := hcs
    have := cmL_len (M := N) c N.length
    simp; omega) kf
  rw [pwL_len] at k43 gp lrp
  rw [bkC_len] at k48 gb lrb
  rw [lc] at k31 gc
  rw [lq] at k33 gq
  have gc := (kd.trans (ke.trans kf)).at gc (by simp) id
  have gp := (ke.trans kf).at gp (by simp) id
  have gb := kf.at gb (by simp) id
  have sz : Hc.size ≤ Hf.size ∧ Hd.size ≤ Hf.size ∧ He.size ≤ Hf.size ∧ Hb.size ≤ Hc.size ∧ Hb.size ≤ Hd.size ∧ Hb.size ≤ He.size := ⟨(kd.trans (ke.trans kf)).size, (ke.trans kf).size, kf.size, kc.size, (kc.trans kd).size, (kc.trans (kd.trans ke)).size⟩
  generalize hZZ : (AV.slice qc 0 N.length N.length :: AV.slice qq 0 (N.length + 1) (N.length + 1) :: rp) ++ rb = ZZ at *
  have lZ : ZZ.length = 2 + N.length + (seqB N).length := by rw [← hZZ]; simp [lrp, lrb]; omega
  have kA : Kp (fun _ => False) Hf (Hf.plus [.cells 1 (2 + N.length + (seqB N).length) ZZ]) := Kp.plus _ _
  have gS : (Hf.plus [.cells 1 (2 + N.length + (seqB N).length) ZZ]).get Hf.size = .cells 1 (2 + N.length + (seqB N).length) ZZ := plus_at0 _ _ _ _ rfl
  have so0 : SO Hb.size Hf.size (Hf.plus [.cells 1 (2 + N.length + (seqB N).length) ZZ]) (Hf.plus [.cells 1 (2 + N.length + (seqB N).length) ZZ]) ZZ := ⟨Kp.refl _, fun r hr => by
    rw [← hZZ] at hr
    rcases List.mem_append.1 hr with hr | hr
    · rcases List.mem_cons.1 hr with rfl | hr
      · exact ⟨qc, gs (clsL N), by rw [lc], by rw [lc]; exact kA.at gc (by simp) id, xc, get_lt gc (by simp), by rw [lc]; omega⟩
      · rcases List.mem_cons.1 hr with rfl | hr
        · exact ⟨qq, gs (pyL N), by rw [lq], by rw [lq]; exact kA.at gq (by simp) id, by omega, get_lt gq (by simp), by rw [lq]; omega⟩
        · obtain ⟨b, cs, e1, e2, e3, e4, e5⟩ := hrp r hr
          exact ⟨b, cs, e1, kA.at e2 (by simp) id, by omega, by omega, e5⟩
    · obtain ⟨b, cs, e1, e2, e3, e4, e5⟩ := hrb r hr
      exact ⟨b, cs, e1, kA.at e2 (by simp) id, by omega, by omega, e5⟩⟩
  have hAN : (Hf.plus [.cells 1 (2 + N.length + (seqB N).length) ZZ]).N ≤ Hb.size := by rw [plus_N, kbf.N]; unfold Heap.size; omega
  have l1 := o16_i (J := J) (x5 := x) (x6 := y) (x8 := G 0) (x10 := G 0) (x12 := G 0) (x14 := G 0) hAN gS lZ (by omega)
  have post : ∀ L, SO Hb.size Hf.size (Hf.plus [.cells 1 (2 + N.length + (seqB N).length) ZZ]) L ZZ → Kp (fun _ => False) Hb L := fun L so => (kbf.trans kA).late so.k fun q hq => hq.1
  have e1 := ext_p0 Hf 2 1 [.slice qc 0 N.length N.length, .slice qq 0 (N.length + 1) (N.length + 1)] rp Hf.size rfl rfl
  have e2 := ext_p0 Hf (2 + N.length) 1 (.slice qc 0 N.length N.length :: .slice qq 0 (N.length + 1) (N.length + 1) :: rp) rb Hf.size rfl (by simp [lrp]; omega)
  rw [lrp] at e1
  rw [hZZ, lrb] at e2
  have gp' := fun x => plus_keep [x] gp (by simp)
  have gb' := fun x => plus_keep [x] gb (by simp)
  have tp : rp.take N.length = rp := take_all (by omega)
  have tb : rb.take (seqB N).length = rb := take_all (by omega)
  clear ngc ngq tbp tbb p31 p43 p48 p33 hrp hrb gc gq xc xq kA gS
  have ne1 : ¬ N = [] := by intro e; rw [e] at h8; simp at h8
  have ne2 : ¬ seqB N = [] := by intro e; rw [e] at hj0; simp at hj0
  refine W.seq (W.chunk ?_)
  simp (disch := first|omega|exact zE rfl|exact zO|exact zL rfl) [c16_o0, zG, q]
  refine W.seq (W.chunk ?_)
  simp (disch := first|omega|exact zE rfl|exact zO|exact zL rfl) [c16_o1, zG, q, k1]
  refine W.seq (W.chunk ?_)
  simp (disch := first|omega|exact zE rfl|exact zO|exact zL rfl) [c16_o2, zG, q, k28, app_if, app_if', hHa]
  refine W.seq (W.chunk ?_)
  simp (disch := first|omega|exact zE rfl|exact zO|exact zL rfl) [c16_o3, zG, q, k17, app_if, app_if', hHb]
  refine W.seq (W.chunk ?_)
  simp (disch := first|omega|exact zE rfl|exact zO|exact zL rfl) [c16_o4, zG, q, k31, app_if, app_if', hHc]
  refine W.seq (W.chunk ?_)
  simp (disch := first|omega|exact zE rfl|exact zO|exact zL rfl) [c16_o5, zG, q, k43, app_if, app_if', hHd]
  refine W.seq (W.chunk ?_)
  simp (disch := first|omega|exact zE rfl|exact zO|exact zL rfl) [c16_o6, zG, q, k48, app_if, app_if', hHe]
  refine W.seq (W.chunk ?_)
  simp (disch := first|omega|exact zE rfl|exact zO|exact zL rfl) [c16_o7, zG, q, k33, app_if, app_if', hHf]
  refine W.seq (W.chunk ?_)
  simp (disch := first|omega|exact zE rfl|exact zO|exact zL rfl) [c16_o8, zG, q, elems, rdOf, appA, gp', tp, lrp, e1, ne1]
  refine W.seq (W.chunk ?_)
  simp (disch := first|omega|exact zE rfl|exact zO|exact zL rfl) [c16_o9, zG, q, elems, rdOf, appA, gb', tb, lrb, e2, ne2]
  refine W.assoc ?_
  refine W.seq (W.chunk ?_)
  simp (disch := first|omega|exact zE rfl|exact zO|exact zL rfl) [c16_o10, zG, q]
  refine W.seq (W.block ?_)
  refine W.use (l1) (by simp (disch := first|omega|exact zE rfl|exact zO|exact zL rfl) [zG, q, so0]) fun s1 H1 hp => ?_
  obtain ⟨so, q⟩ := hp
  try simp only [zW, if_true]
  have kL := post _ so
  clear so so0
  obtain ⟨u31, un31, j31, _, r31⟩ := K.k31 H1 ⟨N, x⟩ (hx.kp kL)
  obtain ⟨w31, rfl, n31⟩ := r31 hN
  simp only at j31 n31
  have kM : Kp (fun _ => False) H1 (H1.plus un31) := Kp.plus _ _
  generalize hH2 : H1.plus un31 = H2 at *
  obtain ⟨u43, un43, j43, _, _, r43⟩ := K.k43 H2 ⟨N, x, ((1 : Nat) : Int)⟩ ((hx.kp kL).kp kM)
  obtain ⟨w43, rfl, t43⟩ := r43 ⟨hN, by simp only; omega, by simp only; omega⟩ (by simp only [Int.toNat_natCast]; exact okP_small hN (by omega))
  simp only [Int.toNat_natCast] at j43 t43
  have j43 : J 43 [x, .int .i64 1] H2 = some (.tup [w43, G 0], un43, false) := j43
  rw [pwL_1 hN] at t43
  have kO : Kp (fun _ => False) H2 (H2.plus un43) := Kp.plus _ _
  generalize hH3 : H2.plus un43 = H3 at *
  have kbo := (kL.trans kM).trans kO
  have nl : ∀ l ∈ N, l.length ≤ 1000000 := fun l hl => by have := row_le hN hl; omega
  have j47a := K.k47 H3 ⟨N, N, x, y⟩ ⟨lx.kp kbo, ly.kp kbo, by simp only; omega, by simp only; omega, nl⟩
  simp only [decide_true] at j47a
  obtain ⟨w50, un50, j50, n50⟩ := K.k50 H3 ⟨N, y⟩ (hy.kp kbo) hN
  simp only at j50 n50
  have kP : Kp (fun _ => False) H3 (H3.plus un50) := Kp.plus _ _
  generalize hH4 : H3.plus un50 = H4 at *
  have j24 := K.k24 H4 w31 w50 _ _ (n31.kp (kO.trans kP)).list n50.list (by unfold clsL; rw [lf_len]; omega)
  rw [decide_eq_true rfl] at j24
  have j47b := K.k47 H4 ⟨N, N, w43, y⟩ ⟨t43.lt.kp kP, (ly.kp kbo).kp kP, by simp only; omega, by simp only; omega, nl⟩
  simp only [decide_true] at j47b
  clear n31 n50 t43 hx hy lx ly kbo kL kM kO kP
  refine W.seq (W.chunk ?_)
  simp (disch := first|omega|exact zE rfl|exact zO|exact zL rfl) [c16_o17, zG, q, j31, app_if, app_if', hH2]
  refine W.seq (W.chunk ?_)
  simp (disch := first|omega|exact zE rfl|exact zO|exact zL rfl) [c16_o18, zG, q, j43, app_if, app_if', hH3]
  refine W.seq (W.chunk ?_)
  simp (disch := first|omega|exact zE rfl|exact zO|exact zL rfl) [c16_o19, zG, q, j47a, j50, j24, j47b, k23, app_if, app_if', hH4]
  refine W.ret ?_
  try simp only [zW, if_true]
  exact fin _ _ (by simp [T.get])
theorem knO : KnO T31 where
  k17 := fun h y M hy => by
    simp (disch := decide) only [T31, T30, T29, T28, T27, T26, T25, T24, T23, T22, T21, T20, T19, T18, T17, T16, T15, T14, T13, T12, T11, T10, T9, T8, T7, T6, T5, T4, T3, T2, T1, addI_ne, addX_ne, addV_ne, addK_ne]
    exact k17_r h y M hy
  k23 := fun h => by
    simp (disch := decide) only [T31, T30, T29, T28, T27, T26, T25, T24, T23, T22, T21, T20, T19, T18, T17, T16, T15, T14, T13, T12, T11, T10, T9, T8, T7, T6, T5, T4, T3, T2, T1, addI_ne, addX_ne, addV_ne, addK_ne]
    exact k23_r h
  k24 := fun h x y a b hx hy hn => by
    simp (disch := decide) only [T31, T30, T29, T28, T27, T26, T25, T24, T23, T22, T21, T20, T19, T18, T17, T16, T15, T14, T13, T12, T11, T10, T9, T8, T7, T6, T5, T4, T3, T2, T1, addI_ne, addX_ne, addV_ne, addK_ne]
    exact k24_r h x y a b hx hy hn
  k27 := fun x n h a b => by
    simp (disch := decide) only [T31, T30, T29, T28, T27, T26, T25, T24, T23, T22, T21, T20, T19, T18, T17, T16, T15, T14, T13, T12, T11, T10, T9, T8, T7, T6, T5, T4, T3, addX_ne, addK_ne]
    exact k27_2 x n h a b
  k28 := fun h y M n most a b c => by
    simp (disch := decide) only [T31, T30, T29, T28, T27, T26, T25, T24, T23, T22, T21, T20, T19, T18, T17, T16, T15, T14, T13, T12, T11, T10, T9, T8, T7, T6, T5, T4, addX_ne, addK_ne]
    exact k28 h y M n most a b c
  k31 := fun h a ha => by
    simp (disch := decide) only [T31, T30, T29, T28, T27, T26, T25, T24, addK_ne]
    exact k31 h a ha
  k33 := fun h a ha => by
    simp (disch := decide) only [T31, T30, T29, T28, T27, T26, T25, T24, T23, T22, T21, T20, T19, addK_ne]
    exact k33 h a ha
  k43 := fun h a ha => by
    simp (disch := decide) only [T31, T30, T29, T28, T27, T26, T25, T24, T23, T22, T21, T20, T19, T18, T17, addK_ne]
    exact k43 h a ha
  k47 := fun h a ha => by
    simp (disch := decide) only [T31, T30, T29, T28, T27, T26, T25, T24, T23, T22, T21, addK_ne]
    exact k47 h a ha
  k48 := fun h a ha => k48 h a ha
  k50 := fun h a ha hm => by
    simp (disch := decide) only [T31, T30, T29, T28, T27, T26, T25, T24, T23, addK_ne]
    exact k50 h a ha hm
theorem own_ok (h : Heap) (a : Int) {m : AV} {M : List (List Int)} (hm : MR h m M) : CallsTo tbl T31 16 [G a, m] h (.bool true, [], false) := own_law T31 knO (fun _ _ => by simp (disch := decide) only [T31, T30, T29, T28, T27, T26, T25, T24, T23, T22, T21, T20, T19, T18, T17, T16, T15, T14, T13, T12, T11, T10, T9, T8, T7, T6, T5, T4, T3, T2, T1, R21, R20, R19, R18, R17, R16, R15, R14, R13, R12, R11, R10, R9, R8, R7, R6, R5, R4, R3, R2, R1, addI_ne, addX_ne, addV_ne, addK_ne]; rfl) h a hm
end Go.Proofs.Ytjeemgaoonapgaa.Ev
set_option linter.unusedVariables false
set_option linter.unusedSimpArgs false
namespace Go.AEv
open Go.ChangeShapes Go.WideShapes Go.Proofs.Ytjeemgaoonapgaa.Ev
theorem MR.ext {h h' : Heap} (e : Ext h h') {y : AV} {M : List (List Int)} (m : MR h y M) : MR h' y M := by
  rcases m with m | ⟨b, v, cs, rfl, g, hl, hr⟩
  · exact .inl m
  · refine .inr ⟨b, v, cs, rfl, e _ _ g (by simp), hl, fun i r q => ?_⟩
    obtain ⟨l, h1, h2⟩ := hr i r q
    exact ⟨l, h1, LR.ext e h2⟩
theorem rows_lo {CK : CKT} {w : World} {H : Type} {enc : TypeId × Value → H} {P : Program} {e i : TypeId} (he : P.underlying e = some (.slice i)) (hi : P.underlying i = some (.int .i64)) (hc : P.cellsOf i = 1) :
    ∀ (vs : List Value) {φ : Nat → Emb} {h : Heap} (ho : h.own = []) (hr : HR CK w [] φ h w), (∀ u ∈ vs, ∃ fuel z, DataW.trod enc P w 0 (fun _ => true) true fuel e [u] = some z) →
    ∃ φ' h', ∃ (rs : List AV) (ls : List (List Int)), h'.own = [] ∧ HR CK w [] φ' h' w ∧ Stp φ h φ' h' ∧ Ext h h' ∧ rs.length = vs.length ∧ ls.length = vs.length ∧ ∀ (j : Nat) u r, vs[j]? = some u → rs[j]? = some r → VR φ' h' r u ∧ Value.oneCell' u = true ∧ ∃ l, ls[j]? = some l ∧ LR h' r l
  | [], φ, h, ho, hr, _ => ⟨φ, h, [], [], ho, hr, Stp.refl φ h, Ext.refl h, rfl, rfl, fun j u r q => by simp at q⟩
  | u :: us, φ, h, ho, hr, ht => by
    obtain ⟨fuel, z, hf⟩ := ht u (by simp)
    obtain ⟨φ1, h1, x, l, o1, r1, s1, e1, v1, p1, c1⟩ := ints_lo0 ho hr he hi hc hf
    obtain ⟨φ2, h2, rs, ls, o2, r2, s2, e2, l1, l2, q⟩ := rows_lo he hi hc us o1 r1 (fun u' hu => ht u' (by simp [hu]))
    refine ⟨φ2, h2, x :: rs, l :: ls, o2, r2, s1.trans s2, e1.trans e2, by simp [l1], by simp [l2], fun j u' r hu hr' => ?_⟩
    cases j with
    | zero =>
      simp only [List.getElem?_cons_zero, Option.some.injEq] at hu hr'
      subst hu hr'
      exact ⟨VR.step s2 _ _ v1, c1, l, rfl, p1.ext e2⟩
    | succ j =>
      simp only [List.getElem?_cons_succ] at hu hr' ⊢
      exact q j u' r hu hr'
theorem mat_lo {CK : CKT} {φ : Nat → Emb} {h : Heap} {w : World} (ho : h.own = []) (hr : HR CK w [] φ h w) {H : Type} {enc : TypeId × Value → H} {P : Program} {t e i : TypeId} {v : Value} {d : DataW H} {p : List MemPlace}
    (ht : P.underlying t = some (.slice e)) (he : P.underlying e = some (.slice i)) (hi : P.underlying i = some (.int .i64)) (hce : P.cellsOf e = 1) (hci : P.cellsOf i = 1) (hvs : ∃ a len cap, v = .slice a len cap) (k : DataW.Trod enc P w 0 (fun _ => true) true t v d p) :
    ∃ φ' h' x M, h'.own = [] ∧ HR CK w [] φ' h' w ∧ Stp φ h φ' h' ∧ Ext h h' ∧ VR φ' h' x v ∧ MR h' x M := by
  obtain ⟨va, vl, vc, rfl⟩ := hvs
  obtain ⟨fuel, hf⟩ := k
  rcases DataW.trod_slice ht hf with ⟨hcs, _⟩ | ⟨a, len, cap, elems, rest, n, _, hcs, _, _, hl, hm, hlen, hel, hsp, _⟩
  · have hcs' : Value.slice va vl vc = .slice none 0 0 := (List.cons.inj hcs).1
    rw [hcs']
    exact ⟨φ, h, .nils, [], ho, hr, Stp.refl φ h, Ext.refl h, by simp [VR], .inl ⟨.inl rfl, rfl⟩⟩
  · have hcs' : Value.slice va vl vc = .slice (some a) len cap := (List.cons.inj hcs).1
    rw [hcs']
    by_cases h0 : len = 0
    · subst h0
      exact ⟨φ, h, .slice0, [], ho, hr, Stp.refl φ h, Ext.refl h, by simp [VR], .inl ⟨.inr rfl, rfl⟩⟩
    · obtain ⟨hrl, hre⟩ := hsp rfl
      have each : ∀ j, j < cap → ∃ u, w.cell? (a.add j) = some u ∧ ∃ z, DataW.trod enc P w 0 (fun _ => true) true n e [u] = some z := fun j hj => by
        have hb' : ∃ y, (w.cells? 0 (a.add (j * P.cellsOf e)) (P.cellsOf e)).bind (DataW.trod enc P w 0 (fun _ => true) true n e) = some y := by
          by_cases hjl : j < len
          · rw [hel j hjl, List.getElem?_eq_getElem (by omega)]; exact ⟨_, rfl⟩
          · have := hre (j - len) (by omega)
            rw [show len + (j - len) = j by omega] at this
            rw [this, List.getElem?_eq_getElem (by omega)]; exact ⟨_, rfl⟩
        obtain ⟨y, hy⟩ := hb'
        rw [hce, Nat.mul_one, Option.bind_eq_some_iff] at hy
        obtain ⟨cs', h1, h2⟩ := hy
        have hl1 := (World.cells?_some h1).2.1
        obtain ⟨u, rfl⟩ : ∃ u, cs' = [u] := by
          cases cs' with
          | nil => simp at hl1
          | cons u r => cases r with
            | nil => exact ⟨u, rfl⟩
            | cons u' r => simp at hl1
        exact ⟨u, cell_of_cells?_one h1, y, h2⟩
      obtain ⟨f, hfe⟩ : ∃ f : Nat → Value, ∀ j, j < cap → w.cell? (a.add j) = some (f j) ∧ ∃ z, DataW.trod enc P w 0 (fun _ => true) true n e [f j] = some z :=
        ⟨fun j => if hj : j < cap then Classical.choose (each j hj) else .nilFunc, fun j hj => by
          simp only [dif_pos hj]
          exact Classical.choose_spec (each j hj)⟩
      obtain ⟨b, off, spot⟩ := a
      have hspot : spot = none := by simpa [Addr.add] using World.cell?_spot (hfe 0 (by omega)).1
      subst hspot
      have hcell : ∀ j, j < cap → w.cell? ⟨b, off + j, none⟩ = some (f j) := fun j hj => by rw [← Go.WideShapes.add_plain]; exact (hfe j hj).1
      obtain ⟨c, ty, fr, hb, hc0⟩ := cell_obj (hcell 0 (by omega))
      have hcj : ∀ j, j < cap → c[off + j]? = some (f j) := fun j hj => by
        obtain ⟨c', ty', fr', hb', hcj⟩ := cell_obj (hcell j hj)
        rw [hb] at hb'
        simp only [Option.some.injEq, Obj.cells.injEq] at hb'
        obtain ⟨rfl, _⟩ := hb'
        exact hcj
      have hsize : off + cap ≤ c.size := by
        have := (Array.getElem?_eq_some_iff.1 (hcj (cap - 1) (by omega))).1
        omega
      obtain ⟨φ1, h1, rs, ls, o1, r1, s1, e1, l1, l2, q⟩ := rows_lo he hi hci ((List.range len).map f) ho hr (fun u hu => by
        obtain ⟨j, hj, rfl⟩ := List.mem_map.1 hu
        obtain ⟨z, hz⟩ := (hfe j (by have := List.mem_range.1 hj; omega)).2
        exact ⟨n, z, hz⟩)
      simp only [List.length_map, List.length_range] at l1 l2
      have hat : ∀ j, j < len → ((List.range len).map f)[j]? = some (f j) := fun j hj => by simp [hj]
      refine ⟨AEv.upd φ1 h1.N ⟨b, off, cap⟩, h1.more (.cells 1 len rs), .slice h1.N 0 len len, ls, rfl, lo_add o1 r1 _ _ ?_, s1.trans (lo_stp o1 _ _), e1.trans (more_ext h1 o1 _), ?_, .inr ⟨h1.N, len, rs, by rw [l2], more_at _ _, by omega, fun j r hr' => ?_⟩⟩
      · refine ⟨c, ty, fr, hb, hsize, by show rs.length ≤ cap; omega, fun j x hx => ?_⟩
        have hj : j < len := by have := (List.getElem?_eq_some_iff.1 hx).1; omega
        obtain ⟨q1, q2, _⟩ := q j (f j) x (hat j hj) hx
        exact ⟨f j, hcj j (by omega), VR.step (lo_stp o1 _ _) _ _ q1, q2⟩
      · simp only [VR]
        exact ⟨_, cap, 1, len, _, rfl, hl, more_at _ _, Nat.le_refl _, fun _ => ⟨by simp [AEv.upd], fun _ _ => by simp [AEv.upd]⟩⟩
      · have hj : j < len := by have := (List.getElem?_eq_some_iff.1 hr').1; omega
        obtain ⟨_, _, l, q3, q4⟩ := q j (f j) r (hat j hj) hr'
        exact ⟨l, q3, q4.ext (more_ext h1 o1 _)⟩
end Go.AEv
