/-
  Lists of lists: what list and table answer: copies. No condition.
-/
import Derived.Test.YtjeemgaoonapgaaRInts
set_option linter.unusedVariables false
set_option linter.unusedSimpArgs false
namespace Go.Proofs.Ytjeemgaoonapgaa.Ev
open Go Go.AEv

attribute [local simp] evFunc initS evOps_c evTrim_c evSkip_c evExit_c evRet_c evSeq_c evCond_c evBlock_c evDraw_c runOps_n runOps_c exec_n exec_g pure1_c act AOpd.ev T.get T.set T.put evBin evUn forceT_eq forceV_eq forceL_eq evRess evRes one keep runFP_n runFP_c app_none AV.flats AV.flat came_some List.getElem?_cons_zero List.getElem?_cons_succ beqT wrapI idxI tdivI tmodI decT decF ibT ibF inT inF evScope_c if_pos if_neg Cm_some thenW_n thenW_e thenW_r blkW_n blkW_e blkW_r goI kn putAt AV.cells fillA loadA takeA mk Eff.isAll Eff.isNone Eff.commutes Eff.spares okPair apart eqAgg fits LK.fits allEq aveq eqk mmA

/-! ### list -/
theorem c18_nil (J : CallF) (hJ : ∀ a h, J 18 a h = none) (h : Heap) {x : AV} (hx : x = .nils ∨ x = .slice0) : CallsTo tbl J 18 [x] h (.nils, [], false) := by
  refine Tr.fnv (cf := c18) (e := .ret) (s := T.set .leaf [] x) (by decide) rfl (hJ _ _) rfl rfl rfl (by simp) ?_
  refine Tr.post (Q := (fun s h => s.get [true] = .nils)) (fun s h q => by simp [c18, q]) ?_
  have t : Tr tbl J ((.seq c18_o0 (.seq c18_o1 (.seq c18_o2 .ret)))) (fun s h' => s = T.set .leaf [] x ∧ h' = frameOf h) .ret (fun s h => s.get [true] = .nils) := Tr.region fun s h hp => by
    obtain ⟨rfl, rfl⟩ := hp
    rcases hx with rfl | rfl <;> simp (disch := first | omega | exact getEq rfl | exact getO0 | exact Nat.le_of_ble_eq_true rfl) [c18_o0, c18_o1, c18_o2, size_mk, get_mk_lt, get_mk_ge, frameOf, Eff.app, Heap.setOwn, slSlA, bounds, elems, rdOf, appA]
  exact t
theorem c18_nil2 (J : CallF) (hJ : ∀ a h, J 18 a h = none) (h : Heap) {b v : Nat} (hb : h.get b = .cells 1 v []) : CallsTo tbl J 18 [.slice b 0 0 v] h (.nils, [], false) := by
  have hlt := get_lt hb (by simp)
  refine Tr.fnv (cf := c18) (e := .ret) (s := T.set .leaf [] (.slice b 0 0 v)) (by decide) rfl (hJ _ _) rfl rfl rfl (by simp) ?_
  refine Tr.post (Q := (fun s h => s.get [true] = .nils)) (fun s h q => by simp [c18, q]) ?_
  have t : Tr tbl J ((.seq c18_o0 (.seq c18_o1 (.seq c18_o2 .ret)))) (fun s h' => s = T.set .leaf [] (.slice b 0 0 v) ∧ h' = frameOf h) .ret (fun s h => s.get [true] = .nils) := Tr.region fun s h hp => by
    obtain ⟨rfl, rfl⟩ := hp
    simp (disch := first | omega | exact getEq rfl | exact getO0 | exact Nat.le_of_ble_eq_true rfl) [c18_o0, c18_o1, c18_o2, frameOf, size_mk, get_mk_lt, get_mk_ge, frameOf, Eff.app, Heap.setOwn, slSlA, bounds, elems, rdOf, appA, hb]
  exact t
theorem c18_ok (J : CallF) (hJ : ∀ a h, J 18 a h = none) (h : Heap) {b v : Nat} {A : List Int} (hb : h.get b = .cells 1 v (gs A)) (hA : A ≠ []) :
    CallsTo tbl J 18 [.slice b 0 A.length v] h (.slice h.size 0 (A.take 10).length (A.take 10).length, [.cells 1 (A.take 10).length (gs (A.take 10))], false) := by
  have hlt := get_lt hb (by simp)
  have hl : (A.take 10).length = min 10 A.length := List.length_take
  have hp : 0 < A.length := List.length_pos_iff.2 hA
  obtain ⟨m, hm⟩ : ∃ m, (A.take 10).length = m := ⟨_, rfl⟩
  rw [hm] at hl ⊢
  have e1 : (gs A).take m = gs (A.take 10) := by
    rw [← List.map_take]
    congr 1
    by_cases hA : A.length ≤ 10
    · rw [List.take_of_length_le (by omega), List.take_of_length_le hA]
    · rw [show m = 10 by omega]
  have e2 : (gs (A.take 10)).length = m := by simp; omega
  obtain ⟨L, hL⟩ : ∃ L, A.length = L := ⟨_, rfl⟩
  rw [hL] at hl hp ⊢
  have e3 : (if (10 : Int) < (L : Int) then (10 : Int) else (L : Int)) = m := by split <;> omega
  have e4 : ¬ (0 = L ∧ 0 < L) := by omega
  generalize gs (A.take 10) = cs at *
  generalize gs A = ca at *
  refine Tr.fnh (cf := c18) (e := .ret) (s := T.set .leaf [] (.slice b 0 L v)) (by decide) rfl (hJ _ _) rfl rfl rfl (by simp) ?_
  refine Tr.post (Q := (fun s h' => s.get [true] = .slice h.size 0 m m ∧ h' = ⟨h.get, h.size, [.cells 1 m cs]⟩)) (fun s h' q => by
    obtain ⟨q1, rfl⟩ := q
    simp [c18, q1]) ?_
  have t : Tr tbl J ((.seq c18_o0 (.seq c18_o1 (.seq c18_o2 .ret)))) (fun s h' => s = T.set .leaf [] (.slice b 0 L v) ∧ h' = frameOf h) .ret (fun s h' => s.get [true] = .slice h.size 0 m m ∧ h' = ⟨h.get, h.size, [.cells 1 m cs]⟩) := Tr.region fun s h hp => by
    obtain ⟨rfl, rfl⟩ := hp
    simp (disch := first | omega | exact getEq rfl | exact getO0 | exact Nat.le_of_ble_eq_true rfl) [c18_o0, c18_o1, c18_o2, frameOf, size_mk, get_mk_lt, get_mk_ge, frameOf, Eff.app, Heap.setOwn, slSlA, bounds, elems, rdOf, appA, hb, e1, e2, e3, e4]
  exact t

def spec18 : SpecF := fun args h => match args with
  | [.nils] => some (.nils, [], false)
  | [.slice0] => some (.nils, [], false)
  | [.slice b o len v] => match listOf h (.slice b o len v) with
    | some A => if A = [] then some (.nils, [], false) else some (.slice h.size 0 (A.take 10).length (A.take 10).length, [.cells 1 (A.take 10).length (gs (A.take 10))], false)
    | none => none
  | _ => none
theorem spec18_ok (J : CallF) (hJ : ∀ a h, J 18 a h = none) (args : List AV) (h : Heap) (x : AV × List AObj × Bool) (e : spec18 args h = some x) : CallsTo tbl J 18 args h x := by
  unfold spec18 at e
  split at e
  · simp only [Option.some.injEq] at e; subst e; exact c18_nil J hJ h (.inl rfl)
  · simp only [Option.some.injEq] at e; subst e; exact c18_nil J hJ h (.inr rfl)
  · split at e
    · rename_i hl
      split at e
      · rename_i hA
        subst hA
        simp only [Option.some.injEq] at e; subst e
        rcases listOf_some hl with ⟨h1, _⟩ | ⟨b', v', h1, g⟩
        · cases h1
        · cases h1; exact c18_nil2 J hJ h g
      · rename_i hA
        simp only [Option.some.injEq] at e; subst e
        rcases listOf_some hl with ⟨h1, _⟩ | ⟨b', v', h1, g⟩
        · cases h1
        · cases h1; exact c18_ok J hJ h g hA
    · cases e
  · cases e
/-- What list makes of a list: its value and its block. -/
def cpV (S : Nat) (A : List Int) : AV := if A = [] then .nils else .slice S 0 (A.take 10).length (A.take 10).length
def cpO (A : List Int) : List AObj := if A = [] then [] else [.cells 1 (A.take 10).length (gs (A.take 10))]
theorem s18e {h : Heap} {x : AV} {A : List Int} (hx : LR h x A) : spec18 [x] h = some (cpV h.size A, cpO A, false) := by
  rcases hx.cases with ⟨rfl, rfl⟩ | ⟨rfl, rfl⟩ | ⟨b, v, rfl, g⟩
  · rfl
  · rfl
  · have hl : listOf h (.slice b 0 A.length v) = some A := listOf_cells g rfl
    unfold cpV cpO
    by_cases hA : A = []
    · subst hA
      have hl' : listOf h (.slice b 0 0 v) = some [] := hl
      simp only [List.length_nil, spec18, hl', if_true]
    · simp only [spec18, hl, if_neg hA]
theorem cp_list (h : Heap) (A : List Int) : listOf (h.plus (cpO A)) (cpV h.size A) = some (A.take 10) := by
  unfold cpO cpV
  by_cases hA : A = []
  · subst hA; rfl
  · rw [if_neg hA, if_neg hA]; exact listOf_cells (plus_at0 _ _ _ _ rfl) rfl
def blk : AV → Option Nat
  | .slice b _ _ _ => some b
  | _ => none
theorem cp_blk {S : Nat} {A : List Int} {q : Nat} (e : blk (cpV S A) = some q) : q = S := by
  unfold cpV at e
  split at e
  · cases e
  · cases e; rfl
def R12 : CallF := addI (addI R11 24 spec24) 18 spec18
theorem s12 : Sound Go.Proofs.Try.prog R12 := Sound.add follows ok (Sound.add follows ok s11 (by decide) (fun args h x e => by
  unfold spec24 at e
  split at e
  · split at e
    · rename_i h1 h2
      split at e
      · rename_i hn
        simp only [Option.some.injEq] at e; subst e; exact c24_ok R11 (fun _ _ => rfl) h _ _ h1 h2 hn
      · cases e
    · cases e
  · cases e)) (by decide) (fun args h x e => spec18_ok _ (fun _ _ => rfl) args h x e)
abbrev K24 (J : CallF) : Prop := ∀ (h : Heap) (x y : AV) (a b : List Int), listOf h x = some a → listOf h y = some b → a.length ≤ 1000000 → J 24 [x, y] h = some (.bool (decide (a = b)), [], false)
theorem k24 : K24 R12 := fun h x y a b hx hy hn => by
  simp [R12, addI, spec24, hx, hy, hn]
abbrev K18 (J : CallF) : Prop := ∀ (h : Heap) (x : AV) (A : List Int), LR h x A → J 18 [x] h = some (cpV h.size A, cpO A, false)
theorem k18 : K18 R12 := fun h x A hx => by
  have : R12 18 [x] h = spec18 [x] h := by simp only [R12, addI, if_true]
  rw [this]; exact s18e hx

/-! ### Lists that grow -/
/-- x is a list of its own: nil, or all of a block. -/
def LV (h : Heap) (x : AV) (cs : List AV) : Prop := (x = .nils ∧ cs = []) ∨ ∃ b, x = .slice b 0 cs.length cs.length ∧ h.get b = .cells 1 cs.length cs ∧ h.N ≤ b
theorem LV.nil (h : Heap) : LV h .nils [] := .inl ⟨rfl, rfl⟩
theorem LV.kp {M : Nat → Prop} {h h' : Heap} {x : AV} {L : List AV} (l : LV h x L) (k : Kp M h h') (hm : ∀ b, blk x = some b → ¬ M b) : LV h' x L := by
  rcases l with l | ⟨b, rfl, g, n⟩
  · exact .inl l
  · exact .inr ⟨b, rfl, k.at g (by simp) (hm b rfl), by rw [k.N]; exact n⟩
theorem LV.lt {h : Heap} {x : AV} {L : List AV} (l : LV h x L) {b : Nat} (hb : blk x = some b) : b < h.size := by
  rcases l with ⟨rfl, rfl⟩ | ⟨b', rfl, g, n⟩
  · cases hb
  · cases hb; exact get_lt g (by simp)
theorem LV.sl {h : Heap} {x : AV} {L : List AV} (l : LV h x L) (hL : L ≠ []) : ∃ q, x = .slice q 0 L.length L.length ∧ h.get q = .cells 1 L.length L := by
  rcases l with ⟨rfl, rfl⟩ | ⟨b, rfl, g, n⟩
  · exact absurd rfl hL
  · exact ⟨b, rfl, g⟩
theorem ext_gen (h : Heap) (b v g : Nat) (cs vs : List AV) (h1 : h.N ≤ b) (hg : h.get b = .cells g v cs) (hl : cs.length = v) : Eff.app (.ext b v g vs) h = some (h.upd b (.cells g (v + vs.length) (cs ++ vs))) := by
  have h2 : ¬ b < h.N := by omega
  have e := get_own h1 hg (by simp)
  simp only [Eff.app, h2, if_false, e, hl, and_self, if_true, forceL_eq, setOwn_upd]
/-- One more. -/
theorem app_v (h : Heap) (h0 bytes : Nat) {x0 : AV} {L : List AV} (z : AV) (hx : LV h x0 L) (hn : (L.length + 1) * bytes ≤ 1099511627776) :
    ∃ x1 e h', appA h h0 none 1 bytes 1 [z] x0 = some (x1, e) ∧ Eff.app e h = some h' ∧ LV h' x1 (L ++ [z]) ∧ Kp (fun b => blk x0 = some b) h h' ∧ (blk x1 = blk x0 ∨ (x0 = .nils ∧ blk x1 = some h.size)) ∧ AV.cells x1 = some [x1] := by
  rcases hx with ⟨rfl, rfl⟩ | ⟨b, rfl, g, hN⟩
  · refine ⟨.slice h.size 0 1 1, .grow [.cells 1 1 [z]], h.plus [.cells 1 1 [z]], ?_, app_growP _ _, .inr ⟨h.size, rfl, plus_at0 _ _ _ _ rfl, by show h.N ≤ h.size; unfold Heap.size; omega⟩, Kp.plus _ _, .inr ⟨rfl, rfl⟩, rfl⟩
    have : 1 * bytes ≤ 1099511627776 := by simpa using hn
    simp only [appA, mk, if_neg (show ¬ (1 = 0) by decide), if_pos this, Nat.mul_one]
  · have hlt := get_lt g (by simp)
    refine ⟨.slice b 0 (L.length + 1) (L.length + 1), .ext b L.length 1 [z], h.upd b (.cells 1 (L.length + 1) (L ++ [z])), ?_, ?_, .inr ⟨b, ?_, ?_, by rw [upd_N]; exact hN⟩, Kp.upd _ _ _ hN rfl, .inl rfl, rfl⟩
    · simp only [appA, Nat.mul_one, Nat.one_mul]
      rw [if_neg (by decide), if_pos ⟨trivial, by simp, hn⟩]
    · exact ext_gen h b L.length 1 L [z] hN g rfl
    · simp
    · rw [upd_same _ _ _ hN hlt]; simp
theorem app_if (h : Heap) (own : List AObj) : Eff.app (if own.isEmpty = true then .none else .grow own) h = some (h.plus own) := by
  cases own with
  | nil => simp [Heap.plus, app_noneP]
  | cons a r => exact app_growP _ _
theorem app_if' (h : Heap) (own : List AObj) [Decidable (own = [])] : Eff.app (if own = [] then .none else .grow own) h = some (h.plus own) := by
  cases own with
  | nil => simp [Heap.plus, app_noneP]
  | cons a r => rw [if_neg (by simp)]; exact app_growP _ _

/-! ### Lists of lists -/
/-- How a slice of n looks. -/
def SL (y : AV) (n : Nat) : Prop := (y = .nils ∧ n = 0) ∨ (y = .slice0 ∧ n = 0) ∨ ∃ b v, y = .slice b 0 n v
theorem LR.sl {h : Heap} {x : AV} {l : List Int} (e : LR h x l) : SL x l.length := by
  rcases e.cases with ⟨rfl, rfl⟩ | ⟨rfl, rfl⟩ | ⟨b, v, rfl, g⟩
  · exact .inl ⟨rfl, rfl⟩
  · exact .inr (.inl ⟨rfl, rfl⟩)
  · exact .inr (.inr ⟨b, v, rfl⟩)
theorem LR.congr {h h' : Heap} (e : ∀ b, h.get b = h'.get b) {x : AV} {l : List Int} (q : LR h x l) : LR h' x l := by
  rcases q with q | q
  · exact .inl ((listOf_congr e x).symm.trans q)
  · exact .inr q
/-- What is told of a slice of slices: the rows. -/
def MR (h : Heap) (y : AV) (M : List (List Int)) : Prop := ((y = .nils ∨ y = .slice0) ∧ M = []) ∨ ∃ b v cs, y = .slice b 0 M.length v ∧ h.get b = .cells 1 v cs ∧ cs.length = M.length ∧ ∀ (i : Nat) r, cs[i]? = some r → ∃ l, M[i]? = some l ∧ LR h r l
theorem MR.sl {h : Heap} {y : AV} {M : List (List Int)} (m : MR h y M) : SL y M.length := by
  rcases m with ⟨rfl | rfl, rfl⟩ | ⟨b, v, cs, rfl, _⟩
  · exact .inl ⟨rfl, rfl⟩
  · exact .inr (.inl ⟨rfl, rfl⟩)
  · exact .inr (.inr ⟨b, v, rfl⟩)
theorem MR.kp {h h' : Heap} {y : AV} {M : List (List Int)} (m : MR h y M) (k : Kp (fun _ => False) h h') : MR h' y M := by
  rcases m with m | ⟨b, v, cs, rfl, g, hl, hr⟩
  · exact .inl m
  · refine .inr ⟨b, v, cs, rfl, k.at g (by simp) id, hl, fun i r e => ?_⟩
    obtain ⟨l, h1, h2⟩ := hr i r e
    exact ⟨l, h1, LR.kp k h2⟩
theorem MR.congr {h h' : Heap} (e : ∀ b, h.get b = h'.get b) {y : AV} {M : List (List Int)} (m : MR h y M) : MR h' y M := by
  rcases m with m | ⟨b, v, cs, rfl, g, hl, hr⟩
  · exact .inl m
  · refine .inr ⟨b, v, cs, rfl, (e b).symm.trans g, hl, fun i r q => ?_⟩
    obtain ⟨l, h1, h2⟩ := hr i r q
    exact ⟨l, h1, LR.congr e h2⟩
theorem LR.lt {h : Heap} {x : AV} {l : List Int} (e : LR h x l) {q : Nat} (hq : blk x = some q) : q < h.size := by
  rcases e.cases with ⟨rfl, rfl⟩ | ⟨rfl, rfl⟩ | ⟨b, v, rfl, g⟩
  · cases hq
  · cases hq
  · cases hq; exact get_lt g (by simp)
theorem MR.lo {h : Heap} {y : AV} {M : List (List Int)} (m : MR h y M) (own : List AObj) : MR ⟨h.get, h.size, own⟩ y M :=
  (m.kp (Kp.plus h own)).congr fun b => (fr_get h own b).symm
theorem MR.row {h : Heap} {y : AV} {M : List (List Int)} (m : MR h y M) {i : Nat} (hi : i < M.length) : ∃ b v cs r, y = .slice b 0 M.length v ∧ h.get b = .cells 1 v cs ∧ cs[i]? = some r ∧ LR h r (M.getD i []) := by
  rcases m with ⟨_, rfl⟩ | ⟨b, v, cs, rfl, g, hl, hr⟩
  · simp at hi
  · have e : cs[i]? = some cs[i] := List.getElem?_eq_getElem (by omega)
    obtain ⟨l, h1, h2⟩ := hr i _ e
    refine ⟨b, v, cs, _, rfl, g, e, ?_⟩
    rw [List.getD_eq_getElem?_getD, h1]; exact h2
theorem MR.inj {h : Heap} {y : AV} {M M' : List (List Int)} (m : MR h y M) (m' : MR h y M') : M = M' := by
  have hl : M.length = M'.length := by
    rcases m.sl with ⟨rfl, a⟩ | ⟨rfl, a⟩ | ⟨b, v, rfl⟩ <;> rcases m'.sl with ⟨h1, c⟩ | ⟨h1, c⟩ | ⟨b', v', h1⟩
    all_goals first | cases h1; done | omega | (simp only [AV.slice.injEq] at h1; omega)
  apply List.ext_getElem?
  intro i
  by_cases hi : i < M.length
  · obtain ⟨b, v, cs, r, rfl, g, e, q⟩ := m.row hi
    obtain ⟨b', v', cs', r', h1, g', e', q'⟩ := m'.row (by omega : i < M'.length)
    simp only [AV.slice.injEq] at h1
    obtain ⟨rfl, _, _, rfl⟩ := h1
    rw [g] at g'
    simp only [AObj.cells.injEq, true_and] at g'
    subst g'
    rw [e] at e'
    cases e'
    have := LR.inj q q'
    rw [List.getD_eq_getElem?_getD, List.getD_eq_getElem?_getD] at this
    rw [List.getElem?_eq_getElem hi, List.getElem?_eq_getElem (by omega : i < M'.length)] at this ⊢
    simpa using this
  · rw [List.getElem?_eq_none (by omega), List.getElem?_eq_none (by omega)]

/-- A list of lists that grows, all of it newer than H0. -/
structure TG (H0 h : Heap) (x : AV) (M : List (List Int)) : Prop where
  k : Kp (fun _ => False) H0 h
  x0 : ∀ q, blk x = some q → H0.size ≤ q
  r : ∃ cs, LV h x cs ∧ cs.length = M.length ∧ ∀ (i : Nat) r, cs[i]? = some r → ∃ l, M[i]? = some l ∧ listOf h r = some l ∧ ∀ q, blk r = some q → blk x ≠ some q ∧ H0.size ≤ q ∧ q < h.size
theorem TG.mr {H0 h : Heap} {x : AV} {M : List (List Int)} (t : TG H0 h x M) : MR h x M := by
  obtain ⟨cs, l, hl, hr⟩ := t.r
  rcases l with ⟨rfl, rfl⟩ | ⟨b, rfl, g, n⟩
  · exact .inl ⟨.inl rfl, List.length_eq_zero_iff.1 hl.symm⟩
  · refine .inr ⟨b, cs.length, cs, by rw [hl], g, hl, fun i r e => ?_⟩
    obtain ⟨l, h1, h2, _⟩ := hr i r e
    exact ⟨l, h1, .inl h2⟩
theorem TG.nil (H0 : Heap) : TG H0 H0 .nils [] := ⟨Kp.refl _, fun _ e => (by cases e), [], LV.nil _, rfl, fun i r e => by simp at e⟩
theorem listOf_kp {N : Nat → Prop} {h h' : Heap} (k : Kp N h h') {x : AV} {l : List Int} (e : listOf h x = some l) (hm : ∀ q, blk x = some q → ¬ N q) : listOf h' x = some l := by
  rcases listOf_some e with ⟨rfl, rfl⟩ | ⟨b, v, rfl, g⟩
  · rfl
  · exact listOf_cells (k.at g (by simp) (hm b rfl)) rfl
theorem listOf_lt {h : Heap} {x : AV} {l : List Int} (e : listOf h x = some l) {q : Nat} (hq : blk x = some q) : q < h.size := by
  rcases listOf_some e with ⟨rfl, rfl⟩ | ⟨b, v, rfl, g⟩
  · cases hq
  · cases hq; exact get_lt g (by simp)
theorem TG.kp {H0 h h' : Heap} {x : AV} {M : List (List Int)} (t : TG H0 h x M) (k : Kp (fun _ => False) h h') : TG H0 h' x M := by
  obtain ⟨cs, l, hl, hr⟩ := t.r
  refine ⟨t.k.trans k, t.x0, cs, l.kp k (fun _ _ => id), hl, fun i r e => ?_⟩
  obtain ⟨l, h1, h2, h3⟩ := hr i r e
  exact ⟨l, h1, listOf_kp k h2 (fun _ _ => id), fun q hq => ⟨(h3 q hq).1, (h3 q hq).2.1, Nat.lt_of_lt_of_le (h3 q hq).2.2 k.size⟩⟩
/-- One row more. -/
theorem TG.app {H0 h : Heap} (h0 : Nat) {x v : AV} {M : List (List Int)} {l : List Int} (t : TG H0 h x M) (hv : listOf h v = some l) (hb : ∀ q, blk v = some q → blk x ≠ some q ∧ H0.size ≤ q) (hn : M.length ≤ 1000000) :
    ∃ x1 e h2, appA (h.plus [.cells 1 1 [v]]) h0 none 1 24 1 [v] x = some (x1, e) ∧ Eff.app e (h.plus [.cells 1 1 [v]]) = some h2 ∧ TG H0 h2 x1 (M ++ [l]) ∧ AV.cells x1 = some [x1] := by
  obtain ⟨cs, lv, hl, hr⟩ := t.r
  have k1 : Kp (fun _ => False) h (h.plus [.cells 1 1 [v]]) := Kp.plus _ _
  obtain ⟨x1, e, h2, q1, q2, q3, q4, q5, q6⟩ := app_v (h.plus [.cells 1 1 [v]]) h0 24 v (lv.kp k1 (fun _ _ => id)) (by omega)
  have hsz : (h.plus [.cells 1 1 [v]]).size = h.size + 1 := by rw [plus_size]; rfl
  have hx1 : ∀ q, q < h.size → blk x ≠ some q → blk x1 ≠ some q := fun q hq hne hx1 => by
    rcases q5 with h' | ⟨_, h'⟩
    · rw [h'] at hx1; exact hne hx1
    · rw [h'] at hx1; cases hx1; omega
  have hsz2 := q4.size
  refine ⟨x1, e, h2, q1, q2, ⟨(t.k.trans k1).late q4 t.x0, fun q hq => ?_, cs ++ [v], q3, by simp [hl], fun i r hi => ?_⟩, q6⟩
  · rcases q5 with h' | ⟨_, h'⟩
    · rw [h'] at hq; exact t.x0 q hq
    · rw [h'] at hq; cases hq; have := t.k.size; omega
  · by_cases hi' : i < cs.length
    · rw [List.getElem?_append_left hi'] at hi
      obtain ⟨l', h1, h2', h3⟩ := hr i r hi
      refine ⟨l', by rw [List.getElem?_append_left (by omega)]; exact h1, listOf_kp q4 (listOf_kp k1 h2' (fun _ _ => id)) (fun q hq => (h3 q hq).1), fun q hq => ⟨hx1 q (h3 q hq).2.2 (h3 q hq).1, (h3 q hq).2.1, by have := (h3 q hq).2.2; omega⟩⟩
    · rw [List.getElem?_append_right (by omega)] at hi
      have hi0 : i - cs.length = 0 := by
        rcases Nat.eq_zero_or_pos (i - cs.length) with e | e
        · exact e
        · rw [List.getElem?_eq_none (by simp; omega)] at hi; cases hi
      rw [hi0] at hi
      simp only [List.getElem?_cons_zero, Option.some.injEq] at hi
      subst hi
      have hlt : ∀ q, blk v = some q → q < h.size := fun q hq => listOf_lt hv hq
      refine ⟨l, by rw [List.getElem?_append_right (by omega), ← hl, hi0]; rfl, listOf_kp q4 (listOf_kp k1 hv (fun _ _ => id)) (fun q hq => (hb q hq).1), fun q hq => ⟨hx1 q (hlt q hq) (hb q hq).1, (hb q hq).2, by have := hlt q hq; omega⟩⟩
theorem Kp.fr {h h' : Heap} (k : Kp (fun _ => False) (frameOf h) h') : h' = ⟨h.get, h.size, h'.own⟩ := Kp.own k
/-- Told in the caller's memory. -/
theorem TG.fr {h h' : Heap} {x : AV} {M : List (List Int)} (t : TG (frameOf h) h' x M) : TG h (h.plus h'.own) x M := by
  have e := Kp.own t.k
  obtain ⟨cs, l, hl, hr⟩ := t.r
  have hg : ∀ b, h'.get b = (h.plus h'.own).get b := fun b => by rw [e]; exact fr_get h _ b
  refine ⟨Kp.plus _ _, t.x0, cs, ?_, hl, fun i r hi => ?_⟩
  · rcases l with l | ⟨b, rfl, g, n⟩
    · exact .inl l
    · have hb : h.size ≤ b := t.x0 b rfl
      exact .inr ⟨b, rfl, (hg b).symm.trans g, by rw [plus_N]; unfold Heap.size at hb; omega⟩
  · obtain ⟨l, h1, h2, h3⟩ := hr i r hi
    refine ⟨l, h1, (listOf_congr hg r).symm.trans h2, fun q hq => ⟨(h3 q hq).1, (h3 q hq).2.1, ?_⟩⟩
    have := (h3 q hq).2.2
    rw [e] at this
    rw [plus_size]; exact this

/-! ### table -/
/-- What table makes of the rows. -/
def cutM (M : List (List Int)) : List (List Int) := (M.take 9).map (·.take 10)
section
variable {M : List (List Int)} {y : AV}
abbrev L17 : List Path := [[], [false, false], [true, false]]
theorem c17_o4_ok (J : CallF) (H : Heap) {x x1 : AV} {i n b v : Nat} {cs : List AV} {l : List Int} {e : Eff} {h2 : Heap} (k18 : K18 J) (g : H.get b = .cells 1 v cs) {r : AV} (er : cs[i]? = some r) (hr : LR H r l) (hi : i < n)
    (q1 : appA ((H.plus (cpO l)).plus [.cells 1 1 [cpV H.size l]]) H.size none 1 24 1 [cpV H.size l] x = some (x1, e)) (q2 : Eff.app e ((H.plus (cpO l)).plus [.cells 1 1 [cpV H.size l]]) = some h2) (q3 : AV.cells x1 = some [x1]) :
    Tr tbl J c17_o4 (fun s h => s.get [] = .slice b 0 n v ∧ s.get [false, false] = x ∧ s.get [true, false] = G i ∧ h = H) .normal (fun s h => s.get [] = .slice b 0 n v ∧ s.get [false, false] = x1 ∧ s.get [true, false] = G i ∧ h = h2) := by
  have k := k18 H r l hr
  have hw : cpV H.size l = .nils ∨ ∃ q m, cpV H.size l = .slice q 0 m m := by
    unfold cpV; split
    · exact .inl rfl
    · exact .inr ⟨_, _, rfl⟩
  have er' : ∀ h : i < cs.length, cs[i] = r := fun h => by rw [List.getElem?_eq_getElem h] at er; exact Option.some.inj er
  generalize cpV H.size l = w at *
  generalize cpO l = own at *
  have f1 : ((H.plus own).plus [.cells 1 1 [w]]).get (H.plus own).size = .cells 1 1 [w] := plus_at0 _ _ _ _ rfl
  have t : Tr tbl J (c17_o4) (fun s h => s.get [] = .slice b 0 n v ∧ s.get [false, false] = x ∧ s.get [true, false] = G i ∧ h = H) .normal (fun s h => s.get [] = .slice b 0 n v ∧ s.get [false, false] = x1 ∧ s.get [true, false] = G i ∧ h = h2) := Tr.region fun s h hp => by
    obtain ⟨g0, g1, g2, rfl⟩ := hp
    rcases hw with rfl | ⟨q, m, rfl⟩ <;> simp (disch := first | omega | exact getEq rfl | exact getO0 | exact Nat.le_of_ble_eq_true rfl) [c17_o4, app_growP, app_noneP, plus_N, plus_at0, put_plus0, put_plus1, upd_N, upd_size, g0, g1, g2, g, er, er', k, app_if, app_if', elems, rdOf, f1, q1, q2, q3]
  exact t
theorem c17_step (J : CallF) (k18 : K18 J) {H0 H : Heap} {x : AV} {i : Nat} (hy : MR H0 y M) (hi : i < M.length) (h9 : i ≤ 8) (t : TG H0 H x ((M.take i).map (·.take 10))) :
    Tr tbl J (.trim L17 c17_b0) (fun s h => s.get [] = y ∧ s.get [false, false] = x ∧ s.get [true, false] = G i ∧ h = H) .normal (fun s h => ∃ x1, s.get [] = y ∧ s.get [false, false] = x1 ∧ s.get [true, false] = G ((i + 1 : Nat) : Int) ∧ TG H0 h x1 ((M.take (i + 1)).map (·.take 10))) := by
  have hyH := hy.kp t.k
  obtain ⟨b, v, cs, r, rfl, g, er, hr⟩ := hyH.row hi
  obtain ⟨l, hl⟩ : ∃ l, M.getD i [] = l := ⟨_, rfl⟩
  rw [hl] at hr
  have hM : M.take (i + 1) = M.take i ++ [l] := by
    rw [List.take_add_one, ← hl, List.getD_eq_getElem?_getD, List.getElem?_eq_getElem hi]; rfl
  have ko : Kp (fun _ => False) H (H.plus (cpO l)) := Kp.plus _ _
  obtain ⟨x1, e, h2, q1, q2, q3, q4⟩ := (t.kp ko).app H.size (cp_list H l) (fun q hq => ⟨fun e => by
      obtain rfl := cp_blk hq
      obtain ⟨cs', lv, _⟩ := t.r
      have := lv.lt e; omega, by
      obtain rfl := cp_blk hq
      exact t.k.size⟩) (by simp; omega)
  have t4 := c17_o4_ok J H k18 g er hr hi q1 q2 q4
  have t3 : Tr tbl J ((.trim L17 (.seq c17_o3 (.cond (.s [true, false, true]) .skip (.exit 0))))) (fun s h => s.get [] = .slice b 0 M.length v ∧ s.get [false, false] = x ∧ s.get [true, false] = G i ∧ h = H) .normal (fun s h => s.get [] = .slice b 0 M.length v ∧ s.get [false, false] = x ∧ s.get [true, false] = G i ∧ h = H) := Tr.region fun s h hp => by
    obtain ⟨g0, g1, g2, rfl⟩ := hp
    simp (disch := first | omega | exact getEq rfl | exact getO0 | exact Nat.le_of_ble_eq_true rfl) [c17_o3, app_growP, app_noneP, plus_N, plus_at0, put_plus0, put_plus1, upd_N, upd_size, g0, g1, g2]
  have t5 : Tr tbl J (c17_o5) (fun s h => s.get [] = .slice b 0 M.length v ∧ s.get [false, false] = x1 ∧ s.get [true, false] = G i ∧ h = h2) .normal (fun s h => s.get [] = .slice b 0 M.length v ∧ s.get [false, false] = x1 ∧ s.get [true, false] = G ((i + 1 : Nat) : Int) ∧ h = h2) := Tr.region fun s h hp => by
    obtain ⟨g0, g1, g2, rfl⟩ := hp
    simp (disch := first | omega | exact getEq rfl | exact getO0 | exact Nat.le_of_ble_eq_true rfl) [c17_o5, app_growP, app_noneP, plus_N, plus_at0, put_plus0, put_plus1, upd_N, upd_size, g0, g1, g2]
  refine Tr.post (fun s h q => ?_) (Tr.trim_seq t3 (Tr.seq (Tr.block_out t4 (by simp)) t5))
  obtain ⟨a1, a2, a3, rfl⟩ := q
  refine ⟨x1, a1, a2, a3, ?_⟩
  rw [hM, List.map_append]
  exact q3
theorem Tr.fix {tbl : Nat → Option CFunc} {I : CallF} {c : CCode} {e : AExit} {P Q : SP} {F : Heap → Prop} {P' : Heap → SP} (k : ∀ H, F H → Tr tbl I c (P' H) e Q) (hP : ∀ s h, P s h → F h ∧ P' h s h) : Tr tbl I c P e Q :=
  fun s h hp => k h (hP s h hp).1 s h (hP s h hp).2
theorem Tr.exx {tbl : Nat → Option CFunc} {I : CallF} {c : CCode} {e : AExit} {α : Type} {P : α → SP} {Q : SP} (k : ∀ a, Tr tbl I c (P a) e Q) : Tr tbl I c (fun s h => ∃ a, P a s h) e Q :=
  fun s h ⟨a, hp⟩ => k a s h hp
theorem c17_ok (J : CallF) (k18 : K18 J) (hJ : ∀ a h, J 17 a h = none) (h : Heap) (hy : MR h y M) : ∃ v own, CallsTo tbl J 17 [y] h (v, own, false) ∧ TG h (h.plus own) v (cutM M) := by
  refine Tr.fny (cf := c17) (e := .ret) (s := T.set .leaf [] y) (by decide) rfl (hJ _ _) rfl rfl (by simp) ?_
  have hy0 : MR (frameOf h) y M := hy.lo []
  have hs := hy.sl
  have t0 : Tr tbl J ((.seq c17_o0 c17_o1)) (fun s h' => s = T.set .leaf [] y ∧ h' = frameOf h) .normal (fun s h' => s.get [] = y ∧ s.get [false, false] = .nils ∧ h' = frameOf h) := Tr.region fun s h hp => by
    obtain ⟨rfl, rfl⟩ := hp
    simp (disch := first | omega | exact getEq rfl | exact getO0 | exact Nat.le_of_ble_eq_true rfl) [c17_o0, c17_o1, app_growP, app_noneP, plus_N, plus_at0, put_plus0, put_plus1, upd_N, upd_size]
  have t00 : Tr tbl J (c17_o2) (fun s h' => s.get [] = y ∧ s.get [false, false] = .nils ∧ h' = frameOf h) .normal (fun s h' => s.get [] = y ∧ s.get [false, false] = .nils ∧ s.get [true, false] = G ((0 : Nat) : Int) ∧ h' = frameOf h) := Tr.region fun s h hp => by
    obtain ⟨g0, g1, rfl⟩ := hp
    simp (disch := first | omega | exact getEq rfl | exact getO0 | exact Nat.le_of_ble_eq_true rfl) [c17_o2, app_growP, app_noneP, plus_N, plus_at0, put_plus0, put_plus1, upd_N, upd_size, g0, g1]
  obtain ⟨N, hN⟩ : ∃ N, min M.length 9 = N := ⟨_, rfl⟩
  have hcut : (M.take N).map (·.take 10) = cutM M := by
    unfold cutM
    rw [← hN]
    by_cases c : M.length ≤ 9
    · rw [Nat.min_eq_left c, List.take_of_length_le (by omega), List.take_of_length_le (by omega)]
    · rw [Nat.min_eq_right (by omega)]
  have tl := Tr.rounds (P := fun i s h' => ∃ x, s.get [] = y ∧ s.get [false, false] = x ∧ s.get [true, false] = G (i : Nat) ∧ TG (frameOf h) h' x ((M.take i).map (·.take 10))) (M := N) (tbl := tbl) (I := J) (live := L17) (c := c17_b0) (e := .exit 0)
    (Q := fun s h' => ∃ x, s.get [false, false] = x ∧ TG (frameOf h) h' x (cutM M))
    (fun i hi => Tr.exx fun x => Tr.fix (F := fun H => TG (frameOf h) H x ((M.take i).map (·.take 10))) (P' := fun H s h' => s.get [] = y ∧ s.get [false, false] = x ∧ s.get [true, false] = G (i : Nat) ∧ h' = H)
      (fun H tg => c17_step J k18 hy0 (by omega) (by omega) tg) (fun s h' q => ⟨q.2.2.2, q.1, q.2.1, q.2.2.1, rfl⟩))
    (Tr.exx fun x => Tr.fix (F := fun H => TG (frameOf h) H x ((M.take N).map (·.take 10))) (P' := fun H s h' => s.get [] = y ∧ s.get [false, false] = x ∧ s.get [true, false] = G (N : Nat) ∧ h' = H)
      (fun H tg => by
        rw [hcut] at tg
        have t : Tr tbl J ((.trim L17 c17_b0)) (fun s h' => s.get [] = y ∧ s.get [false, false] = x ∧ s.get [true, false] = G (N : Nat) ∧ h' = H) (.exit 0) (fun s h' => s.get [false, false] = x ∧ h' = H) := Tr.region fun s h hp => by
          obtain ⟨g0, g1, g2, rfl⟩ := hp
          obtain ⟨n, hn⟩ : ∃ n, M.length = n := ⟨_, rfl⟩
          rw [hn] at hs hN
          by_cases c : n ≤ 8
          · have hNn : N = n := by omega
            subst hNn
            rcases hs with ⟨rfl, rfl⟩ | ⟨rfl, rfl⟩ | ⟨b, v, rfl⟩ <;> simp (disch := first | omega | exact getEq rfl | exact getO0 | exact Nat.le_of_ble_eq_true rfl) [c17_b0, c17_o3, app_growP, app_noneP, plus_N, plus_at0, put_plus0, put_plus1, upd_N, upd_size, g0, g1, g2]
          · have hNn : N = 9 := by omega
            subst hNn
            by_cases c2 : n = 9
            · subst c2; rcases hs with ⟨rfl, h'⟩ | ⟨rfl, h'⟩ | ⟨b, v, rfl⟩ <;> first | omega | simp (disch := first | omega | exact getEq rfl | exact getO0 | exact Nat.le_of_ble_eq_true rfl) [c17_b0, c17_o3, app_growP, app_noneP, plus_N, plus_at0, put_plus0, put_plus1, upd_N, upd_size, g0, g1, g2]
            · rcases hs with ⟨rfl, h'⟩ | ⟨rfl, h'⟩ | ⟨b, v, rfl⟩ <;> first | omega | simp (disch := first | omega | exact getEq rfl | exact getO0 | exact Nat.le_of_ble_eq_true rfl) [c17_b0, c17_o3, app_growP, app_noneP, plus_N, plus_at0, put_plus0, put_plus1, upd_N, upd_size, g0, g1, g2]
        exact Tr.post (fun s h' q => ⟨x, q.1, by rw [q.2]; exact tg⟩) t) (fun s h' q => ⟨q.2.2.2, q.1, q.2.1, q.2.2.1, rfl⟩))
    (by simp) 0 (by omega)
  refine Tr.post ?_ (Tr.app2 t0 (Tr.seq (Tr.seq t00 (Tr.block (Tr.pre ?_ tl))) (Tr.exx fun x => Tr.fix (F := fun H => TG (frameOf h) H x (cutM M)) (P' := fun H s h' => s.get [false, false] = x ∧ h' = H) (Q := fun s h' => TG (frameOf h) h' (s.get [true]) (cutM M)) (fun H tg => ?_) (fun s h' q => ⟨q.2, q.1, rfl⟩))))
  · intro s h' q
    refine ⟨[s.get [true]], by simp [c17], ?_⟩
    show TG h _ (s.get [true]) _
    split
    · rename_i hf
      obtain ⟨cs, lv, hl, _⟩ := q.r
      rcases lv with ⟨e1, rfl⟩ | ⟨b, e1, _, _⟩
      · rw [e1, List.length_eq_zero_iff.1 hl.symm]
        have : h.plus [] = h := by simp [Heap.plus]
        rw [this]; exact TG.nil h
      · rw [e1] at hf; simp [one, AV.flat, AV.flats] at hf
    · exact q.fr
  · intro s h' q
    exact ⟨.nils, q.1, q.2.1, q.2.2.1, by rw [q.2.2.2]; exact TG.nil _⟩
  ·
    have t : Tr tbl J ((.seq c17_o6 .ret)) (fun s h' => s.get [false, false] = x ∧ h' = H) .ret (fun s h' => s.get [true] = x ∧ h' = H) := Tr.region fun s h hp => by
      obtain ⟨g0, rfl⟩ := hp
      simp (disch := first | omega | exact getEq rfl | exact getO0 | exact Nat.le_of_ble_eq_true rfl) [c17_o6, app_growP, app_noneP, plus_N, plus_at0, put_plus0, put_plus1, upd_N, upd_size, g0]
    exact Tr.post (fun s h' q => by rw [q.1, q.2]; exact tg) t
end
def Good17 (args : List AV) (h : Heap) (v : AV) (own : List AObj) : Prop := ∀ y M, args = [y] → MR h y M → TG h (h.plus own) v (cutM M)
noncomputable def R13 : CallF := addX tbl R12 17 Good17
theorem s13 : Sound Go.Proofs.Try.prog R13 := Sound.addX follows ok s12 (by decide) Good17
abbrev K17 (J : CallF) : Prop := ∀ (h : Heap) (y : AV) (M : List (List Int)), MR h y M → ∃ v own, J 17 [y] h = some (v, own, false) ∧ TG h (h.plus own) v (cutM M)
theorem k17 : K17 R13 := fun h y M hy => by
  obtain ⟨v, own, e, q⟩ := c17_ok R12 k18 (fun _ _ => rfl) h hy
  obtain ⟨v', own', e', g⟩ := addX_some (tbl := tbl) (I := R12) (f := 17) (Good := Good17) (args := [y]) (h := h) ⟨v, own, e, fun y' M' hargs h1 => by
    simp only [List.cons.injEq, and_true] at hargs
    subst hargs
    rw [← hy.inj h1]; exact q⟩
  exact ⟨v', own', e', g y M rfl hy⟩

end Go.Proofs.Ytjeemgaoonapgaa.Ev
