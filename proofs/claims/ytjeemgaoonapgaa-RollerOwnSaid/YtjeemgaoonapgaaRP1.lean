/-
  Of the functions that this law reaches, part 1: what they answer. No condition.
-/
import Derived.Test.YtjeemgaoonapgaaRP0
set_option linter.unusedVariables false
set_option linter.unusedSimpArgs false
namespace Go.Proofs.Ytjeemgaoonapgaa.Ev
open Go Go.AEv
def Wk (M : List (List Int)) : Nat → Nat → Nat → Prop
  | 0, i, j => i = j
  | k + 1, i, j => ∃ v, 0 < ent M i v ∧ Wk M k v j
section
variable {M : List (List Int)}
theorem ent_lt (hm : isMat M = true) {i j : Nat} (h : 0 < ent M i j) : i < M.length ∧ j < M.length := by
  refine ⟨?_, ?_⟩ <;> apply Nat.lt_of_not_le <;> intro c
  · rw [ent_out hm (.inl c)] at h; omega
  · rw [ent_out hm (.inr c)] at h; omega
theorem Wk.add : ∀ {a b i v j : Nat}, Wk M a i v → Wk M b v j → Wk M (a + b) i j
  | 0, b, i, v, j, x, y => by
    have e : i = v := x
    subst e
    rw [Nat.zero_add]; exact y
  | a + 1, b, i, v, j, ⟨u, e, x⟩, y => by
    rw [show a + 1 + b = (a + b) + 1 by omega]
    exact ⟨u, e, Wk.add x y⟩
theorem Wk.split : ∀ (a : Nat) {b i j : Nat}, Wk M (a + b) i j → ∃ v, Wk M a i v ∧ Wk M b v j
  | 0, b, i, j, x => ⟨i, rfl, by rwa [Nat.zero_add] at x⟩
  | a + 1, b, i, j, x => by
    rw [show a + 1 + b = (a + b) + 1 by omega] at x
    obtain ⟨u, e, x⟩ := x
    obtain ⟨v, y, z⟩ := Wk.split a x
    exact ⟨v, ⟨u, e, y⟩, z⟩
theorem Wk.one {i j : Nat} (h : 0 < ent M i j) : Wk M 1 i j := ⟨j, h, rfl⟩
theorem Wk.one_iff {i j : Nat} : Wk M 1 i j ↔ 0 < ent M i j := ⟨fun ⟨v, e, x⟩ => by
  have : v = j := x
  subst this; exact e, Wk.one⟩
theorem Wk.snoc {k i j : Nat} : Wk M (k + 1) i j ↔ ∃ v, Wk M k i v ∧ 0 < ent M v j := by
  constructor
  · intro x
    obtain ⟨v, a, b⟩ := Wk.split k x
    exact ⟨v, a, Wk.one_iff.1 b⟩
  · rintro ⟨v, a, b⟩
    exact a.add (Wk.one b)
theorem Wk.lt (hm : isMat M = true) {k i j : Nat} (x : Wk M (k + 1) i j) : i < M.length ∧ j < M.length := by
  obtain ⟨v, e, _⟩ := id x
  obtain ⟨w, _, e'⟩ := Wk.snoc.1 x
  exact ⟨(ent_lt hm e).1, (ent_lt hm e').2⟩
theorem Wk.lt' (hm : isMat M = true) {k i j : Nat} (x : Wk M k i j) (hi : i < M.length) : j < M.length := by
  cases k with
  | zero => have : i = j := x
            omega
  | succ k => exact (x.lt hm).2
def fullB (M : List (List Int)) (k : Nat) : Bool := (List.range M.length).all fun i => (List.range M.length).all fun j => cw M j k i
def Rc (M : List (List Int)) (i j : Nat) : Prop := ∃ k, Wk M k i j
theorem Rc.refl (i : Nat) : Rc M i i := ⟨0, rfl⟩
theorem Rc.trans {i j k : Nat} (a : Rc M i j) (b : Rc M j k) : Rc M i k := by
  obtain ⟨x, a⟩ := a
  obtain ⟨y, b⟩ := b
  exact ⟨x + y, a.add b⟩
theorem Rc.one {i j : Nat} (h : 0 < ent M i j) : Rc M i j := ⟨1, Wk.one h⟩
theorem Rc.lt (hm : isMat M = true) {i j : Nat} (a : Rc M i j) (hi : i < M.length) : j < M.length := by
  obtain ⟨k, a⟩ := a; exact a.lt' hm hi
theorem wsh_rc (hm : isMat M = true) : ∀ {k x : Nat}, wsh M k x = true → Rc M (x / 8) (x % 8)
  | 0, x, h => by
    have h' : (stF M x || decide (x / 8 = x % 8 ∧ x / 8 < M.length)) = true := h
    rw [Bool.or_eq_true, decide_eq_true_eq] at h'
    rcases h' with h' | h'
    · unfold stF at h'
      exact Rc.one (by simpa using h')
    · rw [h'.1]; exact Rc.refl _
  | k + 1, x, h => by
    have h' : (wsh M k x || (wsh M k (x / 8 * 8 + k) && wsh M k (k * 8 + x % 8))) = true := h
    rw [Bool.or_eq_true, Bool.and_eq_true] at h'
    rcases h' with h' | ⟨a, b⟩
    · exact wsh_rc hm h'
    · have hk : k < 8 := by
        have h8 := isMat_n hm
        apply Nat.lt_of_not_le
        intro c
        rw [wsh_out hm (.inl (by omega))] at b; cases b
      have a' := wsh_rc hm a
      have b' := wsh_rc hm b
      rw [show (x / 8 * 8 + k) / 8 = x / 8 by omega, show (x / 8 * 8 + k) % 8 = k by omega] at a'
      rw [show (k * 8 + x % 8) / 8 = k by omega, show (k * 8 + x % 8) % 8 = x % 8 by omega] at b'
      exact a'.trans b'
theorem wsh_mono {k x : Nat} (h : wsh M k x = true) : wsh M (k + 1) x = true := by
  show (wsh M k x || _) = true
  rw [h, Bool.true_or]
theorem wsh_s {k i j : Nat} (hj : j < 8) : wsh M (k + 1) (i * 8 + j) = (wsh M k (i * 8 + j) || (wsh M k (i * 8 + k) && wsh M k (k * 8 + j))) := by
  show (wsh M k (i * 8 + j) || (wsh M k ((i * 8 + j) / 8 * 8 + k) && wsh M k (k * 8 + (i * 8 + j) % 8))) = _
  rw [show (i * 8 + j) / 8 = i by omega, show (i * 8 + j) % 8 = j by omega]
theorem wsh_join (hm : isMat M = true) : ∀ {k i v j : Nat}, k ≤ 8 → v < k → v < 8 → j < 8 → wsh M k (i * 8 + v) = true → wsh M k (v * 8 + j) = true → wsh M k (i * 8 + j) = true
  | 0, i, v, j, _, hv, _, _, _, _ => by omega
  | k + 1, i, v, j, hk8, hv, h8, hj, a, b => by
    rw [wsh_s h8] at a
    rw [wsh_s hj] at b ⊢
    simp only [Bool.or_eq_true, Bool.and_eq_true] at a b ⊢
    by_cases hvk : v = k
    · subst hvk
      have a1 : wsh M v (i * 8 + v) = true := by rcases a with a | a; exact a; exact a.1
      have b1 : wsh M v (v * 8 + j) = true := by rcases b with b | b; exact b; exact b.2
      exact .inr ⟨a1, b1⟩
    · have hlt : v < k := by omega
      have ih := fun {i j : Nat} => wsh_join hm (k := k) (i := i) (v := v) (j := j) (by omega) hlt h8
      have ik : ∀ {i}, wsh M k (i * 8 + v) = true → wsh M k (v * 8 + k) = true → wsh M k (i * 8 + k) = true := fun {i} x y => ih (by omega) x y
      rcases a with a | a <;> rcases b with b | b
      · exact .inl (ih hj a b)
      · exact .inr ⟨ik a b.1, b.2⟩
      · exact .inr ⟨a.1, ih hj a.2 b⟩
      · exact .inr ⟨a.1, b.2⟩
theorem ldF_iff (hm : isMat M = true) {i j : Nat} (hi : i < M.length) (hj : j < M.length) : ldF M (i * 8 + j) = true ↔ Rc M i j := by
  have h8 := isMat_n hm
  constructor
  · intro h
    have := wsh_rc hm h
    rwa [show (i * 8 + j) / 8 = i by omega, show (i * 8 + j) % 8 = j by omega] at this
  · rintro ⟨k, w⟩
    have base : ∀ {m x}, wsh M 0 x = true → wsh M m x = true := fun {m x} h => by
      induction m with
      | zero => exact h
      | succ m ih => exact wsh_mono ih
    induction k generalizing i with
    | zero =>
      have e : i = j := w
      subst e
      refine base (m := M.length) ?_
      show (stF M (i * 8 + i) || decide ((i * 8 + i) / 8 = (i * 8 + i) % 8 ∧ (i * 8 + i) / 8 < M.length)) = true
      rw [decide_eq_true (by omega), Bool.or_true]
    | succ k ih =>
      obtain ⟨v, e, w⟩ := w
      have hv := (ent_lt hm e).2
      refine wsh_join hm h8.2 hv (by omega) (by omega) (base (m := M.length) ?_) (ih hv w)
      show (stF M (i * 8 + v) || _) = true
      unfold stF
      rw [show (i * 8 + v) / 8 = i by omega, show (i * 8 + v) % 8 = v by omega, decide_eq_true e, Bool.true_or]
def Mu (M : List (List Int)) (i j : Nat) : Prop := Rc M i j ∧ Rc M j i
theorem Mu.symm {i j : Nat} (h : Mu M i j) : Mu M j i := ⟨h.2, h.1⟩
theorem Mu.refl (i : Nat) : Mu M i i := ⟨Rc.refl i, Rc.refl i⟩
theorem Mu.trans {i j k : Nat} (h : Mu M i j) (g : Mu M j k) : Mu M i k := ⟨h.1.trans g.1, g.2.trans h.2⟩
theorem lsm_min (hm : isMat M = true) {i : Nat} (hi : i < M.length) : ∀ m, m ≤ i → Mu M i (lsm (ldF M) i m) ∧ ∀ j, j < m → Mu M i j → lsm (ldF M) i m ≤ j
  | 0, _ => ⟨Mu.refl i, fun j hj => absurd hj (by omega)⟩
  | m + 1, h => by
    obtain ⟨a, b⟩ := lsm_min hm hi m (by omega)
    have e : lsm (ldF M) i (m + 1) = if ldF M (i * 8 + m) && ldF M (m * 8 + i) then min (lsm (ldF M) i m) m else lsm (ldF M) i m := rfl
    rw [e]
    by_cases c : (ldF M (i * 8 + m) && ldF M (m * 8 + i)) = true
    · rw [if_pos c]
      rw [Bool.and_eq_true, ldF_iff hm hi (by omega), ldF_iff hm (by omega) hi] at c
      refine ⟨?_, fun j hj q => ?_⟩
      · by_cases c2 : lsm (ldF M) i m ≤ m
        · rw [Nat.min_eq_left c2]; exact a
        · rw [Nat.min_eq_right (by omega)]; exact c
      · by_cases c2 : j = m
        · omega
        · have := b j (by omega) q; omega
    · rw [if_neg c]
      rw [Bool.and_eq_true, ldF_iff hm hi (by omega), ldF_iff hm (by omega) hi] at c
      refine ⟨a, fun j hj q => ?_⟩
      by_cases c2 : j = m
      · subst c2; exact absurd q c
      · exact b j (by omega) q
theorem clN_ok (hm : isMat M = true) {i : Nat} (hi : i < M.length) : clN M i ≤ i ∧ Mu M i (clN M i) ∧ ∀ j, Mu M i j → clN M i ≤ j := by
  obtain ⟨a, b⟩ := lsm_min hm hi i (Nat.le_refl _)
  refine ⟨lsm_le _ _ _, a, fun j q => ?_⟩
  by_cases c : j < i
  · exact b j c q
  · have := lsm_le (ldF M) i i
    show lsm (ldF M) i i ≤ j
    omega
theorem clN_eq (hm : isMat M = true) {i j : Nat} (hi : i < M.length) (hj : j < M.length) : clN M i = clN M j ↔ Mu M i j := by
  obtain ⟨a1, a2, a3⟩ := clN_ok hm hi
  obtain ⟨b1, b2, b3⟩ := clN_ok hm hj
  constructor
  · intro e
    rw [e] at a2
    exact a2.trans b2.symm
  · intro m
    have := a3 _ (m.trans b2)
    have := b3 _ (m.symm.trans a2)
    omega
end
end Go.Proofs.Ytjeemgaoonapgaa.Ev
set_option linter.unusedVariables false
set_option linter.unusedSimpArgs false
namespace Go.Proofs.Ytjeemgaoonapgaa.Ev
open Go Go.AEv
attribute [local simp] evFunc initS evOps_c evTrim_c evSkip_c evExit_c evRet_c evSeq_c evCond_c evBlock_c evDraw_c runOps_n runOps_c exec_n exec_g pure1_c act AOpd.ev T.get T.set T.put evBin evUn forceT_eq forceV_eq forceL_eq evRess evRes one keep runFP_n runFP_c app_none AV.flats AV.flat came_some List.getElem?_cons_zero List.getElem?_cons_succ beqT wrapI idxI tdivI tmodI decT decF ibT ibF inT inF evScope_c if_pos if_neg Cm_some thenW_n thenW_e thenW_r blkW_n blkW_e blkW_r goI kn putAt AV.cells fillA loadA takeA mk Eff.isAll Eff.isNone Eff.commutes Eff.spares okPair apart eqAgg fits LK.fits allEq aveq eqk mmA
section
variable {M : List (List Int)}
def exM (n : Nat) : Nat := (n - 1) * (n - 1) + 1
def exN (M : List (List Int)) : Nat := fva (fullB M) (exM M.length) 1
def exB (M : List (List Int)) : Bool := decide (exN M ≤ exM M.length)
end
section
variable {M : List (List Int)}
end
structure AM where
  M : List (List Int)
  y : AV
def PreM (a : AM) (args : List AV) (h : Heap) : Prop := MR h a.y a.M ∧ args = [a.y]
def Post34 (a : AM) (h : Heap) (v : AV) (own : List AObj) : Prop := v = (if isMat a.M then (if exB a.M then .tup [G (exN a.M), G 0] else .tup [G 0, G 6]) else .tup [G 0, G 2]) ∧ own = []
noncomputable def T10 : CallF := addK tbl T9 34 PreM Post34
theorem t10 : Sound Go.Proofs.Try.prog T10 := Sound.addK follows ok t9 (by decide) _ _
def PreO (a : AM) (args : List AV) (h : Heap) : Prop := (MR h a.y a.M ∧ isMat a.M = true) ∧ args = [a.y]
def Post44 (a : AM) (h : Heap) (v : AV) (own : List AObj) : Prop := v = (if exB a.M then .tup [G (exN a.M), .bool true] else .tup [G 0, .bool false]) ∧ own = []
noncomputable def T11 : CallF := addK tbl T10 44 PreO Post44
theorem t11 : Sound Go.Proofs.Try.prog T11 := Sound.addK follows ok t10 (by decide) _ _
theorem sq_get (f : Nat → Int) {i : Nat} (hi : i < 64) {x : Int} (e : f i = x) : (sq f)[i]? = some (G x) := by rw [sq_at f hi, e]
def onF (i x : Nat) : Int := if x / 8 = x % 8 ∧ x / 8 < i then 1 else 0
theorem onF_0 : onF 0 = fun _ => 0 := by
  funext x; unfold onF; rw [if_neg (by omega)]
theorem onF_set {i : Nat} (hi : i < 8) : (sq (onF i)).set (i * 8 + i) (G 1) = sq (onF (i + 1)) := by
  rw [sq_set _ _ _ (by omega)]
  apply sq_ext
  intro x hx
  unfold onF
  by_cases e : x = i * 8 + i
  · rw [if_pos e, if_pos (by omega)]
  · rw [if_neg e]
    by_cases c : x / 8 = x % 8 ∧ x / 8 < i
    · rw [if_pos c, if_pos (by omega)]
    · rw [if_neg c, if_neg (by omega)]
section
variable {M : List (List Int)}
def HO (h : Heap) (M : List (List Int)) (f : Nat → Int) : Heap := ⟨h.get, h.size, [.cells 0 65 (matC M), .cells 0 64 (sq fun _ => 0), .cells 0 64 (sq f)]⟩
theorem c72_in (J : CallF) (h : Heap) {n : Nat} (h8 : n ≤ 8) : Tr tbl J c72_l0 (fun s h' => h' = HO h M (onF 0) ∧ s.get [true] = .ptr (h.size + 1) 0 64 ∧ s.get [false, false] = .ptr (h.size + 2) 0 64 ∧ s.get [true, true] = G n ∧ s.get [false, false, false] = G ((0 : Nat) : Int)) (.exit 0) (fun s h' => h' = HO h M (onF n) ∧ s.get [true] = .ptr (h.size + 1) 0 64 ∧ s.get [false, false] = .ptr (h.size + 2) 0 64) := by
  refine Tr.rounds (P := fun i => (fun s h' => h' = HO h M (onF i) ∧ s.get [true] = .ptr (h.size + 1) 0 64 ∧ s.get [false, false] = .ptr (h.size + 2) 0 64 ∧ s.get [true, true] = G n ∧ s.get [false, false, false] = G i)) (M := n) (fun i hi => ?_) ?_ (by simp) 0 (by omega)
  · refine Tr.w fun s1 H1 hp R kR => W.trim ?_
    obtain ⟨rfl, q⟩ := hp
    have es := onF_set (i := i) (by omega)
    have l0 := sq_len (onF i)
    simp only [HO] at kR ⊢
    generalize sq (onF (i + 1)) = c1 at *
    generalize sq (onF i) = c0 at *
    generalize matC M = cm at *
    refine W.seq (W.chunk ?_)
    simp (disch := first|omega|exact zE rfl|exact zO|exact zL rfl) [c72_o3, size_mk, get_mk_lt, get_mk_ge, frameOf, Eff.app, Heap.setOwn, q]
    refine W.seq (W.chunk ?_)
    simp (disch := first|omega|exact zE rfl|exact zO|exact zL rfl) [size_mk, get_mk_lt, get_mk_ge, frameOf, Eff.app, Heap.setOwn, q]
    refine W.seq (W.block ?_)
    refine W.seq (W.chunk ?_)
    simp (disch := first|omega|exact zE rfl|exact zO|exact zL rfl) [c72_o4, size_mk, get_mk_lt, get_mk_ge, frameOf, Eff.app, Heap.setOwn, q]
    refine W.chunk ?_
    simp (disch := first|omega|exact zE rfl|exact zO|exact zL rfl) [c72_o5, size_mk, get_mk_lt, get_mk_ge, frameOf, Eff.app, Heap.setOwn, q, l0, es]
    refine W.chunk ?_
    simp (disch := first|omega|exact zE rfl|exact zO|exact zL rfl) [c72_o6, size_mk, get_mk_lt, get_mk_ge, frameOf, Eff.app, Heap.setOwn, q]
    exact kR _ _ (by simp [T.get, q])
  · refine Tr.w fun s1 H1 hp R kR => W.trim ?_
    obtain ⟨rfl, q⟩ := hp
    refine W.seq (W.chunk ?_)
    simp (disch := first|omega|exact zE rfl|exact zO|exact zL rfl) [c72_o3, size_mk, get_mk_lt, get_mk_ge, frameOf, Eff.app, Heap.setOwn, q]
    refine W.seq (W.chunk ?_)
    simp (disch := first|omega|exact zE rfl|exact zO|exact zL rfl) [size_mk, get_mk_lt, get_mk_ge, frameOf, Eff.app, Heap.setOwn, q]
    exact kR _ _ (by simp [T.get, q])
theorem c72_ok (J : CallF) (hJ : ∀ a h, J 72 a h = none) (h : Heap) (hm : isMat M = true) : CallsTo tbl J 72 [.agg (matC M)] h (.agg (sq (onF M.length)), [], false) := by
  refine Tr.fnv (cf := c72) (e := .ret) (s := T.set .leaf [] (.agg (matC M))) (by decide) rfl (hJ _ _) rfl rfl (sq_flat _) (by simp) ?_
  have h8 := isMat_n hm
  have lo := c72_in (M := M) J h h8.2
  have rp := sq_rep
  have l1 := matC_len M
  have lz := sq_len fun _ => 0
  have e0 : (matC M)[0]? = some (G M.length) := rfl
  have e0' := getI e0
  refine Tr.w fun s1 H1 hp R kR => ?_
  obtain ⟨rfl, rfl⟩ := hp
  have q : True := trivial
  refine W.seq (W.chunk ?_)
  simp (disch := first|omega|exact zE rfl|exact zO|exact zL rfl) [-List.reduceReplicate, c72_o0, size_mk, get_mk_lt, get_mk_ge, frameOf, Eff.app, Heap.setOwn, q, l1, rp, frameOf]
  refine W.seq (W.chunk ?_)
  simp (disch := first|omega|exact zE rfl|exact zO|exact zL rfl) [-List.reduceReplicate, c72_o1, size_mk, get_mk_lt, get_mk_ge, frameOf, Eff.app, Heap.setOwn, q, rp]
  refine W.assoc ?_
  refine W.seq (W.chunk ?_)
  simp (disch := first|omega|exact zE rfl|exact zO|exact zL rfl) [-List.reduceReplicate, c72_o2, size_mk, get_mk_lt, get_mk_ge, frameOf, Eff.app, Heap.setOwn, q, e0, e0', l1]
  refine W.seq (W.block ?_)
  refine W.use (lo) (by simp (disch := first|omega|exact zE rfl|exact zO|exact zL rfl) [-List.reduceReplicate, size_mk, get_mk_lt, get_mk_ge, frameOf, Eff.app, Heap.setOwn, q, HO, onF_0, lz]) fun s1 H1 hp => ?_
  obtain ⟨rfl, q⟩ := hp
  try simp only [zW, if_true]
  simp only [HO] at *
  have lf := sq_len (onF M.length)
  generalize hcf : sq (onF M.length) = cf at *
  generalize hcz : (sq fun _ => 0) = cz at *
  have et : cf.take 64 = cf := List.take_of_length_le (by omega)
  have ep : putAt cz 0 cf = cf := putAt_all _ _ (by omega)
  refine W.seq (W.chunk ?_)
  simp (disch := first|omega|exact zE rfl|exact zO|exact zL rfl) [-List.reduceReplicate, c72_o7, size_mk, get_mk_lt, get_mk_ge, frameOf, Eff.app, Heap.setOwn, q, et, ep, lf, lz]
  refine W.ret ?_
  try simp only [zW, if_true]
  exact kR _ _ (by simp [T.get, c72, evRess, evRes, loadA, get_mk_ge, takeA, et, lf, one])
abbrev mostP : Int := 1152921504606846976
def dt (M : List (List Int)) (X : Nat → Int) (i j : Nat) : Nat → Int
  | 0 => 0
  | k + 1 => dt M X i j k + X (i * 8 + k) * ent M k j
def prF (M : List (List Int)) (X : Nat → Int) (x : Nat) : Int := if x / 8 < M.length then dt M X (x / 8) (x % 8) M.length else 0
def oP (M : List (List Int)) (X : Nat → Int) (i j k x : Nat) : Int := if x / 8 < i then dt M X (x / 8) (x % 8) M.length else if x / 8 = i then (if x % 8 < j then dt M X i (x % 8) M.length else if x % 8 = j then dt M X i j k else 0) else 0
theorem dt_out (hm : isMat M = true) (X : Nat → Int) (i : Nat) {j : Nat} (hj : M.length ≤ j) : ∀ k, dt M X i j k = 0
  | 0 => rfl
  | k + 1 => by
    show dt M X i j k + X (i * 8 + k) * ent M k j = 0
    rw [dt_out hm X i hj k, ent_out hm (.inr hj), Int.mul_zero]; rfl
theorem dt_nn (hm : isMat M = true) {X : Nat → Int} (hX : ∀ x, 0 ≤ X x) (i j : Nat) : ∀ k, 0 ≤ dt M X i j k
  | 0 => Int.le_refl _
  | k + 1 => by
    have a := dt_nn hm hX i j k
    have b := Int.mul_nonneg (hX (i * 8 + k)) (ent_bd hm k j).1
    show 0 ≤ dt M X i j k + X (i * 8 + k) * ent M k j
    omega
theorem dt_mono (hm : isMat M = true) {X : Nat → Int} (hX : ∀ x, 0 ≤ X x) (i j : Nat) : ∀ (d k : Nat), dt M X i j k ≤ dt M X i j (k + d)
  | 0, k => Int.le_refl _
  | d + 1, k => by
    have a := dt_mono hm hX i j d k
    have b := Int.mul_nonneg (hX (i * 8 + (k + d))) (ent_bd hm (k + d) j).1
    show dt M X i j k ≤ dt M X i j (k + d) + X (i * 8 + (k + d)) * ent M (k + d) j
    omega
theorem oP_0 (X : Nat → Int) : oP M X 0 0 0 = fun _ => 0 := by
  funext x; unfold oP
  rw [if_neg (by omega)]
  split
  · rw [if_neg (by omega)]; split <;> rfl
  · rfl
theorem oP_k (X : Nat → Int) (i j : Nat) : oP M X i j M.length = oP M X i (j + 1) 0 := by
  funext x; unfold oP
  by_cases h1 : x / 8 < i
  · rw [if_pos h1, if_pos h1]
  · rw [if_neg h1, if_neg h1]
    by_cases h2 : x / 8 = i
    · rw [if_pos h2, if_pos h2]
      by_cases h3 : x % 8 < j
      · rw [if_pos h3, if_pos (show x % 8 < j + 1 by omega)]
      · rw [if_neg h3]
        by_cases h4 : x % 8 = j
        · rw [if_pos h4, if_pos (show x % 8 < j + 1 by omega), h4]
        · rw [if_neg h4, if_neg (show ¬ x % 8 < j + 1 by omega)]
          split <;> rfl
    · rw [if_neg h2, if_neg h2]
theorem oP_j (hm : isMat M = true) (X : Nat → Int) (i : Nat) : oP M X i M.length 0 = oP M X (i + 1) 0 0 := by
  have h8 := isMat_n hm
  funext x; unfold oP
  by_cases h1 : x / 8 < i
  · rw [if_pos h1, if_pos (show x / 8 < i + 1 by omega)]
  · rw [if_neg h1]
    by_cases h2 : x / 8 = i
    · rw [if_pos h2, if_pos (show x / 8 < i + 1 by omega)]
      by_cases h3 : x % 8 < M.length
      · rw [if_pos h3, h2]
      · rw [if_neg h3, dt_out hm X (x / 8) (j := x % 8) (by omega)]
        split <;> rfl
    · rw [if_neg h2, if_neg (show ¬ x / 8 < i + 1 by omega)]
      split
      · rw [if_neg (show ¬ x % 8 < 0 by omega)]; split <;> rfl
      · rfl
theorem oP_all (X : Nat → Int) : oP M X M.length 0 0 = prF M X := by
  funext x; unfold oP prF
  by_cases h1 : x / 8 < M.length
  · rw [if_pos h1, if_pos h1]
  · rw [if_neg h1, if_neg h1]
    split
    · rw [if_neg (show ¬ x % 8 < 0 by omega)]; split <;> rfl
    · rfl
theorem oP_at {X : Nat → Int} {i j k : Nat} (hj : j < 8) : oP M X i j k (i * 8 + j) = dt M X i j k := by
  unfold oP
  rw [if_neg (by omega), if_pos (by omega), if_neg (by omega), if_pos (by omega)]
theorem oP_set {X : Nat → Int} {i j k : Nat} (hi : i < 8) (hj : j < 8) : (sq (oP M X i j k)).set (i * 8 + j) (G (dt M X i j k + X (i * 8 + k) * ent M k j)) = sq (oP M X i j (k + 1)) := by
  rw [sq_set _ _ _ (by omega)]
  apply sq_ext
  intro x hx
  unfold oP
  by_cases e : x = i * 8 + j
  · rw [if_pos e, if_neg (by omega), if_pos (by omega), if_neg (by omega), if_pos (by omega)]; rfl
  · rw [if_neg e]
    by_cases h1 : x / 8 < i
    · rw [if_pos h1, if_pos h1]
    · rw [if_neg h1, if_neg h1]
      by_cases h2 : x / 8 = i
      · rw [if_pos h2, if_pos h2]
        by_cases h3 : x % 8 < j
        · rw [if_pos h3, if_pos h3]
        · rw [if_neg h3, if_neg h3, if_neg (by omega), if_neg (by omega)]
      · rw [if_neg h2, if_neg h2]
def entS (M : List (List Int)) (x : Nat) : Int := ent M (x / 8) (x % 8)
def HP (h : Heap) (M : List (List Int)) (X : Nat → Int) (f : Nat → Int) : Heap := ⟨h.get, h.size, [.cells 0 65 (matC M), .cells 0 64 (sq X), .cells 0 64 (sq (entS M)), .cells 0 64 (sq fun _ => 0), .cells 0 64 (sq f)]⟩
structure P73 (k n i j : Nat) (cx cy c0 c1 cz : List AV) (a b D p Q : Int) : Prop where
  hk : k < n ∧ i < n ∧ j < n ∧ n ≤ 8
  e1 : cx[i * 8 + k]? = some (G a)
  e2 : cy[k * 8 + j]? = some (G b)
  e3 : c0[i * 8 + j]? = some (G D)
  e4 : c1[i * 8 + j]? = some (G (D + p))
  es : c0.set (i * 8 + j) (G (D + p)) = c1
  l3 : c0.length = 64
  l5 : c1.length = 64
  hz : cz.length = 64
  ha : 0 ≤ a ∧ a ≤ 1152921504606846976
  hb : 0 ≤ b ∧ b ≤ 9
  hD : 0 ≤ D ∧ D ≤ 1152921504606846976
  hp : a * b = p
  hp0 : 0 ≤ p
  hQ : 1152921504606846976 / b = Q
  hQ0 : 0 ≤ Q ∧ Q ≤ 1152921504606846976
  hq : 0 < b → (Q < a ↔ 1152921504606846976 < p)
  hb0 : b = 0 → p = 0
theorem c73_f1 (J : CallF) (h : Heap) {k n i j : Nat} {cm cx cy c0 c1 cz : List AV} {a b D p Q : Int} (P : P73 k n i j cx cy c0 c1 cz a b D p Q) (ez : putAt cz 0 cz = cz) (hcz : List.replicate 64 (AV.int .i64 0) = cz) (big : 1152921504606846976 < p) :
    Tr tbl J (.trim [[false, false], [true, false], [false, true], [true, true], [true, false, false], [false, true, false], [true, true, false], [false, false, false, false], [true, false, false, false], [true, false, true, false], [false, true, true, false], [false, true, false, true], [true, true, false, true]] c73_b0) (fun s h' => h' = ⟨h.get, h.size, [.cells 0 65 cm, .cells 0 64 cx, .cells 0 64 cy, .cells 0 64 cz, .cells 0 64 c0]⟩ ∧ s.get [false, false] = .ptr h.size 0 65 ∧ s.get [true, false] = .ptr (h.size + 1) 0 64 ∧ s.get [false, true] = .ptr (h.size + 2) 0 64 ∧ s.get [true, true] = .ptr (h.size + 3) 0 64 ∧ s.get [true, false, false] = .ptr (h.size + 4) 0 64 ∧ s.get [false, true, false] = G i ∧ s.get [true, true, false] = G j ∧ s.get [false, false, false, false] = G n ∧ s.get [true, false, false, false] = G i ∧ s.get [true, false, true, false] = G n ∧ s.get [false, true, true, false] = G j ∧ s.get [false, true, false, true] = G n ∧ s.get [true, true, false, true] = G k) .ret
      (fun s h' => h' = ⟨h.get, h.size, [.cells 0 65 cm, .cells 0 64 cx, .cells 0 64 cy, .cells 0 64 cz, .cells 0 64 c0]⟩ ∧ s.get [true, true] = .ptr (h.size + 3) 0 64 ∧ s.get [false, false, false] = .bool false) := by
  obtain ⟨hk, e1, e2, e3, e4, es, l3, l5, l4, ha, hb, hD, hp, hp0, hQ, hQ0, hq, hb0⟩ := P
  have e1' := getI e1
  have e2' := getI e2
  have bp : 0 < b := by
    rcases Int.lt_or_le 0 b with c | c
    · exact c
    · have := hb0 (by omega); omega
  have hlt := (hq bp).2 big
  refine Tr.w fun s1 H1 hp R kR => W.trim ?_
  obtain ⟨rfl, q⟩ := hp
  refine W.seq (W.chunk ?_)
  simp (disch := first|omega|exact zE rfl|exact zO|exact zL rfl) [-List.reduceReplicate, c73_o9, size_mk, get_mk_lt, get_mk_ge, frameOf, Eff.app, Heap.setOwn, q]
  refine W.seq (W.chunk ?_)
  simp (disch := first|omega|exact zE rfl|exact zO|exact zL rfl) [-List.reduceReplicate, size_mk, get_mk_lt, get_mk_ge, frameOf, Eff.app, Heap.setOwn, q]
  refine W.seq (W.block ?_)
  refine W.seq (W.chunk ?_)
  simp (disch := first|omega|exact zE rfl|exact zO|exact zL rfl) [-List.reduceReplicate, c73_o10, size_mk, get_mk_lt, get_mk_ge, frameOf, Eff.app, Heap.setOwn, q]
  refine W.seq (W.chunk ?_)
  simp (disch := first|omega|exact zE rfl|exact zO|exact zL rfl) [-List.reduceReplicate, c73_o11, size_mk, get_mk_lt, get_mk_ge, frameOf, Eff.app, Heap.setOwn, q, e1, e1', e2, e2', -evDraw_c, evDraw_0]
  refine W.assoc ?_
  refine W.seq (W.chunk ?_)
  simp (disch := first|omega|exact zE rfl|exact zO|exact zL rfl) [-List.reduceReplicate, c73_o12, size_mk, get_mk_lt, get_mk_ge, frameOf, Eff.app, Heap.setOwn, q, hQ]
  refine W.seq (W.chunk ?_)
  simp (disch := first|omega|exact zE rfl|exact zO|exact zL rfl) [-List.reduceReplicate, c73_o13, size_mk, get_mk_lt, get_mk_ge, frameOf, Eff.app, Heap.setOwn, q, hcz, ez, l4]
  exact kR _ _ (by simp [T.get, q])
theorem c73_f2 (J : CallF) (h : Heap) {k n i j : Nat} {cm cx cy c0 c1 cz : List AV} {a b D p Q : Int} (P : P73 k n i j cx cy c0 c1 cz a b D p Q) (ez : putAt cz 0 cz = cz) (hcz : List.replicate 64 (AV.int .i64 0) = cz) (big : ¬ 1152921504606846976 < p) (big2 : 1152921504606846976 < D + p) :
    Tr tbl J (.trim [[false, false], [true, false], [false, true], [true, true], [true, false, false], [false, true, false], [true, true, false], [false, false, false, false], [true, false, false, false], [true, false, true, false], [false, true, true, false], [false, true, false, true], [true, true, false, true]] c73_b0) (fun s h' => h' = ⟨h.get, h.size, [.cells 0 65 cm, .cells 0 64 cx, .cells 0 64 cy, .cells 0 64 cz, .cells 0 64 c0]⟩ ∧ s.get [false, false] = .ptr h.size 0 65 ∧ s.get [true, false] = .ptr (h.size + 1) 0 64 ∧ s.get [false, true] = .ptr (h.size + 2) 0 64 ∧ s.get [true, true] = .ptr (h.size + 3) 0 64 ∧ s.get [true, false, false] = .ptr (h.size + 4) 0 64 ∧ s.get [false, true, false] = G i ∧ s.get [true, true, false] = G j ∧ s.get [false, false, false, false] = G n ∧ s.get [true, false, false, false] = G i ∧ s.get [true, false, true, false] = G n ∧ s.get [false, true, true, false] = G j ∧ s.get [false, true, false, true] = G n ∧ s.get [true, true, false, true] = G k) .ret
      (fun s h' => h' = ⟨h.get, h.size, [.cells 0 65 cm, .cells 0 64 cx, .cells 0 64 cy, .cells 0 64 cz, .cells 0 64 c1]⟩ ∧ s.get [true, true] = .ptr (h.size + 3) 0 64 ∧ s.get [false, false, false] = .bool false) := by
  obtain ⟨hk, e1, e2, e3, e4, es, l3, l5, l4, ha, hb, hD, hp, hp0, hQ, hQ0, hq, hb0⟩ := P
  have e1' := getI e1
  have e2' := getI e2
  have e3' := getI e3
  have e4' := getI e4
  have bp : 0 < b := by
    rcases Int.lt_or_le 0 b with c | c
    · exact c
    · have := hb0 (by omega); omega
  have hlt := (hq bp).1
  have hle : a ≤ Q := by
    rcases Int.lt_or_le Q a with c | c
    · have := hlt c; omega
    · exact c
  clear hq hlt
  refine Tr.w fun s1 H1 hp R kR => W.trim ?_
  obtain ⟨rfl, q⟩ := hp
  refine W.seq (W.chunk ?_)
  simp (disch := first|omega|exact zE rfl|exact zO|exact zL rfl) [-List.reduceReplicate, c73_o9, size_mk, get_mk_lt, get_mk_ge, frameOf, Eff.app, Heap.setOwn, q]
  refine W.seq (W.chunk ?_)
  simp (disch := first|omega|exact zE rfl|exact zO|exact zL rfl) [-List.reduceReplicate, size_mk, get_mk_lt, get_mk_ge, frameOf, Eff.app, Heap.setOwn, q]
  refine W.seq (W.block ?_)
  refine W.seq (W.chunk ?_)
  simp (disch := first|omega|exact zE rfl|exact zO|exact zL rfl) [-List.reduceReplicate, c73_o10, size_mk, get_mk_lt, get_mk_ge, frameOf, Eff.app, Heap.setOwn, q]
  refine W.seq (W.chunk ?_)
  simp (disch := first|omega|exact zE rfl|exact zO|exact zL rfl) [-List.reduceReplicate, c73_o11, size_mk, get_mk_lt, get_mk_ge, frameOf, Eff.app, Heap.setOwn, q, e1, e1', e2, e2', -evDraw_c, evDraw_0]
  refine W.assoc ?_
  refine W.seq (W.chunk ?_)
  simp (disch := first|omega|exact zE rfl|exact zO|exact zL rfl) [-List.reduceReplicate, c73_o12, size_mk, get_mk_lt, get_mk_ge, frameOf, Eff.app, Heap.setOwn, q, hQ]
  refine W.seq (W.chunk ?_)
  simp (disch := first|omega|exact zE rfl|exact zO|exact zL rfl) [-List.reduceReplicate, c73_o13, size_mk, get_mk_lt, get_mk_ge, frameOf, Eff.app, Heap.setOwn, q]
  refine W.seq (W.chunk ?_)
  simp (disch := first|omega|exact zE rfl|exact zO|exact zL rfl) [-List.reduceReplicate, c73_o14, size_mk, get_mk_lt, get_mk_ge, frameOf, Eff.app, Heap.setOwn, q, e3, e3', l3, hp, es, -evDraw_c, evDraw_0]
  refine W.seq (W.chunk ?_)
  simp (disch := first|omega|exact zE rfl|exact zO|exact zL rfl) [-List.reduceReplicate, c73_o15, size_mk, get_mk_lt, get_mk_ge, frameOf, Eff.app, Heap.setOwn, q, e4, e4', l5]
  refine W.chunk ?_
  simp (disch := first|omega|exact zE rfl|exact zO|exact zL rfl) [-List.reduceReplicate, c73_o16, size_mk, get_mk_lt, get_mk_ge, frameOf, Eff.app, Heap.setOwn, q, hcz, ez, l4]
  exact kR _ _ (by simp [T.get, q])
theorem c73_st (J : CallF) (h : Heap) {k n i j : Nat} {cm cx cy c0 c1 cz : List AV} {a b D p Q : Int} (P : P73 k n i j cx cy c0 c1 cz a b D p Q) (big : ¬ 1152921504606846976 < p) (big2 : ¬ 1152921504606846976 < D + p) :
    Tr tbl J (.trim [[false, false], [true, false], [false, true], [true, true], [true, false, false], [false, true, false], [true, true, false], [false, false, false, false], [true, false, false, false], [true, false, true, false], [false, true, true, false], [false, true, false, true], [true, true, false, true]] c73_b0) (fun s h' => h' = ⟨h.get, h.size, [.cells 0 65 cm, .cells 0 64 cx, .cells 0 64 cy, .cells 0 64 cz, .cells 0 64 c0]⟩ ∧ s.get [false, false] = .ptr h.size 0 65 ∧ s.get [true, false] = .ptr (h.size + 1) 0 64 ∧ s.get [false, true] = .ptr (h.size + 2) 0 64 ∧ s.get [true, true] = .ptr (h.size + 3) 0 64 ∧ s.get [true, false, false] = .ptr (h.size + 4) 0 64 ∧ s.get [false, true, false] = G i ∧ s.get [true, true, false] = G j ∧ s.get [false, false, false, false] = G n ∧ s.get [true, false, false, false] = G i ∧ s.get [true, false, true, false] = G n ∧ s.get [false, true, true, false] = G j ∧ s.get [false, true, false, true] = G n ∧ s.get [true, true, false, true] = G k) .normal
      (fun s h' => h' = ⟨h.get, h.size, [.cells 0 65 cm, .cells 0 64 cx, .cells 0 64 cy, .cells 0 64 cz, .cells 0 64 c1]⟩ ∧ s.get [false, false] = .ptr h.size 0 65 ∧ s.get [true, false] = .ptr (h.size + 1) 0 64 ∧ s.get [false, true] = .ptr (h.size + 2) 0 64 ∧ s.get [true, true] = .ptr (h.size + 3) 0 64 ∧ s.get [true, false, false] = .ptr (h.size + 4) 0 64 ∧ s.get [false, true, false] = G i ∧ s.get [true, true, false] = G j ∧ s.get [false, false, false, false] = G n ∧ s.get [true, false, false, false] = G i ∧ s.get [true, false, true, false] = G n ∧ s.get [false, true, true, false] = G j ∧ s.get [false, true, false, true] = G n ∧ s.get [true, true, false, true] = G ((k + 1 : Nat) : Int)) := by
  obtain ⟨hk, e1, e2, e3, e4, es, l3, l5, l4, ha, hb, hD, hp, hp0, hQ, hQ0, hq, hb0⟩ := P
  have e1' := getI e1
  have e2' := getI e2
  have e3' := getI e3
  have e4' := getI e4
  by_cases bp : 0 < b
  · have hlt := (hq bp).1
    have hle : a ≤ Q := by
      rcases Int.lt_or_le Q a with c | c
      · have := hlt c; omega
      · exact c
    clear hq hlt
    refine Tr.w fun s1 H1 hp R kR => W.trim ?_
    obtain ⟨rfl, q⟩ := hp
    refine W.seq (W.chunk ?_)
    simp (disch := first|omega|exact zE rfl|exact zO|exact zL rfl) [c73_o9, size_mk, get_mk_lt, get_mk_ge, frameOf, Eff.app, Heap.setOwn, q]
    refine W.seq (W.chunk ?_)
    simp (disch := first|omega|exact zE rfl|exact zO|exact zL rfl) [size_mk, get_mk_lt, get_mk_ge, frameOf, Eff.app, Heap.setOwn, q]
    refine W.seq (W.block ?_)
    refine W.seq (W.chunk ?_)
    simp (disch := first|omega|exact zE rfl|exact zO|exact zL rfl) [c73_o10, size_mk, get_mk_lt, get_mk_ge, frameOf, Eff.app, Heap.setOwn, q]
    refine W.seq (W.chunk ?_)
    simp (disch := first|omega|exact zE rfl|exact zO|exact zL rfl) [c73_o11, size_mk, get_mk_lt, get_mk_ge, frameOf, Eff.app, Heap.setOwn, q, e1, e1', e2, e2', -evDraw_c, evDraw_0]
    refine W.assoc ?_
    refine W.seq (W.chunk ?_)
    simp (disch := first|omega|exact zE rfl|exact zO|exact zL rfl) [c73_o12, size_mk, get_mk_lt, get_mk_ge, frameOf, Eff.app, Heap.setOwn, q, hQ]
    refine W.seq (W.chunk ?_)
    simp (disch := first|omega|exact zE rfl|exact zO|exact zL rfl) [c73_o13, size_mk, get_mk_lt, get_mk_ge, frameOf, Eff.app, Heap.setOwn, q]
    refine W.seq (W.chunk ?_)
    simp (disch := first|omega|exact zE rfl|exact zO|exact zL rfl) [c73_o14, size_mk, get_mk_lt, get_mk_ge, frameOf, Eff.app, Heap.setOwn, q, e3, e3', l3, hp, es, -evDraw_c, evDraw_0]
    refine W.seq (W.chunk ?_)
    simp (disch := first|omega|exact zE rfl|exact zO|exact zL rfl) [c73_o15, size_mk, get_mk_lt, get_mk_ge, frameOf, Eff.app, Heap.setOwn, q, e4, e4', l5]
    refine W.chunk ?_
    simp (disch := first|omega|exact zE rfl|exact zO|exact zL rfl) [c73_o16, size_mk, get_mk_lt, get_mk_ge, frameOf, Eff.app, Heap.setOwn, q]
    refine W.chunk ?_
    simp (disch := first|omega|exact zE rfl|exact zO|exact zL rfl) [c73_o17, size_mk, get_mk_lt, get_mk_ge, frameOf, Eff.app, Heap.setOwn, q]
    exact kR _ _ (by simp [T.get, q])
  · refine Tr.w fun s1 H1 hp R kR => W.trim ?_
    obtain ⟨rfl, q⟩ := hp
    refine W.seq (W.chunk ?_)
    simp (disch := first|omega|exact zE rfl|exact zO|exact zL rfl) [c73_o9, size_mk, get_mk_lt, get_mk_ge, frameOf, Eff.app, Heap.setOwn, q]
    refine W.seq (W.chunk ?_)
    simp (disch := first|omega|exact zE rfl|exact zO|exact zL rfl) [size_mk, get_mk_lt, get_mk_ge, frameOf, Eff.app, Heap.setOwn, q]
    refine W.seq (W.block ?_)
    refine W.seq (W.chunk ?_)
    simp (disch := first|omega|exact zE rfl|exact zO|exact zL rfl) [c73_o10, size_mk, get_mk_lt, get_mk_ge, frameOf, Eff.app, Heap.setOwn, q]
    refine W.seq (W.chunk ?_)
    simp (disch := first|omega|exact zE rfl|exact zO|exact zL rfl) [c73_o11, size_mk, get_mk_lt, get_mk_ge, frameOf, Eff.app, Heap.setOwn, q, e1, e1', e2, e2', -evDraw_c, evDraw_0]
    refine W.assoc ?_
    refine W.seq (W.chunk ?_)
    simp (disch := first|omega|exact zE rfl|exact zO|exact zL rfl) [c73_o12, size_mk, get_mk_lt, get_mk_ge, frameOf, Eff.app, Heap.setOwn, q, hQ]
    refine W.seq (W.chunk ?_)
    simp (disch := first|omega|exact zE rfl|exact zO|exact zL rfl) [c73_o13, size_mk, get_mk_lt, get_mk_ge, frameOf, Eff.app, Heap.setOwn, q]
    refine W.seq (W.chunk ?_)
    simp (disch := first|omega|exact zE rfl|exact zO|exact zL rfl) [c73_o14, size_mk, get_mk_lt, get_mk_ge, frameOf, Eff.app, Heap.setOwn, q, e3, e3', l3, hp, es, -evDraw_c, evDraw_0]
    refine W.seq (W.chunk ?_)
    simp (disch := first|omega|exact zE rfl|exact zO|exact zL rfl) [c73_o15, size_mk, get_mk_lt, get_mk_ge, frameOf, Eff.app, Heap.setOwn, q, e4, e4', l5]
    refine W.chunk ?_
    simp (disch := first|omega|exact zE rfl|exact zO|exact zL rfl) [c73_o16, size_mk, get_mk_lt, get_mk_ge, frameOf, Eff.app, Heap.setOwn, q]
    refine W.chunk ?_
    simp (disch := first|omega|exact zE rfl|exact zO|exact zL rfl) [c73_o17, size_mk, get_mk_lt, get_mk_ge, frameOf, Eff.app, Heap.setOwn, q]
    exact kR _ _ (by simp [T.get, q])
theorem c73_k (J : CallF) (h : Heap) (hm : isMat M = true) {X : Nat → Int} (hX : ∀ x, 0 ≤ X x ∧ X x ≤ mostP) {i j : Nat} (hi : i < M.length) (hj : j < M.length) : ∀ d k, k + d = M.length → dt M X i j k ≤ mostP →
    (dt M X i j M.length ≤ mostP → Tr tbl J c73_l0 (fun s h' => h' = HP h M X (oP M X i j k) ∧ s.get [false, false] = .ptr h.size 0 65 ∧ s.get [true, false] = .ptr (h.size + 1) 0 64 ∧ s.get [false, true] = .ptr (h.size + 2) 0 64 ∧ s.get [true, true] = .ptr (h.size + 3) 0 64 ∧ s.get [true, false, false] = .ptr (h.size + 4) 0 64 ∧ s.get [false, true, false] = G i ∧ s.get [true, true, false] = G j ∧ s.get [false, false, false, false] = G M.length ∧ s.get [true, false, false, false] = G i ∧ s.get [true, false, true, false] = G M.length ∧ s.get [false, true, true, false] = G j ∧ s.get [false, true, false, true] = G M.length ∧ s.get [true, true, false, true] = G k) (.exit 4) (fun s h' => h' = HP h M X (oP M X i j M.length) ∧ s.get [false, false] = .ptr h.size 0 65 ∧ s.get [true, false] = .ptr (h.size + 1) 0 64 ∧ s.get [false, true] = .ptr (h.size + 2) 0 64 ∧ s.get [true, true] = .ptr (h.size + 3) 0 64 ∧ s.get [true, false, false] = .ptr (h.size + 4) 0 64 ∧ s.get [false, true, false] = G i ∧ s.get [false, false, false, false] = G M.length ∧ s.get [true, false, false, false] = G i ∧ s.get [true, false, true, false] = G M.length ∧ s.get [false, true, true, false] = G j)) ∧
    (mostP < dt M X i j M.length → Tr tbl J c73_l0 (fun s h' => h' = HP h M X (oP M X i j k) ∧ s.get [false, false] = .ptr h.size 0 65 ∧ s.get [true, false] = .ptr (h.size + 1) 0 64 ∧ s.get [false, true] = .ptr (h.size + 2) 0 64 ∧ s.get [true, true] = .ptr (h.size + 3) 0 64 ∧ s.get [true, false, false] = .ptr (h.size + 4) 0 64 ∧ s.get [false, true, false] = G i ∧ s.get [true, true, false] = G j ∧ s.get [false, false, false, false] = G M.length ∧ s.get [true, false, false, false] = G i ∧ s.get [true, false, true, false] = G M.length ∧ s.get [false, true, true, false] = G j ∧ s.get [false, true, false, true] = G M.length ∧ s.get [true, true, false, true] = G k) .ret (fun s h' => (∃ f, h' = HP h M X f) ∧ s.get [true, true] = .ptr (h.size + 3) 0 64 ∧ s.get [false, false, false] = .bool false)) := by
  have h8 := isMat_n hm
  intro d
  induction d with
  | zero =>
    intro k hk hd
    obtain rfl : k = M.length := by omega
    refine ⟨fun _ => Tr.out ?_ (by simp), fun c => by omega⟩
    simp only [HP]
    generalize M.length = n at *
    refine Tr.w fun s1 H1 hp R kR => W.trim ?_
    obtain ⟨rfl, q⟩ := hp
    refine W.seq (W.chunk ?_)
    simp (disch := first|omega|exact zE rfl|exact zO|exact zL rfl) [c73_o9, size_mk, get_mk_lt, get_mk_ge, frameOf, Eff.app, Heap.setOwn, q]
    refine W.seq (W.chunk ?_)
    simp (disch := first|omega|exact zE rfl|exact zO|exact zL rfl) [size_mk, get_mk_lt, get_mk_ge, frameOf, Eff.app, Heap.setOwn, q]
    exact kR _ _ (by simp [T.get, q])
  | succ d ih =>
    intro k hk hd
    have nn := dt_nn hm (fun x => (hX x).1) i j k
    have hmp : mostP = 1152921504606846976 := rfl
    have mono := dt_mono hm (fun x => (hX x).1) i j d (k + 1)
    rw [show k + 1 + d = M.length by omega] at mono
    have ds : dt M X i j (k + 1) = dt M X i j k + X (i * 8 + k) * ent M k j := rfl
    have ih := ih (k + 1) (by omega)
    have hx := hX (i * 8 + k)
    have hb := ent_bd hm k j
    have P : P73 k M.length i j (sq X) (sq (entS M)) (sq (oP M X i j k)) (sq (oP M X i j (k + 1))) (sq fun _ => 0) (X (i * 8 + k)) (ent M k j) (dt M X i j k) (X (i * 8 + k) * ent M k j) (mostP / ent M k j) := {
      hk := by omega
      e1 := sq_get X (by omega) rfl
      e2 := sq_get (entS M) (by omega) (by unfold entS; rw [show (k * 8 + j) / 8 = k by omega, show (k * 8 + j) % 8 = j by omega])
      e3 := sq_get _ (by omega) (oP_at (by omega))
      e4 := sq_get _ (by omega) (oP_at (by omega))
      es := oP_set (by omega) (by omega)
      l3 := sq_len _
      l5 := sq_len _
      hz := sq_len _
      ha := hx
      hb := hb
      hD := ⟨nn, hd⟩
      hp := rfl
      hp0 := Int.mul_nonneg hx.1 hb.1
      hQ := rfl
      hQ0 := ⟨Int.ediv_nonneg (by decide) hb.1, Int.ediv_le_self _ (by decide)⟩
      hq := fun c => by
        have := Int.le_ediv_iff_mul_le (a := X (i * 8 + k)) (b := mostP) c
        constructor
        · intro q
          apply Int.lt_of_not_ge
          intro q2
          have := this.2 q2
          omega
        · intro q
          apply Int.lt_of_not_ge
          intro q2
          have := this.1 q2
          omega
      hb0 := fun c => by rw [c, Int.mul_zero] }
    have hp0 := P.hp0
    rw [ds] at mono
    rw [ds] at ih
    have rp := sq_rep
    have ez : putAt (sq fun _ => 0) 0 (sq fun _ => 0) = sq fun _ => 0 := putAt_all _ _ rfl
    by_cases big : mostP < X (i * 8 + k) * ent M k j
    · have big' : mostP < dt M X i j M.length := by omega
      exact ⟨fun c => absurd big' (Int.not_lt.2 c), fun _ => Tr.out (Tr.post (fun s h' q => ⟨⟨_, q.1⟩, q.2⟩) (c73_f1 J h P ez rp big)) (by simp)⟩
    · by_cases big2 : mostP < dt M X i j k + X (i * 8 + k) * ent M k j
      · have big' : mostP < dt M X i j M.length := by omega
        exact ⟨fun c => absurd big' (Int.not_lt.2 c), fun _ => Tr.out (Tr.post (fun s h' q => ⟨⟨_, q.1⟩, q.2⟩) (c73_f2 J h P ez rp big big2)) (by simp)⟩
      · obtain ⟨ih1, ih2⟩ := ih (Int.not_lt.1 big2)
        have step := c73_st (cm := matC M) J h P big big2
        exact ⟨fun q => Tr.next step (ih1 q), fun q => Tr.next step (ih2 q)⟩
end
section
variable {M : List (List Int)}
def rwOk (M : List (List Int)) (X : Nat → Int) (i j : Nat) : Prop := ∀ j', j ≤ j' → j' < M.length → dt M X i j' M.length ≤ mostP
def prOk (M : List (List Int)) (X : Nat → Int) (i : Nat) : Prop := ∀ i', i ≤ i' → i' < M.length → rwOk M X i' 0
theorem rwOk_s {X : Nat → Int} {i j : Nat} (hj : j < M.length) : rwOk M X i j ↔ dt M X i j M.length ≤ mostP ∧ rwOk M X i (j + 1) := by
  constructor
  · intro h; exact ⟨h j (Nat.le_refl _) hj, fun j' a b => h j' (by omega) b⟩
  · rintro ⟨a, b⟩ j' c d
    by_cases e : j' = j
    · subst e; exact a
    · exact b j' (by omega) d
theorem prOk_s {X : Nat → Int} {i : Nat} (hi : i < M.length) : prOk M X i ↔ rwOk M X i 0 ∧ prOk M X (i + 1) := by
  constructor
  · intro h; exact ⟨h i (Nat.le_refl _) hi, fun j' a b => h j' (by omega) b⟩
  · rintro ⟨a, b⟩ j' c d
    by_cases e : j' = i
    · subst e; exact a
    · exact b j' (by omega) d
def Fail73 (h : Heap) (M : List (List Int)) (X : Nat → Int) : SP := fun s h' => (∃ f, h' = HP h M X f) ∧ s.get [true, true] = .ptr (h.size + 3) 0 64 ∧ s.get [false, false, false] = .bool false
theorem c73_j (J : CallF) (h : Heap) (hm : isMat M = true) {X : Nat → Int} (hX : ∀ x, 0 ≤ X x ∧ X x ≤ mostP) {i : Nat} (hi : i < M.length) : ∀ d j, j + d = M.length →
    (rwOk M X i j → Tr tbl J c73_l1 (fun s h' => h' = HP h M X (oP M X i j 0) ∧ s.get [false, false] = .ptr h.size 0 65 ∧ s.get [true, false] = .ptr (h.size + 1) 0 64 ∧ s.get [false, true] = .ptr (h.size + 2) 0 64 ∧ s.get [true, true] = .ptr (h.size + 3) 0 64 ∧ s.get [true, false, false] = .ptr (h.size + 4) 0 64 ∧ s.get [false, true, false] = G i ∧ s.get [false, false, false, false] = G M.length ∧ s.get [true, false, false, false] = G i ∧ s.get [true, false, true, false] = G M.length ∧ s.get [false, true, true, false] = G j) (.exit 2) (fun s h' => h' = HP h M X (oP M X i M.length 0) ∧ s.get [false, false] = .ptr h.size 0 65 ∧ s.get [true, false] = .ptr (h.size + 1) 0 64 ∧ s.get [false, true] = .ptr (h.size + 2) 0 64 ∧ s.get [true, true] = .ptr (h.size + 3) 0 64 ∧ s.get [true, false, false] = .ptr (h.size + 4) 0 64 ∧ s.get [false, false, false, false] = G M.length ∧ s.get [true, false, false, false] = G i)) ∧
    (¬ rwOk M X i j → Tr tbl J c73_l1 (fun s h' => h' = HP h M X (oP M X i j 0) ∧ s.get [false, false] = .ptr h.size 0 65 ∧ s.get [true, false] = .ptr (h.size + 1) 0 64 ∧ s.get [false, true] = .ptr (h.size + 2) 0 64 ∧ s.get [true, true] = .ptr (h.size + 3) 0 64 ∧ s.get [true, false, false] = .ptr (h.size + 4) 0 64 ∧ s.get [false, true, false] = G i ∧ s.get [false, false, false, false] = G M.length ∧ s.get [true, false, false, false] = G i ∧ s.get [true, false, true, false] = G M.length ∧ s.get [false, true, true, false] = G j) .ret (Fail73 h M X)) := by
  have h8 := isMat_n hm
  have e0 : (matC M)[0]? = some (G M.length) := rfl
  have e0' := getI e0
  have lm := matC_len M
  intro d
  induction d with
  | zero =>
    intro j hj
    obtain rfl : j = M.length := by omega
    refine ⟨fun _ => Tr.out ?_ (by simp), fun c => absurd (fun j' a b => by omega) c⟩
    simp only [HP]
    generalize M.length = n at *
    refine Tr.w fun s1 H1 hp R kR => W.trim ?_
    obtain ⟨rfl, q⟩ := hp
    refine W.seq (W.chunk ?_)
    simp (disch := first|omega|exact zE rfl|exact zO|exact zL rfl) [c73_o6, size_mk, get_mk_lt, get_mk_ge, frameOf, Eff.app, Heap.setOwn, q]
    refine W.seq (W.chunk ?_)
    simp (disch := first|omega|exact zE rfl|exact zO|exact zL rfl) [size_mk, get_mk_lt, get_mk_ge, frameOf, Eff.app, Heap.setOwn, q]
    exact kR _ _ (by simp [T.get, q])
  | succ d ih =>
    intro j hj
    have hjn : j < M.length := by omega
    obtain ⟨ih1, ih2⟩ := ih (j + 1) (by omega)
    obtain ⟨l1, l2⟩ := c73_k J h hm hX hi hjn M.length 0 (by omega) (by show (0 : Int) ≤ mostP; decide)
    rw [rwOk_s hjn]
    by_cases c : dt M X i j M.length ≤ mostP
    · have l1 := l1 c
      rw [oP_k] at l1
      have step : Tr tbl J (.trim [[false, false], [true, false], [false, true], [true, true], [true, false, false], [false, true, false], [false, false, false, false], [true, false, false, false], [true, false, true, false], [false, true, true, false]] c73_b1) (fun s h' => h' = HP h M X (oP M X i j 0) ∧ s.get [false, false] = .ptr h.size 0 65 ∧ s.get [true, false] = .ptr (h.size + 1) 0 64 ∧ s.get [false, true] = .ptr (h.size + 2) 0 64 ∧ s.get [true, true] = .ptr (h.size + 3) 0 64 ∧ s.get [true, false, false] = .ptr (h.size + 4) 0 64 ∧ s.get [false, true, false] = G i ∧ s.get [false, false, false, false] = G M.length ∧ s.get [true, false, false, false] = G i ∧ s.get [true, false, true, false] = G M.length ∧ s.get [false, true, true, false] = G j) .normal (fun s h' => h' = HP h M X (oP M X i (j + 1) 0) ∧ s.get [false, false] = .ptr h.size 0 65 ∧ s.get [true, false] = .ptr (h.size + 1) 0 64 ∧ s.get [false, true] = .ptr (h.size + 2) 0 64 ∧ s.get [true, true] = .ptr (h.size + 3) 0 64 ∧ s.get [true, false, false] = .ptr (h.size + 4) 0 64 ∧ s.get [false, true, false] = G i ∧ s.get [false, false, false, false] = G M.length ∧ s.get [true, false, false, false] = G i ∧ s.get [true, false, true, false] = G M.length ∧ s.get [false, true, true, false] = G ((j + 1 : Nat) : Int)) := by
        simp only [HP] at l1 ⊢
        clear ih1 ih2 l2 ih
        generalize sq (oP M X i (j + 1) 0) = c1 at *
        generalize sq (oP M X i j 0) = c0 at *
        generalize matC M = cm at *
        generalize M.length = n at *
        refine Tr.w fun s1 H1 hp R kR => W.trim ?_
        obtain ⟨rfl, q⟩ := hp
        refine W.seq (W.chunk ?_)
        simp (disch := first|omega|exact zE rfl|exact zO|exact zL rfl) [c73_o6, size_mk, get_mk_lt, get_mk_ge, frameOf, Eff.app, Heap.setOwn, q]
        refine W.seq (W.chunk ?_)
        simp (disch := first|omega|exact zE rfl|exact zO|exact zL rfl) [size_mk, get_mk_lt, get_mk_ge, frameOf, Eff.app, Heap.setOwn, q]
        refine W.seq (W.block ?_)
        refine W.seq (W.chunk ?_)
        simp (disch := first|omega|exact zE rfl|exact zO|exact zL rfl) [c73_o7, size_mk, get_mk_lt, get_mk_ge, frameOf, Eff.app, Heap.setOwn, q]
        refine W.seq (W.chunk ?_)
        simp (disch := first|omega|exact zE rfl|exact zO|exact zL rfl) [c73_o8, size_mk, get_mk_lt, get_mk_ge, frameOf, Eff.app, Heap.setOwn, q, e0, e0', lm]
        refine W.block ?_
        refine W.use (l1) (by simp (disch := first|omega|exact zE rfl|exact zO|exact zL rfl) [size_mk, get_mk_lt, get_mk_ge, frameOf, Eff.app, Heap.setOwn, q]) fun s1 H1 hp => ?_
        obtain ⟨rfl, q⟩ := hp
        try simp only [zW, if_true]
        refine W.chunk ?_
        simp (disch := first|omega|exact zE rfl|exact zO|exact zL rfl) [c73_o18, size_mk, get_mk_lt, get_mk_ge, frameOf, Eff.app, Heap.setOwn, q]
        exact kR _ _ (by simp [T.get, q])
      exact ⟨fun q => Tr.next step (ih1 q.2), fun q => Tr.next step (ih2 (fun r => q ⟨c, r⟩))⟩
    · have l2 := l2 (Int.not_le.1 c)
      refine ⟨fun q => absurd q.1 c, fun _ => Tr.out ?_ (by simp)⟩
      refine Tr.w fun s1 H1 hp R kR => W.trim ?_
      obtain ⟨rfl, q⟩ := hp
      have hl : (HP h M X (oP M X i j 0)).size = h.size + 5 := rfl
      have g0 : (HP h M X (oP M X i j 0)).get h.size = .cells 0 65 (matC M) := by unfold HP; rw [get_mk_ge _ _ _ _ (by omega)]; simp
      generalize HP h M X (oP M X i j 0) = H at *
      generalize matC M = cm at *
      refine W.seq (W.chunk ?_)
      simp (disch := first|omega|exact zE rfl|exact zO|exact zL rfl) [c73_o6, zG, q]
      refine W.seq (W.chunk ?_)
      simp (disch := first|omega|exact zE rfl|exact zO|exact zL rfl) [zG, q]
      refine W.seq (W.block ?_)
      refine W.seq (W.chunk ?_)
      simp (disch := first|omega|exact zE rfl|exact zO|exact zL rfl) [c73_o7, zG, q]
      refine W.seq (W.chunk ?_)
      simp (disch := first|omega|exact zE rfl|exact zO|exact zL rfl) [c73_o8, zG, q, g0, e0, e0', lm]
      refine W.block ?_
      refine W.use (l2) (by simp (disch := first|omega|exact zE rfl|exact zO|exact zL rfl) [zG, q]) fun s1 H1 hp => ?_
      try simp only [zW, if_true]
      exact kR _ _ hp
theorem c73_i (J : CallF) (h : Heap) (hm : isMat M = true) {X : Nat → Int} (hX : ∀ x, 0 ≤ X x ∧ X x ≤ mostP) : ∀ d i, i + d = M.length →
    (prOk M X i → Tr tbl J c73_l2 (fun s h' => h' = HP h M X (oP M X i 0 0) ∧ s.get [false, false] = .ptr h.size 0 65 ∧ s.get [true, false] = .ptr (h.size + 1) 0 64 ∧ s.get [false, true] = .ptr (h.size + 2) 0 64 ∧ s.get [true, true] = .ptr (h.size + 3) 0 64 ∧ s.get [true, false, false] = .ptr (h.size + 4) 0 64 ∧ s.get [false, false, false, false] = G M.length ∧ s.get [true, false, false, false] = G i) (.exit 0) (fun s h' => h' = HP h M X (oP M X M.length 0 0) ∧ s.get [true, true] = .ptr (h.size + 3) 0 64 ∧ s.get [true, false, false] = .ptr (h.size + 4) 0 64)) ∧
    (¬ prOk M X i → Tr tbl J c73_l2 (fun s h' => h' = HP h M X (oP M X i 0 0) ∧ s.get [false, false] = .ptr h.size 0 65 ∧ s.get [true, false] = .ptr (h.size + 1) 0 64 ∧ s.get [false, true] = .ptr (h.size + 2) 0 64 ∧ s.get [true, true] = .ptr (h.size + 3) 0 64 ∧ s.get [true, false, false] = .ptr (h.size + 4) 0 64 ∧ s.get [false, false, false, false] = G M.length ∧ s.get [true, false, false, false] = G i) .ret (Fail73 h M X)) := by
  have h8 := isMat_n hm
  have e0 : (matC M)[0]? = some (G M.length) := rfl
  have e0' := getI e0
  have lm := matC_len M
  intro d
  induction d with
  | zero =>
    intro i hi
    obtain rfl : i = M.length := by omega
    refine ⟨fun _ => Tr.out ?_ (by simp), fun c => absurd (fun j' a b => by omega) c⟩
    simp only [HP]
    generalize M.length = n at *
    refine Tr.w fun s1 H1 hp R kR => W.trim ?_
    obtain ⟨rfl, q⟩ := hp
    refine W.seq (W.chunk ?_)
    simp (disch := first|omega|exact zE rfl|exact zO|exact zL rfl) [c73_o3, size_mk, get_mk_lt, get_mk_ge, frameOf, Eff.app, Heap.setOwn, q]
    refine W.seq (W.chunk ?_)
    simp (disch := first|omega|exact zE rfl|exact zO|exact zL rfl) [size_mk, get_mk_lt, get_mk_ge, frameOf, Eff.app, Heap.setOwn, q]
    exact kR _ _ (by simp [T.get, q])
  | succ d ih =>
    intro i hi
    have hin : i < M.length := by omega
    obtain ⟨ih1, ih2⟩ := ih (i + 1) (by omega)
    obtain ⟨l1, l2⟩ := c73_j J h hm hX hin M.length 0 (by omega)
    rw [prOk_s hin]
    by_cases c : rwOk M X i 0
    · have l1 := l1 c
      rw [oP_j hm] at l1
      have step : Tr tbl J (.trim [[false, false], [true, false], [false, true], [true, true], [true, false, false], [false, false, false, false], [true, false, false, false]] c73_b2) (fun s h' => h' = HP h M X (oP M X i 0 0) ∧ s.get [false, false] = .ptr h.size 0 65 ∧ s.get [true, false] = .ptr (h.size + 1) 0 64 ∧ s.get [false, true] = .ptr (h.size + 2) 0 64 ∧ s.get [true, true] = .ptr (h.size + 3) 0 64 ∧ s.get [true, false, false] = .ptr (h.size + 4) 0 64 ∧ s.get [false, false, false, false] = G M.length ∧ s.get [true, false, false, false] = G i) .normal (fun s h' => h' = HP h M X (oP M X (i + 1) 0 0) ∧ s.get [false, false] = .ptr h.size 0 65 ∧ s.get [true, false] = .ptr (h.size + 1) 0 64 ∧ s.get [false, true] = .ptr (h.size + 2) 0 64 ∧ s.get [true, true] = .ptr (h.size + 3) 0 64 ∧ s.get [true, false, false] = .ptr (h.size + 4) 0 64 ∧ s.get [false, false, false, false] = G M.length ∧ s.get [true, false, false, false] = G ((i + 1 : Nat) : Int)) := by
        simp only [HP] at l1 ⊢
        clear ih1 ih2 l2 ih
        generalize sq (oP M X (i + 1) 0 0) = c1 at *
        generalize sq (oP M X i 0 0) = c0 at *
        generalize matC M = cm at *
        generalize M.length = n at *
        refine Tr.w fun s1 H1 hp R kR => W.trim ?_
        obtain ⟨rfl, q⟩ := hp
        refine W.seq (W.chunk ?_)
        simp (disch := first|omega|exact zE rfl|exact zO|exact zL rfl) [c73_o3, size_mk, get_mk_lt, get_mk_ge, frameOf, Eff.app, Heap.setOwn, q]
        refine W.seq (W.chunk ?_)
        simp (disch := first|omega|exact zE rfl|exact zO|exact zL rfl) [size_mk, get_mk_lt, get_mk_ge, frameOf, Eff.app, Heap.setOwn, q]
        refine W.seq (W.block ?_)
        refine W.seq (W.chunk ?_)
        simp (disch := first|omega|exact zE rfl|exact zO|exact zL rfl) [c73_o4, size_mk, get_mk_lt, get_mk_ge, frameOf, Eff.app, Heap.setOwn, q]
        refine W.seq (W.chunk ?_)
        simp (disch := first|omega|exact zE rfl|exact zO|exact zL rfl) [c73_o5, size_mk, get_mk_lt, get_mk_ge, frameOf, Eff.app, Heap.setOwn, q, e0, e0', lm]
        refine W.block ?_
        refine W.use (l1) (by simp (disch := first|omega|exact zE rfl|exact zO|exact zL rfl) [size_mk, get_mk_lt, get_mk_ge, frameOf, Eff.app, Heap.setOwn, q]) fun s1 H1 hp => ?_
        obtain ⟨rfl, q⟩ := hp
        try simp only [zW, if_true]
        refine W.chunk ?_
        simp (disch := first|omega|exact zE rfl|exact zO|exact zL rfl) [c73_o19, size_mk, get_mk_lt, get_mk_ge, frameOf, Eff.app, Heap.setOwn, q]
        exact kR _ _ (by simp [T.get, q])
      exact ⟨fun q => Tr.next step (ih1 q.2), fun q => Tr.next step (ih2 (fun r => q ⟨c, r⟩))⟩
    · have l2 := l2 c
      refine ⟨fun q => absurd q.1 c, fun _ => Tr.out ?_ (by simp)⟩
      refine Tr.w fun s1 H1 hp R kR => W.trim ?_
      obtain ⟨rfl, q⟩ := hp
      have g0 : (HP h M X (oP M X i 0 0)).get h.size = .cells 0 65 (matC M) := by unfold HP; rw [get_mk_ge _ _ _ _ (by omega)]; simp
      generalize HP h M X (oP M X i 0 0) = H at *
      generalize matC M = cm at *
      refine W.seq (W.chunk ?_)
      simp (disch := first|omega|exact zE rfl|exact zO|exact zL rfl) [c73_o3, zG, q]
      refine W.seq (W.chunk ?_)
      simp (disch := first|omega|exact zE rfl|exact zO|exact zL rfl) [zG, q]
      refine W.seq (W.block ?_)
      refine W.seq (W.chunk ?_)
      simp (disch := first|omega|exact zE rfl|exact zO|exact zL rfl) [c73_o4, zG, q]
      refine W.seq (W.chunk ?_)
      simp (disch := first|omega|exact zE rfl|exact zO|exact zL rfl) [c73_o5, zG, q, g0, e0, e0', lm]
      refine W.block ?_
      refine W.use (l2) (by simp (disch := first|omega|exact zE rfl|exact zO|exact zL rfl) [zG, q]) fun s1 H1 hp => ?_
      try simp only [zW, if_true]
      exact kR _ _ hp
open Classical in
theorem c73_ok (J : CallF) (hJ : ∀ a h, J 73 a h = none) (h : Heap) (hm : isMat M = true) {X : Nat → Int} (hX : ∀ x, 0 ≤ X x ∧ X x ≤ mostP) : CallsTo tbl J 73 [.agg (matC M), .agg (sq X), .agg (sq (entS M))] h (if prOk M X 0 then .tup [.agg (sq (prF M X)), .bool true] else .tup [.agg (sq fun _ => 0), .bool false], [], false) := by
  refine Tr.fnv (cf := c73) (e := .ret) (s := T.set (T.set (T.set .leaf [] (.agg (matC M))) [false] (.agg (sq X))) [true] (.agg (sq (entS M)))) (by decide) rfl (hJ _ _) rfl rfl (by split <;> simp [AV.flat, AV.flats, sq_flat]) (by simp) ?_
  have h8 := isMat_n hm
  obtain ⟨l1, l2⟩ := c73_i J h hm hX M.length 0 (by omega)
  rw [oP_0, oP_all] at l1
  rw [oP_0] at l2
  have rp := sq_rep
  have lm := matC_len M
  have lx := sq_len X
  have ly := sq_len (entS M)
  have lz := sq_len fun _ => 0
  have e0 : (matC M)[0]? = some (G M.length) := rfl
  have e0' := getI e0
  refine Tr.w fun s1 H1 hp R kR => ?_
  obtain ⟨rfl, rfl⟩ := hp
  have q : True := trivial
  by_cases c : prOk M X 0
  · have l1 := l1 c
    rw [if_pos c] at kR
    refine W.seq (W.chunk ?_)
    simp (disch := first|omega|exact zE rfl|exact zO|exact zL rfl) [-List.reduceReplicate, c73_o0, size_mk, get_mk_lt, get_mk_ge, frameOf, Eff.app, Heap.setOwn, q, lm, lx, ly, lz, rp, frameOf]
    refine W.seq (W.chunk ?_)
    simp (disch := first|omega|exact zE rfl|exact zO|exact zL rfl) [-List.reduceReplicate, c73_o1, size_mk, get_mk_lt, get_mk_ge, frameOf, Eff.app, Heap.setOwn, q, rp]
    refine W.assoc ?_
    refine W.seq (W.chunk ?_)
    simp (disch := first|omega|exact zE rfl|exact zO|exact zL rfl) [-List.reduceReplicate, c73_o2, size_mk, get_mk_lt, get_mk_ge, frameOf, Eff.app, Heap.setOwn, q, e0, e0', lm]
    refine W.seq (W.block ?_)
    refine W.use (l1) (by simp (disch := first|omega|exact zE rfl|exact zO|exact zL rfl) [-List.reduceReplicate, size_mk, get_mk_lt, get_mk_ge, frameOf, Eff.app, Heap.setOwn, q, HP, lm, lx, ly, lz]) fun s1 H1 hp => ?_
    obtain ⟨rfl, q⟩ := hp
    try simp only [zW, if_true]
    simp only [HP] at *
    have lf := sq_len (prF M X)
    generalize hcf : sq (prF M X) = cf at *
    generalize hcz : (sq fun _ => 0) = cz at *
    have et : cf.take 64 = cf := List.take_of_length_le (by omega)
    have ep : putAt cz 0 cf = cf := putAt_all _ _ (by omega)
    refine W.seq (W.chunk ?_)
    simp (disch := first|omega|exact zE rfl|exact zO|exact zL rfl) [-List.reduceReplicate, c73_o20, size_mk, get_mk_lt, get_mk_ge, frameOf, Eff.app, Heap.setOwn, q, et, ep, lf, lz]
    refine W.ret ?_
    try simp only [zW, if_true]
    exact kR _ _ (by simp [T.get, c73, evRess, evRes, loadA, get_mk_ge, takeA, et, lf, one])
  · have l2 := l2 c
    rw [if_neg c] at kR
    refine W.seq (W.chunk ?_)
    simp (disch := first|omega|exact zE rfl|exact zO|exact zL rfl) [-List.reduceReplicate, c73_o0, size_mk, get_mk_lt, get_mk_ge, frameOf, Eff.app, Heap.setOwn, q, lm, lx, ly, lz, rp, frameOf]
    refine W.seq (W.chunk ?_)
    simp (disch := first|omega|exact zE rfl|exact zO|exact zL rfl) [-List.reduceReplicate, c73_o1, size_mk, get_mk_lt, get_mk_ge, frameOf, Eff.app, Heap.setOwn, q, rp]
    refine W.assoc ?_
    refine W.seq (W.chunk ?_)
    simp (disch := first|omega|exact zE rfl|exact zO|exact zL rfl) [-List.reduceReplicate, c73_o2, size_mk, get_mk_lt, get_mk_ge, frameOf, Eff.app, Heap.setOwn, q, e0, e0', lm]
    refine W.seq (W.block ?_)
    refine W.use (l2) (by simp (disch := first|omega|exact zE rfl|exact zO|exact zL rfl) [-List.reduceReplicate, size_mk, get_mk_lt, get_mk_ge, frameOf, Eff.app, Heap.setOwn, q, HP, lm, lx, ly, lz]) fun s1 H1 hp => ?_
    obtain ⟨⟨f, rfl⟩, q1, q2⟩ := hp
    try simp only [zW, if_true]
    have et : (sq fun _ => 0).take 64 = sq fun _ => 0 := List.take_of_length_le (by rw [lz]; exact Nat.le_refl _)
    exact kR _ _ (by simp [T.get, c73, evRess, evRes, loadA, get_mk_ge, takeA, q1, q2, HP, et, lz, one])
end
structure A79 where
  b : Nat
  o : Nat
  n : Nat
  v : Nat
  g : Nat
  cs : List AV
def Ok79 (a : A79) (h : Heap) : Prop := h.get a.b = .cells a.g a.v a.cs ∧ ((a.cs.drop a.o).take a.n).length = a.n ∧ 0 < a.n ∧ a.n ≤ 1000
theorem c79_ok (J : CallF) (hJ : ∀ a h, J 79 a h = none) (h : Heap) (a : A79) (ha : Ok79 a h) : CallsTo tbl J 79 [.slice a.b a.o a.n a.v] h (.slice h.size 0 a.n a.n, [.cells 1 a.n ((a.cs.drop a.o).take a.n)], false) := by
  obtain ⟨b, o, n, v, g, cs⟩ := a
  obtain ⟨hg, hl, h0, hn⟩ := ha
  simp only at hg hl h0 hn ⊢
  refine Tr.fnh (cf := c79) (e := .ret) (s := T.set .leaf [] (.slice b o n v)) (by decide) rfl (hJ _ _) rfl rfl rfl (by simp) ?_
  have hb := get_lt hg (by simp)
  generalize hL : (cs.drop o).take n = L at *
  have n0 : ¬ n = 0 := by omega
  have hel : ∀ own, elems ⟨h.get, h.size, own⟩ 1 (.slice b o n v) = some (n, L) := fun own => by
    have e : Heap.get ⟨h.get, h.size, own⟩ b = .cells g v cs := by rw [get_mk_lt _ _ _ _ hb]; exact hg
    simp only [elems, e, if_true, Nat.mul_one, hL]
    rw [if_pos hl]
  refine Tr.w fun s1 H1 hp R kR => ?_
  obtain ⟨rfl, rfl⟩ := hp
  have q : True := trivial
  refine W.seq (W.chunk ?_)
  simp (disch := first|omega|exact zE rfl|exact zO|exact zL rfl) [c79_o0, size_mk, get_mk_lt, get_mk_ge, frameOf, Eff.app, Heap.setOwn, q]
  refine W.assoc ?_
  refine W.seq (W.chunk ?_)
  simp (disch := first|omega|exact zE rfl|exact zO|exact zL rfl) [c79_o1, size_mk, get_mk_lt, get_mk_ge, frameOf, Eff.app, Heap.setOwn, q, eqk]
  refine W.seq (W.chunk ?_)
  simp (disch := first|omega|exact zE rfl|exact zO|exact zL rfl) [c79_o2, size_mk, get_mk_lt, get_mk_ge, frameOf, Eff.app, Heap.setOwn, q]
  refine W.seq (W.chunk ?_)
  simp (disch := first|omega|exact zE rfl|exact zO|exact zL rfl) [c79_o3, size_mk, get_mk_lt, get_mk_ge, frameOf, Eff.app, Heap.setOwn, q, hel, appA, n0, frameOf, rdOf]
  refine W.ret ?_
  try simp only [zW, if_true]
  exact kR _ _ (by simp [T.get, c79, evRess, evRes, one, hl])
def Pre79 (a : A79) (args : List AV) (h : Heap) : Prop := Ok79 a h ∧ args = [.slice a.b a.o a.n a.v]
def Post79 (a : A79) (h : Heap) (v : AV) (own : List AObj) : Prop := v = .slice h.size 0 a.n a.n ∧ own = [.cells 1 a.n ((a.cs.drop a.o).take a.n)]
noncomputable def T12 : CallF := addK tbl T11 79 Pre79 Post79
theorem t12 : Sound Go.Proofs.Try.prog T12 := Sound.addK follows ok t11 (by decide) _ _
abbrev K79 (J : CallF) : Prop := ∀ (h : Heap) (a : A79), Ok79 a h → J 79 [.slice a.b a.o a.n a.v] h = some (.slice h.size 0 a.n a.n, [.cells 1 a.n ((a.cs.drop a.o).take a.n)], false)
theorem k79 : K79 T12 := fun h a ha => by
  obtain ⟨v, own, e, rfl, rfl⟩ := addK_some (tbl := tbl) (I := T11) (f := 79) (Pre := Pre79) (Post := Post79) (fun a args h hp => by
    obtain ⟨ha, rfl⟩ := hp
    exact ⟨_, _, c79_ok T11 (fun _ _ => by simp (disch := decide) only [T11, T10, T9, T8, T7, T6, T5, T4, T3, T2, T1, R21, R20, R19, R18, R17, R16, R15, R14, R13, R12, R11, R10, R9, R8, R7, R6, R5, R4, R3, R2, R1, addI_ne, addX_ne, addV_ne, addK_ne]; rfl) h a ha, rfl, rfl⟩) a _ h ⟨ha, rfl⟩
  exact e
theorem evDraw_k (r : Rec) (k : Nat) (os : List COper) (ps : List (Nat × Nat)) (anc : List (List Nat)) (s : T) (h : Heap) : evCode r (.draw k os ps anc) s h = match runFP r.call h os s (h.plus (List.replicate k .hole)) with
    | some (s', h', fps) => if ps.all (fun p => okPair h.size (fps.getD p.1 {}) (fps.getD p.2 {})) && (fps.all (fun f => !f.eff.isAll) || bars anc fps) then some (.normal, s', h') else none
    | none => none := rfl
theorem fill_plus0 (h : Heap) (b : Nat) (hb : h.size = b) (x : AObj) (xs : List AObj) : Eff.app (.fill b x) (h.plus (.hole :: xs)) = some (h.plus (x :: xs)) := by
  subst hb
  have h1 : ¬ h.size < h.N := by unfold Heap.size; omega
  have h2 : h.size - h.N = h.own.length := by unfold Heap.size; omega
  simp only [Eff.app, Heap.plus, h1, if_false, h2]
  rw [List.getElem?_append_right (by omega), Nat.sub_self]
  simp only [List.getElem?_cons_zero, Heap.setOwn_eq, h2]
  rw [List.set_append_right _ _ (by omega), Nat.sub_self]
  rfl
theorem fill_plus1 (h : Heap) (b : Nat) (hb : h.size + 1 = b) (x y : AObj) (xs : List AObj) : Eff.app (.fill b x) (h.plus (y :: .hole :: xs)) = some (h.plus (y :: x :: xs)) := by
  have := fill_plus0 (h.plus [y]) b (by rw [plus_size]; exact hb) x xs
  rwa [plus_plus, plus_plus] at this
theorem TB.appD {H0 H : Heap} {x : AV} {css : List (List AV)} (t : TB H0 H x css) (L : List AV) (hn : css.length ≤ 1000000) :
    ∃ x1 e H2, appA (H.plus [.cells 1 1 [.slice (H.size + 2) 0 L.length L.length], .hole, .cells 1 L.length L]) H.size (some 1) 1 24 1 [.slice (H.size + 2) 0 L.length L.length] x = some (x1, e) ∧ Eff.app e (H.plus [.cells 1 1 [.slice (H.size + 2) 0 L.length L.length], .hole, .cells 1 L.length L]) = some H2 ∧ TB H0 H2 x1 (css ++ [L]) ∧ ((∃ i X, e = .fill i X) ∨ (∃ b v g vs, e = .ext b v g vs)) := by
  obtain ⟨rs, lv, hl, hr⟩ := t.r
  generalize hvv : AV.slice (H.size + 2) 0 L.length L.length = r
  have old : ∀ (X : AObj), (H.plus [.cells 1 1 [r], X, .cells 1 L.length L]).get (H.size + 2) = .cells 1 L.length L := fun X => by
    rw [plus_ge _ _ _ (by omega), show H.size + 2 - H.size = 2 by omega]; rfl
  have szz : ∀ (X : AObj), (H.plus [.cells 1 1 [r], X, .cells 1 L.length L]).size = H.size + 3 := fun X => by rw [plus_size]; rfl
  rcases lv with ⟨rfl, rfl⟩ | ⟨b, rfl, g, hN⟩
  · have hc : css = [] := List.length_eq_zero_iff.1 hl.symm
    subst hc
    refine ⟨.slice (H.size + 1) 0 1 1, .fill (H.size + 1) (.cells 1 1 [r]), H.plus [.cells 1 1 [r], .cells 1 1 [r], .cells 1 L.length L], rfl, fill_plus1 _ _ rfl _ _ _, ⟨t.k.trans (Kp.plus _ _), fun q hq => ?_, [r], .inr ⟨H.size + 1, rfl, ?_, ?_⟩, rfl, fun i r' hi => ?_⟩, .inl ⟨_, _, rfl⟩⟩
    · cases hq; have := t.k.size; omega
    · rw [plus_ge _ _ _ (by omega), show H.size + 1 - H.size = 1 by omega]; rfl
    · show H.N ≤ H.size + 1; unfold Heap.size; omega
    · have hi0 : i = 0 := by
        have := (List.getElem?_eq_some_iff.1 hi).1
        simpa using this
      subst hi0
      simp only [List.getElem?_cons_zero, Option.some.injEq] at hi
      subst hi
      exact ⟨L, H.size + 2, rfl, hvv.symm, old _, (by simp [blk]), by have := t.k.size; omega⟩
  · have hlt := get_lt g (by simp)
    have hb2 : (H.plus [.cells 1 1 [r], .hole, .cells 1 L.length L]).get b = .cells 1 rs.length rs := by rw [plus_lt _ _ _ hlt, g]
    have hN' : (H.plus [.cells 1 1 [r], .hole, .cells 1 L.length L]).N ≤ b := by rw [plus_N]; exact hN
    have lb : ∀ q, q ≠ b → ((H.plus [.cells 1 1 [r], .hole, .cells 1 L.length L]).upd b (.cells 1 (rs.length + 1) (rs ++ [r]))).get q = (H.plus [.cells 1 1 [r], .hole, .cells 1 L.length L]).get q := fun q hq => upd_ne _ _ _ _ hN' (fun e => hq e.symm)
    refine ⟨.slice b 0 (rs.length + 1) (rs.length + 1), .ext b rs.length 1 [r], (H.plus [.cells 1 1 [r], .hole, .cells 1 L.length L]).upd b (.cells 1 (rs.length + 1) (rs ++ [r])), ?_, ?_, ⟨?_, fun q hq => t.x0 q hq, rs ++ [r], .inr ⟨b, by simp, ?_, by rw [upd_N]; exact hN'⟩, by simp [hl], fun i r' hi => ?_⟩, .inr ⟨_, _, _, _, rfl⟩⟩
    · simp only [appA, Nat.mul_one, Nat.one_mul]
      rw [if_neg (by decide), if_pos ⟨trivial, by simp, by omega⟩]
    · exact ext_gen _ b rs.length 1 rs [r] hN' hb2 rfl
    · exact (t.k.trans (Kp.plus (M := fun _ => False) _ _)).late (Kp.upd (M := fun q => q = b) _ _ _ hN' rfl) (fun q hq => by rw [hq]; exact t.x0 b rfl)
    · rw [upd_same _ _ _ hN' (by rw [szz]; omega)]; simp
    · by_cases hi' : i < rs.length
      · rw [List.getElem?_append_left hi'] at hi
        obtain ⟨l', b', h1, h2', h3, h4, h5⟩ := hr i r' hi
        have hne : b' ≠ b := fun e => h4 (by rw [e]; rfl)
        exact ⟨l', b', by rw [List.getElem?_append_left (by omega)]; exact h1, h2', by rw [lb _ hne, plus_lt _ _ _ (get_lt h3 (by simp))]; exact h3, h4, h5⟩
      · rw [List.getElem?_append_right (by omega)] at hi
        have hi0 : i - rs.length = 0 := by
          rcases Nat.eq_zero_or_pos (i - rs.length) with e | e
          · exact e
          · rw [List.getElem?_eq_none (by simp; omega)] at hi; cases hi
        rw [hi0] at hi
        simp only [List.getElem?_cons_zero, Option.some.injEq] at hi
        subst hi
        exact ⟨L, H.size + 2, by rw [List.getElem?_append_right (by omega), ← hl, hi0]; rfl, hvv.symm, by rw [lb _ (by omega)]; exact old _, (by intro e; cases e; omega), by have := t.k.size; omega⟩
def rwL (X : Nat → Int) (n i : Nat) : List Int := lf (fun j => X (i * 8 + j)) n
theorem sq_row (X : Nat → Int) {n i : Nat} (hi : i < 8) (hn : n ≤ 8) : ((sq X).drop (i * 8)).take n = gs (rwL X n i) := by
  apply List.ext_getElem?
  intro j
  by_cases hj : j < n
  · rw [List.getElem?_take, if_pos hj, List.getElem?_drop, sq_at _ (by omega)]
    show _ = (gs (lf (fun j => X (i * 8 + j)) n))[j]?
    rw [gl_at _ hj]
  · rw [List.getElem?_take, if_neg hj, List.getElem?_eq_none (by simp [rwL, lf_len]; omega)]
section
variable {M : List (List Int)}
theorem n74_5 (J : CallF) (k79 : K79 J) {H H2 : Heap} {bm bx n i : Nat} {X : Nat → Int} {x x1 : AV} {e : Eff} (gm : H.get bm = .cells 0 65 (matC M)) (e0 : (matC M)[0]? = some (G n)) (gx : H.get bx = .cells 0 64 (sq X)) (hi : i < n) (hn : n ≤ 8)
    (q1 : appA (H.plus [.cells 1 1 [.slice (H.size + 2) 0 n n], .hole, .cells 1 n (gs (rwL X n i))]) H.size (some 1) 1 24 1 [.slice (H.size + 2) 0 n n] x = some (x1, e)) (q2 : Eff.app e (H.plus [.cells 1 1 [.slice (H.size + 2) 0 n n], .hole, .cells 1 n (gs (rwL X n i))]) = some H2) (q3 : (∃ i X, e = .fill i X) ∨ (∃ b v g vs, e = .ext b v g vs)) :
    Tr tbl J c74_o5 (fun s h => h = H ∧ s.get [true] = .ptr bm 0 65 ∧ s.get [false, false] = .ptr bx 0 64 ∧ s.get [false, true] = x ∧ s.get [true, true] = G i ∧ s.get [true, false, false] = G n ∧ s.get [false, true, false] = G i) .normal (fun s h => h = H2 ∧ s.get [true] = .ptr bm 0 65 ∧ s.get [false, false] = .ptr bx 0 64 ∧ s.get [false, true] = x1 ∧ s.get [true, false, false] = G n ∧ s.get [false, true, false] = G i) := by
  have e0' := getI e0
  have lm := matC_len M
  have gm' := plus_keep [.hole, .hole] gm (by simp)
  have gx' := plus_keep [.hole, .hole] gx (by simp)
  have lr : (gs (rwL X n i)).length = n := by simp [rwL, lf_len]
  have k := k79 (H.plus [.hole, .hole]) ⟨bx, i * 8, n, 64, 0, sq X⟩ ⟨gx', by simp only; rw [sq_row X (by omega) hn, lr], by simp only; omega, by simp only; omega⟩
  simp only at k
  rw [sq_row X (by omega) hn, plus_size] at k
  have f0 := fill_plus0 H H.size rfl (.cells 1 1 [.slice (H.size + 2) 0 n n]) [.hole, .cells 1 n (gs (rwL X n i))]
  have f1 : (H.plus [.cells 1 1 [.slice (H.size + 2) 0 n n], .hole, .cells 1 n (gs (rwL X n i))]).get H.size = .cells 1 1 [.slice (H.size + 2) 0 n n] := plus_at0 _ _ _ _ rfl
  have sz : [AObj.hole, .hole].length = 2 := rfl
  rw [sz] at k
  generalize gs (rwL X n i) = L at *
  generalize sq X = cx at *
  generalize matC M = cm at *
  refine Tr.w fun s1 H1 hp R kR => ?_
  obtain ⟨rfl, q⟩ := hp
  rcases q3 with ⟨i', X', rfl⟩ | ⟨b', v', g', vs', rfl⟩
  all_goals
    refine W.chunk ?_
    simp (disch := first|omega|exact zE rfl|exact zO|exact zL rfl) [-evDraw_c, c74_o5, zG, q, evDraw_k, gm', gx', e0, e0', lm, k, bounds, plus_plus, plus_size, f0, f1, elems, rdOf, q1, q2]
    exact kR _ _ (by simp [T.get, q])
theorem rwsL_s (X : Nat → Int) (n i : Nat) : ((List.range (i + 1)).map fun i => gs (rwL X n i)) = ((List.range i).map fun i => gs (rwL X n i)) ++ [gs (rwL X n i)] := by simp [List.range_succ]
theorem c74_l (J : CallF) (k79 : K79 J) {H0 : Heap} {bm bx : Nat} {X : Nat → Int} (hm : isMat M = true) (gm : H0.get bm = .cells 0 65 (matC M)) (gx : H0.get bx = .cells 0 64 (sq X)) :
    Tr tbl J c74_l0 (fun s h => h = H0 ∧ s.get [true] = .ptr bm 0 65 ∧ s.get [false, false] = .ptr bx 0 64 ∧ s.get [false, true] = .nils ∧ s.get [true, false, false] = G M.length ∧ s.get [false, true, false] = G ((0 : Nat) : Int)) (.exit 0) (fun s h => ∃ x, TB H0 h x ((List.range M.length).map fun i => gs (rwL X M.length i)) ∧ s.get [false, true] = x) := by
  have h8 := isMat_n hm
  refine Tr.pre (P := fun s h => ∃ x, TB H0 h x ((List.range 0).map fun i => gs (rwL X M.length i)) ∧ s.get [true] = .ptr bm 0 65 ∧ s.get [false, false] = .ptr bx 0 64 ∧ s.get [false, true] = x ∧ s.get [true, false, false] = G M.length ∧ s.get [false, true, false] = G ((0 : Nat) : Int)) (fun s h q => ⟨.nils, by rw [q.1]; exact TB.nil H0, q.2⟩) ?_
  refine Tr.rounds (P := fun i s h => ∃ x, TB H0 h x ((List.range i).map fun i => gs (rwL X M.length i)) ∧ s.get [true] = .ptr bm 0 65 ∧ s.get [false, false] = .ptr bx 0 64 ∧ s.get [false, true] = x ∧ s.get [true, false, false] = G M.length ∧ s.get [false, true, false] = G i) (M := M.length) (fun i hi => ?_) ?_ (by simp) 0 (by omega)
  · refine Tr.w fun s1 H1 hp R kR => W.trim ?_
    obtain ⟨x, tb, q⟩ := hp
    have lr : (gs (rwL X M.length i)).length = M.length := by simp [rwL, lf_len]
    obtain ⟨x1, e, H2, q1, q2, tb2, q3⟩ := tb.appD (gs (rwL X M.length i)) (by simp; omega)
    rw [← rwsL_s] at tb2
    rw [lr] at q1 q2
    have t := n74_5 J k79 (tb.k.at gm (by simp) id) rfl (tb.k.at gx (by simp) id) hi h8.2 q1 q2 q3
    clear tb
    generalize M.length = n at *
    refine W.seq (W.chunk ?_)
    simp (disch := first|omega|exact zE rfl|exact zO|exact zL rfl) [c74_o3, zG, q]
    refine W.seq (W.chunk ?_)
    simp (disch := first|omega|exact zE rfl|exact zO|exact zL rfl) [zG, q]
    refine W.seq (W.block ?_)
    refine W.seq (W.chunk ?_)
    simp (disch := first|omega|exact zE rfl|exact zO|exact zL rfl) [c74_o4, zG, q]
    refine W.use (t) (by simp (disch := first|omega|exact zE rfl|exact zO|exact zL rfl) [zG, q]) fun s1 H1 hp => ?_
    obtain ⟨rfl, q⟩ := hp
    try simp only [zW, if_true]
    refine W.chunk ?_
    simp (disch := first|omega|exact zE rfl|exact zO|exact zL rfl) [c74_o6, zG, q]
    exact kR _ _ ⟨_, tb2, by simp [T.get, q]⟩
  · refine Tr.w fun s1 H1 hp R kR => W.trim ?_
    obtain ⟨x, tb, q⟩ := hp
    refine W.seq (W.chunk ?_)
    simp (disch := first|omega|exact zE rfl|exact zO|exact zL rfl) [c74_o3, zG, q]
    refine W.seq (W.chunk ?_)
    simp (disch := first|omega|exact zE rfl|exact zO|exact zL rfl) [zG, q]
    exact kR _ _ ⟨_, tb, by simp [T.get, q]⟩
theorem TB.fr0 {h h' : Heap} {x : AV} {L : List (List AV)} (t : TB (frameOf h) h' x L) : TB h (h.plus (if (one [x]).flat then [] else h'.own)) x L := by
  split
  · rename_i hf
    obtain ⟨rs, lv, hl, hr⟩ := t.r
    rcases lv with ⟨rfl, rfl⟩ | ⟨b, rfl, g, n⟩
    · have : L = [] := List.length_eq_zero_iff.1 hl.symm
      subst this
      have : h.plus [] = h := by simp [Heap.plus]
      rw [this]; exact TB.nil h
    · simp [one, AV.flat, AV.flats] at hf
  · exact t.fr
theorem TB.up {h : Heap} {X : List AObj} {H' : Heap} {w : AV} {L : List (List AV)} (t : TB ⟨h.get, h.size, X⟩ H' w L) : TB (frameOf h) H' w L := by
  obtain ⟨rs, lv, hl, hr⟩ := t.r
  have ks := (Kp.plus (M := fun _ => False) (frameOf h) X).size
  exact ⟨(Kp.plus (frameOf h) X).trans t.k, fun q hq => Nat.le_trans ks (t.x0 q hq), rs, lv, hl, fun i r hi => by
    obtain ⟨cs, b, h1, h2, h3, h4, h5⟩ := hr i r hi
    exact ⟨cs, b, h1, h2, h3, h4, Nat.le_trans ks h5⟩⟩
theorem c74_ok (J : CallF) (k79 : K79 J) (hJ : ∀ a h, J 74 a h = none) (h : Heap) (hm : isMat M = true) (X : Nat → Int) : ∃ v own, CallsTo tbl J 74 [.agg (matC M), .agg (sq X)] h (v, own, false) ∧ TB h (h.plus own) v ((List.range M.length).map fun i => gs (rwL X M.length i)) := by
  refine Tr.fny (cf := c74) (e := .ret) (s := T.set (T.set .leaf [] (.agg (matC M))) [false] (.agg (sq X))) (by decide) rfl (hJ _ _) rfl rfl (by simp) ?_
  have h8 := isMat_n hm
  have lm := matC_len M
  have lx := sq_len X
  have e0 : (matC M)[0]? = some (G M.length) := rfl
  have e0' := getI e0
  have gm : Heap.get ⟨h.get, h.size, [.cells 0 65 (matC M), .cells 0 64 (sq X)]⟩ h.size = .cells 0 65 (matC M) := by rw [get_mk_ge _ _ _ _ (by omega)]; simp
  have gx : Heap.get ⟨h.get, h.size, [.cells 0 65 (matC M), .cells 0 64 (sq X)]⟩ (h.size + 1) = .cells 0 64 (sq X) := by rw [get_mk_ge _ _ _ _ (by omega)]; simp
  have lo := c74_l J k79 hm gm gx
  refine Tr.w fun s1 H1 hp R kR => ?_
  obtain ⟨rfl, rfl⟩ := hp
  have q : True := trivial
  refine W.seq (W.chunk ?_)
  simp (disch := first|omega|exact zE rfl|exact zO|exact zL rfl) [c74_o0, size_mk, get_mk_lt, get_mk_ge, frameOf, Eff.app, Heap.setOwn, q, lm, lx, frameOf]
  refine W.seq (W.chunk ?_)
  simp (disch := first|omega|exact zE rfl|exact zO|exact zL rfl) [c74_o1, size_mk, get_mk_lt, get_mk_ge, frameOf, Eff.app, Heap.setOwn, q]
  refine W.assoc ?_
  refine W.seq (W.chunk ?_)
  simp (disch := first|omega|exact zE rfl|exact zO|exact zL rfl) [c74_o2, size_mk, get_mk_lt, get_mk_ge, frameOf, Eff.app, Heap.setOwn, q, e0, e0', lm]
  refine W.seq (W.block ?_)
  refine W.use (lo) (by simp (disch := first|omega|exact zE rfl|exact zO|exact zL rfl) [size_mk, get_mk_lt, get_mk_ge, frameOf, Eff.app, Heap.setOwn, q]) fun s1 H1 hp => ?_
  obtain ⟨x, tb, q⟩ := hp
  try simp only [zW, if_true]
  refine W.seq (W.chunk ?_)
  simp (disch := first|omega|exact zE rfl|exact zO|exact zL rfl) [c74_o7, size_mk, get_mk_lt, get_mk_ge, frameOf, Eff.app, Heap.setOwn, q]
  refine W.ret ?_
  try simp only [zW, if_true]
  exact kR _ _ ⟨[x], by simp [T.get, c74, evRess, evRes, q], tb.up.fr0⟩
end
def Pre72 (M : List (List Int)) (args : List AV) (h : Heap) : Prop := isMat M = true ∧ args = [.agg (matC M)]
def Post72 (M : List (List Int)) (h : Heap) (v : AV) (own : List AObj) : Prop := v = .agg (sq (onF M.length)) ∧ own = []
noncomputable def T13 : CallF := addK tbl T12 72 Pre72 Post72
theorem t13 : Sound Go.Proofs.Try.prog T13 := Sound.addK follows ok t12 (by decide) _ _
abbrev K72 (J : CallF) : Prop := ∀ (h : Heap) (M : List (List Int)), isMat M = true → J 72 [.agg (matC M)] h = some (.agg (sq (onF M.length)), [], false)
theorem k72 : K72 T13 := fun h M hm => by
  obtain ⟨v, own, e, rfl, rfl⟩ := addK_some (tbl := tbl) (I := T12) (f := 72) (Pre := Pre72) (Post := Post72) (fun M args h hp => by
    obtain ⟨hm, rfl⟩ := hp
    exact ⟨_, _, c72_ok T12 (fun _ _ => by simp (disch := decide) only [T12, T11, T10, T9, T8, T7, T6, T5, T4, T3, T2, T1, R21, R20, R19, R18, R17, R16, R15, R14, R13, R12, R11, R10, R9, R8, R7, R6, R5, R4, R3, R2, R1, addI_ne, addX_ne, addV_ne, addK_ne]; rfl) h hm, rfl, rfl⟩) M _ h ⟨hm, rfl⟩
  exact e
structure A73 where
  M : List (List Int)
  X : Nat → Int
def Ok73 (a : A73) : Prop := isMat a.M = true ∧ ∀ x, 0 ≤ a.X x ∧ a.X x ≤ mostP
open Classical in
noncomputable def v73 (a : A73) : AV := if prOk a.M a.X 0 then .tup [.agg (sq (prF a.M a.X)), .bool true] else .tup [.agg (sq fun _ => 0), .bool false]
def Pre73 (a : A73) (args : List AV) (h : Heap) : Prop := Ok73 a ∧ args = [.agg (matC a.M), .agg (sq a.X), .agg (sq (entS a.M))]
def Post73 (a : A73) (h : Heap) (v : AV) (own : List AObj) : Prop := v = v73 a ∧ own = []
noncomputable def T14 : CallF := addK tbl T13 73 Pre73 Post73
theorem t14 : Sound Go.Proofs.Try.prog T14 := Sound.addK follows ok t13 (by decide) _ _
abbrev K73 (J : CallF) : Prop := ∀ (h : Heap) (a : A73), Ok73 a → J 73 [.agg (matC a.M), .agg (sq a.X), .agg (sq (entS a.M))] h = some (v73 a, [], false)
theorem k73 : K73 T14 := fun h a ha => by
  obtain ⟨v, own, e, rfl, rfl⟩ := addK_some (tbl := tbl) (I := T13) (f := 73) (Pre := Pre73) (Post := Post73) (fun a args h hp => by
    obtain ⟨⟨hm, hX⟩, rfl⟩ := hp
    exact ⟨_, _, c73_ok T13 (fun _ _ => by simp (disch := decide) only [T13, T12, T11, T10, T9, T8, T7, T6, T5, T4, T3, T2, T1, R21, R20, R19, R18, R17, R16, R15, R14, R13, R12, R11, R10, R9, R8, R7, R6, R5, R4, R3, R2, R1, addI_ne, addX_ne, addV_ne, addK_ne]; rfl) h hm hX, rfl, rfl⟩) a _ h ⟨ha, rfl⟩
  exact e
def Pre74 (a : A73) (args : List AV) (h : Heap) : Prop := isMat a.M = true ∧ args = [.agg (matC a.M), .agg (sq a.X)]
def Post74 (a : A73) (h : Heap) (v : AV) (own : List AObj) : Prop := TB h (h.plus own) v ((List.range a.M.length).map fun i => gs (rwL a.X a.M.length i))
noncomputable def T15 : CallF := addK tbl T14 74 Pre74 Post74
theorem t15 : Sound Go.Proofs.Try.prog T15 := Sound.addK follows ok t14 (by decide) _ _
abbrev K74 (J : CallF) : Prop := ∀ (h : Heap) (a : A73), isMat a.M = true → ∃ v own, J 74 [.agg (matC a.M), .agg (sq a.X)] h = some (v, own, false) ∧ TB h (h.plus own) v ((List.range a.M.length).map fun i => gs (rwL a.X a.M.length i))
theorem k79_14 : K79 T14 := fun h a ha => by
  simp (disch := decide) only [T14, T13, addK_ne]
  exact k79 h a ha
theorem k74 : K74 T15 := fun h a ha => addK_some (tbl := tbl) (I := T14) (f := 74) (Pre := Pre74) (Post := Post74) (fun a args h hp => by
    obtain ⟨hm, rfl⟩ := hp
    exact c74_ok T14 k79_14 (fun _ _ => by simp (disch := decide) only [T14, T13, T12, T11, T10, T9, T8, T7, T6, T5, T4, T3, T2, T1, R21, R20, R19, R18, R17, R16, R15, R14, R13, R12, R11, R10, R9, R8, R7, R6, R5, R4, R3, R2, R1, addI_ne, addX_ne, addV_ne, addK_ne]; rfl) h hm a.X) a _ h ⟨ha, rfl⟩
section
variable {M : List (List Int)} {y : AV}
def pwX (M : List (List Int)) : Nat → Nat → Int
  | 0 => onF M.length
  | k + 1 => prF M (pwX M k)
def okP (M : List (List Int)) (k : Nat) : Prop := ∀ m, m < k → prOk M (pwX M m) 0
theorem okP_s {k : Nat} : okP M (k + 1) ↔ okP M k ∧ prOk M (pwX M k) 0 := by
  constructor
  · intro h; exact ⟨fun m hm => h m (by omega), h k (by omega)⟩
  · rintro ⟨a, b⟩ m hm
    by_cases e : m = k
    · subst e; exact b
    · exact a m (by omega)
theorem pwX_bd (hm : isMat M = true) : ∀ {k : Nat}, okP M k → ∀ x, 0 ≤ pwX M k x ∧ pwX M k x ≤ mostP
  | 0, _, x => by
    show 0 ≤ onF M.length x ∧ onF M.length x ≤ mostP
    unfold onF
    split <;> decide
  | k + 1, h, x => by
    have ih := pwX_bd hm (okP_s.1 h).1
    have hk := (okP_s.1 h).2
    show 0 ≤ prF M (pwX M k) x ∧ prF M (pwX M k) x ≤ mostP
    unfold prF
    by_cases c : x / 8 < M.length
    · rw [if_pos c]
      refine ⟨dt_nn hm (fun x => (ih x).1) _ _ _, ?_⟩
      by_cases c2 : x % 8 < M.length
      · exact hk _ (Nat.zero_le _) c _ (Nat.zero_le _) c2
      · rw [dt_out hm _ _ (by omega)]; decide
    · rw [if_neg c]; exact ⟨Int.le_refl _, by decide⟩
def HQ (h : Heap) (M : List (List Int)) (f : Nat → Int) : Heap := ⟨h.get, h.size, [.cells 0 65 (matC M), .cells 0 64 (sq f)]⟩
theorem mat_tail (M : List (List Int)) : ((matC M).drop 1).take 64 = sq (entS M) := by
  show (sq (fun x => ent M (x / 8) (x % 8))).take 64 = _
  exact List.take_of_length_le (by rw [sq_len]; exact Nat.le_refl _)
theorem c43_l (J : CallF) (k73 : K73 J) (h : Heap) (hm : isMat M = true) {k : Nat} (hk : k ≤ 100) : ∀ d m, m + d = k → okP M m →
    (okP M k → Tr tbl J c43_l0 (fun s h' => h' = HQ h M (pwX M m) ∧ s.get [true, true] = .ptr h.size 0 65 ∧ s.get [true, false, false] = .ptr (h.size + 1) 0 64 ∧ s.get [false, false, false, true] = G k ∧ s.get [true, false, false, true] = G m) (.exit 0) (fun s h' => h' = HQ h M (pwX M k) ∧ s.get [true, true] = .ptr h.size 0 65 ∧ s.get [true, false, false] = .ptr (h.size + 1) 0 64)) ∧
    (¬ okP M k → Tr tbl J c43_l0 (fun s h' => h' = HQ h M (pwX M m) ∧ s.get [true, true] = .ptr h.size 0 65 ∧ s.get [true, false, false] = .ptr (h.size + 1) 0 64 ∧ s.get [false, false, false, true] = G k ∧ s.get [true, false, false, true] = G m) .ret (fun s h => s.get [true, false] = .nils ∧ s.get [false, true] = G 5)) := by
  intro d
  induction d with
  | zero =>
    intro m hmk ho
    obtain rfl : m = k := by omega
    refine ⟨fun _ => Tr.out ?_ (by simp), fun c => absurd ho c⟩
    simp only [HQ]
    refine Tr.w fun s1 H1 hp R kR => W.trim ?_
    obtain ⟨rfl, q⟩ := hp
    refine W.seq (W.chunk ?_)
    simp (disch := first|omega|exact zE rfl|exact zO|exact zL rfl) [c43_o6, size_mk, get_mk_lt, get_mk_ge, frameOf, Eff.app, Heap.setOwn, q]
    refine W.seq (W.chunk ?_)
    simp (disch := first|omega|exact zE rfl|exact zO|exact zL rfl) [size_mk, get_mk_lt, get_mk_ge, frameOf, Eff.app, Heap.setOwn, q]
    exact kR _ _ (by simp [T.get, q])
  | succ d ih =>
    intro m hmk ho
    have kk := k73 ⟨h.get, h.size, [.cells 0 65 (matC M), .cells 0 64 (sq (pwX M m))]⟩ ⟨M, pwX M m⟩ ⟨hm, pwX_bd hm ho⟩
    simp only at kk
    have et : (matC M).take 65 = matC M := List.take_of_length_le (by rw [matC_len]; exact Nat.le_refl _)
    have et2 := mat_tail M
    have et2' : (matC M).tail.take 64 = sq (entS M) := by rw [← List.drop_one]; exact et2
    have et3 : (sq (pwX M m)).take 64 = sq (pwX M m) := List.take_of_length_le (by rw [sq_len]; exact Nat.le_refl _)
    have lm := matC_len M
    have l1 := sq_len (pwX M m)
    have l3 := sq_len (entS M)
    by_cases c : prOk M (pwX M m) 0
    · obtain ⟨ih1, ih2⟩ := ih (m + 1) (by omega) (okP_s.2 ⟨ho, c⟩)
      rw [show v73 ⟨M, pwX M m⟩ = .tup [.agg (sq (pwX M (m + 1))), .bool true] from if_pos c] at kk
      have l2 := sq_len (pwX M (m + 1))
      have ep : putAt (sq (pwX M m)) 0 (sq (pwX M (m + 1))) = sq (pwX M (m + 1)) := putAt_all _ _ (by omega)
      have step : Tr tbl J (.trim [[true, true], [true, false, false], [false, false, false, true], [true, false, false, true]] c43_b0) (fun s h' => h' = HQ h M (pwX M m) ∧ s.get [true, true] = .ptr h.size 0 65 ∧ s.get [true, false, false] = .ptr (h.size + 1) 0 64 ∧ s.get [false, false, false, true] = G k ∧ s.get [true, false, false, true] = G m) .normal (fun s h' => h' = HQ h M (pwX M (m + 1)) ∧ s.get [true, true] = .ptr h.size 0 65 ∧ s.get [true, false, false] = .ptr (h.size + 1) 0 64 ∧ s.get [false, false, false, true] = G k ∧ s.get [true, false, false, true] = G ((m + 1 : Nat) : Int)) := by
        simp only [HQ]
        clear ih1 ih2 ih
        generalize sq (pwX M (m + 1)) = c1 at *
        generalize sq (pwX M m) = c0 at *
        generalize sq (entS M) = cy at *
        generalize matC M = cm at *
        refine Tr.w fun s1 H1 hp R kR => W.trim ?_
        obtain ⟨rfl, q⟩ := hp
        refine W.seq (W.chunk ?_)
        simp (disch := first|omega|exact zE rfl|exact zO|exact zL rfl) [c43_o6, size_mk, get_mk_lt, get_mk_ge, frameOf, Eff.app, Heap.setOwn, q]
        refine W.seq (W.chunk ?_)
        simp (disch := first|omega|exact zE rfl|exact zO|exact zL rfl) [size_mk, get_mk_lt, get_mk_ge, frameOf, Eff.app, Heap.setOwn, q]
        refine W.seq (W.block ?_)
        refine W.seq (W.chunk ?_)
        simp (disch := first|omega|exact zE rfl|exact zO|exact zL rfl) [c43_o7, size_mk, get_mk_lt, get_mk_ge, frameOf, Eff.app, Heap.setOwn, q, et, et2, et3, lm, l1, l2, l3, kk, ep, et2']
        refine W.seq (W.chunk ?_)
        simp (disch := first|omega|exact zE rfl|exact zO|exact zL rfl) [c43_o8, size_mk, get_mk_lt, get_mk_ge, frameOf, Eff.app, Heap.setOwn, q]
        refine W.chunk ?_
        simp (disch := first|omega|exact zE rfl|exact zO|exact zL rfl) [c43_o9, size_mk, get_mk_lt, get_mk_ge, frameOf, Eff.app, Heap.setOwn, q]
        refine W.chunk ?_
        simp (disch := first|omega|exact zE rfl|exact zO|exact zL rfl) [c43_o10, size_mk, get_mk_lt, get_mk_ge, frameOf, Eff.app, Heap.setOwn, q]
        exact kR _ _ (by simp [T.get, q])
      exact ⟨fun q => Tr.next step (ih1 q), fun q => Tr.next step (ih2 q)⟩
    · rw [show v73 ⟨M, pwX M m⟩ = .tup [.agg (sq fun _ => 0), .bool false] from if_neg c] at kk
      have l2 := sq_len (fun _ => 0)
      have ep : putAt (sq (pwX M m)) 0 (sq fun _ => 0) = sq fun _ => 0 := putAt_all _ _ (by omega)
      refine ⟨fun q => absurd (q m (by omega)) c, fun _ => Tr.out ?_ (by simp)⟩
      simp only [HQ]
      generalize (sq fun _ => 0) = c1 at *
      generalize sq (pwX M m) = c0 at *
      generalize sq (entS M) = cy at *
      generalize matC M = cm at *
      refine Tr.w fun s1 H1 hp R kR => W.trim ?_
      obtain ⟨rfl, q⟩ := hp
      refine W.seq (W.chunk ?_)
      simp (disch := first|omega|exact zE rfl|exact zO|exact zL rfl) [c43_o6, size_mk, get_mk_lt, get_mk_ge, frameOf, Eff.app, Heap.setOwn, q]
      refine W.seq (W.chunk ?_)
      simp (disch := first|omega|exact zE rfl|exact zO|exact zL rfl) [size_mk, get_mk_lt, get_mk_ge, frameOf, Eff.app, Heap.setOwn, q]
      refine W.seq (W.block ?_)
      refine W.seq (W.chunk ?_)
      simp (disch := first|omega|exact zE rfl|exact zO|exact zL rfl) [c43_o7, size_mk, get_mk_lt, get_mk_ge, frameOf, Eff.app, Heap.setOwn, q, et, et2, et3, lm, l1, l2, l3, kk, ep, et2']
      refine W.seq (W.chunk ?_)
      simp (disch := first|omega|exact zE rfl|exact zO|exact zL rfl) [c43_o8, size_mk, get_mk_lt, get_mk_ge, frameOf, Eff.app, Heap.setOwn, q]
      refine W.chunk ?_
      simp (disch := first|omega|exact zE rfl|exact zO|exact zL rfl) [c43_o9, size_mk, get_mk_lt, get_mk_ge, frameOf, Eff.app, Heap.setOwn, q]
      exact kR _ _ (by simp [T.get, q])
theorem c43_bad (J : CallF) (k54 : K54 J) (k57 : K57 J) (hJ : ∀ a h, J 43 a h = none) (h : Heap) (hy : MR h y M) {k : Int} (hb : ¬ (isMat M = true ∧ 0 ≤ k ∧ k ≤ 100)) : CallsTo tbl J 43 [y, G k] h (.tup [.nils, G 2], [], false) := by
  refine Tr.fnv (cf := c43) (e := .ret) (s := T.set (T.set .leaf [] y) [false] (G k)) (by decide) rfl (hJ _ _) rfl rfl rfl (by simp) ?_
  obtain ⟨cs, k54, hl, hc⟩ := k54 ⟨h.get, h.size, []⟩ y M (hy.lo [])
  have rp : (List.replicate 65 (AV.int .i64 0)).length = 65 := List.length_replicate
  have ep : putAt (List.replicate 65 (AV.int .i64 0)) 0 cs = cs := putAt_all _ _ (by omega)
  refine Tr.w fun s1 H1 hp R kR => ?_
  obtain ⟨rfl, rfl⟩ := hp
  have q : True := trivial
  have fin : ∀ s h', s.get [true, false] = .nils → s.get [false, true] = G 2 → R .ret s h' := fun s h' a b => kR _ _ ⟨[.nils, G 2], by simp [c43, evRess, evRes, a, b], rfl⟩
  have kk := fun h => k57 k 0 100 h
  generalize hZ : List.replicate 65 (AV.int .i64 0) = Z at *
  clear hc
  cases hm : isMat M
  · rw [hm] at k54
    refine W.seq (W.chunk ?_)
    simp (disch := first|omega|exact zE rfl|exact zO|exact zL rfl) [-List.reduceReplicate, c43_o0, size_mk, get_mk_lt, get_mk_ge, frameOf, Eff.app, Heap.setOwn, q]
    refine W.seq (W.chunk ?_)
    simp (disch := first|omega|exact zE rfl|exact zO|exact zL rfl) [-List.reduceReplicate, c43_o1, size_mk, get_mk_lt, get_mk_ge, frameOf, Eff.app, Heap.setOwn, q, k54, hZ, ep, rp, hl, frameOf]
    refine W.assoc ?_
    refine W.seq (W.chunk ?_)
    simp (disch := first|omega|exact zE rfl|exact zO|exact zL rfl) [-List.reduceReplicate, c43_o2, size_mk, get_mk_lt, get_mk_ge, frameOf, Eff.app, Heap.setOwn, q]
    refine W.seq (W.chunk ?_)
    simp (disch := first|omega|exact zE rfl|exact zO|exact zL rfl) [-List.reduceReplicate, c43_o3, size_mk, get_mk_lt, get_mk_ge, frameOf, Eff.app, Heap.setOwn, q]
    exact fin _ _ (by simp [T.get]) (by simp [T.get])
  · rw [hm] at k54
    simp only [hm, true_and] at hb
    refine W.seq (W.chunk ?_)
    simp (disch := first|omega|exact zE rfl|exact zO|exact zL rfl) [-List.reduceReplicate, c43_o0, size_mk, get_mk_lt, get_mk_ge, frameOf, Eff.app, Heap.setOwn, q]
    refine W.seq (W.chunk ?_)
    simp (disch := first|omega|exact zE rfl|exact zO|exact zL rfl) [-List.reduceReplicate, c43_o1, size_mk, get_mk_lt, get_mk_ge, frameOf, Eff.app, Heap.setOwn, q, k54, hZ, ep, rp, hl, frameOf]
    refine W.assoc ?_
    refine W.seq (W.chunk ?_)
    simp (disch := first|omega|exact zE rfl|exact zO|exact zL rfl) [-List.reduceReplicate, c43_o2, size_mk, get_mk_lt, get_mk_ge, frameOf, Eff.app, Heap.setOwn, q, kk]
    refine W.seq (W.chunk ?_)
    simp (disch := first|omega|exact zE rfl|exact zO|exact zL rfl) [-List.reduceReplicate, c43_o3, size_mk, get_mk_lt, get_mk_ge, frameOf, Eff.app, Heap.setOwn, q]
    exact fin _ _ (by simp [T.get]) (by simp [T.get])
def pwL (M : List (List Int)) (k : Nat) : List (List Int) := (List.range M.length).map fun i => rwL (pwX M k) M.length i
theorem c43_ok (J : CallF) (k54 : K54 J) (k57 : K57 J) (k72 : K72 J) (k73 : K73 J) (k74 : K74 J) (hJ : ∀ a h, J 43 a h = none) (h : Heap) (hy : MR h y M) (hm : isMat M = true) {k : Nat} (hk : k ≤ 100) :
    ∃ v own, CallsTo tbl J 43 [y, G k] h (v, own, false) ∧ (¬ okP M k → v = .tup [.nils, G 5] ∧ own = []) ∧ (okP M k → ∃ w, v = .tup [w, G 0] ∧ TB h (h.plus own) w ((pwL M k).map gs)) := by
  refine Tr.fny (cf := c43) (e := .ret) (s := T.set (T.set .leaf [] y) [false] (G k)) (by decide) rfl (hJ _ _) rfl rfl (by simp) ?_
  obtain ⟨cs, k54, hl, hc⟩ := k54 ⟨h.get, h.size, []⟩ y M (hy.lo [])
  have rp : (List.replicate 65 (AV.int .i64 0)).length = 65 := List.length_replicate
  obtain rfl := hc hm
  have ep : putAt (List.replicate 65 (AV.int .i64 0)) 0 (matC M) = matC M := putAt_all _ _ (by omega)
  have h8 := isMat_n hm
  obtain ⟨l1, l2⟩ := c43_l J k73 h hm hk k 0 (by omega) (fun m hm => absurd hm (by omega))
  refine Tr.w fun s1 H1 hp R kR => ?_
  obtain ⟨rfl, rfl⟩ := hp
  have q : True := trivial
  have kk := fun h => k57 k 0 100 h
  have k72' := fun h => k72 h M hm
  have lo := sq_len (onF M.length)
  have lz := sq_len fun _ => 0
  have rs := sq_rep
  have ep2 : putAt (sq fun _ => 0) 0 (sq (onF M.length)) = sq (onF M.length) := putAt_all _ _ (by omega)
  have et : (matC M).take 65 = matC M := List.take_of_length_le (by omega)
  have rp2 : List.replicate 65 (AV.int .i64 0) = List.replicate 65 (AV.int .i64 0) := rfl
  generalize hZ : List.replicate 65 (AV.int .i64 0) = Z at *
  rw [hm] at k54
  by_cases c : okP M k
  · have l1 := l1 c
    obtain ⟨w, own, k74, tb⟩ := k74 ⟨h.get, h.size, [.cells 0 65 (matC M), .cells 0 64 (sq (pwX M k))]⟩ ⟨M, pwX M k⟩ hm
    simp only at k74
    have tb := tb.up
    have et3 : (sq (pwX M k)).take 64 = sq (pwX M k) := List.take_of_length_le (by rw [sq_len]; exact Nat.le_refl _)
    have l3 := sq_len (pwX M k)
    refine W.seq (W.chunk ?_)
    simp (disch := first|omega|exact zE rfl|exact zO|exact zL rfl) [-List.reduceReplicate, c43_o0, size_mk, get_mk_lt, get_mk_ge, frameOf, Eff.app, Heap.setOwn, q]
    refine W.seq (W.chunk ?_)
    simp (disch := first|omega|exact zE rfl|exact zO|exact zL rfl) [-List.reduceReplicate, c43_o1, size_mk, get_mk_lt, get_mk_ge, frameOf, Eff.app, Heap.setOwn, q, k54, hZ, ep, rp, hl, frameOf]
    refine W.assoc ?_
    refine W.seq (W.chunk ?_)
    simp (disch := first|omega|exact zE rfl|exact zO|exact zL rfl) [-List.reduceReplicate, c43_o2, size_mk, get_mk_lt, get_mk_ge, frameOf, Eff.app, Heap.setOwn, q, kk]
    refine W.seq (W.chunk ?_)
    simp (disch := first|omega|exact zE rfl|exact zO|exact zL rfl) [-List.reduceReplicate, c43_o3, size_mk, get_mk_lt, get_mk_ge, frameOf, Eff.app, Heap.setOwn, q]
    refine W.seq (W.chunk ?_)
    simp (disch := first|omega|exact zE rfl|exact zO|exact zL rfl) [-List.reduceReplicate, c43_o4, size_mk, get_mk_lt, get_mk_ge, frameOf, Eff.app, Heap.setOwn, q, et, hl, k72', lo, lz, rs, ep2]
    refine W.assoc ?_
    refine W.seq (W.chunk ?_)
    simp (disch := first|omega|exact zE rfl|exact zO|exact zL rfl) [-List.reduceReplicate, c43_o5, size_mk, get_mk_lt, get_mk_ge, frameOf, Eff.app, Heap.setOwn, q]
    refine W.seq (W.block ?_)
    refine W.use (l1) (by simp (disch := first|omega|exact zE rfl|exact zO|exact zL rfl) [-List.reduceReplicate, size_mk, get_mk_lt, get_mk_ge, frameOf, Eff.app, Heap.setOwn, q, HQ, pwX, hl, lo]) fun s1 H1 hp => ?_
    obtain ⟨rfl, q⟩ := hp
    try simp only [zW, if_true]
    simp only [HQ]
    refine W.seq (W.chunk ?_)
    simp (disch := first|omega|exact zE rfl|exact zO|exact zL rfl) [-List.reduceReplicate, c43_o11, zG, q, get_mk_ge, et, et3, hl, l3, k74, app_if, app_if']
    refine W.ret ?_
    try simp only [zW, if_true]
    exact kR _ _ ⟨[w, G 0], by simp [T.get, c43, evRess, evRes], fun q => absurd c q, fun _ => ⟨w, rfl, by
      have e : ((pwL M k).map gs) = ((List.range M.length).map fun i => gs (rwL (pwX M k) M.length i)) := by unfold pwL; rw [List.map_map]; rfl
      rw [e]
      split
      · rename_i hf
        obtain ⟨rs', lv, hl', hr⟩ := tb.r
        rcases lv with ⟨rfl, rfl⟩ | ⟨b, rfl, g, n⟩
        · simp at hl'; omega
        · simp [one, AV.flat, AV.flats] at hf
      · exact tb.fr⟩⟩
  · have l2 := l2 c
    refine W.seq (W.chunk ?_)
    simp (disch := first|omega|exact zE rfl|exact zO|exact zL rfl) [-List.reduceReplicate, c43_o0, size_mk, get_mk_lt, get_mk_ge, frameOf, Eff.app, Heap.setOwn, q]
    refine W.seq (W.chunk ?_)
    simp (disch := first|omega|exact zE rfl|exact zO|exact zL rfl) [-List.reduceReplicate, c43_o1, size_mk, get_mk_lt, get_mk_ge, frameOf, Eff.app, Heap.setOwn, q, k54, hZ, ep, rp, hl, frameOf]
    refine W.assoc ?_
    refine W.seq (W.chunk ?_)
    simp (disch := first|omega|exact zE rfl|exact zO|exact zL rfl) [-List.reduceReplicate, c43_o2, size_mk, get_mk_lt, get_mk_ge, frameOf, Eff.app, Heap.setOwn, q, kk]
    refine W.seq (W.chunk ?_)
    simp (disch := first|omega|exact zE rfl|exact zO|exact zL rfl) [-List.reduceReplicate, c43_o3, size_mk, get_mk_lt, get_mk_ge, frameOf, Eff.app, Heap.setOwn, q]
    refine W.seq (W.chunk ?_)
    simp (disch := first|omega|exact zE rfl|exact zO|exact zL rfl) [-List.reduceReplicate, c43_o4, size_mk, get_mk_lt, get_mk_ge, frameOf, Eff.app, Heap.setOwn, q, et, hl, k72', lo, lz, rs, ep2]
    refine W.assoc ?_
    refine W.seq (W.chunk ?_)
    simp (disch := first|omega|exact zE rfl|exact zO|exact zL rfl) [-List.reduceReplicate, c43_o5, size_mk, get_mk_lt, get_mk_ge, frameOf, Eff.app, Heap.setOwn, q]
    refine W.seq (W.block ?_)
    refine W.use (l2) (by simp (disch := first|omega|exact zE rfl|exact zO|exact zL rfl) [-List.reduceReplicate, size_mk, get_mk_lt, get_mk_ge, frameOf, Eff.app, Heap.setOwn, q, HQ, pwX, hl, lo]) fun s1 H1 hp => ?_
    obtain ⟨q1, q2⟩ := hp
    try simp only [zW, if_true]
    exact kR _ _ ⟨[.nils, G 5], by simp [c43, evRess, evRes, q1, q2], fun _ => (by simp [one, AV.flat, AV.flats]), fun q => absurd q c⟩
end
section
variable {M : List (List Int)}
structure E46 (M : List (List Int)) (X : Nat → Int) (H : Heap) (b v q0 : Nat) (cs rs : List AV) : Prop where
  mx : MX H M b v cs
  gq : H.get q0 = .cells 1 M.length rs
  r : ∀ i, i < M.length → ∃ b2, rs[i]? = some (.slice b2 0 M.length M.length) ∧ H.get b2 = .cells 1 M.length (gs (rwL X M.length i))
theorem E46.kp {X : Nat → Int} {H H' : Heap} {b v q0 : Nat} {cs rs : List AV} (e : E46 M X H b v q0 cs rs) (k : Kp (fun _ => False) H H') : E46 M X H' b v q0 cs rs :=
  ⟨e.mx.kp k, k.at e.gq (by simp) id, fun i hi => by obtain ⟨b2, x, y⟩ := e.r i hi; exact ⟨b2, x, k.at y (by simp) id⟩⟩
end
theorem TB.base {H0 H1 H : Heap} {x : AV} {L : List (List AV)} (k : Kp (fun _ => False) H0 H1) (t : TB H1 H x L) : TB H0 H x L := by
  obtain ⟨rs, lv, hl, hr⟩ := t.r
  exact ⟨k.trans t.k, fun q hq => Nat.le_trans k.size (t.x0 q hq), rs, lv, hl, fun i r hi => by
    obtain ⟨cs, b, h1, h2, h3, h4, h5⟩ := hr i r hi
    exact ⟨cs, b, h1, h2, h3, h4, Nat.le_trans k.size h5⟩⟩
section
variable {M : List (List Int)}
theorem pwL_len (k : Nat) : ((pwL M k).map gs).length = M.length := by simp [pwL]
theorem pwL_at (k : Nat) {i : Nat} (hi : i < M.length) : ((pwL M k).map gs)[i]? = some (gs (rwL (pwX M k) M.length i)) := by simp [pwL, hi]
end
structure A43 where
  M : List (List Int)
  y : AV
  k : Int
def pkOk (a : A43) : Prop := isMat a.M = true ∧ 0 ≤ a.k ∧ a.k ≤ 100
def Pre43 (a : A43) (args : List AV) (h : Heap) : Prop := MR h a.y a.M ∧ args = [a.y, G a.k]
def Post43 (a : A43) (h : Heap) (v : AV) (own : List AObj) : Prop := (¬ pkOk a → v = .tup [.nils, G 2] ∧ own = []) ∧ (pkOk a → ¬ okP a.M a.k.toNat → v = .tup [.nils, G 5] ∧ own = []) ∧ (pkOk a → okP a.M a.k.toNat → ∃ w, v = .tup [w, G 0] ∧ TB h (h.plus own) w ((pwL a.M a.k.toNat).map gs))
noncomputable def T16 : CallF := addK tbl T15 43 Pre43 Post43
theorem t16 : Sound Go.Proofs.Try.prog T16 := Sound.addK follows ok t15 (by decide) _ _
abbrev K43 (J : CallF) : Prop := ∀ (h : Heap) (a : A43), MR h a.y a.M → ∃ v own, J 43 [a.y, G a.k] h = some (v, own, false) ∧ Post43 a h v own
theorem k54_15 : K54 T15 := fun h y M hy => by
  simp (disch := decide) only [T15, T14, T13, T12, T11, T10, T9, T8, T7, T6, T5, T4, T3, T2, T1, R21, R20, R19, R18, R17, R16, R15, R14, R13, R12, R11, R10, R9, R8, R7, R6, R5, R4, R3, R2, R1, addI_ne, addX_ne, addV_ne, addK_ne]
  exact k54 h y M hy
theorem k57_15 : K57 T15 := fun n lo hi h => by
  simp (disch := decide) only [T15, T14, T13, T12, T11, T10, T9, T8, T7, T6, T5, T4, T3, T2, T1, R21, R20, R19, R18, R17, R16, R15, R14, R13, R12, R11, R10, R9, R8, R7, R6, R5, R4, R3, R2, R1, addI_ne, addX_ne, addV_ne, addK_ne]
  exact k57 n lo hi h
theorem k72_15 : K72 T15 := fun h M hm => by
  simp (disch := decide) only [T15, T14, addK_ne]
  exact k72 h M hm
theorem k73_15 : K73 T15 := fun h a ha => by
  simp (disch := decide) only [T15, addK_ne]
  exact k73 h a ha
theorem k43 : K43 T16 := fun h a ha => addK_some (Pre := Pre43) (Post := Post43) (fun a args h hp => by
  obtain ⟨hy, rfl⟩ := hp
  have hn : ∀ a h, T15 43 a h = none := (fun _ _ => by simp (disch := decide) only [T15, T14, T13, T12, T11, T10, T9, T8, T7, T6, T5, T4, T3, T2, T1, R21, R20, R19, R18, R17, R16, R15, R14, R13, R12, R11, R10, R9, R8, R7, R6, R5, R4, R3, R2, R1, addI_ne, addX_ne, addV_ne, addK_ne]; rfl)
  by_cases c : pkOk a
  · obtain ⟨k, hk⟩ : ∃ k : Nat, a.k = k := ⟨a.k.toNat, by have := c.2; omega⟩
    obtain ⟨c1, c2⟩ := id c
    obtain ⟨v, own, e, p1, p2⟩ := c43_ok T15 k54_15 k57_15 k72_15 k73_15 k74 hn h hy c1 (k := k) (by omega)
    rw [hk]
    refine ⟨v, own, e, fun q => absurd c q, fun _ q => p1 ?_, fun _ q => ?_⟩
    · rw [hk] at q; simpa using q
    · rw [hk] at q ⊢; simpa using p2 (by simpa using q)
  · exact ⟨_, _, c43_bad T15 k54_15 k57_15 hn h hy c, fun _ => ⟨rfl, rfl⟩, fun q => absurd q c, fun q => absurd q c⟩) a _ h ⟨ha, rfl⟩
structure A46 where
  M : List (List Int)
  y : AV
  k : Nat
def Ok46 (a : A46) (h : Heap) : Prop := MR h a.y a.M ∧ isMat a.M = true ∧ a.k ≤ 100
def Pre46 (a : A46) (args : List AV) (h : Heap) : Prop := Ok46 a h ∧ args = [a.y, G a.k]
def Post46 (a : A46) (h : Heap) (v : AV) (own : List AObj) : Prop := (¬ okP a.M a.k → v = .tup [.nils, .bool false] ∧ own = []) ∧ (okP a.M a.k → ∃ w, v = .tup [w, .bool true] ∧ TB h (h.plus own) w ((pwL a.M a.k).map gs))
noncomputable def T17 : CallF := addK tbl T16 46 Pre46 Post46
theorem t17 : Sound Go.Proofs.Try.prog T17 := Sound.addK follows ok t16 (by decide) _ _
section
variable {M : List (List Int)}
theorem dt_le (hm : isMat M = true) {X : Nat → Int} {B : Int} (hB : 0 ≤ B) (hX : ∀ x, 0 ≤ X x ∧ X x ≤ B) (i j : Nat) : ∀ k : Nat, dt M X i j k ≤ k * (B * 9)
  | 0 => by simp [dt]
  | k + 1 => by
    have a := dt_le hm hB hX i j k
    have e := ent_bd hm k j
    have b : X (i * 8 + k) * ent M k j ≤ B * 9 := Int.mul_le_mul (hX _).2 e.2 e.1 hB
    show dt M X i j k + X (i * 8 + k) * ent M k j ≤ ((k + 1 : Nat) : Int) * (B * 9)
    rw [Int.natCast_add, Int.add_mul]
    show _ ≤ (k : Int) * (B * 9) + 1 * (B * 9)
    rw [Int.one_mul]
    omega
theorem pwX_le (hm : isMat M = true) : ∀ k x, 0 ≤ pwX M k x ∧ pwX M k x ≤ (72 : Int) ^ k
  | 0, x => by
    show 0 ≤ onF M.length x ∧ onF M.length x ≤ 1
    unfold onF
    split <;> decide
  | k + 1, x => by
    have ih := pwX_le hm k
    have h8 := isMat_n hm
    have hB : (0 : Int) ≤ 72 ^ k := Int.le_trans (ih 0).1 (ih 0).2
    show 0 ≤ prF M (pwX M k) x ∧ prF M (pwX M k) x ≤ 72 ^ (k + 1)
    have hp : (72 : Int) ^ (k + 1) = 72 ^ k * 72 := Int.pow_succ _ _
    unfold prF
    by_cases c : x / 8 < M.length
    · rw [if_pos c]
      refine ⟨dt_nn hm (fun x => (ih x).1) _ _ _, ?_⟩
      have a := dt_le hm hB ih (x / 8) (x % 8) M.length
      have b : (M.length : Int) * ((72 : Int) ^ k * 9) ≤ 8 * ((72 : Int) ^ k * 9) := Int.mul_le_mul_of_nonneg_right (by omega) (by omega)
      rw [hp]
      generalize (72 : Int) ^ k = B at *
      omega
    · rw [if_neg c]
      exact ⟨Int.le_refl _, by rw [hp]; omega⟩
theorem okP_small (hm : isMat M = true) {k : Nat} (hk : k ≤ 9) : okP M k := fun m hmk i _ hi j _ hj => by
  have h8 := isMat_n hm
  have := (pwX_le hm (m + 1) (i * 8 + j)).2
  have e : pwX M (m + 1) (i * 8 + j) = dt M (pwX M m) i j M.length := by
    show prF M (pwX M m) (i * 8 + j) = _
    unfold prF
    rw [show (i * 8 + j) / 8 = i by omega, show (i * 8 + j) % 8 = j by omega, if_pos hi]
  rw [e] at this
  have : m = 0 ∨ m = 1 ∨ m = 2 ∨ m = 3 ∨ m = 4 ∨ m = 5 ∨ m = 6 ∨ m = 7 ∨ m = 8 := by omega
  rcases this with rfl | rfl | rfl | rfl | rfl | rfl | rfl | rfl | rfl <;> (have h := ‹dt _ _ _ _ _ ≤ _›; exact Int.le_trans h (by decide))
def sm (f : Nat → Int) : Nat → Int
  | 0 => 0
  | k + 1 => sm f k + f k
theorem sm_congr {f g : Nat → Int} : ∀ {n}, (∀ k, k < n → f k = g k) → sm f n = sm g n
  | 0, _ => rfl
  | n + 1, h => by
    show sm f n + f n = sm g n + g n
    rw [sm_congr (fun k hk => h k (by omega)), h n (by omega)]
theorem sm_zero (n : Nat) : sm (fun _ => 0) n = 0 := by
  induction n with
  | zero => rfl
  | succ n ih => show sm _ n + 0 = 0; rw [ih]; rfl
theorem sm_one {f : Nat → Int} {n k : Nat} (hk : k < n) (h : ∀ j, j < n → j ≠ k → f j = 0) : sm f n = f k := by
  induction n with
  | zero => omega
  | succ n ih =>
    show sm f n + f n = f k
    by_cases e : k = n
    · subst e
      have : sm f k = sm (fun _ => 0) k := sm_congr fun j hj => h j (by omega) (by omega)
      rw [this, sm_zero]; omega
    · rw [ih (by omega) (fun j hj hne => h j (by omega) hne), h n (by omega) (fun e' => e e'.symm)]; omega
theorem dt_sm (X : Nat → Int) (i j : Nat) : ∀ k, dt M X i j k = sm (fun k => X (i * 8 + k) * ent M k j) k
  | 0 => rfl
  | k + 1 => by
    show dt M X i j k + _ = sm _ k + _
    rw [dt_sm X i j k]
theorem pwX_s {k i j : Nat} (hi : i < M.length) (hj : j < 8) : pwX M (k + 1) (i * 8 + j) = sm (fun h => pwX M k (i * 8 + h) * ent M h j) M.length := by
  show prF M (pwX M k) (i * 8 + j) = _
  unfold prF
  rw [show (i * 8 + j) / 8 = i by omega, show (i * 8 + j) % 8 = j by omega, if_pos hi, dt_sm]
end
structure TT (H : Heap) (n : Nat) (X : Nat → Int) (q : Nat) (rs : List AV) : Prop where
  g : H.get q = .cells 1 n rs
  r : ∀ i, i < n → ∃ b, rs[i]? = some (.slice b 0 n n) ∧ H.get b = .cells 1 n (gs (rwL X n i))
theorem TT.kp {H H' : Heap} {n : Nat} {X : Nat → Int} {q : Nat} {rs : List AV} (t : TT H n X q rs) (k : Kp (fun _ => False) H H') : TT H' n X q rs :=
  ⟨k.at t.g (by simp) id, fun i hi => by obtain ⟨b, e1, e2⟩ := t.r i hi; exact ⟨b, e1, k.at e2 (by simp) id⟩⟩
theorem TB.tt {H0 H : Heap} {x : AV} {M : List (List Int)} {k : Nat} (hm : isMat M = true) (tb : TB H0 H x ((pwL M k).map gs)) : ∃ q rs, x = .slice q 0 M.length M.length ∧ TT H M.length (pwX M k) q rs := by
  have h8 := isMat_n hm
  obtain ⟨q0, rs, e, gq, lq, hr⟩ := tb.sl (i := 0) (by rw [pwL_len]; omega)
  rw [pwL_len] at e gq
  refine ⟨q0, rs, e, gq, fun i hi => ?_⟩
  obtain ⟨b2, e1, e2⟩ := hr i _ (pwL_at k hi)
  have lr : (gs (rwL (pwX M k) M.length i)).length = M.length := by simp [rwL, lf_len]
  rw [lr] at e1 e2
  exact ⟨b2, e1, e2⟩
section
variable {n : Nat} {A B C : Nat → Int} {qa qb qc : Nat} {ra rb rc : List AV} {H : Heap}
end
abbrev w6 (x : Int) : Int := IntKind.i64.wrap x
theorem w6_eq (x : Int) : w6 x = (x + 9223372036854775808) % 18446744073709551616 - 9223372036854775808 := by
  unfold w6 IntKind.wrap IntKind.bits IntKind.signed
  simp; omega
theorem w6_0 : w6 0 = 0 := by rw [w6_eq]; decide
theorem w6_add (x p : Int) : w6 (w6 x + w6 p) = w6 (x + p) := by
  simp only [w6_eq]; omega
section
variable {M : List (List Int)}
def sP (M : List (List Int)) (X : Nat → Int) (i j h : Nat) : Int := sm (fun h => ent M i h * X (h * 8 + j)) h
def fuC (M : List (List Int)) (X : Nat → Int) (c : Int) (i j : Nat) : Int := if j < M.length then (if i = j then w6 (w6 (sP M X i j M.length) + c) else w6 (sP M X i j M.length)) else 0
def nxX (M : List (List Int)) (X : Nat → Int) (c : Int) (x : Nat) : Int := if x / 8 < M.length then fuC M X c (x / 8) (x % 8) else 0
def pP (M : List (List Int)) (X : Nat → Int) (c : Int) (i j h x : Nat) : Int := if x / 8 < i then fuC M X c (x / 8) (x % 8) else if x / 8 = i then (if x % 8 < j then w6 (sP M X i (x % 8) M.length) else if x % 8 = j then w6 (sP M X i j h) else 0) else 0
theorem pP_0 (X : Nat → Int) (c : Int) : pP M X c 0 0 0 = fun _ => 0 := by
  funext x; unfold pP
  rw [if_neg (by omega)]
  split
  · rw [if_neg (by omega)]; split
    · exact w6_0
    · rfl
  · rfl
theorem pP_h (X : Nat → Int) (c : Int) (i j : Nat) : pP M X c i j M.length = pP M X c i (j + 1) 0 := by
  funext x; unfold pP
  by_cases h1 : x / 8 < i
  · rw [if_pos h1, if_pos h1]
  · rw [if_neg h1, if_neg h1]
    by_cases h2 : x / 8 = i
    · rw [if_pos h2, if_pos h2]
      by_cases h3 : x % 8 < j
      · rw [if_pos h3, if_pos (show x % 8 < j + 1 by omega)]
      · rw [if_neg h3]
        by_cases h4 : x % 8 = j
        · rw [if_pos h4, if_pos (show x % 8 < j + 1 by omega), h4]
        · rw [if_neg h4, if_neg (show ¬ x % 8 < j + 1 by omega)]
          split
          · exact w6_0.symm
          · rfl
    · rw [if_neg h2, if_neg h2]
theorem pP_at {X : Nat → Int} {c : Int} {i j h : Nat} (hj : j < 8) : pP M X c i j h (i * 8 + j) = w6 (sP M X i j h) := by
  unfold pP
  rw [if_neg (by omega), if_pos (by omega), if_neg (by omega), if_pos (by omega)]
theorem pP_set {X : Nat → Int} {c : Int} {i j h : Nat} (hi : i < 8) (hj : j < 8) : (sq (pP M X c i j h)).set (i * 8 + j) (G (w6 (sP M X i j h + ent M i h * X (h * 8 + j)))) = sq (pP M X c i j (h + 1)) := by
  rw [sq_set _ _ _ (by omega)]
  apply sq_ext
  intro x hx
  unfold pP
  by_cases e : x = i * 8 + j
  · rw [if_pos e, if_neg (by omega), if_pos (by omega), if_neg (by omega), if_pos (by omega)]; rfl
  · rw [if_neg e]
    by_cases h1 : x / 8 < i
    · rw [if_pos h1, if_pos h1]
    · rw [if_neg h1, if_neg h1]
      by_cases h2 : x / 8 = i
      · rw [if_pos h2, if_pos h2]
        by_cases h3 : x % 8 < j
        · rw [if_pos h3, if_pos h3]
        · rw [if_neg h3, if_neg h3, if_neg (by omega), if_neg (by omega)]
      · rw [if_neg h2, if_neg h2]
theorem pP_dg {X : Nat → Int} {c : Int} {i : Nat} (hi : i < M.length) (h8 : M.length ≤ 8) : (sq (pP M X c i M.length 0)).set (i * 8 + i) (G (w6 (w6 (sP M X i i M.length) + c))) = sq (pP M X c (i + 1) 0 0) := by
  rw [sq_set _ _ _ (by omega)]
  apply sq_ext
  intro x hx
  unfold pP fuC
  by_cases e : x = i * 8 + i
  · rw [if_pos e, if_pos (show x / 8 < i + 1 by omega), if_pos (show x % 8 < M.length by omega), if_pos (show x / 8 = x % 8 by omega), show x / 8 = i by omega, show x % 8 = i by omega]
  · rw [if_neg e]
    by_cases h1 : x / 8 < i
    · rw [if_pos h1, if_pos (show x / 8 < i + 1 by omega)]
    · rw [if_neg h1]
      by_cases h2 : x / 8 = i
      · rw [if_pos h2, if_pos (show x / 8 < i + 1 by omega)]
        by_cases h3 : x % 8 < M.length
        · rw [if_pos h3, if_pos h3, if_neg (by omega), h2]
        · rw [if_neg h3, if_neg h3]
          split
          · exact w6_0
          · rfl
      · rw [if_neg h2, if_neg (show ¬ x / 8 < i + 1 by omega)]
        split
        · rw [if_neg (by omega)]
          split
          · exact w6_0.symm
          · rfl
        · rfl
theorem pP_dgat {X : Nat → Int} {c : Int} {i : Nat} (hi : i < M.length) (h8 : M.length ≤ 8) : pP M X c i M.length 0 (i * 8 + i) = w6 (sP M X i i M.length) := by
  unfold pP
  rw [if_neg (by omega), if_pos (by omega), if_pos (by omega), show (i * 8 + i) % 8 = i by omega]
theorem pP_all (X : Nat → Int) (c : Int) : pP M X c M.length 0 0 = nxX M X c := by
  funext x; unfold pP nxX
  by_cases h1 : x / 8 < M.length
  · rw [if_pos h1, if_pos h1]
  · rw [if_neg h1, if_neg h1]
    split
    · rw [if_neg (by omega)]
      split
      · exact w6_0
      · rfl
    · rfl
def tI (M : List (List Int)) (X : Nat → Int) (i h : Nat) : Int := sm (fun h => ent M i h * X (h * 8 + i)) h
def tJ (M : List (List Int)) (X : Nat → Int) (i : Nat) : Int := sm (fun i => tI M X i M.length) i
def cf (k : Nat) (T : Int) : Int := w6 ((w6 (0 - w6 T)).tdiv k)
def pQ (M : List (List Int)) : Nat → (Nat → Int) × (Nat → Int)
  | 0 => (fun _ => 0, fun t => if t = M.length then 1 else 0)
  | k + 1 => (nxX M (pQ M k).1 ((pQ M k).2 (M.length - k)), fun t => if t = M.length - (k + 1) then cf (k + 1) (tJ M (nxX M (pQ M k).1 ((pQ M k).2 (M.length - k))) M.length) else (pQ M k).2 t)
def pyL (M : List (List Int)) : List Int := lf (pQ M M.length).2 (M.length + 1)
theorem n33_19 (J : CallF) {H : Heap} {bm bo bx n i j k l : Nat} {cm cx c0 c1 : List AV} {a b S : Int} (gm : H.get bm = .cells 0 65 cm) (gx : H.get bx = .cells 0 64 cx) (lm : cm.length = 65) (lx : cx.length = 64) (ea : cm[1 + i * 8 + l]? = some (G a)) (eb : cx[l * 8 + j]? = some (G b)) (e0 : c0[i * 8 + j]? = some (G (w6 S))) (l0 : c0.length = 64) (es : c0.set (i * 8 + j) (G (w6 (S + a * b))) = c1) (hi : i < n) (hj : j < n) (hl : l < n) (h8 : n ≤ 8) :
    Tr tbl J c33_o19 (fun s h => h = H.plus [.cells 0 64 c0] ∧ s.get [true, false] = .ptr bm 0 65 ∧ s.get [true, true] = .slice bo 0 (n + 1) (n + 1) ∧ s.get [false, false, false] = .ptr bx 0 64 ∧ s.get [true, false, false] = G k ∧ s.get [false, true, false] = .ptr H.size 0 64 ∧ s.get [true, true, false] = G i ∧ s.get [false, false, true] = G j ∧ s.get [true, false, true] = G l ∧ s.get [true, true, true, false, false] = G n ∧ s.get [false, false, false, true, false] = G i ∧ s.get [false, false, true, true, false] = G n ∧ s.get [true, false, true, true, false] = G j ∧ s.get [true, false, false, false, true] = G n ∧ s.get [false, true, false, false, true] = G l) .normal (fun s h => h = H.plus [.cells 0 64 c1] ∧ s.get [true, false] = .ptr bm 0 65 ∧ s.get [true, true] = .slice bo 0 (n + 1) (n + 1) ∧ s.get [false, false, false] = .ptr bx 0 64 ∧ s.get [true, false, false] = G k ∧ s.get [false, true, false] = .ptr H.size 0 64 ∧ s.get [true, true, false] = G i ∧ s.get [false, false, true] = G j ∧ s.get [true, true, true, false, false] = G n ∧ s.get [false, false, false, true, false] = G i ∧ s.get [false, false, true, true, false] = G n ∧ s.get [true, false, true, true, false] = G j ∧ s.get [true, false, false, false, true] = G n ∧ s.get [false, true, false, false, true] = G l) := by
  have gm' := fun c => plus_keep [c] gm (by simp)
  have gx' := fun c => plus_keep [c] gx (by simp)
  have ea' := getI ea
  have eb' := getI eb
  have e0' := getI e0
  have hw : IntKind.i64.wrap (IntKind.i64.wrap S + IntKind.i64.wrap (a * b)) = IntKind.i64.wrap (S + a * b) := w6_add S (a * b)
  refine Tr.w fun s1 H1 hp R kR => ?_
  obtain ⟨rfl, q⟩ := hp
  refine W.chunk ?_
  simp (disch := first|omega|exact zE rfl|exact zO|exact zL rfl) [c33_o19, zG, q, gm', gx', lm, lx, l0, ea, ea', eb, eb', e0, e0', hw, es, -evDraw_c, evDraw_0]
  exact kR _ _ (by simp [T.get, q])
theorem c33_l0_ok (J : CallF) (hm : isMat M = true) {H : Heap} {bm bo bx i j k : Nat} {X : Nat → Int} {c : Int} (gm : H.get bm = .cells 0 65 (matC M)) (gx : H.get bx = .cells 0 64 (sq X)) (hi : i < M.length) (hj : j < M.length) :
    Tr tbl J c33_l0 (fun s h => h = H.plus [.cells 0 64 (sq (pP M X c i j 0))] ∧ s.get [true, false] = .ptr bm 0 65 ∧ s.get [true, true] = .slice bo 0 (M.length + 1) (M.length + 1) ∧ s.get [false, false, false] = .ptr bx 0 64 ∧ s.get [true, false, false] = G k ∧ s.get [false, true, false] = .ptr H.size 0 64 ∧ s.get [true, true, false] = G i ∧ s.get [false, false, true] = G j ∧ s.get [true, true, true, false, false] = G M.length ∧ s.get [false, false, false, true, false] = G i ∧ s.get [false, false, true, true, false] = G M.length ∧ s.get [true, false, true, true, false] = G j ∧ s.get [true, false, false, false, true] = G M.length ∧ s.get [false, true, false, false, true] = G ((0 : Nat) : Int)) (.exit 6) (fun s h => h = H.plus [.cells 0 64 (sq (pP M X c i j M.length))] ∧ s.get [true, false] = .ptr bm 0 65 ∧ s.get [true, true] = .slice bo 0 (M.length + 1) (M.length + 1) ∧ s.get [false, false, false] = .ptr bx 0 64 ∧ s.get [true, false, false] = G k ∧ s.get [false, true, false] = .ptr H.size 0 64 ∧ s.get [true, true, false] = G i ∧ s.get [true, true, true, false, false] = G M.length ∧ s.get [false, false, false, true, false] = G i ∧ s.get [false, false, true, true, false] = G M.length ∧ s.get [true, false, true, true, false] = G j) := by
  have h8 := isMat_n hm
  refine Tr.rounds (P := fun l => (fun s h => h = H.plus [.cells 0 64 (sq (pP M X c i j l))] ∧ s.get [true, false] = .ptr bm 0 65 ∧ s.get [true, true] = .slice bo 0 (M.length + 1) (M.length + 1) ∧ s.get [false, false, false] = .ptr bx 0 64 ∧ s.get [true, false, false] = G k ∧ s.get [false, true, false] = .ptr H.size 0 64 ∧ s.get [true, true, false] = G i ∧ s.get [false, false, true] = G j ∧ s.get [true, true, true, false, false] = G M.length ∧ s.get [false, false, false, true, false] = G i ∧ s.get [false, false, true, true, false] = G M.length ∧ s.get [true, false, true, true, false] = G j ∧ s.get [true, false, false, false, true] = G M.length ∧ s.get [false, true, false, false, true] = G l)) (M := M.length) (fun l hl => ?_) ?_ (by simp) 0 (by omega)
  · refine Tr.w fun s1 H1 hp R kR => W.trim ?_
    obtain ⟨rfl, q⟩ := hp
    have t := n33_19 (bo := bo) (k := k) J gm gx (matC_len M) (sq_len X) (matC_at M (i := i) (j := l) (by omega) (by omega)) (sq_get X (i := l * 8 + j) (by omega) rfl) (sq_get (pP M X c i j l) (by omega) (pP_at (by omega))) (sq_len _) (pP_set (by omega) (by omega)) hi hj hl h8.2
    clear gm gx
    generalize sq (pP M X c i j (l + 1)) = c1 at *
    generalize sq (pP M X c i j l) = c0 at *
    generalize M.length = n at *
    refine W.seq (W.chunk ?_)
    simp (disch := first|omega|exact zE rfl|exact zO|exact zL rfl) [c33_o17, zG, q]
    refine W.seq (W.chunk ?_)
    simp (disch := first|omega|exact zE rfl|exact zO|exact zL rfl) [zG, q]
    refine W.seq (W.block ?_)
    refine W.seq (W.chunk ?_)
    simp (disch := first|omega|exact zE rfl|exact zO|exact zL rfl) [c33_o18, zG, q]
    refine W.use (t) (by simp (disch := first|omega|exact zE rfl|exact zO|exact zL rfl) [zG, q]) fun s1 H1 hp => ?_
    obtain ⟨rfl, q⟩ := hp
    try simp only [zW, if_true]
    refine W.chunk ?_
    simp (disch := first|omega|exact zE rfl|exact zO|exact zL rfl) [c33_o20, zG, q]
    exact kR _ _ (by simp [T.get, q])
  · refine Tr.w fun s1 H1 hp R kR => W.trim ?_
    obtain ⟨rfl, q⟩ := hp
    clear gm gx
    generalize M.length = n at *
    refine W.seq (W.chunk ?_)
    simp (disch := first|omega|exact zE rfl|exact zO|exact zL rfl) [c33_o17, zG, q]
    refine W.seq (W.chunk ?_)
    simp (disch := first|omega|exact zE rfl|exact zO|exact zL rfl) [zG, q]
    exact kR _ _ (by simp [T.get, q])
theorem c33_l1_ok (J : CallF) (hm : isMat M = true) {H : Heap} {bm bo bx i k : Nat} {X : Nat → Int} {c : Int} (gm : H.get bm = .cells 0 65 (matC M)) (gx : H.get bx = .cells 0 64 (sq X)) (hi : i < M.length) :
    Tr tbl J c33_l1 (fun s h => h = H.plus [.cells 0 64 (sq (pP M X c i 0 0))] ∧ s.get [true, false] = .ptr bm 0 65 ∧ s.get [true, true] = .slice bo 0 (M.length + 1) (M.length + 1) ∧ s.get [false, false, false] = .ptr bx 0 64 ∧ s.get [true, false, false] = G k ∧ s.get [false, true, false] = .ptr H.size 0 64 ∧ s.get [true, true, false] = G i ∧ s.get [true, true, true, false, false] = G M.length ∧ s.get [false, false, false, true, false] = G i ∧ s.get [false, false, true, true, false] = G M.length ∧ s.get [true, false, true, true, false] = G ((0 : Nat) : Int)) (.exit 4) (fun s h => h = H.plus [.cells 0 64 (sq (pP M X c i M.length 0))] ∧ s.get [true, false] = .ptr bm 0 65 ∧ s.get [true, true] = .slice bo 0 (M.length + 1) (M.length + 1) ∧ s.get [false, false, false] = .ptr bx 0 64 ∧ s.get [true, false, false] = G k ∧ s.get [false, true, false] = .ptr H.size 0 64 ∧ s.get [true, true, false] = G i ∧ s.get [true, true, true, false, false] = G M.length ∧ s.get [false, false, false, true, false] = G i) := by
  have h8 := isMat_n hm
  have e0 : (matC M)[0]? = some (G M.length) := rfl
  have e0' := getI e0
  have lm := matC_len M
  refine Tr.rounds (P := fun j => (fun s h => h = H.plus [.cells 0 64 (sq (pP M X c i j 0))] ∧ s.get [true, false] = .ptr bm 0 65 ∧ s.get [true, true] = .slice bo 0 (M.length + 1) (M.length + 1) ∧ s.get [false, false, false] = .ptr bx 0 64 ∧ s.get [true, false, false] = G k ∧ s.get [false, true, false] = .ptr H.size 0 64 ∧ s.get [true, true, false] = G i ∧ s.get [true, true, true, false, false] = G M.length ∧ s.get [false, false, false, true, false] = G i ∧ s.get [false, false, true, true, false] = G M.length ∧ s.get [true, false, true, true, false] = G j)) (M := M.length) (fun j hj => ?_) ?_ (by simp) 0 (by omega)
  · refine Tr.w fun s1 H1 hp R kR => W.trim ?_
    obtain ⟨rfl, q⟩ := hp
    have l0 := c33_l0_ok (bo := bo) (k := k) (c := c) J hm gm gx hi hj
    rw [pP_h] at l0
    have gm' := fun c => plus_keep [c] gm (by simp)
    clear gx
    generalize sq (pP M X c i (j + 1) 0) = c1 at *
    generalize sq (pP M X c i j 0) = c0 at *
    generalize matC M = cm at *
    generalize M.length = n at *
    refine W.seq (W.chunk ?_)
    simp (disch := first|omega|exact zE rfl|exact zO|exact zL rfl) [c33_o14, zG, q]
    refine W.seq (W.chunk ?_)
    simp (disch := first|omega|exact zE rfl|exact zO|exact zL rfl) [zG, q]
    refine W.seq (W.block ?_)
    refine W.seq (W.chunk ?_)
    simp (disch := first|omega|exact zE rfl|exact zO|exact zL rfl) [c33_o15, zG, q]
    refine W.seq (W.chunk ?_)
    simp (disch := first|omega|exact zE rfl|exact zO|exact zL rfl) [c33_o16, zG, q, gm', e0, e0', lm]
    refine W.block ?_
    refine W.use (l0) (by simp (disch := first|omega|exact zE rfl|exact zO|exact zL rfl) [zG, q]) fun s1 H1 hp => ?_
    obtain ⟨rfl, q⟩ := hp
    try simp only [zW, if_true]
    refine W.chunk ?_
    simp (disch := first|omega|exact zE rfl|exact zO|exact zL rfl) [c33_o21, zG, q]
    exact kR _ _ (by simp [T.get, q])
  · refine Tr.w fun s1 H1 hp R kR => W.trim ?_
    obtain ⟨rfl, q⟩ := hp
    clear gm gx
    generalize M.length = n at *
    refine W.seq (W.chunk ?_)
    simp (disch := first|omega|exact zE rfl|exact zO|exact zL rfl) [c33_o14, zG, q]
    refine W.seq (W.chunk ?_)
    simp (disch := first|omega|exact zE rfl|exact zO|exact zL rfl) [zG, q]
    exact kR _ _ (by simp [T.get, q])
theorem c33_l2_ok (J : CallF) (hm : isMat M = true) {H : Heap} {bm bo bx k : Nat} {X C : Nat → Int} (gm : H.get bm = .cells 0 65 (matC M)) (gx : H.get bx = .cells 0 64 (sq X)) (go : H.get bo = .cells 1 (M.length + 1) (gs (lf C (M.length + 1)))) (hk : k < M.length) :
    Tr tbl J c33_l2 (fun s h => h = H.plus [.cells 0 64 (sq (pP M X (C (M.length - k)) 0 0 0))] ∧ s.get [true, false] = .ptr bm 0 65 ∧ s.get [true, true] = .slice bo 0 (M.length + 1) (M.length + 1) ∧ s.get [false, false, false] = .ptr bx 0 64 ∧ s.get [true, false, false] = G ((k + 1 : Nat) : Int) ∧ s.get [false, true, false] = .ptr H.size 0 64 ∧ s.get [true, true, true, false, false] = G M.length ∧ s.get [false, false, false, true, false] = G ((0 : Nat) : Int)) (.exit 2) (fun s h => h = H.plus [.cells 0 64 (sq (pP M X (C (M.length - k)) M.length 0 0))] ∧ s.get [true, false] = .ptr bm 0 65 ∧ s.get [true, true] = .slice bo 0 (M.length + 1) (M.length + 1) ∧ s.get [false, false, false] = .ptr bx 0 64 ∧ s.get [true, false, false] = G ((k + 1 : Nat) : Int) ∧ s.get [false, true, false] = .ptr H.size 0 64) := by
  have h8 := isMat_n hm
  have e0 : (matC M)[0]? = some (G M.length) := rfl
  have e0' := getI e0
  have lm := matC_len M
  refine Tr.rounds (P := fun i => (fun s h => h = H.plus [.cells 0 64 (sq (pP M X (C (M.length - k)) i 0 0))] ∧ s.get [true, false] = .ptr bm 0 65 ∧ s.get [true, true] = .slice bo 0 (M.length + 1) (M.length + 1) ∧ s.get [false, false, false] = .ptr bx 0 64 ∧ s.get [true, false, false] = G ((k + 1 : Nat) : Int) ∧ s.get [false, true, false] = .ptr H.size 0 64 ∧ s.get [true, true, true, false, false] = G M.length ∧ s.get [false, false, false, true, false] = G i)) (M := M.length) (fun i hi => ?_) ?_ (by simp) 0 (by omega)
  · refine Tr.w fun s1 H1 hp R kR => W.trim ?_
    obtain ⟨rfl, q⟩ := hp
    have l1 := c33_l1_ok (bo := bo) (k := k + 1) (c := C (M.length - k)) J hm gm gx hi
    have ed := sq_get (pP M X (C (M.length - k)) i M.length 0) (i := i * 8 + i) (by omega) (pP_dgat hi h8.2)
    have es := pP_dg (M := M) (X := X) (c := C (M.length - k)) hi h8.2
    have ec : (gs (lf C (M.length + 1)))[M.length - k]? = some (G (C (M.length - k))) := gl_at C (by omega)
    have lc := gl_len C (M.length + 1)
    have l2 := sq_len (pP M X (C (M.length - k)) i M.length 0)
    have ed' := getI ed
    have ec' := getI ec
    have gm' := fun c => plus_keep [c] gm (by simp)
    have go' := fun c => plus_keep [c] go (by simp)
    have hix : ((M.length : Int) - (k : Int)).toNat = M.length - k := by omega
    have hsub : (M.length : Int) - ((k : Int) + 1) + 1 = (M.length : Int) - k := by omega
    clear gx gm go
    generalize C (M.length - k) = c at *
    generalize hz : w6 (sP M X i i M.length) = z at *
    generalize sq (pP M X c (i + 1) 0 0) = c2 at *
    generalize sq (pP M X c i M.length 0) = c1 at *
    generalize sq (pP M X c i 0 0) = c0 at *
    generalize gs (lf C (M.length + 1)) = co at *
    generalize matC M = cm at *
    generalize M.length = n at *
    refine W.seq (W.chunk ?_)
    simp (disch := first|omega|exact zE rfl|exact zO|exact zL rfl) [c33_o11, zG, q]
    refine W.seq (W.chunk ?_)
    simp (disch := first|omega|exact zE rfl|exact zO|exact zL rfl) [zG, q]
    refine W.seq (W.block ?_)
    refine W.seq (W.chunk ?_)
    simp (disch := first|omega|exact zE rfl|exact zO|exact zL rfl) [c33_o12, zG, q]
    refine W.assoc ?_
    refine W.seq (W.chunk ?_)
    simp (disch := first|omega|exact zE rfl|exact zO|exact zL rfl) [c33_o13, zG, q, gm', e0, e0', lm]
    refine W.seq (W.block ?_)
    refine W.use (l1) (by simp (disch := first|omega|exact zE rfl|exact zO|exact zL rfl) [zG, q]) fun s1 H1 hp => ?_
    obtain ⟨rfl, q⟩ := hp
    try simp only [zW, if_true]
    refine W.chunk ?_
    simp (disch := first|omega|exact zE rfl|exact zO|exact zL rfl) [c33_o22, zG, q, gm', go', e0, e0', lm, ed, ed', ec, ec', lc, l2, hix, hsub, es, -evDraw_c, evDraw_0]
    refine W.chunk ?_
    simp (disch := first|omega|exact zE rfl|exact zO|exact zL rfl) [c33_o23, zG, q]
    exact kR _ _ (by simp [T.get, q])
  · refine Tr.w fun s1 H1 hp R kR => W.trim ?_
    obtain ⟨rfl, q⟩ := hp
    clear gm gx go
    generalize M.length = n at *
    refine W.seq (W.chunk ?_)
    simp (disch := first|omega|exact zE rfl|exact zO|exact zL rfl) [c33_o11, zG, q]
    refine W.seq (W.chunk ?_)
    simp (disch := first|omega|exact zE rfl|exact zO|exact zL rfl) [zG, q]
    exact kR _ _ (by simp [T.get, q])
theorem c33_l3_ok (J : CallF) (hm : isMat M = true) {H : Heap} {bm bo bx i k : Nat} {X : Nat → Int} {S : Int} (gm : H.get bm = .cells 0 65 (matC M)) (gx : H.get bx = .cells 0 64 (sq X)) (hi : i < M.length) :
    Tr tbl J c33_l3 (fun s h => h = H ∧ s.get [true, false] = .ptr bm 0 65 ∧ s.get [true, true] = .slice bo 0 (M.length + 1) (M.length + 1) ∧ s.get [false, false, false] = .ptr bx 0 64 ∧ s.get [true, false, false] = G k ∧ s.get [false, true, true] = G (w6 (S + tI M X i 0)) ∧ s.get [true, true, true] = G i ∧ s.get [false, true, true, true, true, false] = G M.length ∧ s.get [true, true, true, true, true, false] = G i ∧ s.get [true, true, false, false, false, true] = G M.length ∧ s.get [false, false, true, false, false, true] = G ((0 : Nat) : Int)) (.exit 10) (fun s h => h = H ∧ s.get [true, false] = .ptr bm 0 65 ∧ s.get [true, true] = .slice bo 0 (M.length + 1) (M.length + 1) ∧ s.get [false, false, false] = .ptr bx 0 64 ∧ s.get [true, false, false] = G k ∧ s.get [false, true, true] = G (w6 (S + tI M X i M.length)) ∧ s.get [false, true, true, true, true, false] = G M.length ∧ s.get [true, true, true, true, true, false] = G i) := by
  have h8 := isMat_n hm
  refine Tr.rounds (P := fun l => (fun s h => h = H ∧ s.get [true, false] = .ptr bm 0 65 ∧ s.get [true, true] = .slice bo 0 (M.length + 1) (M.length + 1) ∧ s.get [false, false, false] = .ptr bx 0 64 ∧ s.get [true, false, false] = G k ∧ s.get [false, true, true] = G (w6 (S + tI M X i l)) ∧ s.get [true, true, true] = G i ∧ s.get [false, true, true, true, true, false] = G M.length ∧ s.get [true, true, true, true, true, false] = G i ∧ s.get [true, true, false, false, false, true] = G M.length ∧ s.get [false, false, true, false, false, true] = G l)) (M := M.length) (fun l hl => ?_) ?_ (by simp) 0 (by omega)
  · refine Tr.w fun s1 H1 hp R kR => W.trim ?_
    obtain ⟨rfl, q⟩ := hp
    have ea := matC_at M (i := i) (j := l) (by omega) (by omega)
    have eb := sq_get X (i := l * 8 + i) (by omega) rfl
    have ea' := getI ea
    have eb' := getI eb
    have lm := matC_len M
    have lx := sq_len X
    have te : tI M X i (l + 1) = tI M X i l + ent M i l * X (l * 8 + i) := rfl
    have hw : IntKind.i64.wrap (IntKind.i64.wrap (S + tI M X i l) + IntKind.i64.wrap (ent M i l * X (l * 8 + i))) = IntKind.i64.wrap (S + tI M X i (l + 1)) := by
      rw [te, ← Int.add_assoc]; exact w6_add _ _
    generalize tI M X i (l + 1) = t1 at *
    generalize tI M X i l = t0 at *
    generalize ent M i l = a at *
    generalize X (l * 8 + i) = b at *
    generalize sq X = cx at *
    generalize matC M = cm at *
    generalize M.length = n at *
    refine W.seq (W.chunk ?_)
    simp (disch := first|omega|exact zE rfl|exact zO|exact zL rfl) [c33_o30, zG, q]
    refine W.seq (W.chunk ?_)
    simp (disch := first|omega|exact zE rfl|exact zO|exact zL rfl) [zG, q]
    refine W.seq (W.block ?_)
    refine W.seq (W.chunk ?_)
    simp (disch := first|omega|exact zE rfl|exact zO|exact zL rfl) [c33_o31, zG, q]
    refine W.chunk ?_
    simp (disch := first|omega|exact zE rfl|exact zO|exact zL rfl) [c33_o32, zG, q, gm, gx, ea, ea', eb, eb', lm, lx, hw, -evDraw_c, evDraw_0]
    refine W.chunk ?_
    simp (disch := first|omega|exact zE rfl|exact zO|exact zL rfl) [c33_o33, zG, q]
    exact kR _ _ (by simp [T.get, q])
  · refine Tr.w fun s1 H1 hp R kR => W.trim ?_
    obtain ⟨rfl, q⟩ := hp
    clear gm gx
    generalize M.length = n at *
    refine W.seq (W.chunk ?_)
    simp (disch := first|omega|exact zE rfl|exact zO|exact zL rfl) [c33_o30, zG, q]
    refine W.seq (W.chunk ?_)
    simp (disch := first|omega|exact zE rfl|exact zO|exact zL rfl) [zG, q]
    exact kR _ _ (by simp [T.get, q])
theorem c33_l4_ok (J : CallF) (hm : isMat M = true) {H : Heap} {bm bo bx k : Nat} {X : Nat → Int} (gm : H.get bm = .cells 0 65 (matC M)) (gx : H.get bx = .cells 0 64 (sq X)) :
    Tr tbl J c33_l4 (fun s h => h = H ∧ s.get [true, false] = .ptr bm 0 65 ∧ s.get [true, true] = .slice bo 0 (M.length + 1) (M.length + 1) ∧ s.get [false, false, false] = .ptr bx 0 64 ∧ s.get [true, false, false] = G k ∧ s.get [false, true, true] = G (w6 (tJ M X 0)) ∧ s.get [false, true, true, true, true, false] = G M.length ∧ s.get [true, true, true, true, true, false] = G ((0 : Nat) : Int)) (.exit 8) (fun s h => h = H ∧ s.get [true, false] = .ptr bm 0 65 ∧ s.get [true, true] = .slice bo 0 (M.length + 1) (M.length + 1) ∧ s.get [false, false, false] = .ptr bx 0 64 ∧ s.get [true, false, false] = G k ∧ s.get [false, true, true] = G (w6 (tJ M X M.length))) := by
  have h8 := isMat_n hm
  have e0 : (matC M)[0]? = some (G M.length) := rfl
  have e0' := getI e0
  have lm := matC_len M
  refine Tr.rounds (P := fun i => (fun s h => h = H ∧ s.get [true, false] = .ptr bm 0 65 ∧ s.get [true, true] = .slice bo 0 (M.length + 1) (M.length + 1) ∧ s.get [false, false, false] = .ptr bx 0 64 ∧ s.get [true, false, false] = G k ∧ s.get [false, true, true] = G (w6 (tJ M X i)) ∧ s.get [false, true, true, true, true, false] = G M.length ∧ s.get [true, true, true, true, true, false] = G i)) (M := M.length) (fun i hi => ?_) ?_ (by simp) 0 (by omega)
  · refine Tr.w fun s1 H1 hp R kR => W.trim ?_
    obtain ⟨rfl, q⟩ := hp
    have l3 := c33_l3_ok (bo := bo) (k := k) (S := tJ M X i) J hm gm gx hi
    rw [show tJ M X i + tI M X i M.length = tJ M X (i + 1) from rfl, show tJ M X i + tI M X i 0 = tJ M X i from Int.add_zero _] at l3
    clear gx
    generalize tJ M X (i + 1) = t1 at *
    generalize tJ M X i = t0 at *
    generalize matC M = cm at *
    generalize M.length = n at *
    refine W.seq (W.chunk ?_)
    simp (disch := first|omega|exact zE rfl|exact zO|exact zL rfl) [c33_o27, zG, q]
    refine W.seq (W.chunk ?_)
    simp (disch := first|omega|exact zE rfl|exact zO|exact zL rfl) [zG, q]
    refine W.seq (W.block ?_)
    refine W.seq (W.chunk ?_)
    simp (disch := first|omega|exact zE rfl|exact zO|exact zL rfl) [c33_o28, zG, q]
    refine W.seq (W.chunk ?_)
    simp (disch := first|omega|exact zE rfl|exact zO|exact zL rfl) [c33_o29, zG, q, gm, e0, e0', lm]
    refine W.block ?_
    refine W.use (l3) (by simp (disch := first|omega|exact zE rfl|exact zO|exact zL rfl) [zG, q]) fun s1 H1 hp => ?_
    obtain ⟨rfl, q⟩ := hp
    try simp only [zW, if_true]
    refine W.chunk ?_
    simp (disch := first|omega|exact zE rfl|exact zO|exact zL rfl) [c33_o34, zG, q]
    exact kR _ _ (by simp [T.get, q])
  · refine Tr.w fun s1 H1 hp R kR => W.trim ?_
    obtain ⟨rfl, q⟩ := hp
    clear gm gx
    generalize M.length = n at *
    refine W.seq (W.chunk ?_)
    simp (disch := first|omega|exact zE rfl|exact zO|exact zL rfl) [c33_o27, zG, q]
    refine W.seq (W.chunk ?_)
    simp (disch := first|omega|exact zE rfl|exact zO|exact zL rfl) [zG, q]
    exact kR _ _ (by simp [T.get, q])
end
section
variable {M : List (List Int)}
structure PS (h H : Heap) (M : List (List Int)) (k : Nat) : Prop where
  kp : Kp (fun _ => False) (frameOf h) H
  sz : h.size + 3 ≤ H.size
  gm : H.get h.size = .cells 0 65 (matC M)
  go : H.get (h.size + 1) = .cells 1 (M.length + 1) (gs (lf (pQ M k).2 (M.length + 1)))
  gx : H.get (h.size + 2) = .cells 0 64 (sq (pQ M k).1)
theorem pQ_set {k : Nat} (hk : k < M.length) : (gs (lf (pQ M k).2 (M.length + 1))).set (M.length - (k + 1)) (G (cf (k + 1) (tJ M (pQ M (k + 1)).1 M.length))) = gs (lf (pQ M (k + 1)).2 (M.length + 1)) := by
  rw [gl_set _ _ _ _ (by omega)]
  congr 1
theorem c33_step (J : CallF) (h : Heap) (hm : isMat M = true) {k : Nat} (hk : k < M.length) : Tr tbl J (.trim [[true, false], [true, true], [false, false, false], [true, false, false]] c33_b5) (fun s H => PS h H M k ∧ s.get [true, false] = .ptr h.size 0 65 ∧ s.get [true, true] = .slice (h.size + 1) 0 (M.length + 1) (M.length + 1) ∧ s.get [false, false, false] = .ptr (h.size + 2) 0 64 ∧ s.get [true, false, false] = G ((k + 1 : Nat) : Int)) .normal
    (fun s H => PS h H M (k + 1) ∧ s.get [true, false] = .ptr h.size 0 65 ∧ s.get [true, true] = .slice (h.size + 1) 0 (M.length + 1) (M.length + 1) ∧ s.get [false, false, false] = .ptr (h.size + 2) 0 64 ∧ s.get [true, false, false] = G ((k + 1 + 1 : Nat) : Int)) := by
  have h8 := isMat_n hm
  refine Tr.w fun s1 H1 hp R kR => W.trim ?_
  obtain ⟨ps, q⟩ := hp
  obtain ⟨kp, sz, gm, go, gx⟩ := ps
  have e0 : (matC M)[0]? = some (G M.length) := rfl
  have e0' := getI e0
  have lm := matC_len M
  have l2 := c33_l2_ok (bo := h.size + 1) J hm gm gx go hk
  rw [pP_0, pP_all, show nxX M (pQ M k).1 ((pQ M k).2 (M.length - k)) = (pQ M (k + 1)).1 from rfl] at l2
  have rp := sq_rep
  have lz := sq_len fun _ => 0
  have N1 : H1.N = h.size := kp.N
  have g1 : (H1.plus [.cells 0 64 (sq (pQ M (k + 1)).1)]).get H1.size = .cells 0 64 (sq (pQ M (k + 1)).1) := plus_at0 _ _ _ _ rfl
  have k1 : Kp (fun _ => False) (frameOf h) (H1.plus [.cells 0 64 (sq (pQ M (k + 1)).1)]) := kp.trans (Kp.plus _ _)
  have gm1 := plus_keep [.cells 0 64 (sq (pQ M (k + 1)).1)] gm (by simp)
  have gm0 := plus_keep [.cells 0 64 (sq fun _ => 0)] gm (by simp)
  have go1 := plus_keep [.cells 0 64 (sq (pQ M (k + 1)).1)] go (by simp)
  have gx1 := plus_keep [.cells 0 64 (sq (pQ M (k + 1)).1)] gx (by simp)
  have s1 : h.size + 3 ≤ (H1.plus [.cells 0 64 (sq (pQ M (k + 1)).1)]).size := by rw [plus_size]; omega
  have n1 : (H1.plus [.cells 0 64 (sq (pQ M (k + 1)).1)]).N = h.size := N1
  clear gx go
  generalize hHa : H1.plus [.cells 0 64 (sq (pQ M (k + 1)).1)] = Ha at *
  have fs : (frameOf h).size = h.size := by simp [frameOf, Heap.size]
  have p1 := put_gen Ha (h.size + 2) 64 0 0 (sq (pQ M k).1) (sq (pQ M (k + 1)).1) (by omega) gx1 (by rw [sq_len, sq_len]; omega)
  rw [show putAt (sq (pQ M k).1) 0 (sq (pQ M (k + 1)).1) = sq (pQ M (k + 1)).1 from putAt_all _ _ (by rw [sq_len, sq_len])] at p1
  have k2 : Kp (fun _ => False) (frameOf h) (Ha.upd (h.size + 2) (.cells 0 64 (sq (pQ M (k + 1)).1))) := k1.updn _ _ (by omega) (by omega)
  have gm2 : (Ha.upd (h.size + 2) (.cells 0 64 (sq (pQ M (k + 1)).1))).get h.size = .cells 0 65 (matC M) := by rw [upd_ne _ _ _ _ (by omega) (by omega)]; exact gm1
  have go2 : (Ha.upd (h.size + 2) (.cells 0 64 (sq (pQ M (k + 1)).1))).get (h.size + 1) = .cells 1 (M.length + 1) (gs (lf (pQ M k).2 (M.length + 1))) := by rw [upd_ne _ _ _ _ (by omega) (by omega)]; exact go1
  have gx2 : (Ha.upd (h.size + 2) (.cells 0 64 (sq (pQ M (k + 1)).1))).get (h.size + 2) = .cells 0 64 (sq (pQ M (k + 1)).1) := upd_same _ _ _ (by omega) (by omega)
  have s2 : h.size + 3 ≤ (Ha.upd (h.size + 2) (.cells 0 64 (sq (pQ M (k + 1)).1))).size := by rw [upd_size]; exact s1
  have n2 : (Ha.upd (h.size + 2) (.cells 0 64 (sq (pQ M (k + 1)).1))).N = h.size := n1
  generalize hHb : Ha.upd (h.size + 2) (.cells 0 64 (sq (pQ M (k + 1)).1)) = Hb at *
  have l4 := c33_l4_ok (bo := h.size + 1) (k := k + 1) J hm gm2 gx2
  rw [show tJ M (pQ M (k + 1)).1 0 = 0 from rfl, w6_0] at l4
  have es := pQ_set hk
  have p2 := put_gen Hb (h.size + 1) (M.length + 1) (M.length - (k + 1)) 1 (gs (lf (pQ M k).2 (M.length + 1))) [G (cf (k + 1) (tJ M (pQ M (k + 1)).1 M.length))] (by omega) go2 (by rw [gl_len]; show M.length - (k + 1) + 1 ≤ M.length + 1; omega)
  rw [show putAt (gs (lf (pQ M k).2 (M.length + 1))) (M.length - (k + 1)) [G (cf (k + 1) (tJ M (pQ M (k + 1)).1 M.length))] = gs (lf (pQ M (k + 1)).2 (M.length + 1)) from es] at p2
  have k3 : Kp (fun _ => False) (frameOf h) (Hb.upd (h.size + 1) (.cells 1 (M.length + 1) (gs (lf (pQ M (k + 1)).2 (M.length + 1))))) := k2.updn _ _ (by omega) (by omega)
  have ps3 : PS h (Hb.upd (h.size + 1) (.cells 1 (M.length + 1) (gs (lf (pQ M (k + 1)).2 (M.length + 1))))) M (k + 1) := ⟨k3, by rw [upd_size]; exact s2, by rw [upd_ne _ _ _ _ (by omega) (by omega)]; exact gm2, upd_same _ _ _ (by omega) (by omega), by rw [upd_ne _ _ _ _ (by omega) (by omega)]; exact gx2⟩
  generalize hHc : Hb.upd (h.size + 1) (.cells 1 (M.length + 1) (gs (lf (pQ M (k + 1)).2 (M.length + 1)))) = Hc at *
  have hc : IntKind.i64.wrap ((IntKind.i64.wrap (-w6 (tJ M (pQ M (k + 1)).1 M.length))).tdiv ((k : Int) + 1)) = cf (k + 1) (tJ M (pQ M (k + 1)).1 M.length) := by unfold cf; rw [Int.zero_sub]; rfl
  have hix : ((M.length : Int) - ((k : Int) + 1)).toNat = M.length - (k + 1) := by omega
  have et : (sq (pQ M (k + 1)).1).take 64 = sq (pQ M (k + 1)).1 := List.take_of_length_le (by rw [sq_len]; exact Nat.le_refl _)
  have lx := sq_len (pQ M (k + 1)).1
  generalize cf (k + 1) (tJ M (pQ M (k + 1)).1 M.length) = cc at *
  generalize w6 (tJ M (pQ M (k + 1)).1 M.length) = Tv at *
  clear kp k1 k2 k3 gx1 gx2 go1 go2 es
  generalize sq (pQ M (k + 1)).1 = X1 at *
  generalize sq (fun _ => 0) = z0 at *
  generalize gs (lf (pQ M k).2 (M.length + 1)) = co at *
  generalize matC M = cm at *
  generalize M.length = n at *
  have km : ¬ (k : Int) + 1 = 0 := by omega
  refine W.assoc ?_
  refine W.seq (W.chunk ?_)
  simp (disch := first|omega|exact zE rfl|exact zO|exact zL rfl) [-List.reduceReplicate, c33_o8, zG, q, gm, e0, e0', lm]
  refine W.seq (W.chunk ?_)
  simp (disch := first|omega|exact zE rfl|exact zO|exact zL rfl) [-List.reduceReplicate, zG, q]
  refine W.seq (W.block ?_)
  refine W.seq (W.chunk ?_)
  simp (disch := first|omega|exact zE rfl|exact zO|exact zL rfl) [-List.reduceReplicate, c33_o9, zG, q, rp, lz]
  refine W.assoc ?_
  refine W.seq (W.chunk ?_)
  simp (disch := first|omega|exact zE rfl|exact zO|exact zL rfl) [-List.reduceReplicate, c33_o10, zG, q, gm0, gm, e0, e0', lm]
  refine W.seq (W.block ?_)
  refine W.use (l2) (by simp (disch := first|omega|exact zE rfl|exact zO|exact zL rfl) [-List.reduceReplicate, zG, q]) fun s1 H1 hp => ?_
  obtain ⟨rfl, q⟩ := hp
  try simp only [zW, if_true]
  refine W.seq (W.chunk ?_)
  simp (disch := first|omega|exact zE rfl|exact zO|exact zL rfl) [-List.reduceReplicate, c33_o24, zG, q, hHa, g1, et, lx, p1]
  refine W.seq (W.chunk ?_)
  simp (disch := first|omega|exact zE rfl|exact zO|exact zL rfl) [-List.reduceReplicate, c33_o25, zG, q]
  refine W.assoc ?_
  refine W.seq (W.chunk ?_)
  simp (disch := first|omega|exact zE rfl|exact zO|exact zL rfl) [-List.reduceReplicate, c33_o26, zG, q, gm2, e0, e0', lm]
  refine W.seq (W.block ?_)
  refine W.use (l4) (by simp (disch := first|omega|exact zE rfl|exact zO|exact zL rfl) [-List.reduceReplicate, zG, q]) fun s1 H1 hp => ?_
  obtain ⟨rfl, q⟩ := hp
  try simp only [zW, if_true]
  refine W.chunk ?_
  simp (disch := first|omega|exact zE rfl|exact zO|exact zL rfl) [-List.reduceReplicate, c33_o35, zG, q, gm2, e0, e0', lm, hix, hc, km, p2, -evDraw_c, evDraw_0]
  refine W.chunk ?_
  simp (disch := first|omega|exact zE rfl|exact zO|exact zL rfl) [-List.reduceReplicate, c33_o36, zG, q]
  exact kR _ _ ⟨ps3, by simp [T.get, q]⟩
theorem c33_l5_ok (J : CallF) (h : Heap) (hm : isMat M = true) : Tr tbl J c33_l5 (fun s H => PS h H M 0 ∧ s.get [true, false] = .ptr h.size 0 65 ∧ s.get [true, true] = .slice (h.size + 1) 0 (M.length + 1) (M.length + 1) ∧ s.get [false, false, false] = .ptr (h.size + 2) 0 64 ∧ s.get [true, false, false] = G ((0 + 1 : Nat) : Int)) (.exit 0)
    (fun s H => PS h H M M.length ∧ s.get [true, true] = .slice (h.size + 1) 0 (M.length + 1) (M.length + 1)) := by
  have h8 := isMat_n hm
  refine Tr.rounds (P := fun k s H => PS h H M k ∧ s.get [true, false] = .ptr h.size 0 65 ∧ s.get [true, true] = .slice (h.size + 1) 0 (M.length + 1) (M.length + 1) ∧ s.get [false, false, false] = .ptr (h.size + 2) 0 64 ∧ s.get [true, false, false] = G ((k + 1 : Nat) : Int)) (M := M.length) (fun k hk => c33_step J h hm hk) ?_ (by simp) 0 (by omega)
  refine Tr.w fun s1 H1 hp R kR => W.trim ?_
  obtain ⟨ps, q⟩ := hp
  have gm := ps.gm
  have e0 : (matC M)[0]? = some (G M.length) := rfl
  have e0' := getI e0
  have lm := matC_len M
  refine W.assoc ?_
  refine W.seq (W.chunk ?_)
  simp (disch := first|omega|exact zE rfl|exact zO|exact zL rfl) [c33_o8, zG, q, gm, e0, e0', lm]
  refine W.seq (W.chunk ?_)
  simp (disch := first|omega|exact zE rfl|exact zO|exact zL rfl) [zG, q]
  exact kR _ _ ⟨ps, by simp [T.get, q]⟩
theorem c33_bad (J : CallF) (k54 : K54 J) (hJ : ∀ a h, J 33 a h = none) (h : Heap) {y : AV} (hy : MR h y M) (hm : isMat M = false) : CallsTo tbl J 33 [y] h (.tup [.nils, G 2], [], false) := by
  refine Tr.fnv (cf := c33) (e := .ret) (s := T.set .leaf [] y) (by decide) rfl (hJ _ _) rfl rfl rfl (by simp) ?_
  obtain ⟨cs, k54, hl, hc⟩ := k54 ⟨h.get, h.size, []⟩ y M (hy.lo [])
  have rp : (List.replicate 65 (AV.int .i64 0)).length = 65 := List.length_replicate
  have ep : putAt (List.replicate 65 (AV.int .i64 0)) 0 cs = cs := putAt_all _ _ (by omega)
  refine Tr.w fun s1 H1 hp R kR => ?_
  obtain ⟨rfl, rfl⟩ := hp
  have q : True := trivial
  generalize hZ : List.replicate 65 (AV.int .i64 0) = Z at *
  rw [hm] at k54
  refine W.seq (W.chunk ?_)
  simp (disch := first|omega|exact zE rfl|exact zO|exact zL rfl) [-List.reduceReplicate, c33_o0, size_mk, get_mk_lt, get_mk_ge, frameOf, Eff.app, Heap.setOwn, q]
  refine W.seq (W.chunk ?_)
  simp (disch := first|omega|exact zE rfl|exact zO|exact zL rfl) [-List.reduceReplicate, c33_o1, size_mk, get_mk_lt, get_mk_ge, frameOf, Eff.app, Heap.setOwn, q, k54, hZ, ep, rp, hl, frameOf]
  refine W.assoc ?_
  refine W.seq (W.chunk ?_)
  simp (disch := first|omega|exact zE rfl|exact zO|exact zL rfl) [-List.reduceReplicate, c33_o2, size_mk, get_mk_lt, get_mk_ge, frameOf, Eff.app, Heap.setOwn, q]
  refine W.seq (W.chunk ?_)
  simp (disch := first|omega|exact zE rfl|exact zO|exact zL rfl) [-List.reduceReplicate, c33_o3, size_mk, get_mk_lt, get_mk_ge, frameOf, Eff.app, Heap.setOwn, q]
  exact kR _ _ ⟨[.nils, G 2], by simp [T.get, c33, evRess, evRes], rfl⟩
theorem c33_ok (J : CallF) (k54 : K54 J) (hJ : ∀ a h, J 33 a h = none) (h : Heap) {y : AV} (hy : MR h y M) (hm : isMat M = true) : ∃ v own, CallsTo tbl J 33 [y] h (v, own, false) ∧ ∃ w, v = .tup [w, G 0] ∧ NG h (h.plus own) w (pyL M) := by
  refine Tr.fny (cf := c33) (e := .ret) (s := T.set .leaf [] y) (by decide) rfl (hJ _ _) rfl rfl (by simp) ?_
  obtain ⟨cs, k54, hl, hc⟩ := k54 ⟨h.get, h.size, []⟩ y M (hy.lo [])
  have rp : (List.replicate 65 (AV.int .i64 0)).length = 65 := List.length_replicate
  obtain rfl := hc hm
  have ep : putAt (List.replicate 65 (AV.int .i64 0)) 0 (matC M) = matC M := putAt_all _ _ (by omega)
  have h8 := isMat_n hm
  have e0 : (matC M)[0]? = some (G M.length) := rfl
  have e0' := getI e0
  have mk1 := fun H => mkSl_ok H 8 (G 0) (M.length + 1) ((M.length : Int) + 1) (by omega) (by omega)
  have rg := gl_rep (M.length + 1)
  have lg := gl_len (fun _ => 0) (M.length + 1)
  have es : (gs (lf (fun _ => 0) (M.length + 1))).set M.length (G 1) = gs (lf (pQ M 0).2 (M.length + 1)) := by
    rw [gl_set _ _ _ _ (by omega)]
    congr 1
  have rs := sq_rep
  have lz := sq_len fun _ => 0
  have lo := c33_l5_ok (M := M) J h hm
  have ps0 : PS h ⟨h.get, h.size, [.cells 0 65 (matC M), .cells 1 (M.length + 1) (gs (lf (pQ M 0).2 (M.length + 1))), .cells 0 64 (sq fun _ => 0)]⟩ M 0 :=
    ⟨Kp.plus (frameOf h) [.cells 0 65 (matC M), .cells 1 (M.length + 1) (gs (lf (pQ M 0).2 (M.length + 1))), .cells 0 64 (sq fun _ => 0)], by simp [Heap.size], by rw [get_mk_ge _ _ _ _ (by omega)]; simp, by rw [get_mk_ge _ _ _ _ (by omega)]; simp, by rw [get_mk_ge _ _ _ _ (by omega)]; simp [pQ]⟩
  refine Tr.w fun s1 H1 hp R kR => ?_
  obtain ⟨rfl, rfl⟩ := hp
  have q : True := trivial
  generalize hZ : List.replicate 65 (AV.int .i64 0) = Z at *
  rw [hm] at k54
  refine W.seq (W.chunk ?_)
  simp (disch := first|omega|exact zE rfl|exact zO|exact zL rfl) [-List.reduceReplicate, c33_o0, size_mk, get_mk_lt, get_mk_ge, frameOf, Eff.app, Heap.setOwn, q]
  refine W.seq (W.chunk ?_)
  simp (disch := first|omega|exact zE rfl|exact zO|exact zL rfl) [-List.reduceReplicate, c33_o1, size_mk, get_mk_lt, get_mk_ge, frameOf, Eff.app, Heap.setOwn, q, k54, hZ, ep, rp, hl, frameOf]
  refine W.assoc ?_
  refine W.seq (W.chunk ?_)
  simp (disch := first|omega|exact zE rfl|exact zO|exact zL rfl) [-List.reduceReplicate, c33_o2, size_mk, get_mk_lt, get_mk_ge, frameOf, Eff.app, Heap.setOwn, q]
  refine W.seq (W.chunk ?_)
  simp (disch := first|omega|exact zE rfl|exact zO|exact zL rfl) [-List.reduceReplicate, c33_o3, size_mk, get_mk_lt, get_mk_ge, frameOf, Eff.app, Heap.setOwn, q]
  refine W.seq (W.chunk ?_)
  simp (disch := first|omega|exact zE rfl|exact zO|exact zL rfl) [-List.reduceReplicate, -act, c33_o4, size_mk, get_mk_lt, get_mk_ge, frameOf, Eff.app, Heap.setOwn, q, act_move, act_mkSl, act_fa, act_load, act_bin, mk1, rg, e0, e0', hl]
  refine W.seq (W.chunk ?_)
  simp (disch := first|omega|exact zE rfl|exact zO|exact zL rfl) [-List.reduceReplicate, c33_o5, size_mk, get_mk_lt, get_mk_ge, frameOf, Eff.app, Heap.setOwn, q, e0, e0', hl, lg, es]
  refine W.seq (W.chunk ?_)
  simp (disch := first|omega|exact zE rfl|exact zO|exact zL rfl) [-List.reduceReplicate, c33_o6, size_mk, get_mk_lt, get_mk_ge, frameOf, Eff.app, Heap.setOwn, q, rs]
  refine W.assoc ?_
  refine W.seq (W.chunk ?_)
  simp (disch := first|omega|exact zE rfl|exact zO|exact zL rfl) [-List.reduceReplicate, c33_o7, size_mk, get_mk_lt, get_mk_ge, frameOf, Eff.app, Heap.setOwn, q]
  refine W.seq (W.block ?_)
  refine W.use (lo) (by simp (disch := first|omega|exact zE rfl|exact zO|exact zL rfl) [-List.reduceReplicate, size_mk, get_mk_lt, get_mk_ge, frameOf, Eff.app, Heap.setOwn, q, ps0, lz]) fun s1 H1 hp => ?_
  obtain ⟨ps, q⟩ := hp
  try simp only [zW, if_true]
  refine W.seq (W.chunk ?_)
  simp (disch := first|omega|exact zE rfl|exact zO|exact zL rfl) [-List.reduceReplicate, c33_o37, size_mk, get_mk_lt, get_mk_ge, frameOf, Eff.app, Heap.setOwn, q]
  refine W.ret ?_
  try simp only [zW, if_true]
  have ng : NG (frameOf h) H1 (.slice (h.size + 1) 0 (M.length + 1) (M.length + 1)) (pyL M) := ⟨ps.kp, fun q hq => by cases hq; simp [frameOf, Heap.size], .inr ⟨h.size + 1, by rw [show (gs (pyL M)).length = M.length + 1 from gl_len _ _], by rw [show (gs (pyL M)).length = M.length + 1 from gl_len _ _]; exact ps.go, by rw [ps.kp.N]; simp [frameOf]⟩⟩
  exact kR _ _ ⟨[.slice (h.size + 1) 0 (M.length + 1) (M.length + 1), G 0], by simp [T.get, c33, evRess, evRes, q], _, rfl, ng.fr1⟩
end
def Post33 (a : AM) (h : Heap) (v : AV) (own : List AObj) : Prop := (isMat a.M = false → v = .tup [.nils, G 2] ∧ own = []) ∧ (isMat a.M = true → ∃ w, v = .tup [w, G 0] ∧ NG h (h.plus own) w (pyL a.M))
noncomputable def T18 : CallF := addK tbl T17 33 PreM Post33
theorem t18 : Sound Go.Proofs.Try.prog T18 := Sound.addK follows ok t17 (by decide) _ _
abbrev K33 (J : CallF) : Prop := ∀ (h : Heap) (a : AM), MR h a.y a.M → ∃ v own, J 33 [a.y] h = some (v, own, false) ∧ Post33 a h v own
theorem k54_17 : K54 T17 := fun h y M hy => by
  simp (disch := decide) only [T17, T16, T15, T14, T13, T12, T11, T10, T9, T8, T7, T6, T5, T4, T3, T2, T1, R21, R20, R19, R18, R17, R16, R15, R14, R13, R12, R11, R10, R9, R8, R7, R6, R5, R4, R3, R2, R1, addI_ne, addX_ne, addV_ne, addK_ne]
  exact k54 h y M hy
theorem k33 : K33 T18 := fun h a ha => addK_some (Pre := PreM) (Post := Post33) (fun a args h hp => by
  obtain ⟨hy, rfl⟩ := hp
  have hn : ∀ a h, T17 33 a h = none := (fun _ _ => by simp (disch := decide) only [T17, T16, T15, T14, T13, T12, T11, T10, T9, T8, T7, T6, T5, T4, T3, T2, T1, R21, R20, R19, R18, R17, R16, R15, R14, R13, R12, R11, R10, R9, R8, R7, R6, R5, R4, R3, R2, R1, addI_ne, addX_ne, addV_ne, addK_ne]; rfl)
  cases c : isMat a.M
  · exact ⟨_, _, c33_bad T17 k54_17 hn h hy c, fun _ => ⟨rfl, rfl⟩, fun q => by rw [c] at q; cases q⟩
  · obtain ⟨v, own, e, p⟩ := c33_ok T17 k54_17 hn h hy c
    exact ⟨v, own, e, fun q => (by rw [c] at q; cases q), fun _ => p⟩) a _ h ⟨ha, rfl⟩
structure TQ (H : Heap) (n : Nat) (X : Nat → Int) (q : Nat) (rs : List AV) (p : Nat) : Prop where
  g : H.get q = .cells 1 n rs
  q0 : p < q
  r : ∀ i, i < n → ∃ b, p < b ∧ rs[i]? = some (.slice b 0 n n) ∧ H.get b = .cells 1 n (gs (rwL X n i))
theorem TQ.upd {H : Heap} {n : Nat} {X : Nat → Int} {q : Nat} {rs : List AV} {p : Nat} (t : TQ H n X q rs p) (Y : AObj) (hN : H.N ≤ p) : TQ (H.upd p Y) n X q rs p :=
  ⟨by rw [upd_ne _ _ _ _ hN (by have := t.q0; omega)]; exact t.g, t.q0, fun i hi => by
    obtain ⟨b, e0, e1, e2⟩ := t.r i hi
    exact ⟨b, e0, e1, by rw [upd_ne _ _ _ _ hN (by omega)]; exact e2⟩⟩
section
variable {M : List (List Int)}
end
def Post45 (a : AM) (h : Heap) (v : AV) (own : List AObj) : Prop := NG h (h.plus own) v (pyL a.M)
noncomputable def T19 : CallF := addK tbl T18 45 PreO Post45
theorem t19 : Sound Go.Proofs.Try.prog T19 := Sound.addK follows ok t18 (by decide) _ _
def LT (h : Heap) (x : AV) (A : List (List Int)) : Prop := ∃ rs, ((x = .nils ∧ rs = []) ∨ ∃ b, x = .slice b 0 rs.length rs.length ∧ h.get b = .cells 1 rs.length rs) ∧ rs.length = A.length ∧ ∀ (i : Nat) r, rs[i]? = some r → ∃ l, A[i]? = some l ∧ listOf h r = some l
theorem TB.lt {H0 H : Heap} {x : AV} {N : List (List Int)} (t : TB H0 H x (N.map gs)) : LT H x N := by
  obtain ⟨rs, lv, hl, hr⟩ := t.r
  refine ⟨rs, ?_, by simpa using hl, fun i r hi => ?_⟩
  · rcases lv with l | ⟨b, e, g, _⟩
    · exact .inl l
    · exact .inr ⟨b, e, g⟩
  · obtain ⟨cs, b, h1, h2, h3, _⟩ := hr i r hi
    rw [List.getElem?_map] at h1
    cases hN : N[i]? with
    | none => rw [hN] at h1; cases h1
    | some l =>
      rw [hN] at h1
      simp only [Option.map_some, Option.some.injEq] at h1
      subst h1
      exact ⟨l, rfl, by rw [h2]; exact listOf_cells h3 (by simp)⟩
theorem TG.lt {H0 H : Heap} {x : AV} {N : List (List Int)} (t : TG H0 H x N) : LT H x N := by
  obtain ⟨rs, lv, hl, hr⟩ := t.r
  refine ⟨rs, ?_, hl, fun i r hi => ?_⟩
  · rcases lv with l | ⟨b, e, g, _⟩
    · exact .inl l
    · exact .inr ⟨b, e, g⟩
  · obtain ⟨l, h1, h2, _⟩ := hr i r hi
    exact ⟨l, h1, h2⟩
theorem LT.kp {h h' : Heap} {x : AV} {A : List (List Int)} (t : LT h x A) (k : Kp (fun _ => False) h h') : LT h' x A := by
  obtain ⟨rs, lv, hl, hr⟩ := t
  refine ⟨rs, ?_, hl, fun i r hi => ?_⟩
  · rcases lv with l | ⟨b, e, g⟩
    · exact .inl l
    · exact .inr ⟨b, e, k.at g (by simp) id⟩
  · obtain ⟨l, h1, h2⟩ := hr i r hi
    exact ⟨l, h1, listOf_kp k h2 (fun _ _ => id)⟩
theorem LT.lo {h : Heap} {x : AV} {A : List (List Int)} (t : LT h x A) (own : List AObj) : LT ⟨h.get, h.size, own⟩ x A := by
  obtain ⟨rs, lv, hl, hr⟩ := t
  refine ⟨rs, ?_, hl, fun i r hi => ?_⟩
  · rcases lv with l | ⟨b, e, g⟩
    · exact .inl l
    · exact .inr ⟨b, e, by rw [get_mk_lt _ _ _ _ (get_lt g (by simp))]; exact g⟩
  · obtain ⟨l, h1, h2⟩ := hr i r hi
    exact ⟨l, h1, listOf_at h2 own⟩
section
variable {A B : List (List Int)}
theorem c47_loop (J : CallF) (k24 : K24 J) {H : Heap} {bx bz : Nat} {rx rz : List AV} {n : Nat} (gx : H.get bx = .cells 1 n rx) (gz : H.get bz = .cells 1 n rz) (lx : rx.length = n) (lz : rz.length = n) (hn : n ≤ 1000000) (hA : A.length = n) (hB : B.length = n) (hs : ∀ l ∈ A, l.length ≤ 1000000)
    (hx : ∀ (i : Nat) r, rx[i]? = some r → ∃ l, A[i]? = some l ∧ listOf H r = some l) (hz : ∀ (i : Nat) r, rz[i]? = some r → ∃ l, B[i]? = some l ∧ listOf H r = some l) : ∀ d i, i + d = n →
    (A.drop i = B.drop i → Tr tbl J c47_l0 (fun s h => h = H ∧ s.get [] = .slice bx 0 n n ∧ s.get [false] = .slice bz 0 n n ∧ s.get [false, true] = G i) (.exit 0) (fun _ _ => True)) ∧
    (A.drop i ≠ B.drop i → Tr tbl J c47_l0 (fun s h => h = H ∧ s.get [] = .slice bx 0 n n ∧ s.get [false] = .slice bz 0 n n ∧ s.get [false, true] = G i) .ret (fun s h => s.get [true, false] = .bool false)) := by
  intro d
  induction d with
  | zero =>
    intro i hi
    obtain rfl : i = n := by omega
    refine ⟨fun _ => Tr.out ?_ (by simp), fun c => absurd (by rw [List.drop_of_length_le (by omega), List.drop_of_length_le (by omega)]) c⟩
    refine Tr.w fun s1 H1 hp R kR => W.trim ?_
    obtain ⟨rfl, q⟩ := hp
    refine W.assoc ?_
    refine W.seq (W.chunk ?_)
    simp (disch := first|omega|exact zE rfl|exact zO|exact zL rfl) [c47_o4, zG, q]
    refine W.seq (W.chunk ?_)
    simp (disch := first|omega|exact zE rfl|exact zO|exact zL rfl) [zG, q]
    exact kR _ _ trivial
  | succ d ih =>
    intro i hi
    obtain ⟨ih1, ih2⟩ := ih (i + 1) (by omega)
    have e1 : rx[i]? = some rx[i] := List.getElem?_eq_getElem (by omega)
    have e2 : rz[i]? = some rz[i] := List.getElem?_eq_getElem (by omega)
    obtain ⟨la, a1, a2⟩ := hx i _ e1
    obtain ⟨lb, b1, b2⟩ := hz i _ e2
    have k := k24 H _ _ la lb a2 b2 (hs la (List.mem_of_getElem? a1))
    have da : A.drop i = la :: A.drop (i + 1) := by rw [List.drop_eq_getElem_cons (by omega)]; congr 1; rw [List.getElem?_eq_getElem (by omega)] at a1; exact Option.some.inj a1
    have db : B.drop i = lb :: B.drop (i + 1) := by rw [List.drop_eq_getElem_cons (by omega)]; congr 1; rw [List.getElem?_eq_getElem (by omega)] at b1; exact Option.some.inj b1
    rw [da, db]
    generalize rx[i] = ra at *
    generalize rz[i] = rb at *
    have e1' := getI e1
    have e2' := getI e2
    clear hx hz ih
    by_cases c : la = lb
    · rw [decide_eq_true c] at k
      have step : Tr tbl J (.trim [[], [false], [false, true]] c47_b0) (fun s h => h = H ∧ s.get [] = .slice bx 0 n n ∧ s.get [false] = .slice bz 0 n n ∧ s.get [false, true] = G i) .normal (fun s h => h = H ∧ s.get [] = .slice bx 0 n n ∧ s.get [false] = .slice bz 0 n n ∧ s.get [false, true] = G ((i + 1 : Nat) : Int)) := by
        refine Tr.w fun s1 H1 hp R kR => W.trim ?_
        obtain ⟨rfl, q⟩ := hp
        refine W.assoc ?_
        refine W.seq (W.chunk ?_)
        simp (disch := first|omega|exact zE rfl|exact zO|exact zL rfl) [c47_o4, zG, q]
        refine W.seq (W.chunk ?_)
        simp (disch := first|omega|exact zE rfl|exact zO|exact zL rfl) [zG, q]
        refine W.seq (W.block ?_)
        refine W.seq (W.chunk ?_)
        simp (disch := first|omega|exact zE rfl|exact zO|exact zL rfl) [c47_o5, zG, q, gx, gz, e1, e1', e2, e2', k, -evDraw_c, evDraw_0]
        refine W.chunk ?_
        simp (disch := first|omega|exact zE rfl|exact zO|exact zL rfl) [c47_o6, zG, q]
        refine W.chunk ?_
        simp (disch := first|omega|exact zE rfl|exact zO|exact zL rfl) [c47_o7, zG, q]
        exact kR _ _ (by simp [T.get, q])
      subst c
      exact ⟨fun q => Tr.next step (ih1 (List.cons.inj q).2), fun q => Tr.next step (ih2 fun r => q (by rw [r]))⟩
    · rw [decide_eq_false c] at k
      refine ⟨fun q => absurd (List.cons.inj q).1 c, fun _ => Tr.out ?_ (by simp)⟩
      refine Tr.w fun s1 H1 hp R kR => W.trim ?_
      obtain ⟨rfl, q⟩ := hp
      refine W.assoc ?_
      refine W.seq (W.chunk ?_)
      simp (disch := first|omega|exact zE rfl|exact zO|exact zL rfl) [c47_o4, zG, q]
      refine W.seq (W.chunk ?_)
      simp (disch := first|omega|exact zE rfl|exact zO|exact zL rfl) [zG, q]
      refine W.seq (W.block ?_)
      refine W.seq (W.chunk ?_)
      simp (disch := first|omega|exact zE rfl|exact zO|exact zL rfl) [c47_o5, zG, q, gx, gz, e1, e1', e2, e2', k, -evDraw_c, evDraw_0]
      refine W.chunk ?_
      simp (disch := first|omega|exact zE rfl|exact zO|exact zL rfl) [c47_o6, zG, q]
      exact kR _ _ (by simp [T.get, q])
theorem c47_l00 (J : CallF) {H : Heap} {y z : AV} (hy : y = .nils ∨ ∃ b, y = .slice b 0 0 0) : Tr tbl J c47_l0 (fun s h => h = H ∧ s.get [] = y ∧ s.get [false] = z ∧ s.get [false, true] = G 0) (.exit 0) (fun _ _ => True) := by
  refine Tr.out ?_ (by simp)
  rcases hy with rfl | ⟨b, rfl⟩
  all_goals
    refine Tr.w fun s1 H1 hp R kR => W.trim ?_
    obtain ⟨rfl, q⟩ := hp
    refine W.assoc ?_
    refine W.seq (W.chunk ?_)
    simp (disch := first|omega|exact zE rfl|exact zO|exact zL rfl) [c47_o4, zG, q]
    refine W.seq (W.chunk ?_)
    simp (disch := first|omega|exact zE rfl|exact zO|exact zL rfl) [zG, q]
    exact kR _ _ trivial
theorem c47_ok (J : CallF) (k24 : K24 J) (hJ : ∀ a h, J 47 a h = none) (h : Heap) {x z : AV} (hx : LT h x A) (hz : LT h z B) (hA : A.length ≤ 1000000) (hB : B.length ≤ 1000000) (hs : ∀ l ∈ A, l.length ≤ 1000000) : CallsTo tbl J 47 [x, z] h (.bool (decide (A = B)), [], false) := by
  refine Tr.fnv (cf := c47) (e := .ret) (s := T.set (T.set .leaf [] x) [false] z) (by decide) rfl (hJ _ _) rfl rfl rfl (by simp) ?_
  obtain ⟨rx, vx, lx, hxr⟩ := hx.lo []
  obtain ⟨rz, vz, lz, hzr⟩ := hz.lo []
  have fe : (⟨h.get, h.size, []⟩ : Heap) = frameOf h := rfl
  rw [fe] at vx vz hxr hzr
  refine Tr.w fun s1 H1 hp R kR => ?_
  obtain ⟨rfl, rfl⟩ := hp
  have q : True := trivial
  have fin : ∀ b : Bool, decide (A = B) = b → ∀ s h', s.get [true, false] = .bool b → R .ret s h' := fun b e s h' a => kR _ _ ⟨[.bool b], by simp [c47, evRess, evRes, a], by rw [e]; rfl⟩
  clear kR
  rw [lx] at vx
  rw [lz] at vz
  by_cases hl : A.length = B.length
  · by_cases h0 : A.length = 0
    · have hA0 : A = [] := List.length_eq_zero_iff.1 h0
      have hB0 : B = [] := List.length_eq_zero_iff.1 (by omega)
      subst hA0 hB0
      have fin := fin true rfl
      have sx : x = .nils ∨ ∃ b, x = .slice b 0 0 0 := by
        rcases vx with ⟨e, _⟩ | ⟨b, e, _⟩
        · exact .inl e
        · exact .inr ⟨b, e⟩
      have sz : z = .nils ∨ ∃ b, z = .slice b 0 0 0 := by
        rcases vz with ⟨e, _⟩ | ⟨b, e, _⟩
        · exact .inl e
        · exact .inr ⟨b, e⟩
      have l0 := c47_l00 (z := z) (H := frameOf h) J sx
      clear vx vz hxr hzr hx hz
      rcases sx with rfl | ⟨b, rfl⟩ <;> rcases sz with rfl | ⟨b', rfl⟩
      all_goals
        refine W.seq (W.chunk ?_)
        simp (disch := first|omega|exact zE rfl|exact zO|exact zL rfl) [c47_o0, zG, q]
        refine W.assoc ?_
        refine W.seq (W.chunk ?_)
        simp (disch := first|omega|exact zE rfl|exact zO|exact zL rfl) [c47_o1, zG, q]
        refine W.seq (W.chunk ?_)
        simp (disch := first|omega|exact zE rfl|exact zO|exact zL rfl) [c47_o2, zG, q]
        refine W.assoc ?_
        refine W.seq (W.chunk ?_)
        simp (disch := first|omega|exact zE rfl|exact zO|exact zL rfl) [c47_o3, zG, q]
        refine W.seq (W.block ?_)
        refine W.use (l0) (by simp (disch := first|omega|exact zE rfl|exact zO|exact zL rfl) [zG, q]) fun s1 H1 hp => ?_
        try simp only [zW, if_true]
        refine W.seq (W.chunk ?_)
        simp (disch := first|omega|exact zE rfl|exact zO|exact zL rfl) [c47_o8, zG, q]
        refine W.ret ?_
        try simp only [zW, if_true]
        exact fin _ _ (by simp [T.get])
    · rcases vx with ⟨rfl, e⟩ | ⟨bx, rfl, gx⟩
      · rw [e] at lx; simp at lx; omega
      rcases vz with ⟨rfl, e⟩ | ⟨bz, rfl, gz⟩
      · rw [e] at lz; simp at lz; omega
      rw [← hl] at lz gz ⊢
      obtain ⟨l1, l2⟩ := c47_loop (A := A) (B := B) J k24 gx gz lx lz hA rfl hl.symm hs hxr hzr A.length 0 (by omega)
      rw [List.drop_zero, List.drop_zero] at l1 l2
      clear hxr hzr hx hz hs
      generalize A.length = n at *
      by_cases c : A = B
      · have l1 := l1 c
        have fin := fin true (decide_eq_true c)
        refine W.seq (W.chunk ?_)
        simp (disch := first|omega|exact zE rfl|exact zO|exact zL rfl) [c47_o0, zG, q]
        refine W.assoc ?_
        refine W.seq (W.chunk ?_)
        simp (disch := first|omega|exact zE rfl|exact zO|exact zL rfl) [c47_o1, zG, q]
        refine W.seq (W.chunk ?_)
        simp (disch := first|omega|exact zE rfl|exact zO|exact zL rfl) [c47_o2, zG, q]
        refine W.assoc ?_
        refine W.seq (W.chunk ?_)
        simp (disch := first|omega|exact zE rfl|exact zO|exact zL rfl) [c47_o3, zG, q]
        refine W.seq (W.block ?_)
        refine W.use (l1) (by simp (disch := first|omega|exact zE rfl|exact zO|exact zL rfl) [zG, q]) fun s1 H1 hp => ?_
        try simp only [zW, if_true]
        refine W.seq (W.chunk ?_)
        simp (disch := first|omega|exact zE rfl|exact zO|exact zL rfl) [c47_o8, zG, q]
        refine W.ret ?_
        try simp only [zW, if_true]
        exact fin _ _ (by simp [T.get])
      · have l2 := l2 c
        have fin := fin false (decide_eq_false c)
        refine W.seq (W.chunk ?_)
        simp (disch := first|omega|exact zE rfl|exact zO|exact zL rfl) [c47_o0, zG, q]
        refine W.assoc ?_
        refine W.seq (W.chunk ?_)
        simp (disch := first|omega|exact zE rfl|exact zO|exact zL rfl) [c47_o1, zG, q]
        refine W.seq (W.chunk ?_)
        simp (disch := first|omega|exact zE rfl|exact zO|exact zL rfl) [c47_o2, zG, q]
        refine W.assoc ?_
        refine W.seq (W.chunk ?_)
        simp (disch := first|omega|exact zE rfl|exact zO|exact zL rfl) [c47_o3, zG, q]
        refine W.seq (W.block ?_)
        refine W.use (l2) (by simp (disch := first|omega|exact zE rfl|exact zO|exact zL rfl) [zG, q]) fun s1 H1 hp => ?_
        try simp only [zW, if_true]
        exact fin _ _ hp
  · have fin := fin false (decide_eq_false fun e => hl (by rw [e]))
    clear hxr hzr hx hz hs
    generalize A.length = n at *
    generalize B.length = m at *
    have sx : (x = .nils ∧ n = 0) ∨ ∃ b, x = .slice b 0 n n := by
      rcases vx with ⟨e, e2⟩ | ⟨b, e, _⟩
      · exact .inl ⟨e, by rw [← lx, e2]; rfl⟩
      · exact .inr ⟨b, e⟩
    have sz : (z = .nils ∧ m = 0) ∨ ∃ b, z = .slice b 0 m m := by
      rcases vz with ⟨e, e2⟩ | ⟨b, e, _⟩
      · exact .inl ⟨e, by rw [← lz, e2]; rfl⟩
      · exact .inr ⟨b, e⟩
    clear vx vz
    rcases sx with ⟨rfl, rfl⟩ | ⟨b, rfl⟩ <;> rcases sz with ⟨rfl, rfl⟩ | ⟨b', rfl⟩
    all_goals try (exfalso; omega)
    all_goals
      refine W.seq (W.chunk ?_)
      simp (disch := first|omega|exact zE rfl|exact zO|exact zL rfl) [c47_o0, zG, q]
      refine W.assoc ?_
      refine W.seq (W.chunk ?_)
      simp (disch := first|omega|exact zE rfl|exact zO|exact zL rfl) [c47_o1, zG, q]
      refine W.seq (W.chunk ?_)
      simp (disch := first|omega|exact zE rfl|exact zO|exact zL rfl) [c47_o2, zG, q]
      exact fin _ _ (by simp [T.get])
end
structure A47 where
  A : List (List Int)
  B : List (List Int)
  x : AV
  z : AV
def Ok47 (a : A47) (h : Heap) : Prop := LT h a.x a.A ∧ LT h a.z a.B ∧ a.A.length ≤ 1000000 ∧ a.B.length ≤ 1000000 ∧ ∀ l ∈ a.A, l.length ≤ 1000000
def Pre47 (a : A47) (args : List AV) (h : Heap) : Prop := Ok47 a h ∧ args = [a.x, a.z]
def Post47 (a : A47) (h : Heap) (v : AV) (own : List AObj) : Prop := v = .bool (decide (a.A = a.B)) ∧ own = []
noncomputable def T20 : CallF := addK tbl T19 47 Pre47 Post47
theorem t20 : Sound Go.Proofs.Try.prog T20 := Sound.addK follows ok t19 (by decide) _ _
abbrev K47 (J : CallF) : Prop := ∀ (h : Heap) (a : A47), Ok47 a h → J 47 [a.x, a.z] h = some (.bool (decide (a.A = a.B)), [], false)
theorem k24_19 : K24 T19 := fun h x y a b hx hy hn => by
  simp (disch := decide) only [T19, T18, T17, T16, T15, T14, T13, T12, T11, T10, T9, T8, T7, T6, T5, T4, T3, T2, T1, addI_ne, addX_ne, addV_ne, addK_ne]
  exact k24_r h x y a b hx hy hn
theorem k47 : K47 T20 := fun h a ha => by
  obtain ⟨v, own, e, rfl, rfl⟩ := addK_some (tbl := tbl) (I := T19) (f := 47) (Pre := Pre47) (Post := Post47) (fun a args h hp => by
    obtain ⟨⟨h1, h2, h3, h4, h5⟩, rfl⟩ := hp
    exact ⟨_, _, c47_ok T19 k24_19 (fun _ _ => by simp (disch := decide) only [T19, T18, T17, T16, T15, T14, T13, T12, T11, T10, T9, T8, T7, T6, T5, T4, T3, T2, T1, R21, R20, R19, R18, R17, R16, R15, R14, R13, R12, R11, R10, R9, R8, R7, R6, R5, R4, R3, R2, R1, addI_ne, addX_ne, addV_ne, addK_ne]; rfl) h h1 h2 h3 h4 h5, rfl, rfl⟩) a _ h ⟨ha, rfl⟩
  exact e
end Go.Proofs.Ytjeemgaoonapgaa.Ev
set_option linter.unusedVariables false
set_option linter.unusedSimpArgs false
namespace Go.Proofs.Ytjeemgaoonapgaa.Ev
open Go Go.AEv
theorem pigeon : ∀ (n : Nat) (f : Nat → Nat), (∀ i, i ≤ n → f i < n) → ∃ i j, i < j ∧ j ≤ n ∧ f i = f j
  | 0, f, h => absurd (h 0 (Nat.le_refl _)) (by omega)
  | n + 1, f, h => by
    by_cases c : ∃ i, i ≤ n ∧ f i = f (n + 1)
    · obtain ⟨i, a, b⟩ := c
      exact ⟨i, n + 1, by omega, Nat.le_refl _, b⟩
    · have c' : ∀ i, i ≤ n → f i ≠ f (n + 1) := fun i a b => c ⟨i, a, b⟩
      obtain ⟨i, j, a1, a2, a3⟩ := pigeon n (fun i => if f i = n then f (n + 1) else f i) (fun i hi => by
        have h1 := h i (by omega)
        have h2 := h (n + 1) (Nat.le_refl _)
        have h3 := c' i hi
        by_cases e : f i = n
        · simp only [e, if_true]; omega
        · simp only [e, if_false]; omega)
      refine ⟨i, j, a1, by omega, ?_⟩
      have h3 := c' i (by omega)
      have h4 := c' j (by omega)
      by_cases e1 : f i = n
      · by_cases e2 : f j = n
        · omega
        · simp only [e1, e2, if_true, if_false] at a3; omega
      · by_cases e2 : f j = n
        · simp only [e1, e2, if_true, if_false] at a3; omega
        · simp only [e1, e2, if_false] at a3; exact a3
section
variable {M : List (List Int)}
theorem Wk.path : ∀ {k i j : Nat}, Wk M k i j → ∃ f : Nat → Nat, f 0 = i ∧ f k = j ∧ ∀ t, t < k → 0 < ent M (f t) (f (t + 1))
  | 0, i, j, h => ⟨fun _ => i, rfl, h, fun t ht => absurd ht (by omega)⟩
  | k + 1, i, j, ⟨v, e, w⟩ => by
    obtain ⟨f, f0, fk, fe⟩ := Wk.path w
    refine ⟨fun t => match t with | 0 => i | t + 1 => f t, rfl, fk, fun t ht => ?_⟩
    cases t with
    | zero => show 0 < ent M i (f 0); rw [f0]; exact e
    | succ t => exact fe t (by omega)
theorem path_wk {f : Nat → Nat} {k : Nat} (fe : ∀ t, t < k → 0 < ent M (f t) (f (t + 1))) : ∀ (d s : Nat), s + d ≤ k → Wk M d (f s) (f (s + d))
  | 0, s, _ => rfl
  | d + 1, s, h => by
    refine ⟨f (s + 1), fe s (by omega), ?_⟩
    have := path_wk fe d (s + 1) (by omega)
    rwa [show s + 1 + d = s + (d + 1) by omega] at this
theorem Wk.short (hm : isMat M = true) {i j : Nat} (hi : i < M.length) : ∀ {k : Nat}, Wk M k i j → ∃ k', k' < M.length ∧ k' ≤ k ∧ Wk M k' i j := by
  intro k
  induction k using Nat.strongRecOn with
  | _ k ih =>
    intro w
    by_cases c : k < M.length
    · exact ⟨k, c, Nat.le_refl _, w⟩
    · obtain ⟨f, f0, fk, fe⟩ := w.path
      have fb : ∀ t, t ≤ M.length → f t < M.length := fun t ht => by
        cases t with
        | zero => rw [f0]; exact hi
        | succ t => exact (ent_lt hm (fe t (by omega))).2
      obtain ⟨a, b, hab, hb, e⟩ := pigeon M.length f fb
      have w1 := path_wk fe a 0 (by omega)
      have w2 := path_wk fe (k - b) b (by omega)
      rw [Nat.zero_add, f0, e] at w1
      rw [show b + (k - b) = k by omega, fk] at w2
      obtain ⟨k', h1, h2, h3⟩ := ih (a + (k - b)) (by omega) (w1.add w2)
      exact ⟨k', h1, by omega, h3⟩
theorem Rc.short (hm : isMat M = true) {i j : Nat} (hi : i < M.length) (h : Rc M i j) : ∃ k, k < M.length ∧ Wk M k i j := by
  obtain ⟨k, w⟩ := h
  obtain ⟨k', a, _, b⟩ := w.short hm hi
  exact ⟨k', a, b⟩
end
end Go.Proofs.Ytjeemgaoonapgaa.Ev
set_option linter.unusedVariables false
set_option linter.unusedSimpArgs false
namespace Go.Proofs.Ytjeemgaoonapgaa.Ev
open Go Go.AEv
attribute [local simp] evFunc initS evOps_c evTrim_c evSkip_c evExit_c evRet_c evSeq_c evCond_c evBlock_c evDraw_c runOps_n runOps_c exec_n exec_g pure1_c act AOpd.ev T.get T.set T.put evBin evUn forceT_eq forceV_eq forceL_eq evRess evRes one keep runFP_n runFP_c app_none AV.flats AV.flat came_some List.getElem?_cons_zero List.getElem?_cons_succ beqT wrapI idxI tdivI tmodI decT decF ibT ibF inT inF evScope_c if_pos if_neg Cm_some thenW_n thenW_e thenW_r blkW_n blkW_e blkW_r goI kn putAt AV.cells fillA loadA takeA mk Eff.isAll Eff.isNone Eff.commutes Eff.spares okPair apart eqAgg fits LK.fits allEq aveq eqk mmA
section
variable {M : List (List Int)}
def Wl (M : List (List Int)) (t i x : Nat) : Prop := ∃ k, k ≤ t ∧ Wk M k i x
structure LI (M : List (List Int)) (i t x y : Nat) (r : Nat → Bool) : Prop where
  s : ∀ z, z < M.length → r z = true → Rc M i z
  c : ∀ z, Wl M t i z → z < M.length → r z = true
  cx : ∀ x', x' < x → Wl M t i x' → ∀ z, 0 < ent M x' z → r z = true
  cy : ∀ z, z < y → Wl M t i x → 0 < ent M x z → r z = true
theorem LI.step {i t x y : Nat} {r : Nat → Bool} (hx : x < M.length) (l : LI M i t x y r) : LI M i t x (y + 1) (fun z => if z = y then (r y || (r x && decide (0 < ent M x y))) else r z) := by
  have up : ∀ z, r z = true → (if z = y then (r y || (r x && decide (0 < ent M x y))) else r z) = true := fun z h => by
    by_cases e : z = y
    · rw [if_pos e, ← e, h, Bool.true_or]
    · rw [if_neg e]; exact h
  refine ⟨fun z hz h => ?_, fun z w hz => up z (l.c z w hz), fun x' a w z e => up z (l.cx x' a w z e), fun z hz w e => ?_⟩
  · by_cases e : z = y
    · rw [if_pos e] at h
      subst e
      rw [Bool.or_eq_true, Bool.and_eq_true, decide_eq_true_eq] at h
      rcases h with h | ⟨h1, h2⟩
      · exact l.s z hz h
      · exact (l.s x hx h1).trans (Rc.one h2)
    · rw [if_neg e] at h; exact l.s z hz h
  · by_cases e' : z = y
    · rw [if_pos e', Bool.or_eq_true]
      subst e'
      exact .inr (by rw [l.c x w hx, decide_eq_true e]; rfl)
    · exact up z (l.cy z (by omega) w e)
theorem LI.nextx (hm : isMat M = true) {i t x : Nat} {r : Nat → Bool} (l : LI M i t x M.length r) : LI M i t (x + 1) 0 r :=
  ⟨l.s, l.c, fun x' a w z e => by
    by_cases h : x' = x
    · subst h; exact l.cy z (ent_lt hm e).2 w e
    · exact l.cx x' (by omega) w z e, fun z hz => absurd hz (by omega)⟩
theorem LI.nextt (hm : isMat M = true) {i t : Nat} {r : Nat → Bool} (l : LI M i t M.length 0 r) : LI M i (t + 1) 0 0 r :=
  ⟨l.s, fun z ⟨k, hk, w⟩ hz => by
    by_cases e : k ≤ t
    · exact l.c z ⟨k, e, w⟩ hz
    · obtain rfl : k = t + 1 := by omega
      obtain ⟨v, w', e'⟩ := Wk.snoc.1 w
      exact l.cx v (ent_lt hm e').1 ⟨t, Nat.le_refl _, w'⟩ z e', fun x' a => absurd a (by omega), fun z hz => absurd hz (by omega)⟩
theorem LI.done (hm : isMat M = true) {i : Nat} (hi : i < M.length) {r : Nat → Bool} (l : LI M i M.length 0 0 r) {z : Nat} (hz : z < M.length) : r z = ldF M (i * 8 + z) := by
  apply Bool.eq_iff_iff.2
  rw [ldF_iff hm hi hz]
  constructor
  · exact l.s z hz
  · intro h
    obtain ⟨k, a, w⟩ := h.short hm hi
    exact l.c z ⟨k, by omega, w⟩ hz
theorem LI.init {i : Nat} (hi : i < M.length) : LI M i 0 0 0 (fun z => decide (z = i)) :=
  ⟨fun z hz h => by
    have : z = i := by simpa using h
    subst this; exact Rc.refl z, fun z ⟨k, hk, w⟩ hz => by
    obtain rfl : k = 0 := by omega
    have : i = z := w
    simp [this], fun x' a => absurd a (by omega), fun z hz => absurd hz (by omega)⟩
theorem n69_13 (J : CallF) (H1 H : Heap) {n i t x y b v rb rv : Nat} {cs cr c0 : List AV} {xo : AV} {a : Int} {d0 d2 : Bool} (hh : H1 = H.plus [.cells 1 n c0]) (gb : H.get b = .cells 1 v cs) (er : cs[x]? = some (.slice rb 0 n rv)) (gr : H.get rb = .cells 1 rv cr) (ea : cr[y]? = some (G a)) (l0 : c0.length = n) (e0 : c0[y]? = some (.bool d0)) (e2 : c0[x]? = some (.bool d2)) (hx : x < n) (hy : y < n) (h8 : n ≤ 8) :
    Tr tbl J c69_o13 (fun s h => h = H1 ∧ s.get [] = .slice b 0 n v ∧ s.get [false, false] = G n ∧ s.get [true, false] = xo ∧ s.get [false, true] = G i ∧ s.get [true, true] = .slice H.size 0 n n ∧ s.get [false, false, false] = G t ∧ s.get [true, false, false] = G x ∧ s.get [false, true, false] = G y) .normal (fun s h => h = H.plus [.cells 1 n (c0.set y (.bool (d0 || (d2 && decide (0 < a)))))] ∧ s.get [] = .slice b 0 n v ∧ s.get [false, false] = G n ∧ s.get [true, false] = xo ∧ s.get [false, true] = G i ∧ s.get [true, true] = .slice H.size 0 n n ∧ s.get [false, false, false] = G t ∧ s.get [true, false, false] = G x ∧ s.get [false, true, false] = G y) := by
  subst hh
  have er' := getI er
  have ea' := getI ea
  have e2' := getI e2
  have e0' := getI e0
  have gb' := fun c => plus_keep [c] gb (by simp)
  have gr' := fun c => plus_keep [c] gr (by simp)
  refine Tr.w fun s1 H1 hp R kR => ?_
  obtain ⟨rfl, q⟩ := hp
  by_cases ca : 0 < a <;> cases d0 <;> cases d2
  all_goals
    simp only [ca, decide_true, decide_false, Bool.false_or, Bool.true_or, Bool.true_and, Bool.false_and, Bool.and_false, Bool.and_true] at kR
    refine W.chunk ?_
    simp (disch := first|omega|exact zE rfl|exact zO|exact zL rfl) [c69_o13, zG, q, gb', gr', l0, er, er', ea, ea', e0, e0', e2, e2']
    exact kR _ _ (by simp [T.get, q])
theorem c69_y (J : CallF) (hm : isMat M = true) {H : Heap} {b v i t x : Nat} {cs : List AV} {xo : AV} (mx : MX H M b v cs) (hx : x < M.length) :
    Tr tbl J c69_l0 (fun s h => ∃ r, LI M i t x 0 r ∧ h = H.plus [.cells 1 M.length (bls r M.length)] ∧ s.get [] = .slice b 0 M.length v ∧ s.get [false, false] = G M.length ∧ s.get [true, false] = xo ∧ s.get [false, true] = G i ∧ s.get [true, true] = .slice H.size 0 M.length M.length ∧ s.get [false, false, false] = G t ∧ s.get [true, false, false] = G x ∧ s.get [false, true, false] = G ((0 : Nat) : Int)) (.exit 6)
      (fun s h => ∃ r, LI M i t x M.length r ∧ h = H.plus [.cells 1 M.length (bls r M.length)] ∧ s.get [] = .slice b 0 M.length v ∧ s.get [false, false] = G M.length ∧ s.get [true, false] = xo ∧ s.get [false, true] = G i ∧ s.get [true, true] = .slice H.size 0 M.length M.length ∧ s.get [false, false, false] = G t ∧ s.get [true, false, false] = G x) := by
  have h8 := isMat_n hm
  refine Tr.rounds (P := fun y s h => ∃ r, LI M i t x y r ∧ h = H.plus [.cells 1 M.length (bls r M.length)] ∧ s.get [] = .slice b 0 M.length v ∧ s.get [false, false] = G M.length ∧ s.get [true, false] = xo ∧ s.get [false, true] = G i ∧ s.get [true, true] = .slice H.size 0 M.length M.length ∧ s.get [false, false, false] = G t ∧ s.get [true, false, false] = G x ∧ s.get [false, true, false] = G y) (M := M.length) (fun y hy => ?_) ?_ (by simp) 0 (by omega)
  · refine Tr.w fun s1 H1 hp R kR => W.trim ?_
    obtain ⟨r, li, rfl, q⟩ := hp
    obtain ⟨rb, rv, er, gr⟩ := mx.r x hx
    have tt := n69_13 (i := i) (t := t) (xo := xo) J (H.plus [.cells 1 M.length (bls r M.length)]) H rfl mx.g er gr (row_at hm hx hy) (bls_len _ _) (bls_getN r hy rfl) (bls_getN r hx rfl) hx hy h8.2
    rw [bls_set _ _ _ _ hy] at tt
    have li2 := li.step hx
    clear mx er gr
    generalize hr2 : (fun z => if z = y then (r y || (r x && decide (0 < ent M x y))) else r z) = r2 at *
    generalize hn : M.length = n at *
    refine W.assoc ?_
    refine W.seq (W.chunk ?_)
    simp (disch := first|omega|exact zE rfl|exact zO|exact zL rfl) [c69_o12, zG, q]
    refine W.seq (W.chunk ?_)
    simp (disch := first|omega|exact zE rfl|exact zO|exact zL rfl) [zG, q]
    refine W.seq (W.block ?_)
    refine W.use (tt) (by simp (disch := first|omega|exact zE rfl|exact zO|exact zL rfl) [zG, q]) fun s1 H1 hp => ?_
    obtain ⟨rfl, q⟩ := hp
    try simp only [zW, if_true]
    refine W.chunk ?_
    simp (disch := first|omega|exact zE rfl|exact zO|exact zL rfl) [c69_o14, zG, q]
    exact kR _ _ ⟨r2, li2, by simp [T.get, q]⟩
  · refine Tr.w fun s1 H1 hp R kR => W.trim ?_
    obtain ⟨r, li, rfl, q⟩ := hp
    clear mx
    generalize hn : M.length = n at *
    refine W.assoc ?_
    refine W.seq (W.chunk ?_)
    simp (disch := first|omega|exact zE rfl|exact zO|exact zL rfl) [c69_o12, zG, q]
    refine W.seq (W.chunk ?_)
    simp (disch := first|omega|exact zE rfl|exact zO|exact zL rfl) [zG, q]
    exact kR _ _ ⟨r, li, by simp [T.get, q]⟩
theorem c69_x (J : CallF) (hm : isMat M = true) {H : Heap} {b v i t : Nat} {cs : List AV} {xo : AV} (mx : MX H M b v cs) :
    Tr tbl J c69_l1 (fun s h => ∃ r, LI M i t 0 0 r ∧ h = H.plus [.cells 1 M.length (bls r M.length)] ∧ s.get [] = .slice b 0 M.length v ∧ s.get [false, false] = G M.length ∧ s.get [true, false] = xo ∧ s.get [false, true] = G i ∧ s.get [true, true] = .slice H.size 0 M.length M.length ∧ s.get [false, false, false] = G t ∧ s.get [true, false, false] = G ((0 : Nat) : Int)) (.exit 4)
      (fun s h => ∃ r, LI M i t M.length 0 r ∧ h = H.plus [.cells 1 M.length (bls r M.length)] ∧ s.get [] = .slice b 0 M.length v ∧ s.get [false, false] = G M.length ∧ s.get [true, false] = xo ∧ s.get [false, true] = G i ∧ s.get [true, true] = .slice H.size 0 M.length M.length ∧ s.get [false, false, false] = G t) := by
  have h8 := isMat_n hm
  refine Tr.rounds (P := fun x s h => ∃ r, LI M i t x 0 r ∧ h = H.plus [.cells 1 M.length (bls r M.length)] ∧ s.get [] = .slice b 0 M.length v ∧ s.get [false, false] = G M.length ∧ s.get [true, false] = xo ∧ s.get [false, true] = G i ∧ s.get [true, true] = .slice H.size 0 M.length M.length ∧ s.get [false, false, false] = G t ∧ s.get [true, false, false] = G x) (M := M.length) (fun x hx => ?_) ?_ (by simp) 0 (by omega)
  · refine Tr.w fun s1 H1 hp R kR => W.trim ?_
    obtain ⟨r, li, rfl, q⟩ := hp
    have l0 := c69_y (i := i) (t := t) (xo := xo) J hm mx hx
    have ex : ∃ r', LI M i t x 0 r' ∧ H.plus [.cells 1 M.length (bls r M.length)] = H.plus [.cells 1 M.length (bls r' M.length)] := ⟨r, li, rfl⟩
    clear mx
    refine W.assoc ?_
    refine W.seq (W.chunk ?_)
    simp (disch := first|omega|exact zE rfl|exact zO|exact zL rfl) [c69_o10, zG, q]
    refine W.seq (W.chunk ?_)
    simp (disch := first|omega|exact zE rfl|exact zO|exact zL rfl) [zG, q]
    refine W.seq (W.block ?_)
    refine W.seq (W.chunk ?_)
    simp (disch := first|omega|exact zE rfl|exact zO|exact zL rfl) [c69_o11, zG, q]
    refine W.block ?_
    refine W.use (l0) (by simp (disch := first|omega|exact zE rfl|exact zO|exact zL rfl) [zG, q, ex]) fun s1 H1 hp => ?_
    obtain ⟨r2, li2, rfl, q⟩ := hp
    try simp only [zW, if_true]
    refine W.chunk ?_
    simp (disch := first|omega|exact zE rfl|exact zO|exact zL rfl) [c69_o15, zG, q]
    exact kR _ _ ⟨r2, li2.nextx hm, by simp [T.get, q]⟩
  · refine Tr.w fun s1 H1 hp R kR => W.trim ?_
    obtain ⟨r, li, rfl, q⟩ := hp
    clear mx
    refine W.assoc ?_
    refine W.seq (W.chunk ?_)
    simp (disch := first|omega|exact zE rfl|exact zO|exact zL rfl) [c69_o10, zG, q]
    refine W.seq (W.chunk ?_)
    simp (disch := first|omega|exact zE rfl|exact zO|exact zL rfl) [zG, q]
    exact kR _ _ ⟨r, li, by simp [T.get, q]⟩
theorem c69_t (J : CallF) (hm : isMat M = true) {H : Heap} {b v i : Nat} {cs : List AV} {xo : AV} (mx : MX H M b v cs) (hi : i < M.length) :
    Tr tbl J c69_l2 (fun s h => ∃ r, LI M i 0 0 0 r ∧ h = H.plus [.cells 1 M.length (bls r M.length)] ∧ s.get [] = .slice b 0 M.length v ∧ s.get [false, false] = G M.length ∧ s.get [true, false] = xo ∧ s.get [false, true] = G i ∧ s.get [true, true] = .slice H.size 0 M.length M.length ∧ s.get [false, false, false] = G ((0 : Nat) : Int)) (.exit 2)
      (fun s h => h = H.plus [.cells 1 M.length (bls (fun z => ldF M (i * 8 + z)) M.length)] ∧ s.get [] = .slice b 0 M.length v ∧ s.get [false, false] = G M.length ∧ s.get [true, false] = xo ∧ s.get [false, true] = G i ∧ s.get [true, true] = .slice H.size 0 M.length M.length) := by
  have h8 := isMat_n hm
  refine Tr.rounds (P := fun t s h => ∃ r, LI M i t 0 0 r ∧ h = H.plus [.cells 1 M.length (bls r M.length)] ∧ s.get [] = .slice b 0 M.length v ∧ s.get [false, false] = G M.length ∧ s.get [true, false] = xo ∧ s.get [false, true] = G i ∧ s.get [true, true] = .slice H.size 0 M.length M.length ∧ s.get [false, false, false] = G t) (M := M.length) (fun t ht => ?_) ?_ (by simp) 0 (by omega)
  · refine Tr.w fun s1 H1 hp R kR => W.trim ?_
    obtain ⟨r, li, rfl, q⟩ := hp
    have l1 := c69_x (i := i) (t := t) (xo := xo) J hm mx
    have ex : ∃ r', LI M i t 0 0 r' ∧ H.plus [.cells 1 M.length (bls r M.length)] = H.plus [.cells 1 M.length (bls r' M.length)] := ⟨r, li, rfl⟩
    clear mx
    refine W.assoc ?_
    refine W.seq (W.chunk ?_)
    simp (disch := first|omega|exact zE rfl|exact zO|exact zL rfl) [c69_o8, zG, q]
    refine W.seq (W.chunk ?_)
    simp (disch := first|omega|exact zE rfl|exact zO|exact zL rfl) [zG, q]
    refine W.seq (W.block ?_)
    refine W.seq (W.chunk ?_)
    simp (disch := first|omega|exact zE rfl|exact zO|exact zL rfl) [c69_o9, zG, q]
    refine W.block ?_
    refine W.use (l1) (by simp (disch := first|omega|exact zE rfl|exact zO|exact zL rfl) [zG, q, ex]) fun s1 H1 hp => ?_
    obtain ⟨r2, li2, rfl, q⟩ := hp
    try simp only [zW, if_true]
    refine W.chunk ?_
    simp (disch := first|omega|exact zE rfl|exact zO|exact zL rfl) [c69_o16, zG, q]
    exact kR _ _ ⟨r2, li2.nextt hm, by simp [T.get, q]⟩
  · refine Tr.w fun s1 H1 hp R kR => W.trim ?_
    obtain ⟨r, li, rfl, q⟩ := hp
    have e := bls_ext r (fun z => ldF M (i * 8 + z)) M.length fun z hz => li.done hm hi hz
    rw [e]
    clear mx
    generalize bls (fun z => ldF M (i * 8 + z)) M.length = c0 at *
    refine W.assoc ?_
    refine W.seq (W.chunk ?_)
    simp (disch := first|omega|exact zE rfl|exact zO|exact zL rfl) [c69_o8, zG, q]
    refine W.seq (W.chunk ?_)
    simp (disch := first|omega|exact zE rfl|exact zO|exact zL rfl) [zG, q]
    exact kR _ _ (by simp [T.get, q])
def ldR (M : List (List Int)) (i : Nat) : List (List AV) := (List.range i).map fun i => bls (fun z => ldF M (i * 8 + z)) M.length
theorem ldR_s (i : Nat) : ldR M (i + 1) = ldR M i ++ [bls (fun z => ldF M (i * 8 + z)) M.length] := by simp [ldR, List.range_succ]
theorem c69_i (J : CallF) (hm : isMat M = true) {H0 : Heap} {b v : Nat} {cs : List AV} (mx : MX H0 M b v cs) :
    Tr tbl J c69_l3 (fun s h => h = H0 ∧ s.get [] = .slice b 0 M.length v ∧ s.get [false, false] = G M.length ∧ s.get [true, false] = .nils ∧ s.get [false, true] = G ((0 : Nat) : Int)) (.exit 0) (fun s h => ∃ xo, TB H0 h xo (ldR M M.length) ∧ s.get [true, false] = xo) := by
  have h8 := isMat_n hm
  refine Tr.pre (P := fun s h => ∃ xo, TB H0 h xo (ldR M 0) ∧ s.get [] = .slice b 0 M.length v ∧ s.get [false, false] = G M.length ∧ s.get [true, false] = xo ∧ s.get [false, true] = G ((0 : Nat) : Int)) (fun s h q => ⟨.nils, by rw [q.1]; exact TB.nil H0, q.2⟩) ?_
  refine Tr.rounds (P := fun i s h => ∃ xo, TB H0 h xo (ldR M i) ∧ s.get [] = .slice b 0 M.length v ∧ s.get [false, false] = G M.length ∧ s.get [true, false] = xo ∧ s.get [false, true] = G i) (M := M.length) (fun i hi => ?_) ?_ (by simp) 0 (by omega)
  · refine Tr.w fun s1 H1 hp R kR => W.trim ?_
    obtain ⟨xo, tb, q⟩ := hp
    have l2 := c69_t (i := i) (xo := xo) J hm (mx.kp tb.k) hi
    have li := LI.init hi
    have es : (bls (fun _ => false) M.length).set i (.bool true) = bls (fun z => decide (z = i)) M.length := by
      rw [bls_set _ _ _ _ hi]
      apply bls_ext
      intro z hz
      by_cases e : z = i
      · rw [if_pos e, decide_eq_true e]
      · rw [if_neg e, decide_eq_false e]
    have ex : ∃ r', LI M i 0 0 0 r' ∧ H1.plus [.cells 1 M.length (bls (fun z => decide (z = i)) M.length)] = H1.plus [.cells 1 M.length (bls r' M.length)] := ⟨_, li, rfl⟩
    have mk1 := fun H => mkSl_ok H 1 (.bool false) M.length (M.length : Int) rfl (by omega)
    have rp := bls_rep M.length
    have lz := bls_len (fun _ => false) M.length
    have k1 : Kp (fun _ => False) H1 (H1.plus [.cells 1 M.length (bls (fun z => ldF M (i * 8 + z)) M.length)]) := Kp.plus _ _
    have lc := bls_len (fun z => ldF M (i * 8 + z)) M.length
    obtain ⟨x1, e, h2, q1, q2, tb2, _⟩ := (tb.kp k1).app (cs := bls (fun z => ldF M (i * 8 + z)) M.length) (b := H1.size) (H1.plus [.cells 1 M.length (bls (fun z => ldF M (i * 8 + z)) M.length)]).size (by rw [lc]; exact plus_at0 _ _ _ _ rfl) ⟨fun e => by
      obtain ⟨rs, lv, _⟩ := tb.r
      have := lv.lt e; omega, tb.k.size⟩ (by simp [ldR]; omega)
    rw [← ldR_s] at tb2
    rw [lc] at q1 q2
    have f1 := app1_at (H1.plus [.cells 1 M.length (bls (fun z => ldF M (i * 8 + z)) M.length)]) (.slice H1.size 0 M.length M.length)
    clear tb li mx
    generalize hcd : bls (fun z => decide (z = i)) M.length = cd at *
    generalize bls (fun z => ldF M (i * 8 + z)) M.length = c2 at *
    generalize bls (fun _ => false) M.length = cz at *
    refine W.assoc ?_
    refine W.seq (W.chunk ?_)
    simp (disch := first|omega|exact zE rfl|exact zO|exact zL rfl) [c69_o4, zG, q]
    refine W.seq (W.chunk ?_)
    simp (disch := first|omega|exact zE rfl|exact zO|exact zL rfl) [zG, q]
    refine W.seq (W.block ?_)
    refine W.seq (W.chunk ?_)
    simp (disch := first|omega|exact zE rfl|exact zO|exact zL rfl) [-act, c69_o5, zG, q, act_move, act_mkSl, mk1, rp]
    refine W.seq (W.chunk ?_)
    simp (disch := first|omega|exact zE rfl|exact zO|exact zL rfl) [c69_o6, zG, q, lz, es]
    refine W.assoc ?_
    refine W.seq (W.chunk ?_)
    simp (disch := first|omega|exact zE rfl|exact zO|exact zL rfl) [c69_o7, zG, q]
    refine W.seq (W.block ?_)
    refine W.use (l2) (by simp (disch := first|omega|exact zE rfl|exact zO|exact zL rfl) [zG, q, ex]) fun s1 H1 hp => ?_
    obtain ⟨rfl, q⟩ := hp
    try simp only [zW, if_true]
    refine W.chunk ?_
    simp (disch := first|omega|exact zE rfl|exact zO|exact zL rfl) [c69_o17, zG, q, elems, rdOf, f1, q1, q2]
    refine W.chunk ?_
    simp (disch := first|omega|exact zE rfl|exact zO|exact zL rfl) [c69_o18, zG, q]
    exact kR _ _ ⟨_, tb2, by simp [T.get, q]⟩
  · refine Tr.w fun s1 H1 hp R kR => W.trim ?_
    obtain ⟨xo, tb, q⟩ := hp
    clear mx
    refine W.assoc ?_
    refine W.seq (W.chunk ?_)
    simp (disch := first|omega|exact zE rfl|exact zO|exact zL rfl) [c69_o4, zG, q]
    refine W.seq (W.chunk ?_)
    simp (disch := first|omega|exact zE rfl|exact zO|exact zL rfl) [zG, q]
    exact kR _ _ ⟨_, tb, by simp [T.get, q]⟩
theorem c69_ok (J : CallF) (hJ : ∀ a h, J 69 a h = none) (h : Heap) {y : AV} (hy : MR h y M) (hm : isMat M = true) : ∃ v own, CallsTo tbl J 69 [y] h (v, own, false) ∧ TB h (h.plus own) v (ldR M M.length) := by
  refine Tr.fny (cf := c69) (e := .ret) (s := T.set .leaf [] y) (by decide) rfl (hJ _ _) rfl rfl (by simp) ?_
  have h8 := isMat_n hm
  obtain ⟨b, v, cs, rfl, mx⟩ := (hy.lo []).mx hm
  have mx : MX (frameOf h) M b v cs := mx
  have l3 := c69_i J hm mx
  clear mx hy
  refine Tr.w fun s1 H1 hp R kR => ?_
  obtain ⟨rfl, rfl⟩ := hp
  have q : True := trivial
  refine W.seq (W.chunk ?_)
  simp (disch := first|omega|exact zE rfl|exact zO|exact zL rfl) [c69_o0, zG, q]
  refine W.seq (W.chunk ?_)
  simp (disch := first|omega|exact zE rfl|exact zO|exact zL rfl) [c69_o1, zG, q]
  refine W.seq (W.chunk ?_)
  simp (disch := first|omega|exact zE rfl|exact zO|exact zL rfl) [c69_o2, zG, q]
  refine W.assoc ?_
  refine W.seq (W.chunk ?_)
  simp (disch := first|omega|exact zE rfl|exact zO|exact zL rfl) [c69_o3, zG, q]
  refine W.seq (W.block ?_)
  refine W.use (l3) (by simp (disch := first|omega|exact zE rfl|exact zO|exact zL rfl) [zG, q]) fun s1 H1 hp => ?_
  obtain ⟨x, tb, q⟩ := hp
  try simp only [zW, if_true]
  refine W.seq (W.chunk ?_)
  simp (disch := first|omega|exact zE rfl|exact zO|exact zL rfl) [c69_o19, zG, q]
  refine W.ret ?_
  try simp only [zW, if_true]
  exact kR _ _ ⟨[x], by simp [T.get, c69, evRess, evRes, q], tb.fr0⟩
end
def Post69 (a : AM) (h : Heap) (v : AV) (own : List AObj) : Prop := TB h (h.plus own) v (ldR a.M a.M.length)
noncomputable def T21 : CallF := addK tbl T20 69 PreO Post69
theorem t21 : Sound Go.Proofs.Try.prog T21 := Sound.addK follows ok t20 (by decide) _ _
abbrev K69 (J : CallF) : Prop := ∀ (h : Heap) (a : AM), MR h a.y a.M → isMat a.M = true → ∃ v own, J 69 [a.y] h = some (v, own, false) ∧ TB h (h.plus own) v (ldR a.M a.M.length)
theorem k69 : K69 T21 := fun h a ha hm => addK_some (Pre := PreO) (Post := Post69) (fun a args h hp => by
  obtain ⟨⟨hy, hm⟩, rfl⟩ := hp
  exact c69_ok T20 (fun _ _ => by simp (disch := decide) only [T20, T19, T18, T17, T16, T15, T14, T13, T12, T11, T10, T9, T8, T7, T6, T5, T4, T3, T2, T1, R21, R20, R19, R18, R17, R16, R15, R14, R13, R12, R11, R10, R9, R8, R7, R6, R5, R4, R3, R2, R1, addI_ne, addX_ne, addV_ne, addK_ne]; rfl) h hy hm) a _ h ⟨⟨ha, hm⟩, rfl⟩
structure LD (H : Heap) (M : List (List Int)) (q : Nat) (rs : List AV) : Prop where
  g : H.get q = .cells 1 M.length rs
  r : ∀ i, i < M.length → ∃ b, rs[i]? = some (.slice b 0 M.length M.length) ∧ H.get b = .cells 1 M.length (bls (fun z => ldF M (i * 8 + z)) M.length)
section
variable {M : List (List Int)}
theorem LD.kp {H H' : Heap} {q : Nat} {rs : List AV} (t : LD H M q rs) (k : Kp (fun _ => False) H H') : LD H' M q rs :=
  ⟨k.at t.g (by simp) id, fun i hi => by obtain ⟨b, e1, e2⟩ := t.r i hi; exact ⟨b, e1, k.at e2 (by simp) id⟩⟩
theorem TB.ld {H0 H : Heap} {x : AV} (tb : TB H0 H x (ldR M M.length)) (hn : 0 < M.length) : ∃ q rs, x = .slice q 0 M.length M.length ∧ LD H M q rs := by
  have hl : (ldR M M.length).length = M.length := by simp [ldR]
  obtain ⟨q0, rs, e, gq, lq, hr⟩ := tb.sl (i := 0) (by omega)
  rw [hl] at e gq
  refine ⟨q0, rs, e, gq, fun i hi => ?_⟩
  obtain ⟨b2, e1, e2⟩ := hr i (bls (fun z => ldF M (i * 8 + z)) M.length) (by simp [ldR, hi])
  rw [bls_len] at e1 e2
  exact ⟨b2, e1, e2⟩
theorem mu_ld (hm : isMat M = true) {i c : Nat} (hi : i < M.length) (hc : c < M.length) : (ldF M (i * 8 + c) && ldF M (c * 8 + i)) = true ↔ Mu M i c := by
  rw [Bool.and_eq_true, ldF_iff hm hi hc, ldF_iff hm hc hi]; rfl
theorem c50_in (J : CallF) (hm : isMat M = true) {H : Heap} {q0 i : Nat} {rs : List AV} {y xo : AV} (ld : LD H M q0 rs) (hi : i < M.length) : ∀ d c, c + d = clN M i → Tr tbl J c50_l0 (fun s h => h = H ∧ s.get [] = y ∧ s.get [false, false] = .slice q0 0 M.length M.length ∧ s.get [true, false] = xo ∧ s.get [false, true] = G i ∧ s.get [true, true] = G c) (.exit 2) (fun s h => h = H ∧ s.get [] = y ∧ s.get [false, false] = .slice q0 0 M.length M.length ∧ s.get [true, false] = xo ∧ s.get [false, true] = G i ∧ s.get [true, true] = G (clN M i)) := by
  have h8 := isMat_n hm
  obtain ⟨n1, n2, n3⟩ := clN_ok hm hi
  obtain ⟨b1, e1, g1⟩ := ld.r i hi
  have gq := ld.g
  have e1' := getI e1
  intro d
  induction d with
  | zero =>
    intro c hc
    obtain rfl : c = clN M i := by omega
    have hcn : clN M i < M.length := by omega
    obtain ⟨b2, e2, g2⟩ := ld.r (clN M i) hcn
    have mu := (mu_ld hm hi hcn).2 n2
    rw [Bool.and_eq_true] at mu
    have a1 := bls_getN (fun z => ldF M (i * 8 + z)) hcn mu.1
    have a2 := bls_getN (fun z => ldF M (clN M i * 8 + z)) hi mu.2
    have e2' := getI e2
    have a1' := getI a1
    have a2' := getI a2
    refine Tr.out ?_ (by simp)
    clear ld n3 n2
    generalize clN M i = c at *
    generalize bls (fun z => ldF M (i * 8 + z)) M.length = ca at *
    generalize bls (fun z => ldF M (c * 8 + z)) M.length = cb at *
    generalize M.length = n at *
    refine Tr.w fun s1 H1 hp R kR => W.trim ?_
    obtain ⟨rfl, q⟩ := hp
    refine W.assoc ?_
    refine W.seq (W.chunk ?_)
    simp (disch := first|omega|exact zE rfl|exact zO|exact zL rfl) [c50_o6, zG, q, gq, e1, e1', g1, e2, e2', g2, a1, a1', a2, a2']
    refine W.seq (W.chunk ?_)
    simp (disch := first|omega|exact zE rfl|exact zO|exact zL rfl) [zG, q, gq, e1, e1', g1, e2, e2', g2, a1, a1', a2, a2']
    exact kR _ _ (by simp [T.get, q])
  | succ d ih =>
    intro c hc
    refine Tr.next ?_ (ih (c + 1) (by omega))
    have hcn : c < M.length := by omega
    obtain ⟨b2, e2, g2⟩ := ld.r c hcn
    have mu : ¬ (ldF M (i * 8 + c) && ldF M (c * 8 + i)) = true := fun q => by have := n3 c ((mu_ld hm hi hcn).1 q); omega
    have a1 := bls_getN (fun z => ldF M (i * 8 + z)) hcn rfl
    have a2 := bls_getN (fun z => ldF M (c * 8 + z)) hi rfl
    have e2' := getI e2
    have a1' := getI a1
    have a2' := getI a2
    clear ld n3 n2 ih
    generalize hca : bls (fun z => ldF M (i * 8 + z)) M.length = ca at *
    generalize hcb : bls (fun z => ldF M (c * 8 + z)) M.length = cb at *
    try simp only at a1 a2 a1' a2'
    generalize ldF M (i * 8 + c) = p1 at *
    generalize ldF M (c * 8 + i) = p2 at *
    clear hca hcb
    generalize M.length = n at *
    cases p1 <;> cases p2
    all_goals first | (exact absurd rfl mu) | skip
    all_goals
      refine Tr.w fun s1 H1 hp R kR => W.trim ?_
      obtain ⟨rfl, q⟩ := hp
      refine W.assoc ?_
      refine W.seq (W.chunk ?_)
      simp (disch := first|omega|exact zE rfl|exact zO|exact zL rfl) [c50_o6, zG, q, gq, e1, e1', g1, e2, e2', g2, a1, a1', a2, a2']
      refine W.seq (W.chunk ?_)
      simp (disch := first|omega|exact zE rfl|exact zO|exact zL rfl) [zG, q, gq, e1, e1', g1, e2, e2', g2, a1, a1', a2, a2']
      refine W.block ?_
      refine W.chunk ?_
      simp (disch := first|omega|exact zE rfl|exact zO|exact zL rfl) [c50_o7, zG, q, gq, e1, e1', g1, e2, e2', g2, a1, a1', a2, a2']
      exact kR _ _ (by simp [T.get, q])
theorem c50_out (J : CallF) (hm : isMat M = true) {H0 : Heap} {q0 b v : Nat} {rs : List AV} (ld : LD H0 M q0 rs) : Tr tbl J c50_l1 (fun s h => h = H0 ∧ s.get [] = .slice b 0 M.length v ∧ s.get [false, false] = .slice q0 0 M.length M.length ∧ s.get [true, false] = .nils ∧ s.get [false, true] = G ((0 : Nat) : Int)) (.exit 0) (fun s h => ∃ x, NG H0 h x (clsL M) ∧ s.get [true, false] = x) := by
  have h8 := isMat_n hm
  refine Tr.pre (P := fun s h => ∃ x, NG H0 h x (lf (fun i => (clN M i : Int)) 0) ∧ s.get [] = .slice b 0 M.length v ∧ s.get [false, false] = .slice q0 0 M.length M.length ∧ s.get [true, false] = x ∧ s.get [false, true] = G ((0 : Nat) : Int)) (fun s h q => ⟨.nils, by rw [q.1]; exact NG.nil H0, q.2⟩) ?_
  refine Tr.rounds (P := fun i s h => ∃ x, NG H0 h x (lf (fun i => (clN M i : Int)) i) ∧ s.get [] = .slice b 0 M.length v ∧ s.get [false, false] = .slice q0 0 M.length M.length ∧ s.get [true, false] = x ∧ s.get [false, true] = G i) (M := M.length) (fun i hi => ?_) ?_ (by simp) 0 (by omega)
  · refine Tr.w fun s1 H1 hp R kR => W.trim ?_
    obtain ⟨x, ng, q⟩ := hp
    have l0 := c50_in (y := .slice b 0 M.length v) (xo := x) J hm (ld.kp ng.k) hi (clN M i) 0 (by omega)
    obtain ⟨x1, e, h2, q1, q2, ng2, _⟩ := ng.app H1.size (clN M i) (by rw [lf_len]; omega)
    rw [← lf_succ] at ng2
    have f1 := app1_at H1 (G (clN M i))
    clear ld ng
    refine W.assoc ?_
    refine W.seq (W.chunk ?_)
    simp (disch := first|omega|exact zE rfl|exact zO|exact zL rfl) [c50_o4, zG, q]
    refine W.seq (W.chunk ?_)
    simp (disch := first|omega|exact zE rfl|exact zO|exact zL rfl) [zG, q]
    refine W.seq (W.block ?_)
    refine W.seq (W.chunk ?_)
    simp (disch := first|omega|exact zE rfl|exact zO|exact zL rfl) [c50_o5, zG, q]
    refine W.seq (W.block ?_)
    refine W.use (l0) (by simp (disch := first|omega|exact zE rfl|exact zO|exact zL rfl) [zG, q]) fun s1 H1 hp => ?_
    obtain ⟨rfl, q⟩ := hp
    try simp only [zW, if_true]
    refine W.chunk ?_
    simp (disch := first|omega|exact zE rfl|exact zO|exact zL rfl) [c50_o8, zG, q, elems, rdOf, f1, q1, q2]
    refine W.chunk ?_
    simp (disch := first|omega|exact zE rfl|exact zO|exact zL rfl) [c50_o9, zG, q]
    exact kR _ _ ⟨_, ng2, by simp [T.get, q]⟩
  · refine Tr.w fun s1 H1 hp R kR => W.trim ?_
    obtain ⟨x, ng, q⟩ := hp
    clear ld
    refine W.assoc ?_
    refine W.seq (W.chunk ?_)
    simp (disch := first|omega|exact zE rfl|exact zO|exact zL rfl) [c50_o4, zG, q]
    refine W.seq (W.chunk ?_)
    simp (disch := first|omega|exact zE rfl|exact zO|exact zL rfl) [zG, q]
    exact kR _ _ ⟨_, ng, by simp [T.get, q]⟩
theorem NG.base {H0 H1 H : Heap} {x : AV} {L : List Int} (k : Kp (fun _ => False) H0 H1) (t : NG H1 H x L) : NG H0 H x L := ⟨k.trans t.k, fun q hq => Nat.le_trans k.size (t.x0 q hq), t.l⟩
theorem c50_ok (J : CallF) (k69 : K69 J) (hJ : ∀ a h, J 50 a h = none) (h : Heap) {y : AV} (hy : MR h y M) (hm : isMat M = true) : ∃ v own, CallsTo tbl J 50 [y] h (v, own, false) ∧ NG h (h.plus own) v (clsL M) := by
  refine Tr.fny (cf := c50) (e := .ret) (s := T.set .leaf [] y) (by decide) rfl (hJ _ _) rfl rfl (by simp) ?_
  have h8 := isMat_n hm
  have hy0 : MR (frameOf h) y M := hy.lo []
  obtain ⟨w, own, k69, tb⟩ := k69 (frameOf h) ⟨M, y⟩ hy0 hm
  simp only at k69 tb
  obtain ⟨q0, rs, rfl, ld⟩ := tb.ld (by omega)
  obtain ⟨b, v, cs, rfl, mx⟩ := hy0.mx hm
  have l1 := c50_out (b := b) (v := v) J hm ld
  have kp : Kp (fun _ => False) (frameOf h) ((frameOf h).plus own) := Kp.plus _ _
  clear tb ld mx
  refine Tr.w fun s1 H1 hp R kR => ?_
  obtain ⟨rfl, rfl⟩ := hp
  have q : True := trivial
  refine W.seq (W.chunk ?_)
  simp (disch := first|omega|exact zE rfl|exact zO|exact zL rfl) [c50_o0, zG, q]
  refine W.seq (W.chunk ?_)
  simp (disch := first|omega|exact zE rfl|exact zO|exact zL rfl) [c50_o1, zG, q, k69, app_if, app_if']
  refine W.seq (W.chunk ?_)
  simp (disch := first|omega|exact zE rfl|exact zO|exact zL rfl) [c50_o2, zG, q]
  refine W.assoc ?_
  refine W.seq (W.chunk ?_)
  simp (disch := first|omega|exact zE rfl|exact zO|exact zL rfl) [c50_o3, zG, q]
  refine W.seq (W.block ?_)
  refine W.use (l1) (by simp (disch := first|omega|exact zE rfl|exact zO|exact zL rfl) [zG, q]) fun s1 H1 hp => ?_
  obtain ⟨x, ng, q⟩ := hp
  try simp only [zW, if_true]
  refine W.seq (W.chunk ?_)
  simp (disch := first|omega|exact zE rfl|exact zO|exact zL rfl) [c50_o10, zG, q]
  refine W.ret ?_
  try simp only [zW, if_true]
  exact kR _ _ ⟨[x], by simp [T.get, c50, evRess, evRes, q], (ng.base kp).fr0⟩
theorem c31_bad (J : CallF) (k54 : K54 J) (hJ : ∀ a h, J 31 a h = none) (h : Heap) {y : AV} (hy : MR h y M) (hm : isMat M = false) : CallsTo tbl J 31 [y] h (.tup [.nils, G 2], [], false) := by
  refine Tr.fnv (cf := c31) (e := .ret) (s := T.set .leaf [] y) (by decide) rfl (hJ _ _) rfl rfl rfl (by simp) ?_
  obtain ⟨cs, k54, hl, hc⟩ := k54 ⟨h.get, h.size, []⟩ y M (hy.lo [])
  have rp : (List.replicate 65 (AV.int .i64 0)).length = 65 := List.length_replicate
  have ep : putAt (List.replicate 65 (AV.int .i64 0)) 0 cs = cs := putAt_all _ _ (by omega)
  refine Tr.w fun s1 H1 hp R kR => ?_
  obtain ⟨rfl, rfl⟩ := hp
  have q : True := trivial
  generalize hZ : List.replicate 65 (AV.int .i64 0) = Z at *
  rw [hm] at k54
  refine W.seq (W.chunk ?_)
  simp (disch := first|omega|exact zE rfl|exact zO|exact zL rfl) [-List.reduceReplicate, c31_o0, size_mk, get_mk_lt, get_mk_ge, frameOf, Eff.app, Heap.setOwn, q]
  refine W.seq (W.chunk ?_)
  simp (disch := first|omega|exact zE rfl|exact zO|exact zL rfl) [-List.reduceReplicate, c31_o1, size_mk, get_mk_lt, get_mk_ge, frameOf, Eff.app, Heap.setOwn, q, k54, hZ, ep, rp, hl, frameOf]
  refine W.assoc ?_
  refine W.seq (W.chunk ?_)
  simp (disch := first|omega|exact zE rfl|exact zO|exact zL rfl) [-List.reduceReplicate, c31_o2, size_mk, get_mk_lt, get_mk_ge, frameOf, Eff.app, Heap.setOwn, q]
  refine W.seq (W.chunk ?_)
  simp (disch := first|omega|exact zE rfl|exact zO|exact zL rfl) [-List.reduceReplicate, c31_o3, size_mk, get_mk_lt, get_mk_ge, frameOf, Eff.app, Heap.setOwn, q]
  exact kR _ _ ⟨[.nils, G 2], by simp [T.get, c31, evRess, evRes], rfl⟩
theorem c31_ok (J : CallF) (k54 : K54 J) (k62 : K62 J) (hJ : ∀ a h, J 31 a h = none) (h : Heap) {y : AV} (hy : MR h y M) (hm : isMat M = true) : ∃ v own, CallsTo tbl J 31 [y] h (v, own, false) ∧ ∃ w, v = .tup [w, G 0] ∧ NG h (h.plus own) w (clsL M) := by
  refine Tr.fny (cf := c31) (e := .ret) (s := T.set .leaf [] y) (by decide) rfl (hJ _ _) rfl rfl (by simp) ?_
  obtain ⟨cs, k54, hl, hc⟩ := k54 ⟨h.get, h.size, []⟩ y M (hy.lo [])
  have rp : (List.replicate 65 (AV.int .i64 0)).length = 65 := List.length_replicate
  obtain rfl := hc hm
  have ep : putAt (List.replicate 65 (AV.int .i64 0)) 0 (matC M) = matC M := putAt_all _ _ (by omega)
  have et : (matC M).take 65 = matC M := List.take_of_length_le (by omega)
  obtain ⟨w, own, k62, ng⟩ := k62 ⟨h.get, h.size, [.cells 0 65 (matC M)]⟩ M hm
  have ng := ng.up
  refine Tr.w fun s1 H1 hp R kR => ?_
  obtain ⟨rfl, rfl⟩ := hp
  have q : True := trivial
  generalize hZ : List.replicate 65 (AV.int .i64 0) = Z at *
  rw [hm] at k54
  refine W.seq (W.chunk ?_)
  simp (disch := first|omega|exact zE rfl|exact zO|exact zL rfl) [-List.reduceReplicate, c31_o0, size_mk, get_mk_lt, get_mk_ge, frameOf, Eff.app, Heap.setOwn, q]
  refine W.seq (W.chunk ?_)
  simp (disch := first|omega|exact zE rfl|exact zO|exact zL rfl) [-List.reduceReplicate, c31_o1, size_mk, get_mk_lt, get_mk_ge, frameOf, Eff.app, Heap.setOwn, q, k54, hZ, ep, rp, hl, frameOf]
  refine W.assoc ?_
  refine W.seq (W.chunk ?_)
  simp (disch := first|omega|exact zE rfl|exact zO|exact zL rfl) [-List.reduceReplicate, c31_o2, size_mk, get_mk_lt, get_mk_ge, frameOf, Eff.app, Heap.setOwn, q]
  refine W.seq (W.chunk ?_)
  simp (disch := first|omega|exact zE rfl|exact zO|exact zL rfl) [-List.reduceReplicate, c31_o3, size_mk, get_mk_lt, get_mk_ge, frameOf, Eff.app, Heap.setOwn, q]
  refine W.seq (W.chunk ?_)
  simp (disch := first|omega|exact zE rfl|exact zO|exact zL rfl) [-List.reduceReplicate, c31_o4, zG, q, get_mk_ge, et, hl, k62, app_if, app_if']
  refine W.ret ?_
  try simp only [zW, if_true]
  exact kR _ _ ⟨[w, G 0], by simp [T.get, c31, evRess, evRes], w, rfl, ng.fr1⟩
end
def Post50 (a : AM) (h : Heap) (v : AV) (own : List AObj) : Prop := NG h (h.plus own) v (clsL a.M)
noncomputable def T22 : CallF := addK tbl T21 50 PreO Post50
theorem t22 : Sound Go.Proofs.Try.prog T22 := Sound.addK follows ok t21 (by decide) _ _
abbrev K50 (J : CallF) : Prop := ∀ (h : Heap) (a : AM), MR h a.y a.M → isMat a.M = true → ∃ v own, J 50 [a.y] h = some (v, own, false) ∧ NG h (h.plus own) v (clsL a.M)
theorem k50 : K50 T22 := fun h a ha hm => addK_some (Pre := PreO) (Post := Post50) (fun a args h hp => by
  obtain ⟨⟨hy, hm⟩, rfl⟩ := hp
  exact c50_ok T21 k69 (fun _ _ => by simp (disch := decide) only [T21, T20, T19, T18, T17, T16, T15, T14, T13, T12, T11, T10, T9, T8, T7, T6, T5, T4, T3, T2, T1, R21, R20, R19, R18, R17, R16, R15, R14, R13, R12, R11, R10, R9, R8, R7, R6, R5, R4, R3, R2, R1, addI_ne, addX_ne, addV_ne, addK_ne]; rfl) h hy hm) a _ h ⟨⟨ha, hm⟩, rfl⟩
def Post31 (a : AM) (h : Heap) (v : AV) (own : List AObj) : Prop := (isMat a.M = false → v = .tup [.nils, G 2] ∧ own = []) ∧ (isMat a.M = true → ∃ w, v = .tup [w, G 0] ∧ NG h (h.plus own) w (clsL a.M))
noncomputable def T23 : CallF := addK tbl T22 31 PreM Post31
theorem t23 : Sound Go.Proofs.Try.prog T23 := Sound.addK follows ok t22 (by decide) _ _
abbrev K31 (J : CallF) : Prop := ∀ (h : Heap) (a : AM), MR h a.y a.M → ∃ v own, J 31 [a.y] h = some (v, own, false) ∧ Post31 a h v own
theorem k54_22 : K54 T22 := fun h y M hy => by
  simp (disch := decide) only [T22, T21, T20, T19, T18, T17, T16, T15, T14, T13, T12, T11, T10, T9, T8, T7, T6, T5, T4, T3, T2, T1, R21, R20, R19, R18, R17, R16, R15, R14, R13, R12, R11, R10, R9, R8, R7, R6, R5, R4, R3, R2, R1, addI_ne, addX_ne, addV_ne, addK_ne]
  exact k54 h y M hy
theorem k62_22 : K62 T22 := fun h M hm => by
  simp (disch := decide) only [T22, T21, T20, T19, T18, T17, T16, T15, T14, T13, T12, T11, T10, T9, T8, T7, addK_ne]
  exact k62 h M hm
theorem k31 : K31 T23 := fun h a ha => addK_some (Pre := PreM) (Post := Post31) (fun a args h hp => by
  obtain ⟨hy, rfl⟩ := hp
  have hn : ∀ a h, T22 31 a h = none := (fun _ _ => by simp (disch := decide) only [T22, T21, T20, T19, T18, T17, T16, T15, T14, T13, T12, T11, T10, T9, T8, T7, T6, T5, T4, T3, T2, T1, R21, R20, R19, R18, R17, R16, R15, R14, R13, R12, R11, R10, R9, R8, R7, R6, R5, R4, R3, R2, R1, addI_ne, addX_ne, addV_ne, addK_ne]; rfl)
  cases c : isMat a.M
  · exact ⟨_, _, c31_bad T22 k54_22 hn h hy c, fun _ => ⟨rfl, rfl⟩, fun q => by rw [c] at q; cases q⟩
  · obtain ⟨v, own, e, p⟩ := c31_ok T22 k54_22 k62_22 hn h hy c
    exact ⟨v, own, e, fun q => (by rw [c] at q; cases q), fun _ => p⟩) a _ h ⟨ha, rfl⟩
end Go.Proofs.Ytjeemgaoonapgaa.Ev
set_option linter.unusedVariables false
set_option linter.unusedSimpArgs false
namespace Go.Proofs.Ytjeemgaoonapgaa.Ev
open Go Go.AEv
def PerS (M : List (List Int)) (i p : Nat) : Prop := (∀ k, Wk M k i i → p ∣ k) ∧ ∀ g, (∀ k, Wk M k i i → g ∣ k) → g ∣ p
section
variable {M : List (List Int)}
theorem PerS.eq {i p q : Nat} (a : PerS M i p) (b : PerS M i q) : p = q := Nat.dvd_antisymm (b.2 p a.1) (a.2 q b.1)
theorem cyc_mu {i j g : Nat} (m : Mu M i j) (h : ∀ k, Wk M k i i → g ∣ k) : ∀ k, Wk M k j j → g ∣ k := fun k w => by
  obtain ⟨⟨a, wa⟩, ⟨b, wb⟩⟩ := m
  have h1 := h _ ((wa.add w).add wb)
  have h2 := h _ (wa.add wb)
  have e : k = (a + k + b) - (a + b) := by omega
  rw [e]
  exact Nat.dvd_sub h1 h2
theorem PerS.mu {i j p : Nat} (m : Mu M i j) (h : PerS M i p) : PerS M j p :=
  ⟨cyc_mu m h.1, fun g hg => h.2 g (cyc_mu m.symm hg)⟩
theorem mu_mid {i u v : Nat} (mv : Mu M i v) (hu : Rc M i u) (e : 0 < ent M u v) : Mu M i u := ⟨hu, (Rc.one e).trans mv.2⟩
theorem tele {i p : Nat} {f : Nat → Int} (h1 : ∀ u v, Mu M i u → Mu M i v → 0 < ent M u v → (p : Int) ∣ f u + 1 - f v) : ∀ {k v : Nat}, Mu M i v → Wk M k i v → (p : Int) ∣ f i + k - f v
  | 0, v, m, w => by
    have e : i = v := w
    subst e
    rw [show f i + ((0 : Nat) : Int) - f i = 0 by omega]
    exact Int.dvd_zero _
  | k + 1, v, m, w => by
    obtain ⟨u, w', e⟩ := Wk.snoc.1 w
    have mu := mu_mid m ⟨k, w'⟩ e
    have a := tele h1 mu w'
    have b := h1 u v mu m e
    have := Int.dvd_add a b
    rwa [show f i + (k : Int) - f u + (f u + 1 - f v) = f i + ((k + 1 : Nat) : Int) - f v by omega] at this
theorem edge_dvd {i g u v : Nat} {f : Nat → Int} (hf : ∀ z, Mu M i z → ∃ d : Nat, f z = d ∧ Wk M d i z) (hg : ∀ k, Wk M k i i → g ∣ k) (mu : Mu M i u) (mv : Mu M i v) (e : 0 < ent M u v) : (g : Int) ∣ f u + 1 - f v := by
  obtain ⟨a, ea, wa⟩ := hf u mu
  obtain ⟨b, eb, wb⟩ := hf v mv
  obtain ⟨l, wl⟩ := mv.2
  have h1 := hg _ ((wa.add (Wk.one e)).add wl)
  have h2 := hg _ (wb.add wl)
  have h1' : (g : Int) ∣ ((a + 1 + l : Nat) : Int) := Int.natCast_dvd_natCast.2 h1
  have h2' : (g : Int) ∣ ((b + l : Nat) : Int) := Int.natCast_dvd_natCast.2 h2
  have := Int.dvd_sub h1' h2'
  rw [ea, eb]
  rwa [show ((a + 1 + l : Nat) : Int) - ((b + l : Nat) : Int) = (a : Int) + 1 - b by omega] at this
theorem per_of {i p : Nat} {f : Nat → Int} (f0 : f i = 0) (hf : ∀ z, Mu M i z → ∃ d : Nat, f z = d ∧ Wk M d i z) (h1 : ∀ u v, Mu M i u → Mu M i v → 0 < ent M u v → (p : Int) ∣ f u + 1 - f v) (h2 : ∀ g, (∀ k, Wk M k i i → g ∣ k) → g ∣ p) : PerS M i p := by
  refine ⟨fun k w => ?_, h2⟩
  have := tele h1 (Mu.refl i) w
  rw [show f i + (k : Int) - f i = (k : Int) by omega] at this
  exact Int.natCast_dvd_natCast.1 this
open Classical in
noncomputable def perN (M : List (List Int)) (i : Nat) : Nat := if h : ∃ p, PerS M i p then Classical.choose h else 0
theorem perN_eq {i p : Nat} (h : PerS M i p) : perN M i = p := by
  have hx : ∃ p, PerS M i p := ⟨p, h⟩
  unfold perN
  rw [dif_pos hx]
  exact (Classical.choose_spec hx).eq h
def Fk (M : List (List Int)) (d i z : Nat) : Prop := Wk M d i z ∧ ∀ k, k < d → ¬ Wk M k i z
theorem Fk.eq {d e i z : Nat} (a : Fk M d i z) (b : Fk M e i z) : d = e := by
  rcases Nat.lt_trichotomy d e with h | h | h
  · exact absurd a.1 (b.2 d h)
  · exact h
  · exact absurd b.1 (a.2 e h)
theorem Wk.first {i z : Nat} : ∀ {k : Nat}, Wk M k i z → ∃ d, d ≤ k ∧ Fk M d i z := by
  intro k
  induction k using Nat.strongRecOn with
  | _ k ih =>
    intro w
    by_cases c : ∃ j, j < k ∧ Wk M j i z
    · obtain ⟨j, hj, wj⟩ := c
      obtain ⟨d, hd, f⟩ := ih j hj wj
      exact ⟨d, by omega, f⟩
    · exact ⟨k, Nat.le_refl _, w, fun j hj wj => c ⟨j, hj, wj⟩⟩
open Classical in
noncomputable def dsN (M : List (List Int)) (i z : Nat) : Int := if h : ∃ d, Fk M d i z then ((Classical.choose h : Nat) : Int) else -1
theorem dsN_eq {d i z : Nat} (h : Fk M d i z) : dsN M i z = d := by
  have hx : ∃ d, Fk M d i z := ⟨d, h⟩
  unfold dsN
  rw [dif_pos hx]
  exact congrArg Nat.cast ((Classical.choose_spec hx).eq h)
theorem dsN_no {i z : Nat} (h : ¬ Rc M i z) : dsN M i z = -1 := by
  unfold dsN
  rw [dif_neg]
  rintro ⟨d, f⟩
  exact h ⟨d, f.1⟩
structure DI (M : List (List Int)) (i k x y : Nat) (f : Nat → Int) : Prop where
  a : ∀ z, z < M.length → f z ≠ -1 → ∃ d : Nat, f z = d ∧ Fk M d i z ∧ d ≤ k + 1
  b : ∀ z d, z < M.length → d ≤ k → Fk M d i z → f z = d
  d : ∀ x', x' < x → f x' = k → ∀ z, 0 < ent M x' z → f z ≠ -1
  e : ∀ z, z < y → f x = k → 0 < ent M x z → f z ≠ -1
theorem DI.skip {i k x y : Nat} {f : Nat → Int} (l : DI M i k x y f) (h : f x = k → 0 < ent M x y → f y ≠ -1) : DI M i k x (y + 1) f :=
  ⟨l.a, l.b, l.d, fun z hz q e => by
    by_cases c : z = y
    · subst c; exact h q e
    · exact l.e z (by omega) q e⟩
theorem DI.set (hm : isMat M = true) {i k x y : Nat} {f : Nat → Int} (l : DI M i k x y f) (hx : x < M.length) (hy : y < M.length) (h1 : f x = k) (h2 : 0 < ent M x y) (h3 : f y = -1) : DI M i k x (y + 1) (fun z => if z = y then ((k + 1 : Nat) : Int) else f z) := by
  have keep : ∀ z, f z ≠ -1 → (if z = y then ((k + 1 : Nat) : Int) else f z) ≠ -1 := fun z h => by
    split
    · omega
    · exact h
  obtain ⟨d0, e0, w0, _⟩ := l.a x hx (by rw [h1]; omega)
  have hd0 : d0 = k := by omega
  subst hd0
  have fy : Fk M (d0 + 1) i y := ⟨Wk.snoc.2 ⟨x, w0.1, h2⟩, fun j hj wj => by
    obtain ⟨d, hd, f1⟩ := wj.first
    have := l.b y d hy (by omega) f1
    omega⟩
  refine ⟨fun z hz hne => ?_, fun z d hz hd q => ?_, fun x' hx' q z ez => ?_, fun z hz q ez => ?_⟩
  · by_cases c : z = y
    · subst c
      rw [if_pos rfl]
      exact ⟨d0 + 1, rfl, fy, Nat.le_refl _⟩
    · rw [if_neg c] at hne ⊢
      exact l.a z hz hne
  · by_cases c : z = y
    · subst c
      have := fy.eq q
      omega
    · rw [if_neg c]; exact l.b z d hz hd q
  · by_cases c : x' = y
    · rw [if_pos c] at q; omega
    · rw [if_neg c] at q
      exact keep z (l.d x' hx' q z ez)
  · by_cases c : x = y
    · rw [c] at h1; omega
    · rw [if_neg c] at q
      by_cases c2 : z = y
      · rw [if_pos c2]; omega
      · rw [if_neg c2]; exact l.e z (by omega) q ez
theorem DI.nextx (hm : isMat M = true) {i k x : Nat} {f : Nat → Int} (l : DI M i k x M.length f) : DI M i k (x + 1) 0 f :=
  ⟨l.a, l.b, fun x' hx' q z ez => by
    by_cases c : x' = x
    · subst c; exact l.e z (ent_lt hm ez).2 q ez
    · exact l.d x' (by omega) q z ez, fun z hz => absurd hz (by omega)⟩
theorem DI.done (hm : isMat M = true) {i : Nat} (hi : i < M.length) {f : Nat → Int} (l : DI M i M.length 0 0 f) {z : Nat} (hz : z < M.length) : f z = dsN M i z := by
  by_cases c : Rc M i z
  · obtain ⟨k, hk, w⟩ := c.short hm hi
    obtain ⟨d, hd, q⟩ := w.first
    rw [dsN_eq q]
    exact l.b z d hz (by omega) q
  · rw [dsN_no c]
    apply Decidable.byContradiction
    intro h
    obtain ⟨d, _, q, _⟩ := l.a z hz h
    exact c ⟨d, q.1⟩
theorem DI.init {i : Nat} : DI M i 0 0 0 (fun z => if z = i then 0 else -1) :=
  ⟨fun z hz q => by
    by_cases c : z = i
    · subst c
      exact ⟨0, if_pos rfl, ⟨rfl, fun k hk => absurd hk (by omega)⟩, by omega⟩
    · simp only [if_neg c] at q; exact absurd rfl q, fun z d hz hd q => by
    obtain rfl : d = 0 := by omega
    have : i = z := q.1
    simp [this], fun x' hx' => absurd hx' (by omega), fun z hz => absurd hz (by omega)⟩
end
end Go.Proofs.Ytjeemgaoonapgaa.Ev
set_option linter.unusedVariables false
set_option linter.unusedSimpArgs false
namespace Go.Proofs.Ytjeemgaoonapgaa.Ev
open Go Go.AEv
attribute [local simp] evFunc initS evOps_c evTrim_c evSkip_c evExit_c evRet_c evSeq_c evCond_c evBlock_c evDraw_c runOps_n runOps_c exec_n exec_g pure1_c act AOpd.ev T.get T.set T.put evBin evUn forceT_eq forceV_eq forceL_eq evRess evRes one keep runFP_n runFP_c app_none AV.flats AV.flat came_some List.getElem?_cons_zero List.getElem?_cons_succ beqT wrapI idxI tdivI tmodI decT decF ibT ibF inT inF evScope_c if_pos if_neg Cm_some thenW_n thenW_e thenW_r blkW_n blkW_e blkW_r goI kn putAt AV.cells fillA loadA takeA mk Eff.isAll Eff.isNone Eff.commutes Eff.spares okPair apart eqAgg fits LK.fits allEq aveq eqk mmA
section
variable {M : List (List Int)}
end
structure AI where
  M : List (List Int)
  y : AV
  i : Nat
def OkI (a : AI) (h : Heap) : Prop := MR h a.y a.M ∧ isMat a.M = true ∧ a.i < a.M.length
def PreI (a : AI) (args : List AV) (h : Heap) : Prop := OkI a h ∧ args = [a.y, G a.i]
def Post71 (a : AI) (h : Heap) (v : AV) (own : List AObj) : Prop := NG h (h.plus own) v (lf (dsN a.M a.i) a.M.length)
noncomputable def T24 : CallF := addK tbl T23 71 PreI Post71
theorem t24 : Sound Go.Proofs.Try.prog T24 := Sound.addK follows ok t23 (by decide) _ _
section
variable {M : List (List Int)}
structure PI (M : List (List Int)) (i0 : Nat) (f : Nat → Int) (x y p : Nat) : Prop where
  g : ∀ g, (∀ k, Wk M k i0 i0 → g ∣ k) → g ∣ p
  d : ∀ u v, (u < x ∨ (u = x ∧ v < y)) → Mu M i0 u → Mu M i0 v → 0 < ent M u v → (p : Int) ∣ f u + 1 - f v
  b : p ≤ 100
theorem PI.skip {i0 x y p : Nat} {f : Nat → Int} (l : PI M i0 f x y p) (h : ¬ (Mu M i0 x ∧ Mu M i0 y ∧ 0 < ent M x y)) : PI M i0 f x (y + 1) p :=
  ⟨l.g, fun u v c mu mv e => by
    by_cases cc : u = x ∧ v = y
    · rw [cc.1, cc.2] at e; rw [cc.1] at mu; rw [cc.2] at mv; exact absurd ⟨mu, mv, e⟩ h
    · exact l.d u v (by omega) mu mv e, l.b⟩
theorem PI.take {i0 x y p : Nat} {f : Nat → Int} (hf : ∀ z, Mu M i0 z → ∃ d : Nat, f z = d ∧ Wk M d i0 z) (l : PI M i0 f x y p) (mx : Mu M i0 x) (my : Mu M i0 y) (e : 0 < ent M x y) (hb : (f x + 1 - f y).natAbs ≤ 100) : PI M i0 f x (y + 1) (Nat.gcd p (f x + 1 - f y).natAbs) := by
  refine ⟨fun g hg => ?_, fun u v c mu mv ee => ?_, ?_⟩
  · refine Nat.dvd_gcd (l.g g hg) ?_
    have := edge_dvd hf hg mx my e
    exact Int.ofNat_dvd_left.1 this
  · by_cases cc : u = x ∧ v = y
    · rw [cc.1, cc.2]
      exact Int.ofNat_dvd_left.2 (Nat.gcd_dvd_right _ _)
    · have h1 := l.d u v (by omega) mu mv ee
      exact Int.dvd_trans (Int.natCast_dvd_natCast.2 (Nat.gcd_dvd_left _ _)) h1
  · by_cases c : p = 0
    · subst c; rw [Nat.gcd_zero_left]; exact hb
    · have := Nat.gcd_le_left (n := (f x + 1 - f y).natAbs) (Nat.pos_of_ne_zero c)
      have := l.b
      omega
theorem PI.nextx (hm : isMat M = true) {i0 x p : Nat} {f : Nat → Int} (l : PI M i0 f x M.length p) : PI M i0 f (x + 1) 0 p :=
  ⟨l.g, fun u v c mu mv e => l.d u v (by
    have := (ent_lt hm e).2
    omega) mu mv e, l.b⟩
theorem PI.init {i0 : Nat} {f : Nat → Int} : PI M i0 f 0 0 0 := ⟨fun g _ => ⟨0, rfl⟩, fun u v c => absurd c (by omega), by omega⟩
theorem PI.done (hm : isMat M = true) {i0 p : Nat} {f : Nat → Int} (f0 : f i0 = 0) (hf : ∀ z, Mu M i0 z → ∃ d : Nat, f z = d ∧ Wk M d i0 z) (l : PI M i0 f M.length 0 p) : PerS M i0 p :=
  per_of f0 hf (fun u v mu mv e => l.d u v (.inl (ent_lt hm e).1) mu mv e) l.g
noncomputable def pdL (M : List (List Int)) : List Int := lf (fun i => (perN M i : Int)) M.length
end
def Post51 (a : AM) (h : Heap) (v : AV) (own : List AObj) : Prop := NG h (h.plus own) v (pdL a.M)
noncomputable def T25 : CallF := addK tbl T24 51 PreO Post51
theorem t25 : Sound Go.Proofs.Try.prog T25 := Sound.addK follows ok t24 (by decide) _ _
theorem W.loop {tbl : Nat → Option CFunc} {I : CallF} {live : List Path} {c : CCode} {s : T} {h : Heap} {Q : PQ} (x : W tbl I (.trim live c) s h (thenW tbl I (.loop live c) Q)) : W tbl I (.loop live c) s h Q := by
  obtain ⟨e, s1, h1, ⟨n, r⟩, q⟩ := x
  cases e with
  | normal =>
    obtain ⟨e2, s2, h2, r2, q2⟩ := q
    exact ⟨e2, s2, h2, Runs.loop_next ⟨n, r⟩ r2, q2⟩
  | exit i => exact ⟨_, s1, h1, Runs.loop_out ⟨n, r⟩ (by simp), q⟩
  | ret => exact ⟨_, s1, h1, Runs.loop_out ⟨n, r⟩ (by simp), q⟩
def cu (f : Nat → Int) : Nat → Nat
  | 0 => 0
  | m + 1 => cu f m + (if f m = -1 then 1 else 0)
theorem cu_congr {f g : Nat → Int} : ∀ {m}, (∀ z, z < m → f z = g z) → cu f m = cu g m
  | 0, _ => rfl
  | m + 1, h => by
    show cu f m + _ = cu g m + _
    rw [cu_congr (fun z hz => h z (by omega)), h m (by omega)]
theorem cu_upd {f : Nat → Int} {y : Nat} {w : Int} (hf : f y = -1) (hw : w ≠ -1) : ∀ {m}, y < m → cu (fun z => if z = y then w else f z) m + 1 = cu f m
  | 0, h => by omega
  | m + 1, h => by
    show cu _ m + (if (if m = y then w else f m) = -1 then 1 else 0) + 1 = cu f m + (if f m = -1 then 1 else 0)
    by_cases e : y = m
    · subst e
      rw [if_pos rfl, if_neg hw, if_pos hf, cu_congr (g := f) (fun z hz => if_neg (by omega))]
    · rw [if_neg (show ¬ m = y from fun e' => e e'.symm)]
      have := cu_upd hf hw (m := m) (by omega)
      omega
section
variable {M : List (List Int)}
structure BI (M : List (List Int)) (i : Nat) (f : Nat → Int) (Q : List Nat) (k v p : Nat) : Prop where
  f0 : f i = 0
  a : ∀ z, z < M.length → f z ≠ -1 → Mu M i z ∧ (∃ d : Nat, f z = d ∧ Wk M d i z) ∧ z ∈ Q
  q : ∀ (j z : Nat), Q[j]? = some z → z < M.length ∧ f z ≠ -1 ∧ f z ≤ j
  cn : Q.length + cu f M.length = M.length
  g : ∀ g, (∀ k, Wk M k i i → g ∣ k) → g ∣ p
  d : ∀ (j u : Nat), j < k → Q[j]? = some u → ∀ z, Mu M i z → 0 < ent M u z → f z ≠ -1 ∧ (p : Int) ∣ f u + 1 - f z
  e : ∀ u, Q[k]? = some u → ∀ z, z < v → Mu M i z → 0 < ent M u z → f z ≠ -1 ∧ (p : Int) ∣ f u + 1 - f z
  b : p ≤ 100
theorem BI.skip {i k v p u : Nat} {f : Nat → Int} {Q : List Nat} (l : BI M i f Q k v p) (hu : Q[k]? = some u) (h : ¬ (Mu M i v ∧ 0 < ent M u v)) : BI M i f Q k (v + 1) p :=
  ⟨l.f0, l.a, l.q, l.cn, l.g, l.d, fun u' hu' z hz m ez => by
    by_cases c : z = v
    · subst c
      rw [hu] at hu'
      cases hu'
      exact absurd ⟨m, ez⟩ h
    · exact l.e u' hu' z (by omega) m ez, l.b⟩
theorem BI.old (h8 : M.length ≤ 8) {i k v p u : Nat} {f : Nat → Int} {Q : List Nat} (l : BI M i f Q k v p) (hu : Q[k]? = some u) (m : Mu M i v) (e : 0 < ent M u v) (hv : v < M.length) (hf : f v ≠ -1) : BI M i f Q k (v + 1) (Nat.gcd (f u + 1 - f v).natAbs p) := by
  obtain ⟨hu1, hu2, hu3⟩ := l.q k u hu
  obtain ⟨mu, ⟨du, eu, wu⟩, _⟩ := l.a u hu1 hu2
  obtain ⟨_, ⟨dv, ev, wv⟩, hq⟩ := l.a v hv hf
  have dv2 : ∀ x, (p : Int) ∣ x → ((Nat.gcd (f u + 1 - f v).natAbs p : Nat) : Int) ∣ x := fun x hx => Int.dvd_trans (Int.natCast_dvd_natCast.2 (Nat.gcd_dvd_right _ _)) hx
  refine ⟨l.f0, l.a, l.q, l.cn, fun g hg => Nat.dvd_gcd ?_ (l.g g hg), fun j u' hj hu' z mz ez => ⟨(l.d j u' hj hu' z mz ez).1, dv2 _ (l.d j u' hj hu' z mz ez).2⟩, fun u' hu' z hz mz ez => ?_, ?_⟩
  · obtain ⟨lb, wl⟩ := m.2
    have h1 := hg _ ((wu.add (Wk.one e)).add wl)
    have h2 := hg _ (wv.add wl)
    have h1' : (g : Int) ∣ ((du + 1 + lb : Nat) : Int) := Int.natCast_dvd_natCast.2 h1
    have h2' : (g : Int) ∣ ((dv + lb : Nat) : Int) := Int.natCast_dvd_natCast.2 h2
    have := Int.dvd_sub h1' h2'
    rw [show ((du + 1 + lb : Nat) : Int) - ((dv + lb : Nat) : Int) = f u + 1 - f v by omega] at this
    exact Int.ofNat_dvd_left.1 this
  · by_cases c : z = v
    · subst c
      rw [hu] at hu'
      cases hu'
      exact ⟨hf, Int.ofNat_dvd_left.2 (Nat.gcd_dvd_left _ _)⟩
    · have := l.e u' hu' z (by omega) mz ez
      exact ⟨this.1, dv2 _ this.2⟩
  · have hb := l.b
    by_cases c : p = 0
    · subst c
      rw [Nat.gcd_zero_right]
      obtain ⟨j, hj⟩ := List.mem_iff_getElem?.1 hq
      have h1 := (l.q j v hj).2.2
      have h2 := (List.getElem?_eq_some_iff.1 hj).1
      have h3 := (List.getElem?_eq_some_iff.1 hu).1
      have := l.cn
      omega
    · have := Nat.gcd_le_right (m := (f u + 1 - f v).natAbs) (Nat.pos_of_ne_zero c)
      omega
theorem BI.new {i k v p u : Nat} {f : Nat → Int} {Q : List Nat} (l : BI M i f Q k v p) (hu : Q[k]? = some u) (m : Mu M i v) (e : 0 < ent M u v) (hv : v < M.length) (hf : f v = -1) : BI M i (fun z => if z = v then f u + 1 else f z) (Q ++ [v]) k (v + 1) p := by
  obtain ⟨hu1, hu2, hu3⟩ := l.q k u hu
  obtain ⟨mu, ⟨du, eu, wu⟩, _⟩ := l.a u hu1 hu2
  have huv : u ≠ v := fun e => by rw [e, hf] at hu2; exact hu2 rfl
  have hkQ := (List.getElem?_eq_some_iff.1 hu).1
  have old : ∀ z, f z ≠ -1 → (if z = v then f u + 1 else f z) = f z := fun z hz => if_neg (fun e => by rw [e] at hz; exact hz hf)
  have inQ : ∀ (j z : Nat), j < Q.length → (Q ++ [v])[j]? = some z → Q[j]? = some z := fun j z hj h => by rwa [List.getElem?_append_left hj] at h
  refine ⟨?_, fun z hz hne => ?_, fun j z hj => ?_, ?_, l.g, fun j u' hj hu' z mz ez => ?_, fun u' hu' z hz mz ez => ?_, l.b⟩
  · show (if i = v then f u + 1 else f i) = 0
    rw [old i (by rw [l.f0]; omega), l.f0]
  · by_cases c : z = v
    · subst c
      exact ⟨m, ⟨du + 1, by rw [if_pos rfl]; omega, wu.add (Wk.one e)⟩, by simp⟩
    · simp only [if_neg c] at hne ⊢
      obtain ⟨a1, a2, a3⟩ := l.a z hz hne
      exact ⟨a1, a2, by simp [a3]⟩
  · by_cases c : j < Q.length
    · obtain ⟨a1, a2, a3⟩ := l.q j z (inQ j z c hj)
      show z < M.length ∧ (if z = v then f u + 1 else f z) ≠ -1 ∧ (if z = v then f u + 1 else f z) ≤ j
      rw [old z a2]
      exact ⟨a1, a2, a3⟩
    · rw [List.getElem?_append_right (by omega)] at hj
      have hj0 : j - Q.length = 0 := by
        have := (List.getElem?_eq_some_iff.1 hj).1
        simpa using this
      rw [hj0] at hj
      simp only [List.getElem?_cons_zero, Option.some.injEq] at hj
      subst hj
      show v < M.length ∧ (if v = v then f u + 1 else f v) ≠ -1 ∧ (if v = v then f u + 1 else f v) ≤ j
      rw [if_pos rfl]
      exact ⟨hv, by omega, by omega⟩
  · have := cu_upd (w := f u + 1) hf (by omega) hv
    have := l.cn
    rw [List.length_append, List.length_singleton]
    omega
  · have hjQ : j < Q.length := by omega
    have h := l.d j u' hj (inQ j u' hjQ hu') z mz ez
    obtain ⟨_, hu2', _⟩ := l.q j u' (inQ j u' hjQ hu')
    show (if z = v then f u + 1 else f z) ≠ -1 ∧ (p : Int) ∣ (if u' = v then f u + 1 else f u') + 1 - (if z = v then f u + 1 else f z)
    rw [old z h.1, old u' hu2']
    exact h
  · have hu'' := inQ k u' hkQ hu'
    rw [hu] at hu''
    cases hu''
    show (if z = v then f u + 1 else f z) ≠ -1 ∧ (p : Int) ∣ (if u = v then f u + 1 else f u) + 1 - (if z = v then f u + 1 else f z)
    rw [old u hu2]
    by_cases c : z = v
    · rw [if_pos c]
      exact ⟨by omega, by rw [Int.sub_self]; exact Int.dvd_zero _⟩
    · rw [if_neg c]
      exact l.e u hu z (by omega) mz ez
theorem BI.done (hm : isMat M = true) {i p : Nat} {f : Nat → Int} {Q : List Nat} (hi : i < M.length) (l : BI M i f Q Q.length 0 p) : (∀ z, z < M.length → Mu M i z → ∃ d : Nat, f z = d ∧ Wk M d i z) ∧ (∀ z, z < M.length → ¬ Mu M i z → f z = -1) ∧ perN M i = p := by
  have all : ∀ {k z}, Wk M k i z → Mu M i z → f z ≠ -1 := fun {k} => by
    induction k with
    | zero =>
      intro z w _
      have : i = z := w
      subst this
      rw [l.f0]; omega
    | succ k ih =>
      intro z w m
      obtain ⟨u, w', e⟩ := Wk.snoc.1 w
      have mu := mu_mid m ⟨k, w'⟩ e
      have hu := (ent_lt hm e).1
      obtain ⟨_, _, hq⟩ := l.a u hu (ih w' mu)
      obtain ⟨j, hj⟩ := List.mem_iff_getElem?.1 hq
      exact (l.d j u (List.getElem?_eq_some_iff.1 hj).1 hj z m e).1
  have h1 : ∀ z, Mu M i z → ∃ d : Nat, f z = d ∧ Wk M d i z := fun z m => by
    obtain ⟨k, w⟩ := m.1
    exact (l.a z (w.lt' hm hi) (all w m)).2.1
  refine ⟨fun z _ m => h1 z m, fun z hz m => ?_, ?_⟩
  · apply Decidable.byContradiction
    intro c
    exact m (l.a z hz c).1
  · refine perN_eq (per_of l.f0 h1 (fun u v mu mv e => ?_) l.g)
    obtain ⟨k, w⟩ := mu.1
    obtain ⟨_, _, hq⟩ := l.a u (w.lt' hm hi) (all w mu)
    obtain ⟨j, hj⟩ := List.mem_iff_getElem?.1 hq
    exact (l.d j u (List.getElem?_eq_some_iff.1 hj).1 hj v mv e).2
end
def qs (Q : List Nat) : List AV := Q.map fun (z : Nat) => G (z : Int)
theorem qs_len (Q : List Nat) : (qs Q).length = Q.length := by simp [qs]
structure BS (h0 H : Heap) (M : List (List Int)) (qc qo : Nat) (f : Nat → Int) (xq : AV) (Q : List Nat) : Prop where
  kf : Kp (fun _ => False) (frameOf h0) H
  gm : H.get h0.size = .cells 0 65 (matC M)
  gc : H.get qc = .cells 1 M.length (gs (clsL M))
  c1 : h0.size < qc
  go : H.get qo = .cells 1 M.length (gs (lf f M.length))
  o1 : h0.size < qo
  o2 : qo ≠ qc
  lq : ∃ bq, xq = .slice bq 0 Q.length Q.length ∧ H.get bq = .cells 1 Q.length (qs Q) ∧ h0.size < bq ∧ bq ≠ qo ∧ bq ≠ qc
section
variable {M : List (List Int)}
theorem fr_size (h : Heap) : (frameOf h).size = h.size := by simp [frameOf, Heap.size]
theorem BS.set {h0 H : Heap} {qc qo : Nat} {f : Nat → Int} {xq : AV} {Q : List Nat} (b : BS h0 H M qc qo f xq Q) {v : Nat} (hv : v < M.length) (z : Int) : ∃ H', Eff.app (.put qo M.length v [G z]) H = some H' ∧ BS h0 H' M qc qo (fun x => if x = v then z else f x) xq Q := by
  have hN : H.N = h0.size := b.kf.N
  have o1 := b.o1
  have p := put_gen H qo M.length v 1 (gs (lf f M.length)) [G z] (by omega) b.go (by rw [gl_len]; show v + 1 ≤ M.length; omega)
  rw [show putAt (gs (lf f M.length)) v [G z] = gs (lf (fun x => if x = v then z else f x) M.length) from gl_set f M.length v z hv] at p
  have hlt := get_lt b.go (by simp)
  refine ⟨_, p, b.kf.updn _ _ (by omega) (by rw [fr_size]; omega), ?_, ?_, b.c1, upd_same _ _ _ (by omega) hlt, b.o1, b.o2, ?_⟩
  · rw [upd_ne _ _ _ _ (by omega) (by omega)]; exact b.gm
  · rw [upd_ne _ _ _ _ (by omega) b.o2]; exact b.gc
  · obtain ⟨bq, e1, e2, e3, e4, e5⟩ := b.lq
    exact ⟨bq, e1, by rw [upd_ne _ _ _ _ (by omega) (fun e => e4 e.symm)]; exact e2, e3, e4, e5⟩
theorem BS.push {h0 H : Heap} (k0 : Nat) {qc qo : Nat} {f : Nat → Int} {xq : AV} {Q : List Nat} (b : BS h0 H M qc qo f xq Q) (v : Nat) (hn : Q.length ≤ 1000) :
    ∃ x1 e H', appA (H.plus [.cells 1 1 [G v]]) k0 none 1 8 1 [G v] xq = some (x1, e) ∧ Eff.app e (H.plus [.cells 1 1 [G v]]) = some H' ∧ BS h0 H' M qc qo f x1 (Q ++ [v]) := by
  have hN : H.N = h0.size := b.kf.N
  have o1 := b.o1
  have c1 := b.c1
  obtain ⟨bq, rfl, e2, e3, e4, e5⟩ := b.lq
  have hlt := get_lt e2 (by simp)
  have g2 := plus_keep [.cells 1 1 [G v]] e2 (by simp)
  have hN' : (H.plus [.cells 1 1 [G (v : Int)]]).N ≤ bq := by rw [plus_N]; omega
  have x := ext_gen (H.plus [.cells 1 1 [G v]]) bq Q.length 1 (qs Q) [G v] hN' g2 (qs_len Q)
  refine ⟨.slice bq 0 (Q.length + 1) (Q.length + 1), .ext bq Q.length 1 [G v], _, ?_, x, (b.kf.trans (Kp.plus _ _)).updn _ _ hN' (by rw [fr_size]; omega), ?_, ?_, c1, ?_, o1, b.o2, bq, by simp, ?_, e3, e4, e5⟩
  · simp only [appA, Nat.mul_one, Nat.one_mul]
    rw [if_neg (by decide), if_pos ⟨trivial, by simp, by omega⟩]
  · rw [upd_ne _ _ _ _ hN' (by omega)]; exact plus_keep _ b.gm (by simp)
  · rw [upd_ne _ _ _ _ hN' e5]; exact plus_keep _ b.gc (by simp)
  · rw [upd_ne _ _ _ _ hN' e4]; exact plus_keep _ b.go (by simp)
  · rw [upd_same _ _ _ hN' (by rw [plus_size]; omega)]
    simp [qs]
end
end Go.Proofs.Ytjeemgaoonapgaa.Ev
