/-
  Of the functions that this law reaches, part 1: what they answer. No condition.
-/
import Derived.Test.YtljgfdamdcikgaaRP0
import Derived.WideKeyPair
set_option linter.unusedVariables false
set_option linter.unusedSimpArgs false
namespace Go.Proofs.Ytljgfdamdcikgaa.Ev
open Go Go.AEv
attribute [local simp] evFunc initS evOps_c evTrim_c evSkip_c evExit_c evRet_c evSeq_c evCond_c evBlock_c evDraw_c runOps_n runOps_c exec_n exec_g pure1_c act AOpd.ev T.get T.set T.put evBin evUn forceT_eq forceV_eq forceL_eq evRess evRes one keep runFP_n runFP_c app_none AV.flats AV.flat came_some List.getElem?_cons_zero List.getElem?_cons_succ beqT wrapI idxI tdivI tmodI decT decF ibT ibF inT inF evScope_c if_pos if_neg Cm_some thenW_n thenW_e thenW_r blkW_n blkW_e blkW_r goI kn putAt AV.cells fillA loadA takeA mk Eff.isAll Eff.isNone Eff.commutes Eff.spares okPair apart eqAgg fits LK.fits allEq aveq eqk mmA
structure A59 where
  b : Nat
  n : Nat
  v : Nat
  cs : List AV
def Ok59 (a : A59) (h : Heap) : Prop := h.get a.b = .cells 1 a.v a.cs ∧ a.cs.length = a.n ∧ 0 < a.n ∧ a.n ≤ 1000
theorem c59_ok (J : CallF) (hJ : ∀ a h, J 59 a h = none) (h : Heap) (a : A59) (ha : Ok59 a h) : CallsTo tbl J 59 [.slice a.b 0 a.n a.v] h (.slice h.size 0 a.n a.n, [.cells 1 a.n a.cs], false) := by
  obtain ⟨b, n, v, cs⟩ := a
  obtain ⟨hg, hl, h0, hn⟩ := ha
  simp only at hg hl h0 hn ⊢
  refine Tr.fnh (cf := c59) (e := .ret) (s := T.set .leaf [] (.slice b 0 n v)) (by decide) rfl (hJ _ _) rfl rfl rfl (by simp) ?_
  have hb := get_lt hg (by simp)
  have n0 : ¬ n = 0 := by omega
  have hel : ∀ own, elems ⟨h.get, h.size, own⟩ 1 (.slice b 0 n v) = some (n, cs) := fun own => by
    have e : Heap.get ⟨h.get, h.size, own⟩ b = .cells 1 v cs := by rw [get_mk_lt _ _ _ _ hb]; exact hg
    simp only [elems, e, if_true, Nat.mul_one, List.drop_zero]
    rw [if_pos (by rw [List.length_take]; omega), List.take_of_length_le (by omega)]
  refine Tr.w fun s1 H1 hp _ kR => ?_
  obtain ⟨rfl, rfl⟩ := hp
  have q : True := trivial
  refine W.seq (W.chunk ?_)
  simp (disch := first|omega|exact zE rfl|exact zO|exact zL rfl) [c59_o0, size_mk, get_mk_lt, get_mk_ge, frameOf, Eff.app, Heap.setOwn, q]
  refine W.assoc ?_
  refine W.seq (W.chunk ?_)
  simp (disch := first|omega|exact zE rfl|exact zO|exact zL rfl) [c59_o1, size_mk, get_mk_lt, get_mk_ge, frameOf, Eff.app, Heap.setOwn, q, eqk]
  refine W.seq (W.chunk ?_)
  simp (disch := first|omega|exact zE rfl|exact zO|exact zL rfl) [c59_o2, size_mk, get_mk_lt, get_mk_ge, frameOf, Eff.app, Heap.setOwn, q]
  refine W.seq (W.chunk ?_)
  simp (disch := first|omega|exact zE rfl|exact zO|exact zL rfl) [c59_o3, size_mk, get_mk_lt, get_mk_ge, frameOf, Eff.app, Heap.setOwn, q, hel, appA, n0, frameOf, rdOf]
  refine W.ret ?_
  try simp only [zW, if_true]
  exact kR _ _ (by simp [T.get, c59, evRess, evRes, one, hl])
def Pre59 (a : A59) (args : List AV) (h : Heap) : Prop := Ok59 a h ∧ args = [.slice a.b 0 a.n a.v]
def Post59 (a : A59) (h : Heap) (v : AV) (own : List AObj) : Prop := v = .slice h.size 0 a.n a.n ∧ own = [.cells 1 a.n a.cs]
noncomputable def T21 : CallF := addK tbl T20 59 Pre59 Post59
theorem t21 : Sound Go.Proofs.Try.prog T21 := Sound.addK follows ok t20 (by decide) _ _
abbrev K59 (J : CallF) : Prop := ∀ (h : Heap) (a : A59), Ok59 a h → J 59 [.slice a.b 0 a.n a.v] h = some (.slice h.size 0 a.n a.n, [.cells 1 a.n a.cs], false)
theorem k59 : K59 T21 := fun h a ha => by
  obtain ⟨v, own, e, rfl, rfl⟩ := addK_some (Pre := Pre59) (Post := Post59) (fun a args h hp => by
    obtain ⟨ha, rfl⟩ := hp
    exact ⟨_, _, c59_ok T20 (fun _ _ => by simp (disch := decide) only [T1, T2, T3, T4, T5, T6, T7, T8, T9, T10, T11, T12, T13, T14, T15, T16, T17, T18, T19, T20, addI_ne, addX_ne, addV_ne, addK_ne]; rfl) h a ha, rfl, rfl⟩) a _ h ⟨ha, rfl⟩
  exact e
section
variable {q0 : Nat} {B : List (List Int)}
theorem c58_l (J : CallF) (k59 : K59 J) {H0 : Heap} {x : AV} (t : TQ H0 x q0 B) (hB : B.length = q0) (h1 : 1 ≤ q0) (h3 : q0 ≤ 3) :
    Tr tbl J c58_l0 (fun s h => h = H0 ∧ s.get [false, false] = .nils ∧ s.get [true, true] = x ∧ s.get [false, false, false] = G q0 ∧ s.get [true, false, false] = G ((0 : Nat) : Int)) (.exit 0) (fun s h => ∃ y, TB H0 h y (B.map gs) ∧ s.get [false, false] = y) := by
  obtain ⟨b, v, cs, rfl, gb, hr⟩ := t
  refine Tr.pre (P := fun s h => ∃ y, TB H0 h y ((B.take 0).map gs) ∧ s.get [false, false] = y ∧ s.get [true, true] = .slice b 0 q0 v ∧ s.get [false, false, false] = G q0 ∧ s.get [true, false, false] = G ((0 : Nat) : Int)) (fun s h hp => ⟨.nils, by rw [hp.1]; exact TB.nil H0, hp.2⟩) ?_
  refine Tr.rounds (e := .exit 0) (P := fun i s h => ∃ y, TB H0 h y ((B.take i).map gs) ∧ s.get [false, false] = y ∧ s.get [true, true] = .slice b 0 q0 v ∧ s.get [false, false, false] = G q0 ∧ s.get [true, false, false] = G i) (M := q0) (fun i hi => ?_) ?_ (by simp) 0 (by omega)
  · refine Tr.w fun s1 H1 hp _ kR => W.trim ?_
    obtain ⟨y, tb, q⟩ := hp
    obtain ⟨rb, rv, e1, g1, l1⟩ := hr i hi
    have e1' := getI e1
    have gb1 := tb.k.at gb (by simp) id
    have g2 := tb.k.at g1 (by simp) id
    have k := k59 H1 ⟨rb, q0, rv, gs (B.getD i [])⟩ ⟨g2, by simpa using l1, by show 0 < q0; omega, by show q0 ≤ 1000; omega⟩
    simp only at k
    have ts : (B.take (i + 1)).map gs = (B.take i).map gs ++ [gs (B.getD i [])] := by
      rw [List.take_add_one, List.map_append, List.getD_eq_getElem?_getD]
      rw [List.getElem?_eq_getElem (by omega)]; rfl
    have kp : Kp (fun _ => False) H1 (H1.plus [.cells 1 q0 (gs (B.getD i []))]) := Kp.plus _ _
    have lr : (gs (B.getD i [])).length = q0 := by simpa using l1
    obtain ⟨x1, e, H2, q1, q2, tb2, q3⟩ := (tb.kp kp).app H1.size (b := H1.size) (cs := gs (B.getD i [])) (by rw [lr]; exact plus_at0 _ _ _ _ rfl) ⟨fun hb => by
      obtain ⟨rs, lv, _⟩ := tb.r
      have := lv.lt hb
      omega, tb.k.size⟩ (by rw [List.length_map, List.length_take]; omega)
    rw [← ts] at tb2
    rw [lr] at q1 q2
    have hA := q1
    clear tb ts kp hr g1 g2
    have hcs : i < cs.length := (List.getElem?_eq_some_iff.1 e1).1
    generalize gs (B.getD i []) = rw' at *
    refine W.seq (W.chunk ?_)
    simp (disch := first|omega|exact zE rfl|exact zO|exact zL rfl) [c58_o3, zG, q]
    refine W.seq (W.chunk ?_)
    simp (disch := first|omega|exact zE rfl|exact zO|exact zL rfl) [zG, q]
    refine W.seq (W.block ?_)
    refine W.seq (W.chunk ?_)
    simp (disch := first|omega|exact zE rfl|exact zO|exact zL rfl) [c58_o4, zG, q, gb1, e1, e1']
    refine W.chunk ?_
    simp (disch := first|omega|exact zE rfl|exact zO|exact zL rfl) [c58_o5, zG, q, k, q1, q2, app1_at, elems, rdOf]
    refine W.chunk ?_
    simp (disch := first|omega|exact zE rfl|exact zO|exact zL rfl) [c58_o6, zG, q]
    exact kR _ _ ⟨_, tb2, by simp [T.get, q]⟩
  · refine Tr.w fun s1 H1 hp _ kR => W.trim ?_
    obtain ⟨y, tb, q⟩ := hp
    rw [List.take_of_length_le (by omega)] at tb
    refine W.seq (W.chunk ?_)
    simp (disch := first|omega|exact zE rfl|exact zO|exact zL rfl) [c58_o3, zG, q]
    refine W.seq (W.chunk ?_)
    simp (disch := first|omega|exact zE rfl|exact zO|exact zL rfl) [zG, q]
    exact kR _ _ ⟨_, tb, by simp [T.get, q]⟩
theorem c58_ok (J : CallF) (k59 : K59 J) (hJ : ∀ a h, J 58 a h = none) (h : Heap) {x : AV} (t : TQ h x q0 B) (hB : B.length = q0) (h1 : 1 ≤ q0) (h3 : q0 ≤ 3) : ∃ v own, CallsTo tbl J 58 [x] h (v, own, false) ∧ TB h (h.plus own) v (B.map gs) := by
  refine Tr.fny (cf := c58) (e := .ret) (s := T.set .leaf [] x) (by decide) rfl (hJ _ _) rfl rfl (by simp) ?_
  have tf : TQ (frameOf h) x q0 B := by
    obtain ⟨b, v, cs, e, g, r⟩ := t
    have gl : ∀ {b y}, h.get b = y → y ≠ .hole → (frameOf h).get b = y := fun e hx => by
      unfold frameOf; rw [get_mk_lt _ _ _ _ (get_lt e hx)]; exact e
    exact ⟨b, v, cs, e, gl g (by simp), fun i hi => by obtain ⟨rb, rv, e1, e2, e3⟩ := r i hi; exact ⟨rb, rv, e1, gl e2 (by simp), e3⟩⟩
  have l0 := c58_l J k59 tf hB h1 h3
  obtain ⟨b, v, cs, rfl, _⟩ := tf
  refine Tr.w fun s1 H1 hp _ kR => ?_
  obtain ⟨rfl, rfl⟩ := hp
  have q : True := trivial
  refine W.seq (W.chunk ?_)
  simp (disch := first|omega|exact zE rfl|exact zO|exact zL rfl) [c58_o0, zG, q]
  refine W.seq (W.chunk ?_)
  simp (disch := first|omega|exact zE rfl|exact zO|exact zL rfl) [c58_o1, zG, q]
  refine W.assoc ?_
  refine W.seq (W.chunk ?_)
  simp (disch := first|omega|exact zE rfl|exact zO|exact zL rfl) [c58_o2, zG, q]
  refine W.seq (W.block ?_)
  refine W.use (l0) (by simp (disch := first|omega|exact zE rfl|exact zO|exact zL rfl) [zG, q]) fun s1 H1 hp => ?_
  obtain ⟨y, tb, q⟩ := hp
  try simp only [zW, if_true]
  refine W.seq (W.chunk ?_)
  simp (disch := first|omega|exact zE rfl|exact zO|exact zL rfl) [c58_o7, zG, q]
  refine W.ret ?_
  try simp only [zW, if_true]
  exact kR _ _ ⟨[y], by simp [T.get, c58, evRess, evRes, q], tb.fr0⟩
end
structure A58 where
  q : Nat
  x : AV
  B : List (List Int)
def Pre58 (b : A58) (args : List AV) (h : Heap) : Prop := (TQ h b.x b.q b.B ∧ b.B.length = b.q ∧ 1 ≤ b.q ∧ b.q ≤ 3) ∧ args = [b.x]
def Post58 (b : A58) (h : Heap) (v : AV) (own : List AObj) : Prop := TB h (h.plus own) v (b.B.map gs)
noncomputable def T22 : CallF := addK tbl T21 58 Pre58 Post58
theorem t22 : Sound Go.Proofs.Try.prog T22 := Sound.addK follows ok t21 (by decide) _ _
abbrev K58 (J : CallF) : Prop := ∀ (h : Heap) (q : Nat) (x : AV) (B : List (List Int)), TQ h x q B → B.length = q → 1 ≤ q → q ≤ 3 → ∃ v own, J 58 [x] h = some (v, own, false) ∧ TB h (h.plus own) v (B.map gs)
theorem k58 : K58 T22 := fun h q x B h1 h2 h3 h4 => by
  obtain ⟨v, own, e, l⟩ := addK_some (Pre := Pre58) (Post := Post58) (fun b args h hp => by
    obtain ⟨⟨h1, h2, h3, h4⟩, rfl⟩ := hp
    exact c58_ok T21 k59 (fun _ _ => by simp (disch := decide) only [T1, T2, T3, T4, T5, T6, T7, T8, T9, T10, T11, T12, T13, T14, T15, T16, T17, T18, T19, T20, T21, addI_ne, addX_ne, addV_ne, addK_ne]; rfl) h h1 h2 h3 h4) ⟨q, x, B⟩ _ h ⟨⟨h1, h2, h3, h4⟩, rfl⟩
  exact ⟨v, own, e, l⟩
theorem TB.kpm {M : Nat → Prop} {Hb H0 h h' : Heap} {x : AV} {L : List (List AV)} (t : TB H0 h x L) (k : Kp M h h') (hM : ∀ b, M b → b < H0.size) (k0 : Kp (fun _ => False) Hb h') (hs : Hb.size ≤ H0.size) : TB Hb h' x L := by
  obtain ⟨rs, lv, hl, hr⟩ := t.r
  refine ⟨k0, fun q hq => Nat.le_trans hs (t.x0 q hq), rs, lv.kp k (fun b hb m => by have := t.x0 b hb; have := hM b m; omega), hl, fun i r hi => ?_⟩
  obtain ⟨cs, b, h1, h2, h3, h4, h5⟩ := hr i r hi
  exact ⟨cs, b, h1, h2, k.at h3 (by simp) (fun m => by have := hM b m; omega), h4, by omega⟩
section
variable {a : AR}
theorem c20_f (J : CallF) (k57 : KR 57 J) (hJ : ∀ a h, J 20 a h = none) (h : Heap) (o : OkR a h) (r : a.ru = false) : CallsTo tbl J 20 [a.v] h (.tup [.agg [G 0, .nils, .nils], G 2], [], false) := by
  refine Tr.fnv (cf := c20) (e := .ret) (s := T.set .leaf [] a.v) (by decide) rfl (hJ _ _) rfl rfl rfl (by simp) ?_
  have k : J 57 [a.v] ⟨h.get, h.size, [.cells 0 3 [G a.q, a.x, a.y], .cells 0 3 [G 0, .nils, .nils]]⟩ = some (.bool a.ru, [], false) := k57 _ a (o.lo _)
  rw [r] at k
  refine Tr.post (Q := (fun s h' => s.get [true] = .ptr (h.size + 1) 0 3 ∧ s.get [false, false] = G 2 ∧ h' = ⟨h.get, h.size, [.cells 0 3 [G a.q, a.x, a.y], .cells 0 3 [G 0, .nils, .nils]]⟩)) (fun s h' q => by
    obtain ⟨q1, q2, rfl⟩ := q
    simp [c20, q1, q2, loadA, takeA, get_mk_ge]) ?_
  refine Tr.w fun s1 H1 hp _ kR => ?_
  obtain ⟨rfl, rfl⟩ := hp
  have q : True := trivial
  refine W.seq (W.chunk ?_)
  simp (disch := first|omega|exact zE rfl|exact zO|exact zL rfl) [c20_o0, size_mk, get_mk_lt, get_mk_ge, frameOf, Eff.app, Heap.setOwn, q]
  refine W.assoc ?_
  refine W.seq (W.chunk ?_)
  simp (disch := first|omega|exact zE rfl|exact zO|exact zL rfl) [c20_o1, size_mk, get_mk_lt, get_mk_ge, frameOf, Eff.app, Heap.setOwn, q, k]
  refine W.seq (W.chunk ?_)
  simp (disch := first|omega|exact zE rfl|exact zO|exact zL rfl) [c20_o2, size_mk, get_mk_lt, get_mk_ge, frameOf, Eff.app, Heap.setOwn, q]
  exact kR _ _ (by simp [T.get])
theorem c20_t (J : CallF) (k57 : KR 57 J) (k58 : K58 J) (hJ : ∀ a h, J 20 a h = none) (h : Heap) (o : OkR a h) (r : a.ru = true) :
    ∃ v own, CallsTo tbl J 20 [a.v] h (v, own, false) ∧ ∃ x y, v = .tup [.agg [G a.q, x, y], G 0] ∧ TB h (h.plus own) x (a.W.map gs) ∧ TB h (h.plus own) y (a.B.map gs) := by
  refine Tr.fny (cf := c20) (e := .ret) (s := T.set .leaf [] a.v) (by decide) rfl (hJ _ _) rfl rfl (by simp) ?_
  obtain ⟨Hs, hHs⟩ : ∃ H, (⟨h.get, h.size, [.cells 0 3 [G a.q, a.x, a.y], .cells 0 3 [G 0, .nils, .nils]]⟩ : Heap) = H := ⟨_, rfl⟩
  have oH : OkR a Hs := by rw [← hHs]; exact o.lo _
  have k : J 57 [a.v] Hs = some (.bool a.ru, [], false) := k57 _ a oH
  rw [r] at k
  have q3 := a.q3 r
  have og := oH.g r
  have rr := og.r
  have gq := a.gq r
  have sB : a.B.length = a.g.q := by
    have := rr
    unfold ruQ at this
    simp only [Bool.and_eq_true, decide_eq_true_eq] at this
    exact (tabQ_row this.1.2).1
  have sW : a.W.length = a.g.q := by
    have := rr
    unfold ruQ at this
    simp only [Bool.and_eq_true, decide_eq_true_eq] at this
    exact (tabQ_row this.2).1
  obtain ⟨x, own1, e1, tb1⟩ := k58 Hs a.g.q a.y a.W og.ty sW (by omega) (by omega)
  have kp1 : Kp (fun _ => False) Hs (Hs.plus own1) := Kp.plus _ _
  obtain ⟨y, own2, e2, tb2⟩ := k58 (Hs.plus own1) a.g.q a.x a.B (og.tx.kp (M := fun _ => False) kp1) sB (by omega) (by omega)
  have kp2 : Kp (fun _ => False) (Hs.plus own1) ((Hs.plus own1).plus own2) := Kp.plus _ _
  have hS : Hs.size = h.size + 2 := by rw [← hHs]; rfl
  have hN : Hs.N = h.size := by rw [← hHs]
  have ne1 : own1 ≠ [] := fun e => by
    obtain ⟨q, rs, ex, gx, _⟩ := tb1.sl (i := 0) (by simp; omega)
    have h1 := tb1.x0 q (by rw [ex]; rfl)
    have h2 := get_lt gx (by simp)
    rw [plus_size, e] at h2
    simp at h2; omega
  have ne2 : own2 ≠ [] := fun e => by
    obtain ⟨q, rs, ex, gx, _⟩ := tb2.sl (i := 0) (by simp; omega)
    have h1 := tb2.x0 q (by rw [ex]; rfl)
    have h2 := get_lt gx (by simp)
    rw [plus_size, e] at h2
    simp at h2; omega
  have gS : Hs.get h.size = .cells 0 3 [G a.q, a.x, a.y] := by rw [← hHs, get_mk_ge _ _ _ _ (Nat.le_refl _), Nat.sub_self]; rfl
  have gR : Hs.get (h.size + 1) = .cells 0 3 [G 0, .nils, .nils] := by rw [← hHs, get_mk_ge _ _ _ _ (by omega), Nat.add_sub_cancel_left]; rfl
  obtain ⟨Z, hZ⟩ : ∃ Z, (Hs.plus own1).plus own2 = Z := ⟨_, rfl⟩
  have gS1 := kp1.at gS (by simp) id
  have gRZ : Z.get (h.size + 1) = .cells 0 3 [G 0, .nils, .nils] := by rw [← hZ]; exact kp2.at (kp1.at gR (by simp) id) (by simp) id
  have ZN : Z.N = h.size := by rw [← hZ]; exact hN
  have ZS : h.size + 2 ≤ Z.size := by rw [← hZ, plus_size, plus_size, hS]; omega
  have p : Eff.app (.put (h.size + 1) 3 0 [G a.q, x, y]) Z = some (Z.upd (h.size + 1) (.cells 0 3 [G a.q, x, y])) := by
    rw [put_gen _ _ _ _ _ _ _ (by omega) gRZ (by simp)]; rfl
  have gU : (Z.upd (h.size + 1) (.cells 0 3 [G a.q, x, y])).get (h.size + 1) = .cells 0 3 [G a.q, x, y] := upd_same _ _ _ (by omega) (by omega)
  have kU : Kp (· = h.size + 1) Z (Z.upd (h.size + 1) (.cells 0 3 [G a.q, x, y])) := Kp.upd _ _ _ (by omega) rfl
  have lowU : Kp (fun _ => False) (frameOf h) (Z.upd (h.size + 1) (.cells 0 3 [G a.q, x, y])) := Kp.low (by show Z.lo = _; rw [← hZ, ← hHs]; rfl) ZN
  have t1 : TB (frameOf h) (Z.upd (h.size + 1) (.cells 0 3 [G a.q, x, y])) x (a.W.map gs) := by
    refine TB.kpm (H0 := Hs) (h := Z) ?_ kU (fun b e => by omega) lowU (by show h.size + 0 ≤ _; omega)
    rw [← hZ]; exact tb1.kp kp2
  have t2 : TB (frameOf h) (Z.upd (h.size + 1) (.cells 0 3 [G a.q, x, y])) y (a.B.map gs) := by
    refine TB.kpm (H0 := Hs.plus own1) (h := Z) ?_ kU (fun b e => by rw [plus_size]; omega) lowU (by show h.size + 0 ≤ _; rw [plus_size]; omega)
    rw [← hZ]; exact tb2
  have nf : AV.flat x = false := by
    obtain ⟨q, rs, ex, gx, _⟩ := tb1.sl (i := 0) (by simp; omega)
    rw [ex]; rfl
  obtain ⟨qx, rx, ex, _⟩ := tb1.sl (i := 0) (by simp; omega)
  obtain ⟨qy, ry, ey, _⟩ := tb2.sl (i := 0) (by simp; omega)
  clear tb1 tb2 kp1 kp2 lowU kU gRZ gR og oH rr sB sW o
  obtain ⟨o1, os1, rfl⟩ : ∃ o os, own1 = o :: os := by
    cases own1 with
    | nil => exact absurd rfl ne1
    | cons o os => exact ⟨o, os, rfl⟩
  obtain ⟨o2, os2, rfl⟩ : ∃ o os, own2 = o :: os := by
    cases own2 with
    | nil => exact absurd rfl ne2
    | cons o os => exact ⟨o, os, rfl⟩
  generalize Z.upd (h.size + 1) (.cells 0 3 [G a.q, x, y]) = U at *
  generalize (a.W.map gs).length = nx at *
  generalize (a.B.map gs).length = ny at *
  subst ex ey
  refine Tr.w fun s1 H1 hp _ kR => ?_
  obtain ⟨rfl, rfl⟩ := hp
  have q : True := trivial
  refine W.seq (W.chunk ?_)
  simp (disch := first|omega|exact zE rfl|exact zO|exact zL rfl) [c20_o0, size_mk, get_mk_lt, get_mk_ge, frameOf, Eff.app, Heap.setOwn, q, hHs]
  refine W.assoc ?_
  refine W.seq (W.chunk ?_)
  simp (disch := first|omega|exact zE rfl|exact zO|exact zL rfl) [c20_o1, zG, q, k, gS]
  refine W.seq (W.chunk ?_)
  simp (disch := first|omega|exact zE rfl|exact zO|exact zL rfl) [c20_o2, size_mk, get_mk_lt, get_mk_ge, frameOf, Eff.app, Heap.setOwn, q]
  refine W.seq (W.chunk ?_)
  simp (disch := first|omega|exact zE rfl|exact zO|exact zL rfl) [c20_o3, size_mk, get_mk_lt, get_mk_ge, frameOf, Eff.app, Heap.setOwn, q]
  refine W.seq (W.chunk ?_)
  simp (disch := first|omega|exact zE rfl|exact zO|exact zL rfl) [c20_o4, zG, q, gS, gS1, e1, e2, hZ, p, -evDraw_c, evDraw_0]
  refine W.ret ?_
  try simp only [zW, if_true]
  refine kR _ _ ?_
  refine ⟨[.agg [G a.q, .slice qx 0 nx nx, .slice qy 0 ny ny], G 0], by simp [T.get, c20, evRess, evRes, loadA, gU, takeA], _, _, rfl, ?_, ?_⟩
  · rw [if_neg (by simp [one, AV.flat, AV.flats, nf])]
    exact t1.fr
  · rw [if_neg (by simp [one, AV.flat, AV.flats, nf])]
    exact t2.fr
end
def Pre20 (a : AR) (args : List AV) (h : Heap) : Prop := OkR a h ∧ args = [a.v]
def Post20 (a : AR) (h : Heap) (v : AV) (own : List AObj) : Prop := (a.ru = false → v = .tup [.agg [G 0, .nils, .nils], G 2] ∧ own = []) ∧ (a.ru = true → ∃ x y, v = .tup [.agg [G a.q, x, y], G 0] ∧ TB h (h.plus own) x (a.W.map gs) ∧ TB h (h.plus own) y (a.B.map gs))
noncomputable def T23 : CallF := addK tbl T22 20 Pre20 Post20
theorem t23 : Sound Go.Proofs.Try.prog T23 := Sound.addK follows ok t22 (by decide) _ _
abbrev K20 (J : CallF) : Prop := ∀ (h : Heap) (a : AR), OkR a h → ∃ v own, J 20 [a.v] h = some (v, own, false) ∧ Post20 a h v own
theorem k57_22 : KR 57 T22 := fun h a o => by
  have e := k57 h a o
  rw [show T22 57 [.agg [G a.q, a.x, a.y]] h = T10 57 [.agg [G a.q, a.x, a.y]] h from by simp (disch := decide) only [T1, T2, T3, T4, T5, T6, T7, T8, T9, T10, T11, T12, T13, T14, T15, T16, T17, T18, T19, T20, T21, T22, addI_ne, addX_ne, addV_ne, addK_ne]]
  exact e
theorem k20 : K20 T23 := fun h a o => by
  obtain ⟨v, own, e, l⟩ := addK_some (Pre := Pre20) (Post := Post20) (fun a args h hp => by
    obtain ⟨o, rfl⟩ := hp
    cases r : a.ru
    · exact ⟨_, _, c20_f T22 k57_22 (fun _ _ => by simp (disch := decide) only [T1, T2, T3, T4, T5, T6, T7, T8, T9, T10, T11, T12, T13, T14, T15, T16, T17, T18, T19, T20, T21, T22, addI_ne, addX_ne, addV_ne, addK_ne]; rfl) h o r, fun _ => ⟨rfl, rfl⟩, fun q => by rw [r] at q; cases q⟩
    · obtain ⟨v, own, e, l⟩ := c20_t T22 k57_22 k58 (fun _ _ => by simp (disch := decide) only [T1, T2, T3, T4, T5, T6, T7, T8, T9, T10, T11, T12, T13, T14, T15, T16, T17, T18, T19, T20, T21, T22, addI_ne, addX_ne, addV_ne, addK_ne]; rfl) h o r
      exact ⟨_, _, e, fun q => (by rw [r] at q; cases q), fun _ => l⟩) a _ h ⟨o, rfl⟩
  exact ⟨v, own, e, l⟩
structure NV (H0 h : Heap) (x : AV) (L : List AV) : Prop where
  k : Kp (fun _ => False) H0 h
  x0 : ∀ q, blk x = some q → H0.size ≤ q
  l : LV h x L
theorem NV.nil (H0 : Heap) : NV H0 H0 .nils [] := ⟨Kp.refl _, fun _ e => (by cases e), LV.nil _⟩
theorem NV.kp {H0 h h' : Heap} {x : AV} {L : List AV} (t : NV H0 h x L) (k : Kp (fun _ => False) h h') : NV H0 h' x L := ⟨t.k.trans k, t.x0, t.l.kp k (fun _ _ => id)⟩
theorem NV.app {H0 h : Heap} (h0 bytes : Nat) {x : AV} {L : List AV} (t : NV H0 h x L) (z : AV) (hn : (L.length + 1) * bytes ≤ 1099511627776) :
    ∃ x1 e h2, appA (h.plus [.cells 1 1 [z]]) h0 none 1 bytes 1 [z] x = some (x1, e) ∧ Eff.app e (h.plus [.cells 1 1 [z]]) = some h2 ∧ NV H0 h2 x1 (L ++ [z]) ∧ AV.cells x1 = some [x1] := by
  have k1 : Kp (fun _ => False) h (h.plus [.cells 1 1 [z]]) := Kp.plus _ _
  obtain ⟨x1, e, h2, q1, q2, q3, q4, q5, q6⟩ := app_v (h.plus [.cells 1 1 [z]]) h0 bytes z (t.l.kp k1 (fun _ _ => id)) hn
  refine ⟨x1, e, h2, q1, q2, ⟨(t.k.trans k1).late q4 t.x0, fun q hq => ?_, q3⟩, q6⟩
  rcases q5 with h' | ⟨_, h'⟩
  · rw [h'] at hq; exact t.x0 q hq
  · rw [h'] at hq; cases hq; have := t.k.size; have := k1.size; omega
theorem NV.base {H0 H1 H : Heap} {x : AV} {L : List AV} (k : Kp (fun _ => False) H0 H1) (t : NV H1 H x L) : NV H0 H x L := ⟨k.trans t.k, fun q hq => Nat.le_trans k.size (t.x0 q hq), t.l⟩
def xtL (q : Nat) (L : List (List Nat)) : List (List Nat) := L.flatMap fun t => (List.range q).map fun c => t ++ [c]
def xtP (q : Nat) (B : List (List Int)) (L : List (List Nat)) (k c : Nat) : List (List Nat) := (xtL q (L.take k)).filter (bsd B) ++ ((List.range c).map fun c => L.getD k [] ++ [c]).filter (bsd B)
theorem xtP_c (q : Nat) (B : List (List Int)) (L : List (List Nat)) (k c : Nat) : xtP q B L k (c + 1) = xtP q B L k c ++ if bsd B (L.getD k [] ++ [c]) then [L.getD k [] ++ [c]] else [] := by
  unfold xtP
  rw [List.range_succ, List.map_append, List.filter_append, List.append_assoc, List.map_singleton, List.filter_cons]
  cases bsd B (L.getD k [] ++ [c]) <;> rfl
theorem xtP_k (q : Nat) (B : List (List Int)) (L : List (List Nat)) {k : Nat} (hk : k < L.length) : xtP q B L (k + 1) 0 = xtP q B L k q := by
  unfold xtP xtL
  rw [List.take_add_one, List.getElem?_eq_getElem hk, List.flatMap_append, List.filter_append]
  simp [List.getD_eq_getElem?_getD, List.getElem?_eq_getElem hk]
theorem xtP_0 (q : Nat) (B : List (List Int)) (L : List (List Nat)) : xtP q B L 0 0 = [] := by simp [xtP, xtL]
theorem xtP_n (q : Nat) (B : List (List Int)) (m : Nat) : xtP q B (rwL q B m) (rwL q B m).length 0 = rwL q B (m + 1) := by
  rw [rwL_succ]
  simp [xtP, xtL]
theorem xtL_len (q : Nat) : ∀ L : List (List Nat), (xtL q L).length = L.length * q
  | [] => by simp [xtL]
  | t :: L => by
    have := xtL_len q L
    unfold xtL at *
    rw [List.flatMap_cons, List.length_append, this, List.length_map, List.length_range, List.length_cons, Nat.succ_mul, Nat.add_comm]
theorem xtP_len (q : Nat) (B : List (List Int)) (L : List (List Nat)) {k c : Nat} (hc : c ≤ q) (hq : q ≤ 3) (hL : L.length ≤ 243) : (xtP q B L k c).length ≤ 1000 := by
  unfold xtP
  rw [List.length_append]
  have a := List.length_filter_le (bsd B) (xtL q (L.take k))
  have b := List.length_filter_le (bsd B) ((List.range c).map fun c => L.getD k [] ++ [c])
  rw [xtL_len, List.length_take] at a
  rw [List.length_map, List.length_range] at b
  have : min k L.length * q ≤ 243 * 3 := Nat.mul_le_mul (by omega) hq
  omega
theorem wsL_app (L : List (List Nat)) (w : List Nat) : wsL (L ++ [w]) = wsL L ++ [.str (stW w)] := by simp [wsL]
section
variable {a : AG} {S : Nat}
abbrev G30 (a : AG) (S : Nat) (h : Heap) : Prop := h.get S = .cells 0 3 [G a.q, a.x, a.y]
theorem c30_l0_ok (J : CallF) (k68 : KW 68 J) {H0 : Heap} (o : OkG a H0) (gS : G30 a S H0) {bx v i : Nat} {L : List (List Nat)} (gb : H0.get bx = .cells 1 v (wsL L)) (hL : L.length ≤ 243) {k mm : Nat} (hk : k < L.length) (rk : ∀ c ∈ L.getD k [], c < a.q) (lk : (L.getD k []).length ≤ 5) :
    Tr tbl J c30_l0 (fun s h => ∃ y, NV H0 h y (wsL (xtP a.q a.B L k 0)) ∧ s.get [false] = G mm ∧ s.get [true] = .ptr S 0 3 ∧ s.get [false, true] = .slice bx 0 L.length v ∧ s.get [true, true] = G i ∧ s.get [false, false, false] = y ∧ s.get [true, false, false] = G k ∧ s.get [false, true, false] = G ((0 : Nat) : Int)) (.exit 4)
      (fun s h => ∃ y, NV H0 h y (wsL (xtP a.q a.B L k a.q)) ∧ s.get [false] = G mm ∧ s.get [true] = .ptr S 0 3 ∧ s.get [false, true] = .slice bx 0 L.length v ∧ s.get [true, true] = G i ∧ s.get [false, false, false] = y ∧ s.get [true, false, false] = G k) := by
  have q3 := o.q1
  refine Tr.rounds (e := .exit 4) (P := fun c s h => ∃ y, NV H0 h y (wsL (xtP a.q a.B L k c)) ∧ s.get [false] = G mm ∧ s.get [true] = .ptr S 0 3 ∧ s.get [false, true] = .slice bx 0 L.length v ∧ s.get [true, true] = G i ∧ s.get [false, false, false] = y ∧ s.get [true, false, false] = G k ∧ s.get [false, true, false] = G c) (M := a.q) (fun c hc => ?_) ?_ (by simp) 0 (by omega)
  · refine Tr.w fun s1 H1 hp _ kR => W.trim ?_
    obtain ⟨y, nv, q⟩ := hp
    have gS1 := nv.k.at gS (by simp) id
    have gb1 := nv.k.at gb (by simp) id
    have bl := get_lt gb1 (by simp)
    have Sl := get_lt gS1 (by simp)
    have wk := wsL_at hk
    have wk' := getI wk
    have lw := wsL_len L
    have ka : Kp (fun _ => False) H1 (H1.plus [.cells 1 1 [.int .u8 (48 + c)]]) := Kp.plus _ _
    have kc := k68 (H1.plus [.cells 1 1 [.int .u8 (48 + c)]]) a (L.getD k [] ++ [c]) ((o.kp nv.k).kp ka) (fun d hd => by
      rcases List.mem_append.1 hd with hd | hd
      · exact rk d hd
      · rw [List.mem_singleton.1 hd]; exact hc) (by rw [List.length_append, List.length_singleton]; omega)
    have xs := xtP_c a.q a.B L k c
    have xl := xtP_len a.q a.B L (k := k) (c := c) (by omega) q3.2 hL
    obtain ⟨x1, e, H2, q1, q2, nv2, q4⟩ := (nv.kp ka).app (H1.plus [.cells 1 1 [.int .u8 (48 + c)]]).size 16 (.str (stW (L.getD k [] ++ [c]))) (by rw [wsL_len]; omega)
    rw [← wsL_app] at nv2
    have nv3 := nv.kp ka
    have fl : Eff.app (.fill H1.size (.cells 1 1 [.int .u8 (48 + c)])) (H1.plus [.hole]) = some (H1.plus [.cells 1 1 [.int .u8 (48 + c)]]) := fill_plus0 _ _ rfl _ _
    have vb := fun xs => plus_keep (h := H1) xs gb1 (by simp)
    have ls : (stW (L.getD k [])).length ≤ 5 := by rw [stW_len]; exact lk
    have sa := stW_add (L.getD k []) c
    have w8 : IntKind.u8.wrap (48 + (c : Int)) = 48 + c := by unfold IntKind.wrap IntKind.bits IntKind.signed; simp; omega
    have nu : UInt8.ofNat ((48 : Int) + c).toNat = UInt8.ofNat (48 + c) := by rw [show ((48 : Int) + c).toNat = 48 + c by omega]
    have nu2 : (48 : UInt8) + UInt8.ofNat c = UInt8.ofNat (48 + c) := by rw [UInt8.ofNat_add]; rfl
    have gS2 := plus_keep (h := H1) [.cells 1 1 [.int .u8 (48 + c)]] gS1 (by simp)
    rw [sa] at q1 q2 kc
    simp only [xs] at kR
    have e0 : (H1.plus [.cells 1 1 [.int .u8 (48 + c)]]).get H1.size = .cells 1 1 [.int .u8 (48 + c)] := plus_at0 _ _ _ _ rfl
    clear nv xs rk lk o gS gb sa ka
    generalize stW (L.getD k []) = w at *
    generalize UInt8.ofNat (48 + c) = u at *
    cases hb : bsd a.B (L.getD k [] ++ [c])
    · rw [hb] at kc kR
      rw [if_neg (by simp), List.append_nil] at kR
      clear nv2 q1 q2 hb
      generalize L.length = n at *
      refine W.assoc ?_
      refine W.seq (W.chunk ?_)
      simp (disch := first|omega|exact zE rfl|exact zO|exact zL rfl) [c30_o8, zG, q, gS1]
      refine W.seq (W.chunk ?_)
      simp (disch := first|omega|exact zE rfl|exact zO|exact zL rfl) [zG, q]
      refine W.seq (W.block ?_)
      refine W.seq (W.chunk ?_)
      simp (disch := first|omega|exact zE rfl|exact zO|exact zL rfl) [-evDraw_c, c30_o9, zG, q, evDraw_k, gb1, vb, wk, wk', lw, fl, w8, nu, nu2, e0, isStrA, elems, bytesN, rdOf, ls]
      refine W.seq (W.chunk ?_)
      simp (disch := first|omega|exact zE rfl|exact zO|exact zL rfl) [c30_o10, zG, q, gS2, kc]
      refine W.chunk ?_
      simp (disch := first|omega|exact zE rfl|exact zO|exact zL rfl) [c30_o11, zG, q]
      refine W.chunk ?_
      simp (disch := first|omega|exact zE rfl|exact zO|exact zL rfl) [c30_o12, zG, q]
      exact kR _ _ ⟨_, nv3, by simp [T.get, q]⟩
    · rw [hb] at kc kR
      rw [if_pos rfl] at kR
      clear nv3 hb
      generalize L.length = n at *
      refine W.assoc ?_
      refine W.seq (W.chunk ?_)
      simp (disch := first|omega|exact zE rfl|exact zO|exact zL rfl) [c30_o8, zG, q, gS1]
      refine W.seq (W.chunk ?_)
      simp (disch := first|omega|exact zE rfl|exact zO|exact zL rfl) [zG, q]
      refine W.seq (W.block ?_)
      refine W.seq (W.chunk ?_)
      simp (disch := first|omega|exact zE rfl|exact zO|exact zL rfl) [-evDraw_c, c30_o9, zG, q, evDraw_k, gb1, vb, wk, wk', lw, fl, w8, nu, nu2, e0, isStrA, elems, bytesN, rdOf, ls]
      refine W.seq (W.chunk ?_)
      simp (disch := first|omega|exact zE rfl|exact zO|exact zL rfl) [c30_o10, zG, q, gS2, kc]
      refine W.chunk ?_
      simp (disch := first|omega|exact zE rfl|exact zO|exact zL rfl) [c30_o11, zG, q, q1, q2, app1_at, elems, rdOf]
      refine W.chunk ?_
      simp (disch := first|omega|exact zE rfl|exact zO|exact zL rfl) [c30_o12, zG, q]
      exact kR _ _ ⟨_, nv2, by simp [T.get, q]⟩
  · refine Tr.w fun s1 H1 hp _ kR => W.trim ?_
    obtain ⟨y, nv, q⟩ := hp
    have gS1 := nv.k.at gS (by simp) id
    clear o gS gb rk
    generalize L.length = n at *
    refine W.assoc ?_
    refine W.seq (W.chunk ?_)
    simp (disch := first|omega|exact zE rfl|exact zO|exact zL rfl) [c30_o8, zG, q, gS1]
    refine W.seq (W.chunk ?_)
    simp (disch := first|omega|exact zE rfl|exact zO|exact zL rfl) [zG, q]
    exact kR _ _ ⟨_, nv, by simp [T.get, q]⟩
theorem c30_l1_ok (J : CallF) (k68 : KW 68 J) {H0 : Heap} (o : OkG a H0) (gS : G30 a S H0) {bx v i : Nat} {L : List (List Nat)} (gb : H0.get bx = .cells 1 v (wsL L)) (hL : L.length ≤ 243) {mm : Nat} (rk : ∀ k, k < L.length → (∀ c ∈ L.getD k [], c < a.q) ∧ (L.getD k []).length ≤ 5) :
    Tr tbl J c30_l1 (fun s h => h = H0 ∧ s.get [false] = G mm ∧ s.get [true] = .ptr S 0 3 ∧ s.get [false, true] = .slice bx 0 L.length v ∧ s.get [true, true] = G i ∧ s.get [false, false, false] = .nils ∧ s.get [true, false, false] = G ((0 : Nat) : Int)) (.exit 2)
      (fun s h => ∃ y, NV H0 h y (wsL (xtP a.q a.B L L.length 0)) ∧ s.get [false] = G mm ∧ s.get [true] = .ptr S 0 3 ∧ s.get [true, true] = G i ∧ s.get [false, false, false] = y) := by
  refine Tr.pre (P := fun s h => ∃ y, NV H0 h y (wsL (xtP a.q a.B L 0 0)) ∧ s.get [false] = G mm ∧ s.get [true] = .ptr S 0 3 ∧ s.get [false, true] = .slice bx 0 L.length v ∧ s.get [true, true] = G i ∧ s.get [false, false, false] = y ∧ s.get [true, false, false] = G ((0 : Nat) : Int)) (fun s h hp => ⟨.nils, by rw [hp.1, xtP_0]; exact NV.nil H0, hp.2⟩) ?_
  refine Tr.rounds (e := .exit 2) (P := fun k s h => ∃ y, NV H0 h y (wsL (xtP a.q a.B L k 0)) ∧ s.get [false] = G mm ∧ s.get [true] = .ptr S 0 3 ∧ s.get [false, true] = .slice bx 0 L.length v ∧ s.get [true, true] = G i ∧ s.get [false, false, false] = y ∧ s.get [true, false, false] = G k) (M := L.length) (fun k hk => ?_) ?_ (by simp) 0 (by omega)
  · refine Tr.w fun s1 H1 hp _ kR => W.trim ?_
    obtain ⟨y, nv, q⟩ := hp
    have l0 := c30_l0_ok (i := i) (mm := mm) J k68 o gS gb hL hk (rk k hk).1 (rk k hk).2
    have ek := xtP_k a.q a.B L hk
    simp only [ek] at kR
    have ex : ∃ y, NV H0 H1 y (wsL (xtP a.q a.B L k 0)) ∧ G mm = G mm ∧ y = y := ⟨y, nv, rfl, rfl⟩
    clear ek rk gS o gb
    generalize L.length = n at *
    refine W.assoc ?_
    refine W.seq (W.chunk ?_)
    simp (disch := first|omega|exact zE rfl|exact zO|exact zL rfl) [c30_o6, zG, q]
    refine W.seq (W.chunk ?_)
    simp (disch := first|omega|exact zE rfl|exact zO|exact zL rfl) [zG, q]
    refine W.seq (W.block ?_)
    refine W.seq (W.chunk ?_)
    simp (disch := first|omega|exact zE rfl|exact zO|exact zL rfl) [c30_o7, zG, q]
    refine W.block ?_
    refine W.use (l0) (by simp (disch := first|omega|exact zE rfl|exact zO|exact zL rfl) [zG, q, nv]) fun s1 H1 hp => ?_
    obtain ⟨y2, nv2, q⟩ := hp
    try simp only [zW, if_true]
    refine W.chunk ?_
    simp (disch := first|omega|exact zE rfl|exact zO|exact zL rfl) [c30_o13, zG, q]
    exact kR _ _ ⟨_, nv2, by simp [T.get, q]⟩
  · refine Tr.w fun s1 H1 hp _ kR => W.trim ?_
    obtain ⟨y, nv, q⟩ := hp
    clear o gS gb rk
    generalize L.length = n at *
    refine W.assoc ?_
    refine W.seq (W.chunk ?_)
    simp (disch := first|omega|exact zE rfl|exact zO|exact zL rfl) [c30_o6, zG, q]
    refine W.seq (W.chunk ?_)
    simp (disch := first|omega|exact zE rfl|exact zO|exact zL rfl) [zG, q]
    exact kR _ _ ⟨_, nv, by simp [T.get, q]⟩
theorem c30_l2_ok (J : CallF) (k68 : KW 68 J) {H0 : Heap} (o : OkG a H0) (gS : G30 a S H0) {mm : Nat} (m5 : mm ≤ 5) :
    Tr tbl J c30_l2 (fun s h => ∃ y, NV H0 h y (wsL (rwL a.q a.B 0)) ∧ s.get [false] = G mm ∧ s.get [true] = .ptr S 0 3 ∧ s.get [false, true] = y ∧ s.get [true, true] = G ((0 : Nat) : Int)) (.exit 0)
      (fun s h => ∃ y, NV H0 h y (wsL (rwL a.q a.B mm)) ∧ s.get [false, true] = y) := by
  have q3 := o.q1
  refine Tr.rounds (e := .exit 0) (P := fun i s h => ∃ y, NV H0 h y (wsL (rwL a.q a.B i)) ∧ s.get [false] = G mm ∧ s.get [true] = .ptr S 0 3 ∧ s.get [false, true] = y ∧ s.get [true, true] = G i) (M := mm) (fun i hi => ?_) ?_ (by simp) 0 (by omega)
  · refine Tr.w fun s1 H1 hp _ kR => W.trim ?_
    obtain ⟨y, nv, q⟩ := hp
    have kk := nv.k
    have small := rwL_small (m := i) (B := a.B) q3.2 (by omega)
    have lv := nv.l
    have en := xtP_n a.q a.B i
    have lw := wsL_len (rwL a.q a.B i)
    have e0 : rwL a.q a.B (i + 1) = if rwL a.q a.B i = [] then [] else rwL a.q a.B (i + 1) := by
      split
      · rename_i h0; rw [← en, h0]; simp [xtP, xtL]
      · rfl
    rcases lv with ⟨rfl, e⟩ | ⟨b, rfl, g, _⟩
    · have hz : rwL a.q a.B i = [] := by simpa [wsL] using e
      rw [hz, if_pos rfl] at e0
      simp only [e0] at kR
      have nv0 : NV H0 H1 .nils (wsL []) := NV.base kk (NV.nil H1)
      clear nv e0 en o gS
      have l1 : Tr tbl J c30_l1 (fun s h => h = H1 ∧ s.get [false] = G mm ∧ s.get [true] = .ptr S 0 3 ∧ s.get [false, true] = .nils ∧ s.get [true, true] = G i ∧ s.get [false, false, false] = .nils ∧ s.get [true, false, false] = G 0) (.exit 2) (fun s h => h = H1 ∧ s.get [false] = G mm ∧ s.get [true] = .ptr S 0 3 ∧ s.get [true, true] = G i ∧ s.get [false, false, false] = .nils) := by
        refine Tr.out ?_ (by simp)
        refine Tr.w fun s1 H1 hp _ kR => W.trim ?_
        obtain ⟨rfl, q⟩ := hp
        refine W.assoc ?_
        refine W.seq (W.chunk ?_)
        simp (disch := first|omega|exact zE rfl|exact zO|exact zL rfl) [c30_o6, zG, q]
        refine W.seq (W.chunk ?_)
        simp (disch := first|omega|exact zE rfl|exact zO|exact zL rfl) [zG, q]
        exact kR _ _ (by simp [T.get, q])
      refine W.assoc ?_
      refine W.seq (W.chunk ?_)
      simp (disch := first|omega|exact zE rfl|exact zO|exact zL rfl) [c30_o3, zG, q]
      refine W.seq (W.chunk ?_)
      simp (disch := first|omega|exact zE rfl|exact zO|exact zL rfl) [zG, q]
      refine W.seq (W.block ?_)
      refine W.seq (W.chunk ?_)
      simp (disch := first|omega|exact zE rfl|exact zO|exact zL rfl) [c30_o4, zG, q]
      refine W.assoc ?_
      refine W.seq (W.chunk ?_)
      simp (disch := first|omega|exact zE rfl|exact zO|exact zL rfl) [c30_o5, zG, q]
      refine W.seq (W.block ?_)
      refine W.use (l1) (by simp (disch := first|omega|exact zE rfl|exact zO|exact zL rfl) [zG, q]) fun s1 H1 hp => ?_
      obtain ⟨rfl, q⟩ := hp
      try simp only [zW, if_true]
      refine W.chunk ?_
      simp (disch := first|omega|exact zE rfl|exact zO|exact zL rfl) [c30_o14, zG, q]
      refine W.chunk ?_
      simp (disch := first|omega|exact zE rfl|exact zO|exact zL rfl) [c30_o15, zG, q]
      exact kR _ _ ⟨_, nv0, by simp [T.get, q]⟩
    · rw [lw] at g
      have l1 := c30_l1_ok (i := i) (mm := mm) J k68 (o.kp kk) (kk.at gS (by simp) id) g small (fun k hk => by
        have := rows_ok (B := a.B) k hk
        exact ⟨this.2, by omega⟩)
      rw [en] at l1
      rw [lw] at q
      clear nv e0 en o gS
      generalize (rwL a.q a.B i).length = n at *
      refine W.assoc ?_
      refine W.seq (W.chunk ?_)
      simp (disch := first|omega|exact zE rfl|exact zO|exact zL rfl) [c30_o3, zG, q]
      refine W.seq (W.chunk ?_)
      simp (disch := first|omega|exact zE rfl|exact zO|exact zL rfl) [zG, q]
      refine W.seq (W.block ?_)
      refine W.seq (W.chunk ?_)
      simp (disch := first|omega|exact zE rfl|exact zO|exact zL rfl) [c30_o4, zG, q]
      refine W.assoc ?_
      refine W.seq (W.chunk ?_)
      simp (disch := first|omega|exact zE rfl|exact zO|exact zL rfl) [c30_o5, zG, q]
      refine W.seq (W.block ?_)
      refine W.use (l1) (by simp (disch := first|omega|exact zE rfl|exact zO|exact zL rfl) [zG, q]) fun s1 H1 hp => ?_
      obtain ⟨y2, nv2, q⟩ := hp
      try simp only [zW, if_true]
      refine W.chunk ?_
      simp (disch := first|omega|exact zE rfl|exact zO|exact zL rfl) [c30_o14, zG, q]
      refine W.chunk ?_
      simp (disch := first|omega|exact zE rfl|exact zO|exact zL rfl) [c30_o15, zG, q]
      exact kR _ _ ⟨_, nv2.base kk, by simp [T.get, q]⟩
  · refine Tr.w fun s1 H1 hp _ kR => W.trim ?_
    obtain ⟨y, nv, q⟩ := hp
    clear o gS
    refine W.assoc ?_
    refine W.seq (W.chunk ?_)
    simp (disch := first|omega|exact zE rfl|exact zO|exact zL rfl) [c30_o3, zG, q]
    refine W.seq (W.chunk ?_)
    simp (disch := first|omega|exact zE rfl|exact zO|exact zL rfl) [zG, q]
    exact kR _ _ ⟨_, nv, by simp [T.get, q]⟩
theorem NV.rv {H0 h : Heap} {x : AV} {L : List AV} (t : NV H0 h x L) : RV h x L := t.l.rv
theorem RV.fr {h H' : Heap} {x : AV} {L : List AV} (t : RV H' x L) (k : Kp (fun _ => False) (frameOf h) H') : RV (h.plus (if (one [x]).flat then [] else H'.own)) x L := by
  split
  · rename_i hf
    rcases t with ⟨rfl, e2⟩ | ⟨b, v, rfl, g⟩
    · exact .inl ⟨rfl, e2⟩
    · simp [one, AV.flat, AV.flats] at hf
  · have e := Kp.own k
    exact t.congr fun b => by rw [e]; exact fr_get h _ b
theorem c30_ok (J : CallF) (k68 : KW 68 J) (hJ : ∀ a h, J 30 a h = none) (h : Heap) (o : OkG a h) {m : Nat} (m5 : m ≤ 5) : ∃ v own, CallsTo tbl J 30 [a.v, G m] h (v, own, false) ∧ RV (h.plus own) v (wsL (rwL a.q a.B m)) ∧ ∀ b, blk v = some b → h.size ≤ b := by
  refine Tr.fny (cf := c30) (e := .ret) (s := T.set (T.set .leaf [] a.v) [false] (G m)) (by decide) rfl (hJ _ _) rfl rfl (by simp) ?_
  have oH := o.lo [.cells 0 3 [G a.q, a.x, a.y]]
  have gS : G30 a h.size ⟨h.get, h.size, [.cells 0 3 [G a.q, a.x, a.y]]⟩ := by show Heap.get _ _ = _; rw [get_mk_ge _ _ _ _ (Nat.le_refl _), Nat.sub_self]; rfl
  have l2 := c30_l2_ok J k68 oH gS m5
  have nv0 : NV ⟨h.get, h.size, [.cells 0 3 [G a.q, a.x, a.y]]⟩ ⟨h.get, h.size, [.cells 0 3 [G a.q, a.x, a.y], .cells 1 1 [.str []]]⟩ (.slice (h.size + 1) 0 1 1) (wsL (rwL a.q a.B 0)) := by
    refine ⟨Kp.plus ⟨h.get, h.size, [.cells 0 3 [G a.q, a.x, a.y]]⟩ [.cells 1 1 [.str []]], fun b e => by cases e; exact Nat.le_refl _, .inr ⟨h.size + 1, rfl, ?_, Nat.le_succ _⟩⟩
    rw [get_mk_ge _ _ _ _ (by omega), Nat.add_sub_cancel_left]; rfl
  have kb : Kp (fun _ => False) (frameOf h) ⟨h.get, h.size, [.cells 0 3 [G a.q, a.x, a.y]]⟩ := Kp.plus (frameOf h) [.cells 0 3 [G a.q, a.x, a.y]]
  have nv0' : ∃ y, NV ⟨h.get, h.size, [.cells 0 3 [G a.q, a.x, a.y]]⟩ ⟨h.get, h.size, [.cells 0 3 [G a.q, a.x, a.y], .cells 1 1 [.str []]]⟩ y (wsL (rwL a.q a.B 0)) ∧ AV.slice (h.size + 1) 0 1 1 = y := ⟨_, nv0, rfl⟩
  clear o oH gS
  refine Tr.w fun s1 H1 hp _ kR => ?_
  obtain ⟨rfl, rfl⟩ := hp
  have q : True := trivial
  refine W.seq (W.chunk ?_)
  simp (disch := first|omega|exact zE rfl|exact zO|exact zL rfl) [c30_o0, size_mk, get_mk_lt, get_mk_ge, frameOf, Eff.app, Heap.setOwn, q]
  refine W.seq (W.chunk ?_)
  simp (disch := first|omega|exact zE rfl|exact zO|exact zL rfl) [c30_o1, size_mk, get_mk_lt, get_mk_ge, frameOf, Eff.app, Heap.setOwn, q]
  refine W.assoc ?_
  refine W.seq (W.chunk ?_)
  simp (disch := first|omega|exact zE rfl|exact zO|exact zL rfl) [c30_o2, size_mk, get_mk_lt, get_mk_ge, frameOf, Eff.app, Heap.setOwn, q]
  refine W.seq (W.block ?_)
  refine W.use (l2) (by simp (disch := first|omega|exact zE rfl|exact zO|exact zL rfl) [size_mk, get_mk_lt, get_mk_ge, frameOf, Eff.app, Heap.setOwn, q, nv0]) fun s1 H1 hp => ?_
  obtain ⟨y, nv, q⟩ := hp
  try simp only [zW, if_true]
  refine W.seq (W.chunk ?_)
  simp (disch := first|omega|exact zE rfl|exact zO|exact zL rfl) [c30_o16, size_mk, get_mk_lt, get_mk_ge, frameOf, Eff.app, Heap.setOwn, q]
  refine W.ret ?_
  try simp only [zW, if_true]
  have nb := nv.base kb
  refine kR _ _ ?_
  refine ⟨[y], by simp [T.get, c30, evRess, evRes, q], nb.rv.fr nb.k, fun b e => nb.x0 b e⟩
end
def Pre30 (b : AM) (args : List AV) (h : Heap) : Prop := (OkG b.a h ∧ b.m ≤ 5) ∧ args = [b.a.v, G b.m]
def Post30 (b : AM) (h : Heap) (v : AV) (own : List AObj) : Prop := RV (h.plus own) v (wsL (rwL b.a.q b.a.B b.m)) ∧ ∀ c, blk v = some c → h.size ≤ c
noncomputable def T24 : CallF := addK tbl T23 30 Pre30 Post30
theorem t24 : Sound Go.Proofs.Try.prog T24 := Sound.addK follows ok t23 (by decide) _ _
abbrev K30 (J : CallF) : Prop := ∀ (h : Heap) (a : AG) (m : Nat), OkG a h → m ≤ 5 → ∃ v own, J 30 [a.v, G m] h = some (v, own, false) ∧ RV (h.plus own) v (wsL (rwL a.q a.B m)) ∧ ∀ c, blk v = some c → h.size ≤ c
theorem k68_23 : KW 68 T23 := fun h a w o hw lw => by
  have e := k68 h a w o hw lw
  rw [show T23 68 [a.v, .str (stW w)] h = T14 68 [a.v, .str (stW w)] h from by simp (disch := decide) only [T1, T2, T3, T4, T5, T6, T7, T8, T9, T10, T11, T12, T13, T14, T15, T16, T17, T18, T19, T20, T21, T22, T23, addI_ne, addX_ne, addV_ne, addK_ne]]
  exact e
theorem k30 : K30 T24 := fun h a m o m5 => by
  obtain ⟨v, own, e, l⟩ := addK_some (Pre := Pre30) (Post := Post30) (fun b args h hp => by
    obtain ⟨⟨h1, h2⟩, rfl⟩ := hp
    exact c30_ok T23 k68_23 (fun _ _ => by simp (disch := decide) only [T1, T2, T3, T4, T5, T6, T7, T8, T9, T10, T11, T12, T13, T14, T15, T16, T17, T18, T19, T20, T21, T22, T23, addI_ne, addX_ne, addV_ne, addK_ne]; rfl) h h1 h2) ⟨a, m⟩ _ h ⟨⟨o, m5⟩, rfl⟩
  exact ⟨v, own, e, l⟩
def nI (L : List Nat) : List Int := L.map fun (k : Nat) => (k : Int)
theorem nI_app (L : List Nat) (j : Nat) : nI (L ++ [j]) = nI L ++ [(j : Int)] := by simp [nI]
theorem nI_len (L : List Nat) : (nI L).length = L.length := by simp [nI]
section
variable {a : AG} {S : Nat} {bx v : Nat} {R : List (List Nat)}
theorem c31_l0_ok (J : CallF) (k69 : KB 69 J) {H0 : Heap} (o : OkG a H0) (gS : G30 a S H0) (gb : H0.get bx = .cells 1 v (wsL R)) (hn : R.length ≤ 243) {m : Nat} (m5 : m ≤ 5) (hR : RowsOk a.q m R) {i : Nat} (hi : i < R.length) {z : AV} :
    Tr tbl J c31_l0 (fun s h => h = H0 ∧ s.get [true] = .ptr S 0 3 ∧ s.get [false, true] = .slice bx 0 R.length v ∧ s.get [true, true] = z ∧ s.get [false, false, false] = G i ∧ s.get [true, false, false] = .nils ∧ s.get [false, true, false] = G ((0 : Nat) : Int)) (.exit 2)
      (fun s h => ∃ y, NG H0 h y (nI (nxL a.W R (R.getD i []))) ∧ s.get [true] = .ptr S 0 3 ∧ s.get [false, true] = .slice bx 0 R.length v ∧ s.get [true, true] = z ∧ s.get [false, false, false] = G i ∧ s.get [true, false, false] = y) := by
  refine Tr.pre (P := fun s h => ∃ y, NG H0 h y (nI (nxP a.W R (R.getD i []) 0)) ∧ s.get [true] = .ptr S 0 3 ∧ s.get [false, true] = .slice bx 0 R.length v ∧ s.get [true, true] = z ∧ s.get [false, false, false] = G i ∧ s.get [true, false, false] = y ∧ s.get [false, true, false] = G ((0 : Nat) : Int)) (fun s h hp => ⟨.nils, by rw [hp.1]; exact NG.nil H0, hp.2⟩) ?_
  refine Tr.rounds (e := .exit 2) (P := fun j s h => ∃ y, NG H0 h y (nI (nxP a.W R (R.getD i []) j)) ∧ s.get [true] = .ptr S 0 3 ∧ s.get [false, true] = .slice bx 0 R.length v ∧ s.get [true, true] = z ∧ s.get [false, false, false] = G i ∧ s.get [true, false, false] = y ∧ s.get [false, true, false] = G j) (M := R.length) (fun j hj => ?_) ?_ (by simp) 0 (by omega)
  · refine Tr.w fun s1 H1 hp _ kR => W.trim ?_
    obtain ⟨y, ng, q⟩ := hp
    have gS1 := ng.k.at gS (by simp) id
    have gb1 := ng.k.at gb (by simp) id
    have wi := wsL_at hi
    have wi' := getI wi
    have wj := wsL_at hj
    have wj' := getI wj
    have lw := wsL_len R
    have k := k69 H1 a _ _ (o.kp ng.k) (hR i hi).2 (hR j hj).2 (by rw [(hR i hi).1]; omega) (by rw [(hR i hi).1, (hR j hj).1])
    have sc := nxP_succ a.W R (R.getD i []) j
    have nl := nxP_len a.W R (R.getD i []) j
    obtain ⟨x1, e, H2, q1, q2, ng2, q4⟩ := ng.app H1.size (j : Int) (by rw [nI_len]; omega)
    rw [← nI_app] at ng2
    simp only [sc] at kR
    clear sc hR gS gb o
    generalize stW (R.getD i []) = u at *
    generalize stW (R.getD j []) = u' at *
    cases hb : blw a.W (R.getD i []) (R.getD j [])
    · rw [hb] at k kR
      rw [if_neg (by simp), List.append_nil] at kR
      clear hb ng2
      generalize R.length = n at *
      refine W.assoc ?_
      refine W.seq (W.chunk ?_)
      simp (disch := first|omega|exact zE rfl|exact zO|exact zL rfl) [c31_o7, zG, q]
      refine W.seq (W.chunk ?_)
      simp (disch := first|omega|exact zE rfl|exact zO|exact zL rfl) [zG, q]
      refine W.seq (W.block ?_)
      refine W.seq (W.chunk ?_)
      simp (disch := first|omega|exact zE rfl|exact zO|exact zL rfl) [c31_o8, zG, q, gS1, gb1, wi, wi', wj, wj', lw, k, -evDraw_c, evDraw_0]
      refine W.chunk ?_
      simp (disch := first|omega|exact zE rfl|exact zO|exact zL rfl) [c31_o9, zG, q]
      refine W.chunk ?_
      simp (disch := first|omega|exact zE rfl|exact zO|exact zL rfl) [c31_o10, zG, q]
      exact kR _ _ ⟨_, ng, by simp [T.get, q]⟩
    · rw [hb] at k kR
      rw [if_pos rfl] at kR
      clear hb ng
      generalize R.length = n at *
      refine W.assoc ?_
      refine W.seq (W.chunk ?_)
      simp (disch := first|omega|exact zE rfl|exact zO|exact zL rfl) [c31_o7, zG, q]
      refine W.seq (W.chunk ?_)
      simp (disch := first|omega|exact zE rfl|exact zO|exact zL rfl) [zG, q]
      refine W.seq (W.block ?_)
      refine W.seq (W.chunk ?_)
      simp (disch := first|omega|exact zE rfl|exact zO|exact zL rfl) [c31_o8, zG, q, gS1, gb1, wi, wi', wj, wj', lw, k, -evDraw_c, evDraw_0]
      refine W.chunk ?_
      simp (disch := first|omega|exact zE rfl|exact zO|exact zL rfl) [c31_o9, zG, q, q1, q2, app1_at, elems, rdOf]
      refine W.chunk ?_
      simp (disch := first|omega|exact zE rfl|exact zO|exact zL rfl) [c31_o10, zG, q]
      exact kR _ _ ⟨_, ng2, by simp [T.get, q]⟩
  · refine Tr.w fun s1 H1 hp _ kR => W.trim ?_
    obtain ⟨y, ng, q⟩ := hp
    have en : nxP a.W R (R.getD i []) R.length = nxL a.W R (R.getD i []) := rfl
    rw [en] at ng
    clear en hR gS gb o
    generalize R.length = n at *
    refine W.assoc ?_
    refine W.seq (W.chunk ?_)
    simp (disch := first|omega|exact zE rfl|exact zO|exact zL rfl) [c31_o7, zG, q]
    refine W.seq (W.chunk ?_)
    simp (disch := first|omega|exact zE rfl|exact zO|exact zL rfl) [zG, q]
    exact kR _ _ ⟨_, ng, by simp [T.get, q]⟩
theorem stL_take (W : List (List Int)) (R : List (List Nat)) {i : Nat} (hi : i < R.length) : ntI ((stL W R).take (i + 1)) = ntI ((stL W R).take i) ++ [nI (nxL W R (R.getD i []))] := by
  unfold ntI stL
  rw [List.take_add_one, List.map_append, List.getElem?_map, List.getElem?_eq_getElem hi, List.getD_eq_getElem?_getD, List.getElem?_eq_getElem hi]
  rfl
theorem RV.sl {h : Heap} {x : AV} {cs : List AV} (r : RV h x cs) : (x = .nils ∧ cs.length = 0) ∨ ∃ b v, x = .slice b 0 cs.length v := by
  rcases r with ⟨e, e2⟩ | ⟨b, v, e, _⟩
  · exact .inl ⟨e, by rw [e2]; rfl⟩
  · exact .inr ⟨b, v, e⟩
theorem LV.sh {h : Heap} {x : AV} {cs : List AV} (r : LV h x cs) : x = .nils ∨ ∃ b n, x = .slice b 0 n n := by
  rcases r with ⟨e, _⟩ | ⟨b, e, _⟩
  · exact .inl e
  · exact .inr ⟨b, _, e⟩
theorem c31_o11_ok (J : CallF) {H H3 : Heap} {x y y2 x1 : AV} {e : Eff} {i : Nat} (hy : y2 = .nils ∨ ∃ b n, y2 = .slice b 0 n n) (q1 : appA (H.plus [.cells 1 1 [y2]]) H.size none 1 24 1 [y2] y = some (x1, e)) (q2 : Eff.app e (H.plus [.cells 1 1 [y2]]) = some H3) :
    Tr tbl J c31_o11 (fun s h => h = H ∧ s.get [true] = .ptr S 0 3 ∧ s.get [false, true] = x ∧ s.get [true, true] = y ∧ s.get [false, false, false] = G i ∧ s.get [true, false, false] = y2) .normal (fun s h => h = H3 ∧ s.get [true] = .ptr S 0 3 ∧ s.get [false, true] = x ∧ s.get [true, true] = x1 ∧ s.get [false, false, false] = G i) := by
  have f1 : (H.plus [.cells 1 1 [y2]]).get H.size = .cells 1 1 [y2] := plus_at0 _ _ _ _ rfl
  rcases hy with rfl | ⟨b, n, rfl⟩
  all_goals
    refine Tr.w fun s1 H1 hp _ kR => ?_
    obtain ⟨rfl, q⟩ := hp
    refine W.chunk ?_
    simp (disch := first|omega|exact zE rfl|exact zO|exact zL rfl) [c31_o11, zG, q, q1, q2, f1, elems, rdOf]
    exact kR _ _ (by simp [T.get, q])
theorem c31_l1_ok (J : CallF) (k69 : KB 69 J) {H0 : Heap} (o : OkG a H0) (gS : G30 a S H0) {x : AV} (rv : RV H0 x (wsL R)) (hn : R.length ≤ 243) {m : Nat} (m5 : m ≤ 5) (hR : RowsOk a.q m R) :
    Tr tbl J c31_l1 (fun s h => h = H0 ∧ s.get [true] = .ptr S 0 3 ∧ s.get [false, true] = x ∧ s.get [true, true] = .nils ∧ s.get [false, false, false] = G ((0 : Nat) : Int)) (.exit 0)
      (fun s h => ∃ y, TG H0 h y (ntI (stL a.W R)) ∧ s.get [true, true] = y) := by
  refine Tr.pre (P := fun s h => ∃ y, TG H0 h y (ntI ((stL a.W R).take 0)) ∧ s.get [true] = .ptr S 0 3 ∧ s.get [false, true] = x ∧ s.get [true, true] = y ∧ s.get [false, false, false] = G ((0 : Nat) : Int)) (fun s h hp => ⟨.nils, by rw [hp.1]; exact TG.nil H0, hp.2⟩) ?_
  have lw := wsL_len R
  refine Tr.rounds (e := .exit 0) (P := fun i s h => ∃ y, TG H0 h y (ntI ((stL a.W R).take i)) ∧ s.get [true] = .ptr S 0 3 ∧ s.get [false, true] = x ∧ s.get [true, true] = y ∧ s.get [false, false, false] = G i) (M := R.length) (fun i hi => ?_) ?_ (by simp) 0 (by omega)
  · obtain ⟨bx, v, rfl, gb⟩ : ∃ bx v, x = .slice bx 0 R.length v ∧ H0.get bx = .cells 1 v (wsL R) := by
      rcases rv with ⟨_, e⟩ | ⟨b, v, e, g⟩
      · rw [e] at lw; simp at lw; omega
      · rw [lw] at e; exact ⟨b, v, e, g⟩
    refine Tr.w fun s1 H1 hp _ kR => W.trim ?_
    obtain ⟨y, tg, q⟩ := hp
    have l0 := c31_l0_ok (z := y) J k69 (o.kp tg.k) (tg.k.at gS (by simp) id) (tg.k.at gb (by simp) id) hn m5 hR hi
    have st := stL_take a.W R hi
    have ln : (ntI ((stL a.W R).take i)).length ≤ 243 := by
      unfold ntI stL
      rw [List.length_map, List.length_take, List.length_map]; omega
    have app : ∀ H2 y2, NG H1 H2 y2 (nI (nxL a.W R (R.getD i []))) → ∃ x1 e H3, appA (H2.plus [.cells 1 1 [y2]]) H2.size none 1 24 1 [y2] y = some (x1, e) ∧ Eff.app e (H2.plus [.cells 1 1 [y2]]) = some H3 ∧ TG H0 H3 x1 (ntI ((stL a.W R).take (i + 1))) ∧ (y2 = .nils ∨ ∃ b n, y2 = .slice b 0 n n) := fun H2 y2 ng => by
      obtain ⟨x1, e, H3, q1, q2, q3, q4⟩ := (tg.kp ng.k).app H2.size ng.list (fun b hb => ⟨fun hy => by
        have h1 := ng.x0 b hb
        obtain ⟨cs, lv, _⟩ := tg.r
        have := lv.lt hy
        omega, Nat.le_trans tg.k.size (ng.x0 b hb)⟩) (by omega)
      rw [st]
      exact ⟨x1, e, H3, q1, q2, q3, ng.l.sh⟩
    clear st tg hR o gS gb rv ln
    generalize R.length = n at *
    refine W.assoc ?_
    refine W.seq (W.chunk ?_)
    simp (disch := first|omega|exact zE rfl|exact zO|exact zL rfl) [c31_o4, zG, q]
    refine W.seq (W.chunk ?_)
    simp (disch := first|omega|exact zE rfl|exact zO|exact zL rfl) [zG, q]
    refine W.seq (W.block ?_)
    refine W.seq (W.chunk ?_)
    simp (disch := first|omega|exact zE rfl|exact zO|exact zL rfl) [c31_o5, zG, q]
    refine W.assoc ?_
    refine W.seq (W.chunk ?_)
    simp (disch := first|omega|exact zE rfl|exact zO|exact zL rfl) [c31_o6, zG, q]
    refine W.seq (W.block ?_)
    refine W.use (l0) (by simp (disch := first|omega|exact zE rfl|exact zO|exact zL rfl) [zG, q]) fun s1 H1 hp => ?_
    obtain ⟨y2, ng, q⟩ := hp
    try simp only [zW, if_true]
    obtain ⟨x1, e, H3, q1, q2, q3, q5⟩ := app _ _ ng
    refine W.use (c31_o11_ok (S := S) (x := .slice bx 0 n v) (i := i) J q5 q1 q2) (by simp (disch := first|omega|exact zE rfl|exact zO|exact zL rfl) [zG, q]) fun s1 H1 hp => ?_
    obtain ⟨rfl, q⟩ := hp
    try simp only [zW, if_true]
    refine W.chunk ?_
    simp (disch := first|omega|exact zE rfl|exact zO|exact zL rfl) [c31_o12, zG, q]
    exact kR _ _ ⟨_, q3, by simp [T.get, q]⟩
  · refine Tr.w fun s1 H1 hp _ kR => W.trim ?_
    obtain ⟨y, tg, q⟩ := hp
    rw [show (stL a.W R).take R.length = stL a.W R from List.take_of_length_le (by simp [stL])] at tg
    have sl := rv.sl
    rw [lw] at sl
    clear o gS hR rv
    generalize R.length = n at *
    rcases sl with ⟨rfl, rfl⟩ | ⟨b, v, rfl⟩
    all_goals
      refine W.assoc ?_
      refine W.seq (W.chunk ?_)
      simp (disch := first|omega|exact zE rfl|exact zO|exact zL rfl) [c31_o4, zG, q]
      refine W.seq (W.chunk ?_)
      simp (disch := first|omega|exact zE rfl|exact zO|exact zL rfl) [zG, q]
      exact kR _ _ ⟨_, tg, by simp [T.get, q]⟩
theorem TG.base {H0 H1 H : Heap} {x : AV} {L : List (List Int)} (k : Kp (fun _ => False) H0 H1) (t : TG H1 H x L) : TG H0 H x L := by
  obtain ⟨cs, lv, hl, hr⟩ := t.r
  exact ⟨k.trans t.k, fun q hq => Nat.le_trans k.size (t.x0 q hq), cs, lv, hl, fun i r hi => by
    obtain ⟨l, h1, h2, h3⟩ := hr i r hi
    exact ⟨l, h1, h2, fun q hq => ⟨(h3 q hq).1, Nat.le_trans k.size (h3 q hq).2.1, (h3 q hq).2.2⟩⟩⟩
theorem LT.fr {h H' : Heap} {x : AV} {L : List (List Int)} (t : LT H' x L) (k : Kp (fun _ => False) (frameOf h) H') : LT (h.plus (if (one [x]).flat then [] else H'.own)) x L := by
  split
  · rename_i hf
    obtain ⟨rs, lv, hl, hr⟩ := t
    rcases lv with ⟨rfl, e2⟩ | ⟨b, rfl, g⟩
    · subst e2
      exact ⟨[], .inl ⟨rfl, rfl⟩, hl, fun i r e => by simp at e⟩
    · simp [one, AV.flat, AV.flats] at hf
  · have e := Kp.own k
    exact t.congr fun b => by rw [e]; exact fr_get h _ b
theorem c31_ok (J : CallF) (k30 : K30 J) (k69 : KB 69 J) (hJ : ∀ a h, J 31 a h = none) (h : Heap) (o : OkG a h) {m : Nat} (m5 : m ≤ 5) : ∃ v own, CallsTo tbl J 31 [a.v, G m] h (v, own, false) ∧ LT (h.plus own) v (ntI (stL a.W (rwL a.q a.B m))) := by
  refine Tr.fny (cf := c31) (e := .ret) (s := T.set (T.set .leaf [] a.v) [false] (G m)) (by decide) rfl (hJ _ _) rfl rfl (by simp) ?_
  obtain ⟨Hs, hHs⟩ : ∃ H, (⟨h.get, h.size, [.cells 0 3 [G a.q, a.x, a.y]]⟩ : Heap) = H := ⟨_, rfl⟩
  have oH : OkG a Hs := by rw [← hHs]; exact o.lo _
  have gS : G30 a h.size Hs := by show Heap.get _ _ = _; rw [← hHs, get_mk_ge _ _ _ _ (Nat.le_refl _), Nat.sub_self]; rfl
  have kb : Kp (fun _ => False) (frameOf h) Hs := by rw [← hHs]; exact Kp.plus (frameOf h) [.cells 0 3 [G a.q, a.x, a.y]]
  obtain ⟨x, own, e, rv, _⟩ := k30 Hs a m oH m5
  have kp : Kp (fun _ => False) Hs (Hs.plus own) := Kp.plus _ _
  have q3 := o.q1
  have l1 := c31_l1_ok (S := h.size) J k69 (oH.kp kp) (kp.at gS (by simp) id) rv (rwL_small q3.2 m5) m5 rows_ok
  have gS' : Hs.get h.size = .cells 0 3 [G a.q, a.x, a.y] := gS
  clear o oH gS rv
  refine Tr.w fun s1 H1 hp _ kR => ?_
  obtain ⟨rfl, rfl⟩ := hp
  have q : True := trivial
  refine W.seq (W.chunk ?_)
  simp (disch := first|omega|exact zE rfl|exact zO|exact zL rfl) [c31_o0, size_mk, get_mk_lt, get_mk_ge, frameOf, Eff.app, Heap.setOwn, q, hHs]
  refine W.seq (W.chunk ?_)
  simp (disch := first|omega|exact zE rfl|exact zO|exact zL rfl) [c31_o1, zG, q, gS', e, app_if, app_if']
  refine W.seq (W.chunk ?_)
  simp (disch := first|omega|exact zE rfl|exact zO|exact zL rfl) [c31_o2, size_mk, get_mk_lt, get_mk_ge, frameOf, Eff.app, Heap.setOwn, q]
  refine W.assoc ?_
  refine W.seq (W.chunk ?_)
  simp (disch := first|omega|exact zE rfl|exact zO|exact zL rfl) [c31_o3, size_mk, get_mk_lt, get_mk_ge, frameOf, Eff.app, Heap.setOwn, q]
  refine W.seq (W.block ?_)
  refine W.use (l1) (by simp (disch := first|omega|exact zE rfl|exact zO|exact zL rfl) [size_mk, get_mk_lt, get_mk_ge, frameOf, Eff.app, Heap.setOwn, q]) fun s1 H1 hp => ?_
  obtain ⟨y, tg, q⟩ := hp
  try simp only [zW, if_true]
  refine W.seq (W.chunk ?_)
  simp (disch := first|omega|exact zE rfl|exact zO|exact zL rfl) [c31_o13, size_mk, get_mk_lt, get_mk_ge, frameOf, Eff.app, Heap.setOwn, q]
  refine W.ret ?_
  try simp only [zW, if_true]
  have tb := tg.base (kb.trans kp)
  refine kR _ _ ?_
  refine ⟨[y], by simp [T.get, c31, evRess, evRes, q], tb.lt.fr tb.k⟩
end
def Post31 (b : AM) (h : Heap) (v : AV) (own : List AObj) : Prop := LT (h.plus own) v (ntI (stL b.a.W (rwL b.a.q b.a.B b.m)))
noncomputable def T25 : CallF := addK tbl T24 31 Pre30 Post31
theorem t25 : Sound Go.Proofs.Try.prog T25 := Sound.addK follows ok t24 (by decide) _ _
abbrev K31 (J : CallF) : Prop := ∀ (h : Heap) (a : AG) (m : Nat), OkG a h → m ≤ 5 → ∃ v own, J 31 [a.v, G m] h = some (v, own, false) ∧ LT (h.plus own) v (ntI (stL a.W (rwL a.q a.B m)))
theorem k69_24 : KB 69 T24 := fun h a s t o hs ht ls lt => by
  have e := k69 h a s t o hs ht ls lt
  rw [show T24 69 [a.v, .str (stW s), .str (stW t)] h = T16 69 [a.v, .str (stW s), .str (stW t)] h from by simp (disch := decide) only [T1, T2, T3, T4, T5, T6, T7, T8, T9, T10, T11, T12, T13, T14, T15, T16, T17, T18, T19, T20, T21, T22, T23, T24, addI_ne, addX_ne, addV_ne, addK_ne]]
  exact e
theorem k31 : K31 T25 := fun h a m o m5 => by
  obtain ⟨v, own, e, l⟩ := addK_some (Pre := Pre30) (Post := Post31) (fun b args h hp => by
    obtain ⟨⟨h1, h2⟩, rfl⟩ := hp
    exact c31_ok T24 k30 k69_24 (fun _ _ => by simp (disch := decide) only [T1, T2, T3, T4, T5, T6, T7, T8, T9, T10, T11, T12, T13, T14, T15, T16, T17, T18, T19, T20, T21, T22, T23, T24, addI_ne, addX_ne, addV_ne, addK_ne]; rfl) h h1 h2) ⟨a, m⟩ _ h ⟨⟨o, m5⟩, rfl⟩
  exact ⟨v, own, e, l⟩
section
variable {a b : List Int} {b1 b2 v1 v2 n : Nat}
theorem ints_loop (J : CallF) (h : Heap) {ca cb : List AV} (ha : h.get b1 = .cells 1 v1 ca) (hb : h.get b2 = .cells 1 v2 cb) (hca : ∀ i : Nat, ca[i]? = (a[i]?).map fun n => AV.int .i64 n) (hcb : ∀ i : Nat, cb[i]? = (b[i]?).map fun n => AV.int .i64 n) (la : a.length = n) (lb : b.length = n) (hn : n ≤ 1000000) :
    ∀ j i, i + j = n → (a.drop i = b.drop i → Tr tbl J c64_l0 (fun s h' => s.get [] = .slice b1 0 n v1 ∧ s.get [false] = .slice b2 0 n v2 ∧ s.get [false, true] = G i ∧ h' = ⟨h.get, h.size, []⟩) (.exit 0) (fun s h => True)) ∧
      (a.drop i ≠ b.drop i → Tr tbl J c64_l0 (fun s h' => s.get [] = .slice b1 0 n v1 ∧ s.get [false] = .slice b2 0 n v2 ∧ s.get [false, true] = G i ∧ h' = ⟨h.get, h.size, []⟩) .ret (fun s h => s.get [true, false] = .bool false)) := by
  have h1 := get_lt ha (by simp)
  have h2 := get_lt hb (by simp)
  intro j
  induction j with
  | zero =>
    intro i hi
    obtain rfl : i = n := by omega
    have e1 : a.drop i = [] := List.drop_of_length_le (by omega)
    have e2 : b.drop i = [] := List.drop_of_length_le (by omega)
    refine ⟨fun _ => ?_, fun hne => absurd (e1.trans e2.symm) hne⟩
    have t : Tr tbl J ((.trim [[], [false], [false, true]] c64_b0)) (fun s h' => s.get [] = .slice b1 0 i v1 ∧ s.get [false] = .slice b2 0 i v2 ∧ s.get [false, true] = G i ∧ h' = ⟨h.get, h.size, []⟩) (.exit 0) (fun s h => True) := Tr.region fun s h hp => by
      obtain ⟨g0, g1, g2, rfl⟩ := hp
      simp (disch := first|omega|exact zE rfl|exact zO|exact zL rfl) [c64_b0, c64_o4, size_mk, get_mk_lt, get_mk_ge, frameOf, Eff.app, Heap.setOwn, g0, g1, g2]
    exact Tr.out t (by simp)
  | succ j ih =>
    intro i hi
    have hia : i < a.length := by omega
    have hib : i < b.length := by omega
    have ea : a[i]? = some a[i] := List.getElem?_eq_getElem hia
    have eb : b[i]? = some b[i] := List.getElem?_eq_getElem hib
    have da : a.drop i = a[i] :: a.drop (i + 1) := List.drop_eq_getElem_cons hia
    have db : b.drop i = b[i] :: b.drop (i + 1) := List.drop_eq_getElem_cons hib
    rw [da, db]
    have xa := hca i
    have xb := hcb i
    rw [ea] at xa
    rw [eb] at xb
    simp only [Option.map_some] at xa xb
    clear ea eb da db hca hcb
    generalize a[i] = p at *
    generalize b[i] = q at *
    have ih' := ih (i + 1) (by omega)
    by_cases hpq : p = q
    · subst hpq
      have t : Tr tbl J ((.trim [[], [false], [false, true]] c64_b0)) (fun s h' => s.get [] = .slice b1 0 n v1 ∧ s.get [false] = .slice b2 0 n v2 ∧ s.get [false, true] = G i ∧ h' = ⟨h.get, h.size, []⟩) .normal (fun s h' => s.get [] = .slice b1 0 n v1 ∧ s.get [false] = .slice b2 0 n v2 ∧ s.get [false, true] = G ((i + 1 : Nat) : Int) ∧ h' = ⟨h.get, h.size, []⟩) := Tr.region fun s h hp => by
        obtain ⟨g0, g1, g2, rfl⟩ := hp
        simp (disch := first|omega|exact zE rfl|exact zO|exact zL rfl) [c64_b0, c64_o4, c64_o5, c64_o7, size_mk, get_mk_lt, get_mk_ge, frameOf, Eff.app, Heap.setOwn, g0, g1, g2, ha, hb, xa, xb]
      exact ⟨fun e => Tr.next t (ih'.1 (by simpa using e)), fun e => Tr.next t (ih'.2 (by simpa using e))⟩
    · refine ⟨fun e => absurd (List.cons.inj e).1 hpq, fun _ => ?_⟩
      have t : Tr tbl J ((.trim [[], [false], [false, true]] c64_b0)) (fun s h' => s.get [] = .slice b1 0 n v1 ∧ s.get [false] = .slice b2 0 n v2 ∧ s.get [false, true] = G i ∧ h' = ⟨h.get, h.size, []⟩) .ret (fun s h => s.get [true, false] = .bool false) := Tr.region fun s h hp => by
        obtain ⟨g0, g1, g2, rfl⟩ := hp
        simp (disch := first|omega|exact zE rfl|exact zO|exact zL rfl) [c64_b0, c64_o4, c64_o5, c64_o6, size_mk, get_mk_lt, get_mk_ge, frameOf, Eff.app, Heap.setOwn, g0, g1, g2, ha, hb, xa, xb, hpq]
      exact Tr.out t (by simp)
theorem ints_nn (J : CallF) (hJ : ∀ a h, J 64 a h = none) (h : Heap)  : CallsTo tbl J 64 [.nils, .nils] h (.bool (decide (([] : List Int) = [])), [], false) := by
  refine Tr.fnv (cf := c64) (e := .ret) (s := T.set (T.set .leaf [] (.nils)) [false] (.nils)) (by decide) rfl (hJ _ _) rfl rfl rfl (by simp) ?_
  have t0 : Tr tbl J (c64_o0) (fun s h' => s = T.set (T.set .leaf [] (.nils)) [false] (.nils) ∧ h' = frameOf h) .normal (fun s h' => s.get [] = .nils ∧ s.get [false] = .nils ∧ h' = ⟨h.get, h.size, []⟩) := Tr.region fun s h hp => by
    obtain ⟨rfl, rfl⟩ := hp
    simp (disch := first|omega|exact zE rfl|exact zO|exact zL rfl) [c64_o0, frameOf, Heap.size, Heap.get, Eff.app, Heap.setOwn]
  by_cases hab : (0) = 0
  ·
    have t1 : Tr tbl J ((.seq c64_o1 (.cond (.s [true, true, false]) (.seq c64_o2 .ret) .skip))) (fun s h' => s.get [] = .nils ∧ s.get [false] = .nils ∧ h' = ⟨h.get, h.size, []⟩) .normal (fun s h' => s.get [] = .nils ∧ s.get [false] = .nils ∧ h' = ⟨h.get, h.size, []⟩) := Tr.region fun s h hp => by
      obtain ⟨g0, g1, rfl⟩ := hp
      simp (disch := first|omega|exact zE rfl|exact zO|exact zL rfl) [c64_o1, size_mk, get_mk_lt, get_mk_ge, frameOf, Eff.app, Heap.setOwn, g0, g1, hab]
    have t2 : Tr tbl J (c64_o3) (fun s h' => s.get [] = .nils ∧ s.get [false] = .nils ∧ h' = ⟨h.get, h.size, []⟩) .normal (fun s h' => s.get [] = .nils ∧ s.get [false] = .nils ∧ s.get [false, true] = G ((0 : Nat) : Int) ∧ h' = ⟨h.get, h.size, []⟩) := Tr.region fun s h hp => by
      obtain ⟨g0, g1, rfl⟩ := hp
      simp (disch := first|omega|exact zE rfl|exact zO|exact zL rfl) [c64_o3, size_mk, get_mk_lt, get_mk_ge, frameOf, Eff.app, Heap.setOwn, g0, g1]
    have t3 : Tr tbl J ((.seq c64_o8 .ret)) (fun s h => True) .ret (fun s h => s.get [true, false] = .bool true) := Tr.region fun s h hp => by
      simp (disch := first|omega|exact zE rfl|exact zO|exact zL rfl) [c64_o8, frameOf, Heap.size, Heap.get, Eff.app, Heap.setOwn]
    have t4 : Tr tbl J ((.trim [[], [false], [false, true]] c64_b0)) (fun s h' => s.get [] = .nils ∧ s.get [false] = .nils ∧ s.get [false, true] = G ((0 : Nat) : Int) ∧ h' = ⟨h.get, h.size, []⟩) (.exit 0) (fun s h => True) := Tr.region fun s h hp => by
      obtain ⟨g0, g1, g2, rfl⟩ := hp
      simp (disch := first|omega|exact zE rfl|exact zO|exact zL rfl) [c64_b0, c64_o4, size_mk, get_mk_lt, get_mk_ge, frameOf, Eff.app, Heap.setOwn, g0, g1, g2, hab]
    exact Tr.post (fun s h q => by simp [c64, q]) (Tr.seq t0 (Tr.seq t1 (Tr.seq (Tr.seq t2 (Tr.block (Tr.out t4 (by simp)))) t3)))
  · exact absurd rfl hab
theorem ints_ns (J : CallF) (hJ : ∀ a h, J 64 a h = none) (h : Heap)  : CallsTo tbl J 64 [.nils, .slice b2 0 b.length v2] h (.bool (decide (([] : List Int) = b)), [], false) := by
  refine Tr.fnv (cf := c64) (e := .ret) (s := T.set (T.set .leaf [] (.nils)) [false] (.slice b2 0 b.length v2)) (by decide) rfl (hJ _ _) rfl rfl rfl (by simp) ?_
  have t0 : Tr tbl J (c64_o0) (fun s h' => s = T.set (T.set .leaf [] (.nils)) [false] (.slice b2 0 b.length v2) ∧ h' = frameOf h) .normal (fun s h' => s.get [] = .nils ∧ s.get [false] = .slice b2 0 b.length v2 ∧ h' = ⟨h.get, h.size, []⟩) := Tr.region fun s h hp => by
    obtain ⟨rfl, rfl⟩ := hp
    simp (disch := first|omega|exact zE rfl|exact zO|exact zL rfl) [c64_o0, frameOf, Heap.size, Heap.get, Eff.app, Heap.setOwn]
  by_cases hab : (0) = b.length
  ·
    have t1 : Tr tbl J ((.seq c64_o1 (.cond (.s [true, true, false]) (.seq c64_o2 .ret) .skip))) (fun s h' => s.get [] = .nils ∧ s.get [false] = .slice b2 0 b.length v2 ∧ h' = ⟨h.get, h.size, []⟩) .normal (fun s h' => s.get [] = .nils ∧ s.get [false] = .slice b2 0 b.length v2 ∧ h' = ⟨h.get, h.size, []⟩) := Tr.region fun s h hp => by
      obtain ⟨g0, g1, rfl⟩ := hp
      simp (disch := first|omega|exact zE rfl|exact zO|exact zL rfl) [c64_o1, size_mk, get_mk_lt, get_mk_ge, frameOf, Eff.app, Heap.setOwn, g0, g1, hab]
    have t2 : Tr tbl J (c64_o3) (fun s h' => s.get [] = .nils ∧ s.get [false] = .slice b2 0 b.length v2 ∧ h' = ⟨h.get, h.size, []⟩) .normal (fun s h' => s.get [] = .nils ∧ s.get [false] = .slice b2 0 b.length v2 ∧ s.get [false, true] = G ((0 : Nat) : Int) ∧ h' = ⟨h.get, h.size, []⟩) := Tr.region fun s h hp => by
      obtain ⟨g0, g1, rfl⟩ := hp
      simp (disch := first|omega|exact zE rfl|exact zO|exact zL rfl) [c64_o3, size_mk, get_mk_lt, get_mk_ge, frameOf, Eff.app, Heap.setOwn, g0, g1]
    have t3 : Tr tbl J ((.seq c64_o8 .ret)) (fun s h => True) .ret (fun s h => s.get [true, false] = .bool true) := Tr.region fun s h hp => by
      simp (disch := first|omega|exact zE rfl|exact zO|exact zL rfl) [c64_o8, frameOf, Heap.size, Heap.get, Eff.app, Heap.setOwn]
    have t4 : Tr tbl J ((.trim [[], [false], [false, true]] c64_b0)) (fun s h' => s.get [] = .nils ∧ s.get [false] = .slice b2 0 b.length v2 ∧ s.get [false, true] = G ((0 : Nat) : Int) ∧ h' = ⟨h.get, h.size, []⟩) (.exit 0) (fun s h => True) := Tr.region fun s h hp => by
      obtain ⟨g0, g1, g2, rfl⟩ := hp
      simp (disch := first|omega|exact zE rfl|exact zO|exact zL rfl) [c64_b0, c64_o4, size_mk, get_mk_lt, get_mk_ge, frameOf, Eff.app, Heap.setOwn, g0, g1, g2, hab]
    have e1 : b = [] := List.length_eq_zero_iff.1 hab.symm
    exact Tr.post (fun s h q => by simp [c64, q, e1]) (Tr.seq t0 (Tr.seq t1 (Tr.seq (Tr.seq t2 (Tr.block (Tr.out t4 (by simp)))) t3)))
  ·
    have t1 : Tr tbl J ((.seq c64_o1 (.cond (.s [true, true, false]) (.seq c64_o2 .ret) .skip))) (fun s h' => s.get [] = .nils ∧ s.get [false] = .slice b2 0 b.length v2 ∧ h' = ⟨h.get, h.size, []⟩) .ret (fun s h => s.get [true, false] = .bool false) := Tr.region fun s h hp => by
      obtain ⟨g0, g1, rfl⟩ := hp
      simp (disch := first|omega|exact zE rfl|exact zO|exact zL rfl) [c64_o1, c64_o2, size_mk, get_mk_lt, get_mk_ge, frameOf, Eff.app, Heap.setOwn, g0, g1, hab]
    refine Tr.post (fun s h q => ?_) (Tr.seq t0 (Tr.seq_out t1 (by simp)))
    have hne : ¬ b = [] := fun e => hab (by rw [e]; rfl)
    simp [c64, q, hne]
theorem ints_sn (J : CallF) (hJ : ∀ a h, J 64 a h = none) (h : Heap)  : CallsTo tbl J 64 [.slice b1 0 a.length v1, .nils] h (.bool (decide (a = [])), [], false) := by
  refine Tr.fnv (cf := c64) (e := .ret) (s := T.set (T.set .leaf [] (.slice b1 0 a.length v1)) [false] (.nils)) (by decide) rfl (hJ _ _) rfl rfl rfl (by simp) ?_
  have t0 : Tr tbl J (c64_o0) (fun s h' => s = T.set (T.set .leaf [] (.slice b1 0 a.length v1)) [false] (.nils) ∧ h' = frameOf h) .normal (fun s h' => s.get [] = .slice b1 0 a.length v1 ∧ s.get [false] = .nils ∧ h' = ⟨h.get, h.size, []⟩) := Tr.region fun s h hp => by
    obtain ⟨rfl, rfl⟩ := hp
    simp (disch := first|omega|exact zE rfl|exact zO|exact zL rfl) [c64_o0, frameOf, Heap.size, Heap.get, Eff.app, Heap.setOwn]
  by_cases hab : (a.length) = 0
  ·
    have t1 : Tr tbl J ((.seq c64_o1 (.cond (.s [true, true, false]) (.seq c64_o2 .ret) .skip))) (fun s h' => s.get [] = .slice b1 0 a.length v1 ∧ s.get [false] = .nils ∧ h' = ⟨h.get, h.size, []⟩) .normal (fun s h' => s.get [] = .slice b1 0 a.length v1 ∧ s.get [false] = .nils ∧ h' = ⟨h.get, h.size, []⟩) := Tr.region fun s h hp => by
      obtain ⟨g0, g1, rfl⟩ := hp
      simp (disch := first|omega|exact zE rfl|exact zO|exact zL rfl) [c64_o1, size_mk, get_mk_lt, get_mk_ge, frameOf, Eff.app, Heap.setOwn, g0, g1, hab]
    have t2 : Tr tbl J (c64_o3) (fun s h' => s.get [] = .slice b1 0 a.length v1 ∧ s.get [false] = .nils ∧ h' = ⟨h.get, h.size, []⟩) .normal (fun s h' => s.get [] = .slice b1 0 a.length v1 ∧ s.get [false] = .nils ∧ s.get [false, true] = G ((0 : Nat) : Int) ∧ h' = ⟨h.get, h.size, []⟩) := Tr.region fun s h hp => by
      obtain ⟨g0, g1, rfl⟩ := hp
      simp (disch := first|omega|exact zE rfl|exact zO|exact zL rfl) [c64_o3, size_mk, get_mk_lt, get_mk_ge, frameOf, Eff.app, Heap.setOwn, g0, g1]
    have t3 : Tr tbl J ((.seq c64_o8 .ret)) (fun s h => True) .ret (fun s h => s.get [true, false] = .bool true) := Tr.region fun s h hp => by
      simp (disch := first|omega|exact zE rfl|exact zO|exact zL rfl) [c64_o8, frameOf, Heap.size, Heap.get, Eff.app, Heap.setOwn]
    have t4 : Tr tbl J ((.trim [[], [false], [false, true]] c64_b0)) (fun s h' => s.get [] = .slice b1 0 a.length v1 ∧ s.get [false] = .nils ∧ s.get [false, true] = G ((0 : Nat) : Int) ∧ h' = ⟨h.get, h.size, []⟩) (.exit 0) (fun s h => True) := Tr.region fun s h hp => by
      obtain ⟨g0, g1, g2, rfl⟩ := hp
      simp (disch := first|omega|exact zE rfl|exact zO|exact zL rfl) [c64_b0, c64_o4, size_mk, get_mk_lt, get_mk_ge, frameOf, Eff.app, Heap.setOwn, g0, g1, g2, hab]
    have e1 : a = [] := List.length_eq_zero_iff.1 hab
    exact Tr.post (fun s h q => by simp [c64, q, e1]) (Tr.seq t0 (Tr.seq t1 (Tr.seq (Tr.seq t2 (Tr.block (Tr.out t4 (by simp)))) t3)))
  ·
    have t1 : Tr tbl J ((.seq c64_o1 (.cond (.s [true, true, false]) (.seq c64_o2 .ret) .skip))) (fun s h' => s.get [] = .slice b1 0 a.length v1 ∧ s.get [false] = .nils ∧ h' = ⟨h.get, h.size, []⟩) .ret (fun s h => s.get [true, false] = .bool false) := Tr.region fun s h hp => by
      obtain ⟨g0, g1, rfl⟩ := hp
      simp (disch := first|omega|exact zE rfl|exact zO|exact zL rfl) [c64_o1, c64_o2, size_mk, get_mk_lt, get_mk_ge, frameOf, Eff.app, Heap.setOwn, g0, g1, hab]
    refine Tr.post (fun s h q => ?_) (Tr.seq t0 (Tr.seq_out t1 (by simp)))
    have hne : ¬ a = [] := fun e => hab (by rw [e]; rfl)
    simp [c64, q, hne]
theorem ints_ss (J : CallF) (hJ : ∀ a h, J 64 a h = none) (h : Heap) (hn : a.length ≤ 1000000) {ca cb : List AV} (ha : h.get b1 = .cells 1 v1 ca) (hb : h.get b2 = .cells 1 v2 cb) (hca : ∀ i : Nat, ca[i]? = (a[i]?).map fun n => AV.int .i64 n) (hcb : ∀ i : Nat, cb[i]? = (b[i]?).map fun n => AV.int .i64 n) : CallsTo tbl J 64 [.slice b1 0 a.length v1, .slice b2 0 b.length v2] h (.bool (decide (a = b)), [], false) := by
  refine Tr.fnv (cf := c64) (e := .ret) (s := T.set (T.set .leaf [] (.slice b1 0 a.length v1)) [false] (.slice b2 0 b.length v2)) (by decide) rfl (hJ _ _) rfl rfl rfl (by simp) ?_
  have t0 : Tr tbl J (c64_o0) (fun s h' => s = T.set (T.set .leaf [] (.slice b1 0 a.length v1)) [false] (.slice b2 0 b.length v2) ∧ h' = frameOf h) .normal (fun s h' => s.get [] = .slice b1 0 a.length v1 ∧ s.get [false] = .slice b2 0 b.length v2 ∧ h' = ⟨h.get, h.size, []⟩) := Tr.region fun s h hp => by
    obtain ⟨rfl, rfl⟩ := hp
    simp (disch := first|omega|exact zE rfl|exact zO|exact zL rfl) [c64_o0, frameOf, Heap.size, Heap.get, Eff.app, Heap.setOwn]
  by_cases hab : (a.length) = b.length
  ·
    have t1 : Tr tbl J ((.seq c64_o1 (.cond (.s [true, true, false]) (.seq c64_o2 .ret) .skip))) (fun s h' => s.get [] = .slice b1 0 a.length v1 ∧ s.get [false] = .slice b2 0 b.length v2 ∧ h' = ⟨h.get, h.size, []⟩) .normal (fun s h' => s.get [] = .slice b1 0 a.length v1 ∧ s.get [false] = .slice b2 0 b.length v2 ∧ h' = ⟨h.get, h.size, []⟩) := Tr.region fun s h hp => by
      obtain ⟨g0, g1, rfl⟩ := hp
      simp (disch := first|omega|exact zE rfl|exact zO|exact zL rfl) [c64_o1, size_mk, get_mk_lt, get_mk_ge, frameOf, Eff.app, Heap.setOwn, g0, g1, hab]
    have t2 : Tr tbl J (c64_o3) (fun s h' => s.get [] = .slice b1 0 a.length v1 ∧ s.get [false] = .slice b2 0 b.length v2 ∧ h' = ⟨h.get, h.size, []⟩) .normal (fun s h' => s.get [] = .slice b1 0 a.length v1 ∧ s.get [false] = .slice b2 0 b.length v2 ∧ s.get [false, true] = G ((0 : Nat) : Int) ∧ h' = ⟨h.get, h.size, []⟩) := Tr.region fun s h hp => by
      obtain ⟨g0, g1, rfl⟩ := hp
      simp (disch := first|omega|exact zE rfl|exact zO|exact zL rfl) [c64_o3, size_mk, get_mk_lt, get_mk_ge, frameOf, Eff.app, Heap.setOwn, g0, g1]
    have t3 : Tr tbl J ((.seq c64_o8 .ret)) (fun s h => True) .ret (fun s h => s.get [true, false] = .bool true) := Tr.region fun s h hp => by
      simp (disch := first|omega|exact zE rfl|exact zO|exact zL rfl) [c64_o8, frameOf, Heap.size, Heap.get, Eff.app, Heap.setOwn]
    obtain ⟨l1, l2⟩ := ints_loop J h ha hb hca hcb rfl hab.symm hn a.length 0 (by omega)
    simp only [List.drop_zero] at l1 l2
    rw [← hab] at t0 t1 t2
    by_cases e : a = b
    · rw [decide_eq_true e]
      exact Tr.post (fun s h q => by simp [c64, q]) (Tr.seq (by rw [← hab]; exact t0) (Tr.seq t1 (Tr.seq (Tr.seq t2 (Tr.block (l1 e))) t3)))
    · rw [decide_eq_false e]
      exact Tr.post (fun s h q => by simp [c64, q]) (Tr.seq (by rw [← hab]; exact t0) (Tr.seq t1 (Tr.seq_out (Tr.seq t2 (Tr.block_out (l2 e) (by simp))) (by simp))))
  ·
    have t1 : Tr tbl J ((.seq c64_o1 (.cond (.s [true, true, false]) (.seq c64_o2 .ret) .skip))) (fun s h' => s.get [] = .slice b1 0 a.length v1 ∧ s.get [false] = .slice b2 0 b.length v2 ∧ h' = ⟨h.get, h.size, []⟩) .ret (fun s h => s.get [true, false] = .bool false) := Tr.region fun s h hp => by
      obtain ⟨g0, g1, rfl⟩ := hp
      simp (disch := first|omega|exact zE rfl|exact zO|exact zL rfl) [c64_o1, c64_o2, size_mk, get_mk_lt, get_mk_ge, frameOf, Eff.app, Heap.setOwn, g0, g1, hab]
    refine Tr.post (fun s h q => ?_) (Tr.seq t0 (Tr.seq_out t1 (by simp)))
    have hne : ¬ a = b := fun e => hab (by rw [e])
    simp [c64, q, hne]
theorem c64_ok (J : CallF) (hJ : ∀ a h, J 64 a h = none) (h : Heap) (x y : AV) (hx : listOf h x = some a) (hy : listOf h y = some b) (hn : a.length ≤ 1000000) : CallsTo tbl J 64 [x, y] h (.bool (decide (a = b)), [], false) := by
  rcases listOf_some hx with ⟨rfl, rfl⟩ | ⟨b1, v1, rfl, g1⟩ <;> rcases listOf_some hy with ⟨rfl, rfl⟩ | ⟨b2, v2, rfl, g2⟩
  · exact ints_nn J hJ h
  · exact ints_ns J hJ h
  · exact ints_sn J hJ h
  · exact ints_ss J hJ h hn g1 g2 (fun i => List.getElem?_map) (fun i => List.getElem?_map)
end
def spec64 : SpecF := fun args h => match args with
  | [x, y] => match listOf h x, listOf h y with
    | some a, some b => if a.length ≤ 1000000 then some (.bool (decide (a = b)), [], false) else none
    | _, _ => none
  | _ => none
noncomputable def T26 : CallF := addI T25 64 spec64
theorem t26 : Sound Go.Proofs.Try.prog T26 := Sound.add follows ok t25 (by decide) fun args h x e => by
  unfold spec64 at e
  split at e
  · split at e
    · rename_i h1 h2
      split at e
      · rename_i hn
        simp only [Option.some.injEq] at e; subst e; exact c64_ok T25 (fun _ _ => by simp (disch := decide) only [T1, T2, T3, T4, T5, T6, T7, T8, T9, T10, T11, T12, T13, T14, T15, T16, T17, T18, T19, T20, T21, T22, T23, T24, T25, addI_ne, addX_ne, addV_ne, addK_ne]; rfl) h _ _ h1 h2 hn
      · cases e
    · cases e
  · cases e
abbrev K64 (J : CallF) : Prop := ∀ (h : Heap) (x y : AV) (a b : List Int), listOf h x = some a → listOf h y = some b → a.length ≤ 1000000 → J 64 [x, y] h = some (.bool (decide (a = b)), [], false)
theorem k64 : K64 T26 := fun h x y a b hx hy hn => by
  have : T26 64 [x, y] h = spec64 [x, y] h := by simp only [T26, addI, if_true]
  rw [this]
  simp [spec64, hx, hy, hn]
abbrev ss (L : List (List UInt8)) : List AV := L.map AV.str
theorem ss_at {L : List (List UInt8)} {i : Nat} (hi : i < L.length) : (ss L)[i]? = some (.str (L.getD i [])) := by
  rw [List.getElem?_map, List.getD_eq_getElem?_getD, List.getElem?_eq_getElem hi]; rfl
def sE (L M : List (List UInt8)) (i : Nat) : Bool := decide (L.getD i [] = M.getD i [])
theorem sE_all {L M : List (List UInt8)} (h : L.length = M.length) : af (sE L M) 0 L.length = decide (L = M) := by
  rw [Bool.eq_iff_iff, af_iff, decide_eq_true_eq]
  constructor
  · intro a
    apply List.ext_getElem?
    intro i
    by_cases hi : i < L.length
    · have := a i (Nat.zero_le _) (by omega)
      unfold sE at this
      rw [decide_eq_true_eq, List.getD_eq_getElem?_getD, List.getD_eq_getElem?_getD, List.getElem?_eq_getElem hi, List.getElem?_eq_getElem (by omega : i < M.length)] at this
      rw [List.getElem?_eq_getElem hi, List.getElem?_eq_getElem (by omega : i < M.length)]
      exact congrArg some this
    · rw [List.getElem?_eq_none (by omega), List.getElem?_eq_none (by omega)]
  · rintro rfl k _ _
    simp [sE]
section
variable {L M : List (List UInt8)}
theorem c29_l (J : CallF) {H : Heap} {b1 v1 b2 v2 n : Nat} (g1 : H.get b1 = .cells 1 v1 (ss L)) (g2 : H.get b2 = .cells 1 v2 (ss M)) (l1 : L.length = n) (l2 : M.length = n) (hn : n ≤ 1000000) :
    (af (sE L M) 0 n = true → Tr tbl J c29_l0 (fun s h => h = H ∧ s.get [] = .slice b1 0 n v1 ∧ s.get [false] = .slice b2 0 n v2 ∧ s.get [false, true] = G ((0 : Nat) : Int)) (.exit 0) (fun s h => True)) ∧
    (af (sE L M) 0 n = false → Tr tbl J c29_l0 (fun s h => h = H ∧ s.get [] = .slice b1 0 n v1 ∧ s.get [false] = .slice b2 0 n v2 ∧ s.get [false, true] = G ((0 : Nat) : Int)) .ret (fun s h => s.get [true, false] = .bool false)) := by
  have sl1 : (ss L).length = n := by simp [l1]
  have sl2 : (ss M).length = n := by simp [l2]
  have key : ∀ i, i < n → Tr tbl J (.trim [[], [false], [false, true]] c29_b0) (fun s h => h = H ∧ s.get [] = .slice b1 0 n v1 ∧ s.get [false] = .slice b2 0 n v2 ∧ s.get [false, true] = G i) (if sE L M i then .normal else .ret)
      (if sE L M i then (fun s h => h = H ∧ s.get [] = .slice b1 0 n v1 ∧ s.get [false] = .slice b2 0 n v2 ∧ s.get [false, true] = G ((i + 1 : Nat) : Int)) else (fun s h => s.get [true, false] = .bool false)) := fun i hi => by
    have e1 := ss_at (L := L) (i := i) (by omega)
    have e2 := ss_at (L := M) (i := i) (by omega)
    have e1' := getI e1
    have e2' := getI e2
    unfold sE
    by_cases c : L.getD i [] = M.getD i []
    · rw [decide_eq_true c, if_pos rfl, if_pos rfl]
      rw [c] at e1 e1'
      generalize M.getD i [] = u at *
      generalize ss L = sl at *
      generalize ss M = sm at *
      refine Tr.w fun s1 H1 hp _ kR => W.trim ?_
      obtain ⟨rfl, q⟩ := hp
      refine W.assoc ?_
      refine W.seq (W.chunk ?_)
      simp (disch := first|omega|exact zE rfl|exact zO|exact zL rfl) [c29_o4, zG, q]
      refine W.seq (W.chunk ?_)
      simp (disch := first|omega|exact zE rfl|exact zO|exact zL rfl) [zG, q]
      refine W.seq (W.block ?_)
      refine W.seq (W.chunk ?_)
      simp (disch := first|omega|exact zE rfl|exact zO|exact zL rfl) [c29_o5, zG, q, g1, g2, e1, e1', e2, e2', sl1, sl2, -evDraw_c, evDraw_0]
      refine W.chunk ?_
      simp (disch := first|omega|exact zE rfl|exact zO|exact zL rfl) [c29_o6, zG, q]
      refine W.chunk ?_
      simp (disch := first|omega|exact zE rfl|exact zO|exact zL rfl) [c29_o7, zG, q]
      exact kR _ _ (by simp [T.get, q])
    · rw [decide_eq_false c, if_neg (by simp), if_neg (by simp)]
      generalize M.getD i [] = u at *
      generalize L.getD i [] = w at *
      generalize ss L = sl at *
      generalize ss M = sm at *
      refine Tr.w fun s1 H1 hp _ kR => W.trim ?_
      obtain ⟨rfl, q⟩ := hp
      refine W.assoc ?_
      refine W.seq (W.chunk ?_)
      simp (disch := first|omega|exact zE rfl|exact zO|exact zL rfl) [c29_o4, zG, q]
      refine W.seq (W.chunk ?_)
      simp (disch := first|omega|exact zE rfl|exact zO|exact zL rfl) [zG, q]
      refine W.seq (W.block ?_)
      refine W.seq (W.chunk ?_)
      simp (disch := first|omega|exact zE rfl|exact zO|exact zL rfl) [c29_o5, zG, q, g1, g2, e1, e1', e2, e2', sl1, sl2, c, -evDraw_c, evDraw_0]
      refine W.chunk ?_
      simp (disch := first|omega|exact zE rfl|exact zO|exact zL rfl) [c29_o6, zG, q]
      exact kR _ _ (by simp [T.get, q])
  have fin : Tr tbl J (.trim [[], [false], [false, true]] c29_b0) (fun s h => h = H ∧ s.get [] = .slice b1 0 n v1 ∧ s.get [false] = .slice b2 0 n v2 ∧ s.get [false, true] = G n) (.exit 0) (fun s h => True) := by
    refine Tr.w fun s1 H1 hp _ kR => W.trim ?_
    obtain ⟨rfl, q⟩ := hp
    refine W.assoc ?_
    refine W.seq (W.chunk ?_)
    simp (disch := first|omega|exact zE rfl|exact zO|exact zL rfl) [c29_o4, zG, q]
    refine W.seq (W.chunk ?_)
    simp (disch := first|omega|exact zE rfl|exact zO|exact zL rfl) [zG, q]
    exact kR _ _ trivial
  exact ⟨Tr.allT (P := fun i => (fun s h => h = H ∧ s.get [] = .slice b1 0 n v1 ∧ s.get [false] = .slice b2 0 n v2 ∧ s.get [false, true] = G i)) n (fun i hi hp => by have := key i hi; rw [if_pos hp, if_pos hp] at this; exact this) fin (by simp) _ 0 (by omega),
    Tr.allF (P := fun i => (fun s h => h = H ∧ s.get [] = .slice b1 0 n v1 ∧ s.get [false] = .slice b2 0 n v2 ∧ s.get [false, true] = G i)) n (fun i hi hp => by have := key i hi; rw [if_pos hp, if_pos hp] at this; exact this) (fun i hi hp => by have := key i hi; rw [if_neg (by rw [hp]; simp), if_neg (by rw [hp]; simp)] at this; exact this) (by simp) _ 0 (by omega)⟩
theorem c29_e (J : CallF) {x z : AV} (H : Heap) (hx : x = .nils ∨ ∃ b v, x = .slice b 0 0 v) : Tr tbl J c29_l0 (fun s h => h = H ∧ s.get [] = x ∧ s.get [false] = z ∧ s.get [false, true] = G ((0 : Nat) : Int)) (.exit 0) (fun s h => True) := by
  refine Tr.out ?_ (by simp)
  rcases hx with rfl | ⟨b, v, rfl⟩
  all_goals
    refine Tr.w fun s1 H1 hp _ kR => W.trim ?_
    obtain ⟨rfl, q⟩ := hp
    refine W.assoc ?_
    refine W.seq (W.chunk ?_)
    simp (disch := first|omega|exact zE rfl|exact zO|exact zL rfl) [c29_o4, zG, q]
    refine W.seq (W.chunk ?_)
    simp (disch := first|omega|exact zE rfl|exact zO|exact zL rfl) [zG, q]
    exact kR _ _ trivial
theorem c29_ok (J : CallF) (hJ : ∀ a h, J 29 a h = none) (h : Heap) {x z : AV} (hx : RV h x (ss L)) (hz : RV h z (ss M)) (hn : L.length ≤ 1000000) (hm : M.length ≤ 1000000) : CallsTo tbl J 29 [x, z] h (.bool (decide (L = M)), [], false) := by
  refine Tr.fnv (cf := c29) (e := .ret) (s := T.set (T.set .leaf [] x) [false] z) (by decide) rfl (hJ _ _) rfl rfl rfl (by simp) ?_
  refine Tr.post (Q := (fun s h => s.get [true, false] = .bool (decide (L = M)))) (fun s h q => by simp [c29, q]) ?_
  have sx := hx.sl
  have sz := hz.sl
  rw [List.length_map] at sx sz
  have ex : ∀ b v, x = .slice b 0 L.length v → (frameOf h).get b = .cells 1 v (ss L) := fun b v e => by
    rcases hx with ⟨rfl, _⟩ | ⟨b', v', e', g⟩
    · cases e
    · rw [e, AV.slice.injEq] at e'
      obtain ⟨rfl, _, _, rfl⟩ := e'
      have := get_lt g (by simp)
      unfold frameOf
      rw [get_mk_lt _ _ _ _ this]; exact g
  have ez : ∀ b v, z = .slice b 0 M.length v → (frameOf h).get b = .cells 1 v (ss M) := fun b v e => by
    rcases hz with ⟨rfl, _⟩ | ⟨b', v', e', g⟩
    · cases e
    · rw [e, AV.slice.injEq] at e'
      obtain ⟨rfl, _, _, rfl⟩ := e'
      have := get_lt g (by simp)
      unfold frameOf
      rw [get_mk_lt _ _ _ _ this]; exact g
  clear hx hz
  by_cases hl : L.length = M.length
  · have se := sE_all hl
    by_cases h0 : L.length = 0
    · have eL : L = [] := List.length_eq_zero_iff.1 h0
      have eM : M = [] := List.length_eq_zero_iff.1 (by omega)
      rw [decide_eq_true (by rw [eL, eM])]
      rw [h0] at sx
      rw [← hl, h0] at sz
      have sx' : x = .nils ∨ ∃ b v, x = .slice b 0 0 v := sx.imp (fun q => q.1) id
      have l0 := fun H => c29_e J (z := z) H sx'
      clear ex ez se
      refine Tr.w fun s1 H1 hp _ kR => ?_
      obtain ⟨rfl, rfl⟩ := hp
      have q : True := trivial
      rcases sx with ⟨rfl, _⟩ | ⟨b, v, rfl⟩ <;> rcases sz with ⟨rfl, _⟩ | ⟨b', v', rfl⟩
      all_goals
        have l0 := l0 (frameOf h)
        refine W.seq (W.chunk ?_)
        simp (disch := first|omega|exact zE rfl|exact zO|exact zL rfl) [c29_o0, zG, q]
        refine W.assoc ?_
        refine W.seq (W.chunk ?_)
        simp (disch := first|omega|exact zE rfl|exact zO|exact zL rfl) [c29_o1, zG, q]
        refine W.seq (W.chunk ?_)
        simp (disch := first|omega|exact zE rfl|exact zO|exact zL rfl) [c29_o2, zG, q]
        refine W.assoc ?_
        refine W.seq (W.chunk ?_)
        simp (disch := first|omega|exact zE rfl|exact zO|exact zL rfl) [c29_o3, zG, q]
        refine W.seq (W.block ?_)
        refine W.use (l0) (by simp (disch := first|omega|exact zE rfl|exact zO|exact zL rfl) [zG, q]) fun s1 H1 hp => ?_
        try simp only [zW, if_true]
        refine W.seq (W.chunk ?_)
        simp (disch := first|omega|exact zE rfl|exact zO|exact zL rfl) [c29_o8, zG, q]
        refine W.ret ?_
        try simp only [zW, if_true]
        exact kR _ _ (by simp [T.get])
    · obtain ⟨b, v, rfl⟩ := sx.resolve_left (fun q => h0 q.2)
      obtain ⟨b', v', rfl⟩ := sz.resolve_left (fun q => h0 (by omega))
      have g1 := ex _ _ rfl
      have g2 := ez _ _ rfl
      have l0 := c29_l J g1 g2 rfl hl.symm hn
      rw [← se]
      rw [← hl] at sz ⊢
      clear ex ez se sx sz g1 g2
      generalize hnn : L.length = n at *
      cases c : af (sE L M) 0 n
      · have l0 := l0.2 c
        refine Tr.w fun s1 H1 hp _ kR => ?_
        obtain ⟨rfl, rfl⟩ := hp
        have q : True := trivial
        refine W.seq (W.chunk ?_)
        simp (disch := first|omega|exact zE rfl|exact zO|exact zL rfl) [c29_o0, zG, q]
        refine W.assoc ?_
        refine W.seq (W.chunk ?_)
        simp (disch := first|omega|exact zE rfl|exact zO|exact zL rfl) [c29_o1, zG, q]
        refine W.seq (W.chunk ?_)
        simp (disch := first|omega|exact zE rfl|exact zO|exact zL rfl) [c29_o2, zG, q]
        refine W.assoc ?_
        refine W.seq (W.chunk ?_)
        simp (disch := first|omega|exact zE rfl|exact zO|exact zL rfl) [c29_o3, zG, q]
        refine W.seq (W.block ?_)
        refine W.use (l0) (by simp (disch := first|omega|exact zE rfl|exact zO|exact zL rfl) [zG, q]) fun s1 H1 hp => ?_
        try simp only [zW, if_true]
        exact kR _ _ hp
      · have l0 := l0.1 c
        refine Tr.w fun s1 H1 hp _ kR => ?_
        obtain ⟨rfl, rfl⟩ := hp
        have q : True := trivial
        refine W.seq (W.chunk ?_)
        simp (disch := first|omega|exact zE rfl|exact zO|exact zL rfl) [c29_o0, zG, q]
        refine W.assoc ?_
        refine W.seq (W.chunk ?_)
        simp (disch := first|omega|exact zE rfl|exact zO|exact zL rfl) [c29_o1, zG, q]
        refine W.seq (W.chunk ?_)
        simp (disch := first|omega|exact zE rfl|exact zO|exact zL rfl) [c29_o2, zG, q]
        refine W.assoc ?_
        refine W.seq (W.chunk ?_)
        simp (disch := first|omega|exact zE rfl|exact zO|exact zL rfl) [c29_o3, zG, q]
        refine W.seq (W.block ?_)
        refine W.use (l0) (by simp (disch := first|omega|exact zE rfl|exact zO|exact zL rfl) [zG, q]) fun s1 H1 hp => ?_
        try simp only [zW, if_true]
        refine W.seq (W.chunk ?_)
        simp (disch := first|omega|exact zE rfl|exact zO|exact zL rfl) [c29_o8, zG, q]
        refine W.ret ?_
        try simp only [zW, if_true]
        exact kR _ _ (by simp [T.get])
  · rw [decide_eq_false (fun e => hl (by rw [e]))]
    generalize L.length = n at *
    generalize M.length = m at *
    clear ex ez
    refine Tr.w fun s1 H1 hp _ kR => ?_
    obtain ⟨rfl, rfl⟩ := hp
    have q : True := trivial
    rcases sx with ⟨rfl, rfl⟩ | ⟨b, v, rfl⟩ <;> rcases sz with ⟨rfl, rfl⟩ | ⟨b', v', rfl⟩
    all_goals try (exfalso; omega)
    all_goals
      refine W.seq (W.chunk ?_)
      simp (disch := first|omega|exact zE rfl|exact zO|exact zL rfl) [c29_o0, zG, q, hl]
      refine W.assoc ?_
      refine W.seq (W.chunk ?_)
      simp (disch := first|omega|exact zE rfl|exact zO|exact zL rfl) [c29_o1, zG, q, hl]
      refine W.seq (W.chunk ?_)
      simp (disch := first|omega|exact zE rfl|exact zO|exact zL rfl) [c29_o2, zG, q, hl]
      exact kR _ _ (by simp [T.get])
end
structure A29 where
  x : AV
  z : AV
  L : List (List UInt8)
  M : List (List UInt8)
def Pre29 (b : A29) (args : List AV) (h : Heap) : Prop := (RV h b.x (ss b.L) ∧ RV h b.z (ss b.M) ∧ b.L.length ≤ 1000000 ∧ b.M.length ≤ 1000000) ∧ args = [b.x, b.z]
def Post29 (b : A29) (h : Heap) (v : AV) (own : List AObj) : Prop := v = .bool (decide (b.L = b.M)) ∧ own = []
noncomputable def T27 : CallF := addK tbl T26 29 Pre29 Post29
theorem t27 : Sound Go.Proofs.Try.prog T27 := Sound.addK follows ok t26 (by decide) _ _
abbrev K29 (J : CallF) : Prop := ∀ (h : Heap) (b : A29), RV h b.x (ss b.L) → RV h b.z (ss b.M) → b.L.length ≤ 1000000 → b.M.length ≤ 1000000 → J 29 [b.x, b.z] h = some (.bool (decide (b.L = b.M)), [], false)
theorem k29 : K29 T27 := fun h b h1 h2 h3 h4 => by
  obtain ⟨v, own, e, rfl, rfl⟩ := addK_some (Pre := Pre29) (Post := Post29) (fun b args h hp => by
    obtain ⟨⟨h1, h2, h3, h4⟩, rfl⟩ := hp
    exact ⟨_, _, c29_ok T26 (fun _ _ => by simp (disch := decide) only [T1, T2, T3, T4, T5, T6, T7, T8, T9, T10, T11, T12, T13, T14, T15, T16, T17, T18, T19, T20, T21, T22, T23, T24, T25, T26, addI_ne, addX_ne, addV_ne, addK_ne]; rfl) h h1 h2 h3 h4, rfl, rfl⟩) b _ h ⟨⟨h1, h2, h3, h4⟩, rfl⟩
  exact e
section
variable {A B : List (List Int)}
theorem c22_loop (J : CallF) (k64 : K64 J) {H : Heap} {bx bz : Nat} {rx rz : List AV} {n : Nat} (gx : H.get bx = .cells 1 n rx) (gz : H.get bz = .cells 1 n rz) (lx : rx.length = n) (lz : rz.length = n) (hn : n ≤ 1000000) (hA : A.length = n) (hB : B.length = n) (hs : ∀ l ∈ A, l.length ≤ 1000000)
    (hx : ∀ (i : Nat) r, rx[i]? = some r → ∃ l, A[i]? = some l ∧ listOf H r = some l) (hz : ∀ (i : Nat) r, rz[i]? = some r → ∃ l, B[i]? = some l ∧ listOf H r = some l) : ∀ d i, i + d = n →
    (A.drop i = B.drop i → Tr tbl J c22_l0 (fun s h => h = H ∧ s.get [] = .slice bx 0 n n ∧ s.get [false] = .slice bz 0 n n ∧ s.get [false, true] = G i) (.exit 0) (fun _ _ => True)) ∧
    (A.drop i ≠ B.drop i → Tr tbl J c22_l0 (fun s h => h = H ∧ s.get [] = .slice bx 0 n n ∧ s.get [false] = .slice bz 0 n n ∧ s.get [false, true] = G i) .ret (fun s h => s.get [true, false] = .bool false)) := by
  intro d
  induction d with
  | zero =>
    intro i hi
    obtain rfl : i = n := by omega
    refine ⟨fun _ => Tr.out ?_ (by simp), fun c => absurd (by rw [List.drop_of_length_le (by omega), List.drop_of_length_le (by omega)]) c⟩
    refine Tr.w fun s1 H1 hp _ kR => W.trim ?_
    obtain ⟨rfl, q⟩ := hp
    refine W.assoc ?_
    refine W.seq (W.chunk ?_)
    simp (disch := first|omega|exact zE rfl|exact zO|exact zL rfl) [c22_o4, zG, q]
    refine W.seq (W.chunk ?_)
    simp (disch := first|omega|exact zE rfl|exact zO|exact zL rfl) [zG, q]
    exact kR _ _ trivial
  | succ d ih =>
    intro i hi
    obtain ⟨ih1, ih2⟩ := ih (i + 1) (by omega)
    have e1 : rx[i]? = some rx[i] := List.getElem?_eq_getElem (by omega)
    have e2 : rz[i]? = some rz[i] := List.getElem?_eq_getElem (by omega)
    obtain ⟨la, a1, a2⟩ := hx i _ e1
    obtain ⟨lb, b1, b2⟩ := hz i _ e2
    have k := k64 H _ _ la lb a2 b2 (hs la (List.mem_of_getElem? a1))
    have da : A.drop i = la :: A.drop (i + 1) := by rw [List.drop_eq_getElem_cons (by omega)]; congr 1; rw [List.getElem?_eq_getElem (by omega)] at a1; exact Option.some.inj a1
    have db : B.drop i = lb :: B.drop (i + 1) := by rw [List.drop_eq_getElem_cons (by omega)]; congr 1; rw [List.getElem?_eq_getElem (by omega)] at b1; exact Option.some.inj b1
    rw [da, db]
    generalize rx[i] = ra at *
    generalize rz[i] = rb at *
    have e1' := getI e1
    have e2' := getI e2
    clear hx hz ih
    by_cases c : la = lb
    · rw [decide_eq_true c] at k
      have step : Tr tbl J (.trim [[], [false], [false, true]] c22_b0) (fun s h => h = H ∧ s.get [] = .slice bx 0 n n ∧ s.get [false] = .slice bz 0 n n ∧ s.get [false, true] = G i) .normal (fun s h => h = H ∧ s.get [] = .slice bx 0 n n ∧ s.get [false] = .slice bz 0 n n ∧ s.get [false, true] = G ((i + 1 : Nat) : Int)) := by
        refine Tr.w fun s1 H1 hp _ kR => W.trim ?_
        obtain ⟨rfl, q⟩ := hp
        refine W.assoc ?_
        refine W.seq (W.chunk ?_)
        simp (disch := first|omega|exact zE rfl|exact zO|exact zL rfl) [c22_o4, zG, q]
        refine W.seq (W.chunk ?_)
        simp (disch := first|omega|exact zE rfl|exact zO|exact zL rfl) [zG, q]
        refine W.seq (W.block ?_)
        refine W.seq (W.chunk ?_)
        simp (disch := first|omega|exact zE rfl|exact zO|exact zL rfl) [c22_o5, zG, q, gx, gz, e1, e1', e2, e2', k, -evDraw_c, evDraw_0]
        refine W.chunk ?_
        simp (disch := first|omega|exact zE rfl|exact zO|exact zL rfl) [c22_o6, zG, q]
        refine W.chunk ?_
        simp (disch := first|omega|exact zE rfl|exact zO|exact zL rfl) [c22_o7, zG, q]
        exact kR _ _ (by simp [T.get, q])
      subst c
      exact ⟨fun q => Tr.next step (ih1 (List.cons.inj q).2), fun q => Tr.next step (ih2 fun r => q (by rw [r]))⟩
    · rw [decide_eq_false c] at k
      refine ⟨fun q => absurd (List.cons.inj q).1 c, fun _ => Tr.out ?_ (by simp)⟩
      refine Tr.w fun s1 H1 hp _ kR => W.trim ?_
      obtain ⟨rfl, q⟩ := hp
      refine W.assoc ?_
      refine W.seq (W.chunk ?_)
      simp (disch := first|omega|exact zE rfl|exact zO|exact zL rfl) [c22_o4, zG, q]
      refine W.seq (W.chunk ?_)
      simp (disch := first|omega|exact zE rfl|exact zO|exact zL rfl) [zG, q]
      refine W.seq (W.block ?_)
      refine W.seq (W.chunk ?_)
      simp (disch := first|omega|exact zE rfl|exact zO|exact zL rfl) [c22_o5, zG, q, gx, gz, e1, e1', e2, e2', k, -evDraw_c, evDraw_0]
      refine W.chunk ?_
      simp (disch := first|omega|exact zE rfl|exact zO|exact zL rfl) [c22_o6, zG, q]
      exact kR _ _ (by simp [T.get, q])
theorem c22_l00 (J : CallF) {H : Heap} {y z : AV} (hy : y = .nils ∨ ∃ b, y = .slice b 0 0 0) : Tr tbl J c22_l0 (fun s h => h = H ∧ s.get [] = y ∧ s.get [false] = z ∧ s.get [false, true] = G 0) (.exit 0) (fun _ _ => True) := by
  refine Tr.out ?_ (by simp)
  rcases hy with rfl | ⟨b, rfl⟩
  all_goals
    refine Tr.w fun s1 H1 hp _ kR => W.trim ?_
    obtain ⟨rfl, q⟩ := hp
    refine W.assoc ?_
    refine W.seq (W.chunk ?_)
    simp (disch := first|omega|exact zE rfl|exact zO|exact zL rfl) [c22_o4, zG, q]
    refine W.seq (W.chunk ?_)
    simp (disch := first|omega|exact zE rfl|exact zO|exact zL rfl) [zG, q]
    exact kR _ _ trivial
theorem c22_ok (J : CallF) (k64 : K64 J) (hJ : ∀ a h, J 22 a h = none) (h : Heap) {x z : AV} (hx : LT h x A) (hz : LT h z B) (hA : A.length ≤ 1000000) (hB : B.length ≤ 1000000) (hs : ∀ l ∈ A, l.length ≤ 1000000) : CallsTo tbl J 22 [x, z] h (.bool (decide (A = B)), [], false) := by
  refine Tr.fnv (cf := c22) (e := .ret) (s := T.set (T.set .leaf [] x) [false] z) (by decide) rfl (hJ _ _) rfl rfl rfl (by simp) ?_
  obtain ⟨rx, vx, lx, hxr⟩ := hx.lo []
  obtain ⟨rz, vz, lz, hzr⟩ := hz.lo []
  have fe : (⟨h.get, h.size, []⟩ : Heap) = frameOf h := rfl
  rw [fe] at vx vz hxr hzr
  refine Tr.w fun s1 H1 hp R kR => ?_
  obtain ⟨rfl, rfl⟩ := hp
  have q : True := trivial
  have fin : ∀ b : Bool, decide (A = B) = b → ∀ s h', s.get [true, false] = .bool b → R .ret s h' := fun b e s h' a => kR _ _ ⟨[.bool b], by simp [c22, evRess, evRes, a], by rw [e]; rfl⟩
  clear kR
  rw [lx] at vx
  rw [lz] at vz
  by_cases hl : A.length = B.length
  · by_cases h0 : A.length = 0
    · have hA0 : A = [] := List.length_eq_zero_iff.1 h0
      have hB0 : B = [] := List.length_eq_zero_iff.1 (by omega)
      subst hA0 hB0
      have fin := fin true rfl
      have sx : x = .nils ∨ ∃ b, x = .slice b 0 0 0 := by
        rcases vx with ⟨e, _⟩ | ⟨b, e, _⟩
        · exact .inl e
        · exact .inr ⟨b, e⟩
      have sz : z = .nils ∨ ∃ b, z = .slice b 0 0 0 := by
        rcases vz with ⟨e, _⟩ | ⟨b, e, _⟩
        · exact .inl e
        · exact .inr ⟨b, e⟩
      have l0 := c22_l00 (z := z) (H := frameOf h) J sx
      clear vx vz hxr hzr hx hz
      rcases sx with rfl | ⟨b, rfl⟩ <;> rcases sz with rfl | ⟨b', rfl⟩
      all_goals
        refine W.seq (W.chunk ?_)
        simp (disch := first|omega|exact zE rfl|exact zO|exact zL rfl) [c22_o0, zG, q]
        refine W.assoc ?_
        refine W.seq (W.chunk ?_)
        simp (disch := first|omega|exact zE rfl|exact zO|exact zL rfl) [c22_o1, zG, q]
        refine W.seq (W.chunk ?_)
        simp (disch := first|omega|exact zE rfl|exact zO|exact zL rfl) [c22_o2, zG, q]
        refine W.assoc ?_
        refine W.seq (W.chunk ?_)
        simp (disch := first|omega|exact zE rfl|exact zO|exact zL rfl) [c22_o3, zG, q]
        refine W.seq (W.block ?_)
        refine W.use (l0) (by simp (disch := first|omega|exact zE rfl|exact zO|exact zL rfl) [zG, q]) fun s1 H1 hp => ?_
        try simp only [zW, if_true]
        refine W.seq (W.chunk ?_)
        simp (disch := first|omega|exact zE rfl|exact zO|exact zL rfl) [c22_o8, zG, q]
        refine W.ret ?_
        try simp only [zW, if_true]
        exact fin _ _ (by simp [T.get])
    · rcases vx with ⟨rfl, e⟩ | ⟨bx, rfl, gx⟩
      · rw [e] at lx; simp at lx; omega
      rcases vz with ⟨rfl, e⟩ | ⟨bz, rfl, gz⟩
      · rw [e] at lz; simp at lz; omega
      rw [← hl] at lz gz ⊢
      obtain ⟨l1, l2⟩ := c22_loop (A := A) (B := B) J k64 gx gz lx lz hA rfl hl.symm hs hxr hzr A.length 0 (by omega)
      rw [List.drop_zero, List.drop_zero] at l1 l2
      clear hxr hzr hx hz hs
      generalize A.length = n at *
      by_cases c : A = B
      · have l1 := l1 c
        have fin := fin true (decide_eq_true c)
        refine W.seq (W.chunk ?_)
        simp (disch := first|omega|exact zE rfl|exact zO|exact zL rfl) [c22_o0, zG, q]
        refine W.assoc ?_
        refine W.seq (W.chunk ?_)
        simp (disch := first|omega|exact zE rfl|exact zO|exact zL rfl) [c22_o1, zG, q]
        refine W.seq (W.chunk ?_)
        simp (disch := first|omega|exact zE rfl|exact zO|exact zL rfl) [c22_o2, zG, q]
        refine W.assoc ?_
        refine W.seq (W.chunk ?_)
        simp (disch := first|omega|exact zE rfl|exact zO|exact zL rfl) [c22_o3, zG, q]
        refine W.seq (W.block ?_)
        refine W.use (l1) (by simp (disch := first|omega|exact zE rfl|exact zO|exact zL rfl) [zG, q]) fun s1 H1 hp => ?_
        try simp only [zW, if_true]
        refine W.seq (W.chunk ?_)
        simp (disch := first|omega|exact zE rfl|exact zO|exact zL rfl) [c22_o8, zG, q]
        refine W.ret ?_
        try simp only [zW, if_true]
        exact fin _ _ (by simp [T.get])
      · have l2 := l2 c
        have fin := fin false (decide_eq_false c)
        refine W.seq (W.chunk ?_)
        simp (disch := first|omega|exact zE rfl|exact zO|exact zL rfl) [c22_o0, zG, q]
        refine W.assoc ?_
        refine W.seq (W.chunk ?_)
        simp (disch := first|omega|exact zE rfl|exact zO|exact zL rfl) [c22_o1, zG, q]
        refine W.seq (W.chunk ?_)
        simp (disch := first|omega|exact zE rfl|exact zO|exact zL rfl) [c22_o2, zG, q]
        refine W.assoc ?_
        refine W.seq (W.chunk ?_)
        simp (disch := first|omega|exact zE rfl|exact zO|exact zL rfl) [c22_o3, zG, q]
        refine W.seq (W.block ?_)
        refine W.use (l2) (by simp (disch := first|omega|exact zE rfl|exact zO|exact zL rfl) [zG, q]) fun s1 H1 hp => ?_
        try simp only [zW, if_true]
        exact fin _ _ hp
  · have fin := fin false (decide_eq_false fun e => hl (by rw [e]))
    clear hxr hzr hx hz hs
    generalize A.length = n at *
    generalize B.length = m at *
    have sx : (x = .nils ∧ n = 0) ∨ ∃ b, x = .slice b 0 n n := by
      rcases vx with ⟨e, e2⟩ | ⟨b, e, _⟩
      · exact .inl ⟨e, by rw [← lx, e2]; rfl⟩
      · exact .inr ⟨b, e⟩
    have sz : (z = .nils ∧ m = 0) ∨ ∃ b, z = .slice b 0 m m := by
      rcases vz with ⟨e, e2⟩ | ⟨b, e, _⟩
      · exact .inl ⟨e, by rw [← lz, e2]; rfl⟩
      · exact .inr ⟨b, e⟩
    clear vx vz
    rcases sx with ⟨rfl, rfl⟩ | ⟨b, rfl⟩ <;> rcases sz with ⟨rfl, rfl⟩ | ⟨b', rfl⟩
    all_goals try (exfalso; omega)
    all_goals
      refine W.seq (W.chunk ?_)
      simp (disch := first|omega|exact zE rfl|exact zO|exact zL rfl) [c22_o0, zG, q]
      refine W.assoc ?_
      refine W.seq (W.chunk ?_)
      simp (disch := first|omega|exact zE rfl|exact zO|exact zL rfl) [c22_o1, zG, q]
      refine W.seq (W.chunk ?_)
      simp (disch := first|omega|exact zE rfl|exact zO|exact zL rfl) [c22_o2, zG, q]
      exact fin _ _ (by simp [T.get])
end
structure A47 where
  A : List (List Int)
  B : List (List Int)
  x : AV
  z : AV
def Ok47 (a : A47) (h : Heap) : Prop := LT h a.x a.A ∧ LT h a.z a.B ∧ a.A.length ≤ 1000000 ∧ a.B.length ≤ 1000000 ∧ ∀ l ∈ a.A, l.length ≤ 1000000
def Pre22 (a : A47) (args : List AV) (h : Heap) : Prop := Ok47 a h ∧ args = [a.x, a.z]
def Post22 (a : A47) (h : Heap) (v : AV) (own : List AObj) : Prop := v = .bool (decide (a.A = a.B)) ∧ own = []
noncomputable def T28 : CallF := addK tbl T27 22 Pre22 Post22
theorem t28 : Sound Go.Proofs.Try.prog T28 := Sound.addK follows ok t27 (by decide) _ _
abbrev K22 (J : CallF) : Prop := ∀ (h : Heap) (a : A47), Ok47 a h → J 22 [a.x, a.z] h = some (.bool (decide (a.A = a.B)), [], false)
theorem k64_27 : K64 T27 := fun h x y a b hx hy hn => by
  rw [show T27 64 [x, y] h = T26 64 [x, y] h from by simp (disch := decide) only [T27, addK_ne]]
  exact k64 h x y a b hx hy hn
theorem k22 : K22 T28 := fun h a ha => by
  obtain ⟨v, own, e, rfl, rfl⟩ := addK_some (Pre := Pre22) (Post := Post22) (fun a args h hp => by
    obtain ⟨⟨h1, h2, h3, h4, h5⟩, rfl⟩ := hp
    exact ⟨_, _, c22_ok T27 k64_27 (fun _ _ => by simp (disch := decide) only [T1, T2, T3, T4, T5, T6, T7, T8, T9, T10, T11, T12, T13, T14, T15, T16, T17, T18, T19, T20, T21, T22, T23, T24, T25, T26, T27, addI_ne, addX_ne, addV_ne, addK_ne]; rfl) h h1 h2 h3 h4 h5, rfl, rfl⟩) a _ h ⟨ha, rfl⟩
  exact e
theorem c92_nil (J : CallF) (hJ : ∀ a h, J 92 a h = none) (h : Heap) {x : AV} (hx : x = .nils ∨ x = .slice0) : CallsTo tbl J 92 [x] h (.nils, [], false) := by
  refine Tr.fnv (cf := c92) (e := .ret) (s := T.set .leaf [] x) (by decide) rfl (hJ _ _) rfl rfl rfl (by simp) ?_
  refine Tr.post (Q := (fun s h => s.get [true] = .nils)) (fun s h q => by simp [c92, q]) ?_
  have t : Tr tbl J ((.seq c92_o0 (.seq c92_o1 (.seq c92_o2 .ret)))) (fun s h' => s = T.set .leaf [] x ∧ h' = frameOf h) .ret (fun s h => s.get [true] = .nils) := Tr.region fun s h hp => by
    obtain ⟨rfl, rfl⟩ := hp
    rcases hx with rfl | rfl <;> simp (disch := first|omega|exact zE rfl|exact zO|exact zL rfl) [c92_o0, c92_o1, c92_o2, size_mk, get_mk_lt, get_mk_ge, frameOf, Eff.app, Heap.setOwn, slSlA, bounds, elems, rdOf, appA]
  exact t
theorem c92_nil2 (J : CallF) (hJ : ∀ a h, J 92 a h = none) (h : Heap) {b v : Nat} (hb : h.get b = .cells 1 v []) : CallsTo tbl J 92 [.slice b 0 0 v] h (.nils, [], false) := by
  have hlt := get_lt hb (by simp)
  refine Tr.fnv (cf := c92) (e := .ret) (s := T.set .leaf [] (.slice b 0 0 v)) (by decide) rfl (hJ _ _) rfl rfl rfl (by simp) ?_
  refine Tr.post (Q := (fun s h => s.get [true] = .nils)) (fun s h q => by simp [c92, q]) ?_
  have t : Tr tbl J ((.seq c92_o0 (.seq c92_o1 (.seq c92_o2 .ret)))) (fun s h' => s = T.set .leaf [] (.slice b 0 0 v) ∧ h' = frameOf h) .ret (fun s h => s.get [true] = .nils) := Tr.region fun s h hp => by
    obtain ⟨rfl, rfl⟩ := hp
    simp (disch := first|omega|exact zE rfl|exact zO|exact zL rfl) [c92_o0, c92_o1, c92_o2, frameOf, size_mk, get_mk_lt, get_mk_ge, frameOf, Eff.app, Heap.setOwn, slSlA, bounds, elems, rdOf, appA, hb]
  exact t
theorem c92_ok (J : CallF) (hJ : ∀ a h, J 92 a h = none) (h : Heap) {b v : Nat} {A : List Int} (hb : h.get b = .cells 1 v (gs A)) (hA : A ≠ []) :
    CallsTo tbl J 92 [.slice b 0 A.length v] h (.slice h.size 0 (A.take 6).length (A.take 6).length, [.cells 1 (A.take 6).length (gs (A.take 6))], false) := by
  have hlt := get_lt hb (by simp)
  have hl : (A.take 6).length = min 6 A.length := List.length_take
  have hp : 0 < A.length := List.length_pos_iff.2 hA
  obtain ⟨m, hm⟩ : ∃ m, (A.take 6).length = m := ⟨_, rfl⟩
  rw [hm] at hl ⊢
  have e1 : (gs A).take m = gs (A.take 6) := by
    rw [← List.map_take]
    congr 1
    by_cases hA : A.length ≤ 6
    · rw [List.take_of_length_le (by omega), List.take_of_length_le hA]
    · rw [show m = 6 by omega]
  have e2 : (gs (A.take 6)).length = m := by simp; omega
  obtain ⟨L, hL⟩ : ∃ L, A.length = L := ⟨_, rfl⟩
  rw [hL] at hl hp ⊢
  have e3 : (if (6 : Int) < (L : Int) then (6 : Int) else (L : Int)) = m := by split <;> omega
  have e4 : ¬ (0 = L ∧ 0 < L) := by omega
  generalize gs (A.take 6) = cs at *
  generalize gs A = ca at *
  refine Tr.fnh (cf := c92) (e := .ret) (s := T.set .leaf [] (.slice b 0 L v)) (by decide) rfl (hJ _ _) rfl rfl rfl (by simp) ?_
  refine Tr.post (Q := (fun s h' => s.get [true] = .slice h.size 0 m m ∧ h' = ⟨h.get, h.size, [.cells 1 m cs]⟩)) (fun s h' q => by
    obtain ⟨q1, rfl⟩ := q
    simp [c92, q1]) ?_
  have t : Tr tbl J ((.seq c92_o0 (.seq c92_o1 (.seq c92_o2 .ret)))) (fun s h' => s = T.set .leaf [] (.slice b 0 L v) ∧ h' = frameOf h) .ret (fun s h' => s.get [true] = .slice h.size 0 m m ∧ h' = ⟨h.get, h.size, [.cells 1 m cs]⟩) := Tr.region fun s h hp => by
    obtain ⟨rfl, rfl⟩ := hp
    simp (disch := first|omega|exact zE rfl|exact zO|exact zL rfl) [c92_o0, c92_o1, c92_o2, frameOf, size_mk, get_mk_lt, get_mk_ge, frameOf, Eff.app, Heap.setOwn, slSlA, bounds, elems, rdOf, appA, hb, e1, e2, e3, e4]
  exact t
def spec92 : SpecF := fun args h => match args with
  | [.nils] => some (.nils, [], false)
  | [.slice0] => some (.nils, [], false)
  | [.slice b o len v] => match listOf h (.slice b o len v) with
    | some A => if A = [] then some (.nils, [], false) else some (.slice h.size 0 (A.take 6).length (A.take 6).length, [.cells 1 (A.take 6).length (gs (A.take 6))], false)
    | none => none
  | _ => none
theorem spec92_ok (J : CallF) (hJ : ∀ a h, J 92 a h = none) (args : List AV) (h : Heap) (x : AV × List AObj × Bool) (e : spec92 args h = some x) : CallsTo tbl J 92 args h x := by
  unfold spec92 at e
  split at e
  · simp only [Option.some.injEq] at e; subst e; exact c92_nil J hJ h (.inl rfl)
  · simp only [Option.some.injEq] at e; subst e; exact c92_nil J hJ h (.inr rfl)
  · split at e
    · rename_i hl
      split at e
      · rename_i hA
        subst hA
        simp only [Option.some.injEq] at e; subst e
        rcases listOf_some hl with ⟨h1, _⟩ | ⟨b', v', h1, g⟩
        · cases h1
        · cases h1; exact c92_nil2 J hJ h g
      · rename_i hA
        simp only [Option.some.injEq] at e; subst e
        rcases listOf_some hl with ⟨h1, _⟩ | ⟨b', v', h1, g⟩
        · cases h1
        · cases h1; exact c92_ok J hJ h g hA
    · cases e
  · cases e
def cpV (S : Nat) (A : List Int) : AV := if A = [] then .nils else .slice S 0 (A.take 6).length (A.take 6).length
def cpO (A : List Int) : List AObj := if A = [] then [] else [.cells 1 (A.take 6).length (gs (A.take 6))]
theorem s92e {h : Heap} {x : AV} {A : List Int} (hx : LR h x A) : spec92 [x] h = some (cpV h.size A, cpO A, false) := by
  rcases hx.cases with ⟨rfl, rfl⟩ | ⟨rfl, rfl⟩ | ⟨b, v, rfl, g⟩
  · rfl
  · rfl
  · have hl : listOf h (.slice b 0 A.length v) = some A := listOf_cells g rfl
    unfold cpV cpO
    by_cases hA : A = []
    · subst hA
      have hl' : listOf h (.slice b 0 0 v) = some [] := hl
      simp only [List.length_nil, spec92, hl', if_true]
    · simp only [spec92, hl, if_neg hA]
theorem cp_list (h : Heap) (A : List Int) : listOf (h.plus (cpO A)) (cpV h.size A) = some (A.take 6) := by
  unfold cpO cpV
  by_cases hA : A = []
  · subst hA; rfl
  · rw [if_neg hA, if_neg hA]; exact listOf_cells (plus_at0 _ _ _ _ rfl) rfl
theorem cp_blk {S : Nat} {A : List Int} {q : Nat} (e : blk (cpV S A) = some q) : q = S := by
  unfold cpV at e
  split at e
  · cases e
  · cases e; rfl
noncomputable def T29 : CallF := addI T28 92 spec92
theorem t29 : Sound Go.Proofs.Try.prog T29 := Sound.add follows ok t28 (by decide) (fun args h x e => spec92_ok _ (fun _ _ => by simp (disch := decide) only [T1, T2, T3, T4, T5, T6, T7, T8, T9, T10, T11, T12, T13, T14, T15, T16, T17, T18, T19, T20, T21, T22, T23, T24, T25, T26, T27, T28, addI_ne, addX_ne, addV_ne, addK_ne]; rfl) args h x e)
abbrev K92 (J : CallF) : Prop := ∀ (h : Heap) (x : AV) (A : List Int), LR h x A → J 92 [x] h = some (cpV h.size A, cpO A, false)
theorem k92 : K92 T29 := fun h x A hx => by
  have : T29 92 [x] h = spec92 [x] h := by simp only [T29, addI, if_true]
  rw [this]; exact s92e hx
def cutM (M : List (List Int)) : List (List Int) := (M.take 7).map (·.take 6)
section
variable {M : List (List Int)} {y : AV}
abbrev L66 : List Path := [[], [false, false], [true, false]]
theorem c66_o4_ok (J : CallF) (H : Heap) {x x1 : AV} {i n b v : Nat} {cs : List AV} {l : List Int} {e : Eff} {h2 : Heap} (k92 : K92 J) (g : H.get b = .cells 1 v cs) {r : AV} (er : cs[i]? = some r) (hr : LR H r l) (hi : i < n)
    (q1 : appA ((H.plus (cpO l)).plus [.cells 1 1 [cpV H.size l]]) H.size none 1 24 1 [cpV H.size l] x = some (x1, e)) (q2 : Eff.app e ((H.plus (cpO l)).plus [.cells 1 1 [cpV H.size l]]) = some h2) (q3 : AV.cells x1 = some [x1]) :
    Tr tbl J c66_o4 (fun s h => s.get [] = .slice b 0 n v ∧ s.get [false, false] = x ∧ s.get [true, false] = G i ∧ h = H) .normal (fun s h => s.get [] = .slice b 0 n v ∧ s.get [false, false] = x1 ∧ s.get [true, false] = G i ∧ h = h2) := by
  have k := k92 H r l hr
  have hw : cpV H.size l = .nils ∨ ∃ q m, cpV H.size l = .slice q 0 m m := by
    unfold cpV; split
    · exact .inl rfl
    · exact .inr ⟨_, _, rfl⟩
  have er' : ∀ h : i < cs.length, cs[i] = r := fun h => by rw [List.getElem?_eq_getElem h] at er; exact Option.some.inj er
  generalize cpV H.size l = w at *
  generalize cpO l = own at *
  have f1 : ((H.plus own).plus [.cells 1 1 [w]]).get (H.plus own).size = .cells 1 1 [w] := plus_at0 _ _ _ _ rfl
  have t : Tr tbl J (c66_o4) (fun s h => s.get [] = .slice b 0 n v ∧ s.get [false, false] = x ∧ s.get [true, false] = G i ∧ h = H) .normal (fun s h => s.get [] = .slice b 0 n v ∧ s.get [false, false] = x1 ∧ s.get [true, false] = G i ∧ h = h2) := Tr.region fun s h hp => by
    obtain ⟨g0, g1, g2, rfl⟩ := hp
    rcases hw with rfl | ⟨q, m, rfl⟩ <;> simp (disch := first|omega|exact zE rfl|exact zO|exact zL rfl) [c66_o4, zG, g0, g1, g2, g, er, er', k, app_if, app_if', elems, rdOf, f1, q1, q2, q3]
  exact t
theorem c66_step (J : CallF) (k92 : K92 J) {H0 H : Heap} {x : AV} {i : Nat} (hy : MR H0 y M) (hi : i < M.length) (h9 : i ≤ 6) (t : TG H0 H x ((M.take i).map (·.take 6))) :
    Tr tbl J (.trim L66 c66_b0) (fun s h => s.get [] = y ∧ s.get [false, false] = x ∧ s.get [true, false] = G i ∧ h = H) .normal (fun s h => ∃ x1, s.get [] = y ∧ s.get [false, false] = x1 ∧ s.get [true, false] = G ((i + 1 : Nat) : Int) ∧ TG H0 h x1 ((M.take (i + 1)).map (·.take 6))) := by
  have hyH := hy.kp t.k
  obtain ⟨b, v, cs, r, rfl, g, er, hr⟩ := hyH.row hi
  obtain ⟨l, hl⟩ : ∃ l, M.getD i [] = l := ⟨_, rfl⟩
  rw [hl] at hr
  have hM : M.take (i + 1) = M.take i ++ [l] := by
    rw [List.take_add_one, ← hl, List.getD_eq_getElem?_getD, List.getElem?_eq_getElem hi]; rfl
  have ko : Kp (fun _ => False) H (H.plus (cpO l)) := Kp.plus _ _
  obtain ⟨x1, e, h2, q1, q2, q3, q4⟩ := (t.kp ko).app H.size (cp_list H l) (fun q hq => ⟨fun e => by
      obtain rfl := cp_blk hq
      obtain ⟨cs', lv, _⟩ := t.r
      have := lv.lt e; omega, by
      obtain rfl := cp_blk hq
      exact t.k.size⟩) (by simp; omega)
  have t4 := c66_o4_ok J H k92 g er hr hi q1 q2 q4
  have t3 : Tr tbl J ((.trim L66 (.seq c66_o3 (.cond (.s [true, false, true]) .skip (.exit 0))))) (fun s h => s.get [] = .slice b 0 M.length v ∧ s.get [false, false] = x ∧ s.get [true, false] = G i ∧ h = H) .normal (fun s h => s.get [] = .slice b 0 M.length v ∧ s.get [false, false] = x ∧ s.get [true, false] = G i ∧ h = H) := Tr.region fun s h hp => by
    obtain ⟨g0, g1, g2, rfl⟩ := hp
    simp (disch := first|omega|exact zE rfl|exact zO|exact zL rfl) [c66_o3, zG, g0, g1, g2]
  have t5 : Tr tbl J (c66_o5) (fun s h => s.get [] = .slice b 0 M.length v ∧ s.get [false, false] = x1 ∧ s.get [true, false] = G i ∧ h = h2) .normal (fun s h => s.get [] = .slice b 0 M.length v ∧ s.get [false, false] = x1 ∧ s.get [true, false] = G ((i + 1 : Nat) : Int) ∧ h = h2) := Tr.region fun s h hp => by
    obtain ⟨g0, g1, g2, rfl⟩ := hp
    simp (disch := first|omega|exact zE rfl|exact zO|exact zL rfl) [c66_o5, zG, g0, g1, g2]
  refine Tr.post (fun s h q => ?_) (Tr.trim_seq t3 (Tr.seq (Tr.block_out t4 (by simp)) t5))
  obtain ⟨a1, a2, a3, rfl⟩ := q
  refine ⟨x1, a1, a2, a3, ?_⟩
  rw [hM, List.map_append]
  exact q3
theorem c66_ok (J : CallF) (k92 : K92 J) (hJ : ∀ a h, J 66 a h = none) (h : Heap) (hy : MR h y M) : ∃ v own, CallsTo tbl J 66 [y] h (v, own, false) ∧ TG h (h.plus own) v (cutM M) := by
  refine Tr.fny (cf := c66) (e := .ret) (s := T.set .leaf [] y) (by decide) rfl (hJ _ _) rfl rfl (by simp) ?_
  have hy0 : MR (frameOf h) y M := hy.lo []
  have hs := hy.sl
  have t0 : Tr tbl J ((.seq c66_o0 c66_o1)) (fun s h' => s = T.set .leaf [] y ∧ h' = frameOf h) .normal (fun s h' => s.get [] = y ∧ s.get [false, false] = .nils ∧ h' = frameOf h) := Tr.region fun s h hp => by
    obtain ⟨rfl, rfl⟩ := hp
    simp (disch := first|omega|exact zE rfl|exact zO|exact zL rfl) [c66_o0, c66_o1, zG]
  have t00 : Tr tbl J (c66_o2) (fun s h' => s.get [] = y ∧ s.get [false, false] = .nils ∧ h' = frameOf h) .normal (fun s h' => s.get [] = y ∧ s.get [false, false] = .nils ∧ s.get [true, false] = G ((0 : Nat) : Int) ∧ h' = frameOf h) := Tr.region fun s h hp => by
    obtain ⟨g0, g1, rfl⟩ := hp
    simp (disch := first|omega|exact zE rfl|exact zO|exact zL rfl) [c66_o2, zG, g0, g1]
  obtain ⟨N, hN⟩ : ∃ N, min M.length 7 = N := ⟨_, rfl⟩
  have hcut : (M.take N).map (·.take 6) = cutM M := by
    unfold cutM
    rw [← hN]
    by_cases c : M.length ≤ 7
    · rw [Nat.min_eq_left c, List.take_of_length_le (by omega), List.take_of_length_le (by omega)]
    · rw [Nat.min_eq_right (by omega)]
  have tl := Tr.rounds (P := fun i s h' => ∃ x, s.get [] = y ∧ s.get [false, false] = x ∧ s.get [true, false] = G (i : Nat) ∧ TG (frameOf h) h' x ((M.take i).map (·.take 6))) (M := N) (tbl := tbl) (I := J) (live := L66) (c := c66_b0) (e := .exit 0)
    (Q := fun s h' => ∃ x, s.get [false, false] = x ∧ TG (frameOf h) h' x (cutM M))
    (fun i hi => Tr.exx fun x => Tr.fix (F := fun H => TG (frameOf h) H x ((M.take i).map (·.take 6))) (P' := fun H s h' => s.get [] = y ∧ s.get [false, false] = x ∧ s.get [true, false] = G (i : Nat) ∧ h' = H)
      (fun H tg => c66_step J k92 hy0 (by omega) (by omega) tg) (fun s h' q => ⟨q.2.2.2, q.1, q.2.1, q.2.2.1, rfl⟩))
    (Tr.exx fun x => Tr.fix (F := fun H => TG (frameOf h) H x ((M.take N).map (·.take 6))) (P' := fun H s h' => s.get [] = y ∧ s.get [false, false] = x ∧ s.get [true, false] = G (N : Nat) ∧ h' = H)
      (fun H tg => by
        rw [hcut] at tg
        have t : Tr tbl J ((.trim L66 c66_b0)) (fun s h' => s.get [] = y ∧ s.get [false, false] = x ∧ s.get [true, false] = G (N : Nat) ∧ h' = H) (.exit 0) (fun s h' => s.get [false, false] = x ∧ h' = H) := Tr.region fun s h hp => by
          obtain ⟨g0, g1, g2, rfl⟩ := hp
          obtain ⟨n, hn⟩ : ∃ n, M.length = n := ⟨_, rfl⟩
          rw [hn] at hs hN
          by_cases c : n ≤ 6
          · have hNn : N = n := by omega
            subst hNn
            rcases hs with ⟨rfl, rfl⟩ | ⟨rfl, rfl⟩ | ⟨b, v, rfl⟩ <;> simp (disch := first|omega|exact zE rfl|exact zO|exact zL rfl) [c66_b0, c66_o3, zG, g0, g1, g2]
          · have hNn : N = 7 := by omega
            subst hNn
            by_cases c2 : n = 7
            · subst c2; rcases hs with ⟨rfl, h'⟩ | ⟨rfl, h'⟩ | ⟨b, v, rfl⟩ <;> first | omega | simp (disch := first|omega|exact zE rfl|exact zO|exact zL rfl) [c66_b0, c66_o3, zG, g0, g1, g2]
            · rcases hs with ⟨rfl, h'⟩ | ⟨rfl, h'⟩ | ⟨b, v, rfl⟩ <;> first | omega | simp (disch := first|omega|exact zE rfl|exact zO|exact zL rfl) [c66_b0, c66_o3, zG, g0, g1, g2]
        exact Tr.post (fun s h' q => ⟨x, q.1, by rw [q.2]; exact tg⟩) t) (fun s h' q => ⟨q.2.2.2, q.1, q.2.1, q.2.2.1, rfl⟩))
    (by simp) 0 (by omega)
  refine Tr.post ?_ (Tr.app2 t0 (Tr.seq (Tr.seq t00 (Tr.block (Tr.pre ?_ tl))) (Tr.exx fun x => Tr.fix (F := fun H => TG (frameOf h) H x (cutM M)) (P' := fun H s h' => s.get [false, false] = x ∧ h' = H) (Q := fun s h' => TG (frameOf h) h' (s.get [true]) (cutM M)) (fun H tg => ?_) (fun s h' q => ⟨q.2, q.1, rfl⟩))))
  · intro s h' q
    refine ⟨[s.get [true]], by simp [c66], ?_⟩
    show TG h _ (s.get [true]) _
    split
    · rename_i hf
      obtain ⟨cs, lv, hl, _⟩ := q.r
      rcases lv with ⟨e1, rfl⟩ | ⟨b, e1, _, _⟩
      · rw [e1, List.length_eq_zero_iff.1 hl.symm]
        have : h.plus [] = h := by simp [Heap.plus]
        rw [this]; exact TG.nil h
      · rw [e1] at hf; simp [one, AV.flat, AV.flats] at hf
    · exact q.fr
  · intro s h' q
    exact ⟨.nils, q.1, q.2.1, q.2.2.1, by rw [q.2.2.2]; exact TG.nil _⟩
  ·
    have t : Tr tbl J ((.seq c66_o6 .ret)) (fun s h' => s.get [false, false] = x ∧ h' = H) .ret (fun s h' => s.get [true] = x ∧ h' = H) := Tr.region fun s h hp => by
      obtain ⟨g0, rfl⟩ := hp
      simp (disch := first|omega|exact zE rfl|exact zO|exact zL rfl) [c66_o6, zG, g0]
    exact Tr.post (fun s h' q => by rw [q.1, q.2]; exact tg) t
end
def Pre66 (b : AV × List (List Int)) (args : List AV) (h : Heap) : Prop := MR h b.1 b.2 ∧ args = [b.1]
def Post66 (b : AV × List (List Int)) (h : Heap) (v : AV) (own : List AObj) : Prop := TG h (h.plus own) v (cutM b.2)
noncomputable def T30 : CallF := addK tbl T29 66 Pre66 Post66
theorem t30 : Sound Go.Proofs.Try.prog T30 := Sound.addK follows ok t29 (by decide) _ _
abbrev K66 (J : CallF) : Prop := ∀ (h : Heap) (y : AV) (M : List (List Int)), MR h y M → ∃ v own, J 66 [y] h = some (v, own, false) ∧ TG h (h.plus own) v (cutM M)
theorem k66 : K66 T30 := fun h y M hy => by
  obtain ⟨v, own, e, l⟩ := addK_some (Pre := Pre66) (Post := Post66) (fun b args h hp => by
    obtain ⟨o, rfl⟩ := hp
    exact c66_ok T29 k92 (fun _ _ => by simp (disch := decide) only [T1, T2, T3, T4, T5, T6, T7, T8, T9, T10, T11, T12, T13, T14, T15, T16, T17, T18, T19, T20, T21, T22, T23, T24, T25, T26, T27, T28, T29, addI_ne, addX_ne, addV_ne, addK_ne]; rfl) h o) (y, M) _ h ⟨hy, rfl⟩
  exact ⟨v, own, e, l⟩
theorem TG.kpm {M : Nat → Prop} {Hb H0 h h' : Heap} {x : AV} {L : List (List Int)} (t : TG H0 h x L) (k : Kp M h h') (hM : ∀ b, M b → b < H0.size) (k0 : Kp (fun _ => False) Hb h') (hs : Hb.size ≤ H0.size) : TG Hb h' x L := by
  obtain ⟨rs, lv, hl, hr⟩ := t.r
  refine ⟨k0, fun q hq => Nat.le_trans hs (t.x0 q hq), rs, lv.kp k (fun b hb m => by have := t.x0 b hb; have := hM b m; omega), hl, fun i r hi => ?_⟩
  obtain ⟨l, h1, h2, h3⟩ := hr i r hi
  exact ⟨l, h1, listOf_kp k h2 (fun q hq m => by have := hM q m; have := h3 q hq; omega), fun q hq => ⟨(h3 q hq).1, Nat.le_trans hs (h3 q hq).2.1, Nat.lt_of_lt_of_le (h3 q hq).2.2 k.size⟩⟩
theorem TG.sh {H0 h : Heap} {x : AV} {L : List (List Int)} (t : TG H0 h x L) : x = .nils ∨ ∃ b n, x = .slice b 0 n n := by
  obtain ⟨rs, lv, _⟩ := t.r
  exact lv.sh
theorem TG.of_nils {H0 h : Heap} {L : List (List Int)} (t : TG H0 h .nils L) : L = [] := by
  obtain ⟨rs, lv, hl, _⟩ := t.r
  rcases lv with ⟨_, e⟩ | ⟨b, e, _⟩
  · rw [e] at hl; exact List.length_eq_zero_iff.1 hl.symm
  · cases e
theorem TG.slp {H0 h : Heap} {own : List AObj} {b n : Nat} {L : List (List Int)} (t : TG H0 (h.plus own) (.slice b 0 n n) L) (hs : h.size = H0.size) : own ≠ [] := fun e => by
  have h1 := t.x0 b rfl
  obtain ⟨rs, lv, _⟩ := t.r
  have := lv.lt (b := b) rfl
  rw [plus_size, e] at this
  simp at this; omega
structure ATs where
  q : Int
  x : AV
  y : AV
  B : List (List Int)
  W : List (List Int)
def Ok24 (a : ATs) (h : Heap) : Prop := MR h a.x a.B ∧ MR h a.y a.W
section
variable {a : ATs}
theorem c24_ok (J : CallF) (k66 : K66 J) (hJ : ∀ a h, J 24 a h = none) (h : Heap) (o : Ok24 a h) :
    ∃ v own, CallsTo tbl J 24 [.agg [G a.q, a.x, a.y]] h (v, own, false) ∧ ∃ x y, v = .agg [G a.q, x, y] ∧ TG h (h.plus own) x (cutM a.B) ∧ TG h (h.plus own) y (cutM a.W) := by
  refine Tr.fny (cf := c24) (e := .ret) (s := T.set .leaf [] (.agg [G a.q, a.x, a.y])) (by decide) rfl (hJ _ _) rfl rfl (by simp) ?_
  obtain ⟨Hs, hHs⟩ : ∃ H, (⟨h.get, h.size, [.cells 0 3 [G a.q, a.x, a.y], .cells 0 3 [G 0, .nils, .nils]]⟩ : Heap) = H := ⟨_, rfl⟩
  have mx : MR Hs a.x a.B := by rw [← hHs]; exact o.1.lo _
  have my : MR Hs a.y a.W := by rw [← hHs]; exact o.2.lo _
  obtain ⟨x, own1, e1, tb1⟩ := k66 Hs a.x a.B mx
  have kp1 : Kp (fun _ => False) Hs (Hs.plus own1) := Kp.plus _ _
  obtain ⟨y, own2, e2, tb2⟩ := k66 (Hs.plus own1) a.y a.W (my.kp kp1)
  have kp2 : Kp (fun _ => False) (Hs.plus own1) ((Hs.plus own1).plus own2) := Kp.plus _ _
  have hS : Hs.size = h.size + 2 := by rw [← hHs]; rfl
  have hN : Hs.N = h.size := by rw [← hHs]
  have gS : Hs.get h.size = .cells 0 3 [G a.q, a.x, a.y] := by rw [← hHs, get_mk_ge _ _ _ _ (Nat.le_refl _), Nat.sub_self]; rfl
  have gR : Hs.get (h.size + 1) = .cells 0 3 [G 0, .nils, .nils] := by rw [← hHs, get_mk_ge _ _ _ _ (by omega), Nat.add_sub_cancel_left]; rfl
  obtain ⟨Z, hZ⟩ : ∃ Z, (Hs.plus own1).plus own2 = Z := ⟨_, rfl⟩
  have gS1 := kp1.at gS (by simp) id
  have gRZ : Z.get (h.size + 1) = .cells 0 3 [G 0, .nils, .nils] := by rw [← hZ]; exact kp2.at (kp1.at gR (by simp) id) (by simp) id
  have ZN : Z.N = h.size := by rw [← hZ]; exact hN
  have ZS : h.size + 2 ≤ Z.size := by rw [← hZ, plus_size, plus_size, hS]; omega
  have p : Eff.app (.put (h.size + 1) 3 0 [G a.q, x, y]) Z = some (Z.upd (h.size + 1) (.cells 0 3 [G a.q, x, y])) := by
    rw [put_gen _ _ _ _ _ _ _ (by omega) gRZ (by simp)]; rfl
  have gU : (Z.upd (h.size + 1) (.cells 0 3 [G a.q, x, y])).get (h.size + 1) = .cells 0 3 [G a.q, x, y] := upd_same _ _ _ (by omega) (by omega)
  have kU : Kp (· = h.size + 1) Z (Z.upd (h.size + 1) (.cells 0 3 [G a.q, x, y])) := Kp.upd _ _ _ (by omega) rfl
  have lowU : Kp (fun _ => False) (frameOf h) (Z.upd (h.size + 1) (.cells 0 3 [G a.q, x, y])) := Kp.low (by show Z.lo = _; rw [← hZ, ← hHs]; rfl) ZN
  have t1 : TG (frameOf h) (Z.upd (h.size + 1) (.cells 0 3 [G a.q, x, y])) x (cutM a.B) := by
    refine TG.kpm (H0 := Hs) (h := Z) ?_ kU (fun b e => by omega) lowU (by show h.size + 0 ≤ _; omega)
    rw [← hZ]; exact tb1.kp kp2
  have t2 : TG (frameOf h) (Z.upd (h.size + 1) (.cells 0 3 [G a.q, x, y])) y (cutM a.W) := by
    refine TG.kpm (H0 := Hs.plus own1) (h := Z) ?_ kU (fun b e => by rw [plus_size]; omega) lowU (by show h.size + 0 ≤ _; rw [plus_size]; omega)
    rw [← hZ]; exact tb2
  have s1' : (x = .nils) ∨ (∃ b n, x = .slice b 0 n n) ∧ own1 ≠ [] := by
    rcases tb1.sh with e | ⟨b, n, e⟩
    · exact .inl e
    · subst e; exact .inr ⟨⟨b, n, rfl⟩, tb1.slp rfl⟩
  have s2' : (y = .nils) ∨ (∃ b n, y = .slice b 0 n n) ∧ own2 ≠ [] := by
    rcases tb2.sh with e | ⟨b, n, e⟩
    · exact .inl e
    · subst e; exact .inr ⟨⟨b, n, rfl⟩, tb2.slp rfl⟩
  clear tb1 tb2 kp1 kp2 lowU kU gRZ gR mx my o
  generalize hU : Z.upd (h.size + 1) (.cells 0 3 [G a.q, x, y]) = U at *
  have fin : ∀ (z : AV) (L : List (List Int)), TG (frameOf h) U z L → (z = x ∨ z = y) → TG h (h.plus (if (one [.agg [G a.q, x, y]]).flat then [] else U.own)) z L := fun z L t hz => by
    split
    · rename_i hf
      have zn : z = .nils := by
        rcases t.sh with e | ⟨b, n, e⟩
        · exact e
        · subst e
          rcases hz with e | e <;> simp [one, AV.flat, AV.flats, ← e] at hf
      subst zn
      have e0 := t.of_nils
      subst e0
      have : h.plus [] = h := by simp [Heap.plus]
      rw [this]; exact TG.nil h
    · exact t.fr
  have f1 := fin _ _ t1 (.inl rfl)
  have f2 := fin _ _ t2 (.inr rfl)
  clear fin t1 t2
  have o1 : own1 = [] ∨ ∃ o os, own1 = o :: os := by cases own1 <;> simp
  have o2 : own2 = [] ∨ ∃ o os, own2 = o :: os := by cases own2 <;> simp
  have g0 : ∀ xs, h.plus xs = h.plus xs := fun _ => rfl
  have hp0 : ∀ H : Heap, H.plus [] = H := fun H => by simp [Heap.plus]
  have w : Tr tbl J c24.body (fun s' h' => s' = T.set .leaf [] (.agg [G a.q, a.x, a.y]) ∧ h' = frameOf h) .ret (fun s h' => s.get [true] = .ptr (h.size + 1) 0 3 ∧ h' = U) := by
    clear f1 f2
    rcases s1' with rfl | ⟨⟨bx, nx, rfl⟩, n1⟩ <;> rcases s2' with rfl | ⟨⟨by', ny, rfl⟩, n2⟩
    all_goals
      rcases o1 with rfl | ⟨u1, v1, rfl⟩ <;> rcases o2 with rfl | ⟨u2, v2, rfl⟩
    all_goals first | exact absurd rfl n1 | exact absurd rfl n2 | skip
    all_goals
      try rw [hp0] at hZ
      try rw [hp0] at hZ
      try rw [hp0] at gS1
      try rw [hp0] at e2
      subst hZ
      refine Tr.w fun s1 H1 hp _ kR => ?_
      obtain ⟨rfl, rfl⟩ := hp
      have q : True := trivial
      refine W.seq (W.chunk ?_)
      simp (disch := first|omega|exact zE rfl|exact zO|exact zL rfl) [c24_o0, size_mk, get_mk_lt, get_mk_ge, frameOf, Eff.app, Heap.setOwn, q, hHs]
      refine W.seq (W.chunk ?_)
      simp (disch := first|omega|exact zE rfl|exact zO|exact zL rfl) [c24_o1, zG, q, gS, gS1, e1, e2, p, -evDraw_c, evDraw_0]
      refine W.ret ?_
      try simp only [zW, if_true]
      exact kR _ _ (by simp [T.get])
  refine Tr.post (fun s h' q => ?_) w
  obtain ⟨q, rfl⟩ := q
  exact ⟨[.agg [G a.q, x, y]], by simp [c24, evRess, evRes, loadA, q, gU, takeA], x, y, rfl, f1, f2⟩
end
def Pre24 (a : ATs) (args : List AV) (h : Heap) : Prop := Ok24 a h ∧ args = [.agg [G a.q, a.x, a.y]]
def Post24 (a : ATs) (h : Heap) (v : AV) (own : List AObj) : Prop := ∃ x y, v = .agg [G a.q, x, y] ∧ TG h (h.plus own) x (cutM a.B) ∧ TG h (h.plus own) y (cutM a.W)
noncomputable def T31 : CallF := addK tbl T30 24 Pre24 Post24
theorem t31 : Sound Go.Proofs.Try.prog T31 := Sound.addK follows ok t30 (by decide) _ _
abbrev K24 (J : CallF) : Prop := ∀ (h : Heap) (a : ATs), Ok24 a h → ∃ x y own, J 24 [.agg [G a.q, a.x, a.y]] h = some (.agg [G a.q, x, y], own, false) ∧ TG h (h.plus own) x (cutM a.B) ∧ TG h (h.plus own) y (cutM a.W)
theorem k24 : K24 T31 := fun h a o => by
  obtain ⟨v, own, e, x, y, rfl, l⟩ := addK_some (Pre := Pre24) (Post := Post24) (fun a args h hp => by
    obtain ⟨o, rfl⟩ := hp
    exact c24_ok T30 k66 (fun _ _ => by simp (disch := decide) only [T1, T2, T3, T4, T5, T6, T7, T8, T9, T10, T11, T12, T13, T14, T15, T16, T17, T18, T19, T20, T21, T22, T23, T24, T25, T26, T27, T28, T29, T30, addI_ne, addX_ne, addV_ne, addK_ne]; rfl) h o) a _ h ⟨o, rfl⟩
  exact ⟨x, y, own, e, l⟩
theorem cutM_small (M : List (List Int)) : smallM (cutM M) := by
  unfold smallM cutM
  refine ⟨by simp; omega, fun i => ?_⟩
  rw [List.getD_eq_getElem?_getD, List.getElem?_map]
  cases (M.take 7)[i]? with
  | none => simp
  | some l => simp; omega
section
variable {a : AR} {m : Int}
theorem c28_ok (J : CallF) (k27 : KR 27 J) (hJ : ∀ a h, J 28 a h = none) (h : Heap) (o : OkR a h) : CallsTo tbl J 28 [a.v, G m] h (.bool (a.rm m), [], false) := by
  refine Tr.fnv (cf := c28) (e := .ret) (s := T.set (T.set .leaf [] a.v) [false] (G m)) (by decide) rfl (hJ _ _) rfl rfl rfl (by simp) ?_
  have k : J 27 [a.v] ⟨h.get, h.size, [.cells 0 3 [G a.q, a.x, a.y]]⟩ = some (.bool a.ru, [], false) := k27 _ a (o.lo _)
  refine Tr.post (Q := (fun s h => s.get [true, false] = .bool (a.rm m))) (fun s h q => by simp [c28, q]) ?_
  unfold AR.rm
  generalize a.ru = b1 at *
  refine Tr.w fun s1 H1 hp _ kR => ?_
  obtain ⟨rfl, rfl⟩ := hp
  have q : True := trivial
  cases b1
  · refine W.seq (W.chunk ?_)
    simp (disch := first|omega|exact zE rfl|exact zO|exact zL rfl) [c28_o0, size_mk, get_mk_lt, get_mk_ge, frameOf, Eff.app, Heap.setOwn, q]
    refine W.seq (W.chunk ?_)
    simp (disch := first|omega|exact zE rfl|exact zO|exact zL rfl) [c28_o1, size_mk, get_mk_lt, get_mk_ge, frameOf, Eff.app, Heap.setOwn, q, k]
    refine W.ret ?_
    try simp only [zW, if_true]
    exact kR _ _ (by simp [T.get])
  · by_cases c1 : 1 ≤ m
    · by_cases c2 : m ≤ 5
      · refine W.seq (W.chunk ?_)
        simp (disch := first|omega|exact zE rfl|exact zO|exact zL rfl) [c28_o0, size_mk, get_mk_lt, get_mk_ge, frameOf, Eff.app, Heap.setOwn, q]
        refine W.seq (W.chunk ?_)
        simp (disch := first|omega|exact zE rfl|exact zO|exact zL rfl) [c28_o1, size_mk, get_mk_lt, get_mk_ge, frameOf, Eff.app, Heap.setOwn, q, k, c1, c2]
        refine W.ret ?_
        try simp only [zW, if_true]
        exact kR _ _ (by simp [T.get, c1, c2])
      · refine W.seq (W.chunk ?_)
        simp (disch := first|omega|exact zE rfl|exact zO|exact zL rfl) [c28_o0, size_mk, get_mk_lt, get_mk_ge, frameOf, Eff.app, Heap.setOwn, q]
        refine W.seq (W.chunk ?_)
        simp (disch := first|omega|exact zE rfl|exact zO|exact zL rfl) [c28_o1, size_mk, get_mk_lt, get_mk_ge, frameOf, Eff.app, Heap.setOwn, q, k, c1, c2]
        refine W.ret ?_
        try simp only [zW, if_true]
        exact kR _ _ (by simp [T.get, c1, c2])
    · refine W.seq (W.chunk ?_)
      simp (disch := first|omega|exact zE rfl|exact zO|exact zL rfl) [c28_o0, size_mk, get_mk_lt, get_mk_ge, frameOf, Eff.app, Heap.setOwn, q]
      refine W.seq (W.chunk ?_)
      simp (disch := first|omega|exact zE rfl|exact zO|exact zL rfl) [c28_o1, size_mk, get_mk_lt, get_mk_ge, frameOf, Eff.app, Heap.setOwn, q, k, c1]
      refine W.ret ?_
      try simp only [zW, if_true]
      exact kR _ _ (by simp [T.get, c1])
end
def Post28 (b : ARm) (h : Heap) (v : AV) (own : List AObj) : Prop := v = .bool (b.a.rm b.m) ∧ own = []
noncomputable def T32 : CallF := addK tbl T31 28 PreRm Post28
theorem t32 : Sound Go.Proofs.Try.prog T32 := Sound.addK follows ok t31 (by decide) _ _
abbrev K28 (J : CallF) : Prop := ∀ (h : Heap) (a : AR) (m : Int), OkR a h → J 28 [a.v, G m] h = some (.bool (a.rm m), [], false)
theorem k27_31 : KR 27 T31 := fun h a o => by
  have e := k27 h a o
  rw [show T31 27 [.agg [G a.q, a.x, a.y]] h = T12 27 [.agg [G a.q, a.x, a.y]] h from by simp (disch := decide) only [T1, T2, T3, T4, T5, T6, T7, T8, T9, T10, T11, T12, T13, T14, T15, T16, T17, T18, T19, T20, T21, T22, T23, T24, T25, T26, T27, T28, T29, T30, T31, addI_ne, addX_ne, addV_ne, addK_ne]]
  exact e
theorem k28 : K28 T32 := fun h a m o => by
  obtain ⟨v, own, e, rfl, rfl⟩ := addK_some (Pre := PreRm) (Post := Post28) (fun b args h hp => by
    obtain ⟨o, rfl⟩ := hp
    exact ⟨_, _, c28_ok T31 k27_31 (fun _ _ => by simp (disch := decide) only [T1, T2, T3, T4, T5, T6, T7, T8, T9, T10, T11, T12, T13, T14, T15, T16, T17, T18, T19, T20, T21, T22, T23, T24, T25, T26, T27, T28, T29, T30, T31, addI_ne, addX_ne, addV_ne, addK_ne]; rfl) h o, rfl, rfl⟩) ⟨a, m⟩ _ h ⟨o, rfl⟩
  exact e
structure KnR (J : CallF) : Prop where
  k24 : K24 J
  k25 : K25 J
  k26 : K26 J
  k20 : K20 J
  k27 : KR 27 J
  k28 : K28 J
  k30 : K30 J
  k29 : ∀ (h : Heap) (x z : AV) (L M : List (List UInt8)), RV h x (ss L) → RV h z (ss M) → L.length ≤ 1000000 → M.length ≤ 1000000 → J 29 [x, z] h = some (.bool (decide (L = M)), [], false)
  k31 : K31 J
  k22 : ∀ (h : Heap) (x z : AV) (A B : List (List Int)), LT h x A → LT h z B → A.length ≤ 1000000 → B.length ≤ 1000000 → (∀ l ∈ A, l.length ≤ 1000000) → J 22 [x, z] h = some (.bool (decide (A = B)), [], false)
  k23 : ∀ h, J 23 [] h = some (.bool true, [], false)
structure LawR (J : CallF) (H0 : Heap) (nq : Int) (x y : AV) (X Y : List (List Int)) (a : AR) (own1 : List AObj) (Ha Hb Hc : Heap) : Prop where
  fq : a.q = nq
  fB : a.B = cutM X
  fW : a.W = cutM Y
  ha : H0.plus [.cells 0 3 [G nq, x, y]] = Ha
  e : J 24 [.agg [G nq, x, y]] Ha = some (a.v, own1, false)
  hb : Ha.plus own1 = Hb
  hc : Hb.plus [.cells 0 3 [G a.q, a.x, a.y]] = Hc
  gS : Ha.get H0.size = .cells 0 3 [G nq, x, y]
  gc : Hc.get Hb.size = .cells 0 3 [G a.q, a.x, a.y]
  o : OkR a Hc
  tx : TG Ha Hc a.x a.B
  ty : TG Ha Hc a.y a.W
theorem lawR (J : CallF) (k24 : K24 J) {H0 : Heap} {nq : Int} {x y : AV} {X Y : List (List Int)} (mx : MR H0 x X) (my : MR H0 y Y) : ∃ a own1 Ha Hb Hc, LawR J H0 nq x y X Y a own1 Ha Hb Hc := by
  have k1 : Kp (fun _ => False) H0 (H0.plus [.cells 0 3 [G nq, x, y]]) := Kp.plus _ _
  obtain ⟨x', y', own, e, t1, t2⟩ := k24 (H0.plus [.cells 0 3 [G nq, x, y]]) ⟨nq, x, y, X, Y⟩ ⟨mx.kp k1, my.kp k1⟩
  have k2 : Kp (fun _ => False) ((H0.plus [.cells 0 3 [G nq, x, y]]).plus own) (((H0.plus [.cells 0 3 [G nq, x, y]]).plus own).plus [.cells 0 3 [G nq, x', y']]) := Kp.plus _ _
  have u1 := t1.kp k2
  have u2 := t2.kp k2
  exact ⟨⟨nq, x', y', cutM X, cutM Y⟩, own, _, _, _, rfl, rfl, rfl, rfl, e, rfl, rfl, plus_at0 _ _ _ _ rfl, plus_at0 _ _ _ _ rfl, ⟨u1.mr, u2.mr, cutM_small _, cutM_small _⟩, u1, u2⟩
theorem ws_ss (R : List (List Nat)) : wsL R = ss (R.map stW) := by simp [wsL]
theorem ntI_len (L : List (List Nat)) : (ntI L).length = L.length := by simp [ntI]
theorem ntI_rows {L : List (List Nat)} {n : Nat} (h : ∀ l ∈ L, l.length ≤ n) : ∀ l ∈ ntI L, l.length ≤ n := fun l hl => by
  obtain ⟨l', h', rfl⟩ := List.mem_map.1 hl
  rw [List.length_map]; exact h l' h'
theorem stL_small {a : AR} {m : Int} (r : a.rm m = true) : (ntI (a.steps m)).length ≤ 1000000 ∧ (∀ l ∈ ntI (a.steps m), l.length ≤ 1000000) ∧ ((a.rows m).map stW).length ≤ 1000000 := by
  unfold AR.rm at r
  simp only [Bool.and_eq_true, decide_eq_true_eq] at r
  have q3 := a.q3 r.1
  have s := rwL_small (q := a.q.toNat) (B := a.B) (m := m.toNat) (by omega) (by omega)
  refine ⟨by rw [ntI_len]; unfold AR.steps stL AR.rows; rw [List.length_map]; omega, ntI_rows fun l hl => ?_, by rw [List.length_map]; unfold AR.rows; omega⟩
  unfold AR.steps stL AR.rows at hl
  obtain ⟨s', _, rfl⟩ := List.mem_map.1 hl
  have := nxL_len a.W (rwL a.q.toNat a.B m.toNat) s'
  omega
theorem TB.lt' {H0 h h' : Heap} {x : AV} {N : List (List Int)} (t : TB H0 h x (N.map gs)) (k : Kp (fun _ => False) h h') : LT h' x N := t.lt.kp k
section
variable {nq m : Int} {X Y : List (List Int)}
theorem cutM_len (M : List (List Int)) : (cutM M).length ≤ 1000000 := by unfold cutM; simp; omega
theorem cutM_rows (M : List (List Int)) : ∀ l ∈ cutM M, l.length ≤ 1000000 := fun l hl => by
  unfold cutM at hl
  obtain ⟨l', _, rfl⟩ := List.mem_map.1 hl
  simp; omega
theorem c4_ok (J : CallF) (K : KnR J) (hJ : ∀ a h, J 4 a h = none) (h : Heap) {x y : AV} (mx : MR h x X) (my : MR h y Y) : CallsTo tbl J 4 [.agg [G nq, x, y], G m] h (.bool true, [], false) := by
  refine Tr.fnv (cf := c4) (e := .ret) (s := T.set (T.set .leaf [] (.agg [G nq, x, y])) [false] (G m)) (by decide) rfl (hJ _ _) rfl rfl rfl (by simp) ?_
  refine Tr.post (Q := (fun s h => s.get [true, false] = .bool true)) (fun s h q => by simp [c4, q]) ?_
  obtain ⟨a, own1, Ha, Hb, Hc, eq, eB, eW, ha, e24, hb, hc, gS, gc, o, tx, ty⟩ := lawR (nq := nq) J K.k24 (mx.lo (h := h) []) (my.lo (h := h) [])
  rw [show (⟨h.get, h.size, []⟩ : Heap) = frameOf h from rfl] at ha gS
  generalize frameOf h = H0 at *
  obtain ⟨v2, own2, e25, p25⟩ := K.k25 Hc a m o
  obtain ⟨Hd, hd⟩ : ∃ H, Hc.plus own2 = H := ⟨_, rfl⟩
  have kd : Kp (fun _ => False) Hc Hd := by rw [← hd]; exact Kp.plus _ _
  obtain ⟨v3, own3, e26, p26⟩ := K.k26 Hd a m (o.kp kd)
  obtain ⟨He, he⟩ : ∃ H, Hd.plus own3 = H := ⟨_, rfl⟩
  have ke : Kp (fun _ => False) Hd He := by rw [← he]; exact Kp.plus _ _
  obtain ⟨v4, own4, e20, p20⟩ := K.k20 He a ((o.kp kd).kp ke)
  obtain ⟨Hf, hf⟩ : ∃ H, He.plus own4 = H := ⟨_, rfl⟩
  have kf : Kp (fun _ => False) He Hf := by rw [← hf]; exact Kp.plus _ _
  have gd := kd.at gc (by simp) id
  have ge := ke.at gd (by simp) id
  have gf := kf.at ge (by simp) id
  have k23 := K.k23
  cases r : a.ru
  · have rm : a.rm m = false := by unfold AR.rm; rw [r]; rfl
    obtain ⟨rfl, rfl⟩ := p25.1 rm
    obtain ⟨rfl, rfl⟩ := p26.1 rm
    obtain ⟨rfl, rfl⟩ := p20.1 r
    have hp0 : ∀ H : Heap, H.plus [] = H := fun H => by simp [Heap.plus]
    rw [hp0] at hd he hf
    subst hd he hf
    obtain ⟨Hg, hg⟩ : ∃ H, Hc.plus [.cells 0 3 [G 0, .nils, .nils]] = H := ⟨_, rfl⟩
    have kg : Kp (fun _ => False) Hc Hg := by rw [← hg]; exact Kp.plus _ _
    have pg : Eff.app (.put Hc.size 3 0 [G 0, .nils, .nils]) Hg = some Hg := by rw [← hg, put_plus0 _ _ _ _ _ _ _ _ rfl (by simp)]; rfl
    have og := o.kp kg
    have k27 := K.k27 Hg a og
    rw [show ruQ a.q a.B a.W = false from r] at k27
    have k28 := K.k28 Hg a m og
    rw [rm] at k28
    have gg := kg.at gc (by simp) id
    have gt : Hg.get Hc.size = .cells 0 3 [G 0, .nils, .nils] := by rw [← hg]; exact plus_at0 _ _ _ _ rfl
    clear K p25 p26 p20 kd ke kf kg tx ty o og eq eB eW mx my r rm
    obtain ⟨aq, ax, ay, aB, aW⟩ := a
    simp only [AR.v] at *
    refine Tr.w fun s1 H1 hp _ kR => ?_
    obtain ⟨rfl, rfl⟩ := hp
    have q : True := trivial
    refine W.seq (W.chunk ?_)
    simp (disch := first|omega|exact zE rfl|exact zO|exact zL rfl) [c4_o0, zG, q, ha]
    refine W.seq (W.chunk ?_)
    simp (disch := first|omega|exact zE rfl|exact zO|exact zL rfl) [c4_o1, zG, q, gS, e24, app_if, app_if', hb, hc]
    refine W.seq (W.chunk ?_)
    simp (disch := first|omega|exact zE rfl|exact zO|exact zL rfl) [c4_o2, zG, q, gc, e25]
    refine W.seq (W.chunk ?_)
    simp (disch := first|omega|exact zE rfl|exact zO|exact zL rfl) [c4_o3, zG, q, gc, e26]
    refine W.seq (W.chunk ?_)
    simp (disch := first|omega|exact zE rfl|exact zO|exact zL rfl) [c4_o4, zG, q, gc, e20, hg, pg]
    refine W.assoc ?_
    refine W.seq (W.chunk ?_)
    simp (disch := first|omega|exact zE rfl|exact zO|exact zL rfl) [c4_o5, zG, q, gg, k27]
    refine W.seq (W.cond (v := true) (by simp (disch := first|omega|exact zE rfl|exact zO|exact zL rfl) [zG, q]) ?_)
    simp only [if_true, if_false, Bool.false_eq_true]
    refine W.seq (W.chunk ?_)
    simp (disch := first|omega|exact zE rfl|exact zO|exact zL rfl) [c4_o6, zG, q, gt]
    refine W.chunk ?_
    simp (disch := first|omega|exact zE rfl|exact zO|exact zL rfl) [c4_o7, zG, q]
    refine W.assoc ?_
    refine W.seq (W.chunk ?_)
    simp (disch := first|omega|exact zE rfl|exact zO|exact zL rfl) [c4_o10, zG, q, gg, k28]
    refine W.seq (W.chunk ?_)
    simp (disch := first|omega|exact zE rfl|exact zO|exact zL rfl) [c4_o11, zG, q, k23]
    exact kR _ _ (by simp [T.get])
  · obtain ⟨x4, y4, rfl, t4, u4⟩ := p20.2 r
    rw [hf] at t4 u4
    obtain ⟨Hg, hg⟩ : ∃ H, Hf.plus [.cells 0 3 [G a.q, x4, y4]] = H := ⟨_, rfl⟩
    have kg : Kp (fun _ => False) Hf Hg := by rw [← hg]; exact Kp.plus _ _
    have kcg : Kp (fun _ => False) Hc Hg := ((kd.trans ke).trans kf).trans kg
    have og := o.kp kcg
    have k27 := K.k27 Hg a og
    rw [show ruQ a.q a.B a.W = true from r] at k27
    have k28 := K.k28 Hg a m og
    have gg := kg.at gf (by simp) id
    have gt : Hg.get Hf.size = .cells 0 3 [G a.q, x4, y4] := by rw [← hg]; exact plus_at0 _ _ _ _ rfl
    have lx : LT Hg a.x a.B := tx.lt.kp kcg
    have ly : LT Hg a.y a.W := ty.lt.kp kcg
    have k22a := K.k22 Hg x4 a.y a.W a.W (t4.lt' kg) ly (by rw [eW]; exact cutM_len _) (by rw [eW]; exact cutM_len _) (by rw [eW]; exact cutM_rows _)
    have k22b := K.k22 Hg y4 a.x a.B a.B (u4.lt' kg) lx (by rw [eB]; exact cutM_len _) (by rw [eB]; exact cutM_len _) (by rw [eB]; exact cutM_rows _)
    rw [decide_eq_true rfl] at k22a k22b
    have sx4 : x4 = .nils ∨ ∃ b n, x4 = .slice b 0 n n := by
      obtain ⟨rs, lv, _⟩ := t4.r
      exact lv.sh
    cases rm : a.rm m
    · obtain ⟨rfl, rfl⟩ := p25.1 rm
      obtain ⟨rfl, rfl⟩ := p26.1 rm
      rw [rm] at k28
      have hp0 : ∀ H : Heap, H.plus [] = H := fun H => by simp [Heap.plus]
      rw [hp0] at hd he
      subst hd he
      clear K p25 p26 p20 kd ke kf kg kcg tx ty o og eq eB eW mx my r rm t4 u4 lx ly sx4
      obtain ⟨aq, ax, ay, aB, aW⟩ := a
      simp only [AR.v] at *
      refine Tr.w fun s1 H1 hp _ kR => ?_
      obtain ⟨rfl, rfl⟩ := hp
      have q : True := trivial
      refine W.seq (W.chunk ?_)
      simp (disch := first|omega|exact zE rfl|exact zO|exact zL rfl) [c4_o0, zG, q, ha]
      refine W.seq (W.chunk ?_)
      simp (disch := first|omega|exact zE rfl|exact zO|exact zL rfl) [c4_o1, zG, q, gS, e24, app_if, app_if', hb, hc]
      refine W.seq (W.chunk ?_)
      simp (disch := first|omega|exact zE rfl|exact zO|exact zL rfl) [c4_o2, zG, q, gc, e25]
      refine W.seq (W.chunk ?_)
      simp (disch := first|omega|exact zE rfl|exact zO|exact zL rfl) [c4_o3, zG, q, gc, e26]
      refine W.seq (W.chunk ?_)
      simp (disch := first|omega|exact zE rfl|exact zO|exact zL rfl) [c4_o4, zG, q, gc, e20, app_if, app_if', hf, hg]
      refine W.assoc ?_
      refine W.seq (W.chunk ?_)
      simp (disch := first|omega|exact zE rfl|exact zO|exact zL rfl) [c4_o5, zG, q, gg, k27]
      refine W.seq (W.cond (v := false) (by simp (disch := first|omega|exact zE rfl|exact zO|exact zL rfl) [zG, q]) ?_)
      simp only [if_true, if_false, Bool.false_eq_true]
      refine W.seq (W.chunk ?_)
      simp (disch := first|omega|exact zE rfl|exact zO|exact zL rfl) [c4_o8, zG, q, gt, gg, k22a, k22b]
      refine W.chunk ?_
      simp (disch := first|omega|exact zE rfl|exact zO|exact zL rfl) [c4_o9, zG, q]
      refine W.assoc ?_
      refine W.seq (W.chunk ?_)
      simp (disch := first|omega|exact zE rfl|exact zO|exact zL rfl) [c4_o10, zG, q, gg, k28]
      refine W.seq (W.chunk ?_)
      simp (disch := first|omega|exact zE rfl|exact zO|exact zL rfl) [c4_o11, zG, q, k23]
      exact kR _ _ (by simp [T.get])
    · obtain ⟨x2, rfl, r2, _⟩ := p25.2 rm
      obtain ⟨x3, rfl, r3, _⟩ := p26.2 rm
      rw [hd] at r2
      rw [he] at r3
      rw [rm] at k28
      have kdg : Kp (fun _ => False) Hd Hg := (ke.trans kf).trans kg
      have keg : Kp (fun _ => False) He Hg := kf.trans kg
      have s2 := r2.kp kdg (fun _ _ => id)
      have s3 := r3.kp keg
      obtain ⟨z1, z2, z3⟩ := stL_small rm
      have rmd := rm
      unfold AR.rm at rmd
      simp only [Bool.and_eq_true, decide_eq_true_eq] at rmd
      obtain ⟨v5, own5, e30, r5, _⟩ := K.k30 Hg a.g m.toNat (og.g r) (by omega)
      obtain ⟨Hh, hh⟩ : ∃ H, Hg.plus own5 = H := ⟨_, rfl⟩
      have kh : Kp (fun _ => False) Hg Hh := by rw [← hh]; exact Kp.plus _ _
      rw [hh] at r5
      obtain ⟨v6, own6, e31, r6⟩ := K.k31 Hh a.g m.toNat ((og.kp kh).g r) (by omega)
      obtain ⟨Hi, hi⟩ : ∃ H, Hh.plus own6 = H := ⟨_, rfl⟩
      have ki : Kp (fun _ => False) Hh Hi := by rw [← hi]; exact Kp.plus _ _
      rw [hi] at r6
      rw [a.gv r, show ((m.toNat : Nat) : Int) = m by omega] at e30 e31
      have k29 := K.k29 Hh x2 v5 ((a.rows m).map stW) ((a.rows m).map stW) (by rw [← ws_ss]; exact s2.kp kh (fun _ _ => id)) (by rw [← ws_ss]; exact r5) z3 z3
      have k22c := K.k22 Hi x3 v6 (ntI (a.steps m)) (ntI (a.steps m)) ((s3.kp kh).kp ki) r6 z1 z1 z2
      rw [decide_eq_true rfl] at k29 k22c
      have gh := kh.at gg (by simp) id
      clear K p25 p26 p20 kd ke kf kg kcg tx ty o og eq eB eW mx my r rm t4 u4 lx ly sx4 r2 r3 r5 r6 s2 s3 z1 z2 z3 kh ki kdg keg rmd
      obtain ⟨aq, ax, ay, aB, aW⟩ := a
      simp only [AR.v] at *
      refine Tr.w fun s1 H1 hp _ kR => ?_
      obtain ⟨rfl, rfl⟩ := hp
      have q : True := trivial
      refine W.seq (W.chunk ?_)
      simp (disch := first|omega|exact zE rfl|exact zO|exact zL rfl) [c4_o0, zG, q, ha]
      refine W.seq (W.chunk ?_)
      simp (disch := first|omega|exact zE rfl|exact zO|exact zL rfl) [c4_o1, zG, q, gS, e24, app_if, app_if', hb, hc]
      refine W.seq (W.chunk ?_)
      simp (disch := first|omega|exact zE rfl|exact zO|exact zL rfl) [c4_o2, zG, q, gc, e25, app_if, app_if', hd]
      refine W.seq (W.chunk ?_)
      simp (disch := first|omega|exact zE rfl|exact zO|exact zL rfl) [c4_o3, zG, q, gd, e26, app_if, app_if', he]
      refine W.seq (W.chunk ?_)
      simp (disch := first|omega|exact zE rfl|exact zO|exact zL rfl) [c4_o4, zG, q, ge, e20, app_if, app_if', hf, hg]
      refine W.assoc ?_
      refine W.seq (W.chunk ?_)
      simp (disch := first|omega|exact zE rfl|exact zO|exact zL rfl) [c4_o5, zG, q, gg, k27]
      refine W.seq (W.cond (v := false) (by simp (disch := first|omega|exact zE rfl|exact zO|exact zL rfl) [zG, q]) ?_)
      simp only [if_true, if_false, Bool.false_eq_true]
      refine W.seq (W.chunk ?_)
      simp (disch := first|omega|exact zE rfl|exact zO|exact zL rfl) [c4_o8, zG, q, gt, gg, k22a, k22b]
      refine W.chunk ?_
      simp (disch := first|omega|exact zE rfl|exact zO|exact zL rfl) [c4_o9, zG, q]
      refine W.assoc ?_
      refine W.seq (W.chunk ?_)
      simp (disch := first|omega|exact zE rfl|exact zO|exact zL rfl) [c4_o10, zG, q, gg, k28]
      refine W.seq (W.chunk ?_)
      simp (disch := first|omega|exact zE rfl|exact zO|exact zL rfl) [c4_o11, zG, q]
      refine W.seq (W.chunk ?_)
      simp (disch := first|omega|exact zE rfl|exact zO|exact zL rfl) [c4_o12, zG, q, gg, e30, app_if, app_if', hh, k29, gh, e31, hi, k22c, k23]
      refine W.ret ?_
      try simp only [zW, if_true]
      exact kR _ _ (by simp [T.get])
end
theorem kR32 : KnR T32 where
  k24 := fun h a o => by
    obtain ⟨x, y, own, e, l⟩ := k24 h a o
    exact ⟨x, y, own, by rw [show T32 24 [.agg [G a.q, a.x, a.y]] h = T31 24 [.agg [G a.q, a.x, a.y]] h from by simp (disch := decide) only [T32, addI_ne, addX_ne, addV_ne, addK_ne]]; exact e, l⟩
  k25 := fun h a m o => by
    obtain ⟨v, own, e, l⟩ := k25 h a m o
    exact ⟨v, own, by rw [show T32 25 [a.v, G m] h = T19 25 [a.v, G m] h from by simp (disch := decide) only [T20, T21, T22, T23, T24, T25, T26, T27, T28, T29, T30, T31, T32, addI_ne, addX_ne, addV_ne, addK_ne]]; exact e, l⟩
  k26 := fun h a m o => by
    obtain ⟨v, own, e, l⟩ := k26 h a m o
    exact ⟨v, own, by rw [show T32 26 [a.v, G m] h = T20 26 [a.v, G m] h from by simp (disch := decide) only [T21, T22, T23, T24, T25, T26, T27, T28, T29, T30, T31, T32, addI_ne, addX_ne, addV_ne, addK_ne]]; exact e, l⟩
  k20 := fun h a o => by
    obtain ⟨v, own, e, l⟩ := k20 h a o
    exact ⟨v, own, by rw [show T32 20 [a.v] h = T23 20 [a.v] h from by simp (disch := decide) only [T24, T25, T26, T27, T28, T29, T30, T31, T32, addI_ne, addX_ne, addV_ne, addK_ne]]; exact e, l⟩
  k27 := fun h a o => by
    rw [show T32 27 [.agg [G a.q, a.x, a.y]] h = T12 27 [.agg [G a.q, a.x, a.y]] h from by simp (disch := decide) only [T13, T14, T15, T16, T17, T18, T19, T20, T21, T22, T23, T24, T25, T26, T27, T28, T29, T30, T31, T32, addI_ne, addX_ne, addV_ne, addK_ne]]; exact k27 h a o
  k28 := fun h a m o => k28 h a m o
  k30 := fun h a m o m5 => by
    obtain ⟨v, own, e, l⟩ := k30 h a m o m5
    exact ⟨v, own, by rw [show T32 30 [a.v, G m] h = T24 30 [a.v, G m] h from by simp (disch := decide) only [T25, T26, T27, T28, T29, T30, T31, T32, addI_ne, addX_ne, addV_ne, addK_ne]]; exact e, l⟩
  k29 := fun h x z L M h1 h2 h3 h4 => by
    rw [show T32 29 [x, z] h = T27 29 [x, z] h from by simp (disch := decide) only [T28, T29, T30, T31, T32, addI_ne, addX_ne, addV_ne, addK_ne]]; exact k29 h ⟨x, z, L, M⟩ h1 h2 h3 h4
  k31 := fun h a m o m5 => by
    obtain ⟨v, own, e, l⟩ := k31 h a m o m5
    exact ⟨v, own, by rw [show T32 31 [a.v, G m] h = T25 31 [a.v, G m] h from by simp (disch := decide) only [T26, T27, T28, T29, T30, T31, T32, addI_ne, addX_ne, addV_ne, addK_ne]]; exact e, l⟩
  k22 := fun h x z A B h1 h2 h3 h4 h5 => by
    rw [show T32 22 [x, z] h = T28 22 [x, z] h from by simp (disch := decide) only [T29, T30, T31, T32, addI_ne, addX_ne, addV_ne, addK_ne]]; exact k22 h ⟨A, B, x, z⟩ ⟨h1, h2, h3, h4, h5⟩
  k23 := fun h => by
    rw [show T32 23 [] h = T2 23 [] h from by simp (disch := decide) only [T3, T4, T5, T6, T7, T8, T9, T10, T11, T12, T13, T14, T15, T16, T17, T18, T19, T20, T21, T22, T23, T24, T25, T26, T27, T28, T29, T30, T31, T32, addI_ne, addX_ne, addV_ne, addK_ne]]; exact k23 h
theorem stripRows_c (h : Heap) (q m : Int) (x y : AV) (B W : List (List Int)) (mx : MR h x B) (my : MR h y W) : CallsTo tbl T32 4 [.agg [G q, x, y], G m] h (.bool true, [], false) := c4_ok T32 kR32 (fun _ _ => by simp (disch := decide) only [T1, T2, T3, T4, T5, T6, T7, T8, T9, T10, T11, T12, T13, T14, T15, T16, T17, T18, T19, T20, T21, T22, T23, T24, T25, T26, T27, T28, T29, T30, T31, T32, addI_ne, addX_ne, addV_ne, addK_ne]; rfl) h mx my
theorem stripRows_ok (h : Heap) (m : Int) {nq : Int} {x y : AV} {B W : List (List Int)} (mx : MR h x B) (my : MR h y W) : CallsTo tbl T32 4 [.agg [G nq, x, y], G m] h (.bool true, [], false) := stripRows_c h nq m x y B W mx my
end Go.Proofs.Ytljgfdamdcikgaa.Ev
set_option linter.unusedVariables false
set_option linter.unusedSimpArgs false
namespace Go.AEv
open Go.ChangeShapes Go.WideShapes Go.Proofs.Ytljgfdamdcikgaa.Ev
theorem MR.ext {h h' : Heap} (e : Ext h h') {y : AV} {M : List (List Int)} (m : MR h y M) : MR h' y M := by
  rcases m with m | ⟨b, v, cs, rfl, g, hl, hr⟩
  · exact .inl m
  · refine .inr ⟨b, v, cs, rfl, e _ _ g (by simp), hl, fun i r q => ?_⟩
    obtain ⟨l, h1, h2⟩ := hr i r q
    exact ⟨l, h1, LR.ext e h2⟩
theorem rows_lo {CK : CKT} {w : World} {H : Type} {enc : TypeId × Value → H} {P : Program} {e i : TypeId} (he : P.underlying e = some (.slice i)) (hi : P.underlying i = some (.int .i64)) (hc : P.cellsOf i = 1) :
    ∀ (vs : List Value) {φ : Nat → Emb} {h : Heap} (ho : h.own = []) (hr : HR CK w [] φ h w), (∀ u ∈ vs, ∃ fuel z, DataW.trod enc P w 0 (fun _ => true) true fuel e [u] = some z) →
    ∃ φ' h', ∃ (rs : List AV) (ls : List (List Int)), h'.own = [] ∧ HR CK w [] φ' h' w ∧ Stp φ h φ' h' ∧ Ext h h' ∧ rs.length = vs.length ∧ ls.length = vs.length ∧ ∀ (j : Nat) u r, vs[j]? = some u → rs[j]? = some r → VR φ' h' r u ∧ Value.oneCell' u = true ∧ ∃ l, ls[j]? = some l ∧ LR h' r l
  | [], φ, h, ho, hr, _ => ⟨φ, h, [], [], ho, hr, Stp.refl φ h, Ext.refl h, rfl, rfl, fun j u r q => by simp at q⟩
  | u :: us, φ, h, ho, hr, ht => by
    obtain ⟨fuel, z, hf⟩ := ht u (by simp)
    obtain ⟨φ1, h1, x, l, o1, r1, s1, e1, v1, p1, c1⟩ := ints_lo0 ho hr he hi hc hf
    obtain ⟨φ2, h2, rs, ls, o2, r2, s2, e2, l1, l2, q⟩ := rows_lo he hi hc us o1 r1 (fun u' hu => ht u' (by simp [hu]))
    refine ⟨φ2, h2, x :: rs, l :: ls, o2, r2, s1.trans s2, e1.trans e2, by simp [l1], by simp [l2], fun j u' r hu hr' => ?_⟩
    cases j with
    | zero =>
      simp only [List.getElem?_cons_zero, Option.some.injEq] at hu hr'
      subst hu hr'
      exact ⟨VR.step s2 _ _ v1, c1, l, rfl, p1.ext e2⟩
    | succ j =>
      simp only [List.getElem?_cons_succ] at hu hr' ⊢
      exact q j u' r hu hr'
theorem mat_lo0 {CK : CKT} {φ : Nat → Emb} {h : Heap} {w : World} (ho : h.own = []) (hr : HR CK w [] φ h w) {H : Type} {enc : TypeId × Value → H} {P : Program} {t e i : TypeId} {v : Value} {fuel : Nat} {z : DataW H × List MemPlace}
    (ht : P.underlying t = some (.slice e)) (he : P.underlying e = some (.slice i)) (hi : P.underlying i = some (.int .i64)) (hce : P.cellsOf e = 1) (hci : P.cellsOf i = 1) (hf : DataW.trod enc P w 0 (fun _ => true) true fuel t [v] = some z) :
    ∃ φ' h' x M, h'.own = [] ∧ HR CK w [] φ' h' w ∧ Stp φ h φ' h' ∧ Ext h h' ∧ VR φ' h' x v ∧ MR h' x M ∧ Value.oneCell' v = true := by
  rcases DataW.trod_slice ht hf with ⟨hcs, _⟩ | ⟨a, len, cap, elems, rest, n, _, hcs, _, _, hl, hm, hlen, hel, hsp, _⟩
  · have hcs' : v = .slice none 0 0 := (List.cons.inj hcs).1
    rw [hcs']
    exact ⟨φ, h, .nils, [], ho, hr, Stp.refl φ h, Ext.refl h, by simp [VR], .inl ⟨.inl rfl, rfl⟩, rfl⟩
  · have hcs' : v = .slice (some a) len cap := (List.cons.inj hcs).1
    rw [hcs']
    by_cases h0 : len = 0
    · subst h0
      exact ⟨φ, h, .slice0, [], ho, hr, Stp.refl φ h, Ext.refl h, by simp [VR], .inl ⟨.inr rfl, rfl⟩, rfl⟩
    · obtain ⟨hrl, hre⟩ := hsp rfl
      have each : ∀ j, j < cap → ∃ u, w.cell? (a.add j) = some u ∧ ∃ z, DataW.trod enc P w 0 (fun _ => true) true n e [u] = some z := fun j hj => by
        have hb' : ∃ y, (w.cells? 0 (a.add (j * P.cellsOf e)) (P.cellsOf e)).bind (DataW.trod enc P w 0 (fun _ => true) true n e) = some y := by
          by_cases hjl : j < len
          · rw [hel j hjl, List.getElem?_eq_getElem (by omega)]; exact ⟨_, rfl⟩
          · have := hre (j - len) (by omega)
            rw [show len + (j - len) = j by omega] at this
            rw [this, List.getElem?_eq_getElem (by omega)]; exact ⟨_, rfl⟩
        obtain ⟨y, hy⟩ := hb'
        rw [hce, Nat.mul_one, Option.bind_eq_some_iff] at hy
        obtain ⟨cs', h1, h2⟩ := hy
        have hl1 := (World.cells?_some h1).2.1
        obtain ⟨u, rfl⟩ : ∃ u, cs' = [u] := by
          cases cs' with
          | nil => simp at hl1
          | cons u r => cases r with
            | nil => exact ⟨u, rfl⟩
            | cons u' r => simp at hl1
        exact ⟨u, cell_of_cells?_one h1, y, h2⟩
      obtain ⟨f, hfe⟩ : ∃ f : Nat → Value, ∀ j, j < cap → w.cell? (a.add j) = some (f j) ∧ ∃ z, DataW.trod enc P w 0 (fun _ => true) true n e [f j] = some z :=
        ⟨fun j => if hj : j < cap then Classical.choose (each j hj) else .nilFunc, fun j hj => by
          simp only [dif_pos hj]
          exact Classical.choose_spec (each j hj)⟩
      obtain ⟨b, off, spot⟩ := a
      have hspot : spot = none := by simpa [Addr.add] using World.cell?_spot (hfe 0 (by omega)).1
      subst hspot
      have hcell : ∀ j, j < cap → w.cell? ⟨b, off + j, none⟩ = some (f j) := fun j hj => by rw [← Go.WideShapes.add_plain]; exact (hfe j hj).1
      obtain ⟨c, ty, fr, hb, hc0⟩ := cell_obj (hcell 0 (by omega))
      have hcj : ∀ j, j < cap → c[off + j]? = some (f j) := fun j hj => by
        obtain ⟨c', ty', fr', hb', hcj⟩ := cell_obj (hcell j hj)
        rw [hb] at hb'
        simp only [Option.some.injEq, Obj.cells.injEq] at hb'
        obtain ⟨rfl, _⟩ := hb'
        exact hcj
      have hsize : off + cap ≤ c.size := by
        have := (Array.getElem?_eq_some_iff.1 (hcj (cap - 1) (by omega))).1
        omega
      obtain ⟨φ1, h1, rs, ls, o1, r1, s1, e1, l1, l2, q⟩ := rows_lo he hi hci ((List.range len).map f) ho hr (fun u hu => by
        obtain ⟨j, hj, rfl⟩ := List.mem_map.1 hu
        obtain ⟨z, hz⟩ := (hfe j (by have := List.mem_range.1 hj; omega)).2
        exact ⟨n, z, hz⟩)
      simp only [List.length_map, List.length_range] at l1 l2
      have hat : ∀ j, j < len → ((List.range len).map f)[j]? = some (f j) := fun j hj => by simp [hj]
      refine ⟨AEv.upd φ1 h1.N ⟨b, off, cap⟩, h1.more (.cells 1 len rs), .slice h1.N 0 len len, ls, rfl, lo_add o1 r1 _ _ ?_, s1.trans (lo_stp o1 _ _), e1.trans (more_ext h1 o1 _), ?_, .inr ⟨h1.N, len, rs, by rw [l2], more_at _ _, by omega, fun j r hr' => ?_⟩, rfl⟩
      · refine ⟨c, ty, fr, hb, hsize, by show rs.length ≤ cap; omega, fun j x hx => ?_⟩
        have hj : j < len := by have := (List.getElem?_eq_some_iff.1 hx).1; omega
        obtain ⟨q1, q2, _⟩ := q j (f j) x (hat j hj) hx
        exact ⟨f j, hcj j (by omega), VR.step (lo_stp o1 _ _) _ _ q1, q2⟩
      · simp only [VR]
        exact ⟨_, cap, 1, len, _, rfl, hl, more_at _ _, Nat.le_refl _, fun _ => ⟨by simp [AEv.upd], fun _ _ => by simp [AEv.upd]⟩⟩
      · have hj : j < len := by have := (List.getElem?_eq_some_iff.1 hr').1; omega
        obtain ⟨_, _, l, q3, q4⟩ := q j (f j) r (hat j hj) hr'
        exact ⟨l, q3, q4.ext (more_ext h1 o1 _)⟩
structure RuleKey (P : Program) (k i t : TypeId) (f g l : Field) : Prop where
  hu : P.underlying k = some (.struct #[f, g, l])
  size : P.cellsOf k = 3
  ci : P.cellsOf i = 1
  ct : P.cellsOf t = 1
  f1 : f.type = i
  f2 : g.type = t
  f3 : l.type = t
  o1 : f.offset = 0
  o2 : g.offset = 1
  o3 : l.offset = 2
theorem okWide_rule {P : Program} {W : World} {k i t : TypeId} {f g l : Field} (A : RuleKey P k i t f g l) {r : Reach} {b0 : Nat} {v : Value} (h : Value.okWide P W r b0 k v) : ∃ c0 c1 c2, v = .agg #[c0, c1, c2] := by
  simp only [Value.okWide, A.hu] at h
  obtain ⟨cs, h1, h2, _⟩ := h
  rw [A.size] at h2
  obtain ⟨l⟩ := cs
  match l, h2 with
  | [c0, c1, c2], _ => exact ⟨c0, c1, c2, h1⟩
theorem rule_lo {CK : CKT} {φ : Nat → Emb} {h : Heap} {w : World} (ho : h.own = []) (hr : HR CK w [] φ h w) {H : Type} {enc : TypeId × Value → H} {P : Program} {k i t e : TypeId} {f g l : Field} {v : Value} {d : DataW H} {p : List MemPlace} (A : RuleKey P k i t f g l)
    (ht : P.underlying t = some (.slice e)) (he : P.underlying e = some (.slice i)) (hi : P.underlying i = some (.int .i64)) (hce : P.cellsOf e = 1) {r : Reach} {b0 : Nat} (hval : Value.okWide P w r b0 k v) (kd : DataW.Trod enc P w 0 (fun _ => true) true k v d p) :
    ∃ φ' h' q x y B W, h'.own = [] ∧ HR CK w [] φ' h' w ∧ Stp φ h φ' h' ∧ Ext h h' ∧ VR φ' h' (.agg [.int .i64 q, x, y]) v ∧ MR h' x B ∧ MR h' y W := by
  obtain ⟨c0, c1, c2, rfl⟩ := okWide_rule A hval
  obtain ⟨fuel, hf⟩ := kd
  cases fuel with
  | zero => simp [DataW.trod] at hf
  | succ n =>
    rw [DataW.trod_step] at hf
    unfold DataW.trodStep at hf
    simp only [A.hu, Value.cells] at hf
    rw [if_pos (by rw [A.size]; rfl)] at hf
    simp only [Option.map_eq_some_iff] at hf
    obtain ⟨xs, hx, e1⟩ := hf
    rw [List.mapM_cons, List.mapM_cons, List.mapM_cons, List.mapM_nil] at hx
    simp only [bind, Option.bind_eq_some_iff, pure, Option.some.injEq, A.ci, A.ct, A.f1, A.f2, A.f3, A.o1, A.o2, A.o3] at hx
    obtain ⟨y0, h0, _, ⟨y1, h1, _, ⟨y2, h2, _, rfl, rfl⟩, rfl⟩, rfl⟩ := hx
    have h0' : DataW.trod enc P w 0 (fun _ => true) true n i [c0] = some y0 := h0
    have h1' : DataW.trod enc P w 0 (fun _ => true) true n t [c1] = some y1 := h1
    have h2' : DataW.trod enc P w 0 (fun _ => true) true n t [c2] = some y2 := h2
    obtain ⟨a, ea, _, _⟩ := DataW.trod_int hi h0'
    obtain rfl : c0 = .int .i64 a := by simpa using ea
    obtain ⟨φ1, m1, x, B, o1, r1, s1, x1, v1, p1, q1⟩ := mat_lo0 ho hr ht he hi hce A.ci h1'
    obtain ⟨φ2, m2, y, W, o2, r2, s2, x2, v2, p2, q2⟩ := mat_lo0 o1 r1 ht he hi hce A.ci h2'
    refine ⟨φ2, m2, a, x, y, B, W, o2, r2, s1.trans s2, x1.trans x2, ?_, Go.AEv.MR.ext x2 p1, p2⟩
    simp only [VR, VRs]
    refine ⟨#[.int .i64 a, c1, c2], rfl, ⟨_, [c1, c2], rfl, rfl, c1, [c2], rfl, VR.step s2 _ _ v1, c2, [], rfl, v2, rfl⟩, fun z hz => ?_⟩
    simp only [List.mem_cons, List.not_mem_nil, or_false] at hz
    rcases hz with rfl | rfl | rfl
    · rfl
    · exact q1
    · exact q2
end Go.AEv
