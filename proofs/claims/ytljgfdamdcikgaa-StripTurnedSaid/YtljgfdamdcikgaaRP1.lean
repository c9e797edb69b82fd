/-
  Of the functions that this law reaches, part 1: what they answer. No condition.
-/
import Derived.Test.YtljgfdamdcikgaaRP0
import Derived.WideKeyPair
set_option linter.unusedVariables false
set_option linter.unusedSimpArgs false
namespace Go.Proofs.Ytljgfdamdcikgaa.Ev
open Go Go.AEv
attribute [local simp] evFunc initS evOps_c evTrim_c evSkip_c evExit_c evRet_c evSeq_c evCond_c evBlock_c evDraw_c runOps_n runOps_c exec_n exec_g pure1_c act AOpd.ev T.get T.set T.put evBin evUn forceT_eq forceV_eq forceL_eq evRess evRes one keep runFP_n runFP_c app_none AV.flats AV.flat came_some List.getElem?_cons_zero List.getElem?_cons_succ beqT wrapI idxI tdivI tmodI decT decF ibT ibF inT inF evScope_c if_pos if_neg Cm_some thenW_n thenW_e thenW_r blkW_n blkW_e blkW_r goI kn putAt AV.cells fillA loadA takeA mk Eff.isAll Eff.isNone Eff.commutes Eff.spares okPair apart eqAgg fits LK.fits allEq aveq eqk mmA
section
variable {A B : List (List Int)}
theorem c22_loop (J : CallF) (k64 : K64 J) {H : Heap} {bx bz : Nat} {rx rz : List AV} {n : Nat} (gx : H.get bx = .cells 1 n rx) (gz : H.get bz = .cells 1 n rz) (lx : rx.length = n) (lz : rz.length = n) (hn : n ≤ 1000000) (hA : A.length = n) (hB : B.length = n) (hs : ∀ l ∈ A, l.length ≤ 1000000)
    (hx : ∀ (i : Nat) r, rx[i]? = some r → ∃ l, A[i]? = some l ∧ listOf H r = some l) (hz : ∀ (i : Nat) r, rz[i]? = some r → ∃ l, B[i]? = some l ∧ listOf H r = some l) : ∀ d i, i + d = n →
    (A.drop i = B.drop i → Tr tbl J c22_l0 (fun s h => h = H ∧ s.get [] = .slice bx 0 n n ∧ s.get [false] = .slice bz 0 n n ∧ s.get [false, true] = G i) (.exit 0) (fun _ _ => True)) ∧
    (A.drop i ≠ B.drop i → Tr tbl J c22_l0 (fun s h => h = H ∧ s.get [] = .slice bx 0 n n ∧ s.get [false] = .slice bz 0 n n ∧ s.get [false, true] = G i) .ret (fun s h => s.get [true, false] = .bool false)) := by
  intro d
  induction d with
  | zero =>
    intro i hi
    obtain rfl : i = n := by omega
    refine ⟨fun _ => Tr.out ?_ (by simp), fun c => absurd (by rw [List.drop_of_length_le (by omega), List.drop_of_length_le (by omega)]) c⟩
    refine Tr.w fun s1 H1 hp _ kR => W.trim ?_
    obtain ⟨rfl, q⟩ := hp
    refine W.assoc ?_
    refine W.seq (W.chunk ?_)
    simp (disch := first|omega|exact zE rfl|exact zO|exact zL rfl) [c22_o4, zG, q]
    refine W.seq (W.chunk ?_)
    simp (disch := first|omega|exact zE rfl|exact zO|exact zL rfl) [zG, q]
    exact kR _ _ trivial
  | succ d ih =>
    intro i hi
    obtain ⟨ih1, ih2⟩ := ih (i + 1) (by omega)
    have e1 : rx[i]? = some rx[i] := List.getElem?_eq_getElem (by omega)
    have e2 : rz[i]? = some rz[i] := List.getElem?_eq_getElem (by omega)
    obtain ⟨la, a1, a2⟩ := hx i _ e1
    obtain ⟨lb, b1, b2⟩ := hz i _ e2
    have k := k64 H _ _ la lb a2 b2 (hs la (List.mem_of_getElem? a1))
    have da : A.drop i = la :: A.drop (i + 1) := by rw [List.drop_eq_getElem_cons (by omega)]; congr 1; rw [List.getElem?_eq_getElem (by omega)] at a1; exact Option.some.inj a1
    have db : B.drop i = lb :: B.drop (i + 1) := by rw [List.drop_eq_getElem_cons (by omega)]; congr 1; rw [List.getElem?_eq_getElem (by omega)] at b1; exact Option.some.inj b1
    rw [da, db]
    generalize rx[i] = ra at *
    generalize rz[i] = rb at *
    have e1' := getI e1
    have e2' := getI e2
    clear hx hz ih
    by_cases c : la = lb
    · rw [decide_eq_true c] at k
      have step : Tr tbl J (.trim [[], [false], [false, true]] c22_b0) (fun s h => h = H ∧ s.get [] = .slice bx 0 n n ∧ s.get [false] = .slice bz 0 n n ∧ s.get [false, true] = G i) .normal (fun s h => h = H ∧ s.get [] = .slice bx 0 n n ∧ s.get [false] = .slice bz 0 n n ∧ s.get [false, true] = G ((i + 1 : Nat) : Int)) := by
        refine Tr.w fun s1 H1 hp _ kR => W.trim ?_
        obtain ⟨rfl, q⟩ := hp
        refine W.assoc ?_
        refine W.seq (W.chunk ?_)
        simp (disch := first|omega|exact zE rfl|exact zO|exact zL rfl) [c22_o4, zG, q]
        refine W.seq (W.chunk ?_)
        simp (disch := first|omega|exact zE rfl|exact zO|exact zL rfl) [zG, q]
        refine W.seq (W.block ?_)
        refine W.seq (W.chunk ?_)
        simp (disch := first|omega|exact zE rfl|exact zO|exact zL rfl) [c22_o5, zG, q, gx, gz, e1, e1', e2, e2', k, -evDraw_c, evDraw_0]
        refine W.chunk ?_
        simp (disch := first|omega|exact zE rfl|exact zO|exact zL rfl) [c22_o6, zG, q]
        refine W.chunk ?_
        simp (disch := first|omega|exact zE rfl|exact zO|exact zL rfl) [c22_o7, zG, q]
        exact kR _ _ (by simp [T.get, q])
      subst c
      exact ⟨fun q => Tr.next step (ih1 (List.cons.inj q).2), fun q => Tr.next step (ih2 fun r => q (by rw [r]))⟩
    · rw [decide_eq_false c] at k
      refine ⟨fun q => absurd (List.cons.inj q).1 c, fun _ => Tr.out ?_ (by simp)⟩
      refine Tr.w fun s1 H1 hp _ kR => W.trim ?_
      obtain ⟨rfl, q⟩ := hp
      refine W.assoc ?_
      refine W.seq (W.chunk ?_)
      simp (disch := first|omega|exact zE rfl|exact zO|exact zL rfl) [c22_o4, zG, q]
      refine W.seq (W.chunk ?_)
      simp (disch := first|omega|exact zE rfl|exact zO|exact zL rfl) [zG, q]
      refine W.seq (W.block ?_)
      refine W.seq (W.chunk ?_)
      simp (disch := first|omega|exact zE rfl|exact zO|exact zL rfl) [c22_o5, zG, q, gx, gz, e1, e1', e2, e2', k, -evDraw_c, evDraw_0]
      refine W.chunk ?_
      simp (disch := first|omega|exact zE rfl|exact zO|exact zL rfl) [c22_o6, zG, q]
      exact kR _ _ (by simp [T.get, q])
theorem c22_l00 (J : CallF) {H : Heap} {y z : AV} (hy : y = .nils ∨ ∃ b, y = .slice b 0 0 0) : Tr tbl J c22_l0 (fun s h => h = H ∧ s.get [] = y ∧ s.get [false] = z ∧ s.get [false, true] = G 0) (.exit 0) (fun _ _ => True) := by
  refine Tr.out ?_ (by simp)
  rcases hy with rfl | ⟨b, rfl⟩
  all_goals
    refine Tr.w fun s1 H1 hp _ kR => W.trim ?_
    obtain ⟨rfl, q⟩ := hp
    refine W.assoc ?_
    refine W.seq (W.chunk ?_)
    simp (disch := first|omega|exact zE rfl|exact zO|exact zL rfl) [c22_o4, zG, q]
    refine W.seq (W.chunk ?_)
    simp (disch := first|omega|exact zE rfl|exact zO|exact zL rfl) [zG, q]
    exact kR _ _ trivial
theorem c22_ok (J : CallF) (k64 : K64 J) (hJ : ∀ a h, J 22 a h = none) (h : Heap) {x z : AV} (hx : LT h x A) (hz : LT h z B) (hA : A.length ≤ 1000000) (hB : B.length ≤ 1000000) (hs : ∀ l ∈ A, l.length ≤ 1000000) : CallsTo tbl J 22 [x, z] h (.bool (decide (A = B)), [], false) := by
  refine Tr.fnv (cf := c22) (e := .ret) (s := T.set (T.set .leaf [] x) [false] z) (by decide) rfl (hJ _ _) rfl rfl rfl (by simp) ?_
  obtain ⟨rx, vx, lx, hxr⟩ := hx.lo []
  obtain ⟨rz, vz, lz, hzr⟩ := hz.lo []
  have fe : (⟨h.get, h.size, []⟩ : Heap) = frameOf h := rfl
  rw [fe] at vx vz hxr hzr
  refine Tr.w fun s1 H1 hp R kR => ?_
  obtain ⟨rfl, rfl⟩ := hp
  have q : True := trivial
  have fin : ∀ b : Bool, decide (A = B) = b → ∀ s h', s.get [true, false] = .bool b → R .ret s h' := fun b e s h' a => kR _ _ ⟨[.bool b], by simp [c22, evRess, evRes, a], by rw [e]; rfl⟩
  clear kR
  rw [lx] at vx
  rw [lz] at vz
  by_cases hl : A.length = B.length
  · by_cases h0 : A.length = 0
    · have hA0 : A = [] := List.length_eq_zero_iff.1 h0
      have hB0 : B = [] := List.length_eq_zero_iff.1 (by omega)
      subst hA0 hB0
      have fin := fin true rfl
      have sx : x = .nils ∨ ∃ b, x = .slice b 0 0 0 := by
        rcases vx with ⟨e, _⟩ | ⟨b, e, _⟩
        · exact .inl e
        · exact .inr ⟨b, e⟩
      have sz : z = .nils ∨ ∃ b, z = .slice b 0 0 0 := by
        rcases vz with ⟨e, _⟩ | ⟨b, e, _⟩
        · exact .inl e
        · exact .inr ⟨b, e⟩
      have l0 := c22_l00 (z := z) (H := frameOf h) J sx
      clear vx vz hxr hzr hx hz
      rcases sx with rfl | ⟨b, rfl⟩ <;> rcases sz with rfl | ⟨b', rfl⟩
      all_goals
        refine W.seq (W.chunk ?_)
        simp (disch := first|omega|exact zE rfl|exact zO|exact zL rfl) [c22_o0, zG, q]
        refine W.assoc ?_
        refine W.seq (W.chunk ?_)
        simp (disch := first|omega|exact zE rfl|exact zO|exact zL rfl) [c22_o1, zG, q]
        refine W.seq (W.chunk ?_)
        simp (disch := first|omega|exact zE rfl|exact zO|exact zL rfl) [c22_o2, zG, q]
        refine W.assoc ?_
        refine W.seq (W.chunk ?_)
        simp (disch := first|omega|exact zE rfl|exact zO|exact zL rfl) [c22_o3, zG, q]
        refine W.seq (W.block ?_)
        refine W.use (l0) (by simp (disch := first|omega|exact zE rfl|exact zO|exact zL rfl) [zG, q]) fun s1 H1 hp => ?_
        try simp only [zW, if_true]
        refine W.seq (W.chunk ?_)
        simp (disch := first|omega|exact zE rfl|exact zO|exact zL rfl) [c22_o8, zG, q]
        refine W.ret ?_
        try simp only [zW, if_true]
        exact fin _ _ (by simp [T.get])
    · rcases vx with ⟨rfl, e⟩ | ⟨bx, rfl, gx⟩
      · rw [e] at lx; simp at lx; omega
      rcases vz with ⟨rfl, e⟩ | ⟨bz, rfl, gz⟩
      · rw [e] at lz; simp at lz; omega
      rw [← hl] at lz gz ⊢
      obtain ⟨l1, l2⟩ := c22_loop (A := A) (B := B) J k64 gx gz lx lz hA rfl hl.symm hs hxr hzr A.length 0 (by omega)
      rw [List.drop_zero, List.drop_zero] at l1 l2
      clear hxr hzr hx hz hs
      generalize A.length = n at *
      by_cases c : A = B
      · have l1 := l1 c
        have fin := fin true (decide_eq_true c)
        refine W.seq (W.chunk ?_)
        simp (disch := first|omega|exact zE rfl|exact zO|exact zL rfl) [c22_o0, zG, q]
        refine W.assoc ?_
        refine W.seq (W.chunk ?_)
        simp (disch := first|omega|exact zE rfl|exact zO|exact zL rfl) [c22_o1, zG, q]
        refine W.seq (W.chunk ?_)
        simp (disch := first|omega|exact zE rfl|exact zO|exact zL rfl) [c22_o2, zG, q]
        refine W.assoc ?_
        refine W.seq (W.chunk ?_)
        simp (disch := first|omega|exact zE rfl|exact zO|exact zL rfl) [c22_o3, zG, q]
        refine W.seq (W.block ?_)
        refine W.use (l1) (by simp (disch := first|omega|exact zE rfl|exact zO|exact zL rfl) [zG, q]) fun s1 H1 hp => ?_
        try simp only [zW, if_true]
        refine W.seq (W.chunk ?_)
        simp (disch := first|omega|exact zE rfl|exact zO|exact zL rfl) [c22_o8, zG, q]
        refine W.ret ?_
        try simp only [zW, if_true]
        exact fin _ _ (by simp [T.get])
      · have l2 := l2 c
        have fin := fin false (decide_eq_false c)
        refine W.seq (W.chunk ?_)
        simp (disch := first|omega|exact zE rfl|exact zO|exact zL rfl) [c22_o0, zG, q]
        refine W.assoc ?_
        refine W.seq (W.chunk ?_)
        simp (disch := first|omega|exact zE rfl|exact zO|exact zL rfl) [c22_o1, zG, q]
        refine W.seq (W.chunk ?_)
        simp (disch := first|omega|exact zE rfl|exact zO|exact zL rfl) [c22_o2, zG, q]
        refine W.assoc ?_
        refine W.seq (W.chunk ?_)
        simp (disch := first|omega|exact zE rfl|exact zO|exact zL rfl) [c22_o3, zG, q]
        refine W.seq (W.block ?_)
        refine W.use (l2) (by simp (disch := first|omega|exact zE rfl|exact zO|exact zL rfl) [zG, q]) fun s1 H1 hp => ?_
        try simp only [zW, if_true]
        exact fin _ _ hp
  · have fin := fin false (decide_eq_false fun e => hl (by rw [e]))
    clear hxr hzr hx hz hs
    generalize A.length = n at *
    generalize B.length = m at *
    have sx : (x = .nils ∧ n = 0) ∨ ∃ b, x = .slice b 0 n n := by
      rcases vx with ⟨e, e2⟩ | ⟨b, e, _⟩
      · exact .inl ⟨e, by rw [← lx, e2]; rfl⟩
      · exact .inr ⟨b, e⟩
    have sz : (z = .nils ∧ m = 0) ∨ ∃ b, z = .slice b 0 m m := by
      rcases vz with ⟨e, e2⟩ | ⟨b, e, _⟩
      · exact .inl ⟨e, by rw [← lz, e2]; rfl⟩
      · exact .inr ⟨b, e⟩
    clear vx vz
    rcases sx with ⟨rfl, rfl⟩ | ⟨b, rfl⟩ <;> rcases sz with ⟨rfl, rfl⟩ | ⟨b', rfl⟩
    all_goals try (exfalso; omega)
    all_goals
      refine W.seq (W.chunk ?_)
      simp (disch := first|omega|exact zE rfl|exact zO|exact zL rfl) [c22_o0, zG, q]
      refine W.assoc ?_
      refine W.seq (W.chunk ?_)
      simp (disch := first|omega|exact zE rfl|exact zO|exact zL rfl) [c22_o1, zG, q]
      refine W.seq (W.chunk ?_)
      simp (disch := first|omega|exact zE rfl|exact zO|exact zL rfl) [c22_o2, zG, q]
      exact fin _ _ (by simp [T.get])
end
structure A47 where
  A : List (List Int)
  B : List (List Int)
  x : AV
  z : AV
def Ok47 (a : A47) (h : Heap) : Prop := LT h a.x a.A ∧ LT h a.z a.B ∧ a.A.length ≤ 1000000 ∧ a.B.length ≤ 1000000 ∧ ∀ l ∈ a.A, l.length ≤ 1000000
def Pre22 (a : A47) (args : List AV) (h : Heap) : Prop := Ok47 a h ∧ args = [a.x, a.z]
def Post22 (a : A47) (h : Heap) (v : AV) (own : List AObj) : Prop := v = .bool (decide (a.A = a.B)) ∧ own = []
noncomputable def T28 : CallF := addK tbl T27 22 Pre22 Post22
theorem t28 : Sound Go.Proofs.Try.prog T28 := Sound.addK follows ok t27 (by decide) _ _
abbrev K22 (J : CallF) : Prop := ∀ (h : Heap) (a : A47), Ok47 a h → J 22 [a.x, a.z] h = some (.bool (decide (a.A = a.B)), [], false)
theorem k64_27 : K64 T27 := fun h x y a b hx hy hn => by
  rw [show T27 64 [x, y] h = T26 64 [x, y] h from by simp (disch := decide) only [T27, addK_ne]]
  exact k64 h x y a b hx hy hn
theorem k22 : K22 T28 := fun h a ha => by
  obtain ⟨v, own, e, rfl, rfl⟩ := addK_some (Pre := Pre22) (Post := Post22) (fun a args h hp => by
    obtain ⟨⟨h1, h2, h3, h4, h5⟩, rfl⟩ := hp
    exact ⟨_, _, c22_ok T27 k64_27 (fun _ _ => by simp (disch := decide) only [T1, T2, T3, T4, T5, T6, T7, T8, T9, T10, T11, T12, T13, T14, T15, T16, T17, T18, T19, T20, T21, T22, T23, T24, T25, T26, T27, addI_ne, addX_ne, addV_ne, addK_ne]; rfl) h h1 h2 h3 h4 h5, rfl, rfl⟩) a _ h ⟨ha, rfl⟩
  exact e
theorem c92_nil (J : CallF) (hJ : ∀ a h, J 92 a h = none) (h : Heap) {x : AV} (hx : x = .nils ∨ x = .slice0) : CallsTo tbl J 92 [x] h (.nils, [], false) := by
  refine Tr.fnv (cf := c92) (e := .ret) (s := T.set .leaf [] x) (by decide) rfl (hJ _ _) rfl rfl rfl (by simp) ?_
  refine Tr.post (Q := (fun s h => s.get [true] = .nils)) (fun s h q => by simp [c92, q]) ?_
  have t : Tr tbl J ((.seq c92_o0 (.seq c92_o1 (.seq c92_o2 .ret)))) (fun s h' => s = T.set .leaf [] x ∧ h' = frameOf h) .ret (fun s h => s.get [true] = .nils) := Tr.region fun s h hp => by
    obtain ⟨rfl, rfl⟩ := hp
    rcases hx with rfl | rfl <;> simp (disch := first|omega|exact zE rfl|exact zO|exact zL rfl) [c92_o0, c92_o1, c92_o2, size_mk, get_mk_lt, get_mk_ge, frameOf, Eff.app, Heap.setOwn, slSlA, bounds, elems, rdOf, appA]
  exact t
theorem c92_nil2 (J : CallF) (hJ : ∀ a h, J 92 a h = none) (h : Heap) {b v : Nat} (hb : h.get b = .cells 1 v []) : CallsTo tbl J 92 [.slice b 0 0 v] h (.nils, [], false) := by
  have hlt := get_lt hb (by simp)
  refine Tr.fnv (cf := c92) (e := .ret) (s := T.set .leaf [] (.slice b 0 0 v)) (by decide) rfl (hJ _ _) rfl rfl rfl (by simp) ?_
  refine Tr.post (Q := (fun s h => s.get [true] = .nils)) (fun s h q => by simp [c92, q]) ?_
  have t : Tr tbl J ((.seq c92_o0 (.seq c92_o1 (.seq c92_o2 .ret)))) (fun s h' => s = T.set .leaf [] (.slice b 0 0 v) ∧ h' = frameOf h) .ret (fun s h => s.get [true] = .nils) := Tr.region fun s h hp => by
    obtain ⟨rfl, rfl⟩ := hp
    simp (disch := first|omega|exact zE rfl|exact zO|exact zL rfl) [c92_o0, c92_o1, c92_o2, frameOf, size_mk, get_mk_lt, get_mk_ge, frameOf, Eff.app, Heap.setOwn, slSlA, bounds, elems, rdOf, appA, hb]
  exact t
theorem c92_ok (J : CallF) (hJ : ∀ a h, J 92 a h = none) (h : Heap) {b v : Nat} {A : List Int} (hb : h.get b = .cells 1 v (gs A)) (hA : A ≠ []) :
    CallsTo tbl J 92 [.slice b 0 A.length v] h (.slice h.size 0 (A.take 6).length (A.take 6).length, [.cells 1 (A.take 6).length (gs (A.take 6))], false) := by
  have hlt := get_lt hb (by simp)
  have hl : (A.take 6).length = min 6 A.length := List.length_take
  have hp : 0 < A.length := List.length_pos_iff.2 hA
  obtain ⟨m, hm⟩ : ∃ m, (A.take 6).length = m := ⟨_, rfl⟩
  rw [hm] at hl ⊢
  have e1 : (gs A).take m = gs (A.take 6) := by
    rw [← List.map_take]
    congr 1
    by_cases hA : A.length ≤ 6
    · rw [List.take_of_length_le (by omega), List.take_of_length_le hA]
    · rw [show m = 6 by omega]
  have e2 : (gs (A.take 6)).length = m := by simp; omega
  obtain ⟨L, hL⟩ : ∃ L, A.length = L := ⟨_, rfl⟩
  rw [hL] at hl hp ⊢
  have e3 : (if (6 : Int) < (L : Int) then (6 : Int) else (L : Int)) = m := by split <;> omega
  have e4 : ¬ (0 = L ∧ 0 < L) := by omega
  generalize gs (A.take 6) = cs at *
  generalize gs A = ca at *
  refine Tr.fnh (cf := c92) (e := .ret) (s := T.set .leaf [] (.slice b 0 L v)) (by decide) rfl (hJ _ _) rfl rfl rfl (by simp) ?_
  refine Tr.post (Q := (fun s h' => s.get [true] = .slice h.size 0 m m ∧ h' = ⟨h.get, h.size, [.cells 1 m cs]⟩)) (fun s h' q => by
    obtain ⟨q1, rfl⟩ := q
    simp [c92, q1]) ?_
  have t : Tr tbl J ((.seq c92_o0 (.seq c92_o1 (.seq c92_o2 .ret)))) (fun s h' => s = T.set .leaf [] (.slice b 0 L v) ∧ h' = frameOf h) .ret (fun s h' => s.get [true] = .slice h.size 0 m m ∧ h' = ⟨h.get, h.size, [.cells 1 m cs]⟩) := Tr.region fun s h hp => by
    obtain ⟨rfl, rfl⟩ := hp
    simp (disch := first|omega|exact zE rfl|exact zO|exact zL rfl) [c92_o0, c92_o1, c92_o2, frameOf, size_mk, get_mk_lt, get_mk_ge, frameOf, Eff.app, Heap.setOwn, slSlA, bounds, elems, rdOf, appA, hb, e1, e2, e3, e4]
  exact t
def spec92 : SpecF := fun args h => match args with
  | [.nils] => some (.nils, [], false)
  | [.slice0] => some (.nils, [], false)
  | [.slice b o len v] => match listOf h (.slice b o len v) with
    | some A => if A = [] then some (.nils, [], false) else some (.slice h.size 0 (A.take 6).length (A.take 6).length, [.cells 1 (A.take 6).length (gs (A.take 6))], false)
    | none => none
  | _ => none
theorem spec92_ok (J : CallF) (hJ : ∀ a h, J 92 a h = none) (args : List AV) (h : Heap) (x : AV × List AObj × Bool) (e : spec92 args h = some x) : CallsTo tbl J 92 args h x := by
  unfold spec92 at e
  split at e
  · simp only [Option.some.injEq] at e; subst e; exact c92_nil J hJ h (.inl rfl)
  · simp only [Option.some.injEq] at e; subst e; exact c92_nil J hJ h (.inr rfl)
  · split at e
    · rename_i hl
      split at e
      · rename_i hA
        subst hA
        simp only [Option.some.injEq] at e; subst e
        rcases listOf_some hl with ⟨h1, _⟩ | ⟨b', v', h1, g⟩
        · cases h1
        · cases h1; exact c92_nil2 J hJ h g
      · rename_i hA
        simp only [Option.some.injEq] at e; subst e
        rcases listOf_some hl with ⟨h1, _⟩ | ⟨b', v', h1, g⟩
        · cases h1
        · cases h1; exact c92_ok J hJ h g hA
    · cases e
  · cases e
noncomputable def T29 : CallF := addI T28 92 spec92
theorem t29 : Sound Go.Proofs.Try.prog T29 := Sound.add follows ok t28 (by decide) (fun args h x e => spec92_ok _ (fun _ _ => by simp (disch := decide) only [T1, T2, T3, T4, T5, T6, T7, T8, T9, T10, T11, T12, T13, T14, T15, T16, T17, T18, T19, T20, T21, T22, T23, T24, T25, T26, T27, T28, addI_ne, addX_ne, addV_ne, addK_ne]; rfl) args h x e)
def cutM (M : List (List Int)) : List (List Int) := (M.take 7).map (·.take 6)
section
variable {M : List (List Int)} {y : AV}
end
def Pre66 (b : AV × List (List Int)) (args : List AV) (h : Heap) : Prop := MR h b.1 b.2 ∧ args = [b.1]
def Post66 (b : AV × List (List Int)) (h : Heap) (v : AV) (own : List AObj) : Prop := TG h (h.plus own) v (cutM b.2)
noncomputable def T30 : CallF := addK tbl T29 66 Pre66 Post66
theorem t30 : Sound Go.Proofs.Try.prog T30 := Sound.addK follows ok t29 (by decide) _ _
theorem TG.kpm {M : Nat → Prop} {Hb H0 h h' : Heap} {x : AV} {L : List (List Int)} (t : TG H0 h x L) (k : Kp M h h') (hM : ∀ b, M b → b < H0.size) (k0 : Kp (fun _ => False) Hb h') (hs : Hb.size ≤ H0.size) : TG Hb h' x L := by
  obtain ⟨rs, lv, hl, hr⟩ := t.r
  refine ⟨k0, fun q hq => Nat.le_trans hs (t.x0 q hq), rs, lv.kp k (fun b hb m => by have := t.x0 b hb; have := hM b m; omega), hl, fun i r hi => ?_⟩
  obtain ⟨l, h1, h2, h3⟩ := hr i r hi
  exact ⟨l, h1, listOf_kp k h2 (fun q hq m => by have := hM q m; have := h3 q hq; omega), fun q hq => ⟨(h3 q hq).1, Nat.le_trans hs (h3 q hq).2.1, Nat.lt_of_lt_of_le (h3 q hq).2.2 k.size⟩⟩
theorem TG.sh {H0 h : Heap} {x : AV} {L : List (List Int)} (t : TG H0 h x L) : x = .nils ∨ ∃ b n, x = .slice b 0 n n := by
  obtain ⟨rs, lv, _⟩ := t.r
  exact lv.sh
structure ATs where
  q : Int
  x : AV
  y : AV
  B : List (List Int)
  W : List (List Int)
def Ok24 (a : ATs) (h : Heap) : Prop := MR h a.x a.B ∧ MR h a.y a.W
section
variable {a : ATs}
end
def Pre24 (a : ATs) (args : List AV) (h : Heap) : Prop := Ok24 a h ∧ args = [.agg [G a.q, a.x, a.y]]
def Post24 (a : ATs) (h : Heap) (v : AV) (own : List AObj) : Prop := ∃ x y, v = .agg [G a.q, x, y] ∧ TG h (h.plus own) x (cutM a.B) ∧ TG h (h.plus own) y (cutM a.W)
noncomputable def T31 : CallF := addK tbl T30 24 Pre24 Post24
theorem t31 : Sound Go.Proofs.Try.prog T31 := Sound.addK follows ok t30 (by decide) _ _
section
variable {a : AR} {m : Int}
end
def Post28 (b : ARm) (h : Heap) (v : AV) (own : List AObj) : Prop := v = .bool (b.a.rm b.m) ∧ own = []
noncomputable def T32 : CallF := addK tbl T31 28 PreRm Post28
theorem t32 : Sound Go.Proofs.Try.prog T32 := Sound.addK follows ok t31 (by decide) _ _
end Go.Proofs.Ytljgfdamdcikgaa.Ev
set_option linter.unusedVariables false
set_option linter.unusedSimpArgs false
namespace Go.Proofs.Ytljgfdamdcikgaa.Ev
open Go Go.AEv
def chk99 (n : Nat) : Bool := match (evW tbl noIntr 12).call 99 [.int .u64 1, .int .u64 n] e0 with
  | some (.tup [.int .u64 0, .int .u64 m], [], false) => m == n
  | _ => false
theorem chk99_all : (List.range 244).all chk99 = true := by decide +kernel
theorem c99_ok (n : Nat) (h : n < 244) : CallsTo tbl noIntr 99 [.int .u64 1, .int .u64 n] e0 (.tup [.int .u64 0, .int .u64 n], [], false) := by
  have := List.all_eq_true.1 chk99_all n (List.mem_range.2 h)
  unfold chk99 at this
  split at this
  · rename_i m e
    simp only [beq_iff_eq] at this
    subst this
    exact ⟨12, e⟩
  · cases this
def spec99 : SpecV
  | [.int .u64 a, .int .u64 n] => if a = 1 ∧ 0 ≤ n ∧ n < 244 then some (.tup [.int .u64 0, .int .u64 n]) else none
  | _ => none
end Go.Proofs.Ytljgfdamdcikgaa.Ev
set_option linter.unusedVariables false
set_option linter.unusedSimpArgs false
namespace Go.Proofs.Ytljgfdamdcikgaa.Ev
open Go Go.AEv
attribute [local simp] evFunc initS evOps_c evTrim_c evSkip_c evExit_c evRet_c evSeq_c evCond_c evBlock_c evDraw_c runOps_n runOps_c exec_n exec_g pure1_c act AOpd.ev T.get T.set T.put evBin evUn forceT_eq forceV_eq forceL_eq evRess evRes one keep runFP_n runFP_c app_none AV.flats AV.flat came_some List.getElem?_cons_zero List.getElem?_cons_succ beqT wrapI idxI tdivI tmodI decT decF ibT ibF inT inF evScope_c if_pos if_neg Cm_some thenW_n thenW_e thenW_r blkW_n blkW_e blkW_r goI kn putAt AV.cells fillA loadA takeA mk Eff.isAll Eff.isNone Eff.commutes Eff.spares okPair apart eqAgg fits LK.fits allEq aveq eqk mmA
def RB (n m : Nat) (x : Int) : List AV := List.replicate m (G x) ++ List.replicate (n - m) (G 0)
theorem RB_len {n m : Nat} {x : Int} (h : m ≤ n) : (RB n m x).length = n := by simp [RB]; omega
theorem RB_take (n m : Nat) (x : Int) : (RB n m x).take m = List.replicate m (G x) := by simp [RB]
theorem RB_all (n : Nat) (x : Int) : RB n n x = List.replicate n (G x) := by simp [RB]
theorem rep_put : ∀ (k a : Nat) (y : AV) (cs : List AV), k ≤ cs.length → putAt (List.replicate a y ++ cs) a (List.replicate k y) = List.replicate (a + k) y ++ cs.drop k := by
  intro k
  induction k with
  | zero => intro a y cs _; simp [putAt]
  | succ k ih =>
    intro a y cs hk
    cases cs with
    | nil => simp at hk
    | cons c cs =>
      rw [List.replicate_succ, putAt, List.set_append_right _ _ (by simp), List.length_replicate, Nat.sub_self, List.set_cons_zero]
      rw [show List.replicate a y ++ y :: cs = List.replicate (a + 1) y ++ cs by rw [List.replicate_succ', List.append_assoc]; rfl]
      rw [ih _ _ _ (by simpa using hk), show a + 1 + k = a + (k + 1) by omega]; rfl
theorem RB_put {n m k : Nat} {x : Int} (h : m + k ≤ n) : putAt (RB n m x) m (List.replicate k (G x)) = RB n (m + k) x := by
  unfold RB
  rw [rep_put _ _ _ _ (by simp; omega), List.drop_replicate, Nat.sub_sub]
section
variable {n : Nat} {x : Int}
abbrev P91 (h : Heap) (n : Nat) (x : Int) (m : Nat) : SP := (fun s h' => s.get [false, false, false] = .slice h.size 0 n n ∧ s.get [true, false, false] = G m ∧ h' = ⟨h.get, h.size, [.cells 1 n (RB n m x)]⟩)
theorem rep_loop (J : CallF) (h : Heap) (hn : n ≤ 243) : ∀ (j m : Nat), n - m ≤ j → 1 ≤ m → m ≤ n → Tr tbl J c91_l0 (P91 h n x m) (.exit 0) (P91 h n x n) := by
  intro j
  induction j with
  | zero =>
    intro m hj h1 h2
    obtain rfl : m = n := by omega
    have t : Tr tbl J ((.trim [[false, false, false], [true, false, false]] c91_b0)) (fun s h' => s.get [false, false, false] = .slice h.size 0 m m ∧ s.get [true, false, false] = G m ∧ h' = ⟨h.get, h.size, [.cells 1 m (RB m m x)]⟩) (.exit 0) (fun s h' => s.get [false, false, false] = .slice h.size 0 m m ∧ s.get [true, false, false] = G m ∧ h' = ⟨h.get, h.size, [.cells 1 m (RB m m x)]⟩) := Tr.region fun s h hp => by
      obtain ⟨g0, g1, rfl⟩ := hp
      simp (disch := first|omega|exact zE rfl|exact zO|exact zL rfl) [c91_b0, c91_o8, frameOf, Heap.size, Heap.get, Eff.app, Heap.setOwn, g0, g1]
    exact Tr.out t (by simp)
  | succ j ih =>
    intro m hj h1 h2
    by_cases hm : m = n
    · exact ih m (by omega) h1 h2
    · obtain ⟨k, hk⟩ : ∃ k, k = min m (n - m) := ⟨_, rfl⟩
      have hkm : m + k ≤ n := by omega
      have e1 := RB_len (n := n) (m := m) (x := x) h2
      have e2 := RB_take n m x
      have e3 := RB_put (n := n) (m := m) (k := k) (x := x) hkm
      have e4 : min m (n - m) = k := hk.symm
      have e5 : min k m = k := by omega
      obtain ⟨cs, hcs⟩ : ∃ cs, RB n m x = cs := ⟨_, rfl⟩
      rw [hcs] at e1 e2 e3
      have hm0 : ¬ (m = n ∧ 0 < n) := by omega
      have hm1 : ¬ (0 = n ∧ 0 < n) := by omega
      have t : Tr tbl J ((.trim [[false, false, false], [true, false, false]] c91_b0)) (fun s h' => s.get [false, false, false] = .slice h.size 0 n n ∧ s.get [true, false, false] = G m ∧ h' = ⟨h.get, h.size, [.cells 1 n cs]⟩) .normal (fun s h' => s.get [false, false, false] = .slice h.size 0 n n ∧ s.get [true, false, false] = G ((m + k : Nat) : Int) ∧ h' = ⟨h.get, h.size, [.cells 1 n (RB n (m + k) x)]⟩) := Tr.region fun s h hp => by
        obtain ⟨g0, g1, rfl⟩ := hp
        simp (disch := first|omega|exact zE rfl|exact zO|exact zL rfl) [c91_b0, c91_o8, c91_o9, frameOf, Heap.size, Heap.get, Eff.app, Heap.setOwn, g0, g1, slSlA, bounds, elems, copyA, rdOf, hm0, hm1, e1, e2, e3, e4, e5, List.take_replicate]
        omega
      rw [← hcs] at t
      exact Tr.next t (ih (m + k) (by omega) (by omega) (by omega))
theorem c91_ok (J : CallF) (k99 : ∀ (h : Heap) (n : Int), 0 ≤ n → n < 244 → J 99 [.int .u64 1, .int .u64 n] h = some (.tup [.int .u64 0, .int .u64 n], [], false)) (hJ : ∀ a h, J 91 a h = none) (h : Heap) (b : Nat) (hb : h.get b = .cells 1 1 [G x]) (h1 : 1 ≤ n) (h2 : n ≤ 243) :
    CallsTo tbl J 91 [.slice b 0 1 1, G n] h (.slice h.size 0 n n, [.cells 1 n (List.replicate n (G x))], false) := by
  have hlt := get_lt hb (by simp)
  have wu : ∀ z : Int, 0 ≤ z → z < 244 → IntKind.u64.wrap z = z := fun z _ _ => by unfold IntKind.wrap IntKind.bits IntKind.signed; simp; omega
  refine Tr.fnh (cf := c91) (e := .ret) (s := T.set (T.set .leaf [] (.slice b 0 1 1)) [false] (G n)) (by decide) rfl (hJ _ _) rfl rfl rfl (by simp) ?_
  have t0 : Tr tbl J (c91_o0) (fun s h' => s = T.set (T.set .leaf [] (.slice b 0 1 1)) [false] (G n) ∧ h' = frameOf h) .normal (fun s h' => s.get [] = .slice b 0 1 1 ∧ s.get [false] = G n ∧ h' = ⟨h.get, h.size, []⟩) := Tr.region fun s h hp => by
    obtain ⟨rfl, rfl⟩ := hp
    simp (disch := first|omega|exact zE rfl|exact zO|exact zL rfl) [c91_o0, frameOf, Heap.size, Heap.get, Eff.app, Heap.setOwn]
  have t1 : Tr tbl J ((.seq c91_o1 (.cond (.s [true, true, false]) c91_o2 .skip))) (fun s h' => s.get [] = .slice b 0 1 1 ∧ s.get [false] = G n ∧ h' = ⟨h.get, h.size, []⟩) .normal (fun s h' => s.get [] = .slice b 0 1 1 ∧ s.get [false] = G n ∧ h' = ⟨h.get, h.size, []⟩) := Tr.region fun s h hp => by
    obtain ⟨g0, g1, rfl⟩ := hp
    simp (disch := first|omega|exact zE rfl|exact zO|exact zL rfl) [c91_o1, frameOf, Heap.size, Heap.get, Eff.app, Heap.setOwn, g0, g1]
  have t2 : Tr tbl J (c91_o3) (fun s h' => s.get [] = .slice b 0 1 1 ∧ s.get [false] = G n ∧ h' = ⟨h.get, h.size, []⟩) .normal (fun s h' => s.get [] = .slice b 0 1 1 ∧ s.get [false, true] = .int .u64 0 ∧ s.get [true, true] = .int .u64 n ∧ h' = ⟨h.get, h.size, []⟩) := Tr.region fun s h hp => by
    obtain ⟨g0, g1, rfl⟩ := hp
    simp (disch := first|omega|exact zE rfl|exact zO|exact zL rfl) [c91_o3, frameOf, Heap.size, Heap.get, Eff.app, Heap.setOwn, g0, g1, wu, k99]
  have t3 : Tr tbl J ((.seq c91_o4 (.cond (.s [true, true, false, true]) c91_o5 .skip))) (fun s h' => s.get [] = .slice b 0 1 1 ∧ s.get [false, true] = .int .u64 0 ∧ s.get [true, true] = .int .u64 n ∧ h' = ⟨h.get, h.size, []⟩) .normal (fun s h' => s.get [] = .slice b 0 1 1 ∧ s.get [true, true] = .int .u64 n ∧ h' = ⟨h.get, h.size, []⟩) := Tr.region fun s h hp => by
    obtain ⟨g0, g1, g2, rfl⟩ := hp
    simp (disch := first|omega|exact zE rfl|exact zO|exact zL rfl) [c91_o4, frameOf, Heap.size, Heap.get, Eff.app, Heap.setOwn, g0, g1, g2]
  have e0 : RB n 1 x = (List.replicate n (G 0)).set 0 (G x) := by
    obtain ⟨N, rfl⟩ : ∃ N, n = N + 1 := ⟨n - 1, by omega⟩
    simp [RB, List.replicate_succ]
  have t4 : Tr tbl J ((.seq c91_o6 c91_o7)) (fun s h' => s.get [] = .slice b 0 1 1 ∧ s.get [true, true] = .int .u64 n ∧ h' = ⟨h.get, h.size, []⟩) .normal (fun s h' => s.get [false, false, false] = .slice h.size 0 n n ∧ s.get [true, false, false] = G ((1 : Nat) : Int) ∧ h' = ⟨h.get, h.size, [.cells 1 n (RB n 1 x)]⟩) := Tr.region fun s h hp => by
    obtain ⟨g0, g1, rfl⟩ := hp
    rw [e0]
    simp (disch := first|omega|exact zE rfl|exact zO|exact zL rfl) [c91_o6, c91_o7, size_mk, get_mk_lt, get_mk_ge, frameOf, Eff.app, Heap.setOwn, g0, g1, repl, elems, copyA, rdOf, hb]
    omega
  have t5 : Tr tbl J ((.seq c91_o10 .ret)) (fun s h' => s.get [false, false, false] = .slice h.size 0 n n ∧ s.get [true, false, false] = G n ∧ h' = ⟨h.get, h.size, [.cells 1 n (RB n n x)]⟩) .ret (fun s h' => s.get [true, false] = .slice h.size 0 n n ∧ h' = ⟨h.get, h.size, [.cells 1 n (RB n n x)]⟩) := Tr.region fun s h hp => by
    obtain ⟨g0, g1, rfl⟩ := hp
    simp (disch := first|omega|exact zE rfl|exact zO|exact zL rfl) [c91_o10, frameOf, Heap.size, Heap.get, Eff.app, Heap.setOwn, g0, g1]
  refine Tr.post (fun s h' q => ?_) (Tr.seq t0 (Tr.seq t1 (Tr.seq t2 (Tr.seq t3 (Tr.app2 t4 (Tr.seq (Tr.block (rep_loop J h h2 n 1 (by omega) (by omega) h1)) t5))))))
  obtain ⟨q1, rfl⟩ := q
  simp [c91, q1, RB_all]
theorem c91_0 (J : CallF) (k99 : ∀ (h : Heap) (n : Int), 0 ≤ n → n < 244 → J 99 [.int .u64 1, .int .u64 n] h = some (.tup [.int .u64 0, .int .u64 n], [], false)) (hJ : ∀ a h, J 91 a h = none) (h : Heap) (b : Nat) (hb : h.get b = .cells 1 1 [G x]) :
    CallsTo tbl J 91 [.slice b 0 1 1, G 0] h (.slice h.size 0 0 0, [.cells 1 0 []], false) := by
  have hlt := get_lt hb (by simp)
  have wu : ∀ z : Int, 0 ≤ z → z < 244 → IntKind.u64.wrap z = z := fun z _ _ => by unfold IntKind.wrap IntKind.bits IntKind.signed; simp; omega
  refine Tr.fnh (cf := c91) (e := .ret) (s := T.set (T.set .leaf [] (.slice b 0 1 1)) [false] (G 0)) (by decide) rfl (hJ _ _) rfl rfl rfl (by simp) ?_
  refine Tr.post (Q := (fun s h' => h' = ⟨h.get, h.size, [.cells 1 0 []]⟩ ∧ s.get [true, false] = .slice h.size 0 0 0)) (fun s h' q => by
    obtain ⟨rfl, q1⟩ := q
    simp [c91, q1]) ?_
  have l0 : Tr tbl J c91_l0 (fun s h' => h' = ⟨h.get, h.size, [.cells 1 0 []]⟩ ∧ s.get [false, false, false] = .slice h.size 0 0 0 ∧ s.get [true, false, false] = G 0) (.exit 0) (fun s h' => h' = ⟨h.get, h.size, [.cells 1 0 []]⟩ ∧ s.get [false, false, false] = .slice h.size 0 0 0) := by
    refine Tr.out ?_ (by simp)
    refine Tr.w fun s1 H1 hp _ kR => W.trim ?_
    obtain ⟨rfl, q⟩ := hp
    refine W.assoc ?_
    refine W.seq (W.chunk ?_)
    simp (disch := first|omega|exact zE rfl|exact zO|exact zL rfl) [c91_o8, size_mk, get_mk_lt, get_mk_ge, frameOf, Eff.app, Heap.setOwn, q]
    refine W.seq (W.chunk ?_)
    simp (disch := first|omega|exact zE rfl|exact zO|exact zL rfl) [size_mk, get_mk_lt, get_mk_ge, frameOf, Eff.app, Heap.setOwn, q]
    exact kR _ _ (by simp [T.get, q])
  refine Tr.w fun s1 H1 hp _ kR => ?_
  obtain ⟨rfl, rfl⟩ := hp
  have q : True := trivial
  refine W.seq (W.chunk ?_)
  simp (disch := first|omega|exact zE rfl|exact zO|exact zL rfl) [c91_o0, size_mk, get_mk_lt, get_mk_ge, frameOf, Eff.app, Heap.setOwn, q]
  refine W.assoc ?_
  refine W.seq (W.chunk ?_)
  simp (disch := first|omega|exact zE rfl|exact zO|exact zL rfl) [c91_o1, size_mk, get_mk_lt, get_mk_ge, frameOf, Eff.app, Heap.setOwn, q]
  refine W.seq (W.chunk ?_)
  simp (disch := first|omega|exact zE rfl|exact zO|exact zL rfl) [c91_o2, size_mk, get_mk_lt, get_mk_ge, frameOf, Eff.app, Heap.setOwn, q]
  refine W.seq (W.chunk ?_)
  simp (disch := first|omega|exact zE rfl|exact zO|exact zL rfl) [c91_o3, size_mk, get_mk_lt, get_mk_ge, frameOf, Eff.app, Heap.setOwn, q, wu, k99]
  refine W.assoc ?_
  refine W.seq (W.chunk ?_)
  simp (disch := first|omega|exact zE rfl|exact zO|exact zL rfl) [c91_o4, size_mk, get_mk_lt, get_mk_ge, frameOf, Eff.app, Heap.setOwn, q]
  refine W.seq (W.chunk ?_)
  simp (disch := first|omega|exact zE rfl|exact zO|exact zL rfl) [c91_o5, size_mk, get_mk_lt, get_mk_ge, frameOf, Eff.app, Heap.setOwn, q]
  refine W.seq (W.chunk ?_)
  simp (disch := first|omega|exact zE rfl|exact zO|exact zL rfl) [c91_o6, size_mk, get_mk_lt, get_mk_ge, frameOf, Eff.app, Heap.setOwn, q, repl]
  refine W.seq (W.chunk ?_)
  simp (disch := first|omega|exact zE rfl|exact zO|exact zL rfl) [c91_o7, size_mk, get_mk_lt, get_mk_ge, frameOf, Eff.app, Heap.setOwn, q, elems, copyA, rdOf, hb]
  refine W.seq (W.block ?_)
  refine W.use (l0) (by simp (disch := first|omega|exact zE rfl|exact zO|exact zL rfl) [size_mk, get_mk_lt, get_mk_ge, frameOf, Eff.app, Heap.setOwn, q, (show min 1 0 = 0 from rfl), (show min (1 : Int) 0 = 0 from rfl)]) fun s1 H1 hp => ?_
  obtain ⟨rfl, q⟩ := hp
  try simp only [zW, if_true]
  refine W.seq (W.chunk ?_)
  simp (disch := first|omega|exact zE rfl|exact zO|exact zL rfl) [c91_o10, size_mk, get_mk_lt, get_mk_ge, frameOf, Eff.app, Heap.setOwn, q]
  refine W.ret ?_
  try simp only [zW, if_true]
  exact kR _ _ (by simp [T.get, q])
end
def spec91 : SpecF := fun args h => match args with
  | [.slice b 0 1 1, .int .i64 n] => match h.get b with
    | .cells 1 1 [.int .i64 x] => if 0 ≤ n ∧ n ≤ 243 then some (.slice h.size 0 n.toNat n.toNat, [.cells 1 n.toNat (List.replicate n.toNat (G x))], false) else none
    | _ => none
  | _ => none
noncomputable def T33 : CallF := addV T32 99 spec99
theorem t33 : Sound Go.Proofs.Try.prog T33 := Sound.addV2 follows ok t32 Sound.empty (by decide) (fun args v h => by
  unfold spec99 at h
  split at h
  · split at h
    · rename_i a n hh
      obtain ⟨rfl, h1, h2⟩ := hh
      obtain ⟨N, rfl⟩ : ∃ N : Nat, n = N := ⟨n.toNat, by omega⟩
      simp only [Option.some.injEq] at h; subst h; exact c99_ok N (by omega)
    · cases h
  · cases h)
theorem k99 (h : Heap) (n : Int) (h1 : 0 ≤ n) (h2 : n < 244) : T33 99 [.int .u64 1, .int .u64 n] h = some (.tup [.int .u64 0, .int .u64 n], [], false) := by simp [T33, AEv.addV, spec99, h1, h2, AV.flats, AV.flat]
noncomputable def T34 : CallF := addI T33 91 spec91
theorem t34 : Sound Go.Proofs.Try.prog T34 := Sound.add follows ok t33 (by decide) (fun args h x e => by
  unfold spec91 at e
  split at e
  · split at e
    · split at e
      · rename_i b n _ xv hg hh
        simp only [Option.some.injEq] at e; subst e
        obtain ⟨N, rfl⟩ : ∃ N : Nat, n = N := ⟨n.toNat, by omega⟩
        rcases Nat.eq_zero_or_pos N with rfl | hN
        · exact c91_0 T33 k99 (fun _ _ => by simp (disch := decide) only [T1, T2, T3, T4, T5, T6, T7, T8, T9, T10, T11, T12, T13, T14, T15, T16, T17, T18, T19, T20, T21, T22, T23, T24, T25, T26, T27, T28, T29, T30, T31, T32, T33, addI_ne, addX_ne, addV_ne, addK_ne]; rfl) h b hg
        · exact c91_ok T33 k99 (fun _ _ => by simp (disch := decide) only [T1, T2, T3, T4, T5, T6, T7, T8, T9, T10, T11, T12, T13, T14, T15, T16, T17, T18, T19, T20, T21, T22, T23, T24, T25, T26, T27, T28, T29, T30, T31, T32, T33, addI_ne, addX_ne, addV_ne, addK_ne]; rfl) h b hg (by omega) (by omega)
      · cases e
    · cases e
  · cases e)
abbrev K91 (J : CallF) : Prop := ∀ (h : Heap) (b n : Nat) (x : Int), h.get b = .cells 1 1 [G x] → n ≤ 243 → J 91 [.slice b 0 1 1, G n] h = some (.slice h.size 0 n n, [.cells 1 n (List.replicate n (G x))], false)
theorem k91 : K91 T34 := fun h b n x hb h2 => by
  have : (n : Int) ≤ 243 := by omega
  simp [T34, addI, spec91, hb, this]
def sat (n : Nat) : Nat := min n (1152921504606846977)
def ps (L : List Nat) (i : Nat) : Nat := (L.take i).sum
theorem ps_succ (L : List Nat) {i : Nat} (h : i < L.length) : ps L (i + 1) = ps L i + L.getD i 0 := by
  unfold ps
  rw [List.take_add_one, List.getElem?_eq_getElem h, List.getD_eq_getElem?_getD, List.getElem?_eq_getElem h, List.sum_append]
  simp only [Option.toList, List.sum_cons, List.sum_nil, Option.getD_some, Nat.add_zero]
theorem ps_all (L : List Nat) : ps L L.length = L.sum := by unfold ps; rw [List.take_length]
theorem ps_mono (L : List Nat) : ∀ j i, ps L i ≤ ps L (i + j)
  | 0, i => Nat.le_refl _
  | j + 1, i => by
    refine Nat.le_trans (ps_mono L j i) ?_
    rw [← Nat.add_assoc]
    by_cases h : i + j < L.length
    · rw [ps_succ L h]; omega
    · unfold ps
      rw [List.take_of_length_le (by omega), List.take_of_length_le (by omega)]
      exact Nat.le_refl _
theorem ps_le (L : List Nat) (i : Nat) : ps L i ≤ L.sum := by
  by_cases h : i ≤ L.length
  · rw [← ps_all L]
    have := ps_mono L (L.length - i) i
    rwa [show i + (L.length - i) = L.length by omega] at this
  · unfold ps; rw [List.take_of_length_le (by omega)]; exact Nat.le_refl _
theorem gn_at {L : List Nat} {i : Nat} (h : i < L.length) : (gn L)[i]? = some (G (L.getD i 0)) := by
  unfold gn
  rw [List.getElem?_map, List.getD_eq_getElem?_getD, List.getElem?_eq_getElem h]; rfl
section
variable {L : List Nat}
theorem RV.frame {h : Heap} {x : AV} {cs : List AV} (r : RV h x cs) : RV (frameOf h) x cs := by
  rcases r with r | ⟨b, v, e, g⟩
  · exact .inl r
  · refine .inr ⟨b, v, e, ?_⟩
    unfold frameOf
    rw [get_mk_lt _ _ _ _ (get_lt g (by simp))]; exact g
def tot (L : List Nat) : AV := if L.sum ≤ 1152921504606846976 then .tup [G L.sum, .bool true] else .tup [G 0, .bool false]
theorem c63_l (J : CallF) {H : Heap} {b v : Nat} (gb : H.get b = .cells 1 v (gn L)) (hn : L.length ≤ 1000000) (hL : ∀ x ∈ L, x ≤ 1152921504606846976) :
    (L.sum ≤ 1152921504606846976 → Tr tbl J c63_l0 (fun s h => h = H ∧ s.get [false] = G 1152921504606846976 ∧ s.get [true, true] = G ((0 : Nat) : Int) ∧ s.get [false, true, false] = .slice b 0 L.length v ∧ s.get [true, true, false] = G L.length ∧ s.get [false, false, true] = G ((0 : Nat) : Int)) (.exit 0) (fun s h => h = H ∧ s.get [true, true] = G L.sum)) ∧
    (¬ L.sum ≤ 1152921504606846976 → Tr tbl J c63_l0 (fun s h => h = H ∧ s.get [false] = G 1152921504606846976 ∧ s.get [true, true] = G ((0 : Nat) : Int) ∧ s.get [false, true, false] = .slice b 0 L.length v ∧ s.get [true, true, false] = G L.length ∧ s.get [false, false, true] = G ((0 : Nat) : Int)) .ret (fun s h => s.get [true, false] = G 0 ∧ s.get [false, true] = .bool false)) := by
  have lg := gn_len L
  have key : ∀ i, i < L.length → ps L i ≤ 1152921504606846976 → Tr tbl J (.trim [[false], [true, true], [false, true, false], [true, true, false], [false, false, true]] c63_b0) (fun s h => h = H ∧ s.get [false] = G 1152921504606846976 ∧ s.get [true, true] = G (ps L i) ∧ s.get [false, true, false] = .slice b 0 L.length v ∧ s.get [true, true, false] = G L.length ∧ s.get [false, false, true] = G i) (if ps L (i + 1) ≤ 1152921504606846976 then .normal else .ret)
      (if ps L (i + 1) ≤ 1152921504606846976 then (fun s h => h = H ∧ s.get [false] = G 1152921504606846976 ∧ s.get [true, true] = G (ps L (i + 1)) ∧ s.get [false, true, false] = .slice b 0 L.length v ∧ s.get [true, true, false] = G L.length ∧ s.get [false, false, true] = G ((i + 1 : Nat) : Int)) else (fun s h => s.get [true, false] = G 0 ∧ s.get [false, true] = .bool false)) := fun i hi hp => by
    have e1 := gn_at hi
    have e1' := getI e1
    have bx : L.getD i 0 ≤ 1152921504606846976 := by
      rw [List.getD_eq_getElem?_getD, List.getElem?_eq_getElem hi]
      exact hL _ (List.getElem_mem _)
    rw [ps_succ L hi]
    clear hL
    generalize gn L = cs at *
    generalize L.getD i 0 = x at *
    generalize L.length = n at *
    generalize ps L i = y at *
    by_cases c : y + x ≤ 1152921504606846976
    · rw [if_pos c, if_pos c]
      refine Tr.w fun s1 H1 hp _ kR => W.trim ?_
      obtain ⟨rfl, q⟩ := hp
      refine W.seq (W.chunk ?_)
      simp (disch := first|omega|exact zE rfl|exact zO|exact zL rfl) [c63_o3, zG, q]
      refine W.seq (W.chunk ?_)
      simp (disch := first|omega|exact zE rfl|exact zO|exact zL rfl) [zG, q]
      refine W.seq (W.block ?_)
      refine W.seq (W.chunk ?_)
      simp (disch := first|omega|exact zE rfl|exact zO|exact zL rfl) [c63_o4, zG, q, gb, e1, e1', lg]
      refine W.assoc ?_
      refine W.seq (W.chunk ?_)
      simp (disch := first|omega|exact zE rfl|exact zO|exact zL rfl) [c63_o5, zG, q]
      refine W.seq (W.chunk ?_)
      simp (disch := first|omega|exact zE rfl|exact zO|exact zL rfl) [c63_o6, zG, q]
      refine W.chunk ?_
      simp (disch := first|omega|exact zE rfl|exact zO|exact zL rfl) [c63_o7, zG, q]
      refine W.chunk ?_
      simp (disch := first|omega|exact zE rfl|exact zO|exact zL rfl) [c63_o8, zG, q]
      exact kR _ _ (by simp [T.get, q])
    · rw [if_neg c, if_neg c]
      refine Tr.w fun s1 H1 hp _ kR => W.trim ?_
      obtain ⟨rfl, q⟩ := hp
      refine W.seq (W.chunk ?_)
      simp (disch := first|omega|exact zE rfl|exact zO|exact zL rfl) [c63_o3, zG, q]
      refine W.seq (W.chunk ?_)
      simp (disch := first|omega|exact zE rfl|exact zO|exact zL rfl) [zG, q]
      refine W.seq (W.block ?_)
      refine W.seq (W.chunk ?_)
      simp (disch := first|omega|exact zE rfl|exact zO|exact zL rfl) [c63_o4, zG, q, gb, e1, e1', lg]
      refine W.assoc ?_
      refine W.seq (W.chunk ?_)
      simp (disch := first|omega|exact zE rfl|exact zO|exact zL rfl) [c63_o5, zG, q]
      refine W.seq (W.chunk ?_)
      simp (disch := first|omega|exact zE rfl|exact zO|exact zL rfl) [c63_o6, zG, q]
      exact kR _ _ (by simp [T.get, q])
  have fin : Tr tbl J (.trim [[false], [true, true], [false, true, false], [true, true, false], [false, false, true]] c63_b0) (fun s h => h = H ∧ s.get [false] = G 1152921504606846976 ∧ s.get [true, true] = G L.sum ∧ s.get [false, true, false] = .slice b 0 L.length v ∧ s.get [true, true, false] = G L.length ∧ s.get [false, false, true] = G L.length) (.exit 0) (fun s h => h = H ∧ s.get [true, true] = G L.sum) := by
    generalize L.length = n at *
    generalize L.sum = z at *
    refine Tr.w fun s1 H1 hp _ kR => W.trim ?_
    obtain ⟨rfl, q⟩ := hp
    refine W.seq (W.chunk ?_)
    simp (disch := first|omega|exact zE rfl|exact zO|exact zL rfl) [c63_o3, zG, q]
    refine W.seq (W.chunk ?_)
    simp (disch := first|omega|exact zE rfl|exact zO|exact zL rfl) [zG, q]
    exact kR _ _ (by simp [T.get, q])
  have p0 : ps L 0 = 0 := by simp [ps]
  constructor
  · intro hs
    have : ∀ j i, i + j = L.length → Tr tbl J c63_l0 (fun s h => h = H ∧ s.get [false] = G 1152921504606846976 ∧ s.get [true, true] = G (ps L i) ∧ s.get [false, true, false] = .slice b 0 L.length v ∧ s.get [true, true, false] = G L.length ∧ s.get [false, false, true] = G i) (.exit 0) (fun s h => h = H ∧ s.get [true, true] = G L.sum) := fun j => by
      induction j with
      | zero =>
        intro i hi
        obtain rfl : i = L.length := by omega
        rw [ps_all]
        exact Tr.out fin (by simp)
      | succ j ih =>
        intro i hi
        have h1 := ps_le L i
        have h2 := ps_le L (i + 1)
        have k := key i (by omega) (by omega)
        rw [if_pos (by omega), if_pos (by omega)] at k
        exact Tr.next k (ih (i + 1) (by omega))
    have := this L.length 0 (by omega)
    rwa [p0] at this
  · intro hs
    have : ∀ j i, i + j = L.length → ps L i ≤ 1152921504606846976 → Tr tbl J c63_l0 (fun s h => h = H ∧ s.get [false] = G 1152921504606846976 ∧ s.get [true, true] = G (ps L i) ∧ s.get [false, true, false] = .slice b 0 L.length v ∧ s.get [true, true, false] = G L.length ∧ s.get [false, false, true] = G i) .ret (fun s h => s.get [true, false] = G 0 ∧ s.get [false, true] = .bool false) := fun j => by
      induction j with
      | zero =>
        intro i hi hp
        obtain rfl : i = L.length := by omega
        rw [ps_all] at hp
        exact absurd hp hs
      | succ j ih =>
        intro i hi hp
        have k := key i (by omega) hp
        by_cases c : ps L (i + 1) ≤ 1152921504606846976
        · rw [if_pos c, if_pos c] at k
          exact Tr.next k (ih (i + 1) (by omega) c)
        · rw [if_neg c, if_neg c] at k
          exact Tr.out k (by simp)
    have := this L.length 0 (by omega) (by omega)
    rwa [p0] at this
theorem c63_ok (J : CallF) (hJ : ∀ a h, J 63 a h = none) (h : Heap) {x : AV} (rv : RV h x (gn L)) (hn : L.length ≤ 1000000) (hL : ∀ x ∈ L, x ≤ 1152921504606846976) : CallsTo tbl J 63 [x, G 1152921504606846976] h (tot L, [], false) := by
  have lg := gn_len L
  unfold tot
  by_cases hs : L.sum ≤ 1152921504606846976
  · rw [if_pos hs]
    refine Tr.fnv (cf := c63) (e := .ret) (s := T.set (T.set .leaf [] x) [false] (G 1152921504606846976)) (by decide) rfl (hJ _ _) rfl rfl rfl (by simp) ?_
    refine Tr.post (Q := (fun s h => s.get [true, false] = G L.sum ∧ s.get [false, true] = .bool true)) (fun s h q => by simp [c63, q]) ?_
    rcases rv.frame with ⟨rfl, e⟩ | ⟨b, v, rfl, g⟩
    · have : L = [] := by simpa [gn] using e
      subst this
      have l0 : Tr tbl J c63_l0 (fun s h' => h' = frameOf h ∧ s.get [false] = G 1152921504606846976 ∧ s.get [true, true] = G 0 ∧ s.get [false, true, false] = .nils ∧ s.get [true, true, false] = G 0 ∧ s.get [false, false, true] = G 0) (.exit 0) (fun s h' => h' = frameOf h ∧ s.get [true, true] = G 0) := by
        refine Tr.out ?_ (by simp)
        refine Tr.w fun s1 H1 hp _ kR => W.trim ?_
        obtain ⟨rfl, q⟩ := hp
        refine W.seq (W.chunk ?_)
        simp (disch := first|omega|exact zE rfl|exact zO|exact zL rfl) [c63_o3, zG, q]
        refine W.seq (W.chunk ?_)
        simp (disch := first|omega|exact zE rfl|exact zO|exact zL rfl) [zG, q]
        exact kR _ _ (by simp [T.get, q])
      refine Tr.w fun s1 H1 hp _ kR => ?_
      obtain ⟨rfl, rfl⟩ := hp
      have q : True := trivial
      refine W.seq (W.chunk ?_)
      simp (disch := first|omega|exact zE rfl|exact zO|exact zL rfl) [c63_o0, zG, q]
      refine W.seq (W.chunk ?_)
      simp (disch := first|omega|exact zE rfl|exact zO|exact zL rfl) [c63_o1, zG, q]
      refine W.assoc ?_
      refine W.seq (W.chunk ?_)
      simp (disch := first|omega|exact zE rfl|exact zO|exact zL rfl) [c63_o2, zG, q]
      refine W.seq (W.block ?_)
      refine W.use (l0) (by simp (disch := first|omega|exact zE rfl|exact zO|exact zL rfl) [zG, q]) fun s1 H1 hp => ?_
      obtain ⟨rfl, q⟩ := hp
      try simp only [zW, if_true]
      refine W.seq (W.chunk ?_)
      simp (disch := first|omega|exact zE rfl|exact zO|exact zL rfl) [c63_o9, zG, q]
      refine W.ret ?_
      try simp only [zW, if_true]
      exact kR _ _ (by simp [T.get, q])
    · rw [lg]
      have l0 := (c63_l J g hn hL).1 hs
      clear g rv hL
      generalize L.sum = z at *
      generalize L.length = n at *
      refine Tr.w fun s1 H1 hp _ kR => ?_
      obtain ⟨rfl, rfl⟩ := hp
      have q : True := trivial
      refine W.seq (W.chunk ?_)
      simp (disch := first|omega|exact zE rfl|exact zO|exact zL rfl) [c63_o0, zG, q]
      refine W.seq (W.chunk ?_)
      simp (disch := first|omega|exact zE rfl|exact zO|exact zL rfl) [c63_o1, zG, q]
      refine W.assoc ?_
      refine W.seq (W.chunk ?_)
      simp (disch := first|omega|exact zE rfl|exact zO|exact zL rfl) [c63_o2, zG, q]
      refine W.seq (W.block ?_)
      refine W.use (l0) (by simp (disch := first|omega|exact zE rfl|exact zO|exact zL rfl) [zG, q]) fun s1 H1 hp => ?_
      obtain ⟨rfl, q⟩ := hp
      try simp only [zW, if_true]
      refine W.seq (W.chunk ?_)
      simp (disch := first|omega|exact zE rfl|exact zO|exact zL rfl) [c63_o9, zG, q]
      refine W.ret ?_
      try simp only [zW, if_true]
      exact kR _ _ (by simp [T.get, q])
  · rw [if_neg hs]
    refine Tr.fnv (cf := c63) (e := .ret) (s := T.set (T.set .leaf [] x) [false] (G 1152921504606846976)) (by decide) rfl (hJ _ _) rfl rfl rfl (by simp) ?_
    refine Tr.post (Q := (fun s h => s.get [true, false] = G 0 ∧ s.get [false, true] = .bool false)) (fun s h q => by simp [c63, q]) ?_
    rcases rv.frame with ⟨rfl, e⟩ | ⟨b, v, rfl, g⟩
    · have : L = [] := by simpa [gn] using e
      subst this
      exact absurd (by simp) hs
    · rw [lg]
      have l0 := (c63_l J g hn hL).2 hs
      clear g rv hL
      generalize L.length = n at *
      refine Tr.w fun s1 H1 hp _ kR => ?_
      obtain ⟨rfl, rfl⟩ := hp
      have q : True := trivial
      refine W.seq (W.chunk ?_)
      simp (disch := first|omega|exact zE rfl|exact zO|exact zL rfl) [c63_o0, zG, q]
      refine W.seq (W.chunk ?_)
      simp (disch := first|omega|exact zE rfl|exact zO|exact zL rfl) [c63_o1, zG, q]
      refine W.assoc ?_
      refine W.seq (W.chunk ?_)
      simp (disch := first|omega|exact zE rfl|exact zO|exact zL rfl) [c63_o2, zG, q]
      refine W.seq (W.block ?_)
      refine W.use (l0) (by simp (disch := first|omega|exact zE rfl|exact zO|exact zL rfl) [zG, q]) fun s1 H1 hp => ?_
      try simp only [zW, if_true]
      exact kR _ _ hp
end
def Pre76 (b : Nat × Nat) (args : List AV) (h : Heap) : Prop := (b.1 ≤ 2305843009213693952 ∧ b.2 ≤ 2305843009213693952) ∧ args = [G b.1, G b.2]
def Post76 (b : Nat × Nat) (h : Heap) (v : AV) (own : List AObj) : Prop := v = G (sat (b.1 + b.2)) ∧ own = []
noncomputable def T35 : CallF := addK tbl T34 76 Pre76 Post76
theorem t35 : Sound Go.Proofs.Try.prog T35 := Sound.addK follows ok t34 (by decide) _ _
def Pre72 (b : AV × List Nat) (args : List AV) (h : Heap) : Prop := (RV h b.1 (gn b.2) ∧ b.2.length ≤ 1000000 ∧ ∀ x ∈ b.2, x ≤ 2305843009213693952) ∧ args = [b.1]
def Post72 (b : AV × List Nat) (h : Heap) (v : AV) (own : List AObj) : Prop := v = G (sat b.2.sum) ∧ own = []
noncomputable def T36 : CallF := addK tbl T35 72 Pre72 Post72
theorem t36 : Sound Go.Proofs.Try.prog T36 := Sound.addK follows ok t35 (by decide) _ _
def Pre63 (b : AV × List Nat) (args : List AV) (h : Heap) : Prop := (RV h b.1 (gn b.2) ∧ b.2.length ≤ 1000000 ∧ ∀ x ∈ b.2, x ≤ 1152921504606846976) ∧ args = [b.1, G 1152921504606846976]
def Post63 (b : AV × List Nat) (h : Heap) (v : AV) (own : List AObj) : Prop := v = tot b.2 ∧ own = []
noncomputable def T37 : CallF := addK tbl T36 63 Pre63 Post63
theorem t37 : Sound Go.Proofs.Try.prog T37 := Sound.addK follows ok t36 (by decide) _ _
abbrev K63 (J : CallF) : Prop := ∀ h (x : AV) (L : List Nat), RV h x (gn L) → L.length ≤ 1000000 → (∀ x ∈ L, x ≤ 1152921504606846976) → J 63 [x, G 1152921504606846976] h = some (tot L, [], false)
theorem k63 : K63 T37 := fun h x L h1 h0 h2 => by
  obtain ⟨v, own, e, rfl, rfl⟩ := addK_some (Pre := Pre63) (Post := Post63) (fun b args h hp => by
    obtain ⟨⟨h1, h0, h2⟩, rfl⟩ := hp
    exact ⟨_, _, c63_ok T36 (fun _ _ => by simp (disch := decide) only [T1, T2, T3, T4, T5, T6, T7, T8, T9, T10, T11, T12, T13, T14, T15, T16, T17, T18, T19, T20, T21, T22, T23, T24, T25, T26, T27, T28, T29, T30, T31, T32, T33, T34, T35, T36, addI_ne, addX_ne, addV_ne, addK_ne]; rfl) h h1 h0 h2, rfl, rfl⟩) (x, L) _ h ⟨⟨h1, h0, h2⟩, rfl⟩
  exact e
def cnt (S : List (List Nat)) : Nat → Nat → Nat
  | 0, _ => 1
  | k + 1, i => ((S.getD i []).map (cnt S k)).sum
def rowC (S : List (List Nat)) (k : Nat) : List Nat := (List.range S.length).map (cnt S k)
theorem rowC_len (S : List (List Nat)) (k : Nat) : (rowC S k).length = S.length := by simp [rowC]
theorem rowC_at (S : List (List Nat)) (k : Nat) {i : Nat} (h : i < S.length) : (rowC S k).getD i 0 = cnt S k i := by
  unfold rowC
  rw [List.getD_eq_getElem?_getD, List.getElem?_map, List.getElem?_range h]; rfl
theorem sum_mem {L : List Nat} {x : Nat} (h : x ∈ L) : x ≤ L.sum := by
  induction L with
  | nil => cases h
  | cons a L ih =>
    rw [List.sum_cons]
    rcases List.mem_cons.1 h with rfl | h
    · omega
    · have := ih h; omega
theorem cnt_le (S : List (List Nat)) (k : Nat) {i : Nat} (h : i < S.length) : cnt S k i ≤ (rowC S k).sum := sum_mem (by
  unfold rowC
  exact List.mem_map.2 ⟨i, List.mem_range.2 h, rfl⟩)
def okC (S : List (List Nat)) (n : Nat) : Bool := af (fun k => decide ((rowC S k).sum ≤ 1152921504606846976)) 0 n
def mix (S : List (List Nat)) (k i : Nat) : List Nat := (List.range S.length).map fun t => if t < i then cnt S k t else 1
theorem mix_len (S : List (List Nat)) (k i : Nat) : (mix S k i).length = S.length := by simp [mix]
theorem mix_0 (S : List (List Nat)) (k : Nat) : gn (mix S k 0) = List.replicate S.length (G 1) := by
  unfold gn mix
  rw [List.map_map]
  apply List.ext_getElem?
  intro j
  rw [List.getElem?_map, List.getElem?_replicate]
  by_cases h : j < S.length
  · rw [List.getElem?_range h, if_pos h]; rfl
  · rw [List.getElem?_eq_none (by simp; omega), if_neg h]; rfl
theorem mix_n (S : List (List Nat)) (k : Nat) : mix S k S.length = rowC S k := by
  unfold mix rowC
  apply List.map_congr_left
  intro t ht
  rw [if_pos (List.mem_range.1 ht)]
theorem rowC_0 (S : List (List Nat)) : gn (rowC S 0) = List.replicate S.length (G 1) := by
  rw [← mix_0 S 0]
  have : mix S 0 0 = rowC S 0 := by
    unfold mix rowC
    apply List.map_congr_left
    intro t ht
    rw [if_neg (by omega)]
    rfl
  rw [this]
theorem mix_set (S : List (List Nat)) (k : Nat) {i : Nat} (h : i < S.length) : (gn (mix S k i)).set i (G (cnt S k i)) = gn (mix S k (i + 1)) := by
  apply List.ext_getElem?
  intro j
  by_cases hj : j < S.length
  · have e1 : (gn (mix S k (i + 1)))[j]? = some (G ((if j < i + 1 then cnt S k j else 1 : Nat) : Int)) := by
      unfold gn mix
      rw [List.map_map, List.getElem?_map, List.getElem?_range hj]; rfl
    rw [e1]
    by_cases e : i = j
    · subst e
      rw [List.getElem?_set_self (by rw [gn_len, mix_len]; exact h), if_pos (by omega)]
    · rw [List.getElem?_set_ne e]
      unfold gn mix
      rw [List.map_map, List.getElem?_map, List.getElem?_range hj]
      show some (G ((if j < i then cnt S k j else 1 : Nat) : Int)) = _
      by_cases c : j < i
      · rw [if_pos c, if_pos (by omega)]
      · rw [if_neg c, if_neg (by omega)]
  · rw [List.getElem?_eq_none (by rw [List.length_set, gn_len, mix_len]; omega), List.getElem?_eq_none (by rw [gn_len, mix_len]; omega)]
def LF (h : Heap) (p : Nat) (S : List (List Nat)) : Prop := ∃ x mb nb rs, h.get p = .cells 0 3 [x, .map mb, .slice nb 0 S.length S.length] ∧ ((x = .nils ∧ S.length = 0) ∨ ∃ b v, x = .slice b 0 S.length v) ∧ h.get nb = .cells 1 S.length rs ∧ ∀ k, k < S.length → ∃ y, rs[k]? = some y ∧ RV h y (gn (S.getD k []))
theorem LF.kp {h h' : Heap} {p : Nat} {S : List (List Nat)} (l : LF h p S) (k : Kp (fun _ => False) h h') : LF h' p S := by
  obtain ⟨x, mb, nb, rs, h1, h2, h3, h4⟩ := l
  refine ⟨x, mb, nb, rs, k.at h1 (by simp) id, h2, k.at h3 (by simp) id, fun i hi => ?_⟩
  obtain ⟨y, e1, e2⟩ := h4 i hi
  exact ⟨y, e1, e2.kp k (fun _ _ => id)⟩
theorem LM.lf {h : Heap} {p B : Nat} {W : List (List Int)} {R : List (List Nat)} (l : LM h p B W R) : LF h p (stL W R) := by
  obtain ⟨x, mb, nb, rs, h1, h2, h3, h4, h5, h6, h7⟩ := l
  have e : (stL W R).length = R.length := by simp [stL]
  unfold LF
  rw [e]
  have hs := h2.sl
  rw [wsL_len] at hs
  refine ⟨x, mb, nb, rs, h1, hs, h4, fun k hk => ?_⟩
  obtain ⟨y, e1, e2, _⟩ := h7 k hk
  refine ⟨y, e1, ?_⟩
  have : (stL W R).getD k [] = nxL W R (R.getD k []) := by
    unfold stL
    rw [List.getD_eq_getElem?_getD, List.getElem?_map, List.getElem?_eq_getElem hk, List.getD_eq_getElem?_getD, List.getElem?_eq_getElem hk]; rfl
  rw [this]; exact e2
section
variable {S : List (List Nat)} {p kk nn : Nat}
structure PR (S : List (List Nat)) (xo : AV) (kk : Nat) (h : Heap) (bo br : Nat) (ros : List AV) : Prop where
  e : xo = .slice bo 0 (kk + 1) (kk + 1)
  g : h.get bo = .cells 1 (kk + 1) ros
  r : ros[kk]? = some (.slice br 0 S.length S.length)
  l : ros.length = kk + 1
  gr : h.get br = .cells 1 S.length (gn (rowC S kk))
theorem PR.kp {xo : AV} {h h' : Heap} {bo br : Nat} {ros : List AV} (t : PR S xo kk h bo br ros) (k : Kp (fun _ => False) h h') : PR S xo kk h' bo br ros := ⟨t.e, k.at t.g (by simp) id, t.r, t.l, k.at t.gr (by simp) id⟩
theorem c62_l0_ok (J : CallF) {Hi : Heap} {xo : AV} {bo br : Nat} {ros : List AV} (pr : PR S xo kk Hi bo br ros) (k40 : kk ≤ 1000) {Si : List Nat} (hSi : ∀ j ∈ Si, j < S.length) (hn : S.length ≤ 1000) (hl : Si.length ≤ 1000) {y z8 : AV} (rv : RV Hi y (gn Si)) {i : Nat} :
    Tr tbl J c62_l0 (fun s h => h = Hi ∧ s.get [] = .ptr p 0 3 ∧ s.get [true, true] = xo ∧ s.get [false, false, false] = G (kk + 1 : Nat) ∧ s.get [true, false, false] = z8 ∧ s.get [false, true, false] = G i ∧ s.get [true, true, false] = .nils ∧ s.get [false, true, false, false] = G nn ∧ s.get [true, true, false, false] = G (kk + 1 : Nat) ∧ s.get [false, true, true, true] = G S.length ∧ s.get [true, true, true, true] = G i ∧ s.get [false, true, false, true, false] = y ∧ s.get [true, true, false, true, false] = G Si.length ∧ s.get [false, false, true, true, false] = G ((0 : Nat) : Int)) (.exit 4)
      (fun s h => ∃ z, NV Hi h z (gn (Si.map (cnt S kk))) ∧ s.get [] = .ptr p 0 3 ∧ s.get [true, true] = xo ∧ s.get [false, false, false] = G (kk + 1 : Nat) ∧ s.get [true, false, false] = z8 ∧ s.get [false, true, false] = G i ∧ s.get [true, true, false] = z ∧ s.get [false, true, false, false] = G nn ∧ s.get [true, true, false, false] = G (kk + 1 : Nat) ∧ s.get [false, true, true, true] = G S.length ∧ s.get [true, true, true, true] = G i) := by
  refine Tr.pre (P := fun s h => ∃ z, NV Hi h z (gn ((Si.take 0).map (cnt S kk))) ∧ s.get [] = .ptr p 0 3 ∧ s.get [true, true] = xo ∧ s.get [false, false, false] = G (kk + 1 : Nat) ∧ s.get [true, false, false] = z8 ∧ s.get [false, true, false] = G i ∧ s.get [true, true, false] = z ∧ s.get [false, true, false, false] = G nn ∧ s.get [true, true, false, false] = G (kk + 1 : Nat) ∧ s.get [false, true, true, true] = G S.length ∧ s.get [true, true, true, true] = G i ∧ s.get [false, true, false, true, false] = y ∧ s.get [true, true, false, true, false] = G Si.length ∧ s.get [false, false, true, true, false] = G ((0 : Nat) : Int)) (fun s h hp => by
    obtain ⟨h0, h1, h2, h3, h4, h5, h6, h7⟩ := hp
    exact ⟨.nils, by rw [h0]; exact NV.nil Hi, h1, h2, h3, h4, h5, h6, h7⟩) ?_
  refine Tr.rounds (e := .exit 4) (P := fun t s h => ∃ z, NV Hi h z (gn ((Si.take t).map (cnt S kk))) ∧ s.get [] = .ptr p 0 3 ∧ s.get [true, true] = xo ∧ s.get [false, false, false] = G (kk + 1 : Nat) ∧ s.get [true, false, false] = z8 ∧ s.get [false, true, false] = G i ∧ s.get [true, true, false] = z ∧ s.get [false, true, false, false] = G nn ∧ s.get [true, true, false, false] = G (kk + 1 : Nat) ∧ s.get [false, true, true, true] = G S.length ∧ s.get [true, true, true, true] = G i ∧ s.get [false, true, false, true, false] = y ∧ s.get [true, true, false, true, false] = G Si.length ∧ s.get [false, false, true, true, false] = G t) (M := Si.length) (fun t ht => ?_) ?_ (by simp) 0 (by omega)
  · obtain ⟨by', vy, rfl, gy⟩ : ∃ b v, y = .slice b 0 Si.length v ∧ Hi.get b = .cells 1 v (gn Si) := by
      rcases rv with ⟨_, e⟩ | ⟨b, v, e, g⟩
      · have : (gn Si).length = 0 := by rw [e]; rfl
        rw [gn_len] at this; omega
      · rw [gn_len] at e; exact ⟨b, v, e, g⟩
    refine Tr.w fun s1 H1 hp _ kR => W.trim ?_
    obtain ⟨z, nv, q⟩ := hp
    have prh := pr.kp nv.k
    obtain ⟨rfl, go, er, lo, gr⟩ := prh
    have gy1 := nv.k.at gy (by simp) id
    have e1 := gn_at ht
    have e1' := getI e1
    have lg := gn_len Si
    have hj : Si.getD t 0 < S.length := hSi _ (by
      rw [List.getD_eq_getElem?_getD, List.getElem?_eq_getElem ht]; exact List.getElem_mem _)
    have e2 := gn_at (L := rowC S kk) (i := Si.getD t 0) (by rw [rowC_len]; exact hj)
    rw [rowC_at S kk hj] at e2
    have e2' := getI e2
    have er' := getI er
    have lr : (gn (rowC S kk)).length = S.length := by rw [gn_len, rowC_len]
    have ts : (Si.take (t + 1)).map (cnt S kk) = (Si.take t).map (cnt S kk) ++ [cnt S kk (Si.getD t 0)] := by
      rw [List.take_add_one, List.map_append, List.getElem?_eq_getElem ht, List.getD_eq_getElem?_getD, List.getElem?_eq_getElem ht]; rfl
    obtain ⟨x1, e, H2, q1, q2, nv2, q4⟩ := nv.app H1.size 8 (G (cnt S kk (Si.getD t 0))) (by rw [gn_len, List.length_map, List.length_take]; omega)
    have nv2' : NV Hi H2 x1 (gn ((Si.take (t + 1)).map (cnt S kk))) := by
      rw [ts]
      have : gn ((Si.take t).map (cnt S kk) ++ [cnt S kk (Si.getD t 0)]) = gn ((Si.take t).map (cnt S kk)) ++ [G (cnt S kk (Si.getD t 0))] := by simp [gn]
      rw [this]; exact nv2
    have k1 : ((kk + 1 : Nat) : Int) = (kk : Int) + 1 := by omega
    rw [k1] at q
    rw [k1] at kR
    clear nv nv2 ts hSi pr rv gy k1
    generalize cnt S kk (Si.getD t 0) = c at *
    generalize gn (rowC S kk) = cr at *
    generalize gn Si = cs at *
    generalize Si.getD t 0 = j at *
    generalize S.length = n at *
    generalize Si.length = l at *
    refine W.seq (W.chunk ?_)
    simp (disch := first|omega|exact zE rfl|exact zO|exact zL rfl) [c62_o12, zG, q]
    refine W.seq (W.chunk ?_)
    simp (disch := first|omega|exact zE rfl|exact zO|exact zL rfl) [zG, q]
    refine W.seq (W.block ?_)
    refine W.seq (W.chunk ?_)
    simp (disch := first|omega|exact zE rfl|exact zO|exact zL rfl) [c62_o13, zG, q, gy1, e1, e1', lg]
    refine W.chunk ?_
    simp (disch := first|omega|exact zE rfl|exact zO|exact zL rfl) [c62_o14, zG, q, go, er, er', lo, gr, e2, e2', lr, q1, q2, app1_at, elems, rdOf]
    refine W.chunk ?_
    simp (disch := first|omega|exact zE rfl|exact zO|exact zL rfl) [c62_o15, zG, q]
    exact kR _ _ ⟨_, nv2', by simp [T.get, q]⟩
  · refine Tr.w fun s1 H1 hp _ kR => W.trim ?_
    obtain ⟨z, nv, q⟩ := hp
    rw [List.take_length] at nv
    clear hSi pr rv
    generalize Si.length = l at *
    refine W.seq (W.chunk ?_)
    simp (disch := first|omega|exact zE rfl|exact zO|exact zL rfl) [c62_o12, zG, q]
    refine W.seq (W.chunk ?_)
    simp (disch := first|omega|exact zE rfl|exact zO|exact zL rfl) [zG, q]
    exact kR _ _ ⟨_, nv, by simp [T.get, q]⟩
structure BI (S : List (List Nat)) (k b i : Nat) (Hk h : Heap) : Prop where
  kp : Kp (fun _ => False) Hk h
  g : h.get b = .cells 1 S.length (gn (mix S k i))
theorem c62_b1_ok (J : CallF) (k63 : K63 J) {Hk : Heap} (lf : LF Hk p S) {xo : AV} {bo br : Nat} {ros : List AV} (pr : PR S xo kk Hk bo br ros) (k40 : kk ≤ 1000) (hS : ∀ i, ∀ j ∈ S.getD i [], j < S.length) (hl : ∀ i, (S.getD i []).length ≤ 1000) (hn : S.length ≤ 1000) {b : Nat} (hb : Hk.size ≤ b) (hN : Hk.N ≤ b) (prev : (rowC S kk).sum ≤ 1152921504606846976) {i : Nat} (hi : i < S.length) :
    Tr tbl J (.trim [[], [true, true], [false, false, false], [true, false, false], [false, true, false, false], [true, true, false, false], [false, true, true, true], [true, true, true, true]] c62_b1) (fun s h => BI S (kk + 1) b i Hk h ∧ s.get [] = .ptr p 0 3 ∧ s.get [true, true] = xo ∧ s.get [false, false, false] = G (kk + 1 : Nat) ∧ s.get [true, false, false] = .slice b 0 S.length S.length ∧ s.get [false, true, false, false] = G nn ∧ s.get [true, true, false, false] = G (kk + 1 : Nat) ∧ s.get [false, true, true, true] = G S.length ∧ s.get [true, true, true, true] = G i)
      (if decide (cnt S (kk + 1) i ≤ 1152921504606846976) = true then .normal else .ret)
      (if decide (cnt S (kk + 1) i ≤ 1152921504606846976) = true then (fun s h => BI S (kk + 1) b (i + 1) Hk h ∧ s.get [] = .ptr p 0 3 ∧ s.get [true, true] = xo ∧ s.get [false, false, false] = G (kk + 1 : Nat) ∧ s.get [true, false, false] = .slice b 0 S.length S.length ∧ s.get [false, true, false, false] = G nn ∧ s.get [true, true, false, false] = G (kk + 1 : Nat) ∧ s.get [false, true, true, true] = G S.length ∧ s.get [true, true, true, true] = G ((i + 1 : Nat) : Int)) else (fun s h => s.get [true, false] = .nils ∧ s.get [false, true] = .bool false)) := by
  have main : ∀ (s1 : T) (H1 : Heap) (Q : PQ), BI S (kk + 1) b i Hk H1 → (s1.get [] = .ptr p 0 3 ∧ s1.get [true, true] = xo ∧ s1.get [false, false, false] = G (kk + 1 : Nat) ∧ s1.get [true, false, false] = .slice b 0 S.length S.length ∧ s1.get [false, true, false, false] = G nn ∧ s1.get [true, true, false, false] = G (kk + 1 : Nat) ∧ s1.get [false, true, true, true] = G S.length ∧ s1.get [true, true, true, true] = G i) →
      (∀ s' h', (if decide (cnt S (kk + 1) i ≤ 1152921504606846976) = true then (fun s h => BI S (kk + 1) b (i + 1) Hk h ∧ s.get [] = .ptr p 0 3 ∧ s.get [true, true] = xo ∧ s.get [false, false, false] = G (kk + 1 : Nat) ∧ s.get [true, false, false] = .slice b 0 S.length S.length ∧ s.get [false, true, false, false] = G nn ∧ s.get [true, true, false, false] = G (kk + 1 : Nat) ∧ s.get [false, true, true, true] = G S.length ∧ s.get [true, true, true, true] = G ((i + 1 : Nat) : Int)) else (fun s h => s.get [true, false] = .nils ∧ s.get [false, true] = .bool false) : SP) s' h' → Q (if decide (cnt S (kk + 1) i ≤ 1152921504606846976) = true then .normal else .ret) s' h') →
      W tbl J (.trim [[], [true, true], [false, false, false], [true, false, false], [false, true, false, false], [true, true, false, false], [false, true, true, true], [true, true, true, true]] c62_b1) s1 H1 Q := fun s1 H1 Q bi q kR => by
    have lf1 := lf.kp bi.kp
    obtain ⟨x, mb, nb, rs, g1, _, g3, g4⟩ := lf1
    obtain ⟨y, e1, rv⟩ := g4 i hi
    have e1' := getI e1
    have lrs : i < rs.length := (List.getElem?_eq_some_iff.1 e1).1
    have l0 := c62_l0_ok (p := p) (nn := nn) (z8 := .slice b 0 S.length S.length) (i := i) J (pr.kp bi.kp) k40 (hS i) hn (hl i) rv
    have sy := rv.sl
    rw [gn_len] at sy
    have hNh : H1.N ≤ b := by rw [bi.kp.N]; exact hN
    have lb := get_lt bi.g (by simp)
    have lm : (gn (mix S (kk + 1) i)).length = S.length := by rw [gn_len, mix_len]
    have fin : ∀ z h, NV H1 h z (gn ((S.getD i []).map (cnt S kk))) → J 63 [z, G 1152921504606846976] h = some (if cnt S (kk + 1) i ≤ 1152921504606846976 then .tup [G (cnt S (kk + 1) i), .bool true] else .tup [G 0, .bool false], [], false) ∧
        Eff.app (.put b S.length i [G (cnt S (kk + 1) i)]) h = some (h.upd b (.cells 1 S.length (gn (mix S (kk + 1) (i + 1))))) ∧ BI S (kk + 1) b (i + 1) Hk (h.upd b (.cells 1 S.length (gn (mix S (kk + 1) (i + 1))))) ∧ h.get b = .cells 1 S.length (gn (mix S (kk + 1) i)) := fun z h nv => by
      have hg := nv.k.at bi.g (by simp) id
      have hh : h.N ≤ b := by rw [nv.k.N]; exact hNh
      refine ⟨?_, ?_, ⟨(bi.kp.trans nv.k).updn b _ hh hb, upd_same _ _ _ hh (get_lt hg (by simp))⟩, hg⟩
      · rw [k63 h z _ nv.rv (by rw [List.length_map]; have := hl i; omega) (fun v hv => by
          obtain ⟨j, hj, rfl⟩ := List.mem_map.1 hv
          exact Nat.le_trans (cnt_le S kk (hS i j hj)) prev)]
        rfl
      · rw [put_gen h b S.length i 1 _ _ hh hg (by rw [gn_len, mix_len]; simp; omega)]
        simp only [putAt]
        rw [mix_set S (kk + 1) hi]
    have k1 : ((kk + 1 : Nat) : Int) = (kk : Int) + 1 := by omega
    rw [k1] at q l0
    simp only [k1] at kR
    clear g4 hS hl lf pr rv k63 prev bi k1
    generalize gn (mix S (kk + 1) i) = cm at *
    generalize gn (mix S (kk + 1) (i + 1)) = cm' at *
    generalize cnt S (kk + 1) i = c at *
    generalize (S.getD i []).length = li at *
    generalize hnn : S.length = n at *
    by_cases hc : c ≤ 1152921504606846976
    · rw [decide_eq_true hc, if_pos rfl, if_pos rfl] at kR
      simp only [if_pos hc] at fin
      rcases sy with ⟨rfl, rfl⟩ | ⟨b1, v1, rfl⟩
      all_goals
        refine W.trim ?_
        refine W.seq (W.chunk ?_)
        simp (disch := first|omega|exact zE rfl|exact zO|exact zL rfl) [c62_o7, zG, q]
        refine W.seq (W.chunk ?_)
        simp (disch := first|omega|exact zE rfl|exact zO|exact zL rfl) [zG, q]
        refine W.seq (W.block ?_)
        refine W.seq (W.chunk ?_)
        simp (disch := first|omega|exact zE rfl|exact zO|exact zL rfl) [c62_o8, zG, q]
        refine W.assoc ?_
        refine W.seq (W.chunk ?_)
        simp (disch := first|omega|exact zE rfl|exact zO|exact zL rfl) [c62_o9, zG, q]
        refine W.seq (W.cond (v := false) (by simp (disch := first|omega|exact zE rfl|exact zO|exact zL rfl) [zG, q]) ?_)
        simp only [if_true, if_false, Bool.false_eq_true]
        refine W.skip ?_
        try simp only [zW, if_true]
        refine W.seq (W.chunk ?_)
        simp (disch := first|omega|exact zE rfl|exact zO|exact zL rfl) [c62_o10, zG, q]
        refine W.assoc ?_
        refine W.seq (W.chunk ?_)
        simp (disch := first|omega|exact zE rfl|exact zO|exact zL rfl) [c62_o11, zG, q, g1, g3, e1, e1']
        refine W.seq (W.block ?_)
        refine W.use (l0) (by simp (disch := first|omega|exact zE rfl|exact zO|exact zL rfl) [zG, q]) fun s1 H1 hp => ?_
        obtain ⟨z, nv, q⟩ := hp
        try simp only [zW, if_true]
        obtain ⟨f1, f2, f3, f4⟩ := fin _ _ nv
        refine W.seq (W.chunk ?_)
        simp (disch := first|omega|exact zE rfl|exact zO|exact zL rfl) [c62_o16, zG, q, f1]
        refine W.assoc ?_
        refine W.seq (W.chunk ?_)
        simp (disch := first|omega|exact zE rfl|exact zO|exact zL rfl) [c62_o17, zG, q]
        refine W.seq (W.chunk ?_)
        simp (disch := first|omega|exact zE rfl|exact zO|exact zL rfl) [c62_o18, zG, q]
        refine W.chunk ?_
        simp (disch := first|omega|exact zE rfl|exact zO|exact zL rfl) [c62_o19, zG, q, f2, f4, lm]
        refine W.chunk ?_
        simp (disch := first|omega|exact zE rfl|exact zO|exact zL rfl) [c62_o20, zG, q]
        exact kR _ _ ⟨f3, by simp [T.get, q]⟩
    · rw [decide_eq_false hc, if_neg (by simp), if_neg (by simp)] at kR
      simp only [if_neg hc] at fin
      rcases sy with ⟨rfl, rfl⟩ | ⟨b1, v1, rfl⟩
      all_goals
        refine W.trim ?_
        refine W.seq (W.chunk ?_)
        simp (disch := first|omega|exact zE rfl|exact zO|exact zL rfl) [c62_o7, zG, q]
        refine W.seq (W.chunk ?_)
        simp (disch := first|omega|exact zE rfl|exact zO|exact zL rfl) [zG, q]
        refine W.seq (W.block ?_)
        refine W.seq (W.chunk ?_)
        simp (disch := first|omega|exact zE rfl|exact zO|exact zL rfl) [c62_o8, zG, q]
        refine W.assoc ?_
        refine W.seq (W.chunk ?_)
        simp (disch := first|omega|exact zE rfl|exact zO|exact zL rfl) [c62_o9, zG, q]
        refine W.seq (W.cond (v := false) (by simp (disch := first|omega|exact zE rfl|exact zO|exact zL rfl) [zG, q]) ?_)
        simp only [if_true, if_false, Bool.false_eq_true]
        refine W.skip ?_
        try simp only [zW, if_true]
        refine W.seq (W.chunk ?_)
        simp (disch := first|omega|exact zE rfl|exact zO|exact zL rfl) [c62_o10, zG, q]
        refine W.assoc ?_
        refine W.seq (W.chunk ?_)
        simp (disch := first|omega|exact zE rfl|exact zO|exact zL rfl) [c62_o11, zG, q, g1, g3, e1, e1']
        refine W.seq (W.block ?_)
        refine W.use (l0) (by simp (disch := first|omega|exact zE rfl|exact zO|exact zL rfl) [zG, q]) fun s1 H1 hp => ?_
        obtain ⟨z, nv, q⟩ := hp
        try simp only [zW, if_true]
        obtain ⟨f1, f2, f3, f4⟩ := fin _ _ nv
        refine W.seq (W.chunk ?_)
        simp (disch := first|omega|exact zE rfl|exact zO|exact zL rfl) [c62_o16, zG, q, f1]
        refine W.assoc ?_
        refine W.seq (W.chunk ?_)
        simp (disch := first|omega|exact zE rfl|exact zO|exact zL rfl) [c62_o17, zG, q]
        refine W.seq (W.chunk ?_)
        simp (disch := first|omega|exact zE rfl|exact zO|exact zL rfl) [c62_o18, zG, q]
        exact kR _ _ (by simp [T.get, q])
  by_cases hc : decide (cnt S (kk + 1) i ≤ 1152921504606846976) = true
  · simp only [if_pos hc] at main ⊢
    exact Tr.w fun s1 H1 hp Q kR => main s1 H1 Q hp.1 hp.2 kR
  · simp only [if_neg hc] at main ⊢
    exact Tr.w fun s1 H1 hp Q kR => main s1 H1 Q hp.1 hp.2 kR
end
def rowsC (S : List (List Nat)) (k : Nat) : List (List AV) := (List.range k).map fun k => gn (rowC S k)
theorem rowsC_len (S : List (List Nat)) (k : Nat) : (rowsC S k).length = k := by simp [rowsC]
theorem rowsC_succ (S : List (List Nat)) (k : Nat) : rowsC S (k + 1) = rowsC S k ++ [gn (rowC S k)] := by simp [rowsC, List.range_succ]
theorem rowsC_at (S : List (List Nat)) {k i : Nat} (h : i < k) : (rowsC S k)[i]? = some (gn (rowC S i)) := by
  unfold rowsC
  rw [List.getElem?_map, List.getElem?_range h]; rfl
structure OkS (S : List (List Nat)) : Prop where
  lt : ∀ i, ∀ j ∈ S.getD i [], j < S.length
  len : ∀ i, (S.getD i []).length ≤ 1000
  n : S.length ≤ 1000
section
variable {S : List (List Nat)} {p nn : Nat}
abbrev L1P (S : List (List Nat)) (p nn k b i : Nat) (xo : AV) (Hk : Heap) : SP := fun s h => BI S k b i Hk h ∧ s.get [] = .ptr p 0 3 ∧ s.get [true, true] = xo ∧ s.get [false, false, false] = G k ∧ s.get [true, false, false] = .slice b 0 S.length S.length ∧ s.get [false, true, false, false] = G nn ∧ s.get [true, true, false, false] = G k ∧ s.get [false, true, true, true] = G S.length ∧ s.get [true, true, true, true] = G i
abbrev L1Q (S : List (List Nat)) (p nn k b : Nat) (xo : AV) (Hk : Heap) : SP := fun s h => BI S k b S.length Hk h ∧ s.get [] = .ptr p 0 3 ∧ s.get [true, true] = xo ∧ s.get [true, false, false] = .slice b 0 S.length S.length ∧ s.get [false, true, false, false] = G nn ∧ s.get [true, true, false, false] = G k
theorem c62_l1_0 (J : CallF) {Hk : Heap} {xo : AV} {b : Nat} (hn : S.length ≤ 1000) : Tr tbl J c62_l1 (L1P S p nn 0 b 0 xo Hk) (.exit 2) (L1Q S p nn 0 b xo Hk) := by
  refine Tr.out ?_ (by simp)
  refine Tr.w fun s1 H1 hp _ kR => W.trim ?_
  obtain ⟨bi, q⟩ := hp
  have bi2 : BI S 0 b S.length Hk H1 := ⟨bi.kp, by
    rw [bi.g, mix_0, mix_n, rowC_0]⟩
  clear bi
  dsimp only [L1Q] at kR
  generalize S.length = n at *
  rcases Nat.eq_zero_or_pos n with rfl | hp0
  · refine W.seq (W.chunk ?_)
    simp (disch := first|omega|exact zE rfl|exact zO|exact zL rfl) [c62_o7, zG, q]
    refine W.seq (W.chunk ?_)
    simp (disch := first|omega|exact zE rfl|exact zO|exact zL rfl) [zG, q]
    exact kR _ _ ⟨bi2, by simp [T.get, q]⟩
  · refine W.seq (W.chunk ?_)
    simp (disch := first|omega|exact zE rfl|exact zO|exact zL rfl) [c62_o7, zG, q]
    refine W.seq (W.chunk ?_)
    simp (disch := first|omega|exact zE rfl|exact zO|exact zL rfl) [zG, q]
    refine W.seq (W.block ?_)
    refine W.seq (W.chunk ?_)
    simp (disch := first|omega|exact zE rfl|exact zO|exact zL rfl) [c62_o8, zG, q]
    refine W.assoc ?_
    refine W.seq (W.chunk ?_)
    simp (disch := first|omega|exact zE rfl|exact zO|exact zL rfl) [c62_o9, zG, q]
    refine W.seq (W.cond (v := true) (by simp (disch := first|omega|exact zE rfl|exact zO|exact zL rfl) [zG, q]) ?_)
    simp only [if_true, if_false, Bool.false_eq_true]
    refine W.exit ?_
    try simp only [zW, if_true]
    exact kR _ _ ⟨bi2, by simp [T.get, q]⟩
theorem c62_l1_end (J : CallF) {k : Nat} {Hk : Heap} {xo : AV} {b : Nat} (hn : S.length ≤ 1000) : Tr tbl J (.trim [[], [true, true], [false, false, false], [true, false, false], [false, true, false, false], [true, true, false, false], [false, true, true, true], [true, true, true, true]] c62_b1) (L1P S p nn k b S.length xo Hk) (.exit 2) (L1Q S p nn k b xo Hk) := by
  refine Tr.w fun s1 H1 hp _ kR => W.trim ?_
  obtain ⟨bi, q⟩ := hp
  dsimp only [L1Q] at kR
  generalize hnn : S.length = n at *
  refine W.seq (W.chunk ?_)
  simp (disch := first|omega|exact zE rfl|exact zO|exact zL rfl) [c62_o7, zG, q]
  refine W.seq (W.chunk ?_)
  simp (disch := first|omega|exact zE rfl|exact zO|exact zL rfl) [zG, q]
  exact kR _ _ ⟨bi, by simp [T.get, q]⟩
def lvlB (S : List (List Nat)) (k : Nat) : Bool := af (fun i => decide (cnt S k i ≤ 1152921504606846976)) 0 S.length
theorem c62_l1_t (J : CallF) (k63 : K63 J) {Hk : Heap} (os : OkS S) (lf : LF Hk p S) {xo : AV} {kk bo br : Nat} {ros : List AV} (pr : PR S xo kk Hk bo br ros) (k40 : kk ≤ 1000) {b : Nat} (hb : Hk.size ≤ b) (hN : Hk.N ≤ b) (prev : (rowC S kk).sum ≤ 1152921504606846976) :
    (lvlB S (kk + 1) = true → Tr tbl J c62_l1 (L1P S p nn (kk + 1) b 0 xo Hk) (.exit 2) (L1Q S p nn (kk + 1) b xo Hk)) ∧
    (lvlB S (kk + 1) = false → Tr tbl J c62_l1 (L1P S p nn (kk + 1) b 0 xo Hk) .ret (fun s h => s.get [true, false] = .nils ∧ s.get [false, true] = .bool false)) := by
  have key := fun i hi => c62_b1_ok (p := p) (nn := nn) J k63 lf pr k40 os.lt os.len os.n hb hN prev (i := i) hi
  refine ⟨fun h => Tr.allT (P := fun i => L1P S p nn (kk + 1) b i xo Hk) (p := fun i => decide (cnt S (kk + 1) i ≤ 1152921504606846976)) S.length (fun i hi hp => ?_) (c62_l1_end J os.n) (by simp) S.length 0 (by omega) h, fun h => Tr.allF (P := fun i => L1P S p nn (kk + 1) b i xo Hk) (p := fun i => decide (cnt S (kk + 1) i ≤ 1152921504606846976)) S.length (fun i hi hp => ?_) (fun i hi hp => ?_) (by simp) S.length 0 (by omega) h⟩
  · have := key i hi
    rw [if_pos hp, if_pos hp] at this
    exact this
  · have := key i hi
    rw [if_pos hp, if_pos hp] at this
    exact this
  · have := key i hi
    rw [if_neg (by rw [hp]; simp), if_neg (by rw [hp]; simp)] at this
    exact this
theorem lvlB_of {k : Nat} (h : (rowC S k).sum ≤ 1152921504606846976) : lvlB S k = true := by
  unfold lvlB
  rw [af_iff]
  intro i _ hi
  rw [decide_eq_true_eq]
  exact Nat.le_trans (cnt_le S k (by omega)) h
theorem row_le {k : Nat} (h : lvlB S k = true) : ∀ x ∈ rowC S k, x ≤ 1152921504606846976 := fun x hx => by
  unfold rowC at hx
  obtain ⟨i, hi, rfl⟩ := List.mem_map.1 hx
  unfold lvlB at h
  rw [af_iff] at h
  have := h i (Nat.zero_le _) (by have := List.mem_range.1 hi; omega)
  rwa [decide_eq_true_eq] at this
abbrev L2P (S : List (List Nat)) (p nn k : Nat) (Hb : Heap) : SP := fun s h => ∃ y, (TB Hb h y (rowsC S k) ∧ ∀ k', k' < k → (rowC S k').sum ≤ 1152921504606846976) ∧ s.get [] = .ptr p 0 3 ∧ s.get [true, true] = y ∧ s.get [false, true, false, false] = G nn ∧ s.get [true, true, false, false] = G k
theorem lvl_all (J : CallF) (k63 : K63 J) (os : OkS S) {Hb H : Heap} (lf : LF Hb p S) {k : Nat} (k40 : k ≤ 1000) {y : AV} (tb : TB Hb H y (rowsC S k)) (prev : ∀ k', k' < k → (rowC S k').sum ≤ 1152921504606846976) {Hk : Heap} (kH : Kp (fun _ => False) H Hk) {b : Nat} (hb : Hk.size = b) :
    (lvlB S k = true → Tr tbl J c62_l1 (L1P S p nn k b 0 y Hk) (.exit 2) (L1Q S p nn k b y Hk)) ∧
    (lvlB S k = false → Tr tbl J c62_l1 (L1P S p nn k b 0 y Hk) .ret (fun s h => s.get [true, false] = .nils ∧ s.get [false, true] = .bool false)) := by
  have hN : Hk.N ≤ b := by rw [← hb]; unfold Heap.size; omega
  cases k with
  | zero =>
    refine ⟨fun _ => c62_l1_0 J os.n, fun h => ?_⟩
    have : lvlB S 0 = true := by
      unfold lvlB
      rw [af_iff]
      intro i _ _
      simp [cnt]
    rw [this] at h; cases h
  | succ kk =>
    have t1 := tb.kp kH
    obtain ⟨bo, ros, e1, e2, e3, e4⟩ := t1.sl (i := kk) (by rw [rowsC_len]; omega)
    rw [rowsC_len] at e1 e2 e3
    obtain ⟨br, e5, e6⟩ := e4 kk _ (rowsC_at S (Nat.lt_succ_self kk))
    rw [gn_len, rowC_len] at e5 e6
    have pr : PR S y kk Hk bo br ros := ⟨e1, e2, e5, e3, e6⟩
    exact c62_l1_t J k63 os ((lf.kp tb.k).kp kH) pr (by omega) (by omega) hN (prev kk (Nat.lt_succ_self kk))
theorem c62_b2_ok (J : CallF) (k63 : K63 J) (k91 : K91 J) (os : OkS S) (n243 : S.length ≤ 243) {Hb : Heap} (lf : LF Hb p S) {k : Nat} (hk : k < nn) (k40 : nn ≤ 40) :
    ((rowC S k).sum ≤ 1152921504606846976 → Tr tbl J (.trim [[], [true, true], [false, true, false, false], [true, true, false, false]] c62_b2) (L2P S p nn k Hb) .normal (L2P S p nn (k + 1) Hb)) ∧
    (¬ (rowC S k).sum ≤ 1152921504606846976 → Tr tbl J (.trim [[], [true, true], [false, true, false, false], [true, true, false, false]] c62_b2) (L2P S p nn k Hb) .ret (fun s h => s.get [true, false] = .nils ∧ s.get [false, true] = .bool false)) := by
  have pre : ∀ (H1 : Heap) (y : AV), TB Hb H1 y (rowsC S k) → ∃ Hk b, H1.plus [.cells 1 1 [G 1]] = Hk ∧ Hk.size = b ∧ Kp (fun _ => False) H1 Hk ∧ J 91 [.slice H1.size 0 1 1, G S.length] Hk = some (.slice b 0 S.length S.length, [.cells 1 S.length (List.replicate S.length (G 1))], false) ∧ BI S k b 0 Hk (Hk.plus [.cells 1 S.length (List.replicate S.length (G 1))]) ∧ LF Hk p S ∧ blk y ≠ some b ∧ Hb.size ≤ b := fun H1 y tb => by
    have kH : Kp (fun _ => False) H1 (H1.plus [.cells 1 1 [G 1]]) := Kp.plus _ _
    refine ⟨_, _, rfl, rfl, kH, ?_, ⟨Kp.plus _ _, by rw [mix_0]; exact plus_at0 _ _ _ _ rfl⟩, (lf.kp tb.k).kp kH, fun e => ?_, Nat.le_trans tb.k.size kH.size⟩
    · exact k91 _ H1.size S.length 1 (plus_at0 _ _ _ _ rfl) n243
    · obtain ⟨rs, lv, _⟩ := tb.r
      have := lv.lt e
      have := kH.size
      rw [plus_size] at *
      simp at *
      omega
  have step : ∀ (H1 : Heap) (y : AV), TB Hb H1 y (rowsC S k) → (∀ k', k' < k → (rowC S k').sum ≤ 1152921504606846976) → lvlB S k = true → ∀ Hk b, Hk.size = b → Kp (fun _ => False) H1 Hk → blk y ≠ some b → Hb.size ≤ b → ∀ h, BI S k b S.length Hk h → J 63 [.slice b 0 S.length S.length, G 1152921504606846976] h = some (tot (rowC S k), [], false) ∧
      ∃ x1 e h2, appA (h.plus [.cells 1 1 [.slice b 0 S.length S.length]]) h.size none 1 24 1 [.slice b 0 S.length S.length] y = some (x1, e) ∧ Eff.app e (h.plus [.cells 1 1 [.slice b 0 S.length S.length]]) = some h2 ∧ TB Hb h2 x1 (rowsC S (k + 1)) := fun H1 y tb prev lv Hk b hb kH hy hb2 h bi => by
    have g := bi.g
    rw [mix_n] at g
    have lr : (gn (rowC S k)).length = S.length := by rw [gn_len, rowC_len]
    refine ⟨?_, ?_⟩
    · exact k63 h _ (rowC S k) (.inr ⟨b, S.length, by rw [lr], g⟩) (by rw [rowC_len]; omega) (row_le lv)
    · obtain ⟨x1, e, h2, q1, q2, q3, _⟩ := ((tb.kp kH).kp bi.kp).app h.size (b := b) (cs := gn (rowC S k)) (by rw [lr]; exact g) ⟨hy, hb2⟩ (by rw [rowsC_len]; omega)
      rw [lr] at q1 q2
      rw [rowsC_succ]
      exact ⟨x1, e, h2, q1, q2, q3⟩
  have main : ∀ (s1 : T) (H1 : Heap) (Q : PQ) (y : AV), TB Hb H1 y (rowsC S k) → (∀ k', k' < k → (rowC S k').sum ≤ 1152921504606846976) → (s1.get [] = .ptr p 0 3 ∧ s1.get [true, true] = y ∧ s1.get [false, true, false, false] = G nn ∧ s1.get [true, true, false, false] = G k) →
      ((rowC S k).sum ≤ 1152921504606846976 → ∀ s' h', L2P S p nn (k + 1) Hb s' h' → Q .normal s' h') → (¬ (rowC S k).sum ≤ 1152921504606846976 → ∀ s' h', ((fun s h => s.get [true, false] = .nils ∧ s.get [false, true] = .bool false) : SP) s' h' → Q .ret s' h') → W tbl J (.trim [[], [true, true], [false, true, false, false], [true, true, false, false]] c62_b2) s1 H1 Q := fun s1 H1 Q y tb prev q kA kB => by
    obtain ⟨Hk, b, hk1, hb, kH, e91, bi0, lfk, hy, hb2⟩ := pre H1 y tb
    have lall := lvl_all (nn := nn) J k63 os lf (by omega) tb prev kH hb
    have st := step H1 y tb prev
    obtain ⟨x, mb, nb, rs, g1, sx, _, _⟩ := lfk
    have prev2 : (rowC S k).sum ≤ 1152921504606846976 → ∀ k', k' < k + 1 → (rowC S k').sum ≤ 1152921504606846976 := fun hs k' hk' => by
      by_cases e : k' = k
      · rw [e]; exact hs
      · exact prev k' (by omega)
    have t1 := lvlB_of (S := S) (k := k)
    cases lv : lvlB S k
    · have ns : ¬ (rowC S k).sum ≤ 1152921504606846976 := fun h => by rw [t1 h] at lv; cases lv
      have kR := kB ns
      have l1 := lall.2 lv
      clear lall st prev2 t1 kA kB prev tb pre step
      unfold L1P at l1
      generalize hnn : S.length = n at *
      have nz : n = 0 ∨ 0 < n := Nat.eq_zero_or_pos n
      rcases sx with ⟨rfl, hz⟩ | ⟨b1, v1, rfl⟩
      · subst hz
        exfalso
        unfold lvlB at lv
        rw [hnn] at lv
        cases lv
      · refine W.trim ?_
        refine W.seq (W.chunk ?_)
        simp (disch := first|omega|exact zE rfl|exact zO|exact zL rfl) [c62_o3, zG, q]
        refine W.seq (W.chunk ?_)
        simp (disch := first|omega|exact zE rfl|exact zO|exact zL rfl) [zG, q]
        refine W.seq (W.block ?_)
        refine W.seq (W.chunk ?_)
        simp (disch := first|omega|exact zE rfl|exact zO|exact zL rfl) [c62_o4, zG, q]
        refine W.seq (W.chunk ?_)
        simp (disch := first|omega|exact zE rfl|exact zO|exact zL rfl) [c62_o5, zG, q, hk1, g1, e91]
        refine W.assoc ?_
        refine W.seq (W.chunk ?_)
        simp (disch := first|omega|exact zE rfl|exact zO|exact zL rfl) [c62_o6, zG, q]
        refine W.seq (W.block ?_)
        refine W.use (l1) (by simp (disch := first|omega|exact zE rfl|exact zO|exact zL rfl) [zG, q, bi0]) fun s1 H1 hp => ?_
        try simp only [zW, if_true]
        exact kR _ _ hp
    · have l1 := lall.1 lv
      have st := st lv Hk b hb kH hy hb2
      by_cases hs : (rowC S k).sum ≤ 1152921504606846976
      · have kR := kA hs
        have pv2 := prev2 hs
        have et : tot (rowC S k) = .tup [G (rowC S k).sum, .bool true] := by unfold tot; rw [if_pos hs]
        rw [et] at st
        clear lall t1 kA kB prev tb pre step et prev2
        unfold L1P L1Q at l1
        generalize (rowC S k).sum = sm at *
        generalize hnn : S.length = n at *
        rcases sx with ⟨rfl, rfl⟩ | ⟨b1, v1, rfl⟩
        all_goals
          try rw [show ((0 : Nat) : Int) = 0 from rfl] at e91
          try rw [show List.replicate 0 (G 1) = [] from rfl] at e91 bi0
          refine W.trim ?_
          refine W.seq (W.chunk ?_)
          simp (disch := first|omega|exact zE rfl|exact zO|exact zL rfl) [c62_o3, zG, q]
          refine W.seq (W.chunk ?_)
          simp (disch := first|omega|exact zE rfl|exact zO|exact zL rfl) [zG, q]
          refine W.seq (W.block ?_)
          refine W.seq (W.chunk ?_)
          simp (disch := first|omega|exact zE rfl|exact zO|exact zL rfl) [c62_o4, zG, q]
          refine W.seq (W.chunk ?_)
          simp (disch := first|omega|exact zE rfl|exact zO|exact zL rfl) [c62_o5, zG, q, hk1, g1, e91]
          refine W.assoc ?_
          refine W.seq (W.chunk ?_)
          simp (disch := first|omega|exact zE rfl|exact zO|exact zL rfl) [c62_o6, zG, q]
          refine W.seq (W.block ?_)
          refine W.use (l1) (by simp (disch := first|omega|exact zE rfl|exact zO|exact zL rfl) [zG, q, bi0]) fun s1 H1 hp => ?_
          obtain ⟨bi, q⟩ := hp
          try simp only [zW, if_true]
          refine W.assoc ?_
          obtain ⟨f1, x1, e, h2, q1, q2, q3⟩ := st _ bi
          refine W.seq (W.chunk ?_)
          simp (disch := first|omega|exact zE rfl|exact zO|exact zL rfl) [c62_o21, zG, q, f1]
          refine W.assoc ?_
          refine W.seq (W.chunk ?_)
          simp (disch := first|omega|exact zE rfl|exact zO|exact zL rfl) [c62_o22, zG, q]
          refine W.seq (W.chunk ?_)
          simp (disch := first|omega|exact zE rfl|exact zO|exact zL rfl) [c62_o23, zG, q]
          refine W.chunk ?_
          simp (disch := first|omega|exact zE rfl|exact zO|exact zL rfl) [c62_o24, zG, q, q1, q2, app1_at, elems, rdOf]
          refine W.chunk ?_
          simp (disch := first|omega|exact zE rfl|exact zO|exact zL rfl) [c62_o25, zG, q]
          exact kR _ _ ⟨_, ⟨q3, pv2⟩, by simp [T.get, q]⟩
      · have kR := kB hs
        have et : tot (rowC S k) = .tup [G 0, .bool false] := by unfold tot; rw [if_neg hs]
        rw [et] at st
        clear lall t1 kA kB prev tb pre step et prev2
        unfold L1P L1Q at l1
        generalize hnn : S.length = n at *
        rcases sx with ⟨rfl, rfl⟩ | ⟨b1, v1, rfl⟩
        all_goals
          try rw [show ((0 : Nat) : Int) = 0 from rfl] at e91
          try rw [show List.replicate 0 (G 1) = [] from rfl] at e91 bi0
          refine W.trim ?_
          refine W.seq (W.chunk ?_)
          simp (disch := first|omega|exact zE rfl|exact zO|exact zL rfl) [c62_o3, zG, q]
          refine W.seq (W.chunk ?_)
          simp (disch := first|omega|exact zE rfl|exact zO|exact zL rfl) [zG, q]
          refine W.seq (W.block ?_)
          refine W.seq (W.chunk ?_)
          simp (disch := first|omega|exact zE rfl|exact zO|exact zL rfl) [c62_o4, zG, q]
          refine W.seq (W.chunk ?_)
          simp (disch := first|omega|exact zE rfl|exact zO|exact zL rfl) [c62_o5, zG, q, hk1, g1, e91]
          refine W.assoc ?_
          refine W.seq (W.chunk ?_)
          simp (disch := first|omega|exact zE rfl|exact zO|exact zL rfl) [c62_o6, zG, q]
          refine W.seq (W.block ?_)
          refine W.use (l1) (by simp (disch := first|omega|exact zE rfl|exact zO|exact zL rfl) [zG, q, bi0]) fun s1 H1 hp => ?_
          obtain ⟨bi, q⟩ := hp
          try simp only [zW, if_true]
          refine W.assoc ?_
          obtain ⟨f1, x1, e, h2, q1, q2, q3⟩ := st _ bi
          refine W.seq (W.chunk ?_)
          simp (disch := first|omega|exact zE rfl|exact zO|exact zL rfl) [c62_o21, zG, q, f1]
          refine W.assoc ?_
          refine W.seq (W.chunk ?_)
          simp (disch := first|omega|exact zE rfl|exact zO|exact zL rfl) [c62_o22, zG, q]
          refine W.seq (W.chunk ?_)
          simp (disch := first|omega|exact zE rfl|exact zO|exact zL rfl) [c62_o23, zG, q]
          exact kR _ _ (by simp [T.get, q])
  exact ⟨fun hs => Tr.w fun s1 H1 hp Q kR => by
    obtain ⟨y, ⟨tb, prev⟩, q⟩ := hp
    exact main s1 H1 Q y tb prev q (fun _ => kR) (fun h => absurd hs h), fun hs => Tr.w fun s1 H1 hp Q kR => by
    obtain ⟨y, ⟨tb, prev⟩, q⟩ := hp
    exact main s1 H1 Q y tb prev q (fun h => absurd h hs) (fun _ => kR)⟩
theorem LF.fr {h : Heap} (l : LF h p S) : LF (frameOf h) p S := by
  have gl : ∀ {b y}, h.get b = y → y ≠ .hole → (frameOf h).get b = y := fun e hx => by
    unfold frameOf; rw [get_mk_lt _ _ _ _ (get_lt e hx)]; exact e
  obtain ⟨x, mb, nb, rs, h1, h2, h3, h4⟩ := l
  refine ⟨x, mb, nb, rs, gl h1 (by simp), h2, gl h3 (by simp), fun i hi => ?_⟩
  obtain ⟨y, e1, e2⟩ := h4 i hi
  exact ⟨y, e1, e2.frame⟩
theorem TB.fr1 {h h' : Heap} {x : AV} {b : Bool} {L : List (List AV)} (t : TB (frameOf h) h' x L) : TB h (h.plus (if (one [x, .bool b]).flat then [] else h'.own)) x L := by
  split
  · rename_i hf
    obtain ⟨rs, lv, hl, hr⟩ := t.r
    rcases lv with ⟨rfl, rfl⟩ | ⟨b, rfl, g, n⟩
    · have : L = [] := List.length_eq_zero_iff.1 hl.symm
      subst this
      have : h.plus [] = h := by simp [Heap.plus]
      rw [this]; exact TB.nil h
    · simp [one, AV.flat, AV.flats] at hf
  · exact t.fr
theorem okC_iff {S : List (List Nat)} {n : Nat} : okC S n = true ↔ ∀ k, k < n → (rowC S k).sum ≤ 1152921504606846976 := by
  unfold okC
  rw [af_iff]
  constructor
  · intro h k hk
    have := h k (Nat.zero_le _) (by omega)
    rwa [decide_eq_true_eq] at this
  · intro h k _ hk
    rw [decide_eq_true_eq]
    exact h k (by omega)
theorem c62_l2_ok (J : CallF) (k63 : K63 J) (k91 : K91 J) (os : OkS S) (n243 : S.length ≤ 243) {Hb : Heap} (lf : LF Hb p S) (k40 : nn ≤ 40) :
    (okC S nn = true → Tr tbl J c62_l2 (fun s h => h = Hb ∧ s.get [] = .ptr p 0 3 ∧ s.get [true, true] = .nils ∧ s.get [false, true, false, false] = G nn ∧ s.get [true, true, false, false] = G ((0 : Nat) : Int)) (.exit 0) (fun s h => ∃ y, TB Hb h y (rowsC S nn) ∧ s.get [true, true] = y)) ∧
    (okC S nn = false → Tr tbl J c62_l2 (fun s h => h = Hb ∧ s.get [] = .ptr p 0 3 ∧ s.get [true, true] = .nils ∧ s.get [false, true, false, false] = G nn ∧ s.get [true, true, false, false] = G ((0 : Nat) : Int)) .ret (fun s h => s.get [true, false] = .nils ∧ s.get [false, true] = .bool false)) := by
  have p0 : ∀ s h, ((fun s h => h = Hb ∧ s.get [] = .ptr p 0 3 ∧ s.get [true, true] = .nils ∧ s.get [false, true, false, false] = G nn ∧ s.get [true, true, false, false] = G ((0 : Nat) : Int)) : SP) s h → L2P S p nn 0 Hb s h := fun s h hp => ⟨.nils, ⟨by rw [hp.1]; exact TB.nil Hb, fun k hk => by omega⟩, hp.2⟩
  have fin : Tr tbl J (.trim [[], [true, true], [false, true, false, false], [true, true, false, false]] c62_b2) (L2P S p nn nn Hb) (.exit 0) (fun s h => ∃ y, TB Hb h y (rowsC S nn) ∧ s.get [true, true] = y) := by
    refine Tr.w fun s1 H1 hp _ kR => W.trim ?_
    obtain ⟨y, ⟨tb, _⟩, q⟩ := hp
    refine W.seq (W.chunk ?_)
    simp (disch := first|omega|exact zE rfl|exact zO|exact zL rfl) [c62_o3, zG, q]
    refine W.seq (W.chunk ?_)
    simp (disch := first|omega|exact zE rfl|exact zO|exact zL rfl) [zG, q]
    exact kR _ _ ⟨_, tb, by simp [T.get, q]⟩
  refine ⟨fun h => Tr.pre p0 (Tr.allT (P := fun k => L2P S p nn k Hb) (p := fun k => decide ((rowC S k).sum ≤ 1152921504606846976)) nn (fun k hk hp => ?_) fin (by simp) nn 0 (by omega) h), fun h => Tr.pre p0 (Tr.allF (P := fun k => L2P S p nn k Hb) (p := fun k => decide ((rowC S k).sum ≤ 1152921504606846976)) nn (fun k hk hp => ?_) (fun k hk hp => ?_) (by simp) nn 0 (by omega) h)⟩
  · exact (c62_b2_ok J k63 k91 os n243 lf hk k40).1 (of_decide_eq_true hp)
  · exact (c62_b2_ok J k63 k91 os n243 lf hk k40).1 (of_decide_eq_true hp)
  · exact (c62_b2_ok J k63 k91 os n243 lf hk k40).2 (of_decide_eq_false hp)
theorem c62_t (J : CallF) (k63 : K63 J) (k91 : K91 J) (hJ : ∀ a h, J 62 a h = none) (h : Heap) (os : OkS S) (n243 : S.length ≤ 243) (lf : LF h p S) (k40 : nn ≤ 40) (hc : okC S nn = true) :
    ∃ v own, CallsTo tbl J 62 [.ptr p 0 3, G nn] h (v, own, false) ∧ ∃ x, v = .tup [x, .bool true] ∧ TB h (h.plus own) x (rowsC S nn) := by
  refine Tr.fny (cf := c62) (e := .ret) (s := T.set (T.set .leaf [] (.ptr p 0 3)) [false] (G nn)) (by decide) rfl (hJ _ _) rfl rfl (by simp) ?_
  have l2 := (c62_l2_ok J k63 k91 os n243 lf.fr k40).1 hc
  refine Tr.w fun s1 H1 hp _ kR => ?_
  obtain ⟨rfl, rfl⟩ := hp
  have q : True := trivial
  refine W.seq (W.chunk ?_)
  simp (disch := first|omega|exact zE rfl|exact zO|exact zL rfl) [c62_o0, zG, q]
  refine W.seq (W.chunk ?_)
  simp (disch := first|omega|exact zE rfl|exact zO|exact zL rfl) [c62_o1, zG, q]
  refine W.assoc ?_
  refine W.seq (W.chunk ?_)
  simp (disch := first|omega|exact zE rfl|exact zO|exact zL rfl) [c62_o2, zG, q]
  refine W.seq (W.block ?_)
  refine W.use (l2) (by simp (disch := first|omega|exact zE rfl|exact zO|exact zL rfl) [zG, q]) fun s1 H1 hp => ?_
  obtain ⟨y, tb, q⟩ := hp
  try simp only [zW, if_true]
  refine W.seq (W.chunk ?_)
  simp (disch := first|omega|exact zE rfl|exact zO|exact zL rfl) [c62_o26, zG, q]
  refine W.ret ?_
  try simp only [zW, if_true]
  refine kR _ _ ?_
  exact ⟨[y, .bool true], by simp [T.get, c62, evRess, evRes, q], y, rfl, tb.fr1⟩
theorem c62_f (J : CallF) (k63 : K63 J) (k91 : K91 J) (hJ : ∀ a h, J 62 a h = none) (h : Heap) (os : OkS S) (n243 : S.length ≤ 243) (lf : LF h p S) (k40 : nn ≤ 40) (hc : okC S nn = false) : CallsTo tbl J 62 [.ptr p 0 3, G nn] h (.tup [.nils, .bool false], [], false) := by
  refine Tr.fnv (cf := c62) (e := .ret) (s := T.set (T.set .leaf [] (.ptr p 0 3)) [false] (G nn)) (by decide) rfl (hJ _ _) rfl rfl rfl (by simp) ?_
  refine Tr.post (Q := (fun s h => s.get [true, false] = .nils ∧ s.get [false, true] = .bool false)) (fun s h q => by simp [c62, q]) ?_
  have l2 := (c62_l2_ok J k63 k91 os n243 lf.fr k40).2 hc
  refine Tr.w fun s1 H1 hp _ kR => ?_
  obtain ⟨rfl, rfl⟩ := hp
  have q : True := trivial
  refine W.seq (W.chunk ?_)
  simp (disch := first|omega|exact zE rfl|exact zO|exact zL rfl) [c62_o0, zG, q]
  refine W.seq (W.chunk ?_)
  simp (disch := first|omega|exact zE rfl|exact zO|exact zL rfl) [c62_o1, zG, q]
  refine W.assoc ?_
  refine W.seq (W.chunk ?_)
  simp (disch := first|omega|exact zE rfl|exact zO|exact zL rfl) [c62_o2, zG, q]
  refine W.seq (W.block ?_)
  refine W.use (l2) (by simp (disch := first|omega|exact zE rfl|exact zO|exact zL rfl) [zG, q]) fun s1 H1 hp => ?_
  try simp only [zW, if_true]
  exact kR _ _ hp
end
structure A62 where
  p : Nat
  nn : Nat
  S : List (List Nat)
def Ok62 (b : A62) (h : Heap) : Prop := OkS b.S ∧ b.S.length ≤ 243 ∧ LF h b.p b.S ∧ b.nn ≤ 40
def Pre62 (b : A62) (args : List AV) (h : Heap) : Prop := Ok62 b h ∧ args = [.ptr b.p 0 3, G b.nn]
def Post62 (b : A62) (h : Heap) (v : AV) (own : List AObj) : Prop := (okC b.S b.nn = true → ∃ x, v = .tup [x, .bool true] ∧ TB h (h.plus own) x (rowsC b.S b.nn)) ∧ (okC b.S b.nn = false → v = .tup [.nils, .bool false] ∧ own = [])
noncomputable def T38 : CallF := addK tbl T37 62 Pre62 Post62
theorem t38 : Sound Go.Proofs.Try.prog T38 := Sound.addK follows ok t37 (by decide) _ _
abbrev K62 (J : CallF) : Prop := ∀ (h : Heap) (b : A62), Ok62 b h → ∃ v own, J 62 [.ptr b.p 0 3, G b.nn] h = some (v, own, false) ∧ Post62 b h v own
theorem k91_37 : K91 T37 := fun h b n x hb h2 => by
  rw [show T37 91 [.slice b 0 1 1, G n] h = T34 91 [.slice b 0 1 1, G n] h from by simp (disch := decide) only [T35, T36, T37, addK_ne]]
  exact k91 h b n x hb h2
theorem k62 : K62 T38 := fun h b o => by
  obtain ⟨v, own, e, l⟩ := addK_some (Pre := Pre62) (Post := Post62) (fun b args h hp => by
    obtain ⟨⟨h1, h2, h3, h4⟩, rfl⟩ := hp
    cases hc : okC b.S b.nn
    · exact ⟨_, _, c62_f T37 k63 k91_37 (fun _ _ => by simp (disch := decide) only [T1, T2, T3, T4, T5, T6, T7, T8, T9, T10, T11, T12, T13, T14, T15, T16, T17, T18, T19, T20, T21, T22, T23, T24, T25, T26, T27, T28, T29, T30, T31, T32, T33, T34, T35, T36, T37, addI_ne, addX_ne, addV_ne, addK_ne]; rfl) h h1 h2 h3 h4 hc, fun q => (by rw [hc] at q; cases q), fun _ => ⟨rfl, rfl⟩⟩
    · obtain ⟨v, own, e, x, rfl, tb⟩ := c62_t T37 k63 k91_37 (fun _ _ => by simp (disch := decide) only [T1, T2, T3, T4, T5, T6, T7, T8, T9, T10, T11, T12, T13, T14, T15, T16, T17, T18, T19, T20, T21, T22, T23, T24, T25, T26, T27, T28, T29, T30, T31, T32, T33, T34, T35, T36, T37, addI_ne, addX_ne, addV_ne, addK_ne]; rfl) h h1 h2 h3 h4 hc
      exact ⟨_, _, e, fun _ => ⟨x, rfl, tb⟩, fun q => (by rw [hc] at q; cases q)⟩) b _ h ⟨o, rfl⟩
  exact ⟨v, own, e, l⟩
theorem stL_ok {W : List (List Int)} {R : List (List Nat)} (hn : R.length ≤ 243) : OkS (stL W R) := by
  have e : (stL W R).length = R.length := by simp [stL]
  have g : ∀ i, ∃ s, (stL W R).getD i [] = nxL W R s ∨ (stL W R).getD i [] = [] := fun i => by
    unfold stL
    rw [List.getD_eq_getElem?_getD, List.getElem?_map]
    cases R[i]? with
    | none => exact ⟨[], .inr rfl⟩
    | some s => exact ⟨s, .inl rfl⟩
  refine ⟨fun i j hj => ?_, fun i => ?_, by omega⟩
  · rw [e]
    obtain ⟨s, h | h⟩ := g i
    · rw [h] at hj; exact nxL_lt hj
    · rw [h] at hj; cases hj
  · obtain ⟨s, h | h⟩ := g i
    · rw [h]; have := nxL_len W R s; omega
    · rw [h]; simp
def AR.gd (a : AR) (m n lo : Int) : Bool := a.rm m && decide (lo ≤ n ∧ n ≤ 40)
def AR.cn (a : AR) (m : Int) (n : Nat) : Nat := if n = 0 then 1 else (rowC (a.steps m) (n - 1)).sum
def AR.cntV (a : AR) (m n : Int) : AV := if a.gd m n 0 then (if okC (a.steps m) n.toNat then .tup [G (a.cn m n.toNat), G 0] else .tup [G 0, G 5]) else .tup [G 0, G 2]
theorem AR.rm_iff {a : AR} {m : Int} (h : a.rm m = true) : a.ru = true ∧ 1 ≤ m ∧ m ≤ 5 := by
  unfold AR.rm at h
  simpa using h
theorem AR.steps_ok {a : AR} {m : Int} (h : a.rm m = true) : OkS (a.steps m) ∧ (a.steps m).length ≤ 243 ∧ (a.steps m).length = (a.rows m).length := by
  obtain ⟨h1, h2⟩ := a.rm_iff h
  have q3 := a.q3 h1
  have sm := rwL_small (q := a.q.toNat) (B := a.B) (m := m.toNat) (by omega) (by omega)
  have e : (a.steps m).length = (a.rows m).length := by simp [AR.steps, stL]
  exact ⟨stL_ok sm, by rw [e]; exact sm, e⟩
section
variable {a : AR} {m n : Int}
theorem c21_0 (J : CallF) (k57 : KR 57 J) (k60 : K60 J) (hJ : ∀ a h, J 21 a h = none) (h : Heap) (o : OkR a h) (g : a.gd m n 0 = false) : CallsTo tbl J 21 [a.v, G m, G n] h (.tup [G 0, G 2], [], false) := by
  refine Tr.fnv (cf := c21) (e := .ret) (s := T.set (T.set (T.set .leaf [] a.v) [false] (G m)) [true] (G n)) (by decide) rfl (hJ _ _) rfl rfl rfl (by simp) ?_
  obtain ⟨k1, k2⟩ := rs_pre (m := m) J k57 k60 o
  have k3 := k60 n 0 40 ⟨h.get, h.size, [.cells 0 3 [G a.q, a.x, a.y]]⟩
  refine Tr.post (Q := (fun s h => s.get [true, true] = G 0 ∧ s.get [false, false, false] = G 2)) (fun s h q => by simp [c21, q]) ?_
  unfold AR.gd AR.rm at g
  generalize a.ru = b1 at *
  generalize decide (1 ≤ m ∧ m ≤ 5) = b2 at *
  generalize decide (0 ≤ n ∧ n ≤ 40) = b3 at *
  refine Tr.w fun s1 H1 hp _ kR => ?_
  obtain ⟨rfl, rfl⟩ := hp
  have q : True := trivial
  cases b1
  · refine W.seq (W.chunk ?_)
    simp (disch := first|omega|exact zE rfl|exact zO|exact zL rfl) [c21_o0, size_mk, get_mk_lt, get_mk_ge, frameOf, Eff.app, Heap.setOwn, q]
    refine W.assoc ?_
    refine W.seq (W.chunk ?_)
    simp (disch := first|omega|exact zE rfl|exact zO|exact zL rfl) [c21_o1, size_mk, get_mk_lt, get_mk_ge, frameOf, Eff.app, Heap.setOwn, q, k1, k2, k3]
    refine W.seq (W.chunk ?_)
    simp (disch := first|omega|exact zE rfl|exact zO|exact zL rfl) [c21_o2, size_mk, get_mk_lt, get_mk_ge, frameOf, Eff.app, Heap.setOwn, q]
    exact kR _ _ (by simp [T.get])
  · cases b2
    · refine W.seq (W.chunk ?_)
      simp (disch := first|omega|exact zE rfl|exact zO|exact zL rfl) [c21_o0, size_mk, get_mk_lt, get_mk_ge, frameOf, Eff.app, Heap.setOwn, q]
      refine W.assoc ?_
      refine W.seq (W.chunk ?_)
      simp (disch := first|omega|exact zE rfl|exact zO|exact zL rfl) [c21_o1, size_mk, get_mk_lt, get_mk_ge, frameOf, Eff.app, Heap.setOwn, q, k1, k2, k3]
      refine W.seq (W.chunk ?_)
      simp (disch := first|omega|exact zE rfl|exact zO|exact zL rfl) [c21_o2, size_mk, get_mk_lt, get_mk_ge, frameOf, Eff.app, Heap.setOwn, q]
      exact kR _ _ (by simp [T.get])
    · have : b3 = false := by simpa using g
      subst this
      refine W.seq (W.chunk ?_)
      simp (disch := first|omega|exact zE rfl|exact zO|exact zL rfl) [c21_o0, size_mk, get_mk_lt, get_mk_ge, frameOf, Eff.app, Heap.setOwn, q]
      refine W.assoc ?_
      refine W.seq (W.chunk ?_)
      simp (disch := first|omega|exact zE rfl|exact zO|exact zL rfl) [c21_o1, size_mk, get_mk_lt, get_mk_ge, frameOf, Eff.app, Heap.setOwn, q, k1, k2, k3]
      refine W.seq (W.chunk ?_)
      simp (disch := first|omega|exact zE rfl|exact zO|exact zL rfl) [c21_o2, size_mk, get_mk_lt, get_mk_ge, frameOf, Eff.app, Heap.setOwn, q]
      exact kR _ _ (by simp [T.get])
theorem c21_1 (J : CallF) (k57 : KR 57 J) (k60 : K60 J) (k61 : K61 J) (k62 : K62 J) (k63 : K63 J) (hJ : ∀ a h, J 21 a h = none) (h : Heap) (o : OkR a h) (g : a.gd m n 0 = true) : CallsTo tbl J 21 [a.v, G m, G n] h (a.cntV m n, [], false) := by
  unfold AR.cntV
  rw [if_pos g]
  unfold AR.gd at g
  simp only [Bool.and_eq_true, decide_eq_true_eq] at g
  obtain ⟨r, n1, n2⟩ := g
  obtain ⟨r1, r2⟩ := a.rm_iff r
  obtain ⟨os, s243, _⟩ := AR.steps_ok r
  obtain ⟨k1, k2⟩ := rs_pre (m := m) J k57 k60 o
  have k3 := k60 n 0 40 ⟨h.get, h.size, [.cells 0 3 [G a.q, a.x, a.y]]⟩
  rw [r1] at k1
  rw [decide_eq_true r2] at k2
  rw [decide_eq_true ⟨n1, n2⟩] at k3
  obtain ⟨Hs, hHs⟩ : ∃ H, (⟨h.get, h.size, [.cells 0 3 [G a.q, a.x, a.y]]⟩ : Heap) = H := ⟨_, rfl⟩
  rw [hHs] at k1 k2 k3
  have oH : OkR a Hs := by rw [← hHs]; exact o.lo _
  have gS : Hs.get h.size = .cells 0 3 [G a.q, a.x, a.y] := by rw [← hHs, get_mk_ge _ _ _ _ (Nat.le_refl _), Nat.sub_self]; rfl
  obtain ⟨p, own, e61, lm⟩ := k61 Hs a.g m.toNat (oH.g r1) (by omega)
  rw [a.gv r1, show ((m.toNat : Nat) : Int) = m by omega] at e61
  obtain ⟨Z, hZ⟩ : ∃ Z, Hs.plus own = Z := ⟨_, rfl⟩
  rw [hZ] at lm
  have lf : LF Z p (a.steps m) := lm.lf
  obtain ⟨v, own2, e62, l62⟩ := k62 Z ⟨p, n.toNat, a.steps m⟩ ⟨os, s243, lf, by show n.toNat ≤ 40; omega⟩
  have nn : ((n.toNat : Nat) : Int) = n := by omega
  simp only [nn] at e62
  cases hc : okC (a.steps m) n.toNat
  · obtain ⟨rfl, rfl⟩ := l62.2 hc
    rw [if_neg (by simp)]
    refine Tr.fnv (cf := c21) (e := .ret) (s := T.set (T.set (T.set .leaf [] a.v) [false] (G m)) [true] (G n)) (by decide) rfl (hJ _ _) rfl rfl rfl (by simp) ?_
    refine Tr.post (Q := (fun s h => s.get [true, true] = G 0 ∧ s.get [false, false, false] = G 5)) (fun s h q => by simp [c21, q]) ?_
    clear lf lm os oH o l62
    refine Tr.w fun s1 H1 hp _ kR => ?_
    obtain ⟨rfl, rfl⟩ := hp
    have q : True := trivial
    refine W.seq (W.chunk ?_)
    simp (disch := first|omega|exact zE rfl|exact zO|exact zL rfl) [c21_o0, size_mk, get_mk_lt, get_mk_ge, frameOf, Eff.app, Heap.setOwn, q, hHs]
    refine W.assoc ?_
    refine W.seq (W.chunk ?_)
    simp (disch := first|omega|exact zE rfl|exact zO|exact zL rfl) [c21_o1, zG, q, k1, k2, k3, gS]
    refine W.seq (W.chunk ?_)
    simp (disch := first|omega|exact zE rfl|exact zO|exact zL rfl) [c21_o2, size_mk, get_mk_lt, get_mk_ge, frameOf, Eff.app, Heap.setOwn, q]
    refine W.seq (W.chunk ?_)
    simp (disch := first|omega|exact zE rfl|exact zO|exact zL rfl) [c21_o3, zG, q, gS, e61, app_if, app_if', hZ, e62]
    refine W.assoc ?_
    refine W.seq (W.chunk ?_)
    simp (disch := first|omega|exact zE rfl|exact zO|exact zL rfl) [c21_o4, zG, q]
    refine W.seq (W.chunk ?_)
    simp (disch := first|omega|exact zE rfl|exact zO|exact zL rfl) [c21_o5, size_mk, get_mk_lt, get_mk_ge, frameOf, Eff.app, Heap.setOwn, q]
    exact kR _ _ (by simp [T.get])
  · obtain ⟨x, rfl, tb⟩ := l62.1 hc
    rw [if_pos rfl]
    obtain ⟨Z2, hZ2⟩ : ∃ H, Z.plus own2 = H := ⟨_, rfl⟩
    rw [hZ2] at tb
    simp only at tb
    refine Tr.fnv (cf := c21) (e := .ret) (s := T.set (T.set (T.set .leaf [] a.v) [false] (G m)) [true] (G n)) (by decide) rfl (hJ _ _) rfl rfl rfl (by simp) ?_
    refine Tr.post (Q := (fun s h => s.get [true, true] = G (a.cn m n.toNat) ∧ s.get [false, false, false] = G 0)) (fun s h q => by simp [c21, q]) ?_
    unfold AR.cn
    by_cases h0 : n.toNat = 0
    · rw [if_pos h0]
      have n0 : n = 0 := by omega
      clear lf lm os oH o l62 tb
      refine Tr.w fun s1 H1 hp _ kR => ?_
      obtain ⟨rfl, rfl⟩ := hp
      have q : True := trivial
      refine W.seq (W.chunk ?_)
      simp (disch := first|omega|exact zE rfl|exact zO|exact zL rfl) [c21_o0, size_mk, get_mk_lt, get_mk_ge, frameOf, Eff.app, Heap.setOwn, q, hHs]
      refine W.assoc ?_
      refine W.seq (W.chunk ?_)
      simp (disch := first|omega|exact zE rfl|exact zO|exact zL rfl) [c21_o1, zG, q, k1, k2, k3, gS]
      refine W.seq (W.chunk ?_)
      simp (disch := first|omega|exact zE rfl|exact zO|exact zL rfl) [c21_o2, size_mk, get_mk_lt, get_mk_ge, frameOf, Eff.app, Heap.setOwn, q]
      refine W.seq (W.chunk ?_)
      simp (disch := first|omega|exact zE rfl|exact zO|exact zL rfl) [c21_o3, zG, q, gS, e61, app_if, app_if', hZ, e62, hZ2]
      refine W.assoc ?_
      refine W.seq (W.chunk ?_)
      simp (disch := first|omega|exact zE rfl|exact zO|exact zL rfl) [c21_o4, zG, q]
      refine W.seq (W.chunk ?_)
      simp (disch := first|omega|exact zE rfl|exact zO|exact zL rfl) [c21_o5, size_mk, get_mk_lt, get_mk_ge, frameOf, Eff.app, Heap.setOwn, q]
      refine W.assoc ?_
      refine W.seq (W.chunk ?_)
      simp (disch := first|omega|exact zE rfl|exact zO|exact zL rfl) [c21_o6, zG, q, n0]
      refine W.seq (W.chunk ?_)
      simp (disch := first|omega|exact zE rfl|exact zO|exact zL rfl) [c21_o7, size_mk, get_mk_lt, get_mk_ge, frameOf, Eff.app, Heap.setOwn, q]
      exact kR _ _ (by simp [T.get])
    · rw [if_neg h0]
      obtain ⟨N, hN⟩ : ∃ N, n.toNat = N + 1 := ⟨n.toNat - 1, by omega⟩
      rw [hN] at tb hc ⊢
      rw [Nat.add_sub_cancel]
      obtain ⟨bo, ros, rfl, e2, e3, e4⟩ := tb.sl (i := 0) (by rw [rowsC_len]; omega)
      rw [rowsC_len] at e2 e3 e62
      obtain ⟨br, e5, e6⟩ := e4 N _ (rowsC_at _ (by omega))
      rw [gn_len, rowC_len] at e5 e6
      have e5' := getI e5
      have okk := okC_iff.1 hc N (by omega)
      have f63 := k63 Z2 (.slice br 0 (a.steps m).length (a.steps m).length) (rowC (a.steps m) N) (.inr ⟨br, _, by rw [gn_len, rowC_len], e6⟩) (by rw [rowC_len]; omega) (row_le (lvlB_of okk))
      unfold tot at f63
      rw [if_pos okk] at f63
      have nN : n = (N : Int) + 1 := by omega
      subst nN
      clear lf lm os oH o l62 tb e4 e6 okk hc
      generalize (rowC (a.steps m) N).sum = sm at *
      generalize (a.steps m).length = ln at *
      have n0 : ¬ ((N : Int) + 1 = 0) := by omega
      refine Tr.w fun s1 H1 hp _ kR => ?_
      obtain ⟨rfl, rfl⟩ := hp
      have q : True := trivial
      refine W.seq (W.chunk ?_)
      simp (disch := first|omega|exact zE rfl|exact zO|exact zL rfl) [c21_o0, size_mk, get_mk_lt, get_mk_ge, frameOf, Eff.app, Heap.setOwn, q, hHs]
      refine W.assoc ?_
      refine W.seq (W.chunk ?_)
      simp (disch := first|omega|exact zE rfl|exact zO|exact zL rfl) [c21_o1, zG, q, k1, k2, k3, gS]
      refine W.seq (W.chunk ?_)
      simp (disch := first|omega|exact zE rfl|exact zO|exact zL rfl) [c21_o2, size_mk, get_mk_lt, get_mk_ge, frameOf, Eff.app, Heap.setOwn, q]
      refine W.seq (W.chunk ?_)
      simp (disch := first|omega|exact zE rfl|exact zO|exact zL rfl) [c21_o3, zG, q, gS, e61, app_if, app_if', hZ, e62, hZ2]
      refine W.assoc ?_
      refine W.seq (W.chunk ?_)
      simp (disch := first|omega|exact zE rfl|exact zO|exact zL rfl) [c21_o4, zG, q]
      refine W.seq (W.chunk ?_)
      simp (disch := first|omega|exact zE rfl|exact zO|exact zL rfl) [c21_o5, size_mk, get_mk_lt, get_mk_ge, frameOf, Eff.app, Heap.setOwn, q]
      refine W.assoc ?_
      refine W.seq (W.chunk ?_)
      simp (disch := first|omega|exact zE rfl|exact zO|exact zL rfl) [c21_o6, zG, q, n0]
      refine W.seq (W.chunk ?_)
      simp (disch := first|omega|exact zE rfl|exact zO|exact zL rfl) [c21_o7, size_mk, get_mk_lt, get_mk_ge, frameOf, Eff.app, Heap.setOwn, q]
      refine W.seq (W.chunk ?_)
      simp (disch := first|omega|exact zE rfl|exact zO|exact zL rfl) [c21_o8, zG, q, e2, e5, e5', e3, f63]
      refine W.seq (W.chunk ?_)
      simp (disch := first|omega|exact zE rfl|exact zO|exact zL rfl) [c21_o9, zG, q]
      refine W.ret ?_
      try simp only [zW, if_true]
      exact kR _ _ (by simp [T.get])
end
structure ARmn where
  a : AR
  m : Int
  n : Int
def PreMn (b : ARmn) (args : List AV) (h : Heap) : Prop := OkR b.a h ∧ args = [b.a.v, G b.m, G b.n]
def Post21 (b : ARmn) (h : Heap) (v : AV) (own : List AObj) : Prop := v = b.a.cntV b.m b.n ∧ own = []
noncomputable def T39 : CallF := addK tbl T38 21 PreMn Post21
theorem t39 : Sound Go.Proofs.Try.prog T39 := Sound.addK follows ok t38 (by decide) _ _
abbrev K21 (J : CallF) : Prop := ∀ (h : Heap) (a : AR) (m n : Int), OkR a h → J 21 [a.v, G m, G n] h = some (a.cntV m n, [], false)
theorem k57_38 : KR 57 T38 := fun h a o => by
  rw [show T38 57 [.agg [G a.q, a.x, a.y]] h = T10 57 [.agg [G a.q, a.x, a.y]] h from by simp (disch := decide) only [T11, T12, T13, T14, T15, T16, T17, T18, T19, T20, T21, T22, T23, T24, T25, T26, T27, T28, T29, T30, T31, T32, T33, T34, T35, T36, T37, T38, addI_ne, addX_ne, addV_ne, addK_ne]]; exact k57 h a o
theorem k60_38 : K60 T38 := fun n lo hi h => by
  simp (disch := decide) only [T1, T2, T3, T4, T5, T6, T7, T8, T9, T10, T11, T12, T13, T14, T15, T16, T17, T18, T19, T20, T21, T22, T23, T24, T25, T26, T27, T28, T29, T30, T31, T32, T33, T34, T35, T36, T37, T38, addI_ne, addX_ne, addV_ne, addK_ne]
  exact k60 n lo hi h
theorem k61_38 : K61 T38 := fun h a m o m5 => by
  obtain ⟨p, own, e, l⟩ := k61 h a m o m5
  exact ⟨p, own, by rw [show T38 61 [a.v, G m] h = T18 61 [a.v, G m] h from by simp (disch := decide) only [T19, T20, T21, T22, T23, T24, T25, T26, T27, T28, T29, T30, T31, T32, T33, T34, T35, T36, T37, T38, addI_ne, addX_ne, addV_ne, addK_ne]]; exact e, l⟩
theorem k63_38 : K63 T38 := fun h x L h1 h2 h3 => by
  rw [show T38 63 [x, G 1152921504606846976] h = T37 63 [x, G 1152921504606846976] h from by simp (disch := decide) only [T38, addI_ne, addX_ne, addV_ne, addK_ne]]; exact k63 h x L h1 h2 h3
theorem k21 : K21 T39 := fun h a m n o => by
  obtain ⟨v, own, e, rfl, rfl⟩ := addK_some (Pre := PreMn) (Post := Post21) (fun b args h hp => by
    obtain ⟨o, rfl⟩ := hp
    cases g : b.a.gd b.m b.n 0
    · have := c21_0 T38 k57_38 k60_38 (fun _ _ => by simp (disch := decide) only [T1, T2, T3, T4, T5, T6, T7, T8, T9, T10, T11, T12, T13, T14, T15, T16, T17, T18, T19, T20, T21, T22, T23, T24, T25, T26, T27, T28, T29, T30, T31, T32, T33, T34, T35, T36, T37, T38, addI_ne, addX_ne, addV_ne, addK_ne]; rfl) h o g
      refine ⟨_, _, this, ?_, rfl⟩
      unfold AR.cntV
      rw [g]; rfl
    · exact ⟨_, _, c21_1 T38 k57_38 k60_38 k61_38 k62 k63_38 (fun _ _ => by simp (disch := decide) only [T1, T2, T3, T4, T5, T6, T7, T8, T9, T10, T11, T12, T13, T14, T15, T16, T17, T18, T19, T20, T21, T22, T23, T24, T25, T26, T27, T28, T29, T30, T31, T32, T33, T34, T35, T36, T37, T38, addI_ne, addX_ne, addV_ne, addK_ne]; rfl) h o g, rfl, rfl⟩) ⟨a, m, n⟩ _ h ⟨o, rfl⟩
  exact e
def lN (f : Nat → Nat) (n : Nat) : List Nat := (List.range n).map f
def rowS (S : List (List Nat)) (k : Nat) : List Nat := lN (fun i => sat (cnt S k i)) S.length
def rowsS (S : List (List Nat)) (k : Nat) : List (List AV) := (List.range k).map fun k => gn (rowS S k)
def LN (h : Heap) (x : AV) (S : List (List Nat)) : Prop := ∃ rs, ((x = .nils ∧ S.length = 0) ∨ ∃ b, x = .slice b 0 S.length S.length ∧ h.get b = .cells 1 S.length rs) ∧ rs.length = S.length ∧ ∀ k, k < S.length → ∃ y, rs[k]? = some y ∧ RV h y (gn (S.getD k []))
theorem LN.kp {h h' : Heap} {x : AV} {S : List (List Nat)} (l : LN h x S) (k : Kp (fun _ => False) h h') : LN h' x S := by
  obtain ⟨rs, h1, h2, h3⟩ := l
  refine ⟨rs, ?_, h2, fun i hi => ?_⟩
  · rcases h1 with h | ⟨b, e, g⟩
    · exact .inl h
    · exact .inr ⟨b, e, k.at g (by simp) id⟩
  · obtain ⟨y, e1, e2⟩ := h3 i hi
    exact ⟨y, e1, e2.kp k (fun _ _ => id)⟩
theorem LN.fr {h : Heap} {x : AV} {S : List (List Nat)} (l : LN h x S) : LN (frameOf h) x S := by
  obtain ⟨rs, h1, h2, h3⟩ := l
  refine ⟨rs, ?_, h2, fun i hi => ?_⟩
  · rcases h1 with h | ⟨b, e, g⟩
    · exact .inl h
    · refine .inr ⟨b, e, ?_⟩
      unfold frameOf
      rw [get_mk_lt _ _ _ _ (get_lt g (by simp))]; exact g
  · obtain ⟨y, e1, e2⟩ := h3 i hi
    exact ⟨y, e1, e2.frame⟩
theorem listOf_rv {h : Heap} {y : AV} {L : List Nat} (e : listOf h y = some (L.map fun (k : Nat) => (k : Int))) : RV h y (gn L) := by
  rcases listOf_some e with ⟨rfl, e2⟩ | ⟨b, v, rfl, g⟩
  · have : L = [] := by simpa using e2
    subst this; exact .inl ⟨rfl, rfl⟩
  · refine .inr ⟨b, v, by simp [gn], ?_⟩
    rw [g, gn_gs]
theorem LT.ln {h : Heap} {x : AV} {S : List (List Nat)} (l : LT h x (ntI S)) : LN h x S := by
  obtain ⟨rs, lv, hl, hr⟩ := l
  have hl : rs.length = S.length := by simpa [ntI] using hl
  refine ⟨rs, ?_, hl, fun k hk => ?_⟩
  · rcases lv with ⟨e, e2⟩ | ⟨b, e, g⟩
    · exact .inl ⟨e, by rw [← hl, e2]; rfl⟩
    · rw [hl] at e g; exact .inr ⟨b, e, g⟩
  · obtain ⟨l, e1, e2⟩ := hr k rs[k] (List.getElem?_eq_getElem (by omega))
    refine ⟨rs[k], List.getElem?_eq_getElem (by omega), ?_⟩
    unfold ntI at e1
    rw [List.getElem?_map, List.getElem?_eq_getElem hk] at e1
    simp only [Option.map_some, Option.some.injEq] at e1
    subst e1
    rw [List.getD_eq_getElem?_getD, List.getElem?_eq_getElem hk]
    exact listOf_rv e2
section
variable {S : List (List Nat)} {kk nn : Nat}
structure PS (S : List (List Nat)) (xo : AV) (kk : Nat) (h : Heap) (bo br : Nat) (ros : List AV) : Prop where
  e : xo = .slice bo 0 (kk + 1) (kk + 1)
  g : h.get bo = .cells 1 (kk + 1) ros
  r : ros[kk]? = some (.slice br 0 S.length S.length)
  l : ros.length = kk + 1
  gr : h.get br = .cells 1 S.length (gn (rowS S kk))
theorem PS.kp {xo : AV} {h h' : Heap} {bo br : Nat} {ros : List AV} (t : PS S xo kk h bo br ros) (k : Kp (fun _ => False) h h') : PS S xo kk h' bo br ros := ⟨t.e, k.at t.g (by simp) id, t.r, t.l, k.at t.gr (by simp) id⟩
theorem LN.sx {h : Heap} {x : AV} (l : LN h x S) : (x = .nils ∧ S.length = 0) ∨ ∃ b, x = .slice b 0 S.length S.length := by
  obtain ⟨rs, h1, _⟩ := l
  rcases h1 with h | ⟨b, e, _⟩
  · exact .inl h
  · exact .inr ⟨b, e⟩
end
structure A71 where
  x : AV
  nn : Nat
  S : List (List Nat)
def Pre71 (b : A71) (args : List AV) (h : Heap) : Prop := (OkS b.S ∧ LN h b.x b.S ∧ b.nn ≤ 40) ∧ args = [b.x, G b.nn]
def Post71 (b : A71) (h : Heap) (v : AV) (own : List AObj) : Prop := TB h (h.plus own) v (rowsS b.S b.nn)
noncomputable def T40 : CallF := addK tbl T39 71 Pre71 Post71
theorem t40 : Sound Go.Proofs.Try.prog T40 := Sound.addK follows ok t39 (by decide) _ _
section
variable {S : List (List Nat)} {nn : Nat}
end
section
variable {a : AR} {m n : Int}
def AR.rcV (a : AR) (m n : Int) : AV := if okC (a.steps m) n.toNat then .tup [G (a.cn m n.toNat), .bool true] else .tup [G 0, .bool false]
end
def Pre33 (b : ARmn) (args : List AV) (h : Heap) : Prop := (OkR b.a h ∧ b.a.gd b.m b.n 0 = true) ∧ args = [b.a.v, G b.m, G b.n]
def Post33 (b : ARmn) (h : Heap) (v : AV) (own : List AObj) : Prop := v = b.a.rcV b.m b.n ∧ own = []
noncomputable def T41 : CallF := addK tbl T40 33 Pre33 Post33
theorem t41 : Sound Go.Proofs.Try.prog T41 := Sound.addK follows ok t40 (by decide) _ _
section
variable {L : List Nat} {v : Nat}
end
def Pre93 (b : AV × Nat × List Nat) (args : List AV) (h : Heap) : Prop := (RV h b.1 (gn b.2.2) ∧ b.2.2.length ≤ 1000000) ∧ args = [b.1, G b.2.1]
def Post93 (b : AV × Nat × List Nat) (h : Heap) (v : AV) (own : List AObj) : Prop := (∃ k : Int, v = G k ∧ (decide (0 ≤ k) = decide (b.2.1 ∈ b.2.2))) ∧ own = []
noncomputable def T42 : CallF := addK tbl T41 93 Pre93 Post93
theorem t42 : Sound Go.Proofs.Try.prog T42 := Sound.addK follows ok t41 (by decide) _ _
def Post70 (b : AV × Nat × List Nat) (h : Heap) (v : AV) (own : List AObj) : Prop := v = .bool (decide (b.2.1 ∈ b.2.2)) ∧ own = []
noncomputable def T43 : CallF := addK tbl T42 70 Pre93 Post70
theorem t43 : Sound Go.Proofs.Try.prog T43 := Sound.addK follows ok t42 (by decide) _ _
def pE (S : List (List Nat)) (g : Nat → Nat) (i j : Nat) : Nat := ((List.range i).map fun i' => ((S.getD i' []).count j) * g i').sum
def ev (S : List (List Nat)) (f : Nat) : Nat → Nat → Nat
  | 0, j => if j = f then 1 else 0
  | k + 1, j => pE S (ev S f k) S.length j
def vE (S : List (List Nat)) (f k : Nat) : List Nat := lN (ev S f k) S.length
section
variable {S : List (List Nat)} {p w26 w27 : Nat}
end
section
variable {S : List (List Nat)} {p w26 w27 : Nat}
def okE (S : List (List Nat)) (f nn : Nat) : Bool := af (fun k => decide ((vE S f (k + 1)).sum ≤ 1152921504606846976)) 0 (nn - 1)
end
structure A75 where
  p : Nat
  f : Nat
  N : Nat
  S : List (List Nat)
def Ok75 (b : A75) (h : Heap) : Prop := OkS b.S ∧ LF h b.p b.S ∧ b.f < b.S.length ∧ b.N + 1 ≤ 40
def Pre75 (b : A75) (args : List AV) (h : Heap) : Prop := Ok75 b h ∧ args = [.ptr b.p 0 3, G b.f, G (b.N + 1 : Nat)]
def Post75 (b : A75) (h : Heap) (v : AV) (own : List AObj) : Prop := (okE b.S b.f (b.N + 1) = true → ∃ x, v = .tup [x, .bool true] ∧ RV (h.plus own) x (gn (vE b.S b.f b.N))) ∧ (okE b.S b.f (b.N + 1) = false → v = .tup [.nils, .bool false] ∧ own = [])
noncomputable def T44 : CallF := addK tbl T43 75 Pre75 Post75
theorem t44 : Sound Go.Proofs.Try.prog T44 := Sound.addK follows ok t43 (by decide) _ _
def rT (S : List (List Nat)) (N f i : Nat) : Nat := if f ∈ S.getD i [] then ev S f N i else 0
def rP (S : List (List Nat)) (N f i : Nat) : Nat := ((List.range i).map (rT S N f)).sum
def rA (S : List (List Nat)) (N f : Nat) : Nat := ((List.range f).map fun f' => rP S N f' S.length).sum
def gE (S : List (List Nat)) (N f : Nat) : Bool := okE S f (N + 1) && decide (rA S N (f + 1) ≤ 1152921504606846976)
def okR (S : List (List Nat)) (N : Nat) : Bool := af (gE S N) 0 S.length
section
variable {S : List (List Nat)} {p N : Nat}
end
def AR.rn (a : AR) (m : Int) (n : Nat) : Nat := rA (a.steps m) (n - 1) (a.steps m).length
def AR.okr (a : AR) (m : Int) (n : Nat) : Bool := okR (a.steps m) (n - 1)
def AR.rngV (a : AR) (m n : Int) : AV := if a.gd m n 1 then (if a.okr m n.toNat then .tup [G (a.rn m n.toNat), G 0] else .tup [G 0, G 5]) else .tup [G 0, G 2]
section
variable {a : AR} {m n : Int}
end
def Post41 (b : ARmn) (h : Heap) (v : AV) (own : List AObj) : Prop := v = b.a.rngV b.m b.n ∧ own = []
noncomputable def T45 : CallF := addK tbl T44 41 PreMn Post41
theorem t45 : Sound Go.Proofs.Try.prog T45 := Sound.addK follows ok t44 (by decide) _ _
def okA (S : List (List Nat)) (N : Nat) : Bool := af (fun f => okE S f (N + 1)) 0 S.length
section
variable {a : AG} {m N p : Nat} {R : List (List Nat)}
end
def AR.oka (a : AR) (m : Int) (n : Nat) : Bool := okA (a.steps m) (n - 1)
def AR.rrV (a : AR) (m n : Int) : AV := if a.oka m n.toNat then .tup [G (sat (a.rn m n.toNat)), .bool (decide (sat (a.rn m n.toNat) ≤ 1152921504606846976))] else .tup [G 0, .bool false]
section
variable {a : AR} {m n : Int}
end
def Pre42 (b : ARmn) (args : List AV) (h : Heap) : Prop := (OkR b.a h ∧ b.a.gd b.m b.n 1 = true) ∧ args = [b.a.v, G b.m, G b.n]
def Post42 (b : ARmn) (h : Heap) (v : AV) (own : List AObj) : Prop := v = b.a.rrV b.m b.n ∧ own = []
noncomputable def T46 : CallF := addK tbl T45 42 Pre42 Post42
theorem t46 : Sound Go.Proofs.Try.prog T46 := Sound.addK follows ok t45 (by decide) _ _
theorem TB.lt' {H0 h h' : Heap} {x : AV} {N : List (List Int)} (t : TB H0 h x (N.map gs)) (k : Kp (fun _ => False) h h') : LT h' x N := t.lt.kp k
section
variable {nq m : Int} {X Y : List (List Int)}
end
def mdZ (x n : Int) : Int := (x % 18446744073709551616) % n
theorem mdZ_bd (x : Int) {n : Int} (h : 0 < n) : 0 ≤ mdZ x n ∧ mdZ x n < n := ⟨Int.emod_nonneg _ (by omega), Int.emod_lt_of_pos _ h⟩
def spec19 : SpecV
  | [.int .i64 x, .int .i64 n] => if 0 < n ∧ n < 9223372036854775808 then some (G (mdZ x n)) else none
  | _ => none
theorem wrap_u64 (n : Int) : IntKind.u64.wrap n = n % 18446744073709551616 := by
  unfold IntKind.wrap IntKind.bits IntKind.signed
  simp
theorem c19_ok (J : CallF) (hJ : ∀ a h, J 19 a h = none) (x n : Int) (h1 : 0 < n) (h2 : n < 9223372036854775808) : CallsTo tbl J 19 [G x, G n] e0 (G (mdZ x n), [], false) := by
  unfold mdZ
  refine CallsTo.plain (cf := c19) (h' := frameOf e0) (by decide) rfl (hJ _ _) rfl rfl ?_
  have w : n % 18446744073709551616 = n := Int.emod_eq_of_lt (by omega) (by omega)
  have hz : ¬ n = 0 := by omega
  have hm : (x % 18446744073709551616).tmod n = (x % 18446744073709551616) % n := Int.tmod_eq_emod_of_nonneg (Int.emod_nonneg _ (by decide))
  have a1 := Int.emod_nonneg (x % 18446744073709551616) hz
  have a2 := Int.emod_lt_of_pos (x % 18446744073709551616) h1
  simp [c19, c19_o0, c19_o1, wrap_u64, w, hz, hm, wrapI ((x % 18446744073709551616) % n) (by omega) (by omega)]
noncomputable def T47 : CallF := addV T46 19 spec19
theorem t47 : Sound Go.Proofs.Try.prog T47 := Sound.addV follows ok t46 (by decide) (fun args v h => by
  unfold spec19 at h
  split at h
  · split at h
    · rename_i hn
      simp only [Option.some.injEq] at h; subst h
      exact c19_ok T46 (fun _ _ => by simp (disch := decide) only [T1, T2, T3, T4, T5, T6, T7, T8, T9, T10, T11, T12, T13, T14, T15, T16, T17, T18, T19, T20, T21, T22, T23, T24, T25, T26, T27, T28, T29, T30, T31, T32, T33, T34, T35, T36, T37, T38, T39, T40, T41, T42, T43, T44, T45, T46, addI_ne, addX_ne, addV_ne, addK_ne]; rfl) _ _ hn.1 hn.2
    · cases h
  · cases h)
abbrev K19 (J : CallF) : Prop := ∀ (x n : Int) (h : Heap), 0 < n → n < 9223372036854775808 → J 19 [G x, G n] h = some (G (mdZ x n), [], false)
theorem k19 : K19 T47 := fun x n h h1 h2 => by simp [T47, addV, spec19, h1, h2]
def btZ (a : Int) : Int := ((BitVec.ofInt 64 a &&& BitVec.ofInt 64 1).toNat : Int)
theorem btZ_bd (a : Int) : 0 ≤ btZ a ∧ btZ a ≤ 1 := by
  unfold btZ
  rw [BitVec.toNat_and]
  have e : (BitVec.ofInt 64 1).toNat = 1 := rfl
  rw [e, Nat.and_one_is_mod]
  omega
theorem c56_ok (J : CallF) (hJ : ∀ a h, J 56 a h = none) (h : Heap) {x : AV} {M : List (List Int)} (mr : MR h x M) {i k : Nat} (hi : i ≤ 1000) (hk : k ≤ 1000) : ∃ v own, CallsTo tbl J 56 [x, G i, G k] h (v, own, false) ∧ (∃ b : Int, v = G b ∧ 0 ≤ b ∧ b ≤ 1) ∧ own = [] := by
  refine Tr.fny (Good := fun v own => (∃ b : Int, v = G b ∧ 0 ≤ b ∧ b ≤ 1) ∧ own = []) (cf := c56) (e := .ret) (s := T.set (T.set (T.set .leaf [] x) [false] (G i)) [true] (G k)) (by decide) rfl (hJ _ _) rfl rfl (by simp) ?_
  refine Tr.post (Q := fun s h => ∃ b : Int, s.get [true, true] = G b ∧ 0 ≤ b ∧ b ≤ 1) (fun s h' q => by
    obtain ⟨b, e, q1, q2⟩ := q
    exact ⟨[G b], by simp [c56, evRess, evRes, e], ⟨b, rfl, q1, q2⟩, rfl⟩) ?_
  have mf : MR (frameOf h) x M := mr.lo []
  by_cases c : i < M.length
  · obtain ⟨b, v, cs, r, rfl, g, e, lr⟩ := mf.row c
    have e' := getI e
    have hcs : i < cs.length := (List.getElem?_eq_some_iff.1 e).1
    rcases lr.cases with ⟨rfl, _⟩ | ⟨rfl, _⟩ | ⟨rb, rv, rfl, gr⟩
    · clear mf mr
      generalize M.length = n at *
      refine Tr.w fun s1 H1 hp _ kR => ?_
      obtain ⟨rfl, rfl⟩ := hp
      have q : True := trivial
      refine W.seq (W.chunk ?_)
      simp (disch := first|omega|exact zE rfl|exact zO|exact zL rfl) [c56_o0, zG, q]
      refine W.assoc ?_
      refine W.seq (W.chunk ?_)
      simp (disch := first|omega|exact zE rfl|exact zO|exact zL rfl) [c56_o1, zG, q, g, e, e']
      refine W.seq (W.chunk ?_)
      simp (disch := first|omega|exact zE rfl|exact zO|exact zL rfl) [c56_o2, zG, q]
      refine W.seq (W.chunk ?_)
      simp (disch := first|omega|exact zE rfl|exact zO|exact zL rfl) [c56_o3, zG, q]
      refine W.ret ?_
      try simp only [zW, if_true]
      exact kR _ _ ⟨1, by simp [T.get], by omega, by omega⟩
    · clear mf mr
      generalize M.length = n at *
      refine Tr.w fun s1 H1 hp _ kR => ?_
      obtain ⟨rfl, rfl⟩ := hp
      have q : True := trivial
      refine W.seq (W.chunk ?_)
      simp (disch := first|omega|exact zE rfl|exact zO|exact zL rfl) [c56_o0, zG, q]
      refine W.assoc ?_
      refine W.seq (W.chunk ?_)
      simp (disch := first|omega|exact zE rfl|exact zO|exact zL rfl) [c56_o1, zG, q, g, e, e']
      refine W.seq (W.chunk ?_)
      simp (disch := first|omega|exact zE rfl|exact zO|exact zL rfl) [c56_o2, zG, q]
      refine W.seq (W.chunk ?_)
      simp (disch := first|omega|exact zE rfl|exact zO|exact zL rfl) [c56_o3, zG, q]
      refine W.ret ?_
      try simp only [zW, if_true]
      exact kR _ _ ⟨1, by simp [T.get], by omega, by omega⟩
    · obtain ⟨A, hA⟩ : ∃ A, M.getD i [] = A := ⟨_, rfl⟩
      rw [hA] at e e' gr lr
      have lg : (gs A).length = A.length := by simp
      have gr : (frameOf h).get rb = .cells 1 rv (gs A) := gr
      clear mf mr hA lr
      by_cases d : k < A.length
      · have ek : (gs A)[k]? = some (G (A.getD k 0)) := by
          rw [List.getElem?_map, List.getD_eq_getElem?_getD, List.getElem?_eq_getElem d]; rfl
        have ek' := getI ek
        have bd := btZ_bd (A.getD k 0)
        have hbt : IntKind.i64.wrap ((BitVec.ofInt IntKind.i64.bits (A.getD k 0) &&& BitVec.ofInt IntKind.i64.bits 1).toNat : Int) = btZ (A.getD k 0) := wrapI (btZ (A.getD k 0)) (by omega) (by omega)
        have hb : evBin .and (G (A.getD k 0)) (G 1) = some (G (btZ (A.getD k 0))) := by
          show some (AV.int .i64 (IntKind.i64.wrap ((BitVec.ofInt IntKind.i64.bits (A.getD k 0) &&& BitVec.ofInt IntKind.i64.bits 1).toNat : Int))) = _
          rw [hbt]
        clear hbt
        generalize btZ (A.getD k 0) = bt at *
        generalize A.getD k 0 = z at *
        generalize gs A = cA at *
        generalize A.length = l at *
        generalize M.length = n at *
        refine Tr.w fun s1 H1 hp _ kR => ?_
        obtain ⟨rfl, rfl⟩ := hp
        have q : True := trivial
        refine W.seq (W.chunk ?_)
        simp (disch := first|omega|exact zE rfl|exact zO|exact zL rfl) [c56_o0, zG, q]
        refine W.assoc ?_
        refine W.seq (W.chunk ?_)
        simp (disch := first|omega|exact zE rfl|exact zO|exact zL rfl) [c56_o1, zG, q, g, e, e']
        refine W.seq (W.cond (v := true) (by simp (disch := first|omega|exact zE rfl|exact zO|exact zL rfl) [zG, q]) ?_)
        simp only [if_true, if_false, Bool.false_eq_true]
        refine W.seq (W.chunk ?_)
        simp (disch := first|omega|exact zE rfl|exact zO|exact zL rfl) [-evBin, c56_o2, zG, q, g, e, e', gr, ek, ek', hb]
        refine W.ret ?_
        try simp only [zW, if_true]
        exact kR _ _ ⟨bt, by simp [T.get], by omega, by omega⟩
      · generalize gs A = cA at *
        generalize A.length = l at *
        generalize M.length = n at *
        refine Tr.w fun s1 H1 hp _ kR => ?_
        obtain ⟨rfl, rfl⟩ := hp
        have q : True := trivial
        refine W.seq (W.chunk ?_)
        simp (disch := first|omega|exact zE rfl|exact zO|exact zL rfl) [c56_o0, zG, q]
        refine W.assoc ?_
        refine W.seq (W.chunk ?_)
        simp (disch := first|omega|exact zE rfl|exact zO|exact zL rfl) [c56_o1, zG, q, g, e, e']
        refine W.seq (W.chunk ?_)
        simp (disch := first|omega|exact zE rfl|exact zO|exact zL rfl) [c56_o2, zG, q]
        refine W.seq (W.chunk ?_)
        simp (disch := first|omega|exact zE rfl|exact zO|exact zL rfl) [c56_o3, zG, q]
        refine W.ret ?_
        try simp only [zW, if_true]
        exact kR _ _ ⟨1, by simp [T.get], by omega, by omega⟩
  · have sl := mf.sl
    clear mf mr
    generalize M.length = n at *
    rcases sl with ⟨rfl, rfl⟩ | ⟨rfl, rfl⟩ | ⟨b, v, rfl⟩
    all_goals
      refine Tr.w fun s1 H1 hp _ kR => ?_
      obtain ⟨rfl, rfl⟩ := hp
      have q : True := trivial
      refine W.seq (W.chunk ?_)
      simp (disch := first|omega|exact zE rfl|exact zO|exact zL rfl) [c56_o0, zG, q]
      refine W.assoc ?_
      refine W.seq (W.chunk ?_)
      simp (disch := first|omega|exact zE rfl|exact zO|exact zL rfl) [c56_o1, zG, q]
      refine W.seq (W.chunk ?_)
      simp (disch := first|omega|exact zE rfl|exact zO|exact zL rfl) [c56_o2, zG, q]
      refine W.seq (W.chunk ?_)
      simp (disch := first|omega|exact zE rfl|exact zO|exact zL rfl) [c56_o3, zG, q]
      refine W.ret ?_
      try simp only [zW, if_true]
      exact kR _ _ ⟨1, by simp [T.get], by omega, by omega⟩
structure A56 where
  x : AV
  M : List (List Int)
  i : Nat
  k : Nat
def Pre56 (b : A56) (args : List AV) (h : Heap) : Prop := (MR h b.x b.M ∧ b.i ≤ 1000 ∧ b.k ≤ 1000) ∧ args = [b.x, G b.i, G b.k]
def Post56 (b : A56) (h : Heap) (v : AV) (own : List AObj) : Prop := (∃ b : Int, v = G b ∧ 0 ≤ b ∧ b ≤ 1) ∧ own = []
noncomputable def T48 : CallF := addK tbl T47 56 Pre56 Post56
theorem t48 : Sound Go.Proofs.Try.prog T48 := Sound.addK follows ok t47 (by decide) _ _
abbrev K56 (J : CallF) : Prop := ∀ (h : Heap) (x : AV) (M : List (List Int)) (i k : Nat), MR h x M → i ≤ 1000 → k ≤ 1000 → ∃ b : Int, J 56 [x, G i, G k] h = some (G b, [], false) ∧ 0 ≤ b ∧ b ≤ 1
theorem k56 : K56 T48 := fun h x M i k h1 h2 h3 => by
  obtain ⟨v, own, e, ⟨b, rfl, q1, q2⟩, rfl⟩ := addK_some (Pre := Pre56) (Post := Post56) (fun b args h hp => by
    obtain ⟨⟨h1, h2, h3⟩, rfl⟩ := hp
    exact c56_ok T47 (fun _ _ => by simp (disch := decide) only [T1, T2, T3, T4, T5, T6, T7, T8, T9, T10, T11, T12, T13, T14, T15, T16, T17, T18, T19, T20, T21, T22, T23, T24, T25, T26, T27, T28, T29, T30, T31, T32, T33, T34, T35, T36, T37, T38, T39, T40, T41, T42, T43, T44, T45, T46, T47, addI_ne, addX_ne, addV_ne, addK_ne]; rfl) h h1 h2 h3) ⟨x, M, i, k⟩ _ h ⟨⟨h1, h2, h3⟩, rfl⟩
  exact ⟨b, e, q1, q2⟩
theorem k19_48 : K19 T48 := fun x n h h1 h2 => by
  rw [show T48 19 [G x, G n] h = T47 19 [G x, G n] h from by simp (disch := decide) only [T48, addK_ne]]
  exact k19 x n h h1 h2
end Go.Proofs.Ytljgfdamdcikgaa.Ev
set_option linter.unusedVariables false
set_option linter.unusedSimpArgs false
namespace Go.Proofs.Ytljgfdamdcikgaa.Ev
open Go Go.AEv
structure N2 (H0 h : Heap) (xa xb : AV) (La Lb : List Int) : Prop where
  k : Kp (fun _ => False) H0 h
  a0 : ∀ q, blk xa = some q → H0.size ≤ q
  b0 : ∀ q, blk xb = some q → H0.size ≤ q
  la : LV h xa (gs La)
  lb : LV h xb (gs Lb)
  d : ∀ q, blk xa = some q → blk xb ≠ some q
theorem N2.nil (H0 : Heap) : N2 H0 H0 .nils .nils [] [] := ⟨Kp.refl _, fun _ e => (by cases e), fun _ e => (by cases e), LV.nil _, LV.nil _, fun _ e => (by cases e)⟩
theorem N2.swap {H0 h : Heap} {xa xb : AV} {La Lb : List Int} (t : N2 H0 h xa xb La Lb) : N2 H0 h xb xa Lb La := ⟨t.k, t.b0, t.a0, t.lb, t.la, fun q e1 e2 => t.d q e2 e1⟩
theorem N2.app {H0 h : Heap} (h0 : Nat) {xa xb : AV} {La Lb : List Int} (t : N2 H0 h xa xb La Lb) (z : Int) (hn : La.length ≤ 1000000) :
    ∃ x1 e h2, appA (h.plus [.cells 1 1 [G z]]) h0 none 1 8 1 [G z] xa = some (x1, e) ∧ Eff.app e (h.plus [.cells 1 1 [G z]]) = some h2 ∧ N2 H0 h2 x1 xb (La ++ [z]) Lb := by
  have k1 : Kp (fun _ => False) h (h.plus [.cells 1 1 [G z]]) := Kp.plus _ _
  obtain ⟨x1, e, h2, q1, q2, q3, q4, q5, q6⟩ := app_v (h.plus [.cells 1 1 [G z]]) h0 8 (G z) (t.la.kp k1 (fun _ _ => id)) (by simp; omega)
  have hsz : (h.plus [.cells 1 1 [G z]]).size = h.size + 1 := by rw [plus_size]; rfl
  refine ⟨x1, e, h2, q1, q2, ⟨(t.k.trans k1).late q4 t.a0, fun q hq => ?_, t.b0, by simpa using q3, (t.lb.kp k1 (fun _ _ => id)).kp q4 (fun q e1 e2 => t.d q e2 e1), fun q hq e => ?_⟩⟩
  · rcases q5 with h' | ⟨_, h'⟩
    · rw [h'] at hq; exact t.a0 q hq
    · rw [h'] at hq; cases hq; have := t.k.size; omega
  · rcases q5 with h' | ⟨_, h'⟩
    · rw [h'] at hq; exact t.d q hq e
    · rw [h'] at hq; cases hq; have := t.lb.lt e; omega
def TR (H0 h : Heap) (xb xw : AV) (M : List (List AV)) : Prop := ∃ rs, LV h xb rs ∧ rs.length = M.length ∧ ∀ (i : Nat) r, rs[i]? = some r → ∃ cs b, M[i]? = some cs ∧ r = .slice b 0 cs.length cs.length ∧ h.get b = .cells 1 cs.length cs ∧ blk xb ≠ some b ∧ blk xw ≠ some b ∧ H0.size ≤ b
structure T2t (H0 h : Heap) (s3 : Nat) (xb xw : AV) (M N : List (List AV)) : Prop where
  k : Kp (· = s3) H0 h
  b0 : ∀ c, blk xb = some c → H0.size ≤ c
  w0 : ∀ c, blk xw = some c → H0.size ≤ c
  rb : TR H0 h xb xw M
  rw' : TR H0 h xw xb N
  d : ∀ c, blk xb = some c → blk xw ≠ some c
theorem T2t.nil (H0 : Heap) (s3 : Nat) : T2t H0 H0 s3 .nils .nils [] [] := ⟨Kp.refl _, fun _ e => (by cases e), fun _ e => (by cases e), ⟨[], LV.nil _, rfl, fun i r e => by simp at e⟩, ⟨[], LV.nil _, rfl, fun i r e => by simp at e⟩, fun _ e => (by cases e)⟩
theorem T2t.swap {H0 h : Heap} {s3 : Nat} {xb xw : AV} {M N : List (List AV)} (t : T2t H0 h s3 xb xw M N) : T2t H0 h s3 xw xb N M := ⟨t.k, t.w0, t.b0, t.rw', t.rb, fun c e1 e2 => t.d c e2 e1⟩
theorem TR.kp {X : Nat → Prop} {H0 h h' : Heap} {xb xw : AV} {M : List (List AV)} (t : TR H0 h xb xw M) (k : Kp X h h') (h1 : ∀ b, blk xb = some b → ¬ X b) (h2 : ∀ b, H0.size ≤ b → blk xw ≠ some b → ¬ X b) : TR H0 h' xb xw M := by
  obtain ⟨rs, lv, hl, hr⟩ := t
  refine ⟨rs, lv.kp k h1, hl, fun i r e => ?_⟩
  obtain ⟨cs, b, e1, e2, e3, e4, e5, e6⟩ := hr i r e
  exact ⟨cs, b, e1, e2, k.at e3 (by simp) (h2 b e6 e5), e4, e5, e6⟩
theorem T2t.kp {H0 h h' : Heap} {s3 : Nat} {xb xw : AV} {M N : List (List AV)} (t : T2t H0 h s3 xb xw M N) (k : Kp (fun _ => False) h h') : T2t H0 h' s3 xb xw M N :=
  ⟨t.k.trans (k.mono fun _ _ e => e.elim), t.b0, t.w0, t.rb.kp k (fun _ _ => id) (fun _ _ _ => id), t.rw'.kp k (fun _ _ => id) (fun _ _ _ => id), t.d⟩
theorem T2t.upd {H0 h : Heap} {s3 : Nat} {xb xw : AV} {M N : List (List AV)} (t : T2t H0 h s3 xb xw M N) (X : AObj) (hN : h.N ≤ s3) (hs : s3 < H0.size) : T2t H0 (h.upd s3 X) s3 xb xw M N := by
  have k : Kp (· = s3) h (h.upd s3 X) := Kp.upd _ _ _ hN rfl
  exact ⟨t.k.trans k, t.b0, t.w0, t.rb.kp k (fun b e q => by have := t.b0 b e; omega) (fun b e _ q => by omega), t.rw'.kp k (fun b e q => by have := t.w0 b e; omega) (fun b e _ q => by omega), t.d⟩
theorem T2t.app {H0 h : Heap} (h0 : Nat) {s3 : Nat} {xb xw : AV} {M N : List (List AV)} {b : Nat} {cs : List AV} (t : T2t H0 h s3 xb xw M N) (hs : s3 < H0.size) (hv : h.get b = .cells 1 cs.length cs) (hb : blk xb ≠ some b ∧ blk xw ≠ some b ∧ H0.size ≤ b) (hn : M.length ≤ 1000000) :
    ∃ x1 e h2, appA (h.plus [.cells 1 1 [.slice b 0 cs.length cs.length]]) h0 none 1 24 1 [.slice b 0 cs.length cs.length] xb = some (x1, e) ∧ Eff.app e (h.plus [.cells 1 1 [.slice b 0 cs.length cs.length]]) = some h2 ∧ T2t H0 h2 s3 x1 xw (M ++ [cs]) N ∧ Kp (fun c => blk xb = some c) h h2 ∧ (∀ c, c < h.size → blk xb ≠ some c → blk x1 ≠ some c) := by
  obtain ⟨rs, lv, hl, hr⟩ := t.rb
  generalize hvv : AV.slice b 0 cs.length cs.length = v
  have k1 : Kp (fun _ => False) h (h.plus [.cells 1 1 [v]]) := Kp.plus _ _
  obtain ⟨x1, e, h2, q1, q2, q3, q4, q5, q6⟩ := app_v (h.plus [.cells 1 1 [v]]) h0 24 v (lv.kp k1 (fun _ _ => id)) (by omega)
  have hsz : (h.plus [.cells 1 1 [v]]).size = h.size + 1 := by rw [plus_size]; rfl
  have hx1 : ∀ q, q < h.size → blk xb ≠ some q → blk x1 ≠ some q := fun q hq hne hx1 => by
    rcases q5 with h' | ⟨_, h'⟩
    · rw [h'] at hx1; exact hne hx1
    · rw [h'] at hx1; cases hx1; omega
  have kk : Kp (fun c => blk xb = some c) h h2 := (k1.mono fun _ _ e => e.elim).trans q4
  have hxn : ∀ c, blk x1 = some c → blk xw ≠ some c ∧ H0.size ≤ c := fun c hc => by
    rcases q5 with h' | ⟨_, h'⟩
    · rw [h'] at hc; exact ⟨t.d c hc, t.b0 c hc⟩
    · rw [h'] at hc; cases hc
      refine ⟨fun e => ?_, by have := t.k.size; omega⟩
      obtain ⟨rs', lv', _⟩ := t.rw'
      have := lv'.lt e; omega
  refine ⟨x1, e, h2, q1, q2, ⟨?_, fun c hc => (hxn c hc).2, t.w0, ⟨rs ++ [v], q3, by simp [hl], fun i r hi => ?_⟩, ?_, fun c hc => (hxn c hc).1⟩, kk, hx1⟩
  · refine ⟨by rw [kk.lo, t.k.lo], by rw [kk.N, t.k.N], Nat.le_trans t.k.size kk.size, fun c hc hm => ?_⟩
    rw [kk.get c (Nat.lt_of_lt_of_le hc t.k.size) (fun e => by have := t.b0 c e; omega), t.k.get c hc hm]
  · by_cases hi' : i < rs.length
    · rw [List.getElem?_append_left hi'] at hi
      obtain ⟨l', b', h1, h2', h3, h4, h5, h6⟩ := hr i r hi
      have hlt := get_lt h3 (by simp)
      exact ⟨l', b', by rw [List.getElem?_append_left (by omega)]; exact h1, h2', kk.at h3 (by simp) (fun q => h4 q), hx1 b' hlt h4, h5, h6⟩
    · rw [List.getElem?_append_right (by omega)] at hi
      have hi0 : i - rs.length = 0 := by
        rcases Nat.eq_zero_or_pos (i - rs.length) with e | e
        · exact e
        · rw [List.getElem?_eq_none (by simp; omega)] at hi; cases hi
      rw [hi0] at hi
      simp only [List.getElem?_cons_zero, Option.some.injEq] at hi
      subst hi
      exact ⟨cs, b, by rw [List.getElem?_append_right (by omega), ← hl, hi0]; rfl, hvv.symm, kk.at hv (by simp) (fun q => hb.1 q), hx1 b (get_lt hv (by simp)) hb.1, hb.2.1, hb.2.2⟩
  · obtain ⟨rs', lv', hl', hr'⟩ := t.rw'
    refine ⟨rs', lv'.kp kk (fun c e1 e2 => t.d c e2 e1), hl', fun i r hi => ?_⟩
    obtain ⟨l', b', h1, h2', h3, h4, h5, h6⟩ := hr' i r hi
    exact ⟨l', b', h1, h2', kk.at h3 (by simp) (fun q => h5 q), h4, hx1 b' (get_lt h3 (by simp)) h5, h6⟩
theorem T2t.sh {H0 h : Heap} {s3 : Nat} {xb xw : AV} {M N : List (List AV)} {cs : List AV} (t : T2t H0 h s3 xb xw (M ++ [cs]) N) : ∃ c m, xb = .slice c 0 m m := by
  obtain ⟨rs, lv, hl, _⟩ := t.rb
  obtain ⟨c, e, _⟩ := lv.sl (by intro e; rw [e] at hl; simp at hl)
  exact ⟨c, _, e⟩
theorem T2t.tb {H0 h : Heap} {s3 : Nat} {xb xw : AV} {M N : List (List AV)} (t : T2t H0 h s3 xb xw M N) {Hb : Heap} (k0 : Kp (fun _ => False) Hb h) (hs : Hb.size ≤ H0.size) : TB Hb h xb M := by
  obtain ⟨rs, lv, hl, hr⟩ := t.rb
  exact ⟨k0, fun q hq => Nat.le_trans hs (t.b0 q hq), rs, lv, hl, fun i r hi => by
    obtain ⟨cs, b, h1, h2, h3, h4, h5, h6⟩ := hr i r hi
    exact ⟨cs, b, h1, h2, h3, h4, Nat.le_trans hs h6⟩⟩
end Go.Proofs.Ytljgfdamdcikgaa.Ev
set_option linter.unusedVariables false
set_option linter.unusedSimpArgs false
namespace Go.Proofs.Ytljgfdamdcikgaa.Ev
open Go Go.AEv
attribute [local simp] evFunc initS evOps_c evTrim_c evSkip_c evExit_c evRet_c evSeq_c evCond_c evBlock_c evDraw_c runOps_n runOps_c exec_n exec_g pure1_c act AOpd.ev T.get T.set T.put evBin evUn forceT_eq forceV_eq forceL_eq evRess evRes one keep runFP_n runFP_c app_none AV.flats AV.flat came_some List.getElem?_cons_zero List.getElem?_cons_succ beqT wrapI idxI tdivI tmodI decT decF ibT ibF inT inF evScope_c if_pos if_neg Cm_some thenW_n thenW_e thenW_r blkW_n blkW_e blkW_r goI kn putAt AV.cells fillA loadA takeA mk Eff.isAll Eff.isNone Eff.commutes Eff.spares okPair apart eqAgg fits LK.fits allEq aveq eqk mmA
def b01 (L : List Int) : Prop := ∀ z ∈ L, 0 ≤ z ∧ z ≤ 1
theorem b01_app {L : List Int} {z : Int} (h : b01 L) (h0 : 0 ≤ z) (h1 : z ≤ 1) : b01 (L ++ [z]) := fun u hu => by
  rcases List.mem_append.1 hu with hu | hu
  · exact h u hu
  · rw [List.mem_singleton.1 hu]; exact ⟨h0, h1⟩
def r01 (n : Nat) (B : List (List Int)) : Prop := ∀ l ∈ B, l.length = n ∧ b01 l
theorem r01_app {n : Nat} {B : List (List Int)} {l : List Int} (h : r01 n B) (hl : l.length = n) (hb : b01 l) : r01 n (B ++ [l]) := fun u hu => by
  rcases List.mem_append.1 hu with hu | hu
  · exact h u hu
  · rw [List.mem_singleton.1 hu]; exact ⟨hl, hb⟩
theorem r01_tab {n : Nat} {B : List (List Int)} (h : r01 n B) (hl : B.length = n) : tabQ n B = true := by
  unfold tabQ
  rw [hl]
  simp only [decide_true, Bool.true_and, List.all_eq_true]
  intro l hl
  obtain ⟨h1, h2⟩ := h l hl
  unfold rowQ
  rw [h1]
  simp only [decide_true, Bool.true_and, List.all_eq_true, decide_eq_true_eq]
  exact h2
section
variable {X Y : List (List Int)} {x y : AV} {nq S : Nat}
structure RD (S nq : Nat) (nz : Int) (x y : AV) (X Y : List (List Int)) (h : Heap) : Prop where
  gS : h.get S = .cells 0 3 [G nz, x, y]
  g3 : ∃ xb xw, h.get (S + 2) = .cells 0 3 [G nq, xb, xw]
  mx : MR h x X
  my : MR h y Y
theorem RD.kp {nz : Int} {h h' : Heap} (r : RD S nq nz x y X Y h) (k : Kp (fun _ => False) h h') : RD S nq nz x y X Y h' := by
  obtain ⟨xb, xw, g⟩ := r.g3
  exact ⟨k.at r.gS (by simp) id, ⟨xb, xw, k.at g (by simp) id⟩, r.mx.kp k, r.my.kp k⟩
abbrev F18 (S i : Nat) (s : T) : Prop := s.get [false] = .ptr S 0 3 ∧ s.get [true] = .ptr (S + 1) 0 3 ∧ s.get [false, false] = .ptr (S + 2) 0 3 ∧ s.get [true, false] = G i
abbrev T0P (S i k : Nat) (Hi : Heap) : SP := fun s h => ∃ xa xb La Lb, (N2 Hi h xa xb La Lb ∧ (La.length = k ∧ b01 La) ∧ Lb.length = k ∧ b01 Lb) ∧ F18 S i s ∧ s.get [false, true] = xa ∧ s.get [true, true] = xb ∧ s.get [false, false, false] = G k
theorem c18_l0_ok (J : CallF) (k56 : K56 J) {nz : Int} {Hi : Heap} (rd : RD S nq nz x y X Y Hi) (q3 : nq ≤ 3) {i : Nat} (hi : i ≤ 3) :
    Tr tbl J c18_l0 (T0P S i 0 Hi) (.exit 2) (fun s h => ∃ xa xb La Lb, (N2 Hi h xa xb La Lb ∧ (La.length = nq ∧ b01 La) ∧ Lb.length = nq ∧ b01 Lb) ∧ F18 S i s ∧ s.get [false, true] = xa ∧ s.get [true, true] = xb) := by
  refine Tr.rounds (e := .exit 2) (P := fun k => T0P S i k Hi) (M := nq) (fun k hk => ?_) ?_ (by simp) 0 (by omega)
  · unfold T0P F18
    refine Tr.w fun s1 H1 hp _ kR => W.trim ?_
    obtain ⟨xa, xb, La, Lb, ⟨n2, ⟨l1, b1⟩, l2, b2⟩, q⟩ := hp
    obtain ⟨gS, ⟨ub, uw, g3⟩, mx, my⟩ := rd.kp n2.k
    obtain ⟨z1, e1, z10, z11⟩ := k56 H1 x X i k mx (by omega) (by omega)
    obtain ⟨x1, e, H2, p1, p2, n3⟩ := n2.app H1.size z1 (by omega)
    obtain ⟨gS2, ⟨ub2, uw2, g32⟩, mx2, my2⟩ := rd.kp n3.k
    obtain ⟨z2, e2, z20, z21⟩ := k56 H2 y Y i k my2 (by omega) (by omega)
    obtain ⟨x2, e', H3, p3, p4, n4⟩ := n3.swap.app H2.size z2 (by omega)
    have fin : N2 Hi H3 x1 x2 (La ++ [z1]) (Lb ++ [z2]) ∧ ((La ++ [z1]).length = k + 1 ∧ b01 (La ++ [z1])) ∧ (Lb ++ [z2]).length = k + 1 ∧ b01 (Lb ++ [z2]) := ⟨n4.swap, ⟨by simp [l1], b01_app b1 z10 z11⟩, by simp [l2], b01_app b2 z20 z21⟩
    clear n2 n3 n4 rd mx my mx2 my2
    refine W.assoc ?_
    refine W.seq (W.chunk ?_)
    simp (disch := first|omega|exact zE rfl|exact zO|exact zL rfl) [c18_o6, zG, q, g3]
    refine W.seq (W.chunk ?_)
    simp (disch := first|omega|exact zE rfl|exact zO|exact zL rfl) [zG, q]
    refine W.seq (W.block ?_)
    refine W.seq (W.chunk ?_)
    simp (disch := first|omega|exact zE rfl|exact zO|exact zL rfl) [c18_o7, zG, q, gS, e1, p1, p2, app1_at, elems, rdOf]
    refine W.chunk ?_
    simp (disch := first|omega|exact zE rfl|exact zO|exact zL rfl) [c18_o8, zG, q, gS2, e2, p3, p4, app1_at, elems, rdOf]
    refine W.chunk ?_
    simp (disch := first|omega|exact zE rfl|exact zO|exact zL rfl) [c18_o9, zG, q]
    exact kR _ _ ⟨_, _, _, _, fin, by simp [T.get, q]⟩
  · unfold T0P F18
    refine Tr.w fun s1 H1 hp _ kR => W.trim ?_
    obtain ⟨xa, xb, La, Lb, ⟨n2, ⟨l1, b1⟩, l2, b2⟩, q⟩ := hp
    obtain ⟨gS, ⟨ub, uw, g3⟩, mx, my⟩ := rd.kp n2.k
    clear rd mx my
    refine W.assoc ?_
    refine W.seq (W.chunk ?_)
    simp (disch := first|omega|exact zE rfl|exact zO|exact zL rfl) [c18_o6, zG, q, g3]
    refine W.seq (W.chunk ?_)
    simp (disch := first|omega|exact zE rfl|exact zO|exact zL rfl) [zG, q]
    exact kR _ _ ⟨_, _, _, _, ⟨n2, ⟨l1, b1⟩, l2, b2⟩, by simp [T.get, q]⟩
abbrev T1P (S nq i : Nat) (H0 : Heap) : SP := fun s h => ∃ xb xw B W, (T2t H0 h (S + 2) xb xw (B.map gs) (W.map gs) ∧ h.get (S + 2) = .cells 0 3 [G nq, xb, xw] ∧ (B.length = i ∧ r01 nq B) ∧ W.length = i ∧ r01 nq W) ∧ F18 S i s
theorem c18_b1_ok (J : CallF) (k56 : K56 J) {nz : Int} {H0 : Heap} (gS0 : H0.get S = .cells 0 3 [G nz, x, y]) (base : ∀ h, Kp (· = S + 2) H0 h → MR h x X ∧ MR h y Y) (hN : H0.N ≤ S + 2) (hs : S + 2 < H0.size) (q1 : 1 ≤ nq) (q3 : nq ≤ 3) {i : Nat} (hi : i < nq) :
    Tr tbl J (.trim [[false], [true], [false, false], [true, false]] c18_b1) (T1P S nq i H0) .normal (T1P S nq (i + 1) H0) := by
  unfold T1P
  refine Tr.w fun s1 H1 hp _ kR => W.trim ?_
  obtain ⟨xb, xw, B, Y0, ⟨tt, g3, ⟨lB, rB⟩, lW, rW⟩, q⟩ := hp
  obtain ⟨mx, my⟩ := base H1 tt.k
  have rd : RD S nq nz x y X Y H1 := ⟨tt.k.at gS0 (by simp) (by omega), ⟨xb, xw, g3⟩, mx, my⟩
  have l0 := c18_l0_ok J k56 rd q3 (i := i) (by omega)
  have n0 : N2 H1 H1 .nils .nils [] [] := N2.nil H1
  have b00 : b01 [] := fun z hz => by cases hz
  have step : ∀ h xa xc La Lb, N2 H1 h xa xc La Lb → La.length = nq → b01 La → Lb.length = nq → b01 Lb → ∃ ba bc, xa = .slice ba 0 nq nq ∧ xc = .slice bc 0 nq nq ∧ h.get (S + 2) = .cells 0 3 [G nq, xb, xw] ∧
      ∃ x1 e h2 h3, appA (h.plus [.cells 1 1 [.slice ba 0 nq nq]]) h.size none 1 24 1 [.slice ba 0 nq nq] xb = some (x1, e) ∧ Eff.app e (h.plus [.cells 1 1 [.slice ba 0 nq nq]]) = some h2 ∧ Eff.app (.put (S + 2) 3 1 [x1]) h2 = some h3 ∧ h3.get (S + 2) = .cells 0 3 [G nq, x1, xw] ∧ (∃ c m, x1 = .slice c 0 m m) ∧
      ∃ x2 e' h4 h5, appA (h3.plus [.cells 1 1 [.slice bc 0 nq nq]]) h3.size none 1 24 1 [.slice bc 0 nq nq] xw = some (x2, e') ∧ Eff.app e' (h3.plus [.cells 1 1 [.slice bc 0 nq nq]]) = some h4 ∧ Eff.app (.put (S + 2) 3 2 [x2]) h4 = some h5 ∧ (∃ c m, x2 = .slice c 0 m m) ∧
      T2t H0 h5 (S + 2) x1 x2 ((B ++ [La]).map gs) ((Y0 ++ [Lb]).map gs) ∧ h5.get (S + 2) = .cells 0 3 [G nq, x1, x2] ∧ ((B ++ [La]).length = i + 1 ∧ r01 nq (B ++ [La])) ∧ (Y0 ++ [Lb]).length = i + 1 ∧ r01 nq (Y0 ++ [Lb]) := fun h xa xc La Lb n2 e1 e2 e3 e4 => by
    have ga : (gs La).length = nq := by simp [e1]
    have gc : (gs Lb).length = nq := by simp [e3]
    obtain ⟨ba, rfl, ha⟩ := n2.la.sl (by intro e; rw [e] at ga; simp at ga; omega)
    obtain ⟨bc, rfl, hc⟩ := n2.lb.sl (by intro e; rw [e] at gc; simp at gc; omega)
    have a0 := n2.a0 ba rfl
    have c0 := n2.b0 bc rfl
    have dd : ba ≠ bc := fun e => n2.d ba rfl (by rw [e]; rfl)
    rw [ga] at ha ⊢
    rw [gc] at hc ⊢
    have t1 := tt.kp n2.k
    have lxb : ∀ c, blk xb = some c → c < H1.size := fun c e => by obtain ⟨rs, lv, _⟩ := tt.rb; exact lv.lt e
    have lxw : ∀ c, blk xw = some c → c < H1.size := fun c e => by obtain ⟨rs, lv, _⟩ := tt.rw'; exact lv.lt e
    have szH := tt.k.size
    obtain ⟨x1, e, h2, p1, p2, t2, k2, f2⟩ := t1.app h.size (b := ba) (cs := gs La) hs (by rw [ga]; exact ha) ⟨fun e => by have := lxb _ e; omega, fun e => by have := lxw _ e; omega, by omega⟩ (by rw [List.length_map]; omega)
    rw [ga] at p1 p2
    have g3h := n2.k.at g3 (by simp) id
    have g32 := k2.at g3h (by simp) (fun e => by have := tt.b0 _ e; omega)
    have N2' : h2.N ≤ S + 2 := by rw [t2.k.N]; exact hN
    have t3 := t2.upd (.cells 0 3 [G nq, x1, xw]) N2' hs
    have hc2 := k2.at hc (by simp) (fun e => by have := lxb _ e; omega)
    have hc3 : (h2.upd (S + 2) (.cells 0 3 [G nq, x1, xw])).get bc = .cells 1 nq (gs Lb) := by rw [upd_ne _ _ _ _ N2' (by omega)]; exact hc2
    have g33 : (h2.upd (S + 2) (.cells 0 3 [G nq, x1, xw])).get (S + 2) = .cells 0 3 [G nq, x1, xw] := upd_same _ _ _ N2' (get_lt g32 (by simp))
    have bch := get_lt hc (by simp)
    obtain ⟨x2, e', h4, p3, p4, t4, k4, f4⟩ := t3.swap.app (h2.upd (S + 2) (.cells 0 3 [G nq, x1, xw])).size (b := bc) (cs := gs Lb) hs (by rw [gc]; exact hc3) ⟨fun e => by have := lxw _ e; omega, f2 bc bch (fun e => by have := lxb _ e; omega), by omega⟩ (by rw [List.length_map]; omega)
    rw [gc] at p3 p4
    have g34 := k4.at g33 (by simp) (fun e => by have := tt.w0 _ e; omega)
    have N4 : h4.N ≤ S + 2 := by rw [t4.k.N]; exact hN
    refine ⟨ba, bc, rfl, rfl, g3h, x1, e, h2, _, p1, p2, ?_, g33, t2.sh, x2, e', h4, _, p3, p4, ?_, t4.sh, ?_, upd_same _ _ _ N4 (get_lt g34 (by simp)), ⟨by simp [lB], r01_app rB e1 e2⟩, by simp [lW], r01_app rW e3 e4⟩
    · rw [put_gen _ _ _ _ _ _ _ N2' g32 (by simp)]; rfl
    · rw [put_gen _ _ _ _ _ _ _ N4 g34 (by simp)]; rfl
    · have := t4.swap.upd (.cells 0 3 [G nq, x1, x2]) N4 hs
      rw [List.map_append, List.map_append]
      exact this
  have l0 : Tr tbl J c18_l0 (fun s h => h = H1 ∧ s.get [false] = .ptr S 0 3 ∧ s.get [true] = .ptr (S + 1) 0 3 ∧ s.get [false, false] = .ptr (S + 2) 0 3 ∧ s.get [true, false] = G i ∧ s.get [false, true] = .nils ∧ s.get [true, true] = .nils ∧ s.get [false, false, false] = G ((0 : Nat) : Int)) (.exit 2) _ := Tr.pre (fun s h hp => (by
    obtain ⟨rfl, a1, a2, a3, a4, a5, a6, a7⟩ := hp
    exact ⟨.nils, .nils, [], [], ⟨n0, ⟨rfl, b00⟩, rfl, b00⟩, ⟨a1, a2, a3, a4⟩, a5, a6, a7⟩ : T0P S i 0 H1 s h)) l0
  unfold F18 at q kR l0
  clear tt rd mx my rB rW lB lW
  refine W.assoc ?_
  refine W.seq (W.chunk ?_)
  simp (disch := first|omega|exact zE rfl|exact zO|exact zL rfl) [c18_o3, zG, q, g3]
  refine W.seq (W.chunk ?_)
  simp (disch := first|omega|exact zE rfl|exact zO|exact zL rfl) [zG, q]
  refine W.seq (W.block ?_)
  refine W.seq (W.chunk ?_)
  simp (disch := first|omega|exact zE rfl|exact zO|exact zL rfl) [c18_o4, zG, q]
  refine W.assoc ?_
  refine W.seq (W.chunk ?_)
  simp (disch := first|omega|exact zE rfl|exact zO|exact zL rfl) [c18_o5, zG, q]
  refine W.seq (W.block ?_)
  refine W.use (l0) (by simp (disch := first|omega|exact zE rfl|exact zO|exact zL rfl) [zG, q]) fun s1 H1 hp => ?_
  obtain ⟨xa, xc, La, Lb, ⟨n2, ⟨e1, e2⟩, e3, e4⟩, q⟩ := hp
  try simp only [zW, if_true]
  obtain ⟨ba, bc, rfl, rfl, g3h, x1, e, h2, h3, p1, p2, p3, g33, ⟨c1, m1, rfl⟩, x2, e', h4, h5, p4, p5, p6, ⟨c2, m2, rfl⟩, fin⟩ := step _ _ _ _ _ n2 e1 e2 e3 e4
  refine W.seq (W.chunk ?_)
  simp (disch := first|omega|exact zE rfl|exact zO|exact zL rfl) [c18_o10, zG, q, g3h, p1, p2, p3, app1_at, elems, rdOf]
  refine W.chunk ?_
  simp (disch := first|omega|exact zE rfl|exact zO|exact zL rfl) [c18_o11, zG, q, g33, p4, p5, p6, app1_at, elems, rdOf]
  refine W.chunk ?_
  simp (disch := first|omega|exact zE rfl|exact zO|exact zL rfl) [c18_o12, zG, q]
  exact kR _ _ ⟨_, _, _, _, fin, by simp [T.get, q]⟩
theorem c18_ok (J : CallF) (k19 : K19 J) (k56 : K56 J) (hJ : ∀ a h, J 18 a h = none) (h : Heap) {qz : Int} (mx : MR h x X) (my : MR h y Y) :
    ∃ v own, CallsTo tbl J 18 [.agg [G qz, x, y]] h (v, own, false) ∧ ∃ n x' y' B W, v = .agg [G (n : Nat), x', y'] ∧ (1 ≤ n ∧ n ≤ 3) ∧ (TB h (h.plus own) x' (B.map gs) ∧ tabQ n B = true) ∧ TB h (h.plus own) y' (W.map gs) ∧ tabQ n W = true := by
  refine Tr.fny (cf := c18) (e := .ret) (s := T.set .leaf [] (.agg [G qz, x, y])) (by decide) rfl (hJ _ _) rfl rfl (by simp) ?_
  have mb := mdZ_bd (IntKind.i64.wrap (qz - 1)) (n := 3) (by omega)
  have kk := k19 (IntKind.i64.wrap (qz - 1)) 3 ⟨h.get, h.size, [.cells 0 3 [G qz, x, y], .cells 0 3 [G 0, .nils, .nils]]⟩ (by omega) (by omega)
  generalize mdZ (IntKind.i64.wrap (qz - 1)) 3 = z at *
  obtain ⟨n, hn⟩ : ∃ n : Nat, (n : Int) = 1 + z := ⟨(1 + z).toNat, by omega⟩
  obtain ⟨H0, hH0⟩ : ∃ H, (⟨h.get, h.size, [.cells 0 3 [G qz, x, y], .cells 0 3 [G 0, .nils, .nils], .cells 0 3 [G (1 + z), .nils, .nils]]⟩ : Heap) = H := ⟨_, rfl⟩
  obtain ⟨S, hS⟩ : ∃ S, h.size = S := ⟨_, rfl⟩
  have hs : H0.size = S + 3 := by rw [← hH0, ← hS]; rfl
  have hN : H0.N = S := by rw [← hH0, ← hS]
  have gS0 : H0.get S = .cells 0 3 [G qz, x, y] := by rw [← hH0, ← hS, get_mk_ge _ _ _ _ (Nat.le_refl _), Nat.sub_self]; rfl
  have g1 : H0.get (S + 1) = .cells 0 3 [G 0, .nils, .nils] := by rw [← hH0, ← hS, get_mk_ge _ _ _ _ (by omega), Nat.add_sub_cancel_left]; rfl
  have g3 : H0.get (S + 2) = .cells 0 3 [G n, .nils, .nils] := by rw [← hH0, ← hS, get_mk_ge _ _ _ _ (by omega), Nat.add_sub_cancel_left, hn]; rfl
  have low : ∀ h', Kp (· = S + 2) H0 h' → Kp (fun _ => False) (frameOf h) h' := fun h' k => Kp.low (by rw [k.lo, ← hH0]) (by rw [k.N, hN, hS])
  have base : ∀ h', Kp (· = S + 2) H0 h' → MR h' x X ∧ MR h' y Y := fun h' k => ⟨MR.kp (mx.lo []) (low h' k), MR.kp (my.lo []) (low h' k)⟩
  have l1 : Tr tbl J c18_l1 (fun s h' => h' = H0 ∧ s.get [false] = .ptr S 0 3 ∧ s.get [true] = .ptr (S + 1) 0 3 ∧ s.get [false, false] = .ptr (S + 2) 0 3 ∧ s.get [true, false] = G ((0 : Nat) : Int)) (.exit 0) (fun s h => ∃ xb xw B W, (T2t H0 h (S + 2) xb xw (B.map gs) (W.map gs) ∧ h.get (S + 2) = .cells 0 3 [G n, xb, xw] ∧ (B.length = n ∧ r01 n B) ∧ W.length = n ∧ r01 n W) ∧ s.get [true] = .ptr (S + 1) 0 3 ∧ s.get [false, false] = .ptr (S + 2) 0 3) := by
    refine Tr.pre (P := T1P S n 0 H0) (fun s h' hp => by
      obtain ⟨rfl, a1, a2, a3, a4⟩ := hp
      exact ⟨.nils, .nils, [], [], ⟨T2t.nil _ _, g3, ⟨rfl, fun l hl => by cases hl⟩, rfl, fun l hl => by cases hl⟩, a1, a2, a3, a4⟩) ?_
    refine Tr.rounds (e := .exit 0) (P := fun i => T1P S n i H0) (M := n) (fun i hi => c18_b1_ok J k56 gS0 base (by omega) (by omega) (by omega) (by omega) hi) ?_ (by simp) 0 (by omega)
    unfold T1P F18
    refine Tr.w fun s1 H1 hp _ kR => W.trim ?_
    obtain ⟨xb, xw, B, Y0, ⟨tt, g3, c1, c2⟩, q⟩ := hp
    clear base low
    refine W.assoc ?_
    refine W.seq (W.chunk ?_)
    simp (disch := first|omega|exact zE rfl|exact zO|exact zL rfl) [c18_o3, zG, q, g3]
    refine W.seq (W.chunk ?_)
    simp (disch := first|omega|exact zE rfl|exact zO|exact zL rfl) [zG, q]
    exact kR _ _ ⟨_, _, _, _, ⟨tt, g3, c1, c2⟩, by simp [T.get, q]⟩
  have fin : ∀ h' xb xw B W, T2t H0 h' (S + 2) xb xw (B.map gs) (W.map gs) → h'.get (S + 2) = .cells 0 3 [G n, xb, xw] → (B.length = n ∧ r01 n B) → (W.length = n ∧ r01 n W) → ∃ h2, Eff.app (.put (S + 1) 3 0 [G n, xb, xw]) h' = some h2 ∧ h2.get (S + 1) = .cells 0 3 [G n, xb, xw] ∧
      (if (one [AV.agg [G n, xb, xw]]).flat then [] else h2.own) = h2.own ∧ (∃ c m, xb = .slice c 0 m m) ∧ (∃ c m, xw = .slice c 0 m m) ∧ (TB h (h.plus h2.own) xb (B.map gs) ∧ tabQ n B = true) ∧ TB h (h.plus h2.own) xw (W.map gs) ∧ tabQ n W = true := fun h' xb xw B Y0 tt g ⟨b1, b2⟩ ⟨w1, w2⟩ => by
    have N' : h'.N = S := by rw [tt.k.N, hN]
    have g1' := tt.k.at g1 (by simp) (by omega)
    have kU : Kp (· = S + 1) h' (h'.upd (S + 1) (.cells 0 3 [G n, xb, xw])) := Kp.upd _ _ _ (by omega) rfl
    have lowU : Kp (fun _ => False) (frameOf h) (h'.upd (S + 1) (.cells 0 3 [G n, xb, xw])) := Kp.low (by show h'.lo = _; rw [tt.k.lo, ← hH0]) (by show h'.N = _; rw [N', hS])
    have lowh := low h' tt.k
    have fs : (frameOf h).size ≤ H0.size := by show h.size + 0 ≤ _; omega
    have tb1 := tt.tb lowh fs
    have tb2 := tt.swap.tb lowh fs
    have tb1' : TB (frameOf h) (h'.upd (S + 1) (.cells 0 3 [G n, xb, xw])) xb (B.map gs) := by
      have t0 : TB H0 h' xb (B.map gs) → TB (frameOf h) (h'.upd (S + 1) (.cells 0 3 [G n, xb, xw])) xb (B.map gs) := fun t => TB.kpm t kU (fun b e => by omega) lowU fs
      obtain ⟨rs, lv, hl, hr⟩ := tt.rb
      refine ⟨lowU, fun q hq => Nat.le_trans fs (tt.b0 q hq), rs, lv.kp kU (fun b e q => by have := tt.b0 b e; omega), hl, fun i r hi => ?_⟩
      obtain ⟨cs, b, h1, h2, h3, h4, h5, h6⟩ := hr i r hi
      exact ⟨cs, b, h1, h2, kU.at h3 (by simp) (by omega), h4, by omega⟩
    have tb2' : TB (frameOf h) (h'.upd (S + 1) (.cells 0 3 [G n, xb, xw])) xw (Y0.map gs) := by
      obtain ⟨rs, lv, hl, hr⟩ := tt.rw'
      refine ⟨lowU, fun q hq => Nat.le_trans fs (tt.w0 q hq), rs, lv.kp kU (fun b e q => by have := tt.w0 b e; omega), hl, fun i r hi => ?_⟩
      obtain ⟨cs, b, h1, h2, h3, h4, h5, h6⟩ := hr i r hi
      exact ⟨cs, b, h1, h2, kU.at h3 (by simp) (by omega), h4, by omega⟩
    obtain ⟨c1, r1, e1, _⟩ := tb1.sl (i := 0) (by rw [List.length_map]; omega)
    obtain ⟨c2, r2, e2, _⟩ := tb2.sl (i := 0) (by rw [List.length_map]; omega)
    refine ⟨_, ?_, upd_same _ _ _ (by omega) (get_lt g1' (by simp)), ?_, ⟨c1, _, e1⟩, ⟨c2, _, e2⟩, ⟨tb1'.fr, r01_tab b2 b1⟩, tb2'.fr, r01_tab w2 w1⟩
    · rw [put_gen _ _ _ _ _ _ _ (by omega) g1' (by simp)]; rfl
    · rw [if_neg (by rw [e1]; simp [one, AV.flat, AV.flats])]
  rw [hS] at kk hH0
  clear base low mx my k56
  have hn3 : 1 ≤ n ∧ n ≤ 3 := by omega
  refine Tr.w fun s1 H1 hp _ kR => ?_
  obtain ⟨rfl, rfl⟩ := hp
  have q : True := trivial
  refine W.seq (W.chunk ?_)
  simp (disch := first|omega|exact zE rfl|exact zO|exact zL rfl) [c18_o0, size_mk, get_mk_lt, get_mk_ge, frameOf, Eff.app, Heap.setOwn, q, hS]
  refine W.seq (W.chunk ?_)
  simp (disch := first|omega|exact zE rfl|exact zO|exact zL rfl) [c18_o1, size_mk, get_mk_lt, get_mk_ge, frameOf, Eff.app, Heap.setOwn, q, kk, hS, hH0]
  refine W.assoc ?_
  refine W.seq (W.chunk ?_)
  simp (disch := first|omega|exact zE rfl|exact zO|exact zL rfl) [c18_o2, size_mk, get_mk_lt, get_mk_ge, frameOf, Eff.app, Heap.setOwn, q, hH0]
  refine W.seq (W.block ?_)
  refine W.use (l1) (by simp (disch := first|omega|exact zE rfl|exact zO|exact zL rfl) [size_mk, get_mk_lt, get_mk_ge, frameOf, Eff.app, Heap.setOwn, q]) fun s1 H1 hp => ?_
  obtain ⟨xb, xw, B, Y0, ⟨tt, g, c1, c2⟩, q⟩ := hp
  try simp only [zW, if_true]
  obtain ⟨h2, p1, gU, f1, ⟨d1, m1, rfl⟩, ⟨d2, m2, rfl⟩, f2, f3⟩ := fin _ _ _ _ _ tt g c1 c2
  refine W.seq (W.chunk ?_)
  simp (disch := first|omega|exact zE rfl|exact zO|exact zL rfl) [c18_o13, zG, q, g, p1]
  refine W.ret ?_
  try simp only [zW, if_true]
  refine kR _ _ ?_
  refine ⟨[.agg [G n, .slice d1 0 m1 m1, .slice d2 0 m2 m2]], by simp [T.get, c18, evRess, evRes, loadA, gU, takeA, q], n, _, _, B, Y0, rfl, hn3, ?_, ?_⟩
  · rw [f1]; exact f2
  · rw [f1]; exact f3
end
def Pre18 (a : ATs) (args : List AV) (h : Heap) : Prop := Ok24 a h ∧ args = [.agg [G a.q, a.x, a.y]]
def Post18 (a : ATs) (h : Heap) (v : AV) (own : List AObj) : Prop := ∃ n x' y' B W, v = .agg [G (n : Nat), x', y'] ∧ (1 ≤ n ∧ n ≤ 3) ∧ (TB h (h.plus own) x' (B.map gs) ∧ tabQ n B = true) ∧ TB h (h.plus own) y' (W.map gs) ∧ tabQ n W = true
noncomputable def T49 : CallF := addK tbl T48 18 Pre18 Post18
theorem t49 : Sound Go.Proofs.Try.prog T49 := Sound.addK follows ok t48 (by decide) _ _
abbrev K18 (J : CallF) : Prop := ∀ (h : Heap) (a : ATs), Ok24 a h → ∃ v own, J 18 [.agg [G a.q, a.x, a.y]] h = some (v, own, false) ∧ Post18 a h v own
theorem k18 : K18 T49 := fun h a o => by
  obtain ⟨v, own, e, l⟩ := addK_some (Pre := Pre18) (Post := Post18) (fun a args h hp => by
    obtain ⟨o, rfl⟩ := hp
    exact c18_ok T48 k19_48 k56 (fun _ _ => by simp (disch := decide) only [T1, T2, T3, T4, T5, T6, T7, T8, T9, T10, T11, T12, T13, T14, T15, T16, T17, T18, T19, T20, T21, T22, T23, T24, T25, T26, T27, T28, T29, T30, T31, T32, T33, T34, T35, T36, T37, T38, T39, T40, T41, T42, T43, T44, T45, T46, T47, T48, addI_ne, addX_ne, addV_ne, addK_ne]; rfl) h o.1 o.2) a _ h ⟨o, rfl⟩
  exact ⟨v, own, e, l⟩
end Go.Proofs.Ytljgfdamdcikgaa.Ev
set_option linter.unusedVariables false
set_option linter.unusedSimpArgs false
namespace Go.Proofs.Ytljgfdamdcikgaa.Ev
open Go Go.AEv
def GR (q m : Nat) : Nat → List (List (List Nat))
  | 0 => [[]]
  | k + 1 => (exL q m []).flatMap fun w => (GR q m k).map (w :: ·)
def chn (B W : List (List Int)) : List Nat → List (List Nat) → Bool
  | _, [] => true
  | w, w' :: g => (blw W w w' && bsd B w') && chn B W w' g
def okb (B W : List (List Int)) : List (List Nat) → Bool
  | [] => true
  | w :: g => bsd B w && chn B W w g
theorem sum_filter {α : Type} (l : List α) (p : α → Bool) (f : α → Nat) : (l.map fun w => if p w then f w else 0).sum = ((l.filter p).map f).sum := by
  induction l with
  | nil => rfl
  | cons a l ih =>
    rw [List.map_cons, List.sum_cons, ih, List.filter_cons]
    cases p a <;> simp
def nG (B W : List (List Int)) (q m k : Nat) (w : List Nat) : Nat := ((GR q m k).filter (chn B W w)).length
theorem flat_len {α β : Type} (l : List α) (f : α → List β) (p : β → Bool) : ((l.flatMap f).filter p).length = (l.map fun a => ((f a).filter p).length).sum := by
  induction l with
  | nil => rfl
  | cons a l ih => rw [List.flatMap_cons, List.filter_append, List.length_append, ih, List.map_cons, List.sum_cons]
theorem cons_len (B W : List (List Int)) (w w' : List Nat) (l : List (List (List Nat))) : ((l.map (w' :: ·)).filter (chn B W w)).length = if (blw W w w' && bsd B w') then (l.filter (chn B W w')).length else 0 := by
  rw [List.filter_map, List.length_map]
  have : (chn B W w ∘ fun x => w' :: x) = fun g => (blw W w w' && bsd B w') && chn B W w' g := rfl
  rw [this]
  cases (blw W w w' && bsd B w')
  · simp
  · simp
theorem nG_succ (B W : List (List Int)) (q m k : Nat) (w : List Nat) : nG B W q m (k + 1) w = (((rwL q B m).filter (blw W w)).map (nG B W q m k)).sum := by
  unfold nG
  show (((exL q m []).flatMap fun w' => (GR q m k).map (w' :: ·)).filter (chn B W w)).length = _
  rw [flat_len]
  simp only [cons_len]
  rw [sum_filter (exL q m []) (fun w' => blw W w w' && bsd B w') (fun w' => ((GR q m k).filter (chn B W w')).length)]
  unfold rwL
  rw [List.filter_filter]
theorem get_map (R : List (List Nat)) : R = (List.range R.length).map fun j => R.getD j [] := by
  apply List.ext_getElem?
  intro i
  by_cases h : i < R.length
  · rw [List.getElem?_map, List.getElem?_range h, List.getElem?_eq_getElem h]
    show some R[i] = some (R.getD i [])
    rw [List.getD_eq_getElem?_getD, List.getElem?_eq_getElem h]; rfl
  · rw [List.getElem?_eq_none (by omega), List.getElem?_eq_none (by simp; omega)]
theorem nx_sum (W : List (List Int)) (R : List (List Nat)) (w : List Nat) (f : List Nat → Nat) : ((R.filter (blw W w)).map f).sum = ((nxL W R w).map fun j => f (R.getD j [])).sum := by
  conv => lhs; rw [get_map R]
  rw [List.filter_map, List.map_map]
  rfl
theorem cnt_nG (B W : List (List Int)) (q m : Nat) : ∀ k i, i < (rwL q B m).length → cnt (stL W (rwL q B m)) k i = nG B W q m k ((rwL q B m).getD i [])
  | 0, i, _ => rfl
  | k + 1, i, hi => by
    rw [nG_succ, nx_sum]
    have e : (stL W (rwL q B m)).getD i [] = nxL W (rwL q B m) ((rwL q B m).getD i []) := by
      unfold stL
      rw [List.getD_eq_getElem?_getD, List.getElem?_map, List.getElem?_eq_getElem hi, List.getD_eq_getElem?_getD, List.getElem?_eq_getElem hi]; rfl
    show (((stL W (rwL q B m)).getD i []).map (cnt (stL W (rwL q B m)) k)).sum = _
    rw [e]
    congr 1
    apply List.map_congr_left
    intro j hj
    exact cnt_nG B W q m k j (nxL_lt hj)
theorem rowC_grid (B W : List (List Int)) (q m k : Nat) : (rowC (stL W (rwL q B m)) k).sum = ((GR q m (k + 1)).filter (okb B W)).length := by
  show _ = (((exL q m []).flatMap fun w' => (GR q m k).map (w' :: ·)).filter (okb B W)).length
  rw [flat_len]
  have e : ∀ w', (((GR q m k).map (w' :: ·)).filter (okb B W)).length = if bsd B w' then nG B W q m k w' else 0 := fun w' => by
    rw [List.filter_map, List.length_map]
    have : (okb B W ∘ fun x => w' :: x) = fun g => bsd B w' && chn B W w' g := rfl
    rw [this]
    unfold nG
    cases bsd B w' <;> simp
  simp only [e]
  rw [sum_filter (exL q m []) (bsd B) (nG B W q m k)]
  show _ = ((rwL q B m).map (nG B W q m k)).sum
  unfold rowC
  have sl : (stL W (rwL q B m)).length = (rwL q B m).length := by simp [stL]
  rw [sl]
  conv => rhs; rw [get_map (rwL q B m)]
  rw [List.map_map]
  congr 1
  apply List.map_congr_left
  intro i hi
  exact cnt_nG B W q m k i (List.mem_range.1 hi)
def ge (g : List (List Nat)) (i j : Nat) : Nat := (g.getD i []).getD j 0
def isG (q m n : Nat) (g : List (List Nat)) : Prop := g.length = n ∧ ∀ i, i < n → (g.getD i []).length = m ∧ ∀ c ∈ g.getD i [], c < q
theorem GR_mem {q m : Nat} : ∀ {n : Nat} {g : List (List Nat)}, g ∈ GR q m n ↔ isG q m n g
  | 0, g => by
    unfold GR isG
    rw [List.mem_singleton]
    exact ⟨fun h => by subst h; exact ⟨rfl, fun i hi => by omega⟩, fun h => List.length_eq_zero_iff.1 h.1⟩
  | n + 1, g => by
    unfold GR
    simp only [List.mem_flatMap, List.mem_map]
    constructor
    · rintro ⟨w, hw, g', hg', rfl⟩
      obtain ⟨u, e, h3, h4⟩ := exL_mem _ _ _ hw
      rw [List.nil_append] at e
      subst e
      obtain ⟨h1, h2⟩ := GR_mem.1 hg'
      refine ⟨by simp [h1], fun i hi => ?_⟩
      cases i with
      | zero => exact ⟨h3, h4⟩
      | succ i => exact h2 i (by omega)
    · rintro ⟨h1, h2⟩
      cases g with
      | nil => simp at h1
      | cons w g' =>
        refine ⟨w, ?_, g', GR_mem.2 ⟨by simpa using h1, fun i hi => h2 (i + 1) (by omega)⟩, rfl⟩
        obtain ⟨h3, h4⟩ := h2 0 (by omega)
        have := exL_of m [] w h3 h4
        rwa [List.nil_append] at this
theorem exL_nodup {q : Nat} : ∀ k s, (exL q k s).Nodup
  | 0, s => by simp [exL]
  | k + 1, s => by
    unfold exL
    rw [List.Nodup, List.pairwise_flatMap]
    refine ⟨fun c _ => exL_nodup k _, ?_⟩
    refine List.Pairwise.imp_of_mem ?_ (List.nodup_range (n := q))
    intro c d _ _ hne x hx y hy e
    subst e
    obtain ⟨u, e1, l1, _⟩ := exL_mem _ _ _ hx
    obtain ⟨v, e2, l2, _⟩ := exL_mem _ _ _ hy
    rw [e1, List.append_assoc, List.append_assoc] at e2
    have := List.append_cancel_left e2
    simp only [List.cons_append, List.nil_append, List.cons.injEq] at this
    exact hne this.1
theorem GR_nodup {q m : Nat} : ∀ n, (GR q m n).Nodup
  | 0 => by simp [GR]
  | n + 1 => by
    unfold GR
    rw [List.Nodup, List.pairwise_flatMap]
    refine ⟨fun w _ => ?_, ?_⟩
    · rw [List.pairwise_map]
      exact List.Pairwise.imp (fun h e => h (List.cons.inj e).2) (GR_nodup n)
    · refine List.Pairwise.imp ?_ (exL_nodup m [])
      intro w w' hne x hx y hy e
      obtain ⟨g, _, rfl⟩ := List.mem_map.1 hx
      obtain ⟨g', _, rfl⟩ := List.mem_map.1 hy
      exact hne (List.cons.inj e).1
theorem nd_len {α : Type} [DecidableEq α] : ∀ {l1 l2 : List α}, l1.Nodup → (∀ x ∈ l1, x ∈ l2) → l1.length ≤ l2.length
  | [], l2, _, _ => Nat.zero_le _
  | a :: l, l2, h, hs => by
    have h' := List.nodup_cons.1 h
    have ha := hs a (by simp)
    have := nd_len (l1 := l) (l2 := l2.erase a) h'.2 (fun x hx => (List.mem_erase_of_ne (fun e => h'.1 (by rw [← e]; exact hx))).2 (hs x (List.mem_cons_of_mem _ hx)))
    rw [List.length_erase_of_mem ha] at this
    have := List.length_pos_of_mem ha
    simp only [List.length_cons]
    omega
def trG (m n : Nat) (g : List (List Nat)) : List (List Nat) := (List.range m).map fun j => (List.range n).map fun i => ge g i j
theorem trG_ge {m n : Nat} (g : List (List Nat)) {i j : Nat} (hi : i < n) (hj : j < m) : ge (trG m n g) j i = ge g i j := by
  unfold trG ge
  rw [List.getD_eq_getElem?_getD (l := (List.range m).map _), List.getElem?_map, List.getElem?_range hj]
  simp only [Option.map_some, Option.getD_some]
  rw [List.getD_eq_getElem?_getD, List.getElem?_map, List.getElem?_range hi]; rfl
theorem trG_row {m n : Nat} (g : List (List Nat)) {j : Nat} (hj : j < m) : (trG m n g).getD j [] = (List.range n).map fun i => ge g i j := by
  unfold trG
  rw [List.getD_eq_getElem?_getD, List.getElem?_map, List.getElem?_range hj]; rfl
theorem ge_lt {q m n : Nat} {g : List (List Nat)} (h : isG q m n g) {i j : Nat} (hi : i < n) (hj : j < m) : ge g i j < q := by
  obtain ⟨h1, h2⟩ := h.2 i hi
  unfold ge
  rw [List.getD_eq_getElem?_getD (l := g.getD i []), List.getElem?_eq_getElem (by omega)]
  exact h2 _ (List.getElem_mem _)
theorem trG_is {q m n : Nat} {g : List (List Nat)} (h : isG q m n g) : isG q n m (trG m n g) := by
  refine ⟨by simp [trG], fun j hj => ?_⟩
  rw [trG_row g hj]
  refine ⟨by simp, fun c hc => ?_⟩
  obtain ⟨i, hi, rfl⟩ := List.mem_map.1 hc
  exact ge_lt h (List.mem_range.1 hi) hj
theorem isG_ext {q m n : Nat} {g g' : List (List Nat)} (h : isG q m n g) (h' : isG q m n g') (e : ∀ i, i < n → ∀ j, j < m → ge g i j = ge g' i j) : g = g' := by
  apply List.ext_getElem?
  intro i
  by_cases hi : i < n
  · have l1 := h.1
    have l2 := h'.1
    rw [List.getElem?_eq_getElem (by omega), List.getElem?_eq_getElem (by omega)]
    congr 1
    have a1 := (h.2 i hi).1
    have a2 := (h'.2 i hi).1
    have g1 : g.getD i [] = g[i]'(by omega) := by rw [List.getD_eq_getElem?_getD, List.getElem?_eq_getElem (by omega)]; rfl
    have g2 : g'.getD i [] = g'[i]'(by omega) := by rw [List.getD_eq_getElem?_getD, List.getElem?_eq_getElem (by omega)]; rfl
    rw [← g1, ← g2]
    apply List.ext_getElem?
    intro j
    by_cases hj : j < m
    · have := e i hi j hj
      unfold ge at this
      rw [List.getD_eq_getElem?_getD (l := g.getD i []), List.getD_eq_getElem?_getD (l := g'.getD i []), List.getElem?_eq_getElem (by omega), List.getElem?_eq_getElem (by omega)] at this
      rw [List.getElem?_eq_getElem (by omega), List.getElem?_eq_getElem (by omega)]
      exact congrArg some this
    · rw [List.getElem?_eq_none (by omega), List.getElem?_eq_none (by omega)]
  · rw [List.getElem?_eq_none (by have := h.1; omega), List.getElem?_eq_none (by have := h'.1; omega)]
theorem trG_tr {q m n : Nat} {g : List (List Nat)} (h : isG q m n g) : trG n m (trG m n g) = g :=
  isG_ext (trG_is (trG_is h)) h fun i hi j hj => by rw [trG_ge _ hj hi, trG_ge _ hi hj]
def okG (B W : List (List Int)) (m n : Nat) (g : List (List Nat)) : Prop := (∀ i, i < n → ∀ j, j + 1 < m → ent B (ge g i j) (ge g i (j + 1)) ≠ 0) ∧ ∀ i, i + 1 < n → ∀ j, j < m → ent W (ge g i j) (ge g (i + 1) j) ≠ 0
theorem okG_tr {B W : List (List Int)} {m n : Nat} {g : List (List Nat)} (h : okG B W m n g) : okG W B n m (trG m n g) :=
  ⟨fun j hj i hi => by rw [trG_ge _ (by omega) hj, trG_ge _ hi hj]; exact h.2 i hi j hj, fun j hj i hi => by rw [trG_ge _ hi (by omega), trG_ge _ hi hj]; exact h.1 i hi j hj⟩
theorem bsd_iff {B : List (List Int)} {w : List Nat} : bsd B w = true ↔ ∀ j, j + 1 < w.length → ent B (w.getD j 0) (w.getD (j + 1) 0) ≠ 0 := by
  unfold bsd
  rw [af_iff]
  unfold bs
  constructor
  · intro h j hj
    have := h j (Nat.zero_le _) (by omega)
    rwa [decide_eq_true_eq] at this
  · intro h j _ hj
    rw [decide_eq_true_eq]
    exact h j (by omega)
theorem blw_iff {W : List (List Int)} {s t : List Nat} : blw W s t = true ↔ ∀ j, j < s.length → ent W (s.getD j 0) (t.getD j 0) ≠ 0 := by
  unfold blw
  rw [af_iff]
  unfold bl
  constructor
  · intro h j hj
    have := h j (Nat.zero_le _) (by omega)
    rwa [decide_eq_true_eq] at this
  · intro h j _ hj
    rw [decide_eq_true_eq]
    exact h j (by omega)
theorem chn_iff {B W : List (List Int)} : ∀ {w : List Nat} {g : List (List Nat)}, chn B W w g = true ↔ (∀ i, i < g.length → bsd B (g.getD i []) = true) ∧ ∀ i, i < g.length → blw W ((w :: g).getD i []) (g.getD i []) = true
  | w, [] => ⟨fun _ => ⟨fun i hi => by simp at hi, fun i hi => by simp at hi⟩, fun _ => rfl⟩
  | w, w' :: g => by
    unfold chn
    rw [Bool.and_eq_true, Bool.and_eq_true, chn_iff]
    constructor
    · rintro ⟨⟨h1, h2⟩, h3, h4⟩
      refine ⟨fun i hi => ?_, fun i hi => ?_⟩
      · cases i with
        | zero => exact h2
        | succ i => exact h3 i (by simpa using hi)
      · cases i with
        | zero => exact h1
        | succ i => exact h4 i (by simpa using hi)
    · rintro ⟨h1, h2⟩
      exact ⟨⟨h2 0 (by simp), h1 0 (by simp)⟩, fun i hi => h1 (i + 1) (by simpa using hi), fun i hi => h2 (i + 1) (by simpa using hi)⟩
theorem okb_iff {B W : List (List Int)} {q m n : Nat} {g : List (List Nat)} (h : isG q m n g) : okb B W g = true ↔ okG B W m n g := by
  have key : okb B W g = true ↔ (∀ i, i < n → bsd B (g.getD i []) = true) ∧ ∀ i, i + 1 < n → blw W (g.getD i []) (g.getD (i + 1) []) = true := by
    have hl := h.1
    cases g with
    | nil =>
      simp at hl
      subst hl
      exact ⟨fun _ => ⟨fun i hi => by omega, fun i hi => by omega⟩, fun _ => rfl⟩
    | cons w g =>
      unfold okb
      rw [Bool.and_eq_true, chn_iff]
      simp only [List.length_cons] at hl
      constructor
      · rintro ⟨h1, h2, h3⟩
        refine ⟨fun i hi => ?_, fun i hi => ?_⟩
        · cases i with
          | zero => exact h1
          | succ i => exact h2 i (by omega)
        · exact h3 i (by omega)
      · rintro ⟨h1, h2⟩
        exact ⟨h1 0 (by omega), fun i hi => h1 (i + 1) (by omega), fun i hi => h2 i (by omega)⟩
  rw [key]
  unfold okG
  constructor
  · rintro ⟨h1, h2⟩
    refine ⟨fun i hi j hj => ?_, fun i hi j hj => ?_⟩
    · exact bsd_iff.1 (h1 i hi) j (by rw [(h.2 i hi).1]; exact hj)
    · exact blw_iff.1 (h2 i hi) j (by rw [(h.2 i (by omega)).1]; exact hj)
  · rintro ⟨h1, h2⟩
    refine ⟨fun i hi => bsd_iff.2 fun j hj => ?_, fun i hi => blw_iff.2 fun j hj => ?_⟩
    · rw [(h.2 i hi).1] at hj
      exact h1 i hi j hj
    · rw [(h.2 i (by omega)).1] at hj
      exact h2 i hi j hj
theorem turn_le (B W : List (List Int)) (q m n : Nat) : ((GR q m n).filter (okb B W)).length ≤ ((GR q n m).filter (okb W B)).length := by
  rw [← List.length_map (f := trG m n)]
  apply nd_len
  · rw [List.Nodup, List.pairwise_map]
    refine List.Pairwise.imp_of_mem ?_ ((GR_nodup n).filter _)
    intro g g' hg hg' hne e
    have i1 := GR_mem.1 (List.mem_filter.1 hg).1
    have i2 := GR_mem.1 (List.mem_filter.1 hg').1
    exact hne (by rw [← trG_tr i1, ← trG_tr i2, e])
  · intro x hx
    obtain ⟨g, hg, rfl⟩ := List.mem_map.1 hx
    obtain ⟨h1, h2⟩ := List.mem_filter.1 hg
    have ig := GR_mem.1 h1
    exact List.mem_filter.2 ⟨GR_mem.2 (trG_is ig), (okb_iff (trG_is ig)).2 (okG_tr ((okb_iff ig).1 h2))⟩
theorem turn_eq (B W : List (List Int)) (q m n : Nat) : (rowC (stL W (rwL q B (m + 1))) n).sum = (rowC (stL B (rwL q W (n + 1))) m).sum := by
  rw [rowC_grid, rowC_grid]
  exact Nat.le_antisymm (turn_le B W q (m + 1) (n + 1)) (turn_le W B q (n + 1) (m + 1))
theorem GR_len (q m : Nat) : ∀ n, (GR q m n).length = (q ^ m) ^ n
  | 0 => rfl
  | n + 1 => by
    have e : ∀ w, ((GR q m n).map fun x => w :: x).length = (q ^ m) ^ n := fun w => by rw [List.length_map, GR_len]
    unfold GR
    rw [List.length_flatMap]
    simp only [e]
    rw [List.map_const', List.sum_replicate_nat, exL_len, Nat.pow_succ, Nat.mul_comm]
theorem rowC_small {B W : List (List Int)} {q m k : Nat} (hq : q ≤ 3) (hm : m ≤ 5) (hk : k < 5) : (rowC (stL W (rwL q B m)) k).sum ≤ 1152921504606846976 := by
  rw [rowC_grid]
  refine Nat.le_trans (List.length_filter_le _ _) ?_
  rw [GR_len]
  have a : q ^ m ≤ 243 := Nat.le_trans (Nat.pow_le_pow_left hq m) (Nat.le_trans (Nat.pow_le_pow_right (by decide) hm) (by decide))
  exact Nat.le_trans (Nat.pow_le_pow_left a (k + 1)) (Nat.le_trans (Nat.pow_le_pow_right (by decide) (show k + 1 ≤ 5 by omega)) (by decide))
end Go.Proofs.Ytljgfdamdcikgaa.Ev
set_option linter.unusedVariables false
set_option linter.unusedSimpArgs false
namespace Go.Proofs.Ytljgfdamdcikgaa.Ev
open Go Go.AEv
attribute [local simp] evFunc initS evOps_c evTrim_c evSkip_c evExit_c evRet_c evSeq_c evCond_c evBlock_c evDraw_c runOps_n runOps_c exec_n exec_g pure1_c act AOpd.ev T.get T.set T.put evBin evUn forceT_eq forceV_eq forceL_eq evRess evRes one keep runFP_n runFP_c app_none AV.flats AV.flat came_some List.getElem?_cons_zero List.getElem?_cons_succ beqT wrapI idxI tdivI tmodI decT decF ibT ibF inT inF evScope_c if_pos if_neg Cm_some thenW_n thenW_e thenW_r blkW_n blkW_e blkW_r goI kn putAt AV.cells fillA loadA takeA mk Eff.isAll Eff.isNone Eff.commutes Eff.spares okPair apart eqAgg fits LK.fits allEq aveq eqk mmA
theorem TB.mr {H0 h : Heap} {x : AV} {M : List (List Int)} (t : TB H0 h x (M.map gs)) : MR h x M := by
  obtain ⟨rs, lv, hl, hr⟩ := t.r
  rw [List.length_map] at hl
  rcases lv with ⟨rfl, rfl⟩ | ⟨b, rfl, g, n⟩
  · exact .inl ⟨.inl rfl, List.length_eq_zero_iff.1 hl.symm⟩
  · refine .inr ⟨b, rs.length, rs, by rw [hl], g, hl, fun i r e => ?_⟩
    obtain ⟨cs, b', h1, h2, h3, _⟩ := hr i r e
    rw [List.getElem?_map] at h1
    cases hN : M[i]? with
    | none => rw [hN] at h1; cases h1
    | some l =>
      rw [hN] at h1
      simp only [Option.map_some, Option.some.injEq] at h1
      subst h1
      exact ⟨l, rfl, .inl (by rw [h2]; exact listOf_cells h3 (by simp))⟩
theorem tabQ_small {n : Nat} {B : List (List Int)} (h : tabQ n B = true) (h3 : n ≤ 3) : smallM B ∧ B.length ≤ 1000000 ∧ ∀ l ∈ B, l.length ≤ 1000000 := by
  have hr : ∀ l ∈ B, l.length = n := fun l hl => by
    unfold tabQ at h
    rw [Bool.and_eq_true] at h
    have := (List.all_eq_true.1 h.2) l hl
    unfold rowQ at this
    rw [Bool.and_eq_true, decide_eq_true_iff] at this
    omega
  have hl := (tabQ_row h).1
  refine ⟨⟨by omega, fun i => ?_⟩, by omega, fun l hl => by rw [hr l hl]; omega⟩
  rw [List.getD_eq_getElem?_getD]
  cases hi : B[i]? with
  | none => simp
  | some l =>
    obtain ⟨h1, h2⟩ := List.getElem?_eq_some_iff.1 hi
    have := hr l (h2 ▸ List.getElem_mem _)
    simp only [Option.getD_some]; omega
def AR.of (n : Nat) (x y : AV) (B W : List (List Int)) : AR := ⟨n, x, y, B, W⟩
theorem ru_of {n : Nat} {x y : AV} {B W : List (List Int)} (hn : 1 ≤ n ∧ n ≤ 3) (hB : tabQ n B = true) (hW : tabQ n W = true) : (AR.of n x y B W).ru = true := by
  unfold AR.ru AR.of ruQ
  simp only [hB, hW, Bool.and_true, decide_eq_true_eq]
  omega
theorem gd_of {n : Nat} {x y : AV} {B W : List (List Int)} (hn : 1 ≤ n ∧ n ≤ 3) (hB : tabQ n B = true) (hW : tabQ n W = true) {m k lo : Int} (h1 : 1 ≤ m ∧ m ≤ 5) (h2 : lo ≤ k ∧ k ≤ 40) : (AR.of n x y B W).gd m k lo = true := by
  unfold AR.gd AR.rm
  rw [ru_of hn hB hW, decide_eq_true h1, decide_eq_true h2]; rfl
theorem cn_of {n : Nat} {x y : AV} {B W : List (List Int)} (hn : 1 ≤ n ∧ n ≤ 3) (hB : tabQ n B = true) (hW : tabQ n W = true) {M N : Nat} (hM : M + 1 ≤ 5) (hN : N + 1 ≤ 5) : (AR.of n x y B W).cntV (M + 1 : Nat) (N + 1 : Nat) = .tup [G (rowC (stL W (rwL n B (M + 1))) N).sum, G 0] := by
  have g : (AR.of n x y B W).gd (M + 1 : Nat) (N + 1 : Nat) 0 = true := gd_of hn hB hW (by omega) (by omega)
  have s : (AR.of n x y B W).steps (M + 1 : Nat) = stL W (rwL n B (M + 1)) := by
    unfold AR.steps AR.rows AR.of
    rfl
  have okc : okC (stL W (rwL n B (M + 1))) (N + 1) = true := okC_iff.2 fun k hk => rowC_small hn.2 hM (by omega)
  unfold AR.cntV
  rw [if_pos g, s]
  have nt : ((N + 1 : Nat) : Int).toNat = N + 1 := by omega
  rw [nt, okc, if_pos rfl]
  unfold AR.cn
  rw [s, if_neg (by omega), Nat.add_sub_cancel]
structure KnT (J : CallF) : Prop where
  k18 : K18 J
  k19 : K19 J
  k20 : K20 J
  k21 : K21 J
  k22 : ∀ (h : Heap) (x z : AV) (A B : List (List Int)), LT h x A → LT h z B → A.length ≤ 1000000 → B.length ≤ 1000000 → (∀ l ∈ A, l.length ≤ 1000000) → J 22 [x, z] h = some (.bool (decide (A = B)), [], false)
  k23 : ∀ h, J 23 [] h = some (.bool true, [], false)
section
variable {nq m nn : Int} {X Y : List (List Int)}
theorem c3_ok (J : CallF) (K : KnT J) (hJ : ∀ a h, J 3 a h = none) (h : Heap) {x y : AV} (mx : MR h x X) (my : MR h y Y) : CallsTo tbl J 3 [.agg [G nq, x, y], G m, G nn] h (.bool true, [], false) := by
  refine Tr.fnv (cf := c3) (e := .ret) (s := T.set (T.set (T.set .leaf [] (.agg [G nq, x, y])) [false] (G m)) [true] (G nn)) (by decide) rfl (hJ _ _) rfl rfl rfl (by simp) ?_
  refine Tr.post (Q := (fun s h => s.get [true, true] = .bool true)) (fun s h q => by simp [c3, q]) ?_
  have mx0 : MR (frameOf h) x X := mx.lo []
  have my0 : MR (frameOf h) y Y := my.lo []
  generalize frameOf h = H0 at *
  obtain ⟨Ha, ha⟩ : ∃ H, H0.plus [.cells 0 3 [G nq, x, y]] = H := ⟨_, rfl⟩
  have ka : Kp (fun _ => False) H0 Ha := by rw [← ha]; exact Kp.plus _ _
  have gS : Ha.get H0.size = .cells 0 3 [G nq, x, y] := by rw [← ha]; exact plus_at0 _ _ _ _ rfl
  obtain ⟨v, own1, e18, n, x1, y1, B, Wt, rfl, hn, ⟨t1, hB⟩, t2, hW⟩ := K.k18 Ha ⟨nq, x, y, X, Y⟩ ⟨mx0.kp ka, my0.kp ka⟩
  simp only at e18
  obtain ⟨Hb, hb⟩ : ∃ H, Ha.plus own1 = H := ⟨_, rfl⟩
  rw [hb] at t1 t2
  obtain ⟨Hc, hc⟩ : ∃ H, Hb.plus [.cells 0 3 [G n, x1, y1]] = H := ⟨_, rfl⟩
  have kc : Kp (fun _ => False) Hb Hc := by rw [← hc]; exact Kp.plus _ _
  have gc : Hc.get Hb.size = .cells 0 3 [G n, x1, y1] := by rw [← hc]; exact plus_at0 _ _ _ _ rfl
  have u1 := t1.kp kc
  have u2 := t2.kp kc
  obtain ⟨sB, sB1, sB2⟩ := tabQ_small hB hn.2
  obtain ⟨sW, sW1, sW2⟩ := tabQ_small hW hn.2
  have oa : OkR (AR.of n x1 y1 B Wt) Hc := ⟨u1.mr, u2.mr, sB, sW⟩
  have ra := ru_of (x := x1) (y := y1) hn hB hW
  obtain ⟨v2, own2, e20, p20⟩ := K.k20 Hc (AR.of n x1 y1 B Wt) oa
  obtain ⟨x4, y4, rfl, t4, u4⟩ := p20.2 ra
  obtain ⟨Hd, hd⟩ : ∃ H, Hc.plus own2 = H := ⟨_, rfl⟩
  have kd : Kp (fun _ => False) Hc Hd := by rw [← hd]; exact Kp.plus _ _
  rw [hd] at t4 u4
  obtain ⟨He, he⟩ : ∃ H, Hd.plus [.cells 0 3 [G n, x4, y4]] = H := ⟨_, rfl⟩
  have ke : Kp (fun _ => False) Hd He := by rw [← he]; exact Kp.plus _ _
  have ge' : He.get Hd.size = .cells 0 3 [G n, x4, y4] := by rw [← he]; exact plus_at0 _ _ _ _ rfl
  have ot : OkR (AR.of n x4 y4 Wt B) He := ⟨TB.mr (M := Wt) (t4.kp ke), TB.mr (M := B) (u4.kp ke), sW, sB⟩
  have rt := ru_of (x := x4) (y := y4) hn hW hB
  obtain ⟨v3, own3, e20b, p20b⟩ := K.k20 He (AR.of n x4 y4 Wt B) ot
  obtain ⟨x5, y5, rfl, t5, u5⟩ := p20b.2 rt
  obtain ⟨Hf, hf⟩ : ∃ H, He.plus own3 = H := ⟨_, rfl⟩
  have kf : Kp (fun _ => False) He Hf := by rw [← hf]; exact Kp.plus _ _
  rw [hf] at t5 u5
  obtain ⟨Hg, hg⟩ : ∃ H, Hf.plus [.cells 0 3 [G n, x5, y5]] = H := ⟨_, rfl⟩
  have kg : Kp (fun _ => False) Hf Hg := by rw [← hg]; exact Kp.plus _ _
  have gg : Hg.get Hf.size = .cells 0 3 [G n, x5, y5] := by rw [← hg]; exact plus_at0 _ _ _ _ rfl
  have keg : Kp (fun _ => False) He Hg := kf.trans kg
  have kcg : Kp (fun _ => False) Hc Hg := (kd.trans ke).trans keg
  have gcg := kcg.at gc (by simp) id
  have geg := keg.at ge' (by simp) id
  have m1 := mdZ_bd m (n := 5) (by omega)
  have m2 := mdZ_bd nn (n := 5) (by omega)
  have e19a := K.k19 m 5 Hc (by omega) (by omega)
  have e19b := K.k19 nn 5 Hc (by omega) (by omega)
  generalize mdZ m 5 = zm at *
  generalize mdZ nn 5 = zn at *
  obtain ⟨M, hM⟩ : ∃ M : Nat, zm = M := ⟨zm.toNat, by omega⟩
  obtain ⟨N, hN⟩ : ∃ N : Nat, zn = N := ⟨zn.toNat, by omega⟩
  subst hM hN
  have e21a := K.k21 Hg (AR.of n x1 y1 B Wt) (M + 1 : Nat) (N + 1 : Nat) (oa.kp kcg)
  have e21b := K.k21 Hg (AR.of n x4 y4 Wt B) (N + 1 : Nat) (M + 1 : Nat) (ot.kp keg)
  rw [cn_of hn hB hW (by omega) (by omega)] at e21a
  rw [cn_of hn hW hB (by omega) (by omega), ← turn_eq B Wt n M N] at e21b
  have l1 : LT Hg x1 B := (u1.lt).kp kcg
  have l2 : LT Hg y1 Wt := (u2.lt).kp kcg
  have l5 : LT Hg x5 B := (TB.lt (N := B) t5).kp kg
  have l6 : LT Hg y5 Wt := (TB.lt (N := Wt) u5).kp kg
  have e22a := K.k22 Hg x5 x1 B B l5 l1 sB1 sB1 sB2
  have e22b := K.k22 Hg y5 y1 Wt Wt l6 l2 sW1 sW1 sW2
  rw [decide_eq_true rfl] at e22a e22b
  have k23 := K.k23
  have va : (AR.of n x1 y1 B Wt).v = .agg [G n, x1, y1] := rfl
  have vt : (AR.of n x4 y4 Wt B).v = .agg [G n, x4, y4] := rfl
  have qa : (AR.of n x1 y1 B Wt).q = n := rfl
  have qt : (AR.of n x4 y4 Wt B).q = n := rfl
  rw [va] at e20 e21a
  rw [vt] at e20b e21b
  rw [qa] at e20
  rw [qt] at e20b
  have a1 : ((M + 1 : Nat) : Int) = 1 + (M : Int) := by omega
  have a2 : ((N + 1 : Nat) : Int) = 1 + (N : Int) := by omega
  rw [a1, a2] at e21a e21b
  generalize (rowC (stL Wt (rwL n B (M + 1))) N).sum = cc at *
  clear K mx my mx0 my0 t1 t2 u1 u2 t4 u4 t5 u5 oa ot ra rt p20 p20b l1 l2 l5 l6 ka kc kd ke kf kg keg kcg va vt qa qt a1 a2 sB sB1 sB2 sW sW1 sW2
  refine Tr.w fun s1 H1 hp _ kR => ?_
  obtain ⟨rfl, rfl⟩ := hp
  have q : True := trivial
  refine W.seq (W.chunk ?_)
  simp (disch := first|omega|exact zE rfl|exact zO|exact zL rfl) [c3_o0, zG, q, ha]
  refine W.seq (W.chunk ?_)
  simp (disch := first|omega|exact zE rfl|exact zO|exact zL rfl) [c3_o1, zG, q, gS, e18, app_if, app_if', hb, hc]
  refine W.seq (W.chunk ?_)
  simp (disch := first|omega|exact zE rfl|exact zO|exact zL rfl) [c3_o2, zG, q, e19a, e19b]
  refine W.seq (W.chunk ?_)
  simp (disch := first|omega|exact zE rfl|exact zO|exact zL rfl) [c3_o3, zG, q, gc, e20, app_if, app_if', hd, he]
  refine W.seq (W.chunk ?_)
  simp (disch := first|omega|exact zE rfl|exact zO|exact zL rfl) [c3_o4, zG, q, ge', e20b, app_if, app_if', hf, hg]
  refine W.seq (W.chunk ?_)
  simp (disch := first|omega|exact zE rfl|exact zO|exact zL rfl) [c3_o5, zG, q, gcg, e21a]
  refine W.seq (W.chunk ?_)
  simp (disch := first|omega|exact zE rfl|exact zO|exact zL rfl) [c3_o6, zG, q, geg, e21b]
  refine W.seq (W.chunk ?_)
  simp (disch := first|omega|exact zE rfl|exact zO|exact zL rfl) [c3_o7, zG, q, gg, gcg, e22a, e22b, k23]
  refine W.ret ?_
  try simp only [zW, if_true]
  exact kR _ _ (by simp [T.get])
end
theorem kT49 : KnT T49 where
  k18 := fun h a o => k18 h a o
  k19 := fun x n h h1 h2 => by
    rw [show T49 19 [G x, G n] h = T48 19 [G x, G n] h from by simp (disch := decide) only [T49, addI_ne, addX_ne, addV_ne, addK_ne]]; exact k19_48 x n h h1 h2
  k20 := fun h a o => by
    obtain ⟨v, own, e, l⟩ := k20 h a o
    exact ⟨v, own, by rw [show T49 20 [a.v] h = T23 20 [a.v] h from by simp (disch := decide) only [T24, T25, T26, T27, T28, T29, T30, T31, T32, T33, T34, T35, T36, T37, T38, T39, T40, T41, T42, T43, T44, T45, T46, T47, T48, T49, addI_ne, addX_ne, addV_ne, addK_ne]]; exact e, l⟩
  k21 := fun h a m n o => by
    rw [show T49 21 [a.v, G m, G n] h = T39 21 [a.v, G m, G n] h from by simp (disch := decide) only [T40, T41, T42, T43, T44, T45, T46, T47, T48, T49, addI_ne, addX_ne, addV_ne, addK_ne]]; exact k21 h a m n o
  k22 := fun h x z A B h1 h2 h3 h4 h5 => by
    rw [show T49 22 [x, z] h = T28 22 [x, z] h from by simp (disch := decide) only [T29, T30, T31, T32, T33, T34, T35, T36, T37, T38, T39, T40, T41, T42, T43, T44, T45, T46, T47, T48, T49, addI_ne, addX_ne, addV_ne, addK_ne]]; exact k22 h ⟨A, B, x, z⟩ ⟨h1, h2, h3, h4, h5⟩
  k23 := fun h => by
    rw [show T49 23 [] h = T2 23 [] h from by simp (disch := decide) only [T3, T4, T5, T6, T7, T8, T9, T10, T11, T12, T13, T14, T15, T16, T17, T18, T19, T20, T21, T22, T23, T24, T25, T26, T27, T28, T29, T30, T31, T32, T33, T34, T35, T36, T37, T38, T39, T40, T41, T42, T43, T44, T45, T46, T47, T48, T49, addI_ne, addX_ne, addV_ne, addK_ne]]; exact k23 h
theorem stripTurned_ok (h : Heap) (m n : Int) {nq : Int} {x y : AV} {B W : List (List Int)} (mx : MR h x B) (my : MR h y W) : CallsTo tbl T49 3 [.agg [G nq, x, y], G m, G n] h (.bool true, [], false) := c3_ok T49 kT49 (fun _ _ => by simp (disch := decide) only [T1, T2, T3, T4, T5, T6, T7, T8, T9, T10, T11, T12, T13, T14, T15, T16, T17, T18, T19, T20, T21, T22, T23, T24, T25, T26, T27, T28, T29, T30, T31, T32, T33, T34, T35, T36, T37, T38, T39, T40, T41, T42, T43, T44, T45, T46, T47, T48, T49, addI_ne, addX_ne, addV_ne, addK_ne]; rfl) h mx my
end Go.Proofs.Ytljgfdamdcikgaa.Ev
set_option linter.unusedVariables false
set_option linter.unusedSimpArgs false
namespace Go.AEv
open Go.ChangeShapes Go.WideShapes Go.Proofs.Ytljgfdamdcikgaa.Ev
theorem MR.ext {h h' : Heap} (e : Ext h h') {y : AV} {M : List (List Int)} (m : MR h y M) : MR h' y M := by
  rcases m with m | ⟨b, v, cs, rfl, g, hl, hr⟩
  · exact .inl m
  · refine .inr ⟨b, v, cs, rfl, e _ _ g (by simp), hl, fun i r q => ?_⟩
    obtain ⟨l, h1, h2⟩ := hr i r q
    exact ⟨l, h1, LR.ext e h2⟩
theorem rows_lo {CK : CKT} {w : World} {H : Type} {enc : TypeId × Value → H} {P : Program} {e i : TypeId} (he : P.underlying e = some (.slice i)) (hi : P.underlying i = some (.int .i64)) (hc : P.cellsOf i = 1) :
    ∀ (vs : List Value) {φ : Nat → Emb} {h : Heap} (ho : h.own = []) (hr : HR CK w [] φ h w), (∀ u ∈ vs, ∃ fuel z, DataW.trod enc P w 0 (fun _ => true) true fuel e [u] = some z) →
    ∃ φ' h', ∃ (rs : List AV) (ls : List (List Int)), h'.own = [] ∧ HR CK w [] φ' h' w ∧ Stp φ h φ' h' ∧ Ext h h' ∧ rs.length = vs.length ∧ ls.length = vs.length ∧ ∀ (j : Nat) u r, vs[j]? = some u → rs[j]? = some r → VR φ' h' r u ∧ Value.oneCell' u = true ∧ ∃ l, ls[j]? = some l ∧ LR h' r l
  | [], φ, h, ho, hr, _ => ⟨φ, h, [], [], ho, hr, Stp.refl φ h, Ext.refl h, rfl, rfl, fun j u r q => by simp at q⟩
  | u :: us, φ, h, ho, hr, ht => by
    obtain ⟨fuel, z, hf⟩ := ht u (by simp)
    obtain ⟨φ1, h1, x, l, o1, r1, s1, e1, v1, p1, c1⟩ := ints_lo0 ho hr he hi hc hf
    obtain ⟨φ2, h2, rs, ls, o2, r2, s2, e2, l1, l2, q⟩ := rows_lo he hi hc us o1 r1 (fun u' hu => ht u' (by simp [hu]))
    refine ⟨φ2, h2, x :: rs, l :: ls, o2, r2, s1.trans s2, e1.trans e2, by simp [l1], by simp [l2], fun j u' r hu hr' => ?_⟩
    cases j with
    | zero =>
      simp only [List.getElem?_cons_zero, Option.some.injEq] at hu hr'
      subst hu hr'
      exact ⟨VR.step s2 _ _ v1, c1, l, rfl, p1.ext e2⟩
    | succ j =>
      simp only [List.getElem?_cons_succ] at hu hr' ⊢
      exact q j u' r hu hr'
theorem mat_lo0 {CK : CKT} {φ : Nat → Emb} {h : Heap} {w : World} (ho : h.own = []) (hr : HR CK w [] φ h w) {H : Type} {enc : TypeId × Value → H} {P : Program} {t e i : TypeId} {v : Value} {fuel : Nat} {z : DataW H × List MemPlace}
    (ht : P.underlying t = some (.slice e)) (he : P.underlying e = some (.slice i)) (hi : P.underlying i = some (.int .i64)) (hce : P.cellsOf e = 1) (hci : P.cellsOf i = 1) (hf : DataW.trod enc P w 0 (fun _ => true) true fuel t [v] = some z) :
    ∃ φ' h' x M, h'.own = [] ∧ HR CK w [] φ' h' w ∧ Stp φ h φ' h' ∧ Ext h h' ∧ VR φ' h' x v ∧ MR h' x M ∧ Value.oneCell' v = true := by
  rcases DataW.trod_slice ht hf with ⟨hcs, _⟩ | ⟨a, len, cap, elems, rest, n, _, hcs, _, _, hl, hm, hlen, hel, hsp, _⟩
  · have hcs' : v = .slice none 0 0 := (List.cons.inj hcs).1
    rw [hcs']
    exact ⟨φ, h, .nils, [], ho, hr, Stp.refl φ h, Ext.refl h, by simp [VR], .inl ⟨.inl rfl, rfl⟩, rfl⟩
  · have hcs' : v = .slice (some a) len cap := (List.cons.inj hcs).1
    rw [hcs']
    by_cases h0 : len = 0
    · subst h0
      exact ⟨φ, h, .slice0, [], ho, hr, Stp.refl φ h, Ext.refl h, by simp [VR], .inl ⟨.inr rfl, rfl⟩, rfl⟩
    · obtain ⟨hrl, hre⟩ := hsp rfl
      have each : ∀ j, j < cap → ∃ u, w.cell? (a.add j) = some u ∧ ∃ z, DataW.trod enc P w 0 (fun _ => true) true n e [u] = some z := fun j hj => by
        have hb' : ∃ y, (w.cells? 0 (a.add (j * P.cellsOf e)) (P.cellsOf e)).bind (DataW.trod enc P w 0 (fun _ => true) true n e) = some y := by
          by_cases hjl : j < len
          · rw [hel j hjl, List.getElem?_eq_getElem (by omega)]; exact ⟨_, rfl⟩
          · have := hre (j - len) (by omega)
            rw [show len + (j - len) = j by omega] at this
            rw [this, List.getElem?_eq_getElem (by omega)]; exact ⟨_, rfl⟩
        obtain ⟨y, hy⟩ := hb'
        rw [hce, Nat.mul_one, Option.bind_eq_some_iff] at hy
        obtain ⟨cs', h1, h2⟩ := hy
        have hl1 := (World.cells?_some h1).2.1
        obtain ⟨u, rfl⟩ : ∃ u, cs' = [u] := by
          cases cs' with
          | nil => simp at hl1
          | cons u r => cases r with
            | nil => exact ⟨u, rfl⟩
            | cons u' r => simp at hl1
        exact ⟨u, cell_of_cells?_one h1, y, h2⟩
      obtain ⟨f, hfe⟩ : ∃ f : Nat → Value, ∀ j, j < cap → w.cell? (a.add j) = some (f j) ∧ ∃ z, DataW.trod enc P w 0 (fun _ => true) true n e [f j] = some z :=
        ⟨fun j => if hj : j < cap then Classical.choose (each j hj) else .nilFunc, fun j hj => by
          simp only [dif_pos hj]
          exact Classical.choose_spec (each j hj)⟩
      obtain ⟨b, off, spot⟩ := a
      have hspot : spot = none := by simpa [Addr.add] using World.cell?_spot (hfe 0 (by omega)).1
      subst hspot
      have hcell : ∀ j, j < cap → w.cell? ⟨b, off + j, none⟩ = some (f j) := fun j hj => by rw [← Go.WideShapes.add_plain]; exact (hfe j hj).1
      obtain ⟨c, ty, fr, hb, hc0⟩ := cell_obj (hcell 0 (by omega))
      have hcj : ∀ j, j < cap → c[off + j]? = some (f j) := fun j hj => by
        obtain ⟨c', ty', fr', hb', hcj⟩ := cell_obj (hcell j hj)
        rw [hb] at hb'
        simp only [Option.some.injEq, Obj.cells.injEq] at hb'
        obtain ⟨rfl, _⟩ := hb'
        exact hcj
      have hsize : off + cap ≤ c.size := by
        have := (Array.getElem?_eq_some_iff.1 (hcj (cap - 1) (by omega))).1
        omega
      obtain ⟨φ1, h1, rs, ls, o1, r1, s1, e1, l1, l2, q⟩ := rows_lo he hi hci ((List.range len).map f) ho hr (fun u hu => by
        obtain ⟨j, hj, rfl⟩ := List.mem_map.1 hu
        obtain ⟨z, hz⟩ := (hfe j (by have := List.mem_range.1 hj; omega)).2
        exact ⟨n, z, hz⟩)
      simp only [List.length_map, List.length_range] at l1 l2
      have hat : ∀ j, j < len → ((List.range len).map f)[j]? = some (f j) := fun j hj => by simp [hj]
      refine ⟨AEv.upd φ1 h1.N ⟨b, off, cap⟩, h1.more (.cells 1 len rs), .slice h1.N 0 len len, ls, rfl, lo_add o1 r1 _ _ ?_, s1.trans (lo_stp o1 _ _), e1.trans (more_ext h1 o1 _), ?_, .inr ⟨h1.N, len, rs, by rw [l2], more_at _ _, by omega, fun j r hr' => ?_⟩, rfl⟩
      · refine ⟨c, ty, fr, hb, hsize, by show rs.length ≤ cap; omega, fun j x hx => ?_⟩
        have hj : j < len := by have := (List.getElem?_eq_some_iff.1 hx).1; omega
        obtain ⟨q1, q2, _⟩ := q j (f j) x (hat j hj) hx
        exact ⟨f j, hcj j (by omega), VR.step (lo_stp o1 _ _) _ _ q1, q2⟩
      · simp only [VR]
        exact ⟨_, cap, 1, len, _, rfl, hl, more_at _ _, Nat.le_refl _, fun _ => ⟨by simp [AEv.upd], fun _ _ => by simp [AEv.upd]⟩⟩
      · have hj : j < len := by have := (List.getElem?_eq_some_iff.1 hr').1; omega
        obtain ⟨_, _, l, q3, q4⟩ := q j (f j) r (hat j hj) hr'
        exact ⟨l, q3, q4.ext (more_ext h1 o1 _)⟩
structure RuleKey (P : Program) (k i t : TypeId) (f g l : Field) : Prop where
  hu : P.underlying k = some (.struct #[f, g, l])
  size : P.cellsOf k = 3
  ci : P.cellsOf i = 1
  ct : P.cellsOf t = 1
  f1 : f.type = i
  f2 : g.type = t
  f3 : l.type = t
  o1 : f.offset = 0
  o2 : g.offset = 1
  o3 : l.offset = 2
theorem okWide_rule {P : Program} {W : World} {k i t : TypeId} {f g l : Field} (A : RuleKey P k i t f g l) {r : Reach} {b0 : Nat} {v : Value} (h : Value.okWide P W r b0 k v) : ∃ c0 c1 c2, v = .agg #[c0, c1, c2] := by
  simp only [Value.okWide, A.hu] at h
  obtain ⟨cs, h1, h2, _⟩ := h
  rw [A.size] at h2
  obtain ⟨l⟩ := cs
  match l, h2 with
  | [c0, c1, c2], _ => exact ⟨c0, c1, c2, h1⟩
theorem rule_lo {CK : CKT} {φ : Nat → Emb} {h : Heap} {w : World} (ho : h.own = []) (hr : HR CK w [] φ h w) {H : Type} {enc : TypeId × Value → H} {P : Program} {k i t e : TypeId} {f g l : Field} {v : Value} {d : DataW H} {p : List MemPlace} (A : RuleKey P k i t f g l)
    (ht : P.underlying t = some (.slice e)) (he : P.underlying e = some (.slice i)) (hi : P.underlying i = some (.int .i64)) (hce : P.cellsOf e = 1) {r : Reach} {b0 : Nat} (hval : Value.okWide P w r b0 k v) (kd : DataW.Trod enc P w 0 (fun _ => true) true k v d p) :
    ∃ φ' h' q x y B W, h'.own = [] ∧ HR CK w [] φ' h' w ∧ Stp φ h φ' h' ∧ Ext h h' ∧ VR φ' h' (.agg [.int .i64 q, x, y]) v ∧ MR h' x B ∧ MR h' y W := by
  obtain ⟨c0, c1, c2, rfl⟩ := okWide_rule A hval
  obtain ⟨fuel, hf⟩ := kd
  cases fuel with
  | zero => simp [DataW.trod] at hf
  | succ n =>
    rw [DataW.trod_step] at hf
    unfold DataW.trodStep at hf
    simp only [A.hu, Value.cells] at hf
    rw [if_pos (by rw [A.size]; rfl)] at hf
    simp only [Option.map_eq_some_iff] at hf
    obtain ⟨xs, hx, e1⟩ := hf
    rw [List.mapM_cons, List.mapM_cons, List.mapM_cons, List.mapM_nil] at hx
    simp only [bind, Option.bind_eq_some_iff, pure, Option.some.injEq, A.ci, A.ct, A.f1, A.f2, A.f3, A.o1, A.o2, A.o3] at hx
    obtain ⟨y0, h0, _, ⟨y1, h1, _, ⟨y2, h2, _, rfl, rfl⟩, rfl⟩, rfl⟩ := hx
    have h0' : DataW.trod enc P w 0 (fun _ => true) true n i [c0] = some y0 := h0
    have h1' : DataW.trod enc P w 0 (fun _ => true) true n t [c1] = some y1 := h1
    have h2' : DataW.trod enc P w 0 (fun _ => true) true n t [c2] = some y2 := h2
    obtain ⟨a, ea, _, _⟩ := DataW.trod_int hi h0'
    obtain rfl : c0 = .int .i64 a := by simpa using ea
    obtain ⟨φ1, m1, x, B, o1, r1, s1, x1, v1, p1, q1⟩ := mat_lo0 ho hr ht he hi hce A.ci h1'
    obtain ⟨φ2, m2, y, W, o2, r2, s2, x2, v2, p2, q2⟩ := mat_lo0 o1 r1 ht he hi hce A.ci h2'
    refine ⟨φ2, m2, a, x, y, B, W, o2, r2, s1.trans s2, x1.trans x2, ?_, Go.AEv.MR.ext x2 p1, p2⟩
    simp only [VR, VRs]
    refine ⟨#[.int .i64 a, c1, c2], rfl, ⟨_, [c1, c2], rfl, rfl, c1, [c2], rfl, VR.step s2 _ _ v1, c2, [], rfl, v2, rfl⟩, fun z hz => ?_⟩
    simp only [List.mem_cons, List.not_mem_nil, or_false] at hz
    rcases hz with rfl | rfl | rfl
    · rfl
    · exact q1
    · exact q2
end Go.AEv
