/-
  tables: are two lists of lists equal? No condition.
-/
import Derived.Test.YtjeemgaoonapgaaRPoly4
set_option linter.unusedVariables false
set_option linter.unusedSimpArgs false
namespace Go.Proofs.Ytjeemgaoonapgaa.Ev
open Go Go.AEv

attribute [local simp] evFunc initS evOps_c evTrim_c evSkip_c evExit_c evRet_c evSeq_c evCond_c evBlock_c evDraw_c runOps_n runOps_c exec_n exec_g pure1_c act AOpd.ev T.get T.set T.put evBin evUn forceT_eq forceV_eq forceL_eq evRess evRes one keep runFP_n runFP_c app_none AV.flats AV.flat came_some List.getElem?_cons_zero List.getElem?_cons_succ beqT wrapI idxI tdivI tmodI decT decF ibT ibF inT inF evScope_c if_pos if_neg Cm_some thenW_n thenW_e thenW_r blkW_n blkW_e blkW_r goI kn putAt AV.cells fillA loadA takeA mk Eff.isAll Eff.isNone Eff.commutes Eff.spares okPair apart eqAgg fits LK.fits allEq aveq eqk mmA

/-- A list of lists, each of them nil or all of a block. -/
def LT (h : Heap) (x : AV) (A : List (List Int)) : Prop := ∃ rs, ((x = .nils ∧ rs = []) ∨ ∃ b, x = .slice b 0 rs.length rs.length ∧ h.get b = .cells 1 rs.length rs) ∧ rs.length = A.length ∧ ∀ (i : Nat) r, rs[i]? = some r → ∃ l, A[i]? = some l ∧ listOf h r = some l
theorem TB.lt {H0 H : Heap} {x : AV} {N : List (List Int)} (t : TB H0 H x (N.map gs)) : LT H x N := by
  obtain ⟨rs, lv, hl, hr⟩ := t.r
  refine ⟨rs, ?_, by simpa using hl, fun i r hi => ?_⟩
  · rcases lv with l | ⟨b, e, g, _⟩
    · exact .inl l
    · exact .inr ⟨b, e, g⟩
  · obtain ⟨cs, b, h1, h2, h3, _⟩ := hr i r hi
    rw [List.getElem?_map] at h1
    cases hN : N[i]? with
    | none => rw [hN] at h1; cases h1
    | some l =>
      rw [hN] at h1
      simp only [Option.map_some, Option.some.injEq] at h1
      subst h1
      exact ⟨l, rfl, by rw [h2]; exact listOf_cells h3 (by simp)⟩
theorem TG.lt {H0 H : Heap} {x : AV} {N : List (List Int)} (t : TG H0 H x N) : LT H x N := by
  obtain ⟨rs, lv, hl, hr⟩ := t.r
  refine ⟨rs, ?_, hl, fun i r hi => ?_⟩
  · rcases lv with l | ⟨b, e, g, _⟩
    · exact .inl l
    · exact .inr ⟨b, e, g⟩
  · obtain ⟨l, h1, h2, _⟩ := hr i r hi
    exact ⟨l, h1, h2⟩
theorem LT.kp {h h' : Heap} {x : AV} {A : List (List Int)} (t : LT h x A) (k : Kp (fun _ => False) h h') : LT h' x A := by
  obtain ⟨rs, lv, hl, hr⟩ := t
  refine ⟨rs, ?_, hl, fun i r hi => ?_⟩
  · rcases lv with l | ⟨b, e, g⟩
    · exact .inl l
    · exact .inr ⟨b, e, k.at g (by simp) id⟩
  · obtain ⟨l, h1, h2⟩ := hr i r hi
    exact ⟨l, h1, listOf_kp k h2 (fun _ _ => id)⟩
theorem LT.lo {h : Heap} {x : AV} {A : List (List Int)} (t : LT h x A) (own : List AObj) : LT ⟨h.get, h.size, own⟩ x A := by
  obtain ⟨rs, lv, hl, hr⟩ := t
  refine ⟨rs, ?_, hl, fun i r hi => ?_⟩
  · rcases lv with l | ⟨b, e, g⟩
    · exact .inl l
    · exact .inr ⟨b, e, by rw [get_mk_lt _ _ _ _ (get_lt g (by simp))]; exact g⟩
  · obtain ⟨l, h1, h2⟩ := hr i r hi
    exact ⟨l, h1, listOf_at h2 own⟩
section
variable {A B : List (List Int)}
theorem c47_loop (J : CallF) (k24 : K24 J) {H : Heap} {bx bz : Nat} {rx rz : List AV} {n : Nat} (gx : H.get bx = .cells 1 n rx) (gz : H.get bz = .cells 1 n rz) (lx : rx.length = n) (lz : rz.length = n) (hn : n ≤ 1000000) (hA : A.length = n) (hB : B.length = n) (hs : ∀ l ∈ A, l.length ≤ 1000000)
    (hx : ∀ (i : Nat) r, rx[i]? = some r → ∃ l, A[i]? = some l ∧ listOf H r = some l) (hz : ∀ (i : Nat) r, rz[i]? = some r → ∃ l, B[i]? = some l ∧ listOf H r = some l) : ∀ d i, i + d = n →
    (A.drop i = B.drop i → Tr tbl J c47_l0 (fun s h => h = H ∧ s.get [] = .slice bx 0 n n ∧ s.get [false] = .slice bz 0 n n ∧ s.get [false, true] = G i) (.exit 0) (fun _ _ => True)) ∧
    (A.drop i ≠ B.drop i → Tr tbl J c47_l0 (fun s h => h = H ∧ s.get [] = .slice bx 0 n n ∧ s.get [false] = .slice bz 0 n n ∧ s.get [false, true] = G i) .ret (fun s h => s.get [true, false] = .bool false)) := by
  intro d
  induction d with
  | zero =>
    intro i hi
    obtain rfl : i = n := by omega
    refine ⟨fun _ => Tr.out ?_ (by simp), fun c => absurd (by rw [List.drop_of_length_le (by omega), List.drop_of_length_le (by omega)]) c⟩
    refine Tr.w fun s1 H1 hp R kR => W.trim ?_
    obtain ⟨rfl, q⟩ := hp
    refine W.assoc ?_
    refine W.seq (W.chunk ?_)
    simp (disch := first | omega | exact getEq rfl | exact getO0 | exact Nat.le_of_ble_eq_true rfl) [c47_o4, app_growP, app_noneP, plus_N, plus_at0, put_plus0, put_plus1, upd_N, upd_size, q]
    refine W.seq (W.chunk ?_)
    simp (disch := first | omega | exact getEq rfl | exact getO0 | exact Nat.le_of_ble_eq_true rfl) [app_growP, app_noneP, plus_N, plus_at0, put_plus0, put_plus1, upd_N, upd_size, q]
    exact kR _ _ trivial
  | succ d ih =>
    intro i hi
    obtain ⟨ih1, ih2⟩ := ih (i + 1) (by omega)
    have e1 : rx[i]? = some rx[i] := List.getElem?_eq_getElem (by omega)
    have e2 : rz[i]? = some rz[i] := List.getElem?_eq_getElem (by omega)
    obtain ⟨la, a1, a2⟩ := hx i _ e1
    obtain ⟨lb, b1, b2⟩ := hz i _ e2
    have k := k24 H _ _ la lb a2 b2 (hs la (List.mem_of_getElem? a1))
    have da : A.drop i = la :: A.drop (i + 1) := by rw [List.drop_eq_getElem_cons (by omega)]; congr 1; rw [List.getElem?_eq_getElem (by omega)] at a1; exact Option.some.inj a1
    have db : B.drop i = lb :: B.drop (i + 1) := by rw [List.drop_eq_getElem_cons (by omega)]; congr 1; rw [List.getElem?_eq_getElem (by omega)] at b1; exact Option.some.inj b1
    rw [da, db]
    generalize rx[i] = ra at *
    generalize rz[i] = rb at *
    have e1' := getI e1
    have e2' := getI e2
    clear hx hz ih
    by_cases c : la = lb
    · rw [decide_eq_true c] at k
      have step : Tr tbl J (.trim [[], [false], [false, true]] c47_b0) (fun s h => h = H ∧ s.get [] = .slice bx 0 n n ∧ s.get [false] = .slice bz 0 n n ∧ s.get [false, true] = G i) .normal (fun s h => h = H ∧ s.get [] = .slice bx 0 n n ∧ s.get [false] = .slice bz 0 n n ∧ s.get [false, true] = G ((i + 1 : Nat) : Int)) := by
        refine Tr.w fun s1 H1 hp R kR => W.trim ?_
        obtain ⟨rfl, q⟩ := hp
        refine W.assoc ?_
        refine W.seq (W.chunk ?_)
        simp (disch := first | omega | exact getEq rfl | exact getO0 | exact Nat.le_of_ble_eq_true rfl) [c47_o4, app_growP, app_noneP, plus_N, plus_at0, put_plus0, put_plus1, upd_N, upd_size, q]
        refine W.seq (W.chunk ?_)
        simp (disch := first | omega | exact getEq rfl | exact getO0 | exact Nat.le_of_ble_eq_true rfl) [app_growP, app_noneP, plus_N, plus_at0, put_plus0, put_plus1, upd_N, upd_size, q]
        refine W.seq (W.block ?_)
        refine W.seq (W.chunk ?_)
        simp (disch := first | omega | exact getEq rfl | exact getO0 | exact Nat.le_of_ble_eq_true rfl) [c47_o5, app_growP, app_noneP, plus_N, plus_at0, put_plus0, put_plus1, upd_N, upd_size, q, gx, gz, e1, e1', e2, e2', k, -evDraw_c, evDraw_0]
        refine W.chunk ?_
        simp (disch := first | omega | exact getEq rfl | exact getO0 | exact Nat.le_of_ble_eq_true rfl) [c47_o6, app_growP, app_noneP, plus_N, plus_at0, put_plus0, put_plus1, upd_N, upd_size, q]
        refine W.chunk ?_
        simp (disch := first | omega | exact getEq rfl | exact getO0 | exact Nat.le_of_ble_eq_true rfl) [c47_o7, app_growP, app_noneP, plus_N, plus_at0, put_plus0, put_plus1, upd_N, upd_size, q]
        exact kR _ _ (by simp [T.get, q])
      subst c
      exact ⟨fun q => Tr.next step (ih1 (List.cons.inj q).2), fun q => Tr.next step (ih2 fun r => q (by rw [r]))⟩
    · rw [decide_eq_false c] at k
      refine ⟨fun q => absurd (List.cons.inj q).1 c, fun _ => Tr.out ?_ (by simp)⟩
      refine Tr.w fun s1 H1 hp R kR => W.trim ?_
      obtain ⟨rfl, q⟩ := hp
      refine W.assoc ?_
      refine W.seq (W.chunk ?_)
      simp (disch := first | omega | exact getEq rfl | exact getO0 | exact Nat.le_of_ble_eq_true rfl) [c47_o4, app_growP, app_noneP, plus_N, plus_at0, put_plus0, put_plus1, upd_N, upd_size, q]
      refine W.seq (W.chunk ?_)
      simp (disch := first | omega | exact getEq rfl | exact getO0 | exact Nat.le_of_ble_eq_true rfl) [app_growP, app_noneP, plus_N, plus_at0, put_plus0, put_plus1, upd_N, upd_size, q]
      refine W.seq (W.block ?_)
      refine W.seq (W.chunk ?_)
      simp (disch := first | omega | exact getEq rfl | exact getO0 | exact Nat.le_of_ble_eq_true rfl) [c47_o5, app_growP, app_noneP, plus_N, plus_at0, put_plus0, put_plus1, upd_N, upd_size, q, gx, gz, e1, e1', e2, e2', k, -evDraw_c, evDraw_0]
      refine W.chunk ?_
      simp (disch := first | omega | exact getEq rfl | exact getO0 | exact Nat.le_of_ble_eq_true rfl) [c47_o6, app_growP, app_noneP, plus_N, plus_at0, put_plus0, put_plus1, upd_N, upd_size, q]
      exact kR _ _ (by simp [T.get, q])
theorem c47_l00 (J : CallF) {H : Heap} {y z : AV} (hy : y = .nils ∨ ∃ b, y = .slice b 0 0 0) : Tr tbl J c47_l0 (fun s h => h = H ∧ s.get [] = y ∧ s.get [false] = z ∧ s.get [false, true] = G 0) (.exit 0) (fun _ _ => True) := by
  refine Tr.out ?_ (by simp)
  rcases hy with rfl | ⟨b, rfl⟩
  all_goals
    refine Tr.w fun s1 H1 hp R kR => W.trim ?_
    obtain ⟨rfl, q⟩ := hp
    refine W.assoc ?_
    refine W.seq (W.chunk ?_)
    simp (disch := first | omega | exact getEq rfl | exact getO0 | exact Nat.le_of_ble_eq_true rfl) [c47_o4, app_growP, app_noneP, plus_N, plus_at0, put_plus0, put_plus1, upd_N, upd_size, q]
    refine W.seq (W.chunk ?_)
    simp (disch := first | omega | exact getEq rfl | exact getO0 | exact Nat.le_of_ble_eq_true rfl) [app_growP, app_noneP, plus_N, plus_at0, put_plus0, put_plus1, upd_N, upd_size, q]
    exact kR _ _ trivial
theorem c47_ok (J : CallF) (k24 : K24 J) (hJ : ∀ a h, J 47 a h = none) (h : Heap) {x z : AV} (hx : LT h x A) (hz : LT h z B) (hA : A.length ≤ 1000000) (hB : B.length ≤ 1000000) (hs : ∀ l ∈ A, l.length ≤ 1000000) : CallsTo tbl J 47 [x, z] h (.bool (decide (A = B)), [], false) := by
  refine Tr.fnv (cf := c47) (e := .ret) (s := T.set (T.set .leaf [] x) [false] z) (by decide) rfl (hJ _ _) rfl rfl rfl (by simp) ?_
  obtain ⟨rx, vx, lx, hxr⟩ := hx.lo []
  obtain ⟨rz, vz, lz, hzr⟩ := hz.lo []
  have fe : (⟨h.get, h.size, []⟩ : Heap) = frameOf h := rfl
  rw [fe] at vx vz hxr hzr
  refine Tr.w fun s1 H1 hp R kR => ?_
  obtain ⟨rfl, rfl⟩ := hp
  have q : True := trivial
  have fin : ∀ b : Bool, decide (A = B) = b → ∀ s h', s.get [true, false] = .bool b → R .ret s h' := fun b e s h' a => kR _ _ ⟨[.bool b], by simp [c47, evRess, evRes, a], by rw [e]; rfl⟩
  clear kR
  rw [lx] at vx
  rw [lz] at vz
  by_cases hl : A.length = B.length
  · by_cases h0 : A.length = 0
    · have hA0 : A = [] := List.length_eq_zero_iff.1 h0
      have hB0 : B = [] := List.length_eq_zero_iff.1 (by omega)
      subst hA0 hB0
      have fin := fin true rfl
      have sx : x = .nils ∨ ∃ b, x = .slice b 0 0 0 := by
        rcases vx with ⟨e, _⟩ | ⟨b, e, _⟩
        · exact .inl e
        · exact .inr ⟨b, e⟩
      have sz : z = .nils ∨ ∃ b, z = .slice b 0 0 0 := by
        rcases vz with ⟨e, _⟩ | ⟨b, e, _⟩
        · exact .inl e
        · exact .inr ⟨b, e⟩
      have l0 := c47_l00 (z := z) (H := frameOf h) J sx
      clear vx vz hxr hzr hx hz
      rcases sx with rfl | ⟨b, rfl⟩ <;> rcases sz with rfl | ⟨b', rfl⟩
      all_goals
        refine W.seq (W.chunk ?_)
        simp (disch := first | omega | exact getEq rfl | exact getO0 | exact Nat.le_of_ble_eq_true rfl) [c47_o0, app_growP, app_noneP, plus_N, plus_at0, put_plus0, put_plus1, upd_N, upd_size, q]
        refine W.assoc ?_
        refine W.seq (W.chunk ?_)
        simp (disch := first | omega | exact getEq rfl | exact getO0 | exact Nat.le_of_ble_eq_true rfl) [c47_o1, app_growP, app_noneP, plus_N, plus_at0, put_plus0, put_plus1, upd_N, upd_size, q]
        refine W.seq (W.chunk ?_)
        simp (disch := first | omega | exact getEq rfl | exact getO0 | exact Nat.le_of_ble_eq_true rfl) [c47_o2, app_growP, app_noneP, plus_N, plus_at0, put_plus0, put_plus1, upd_N, upd_size, q]
        refine W.assoc ?_
        refine W.seq (W.chunk ?_)
        simp (disch := first | omega | exact getEq rfl | exact getO0 | exact Nat.le_of_ble_eq_true rfl) [c47_o3, app_growP, app_noneP, plus_N, plus_at0, put_plus0, put_plus1, upd_N, upd_size, q]
        refine W.seq (W.block ?_)
        refine W.use (l0) (by simp (disch := first | omega | exact getEq rfl | exact getO0 | exact Nat.le_of_ble_eq_true rfl) [app_growP, app_noneP, plus_N, plus_at0, put_plus0, put_plus1, upd_N, upd_size, q]) fun s1 H1 hp => ?_
        try simp only [thenW_n, thenW_e, thenW_r, blkW_n, blkW_e, blkW_r, if_true]
        refine W.seq (W.chunk ?_)
        simp (disch := first | omega | exact getEq rfl | exact getO0 | exact Nat.le_of_ble_eq_true rfl) [c47_o8, app_growP, app_noneP, plus_N, plus_at0, put_plus0, put_plus1, upd_N, upd_size, q]
        refine W.ret ?_
        try simp only [thenW_n, thenW_e, thenW_r, blkW_n, blkW_e, blkW_r, if_true]
        exact fin _ _ (by simp [T.get])
    · rcases vx with ⟨rfl, e⟩ | ⟨bx, rfl, gx⟩
      · rw [e] at lx; simp at lx; omega
      rcases vz with ⟨rfl, e⟩ | ⟨bz, rfl, gz⟩
      · rw [e] at lz; simp at lz; omega
      rw [← hl] at lz gz ⊢
      obtain ⟨l1, l2⟩ := c47_loop (A := A) (B := B) J k24 gx gz lx lz hA rfl hl.symm hs hxr hzr A.length 0 (by omega)
      rw [List.drop_zero, List.drop_zero] at l1 l2
      clear hxr hzr hx hz hs
      generalize A.length = n at *
      by_cases c : A = B
      · have l1 := l1 c
        have fin := fin true (decide_eq_true c)
        refine W.seq (W.chunk ?_)
        simp (disch := first | omega | exact getEq rfl | exact getO0 | exact Nat.le_of_ble_eq_true rfl) [c47_o0, app_growP, app_noneP, plus_N, plus_at0, put_plus0, put_plus1, upd_N, upd_size, q]
        refine W.assoc ?_
        refine W.seq (W.chunk ?_)
        simp (disch := first | omega | exact getEq rfl | exact getO0 | exact Nat.le_of_ble_eq_true rfl) [c47_o1, app_growP, app_noneP, plus_N, plus_at0, put_plus0, put_plus1, upd_N, upd_size, q]
        refine W.seq (W.chunk ?_)
        simp (disch := first | omega | exact getEq rfl | exact getO0 | exact Nat.le_of_ble_eq_true rfl) [c47_o2, app_growP, app_noneP, plus_N, plus_at0, put_plus0, put_plus1, upd_N, upd_size, q]
        refine W.assoc ?_
        refine W.seq (W.chunk ?_)
        simp (disch := first | omega | exact getEq rfl | exact getO0 | exact Nat.le_of_ble_eq_true rfl) [c47_o3, app_growP, app_noneP, plus_N, plus_at0, put_plus0, put_plus1, upd_N, upd_size, q]
        refine W.seq (W.block ?_)
        refine W.use (l1) (by simp (disch := first | omega | exact getEq rfl | exact getO0 | exact Nat.le_of_ble_eq_true rfl) [app_growP, app_noneP, plus_N, plus_at0, put_plus0, put_plus1, upd_N, upd_size, q]) fun s1 H1 hp => ?_
        try simp only [thenW_n, thenW_e, thenW_r, blkW_n, blkW_e, blkW_r, if_true]
        refine W.seq (W.chunk ?_)
        simp (disch := first | omega | exact getEq rfl | exact getO0 | exact Nat.le_of_ble_eq_true rfl) [c47_o8, app_growP, app_noneP, plus_N, plus_at0, put_plus0, put_plus1, upd_N, upd_size, q]
        refine W.ret ?_
        try simp only [thenW_n, thenW_e, thenW_r, blkW_n, blkW_e, blkW_r, if_true]
        exact fin _ _ (by simp [T.get])
      · have l2 := l2 c
        have fin := fin false (decide_eq_false c)
        refine W.seq (W.chunk ?_)
        simp (disch := first | omega | exact getEq rfl | exact getO0 | exact Nat.le_of_ble_eq_true rfl) [c47_o0, app_growP, app_noneP, plus_N, plus_at0, put_plus0, put_plus1, upd_N, upd_size, q]
        refine W.assoc ?_
        refine W.seq (W.chunk ?_)
        simp (disch := first | omega | exact getEq rfl | exact getO0 | exact Nat.le_of_ble_eq_true rfl) [c47_o1, app_growP, app_noneP, plus_N, plus_at0, put_plus0, put_plus1, upd_N, upd_size, q]
        refine W.seq (W.chunk ?_)
        simp (disch := first | omega | exact getEq rfl | exact getO0 | exact Nat.le_of_ble_eq_true rfl) [c47_o2, app_growP, app_noneP, plus_N, plus_at0, put_plus0, put_plus1, upd_N, upd_size, q]
        refine W.assoc ?_
        refine W.seq (W.chunk ?_)
        simp (disch := first | omega | exact getEq rfl | exact getO0 | exact Nat.le_of_ble_eq_true rfl) [c47_o3, app_growP, app_noneP, plus_N, plus_at0, put_plus0, put_plus1, upd_N, upd_size, q]
        refine W.seq (W.block ?_)
        refine W.use (l2) (by simp (disch := first | omega | exact getEq rfl | exact getO0 | exact Nat.le_of_ble_eq_true rfl) [app_growP, app_noneP, plus_N, plus_at0, put_plus0, put_plus1, upd_N, upd_size, q]) fun s1 H1 hp => ?_
        try simp only [thenW_n, thenW_e, thenW_r, blkW_n, blkW_e, blkW_r, if_true]
        exact fin _ _ hp
  · have fin := fin false (decide_eq_false fun e => hl (by rw [e]))
    clear hxr hzr hx hz hs
    generalize A.length = n at *
    generalize B.length = m at *
    have sx : (x = .nils ∧ n = 0) ∨ ∃ b, x = .slice b 0 n n := by
      rcases vx with ⟨e, e2⟩ | ⟨b, e, _⟩
      · exact .inl ⟨e, by rw [← lx, e2]; rfl⟩
      · exact .inr ⟨b, e⟩
    have sz : (z = .nils ∧ m = 0) ∨ ∃ b, z = .slice b 0 m m := by
      rcases vz with ⟨e, e2⟩ | ⟨b, e, _⟩
      · exact .inl ⟨e, by rw [← lz, e2]; rfl⟩
      · exact .inr ⟨b, e⟩
    clear vx vz
    rcases sx with ⟨rfl, rfl⟩ | ⟨b, rfl⟩ <;> rcases sz with ⟨rfl, rfl⟩ | ⟨b', rfl⟩
    all_goals try (exfalso; omega)
    all_goals
      refine W.seq (W.chunk ?_)
      simp (disch := first | omega | exact getEq rfl | exact getO0 | exact Nat.le_of_ble_eq_true rfl) [c47_o0, app_growP, app_noneP, plus_N, plus_at0, put_plus0, put_plus1, upd_N, upd_size, q]
      refine W.assoc ?_
      refine W.seq (W.chunk ?_)
      simp (disch := first | omega | exact getEq rfl | exact getO0 | exact Nat.le_of_ble_eq_true rfl) [c47_o1, app_growP, app_noneP, plus_N, plus_at0, put_plus0, put_plus1, upd_N, upd_size, q]
      refine W.seq (W.chunk ?_)
      simp (disch := first | omega | exact getEq rfl | exact getO0 | exact Nat.le_of_ble_eq_true rfl) [c47_o2, app_growP, app_noneP, plus_N, plus_at0, put_plus0, put_plus1, upd_N, upd_size, q]
      exact fin _ _ (by simp [T.get])
end

/-! ### What is known -/
structure A47 where
  A : List (List Int)
  B : List (List Int)
  x : AV
  z : AV
def Ok47 (a : A47) (h : Heap) : Prop := LT h a.x a.A ∧ LT h a.z a.B ∧ a.A.length ≤ 1000000 ∧ a.B.length ≤ 1000000 ∧ ∀ l ∈ a.A, l.length ≤ 1000000
def Pre47 (a : A47) (args : List AV) (h : Heap) : Prop := Ok47 a h ∧ args = [a.x, a.z]
def Post47 (a : A47) (h : Heap) (v : AV) (own : List AObj) : Prop := v = .bool (decide (a.A = a.B)) ∧ own = []
noncomputable def T20 : CallF := addK tbl T19 47 Pre47 Post47
theorem t20 : Sound Go.Proofs.Try.prog T20 := Sound.addK follows ok t19 (by decide) _ _
abbrev K47 (J : CallF) : Prop := ∀ (h : Heap) (a : A47), Ok47 a h → J 47 [a.x, a.z] h = some (.bool (decide (a.A = a.B)), [], false)
theorem k24_19 : K24 T19 := fun h x y a b hx hy hn => by
  simp (disch := decide) only [T19, T18, T17, T16, T15, T14, T13, T12, T11, T10, T9, T8, T7, T6, T5, T4, T3, T2, T1, addI_ne, addX_ne, addV_ne, addK_ne]
  exact k24_r h x y a b hx hy hn
theorem k47 : K47 T20 := fun h a ha => by
  obtain ⟨v, own, e, rfl, rfl⟩ := addK_some (tbl := tbl) (I := T19) (f := 47) (Pre := Pre47) (Post := Post47) (fun a args h hp => by
    obtain ⟨⟨h1, h2, h3, h4, h5⟩, rfl⟩ := hp
    exact ⟨_, _, c47_ok T19 k24_19 (fun _ _ => by simp (disch := decide) only [T19, T18, T17, T16, T15, T14, T13, T12, T11, T10, T9, T8, T7, T6, T5, T4, T3, T2, T1, R21, R20, R19, R18, R17, R16, R15, R14, R13, R12, R11, R10, R9, R8, R7, R6, R5, R4, R3, R2, R1, addI_ne, addX_ne, addV_ne, addK_ne]; rfl) h h1 h2 h3 h4 h5, rfl, rfl⟩) a _ h ⟨ha, rfl⟩
  exact e

end Go.Proofs.Ytjeemgaoonapgaa.Ev
