/-
  What list and course answer: copies of at most 37 numbers. No condition.
-/
import Derived.Test.YtlkgpcfhpeilhaaSCrs
import Derived.Test.YtlkgpcfhpeilhaaSApp
import Derived.Test.YtlkgpcfhpeilhaaEvAny
set_option linter.unusedVariables false
set_option linter.unusedSimpArgs false
namespace Go.Proofs.Ytlkgpcfhpeilhaa.Ev
open Go Go.AEv

attribute [local simp] evFunc initS evOps_c evTrim_c evSkip_c evExit_c evRet_c evSeq_c evCond_c evBlock_c evDraw_c runOps_n runOps_c exec_n exec_g pure1_c act AOpd.ev T.get T.set T.put evBin evUn forceT_eq forceV_eq forceL_eq evRess evRes one keep runFP_n runFP_c app_none AV.flats AV.flat

theorem c64_nil (J : CallF) (hJ : ∀ a h, J 64 a h = none) (h : Heap) {x : AV} (hx : x = .nils ∨ x = .slice0) : CallsTo tbl J 64 [x] h (.nils, [], false) := by
  refine Tr.fnv (cf := c64) (e := .ret) (s := T.set .leaf [] x) (by decide) rfl (hJ _ _) rfl rfl rfl (by simp) ?_
  refine Tr.post (Q := (fun s h => s.get [true] = .nils)) (fun s h q => by simp [c64, q]) ?_
  have t : Tr tbl J ((.seq c64_o0 (.seq c64_o1 (.seq c64_o2 .ret)))) (fun s h' => s = T.set .leaf [] x ∧ h' = frameOf h) .ret (fun s h => s.get [true] = .nils) := Tr.region fun s h hp => by
    obtain ⟨rfl, rfl⟩ := hp
    rcases hx with rfl | rfl <;> simp (disch := first | omega | exact getEq rfl | exact getO0 | exact Nat.le_of_ble_eq_true rfl) [c64_o0, c64_o1, c64_o2, came_some, goI, List.getElem?_cons_zero, List.getElem?_cons_succ, kn, keep, frameOf, size_mk, get_mk_lt, get_mk_ge, Eff.app, Heap.setOwn, putAt, AV.cells, fillA, loadA, takeA, mk, Eff.isAll, Eff.isNone, Eff.commutes, Eff.spares, okPair, apart, eqAgg, fits, LK.fits, allEq, aveq, eqk, mmA, beqT, wrapI, idxI, tdivI, tmodI, decT, decF, ibT, ibF, inT, inF, evScope_c, if_pos, if_neg, slSlA, bounds, elems, rdOf, appA]
  exact t
theorem c64_nil2 (J : CallF) (hJ : ∀ a h, J 64 a h = none) (h : Heap) {b v : Nat} (hb : h.get b = .cells 1 v []) : CallsTo tbl J 64 [.slice b 0 0 v] h (.nils, [], false) := by
  have hlt := get_lt hb (by simp)
  refine Tr.fnv (cf := c64) (e := .ret) (s := T.set .leaf [] (.slice b 0 0 v)) (by decide) rfl (hJ _ _) rfl rfl rfl (by simp) ?_
  refine Tr.post (Q := (fun s h => s.get [true] = .nils)) (fun s h q => by simp [c64, q]) ?_
  have t : Tr tbl J ((.seq c64_o0 (.seq c64_o1 (.seq c64_o2 .ret)))) (fun s h' => s = T.set .leaf [] (.slice b 0 0 v) ∧ h' = frameOf h) .ret (fun s h => s.get [true] = .nils) := Tr.region fun s h hp => by
    obtain ⟨rfl, rfl⟩ := hp
    simp (disch := first | omega | exact getEq rfl | exact getO0 | exact Nat.le_of_ble_eq_true rfl) [c64_o0, c64_o1, c64_o2, frameOf, came_some, goI, List.getElem?_cons_zero, List.getElem?_cons_succ, kn, keep, frameOf, size_mk, get_mk_lt, get_mk_ge, Eff.app, Heap.setOwn, putAt, AV.cells, fillA, loadA, takeA, mk, Eff.isAll, Eff.isNone, Eff.commutes, Eff.spares, okPair, apart, eqAgg, fits, LK.fits, allEq, aveq, eqk, mmA, beqT, wrapI, idxI, tdivI, tmodI, decT, decF, ibT, ibF, inT, inF, evScope_c, if_pos, if_neg, slSlA, bounds, elems, rdOf, appA, hb]
  exact t
theorem c64_ok (J : CallF) (hJ : ∀ a h, J 64 a h = none) (h : Heap) {b v : Nat} {A : List Int} (hb : h.get b = .cells 1 v (gs A)) (hA : A ≠ []) :
    CallsTo tbl J 64 [.slice b 0 A.length v] h (.slice h.size 0 (A.take 37).length (A.take 37).length, [.cells 1 (A.take 37).length (gs (A.take 37))], false) := by
  have hlt := get_lt hb (by simp)
  have hl : (A.take 37).length = min 37 A.length := List.length_take
  have hp : 0 < A.length := List.length_pos_iff.2 hA
  obtain ⟨m, hm⟩ : ∃ m, (A.take 37).length = m := ⟨_, rfl⟩
  rw [hm] at hl ⊢
  have e1 : (gs A).take m = gs (A.take 37) := by
    rw [← List.map_take]
    congr 1
    by_cases hA : A.length ≤ 37
    · rw [List.take_of_length_le (by omega), List.take_of_length_le hA]
    · rw [show m = 37 by omega]
  have e2 : (gs (A.take 37)).length = m := by simp; omega
  obtain ⟨L, hL⟩ : ∃ L, A.length = L := ⟨_, rfl⟩
  rw [hL] at hl hp ⊢
  have e3 : (if (37 : Int) < (L : Int) then (37 : Int) else (L : Int)) = m := by split <;> omega
  have e4 : ¬ (0 = L ∧ 0 < L) := by omega
  generalize gs (A.take 37) = cs at *
  generalize gs A = ca at *
  refine Tr.fnh (cf := c64) (e := .ret) (s := T.set .leaf [] (.slice b 0 L v)) (by decide) rfl (hJ _ _) rfl rfl rfl (by simp) ?_
  refine Tr.post (Q := (fun s h' => s.get [true] = .slice h.size 0 m m ∧ h' = ⟨h.get, h.size, [.cells 1 m cs]⟩)) (fun s h' q => by
    obtain ⟨q1, rfl⟩ := q
    simp [c64, q1]) ?_
  have t : Tr tbl J ((.seq c64_o0 (.seq c64_o1 (.seq c64_o2 .ret)))) (fun s h' => s = T.set .leaf [] (.slice b 0 L v) ∧ h' = frameOf h) .ret (fun s h' => s.get [true] = .slice h.size 0 m m ∧ h' = ⟨h.get, h.size, [.cells 1 m cs]⟩) := Tr.region fun s h hp => by
    obtain ⟨rfl, rfl⟩ := hp
    simp (disch := first | omega | exact getEq rfl | exact getO0 | exact Nat.le_of_ble_eq_true rfl) [c64_o0, c64_o1, c64_o2, frameOf, came_some, goI, List.getElem?_cons_zero, List.getElem?_cons_succ, kn, keep, frameOf, size_mk, get_mk_lt, get_mk_ge, Eff.app, Heap.setOwn, putAt, AV.cells, fillA, loadA, takeA, mk, Eff.isAll, Eff.isNone, Eff.commutes, Eff.spares, okPair, apart, eqAgg, fits, LK.fits, allEq, aveq, eqk, mmA, beqT, wrapI, idxI, tdivI, tmodI, decT, decF, ibT, ibF, inT, inF, evScope_c, if_pos, if_neg, slSlA, bounds, elems, rdOf, appA, hb, e1, e2, e3, e4]
  exact t

def spec64 : SpecF := fun args h => match args with
  | [.nils] => some (.nils, [], false)
  | [.slice0] => some (.nils, [], false)
  | [.slice b o len v] => match listOf h (.slice b o len v) with
    | some A => if A = [] then some (.nils, [], false) else some (.slice h.size 0 (A.take 37).length (A.take 37).length, [.cells 1 (A.take 37).length (gs (A.take 37))], false)
    | none => none
  | _ => none
theorem spec64_ok (J : CallF) (hJ : ∀ a h, J 64 a h = none) (args : List AV) (h : Heap) (x : AV × List AObj × Bool) (e : spec64 args h = some x) : CallsTo tbl J 64 args h x := by
  unfold spec64 at e
  split at e
  · simp only [Option.some.injEq] at e; subst e; exact c64_nil J hJ h (.inl rfl)
  · simp only [Option.some.injEq] at e; subst e; exact c64_nil J hJ h (.inr rfl)
  · split at e
    · rename_i hl
      split at e
      · rename_i hA
        subst hA
        simp only [Option.some.injEq] at e; subst e
        rcases listOf_some hl with ⟨h1, _⟩ | ⟨b', v', h1, g⟩
        · cases h1
        · cases h1; exact c64_nil2 J hJ h g
      · rename_i hA
        simp only [Option.some.injEq] at e; subst e
        rcases listOf_some hl with ⟨h1, _⟩ | ⟨b', v', h1, g⟩
        · cases h1
        · cases h1; exact c64_ok J hJ h g hA
    · cases e
  · cases e
/-- What list makes of a list: its value and its block. -/
def cpV (S : Nat) (A : List Int) : AV := if A = [] then .nils else .slice S 0 (A.take 37).length (A.take 37).length
def cpO (A : List Int) : List AObj := if A = [] then [] else [.cells 1 (A.take 37).length (gs (A.take 37))]
theorem s64 {h : Heap} {x : AV} {A : List Int} (hx : LR h x A) : spec64 [x] h = some (cpV h.size A, cpO A, false) := by
  rcases hx.cases with ⟨rfl, rfl⟩ | ⟨rfl, rfl⟩ | ⟨b, v, rfl, g⟩
  · rfl
  · rfl
  · have hl : listOf h (.slice b 0 A.length v) = some A := listOf_cells g rfl
    unfold cpV cpO
    by_cases hA : A = []
    · subst hA
      have hl' : listOf h (.slice b 0 0 v) = some [] := hl
      simp only [List.length_nil, spec64, hl', if_true]
    · simp only [spec64, hl, if_neg hA]

theorem cp_list (h : Heap) (A : List Int) : listOf (h.plus (cpO A)) (cpV h.size A) = some (A.take 37) := by
  unfold cpO cpV
  by_cases hA : A = []
  · subst hA; rfl
  · rw [if_neg hA, if_neg hA]; exact listOf_cells (plus_at0 _ _ _ _ rfl) rfl
theorem cp_cases (S : Nat) (A : List Int) : (A = [] ∧ cpV S A = .nils ∧ cpO A = []) ∨ (∃ m X, cpV S A = .slice S 0 m m ∧ cpO A = [X]) := by
  unfold cpV cpO
  by_cases hA : A = []
  · exact .inl ⟨hA, by rw [if_pos hA], by rw [if_pos hA]⟩
  · exact .inr ⟨_, _, by rw [if_neg hA], by rw [if_neg hA]⟩
theorem plus_nil (h : Heap) : h.plus [] = h := by simp [Heap.plus]
abbrev K64 (J : CallF) : Prop := ∀ (h : Heap) (x : AV) (A : List Int), LR h x A → J 64 [x] h = some (cpV h.size A, cpO A, false)
def Got38 (h : Heap) (v : AV) (own : List AObj) (A R : List Int) : Prop := ∃ xa xr, v = .agg [xa, xr] ∧ listOf (h.plus own) xa = some (A.take 37) ∧ listOf (h.plus own) xr = some (R.take 37) ∧ (A ≠ [] → own ≠ [])

theorem c38_ok (J : CallF) (k64 : K64 J) (hJ : ∀ a h, J 38 a h = none) (h : Heap) {x y : AV} {A R : List Int} (hx : LR h x A) (hy : LR h y R) : ∃ v own, CallsTo tbl J 38 [.agg [x, y]] h (v, own, false) ∧ Got38 h v own A R := by
  obtain ⟨H1, s1⟩ : ∃ H, (⟨h.get, h.size, [.cells 0 2 [x, y], .cells 0 2 [.nils, .nils]]⟩ : Heap) = H := ⟨_, rfl⟩
  have f0 : H1.get h.size = .cells 0 2 [x, y] := by rw [← s1, get_mk_ge _ _ _ _ (by omega), Nat.sub_self]; rfl
  have f1 : H1.get (h.size + 1) = .cells 0 2 [.nils, .nils] := by rw [← s1, get_mk_ge _ _ _ _ (by omega), Nat.add_sub_cancel_left]; rfl
  have n1 : H1.N = h.size := by rw [← s1]
  have z1 : H1.size = h.size + 2 := by rw [← s1]; rfl
  have k1 := k64 H1 x A (by rw [← s1]; exact hx.lo _)
  have ly : LR H1 y R := by rw [← s1]; exact hy.lo _
  have k2 := k64 (H1.plus (cpO A)) y R (LR.kp (Kp.plus _ _) ly)
  obtain ⟨H3, s3⟩ : ∃ H, ((H1.plus (cpO A)).plus (cpO R)) = H := ⟨_, rfl⟩
  have f13 : H3.get (h.size + 1) = .cells 0 2 [.nils, .nils] := by rw [← s3]; exact plus_keep _ (plus_keep _ f1 (by simp)) (by simp)
  have n3 : H3.N = h.size := by rw [← s3]; exact n1
  obtain ⟨va, ea⟩ : ∃ v, cpV H1.size A = v := ⟨_, rfl⟩
  obtain ⟨vb, eb⟩ : ∃ v, cpV (H1.plus (cpO A)).size R = v := ⟨_, rfl⟩
  have p3 := put_gen H3 (h.size + 1) 2 0 0 [.nils, .nils] [va, vb] (by omega) f13 (by simp)
  have h1s := get_lt f0 (by simp)
  have t0 : Tr tbl J (c38_o0) (fun s h' => s = T.set .leaf [] (.agg [x, y]) ∧ h' = frameOf h) .normal (fun s h' => s.get [false] = .ptr h.size 0 2 ∧ s.get [true] = .ptr (h.size + 1) 0 2 ∧ h' = ⟨h.get, h.size, [.cells 0 2 [x, y], .cells 0 2 [.nils, .nils]]⟩) := Tr.region fun s h hp => by
    obtain ⟨rfl, rfl⟩ := hp
    simp (disch := first | omega | exact getEq rfl | exact getO0 | exact Nat.le_of_ble_eq_true rfl) [c38_o0, frameOf, came_some, goI, List.getElem?_cons_zero, List.getElem?_cons_succ, kn, keep, frameOf, size_mk, get_mk_lt, get_mk_ge, Eff.app, Heap.setOwn, putAt, AV.cells, fillA, loadA, takeA, mk, Eff.isAll, Eff.isNone, Eff.commutes, Eff.spares, okPair, apart, eqAgg, fits, LK.fits, allEq, aveq, eqk, mmA, beqT, wrapI, idxI, tdivI, tmodI, decT, decF, ibT, ibF, inT, inF, evScope_c, if_pos, if_neg]
  rw [s1] at t0
  have t1 : Tr tbl J (.seq c38_o1 .ret) (fun s h' => s.get [false] = .ptr h.size 0 2 ∧ s.get [true] = .ptr (h.size + 1) 0 2 ∧ h' = H1) .ret (fun s h' => s.get [true] = .ptr (h.size + 1) 0 2 ∧ h' = H3.upd (h.size + 1) (.cells 0 2 [va, vb])) := by
    have j1 : ∀ X, (H1.plus [X]).get h.size = .cells 0 2 [x, y] := fun X => plus_keep _ f0 (by simp)
    rw [ea] at k1
    rw [eb] at k2
    rcases cp_cases H1.size A with ⟨_, q1, q2⟩ | ⟨m, X, q1, q2⟩ <;> rcases cp_cases (H1.plus (cpO A)).size R with ⟨_, q3, q4⟩ | ⟨m', X', q3, q4⟩
    · rw [q2] at k1 k2 s3 eb q3
      rw [q4] at k2 s3
      rw [plus_nil] at k2 s3 eb q3
      rw [plus_nil] at s3
      subst s3
      rw [q1] at ea
      rw [q3] at eb
      subst ea eb
      have t : Tr tbl J ((.seq c38_o1 .ret)) (fun s h' => s.get [false] = .ptr h.size 0 2 ∧ s.get [true] = .ptr (h.size + 1) 0 2 ∧ h' = H1) .ret (fun s h' => s.get [true] = .ptr (h.size + 1) 0 2 ∧ h' = H1.upd (h.size + 1) (.cells 0 2 [.nils, .nils])) := Tr.region fun s h hp => by
        obtain ⟨g0, g1, rfl⟩ := hp
        simp (disch := first | omega | exact getEq rfl | exact getO0 | exact Nat.le_of_ble_eq_true rfl) [-evDraw_c, c38_o1, came_some, goI, List.getElem?_cons_zero, List.getElem?_cons_succ, kn, keep, app_growP, app_noneP, plus_N, plus_at0, put_plus0, upd_N, upd_size, putAt, AV.cells, fillA, loadA, takeA, mk, Eff.isAll, Eff.isNone, Eff.commutes, Eff.spares, okPair, apart, eqAgg, fits, LK.fits, allEq, aveq, eqk, mmA, beqT, wrapI, idxI, tdivI, tmodI, decT, decF, ibT, ibF, inT, inF, evScope_c, if_pos, if_neg, g0, g1, evDraw_0, f0, k1, k2, p3]
      exact t
    · rw [q2] at k1 k2 s3 eb q3
      rw [q4] at k2 s3
      rw [plus_nil] at k2 s3 eb q3
      subst s3
      rw [q1] at ea
      rw [q3] at eb
      subst ea eb
      have t : Tr tbl J ((.seq c38_o1 .ret)) (fun s h' => s.get [false] = .ptr h.size 0 2 ∧ s.get [true] = .ptr (h.size + 1) 0 2 ∧ h' = H1) .ret (fun s h' => s.get [true] = .ptr (h.size + 1) 0 2 ∧ h' = (H1.plus [X']).upd (h.size + 1) (.cells 0 2 [.nils, .slice H1.size 0 m' m'])) := Tr.region fun s h hp => by
        obtain ⟨g0, g1, rfl⟩ := hp
        simp (disch := first | omega | exact getEq rfl | exact getO0 | exact Nat.le_of_ble_eq_true rfl) [-evDraw_c, c38_o1, came_some, goI, List.getElem?_cons_zero, List.getElem?_cons_succ, kn, keep, app_growP, app_noneP, plus_N, plus_at0, put_plus0, upd_N, upd_size, putAt, AV.cells, fillA, loadA, takeA, mk, Eff.isAll, Eff.isNone, Eff.commutes, Eff.spares, okPair, apart, eqAgg, fits, LK.fits, allEq, aveq, eqk, mmA, beqT, wrapI, idxI, tdivI, tmodI, decT, decF, ibT, ibF, inT, inF, evScope_c, if_pos, if_neg, g0, g1, evDraw_0, f0, k1, k2, p3]
      exact t
    · rw [q2] at k1 k2 s3 eb q3
      rw [q4] at k2 s3
      rw [plus_nil] at s3
      subst s3
      rw [q1] at ea
      rw [q3] at eb
      subst ea eb
      have t : Tr tbl J ((.seq c38_o1 .ret)) (fun s h' => s.get [false] = .ptr h.size 0 2 ∧ s.get [true] = .ptr (h.size + 1) 0 2 ∧ h' = H1) .ret (fun s h' => s.get [true] = .ptr (h.size + 1) 0 2 ∧ h' = (H1.plus [X]).upd (h.size + 1) (.cells 0 2 [.slice H1.size 0 m m, .nils])) := Tr.region fun s h hp => by
        obtain ⟨g0, g1, rfl⟩ := hp
        simp (disch := first | omega | exact getEq rfl | exact getO0 | exact Nat.le_of_ble_eq_true rfl) [-evDraw_c, c38_o1, came_some, goI, List.getElem?_cons_zero, List.getElem?_cons_succ, kn, keep, app_growP, app_noneP, plus_N, plus_at0, put_plus0, upd_N, upd_size, putAt, AV.cells, fillA, loadA, takeA, mk, Eff.isAll, Eff.isNone, Eff.commutes, Eff.spares, okPair, apart, eqAgg, fits, LK.fits, allEq, aveq, eqk, mmA, beqT, wrapI, idxI, tdivI, tmodI, decT, decF, ibT, ibF, inT, inF, evScope_c, if_pos, if_neg, g0, g1, evDraw_0, f0, j1, k1, k2, p3]
      exact t
    · rw [q2] at k1 k2 s3 eb q3
      rw [q4] at k2 s3
      subst s3
      rw [q1] at ea
      rw [q3] at eb
      subst ea eb
      have hsz : (H1.plus [X]).size = H1.size + 1 := by rw [plus_size]; rfl
      rw [hsz] at k2 p3
      rw [hsz]
      have t : Tr tbl J ((.seq c38_o1 .ret)) (fun s h' => s.get [false] = .ptr h.size 0 2 ∧ s.get [true] = .ptr (h.size + 1) 0 2 ∧ h' = H1) .ret (fun s h' => s.get [true] = .ptr (h.size + 1) 0 2 ∧ h' = ((H1.plus [X]).plus [X']).upd (h.size + 1) (.cells 0 2 [.slice H1.size 0 m m, .slice (H1.size + 1) 0 m' m'])) := Tr.region fun s h hp => by
        obtain ⟨g0, g1, rfl⟩ := hp
        simp (disch := first | omega | exact getEq rfl | exact getO0 | exact Nat.le_of_ble_eq_true rfl) [-evDraw_c, c38_o1, came_some, goI, List.getElem?_cons_zero, List.getElem?_cons_succ, kn, keep, app_growP, app_noneP, plus_N, plus_at0, put_plus0, upd_N, upd_size, putAt, AV.cells, fillA, loadA, takeA, mk, Eff.isAll, Eff.isNone, Eff.commutes, Eff.spares, okPair, apart, eqAgg, fits, LK.fits, allEq, aveq, eqk, mmA, beqT, wrapI, idxI, tdivI, tmodI, decT, decF, ibT, ibF, inT, inF, evScope_c, if_pos, if_neg, g0, g1, evDraw_0, f0, j1, k1, k2, p3]
      exact t
  have u3 : (H3.upd (h.size + 1) (.cells 0 2 [va, vb])).get (h.size + 1) = .cells 0 2 [va, vb] := upd_same _ _ _ (by omega) (get_lt f13 (by simp))
  have ku : Kp (· = h.size + 1) H3 (H3.upd (h.size + 1) (.cells 0 2 [va, vb])) := Kp.upd _ _ _ (by omega) rfl
  have la : listOf H3 va = some (A.take 37) := by rw [← s3, ← ea]; exact listOf_plus _ (cp_list H1 A)
  have lb : listOf H3 vb = some (R.take 37) := by rw [← s3, ← eb]; exact cp_list (H1.plus (cpO A)) R
  have ba : ∀ q, blk va = some q → h.size + 1 < q := fun q hq => by
    rw [← ea] at hq
    rcases cp_cases H1.size A with ⟨_, e, _⟩ | ⟨m, X, e, _⟩
    · rw [e] at hq; cases hq
    · rw [e] at hq; cases hq; omega
  have bb : ∀ q, blk vb = some q → h.size + 1 < q := fun q hq => by
    rw [← eb] at hq
    rcases cp_cases (H1.plus (cpO A)).size R with ⟨_, e, _⟩ | ⟨m, X, e, _⟩
    · rw [e] at hq; cases hq
    · rw [e] at hq; cases hq; rw [plus_size]; omega
  have lkp : ∀ {v : AV} {L : List Int}, listOf H3 v = some L → (∀ q, blk v = some q → h.size + 1 < q) → listOf (H3.upd (h.size + 1) (.cells 0 2 [va, vb])) v = some L := fun e hb => by
    rcases listOf_some e with ⟨rfl, rfl⟩ | ⟨b, v', rfl, g⟩
    · rfl
    · exact listOf_cells (ku.at g (by simp) (by have := hb b rfl; omega)) rfl
  have ho : ∀ X : AObj, H3.upd (h.size + 1) X = ⟨h.get, h.size, (H3.upd (h.size + 1) X).own⟩ := fun X => by rw [← s3, ← s1]; rfl
  obtain ⟨s2, h2, r2, q1, rfl⟩ := Tr.seq t0 t1 (T.set .leaf [] (.agg [x, y])) (frameOf h) ⟨rfl, rfl⟩
  have hc := CallsTo.fn (f := 38) (cf := c38) (args := [.agg [x, y]]) (vs := [.agg [va, vb]]) (by decide) rfl (hJ _ _) rfl rfl r2 (by simp) (by simp [c38, evRess, evRes, q1, loadA, u3, takeA])
  refine ⟨_, _, hc, va, vb, rfl, ?_, ?_, fun hA => ?_⟩
  · split
    · rename_i hf
      have hva : va = .nils := by
        rw [← ea] at hf ⊢
        rcases cp_cases H1.size A with ⟨_, e, _⟩ | ⟨m, X, e, _⟩
        · exact e
        · rw [e] at hf; simp [one, AV.flat, AV.flats] at hf
      rw [hva] at la ⊢
      exact la
    · refine listOf_fr ?_
      rw [← ho]; exact lkp la ba
  · split
    · rename_i hf
      have hvb : vb = .nils := by
        rw [← eb] at hf ⊢
        rcases cp_cases (H1.plus (cpO A)).size R with ⟨_, e, _⟩ | ⟨m, X, e, _⟩
        · exact e
        · rw [e] at hf; simp [one, AV.flat, AV.flats] at hf
      rw [hvb] at lb ⊢
      exact lb
    · refine listOf_fr ?_
      rw [← ho]; exact lkp lb bb
  · have hva : ∃ m, va = .slice H1.size 0 m m := by
      rw [← ea]
      rcases cp_cases H1.size A with ⟨e, _, _⟩ | ⟨m, X, e, _⟩
      · exact absurd e hA
      · exact ⟨m, e⟩
    obtain ⟨m, rfl⟩ := hva
    rw [if_neg (by simp [one, AV.flat, AV.flats])]
    intro e
    have := get_lt u3 (by simp)
    rw [ho, e] at this
    have hz : Heap.size ⟨h.get, h.size, []⟩ = h.size := rfl
    omega

end Go.Proofs.Ytlkgpcfhpeilhaa.Ev
