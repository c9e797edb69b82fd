/-
  What Next and the reference's Next answer. No condition.
-/
import Derived.Test.YtjeemgaoonapgaaRNext
set_option linter.unusedVariables false
set_option linter.unusedSimpArgs false
namespace Go.Proofs.Ytjeemgaoonapgaa.Ev
open Go Go.AEv

attribute [local simp] evFunc initS evOps_c evTrim_c evSkip_c evExit_c evRet_c evSeq_c evCond_c evBlock_c evDraw_c runOps_n runOps_c exec_n exec_g pure1_c act AOpd.ev T.get T.set T.put evBin evUn forceT_eq forceV_eq forceL_eq evRess evRes one keep runFP_n runFP_c app_none AV.flats AV.flat

/-! ### A list of ints that grows, newer than H0 -/
structure NG (H0 h : Heap) (x : AV) (L : List Int) : Prop where
  k : Kp (fun _ => False) H0 h
  x0 : ∀ q, blk x = some q → H0.size ≤ q
  l : LV h x (gs L)
theorem NG.nil (H0 : Heap) : NG H0 H0 .nils [] := ⟨Kp.refl _, fun _ e => (by cases e), LV.nil _⟩
theorem NG.list {H0 h : Heap} {x : AV} {L : List Int} (t : NG H0 h x L) : listOf h x = some L := by
  rcases t.l with ⟨rfl, e⟩ | ⟨b, rfl, g, n⟩
  · have : L = [] := by simpa using e
    subst this; rfl
  · simp only [List.length_map] at g ⊢
    exact listOf_cells g rfl
theorem NG.kp {H0 h h' : Heap} {x : AV} {L : List Int} (t : NG H0 h x L) (k : Kp (fun _ => False) h h') : NG H0 h' x L := ⟨t.k.trans k, t.x0, t.l.kp k (fun _ _ => id)⟩
theorem NG.app {H0 h : Heap} (h0 : Nat) {x : AV} {L : List Int} (t : NG H0 h x L) (z : Int) (hn : L.length ≤ 1000000) :
    ∃ x1 e h2, appA (h.plus [.cells 1 1 [G z]]) h0 none 1 8 1 [G z] x = some (x1, e) ∧ Eff.app e (h.plus [.cells 1 1 [G z]]) = some h2 ∧ NG H0 h2 x1 (L ++ [z]) ∧ AV.cells x1 = some [x1] := by
  have k1 : Kp (fun _ => False) h (h.plus [.cells 1 1 [G z]]) := Kp.plus _ _
  obtain ⟨x1, e, h2, q1, q2, q3, q4, q5, q6⟩ := app_v (h.plus [.cells 1 1 [G z]]) h0 8 (G z) (t.l.kp k1 (fun _ _ => id)) (by simp; omega)
  have hsz : (h.plus [.cells 1 1 [G z]]).size = h.size + 1 := by rw [plus_size]; rfl
  refine ⟨x1, e, h2, q1, q2, ⟨(t.k.trans k1).late q4 t.x0, fun q hq => ?_, by simpa using q3⟩, q6⟩
  rcases q5 with h' | ⟨_, h'⟩
  · rw [h'] at hq; exact t.x0 q hq
  · rw [h'] at hq; cases hq; have := t.k.size; omega
theorem NG.fr {h h' : Heap} {x : AV} {L : List Int} (t : NG (frameOf h) h' x L) : NG h (h.plus h'.own) x L := by
  have e := Kp.own t.k
  have hg : ∀ b, h'.get b = (h.plus h'.own).get b := fun b => by rw [e]; exact fr_get h _ b
  refine ⟨Kp.plus _ _, t.x0, ?_⟩
  rcases t.l with l | ⟨b, rfl, g, n⟩
  · exact .inl l
  · have hb : h.size ≤ b := t.x0 b rfl
    exact .inr ⟨b, rfl, (hg b).symm.trans g, by rw [plus_N]; unfold Heap.size at hb; omega⟩
theorem NG.fr0 {h h' : Heap} {x : AV} {L : List Int} (t : NG (frameOf h) h' x L) : NG h (h.plus (if (one [x]).flat then [] else h'.own)) x L := by
  split
  · rename_i hf
    rcases t.l with ⟨rfl, e⟩ | ⟨b, rfl, g, n⟩
    · have : L = [] := by simpa using e
      subst this
      have : h.plus [] = h := by simp [Heap.plus]
      rw [this]; exact NG.nil h
    · simp [one, AV.flat, AV.flats] at hf
  · exact t.fr

/-- The lists that a matrix can be applied to. -/
def vOk (lo : Int) (M : List (List Int)) (X : List Int) : Prop := isMat M = true ∧ X.length = M.length ∧ allIn lo 100000000 X = true

def Good58 (args : List AV) (h : Heap) (v : AV) (own : List AObj) : Prop := ∀ M x X, args = [.agg (matC M), x] → LR h x X → vOk 0 M X → v = .slice (h.size + 1) 0 M.length M.length ∧ own = [.cells 0 65 (matC M), .cells 1 M.length (gs (nxtL M X))]
noncomputable def R17 : CallF := addX tbl R16 58 Good58
theorem s17 : Sound Go.Proofs.Try.prog R17 := Sound.addX follows ok s16 (by decide) Good58
abbrev K58 (J : CallF) : Prop := ∀ (h : Heap) (x : AV) (M : List (List Int)) (X : List Int), LR h x X → vOk 0 M X → J 58 [.agg (matC M), x] h = some (.slice (h.size + 1) 0 M.length M.length, [.cells 0 65 (matC M), .cells 1 M.length (gs (nxtL M X))], false)
theorem k58 : K58 R17 := fun h x M X hx hv => by
  have e := c58_ok R16 (fun _ _ => rfl) h hv.1 hx hv.2.1 hv.2.2
  obtain ⟨v', own', e', g⟩ := addX_some (tbl := tbl) (I := R16) (f := 58) (Good := Good58) (args := [.agg (matC M), x]) (h := h) ⟨_, _, e, fun M' x' X' hargs h1 h2 => by
    simp only [List.cons.injEq, AV.agg.injEq, and_true] at hargs
    obtain ⟨hM, rfl⟩ := hargs
    obtain rfl := matC_inj hv.1 h2.1 hM
    obtain rfl := LR.inj hx h1
    exact ⟨rfl, rfl⟩⟩
  obtain ⟨o1, o2⟩ := g M x X rfl hx hv
  subst o1 o2
  exact e'

/-! ### Next -/
section
variable {M : List (List Int)} {X : List Int} {x y : AV}
theorem rp65 {Z : List AV} (hZ : Z.length = 65) (C : List AV) (hC : C.length = 65) : putAt Z 0 C = C := putAt_all _ _ (by omega)
theorem c19_head (J : CallF) (h : Heap) {cs : List AV} {o : Bool} (k : J 54 [y] (frameOf h) = some (.tup [.agg cs, .bool o], [], false)) (hl : cs.length = 65) :
    Tr tbl J (.seq c19_o0 c19_o1) (fun s h' => s = T.set (T.set .leaf [] y) [false] x ∧ h' = frameOf h) .normal (fun s h' => s.get [false] = x ∧ s.get [true, true] = .ptr h.size 0 65 ∧ s.get [false, false, false] = .bool o ∧ h' = ⟨h.get, h.size, [.cells 0 65 cs]⟩) := by
  have lZ : (List.replicate 65 (AV.int .i64 0)).length = 65 := List.length_replicate
  generalize hZ : List.replicate 65 (AV.int .i64 0) = Z at *
  have ep := rp65 lZ cs hl
  have k' : J 54 [y] ⟨h.get, h.size, []⟩ = some (.tup [.agg cs, .bool o], [], false) := k
  have t0 : Tr tbl J ((.seq c19_o0 c19_o1)) (fun s h' => s = T.set (T.set .leaf [] y) [false] x ∧ h' = frameOf h) .normal (fun s h' => s.get [false] = x ∧ s.get [true, true] = .ptr h.size 0 65 ∧ s.get [false, false, false] = .bool o ∧ h' = ⟨h.get, h.size, [.cells 0 65 cs]⟩) := Tr.region fun s h hp => by
    obtain ⟨rfl, rfl⟩ := hp
    simp (disch := first | omega | exact getEq rfl | exact getO0 | exact Nat.le_of_ble_eq_true rfl) [-List.reduceReplicate, c19_o0, c19_o1, frameOf, came_some, goI, List.getElem?_cons_zero, List.getElem?_cons_succ, kn, keep, frameOf, size_mk, get_mk_lt, get_mk_ge, Eff.app, Heap.setOwn, putAt, AV.cells, fillA, loadA, takeA, mk, Eff.isAll, Eff.isNone, Eff.commutes, Eff.spares, okPair, apart, eqAgg, fits, LK.fits, allEq, aveq, eqk, mmA, beqT, wrapI, idxI, tdivI, tmodI, decT, decF, ibT, ibF, inT, inF, evScope_c, if_pos, if_neg, hZ, lZ, ep, hl, k']
  exact t0
theorem c19_good (J : CallF) (k54 : K54 J) (k55 : K55 J) (k58 : K58 J) (hJ : ∀ a h, J 19 a h = none) (h : Heap) (hy : MR h y M) (hx : LR h x X) (hv : vOk 0 M X) :
    CallsTo tbl J 19 [y, x] h (.tup [.slice (h.size + 2) 0 M.length M.length, G 0], [.cells 0 65 (matC M), .cells 0 65 (matC M), .cells 1 M.length (gs (nxtL M X))], false) := by
  obtain ⟨cs, k, hl, hc⟩ := k54 (frameOf h) y M (hy.lo [])
  obtain rfl := hc hv.1
  rw [hv.1] at k
  refine Tr.fnh (cf := c19) (e := .ret) (s := T.set (T.set .leaf [] y) [false] x) (by decide) rfl (hJ _ _) rfl rfl rfl (by simp) ?_
  have t0 := c19_head J h (x := x) k hl
  have hs := LR.sl hx
  rw [hv.2.1] at hs
  have kb := k55 56 0 100000000 _ _ X rfl (LR.lo hx [.cells 0 65 (matC M)]) (by have := isMat_n hv.1; have := hv.2.1; omega)
  rw [hv.2.2] at kb
  have kc := k58 _ x M X (LR.lo hx [.cells 0 65 (matC M)]) hv
  rw [show Heap.size ⟨h.get, h.size, [.cells 0 65 (matC M)]⟩ = h.size + 1 from rfl] at kc
  have hn := isMat_n hv.1
  have hC : (matC M)[0]? = some (G M.length) := rfl
  have hC' : ∀ h, (matC M)[0]'h = G M.length := fun h => rfl
  have et : (matC M).take 65 = matC M := List.take_of_length_le (by omega)
  generalize matC M = C at *
  generalize M.length = n at *
  generalize gs (nxtL M X) = O at *
  refine Tr.post (Q := (fun s h' => s.get [true, false] = .slice (h.size + 2) 0 n n ∧ s.get [false, true] = G 0 ∧ h' = ⟨h.get, h.size, [.cells 0 65 C, .cells 0 65 C, .cells 1 n O]⟩)) (fun s h' q => by
    obtain ⟨q1, q2, rfl⟩ := q
    simp [c19, q1, q2]) ?_
  have t1 : Tr tbl J ((.seq c19_o2 (.cond (.s [false, true, false, true]) (.seq c19_o3 .ret) .skip))) (fun s h' => s.get [false] = x ∧ s.get [true, true] = .ptr h.size 0 65 ∧ s.get [false, false, false] = .bool true ∧ h' = ⟨h.get, h.size, [.cells 0 65 C]⟩) .normal (fun s h' => s.get [false] = x ∧ s.get [true, true] = .ptr h.size 0 65 ∧ h' = ⟨h.get, h.size, [.cells 0 65 C]⟩) := Tr.region fun s h hp => by
    obtain ⟨g0, g1, g2, rfl⟩ := hp
    rcases hs with ⟨rfl, h0⟩ | ⟨rfl, h0⟩ | ⟨b, v, rfl⟩ <;> first | omega | simp (disch := first | omega | exact getEq rfl | exact getO0 | exact Nat.le_of_ble_eq_true rfl) [c19_o2, came_some, goI, List.getElem?_cons_zero, List.getElem?_cons_succ, kn, keep, frameOf, size_mk, get_mk_lt, get_mk_ge, Eff.app, Heap.setOwn, putAt, AV.cells, fillA, loadA, takeA, mk, Eff.isAll, Eff.isNone, Eff.commutes, Eff.spares, okPair, apart, eqAgg, fits, LK.fits, allEq, aveq, eqk, mmA, beqT, wrapI, idxI, tdivI, tmodI, decT, decF, ibT, ibF, inT, inF, evScope_c, if_pos, if_neg, g0, g1, g2, hC, hC', kb, hl, ibT, inF]
  have t2 : Tr tbl J ((.seq c19_o4 .ret)) (fun s h' => s.get [false] = x ∧ s.get [true, true] = .ptr h.size 0 65 ∧ h' = ⟨h.get, h.size, [.cells 0 65 C]⟩) .ret (fun s h' => s.get [true, false] = .slice (h.size + 2) 0 n n ∧ s.get [false, true] = G 0 ∧ h' = ⟨h.get, h.size, [.cells 0 65 C, .cells 0 65 C, .cells 1 n O]⟩) := Tr.region fun s h hp => by
    obtain ⟨g0, g1, rfl⟩ := hp
    simp (disch := first | omega | exact getEq rfl | exact getO0 | exact Nat.le_of_ble_eq_true rfl) [c19_o4, came_some, goI, List.getElem?_cons_zero, List.getElem?_cons_succ, kn, keep, frameOf, size_mk, get_mk_lt, get_mk_ge, Eff.app, Heap.setOwn, putAt, AV.cells, fillA, loadA, takeA, mk, Eff.isAll, Eff.isNone, Eff.commutes, Eff.spares, okPair, apart, eqAgg, fits, LK.fits, allEq, aveq, eqk, mmA, beqT, wrapI, idxI, tdivI, tmodI, decT, decF, ibT, ibF, inT, inF, evScope_c, if_pos, if_neg, g0, g1, hC, hC', kc, hl, et]
  exact Tr.app2 t0 (Tr.seq t1 t2)
theorem c19_bad (J : CallF) (k54 : K54 J) (k55 : K55 J) (hJ : ∀ a h, J 19 a h = none) (h : Heap) (hy : MR h y M) (hx : LR h x X) (hb : X.length < 9223372036854775808) (hv : ¬ vOk 0 M X) : CallsTo tbl J 19 [y, x] h (.tup [.nils, G 2], [], false) := by
  obtain ⟨cs, k, hl, hc⟩ := k54 (frameOf h) y M (hy.lo [])
  refine Tr.fnv (cf := c19) (e := .ret) (s := T.set (T.set .leaf [] y) [false] x) (by decide) rfl (hJ _ _) rfl rfl rfl (by simp) ?_
  have t0 := c19_head J h (x := x) k hl
  have hs := LR.sl hx
  refine Tr.post (Q := (fun s h => s.get [true, false] = .nils ∧ s.get [false, true] = G 2)) (fun s h' q => by simp [c19, q.1, q.2]) ?_
  refine Tr.app2 t0 (Tr.seq_out ?_ (by simp))
  by_cases hm : isMat M = true
  · obtain rfl := hc hm
    rw [hm]
    have hC : (matC M)[0]? = some (G M.length) := rfl
    have hC' : ∀ h, (matC M)[0]'h = G M.length := fun h => rfl
    have hn := isMat_n hm
    by_cases hlen : X.length = M.length
    · have kb := k55 56 0 100000000 _ _ X rfl (LR.lo hx [.cells 0 65 (matC M)]) hb
      have hf : allIn 0 100000000 X = false := by
        cases e : allIn 0 100000000 X
        · rfl
        · exact absurd ⟨hm, hlen, e⟩ hv
      rw [hf] at kb
      rw [hlen] at hs
      generalize matC M = C at *
      generalize M.length = n at *
      have t1 : Tr tbl J ((.seq c19_o2 (.cond (.s [false, true, false, true]) (.seq c19_o3 .ret) .skip))) (fun s h' => s.get [false] = x ∧ s.get [true, true] = .ptr h.size 0 65 ∧ s.get [false, false, false] = .bool true ∧ h' = ⟨h.get, h.size, [.cells 0 65 C]⟩) .ret (fun s h => s.get [true, false] = .nils ∧ s.get [false, true] = G 2) := Tr.region fun s h hp => by
        obtain ⟨g0, g1, g2, rfl⟩ := hp
        rcases hs with ⟨rfl, h0⟩ | ⟨rfl, h0⟩ | ⟨b, v, rfl⟩ <;> first | omega | simp (disch := first | omega | exact getEq rfl | exact getO0 | exact Nat.le_of_ble_eq_true rfl) [c19_o2, c19_o3, came_some, goI, List.getElem?_cons_zero, List.getElem?_cons_succ, kn, keep, frameOf, size_mk, get_mk_lt, get_mk_ge, Eff.app, Heap.setOwn, putAt, AV.cells, fillA, loadA, takeA, mk, Eff.isAll, Eff.isNone, Eff.commutes, Eff.spares, okPair, apart, eqAgg, fits, LK.fits, allEq, aveq, eqk, mmA, beqT, wrapI, idxI, tdivI, tmodI, decT, decF, ibT, ibF, inT, inF, evScope_c, if_pos, if_neg, g0, g1, g2, hC, hC', kb, hl, ibT, inF]
      exact t1
    · generalize matC M = C at *
      generalize M.length = n at *
      generalize X.length = m at *
      have t1 : Tr tbl J ((.seq c19_o2 (.cond (.s [false, true, false, true]) (.seq c19_o3 .ret) .skip))) (fun s h' => s.get [false] = x ∧ s.get [true, true] = .ptr h.size 0 65 ∧ s.get [false, false, false] = .bool true ∧ h' = ⟨h.get, h.size, [.cells 0 65 C]⟩) .ret (fun s h => s.get [true, false] = .nils ∧ s.get [false, true] = G 2) := Tr.region fun s h hp => by
        obtain ⟨g0, g1, g2, rfl⟩ := hp
        rcases hs with ⟨rfl, h0⟩ | ⟨rfl, h0⟩ | ⟨b, v, rfl⟩ <;> (try subst h0) <;> simp (disch := first | omega | exact getEq rfl | exact getO0 | exact Nat.le_of_ble_eq_true rfl) [c19_o2, c19_o3, came_some, goI, List.getElem?_cons_zero, List.getElem?_cons_succ, kn, keep, frameOf, size_mk, get_mk_lt, get_mk_ge, Eff.app, Heap.setOwn, putAt, AV.cells, fillA, loadA, takeA, mk, Eff.isAll, Eff.isNone, Eff.commutes, Eff.spares, okPair, apart, eqAgg, fits, LK.fits, allEq, aveq, eqk, mmA, beqT, wrapI, idxI, tdivI, tmodI, decT, decF, ibT, ibF, inT, inF, evScope_c, if_pos, if_neg, g0, g1, g2, hC, hC', hl, inT, hlen]
      exact t1
  · have hm' : isMat M = false := by simpa using hm
    rw [hm']
    have t1 : Tr tbl J ((.seq c19_o2 (.cond (.s [false, true, false, true]) (.seq c19_o3 .ret) .skip))) (fun s h' => s.get [false] = x ∧ s.get [true, true] = .ptr h.size 0 65 ∧ s.get [false, false, false] = .bool false ∧ h' = ⟨h.get, h.size, [.cells 0 65 cs]⟩) .ret (fun s h => s.get [true, false] = .nils ∧ s.get [false, true] = G 2) := Tr.region fun s h hp => by
      obtain ⟨g0, g1, g2, rfl⟩ := hp
      simp (disch := first | omega | exact getEq rfl | exact getO0 | exact Nat.le_of_ble_eq_true rfl) [c19_o2, c19_o3, came_some, goI, List.getElem?_cons_zero, List.getElem?_cons_succ, kn, keep, frameOf, size_mk, get_mk_lt, get_mk_ge, Eff.app, Heap.setOwn, putAt, AV.cells, fillA, loadA, takeA, mk, Eff.isAll, Eff.isNone, Eff.commutes, Eff.spares, okPair, apart, eqAgg, fits, LK.fits, allEq, aveq, eqk, mmA, beqT, wrapI, idxI, tdivI, tmodI, decT, decF, ibT, ibF, inT, inF, evScope_c, if_pos, if_neg, g0, g1, g2]
    exact t1
end
def Good19 (args : List AV) (h : Heap) (v : AV) (own : List AObj) : Prop := ∀ y x M X, args = [y, x] → MR h y M → LR h x X → (vOk 0 M X → ∃ w, v = .tup [w, G 0] ∧ NG h (h.plus own) w (nxtL M X)) ∧ (¬ vOk 0 M X → v = .tup [.nils, G 2] ∧ own = [])
noncomputable def R18 : CallF := addX tbl R17 19 Good19
theorem s18 : Sound Go.Proofs.Try.prog R18 := Sound.addX follows ok s17 (by decide) Good19
abbrev K19 (J : CallF) : Prop := ∀ (h : Heap) (y x : AV) (M : List (List Int)) (X : List Int), MR h y M → LR h x X → vOk 0 M X → ∃ w own, J 19 [y, x] h = some (.tup [w, G 0], own, false) ∧ NG h (h.plus own) w (nxtL M X)
abbrev K19n (J : CallF) : Prop := ∀ (h : Heap) (y x : AV) (M : List (List Int)) (X : List Int), MR h y M → LR h x X → X.length < 9223372036854775808 → ¬ vOk 0 M X → J 19 [y, x] h = some (.tup [.nils, G 2], [], false)
theorem good19 {h : Heap} {y x : AV} {M : List (List Int)} {X : List Int} {v : AV} {own : List AObj} (hy : MR h y M) (hx : LR h x X) (a : vOk 0 M X → ∃ w, v = .tup [w, G 0] ∧ NG h (h.plus own) w (nxtL M X)) (b : ¬ vOk 0 M X → v = .tup [.nils, G 2] ∧ own = []) : Good19 [y, x] h v own := fun y' x' M' X' hargs h1 h2 => by
  simp only [List.cons.injEq, and_true] at hargs
  obtain ⟨rfl, rfl⟩ := hargs
  obtain rfl := hy.inj h1
  obtain rfl := LR.inj hx h2
  exact ⟨a, b⟩
theorem k19 : K19 R18 := fun h y x M X hy hx hv => by
  have e := c19_good R17 (fun h y M a => k54 h y M a) (fun f lo hi h x A a b c => k55 f lo hi h x A a b c) k58 (fun _ _ => rfl) h hy hx hv
  obtain ⟨v', own', e', g⟩ := addX_some (tbl := tbl) (I := R17) (f := 19) (Good := Good19) (args := [y, x]) (h := h) ⟨_, _, e, good19 hy hx (fun _ => ⟨_, rfl, Kp.plus _ _, fun q hq => by cases hq; omega, .inr ⟨h.size + 2, by simp [nxtL, lf_len], by
    have : (gs (nxtL M X)).length = M.length := gl_len _ _
    rw [plus_ge _ _ _ (by omega), this, show h.size + 2 - h.size = 2 by omega]; rfl, by rw [plus_N]; unfold Heap.size; omega⟩⟩) (fun q => absurd hv q)⟩
  obtain ⟨w, rfl, q⟩ := (g y x M X rfl hy hx).1 hv
  exact ⟨w, own', e', q⟩
theorem k19n : K19n R18 := fun h y x M X hy hx hb hv => by
  have e := c19_bad R17 (fun h y M a => k54 h y M a) (fun f lo hi h x A a b c => k55 f lo hi h x A a b c) (fun _ _ => rfl) h hy hx hb hv
  obtain ⟨v', own', e', g⟩ := addX_some (tbl := tbl) (I := R17) (f := 19) (Good := Good19) (args := [y, x]) (h := h) ⟨_, _, e, good19 hy hx (fun q => absurd q hv) (fun _ => ⟨rfl, rfl⟩)⟩
  obtain ⟨o1, o2⟩ := (g y x M X rfl hy hx).2 hv
  subst o1 o2
  exact e'

/-! ### The reference's Next -/
section
variable {M : List (List Int)} {X : List Int} {n : Nat}
abbrev L25a : List Path := [[], [false], [false, true], [true, true], [false, false, false], [true, false, false]]
abbrev L25b : List Path := [[], [false], [false, true], [true, true]]
theorem n25_step (J : CallF) (H : Heap) {i j b v bx vx rb rv : Nat} {cs cx cr : List AV} {w : AV} {a z o : Int} (g : H.get b = .cells 1 v cs) (er : cs[i]? = some (.slice rb 0 n rv)) (gr : H.get rb = .cells 1 rv cr) (gx : H.get bx = .cells 1 vx cx) (hi : i < n) (hj : j < n) (h8 : n ≤ 8) (e1 : cr[j]? = some (G a)) (e2 : cx[j]? = some (G z)) (b1 : 0 ≤ a * z ∧ a * z ≤ 900000000) (b2 : 0 ≤ o ∧ o ≤ 9000000000) :
    Tr tbl J (.trim L25a c25_b0) (fun s h => s.get [] = .slice b 0 n v ∧ s.get [false] = .slice bx 0 n vx ∧ s.get [false, true] = w ∧ s.get [true, true] = G i ∧ s.get [false, false, false] = G o ∧ s.get [true, false, false] = G j ∧ h = H) .normal (fun s h => s.get [] = .slice b 0 n v ∧ s.get [false] = .slice bx 0 n vx ∧ s.get [false, true] = w ∧ s.get [true, true] = G i ∧ s.get [false, false, false] = G (o + a * z) ∧ s.get [true, false, false] = G ((j + 1 : Nat) : Int) ∧ h = H) := by
  have er' : ∀ h : i < cs.length, cs[i] = .slice rb 0 n rv := fun h => by rw [List.getElem?_eq_getElem h] at er; exact Option.some.inj er
  have e1' : ∀ h : j < cr.length, cr[j] = G a := fun h => by rw [List.getElem?_eq_getElem h] at e1; exact Option.some.inj e1
  have e2' : ∀ h : j < cx.length, cx[j] = G z := fun h => by rw [List.getElem?_eq_getElem h] at e2; exact Option.some.inj e2
  have t : Tr tbl J ((.trim L25a c25_b0)) (fun s h => s.get [] = .slice b 0 n v ∧ s.get [false] = .slice bx 0 n vx ∧ s.get [false, true] = w ∧ s.get [true, true] = G i ∧ s.get [false, false, false] = G o ∧ s.get [true, false, false] = G j ∧ h = H) .normal (fun s h => s.get [] = .slice b 0 n v ∧ s.get [false] = .slice bx 0 n vx ∧ s.get [false, true] = w ∧ s.get [true, true] = G i ∧ s.get [false, false, false] = G (o + a * z) ∧ s.get [true, false, false] = G ((j + 1 : Nat) : Int) ∧ h = H) := Tr.region fun s h hp => by
    obtain ⟨g0, g1, g2, g3, g4, g5, rfl⟩ := hp
    simp (disch := first | omega | exact getEq rfl | exact getO0 | exact Nat.le_of_ble_eq_true rfl) [-evDraw_c, c25_b0, c25_o6, c25_o7, c25_o8, came_some, goI, List.getElem?_cons_zero, List.getElem?_cons_succ, kn, keep, app_growP, app_noneP, plus_N, plus_at0, put_plus0, upd_N, upd_size, putAt, AV.cells, fillA, loadA, takeA, mk, Eff.isAll, Eff.isNone, Eff.commutes, Eff.spares, okPair, apart, eqAgg, fits, LK.fits, allEq, aveq, eqk, mmA, beqT, wrapI, idxI, tdivI, tmodI, decT, decF, ibT, ibF, inT, inF, evScope_c, if_pos, if_neg, g0, g1, g2, g3, g4, g5, evDraw_0, g, gr, gx, er, er', e1, e1', e2, e2']
  exact t
theorem n25_row (J : CallF) (H : Heap) {i b v bx vx : Nat} {cs : List AV} {r w w1 : AV} {e : Eff} {h2 : Heap} (hv : vOk 0 M X) (hn : M.length = n) (hi : i < n) (g : H.get b = .cells 1 v cs) (er : cs[i]? = some r) (hr : LR H r (M.getD i [])) (gx : H.get bx = .cells 1 vx (gs X))
    (q1 : appA (H.plus [.cells 1 1 [G (nxv M X i n)]]) H.size none 1 8 1 [G (nxv M X i n)] w = some (w1, e)) (q2 : Eff.app e (H.plus [.cells 1 1 [G (nxv M X i n)]]) = some h2) (q3 : AV.cells w1 = some [w1]) :
    Tr tbl J (.trim L25b c25_b1) (fun s h => s.get [] = .slice b 0 n v ∧ s.get [false] = .slice bx 0 n vx ∧ s.get [false, true] = w ∧ s.get [true, true] = G i ∧ h = H) .normal (fun s h => s.get [] = .slice b 0 n v ∧ s.get [false] = .slice bx 0 n vx ∧ s.get [false, true] = w1 ∧ s.get [true, true] = G ((i + 1 : Nat) : Int) ∧ h = h2) := by
  obtain ⟨hm, hl, hx⟩ := hv
  have h8 := isMat_n hm
  obtain ⟨rl, rin⟩ := isMat_row hm (show i < M.length by omega)
  rcases hr.cases with ⟨_, q⟩ | ⟨_, q⟩ | ⟨rb, rv, rfl, gr⟩
  · rw [q] at rl; simp at rl; omega
  · rw [q] at rl; simp at rl; omega
  rw [rl, hn] at er
  have ta : Tr tbl J ((.trim L25b (.seq c25_o3 (.cond (.s [true, false, true]) .skip (.exit 0))))) (fun s h => s.get [] = .slice b 0 n v ∧ s.get [false] = .slice bx 0 n vx ∧ s.get [false, true] = w ∧ s.get [true, true] = G i ∧ h = H) .normal (fun s h => s.get [] = .slice b 0 n v ∧ s.get [false] = .slice bx 0 n vx ∧ s.get [false, true] = w ∧ s.get [true, true] = G i ∧ h = H) := Tr.region fun s h hp => by
    obtain ⟨g0, g1, g2, g3, rfl⟩ := hp
    simp (disch := first | omega | exact getEq rfl | exact getO0 | exact Nat.le_of_ble_eq_true rfl) [c25_o3, came_some, goI, List.getElem?_cons_zero, List.getElem?_cons_succ, kn, keep, app_growP, app_noneP, plus_N, plus_at0, put_plus0, upd_N, upd_size, putAt, AV.cells, fillA, loadA, takeA, mk, Eff.isAll, Eff.isNone, Eff.commutes, Eff.spares, okPair, apart, eqAgg, fits, LK.fits, allEq, aveq, eqk, mmA, beqT, wrapI, idxI, tdivI, tmodI, decT, decF, ibT, ibF, inT, inF, evScope_c, if_pos, if_neg, g0, g1, g2, g3]
  have tb : Tr tbl J ((.seq c25_o4 c25_o5)) (fun s h => s.get [] = .slice b 0 n v ∧ s.get [false] = .slice bx 0 n vx ∧ s.get [false, true] = w ∧ s.get [true, true] = G i ∧ h = H) .normal (fun s h => s.get [] = .slice b 0 n v ∧ s.get [false] = .slice bx 0 n vx ∧ s.get [false, true] = w ∧ s.get [true, true] = G i ∧ s.get [false, false, false] = G (nxv M X i 0) ∧ s.get [true, false, false] = G ((0 : Nat) : Int) ∧ h = H) := Tr.region fun s h hp => by
    obtain ⟨g0, g1, g2, g3, rfl⟩ := hp
    simp (disch := first | omega | exact getEq rfl | exact getO0 | exact Nat.le_of_ble_eq_true rfl) [c25_o4, c25_o5, came_some, goI, List.getElem?_cons_zero, List.getElem?_cons_succ, kn, keep, app_growP, app_noneP, plus_N, plus_at0, put_plus0, upd_N, upd_size, putAt, AV.cells, fillA, loadA, takeA, mk, Eff.isAll, Eff.isNone, Eff.commutes, Eff.spares, okPair, apart, eqAgg, fits, LK.fits, allEq, aveq, eqk, mmA, beqT, wrapI, idxI, tdivI, tmodI, decT, decF, ibT, ibF, inT, inF, evScope_c, if_pos, if_neg, g0, g1, g2, g3, nxv]
  obtain ⟨_, tb1, tb2⟩ := tb.split
  have tl : Tr tbl J ((.trim L25a c25_b0)) (fun s h => s.get [] = .slice b 0 n v ∧ s.get [false] = .slice bx 0 n vx ∧ s.get [false, true] = w ∧ s.get [true, true] = G i ∧ s.get [false, false, false] = G (nxv M X i n) ∧ s.get [true, false, false] = G n ∧ h = H) (.exit 2) (fun s h => s.get [] = .slice b 0 n v ∧ s.get [false] = .slice bx 0 n vx ∧ s.get [false, true] = w ∧ s.get [true, true] = G i ∧ s.get [false, false, false] = G (nxv M X i n) ∧ h = H) := Tr.region fun s h hp => by
    obtain ⟨g0, g1, g2, g3, g4, g5, rfl⟩ := hp
    generalize nxv M X i n = z at *
    simp (disch := first | omega | exact getEq rfl | exact getO0 | exact Nat.le_of_ble_eq_true rfl) [c25_b0, c25_o6, came_some, goI, List.getElem?_cons_zero, List.getElem?_cons_succ, kn, keep, app_growP, app_noneP, plus_N, plus_at0, put_plus0, upd_N, upd_size, putAt, AV.cells, fillA, loadA, takeA, mk, Eff.isAll, Eff.isNone, Eff.commutes, Eff.spares, okPair, apart, eqAgg, fits, LK.fits, allEq, aveq, eqk, mmA, beqT, wrapI, idxI, tdivI, tmodI, decT, decF, ibT, ibF, inT, inF, evScope_c, if_pos, if_neg, g0, g1, g2, g3, g4, g5]
  have lo := Tr.rounds (P := fun j => (fun s h => s.get [] = .slice b 0 n v ∧ s.get [false] = .slice bx 0 n vx ∧ s.get [false, true] = w ∧ s.get [true, true] = G i ∧ s.get [false, false, false] = G (nxv M X i j) ∧ s.get [true, false, false] = G j ∧ h = H)) (M := n) (tbl := tbl) (I := J) (live := L25a) (c := c25_b0) (fun j hj => by
    have hb := nxv_bd hm hx i j (by omega)
    exact n25_step J H g er gr gx hi hj (by omega) (a := ent M i j) (z := X.getD j 0) (o := nxv M X i j) (by unfold ent; rw [lf_of (M.getD i []), gl_at _ (by omega), lf_getD _ (by omega)]) (by rw [lf_of X, gl_at _ (by omega), lf_getD _ (by omega)]) (nxt_term hm hx i (by omega)) (by omega)) tl (by simp) 0 (by omega)
  have f1 : (H.plus [.cells 1 1 [G (nxv M X i n)]]).get H.size = .cells 1 1 [G (nxv M X i n)] := plus_at0 _ _ _ _ rfl
  have tc : Tr tbl J (c25_o9) (fun s h => s.get [] = .slice b 0 n v ∧ s.get [false] = .slice bx 0 n vx ∧ s.get [false, true] = w ∧ s.get [true, true] = G i ∧ s.get [false, false, false] = G (nxv M X i n) ∧ h = H) .normal (fun s h => s.get [] = .slice b 0 n v ∧ s.get [false] = .slice bx 0 n vx ∧ s.get [false, true] = w1 ∧ s.get [true, true] = G i ∧ h = h2) := Tr.region fun s h hp => by
    obtain ⟨g0, g1, g2, g3, g4, rfl⟩ := hp
    generalize nxv M X i n = z at *
    simp (disch := first | omega | exact getEq rfl | exact getO0 | exact Nat.le_of_ble_eq_true rfl) [c25_o9, came_some, goI, List.getElem?_cons_zero, List.getElem?_cons_succ, kn, keep, app_growP, app_noneP, plus_N, plus_at0, put_plus0, upd_N, upd_size, putAt, AV.cells, fillA, loadA, takeA, mk, Eff.isAll, Eff.isNone, Eff.commutes, Eff.spares, okPair, apart, eqAgg, fits, LK.fits, allEq, aveq, eqk, mmA, beqT, wrapI, idxI, tdivI, tmodI, decT, decF, ibT, ibF, inT, inF, evScope_c, if_pos, if_neg, g0, g1, g2, g3, g4, elems, rdOf, f1, q1, q2, q3]
  have td : Tr tbl J (c25_o10) (fun s h => s.get [] = .slice b 0 n v ∧ s.get [false] = .slice bx 0 n vx ∧ s.get [false, true] = w1 ∧ s.get [true, true] = G i ∧ h = h2) .normal (fun s h => s.get [] = .slice b 0 n v ∧ s.get [false] = .slice bx 0 n vx ∧ s.get [false, true] = w1 ∧ s.get [true, true] = G ((i + 1 : Nat) : Int) ∧ h = h2) := Tr.region fun s h hp => by
    obtain ⟨g0, g1, g2, g3, rfl⟩ := hp
    simp (disch := first | omega | exact getEq rfl | exact getO0 | exact Nat.le_of_ble_eq_true rfl) [c25_o10, came_some, goI, List.getElem?_cons_zero, List.getElem?_cons_succ, kn, keep, app_growP, app_noneP, plus_N, plus_at0, put_plus0, upd_N, upd_size, putAt, AV.cells, fillA, loadA, takeA, mk, Eff.isAll, Eff.isNone, Eff.commutes, Eff.spares, okPair, apart, eqAgg, fits, LK.fits, allEq, aveq, eqk, mmA, beqT, wrapI, idxI, tdivI, tmodI, decT, decF, ibT, ibF, inT, inF, evScope_c, if_pos, if_neg, g0, g1, g2, g3]
  exact Tr.trim_seq ta (Tr.seq (Tr.block_out (Tr.seq tb1 (Tr.seq (Tr.seq tb2 (Tr.block lo)) tc)) (by simp)) td)
theorem c25_ok (J : CallF) (hJ : ∀ a h, J 25 a h = none) (h : Heap) {x y : AV} (hy : MR h y M) (hx : LR h x X) (hv : vOk 0 M X) : ∃ v own, CallsTo tbl J 25 [y, x] h (v, own, false) ∧ NG h (h.plus own) v (nxtL M X) := by
  have hm := hv.1
  have h8 := isMat_n hm
  obtain ⟨n, hn⟩ : ∃ n, M.length = n := ⟨_, rfl⟩
  have hy0 : MR (frameOf h) y M := hy.lo []
  have hx0 : LR (frameOf h) x X := LR.lo hx []
  have hl := hv.2.1
  rcases hx0.cases with ⟨_, q⟩ | ⟨_, q⟩ | ⟨bx, vx, rfl, gx⟩
  · rw [q] at hl; simp at hl; omega
  · rw [q] at hl; simp at hl; omega
  rw [hl, hn] at hx hx0 ⊢
  refine Tr.fny (cf := c25) (e := .ret) (s := T.set (T.set .leaf [] y) [false] (.slice bx 0 n vx)) (by decide) rfl (hJ _ _) rfl rfl (by simp) ?_
  have t0 : Tr tbl J ((.seq c25_o0 c25_o1)) (fun s h' => s = T.set (T.set .leaf [] y) [false] (.slice bx 0 n vx) ∧ h' = frameOf h) .normal (fun s h' => s.get [] = y ∧ s.get [false] = .slice bx 0 n vx ∧ s.get [false, true] = .nils ∧ h' = frameOf h) := Tr.region fun s h hp => by
    obtain ⟨rfl, rfl⟩ := hp
    simp (disch := first | omega | exact getEq rfl | exact getO0 | exact Nat.le_of_ble_eq_true rfl) [c25_o0, c25_o1, came_some, goI, List.getElem?_cons_zero, List.getElem?_cons_succ, kn, keep, app_growP, app_noneP, plus_N, plus_at0, put_plus0, upd_N, upd_size, putAt, AV.cells, fillA, loadA, takeA, mk, Eff.isAll, Eff.isNone, Eff.commutes, Eff.spares, okPair, apart, eqAgg, fits, LK.fits, allEq, aveq, eqk, mmA, beqT, wrapI, idxI, tdivI, tmodI, decT, decF, ibT, ibF, inT, inF, evScope_c, if_pos, if_neg]
  have t00 : Tr tbl J (c25_o2) (fun s h' => s.get [] = y ∧ s.get [false] = .slice bx 0 n vx ∧ s.get [false, true] = .nils ∧ h' = frameOf h) .normal (fun s h' => s.get [] = y ∧ s.get [false] = .slice bx 0 n vx ∧ s.get [false, true] = .nils ∧ s.get [true, true] = G ((0 : Nat) : Int) ∧ h' = frameOf h) := Tr.region fun s h hp => by
    obtain ⟨g0, g1, g2, rfl⟩ := hp
    simp (disch := first | omega | exact getEq rfl | exact getO0 | exact Nat.le_of_ble_eq_true rfl) [c25_o2, came_some, goI, List.getElem?_cons_zero, List.getElem?_cons_succ, kn, keep, app_growP, app_noneP, plus_N, plus_at0, put_plus0, upd_N, upd_size, putAt, AV.cells, fillA, loadA, takeA, mk, Eff.isAll, Eff.isNone, Eff.commutes, Eff.spares, okPair, apart, eqAgg, fits, LK.fits, allEq, aveq, eqk, mmA, beqT, wrapI, idxI, tdivI, tmodI, decT, decF, ibT, ibF, inT, inF, evScope_c, if_pos, if_neg, g0, g1, g2]
  have hs := hy.sl
  rw [hn] at hs
  have tl := Tr.rounds (P := fun i s h' => ∃ w, s.get [] = y ∧ s.get [false] = .slice bx 0 n vx ∧ s.get [false, true] = w ∧ s.get [true, true] = G (i : Nat) ∧ NG (frameOf h) h' w (lf (fun i => nxv M X i n) i)) (M := n) (tbl := tbl) (I := J) (live := L25b) (c := c25_b1) (e := .exit 0)
    (Q := fun s h' => ∃ w, s.get [false, true] = w ∧ NG (frameOf h) h' w (lf (fun i => nxv M X i n) n))
    (fun i hi => Tr.exx fun w => Tr.fix (F := fun H => NG (frameOf h) H w (lf (fun i => nxv M X i n) i)) (P' := fun H s h' => s.get [] = y ∧ s.get [false] = .slice bx 0 n vx ∧ s.get [false, true] = w ∧ s.get [true, true] = G (i : Nat) ∧ h' = H)
      (fun H tg => by
        obtain ⟨b, v, cs, r, rfl, g, er, hr⟩ := (hy0.kp tg.k).row (show i < M.length by omega)
        obtain ⟨w1, e, h2, q1, q2, q3, q4⟩ := tg.app H.size (nxv M X i n) (by rw [lf_len]; omega)
        have t := n25_row J H (M := M) (X := X) hv hn hi g er hr (tg.k.at gx (by simp) id) q1 q2 q4
        rw [hn]
        exact Tr.post (fun s h' q => ⟨w1, q.1, q.2.1, q.2.2.1, q.2.2.2.1, by rw [q.2.2.2.2, lf_succ]; exact q3⟩) t) (fun s h' q => ⟨q.2.2.2.2, q.1, q.2.1, q.2.2.1, q.2.2.2.1, rfl⟩))
    (Tr.exx fun w => Tr.fix (F := fun H => NG (frameOf h) H w (lf (fun i => nxv M X i n) n)) (P' := fun H s h' => s.get [] = y ∧ s.get [false] = .slice bx 0 n vx ∧ s.get [false, true] = w ∧ s.get [true, true] = G (n : Nat) ∧ h' = H)
      (fun H tg => by
        have t : Tr tbl J ((.trim L25b c25_b1)) (fun s h' => s.get [] = y ∧ s.get [false] = .slice bx 0 n vx ∧ s.get [false, true] = w ∧ s.get [true, true] = G (n : Nat) ∧ h' = H) (.exit 0) (fun s h' => s.get [false, true] = w ∧ h' = H) := Tr.region fun s h hp => by
          obtain ⟨g0, g1, g2, g3, rfl⟩ := hp
          rcases hs with ⟨rfl, h0⟩ | ⟨rfl, h0⟩ | ⟨b, v, rfl⟩ <;> first | omega | simp (disch := first | omega | exact getEq rfl | exact getO0 | exact Nat.le_of_ble_eq_true rfl) [c25_b1, c25_o3, came_some, goI, List.getElem?_cons_zero, List.getElem?_cons_succ, kn, keep, app_growP, app_noneP, plus_N, plus_at0, put_plus0, upd_N, upd_size, putAt, AV.cells, fillA, loadA, takeA, mk, Eff.isAll, Eff.isNone, Eff.commutes, Eff.spares, okPair, apart, eqAgg, fits, LK.fits, allEq, aveq, eqk, mmA, beqT, wrapI, idxI, tdivI, tmodI, decT, decF, ibT, ibF, inT, inF, evScope_c, if_pos, if_neg, g0, g1, g2, g3]
        exact Tr.post (fun s h' q => ⟨w, q.1, by rw [q.2]; exact tg⟩) t) (fun s h' q => ⟨q.2.2.2.2, q.1, q.2.1, q.2.2.1, q.2.2.2.1, rfl⟩))
    (by simp) 0 (by omega)
  refine Tr.post (Q := fun s h' => NG (frameOf h) h' (s.get [true, false]) (nxtL M X)) ?_ (Tr.app2 t0 (Tr.seq (Tr.seq t00 (Tr.block (Tr.pre ?_ tl))) (Tr.exx fun w => Tr.fix (F := fun H => NG (frameOf h) H w (lf (fun i => nxv M X i n) n)) (P' := fun H s h' => s.get [false, true] = w ∧ h' = H) (fun H tg => ?_) (fun s h' q => ⟨q.2, q.1, rfl⟩))))
  · intro s h' q
    exact ⟨[s.get [true, false]], by simp [c25], NG.fr0 q⟩
  · intro s h' q
    exact ⟨.nils, q.1, q.2.1, q.2.2.1, q.2.2.2.1, by rw [q.2.2.2.2]; exact NG.nil _⟩
  ·
    have t : Tr tbl J ((.seq c25_o11 .ret)) (fun s h' => s.get [false, true] = w ∧ h' = H) .ret (fun s h' => s.get [true, false] = w ∧ h' = H) := Tr.region fun s h hp => by
      obtain ⟨g0, rfl⟩ := hp
      simp (disch := first | omega | exact getEq rfl | exact getO0 | exact Nat.le_of_ble_eq_true rfl) [c25_o11, came_some, goI, List.getElem?_cons_zero, List.getElem?_cons_succ, kn, keep, app_growP, app_noneP, plus_N, plus_at0, put_plus0, upd_N, upd_size, putAt, AV.cells, fillA, loadA, takeA, mk, Eff.isAll, Eff.isNone, Eff.commutes, Eff.spares, okPair, apart, eqAgg, fits, LK.fits, allEq, aveq, eqk, mmA, beqT, wrapI, idxI, tdivI, tmodI, decT, decF, ibT, ibF, inT, inF, evScope_c, if_pos, if_neg, g0]
    exact Tr.post (fun s h' q => by rw [q.1, q.2]; unfold nxtL; rw [hn]; exact tg) t
end
def Good25 (args : List AV) (h : Heap) (v : AV) (own : List AObj) : Prop := ∀ y x M X, args = [y, x] → MR h y M → LR h x X → vOk 0 M X → NG h (h.plus own) v (nxtL M X)
noncomputable def R19 : CallF := addX tbl R18 25 Good25
theorem s19 : Sound Go.Proofs.Try.prog R19 := Sound.addX follows ok s18 (by decide) Good25
abbrev K25 (J : CallF) : Prop := ∀ (h : Heap) (y x : AV) (M : List (List Int)) (X : List Int), MR h y M → LR h x X → vOk 0 M X → ∃ w own, J 25 [y, x] h = some (w, own, false) ∧ NG h (h.plus own) w (nxtL M X)
theorem k25 : K25 R19 := fun h y x M X hy hx hv => by
  obtain ⟨v, own, e, q⟩ := c25_ok R18 (fun _ _ => rfl) h hy hx hv
  obtain ⟨v', own', e', g⟩ := addX_some (tbl := tbl) (I := R18) (f := 25) (Good := Good25) (args := [y, x]) (h := h) ⟨_, _, e, fun y' x' M' X' hargs h1 h2 _ => by
    simp only [List.cons.injEq, and_true] at hargs
    obtain ⟨rfl, rfl⟩ := hargs
    obtain rfl := hy.inj h1
    obtain rfl := LR.inj hx h2
    exact q⟩
  exact ⟨v', own', e', g y x M X rfl hy hx hv⟩

end Go.Proofs.Ytjeemgaoonapgaa.Ev
