/-
  What Chances answers: two lists of fractions, one for each number of pieces. No condition.
-/
import Derived.Test.YtlkgpcfhpeilhaaSCourse
import Derived.Test.YtlkgpcfhpeilhaaSApp
import Derived.Test.YtlkgpcfhpeilhaaEvAny
set_option linter.unusedVariables false
set_option linter.unusedSimpArgs false
namespace Go.Proofs.Ytlkgpcfhpeilhaa.Ev
open Go Go.AEv

attribute [local simp] evFunc initS evOps_c evTrim_c evSkip_c evExit_c evRet_c evSeq_c evCond_c evBlock_c evDraw_c runOps_n runOps_c exec_n exec_g pure1_c act AOpd.ev T.get T.set T.put evBin evUn forceT_eq forceV_eq forceL_eq evRess evRes one keep runFP_n runFP_c app_none AV.flats AV.flat

/-! ### Lists of fractions that grow -/
def fz (U V : Nat → Int) : Nat → List AV
  | 0 => []
  | m + 1 => fz U V m ++ [G (U m), G (V m)]
theorem fz_len (U V : Nat → Int) : ∀ m, (fz U V m).length = 2 * m
  | 0 => rfl
  | m + 1 => by simp [fz, fz_len U V m]; omega
theorem fz_at (U V : Nat → Int) : ∀ (M d : Nat), d < M → ((fz U V M).drop (d * 2)).take 2 = [G (U d), G (V d)]
  | M + 1, d, h => by
    by_cases hd : d = M
    · subst hd
      rw [fz, List.drop_append_of_le_length (by rw [fz_len]; omega), List.drop_of_length_le (by rw [fz_len]; omega)]; rfl
    · rw [fz, List.drop_append_of_le_length (by rw [fz_len]; omega), List.take_append_of_le_length (by rw [List.length_drop, fz_len]; omega)]
      exact fz_at U V M d (by omega)
def LP (h : Heap) (x : AV) (U V : Nat → Int) (n : Nat) : Prop := (x = .nils ∧ n = 0) ∨ ∃ b, x = .slice b 0 n (2 * n) ∧ h.get b = .cells 2 (2 * n) (fz U V n) ∧ h.N ≤ b
section
variable {U V : Nat → Int} {n : Nat}
theorem LP.kp {M : Nat → Prop} {h h' : Heap} {x : AV} (l : LP h x U V n) (k : Kp M h h') (hm : ∀ b, blk x = some b → ¬ M b) : LP h' x U V n := by
  rcases l with l | ⟨b, rfl, g, hn⟩
  · exact .inl l
  · exact .inr ⟨b, rfl, k.at g (by simp) (hm b rfl), by rw [k.N]; exact hn⟩
theorem LP.lt {h : Heap} {x : AV} (l : LP h x U V n) {b : Nat} (hb : blk x = some b) : ∃ v cs, h.get b = .cells 2 v cs := by
  rcases l with ⟨rfl, rfl⟩ | ⟨b', rfl, g, hn⟩
  · cases hb
  · cases hb; exact ⟨_, _, g⟩
theorem fill_p0 (h : Heap) (x : AObj) (xs : List AObj) : Eff.app (.fill h.size x) (h.plus (.hole :: xs)) = some (h.plus (x :: xs)) := by
  have h1 : ¬ h.size < h.N := by unfold Heap.size; omega
  have h2 : h.size - h.N = h.own.length := by unfold Heap.size; omega
  simp only [Eff.app, Heap.plus, h1, if_false, h2]
  rw [List.getElem?_append_right (by omega), Nat.sub_self]
  simp only [List.getElem?_cons_zero, Heap.setOwn_eq, h2]
  rw [List.set_append_right _ _ (by omega), Nat.sub_self]; rfl
theorem fill_p1 (h : Heap) (t x : AObj) : Eff.app (.fill (h.size + 1) x) (h.plus [t, .hole]) = some (h.plus [t, x]) := by
  have := fill_p0 (h.plus [t]) x []
  rw [plus_plus, plus_plus, plus_size] at this
  exact this
theorem app_fr (X : Heap) {x0 : AV} (hx : LP X x0 U V n) (hn : n ≤ 1000) :
    ∃ e h1 q, appA (X.plus [.cells 2 2 [G (U n), G (V n)], .hole]) X.size (some 1) 2 16 1 [G (U n), G (V n)] x0 = some (.slice q 0 (n + 1) (2 * (n + 1)), e) ∧ Eff.app e (X.plus [.cells 2 2 [G (U n), G (V n)], .hole]) = some h1 ∧ LP h1 (.slice q 0 (n + 1) (2 * (n + 1))) U V (n + 1) ∧ Kp (fun b => blk x0 = some b) X h1 ∧ (some q = blk x0 ∨ q = X.size + 1) ∧ e.isAll = false ∧ h1.size = X.size + 2 := by
  rcases hx with ⟨rfl, rfl⟩ | ⟨b, rfl, g, hN⟩
  · refine ⟨.fill (X.size + 1) (.cells 2 2 [G (U 0), G (V 0)]), X.plus [.cells 2 2 [G (U 0), G (V 0)], .cells 2 2 [G (U 0), G (V 0)]], X.size + 1, ?_, fill_p1 _ _ _, .inr ⟨X.size + 1, rfl, ?_, ?_⟩, Kp.plus _ _, .inr rfl, rfl, by rw [plus_size]; rfl⟩
    · simp [appA, mk]
    · rw [plus_ge _ _ _ (by omega), Nat.add_sub_cancel_left]; rfl
    · rw [plus_N]; unfold Heap.size; omega
  · have hlt := get_lt g (by simp)
    have g2 := plus_keep [.cells 2 2 [G (U n), G (V n)], .hole] g (by simp)
    have he := ext_gen (X.plus [.cells 2 2 [G (U n), G (V n)], .hole]) b (2 * n) 2 (fz U V n) [G (U n), G (V n)] (by rw [plus_N]; exact hN) g2 (fz_len U V n)
    refine ⟨.ext b (2 * n) 2 [G (U n), G (V n)], _, b, ?_, he, .inr ⟨b, rfl, ?_, by rw [upd_N, plus_N]; exact hN⟩, (Kp.plus _ _).trans (Kp.upd _ _ _ (by rw [plus_N]; exact hN) rfl), .inl rfl, rfl, by rw [upd_size, plus_size]; rfl⟩
    · simp only [appA]
      rw [if_neg (by decide), if_pos ⟨trivial, by omega, by omega⟩]
      simp; omega
    · exact upd_same _ _ _ (by rw [plus_N]; exact hN) (by rw [plus_size]; omega)
theorem evDraw_2 (r : Rec) (os : List COper) (ps : List (Nat × Nat)) (anc : List (List Nat)) (s : T) (h : Heap) : evCode r (.draw 2 os ps anc) s h = match runFP r.call h os s (h.plus [.hole, .hole]) with
    | some (s', h', fps) => if ps.all (fun p => okPair h.size (fps.getD p.1 {}) (fps.getD p.2 {})) && fps.all (fun f => !f.eff.isAll) then some (.normal, s', h') else none
    | none => none := evDraw_c r 2 os ps anc s h
end

/-! ### One visit -/
structure Z39 (S : Nat) (lot bad : Int) (A B C D : Nat → Int) (i : Nat) (h : Heap) : Prop where
  n0 : h.N = S
  f3 : h.get S = .cells 0 1 [G lot]
  f4 : h.get (S + 1) = .cells 0 1 [G bad]
  ft : h.get (S + 3) = .cells 0 1369 (tri 37 0)
  f9 : h.get (S + 4) = .cells 0 1 [.ptr (S + 3) 0 1369]
  sz : S + 12 ≤ h.size
  ls : ∃ xa xr, h.get (S + 5) = .cells 0 1 [xa] ∧ h.get (S + 6) = .cells 0 1 [xr] ∧ LP h xa A B i ∧ LP h xr C D i ∧ (∀ q, blk xa = some q → S + 12 < q ∧ blk xr ≠ some q) ∧ (∀ q, blk xr = some q → S + 12 < q)
abbrev N39 (S q : Nat) : Prop := q = S + 5 ∨ q = S + 6 ∨ S + 12 < q
abbrev M39 (S q : Nat) : Prop := q = S + 11 ∨ N39 S q
section
variable {S i : Nat} {lot bad y z : Int} {A B C D : Nat → Int} {s0 : T}
theorem Z39.kp {h h' : Heap} (x : Z39 S lot bad A B C D i h) (k : Kp (fun q => q = S + 11 ∨ q = S + 12) h h') : Z39 S lot bad A B C D i h' := by
  obtain ⟨n0, f3, f4, ft, f9, sz, xa, xr, g5, g6, l1, l2, d1, d2⟩ := x
  exact ⟨by rw [k.N, n0], k.at f3 (by simp) (by omega), k.at f4 (by simp) (by omega), k.at ft (by simp) (by omega), k.at f9 (by simp) (by omega), Nat.le_trans sz k.size, xa, xr, k.at g5 (by simp) (by omega), k.at g6 (by simp) (by omega),
    l1.kp k (fun q hq => by have := d1 q hq; omega), l2.kp k (fun q hq => by have := d2 q hq; omega), d1, d2⟩

set_option maxHeartbeats 1000000 in
theorem ch_body (J : CallF) (K : Kn J) (X : Heap) (d : Nat) (x : Z39 S lot bad A B C D i X) (fd : X.get d = .cells 0 2 [G y, G z]) (hd : d ≠ S + 5 ∧ d ≠ S + 6) (hi : i < 36) (hl : lot ≤ 36) (hb : 0 ≤ bad ∧ bad ≤ lot) (hy : 0 ≤ y ∧ y ≤ 68719476736) (hz : 0 ≤ z ∧ z ≤ 68719476736)
    (e1 : fr y (ofZ lot bad) = .agg [G (A i), G (B i)]) (e2 : fr z (ofZ lot bad) = .agg [G (C i), G (D i)]) :
    ∃ X', Tr tbl J c39_r0 (fun s h => s.get [false, false] = .ptr S 0 1 ∧ s.get [true, false] = .ptr (S + 1) 0 1 ∧ s.get [false, true, false] = .ptr (S + 4) 0 1 ∧ s.get [true, true, false] = .ptr (S + 5) 0 1 ∧ s.get [false, false, true] = .ptr (S + 6) 0 1 ∧ s.get [false, true, true] = .ptr d 0 2 ∧ h = X) .normal (fun s h => h = X') ∧ Kp (N39 S) X X' ∧ Z39 S lot bad A B C D (i + 1) X' := by
  obtain ⟨n0, f3, f4, ft, f9, sz, xa, xr, m5, m6, l1, l2, d1, d2⟩ := x
  have q1 := ofZ_36 (lot := lot) (bad := bad) hl
  have q2 := ofZ_pos (n := lot) (k := bad) hb.1 hb.2
  -- the list of those accepted
  obtain ⟨ea, h1, qa, a1, a2, a3, a4, a5, a6, a7⟩ := app_fr X l1 (by omega)
  have hda : blk xa ≠ some d := fun e => by obtain ⟨v, cs, g⟩ := l1.lt e; rw [fd] at g; cases g
  have hdr : blk xr ≠ some d := fun e => by obtain ⟨v, cs, g⟩ := l2.lt e; rw [fd] at g; cases g
  have ng : ∀ {b : Nat}, b ≤ S + 12 → ¬ blk xa = some b := fun hb e => by have := (d1 _ e).1; omega
  have ngr : ∀ {b : Nat}, b ≤ S + 12 → ¬ blk xr = some b := fun hb e => by have := d2 _ e; omega
  have m5' := a4.at m5 (by simp) (ng (by omega))
  have p5 : Eff.app (.put (S + 5) 1 0 [.slice qa 0 (i + 1) (2 * (i + 1))]) h1 = some (h1.upd (S + 5) (.cells 0 1 [.slice qa 0 (i + 1) (2 * (i + 1))])) := put_gen _ _ _ _ _ _ _ (by rw [a4.N]; omega) m5' (by simp)
  obtain ⟨X2, hX2⟩ : ∃ X2, h1.upd (S + 5) (.cells 0 1 [.slice qa 0 (i + 1) (2 * (i + 1))]) = X2 := ⟨_, rfl⟩
  have ku : Kp (· = S + 5) h1 X2 := by rw [← hX2]; exact Kp.upd _ _ _ (by rw [a4.N]; omega) rfl
  have n2 : X2.N = S := by rw [ku.N, a4.N, n0]
  have s2 : X2.size = X.size + 2 := by rw [← hX2, upd_size, a7]
  have k2 : Kp (N39 S) X X2 := (a4.mono (fun b _ e => .inr (.inr ((d1 b e).1)))).trans (ku.mono (fun b _ e => .inl e))
  have u3 := ku.at (a4.at f3 (by simp) (ng (by omega))) (by simp) (by omega)
  have u4 := ku.at (a4.at f4 (by simp) (ng (by omega))) (by simp) (by omega)
  have ut := ku.at (a4.at ft (by simp) (ng (by omega))) (by simp) (by omega)
  have u9 := ku.at (a4.at f9 (by simp) (ng (by omega))) (by simp) (by omega)
  have u6 := ku.at (a4.at m6 (by simp) (ng (by omega))) (by simp) (by omega)
  have ud := ku.at (a4.at fd (by simp) hda) (by simp) (by omega)
  have u5 : X2.get (S + 5) = .cells 0 1 [.slice qa 0 (i + 1) (2 * (i + 1))] := by rw [← hX2]; exact upd_same _ _ _ (by rw [a4.N]; omega) (get_lt m5' (by simp))
  have hqa : S + 12 < qa ∧ blk xr ≠ some qa := by
    rcases a5 with e | e
    · exact d1 qa e.symm
    · refine ⟨by omega, fun e' => ?_⟩
      obtain ⟨v, cs, g⟩ := l2.lt e'
      have := get_lt g (by simp); omega
  have v1 : LP X2 (.slice qa 0 (i + 1) (2 * (i + 1))) A B (i + 1) := a3.kp ku (fun b e => by cases e; omega)
  have v2 : LP X2 xr C D i := (l2.kp a4 (fun b e e' => (d1 b e').2 e)).kp ku (fun b e => by have := d2 b e; omega)
  have h58 := K.k58 (X.plus [.hole, .hole]) (S + 3) lot bad (plus_keep _ ft (by simp)) (by omega)
  have h56 := K.k56 (X.plus [.hole, .hole]) y (ofZ lot bad) (by omega) (by omega) (by omega) (by omega)
  have o5 := plus_keep [.hole, .hole] m5 (by simp)
  have o3 := plus_keep [.hole, .hole] f3 (by simp)
  have o4 := plus_keep [.hole, .hole] f4 (by simp)
  have o9 := plus_keep [.hole, .hole] f9 (by simp)
  have od := plus_keep [.hole, .hole] fd (by simp)
  have hdd := get_lt fd (by simp)
  unfold Eff.isAll at a6
  have t6 : Tr tbl J (c39_o6) (fun s h => s.get [false, false] = .ptr S 0 1 ∧ s.get [true, false] = .ptr (S + 1) 0 1 ∧ s.get [false, true, false] = .ptr (S + 4) 0 1 ∧ s.get [true, true, false] = .ptr (S + 5) 0 1 ∧ s.get [false, false, true] = .ptr (S + 6) 0 1 ∧ s.get [false, true, true] = .ptr d 0 2 ∧ h = X) .normal (fun s h => s.get [false, false] = .ptr S 0 1 ∧ s.get [true, false] = .ptr (S + 1) 0 1 ∧ s.get [false, true, false] = .ptr (S + 4) 0 1 ∧ s.get [false, false, true] = .ptr (S + 6) 0 1 ∧ s.get [false, true, true] = .ptr d 0 2 ∧ h = X2) := Tr.region fun s h hp => by
    obtain ⟨g0, g1, g2, g3, g4, g5, rfl⟩ := hp
    simp (disch := first | omega | exact getEq rfl | exact getO0 | exact Nat.le_of_ble_eq_true rfl) [-evDraw_c, c39_o6, came_some, goI, List.getElem?_cons_zero, List.getElem?_cons_succ, kn, keep, app_growP, app_noneP, plus_N, plus_at0, put_plus0, upd_N, upd_size, putAt, AV.cells, fillA, loadA, takeA, mk, Eff.isAll, Eff.isNone, Eff.commutes, Eff.spares, okPair, apart, eqAgg, fits, LK.fits, allEq, aveq, eqk, mmA, beqT, wrapI, idxI, tdivI, tmodI, decT, decF, ibT, ibF, inT, inF, evScope_c, if_pos, if_neg, g0, g1, g2, g3, g4, g5, evDraw_2, h58, h56, o5, o3, o4, o9, od, e1, fill_p0, a1, a2, a6, p5, hX2, elems, rdOf, nnT]
  -- the list of those rejected
  obtain ⟨eb, h2, qr, b1, b2, b3, b4, b5, b6, b7⟩ := app_fr X2 v2 (by omega)
  have m6' := b4.at u6 (by simp) (ngr (by omega))
  have p6 : Eff.app (.put (S + 6) 1 0 [.slice qr 0 (i + 1) (2 * (i + 1))]) h2 = some (h2.upd (S + 6) (.cells 0 1 [.slice qr 0 (i + 1) (2 * (i + 1))])) := put_gen _ _ _ _ _ _ _ (by rw [b4.N]; omega) m6' (by simp)
  obtain ⟨X3, hX3⟩ : ∃ X3, h2.upd (S + 6) (.cells 0 1 [.slice qr 0 (i + 1) (2 * (i + 1))]) = X3 := ⟨_, rfl⟩
  have kv : Kp (· = S + 6) h2 X3 := by rw [← hX3]; exact Kp.upd _ _ _ (by rw [b4.N]; omega) rfl
  have k3 : Kp (N39 S) X2 X3 := (b4.mono (fun b _ e => .inr (.inr (d2 b e)))).trans (kv.mono (fun b _ e => .inr (.inl e)))
  have h58' := K.k58 (X2.plus [.hole, .hole]) (S + 3) lot bad (plus_keep _ ut (by simp)) (by omega)
  have h56' := K.k56 (X2.plus [.hole, .hole]) z (ofZ lot bad) (by omega) (by omega) (by omega) (by omega)
  have w6 := plus_keep [.hole, .hole] u6 (by simp)
  have w3 := plus_keep [.hole, .hole] u3 (by simp)
  have w4 := plus_keep [.hole, .hole] u4 (by simp)
  have w9 := plus_keep [.hole, .hole] u9 (by simp)
  have wd := plus_keep [.hole, .hole] ud (by simp)
  unfold Eff.isAll at b6
  have t7 : Tr tbl J (c39_o7) (fun s h => s.get [false, false] = .ptr S 0 1 ∧ s.get [true, false] = .ptr (S + 1) 0 1 ∧ s.get [false, true, false] = .ptr (S + 4) 0 1 ∧ s.get [false, false, true] = .ptr (S + 6) 0 1 ∧ s.get [false, true, true] = .ptr d 0 2 ∧ h = X2) .normal (fun s h => h = X3) := Tr.region fun s h hp => by
    obtain ⟨g0, g1, g2, g3, g4, rfl⟩ := hp
    simp (disch := first | omega | exact getEq rfl | exact getO0 | exact Nat.le_of_ble_eq_true rfl) [-evDraw_c, c39_o7, came_some, goI, List.getElem?_cons_zero, List.getElem?_cons_succ, kn, keep, app_growP, app_noneP, plus_N, plus_at0, put_plus0, upd_N, upd_size, putAt, AV.cells, fillA, loadA, takeA, mk, Eff.isAll, Eff.isNone, Eff.commutes, Eff.spares, okPair, apart, eqAgg, fits, LK.fits, allEq, aveq, eqk, mmA, beqT, wrapI, idxI, tdivI, tmodI, decT, decF, ibT, ibF, inT, inF, evScope_c, if_pos, if_neg, g0, g1, g2, g3, g4, evDraw_2, h58', h56', w6, w3, w4, w9, wd, e2, fill_p0, b1, b2, b6, p6, hX3, elems, rdOf, nnT]
  have hqr : S + 12 < qr := by
    rcases b5 with e | e
    · exact d2 qr e.symm
    · omega
  have hne : qa ≠ qr := by
    rcases b5 with e | e
    · exact fun q => hqa.2 (by rw [q]; exact e.symm)
    · intro q
      rcases v1 with ⟨e', _⟩ | ⟨b, e', g, _⟩
      · cases e'
      · cases e'; have := get_lt g (by simp); omega
  refine ⟨X3, Tr.block_out (Tr.seq t6 t7) (by simp), k2.trans k3, by rw [kv.N, b4.N, n2], ?_, ?_, ?_, ?_, by have := k2.size; have := k3.size; omega, _, _, kv.at (b4.at u5 (by simp) (ngr (by omega))) (by simp) (by omega), ?_, (v1.kp b4 (fun b e e' => hqa.2 (by cases e; exact e'))).kp kv (fun b e => by cases e; omega), b3.kp kv (fun b e => by cases e; omega), fun q e => ?_, fun q e => ?_⟩
  · exact kv.at (b4.at u3 (by simp) (ngr (by omega))) (by simp) (by omega)
  · exact kv.at (b4.at u4 (by simp) (ngr (by omega))) (by simp) (by omega)
  · exact kv.at (b4.at ut (by simp) (ngr (by omega))) (by simp) (by omega)
  · exact kv.at (b4.at u9 (by simp) (ngr (by omega))) (by simp) (by omega)
  · rw [← hX3]; exact upd_same _ _ _ (by rw [b4.N]; omega) (get_lt m6' (by simp))
  · cases e; exact ⟨hqa.1, fun e' => hne (by cases e'; rfl)⟩
  · cases e; exact hqr

theorem ch_yield (J : CallF) (K : Kn J) (h : Heap) (x : Z39 S lot bad A B C D i h) (l : h.get (S + 11) = .loop .ready none s0 [[true, true, true, true], [false, false, false, false, false]] c39_o8 c39_r0) (h3 : s0.get [false, false] = .ptr S 0 1) (h4 : s0.get [true, false] = .ptr (S + 1) 0 1) (h9 : s0.get [false, true, false] = .ptr (S + 4) 0 1) (h10 : s0.get [true, true, false] = .ptr (S + 5) 0 1) (h11 : s0.get [false, false, true] = .ptr (S + 6) 0 1) (hi : i < 36) (hl : lot ≤ 36) (hb : 0 ≤ bad ∧ bad ≤ lot) (hy : 0 ≤ y ∧ y ≤ 68719476736) (hz : 0 ≤ z ∧ z ≤ 68719476736)
    (e1 : fr y (ofZ lot bad) = .agg [G (A i), G (B i)]) (e2 : fr z (ofZ lot bad) = .agg [G (C i), G (D i)]) :
    ∃ own, CallsTo tbl J 0 [.yld (S + 11), G ((i + 1 : Nat) : Int), .agg [G y, G z]] h (.bool true, own, true) ∧ Kp (M39 S) h ⟨h.lo, h.N, own⟩ ∧ Z39 S lot bad A B C D (i + 1) ⟨h.lo, h.N, own⟩ ∧ Heap.get ⟨h.lo, h.N, own⟩ (S + 11) = .loop .ready none s0 [[true, true, true, true], [false, false, false, false, false]] c39_o8 c39_r0 := by
  have n0 := x.n0
  have hlt := get_lt l (by simp)
  have t8 : Tr tbl J c39_o8 (fun s h' => s.get [false, false] = .ptr S 0 1 ∧ s.get [true, false] = .ptr (S + 1) 0 1 ∧ s.get [false, true, false] = .ptr (S + 4) 0 1 ∧ s.get [true, true, false] = .ptr (S + 5) 0 1 ∧ s.get [false, false, true] = .ptr (S + 6) 0 1 ∧ s.get [false, false, false, false, false] = .agg [G y, G z] ∧ h' = h) .normal (fun s h' => s.get [false, false] = .ptr S 0 1 ∧ s.get [true, false] = .ptr (S + 1) 0 1 ∧ s.get [false, true, false] = .ptr (S + 4) 0 1 ∧ s.get [true, true, false] = .ptr (S + 5) 0 1 ∧ s.get [false, false, true] = .ptr (S + 6) 0 1 ∧ s.get [false, true, true] = .ptr h.size 0 2 ∧ h' = h.plus [.cells 0 2 [G y, G z]]) := by
    have t : Tr tbl J (c39_o8) (fun s h' => s.get [false, false] = .ptr S 0 1 ∧ s.get [true, false] = .ptr (S + 1) 0 1 ∧ s.get [false, true, false] = .ptr (S + 4) 0 1 ∧ s.get [true, true, false] = .ptr (S + 5) 0 1 ∧ s.get [false, false, true] = .ptr (S + 6) 0 1 ∧ s.get [false, false, false, false, false] = .agg [G y, G z] ∧ h' = h) .normal (fun s h' => s.get [false, false] = .ptr S 0 1 ∧ s.get [true, false] = .ptr (S + 1) 0 1 ∧ s.get [false, true, false] = .ptr (S + 4) 0 1 ∧ s.get [true, true, false] = .ptr (S + 5) 0 1 ∧ s.get [false, false, true] = .ptr (S + 6) 0 1 ∧ s.get [false, true, true] = .ptr h.size 0 2 ∧ h' = h.plus [.cells 0 2 [G y, G z]]) := Tr.region fun s h hp => by
      obtain ⟨g0, g1, g2, g3, g4, g5, rfl⟩ := hp
      simp (disch := first | omega | exact getEq rfl | exact getO0 | exact Nat.le_of_ble_eq_true rfl) [c39_o8, came_some, goI, List.getElem?_cons_zero, List.getElem?_cons_succ, kn, keep, app_growP, app_noneP, plus_N, plus_at0, put_plus0, upd_N, upd_size, putAt, AV.cells, fillA, loadA, takeA, mk, Eff.isAll, Eff.isNone, Eff.commutes, Eff.spares, okPair, apart, eqAgg, fits, LK.fits, allEq, aveq, eqk, mmA, beqT, wrapI, idxI, tdivI, tmodI, decT, decF, ibT, ibF, inT, inF, evScope_c, if_pos, if_neg, g0, g1, g2, g3, g4, g5]
    exact t
  have ss : ∀ p, p ≠ [true, true, true, true] → p ≠ [false, false, false, false, false] → ((s0.set [true, true, true, true] (G ((i + 1 : Nat) : Int))).set [false, false, false, false, false] (.agg [G y, G z])).get p = s0.get p := fun p p1 p2 => by
    rw [T.get_set, if_neg (fun e => p2 e.symm), T.get_set, if_neg (fun e => p1 e.symm)]
  obtain ⟨s1, h1, r1, q3, q4, q9, q10, q11, q13, rfl⟩ := t8 ((s0.set [true, true, true, true] (G ((i + 1 : Nat) : Int))).set [false, false, false, false, false] (.agg [G y, G z])) h
    ⟨by rw [ss _ (by simp) (by simp)]; exact h3, by rw [ss _ (by simp) (by simp)]; exact h4, by rw [ss _ (by simp) (by simp)]; exact h9, by rw [ss _ (by simp) (by simp)]; exact h10, by rw [ss _ (by simp) (by simp)]; exact h11, by rw [T.get_set, if_pos rfl], rfl⟩
  have l1 : (h.plus [.cells 0 2 [G y, G z]]).get (S + 11) = .loop .ready none s0 [[true, true, true, true], [false, false, false, false, false]] c39_o8 c39_r0 := plus_keep _ l (by simp)
  obtain ⟨X, hX⟩ : ∃ X, (h.plus [.cells 0 2 [G y, G z]]).upd (S + 11) (.loop .busy none s0 [[true, true, true, true], [false, false, false, false, false]] c39_o8 c39_r0) = X := ⟨_, rfl⟩
  have kX : Kp (· = S + 11) h X := by rw [← hX]; exact (Kp.plus h _).trans (Kp.upd _ _ _ (by rw [plus_N]; omega) rfl)
  have zX := x.kp (kX.mono (fun _ _ e => .inl e))
  have xd : X.get h.size = .cells 0 2 [G y, G z] := by rw [← hX, upd_ne _ _ _ _ (by rw [plus_N]; omega) (by omega)]; exact plus_at0 _ _ _ _ rfl
  have xl : X.get (S + 11) = .loop .busy none s0 [[true, true, true, true], [false, false, false, false, false]] c39_o8 c39_r0 := by rw [← hX]; exact upd_same _ _ _ (by rw [plus_N]; omega) (by rw [plus_size]; omega)
  obtain ⟨Y, hY, kY, zY⟩ := ch_body J K X h.size zX xd (by omega) hi hl hb hy hz e1 e2
  obtain ⟨s2, h2, r2, rfl⟩ := hY s1 X ⟨q3, q4, q9, q10, q11, q13, rfl⟩
  have yl := kY.at xl (by simp) (by omega)
  have hYs := get_lt yl (by simp)
  rw [← hX] at r2
  have nY := zY.n0
  have hc := CallsTo.yld (args := [G ((i + 1 : Nat) : Int), .agg [G y, G z]]) (by omega) l rfl r1 (by rw [plus_N]; omega) l1 r2 (by omega) yl
  have hYo : (⟨h.lo, h.N, (h2.upd (S + 11) (.loop .ready none s0 [[true, true, true, true], [false, false, false, false, false]] c39_o8 c39_r0)).own⟩ : Heap) = h2.upd (S + 11) (.loop .ready none s0 [[true, true, true, true], [false, false, false, false, false]] c39_o8 c39_r0) := by
    rw [← kX.lo, ← kX.N, ← kY.lo, ← kY.N]; rfl
  have kU : Kp (· = S + 11) h2 (h2.upd (S + 11) (.loop .ready none s0 [[true, true, true, true], [false, false, false, false, false]] c39_o8 c39_r0)) := Kp.upd _ _ _ (by omega) rfl
  refine ⟨_, hc, ?_, ?_, ?_⟩
  · rw [hYo]; exact ((kX.mono (fun _ _ e => .inl e)).trans (kY.mono (fun _ _ e => .inr e))).trans (kU.mono (fun _ _ e => .inl e))
  · rw [hYo]; exact zY.kp (kU.mono (fun _ _ e => .inl e))
  · rw [hYo]; exact upd_same _ _ _ (by omega) hYs
end

/-! ### The whole -/
abbrev yU (lot bad : Int) (A R : Nat → Int) (k : Nat) : Int := frU (yC lot bad A R k) (ofZ lot bad)
abbrev yV (lot bad : Int) (A R : Nat → Int) (k : Nat) : Int := frV (yC lot bad A R k) (ofZ lot bad)
abbrev nU (lot bad : Int) (A R : Nat → Int) (k : Nat) : Int := frU (nC lot bad A R k) (ofZ lot bad)
abbrev nV (lot bad : Int) (A R : Nat → Int) (k : Nat) : Int := frV (nC lot bad A R k) (ofZ lot bad)
def gp39 (S bA vA bR vR n : Nat) (lot bad : Int) (A R : Nat → Int) (ca cr : List AV) : Gp := ⟨S + 11, S + 10, S + 7, S + 8, S + 9, S + 3, bA, vA, bR, vR, n, S + 12, lot, bad, A, R, ca, cr⟩
abbrev I39 (S : Nat) (s0 : T) (lot bad : Int) (A R : Nat → Int) (i : Nat) (h : Heap) : Prop := Z39 S lot bad (yU lot bad A R) (yV lot bad A R) (nU lot bad A R) (nV lot bad A R) i h ∧ h.get (S + 11) = .loop .ready none s0 [[true, true, true, true], [false, false, false, false, false]] c39_o8 c39_r0
theorem feed39 (J : CallF) (K : Kn J) {S bA vA bR vR n : Nat} {lot bad : Int} {A R : Nat → Int} {ca cr : List AV} {s0 : T} (g : H4 lot bad n) (hA : bA < S) (hR : bR < S) (h3 : s0.get [false, false] = .ptr S 0 1) (h4 : s0.get [true, false] = .ptr (S + 1) 0 1) (h9 : s0.get [false, true, false] = .ptr (S + 4) 0 1) (h10 : s0.get [true, true, false] = .ptr (S + 5) 0 1) (h11 : s0.get [false, false, true] = .ptr (S + 6) 0 1) :
    Feed J (gp39 S bA vA bR vR n lot bad A R ca cr) (M39 S) (I39 S s0 lot bad A R) := by
  have n2 := g.n2
  have l2 := g.l2
  have b1 := g.b1
  have b2 := g.b2
  refine ⟨fun i h hi x => ?_, fun i h h' x k => ?_, ?_, ?_⟩
  · have hi' : i < n := hi
    have k3 := ofZ_36 (lot := lot) (bad := bad) l2
    have k6 := yn_all (lot := lot) (bad := bad) (A := A) (R := R) i (i + 2) (by omega) b1 b2
    have k7 : yC lot bad A R i + nC lot bad A R i ≤ ofZ lot bad := k6
    exact ch_yield (i := i) (y := yC lot bad A R i) (z := nC lot bad A R i) J K h x.1 x.2 h3 h4 h9 h10 h11 (by omega) l2 ⟨b1, b2⟩ (by omega) (by omega) rfl rfl
  · exact ⟨x.1.kp (k.mono (fun _ _ e => .inr e)), k.at x.2 (by simp) (by show ¬ S + 11 = S + 12; omega)⟩
  · constructor <;> (simp only [gp39, M39, N39]; omega)
  · simp only [gp39, M39, N39]; omega

abbrev H39 (h : Heap) (x y : AV) (lot bad : Int) : Heap := ⟨h.get, h.size, [.cells 0 1 [G lot], .cells 0 1 [G bad], .cells 0 2 [x, y], .cells 0 1369 (tri 37 0), .cells 0 1 [.ptr (h.size + 3) 0 1369], .cells 0 1 [.nils], .cells 0 1 [.nils], .cells 0 1 [.ptr (h.size + 3) 0 1369], .cells 0 1 [G lot], .cells 0 1 [G bad], .cells 0 2 [x, y]]⟩
section
variable {bA vA bR vR n : Nat} {lot bad : Int} {A R : Nat → Int} {ca cr : List AV}
abbrev F39 (S : Nat) : SP := (fun s h => s.get [false, false] = .ptr S 0 1 ∧ s.get [true, false] = .ptr (S + 1) 0 1 ∧ s.get [false, true, false] = .ptr (S + 4) 0 1 ∧ s.get [true, true, false] = .ptr (S + 5) 0 1 ∧ s.get [false, false, true] = .ptr (S + 6) 0 1)

theorem c39_range (J : CallF) (K : Kn J) (h70 : ∀ a h, J 70 a h = none) (g : H4 lot bad n) (h : Heap) (gA : h.get bA = .cells 1 vA ca) (gR : h.get bR = .cells 1 vR cr) (hca : ∀ i, i < n → ca[i]? = some (G (A i))) (hcr : ∀ i, i < n → cr[i]? = some (G (R i))) :
    Tr tbl J (.range (.s [false, true, true, true]) [[true, true, true, true], [false, false, false, false, false]] c39_o8 c39_r0) (fun s h' => F39 h.size s h' ∧ s.get [false, true, true, true] = .func 70 [.ptr (h.size + 10) 0 2, .ptr (h.size + 7) 0 1, .ptr (h.size + 8) 0 1, .ptr (h.size + 9) 0 1] ∧ h' = H39 h (.slice bA 0 n vA) (.slice bR 0 n vR) lot bad) .normal
      (fun s h' => F39 h.size s h' ∧ Z39 h.size lot bad (yU lot bad A R) (yV lot bad A R) (nU lot bad A R) (nV lot bad A R) n h' ∧ h'.lo = h.get) := fun s h' hp => by
  obtain ⟨hF, h29, hH⟩ := hp
  have lA := get_lt gA (by simp)
  have lR := get_lt gR (by simp)
  have hs : h'.size = h.size + 11 := by rw [hH]; rfl
  have hN : h'.N = h.size := by rw [hH]
  have hL : h'.lo = h.get := by rw [hH]
  have hget : ∀ j x, [AObj.cells 0 1 [G lot], .cells 0 1 [G bad], .cells 0 2 [.slice bA 0 n vA, .slice bR 0 n vR], .cells 0 1369 (tri 37 0), .cells 0 1 [.ptr (h.size + 3) 0 1369], .cells 0 1 [.nils], .cells 0 1 [.nils], .cells 0 1 [.ptr (h.size + 3) 0 1369], .cells 0 1 [G lot], .cells 0 1 [G bad], .cells 0 2 [.slice bA 0 n vA, .slice bR 0 n vR]][j]? = some x → h'.get (h.size + j) = x := fun j x hx => by
    rw [hH, get_mk_ge _ _ _ _ (by omega), Nat.add_sub_cancel_left, List.getD_eq_getElem?_getD, hx]; rfl
  have hlo : ∀ b, b < h.size → h'.get b = h.get b := fun b hb => by rw [hH, get_mk_lt _ _ _ _ hb]
  obtain ⟨H0, hH0⟩ : ∃ X, h'.plus [.loop .ready none s [[true, true, true, true], [false, false, false, false, false]] c39_o8 c39_r0] = X := ⟨_, rfl⟩
  have k0 : ∀ b x, h'.get b = x → x ≠ .hole → H0.get b = x := fun b x e hx => by rw [← hH0]; exact plus_keep _ e hx
  have hf : GF (gp39 h.size bA vA bR vR n lot bad A R ca cr) H0 :=
    ⟨k0 _ _ (hget 10 _ rfl) (by simp), k0 _ _ ((hlo _ lA).trans gA) (by simp), k0 _ _ ((hlo _ lR).trans gR) (by simp), k0 _ _ (hget 7 _ rfl) (by simp), k0 _ _ (hget 8 _ rfl) (by simp), k0 _ _ (hget 9 _ rfl) (by simp), k0 _ _ (hget 3 _ rfl) (by simp)⟩
  have hg : GH (gp39 h.size bA vA bR vR n lot bad A R ca cr) := ⟨g.n1, g.n2, g.l2, g.b1, g.b2, hca, hcr, by constructor <;> (simp only [gp39]; omega)⟩
  have hl0 : H0.get (h.size + 11) = .loop .ready none s [[true, true, true, true], [false, false, false, false, false]] c39_o8 c39_r0 := by rw [← hH0]; exact plus_at0 _ _ _ _ hs
  have hs0 : H0.size = h.size + 12 := by rw [← hH0, plus_size, hs]; rfl
  have hi0 : I39 h.size s lot bad A R 0 H0 := ⟨⟨by rw [← hH0, plus_N, hN], k0 _ _ (hget 0 _ rfl) (by simp), k0 _ _ (hget 1 _ rfl) (by simp), k0 _ _ (hget 3 _ rfl) (by simp), k0 _ _ (hget 4 _ rfl) (by simp), by omega, .nils, .nils, k0 _ _ (hget 5 _ rfl) (by simp), k0 _ _ (hget 6 _ rfl) (by simp), .inl ⟨rfl, rfl⟩, .inl ⟨rfl, rfl⟩, (fun q hq => nomatch hq), (fun q hq => nomatch hq)⟩, hl0⟩
  have hF' := hF
  obtain ⟨g3, g4, g9, g10, g11⟩ := hF'
  obtain ⟨own, hc, w⟩ := c70_ok J K h70 hg (feed39 (S := h.size) (bA := bA) (vA := vA) (bR := bR) (vR := vR) (A := A) (R := R) (ca := ca) (cr := cr) (s0 := s) J K g lA lR g3 g4 g9 g10 g11) H0 hf (by rw [hs0]; rfl) (by rw [← hH0, plus_N, hN]; show h.size ≤ h.size + 12; omega) hi0
  obtain ⟨hz, zl⟩ := w.inv
  have eH : (⟨h'.lo, h'.N, own⟩ : Heap) = ⟨H0.lo, H0.N, own⟩ := by rw [← hH0]; rfl
  rw [← hH0] at hc
  have r := Runs.range (tbl := tbl) (I := J) (f := .s [false, true, true, true]) (s := s) (h := h') (g := 70) h29 (by decide) (by rw [hs]; exact hc) (by rw [eH, hs]; exact zl) (by simp)
  rw [eH, hs] at r
  have z0 := hz.n0
  exact ⟨_, _, r, hF, hz.kp ((Kp.upd _ _ _ (by omega) rfl : Kp (· = h.size + 11) _ _).mono (fun _ _ e => .inl e)), by show H0.lo = _; rw [← hH0]; exact hL⟩

theorem c39_no (J : CallF) (K : Kn J) (k62 : K62 J) (h : Heap) (x y : AV) {A R : List Int} (hx : listOf h x = some A) (hy : listOf h y = some R) (hh : ¬ (lotOk lot bad ∧ crsOk lot A R)) :
    Tr tbl J (.seq c39_o1 (.cond (.s [false, false, false, true]) (.seq c39_o2 .ret) .skip)) (fun s h' => s.get [false, false] = .ptr h.size 0 1 ∧ s.get [true, false] = .ptr (h.size + 1) 0 1 ∧ s.get [false, true] = .ptr (h.size + 2) 0 2 ∧ s.get [true, true] = .nils ∧ s.get [false, false, false] = .nils ∧ s.get [true, false, false] = G 0 ∧ h' = ⟨h.get, h.size, [.cells 0 1 [G lot], .cells 0 1 [G bad], .cells 0 2 [x, y]]⟩) .ret (fun s h => s.get [true, true] = .nils ∧ s.get [false, false, false] = .nils ∧ s.get [true, false, false] = G 2) := by
  by_cases h1 : lotOk lot bad
  · have h36 : lot ≤ 36 := by unfold lotOk at h1; omega
    have hk := k62 ⟨h.get, h.size, [.cells 0 1 [G lot], .cells 0 1 [G bad], .cells 0 2 [x, y]]⟩ lot x y A R (listOf_lo hx _) (listOf_lo hy _) h36
    rw [@decide_eq_false _ (Classical.propDecidable _) (fun q => hh ⟨h1, q⟩)] at hk
    have t : Tr tbl J ((.seq c39_o1 (.cond (.s [false, false, false, true]) (.seq c39_o2 .ret) .skip))) (fun s h' => s.get [false, false] = .ptr h.size 0 1 ∧ s.get [true, false] = .ptr (h.size + 1) 0 1 ∧ s.get [false, true] = .ptr (h.size + 2) 0 2 ∧ s.get [true, true] = .nils ∧ s.get [false, false, false] = .nils ∧ s.get [true, false, false] = G 0 ∧ h' = ⟨h.get, h.size, [.cells 0 1 [G lot], .cells 0 1 [G bad], .cells 0 2 [x, y]]⟩) .ret (fun s h => s.get [true, true] = .nils ∧ s.get [false, false, false] = .nils ∧ s.get [true, false, false] = G 2) := Tr.region fun s h hp => by
      obtain ⟨g0, g1, g2, g3, g4, g5, rfl⟩ := hp
      simp (disch := first | omega | exact getEq rfl | exact getO0 | exact Nat.le_of_ble_eq_true rfl) [c39_o1, c39_o2, came_some, goI, List.getElem?_cons_zero, List.getElem?_cons_succ, kn, keep, frameOf, size_mk, get_mk_lt, get_mk_ge, Eff.app, Heap.setOwn, putAt, AV.cells, fillA, loadA, takeA, mk, Eff.isAll, Eff.isNone, Eff.commutes, Eff.spares, okPair, apart, eqAgg, fits, LK.fits, allEq, aveq, eqk, mmA, beqT, wrapI, idxI, tdivI, tmodI, decT, decF, ibT, ibF, inT, inF, evScope_c, if_pos, if_neg, g0, g1, g2, g3, g4, g5, K.k52, h1, hk]
    exact t
  · clear hx hy
    have t : Tr tbl J ((.seq c39_o1 (.cond (.s [false, false, false, true]) (.seq c39_o2 .ret) .skip))) (fun s h' => s.get [false, false] = .ptr h.size 0 1 ∧ s.get [true, false] = .ptr (h.size + 1) 0 1 ∧ s.get [false, true] = .ptr (h.size + 2) 0 2 ∧ s.get [true, true] = .nils ∧ s.get [false, false, false] = .nils ∧ s.get [true, false, false] = G 0 ∧ h' = ⟨h.get, h.size, [.cells 0 1 [G lot], .cells 0 1 [G bad], .cells 0 2 [x, y]]⟩) .ret (fun s h => s.get [true, true] = .nils ∧ s.get [false, false, false] = .nils ∧ s.get [true, false, false] = G 2) := Tr.region fun s h hp => by
      obtain ⟨g0, g1, g2, g3, g4, g5, rfl⟩ := hp
      simp (disch := first | omega | exact getEq rfl | exact getO0 | exact Nat.le_of_ble_eq_true rfl) [c39_o1, c39_o2, came_some, goI, List.getElem?_cons_zero, List.getElem?_cons_succ, kn, keep, frameOf, size_mk, get_mk_lt, get_mk_ge, Eff.app, Heap.setOwn, putAt, AV.cells, fillA, loadA, takeA, mk, Eff.isAll, Eff.isNone, Eff.commutes, Eff.spares, okPair, apart, eqAgg, fits, LK.fits, allEq, aveq, eqk, mmA, beqT, wrapI, idxI, tdivI, tmodI, decT, decF, ibT, ibF, inT, inF, evScope_c, if_pos, if_neg, g0, g1, g2, g3, g4, g5, K.k52, h1]
    exact t
theorem c39_0 (J : CallF) (h : Heap) (x y : AV) : Tr tbl J c39_o0 (fun s h' => s = T.set (T.set (T.set .leaf [] (G lot)) [false] (G bad)) [true] (.agg [x, y]) ∧ h' = frameOf h) .normal (fun s h' => s.get [false, false] = .ptr h.size 0 1 ∧ s.get [true, false] = .ptr (h.size + 1) 0 1 ∧ s.get [false, true] = .ptr (h.size + 2) 0 2 ∧ s.get [true, true] = .nils ∧ s.get [false, false, false] = .nils ∧ s.get [true, false, false] = G 0 ∧ h' = ⟨h.get, h.size, [.cells 0 1 [G lot], .cells 0 1 [G bad], .cells 0 2 [x, y]]⟩) := by
  have t : Tr tbl J (c39_o0) (fun s h' => s = T.set (T.set (T.set .leaf [] (G lot)) [false] (G bad)) [true] (.agg [x, y]) ∧ h' = frameOf h) .normal (fun s h' => s.get [false, false] = .ptr h.size 0 1 ∧ s.get [true, false] = .ptr (h.size + 1) 0 1 ∧ s.get [false, true] = .ptr (h.size + 2) 0 2 ∧ s.get [true, true] = .nils ∧ s.get [false, false, false] = .nils ∧ s.get [true, false, false] = G 0 ∧ h' = ⟨h.get, h.size, [.cells 0 1 [G lot], .cells 0 1 [G bad], .cells 0 2 [x, y]]⟩) := Tr.region fun s h hp => by
    obtain ⟨rfl, rfl⟩ := hp
    simp (disch := first | omega | exact getEq rfl | exact getO0 | exact Nat.le_of_ble_eq_true rfl) [c39_o0, frameOf, came_some, goI, List.getElem?_cons_zero, List.getElem?_cons_succ, kn, keep, frameOf, size_mk, get_mk_lt, get_mk_ge, Eff.app, Heap.setOwn, putAt, AV.cells, fillA, loadA, takeA, mk, Eff.isAll, Eff.isNone, Eff.commutes, Eff.spares, okPair, apart, eqAgg, fits, LK.fits, allEq, aveq, eqk, mmA, beqT, wrapI, idxI, tdivI, tmodI, decT, decF, ibT, ibF, inT, inF, evScope_c, if_pos, if_neg]
  exact t
theorem c39_bad (J : CallF) (K : Kn J) (k62 : K62 J) (hJ : ∀ a h, J 39 a h = none) (h : Heap) (x y : AV) {A R : List Int} (hx : listOf h x = some A) (hy : listOf h y = some R) (hh : ¬ (lotOk lot bad ∧ crsOk lot A R)) :
    CallsTo tbl J 39 [G lot, G bad, .agg [x, y]] h (.tup [.nils, .nils, G 2], [], false) := by
  refine Tr.fnv (cf := c39) (e := .ret) (s := T.set (T.set (T.set .leaf [] (G lot)) [false] (G bad)) [true] (.agg [x, y])) (by decide) rfl (hJ _ _) rfl rfl rfl (by simp) ?_
  refine Tr.post (fun s h' q => ?_) (Tr.seq (c39_0 J h x y) (Tr.seq_out (c39_no J K k62 h x y hx hy hh) (by simp)))
  obtain ⟨x6, x7, x8⟩ := q
  simp [c39, evRess, evRes, x6, x7, x8, one]

theorem c39_good (J : CallF) (K : Kn J) (k62 : K62 J) (k63 : K63 J) (h70 : ∀ a h, J 70 a h = none) (hJ : ∀ a h, J 39 a h = none) (h : Heap) {A R : List Int} (gA : h.get bA = .cells 1 vA (A.map fun n => .int .i64 n)) (gR : h.get bR = .cells 1 vR (R.map fun n => .int .i64 n)) (hn : A.length = n) (hl : lotOk lot bad) (hc : crsOk lot A R) :
    ∃ v own, CallsTo tbl J 39 [G lot, G bad, .agg [.slice bA 0 n vA, .slice bR 0 n vR]] h (v, own, false) ∧ ∃ ba br, v = .tup [.slice ba 0 n (2 * n), .slice br 0 n (2 * n), G 0] ∧ (h.plus own).get ba = .cells 2 (2 * n) (fz (yU lot bad (A.getD · 0) (R.getD · 0)) (yV lot bad (A.getD · 0) (R.getD · 0)) n) ∧ (h.plus own).get br = .cells 2 (2 * n) (fz (nU lot bad (A.getD · 0) (R.getD · 0)) (nV lot bad (A.getD · 0) (R.getD · 0)) n) ∧ own ≠ [] := by
  have hR : R.length = n := by rw [hc.2.1, hn]
  have g : H4 lot bad n := by
    have h1 := hc.1
    unfold lotOk at hl
    exact ⟨by omega, by omega, by omega, by omega, by omega⟩
  have hca : ∀ i, i < n → (A.map fun n => AV.int .i64 n)[i]? = some (G (A.getD i 0)) := fun i hi => by
    rw [List.getElem?_map, List.getElem?_eq_getElem (by omega), List.getD_eq_getElem?_getD, List.getElem?_eq_getElem (by omega)]; rfl
  have hcr : ∀ i, i < n → (R.map fun n => AV.int .i64 n)[i]? = some (G (R.getD i 0)) := fun i hi => by
    rw [List.getElem?_map, List.getElem?_eq_getElem (by omega), List.getD_eq_getElem?_getD, List.getElem?_eq_getElem (by omega)]; rfl
  have hk := k62 ⟨h.get, h.size, [.cells 0 1 [G lot], .cells 0 1 [G bad], .cells 0 2 [.slice bA 0 n vA, .slice bR 0 n vR]]⟩ lot (.slice bA 0 n vA) (.slice bR 0 n vR) A R (listOf_lo (listOf_cells gA hn) _) (listOf_lo (listOf_cells gR hR) _) g.l2
  rw [@decide_eq_true _ (Classical.propDecidable _) hc] at hk
  refine Tr.fnx (cf := c39) (e := .ret) (s := T.set (T.set (T.set .leaf [] (G lot)) [false] (G bad)) [true] (.agg [.slice bA 0 n vA, .slice bR 0 n vR])) (by decide) rfl (hJ _ _) rfl rfl (by simp) ?_
  have t1 : Tr tbl J ((.seq c39_o1 (.cond (.s [false, false, false, true]) (.seq c39_o2 .ret) .skip))) (fun s h' => s.get [false, false] = .ptr h.size 0 1 ∧ s.get [true, false] = .ptr (h.size + 1) 0 1 ∧ s.get [false, true] = .ptr (h.size + 2) 0 2 ∧ s.get [true, true] = .nils ∧ s.get [false, false, false] = .nils ∧ s.get [true, false, false] = G 0 ∧ h' = ⟨h.get, h.size, [.cells 0 1 [G lot], .cells 0 1 [G bad], .cells 0 2 [.slice bA 0 n vA, .slice bR 0 n vR]]⟩) .normal (fun s h' => s.get [false, false] = .ptr h.size 0 1 ∧ s.get [true, false] = .ptr (h.size + 1) 0 1 ∧ s.get [false, true] = .ptr (h.size + 2) 0 2 ∧ h' = ⟨h.get, h.size, [.cells 0 1 [G lot], .cells 0 1 [G bad], .cells 0 2 [.slice bA 0 n vA, .slice bR 0 n vR]]⟩) := Tr.region fun s h hp => by
    obtain ⟨g0, g1, g2, g3, g4, g5, rfl⟩ := hp
    simp (disch := first | omega | exact getEq rfl | exact getO0 | exact Nat.le_of_ble_eq_true rfl) [c39_o1, came_some, goI, List.getElem?_cons_zero, List.getElem?_cons_succ, kn, keep, frameOf, size_mk, get_mk_lt, get_mk_ge, Eff.app, Heap.setOwn, putAt, AV.cells, fillA, loadA, takeA, mk, Eff.isAll, Eff.isNone, Eff.commutes, Eff.spares, okPair, apart, eqAgg, fits, LK.fits, allEq, aveq, eqk, mmA, beqT, wrapI, idxI, tdivI, tmodI, decT, decF, ibT, ibF, inT, inF, evScope_c, if_pos, if_neg, g0, g1, g2, g3, g4, g5, K.k52, hl, hk]
  have t2 : Tr tbl J ((.seq c39_o3 c39_o4)) (fun s h' => s.get [false, false] = .ptr h.size 0 1 ∧ s.get [true, false] = .ptr (h.size + 1) 0 1 ∧ s.get [false, true] = .ptr (h.size + 2) 0 2 ∧ h' = ⟨h.get, h.size, [.cells 0 1 [G lot], .cells 0 1 [G bad], .cells 0 2 [.slice bA 0 n vA, .slice bR 0 n vR]]⟩) .normal (fun s h' => s.get [false, false] = .ptr h.size 0 1 ∧ s.get [true, false] = .ptr (h.size + 1) 0 1 ∧ s.get [false, true] = .ptr (h.size + 2) 0 2 ∧ s.get [false, true, false] = .ptr (h.size + 4) 0 1 ∧ s.get [true, true, false] = .ptr (h.size + 5) 0 1 ∧ s.get [false, false, true] = .ptr (h.size + 6) 0 1 ∧ h' = ⟨h.get, h.size, [.cells 0 1 [G lot], .cells 0 1 [G bad], .cells 0 2 [.slice bA 0 n vA, .slice bR 0 n vR], .cells 0 1369 (tri 37 0), .cells 0 1 [.ptr (h.size + 3) 0 1369], .cells 0 1 [.nils], .cells 0 1 [.nils]]⟩) := Tr.region fun s h hp => by
    obtain ⟨g0, g1, g2, rfl⟩ := hp
    simp (disch := first | omega | exact getEq rfl | exact getO0 | exact Nat.le_of_ble_eq_true rfl) [c39_o3, c39_o4, came_some, goI, List.getElem?_cons_zero, List.getElem?_cons_succ, kn, keep, frameOf, size_mk, get_mk_lt, get_mk_ge, Eff.app, Heap.setOwn, putAt, AV.cells, fillA, loadA, takeA, mk, Eff.isAll, Eff.isNone, Eff.commutes, Eff.spares, okPair, apart, eqAgg, fits, LK.fits, allEq, aveq, eqk, mmA, beqT, wrapI, idxI, tdivI, tmodI, decT, decF, ibT, ibF, inT, inF, evScope_c, if_pos, if_neg, g0, g1, g2, K.k54]
  have t3 : Tr tbl J (c39_o5) (fun s h' => s.get [false, false] = .ptr h.size 0 1 ∧ s.get [true, false] = .ptr (h.size + 1) 0 1 ∧ s.get [false, true] = .ptr (h.size + 2) 0 2 ∧ s.get [false, true, false] = .ptr (h.size + 4) 0 1 ∧ s.get [true, true, false] = .ptr (h.size + 5) 0 1 ∧ s.get [false, false, true] = .ptr (h.size + 6) 0 1 ∧ h' = ⟨h.get, h.size, [.cells 0 1 [G lot], .cells 0 1 [G bad], .cells 0 2 [.slice bA 0 n vA, .slice bR 0 n vR], .cells 0 1369 (tri 37 0), .cells 0 1 [.ptr (h.size + 3) 0 1369], .cells 0 1 [.nils], .cells 0 1 [.nils]]⟩) .normal (fun s h' => s.get [false, false] = .ptr h.size 0 1 ∧ s.get [true, false] = .ptr (h.size + 1) 0 1 ∧ s.get [false, true, false] = .ptr (h.size + 4) 0 1 ∧ s.get [true, true, false] = .ptr (h.size + 5) 0 1 ∧ s.get [false, false, true] = .ptr (h.size + 6) 0 1 ∧ s.get [false, true, true, true] = .func 70 [.ptr (h.size + 10) 0 2, .ptr (h.size + 7) 0 1, .ptr (h.size + 8) 0 1, .ptr (h.size + 9) 0 1] ∧ h' = H39 h (.slice bA 0 n vA) (.slice bR 0 n vR) lot bad) := Tr.region fun s h hp => by
    obtain ⟨g0, g1, g2, g3, g4, g5, rfl⟩ := hp
    simp (disch := first | omega | exact getEq rfl | exact getO0 | exact Nat.le_of_ble_eq_true rfl) [c39_o5, came_some, goI, List.getElem?_cons_zero, List.getElem?_cons_succ, kn, keep, frameOf, size_mk, get_mk_lt, get_mk_ge, Eff.app, Heap.setOwn, putAt, AV.cells, fillA, loadA, takeA, mk, Eff.isAll, Eff.isNone, Eff.commutes, Eff.spares, okPair, apart, eqAgg, fits, LK.fits, allEq, aveq, eqk, mmA, beqT, wrapI, idxI, tdivI, tmodI, decT, decF, ibT, ibF, inT, inF, evScope_c, if_pos, if_neg, g0, g1, g2, g3, g4, g5, k63]
  have t3' := Tr.post (Q' := fun s h' => F39 h.size s h' ∧ s.get [false, true, true, true] = .func 70 [.ptr (h.size + 10) 0 2, .ptr (h.size + 7) 0 1, .ptr (h.size + 8) 0 1, .ptr (h.size + 9) 0 1] ∧ h' = H39 h (.slice bA 0 n vA) (.slice bR 0 n vR) lot bad) (fun s h' q => by
    obtain ⟨q0, q1, q2, q3, q4, q5, q6⟩ := q
    exact ⟨⟨q0, q1, q2, q3, q4⟩, q5, q6⟩) t3
  have tr := c39_range (A := (A.getD · 0)) (R := (R.getD · 0)) J K h70 g h gA gR hca hcr
  refine Tr.seq (c39_0 J h _ _) (Tr.seq t1 (Tr.app2 t2 (Tr.seq (Tr.seq t3' (Tr.block_out tr (by simp))) ?_)))
  refine Tr.fix (F := fun h' => Z39 h.size lot bad (yU lot bad (A.getD · 0) (R.getD · 0)) (yV lot bad (A.getD · 0) (R.getD · 0)) (nU lot bad (A.getD · 0) (R.getD · 0)) (nV lot bad (A.getD · 0) (R.getD · 0)) n h' ∧ h'.lo = h.get) (P' := fun H => (fun s h' => s.get [true, true, false] = .ptr (h.size + 5) 0 1 ∧ s.get [false, false, true] = .ptr (h.size + 6) 0 1 ∧ h' = H)) (fun H3 hZ => ?_) (fun s h' hp => ⟨hp.2, hp.1.2.2.2.1, hp.1.2.2.2.2, rfl⟩)
  obtain ⟨⟨n0, f3, f4, ft, f9, sz, xa, xr, m5, m6, l1, l2, d1, d2⟩, hL⟩ := hZ
  have n1 := g.n1
  rcases l1 with ⟨_, e⟩ | ⟨ba, rfl, ga, _⟩
  · omega
  rcases l2 with ⟨_, e⟩ | ⟨br, rfl, gr, _⟩
  · omega
  have t : Tr tbl J ((.seq c39_o9 .ret)) (fun s h' => s.get [true, true, false] = .ptr (h.size + 5) 0 1 ∧ s.get [false, false, true] = .ptr (h.size + 6) 0 1 ∧ h' = H3) .ret (fun s h' => s.get [true, true] = .slice ba 0 n (2 * n) ∧ s.get [false, false, false] = .slice br 0 n (2 * n) ∧ s.get [true, false, false] = G 0 ∧ h' = H3) := Tr.region fun s h hp => by
    obtain ⟨g0, g1, rfl⟩ := hp
    simp (disch := first | omega | exact getEq rfl | exact getO0 | exact Nat.le_of_ble_eq_true rfl) [-evDraw_c, c39_o9, came_some, goI, List.getElem?_cons_zero, List.getElem?_cons_succ, kn, keep, app_growP, app_noneP, plus_N, plus_at0, put_plus0, upd_N, upd_size, putAt, AV.cells, fillA, loadA, takeA, mk, Eff.isAll, Eff.isNone, Eff.commutes, Eff.spares, okPair, apart, eqAgg, fits, LK.fits, allEq, aveq, eqk, mmA, beqT, wrapI, idxI, tdivI, tmodI, decT, decF, ibT, ibF, inT, inF, evScope_c, if_pos, if_neg, g0, g1, evDraw_0, m5, m6]
  refine Tr.post (fun s h' q => ?_) t
  obtain ⟨q6, q7, q8, rfl⟩ := q
  have ho : h' = ⟨h.get, h.size, h'.own⟩ := by
    obtain ⟨lo, N, own⟩ := h'
    simp only at n0 hL
    subst n0 hL; rfl
  refine ⟨[.slice ba 0 n (2 * n), .slice br 0 n (2 * n), G 0], by simp [c39, evRess, evRes, q6, q7, q8], rfl, ba, br, rfl, ?_, ?_, fun e => ?_⟩
  · rw [← fr_get, ← ho]; exact ga
  · rw [← fr_get, ← ho]; exact gr
  · rw [ho, e] at sz
    have : Heap.size ⟨h.get, h.size, []⟩ = h.size := rfl
    omega
end

end Go.Proofs.Ytlkgpcfhpeilhaa.Ev
