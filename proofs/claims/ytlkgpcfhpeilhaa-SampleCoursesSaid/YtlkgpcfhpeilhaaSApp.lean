/-
  Lists that grow by one: what append does with a slice that is all of its block. No condition.
-/
import Derived.Test.YtlkgpcfhpeilhaaSOpen
set_option linter.unusedVariables false
set_option linter.unusedSimpArgs false
namespace Go.Proofs.Ytlkgpcfhpeilhaa.Ev
open Go Go.AEv

def blk : AV → Option Nat
  | .slice b _ _ _ => some b
  | _ => none
/-- x is a list of its own: nil, or all of a block. -/
def LS (h : Heap) (x : AV) (L : List Int) : Prop := (x = .nils ∧ L = []) ∨ ∃ b, x = .slice b 0 L.length L.length ∧ h.get b = .cells 1 L.length (gs L) ∧ h.N ≤ b
theorem LS.nil (h : Heap) : LS h .nils [] := .inl ⟨rfl, rfl⟩
theorem LS.kp {M : Nat → Prop} {h h' : Heap} {x : AV} {L : List Int} (l : LS h x L) (k : Kp M h h') (hm : ∀ b, blk x = some b → ¬ M b) : LS h' x L := by
  rcases l with l | ⟨b, rfl, g, n⟩
  · exact .inl l
  · exact .inr ⟨b, rfl, k.at g (by simp) (hm b rfl), by rw [k.N]; exact n⟩
theorem LS.list {h : Heap} {x : AV} {L : List Int} (l : LS h x L) : listOf h x = some L := by
  rcases l with ⟨rfl, rfl⟩ | ⟨b, rfl, g, n⟩
  · rfl
  · exact listOf_cells g rfl
theorem LS.lt {h : Heap} {x : AV} {L : List Int} (l : LS h x L) {b : Nat} (hb : blk x = some b) : b < h.size := by
  rcases l with ⟨rfl, rfl⟩ | ⟨b', rfl, g, n⟩
  · cases hb
  · cases hb; exact get_lt g (by simp)

theorem LS.sl {h : Heap} {x : AV} {L : List Int} (l : LS h x L) (hL : L ≠ []) : ∃ q m, x = .slice q 0 m m := by
  rcases l with ⟨rfl, rfl⟩ | ⟨b, rfl, g, n⟩
  · exact absurd rfl hL
  · exact ⟨b, _, rfl⟩

theorem ext_gen (h : Heap) (b v g : Nat) (cs vs : List AV) (h1 : h.N ≤ b) (hg : h.get b = .cells g v cs) (hl : cs.length = v) : Eff.app (.ext b v g vs) h = some (h.upd b (.cells g (v + vs.length) (cs ++ vs))) := by
  have h2 : ¬ b < h.N := by omega
  have e := get_own h1 hg (by simp)
  simp only [Eff.app, h2, if_false, e, hl, and_self, if_true, forceL_eq, setOwn_upd]

/-- One int more. -/
theorem app_one (h : Heap) (h0 : Nat) {x0 : AV} {L : List Int} (z : Int) (hx : LS h x0 L) (hn : L.length ≤ 1000000) :
    ∃ x1 e h', appA h h0 none 1 8 1 [G z] x0 = some (x1, e) ∧ Eff.app e h = some h' ∧ LS h' x1 (L ++ [z]) ∧ Kp (fun b => blk x0 = some b) h h' ∧ (blk x1 = blk x0 ∨ (x0 = .nils ∧ blk x1 = some h.size)) ∧ AV.cells x1 = some [x1] := by
  rcases hx with ⟨rfl, rfl⟩ | ⟨b, rfl, g, hN⟩
  · refine ⟨.slice h.size 0 1 1, .grow [.cells 1 1 [G z]], h.plus [.cells 1 1 [G z]], ?_, app_growP _ _, .inr ⟨h.size, rfl, plus_at0 _ _ _ _ rfl, by show h.N ≤ h.size; unfold Heap.size; omega⟩, Kp.plus _ _, .inr ⟨rfl, rfl⟩, rfl⟩
    simp [appA, mk]
  · have hlt := get_lt g (by simp)
    have eg : (gs L).length = L.length := by simp
    refine ⟨.slice b 0 (L.length + 1) (L.length + 1), .ext b L.length 1 [G z], h.upd b (.cells 1 (L.length + 1) (gs L ++ [G z])), ?_, ?_, .inr ⟨b, ?_, ?_, by rw [upd_N]; exact hN⟩, Kp.upd _ _ _ hN rfl, .inl rfl, rfl⟩
    · simp only [appA, Nat.mul_one, Nat.one_mul]
      rw [if_neg (by decide), if_pos ⟨trivial, by simp, by omega⟩]
    · exact ext_gen h b L.length 1 (gs L) [G z] hN g eg
    · simp
    · rw [upd_same _ _ _ hN hlt]; simp [gs]

theorem listOf_plus {h : Heap} {x : AV} {l : List Int} (xs : List AObj) (hx : listOf h x = some l) : listOf (h.plus xs) x = some l := by
  rcases listOf_some hx with ⟨rfl, rfl⟩ | ⟨b, v, rfl, g⟩
  · rfl
  · exact listOf_cells (plus_keep xs g (by simp)) rfl
/-- The memory at a place is given a name, and what is known of it is kept. -/
theorem Tr.fix {tbl : Nat → Option CFunc} {I : CallF} {c : CCode} {e : AExit} {P Q : SP} {F : Heap → Prop} {P' : Heap → SP} (k : ∀ H, F H → Tr tbl I c (P' H) e Q) (hP : ∀ s h, P s h → F h ∧ P' h s h) : Tr tbl I c P e Q :=
  fun s h hp => k h (hP s h hp).1 s h (hP s h hp).2
theorem zl_get (f : Nat → Int) : ∀ (m i : Nat), (zl f m)[i]? = if i < m then some (f i) else none
  | 0, i => by simp [zl]
  | m + 1, i => by
    show (zl f m ++ [f m])[i]? = _
    by_cases h : i < m
    · rw [List.getElem?_append_left (by rw [zl_len]; exact h), zl_get f m i, if_pos h, if_pos (by omega)]
    · rw [List.getElem?_append_right (by rw [zl_len]; omega), zl_len]
      by_cases h2 : i = m
      · subst h2; rw [Nat.sub_self, if_pos (by omega)]; rfl
      · rw [if_neg (by omega), List.getElem?_eq_none (by simp; omega)]
theorem zl_at (f : Nat → Int) {m i : Nat} (h : i < m) : (zl f m).getD i 0 = f i := by rw [List.getD_eq_getElem?_getD, zl_get, if_pos h]; rfl
theorem rep_at (x : Int) {m i : Nat} (h : i < m) : (List.replicate m x).getD i 0 = x := by rw [List.getD_eq_getElem?_getD, List.getElem?_replicate, if_pos h]; rfl
theorem zs_map (f : Nat → Int) (m : Nat) : zs f m = (zl f m).map fun n => AV.int .i64 n := rfl

/-! ### Two lists in one block, that grow -/
structure TwoL (H2 : Heap) (b : Nat) (h : Heap) (xa xr : AV) (La Lr : List Int) : Prop where
  k : Kp (fun _ => False) H2 h
  bN : H2.size ≤ b
  g : h.get b = .cells 0 2 [xa, xr]
  a : LS h xa La
  r : LS h xr Lr
  da : ∀ q, blk xa = some q → H2.size ≤ q ∧ q ≠ b ∧ blk xr ≠ some q
  dr : ∀ q, blk xr = some q → H2.size ≤ q ∧ q ≠ b
theorem TwoL.hN {H2 h : Heap} {b : Nat} {xa xr : AV} {La Lr : List Int} (t : TwoL H2 b h xa xr La Lr) : h.N ≤ b := by
  have := t.bN; have e := t.k.N; unfold Heap.size at this; omega

theorem TwoL.appA {H2 h : Heap} {b : Nat} {xa xr : AV} {La Lr : List Int} (t : TwoL H2 b h xa xr La Lr) (z : Int) (hn : La.length ≤ 1000000) :
    ∃ x1 e h2, AEv.appA (h.plus [.cells 1 1 [G z]]) h.size none 1 8 1 [G z] xa = some (x1, e) ∧ Eff.app e (h.plus [.cells 1 1 [G z]]) = some h2 ∧ AV.cells x1 = some [x1] ∧ Eff.app (.put b 2 0 [x1]) h2 = some (h2.upd b (.cells 0 2 [x1, xr])) ∧ TwoL H2 b (h2.upd b (.cells 0 2 [x1, xr])) x1 xr (La ++ [z]) Lr := by
  have hN := t.hN
  have hbs := get_lt t.g (by simp)
  have k1 : Kp (fun _ => False) h (h.plus [.cells 1 1 [G z]]) := Kp.plus _ _
  obtain ⟨x1, e, h2, q1, q2, q3, q4, q5, q6⟩ := app_one (h.plus [.cells 1 1 [G z]]) h.size z (t.a.kp k1 (fun _ _ => id)) hn
  have hsz : (h.plus [.cells 1 1 [G z]]).size = h.size + 1 := by rw [plus_size]; rfl
  have g2 : h2.get b = .cells 0 2 [xa, xr] := q4.at (plus_keep _ t.g (by simp)) (by simp) (fun m => (t.da b m).2.1 rfl)
  have hN2 : h2.N ≤ b := by rw [q4.N]; exact hN
  have hb1 : ∀ q, blk x1 = some q → H2.size ≤ q ∧ q ≠ b ∧ blk xr ≠ some q := fun q hq => by
    rcases q5 with h' | ⟨h', h''⟩
    · rw [h'] at hq; exact t.da q hq
    · rw [h''] at hq
      simp only [Option.some.injEq] at hq
      refine ⟨by have := t.k.size; omega, by omega, fun m => ?_⟩
      have := t.r.lt m; omega
  have ku : Kp (· = b) h2 (h2.upd b (.cells 0 2 [x1, xr])) := Kp.upd _ _ _ hN2 rfl
  refine ⟨x1, e, h2, q1, q2, q6, put_gen _ _ _ _ _ _ _ hN2 g2 (by simp), ⟨?_, t.bN, upd_same _ _ _ hN2 (get_lt g2 (by simp)), q3.kp ku (fun q hq => (hb1 q hq).2.1), ?_, hb1, t.dr⟩⟩
  · exact ((t.k.trans k1).late q4 (fun q m => (t.da q m).1)).updn b _ hN2 t.bN
  · exact ((t.r.kp k1 (fun _ _ => id)).kp q4 (fun q hq m => (t.da q m).2.2 hq)).kp ku (fun q hq => (t.dr q hq).2)

theorem TwoL.appR {H2 h : Heap} {b : Nat} {xa xr : AV} {La Lr : List Int} (t : TwoL H2 b h xa xr La Lr) (z : Int) (hn : Lr.length ≤ 1000000) :
    ∃ x1 e h2, AEv.appA (h.plus [.cells 1 1 [G z]]) h.size none 1 8 1 [G z] xr = some (x1, e) ∧ Eff.app e (h.plus [.cells 1 1 [G z]]) = some h2 ∧ AV.cells x1 = some [x1] ∧ Eff.app (.put b 2 1 [x1]) h2 = some (h2.upd b (.cells 0 2 [xa, x1])) ∧ TwoL H2 b (h2.upd b (.cells 0 2 [xa, x1])) xa x1 La (Lr ++ [z]) := by
  have hN := t.hN
  have hbs := get_lt t.g (by simp)
  have k1 : Kp (fun _ => False) h (h.plus [.cells 1 1 [G z]]) := Kp.plus _ _
  obtain ⟨x1, e, h2, q1, q2, q3, q4, q5, q6⟩ := app_one (h.plus [.cells 1 1 [G z]]) h.size z (t.r.kp k1 (fun _ _ => id)) hn
  have hsz : (h.plus [.cells 1 1 [G z]]).size = h.size + 1 := by rw [plus_size]; rfl
  have g2 : h2.get b = .cells 0 2 [xa, xr] := q4.at (plus_keep _ t.g (by simp)) (by simp) (fun m => (t.dr b m).2 rfl)
  have hN2 : h2.N ≤ b := by rw [q4.N]; exact hN
  have hb1 : ∀ q, blk x1 = some q → H2.size ≤ q ∧ q ≠ b := fun q hq => by
    rcases q5 with h' | ⟨h', h''⟩
    · rw [h'] at hq; exact t.dr q hq
    · rw [h''] at hq
      simp only [Option.some.injEq] at hq
      exact ⟨by have := t.k.size; omega, by omega⟩
  have hb2 : ∀ q, blk xa = some q → H2.size ≤ q ∧ q ≠ b ∧ blk x1 ≠ some q := fun q hq => by
    refine ⟨(t.da q hq).1, (t.da q hq).2.1, fun m => ?_⟩
    rcases q5 with h' | ⟨h', h''⟩
    · rw [h'] at m; exact (t.da q hq).2.2 m
    · rw [h''] at m
      simp only [Option.some.injEq] at m
      have := t.a.lt hq; omega
  have ku : Kp (· = b) h2 (h2.upd b (.cells 0 2 [xa, x1])) := Kp.upd _ _ _ hN2 rfl
  refine ⟨x1, e, h2, q1, q2, q6, put_gen _ _ _ _ _ _ _ hN2 g2 (by simp), ⟨?_, t.bN, upd_same _ _ _ hN2 (get_lt g2 (by simp)), ?_, q3.kp ku (fun q hq => (hb1 q hq).2), hb2, hb1⟩⟩
  · exact ((t.k.trans k1).late q4 (fun q m => (t.dr q m).1)).updn b _ hN2 t.bN
  · exact ((t.a.kp k1 (fun _ _ => id)).kp q4 (fun q hq m => (t.da q hq).2.2 m)).kp ku (fun q hq => (t.da q hq).2.1)

end Go.Proofs.Ytlkgpcfhpeilhaa.Ev
