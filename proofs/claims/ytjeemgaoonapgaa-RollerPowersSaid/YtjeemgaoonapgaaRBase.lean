/-
  The small functions: within, gcd, Reduced, awake, and whether a list has a number out of bounds. No condition.
-/
import Derived.Test.YtjeemgaoonapgaaSAwake
set_option linter.unusedVariables false
set_option linter.unusedSimpArgs false
namespace Go.Proofs.Ytjeemgaoonapgaa.Ev
open Go Go.AEv

attribute [local simp] evFunc initS evOps_c evTrim_c evSkip_c evExit_c evRet_c evSeq_c evCond_c evBlock_c evDraw_c runOps_n runOps_c exec_n exec_g pure1_c act AOpd.ev T.get T.set T.put evBin evUn forceT_eq forceV_eq forceL_eq evRess evRes one keep runFP_n runFP_c app_none AV.flats AV.flat came_some List.getElem?_cons_zero List.getElem?_cons_succ beqT wrapI idxI tdivI tmodI decT decF ibT ibF inT inF evScope_c if_pos if_neg Cm_some thenW_n thenW_e thenW_r blkW_n blkW_e blkW_r goI kn putAt AV.cells fillA loadA takeA mk Eff.isAll Eff.isNone Eff.commutes Eff.spares okPair apart eqAgg fits LK.fits allEq aveq eqk mmA

abbrev gs (l : List Int) : List AV := l.map fun n => AV.int .i64 n

/-! ### More rules -/
section
variable {tbl : Nat → Option CFunc} {I : CallF}
/-- A function, whatever it returns. -/
theorem Tr.fny {f : Nat} {cf : CFunc} {args : List AV} {h : Heap} {s : T} {e : AExit} {Good : AV → List AObj → Prop} (hf : f ≠ 0) (ht : tbl f = some cf) (hi : I f args h = none) (hsh : cf.shared = false) (hs : initS cf.params args .leaf = some s)
    (he : ∀ i, e ≠ .exit i) (hb : Tr tbl I cf.body (fun s' h' => s' = s ∧ h' = frameOf h) e (fun s' h' => ∃ vs, evRess h' s' cf.results = some vs ∧ Good (one vs) (if (one vs).flat then [] else h'.own))) : ∃ v own, CallsTo tbl I f args h (v, own, false) ∧ Good v own := by
  obtain ⟨s1, h1, r1, vs, q1, q2⟩ := hb s (frameOf h) ⟨rfl, rfl⟩
  exact ⟨_, _, CallsTo.fn hf ht hi hsh hs r1 he q1, q2⟩
/-- A function that shares its caller's memory, and leaves it as it is. -/
theorem Tr.sh {f : Nat} {cf : CFunc} {args : List AV} {h : Heap} {s : T} {v : AV} {e : AExit} (hf : f ≠ 0) (ht : tbl f = some cf) (hi : I f args h = none) (hsh : cf.shared = true) (hs : initS cf.params args .leaf = some s)
    (he : ∀ i, e ≠ .exit i) (hb : Tr tbl I cf.body (fun s' h' => s' = s ∧ h' = h) e (fun s' h' => (∃ vs, evRess h' s' cf.results = some vs ∧ one vs = v) ∧ h' = h)) : CallsTo tbl I f args h (v, h.own, true) := by
  obtain ⟨s1, h1, r1, ⟨vs, q1, rfl⟩, rfl⟩ := hb s h ⟨rfl, rfl⟩
  exact CallsTo.shared hf ht hi hsh hs r1 he q1
end
/-! ### Lists of ints, whoever holds them -/
def lst (h : Heap) : AV → Option (List Int)
  | .slice0 => some []
  | x => listOf h x
theorem lst_lr {h : Heap} {x : AV} {l : List Int} : lst h x = some l ↔ LR h x l := by
  constructor
  · intro e
    unfold lst at e
    split at e
    · cases e; exact .inr ⟨rfl, rfl⟩
    · exact .inl e
  · intro e
    rcases e.cases with ⟨rfl, rfl⟩ | ⟨rfl, rfl⟩ | ⟨b, v, rfl, g⟩
    · rfl
    · rfl
    · exact listOf_cells g rfl
theorem LR.inj {h : Heap} {x : AV} {a b : List Int} (e : LR h x a) (e' : LR h x b) : a = b := by
  have := lst_lr.2 e
  rw [lst_lr.2 e'] at this
  exact (Option.some.inj this).symm

/-! ### within -/
def spec57 : SpecV
  | [.int .i64 n, .int .i64 lo, .int .i64 hi] => some (.bool (decide (lo ≤ n ∧ n ≤ hi)))
  | _ => none
theorem c57_ok (J : CallF) (hJ : ∀ a h, J 57 a h = none) (h : Heap) (n lo hi : Int) : CallsTo tbl J 57 [G n, G lo, G hi] h (.bool (decide (lo ≤ n ∧ n ≤ hi)), [], false) := by
  refine CallsTo.plain (cf := c57) (h' := frameOf h) (by decide) rfl (hJ _ _) rfl rfl ?_
  by_cases h1 : lo ≤ n
  · simp [c57, c57_o0, c57_o1, kn, h1]
  · simp [c57, c57_o0, c57_o1, kn, h1]
def R2 : CallF := addV R1 57 spec57
theorem s2 : Sound Go.Proofs.Try.prog R2 := Sound.addV follows ok s1 (by decide) (fun args v h => by
  unfold spec57 at h
  split at h
  · simp only [Option.some.injEq] at h; subst h; exact c57_ok R1 (fun _ _ => rfl) e0 _ _ _
  · cases h)
abbrev K57 (J : CallF) : Prop := ∀ (n lo hi : Int) (h : Heap), J 57 [G n, G lo, G hi] h = some (.bool (decide (lo ≤ n ∧ n ≤ hi)), [], false)
theorem k57 : K57 R2 := fun n lo hi h => by simp [R2, addV, spec57]

/-! ### awake -/
def spec23 : SpecV
  | [] => some (.bool true)
  | _ => none
theorem isTrue0_eq {x : Option (AV × List AObj × Bool)} (h : isTrue0 x = true) : x = some (.bool true, [], false) := by
  unfold isTrue0 at h
  split at h
  · rfl
  · cases h
def R3 : CallF := addV R2 23 spec23
theorem s3 : Sound Go.Proofs.Try.prog R3 := Sound.addV2 follows ok s2 s1 (by decide) (fun args v h => by
  unfold spec23 at h
  split at h
  · simp only [Option.some.injEq] at h; subst h; exact ⟨60, isTrue0_eq awake_run⟩
  · cases h)
theorem k23 (h : Heap) : R3 23 [] h = some (.bool true, [], false) := by simp [R3, addV, spec23]

/-! ### gcd -/
def spec60 : SpecV
  | [.int .i64 a, .int .i64 b] => if 0 ≤ a ∧ a < 9223372036854775808 ∧ 0 ≤ b ∧ b < 9223372036854775808 then some (G (Nat.gcd a.toNat b.toNat)) else none
  | _ => none
theorem c60_loop (J : CallF) : ∀ (b a : Nat), a < 9223372036854775808 → b < 9223372036854775808 → Tr tbl J c60_l0 (fun s h => s.get [] = G a ∧ s.get [false] = G b) (.exit 0) (fun s h => s.get [] = G (Nat.gcd a b)) := by
  intro b
  induction b using Nat.strongRecOn with
  | _ b ih =>
    intro a ha hb
    by_cases hb0 : b = 0
    · subst hb0
      have t : Tr tbl J ((.trim [[], [false]] c60_b0)) (fun s h => s.get [] = G a ∧ s.get [false] = G ((0 : Nat) : Int)) (.exit 0) (fun s h => s.get [] = G a) := Tr.region fun s h hp => by
        obtain ⟨g0, g1⟩ := hp
        simp (disch := first | omega | exact getEq rfl | exact getO0 | exact Nat.le_of_ble_eq_true rfl) [-evDraw_c, c60_b0, c60_o1, frameOf, Heap.size, Heap.get, Eff.app, Heap.setOwn, g0, g1, evDraw_0]
      rw [Nat.gcd_zero_right]
      exact Tr.out t (by simp)
    · have hpos : 0 < b := Nat.pos_of_ne_zero hb0
      have hmod : (a : Int) % (b : Int) = ((a % b : Nat) : Int) := rfl
      have hlt := Nat.mod_lt a hpos
      generalize hr : a % b = r at *
      have t : Tr tbl J ((.trim [[], [false]] c60_b0)) (fun s h => s.get [] = G a ∧ s.get [false] = G b) .normal (fun s h => s.get [] = G b ∧ s.get [false] = G r) := Tr.region fun s h hp => by
        obtain ⟨g0, g1⟩ := hp
        simp (disch := first | omega | exact getEq rfl | exact getO0 | exact Nat.le_of_ble_eq_true rfl) [-evDraw_c, c60_b0, c60_o1, c60_o2, frameOf, Heap.size, Heap.get, Eff.app, Heap.setOwn, g0, g1, evDraw_0, hmod, hpos, hb0]
      have := ih r hlt b hb (by omega)
      rw [← hr, Nat.gcd_comm b (a % b), ← Nat.gcd_rec b a, Nat.gcd_comm b a] at this
      rw [← hr] at t
      exact Tr.next t this
theorem c60_ok (J : CallF) (hJ : ∀ a h, J 60 a h = none) (h : Heap) (a b : Nat) (ha : a < 9223372036854775808) (hb : b < 9223372036854775808) : CallsTo tbl J 60 [G a, G b] h (G (Nat.gcd a b), [], false) := by
  refine Tr.fnv (cf := c60) (e := .ret) (s := T.set (T.set .leaf [] (G a)) [false] (G b)) (by decide) rfl (hJ _ _) rfl rfl rfl (by simp) ?_
  have t0 : Tr tbl J (c60_o0) (fun s h' => s = T.set (T.set .leaf [] (G a)) [false] (G b) ∧ h' = frameOf h) .normal (fun s h => s.get [] = G a ∧ s.get [false] = G b) := Tr.region fun s h hp => by
    obtain ⟨rfl, rfl⟩ := hp
    simp (disch := first | omega | exact getEq rfl | exact getO0 | exact Nat.le_of_ble_eq_true rfl) [c60_o0, frameOf, Heap.size, Heap.get, Eff.app, Heap.setOwn]
  have t1 : Tr tbl J ((.seq c60_o3 .ret)) (fun s h => s.get [] = G (Nat.gcd a b)) .ret (fun s h => s.get [true, false] = G (Nat.gcd a b)) := Tr.region fun s h hp => by
    have g0 := hp
    simp (disch := first | omega | exact getEq rfl | exact getO0 | exact Nat.le_of_ble_eq_true rfl) [c60_o3, frameOf, Heap.size, Heap.get, Eff.app, Heap.setOwn, g0]
  exact Tr.post (fun s h q => by simp [c60, q]) (Tr.seq t0 (Tr.seq (Tr.block (c60_loop J b a ha hb)) t1))
def R4 : CallF := addV R3 60 spec60
theorem s4 : Sound Go.Proofs.Try.prog R4 := Sound.addV follows ok s3 (by decide) (fun args v h => by
  unfold spec60 at h
  split at h
  · rename_i a b
    split at h
    · rename_i hn
      simp only [Option.some.injEq] at h; subst h
      have := c60_ok R3 (fun _ _ => rfl) e0 a.toNat b.toNat (by omega) (by omega)
      rwa [Int.toNat_of_nonneg hn.1, Int.toNat_of_nonneg hn.2.2.1] at this
    · cases h
  · cases h)
theorem c76_loop (J : CallF) : ∀ (b a : Nat), a < 9223372036854775808 → b < 9223372036854775808 → Tr tbl J c76_l0 (fun s h => s.get [] = G a ∧ s.get [false] = G b) (.exit 0) (fun s h => s.get [] = G (Nat.gcd a b)) := by
  intro b
  induction b using Nat.strongRecOn with
  | _ b ih =>
    intro a ha hb
    by_cases hb0 : b = 0
    · subst hb0
      have t : Tr tbl J ((.trim [[], [false]] c76_b0)) (fun s h => s.get [] = G a ∧ s.get [false] = G ((0 : Nat) : Int)) (.exit 0) (fun s h => s.get [] = G a) := Tr.region fun s h hp => by
        obtain ⟨g0, g1⟩ := hp
        simp (disch := first | omega | exact getEq rfl | exact getO0 | exact Nat.le_of_ble_eq_true rfl) [c76_b0, c76_o1, frameOf, Heap.size, Heap.get, Eff.app, Heap.setOwn, g0, g1]
      rw [Nat.gcd_zero_right]
      exact Tr.out t (by simp)
    · have hpos : 0 < b := Nat.pos_of_ne_zero hb0
      have hmod : (a : Int) % (b : Int) = ((a % b : Nat) : Int) := rfl
      have hlt := Nat.mod_lt a hpos
      generalize hr : a % b = r at *
      have t : Tr tbl J ((.trim [[], [false]] c76_b0)) (fun s h => s.get [] = G a ∧ s.get [false] = G b) .normal (fun s h => s.get [] = G b ∧ s.get [false] = G r) := Tr.region fun s h hp => by
        obtain ⟨g0, g1⟩ := hp
        simp (disch := first | omega | exact getEq rfl | exact getO0 | exact Nat.le_of_ble_eq_true rfl) [c76_b0, c76_o1, c76_o2, c76_o3, c76_o4, frameOf, Heap.size, Heap.get, Eff.app, Heap.setOwn, g0, g1, hmod, hpos, hb0]
      have := ih r hlt b hb (by omega)
      rw [← hr, Nat.gcd_comm b (a % b), ← Nat.gcd_rec b a, Nat.gcd_comm b a] at this
      rw [← hr] at t
      exact Tr.next t this
theorem c76_ok (J : CallF) (hJ : ∀ a h, J 76 a h = none) (h : Heap) (a b : Nat) (ha : a < 9223372036854775808) (hb : b < 9223372036854775808) : CallsTo tbl J 76 [G a, G b] h (G (Nat.gcd a b), [], false) := by
  refine Tr.fnv (cf := c76) (e := .ret) (s := T.set (T.set .leaf [] (G a)) [false] (G b)) (by decide) rfl (hJ _ _) rfl rfl rfl (by simp) ?_
  have t0 : Tr tbl J (c76_o0) (fun s h' => s = T.set (T.set .leaf [] (G a)) [false] (G b) ∧ h' = frameOf h) .normal (fun s h => s.get [] = G a ∧ s.get [false] = G b) := Tr.region fun s h hp => by
    obtain ⟨rfl, rfl⟩ := hp
    simp (disch := first | omega | exact getEq rfl | exact getO0 | exact Nat.le_of_ble_eq_true rfl) [c76_o0, frameOf, Heap.size, Heap.get, Eff.app, Heap.setOwn]
  have t1 : Tr tbl J ((.seq c76_o5 .ret)) (fun s h => s.get [] = G (Nat.gcd a b)) .ret (fun s h => s.get [true, false] = G (Nat.gcd a b)) := Tr.region fun s h hp => by
    have g0 := hp
    simp (disch := first | omega | exact getEq rfl | exact getO0 | exact Nat.le_of_ble_eq_true rfl) [c76_o5, frameOf, Heap.size, Heap.get, Eff.app, Heap.setOwn, g0]
  exact Tr.post (fun s h q => by simp [c76, q]) (Tr.seq t0 (Tr.seq (Tr.block (c76_loop J b a ha hb)) t1))
def R5 : CallF := addV R4 76 spec60
theorem s5 : Sound Go.Proofs.Try.prog R5 := Sound.addV follows ok s4 (by decide) (fun args v h => by
  unfold spec60 at h
  split at h
  · rename_i a b
    split at h
    · rename_i hn
      simp only [Option.some.injEq] at h; subst h
      have := c76_ok R4 (fun _ _ => rfl) e0 a.toNat b.toNat (by omega) (by omega)
      rwa [Int.toNat_of_nonneg hn.1, Int.toNat_of_nonneg hn.2.2.1] at this
    · cases h
  · cases h)
abbrev K76 (J : CallF) : Prop := ∀ (a b : Int) (h : Heap), 0 ≤ a → a < 9223372036854775808 → 0 ≤ b → b < 9223372036854775808 → J 76 [G a, G b] h = some (G (Nat.gcd a.toNat b.toNat), [], false)
theorem k76 : K76 R5 := fun a b h h1 h2 h3 h4 => by simp [R5, addV, spec60, h1, h2, h3, h4]

/-! ### Reduced -/
def fr (num den : Int) : AV := .agg [G (num / (Nat.gcd num.toNat den.toNat : Int)), G (den / (Nat.gcd num.toNat den.toNat : Int))]
def spec61 : SpecV
  | [.int .i64 num, .int .i64 den] => if 0 ≤ num ∧ num < 9223372036854775808 ∧ 0 < den ∧ den < 9223372036854775808 then some (fr num den) else none
  | _ => none
theorem c61_ok (J : CallF) (hJ : ∀ a h, J 61 a h = none) (k76 : K76 J) (num den : Int) (h1 : 0 ≤ num) (h2 : num < 9223372036854775808) (h3 : 0 < den) (h4 : den < 9223372036854775808) : CallsTo tbl J 61 [G num, G den] e0 (fr num den, [], false) := by
  have hk := fun h => k76 num den h h1 h2 (by omega) h4
  have hg : 0 < Nat.gcd num.toNat den.toNat := Nat.gcd_pos_of_pos_right _ (by omega)
  unfold fr
  generalize Nat.gcd num.toNat den.toNat = g at *
  have hg0 : ¬ (g : Int) = 0 := by omega
  have hg1 : ¬ g = 0 := by omega
  have q1 : num.tdiv (g : Int) = num / (g : Int) := Int.tdiv_eq_ediv_of_nonneg h1
  have q2 : den.tdiv (g : Int) = den / (g : Int) := Int.tdiv_eq_ediv_of_nonneg (by omega)
  have b1 : 0 ≤ num / (g : Int) := Int.ediv_nonneg h1 (by omega)
  have b2 : num / (g : Int) ≤ num := Int.ediv_le_self _ h1
  have b3 : 0 ≤ den / (g : Int) := Int.ediv_nonneg (by omega) (by omega)
  have b4 : den / (g : Int) ≤ den := Int.ediv_le_self _ (by omega)
  have w1 : IntKind.i64.wrap (num / (g : Int)) = num / (g : Int) := wrapI _ (by omega) (by omega)
  have w2 : IntKind.i64.wrap (den / (g : Int)) = den / (g : Int) := wrapI _ (by omega) (by omega)
  refine CallsTo.plain (cf := c61) (h' := ⟨e0.get, 0, [.cells 0 2 [G (num / (g : Int)), G (den / (g : Int))]]⟩) (by decide) rfl (hJ _ _) rfl rfl ?_
  simp [c61, c61_o0, c61_o1, c61_o2, kn, hk, hg0, hg1, q1, q2, w1, w2, mk, frameOf, Heap.size, e0, Eff.app, Heap.setOwn, Heap.get, putAt, fillA, AV.cells, loadA, takeA, Eff.isAll, -evDraw_c, evDraw_0, okPair, Eff.commutes, Eff.spares, apart]
def R6 : CallF := addV R5 61 spec61
theorem s6 : Sound Go.Proofs.Try.prog R6 := Sound.addV follows ok s5 (by decide) (fun args v h => by
  unfold spec61 at h
  split at h
  · rename_i a b
    split at h
    · rename_i hn
      simp only [Option.some.injEq] at h; subst h
      exact c61_ok R5 (fun _ _ => rfl) k76 a b hn.1 hn.2.1 hn.2.2.1 hn.2.2.2
    · cases h
  · cases h)
/-! ### The bounds of numbers -/
def bnd : Nat → Option (Int × Int)
  | 56 => some (0, 100000000)
  | 59 => some (1, 100000000)
  | 77 => some (0, 9)
  | _ => none
def spec77 (lo hi : Int) : SpecF := fun args h => match args with
  | [.int .i64 a] => some (.bool (!decide (lo ≤ a ∧ a ≤ hi)), h.own, true)
  | _ => none
theorem c77_ok (J : CallF) (k57 : K57 J) (hJ : ∀ a h, J 77 a h = none) (h : Heap) (a : Int) : CallsTo tbl J 77 [G a] h (.bool (!decide (0 ≤ a ∧ a ≤ 9)), h.own, true) := by
  refine Tr.sh (cf := c77) (e := .ret) (s := T.set .leaf [] (G a)) (by decide) rfl (hJ _ _) rfl rfl (by simp) ?_
  have k := k57 a 0 9 h
  generalize decide (0 ≤ a ∧ a ≤ 9) = b at *
  have t : Tr tbl J ((.seq c77_o0 (.seq c77_o1 .ret))) (fun s h' => s = T.set .leaf [] (G a) ∧ h' = h) .ret (fun s h' => s.get [true] = .bool (!b) ∧ h' = h) := Tr.region fun s h hp => by
    obtain ⟨rfl, rfl⟩ := hp
    simp (disch := first | omega | exact getEq rfl | exact getO0 | exact Nat.le_of_ble_eq_true rfl) [c77_o0, c77_o1, app_growP, app_noneP, plus_N, plus_at0, put_plus0, put_plus1, upd_N, upd_size, k]
  exact Tr.post (fun s h' q => ⟨by simp [c77, q.1], q.2⟩) t
theorem c56_ok (J : CallF) (k57 : K57 J) (hJ : ∀ a h, J 56 a h = none) (h : Heap) (a : Int) : CallsTo tbl J 56 [G a] h (.bool (!decide (0 ≤ a ∧ a ≤ 100000000)), h.own, true) := by
  refine Tr.sh (cf := c56) (e := .ret) (s := T.set .leaf [] (G a)) (by decide) rfl (hJ _ _) rfl rfl (by simp) ?_
  have k := k57 a 0 100000000 h
  generalize decide (0 ≤ a ∧ a ≤ 100000000) = b at *
  have t : Tr tbl J ((.seq c56_o0 (.seq c56_o1 .ret))) (fun s h' => s = T.set .leaf [] (G a) ∧ h' = h) .ret (fun s h' => s.get [true] = .bool (!b) ∧ h' = h) := Tr.region fun s h hp => by
    obtain ⟨rfl, rfl⟩ := hp
    simp (disch := first | omega | exact getEq rfl | exact getO0 | exact Nat.le_of_ble_eq_true rfl) [c56_o0, c56_o1, app_growP, app_noneP, plus_N, plus_at0, put_plus0, put_plus1, upd_N, upd_size, k]
  exact Tr.post (fun s h' q => ⟨by simp [c56, q.1], q.2⟩) t
theorem c59_ok (J : CallF) (k57 : K57 J) (hJ : ∀ a h, J 59 a h = none) (h : Heap) (a : Int) : CallsTo tbl J 59 [G a] h (.bool (!decide (1 ≤ a ∧ a ≤ 100000000)), h.own, true) := by
  refine Tr.sh (cf := c59) (e := .ret) (s := T.set .leaf [] (G a)) (by decide) rfl (hJ _ _) rfl rfl (by simp) ?_
  have k := k57 a 1 100000000 h
  generalize decide (1 ≤ a ∧ a ≤ 100000000) = b at *
  have t : Tr tbl J ((.seq c59_o0 (.seq c59_o1 .ret))) (fun s h' => s = T.set .leaf [] (G a) ∧ h' = h) .ret (fun s h' => s.get [true] = .bool (!b) ∧ h' = h) := Tr.region fun s h hp => by
    obtain ⟨rfl, rfl⟩ := hp
    simp (disch := first | omega | exact getEq rfl | exact getO0 | exact Nat.le_of_ble_eq_true rfl) [c59_o0, c59_o1, app_growP, app_noneP, plus_N, plus_at0, put_plus0, put_plus1, upd_N, upd_size, k]
  exact Tr.post (fun s h' q => ⟨by simp [c59, q.1], q.2⟩) t
def R7 : CallF := addI R6 77 (spec77 0 9)
theorem s7 : Sound Go.Proofs.Try.prog R7 := Sound.add follows ok s6 (by decide) (fun args h x e => by
  unfold spec77 at e
  split at e
  · simp only [Option.some.injEq] at e; subst e; exact c77_ok R6 (fun n lo hi h => k57 n lo hi h) (fun _ _ => rfl) h _
  · cases e)
def R8 : CallF := addI R7 56 (spec77 0 100000000)
theorem s8 : Sound Go.Proofs.Try.prog R8 := Sound.add follows ok s7 (by decide) (fun args h x e => by
  unfold spec77 at e
  split at e
  · simp only [Option.some.injEq] at e; subst e; exact c56_ok R7 (fun n lo hi h => k57 n lo hi h) (fun _ _ => rfl) h _
  · cases e)
def R9 : CallF := addI R8 59 (spec77 1 100000000)
theorem s9 : Sound Go.Proofs.Try.prog R9 := Sound.add follows ok s8 (by decide) (fun args h x e => by
  unfold spec77 at e
  split at e
  · simp only [Option.some.injEq] at e; subst e; exact c59_ok R8 (fun n lo hi h => k57 n lo hi h) (fun _ _ => rfl) h _
  · cases e)
abbrev Kbn (J : CallF) : Prop := ∀ (f : Nat) (lo hi a : Int) (h : Heap), bnd f = some (lo, hi) → J f [G a] h = some (.bool (!decide (lo ≤ a ∧ a ≤ hi)), h.own, true)
theorem kbn9 : Kbn R9 := fun f lo hi a h e => by
  unfold bnd at e
  split at e <;> cases e
  all_goals simp [R9, R8, R7, addI, spec77]

/-- Where the first number out of bounds stands, from i on. -/
def fnd (lo hi : Int) : List Int → Nat → Int
  | [], _ => -1
  | a :: r, i => if lo ≤ a ∧ a ≤ hi then fnd lo hi r (i + 1) else i
def allIn (lo hi : Int) (A : List Int) : Bool := A.all fun a => decide (lo ≤ a ∧ a ≤ hi)
theorem fnd_neg (lo hi : Int) : ∀ (A : List Int) (i : Nat), -1 ≤ fnd lo hi A i ∧ (fnd lo hi A i < 0 ↔ allIn lo hi A = true)
  | [], i => by simp [fnd, allIn]
  | a :: r, i => by
    have h := fnd_neg lo hi r (i + 1)
    unfold fnd
    by_cases c : lo ≤ a ∧ a ≤ hi
    · rw [if_pos c]
      refine ⟨h.1, h.2.trans ?_⟩
      simp [allIn, c]
    · rw [if_neg c]
      refine ⟨by omega, ⟨fun q => by omega, fun q => ?_⟩⟩
      simp only [allIn, List.all_cons, Bool.and_eq_true, decide_eq_true_eq] at q
      exact absurd q.1 c
section
variable {f : Nat} {lo hi : Int} {b v n : Nat} {A : List Int}
theorem c78_loop (J : CallF) (kb : Kbn J) (hf : bnd f = some (lo, hi)) (h : Heap) {ca : List AV} (ha : h.get b = .cells 1 v ca) (hca : ∀ i : Nat, ca[i]? = (A[i]?).map fun n => AV.int .i64 n) (la : A.length = n) (hn : n < 9223372036854775808) :
    ∀ j i, i + j = n → (allIn lo hi (A.drop i) = true → Tr tbl J c78_l0 (fun s h' => s.get [] = .slice b 0 n v ∧ s.get [false] = .func f [] ∧ s.get [false, false, false] = G n ∧ s.get [true, false, false] = G i ∧ h' = ⟨h.get, h.size, []⟩) (.exit 0) (fun s h => True)) ∧
      (allIn lo hi (A.drop i) = false → Tr tbl J c78_l0 (fun s h' => s.get [] = .slice b 0 n v ∧ s.get [false] = .func f [] ∧ s.get [false, false, false] = G n ∧ s.get [true, false, false] = G i ∧ h' = ⟨h.get, h.size, []⟩) .ret (fun s h => s.get [true, false] = G (fnd lo hi (A.drop i) i))) := by
  have h1 := get_lt ha (by simp)
  have hf0 : f ≠ 0 := fun e => by subst e; cases hf
  intro j
  induction j with
  | zero =>
    intro i hi'
    obtain rfl : i = n := by omega
    have e1 : A.drop i = [] := List.drop_of_length_le (by omega)
    rw [e1]
    refine ⟨fun _ => ?_, fun hne => by cases hne⟩
    have t : Tr tbl J ((.trim [[], [false], [false, false, false], [true, false, false]] c78_b0)) (fun s h' => s.get [] = .slice b 0 i v ∧ s.get [false] = .func f [] ∧ s.get [false, false, false] = G i ∧ s.get [true, false, false] = G i ∧ h' = ⟨h.get, h.size, []⟩) (.exit 0) (fun s h => True) := Tr.region fun s h hp => by
      obtain ⟨g0, g1, g2, g3, rfl⟩ := hp
      simp (disch := first | omega | exact getEq rfl | exact getO0 | exact Nat.le_of_ble_eq_true rfl) [c78_b0, c78_o2, size_mk, get_mk_lt, get_mk_ge, frameOf, Eff.app, Heap.setOwn, g0, g1, g2, g3]
    exact Tr.out t (by simp)
  | succ j ih =>
    intro i hi'
    have hia : i < A.length := by omega
    have ea : A[i]? = some A[i] := List.getElem?_eq_getElem hia
    have da : A.drop i = A[i] :: A.drop (i + 1) := List.drop_eq_getElem_cons hia
    rw [da]
    have xa := hca i
    rw [ea] at xa
    simp only [Option.map_some] at xa
    clear ea da hca
    generalize A[i] = p at *
    have ih' := ih (i + 1) (by omega)
    have kp := kb f lo hi p ⟨h.get, h.size, []⟩ hf
    by_cases hp : lo ≤ p ∧ p ≤ hi
    · rw [show decide (lo ≤ p ∧ p ≤ hi) = true from decide_eq_true hp] at kp
      have t : Tr tbl J ((.trim [[], [false], [false, false, false], [true, false, false]] c78_b0)) (fun s h' => s.get [] = .slice b 0 n v ∧ s.get [false] = .func f [] ∧ s.get [false, false, false] = G n ∧ s.get [true, false, false] = G i ∧ h' = ⟨h.get, h.size, []⟩) .normal (fun s h' => s.get [] = .slice b 0 n v ∧ s.get [false] = .func f [] ∧ s.get [false, false, false] = G n ∧ s.get [true, false, false] = G ((i + 1 : Nat) : Int) ∧ h' = ⟨h.get, h.size, []⟩) := Tr.region fun s h hp => by
        obtain ⟨g0, g1, g2, g3, rfl⟩ := hp
        simp (disch := first | omega | exact getEq rfl | exact getO0 | exact Nat.le_of_ble_eq_true rfl) [c78_b0, c78_o2, c78_o3, c78_o4, c78_o6, size_mk, get_mk_lt, get_mk_ge, frameOf, Eff.app, Heap.setOwn, g0, g1, g2, g3, ha, xa, kp, hf0]
      have e1 : allIn lo hi (p :: A.drop (i + 1)) = allIn lo hi (A.drop (i + 1)) := by simp [allIn, hp]
      have e2 : fnd lo hi (p :: A.drop (i + 1)) i = fnd lo hi (A.drop (i + 1)) (i + 1) := by
        show (if lo ≤ p ∧ p ≤ hi then _ else _) = _
        rw [if_pos hp]
      rw [e1, e2]
      exact ⟨fun e => Tr.next t (ih'.1 e), fun e => Tr.next t (ih'.2 e)⟩
    · rw [show decide (lo ≤ p ∧ p ≤ hi) = false from decide_eq_false hp] at kp
      refine ⟨fun e => by simp [allIn, hp] at e, fun _ => ?_⟩
      have e2 : fnd lo hi (p :: A.drop (i + 1)) i = i := by
        show (if lo ≤ p ∧ p ≤ hi then _ else _) = _
        rw [if_neg hp]
      rw [e2]
      have t : Tr tbl J ((.trim [[], [false], [false, false, false], [true, false, false]] c78_b0)) (fun s h' => s.get [] = .slice b 0 n v ∧ s.get [false] = .func f [] ∧ s.get [false, false, false] = G n ∧ s.get [true, false, false] = G i ∧ h' = ⟨h.get, h.size, []⟩) .ret (fun s h => s.get [true, false] = G i) := Tr.region fun s h hp => by
        obtain ⟨g0, g1, g2, g3, rfl⟩ := hp
        simp (disch := first | omega | exact getEq rfl | exact getO0 | exact Nat.le_of_ble_eq_true rfl) [c78_b0, c78_o2, c78_o3, c78_o4, c78_o5, size_mk, get_mk_lt, get_mk_ge, frameOf, Eff.app, Heap.setOwn, g0, g1, g2, g3, ha, xa, kp, hf0]
      exact Tr.out t (by simp)
theorem c78_ok (J : CallF) (kb : Kbn J) (hJ : ∀ a h, J 78 a h = none) (hf : bnd f = some (lo, hi)) (h : Heap) {x : AV} (hx : LR h x A) (hn : A.length < 9223372036854775808) : CallsTo tbl J 78 [x, .func f []] h (G (fnd lo hi A 0), [], false) := by
  refine Tr.fnv (cf := c78) (e := .ret) (s := T.set (T.set .leaf [] x) [false] (.func f [])) (by decide) rfl (hJ _ _) rfl rfl rfl (by simp) ?_
  have t0 : Tr tbl J (c78_o0) (fun s h' => s = T.set (T.set .leaf [] x) [false] (.func f []) ∧ h' = frameOf h) .normal (fun s h' => s.get [] = x ∧ s.get [false] = .func f [] ∧ h' = ⟨h.get, h.size, []⟩) := Tr.region fun s h hp => by
    obtain ⟨rfl, rfl⟩ := hp
    simp (disch := first | omega | exact getEq rfl | exact getO0 | exact Nat.le_of_ble_eq_true rfl) [c78_o0, frameOf, Heap.size, Heap.get, Eff.app, Heap.setOwn]
  have t3 : Tr tbl J ((.seq c78_o7 .ret)) (fun s h => True) .ret (fun s h => s.get [true, false] = G (-1)) := Tr.region fun s h hp => by
    simp (disch := first | omega | exact getEq rfl | exact getO0 | exact Nat.le_of_ble_eq_true rfl) [c78_o7, frameOf, Heap.size, Heap.get, Eff.app, Heap.setOwn]
  have nil : ∀ y, (y = .nils ∨ y = .slice0) → x = y → A = [] → Tr tbl J (.seq c78_o1 (.block 0 c78_l0)) (fun s h' => s.get [] = x ∧ s.get [false] = .func f [] ∧ h' = ⟨h.get, h.size, []⟩) .normal (fun s h => True) := fun y hy e _ => by
    subst e
    have t1 : Tr tbl J (c78_o1) (fun s h' => s.get [] = x ∧ s.get [false] = .func f [] ∧ h' = ⟨h.get, h.size, []⟩) .normal (fun s h' => s.get [] = x ∧ s.get [false] = .func f [] ∧ s.get [false, false, false] = G ((0 : Nat) : Int) ∧ s.get [true, false, false] = G ((0 : Nat) : Int) ∧ h' = ⟨h.get, h.size, []⟩) := Tr.region fun s h hp => by
      obtain ⟨g0, g1, rfl⟩ := hp
      rcases hy with rfl | rfl <;> simp (disch := first | omega | exact getEq rfl | exact getO0 | exact Nat.le_of_ble_eq_true rfl) [c78_o1, size_mk, get_mk_lt, get_mk_ge, frameOf, Eff.app, Heap.setOwn, g0, g1]
    have t2 : Tr tbl J ((.trim [[], [false], [false, false, false], [true, false, false]] c78_b0)) (fun s h' => s.get [] = x ∧ s.get [false] = .func f [] ∧ s.get [false, false, false] = G ((0 : Nat) : Int) ∧ s.get [true, false, false] = G ((0 : Nat) : Int) ∧ h' = ⟨h.get, h.size, []⟩) (.exit 0) (fun s h => True) := Tr.region fun s h hp => by
      obtain ⟨g0, g1, g2, g3, rfl⟩ := hp
      simp (disch := first | omega | exact getEq rfl | exact getO0 | exact Nat.le_of_ble_eq_true rfl) [c78_b0, c78_o2, size_mk, get_mk_lt, get_mk_ge, frameOf, Eff.app, Heap.setOwn, g0, g1, g2, g3]
    exact Tr.seq t1 (Tr.block (Tr.out t2 (by simp)))
  rcases hx.cases with ⟨e, hA⟩ | ⟨e, hA⟩ | ⟨b, v, rfl, g⟩
  · have t1 := nil _ (.inl rfl) e hA
    subst hA
    exact Tr.post (fun s h q => by simp [c78, q, fnd]) (Tr.seq t0 (Tr.seq t1 t3))
  · have t1 := nil _ (.inr rfl) e hA
    subst hA
    exact Tr.post (fun s h q => by simp [c78, q, fnd]) (Tr.seq t0 (Tr.seq t1 t3))
  ·
    have t1 : Tr tbl J (c78_o1) (fun s h' => s.get [] = .slice b 0 A.length v ∧ s.get [false] = .func f [] ∧ h' = ⟨h.get, h.size, []⟩) .normal (fun s h' => s.get [] = .slice b 0 A.length v ∧ s.get [false] = .func f [] ∧ s.get [false, false, false] = G A.length ∧ s.get [true, false, false] = G ((0 : Nat) : Int) ∧ h' = ⟨h.get, h.size, []⟩) := Tr.region fun s h hp => by
      obtain ⟨g0, g1, rfl⟩ := hp
      simp (disch := first | omega | exact getEq rfl | exact getO0 | exact Nat.le_of_ble_eq_true rfl) [c78_o1, size_mk, get_mk_lt, get_mk_ge, frameOf, Eff.app, Heap.setOwn, g0, g1]
    obtain ⟨l1, l2⟩ := c78_loop J kb hf h g (fun i => List.getElem?_map) rfl hn A.length 0 (by omega)
    rw [List.drop_zero] at l1 l2
    by_cases e : allIn lo hi A = true
    · have hm := fnd_neg lo hi A 0
      have : fnd lo hi A 0 = -1 := by have := hm.2.2 e; omega
      rw [this]
      exact Tr.post (fun s h q => by simp [c78, q]) (Tr.seq t0 (Tr.seq (Tr.seq t1 (Tr.block (l1 e))) t3))
    · exact Tr.post (fun s h q => by simp [c78, q]) (Tr.seq t0 (Tr.seq_out (Tr.seq t1 (Tr.block_out (l2 (by simpa using e)) (by simp))) (by simp)))
end
def spec78 : SpecF := fun args h => match args with
  | [x, .func f []] => match bnd f, lst h x with
    | some (lo, hi), some A => if A.length < 9223372036854775808 then some (G (fnd lo hi A 0), [], false) else none
    | _, _ => none
  | _ => none
def R10 : CallF := addI R9 78 spec78
theorem s10 : Sound Go.Proofs.Try.prog R10 := Sound.add follows ok s9 (by decide) (fun args h x e => by
  unfold spec78 at e
  split at e
  · split at e
    · rename_i h1 h2
      split at e
      · rename_i hn
        simp only [Option.some.injEq] at e; subst e; exact c78_ok R9 kbn9 (fun _ _ => rfl) h1 h (lst_lr.1 h2) hn
      · cases e
    · cases e
  · cases e)
def spec55 : SpecF := fun args h => match args with
  | [x, .func f []] => match bnd f, lst h x with
    | some (lo, hi), some A => if A.length < 9223372036854775808 then some (.bool (!allIn lo hi A), [], false) else none
    | _, _ => none
  | _ => none
theorem c55_ok (J : CallF) (hJ : ∀ a h, J 55 a h = none) {f : Nat} {lo hi : Int} {A : List Int} (h : Heap) (x : AV) (k78 : ∀ h', (∃ own, h' = (⟨h.get, h.size, own⟩ : Heap)) → J 78 [x, .func f []] h' = some (G (fnd lo hi A 0), [], false)) : CallsTo tbl J 55 [x, .func f []] h (.bool (!allIn lo hi A), [], false) := by
  refine Tr.fnv (cf := c55) (e := .ret) (s := T.set (T.set .leaf [] x) [false] (.func f [])) (by decide) rfl (hJ _ _) rfl rfl rfl (by simp) ?_
  have hm := fnd_neg lo hi A 0
  have k := k78 ⟨h.get, h.size, []⟩ ⟨_, rfl⟩
  have hb : decide (0 ≤ fnd lo hi A 0) = !allIn lo hi A := by
    cases e : allIn lo hi A
    · simp only [Bool.not_false, decide_eq_true_eq]
      rcases Int.lt_or_le (fnd lo hi A 0) 0 with q | q
      · rw [hm.2.1 q] at e; cases e
      · exact q
    · simp only [Bool.not_true, decide_eq_false_iff_not]
      have := hm.2.2 e; omega
  rw [← hb]
  generalize fnd lo hi A 0 = z at *
  have t : Tr tbl J ((.seq c55_o0 (.seq c55_o1 .ret))) (fun s h' => s = T.set (T.set .leaf [] x) [false] (.func f []) ∧ h' = frameOf h) .ret (fun s h => s.get [true, false] = .bool (decide (0 ≤ z))) := Tr.region fun s h hp => by
    obtain ⟨rfl, rfl⟩ := hp
    simp (disch := first | omega | exact getEq rfl | exact getO0 | exact Nat.le_of_ble_eq_true rfl) [c55_o0, c55_o1, frameOf, size_mk, get_mk_lt, get_mk_ge, frameOf, Eff.app, Heap.setOwn, k]
  exact Tr.post (fun s h q => by simp [c55, q]) t
def R11 : CallF := addI R10 55 spec55
theorem s11 : Sound Go.Proofs.Try.prog R11 := Sound.add follows ok s10 (by decide) (fun args h x e => by
  unfold spec55 at e
  split at e
  · split at e
    · rename_i h1 h2
      split at e
      · rename_i hn
        simp only [Option.some.injEq] at e; subst e
        refine c55_ok R10 (fun _ _ => rfl) h _ ?_
        rintro h' ⟨own, rfl⟩
        simp only [R10, addI, if_true, spec78, h1, lst_lr.2 ((lst_lr.1 h2).lo own), if_pos hn]
      · cases e
    · cases e
  · cases e)
abbrev K55 (J : CallF) : Prop := ∀ (f : Nat) (lo hi : Int) (h : Heap) (x : AV) (A : List Int), bnd f = some (lo, hi) → LR h x A → A.length < 9223372036854775808 → J 55 [x, .func f []] h = some (.bool (!allIn lo hi A), [], false)
theorem k55 : K55 R11 := fun f lo hi h x A hf hx hn => by
  simp only [R11, addI, if_true, spec55, hf, lst_lr.2 hx, if_pos hn]

end Go.Proofs.Ytjeemgaoonapgaa.Ev
