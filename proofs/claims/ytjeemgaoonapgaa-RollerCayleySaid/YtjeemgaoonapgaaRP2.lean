/-
  Of the functions that this law reaches, part 2: what they answer. No condition.
-/
import Derived.Test.YtjeemgaoonapgaaRP1
import Derived.Test.YtjeemgaoonapgaaRP0
set_option linter.unusedVariables false
set_option linter.unusedSimpArgs false
namespace Go.Proofs.Ytjeemgaoonapgaa.Ev
open Go Go.AEv
attribute [local simp] evFunc initS evOps_c evTrim_c evSkip_c evExit_c evRet_c evSeq_c evCond_c evBlock_c evDraw_c runOps_n runOps_c exec_n exec_g pure1_c act AOpd.ev T.get T.set T.put evBin evUn forceT_eq forceV_eq forceL_eq evRess evRes one keep runFP_n runFP_c app_none AV.flats AV.flat came_some List.getElem?_cons_zero List.getElem?_cons_succ beqT wrapI idxI tdivI tmodI decT decF ibT ibF inT inF evScope_c if_pos if_neg Cm_some thenW_n thenW_e thenW_r blkW_n blkW_e blkW_r goI kn putAt AV.cells fillA loadA takeA mk Eff.isAll Eff.isNone Eff.commutes Eff.spares okPair apart eqAgg fits LK.fits allEq aveq eqk mmA
def sC (N : List (List Int)) (k t : Nat) : Int := sm (fun s => pc N s * pwX N s (t / N.length * 8 + t % N.length)) k
def suF (N : List (List Int)) (k p t : Nat) : Int := if t < p then w6 (sC N (k + 1) t) else w6 (sC N k t)
def suL (N : List (List Int)) (k p : Nat) : List AV := gs (lf (suF N k p) (N.length * N.length))
theorem suL_len (N : List (List Int)) (k p : Nat) : (suL N k p).length = N.length * N.length := gl_len _ _
theorem suL_set {N : List (List Int)} {k p : Nat} (hp : p < N.length * N.length) : (suL N k p).set p (G (w6 (sC N (k + 1) p))) = suL N k (p + 1) := by
  unfold suL
  rw [gl_set _ _ _ _ hp]
  congr 1
  apply lf_ext
  intro t ht
  unfold suF
  by_cases e : t = p
  · subst e; rw [if_pos rfl, if_pos (by omega)]
  · rw [if_neg e]
    by_cases l : t < p
    · rw [if_pos l, if_pos (by omega)]
    · rw [if_neg l, if_neg (by omega)]
theorem suL_next (N : List (List Int)) (k : Nat) : suL N k (N.length * N.length) = suL N (k + 1) 0 := by
  unfold suL
  congr 1
  apply lf_ext
  intro t ht
  unfold suF
  rw [if_pos ht, if_neg (by omega)]
theorem sq_lt {n i j : Nat} (hi : i < n) (hj : j < n) : i * n + j < n * n := by
  have := Nat.mul_le_mul_right n (show i + 1 ≤ n by omega)
  rw [Nat.succ_mul] at this
  omega
theorem sq_div {n i j : Nat} (hj : j < n) : (i * n + j) / n = i ∧ (i * n + j) % n = j := by
  have e1 : (i * n + j) / n = i := by rw [Nat.mul_comm, Nat.mul_add_div (by omega), Nat.div_eq_of_lt hj]; omega
  have e2 : (i * n + j) % n = j := by rw [Nat.mul_comm, Nat.mul_add_mod, Nat.mod_eq_of_lt hj]
  exact ⟨e1, e2⟩
section
variable {N : List (List Int)}
structure PT (H : Heap) (N : List (List Int)) (k S qp : Nat) (rs : List AV) : Prop where
  g : H.get qp = .cells 1 N.length rs
  n : qp ≠ S
  r : ∀ i, i < N.length → ∃ b, rs[i]? = some (.slice b 0 N.length N.length) ∧ H.get b = .cells 1 N.length (gs (rwL (pwX N k) N.length i)) ∧ b ≠ S
theorem TB.pt {H0 H : Heap} {x : AV} {k S : Nat} (hm : isMat N = true) (tb : TB H0 H x ((pwL N k).map gs)) (hS : S < H0.size) : ∃ qp rs, x = .slice qp 0 N.length N.length ∧ PT H N k S qp rs := by
  have h8 := isMat_n hm
  obtain ⟨rs, lv, hl, hr⟩ := tb.r
  rw [pwL_len] at hl
  obtain ⟨q, e1, e2⟩ := lv.sl (by intro e; rw [e] at hl; simp at hl; omega)
  rw [hl] at e1 e2
  refine ⟨q, rs, e1, e2, ?_, fun i hi => ?_⟩
  · have := tb.x0 q (by rw [e1]; rfl)
    omega
  · have ei := List.getElem?_eq_getElem (show i < rs.length by omega)
    obtain ⟨cs, b, a1, a2, a3, a4, a5⟩ := hr i _ ei
    rw [pwL_at k hi] at a1
    cases a1
    have lr : (gs (rwL (pwX N k) N.length i)).length = N.length := by simp [rwL, lf_len]
    rw [lr] at a2 a3
    exact ⟨b, by rw [ei, a2], a3, by omega⟩
structure AS (A h : Heap) (N : List (List Int)) (S k p : Nat) : Prop where
  kp : Kp (fun b => b = S) A h
  g : h.get S = .cells 1 (N.length * N.length) (suL N k p)
theorem k11_j (J : CallF) {A : Heap} {S qc qp k i : Nat} {rs : List AV} {x5 : AV} (hm : isMat N = true) (h5 : N.length ≤ 5) (P : PT A N k S qp rs) (gc : A.get qc = .cells 1 (N.length + 1) (gs (pyL N))) (nc : qc ≠ S) (hA : A.N ≤ S) (hk : k ≤ N.length) (hi : i < N.length) :
    Tr tbl J c11_l1 (fun s h => AS A h N S k (i * N.length + 0) ∧ s.get [] = G N.length ∧ s.get [false, true] = x5 ∧ s.get [true, true] = .slice qc 0 (N.length + 1) (N.length + 1) ∧ s.get [true, true, false] = .slice S 0 (N.length * N.length) (N.length * N.length) ∧ s.get [false, false, true] = G k ∧ s.get [true, false, true] = .slice qp 0 N.length N.length ∧ s.get [true, true, true] = G i ∧ s.get [false, false, false, false] = G ((0 : Nat) : Int)) (.exit 6)
      (fun s h => AS A h N S k ((i + 1) * N.length) ∧ s.get [] = G N.length ∧ s.get [false, true] = x5 ∧ s.get [true, true] = .slice qc 0 (N.length + 1) (N.length + 1) ∧ s.get [true, true, false] = .slice S 0 (N.length * N.length) (N.length * N.length) ∧ s.get [false, false, true] = G k ∧ s.get [true, false, true] = .slice qp 0 N.length N.length ∧ s.get [true, true, true] = G i) := by
  have h8 := isMat_n hm
  have n25 : N.length * N.length ≤ 5 * 5 := Nat.mul_le_mul h5 h5
  obtain ⟨b, er, gr, nb⟩ := P.r i hi
  have gp := P.g
  have np := P.n
  refine Tr.rounds (P := fun j s h => AS A h N S k (i * N.length + j) ∧ s.get [] = G N.length ∧ s.get [false, true] = x5 ∧ s.get [true, true] = .slice qc 0 (N.length + 1) (N.length + 1) ∧ s.get [true, true, false] = .slice S 0 (N.length * N.length) (N.length * N.length) ∧ s.get [false, false, true] = G k ∧ s.get [true, false, true] = .slice qp 0 N.length N.length ∧ s.get [true, true, true] = G i ∧ s.get [false, false, false, false] = G j) (M := N.length) (fun j hj => ?_) ?_ (by simp) 0 (by omega)
  · refine Tr.w fun s1 H1 hp R kR => W.trim ?_
    obtain ⟨au, q⟩ := hp
    have lt := sq_lt hi hj
    obtain ⟨dv, md⟩ := sq_div (n := N.length) (i := i) hj
    have gS := au.g
    have gp1 := au.kp.at gp (by simp) np
    have gr1 := au.kp.at gr (by simp) nb
    have gc1 := au.kp.at gc (by simp) nc
    have ep := rwL_at (pwX N k) (i := i) hj
    have ec : (gs (pyL N))[k]? = some (G (pc N k)) := gl_at _ (by omega)
    have es : (suL N k (i * N.length + j))[i * N.length + j]? = some (G (w6 (sC N k (i * N.length + j)))) := by
      unfold suL
      rw [gl_at _ lt]
      unfold suF
      rw [if_neg (by omega)]
    have hw : w6 (w6 (sC N k (i * N.length + j)) + w6 (pc N k * pwX N k (i * 8 + j))) = w6 (sC N (k + 1) (i * N.length + j)) := by
      rw [w6_add]
      show w6 (sC N k (i * N.length + j) + pc N k * pwX N k (i * 8 + j)) = w6 (sC N k (i * N.length + j) + pc N k * pwX N k ((i * N.length + j) / N.length * 8 + (i * N.length + j) % N.length))
      rw [dv, md]
    have hN : H1.N ≤ S := by rw [au.kp.N]; exact hA
    have ls := suL_len N k (i * N.length + j)
    have pt := put_gen H1 S (N.length * N.length) (i * N.length + j) 1 (suL N k (i * N.length + j)) [G (w6 (sC N (k + 1) (i * N.length + j)))] hN gS (by rw [ls]; exact lt)
    rw [show putAt (suL N k (i * N.length + j)) (i * N.length + j) [G (w6 (sC N (k + 1) (i * N.length + j)))] = (suL N k (i * N.length + j)).set (i * N.length + j) (G (w6 (sC N (k + 1) (i * N.length + j)))) from rfl, suL_set lt] at pt
    have au2 : AS A (H1.upd S (.cells 1 (N.length * N.length) (suL N k (i * N.length + j + 1)))) N S k (i * N.length + (j + 1)) := ⟨au.kp.trans (Kp.upd H1 S _ hN rfl), upd_same _ _ _ hN (get_lt gS (by simp))⟩
    have er' := getI er
    have ep' := getI ep
    have ec' := getI ec
    have es' := getI es
    have lpy : (gs (pyL N)).length = N.length + 1 := gl_len _ _
    have hin : (i : Int) * (N.length : Int) = ((i * N.length : Nat) : Int) := by rw [Int.natCast_mul]
    have hij : ((i * N.length : Nat) : Int) + (j : Int) = ((i * N.length + j : Nat) : Int) := by omega
    clear au P gp gr gc
    generalize suL N k (i * N.length + j + 1) = c2 at *
    generalize suL N k (i * N.length + j) = c1 at *
    generalize w6 (sC N (k + 1) (i * N.length + j)) = z2 at *
    generalize w6 (sC N k (i * N.length + j)) = z1 at *
    generalize pc N k = ck at *
    generalize pwX N k (i * 8 + j) = pk at *
    generalize gs (rwL (pwX N k) N.length i) = cr at *
    generalize gs (pyL N) = cy at *
    clear es' hm dv md
    have es' := getI es
    generalize hm0 : i * N.length = m0 at *
    generalize hp0 : m0 + j = p0 at *
    generalize hnn : N.length * N.length = nn at *
    generalize hn : N.length = n at *
    have hm2 : m0 ≤ 25 := by omega
    have hw2 : IntKind.i64.wrap (z1 + IntKind.i64.wrap (ck * pk)) = z2 := hw
    refine W.assoc ?_
    refine W.seq (W.chunk ?_)
    simp (disch := first|omega|exact zE rfl|exact zO|exact zL rfl) [c11_o24, zG, q]
    refine W.seq (W.chunk ?_)
    simp (disch := first|omega|exact zE rfl|exact zO|exact zL rfl) [zG, q]
    refine W.seq (W.block ?_)
    refine W.chunk ?_
    simp (disch := first|omega|exact zE rfl|exact zO|exact zL rfl) [c11_o25, zG, q, hin, hij, gS, gc1, gp1, gr1, er, er', ep, ep', ec, ec', es, es', lpy, ls, hw2, pt, -evDraw_c, evDraw_0]
    refine W.chunk ?_
    simp (disch := first|omega|exact zE rfl|exact zO|exact zL rfl) [c11_o26, zG, q]
    exact kR _ _ ⟨au2, by simp [T.get, q]⟩
  · refine Tr.w fun s1 H1 hp R kR => W.trim ?_
    obtain ⟨au, q⟩ := hp
    have e : i * N.length + N.length = (i + 1) * N.length := (Nat.succ_mul i N.length).symm
    rw [e] at au
    clear P gc
    generalize hn : N.length = n at *
    refine W.assoc ?_
    refine W.seq (W.chunk ?_)
    simp (disch := first|omega|exact zE rfl|exact zO|exact zL rfl) [c11_o24, zG, q]
    refine W.seq (W.chunk ?_)
    simp (disch := first|omega|exact zE rfl|exact zO|exact zL rfl) [zG, q]
    exact kR _ _ ⟨au, by simp [T.get, q]⟩
theorem k11_i (J : CallF) {A : Heap} {S qc qp k : Nat} {rs : List AV} {x5 : AV} (hm : isMat N = true) (h5 : N.length ≤ 5) (P : PT A N k S qp rs) (gc : A.get qc = .cells 1 (N.length + 1) (gs (pyL N))) (nc : qc ≠ S) (hA : A.N ≤ S) (hk : k ≤ N.length) :
    Tr tbl J c11_l2 (fun s h => AS A h N S k 0 ∧ s.get [] = G N.length ∧ s.get [false, true] = x5 ∧ s.get [true, true] = .slice qc 0 (N.length + 1) (N.length + 1) ∧ s.get [true, true, false] = .slice S 0 (N.length * N.length) (N.length * N.length) ∧ s.get [false, false, true] = G k ∧ s.get [true, false, true] = .slice qp 0 N.length N.length ∧ s.get [true, true, true] = G ((0 : Nat) : Int)) (.exit 4)
      (fun s h => AS A h N S (k + 1) 0 ∧ s.get [] = G N.length ∧ s.get [false, true] = x5 ∧ s.get [true, true] = .slice qc 0 (N.length + 1) (N.length + 1) ∧ s.get [true, true, false] = .slice S 0 (N.length * N.length) (N.length * N.length) ∧ s.get [false, false, true] = G k) := by
  have h8 := isMat_n hm
  refine Tr.pre (P := fun s h => AS A h N S k (0 * N.length) ∧ s.get [] = G N.length ∧ s.get [false, true] = x5 ∧ s.get [true, true] = .slice qc 0 (N.length + 1) (N.length + 1) ∧ s.get [true, true, false] = .slice S 0 (N.length * N.length) (N.length * N.length) ∧ s.get [false, false, true] = G k ∧ s.get [true, false, true] = .slice qp 0 N.length N.length ∧ s.get [true, true, true] = G ((0 : Nat) : Int)) (fun s h q => by rw [Nat.zero_mul]; exact q) ?_
  refine Tr.rounds (P := fun i s h => AS A h N S k (i * N.length) ∧ s.get [] = G N.length ∧ s.get [false, true] = x5 ∧ s.get [true, true] = .slice qc 0 (N.length + 1) (N.length + 1) ∧ s.get [true, true, false] = .slice S 0 (N.length * N.length) (N.length * N.length) ∧ s.get [false, false, true] = G k ∧ s.get [true, false, true] = .slice qp 0 N.length N.length ∧ s.get [true, true, true] = G i) (M := N.length) (fun i hi => ?_) ?_ (by simp) 0 (by omega)
  · refine Tr.w fun s1 H1 hp R kR => W.trim ?_
    obtain ⟨au, q⟩ := hp
    have l1 := k11_j (x5 := x5) J hm h5 P gc nc hA hk hi
    rw [Nat.add_zero] at l1
    obtain ⟨b, er, _⟩ := P.r i hi
    have gp1 := au.kp.at P.g (by simp) P.n
    have er' := getI er
    clear P gc hm
    generalize hm0 : i * N.length = m0 at *
    generalize hm1 : (i + 1) * N.length = m1 at *
    generalize hnn : N.length * N.length = nn at *
    generalize hn : N.length = n at *
    refine W.assoc ?_
    refine W.seq (W.chunk ?_)
    simp (disch := first|omega|exact zE rfl|exact zO|exact zL rfl) [c11_o20, zG, q]
    refine W.seq (W.chunk ?_)
    simp (disch := first|omega|exact zE rfl|exact zO|exact zL rfl) [zG, q]
    refine W.seq (W.block ?_)
    refine W.assoc ?_
    refine W.seq (W.chunk ?_)
    simp (disch := first|omega|exact zE rfl|exact zO|exact zL rfl) [c11_o21, zG, q, gp1, er, er']
    refine W.seq (W.chunk ?_)
    simp (disch := first|omega|exact zE rfl|exact zO|exact zL rfl) [c11_o22, zG, q]
    refine W.seq (W.chunk ?_)
    simp (disch := first|omega|exact zE rfl|exact zO|exact zL rfl) [c11_o23, zG, q]
    refine W.block ?_
    refine W.use (l1) (by simp (disch := first|omega|exact zE rfl|exact zO|exact zL rfl) [zG, q, au]) fun s1 H1 hp => ?_
    obtain ⟨au2, q⟩ := hp
    try simp only [zW, if_true]
    refine W.chunk ?_
    simp (disch := first|omega|exact zE rfl|exact zO|exact zL rfl) [c11_o27, zG, q]
    exact kR _ _ ⟨au2, by simp [T.get, q]⟩
  · refine Tr.w fun s1 H1 hp R kR => W.trim ?_
    obtain ⟨au, q⟩ := hp
    have fin : AS A H1 N S (k + 1) 0 := ⟨au.kp, by rw [← suL_next]; exact au.g⟩
    clear P gc hm au
    generalize hnn : N.length * N.length = nn at *
    generalize hn : N.length = n at *
    refine W.assoc ?_
    refine W.seq (W.chunk ?_)
    simp (disch := first|omega|exact zE rfl|exact zO|exact zL rfl) [c11_o20, zG, q]
    refine W.seq (W.chunk ?_)
    simp (disch := first|omega|exact zE rfl|exact zO|exact zL rfl) [zG, q]
    exact kR _ _ ⟨fin, by simp [T.get, q]⟩
structure ZS (H0 h : Heap) (N : List (List Int)) (k : Nat) : Prop where
  kp : Kp (fun _ => False) H0 h
  g : h.get H0.size = .cells 1 (N.length * N.length) (suL N k 0)
theorem k11_k (J : CallF) (k43 : K43 J) {H0 : Heap} {qc : Nat} {x : AV} (hm : isMat N = true) (h5 : N.length ≤ 5) (hx : MR H0 x N) (gc : H0.get qc = .cells 1 (N.length + 1) (gs (pyL N))) :
    Tr tbl J c11_l3 (fun s h => ZS H0 h N 0 ∧ s.get [] = G N.length ∧ s.get [false, true] = x ∧ s.get [true, true] = .slice qc 0 (N.length + 1) (N.length + 1) ∧ s.get [true, true, false] = .slice H0.size 0 (N.length * N.length) (N.length * N.length) ∧ s.get [false, false, true] = G ((0 : Nat) : Int)) (.exit 2)
      (fun s h => ZS H0 h N (N.length + 1) ∧ s.get [] = G N.length ∧ s.get [true, true, false] = .slice H0.size 0 (N.length * N.length) (N.length * N.length)) := by
  have h8 := isMat_n hm
  refine Tr.rounds (P := fun k s h => ZS H0 h N k ∧ s.get [] = G N.length ∧ s.get [false, true] = x ∧ s.get [true, true] = .slice qc 0 (N.length + 1) (N.length + 1) ∧ s.get [true, true, false] = .slice H0.size 0 (N.length * N.length) (N.length * N.length) ∧ s.get [false, false, true] = G k) (M := N.length + 1) (fun k hk => ?_) ?_ (by simp) 0 (by omega)
  · refine Tr.w fun s1 H1 hp R kR => W.trim ?_
    obtain ⟨z, q⟩ := hp
    have hx1 := hx.kp z.kp
    obtain ⟨v, own, j43, _, _, p⟩ := k43 H1 ⟨N, x, k⟩ hx1
    obtain ⟨w, rfl, tb⟩ := p ⟨hm, by simp only; omega, by simp only; omega⟩ (by simpa using okP_small hm (by omega))
    simp only [Int.toNat_natCast] at j43 tb
    have k1 : Kp (fun _ => False) H1 (H1.plus own) := Kp.plus _ _
    obtain ⟨qp, rs, rfl, P⟩ := tb.pt hm (get_lt z.g (by simp))
    generalize hH2 : H1.plus own = H2 at *
    have k2 := z.kp.trans k1
    have au : AS H2 H2 N H0.size k 0 := ⟨Kp.refl _, k1.at z.g (by simp) id⟩
    have nc : qc ≠ H0.size := by have := get_lt gc (by simp); omega
    have hA : H2.N ≤ H0.size := by rw [k2.N]; unfold Heap.size; omega
    have l2 := k11_i (x5 := x) J hm h5 P (k2.at gc (by simp) id) nc hA (by omega)
    have gp := P.g
    have post : ∀ h, AS H2 h N H0.size (k + 1) 0 → ZS H0 h N (k + 1) := fun h au => ⟨k2.late au.kp fun q hq => by omega, au.g⟩
    clear P tb gc hx hx1 p
    generalize hnn : N.length * N.length = nn at *
    generalize hn : N.length = n at *
    refine W.assoc ?_
    refine W.seq (W.chunk ?_)
    simp (disch := first|omega|exact zE rfl|exact zO|exact zL rfl) [c11_o15, zG, q]
    refine W.seq (W.chunk ?_)
    simp (disch := first|omega|exact zE rfl|exact zO|exact zL rfl) [zG, q]
    refine W.seq (W.block ?_)
    refine W.seq (W.chunk ?_)
    simp (disch := first|omega|exact zE rfl|exact zO|exact zL rfl) [c11_o16, zG, q, j43, app_if, app_if', hH2]
    refine W.assoc ?_
    refine W.seq (W.chunk ?_)
    simp (disch := first|omega|exact zE rfl|exact zO|exact zL rfl) [c11_o17, zG, q]
    refine W.seq (W.chunk ?_)
    simp (disch := first|omega|exact zE rfl|exact zO|exact zL rfl) [c11_o18, zG, q]
    refine W.seq (W.chunk ?_)
    simp (disch := first|omega|exact zE rfl|exact zO|exact zL rfl) [c11_o19, zG, q]
    refine W.block ?_
    refine W.use (l2) (by simp (disch := first|omega|exact zE rfl|exact zO|exact zL rfl) [zG, q, au]) fun s1 H1 hp => ?_
    obtain ⟨au2, q⟩ := hp
    try simp only [zW, if_true]
    refine W.chunk ?_
    simp (disch := first|omega|exact zE rfl|exact zO|exact zL rfl) [c11_o28, zG, q]
    exact kR _ _ ⟨post _ au2, by simp [T.get, q]⟩
  · refine Tr.w fun s1 H1 hp R kR => W.trim ?_
    obtain ⟨z, q⟩ := hp
    clear gc hx
    generalize hnn : N.length * N.length = nn at *
    generalize hn : N.length = n at *
    refine W.assoc ?_
    refine W.seq (W.chunk ?_)
    simp (disch := first|omega|exact zE rfl|exact zO|exact zL rfl) [c11_o15, zG, q]
    refine W.seq (W.chunk ?_)
    simp (disch := first|omega|exact zE rfl|exact zO|exact zL rfl) [zG, q]
    exact kR _ _ ⟨z, by simp [T.get, q]⟩
theorem k11_z (J : CallF) {H : Heap} {S n nn : Nat} {cs : List AV} (g : H.get S = .cells 1 nn cs) (hnn : (n : Int) * (n : Int) = (nn : Int)) (h0 : ∀ t, t < nn → cs[t]? = some (G 0)) (h25 : nn ≤ 25) :
    Tr tbl J c11_l4 (fun s h => h = H ∧ s.get [] = G n ∧ s.get [true, true, false] = .slice S 0 nn nn ∧ s.get [true, false, false, false] = G ((0 : Nat) : Int)) (.exit 8) (fun s h => h = H) := by
  refine Tr.rounds (P := fun t => (fun s h => h = H ∧ s.get [] = G n ∧ s.get [true, true, false] = .slice S 0 nn nn ∧ s.get [true, false, false, false] = G t)) (M := nn) (fun t ht => ?_) ?_ (by simp) 0 (by omega)
  · refine Tr.w fun s1 H1 hp R kR => W.trim ?_
    obtain ⟨rfl, q⟩ := hp
    have e := h0 t ht
    have e' := getI e
    clear h0
    refine W.assoc ?_
    refine W.seq (W.chunk ?_)
    simp (disch := first|omega|exact zE rfl|exact zO|exact zL rfl) [c11_o30, zG, q, hnn]
    refine W.seq (W.chunk ?_)
    simp (disch := first|omega|exact zE rfl|exact zO|exact zL rfl) [zG, q]
    refine W.seq (W.block ?_)
    refine W.seq (W.chunk ?_)
    simp (disch := first|omega|exact zE rfl|exact zO|exact zL rfl) [c11_o31, zG, q, g, e, e']
    refine W.chunk ?_
    simp (disch := first|omega|exact zE rfl|exact zO|exact zL rfl) [c11_o32, zG, q]
    refine W.chunk ?_
    simp (disch := first|omega|exact zE rfl|exact zO|exact zL rfl) [c11_o33, zG, q]
    exact kR _ _ (by simp [T.get, q])
  · refine Tr.w fun s1 H1 hp R kR => W.trim ?_
    obtain ⟨rfl, q⟩ := hp
    clear h0
    refine W.assoc ?_
    refine W.seq (W.chunk ?_)
    simp (disch := first|omega|exact zE rfl|exact zO|exact zL rfl) [c11_o30, zG, q, hnn]
    refine W.seq (W.chunk ?_)
    simp (disch := first|omega|exact zE rfl|exact zO|exact zL rfl) [zG, q]
    exact kR _ _ rfl
theorem k11_t (J : CallF) {H : Heap} {b v : Nat} {cs : List AV} {x6 : AV} (hm : isMat N = true) (mx : MX H N b v cs) :
    Tr tbl J c11_l0 (fun s h => h = H ∧ s.get [] = G N.length ∧ s.get [false, true] = .slice b 0 N.length v ∧ s.get [true, true] = x6 ∧ s.get [true, false, false] = G (sm (fun i => ent N i i) 0) ∧ s.get [false, true, false] = G ((0 : Nat) : Int)) (.exit 0) (fun s h => h = H ∧ s.get [] = G N.length ∧ s.get [false, true] = .slice b 0 N.length v ∧ s.get [true, true] = x6 ∧ s.get [true, false, false] = G (sm (fun i => ent N i i) N.length)) := by
  have h8 := isMat_n hm
  have gb := mx.g
  refine Tr.rounds (P := fun i => (fun s h => h = H ∧ s.get [] = G N.length ∧ s.get [false, true] = .slice b 0 N.length v ∧ s.get [true, true] = x6 ∧ s.get [true, false, false] = G (sm (fun i => ent N i i) i) ∧ s.get [false, true, false] = G i)) (M := N.length) (fun i hi => ?_) ?_ (by simp) 0 (by omega)
  · refine Tr.w fun s1 H1 hp R kR => W.trim ?_
    obtain ⟨rfl, q⟩ := hp
    obtain ⟨rb, rv, er, gr⟩ := mx.r i hi
    have ee := row_at hm hi hi
    have er' := getI er
    have ee' := getI ee
    have eb := ent_bd hm i i
    have s0 := sm_nn (f := fun i => ent N i i) (fun k => (ent_bd hm k k).1) i
    have s1 := sm_bd (f := fun i => ent N i i) (B := 9) (n := i) fun k _ => by have := ent_bd hm k k; omega
    have es : sm (fun i => ent N i i) (i + 1) = sm (fun i => ent N i i) i + ent N i i := rfl
    simp only [es] at kR
    clear mx es hm
    generalize sm (fun i => ent N i i) i = z at *
    generalize ent N i i = e at *
    generalize gs (N.getD i []) = cr at *
    generalize N.length = n at *
    refine W.assoc ?_
    refine W.seq (W.chunk ?_)
    simp (disch := first|omega|exact zE rfl|exact zO|exact zL rfl) [c11_o8, zG, q]
    refine W.seq (W.chunk ?_)
    simp (disch := first|omega|exact zE rfl|exact zO|exact zL rfl) [zG, q]
    refine W.seq (W.block ?_)
    refine W.chunk ?_
    simp (disch := first|omega|exact zE rfl|exact zO|exact zL rfl) [c11_o9, zG, q, gb, er, er', gr, ee, ee']
    refine W.chunk ?_
    simp (disch := first|omega|exact zE rfl|exact zO|exact zL rfl) [c11_o10, zG, q]
    exact kR _ _ (by simp [T.get, q])
  · refine Tr.w fun s1 H1 hp R kR => W.trim ?_
    obtain ⟨rfl, q⟩ := hp
    clear mx hm
    generalize sm (fun i => ent N i i) N.length = z at *
    generalize N.length = n at *
    refine W.assoc ?_
    refine W.seq (W.chunk ?_)
    simp (disch := first|omega|exact zE rfl|exact zO|exact zL rfl) [c11_o8, zG, q]
    refine W.seq (W.chunk ?_)
    simp (disch := first|omega|exact zE rfl|exact zO|exact zL rfl) [zG, q]
    exact kR _ _ (by simp [T.get, q])
end
structure KnCy (J : CallF) : Prop where
  k23 : ∀ h, J 23 [] h = some (.bool true, [], false)
  k27 : K27 J
  k28 : K28 J
  k33 : K33 J
  k43 : K43 J
theorem cayley_law (J : CallF) (K : KnCy J) (hJ : ∀ a h, J 11 a h = none) (h : Heap) (a : Int) {m : AV} {M : List (List Int)} (hm : MR h m M) : CallsTo tbl J 11 [G a, m] h (.bool true, [], false) := by
  refine Tr.fnv (cf := c11) (e := .ret) (s := T.set (T.set .leaf [] (G a)) [false] m) (by decide) rfl (hJ _ _) rfl rfl rfl (by simp) ?_
  refine Tr.w fun s1 H1 hp R kR => ?_
  obtain ⟨rfl, rfl⟩ := hp
  have q : True := trivial
  have fin : ∀ s h', s.get [true, false] = .bool true → R .ret s h' := fun s h' a => kR _ _ ⟨[.bool true], by simp [c11, evRess, evRes, a], rfl⟩
  clear kR
  have b1 := mdZ_bd a (show (0 : Int) < 5 by decide)
  have k1 := fun h => K.k27 a 5 h (by decide) (by decide)
  obtain ⟨n, hn⟩ : ∃ n : Nat, mdZ a 5 = (n : Int) := ⟨(mdZ a 5).toNat, by omega⟩
  rw [hn] at b1 k1
  have ns : ((n + 1 : Nat) : Int) = 1 + (n : Int) := by omega
  obtain ⟨x, own, N, k28, tg, hlN, hq⟩ := K.k28 (frameOf h) m M (n + 1) 9 (hm.lo []) (by omega) (by decide)
  have hN : isMat N = true := sqM_mat hq hlN (by omega) (by decide)
  have h8 := isMat_n hN
  have h5 : N.length ≤ 5 := by omega
  have hx := tg.mr
  clear tg hq
  rw [ns] at k28
  have hnl : (N.length : Int) = 1 + (n : Int) := by omega
  generalize hHa : (frameOf h).plus own = Ha at *
  have k23 := K.k23
  obtain ⟨v33, own33, k33, _, p33⟩ := K.k33 Ha ⟨N, x⟩ hx
  obtain ⟨wc, rfl, ngc⟩ := p33 hN
  simp only at k33 ngc
  have kb : Kp (fun _ => False) Ha (Ha.plus own33) := Kp.plus _ _
  have hxb := hx.kp kb
  generalize hHb : Ha.plus own33 = Hb at *
  have lc : (gs (pyL N)).length = N.length + 1 := gl_len _ _
  obtain ⟨qc, rfl, gc⟩ := ngc.l.sl (by intro e; rw [e] at lc; simp at lc)
  rw [lc] at k33 gc
  obtain ⟨y1, y2, y3⟩ := cayley hN h5
  have ec1 : (gs (pyL N))[N.length]? = some (G (pc N N.length)) := gl_at _ (by omega)
  have ec2 : (gs (pyL N))[n]? = some (G (pc N (N.length - 1))) := by rw [show N.length - 1 = n by omega]; exact gl_at _ (by omega)
  rw [y1] at ec1
  rw [y2] at ec2
  have ec1' := getI ec1
  have ec2' := getI ec2
  obtain ⟨b, v, cs, rfl, mx⟩ := hxb.mx hN
  have l0 := k11_t (x6 := .slice qc 0 (N.length + 1) (N.length + 1)) J hN mx
  have s0 := sm_nn (f := fun i => ent N i i) (fun k => (ent_bd hN k k).1) N.length
  have s1 := sm_bd (f := fun i => ent N i i) (B := 9) (n := N.length) fun k _ => by have := ent_bd hN k k; omega
  obtain ⟨nn, hnn⟩ : ∃ nn, N.length * N.length = nn := ⟨_, rfl⟩
  have n25 : nn ≤ 25 := by rw [← hnn]; exact Nat.mul_le_mul h5 h5
  have hmul : (1 + (n : Int)) * (1 + (n : Int)) = (nn : Int) := by rw [← hnl, ← hnn, Int.natCast_mul]
  have mk1 := fun H => mkSl_ok H 8 (G 0) nn (nn : Int) rfl (by omega)
  have su0 : suL N 0 0 = List.replicate nn (AV.int .i64 0) := by
    unfold suL
    rw [gl_rep, hnn]
    congr 1
  have zs0 : ZS Hb (Hb.plus [.cells 1 nn (List.replicate nn (AV.int .i64 0))]) N 0 := ⟨Kp.plus _ _, by rw [plus_at0 _ _ _ _ rfl, hnn, su0]⟩
  have l3 := k11_k (J := J) K.k43 hN h5 hxb gc
  have l4 : ∀ h', ZS Hb h' N (N.length + 1) → Tr tbl J c11_l4 (fun s h => h = h' ∧ s.get [] = G N.length ∧ s.get [true, true, false] = .slice Hb.size 0 nn nn ∧ s.get [true, false, false, false] = G ((0 : Nat) : Int)) (.exit 8) (fun s h => h = h') := fun h' z => by
    have g := z.g
    rw [hnn] at g
    refine k11_z J g (by rw [← hnn, Int.natCast_mul]) (fun t ht => ?_) n25
    unfold suL
    rw [hnn, gl_at _ ht]
    unfold suF
    rw [if_neg (by omega)]
    have hd : t / N.length < N.length := Nat.div_lt_of_lt_mul (by rw [hnn]; exact ht)
    have e : sC N (N.length + 1) t = 0 := y3 _ _ hd (Nat.mod_lt _ (by omega))
    rw [e, w6_0]
  rw [hnn] at l3
  rw [show sm (fun i => ent N i i) 0 = 0 from rfl] at l0
  have n1 : 1 + (n : Int) - 1 = n := by omega
  have nl1 : ((N.length + 1 : Nat) : Int) = (N.length : Int) + 1 := by omega
  have k28 : J 28 [m, G (1 + (n : Int)), G 9] (frameOf h) = some (.slice b 0 N.length v, own, false) := k28
  clear ngc p33 hx hxb mx y1 y2 y3 su0 hm
  generalize sm (fun i => ent N i i) N.length = tr at *
  generalize gs (pyL N) = cp at *
  generalize hZ : List.replicate nn (AV.int .i64 0) = Z at *
  have hl2 : N.length = n + 1 := hlN
  have ec3 : cp[n + 1]? = some (G 1) := by rw [← hl2]; exact ec1
  have ec3' := getI ec3
  have nsl : (N.length : Int) = 1 + (n : Int) := hnl
  have gi : (1 + (n : Int)).toNat = n + 1 := by omega
  refine W.seq (W.chunk ?_)
  simp (disch := first|omega|exact zE rfl|exact zO|exact zL rfl) [c11_o0, zG, q]
  refine W.seq (W.chunk ?_)
  simp (disch := first|omega|exact zE rfl|exact zO|exact zL rfl) [c11_o1, zG, q, k1]
  refine W.seq (W.chunk ?_)
  simp (disch := first|omega|exact zE rfl|exact zO|exact zL rfl) [c11_o2, zG, q, k28, app_if, app_if', hHa]
  refine W.seq (W.chunk ?_)
  simp (disch := first|omega|exact zE rfl|exact zO|exact zL rfl) [c11_o3, zG, q, k33, app_if, app_if', hHb]
  refine W.assoc ?_
  refine W.seq (W.chunk ?_)
  simp (disch := first|omega|exact zE rfl|exact zO|exact zL rfl) [c11_o4, zG, q, gc, ec3, ec3', lc, nl1, gi]
  refine W.seq (W.chunk ?_)
  simp (disch := first|omega|exact zE rfl|exact zO|exact zL rfl) [c11_o5, zG, q]
  refine W.seq (W.chunk ?_)
  simp (disch := first|omega|exact zE rfl|exact zO|exact zL rfl) [c11_o6, zG, q]
  refine W.assoc ?_
  refine W.seq (W.chunk ?_)
  simp (disch := first|omega|exact zE rfl|exact zO|exact zL rfl) [c11_o7, zG, q]
  refine W.seq (W.block ?_)
  refine W.use (l0) (by simp (disch := first|omega|exact zE rfl|exact zO|exact zL rfl) [zG, q, hnl]) fun s1 H1 hp => ?_
  obtain ⟨rfl, q⟩ := hp
  try simp only [zW, if_true]
  refine W.assoc ?_
  refine W.seq (W.chunk ?_)
  simp (disch := first|omega|exact zE rfl|exact zO|exact zL rfl) [c11_o11, zG, q, gc, ec2, ec2', lc, nl1, hnl, n1]
  refine W.seq (W.chunk ?_)
  simp (disch := first|omega|exact zE rfl|exact zO|exact zL rfl) [c11_o12, zG, q]
  refine W.seq (W.chunk ?_)
  simp (disch := first|omega|exact zE rfl|exact zO|exact zL rfl) [-act, c11_o13, zG, q, act_move, act_bin, act_mkSl, mk1, hZ, hmul, hnl]
  refine W.assoc ?_
  refine W.seq (W.chunk ?_)
  simp (disch := first|omega|exact zE rfl|exact zO|exact zL rfl) [c11_o14, zG, q]
  refine W.seq (W.block ?_)
  refine W.use (l3) (by simp (disch := first|omega|exact zE rfl|exact zO|exact zL rfl) [zG, q, zs0, hnl]) fun s1 H1 hp => ?_
  obtain ⟨z, q⟩ := hp
  try simp only [zW, if_true]
  refine W.assoc ?_
  refine W.seq (W.chunk ?_)
  simp (disch := first|omega|exact zE rfl|exact zO|exact zL rfl) [c11_o29, zG, q]
  refine W.seq (W.block ?_)
  refine W.use ((l4 _ z)) (by simp (disch := first|omega|exact zE rfl|exact zO|exact zL rfl) [zG, q]) fun s1 H1 hp => ?_
  obtain rfl := hp
  try simp only [zW, if_true]
  refine W.seq (W.chunk ?_)
  simp (disch := first|omega|exact zE rfl|exact zO|exact zL rfl) [c11_o34, zG, q, k23]
  refine W.ret ?_
  try simp only [zW, if_true]
  exact fin _ _ (by simp [T.get])
theorem knCy : KnCy T31 where
  k23 := fun h => by
    simp (disch := decide) only [T31, T30, T29, T28, T27, T26, T25, T24, T23, T22, T21, T20, T19, T18, T17, T16, T15, T14, T13, T12, T11, T10, T9, T8, T7, T6, T5, T4, T3, T2, T1, addI_ne, addX_ne, addV_ne, addK_ne]
    exact k23_r h
  k27 := fun x n h a b => by
    simp (disch := decide) only [T31, T30, T29, T28, T27, T26, T25, T24, T23, T22, T21, T20, T19, T18, T17, T16, T15, T14, T13, T12, T11, T10, T9, T8, T7, T6, T5, T4, T3, addX_ne, addK_ne]
    exact k27_2 x n h a b
  k28 := fun h y M n most a b c => by
    simp (disch := decide) only [T31, T30, T29, T28, T27, T26, T25, T24, T23, T22, T21, T20, T19, T18, T17, T16, T15, T14, T13, T12, T11, T10, T9, T8, T7, T6, T5, T4, addX_ne, addK_ne]
    exact k28 h y M n most a b c
  k33 := fun h a ha => by
    simp (disch := decide) only [T31, T30, T29, T28, T27, T26, T25, T24, T23, T22, T21, T20, T19, addK_ne]
    exact k33 h a ha
  k43 := fun h a ha => by
    simp (disch := decide) only [T31, T30, T29, T28, T27, T26, T25, T24, T23, T22, T21, T20, T19, T18, T17, addK_ne]
    exact k43 h a ha
theorem cayley_ok (h : Heap) (a : Int) {m : AV} {M : List (List Int)} (hm : MR h m M) : CallsTo tbl T31 11 [G a, m] h (.bool true, [], false) := cayley_law T31 knCy (fun _ _ => by simp (disch := decide) only [T31, T30, T29, T28, T27, T26, T25, T24, T23, T22, T21, T20, T19, T18, T17, T16, T15, T14, T13, T12, T11, T10, T9, T8, T7, T6, T5, T4, T3, T2, T1, R21, R20, R19, R18, R17, R16, R15, R14, R13, R12, R11, R10, R9, R8, R7, R6, R5, R4, R3, R2, R1, addI_ne, addX_ne, addV_ne, addK_ne]; rfl) h a hm
end Go.Proofs.Ytjeemgaoonapgaa.Ev
set_option linter.unusedVariables false
set_option linter.unusedSimpArgs false
namespace Go.AEv
open Go.ChangeShapes Go.WideShapes Go.Proofs.Ytjeemgaoonapgaa.Ev
theorem MR.ext {h h' : Heap} (e : Ext h h') {y : AV} {M : List (List Int)} (m : MR h y M) : MR h' y M := by
  rcases m with m | ⟨b, v, cs, rfl, g, hl, hr⟩
  · exact .inl m
  · refine .inr ⟨b, v, cs, rfl, e _ _ g (by simp), hl, fun i r q => ?_⟩
    obtain ⟨l, h1, h2⟩ := hr i r q
    exact ⟨l, h1, LR.ext e h2⟩
theorem rows_lo {CK : CKT} {w : World} {H : Type} {enc : TypeId × Value → H} {P : Program} {e i : TypeId} (he : P.underlying e = some (.slice i)) (hi : P.underlying i = some (.int .i64)) (hc : P.cellsOf i = 1) :
    ∀ (vs : List Value) {φ : Nat → Emb} {h : Heap} (ho : h.own = []) (hr : HR CK w [] φ h w), (∀ u ∈ vs, ∃ fuel z, DataW.trod enc P w 0 (fun _ => true) true fuel e [u] = some z) →
    ∃ φ' h', ∃ (rs : List AV) (ls : List (List Int)), h'.own = [] ∧ HR CK w [] φ' h' w ∧ Stp φ h φ' h' ∧ Ext h h' ∧ rs.length = vs.length ∧ ls.length = vs.length ∧ ∀ (j : Nat) u r, vs[j]? = some u → rs[j]? = some r → VR φ' h' r u ∧ Value.oneCell' u = true ∧ ∃ l, ls[j]? = some l ∧ LR h' r l
  | [], φ, h, ho, hr, _ => ⟨φ, h, [], [], ho, hr, Stp.refl φ h, Ext.refl h, rfl, rfl, fun j u r q => by simp at q⟩
  | u :: us, φ, h, ho, hr, ht => by
    obtain ⟨fuel, z, hf⟩ := ht u (by simp)
    obtain ⟨φ1, h1, x, l, o1, r1, s1, e1, v1, p1, c1⟩ := ints_lo0 ho hr he hi hc hf
    obtain ⟨φ2, h2, rs, ls, o2, r2, s2, e2, l1, l2, q⟩ := rows_lo he hi hc us o1 r1 (fun u' hu => ht u' (by simp [hu]))
    refine ⟨φ2, h2, x :: rs, l :: ls, o2, r2, s1.trans s2, e1.trans e2, by simp [l1], by simp [l2], fun j u' r hu hr' => ?_⟩
    cases j with
    | zero =>
      simp only [List.getElem?_cons_zero, Option.some.injEq] at hu hr'
      subst hu hr'
      exact ⟨VR.step s2 _ _ v1, c1, l, rfl, p1.ext e2⟩
    | succ j =>
      simp only [List.getElem?_cons_succ] at hu hr' ⊢
      exact q j u' r hu hr'
theorem mat_lo {CK : CKT} {φ : Nat → Emb} {h : Heap} {w : World} (ho : h.own = []) (hr : HR CK w [] φ h w) {H : Type} {enc : TypeId × Value → H} {P : Program} {t e i : TypeId} {v : Value} {d : DataW H} {p : List MemPlace}
    (ht : P.underlying t = some (.slice e)) (he : P.underlying e = some (.slice i)) (hi : P.underlying i = some (.int .i64)) (hce : P.cellsOf e = 1) (hci : P.cellsOf i = 1) (hvs : ∃ a len cap, v = .slice a len cap) (k : DataW.Trod enc P w 0 (fun _ => true) true t v d p) :
    ∃ φ' h' x M, h'.own = [] ∧ HR CK w [] φ' h' w ∧ Stp φ h φ' h' ∧ Ext h h' ∧ VR φ' h' x v ∧ MR h' x M := by
  obtain ⟨va, vl, vc, rfl⟩ := hvs
  obtain ⟨fuel, hf⟩ := k
  rcases DataW.trod_slice ht hf with ⟨hcs, _⟩ | ⟨a, len, cap, elems, rest, n, _, hcs, _, _, hl, hm, hlen, hel, hsp, _⟩
  · have hcs' : Value.slice va vl vc = .slice none 0 0 := (List.cons.inj hcs).1
    rw [hcs']
    exact ⟨φ, h, .nils, [], ho, hr, Stp.refl φ h, Ext.refl h, by simp [VR], .inl ⟨.inl rfl, rfl⟩⟩
  · have hcs' : Value.slice va vl vc = .slice (some a) len cap := (List.cons.inj hcs).1
    rw [hcs']
    by_cases h0 : len = 0
    · subst h0
      exact ⟨φ, h, .slice0, [], ho, hr, Stp.refl φ h, Ext.refl h, by simp [VR], .inl ⟨.inr rfl, rfl⟩⟩
    · obtain ⟨hrl, hre⟩ := hsp rfl
      have each : ∀ j, j < cap → ∃ u, w.cell? (a.add j) = some u ∧ ∃ z, DataW.trod enc P w 0 (fun _ => true) true n e [u] = some z := fun j hj => by
        have hb' : ∃ y, (w.cells? 0 (a.add (j * P.cellsOf e)) (P.cellsOf e)).bind (DataW.trod enc P w 0 (fun _ => true) true n e) = some y := by
          by_cases hjl : j < len
          · rw [hel j hjl, List.getElem?_eq_getElem (by omega)]; exact ⟨_, rfl⟩
          · have := hre (j - len) (by omega)
            rw [show len + (j - len) = j by omega] at this
            rw [this, List.getElem?_eq_getElem (by omega)]; exact ⟨_, rfl⟩
        obtain ⟨y, hy⟩ := hb'
        rw [hce, Nat.mul_one, Option.bind_eq_some_iff] at hy
        obtain ⟨cs', h1, h2⟩ := hy
        have hl1 := (World.cells?_some h1).2.1
        obtain ⟨u, rfl⟩ : ∃ u, cs' = [u] := by
          cases cs' with
          | nil => simp at hl1
          | cons u r => cases r with
            | nil => exact ⟨u, rfl⟩
            | cons u' r => simp at hl1
        exact ⟨u, cell_of_cells?_one h1, y, h2⟩
      obtain ⟨f, hfe⟩ : ∃ f : Nat → Value, ∀ j, j < cap → w.cell? (a.add j) = some (f j) ∧ ∃ z, DataW.trod enc P w 0 (fun _ => true) true n e [f j] = some z :=
        ⟨fun j => if hj : j < cap then Classical.choose (each j hj) else .nilFunc, fun j hj => by
          simp only [dif_pos hj]
          exact Classical.choose_spec (each j hj)⟩
      obtain ⟨b, off, spot⟩ := a
      have hspot : spot = none := by simpa [Addr.add] using World.cell?_spot (hfe 0 (by omega)).1
      subst hspot
      have hcell : ∀ j, j < cap → w.cell? ⟨b, off + j, none⟩ = some (f j) := fun j hj => by rw [← Go.WideShapes.add_plain]; exact (hfe j hj).1
      obtain ⟨c, ty, fr, hb, hc0⟩ := cell_obj (hcell 0 (by omega))
      have hcj : ∀ j, j < cap → c[off + j]? = some (f j) := fun j hj => by
        obtain ⟨c', ty', fr', hb', hcj⟩ := cell_obj (hcell j hj)
        rw [hb] at hb'
        simp only [Option.some.injEq, Obj.cells.injEq] at hb'
        obtain ⟨rfl, _⟩ := hb'
        exact hcj
      have hsize : off + cap ≤ c.size := by
        have := (Array.getElem?_eq_some_iff.1 (hcj (cap - 1) (by omega))).1
        omega
      obtain ⟨φ1, h1, rs, ls, o1, r1, s1, e1, l1, l2, q⟩ := rows_lo he hi hci ((List.range len).map f) ho hr (fun u hu => by
        obtain ⟨j, hj, rfl⟩ := List.mem_map.1 hu
        obtain ⟨z, hz⟩ := (hfe j (by have := List.mem_range.1 hj; omega)).2
        exact ⟨n, z, hz⟩)
      simp only [List.length_map, List.length_range] at l1 l2
      have hat : ∀ j, j < len → ((List.range len).map f)[j]? = some (f j) := fun j hj => by simp [hj]
      refine ⟨AEv.upd φ1 h1.N ⟨b, off, cap⟩, h1.more (.cells 1 len rs), .slice h1.N 0 len len, ls, rfl, lo_add o1 r1 _ _ ?_, s1.trans (lo_stp o1 _ _), e1.trans (more_ext h1 o1 _), ?_, .inr ⟨h1.N, len, rs, by rw [l2], more_at _ _, by omega, fun j r hr' => ?_⟩⟩
      · refine ⟨c, ty, fr, hb, hsize, by show rs.length ≤ cap; omega, fun j x hx => ?_⟩
        have hj : j < len := by have := (List.getElem?_eq_some_iff.1 hx).1; omega
        obtain ⟨q1, q2, _⟩ := q j (f j) x (hat j hj) hx
        exact ⟨f j, hcj j (by omega), VR.step (lo_stp o1 _ _) _ _ q1, q2⟩
      · simp only [VR]
        exact ⟨_, cap, 1, len, _, rfl, hl, more_at _ _, Nat.le_refl _, fun _ => ⟨by simp [AEv.upd], fun _ _ => by simp [AEv.upd]⟩⟩
      · have hj : j < len := by have := (List.getElem?_eq_some_iff.1 hr').1; omega
        obtain ⟨_, _, l, q3, q4⟩ := q j (f j) r (hat j hj) hr'
        exact ⟨l, q3, q4.ext (more_ext h1 o1 _)⟩
end Go.AEv
