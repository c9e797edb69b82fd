/-
  Of the functions that this law reaches, part 3: what they answer. No condition.
-/
import Derived.Test.YtljgfdamdcikgaaRP2
import Derived.Test.YtljgfdamdcikgaaRP1
import Derived.Test.YtljgfdamdcikgaaRP0
import Derived.WideKeyPair
set_option linter.unusedVariables false
set_option linter.unusedSimpArgs false
namespace Go.Proofs.Ytljgfdamdcikgaa.Ev
open Go Go.AEv
section
variable {S : List (List Nat)}
def wl (S : List (List Nat)) : Nat → Nat → List (List Nat)
  | 0, i => [[i]]
  | k + 1, i => (S.getD i []).flatMap fun c => (wl S k c).map (i :: ·)
theorem wl_len : ∀ k i, (wl S k i).length = cnt S k i
  | 0, _ => rfl
  | k + 1, i => by
    show ((S.getD i []).flatMap fun c => (wl S k c).map (i :: ·)).length = ((S.getD i []).map (cnt S k)).sum
    rw [List.length_flatMap]
    congr 1
    exact List.map_congr_left fun c _ => by rw [List.length_map, wl_len k c]
def IsW (S : List (List Nat)) (k i : Nat) (L : List Nat) : Prop := L.length = k + 1 ∧ L.getD 0 0 = i ∧ ∀ t, t < k → L.getD (t + 1) 0 ∈ S.getD (L.getD t 0) []
theorem wl_is : ∀ {k i : Nat} {L : List Nat}, L ∈ wl S k i → IsW S k i L
  | 0, i, L, h => by
    rw [List.mem_singleton.1 h]
    exact ⟨rfl, rfl, fun t ht => absurd ht (by omega)⟩
  | k + 1, i, L, h => by
    obtain ⟨c, h1, h2⟩ := List.mem_flatMap.1 h
    obtain ⟨M, h3, rfl⟩ := List.mem_map.1 h2
    obtain ⟨e1, e2, e3⟩ := wl_is h3
    refine ⟨by rw [List.length_cons, e1], rfl, fun t ht => ?_⟩
    cases t with
    | zero =>
      show M.getD 0 0 ∈ S.getD i []
      rw [e2]; exact h1
    | succ t => exact e3 t (by omega)
theorem wl_nd (nd : ∀ i, (S.getD i []).Nodup) : ∀ k i, (wl S k i).Nodup
  | 0, _ => by simp [wl]
  | k + 1, i => by
    show ((S.getD i []).flatMap fun c => (wl S k c).map (i :: ·)).Nodup
    unfold List.Nodup
    rw [List.pairwise_flatMap]
    constructor
    · intro c _
      rw [List.pairwise_map]
      exact (wl_nd nd k c).imp fun h e => h (List.cons.inj e).2
    · refine (nd i).imp fun {a b} hab x hx y hy e => ?_
      obtain ⟨x', h1, rfl⟩ := List.mem_map.1 hx
      obtain ⟨y', h2, rfl⟩ := List.mem_map.1 hy
      have e' := (List.cons.inj e).2
      subst e'
      have a1 := (wl_is h1).2.1
      have b1 := (wl_is h2).2.1
      exact hab (a1.symm.trans b1)
theorem isW_rw {k i : Nat} {L : List Nat} (h : IsW S k i L) : ∀ {d a : Nat}, a + d ≤ k → Rw S d (L.getD a 0) (L.getD (a + d) 0)
  | 0, a, _ => rfl
  | d + 1, a, hd => (isW_rw h (d := d) (by omega)).snoc (h.2.2 (a + d) (by omega))
def NoR (S : List (List Nat)) (k : Nat) : Prop := ∀ v s, s + 1 ≤ k → ¬ Rw S (s + 1) v v
theorem isW_inj {k i : Nat} (n : NoR S k) {L : List Nat} (h : IsW S k i L) {a b : Nat} (ha : a ≤ k) (hb : b ≤ k) (e : L.getD a 0 = L.getD b 0) : a = b := by
  have key : ∀ {a b : Nat}, a < b → b ≤ k → L.getD a 0 ≠ L.getD b 0 := fun {a b} hab hb e => by
    have := isW_rw h (d := b - a) (a := a) (by omega)
    rw [show a + (b - a) = b by omega, ← e, show b - a = (b - a - 1) + 1 by omega] at this
    exact n _ _ (by omega) this
  rcases Nat.lt_trichotomy a b with c | c | c
  · exact absurd e (key c hb)
  · exact c
  · exact absurd e.symm (key c ha)
theorem isW_eq {k i : Nat} (n : NoR S k) {L M : List Nat} (h : IsW S k i L) (g : IsW S k i M) (e : ∀ c, c ∈ M → c ∈ L) : M = L := by
  have at' : ∀ {t}, t ≤ k → ∃ p, p ≤ k ∧ M.getD t 0 = L.getD p 0 := fun {t} ht => by
    have hl : t < M.length := by rw [g.1]; omega
    have hm : M.getD t 0 ∈ M := by
      rw [List.getD_eq_getElem?_getD, List.getElem?_eq_getElem hl]
      exact List.getElem_mem hl
    obtain ⟨p, hp⟩ := List.mem_iff_getElem?.1 (e _ hm)
    have := (List.getElem?_eq_some_iff.1 hp).1
    refine ⟨p, by have := h.1; omega, ?_⟩
    rw [List.getD_eq_getElem?_getD (l := L), hp]; rfl
  have inc : ∀ {t a b}, t < k → a ≤ k → b ≤ k → M.getD t 0 = L.getD a 0 → M.getD (t + 1) 0 = L.getD b 0 → a < b := fun {t a b} ht ha hb ea eb => by
    apply Decidable.byContradiction
    intro c
    have st := g.2.2 t ht
    rw [ea, eb] at st
    have w := (isW_rw h (d := a - b) (a := b) (by omega))
    rw [show b + (a - b) = a by omega] at w
    have w2 := w.snoc st
    by_cases c2 : b = 0
    · subst c2
      rw [h.2.1, ← g.2.1] at eb
      have := isW_inj n g (a := t + 1) (b := 0) (by omega) (by omega) eb
      omega
    · exact n _ _ (by omega) w2
  have lo : ∀ t, t ≤ k → ∀ p, p ≤ k → M.getD t 0 = L.getD p 0 → t ≤ p := fun t => by
    induction t with
    | zero => intro _ p _ _; exact Nat.zero_le _
    | succ t ih =>
      intro ht p hp ep
      obtain ⟨a, h1, h2⟩ := at' (t := t) (by omega)
      have := ih (by omega) a h1 h2
      have := inc (by omega) h1 hp h2 ep
      omega
  have hi : ∀ s, s ≤ k → ∀ p, p ≤ k → M.getD (k - s) 0 = L.getD p 0 → p ≤ k - s := fun s => by
    induction s with
    | zero => intro _ p hp _; omega
    | succ s ih =>
      intro hs p hp ep
      obtain ⟨b, h1, h2⟩ := at' (t := k - s) (by omega)
      have := ih (by omega) b h1 h2
      have e2 : k - (s + 1) + 1 = k - s := by omega
      have := inc (t := k - (s + 1)) (by omega) hp h1 ep (by rw [e2]; exact h2)
      omega
  apply List.ext_getElem?
  intro t
  by_cases ht : t ≤ k
  · obtain ⟨p, h1, h2⟩ := at' ht
    have a1 := lo t ht p h1 h2
    have a2 := hi (k - t) (by omega) p h1 (by rw [show k - (k - t) = t by omega]; exact h2)
    have : p = t := by omega
    subst this
    have l1 : p < M.length := by rw [g.1]; omega
    have l2 : p < L.length := by rw [h.1]; omega
    rw [List.getD_eq_getElem?_getD, List.getD_eq_getElem?_getD, List.getElem?_eq_getElem l1, List.getElem?_eq_getElem l2] at h2
    rw [List.getElem?_eq_getElem l1, List.getElem?_eq_getElem l2]
    exact congrArg some h2
  · rw [List.getElem?_eq_none (by rw [g.1]; omega), List.getElem?_eq_none (by rw [h.1]; omega)]
def msk : List Nat → Nat
  | [] => 0
  | c :: L => 2 ^ c ||| msk L
theorem msk_lt {n : Nat} : ∀ {L : List Nat}, (∀ c ∈ L, c < n) → msk L < 2 ^ n
  | [], _ => Nat.two_pow_pos n
  | c :: L, h => Nat.or_lt_two_pow (Nat.pow_lt_pow_right (by omega) (h c (by simp))) (msk_lt fun d hd => h d (by simp [hd]))
theorem msk_bit (x : Nat) : ∀ L : List Nat, (msk L).testBit x = true ↔ x ∈ L
  | [] => by simp [msk]
  | c :: L => by
    show (2 ^ c ||| msk L).testBit x = true ↔ _
    rw [Nat.testBit_or, Bool.or_eq_true, msk_bit x L, Nat.testBit_two_pow, decide_eq_true_eq, List.mem_cons]
    constructor <;> rintro (a | a) <;> first | exact .inl a.symm | exact .inr a
theorem cnt_few (lt : ∀ i, ∀ j ∈ S.getD i [], j < S.length) (nd : ∀ i, (S.getD i []).Nodup) {k i : Nat} (n : NoR S k) (hi : i < S.length) : cnt S k i ≤ 2 ^ S.length := by
  rw [← wl_len, ← List.length_map (f := msk)]
  refine nd_cap (n := 2 ^ S.length) ?_ ?_
  · unfold List.Nodup
    rw [List.pairwise_map, List.pairwise_iff_getElem]
    intro a b ha hb hab e
    have wa := wl_is (List.getElem_mem ha)
    have wb := wl_is (List.getElem_mem hb)
    have := isW_eq n wa wb fun c hc => (msk_bit c _).1 (by rw [e]; exact (msk_bit c _).2 hc)
    exact (List.pairwise_iff_getElem.1 (wl_nd nd k i)) a b ha hb hab this.symm
  · intro z hz
    obtain ⟨L, h1, rfl⟩ := List.mem_map.1 hz
    have w := wl_is h1
    refine msk_lt fun c hc => ?_
    obtain ⟨t, ht⟩ := List.mem_iff_getElem?.1 hc
    have hl := (List.getElem?_eq_some_iff.1 ht).1
    have e : L.getD t 0 = c := by rw [List.getD_eq_getElem?_getD, ht]; rfl
    cases t with
    | zero => rw [← e, w.2.1]; exact hi
    | succ t => rw [← e]; exact lt _ _ (w.2.2 t (by have := w.1; omega))
theorem pf_swap (g : Nat → Nat → Nat) (n : Nat) : ∀ m, pf (fun i => pf (fun j => g i j) n) m = pf (fun j => pf (fun i => g i j) m) n
  | 0 => by
    rw [pf_congr (f := fun j => pf (fun i => g i j) 0) (g := fun _ => 0) fun j _ => rfl, pf_zero]; rfl
  | m + 1 => by
    rw [pf_succ, pf_swap g n m, ← pf_add]
    exact pf_congr fun j _ => (pf_succ _ _).symm
theorem pf_mul (f : Nat → Nat) (x : Nat) : ∀ n, pf (fun i => f i * x) n = pf f n * x
  | 0 => by simp [pf]
  | n + 1 => by rw [pf_succ, pf_succ, pf_mul f x n, Nat.add_mul]
theorem ev_cnt (lt : ∀ i, ∀ j ∈ S.getD i [], j < S.length) {f : Nat} (hf : f < S.length) : ∀ k m, pf (fun j => ev S f k j * cnt S m j) S.length = cnt S (m + k) f
  | 0, m => by
    rw [pf_congr (g := fun j => if j = f then cnt S m f else 0) fun j _ => ?_, pf_one, if_pos hf]; rfl
    show (if j = f then 1 else 0) * cnt S m j = _
    split
    · rename_i e; subst e; simp
    · simp
  | k + 1, m => by
    have e1 : ∀ j, j < S.length → ev S f (k + 1) j * cnt S m j = pf (fun i => ev S f k i * ((S.getD i []).count j * cnt S m j)) S.length := fun j _ => by
      show pE S (ev S f k) S.length j * _ = _
      rw [show pE S (ev S f k) S.length j = pf (fun i => (S.getD i []).count j * ev S f k i) S.length from rfl, ← pf_mul]
      exact pf_congr fun i _ => by
        rw [Nat.mul_comm ((S.getD i []).count j), Nat.mul_assoc]
    rw [pf_congr e1, pf_swap (fun j i => ev S f k i * ((S.getD i []).count j * cnt S m j))]
    rw [show m + (k + 1) = (m + 1) + k by omega, ← ev_cnt lt hf k (m + 1)]
    refine pf_congr fun i _ => ?_
    show pf (fun j => ev S f k i * ((S.getD i []).count j * cnt S m j)) S.length = ev S f k i * ((S.getD i []).map (cnt S m)).sum
    rw [sum_all (cnt S m) (S.getD i []) (lt i), Nat.mul_comm (ev S f k i), ← pf_mul]
    exact pf_congr fun j _ => Nat.mul_comm _ _
theorem vE_sum (lt : ∀ i, ∀ j ∈ S.getD i [], j < S.length) {f : Nat} (hf : f < S.length) (k : Nat) : (vE S f k).sum = cnt S k f := by
  have := ev_cnt lt hf k 0
  rw [Nat.zero_add] at this
  rw [← this]
  show pf (ev S f k) S.length = _
  exact pf_congr fun j _ => by show _ = _ * 1; omega
theorem ev_rw (lt : ∀ i, ∀ j ∈ S.getD i [], j < S.length) {f : Nat} (hf : f < S.length) : ∀ {k j : Nat}, 0 < ev S f k j ↔ Rw S k f j
  | 0, j => by
    show 0 < (if j = f then 1 else 0) ↔ f = j
    by_cases e : j = f
    · rw [if_pos e]; exact ⟨fun _ => e.symm, fun _ => by omega⟩
    · rw [if_neg e]; exact ⟨fun h => absurd h (by omega), fun h => absurd h.symm e⟩
  | k + 1, j => by
    have pos : ∀ (g : Nat → Nat) n, 0 < pf g n ↔ ∃ i, i < n ∧ 0 < g i := fun g n => by
      induction n with
      | zero => exact ⟨fun h => absurd h (by simp [pf]), fun ⟨i, h, _⟩ => absurd h (by omega)⟩
      | succ n ih =>
        rw [pf_succ]
        constructor
        · intro h
          by_cases c : 0 < pf g n
          · obtain ⟨i, h1, h2⟩ := ih.1 c
            exact ⟨i, by omega, h2⟩
          · exact ⟨n, by omega, by omega⟩
        · rintro ⟨i, h1, h2⟩
          by_cases c : i = n
          · subst c; omega
          · have := ih.2 ⟨i, by omega, h2⟩
            omega
    show 0 < pf (fun i => (S.getD i []).count j * ev S f k i) S.length ↔ _
    rw [pos]
    constructor
    · rintro ⟨i, h1, h2⟩
      have a1 : 0 < (S.getD i []).count j := by
        apply Nat.pos_of_ne_zero
        intro e; rw [e] at h2; omega
      have a2 : 0 < ev S f k i := by
        apply Nat.pos_of_ne_zero
        intro e; rw [e] at h2; omega
      exact ((ev_rw lt hf).1 a2).snoc (List.count_pos_iff.1 a1)
    · intro w
      obtain ⟨c, h1, h2⟩ := w.last
      exact ⟨c, h1.lt lt hf, Nat.mul_pos (List.count_pos_iff.2 h2) ((ev_rw lt hf).2 h1)⟩
theorem rA_pos (lt : ∀ i, ∀ j ∈ S.getD i [], j < S.length) (N : Nat) : 0 < rA S N S.length ↔ ∃ f, f < S.length ∧ Rw S (N + 1) f f := by
  have pos : ∀ (g : Nat → Nat) n, 0 < ((List.range n).map g).sum ↔ ∃ i, i < n ∧ 0 < g i := fun g n => by
    induction n with
    | zero => exact ⟨fun h => absurd h (by simp), fun ⟨i, h, _⟩ => absurd h (by omega)⟩
    | succ n ih =>
      rw [show ((List.range (n + 1)).map g).sum = ((List.range n).map g).sum + g n from pf_succ g n]
      constructor
      · intro h
        by_cases c : 0 < ((List.range n).map g).sum
        · obtain ⟨i, h1, h2⟩ := ih.1 c
          exact ⟨i, by omega, h2⟩
        · exact ⟨n, by omega, by omega⟩
      · rintro ⟨i, h1, h2⟩
        by_cases c : i = n
        · subst c; omega
        · have := ih.2 ⟨i, by omega, h2⟩
          omega
  unfold rA rP
  rw [pos]
  constructor
  · rintro ⟨f, h1, h2⟩
    obtain ⟨i, h3, h4⟩ := (pos _ _).1 h2
    unfold rT at h4
    by_cases c : f ∈ S.getD i []
    · rw [if_pos c] at h4
      exact ⟨f, h1, ((ev_rw lt h1).1 h4).snoc c⟩
    · rw [if_neg c] at h4; omega
  · rintro ⟨f, h1, w⟩
    obtain ⟨c, h2, h3⟩ := w.last
    refine ⟨f, h1, (pos _ _).2 ⟨c, h2.lt lt h1, ?_⟩⟩
    unfold rT
    rw [if_pos h3]
    exact (ev_rw lt h1).2 h2
theorem NoR.le {k l : Nat} (n : NoR S k) (h : l ≤ k) : NoR S l := fun v s hs => n v s (by omega)
theorem okR_few (lt : ∀ i, ∀ j ∈ S.getD i [], j < S.length) (nd : ∀ i, (S.getD i []).Nodup) (hn : S.length ≤ 27) {N : Nat} (n : NoR S N) : okR S N = true := by
  have p27 : 2 ^ S.length ≤ 134217728 := Nat.pow_le_pow_right (by omega) hn
  have hc : ∀ k f, k ≤ N → f < S.length → cnt S k f ≤ 134217728 := fun k f hk hf => Nat.le_trans (cnt_few lt nd (n.le hk) hf) p27
  have hP : ∀ f, f < S.length → rP S N f S.length ≤ 134217728 := fun f hf => by
    refine Nat.le_trans ?_ (hc N f (Nat.le_refl _) hf)
    rw [← vE_sum lt hf N]
    show pf (rT S N f) S.length ≤ pf (ev S f N) S.length
    have : ∀ m, pf (rT S N f) m ≤ pf (ev S f N) m := fun m => by
      induction m with
      | zero => exact Nat.le_refl _
      | succ m ih =>
        rw [pf_succ, pf_succ]
        have : rT S N f m ≤ ev S f N m := by unfold rT; split <;> omega
        omega
    exact this _
  have hA : ∀ f, f ≤ S.length → rA S N f ≤ f * 134217728 := fun f hf => pf_le fun i hi => hP i (by omega)
  unfold okR
  rw [af_iff]
  intro f _ hf
  unfold gE okE
  rw [Bool.and_eq_true, af_iff, decide_eq_true_eq]
  constructor
  · intro k _ hk
    rw [decide_eq_true_eq, vE_sum lt (by omega)]
    have := hc (k + 1) f (by omega) (by omega)
    omega
  · have h1 := hA (f + 1) (by omega)
    have h2 : (f + 1) * 134217728 ≤ 27 * 134217728 := Nat.mul_le_mul_right _ (by omega)
    omega
theorem okC_few (lt : ∀ i, ∀ j ∈ S.getD i [], j < S.length) (nd : ∀ i, (S.getD i []).Nodup) (hn : S.length ≤ 27) {N : Nat} (n : NoR S N) : okC S N = true := by
  have p27 : 2 ^ S.length ≤ 134217728 := Nat.pow_le_pow_right (by omega) hn
  rw [okC_iff]
  intro k hk
  have : pf (cnt S k) S.length ≤ S.length * 134217728 := pf_le fun i hi => Nat.le_trans (cnt_few lt nd (n.le (by omega)) hi) p27
  have h2 : S.length * 134217728 ≤ 27 * 134217728 := Nat.mul_le_mul_right _ hn
  show pf (cnt S k) S.length ≤ _
  omega
theorem rowC_pos (k : Nat) : 0 < (rowC S k).sum ↔ ∃ i, i < S.length ∧ al S k i = true := by
  have : ∀ n, 0 < pf (cnt S k) n ↔ ∃ i, i < n ∧ al S k i = true := fun n => by
    induction n with
    | zero => exact ⟨fun h => absurd h (by simp [pf]), fun ⟨i, h, _⟩ => absurd h (by omega)⟩
    | succ n ih =>
      rw [pf_succ]
      have hd := cnt_al S k n
      constructor
      · intro h
        by_cases c : 0 < pf (cnt S k) n
        · obtain ⟨i, h1, h2⟩ := ih.1 c
          exact ⟨i, by omega, h2⟩
        · exact ⟨n, by omega, by rw [← hd, decide_eq_true_eq]; omega⟩
      · rintro ⟨i, h1, h2⟩
        by_cases c : i = n
        · subst c
          rw [← hd, decide_eq_true_eq] at h2
          omega
        · have := ih.2 ⟨i, by omega, h2⟩
          omega
  exact this _
end
end Go.Proofs.Ytljgfdamdcikgaa.Ev
set_option linter.unusedVariables false
set_option linter.unusedSimpArgs false
namespace Go.Proofs.Ytljgfdamdcikgaa.Ev
open Go Go.AEv
attribute [local simp] evFunc initS evOps_c evTrim_c evSkip_c evExit_c evRet_c evSeq_c evCond_c evBlock_c evDraw_c runOps_n runOps_c exec_n exec_g pure1_c act AOpd.ev T.get T.set T.put evBin evUn forceT_eq forceV_eq forceL_eq evRess evRes one keep runFP_n runFP_c app_none AV.flats AV.flat came_some List.getElem?_cons_zero List.getElem?_cons_succ beqT wrapI idxI tdivI tmodI decT decF ibT ibF inT inF evScope_c if_pos if_neg Cm_some thenW_n thenW_e thenW_r blkW_n blkW_e blkW_r goI kn putAt AV.cells fillA loadA takeA mk Eff.isAll Eff.isNone Eff.commutes Eff.spares okPair apart eqAgg fits LK.fits allEq aveq eqk mmA
theorem TB.mr {H0 h : Heap} {x : AV} {M : List (List Int)} (t : TB H0 h x (M.map gs)) : MR h x M := by
  obtain ⟨rs, lv, hl, hr⟩ := t.r
  rw [List.length_map] at hl
  rcases lv with ⟨rfl, rfl⟩ | ⟨b, rfl, g, n⟩
  · exact .inl ⟨.inl rfl, List.length_eq_zero_iff.1 hl.symm⟩
  · refine .inr ⟨b, rs.length, rs, by rw [hl], g, hl, fun i r e => ?_⟩
    obtain ⟨cs, b', h1, h2, h3, _⟩ := hr i r e
    rw [List.getElem?_map] at h1
    cases hN : M[i]? with
    | none => rw [hN] at h1; cases h1
    | some l =>
      rw [hN] at h1
      simp only [Option.map_some, Option.some.injEq] at h1
      subst h1
      exact ⟨l, rfl, .inl (by rw [h2]; exact listOf_cells h3 (by simp))⟩
theorem tabQ_small {n : Nat} {B : List (List Int)} (h : tabQ n B = true) (h3 : n ≤ 3) : smallM B ∧ B.length ≤ 1000000 ∧ ∀ l ∈ B, l.length ≤ 1000000 := by
  have hr : ∀ l ∈ B, l.length = n := fun l hl => by
    unfold tabQ at h
    rw [Bool.and_eq_true] at h
    have := (List.all_eq_true.1 h.2) l hl
    unfold rowQ at this
    rw [Bool.and_eq_true, decide_eq_true_iff] at this
    omega
  have hl := (tabQ_row h).1
  refine ⟨⟨by omega, fun i => ?_⟩, by omega, fun l hl => by rw [hr l hl]; omega⟩
  rw [List.getD_eq_getElem?_getD]
  cases hi : B[i]? with
  | none => simp
  | some l =>
    obtain ⟨h1, h2⟩ := List.getElem?_eq_some_iff.1 hi
    have := hr l (h2 ▸ List.getElem_mem _)
    simp only [Option.getD_some]; omega
def AR.of (n : Nat) (x y : AV) (B W : List (List Int)) : AR := ⟨n, x, y, B, W⟩
theorem ru_of {n : Nat} {x y : AV} {B W : List (List Int)} (hn : 1 ≤ n ∧ n ≤ 3) (hB : tabQ n B = true) (hW : tabQ n W = true) : (AR.of n x y B W).ru = true := by
  unfold AR.ru AR.of ruQ
  simp only [hB, hW, Bool.and_true, decide_eq_true_eq]
  omega
theorem gd_of {n : Nat} {x y : AV} {B W : List (List Int)} (hn : 1 ≤ n ∧ n ≤ 3) (hB : tabQ n B = true) (hW : tabQ n W = true) {m k lo : Int} (h1 : 1 ≤ m ∧ m ≤ 5) (h2 : lo ≤ k ∧ k ≤ 40) : (AR.of n x y B W).gd m k lo = true := by
  unfold AR.gd AR.rm
  rw [ru_of hn hB hW, decide_eq_true h1, decide_eq_true h2]; rfl
structure KnT (J : CallF) : Prop where
  k18 : K18 J
  k19 : K19 J
  k20 : K20 J
  k21 : K21 J
  k22 : ∀ (h : Heap) (x z : AV) (A B : List (List Int)), LT h x A → LT h z B → A.length ≤ 1000000 → B.length ≤ 1000000 → (∀ l ∈ A, l.length ≤ 1000000) → J 22 [x, z] h = some (.bool (decide (A = B)), [], false)
  k23 : ∀ h, J 23 [] h = some (.bool true, [], false)
section
variable {nq m nn : Int} {X Y : List (List Int)}
end
theorem kT49 : KnT T49 where
  k18 := fun h a o => k18 h a o
  k19 := fun x n h h1 h2 => by
    rw [show T49 19 [G x, G n] h = T48 19 [G x, G n] h from by simp (disch := decide) only [T49, addI_ne, addX_ne, addV_ne, addK_ne]]; exact k19_48 x n h h1 h2
  k20 := fun h a o => by
    obtain ⟨v, own, e, l⟩ := k20 h a o
    exact ⟨v, own, by rw [show T49 20 [a.v] h = T23 20 [a.v] h from by simp (disch := decide) only [T24, T25, T26, T27, T28, T29, T30, T31, T32, T33, T34, T35, T36, T37, T38, T39, T40, T41, T42, T43, T44, T45, T46, T47, T48, T49, addI_ne, addX_ne, addV_ne, addK_ne]]; exact e, l⟩
  k21 := fun h a m n o => by
    rw [show T49 21 [a.v, G m, G n] h = T39 21 [a.v, G m, G n] h from by simp (disch := decide) only [T40, T41, T42, T43, T44, T45, T46, T47, T48, T49, addI_ne, addX_ne, addV_ne, addK_ne]]; exact k21 h a m n o
  k22 := fun h x z A B h1 h2 h3 h4 h5 => by
    rw [show T49 22 [x, z] h = T28 22 [x, z] h from by simp (disch := decide) only [T29, T30, T31, T32, T33, T34, T35, T36, T37, T38, T39, T40, T41, T42, T43, T44, T45, T46, T47, T48, T49, addI_ne, addX_ne, addV_ne, addK_ne]]; exact k22 h ⟨A, B, x, z⟩ ⟨h1, h2, h3, h4, h5⟩
  k23 := fun h => by
    rw [show T49 23 [] h = T2 23 [] h from by simp (disch := decide) only [T3, T4, T5, T6, T7, T8, T9, T10, T11, T12, T13, T14, T15, T16, T17, T18, T19, T20, T21, T22, T23, T24, T25, T26, T27, T28, T29, T30, T31, T32, T33, T34, T35, T36, T37, T38, T39, T40, T41, T42, T43, T44, T45, T46, T47, T48, T49, addI_ne, addX_ne, addV_ne, addK_ne]]; exact k23 h
section
variable {S : List (List Nat)} {u4 u6 u8 u0 : AV} {k1 k2 k3 k4 : Nat}
theorem RV.lv {h : Heap} {y : AV} {L : List Nat} (r : RV h y (gn L)) (hl : 0 < L.length) : ∃ b v, y = .slice b 0 L.length v ∧ h.get b = .cells 1 v (gn L) := by
  rcases r with ⟨_, e⟩ | ⟨b, v, e, g⟩
  · have : (gn L).length = 0 := by rw [e]; rfl
    rw [gn_len] at this; omega
  · rw [gn_len] at e; exact ⟨b, v, e, g⟩
end
theorem st_nd (W : List (List Int)) (R : List (List Nat)) (i : Nat) : ((stL W R).getD i []).Nodup := by
  rw [List.getD_eq_getElem?_getD]
  unfold stL
  rw [List.getElem?_map]
  cases R[i]? with
  | none => exact List.nodup_nil
  | some r => exact List.Nodup.sublist List.filter_sublist List.nodup_range
structure KnW (J : CallF) : Prop where
  k18 : K18 J
  k19 : K19 J
  k21 : K21 J
  k25 : K25 J
  k26 : K26 J
  k41 : K41 J
  k23 : ∀ h, J 23 [] h = some (.bool true, [], false)
section
variable {nq m : Int} {X Y : List (List Int)}
end
theorem kW49 : KnW T49 where
  k18 := fun h a o => k18 h a o
  k19 := kT49.k19
  k21 := kT49.k21
  k23 := kT49.k23
  k25 := fun h a m o => by
    obtain ⟨v, own, e, l⟩ := k25 h a m o
    exact ⟨v, own, by rw [show T49 25 [a.v, G m] h = T19 25 [a.v, G m] h from by simp (disch := decide) only [T20, T21, T22, T23, T24, T25, T26, T27, T28, T29, T30, T31, T32, T33, T34, T35, T36, T37, T38, T39, T40, T41, T42, T43, T44, T45, T46, T47, T48, T49, addI_ne, addX_ne, addV_ne, addK_ne]]; exact e, l⟩
  k26 := fun h a m o => by
    obtain ⟨v, own, e, l⟩ := k26 h a m o
    exact ⟨v, own, by rw [show T49 26 [a.v, G m] h = T20 26 [a.v, G m] h from by simp (disch := decide) only [T21, T22, T23, T24, T25, T26, T27, T28, T29, T30, T31, T32, T33, T34, T35, T36, T37, T38, T39, T40, T41, T42, T43, T44, T45, T46, T47, T48, T49, addI_ne, addX_ne, addV_ne, addK_ne]]; exact e, l⟩
  k41 := fun h a m n o => by
    rw [show T49 41 [a.v, G m, G n] h = T45 41 [a.v, G m, G n] h from by simp (disch := decide) only [T46, T47, T48, T49, addI_ne, addX_ne, addV_ne, addK_ne]]; exact k41 h a m n o
theorem mc_pos {S : List (List Nat)} {n m : Nat} (h : MC S n (m + 1)) : (∃ f, f < n ∧ Rw S (m + 1) f f) ∧ ∀ f s, f < n → Rw S (s + 1) f f → m ≤ s := by
  rcases h with ⟨e, _⟩ | ⟨r, e, h1, h2⟩
  · cases e
  · obtain rfl : m = r := by omega
    exact ⟨h1, h2⟩
theorem mc_zero {S : List (List Nat)} {n : Nat} (h : MC S n 0) : ∀ f s, f < n → ¬ Rw S (s + 1) f f := by
  rcases h with ⟨_, h⟩ | ⟨r, e, _⟩
  · exact h
  · cases e
theorem Rw.le {S : List (List Nat)} {k v : Nat} (w : Rw S (k + 1) v v) (hv : ¬ v < S.length) : False := by
  obtain ⟨c, h, _⟩ := w
  rw [List.getD_eq_getElem?_getD, List.getElem?_eq_none (by omega)] at h
  cases h
theorem ls_mc {S : List (List Nat)} (os : OkS S) : lsV S = -1 ↔ ¬ MC S S.length 0 := by
  have ls := lsV_ok os
  constructor
  · intro e h
    rcases ls with ⟨_, i, h1, h2⟩ | ⟨m, h1, _⟩
    · obtain ⟨v, s, h3, h4⟩ := al_cyc os.lt h1 h2
      exact mc_zero h v s h3 h4
    · omega
  · intro h
    rcases ls with ⟨e, _⟩ | ⟨m, h1, h2⟩
    · exact e
    · refine absurd (.inl ⟨rfl, fun f s hf w => ?_⟩) h
      have := (h2 m).1 ⟨f, hf, w.cyc m⟩
      omega
structure KnL (J : CallF) : Prop where
  k18 : K18 J
  k19 : K19 J
  k21 : K21 J
  k35 : K35 J
  k36 : K36 J
  k41 : K41 J
  k23 : ∀ h, J 23 [] h = some (.bool true, [], false)
section
variable {nq m : Int} {X Y : List (List Int)}
theorem c13_l0_ok (J : CallF) {a : AR} {M : Int} (k41 : K41 J) {S : List (List Nat)} (sS : a.steps M = S) (os : OkS S) (nd : ∀ i, (S.getD i []).Nodup) (s27 : S.length ≤ 27) (rm : a.rm M = true) {H : Heap} (oa : OkR a H) {pp bL vL lL : Nat} (gc : H.get pp = .cells 0 3 [G a.q, a.x, a.y]) (mc : MC S S.length (lL + 1)) (l27 : lL + 1 ≤ 27) :
    Tr tbl J c13_l0 (fun s h => h = H ∧ s.get [false] = G M ∧ s.get [false, true] = .ptr pp 0 3 ∧ s.get [true, false, false] = .slice bL 0 (lL + 1) vL ∧ s.get [true, true, false] = G (((0 : Nat) : Int) + 1)) (.exit 0) (fun s h => h = H) := by
  obtain ⟨m1, m2⟩ := mc_pos mc
  refine Tr.rounds (P := fun t => (fun s h => h = H ∧ s.get [false] = G M ∧ s.get [false, true] = .ptr pp 0 3 ∧ s.get [true, false, false] = .slice bL 0 (lL + 1) vL ∧ s.get [true, true, false] = G ((t : Int) + 1))) (M := lL + 1) (fun t ht => ?_) ?_ (by simp) 0 (by omega)
  · have nor : NoR S t := fun v s hs w => by
      by_cases hv : v < S.length
      · have := m2 v s hv w
        omega
      · exact w.le hv
    have okr := okR_few os.lt nd s27 nor
    have g : a.gd M (t + 1 : Nat) 1 = true := by
      unfold AR.gd
      rw [rm, decide_eq_true (by omega)]; rfl
    have e41 := k41 H a M (t + 1 : Nat) oa
    have er : a.rngV M (t + 1 : Nat) = .tup [G (rA S t S.length), G 0] := by
      have nt : ((t + 1 : Nat) : Int).toNat = t + 1 := by omega
      unfold AR.rngV AR.okr AR.rn
      rw [if_pos g, nt, sS, Nat.add_sub_cancel, okr, if_pos rfl]
    rw [er, show a.v = .agg [G a.q, a.x, a.y] from rfl, show ((t + 1 : Nat) : Int) = (t : Int) + 1 by omega] at e41
    have ps := rA_pos os.lt t
    have bd : rA S t S.length ≤ 1152921504606846976 := by
      have := okr
      unfold okR at this
      rw [af_iff] at this
      obtain ⟨f, h1, h2⟩ := m1
      have := this (S.length - 1) (Nat.zero_le _) (by omega)
      unfold gE at this
      rw [Bool.and_eq_true, decide_eq_true_eq, show S.length - 1 + 1 = S.length by omega] at this
      exact this.2
    have n1 : ((t + 1 : Nat) : Int) + 1 = (t : Int) + 1 + 1 := by omega
    by_cases c : t = lL
    · have z0 : 0 < rA S t S.length := by rw [ps, c]; exact m1
      subst c
      clear ps m1 m2 okr nor er g
      generalize rA S t S.length = z at *
      refine Tr.w fun s1 H1 hp _ kR => W.trim ?_
      obtain ⟨rfl, q⟩ := hp
      rw [n1] at kR
      refine W.assoc ?_
      refine W.seq (W.chunk ?_)
      simp (disch := first|omega|exact zE rfl|exact zO|exact zL rfl) [c13_o11, zG, q]
      refine W.seq (W.chunk ?_)
      simp (disch := first|omega|exact zE rfl|exact zO|exact zL rfl) [zG, q]
      refine W.seq (W.block ?_)
      refine W.seq (W.chunk ?_)
      simp (disch := first|omega|exact zE rfl|exact zO|exact zL rfl) [c13_o12, zG, q, gc, e41]
      refine W.seq (W.chunk ?_)
      simp (disch := first|omega|exact zE rfl|exact zO|exact zL rfl) [c13_o13, zG, q]
      refine W.chunk ?_
      simp (disch := first|omega|exact zE rfl|exact zO|exact zL rfl) [c13_o14, zG, q]
      refine W.chunk ?_
      simp (disch := first|omega|exact zE rfl|exact zO|exact zL rfl) [c13_o15, zG, q]
      exact kR _ _ (by simp [T.get, q])
    · have z0 : rA S t S.length = 0 := by
        apply Nat.eq_zero_of_not_pos
        rw [ps]
        rintro ⟨f, h1, w⟩
        have := m2 f t h1 w
        omega
      rw [z0] at e41
      clear ps m1 m2 okr nor er g z0 bd
      have c' : ¬ (t : Int) + 1 = (lL : Int) + 1 := by omega
      refine Tr.w fun s1 H1 hp _ kR => W.trim ?_
      obtain ⟨rfl, q⟩ := hp
      rw [n1] at kR
      refine W.assoc ?_
      refine W.seq (W.chunk ?_)
      simp (disch := first|omega|exact zE rfl|exact zO|exact zL rfl) [c13_o11, zG, q]
      refine W.seq (W.chunk ?_)
      simp (disch := first|omega|exact zE rfl|exact zO|exact zL rfl) [zG, q]
      refine W.seq (W.block ?_)
      refine W.seq (W.chunk ?_)
      simp (disch := first|omega|exact zE rfl|exact zO|exact zL rfl) [c13_o12, zG, q, gc, e41, c']
      refine W.seq (W.chunk ?_)
      simp (disch := first|omega|exact zE rfl|exact zO|exact zL rfl) [c13_o13, zG, q]
      refine W.chunk ?_
      simp (disch := first|omega|exact zE rfl|exact zO|exact zL rfl) [c13_o14, zG, q]
      refine W.chunk ?_
      simp (disch := first|omega|exact zE rfl|exact zO|exact zL rfl) [c13_o15, zG, q]
      exact kR _ _ (by simp [T.get, q])
  · clear m1 m2
    refine Tr.w fun s1 H1 hp _ kR => W.trim ?_
    obtain ⟨rfl, q⟩ := hp
    refine W.assoc ?_
    refine W.seq (W.chunk ?_)
    simp (disch := first|omega|exact zE rfl|exact zO|exact zL rfl) [c13_o11, zG, q]
    refine W.seq (W.chunk ?_)
    simp (disch := first|omega|exact zE rfl|exact zO|exact zL rfl) [zG, q]
    exact kR _ _ rfl
set_option maxHeartbeats 1000000 in
theorem c13_ok (J : CallF) (K : KnL J) (hJ : ∀ a h, J 13 a h = none) (h : Heap) {x y : AV} (mx : MR h x X) (my : MR h y Y) : CallsTo tbl J 13 [.agg [G nq, x, y], G m] h (.bool true, [], false) := by
  refine Tr.fnv (cf := c13) (e := .ret) (s := T.set (T.set .leaf [] (.agg [G nq, x, y])) [false] (G m)) (by decide) rfl (hJ _ _) rfl rfl rfl (by simp) ?_
  refine Tr.post (Q := (fun s h => s.get [true, false] = .bool true)) (fun s h q => by simp [c13, q]) ?_
  have mx0 : MR (frameOf h) x X := mx.lo []
  have my0 : MR (frameOf h) y Y := my.lo []
  generalize frameOf h = H0 at *
  obtain ⟨Ha, ha⟩ : ∃ H, H0.plus [.cells 0 3 [G nq, x, y]] = H := ⟨_, rfl⟩
  have ka : Kp (fun _ => False) H0 Ha := by rw [← ha]; exact Kp.plus _ _
  have gS : Ha.get H0.size = .cells 0 3 [G nq, x, y] := by rw [← ha]; exact plus_at0 _ _ _ _ rfl
  obtain ⟨v, own1, e18, n, x1, y1, B, Wt, rfl, hn, ⟨t1, hB⟩, t2, hW⟩ := K.k18 Ha ⟨nq, x, y, X, Y⟩ ⟨mx0.kp ka, my0.kp ka⟩
  simp only at e18
  obtain ⟨Hb, hb⟩ : ∃ H, Ha.plus own1 = H := ⟨_, rfl⟩
  rw [hb] at t1 t2
  obtain ⟨Hc, hc⟩ : ∃ H, Hb.plus [.cells 0 3 [G n, x1, y1]] = H := ⟨_, rfl⟩
  have kc : Kp (fun _ => False) Hb Hc := by rw [← hc]; exact Kp.plus _ _
  have gc : Hc.get Hb.size = .cells 0 3 [G n, x1, y1] := by rw [← hc]; exact plus_at0 _ _ _ _ rfl
  obtain ⟨sB, sB1, sB2⟩ := tabQ_small hB hn.2
  obtain ⟨sW, sW1, sW2⟩ := tabQ_small hW hn.2
  have oa : OkR (AR.of n x1 y1 B Wt) Hc := ⟨(t1.kp kc).mr, (t2.kp kc).mr, sB, sW⟩
  have m1 := mdZ_bd m (n := 3) (by omega)
  have e19 := K.k19 m 3 Hc (by omega) (by omega)
  generalize mdZ m 3 = zm at *
  obtain ⟨M, hM⟩ : ∃ M : Nat, zm = M := ⟨zm.toNat, by omega⟩
  subst hM
  have rm : (AR.of n x1 y1 B Wt).rm (M + 1 : Nat) = true := by
    unfold AR.rm
    rw [ru_of hn hB hW, decide_eq_true (by omega)]; rfl
  have sS : (AR.of n x1 y1 B Wt).steps (M + 1 : Nat) = stL Wt (rwL n B (M + 1)) := by
    unfold AR.steps AR.rows AR.of
    rfl
  obtain ⟨os, s243, sr⟩ := AR.steps_ok rm
  have nd := st_nd Wt (rwL n B (M + 1))
  have s27 : (stL Wt (rwL n B (M + 1))).length ≤ 27 := by
    have e : (stL Wt (rwL n B (M + 1))).length = (rwL n B (M + 1)).length := by simp [stL]
    rw [e]
    refine Nat.le_trans (List.length_filter_le _ _) ?_
    rw [exL_len]
    exact Nat.le_trans (Nat.pow_le_pow_left hn.2 _) (Nat.le_trans (Nat.pow_le_pow_right (by decide) (show M + 1 ≤ 3 by omega)) (by decide))
  have e35 := K.k35 Hc _ (M + 1 : Nat) oa
  obtain ⟨v6, own6, e36, p36⟩ := K.k36 Hc _ (M + 1 : Nat) oa
  have a1 : ((M + 1 : Nat) : Int) = 1 + (M : Int) := by omega
  have va : (AR.of n x1 y1 B Wt).v = .agg [G n, x1, y1] := rfl
  have k23 := K.k23
  unfold AR.lgV at e35
  rw [if_pos rm, va, sS, a1] at e35
  rw [sS] at os s243 sr
  have lm := ls_mc os
  by_cases c : MC (stL Wt (rwL n B (M + 1))) (stL Wt (rwL n B (M + 1))).length 0
  · obtain ⟨rfl, rfl⟩ := p36.2.1 rm (by rw [sS]; exact c)
    rw [va, a1] at e36
    have z1 : lsV (stL Wt (rwL n B (M + 1))) ≠ -1 := fun e => lm.1 e c
    obtain ⟨e, _⟩ | ⟨k, hk, hk2⟩ := lsV_ok os
    · exact absurd e z1
    have k27 : k ≤ 27 := by
      apply Decidable.byContradiction
      intro hc2
      obtain ⟨i, h1, h2⟩ := (hk2 27).2 (by omega)
      obtain ⟨v, s, h3, h4⟩ := al_cyc os.lt h1 (al_le (k := (stL Wt (rwL n B (M + 1))).length) (d := 27 - (stL Wt (rwL n B (M + 1))).length) (by rw [show (stL Wt (rwL n B (M + 1))).length + (27 - (stL Wt (rwL n B (M + 1))).length) = 27 by omega]; exact h2))
      exact mc_zero c v s h3 h4
    have nor : ∀ N, NoR (stL Wt (rwL n B (M + 1))) N := fun N v s _ w => by
      by_cases hv : v < (stL Wt (rwL n B (M + 1))).length
      · exact mc_zero c v s hv w
      · exact w.le hv
    have cnv : ∀ j : Nat, j ≤ 28 → (AR.of n x1 y1 B Wt).cntV (M + 1 : Nat) j = .tup [G ((AR.of n x1 y1 B Wt).cn (M + 1 : Nat) j), G 0] := fun j hj => by
      unfold AR.cntV
      rw [if_pos (gd_of hn hB hW (by omega) (by omega)), Int.toNat_natCast, sS, okC_few os.lt nd s27 (nor j), if_pos rfl]
    have e1 := K.k21 Hc _ (M + 1 : Nat) (k : Nat) oa
    have e2 := K.k21 Hc _ (M + 1 : Nat) (k + 1 : Nat) oa
    rw [cnv k (by omega), va, a1] at e1
    rw [cnv (k + 1) (by omega), va, a1, show ((k + 1 : Nat) : Int) = (k : Int) + 1 by omega] at e2
    have c1 : 0 < (AR.of n x1 y1 B Wt).cn (M + 1 : Nat) k := by
      unfold AR.cn
      cases k with
      | zero => exact Nat.one_pos
      | succ k =>
        rw [if_neg (by omega), sS, Nat.add_sub_cancel, rowC_pos]
        exact (hk2 k).2 (by omega)
    have c2 : (AR.of n x1 y1 B Wt).cn (M + 1 : Nat) (k + 1) = 0 := by
      unfold AR.cn
      rw [if_neg (by omega), sS, Nat.add_sub_cancel]
      apply Nat.eq_zero_of_not_pos
      rw [rowC_pos, hk2 k]
      omega
    have b1 : (AR.of n x1 y1 B Wt).cn (M + 1 : Nat) k ≤ 1152921504606846976 := by
      unfold AR.cn
      split
      · omega
      · rw [sS]
        exact okC_iff.1 (okC_few os.lt nd s27 (nor k)) (k - 1) (by omega)
    rw [a1] at c1 b1 c2
    rw [c2] at e2
    rw [hk] at e35
    clear K mx my mx0 my0 t1 t2 oa ka kc va sB sB1 sB2 sW sW1 sW2 c2 rm sS os sr nd hB hW p36 lm hk hk2 nor cnv z1 c s27 s243
    generalize (AR.of n x1 y1 B Wt).cn (1 + (M : Int)) k = z at *
    have hp0 : Hc.plus [] = Hc := by simp [Heap.plus]
    refine Tr.w fun s1 H1 hp _ kR => ?_
    obtain ⟨rfl, rfl⟩ := hp
    have q : True := trivial
    refine W.seq (W.chunk ?_)
    simp (disch := first|omega|exact zE rfl|exact zO|exact zL rfl) [c13_o0, zG, q, ha]
    refine W.seq (W.chunk ?_)
    simp (disch := first|omega|exact zE rfl|exact zO|exact zL rfl) [c13_o1, zG, q, gS, e18, app_if, app_if', hb, hc]
    refine W.seq (W.chunk ?_)
    simp (disch := first|omega|exact zE rfl|exact zO|exact zL rfl) [c13_o2, zG, q, e19]
    refine W.seq (W.chunk ?_)
    simp (disch := first|omega|exact zE rfl|exact zO|exact zL rfl) [c13_o3, zG, q, gc, e35]
    refine W.seq (W.chunk ?_)
    simp (disch := first|omega|exact zE rfl|exact zO|exact zL rfl) [c13_o4, zG, q, gc, e36, app_if, app_if', hp0]
    refine W.assoc ?_
    refine W.seq (W.chunk ?_)
    simp (disch := first|omega|exact zE rfl|exact zO|exact zL rfl) [c13_o5, zG, q]
    refine W.seq (W.chunk ?_)
    simp (disch := first|omega|exact zE rfl|exact zO|exact zL rfl) [c13_o6, zG, q]
    refine W.assoc ?_
    refine W.seq (W.chunk ?_)
    simp (disch := first|omega|exact zE rfl|exact zO|exact zL rfl) [c13_o7, zG, q]
    refine W.seq (W.cond (v := false) (by simp (disch := first|omega|exact zE rfl|exact zO|exact zL rfl) [zG, q]) ?_)
    simp only [if_true, if_false, Bool.false_eq_true]
    refine W.skip ?_
    try simp only [zW, if_true]
    refine W.assoc ?_
    refine W.seq (W.chunk ?_)
    simp (disch := first|omega|exact zE rfl|exact zO|exact zL rfl) [c13_o17, zG, q]
    refine W.seq (W.chunk ?_)
    simp (disch := first|omega|exact zE rfl|exact zO|exact zL rfl) [c13_o18, zG, q]
    refine W.seq (W.chunk ?_)
    simp (disch := first|omega|exact zE rfl|exact zO|exact zL rfl) [c13_o19, zG, q, gc, e1]
    refine W.seq (W.chunk ?_)
    simp (disch := first|omega|exact zE rfl|exact zO|exact zL rfl) [c13_o20, zG, q, gc, e2]
    refine W.seq (W.chunk ?_)
    simp (disch := first|omega|exact zE rfl|exact zO|exact zL rfl) [c13_o21, zG, q, k23]
    refine W.ret ?_
    try simp only [zW, if_true]
    exact kR _ _ (by simp [T.get])
  · obtain ⟨x6, L, rfl, ne, mc, rg, rv⟩ := p36.2.2 rm (by rw [sS]; exact c)
    rw [va, a1] at e36
    rw [sS] at mc
    have z1 : lsV (stL Wt (rwL n B (M + 1))) = -1 := lm.2 c
    rw [z1] at e35
    obtain ⟨Hd, hd⟩ : ∃ H, Hc.plus own6 = H := ⟨_, rfl⟩
    have kd : Kp (fun _ => False) Hc Hd := by rw [← hd]; exact Kp.plus _ _
    have l27 := Nat.le_trans (mc.le os (Nat.le_refl _)) s27
    obtain ⟨lL, hl⟩ : ∃ lL, L.length = lL + 1 := ⟨L.length - 1, by have : L.length ≠ 0 := fun e => ne (List.length_eq_zero_iff.1 e); omega⟩
    have lr : (wsL (rT2 ((AR.of n x1 y1 B Wt).rows (M + 1 : Nat)) L)).length = lL + 1 := by rw [wsL_len, rT2, List.length_map, hl]
    have sx := rv.sl
    rw [lr] at sx
    obtain ⟨bL, vL, rfl⟩ := sx.resolve_left (fun e => by omega)
    rw [hl] at mc l27
    have gcd := kd.at gc (by simp) id
    have l0 := c13_l0_ok (a := AR.of n x1 y1 B Wt) (bL := bL) (vL := vL) J K.k41 sS os nd s27 rm (oa.kp kd) gcd mc l27
    rw [a1] at l0
    have i0 : (((0 : Nat) : Int) + 1) = 1 := rfl
    rw [i0] at l0
    have nL : (((lL + 1 : Nat) : Int)) = (lL : Int) + 1 := by omega
    clear K mx my mx0 my0 t1 t2 oa ka kc kd va sB sB1 sB2 sW sW1 sW2 rm sS os sr nd hB hW p36 lm z1 c s27 s243 mc rg rv
    refine Tr.w fun s1 H1 hp _ kR => ?_
    obtain ⟨rfl, rfl⟩ := hp
    have q : True := trivial
    refine W.seq (W.chunk ?_)
    simp (disch := first|omega|exact zE rfl|exact zO|exact zL rfl) [c13_o0, zG, q, ha]
    refine W.seq (W.chunk ?_)
    simp (disch := first|omega|exact zE rfl|exact zO|exact zL rfl) [c13_o1, zG, q, gS, e18, app_if, app_if', hb, hc]
    refine W.seq (W.chunk ?_)
    simp (disch := first|omega|exact zE rfl|exact zO|exact zL rfl) [c13_o2, zG, q, e19]
    refine W.seq (W.chunk ?_)
    simp (disch := first|omega|exact zE rfl|exact zO|exact zL rfl) [c13_o3, zG, q, gc, e35]
    refine W.seq (W.chunk ?_)
    simp (disch := first|omega|exact zE rfl|exact zO|exact zL rfl) [c13_o4, zG, q, gc, e36, app_if, app_if', hd]
    refine W.assoc ?_
    refine W.seq (W.chunk ?_)
    simp (disch := first|omega|exact zE rfl|exact zO|exact zL rfl) [c13_o5, zG, q]
    refine W.seq (W.chunk ?_)
    simp (disch := first|omega|exact zE rfl|exact zO|exact zL rfl) [c13_o6, zG, q]
    refine W.assoc ?_
    refine W.seq (W.chunk ?_)
    simp (disch := first|omega|exact zE rfl|exact zO|exact zL rfl) [c13_o7, zG, q]
    refine W.seq (W.cond (v := true) (by simp (disch := first|omega|exact zE rfl|exact zO|exact zL rfl) [zG, q]) ?_)
    simp only [if_true, if_false, Bool.false_eq_true]
    refine W.assoc ?_
    refine W.seq (W.chunk ?_)
    simp (disch := first|omega|exact zE rfl|exact zO|exact zL rfl) [c13_o8, zG, q]
    refine W.seq (W.chunk ?_)
    simp (disch := first|omega|exact zE rfl|exact zO|exact zL rfl) [c13_o9, zG, q]
    refine W.assoc ?_
    refine W.seq (W.chunk ?_)
    simp (disch := first|omega|exact zE rfl|exact zO|exact zL rfl) [c13_o10, zG, q]
    refine W.seq (W.block ?_)
    refine W.use (l0) (by simp (disch := first|omega|exact zE rfl|exact zO|exact zL rfl) [zG, q]) fun s1 H1 hp => ?_
    obtain rfl := hp
    try simp only [zW, if_true]
    refine W.seq (W.chunk ?_)
    simp (disch := first|omega|exact zE rfl|exact zO|exact zL rfl) [c13_o16, zG, q, k23]
    refine W.ret ?_
    try simp only [zW, if_true]
    exact kR _ _ (by simp [T.get])
end
theorem kL54 : KnL T54 where
  k18 := fun h a o => by
    obtain ⟨v, own, e, l⟩ := kT49.k18 h a o
    exact ⟨v, own, by rw [show T54 18 [.agg [G a.q, a.x, a.y]] h = T49 18 [.agg [G a.q, a.x, a.y]] h from by simp (disch := decide) only [T50, T51, T52, T53, T54, addI_ne, addX_ne, addV_ne, addK_ne]]; exact e, l⟩
  k19 := fun x n h h1 h2 => by
    rw [show T54 19 [G x, G n] h = T49 19 [G x, G n] h from by simp (disch := decide) only [T50, T51, T52, T53, T54, addI_ne, addX_ne, addV_ne, addK_ne]]; exact kT49.k19 x n h h1 h2
  k21 := fun h a m n o => by
    rw [show T54 21 [a.v, G m, G n] h = T49 21 [a.v, G m, G n] h from by simp (disch := decide) only [T50, T51, T52, T53, T54, addI_ne, addX_ne, addV_ne, addK_ne]]; exact kT49.k21 h a m n o
  k35 := fun h a m o => by
    rw [show T54 35 [a.v, G m] h = T52 35 [a.v, G m] h from by simp (disch := decide) only [T53, T54, addI_ne, addX_ne, addV_ne, addK_ne]]; exact k35 h a m o
  k36 := k36
  k41 := fun h a m n o => by
    rw [show T54 41 [a.v, G m, G n] h = T49 41 [a.v, G m, G n] h from by simp (disch := decide) only [T50, T51, T52, T53, T54, addI_ne, addX_ne, addV_ne, addK_ne]]; exact kW49.k41 h a m n o
  k23 := fun h => by
    rw [show T54 23 [] h = T49 23 [] h from by simp (disch := decide) only [T50, T51, T52, T53, T54, addI_ne, addX_ne, addV_ne, addK_ne]]; exact kT49.k23 h
theorem stripLasting_ok (h : Heap) (m : Int) {nq : Int} {x y : AV} {B W : List (List Int)} (mx : MR h x B) (my : MR h y W) : CallsTo tbl T54 13 [.agg [G nq, x, y], G m] h (.bool true, [], false) := c13_ok T54 kL54 (fun _ _ => by simp (disch := decide) only [T1, T2, T3, T4, T5, T6, T7, T8, T9, T10, T11, T12, T13, T14, T15, T16, T17, T18, T19, T20, T21, T22, T23, T24, T25, T26, T27, T28, T29, T30, T31, T32, T33, T34, T35, T36, T37, T38, T39, T40, T41, T42, T43, T44, T45, T46, T47, T48, T49, T50, T51, T52, T53, T54, addI_ne, addX_ne, addV_ne, addK_ne]; rfl) h mx my
end Go.Proofs.Ytljgfdamdcikgaa.Ev
set_option linter.unusedVariables false
set_option linter.unusedSimpArgs false
namespace Go.AEv
open Go.ChangeShapes Go.WideShapes Go.Proofs.Ytljgfdamdcikgaa.Ev
theorem MR.ext {h h' : Heap} (e : Ext h h') {y : AV} {M : List (List Int)} (m : MR h y M) : MR h' y M := by
  rcases m with m | ⟨b, v, cs, rfl, g, hl, hr⟩
  · exact .inl m
  · refine .inr ⟨b, v, cs, rfl, e _ _ g (by simp), hl, fun i r q => ?_⟩
    obtain ⟨l, h1, h2⟩ := hr i r q
    exact ⟨l, h1, LR.ext e h2⟩
theorem rows_lo {CK : CKT} {w : World} {H : Type} {enc : TypeId × Value → H} {P : Program} {e i : TypeId} (he : P.underlying e = some (.slice i)) (hi : P.underlying i = some (.int .i64)) (hc : P.cellsOf i = 1) :
    ∀ (vs : List Value) {φ : Nat → Emb} {h : Heap} (ho : h.own = []) (hr : HR CK w [] φ h w), (∀ u ∈ vs, ∃ fuel z, DataW.trod enc P w 0 (fun _ => true) true fuel e [u] = some z) →
    ∃ φ' h', ∃ (rs : List AV) (ls : List (List Int)), h'.own = [] ∧ HR CK w [] φ' h' w ∧ Stp φ h φ' h' ∧ Ext h h' ∧ rs.length = vs.length ∧ ls.length = vs.length ∧ ∀ (j : Nat) u r, vs[j]? = some u → rs[j]? = some r → VR φ' h' r u ∧ Value.oneCell' u = true ∧ ∃ l, ls[j]? = some l ∧ LR h' r l
  | [], φ, h, ho, hr, _ => ⟨φ, h, [], [], ho, hr, Stp.refl φ h, Ext.refl h, rfl, rfl, fun j u r q => by simp at q⟩
  | u :: us, φ, h, ho, hr, ht => by
    obtain ⟨fuel, z, hf⟩ := ht u (by simp)
    obtain ⟨φ1, h1, x, l, o1, r1, s1, e1, v1, p1, c1⟩ := ints_lo0 ho hr he hi hc hf
    obtain ⟨φ2, h2, rs, ls, o2, r2, s2, e2, l1, l2, q⟩ := rows_lo he hi hc us o1 r1 (fun u' hu => ht u' (by simp [hu]))
    refine ⟨φ2, h2, x :: rs, l :: ls, o2, r2, s1.trans s2, e1.trans e2, by simp [l1], by simp [l2], fun j u' r hu hr' => ?_⟩
    cases j with
    | zero =>
      simp only [List.getElem?_cons_zero, Option.some.injEq] at hu hr'
      subst hu hr'
      exact ⟨VR.step s2 _ _ v1, c1, l, rfl, p1.ext e2⟩
    | succ j =>
      simp only [List.getElem?_cons_succ] at hu hr' ⊢
      exact q j u' r hu hr'
theorem mat_lo0 {CK : CKT} {φ : Nat → Emb} {h : Heap} {w : World} (ho : h.own = []) (hr : HR CK w [] φ h w) {H : Type} {enc : TypeId × Value → H} {P : Program} {t e i : TypeId} {v : Value} {fuel : Nat} {z : DataW H × List MemPlace}
    (ht : P.underlying t = some (.slice e)) (he : P.underlying e = some (.slice i)) (hi : P.underlying i = some (.int .i64)) (hce : P.cellsOf e = 1) (hci : P.cellsOf i = 1) (hf : DataW.trod enc P w 0 (fun _ => true) true fuel t [v] = some z) :
    ∃ φ' h' x M, h'.own = [] ∧ HR CK w [] φ' h' w ∧ Stp φ h φ' h' ∧ Ext h h' ∧ VR φ' h' x v ∧ MR h' x M ∧ Value.oneCell' v = true := by
  rcases DataW.trod_slice ht hf with ⟨hcs, _⟩ | ⟨a, len, cap, elems, rest, n, _, hcs, _, _, hl, hm, hlen, hel, hsp, _⟩
  · have hcs' : v = .slice none 0 0 := (List.cons.inj hcs).1
    rw [hcs']
    exact ⟨φ, h, .nils, [], ho, hr, Stp.refl φ h, Ext.refl h, by simp [VR], .inl ⟨.inl rfl, rfl⟩, rfl⟩
  · have hcs' : v = .slice (some a) len cap := (List.cons.inj hcs).1
    rw [hcs']
    by_cases h0 : len = 0
    · subst h0
      exact ⟨φ, h, .slice0, [], ho, hr, Stp.refl φ h, Ext.refl h, by simp [VR], .inl ⟨.inr rfl, rfl⟩, rfl⟩
    · obtain ⟨hrl, hre⟩ := hsp rfl
      have each : ∀ j, j < cap → ∃ u, w.cell? (a.add j) = some u ∧ ∃ z, DataW.trod enc P w 0 (fun _ => true) true n e [u] = some z := fun j hj => by
        have hb' : ∃ y, (w.cells? 0 (a.add (j * P.cellsOf e)) (P.cellsOf e)).bind (DataW.trod enc P w 0 (fun _ => true) true n e) = some y := by
          by_cases hjl : j < len
          · rw [hel j hjl, List.getElem?_eq_getElem (by omega)]; exact ⟨_, rfl⟩
          · have := hre (j - len) (by omega)
            rw [show len + (j - len) = j by omega] at this
            rw [this, List.getElem?_eq_getElem (by omega)]; exact ⟨_, rfl⟩
        obtain ⟨y, hy⟩ := hb'
        rw [hce, Nat.mul_one, Option.bind_eq_some_iff] at hy
        obtain ⟨cs', h1, h2⟩ := hy
        have hl1 := (World.cells?_some h1).2.1
        obtain ⟨u, rfl⟩ : ∃ u, cs' = [u] := by
          cases cs' with
          | nil => simp at hl1
          | cons u r => cases r with
            | nil => exact ⟨u, rfl⟩
            | cons u' r => simp at hl1
        exact ⟨u, cell_of_cells?_one h1, y, h2⟩
      obtain ⟨f, hfe⟩ : ∃ f : Nat → Value, ∀ j, j < cap → w.cell? (a.add j) = some (f j) ∧ ∃ z, DataW.trod enc P w 0 (fun _ => true) true n e [f j] = some z :=
        ⟨fun j => if hj : j < cap then Classical.choose (each j hj) else .nilFunc, fun j hj => by
          simp only [dif_pos hj]
          exact Classical.choose_spec (each j hj)⟩
      obtain ⟨b, off, spot⟩ := a
      have hspot : spot = none := by simpa [Addr.add] using World.cell?_spot (hfe 0 (by omega)).1
      subst hspot
      have hcell : ∀ j, j < cap → w.cell? ⟨b, off + j, none⟩ = some (f j) := fun j hj => by rw [← Go.WideShapes.add_plain]; exact (hfe j hj).1
      obtain ⟨c, ty, fr, hb, hc0⟩ := cell_obj (hcell 0 (by omega))
      have hcj : ∀ j, j < cap → c[off + j]? = some (f j) := fun j hj => by
        obtain ⟨c', ty', fr', hb', hcj⟩ := cell_obj (hcell j hj)
        rw [hb] at hb'
        simp only [Option.some.injEq, Obj.cells.injEq] at hb'
        obtain ⟨rfl, _⟩ := hb'
        exact hcj
      have hsize : off + cap ≤ c.size := by
        have := (Array.getElem?_eq_some_iff.1 (hcj (cap - 1) (by omega))).1
        omega
      obtain ⟨φ1, h1, rs, ls, o1, r1, s1, e1, l1, l2, q⟩ := rows_lo he hi hci ((List.range len).map f) ho hr (fun u hu => by
        obtain ⟨j, hj, rfl⟩ := List.mem_map.1 hu
        obtain ⟨z, hz⟩ := (hfe j (by have := List.mem_range.1 hj; omega)).2
        exact ⟨n, z, hz⟩)
      simp only [List.length_map, List.length_range] at l1 l2
      have hat : ∀ j, j < len → ((List.range len).map f)[j]? = some (f j) := fun j hj => by simp [hj]
      refine ⟨AEv.upd φ1 h1.N ⟨b, off, cap⟩, h1.more (.cells 1 len rs), .slice h1.N 0 len len, ls, rfl, lo_add o1 r1 _ _ ?_, s1.trans (lo_stp o1 _ _), e1.trans (more_ext h1 o1 _), ?_, .inr ⟨h1.N, len, rs, by rw [l2], more_at _ _, by omega, fun j r hr' => ?_⟩, rfl⟩
      · refine ⟨c, ty, fr, hb, hsize, by show rs.length ≤ cap; omega, fun j x hx => ?_⟩
        have hj : j < len := by have := (List.getElem?_eq_some_iff.1 hx).1; omega
        obtain ⟨q1, q2, _⟩ := q j (f j) x (hat j hj) hx
        exact ⟨f j, hcj j (by omega), VR.step (lo_stp o1 _ _) _ _ q1, q2⟩
      · simp only [VR]
        exact ⟨_, cap, 1, len, _, rfl, hl, more_at _ _, Nat.le_refl _, fun _ => ⟨by simp [AEv.upd], fun _ _ => by simp [AEv.upd]⟩⟩
      · have hj : j < len := by have := (List.getElem?_eq_some_iff.1 hr').1; omega
        obtain ⟨_, _, l, q3, q4⟩ := q j (f j) r (hat j hj) hr'
        exact ⟨l, q3, q4.ext (more_ext h1 o1 _)⟩
structure RuleKey (P : Program) (k i t : TypeId) (f g l : Field) : Prop where
  hu : P.underlying k = some (.struct #[f, g, l])
  size : P.cellsOf k = 3
  ci : P.cellsOf i = 1
  ct : P.cellsOf t = 1
  f1 : f.type = i
  f2 : g.type = t
  f3 : l.type = t
  o1 : f.offset = 0
  o2 : g.offset = 1
  o3 : l.offset = 2
theorem okWide_rule {P : Program} {W : World} {k i t : TypeId} {f g l : Field} (A : RuleKey P k i t f g l) {r : Reach} {b0 : Nat} {v : Value} (h : Value.okWide P W r b0 k v) : ∃ c0 c1 c2, v = .agg #[c0, c1, c2] := by
  simp only [Value.okWide, A.hu] at h
  obtain ⟨cs, h1, h2, _⟩ := h
  rw [A.size] at h2
  obtain ⟨l⟩ := cs
  match l, h2 with
  | [c0, c1, c2], _ => exact ⟨c0, c1, c2, h1⟩
theorem rule_lo {CK : CKT} {φ : Nat → Emb} {h : Heap} {w : World} (ho : h.own = []) (hr : HR CK w [] φ h w) {H : Type} {enc : TypeId × Value → H} {P : Program} {k i t e : TypeId} {f g l : Field} {v : Value} {d : DataW H} {p : List MemPlace} (A : RuleKey P k i t f g l)
    (ht : P.underlying t = some (.slice e)) (he : P.underlying e = some (.slice i)) (hi : P.underlying i = some (.int .i64)) (hce : P.cellsOf e = 1) {r : Reach} {b0 : Nat} (hval : Value.okWide P w r b0 k v) (kd : DataW.Trod enc P w 0 (fun _ => true) true k v d p) :
    ∃ φ' h' q x y B W, h'.own = [] ∧ HR CK w [] φ' h' w ∧ Stp φ h φ' h' ∧ Ext h h' ∧ VR φ' h' (.agg [.int .i64 q, x, y]) v ∧ MR h' x B ∧ MR h' y W := by
  obtain ⟨c0, c1, c2, rfl⟩ := okWide_rule A hval
  obtain ⟨fuel, hf⟩ := kd
  cases fuel with
  | zero => simp [DataW.trod] at hf
  | succ n =>
    rw [DataW.trod_step] at hf
    unfold DataW.trodStep at hf
    simp only [A.hu, Value.cells] at hf
    rw [if_pos (by rw [A.size]; rfl)] at hf
    simp only [Option.map_eq_some_iff] at hf
    obtain ⟨xs, hx, e1⟩ := hf
    rw [List.mapM_cons, List.mapM_cons, List.mapM_cons, List.mapM_nil] at hx
    simp only [bind, Option.bind_eq_some_iff, pure, Option.some.injEq, A.ci, A.ct, A.f1, A.f2, A.f3, A.o1, A.o2, A.o3] at hx
    obtain ⟨y0, h0, _, ⟨y1, h1, _, ⟨y2, h2, _, rfl, rfl⟩, rfl⟩, rfl⟩ := hx
    have h0' : DataW.trod enc P w 0 (fun _ => true) true n i [c0] = some y0 := h0
    have h1' : DataW.trod enc P w 0 (fun _ => true) true n t [c1] = some y1 := h1
    have h2' : DataW.trod enc P w 0 (fun _ => true) true n t [c2] = some y2 := h2
    obtain ⟨a, ea, _, _⟩ := DataW.trod_int hi h0'
    obtain rfl : c0 = .int .i64 a := by simpa using ea
    obtain ⟨φ1, m1, x, B, o1, r1, s1, x1, v1, p1, q1⟩ := mat_lo0 ho hr ht he hi hce A.ci h1'
    obtain ⟨φ2, m2, y, W, o2, r2, s2, x2, v2, p2, q2⟩ := mat_lo0 o1 r1 ht he hi hce A.ci h2'
    refine ⟨φ2, m2, a, x, y, B, W, o2, r2, s1.trans s2, x1.trans x2, ?_, Go.AEv.MR.ext x2 p1, p2⟩
    simp only [VR, VRs]
    refine ⟨#[.int .i64 a, c1, c2], rfl, ⟨_, [c1, c2], rfl, rfl, c1, [c2], rfl, VR.step s2 _ _ v1, c2, [], rfl, v2, rfl⟩, fun z hz => ?_⟩
    simp only [List.mem_cons, List.not_mem_nil, or_false] at hz
    rcases hz with rfl | rfl | rfl
    · rfl
    · exact q1
    · exact q2
end Go.AEv
