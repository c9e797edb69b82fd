/-
  Of the functions that this law reaches, part 2: what they answer. No condition.
-/
import Derived.Test.YtljgfdamdcikgaaRP1
import Derived.Test.YtljgfdamdcikgaaRP0
import Derived.WideKeyPair
set_option linter.unusedVariables false
set_option linter.unusedSimpArgs false
namespace Go.Proofs.Ytljgfdamdcikgaa.Ev
open Go Go.AEv
section
variable {S : List (List Nat)}
structure BQ (S : List (List Nat)) (f : Nat) (d : Nat → Nat) (Q : List Nat) (k t : Nat) : Prop where
  q0 : Q[0]? = some f
  f0 : d f = 0
  nd : Q.Nodup
  lt : ∀ z ∈ Q, z < S.length
  wk : ∀ z ∈ Q, Rw S (d z) f z
  so : ∀ (i j u w : Nat), i ≤ j → Q[i]? = some u → Q[j]? = some w → d u ≤ d w
  la : ∀ (j u w : Nat), Q[k]? = some u → Q[j]? = some w → d w ≤ d u + 1
  dl : ∀ (j w : Nat), Q[j]? = some w → d w ≤ j
  ch : ∀ (i u : Nat), i < k → Q[i]? = some u → ∀ c ∈ S.getD u [], c ∈ Q ∧ d c ≤ d u + 1
  ct : ∀ u, Q[k]? = some u → ∀ c ∈ (S.getD u []).take t, c ∈ Q ∧ d c ≤ d u + 1
theorem BQ.init {f : Nat} (hf : f < S.length) : BQ S f (fun _ => 0) [f] 0 0 where
  q0 := rfl
  f0 := rfl
  nd := by simp
  lt := fun z hz => by rw [List.mem_singleton.1 hz]; exact hf
  wk := fun z hz => by rw [List.mem_singleton.1 hz]; exact rfl
  so := fun _ _ _ _ _ _ _ => Nat.le_refl _
  la := fun _ _ _ _ _ => by omega
  dl := fun _ _ _ => Nat.zero_le _
  ch := fun i u hi => absurd hi (by omega)
  ct := fun u hu c hc => by simp at hc
theorem nd_cap {n : Nat} : ∀ {Q : List Nat}, Q.Nodup → (∀ z ∈ Q, z < n) → Q.length ≤ n := fun {Q} nd lt => by
  apply Decidable.byContradiction
  intro hc
  obtain ⟨i, j, h1, h2, h3⟩ := pigeon n (fun i => Q.getD i 0) (fun i hi => by
    have hl : i < Q.length := by omega
    simp only [List.getD_eq_getElem?_getD, List.getElem?_eq_getElem hl, Option.getD_some]
    exact lt _ (List.getElem_mem hl))
  have hj : j < Q.length := by omega
  have hi : i < Q.length := by omega
  simp only [List.getD_eq_getElem?_getD, List.getElem?_eq_getElem hi, List.getElem?_eq_getElem hj, Option.getD_some] at h3
  have := (List.pairwise_iff_getElem.1 nd) i j hi hj h1
  exact this h3
variable {f k t u : Nat} {d : Nat → Nat} {Q : List Nat}
theorem BQ.len (b : BQ S f d Q k t) : Q.length ≤ S.length := nd_cap b.nd b.lt
theorem BQ.fQ (b : BQ S f d Q k t) : f ∈ Q := List.mem_iff_getElem?.2 ⟨0, b.q0⟩
theorem BQ.uQ (b : BQ S f d Q k t) (hu : Q[k]? = some u) : u ∈ Q := List.mem_iff_getElem?.2 ⟨k, hu⟩
theorem take_s {L : List Nat} {t c : Nat} (h : L[t]? = some c) : L.take (t + 1) = L.take t ++ [c] := by
  rw [List.take_add_one, h]; rfl
theorem BQ.old (b : BQ S f d Q k t) (hu : Q[k]? = some u) {c : Nat} (hc : (S.getD u [])[t]? = some c) (hQ : c ∈ Q) : BQ S f d Q k (t + 1) :=
  ⟨b.q0, b.f0, b.nd, b.lt, b.wk, b.so, b.la, b.dl, b.ch, fun u' hu' x hx => by
    rw [hu] at hu'; cases hu'
    rw [take_s hc] at hx
    rcases List.mem_append.1 hx with a | a
    · exact b.ct u hu x a
    · rw [List.mem_singleton.1 a]
      obtain ⟨j, hj⟩ := List.mem_iff_getElem?.1 hQ
      exact ⟨hQ, b.la j u c hu hj⟩⟩
theorem BQ.new (lt : ∀ i, ∀ j ∈ S.getD i [], j < S.length) (b : BQ S f d Q k t) (hu : Q[k]? = some u) {c : Nat} (hc : (S.getD u [])[t]? = some c) (hQ : c ∉ Q) : BQ S f (fun z => if z = c then d u + 1 else d z) (Q ++ [c]) k (t + 1) := by
  have old : ∀ z, z ∈ Q → (if z = c then d u + 1 else d z) = d z := fun z hz => if_neg fun e => hQ (by rw [← e]; exact hz)
  have cS : c ∈ S.getD u [] := List.mem_iff_getElem?.2 ⟨t, hc⟩
  have uQ := b.uQ hu
  have hk := (List.getElem?_eq_some_iff.1 hu).1
  have app : ∀ {j w : Nat}, (Q ++ [c])[j]? = some w → Q[j]? = some w ∨ (j = Q.length ∧ w = c) := fun {j w} h => by
    by_cases hj : j < Q.length
    · left; rwa [List.getElem?_append_left hj] at h
    · right
      have h3 := (List.getElem?_eq_some_iff.1 h).1
      simp only [List.length_append, List.length_singleton] at h3
      have e : j = Q.length := by omega
      subst e
      rw [List.getElem?_append_right (Nat.le_refl _), Nat.sub_self] at h
      exact ⟨rfl, (Option.some.inj h).symm⟩
  have mem : ∀ {j w : Nat}, Q[j]? = some w → w ∈ Q := fun h => List.mem_iff_getElem?.2 ⟨_, h⟩
  have hu' : (Q ++ [c])[k]? = some u := by rw [List.getElem?_append_left hk]; exact hu
  constructor
  · have : 0 < Q.length := (List.getElem?_eq_some_iff.1 b.q0).1
    rw [List.getElem?_append_left this]; exact b.q0
  · show (if f = c then d u + 1 else d f) = 0
    rw [old f b.fQ, b.f0]
  · rw [List.nodup_append]
    exact ⟨b.nd, by simp, fun x hx y hy e => hQ (by rw [← List.mem_singleton.1 hy, ← e]; exact hx)⟩
  · intro z hz
    rcases List.mem_append.1 hz with a | a
    · exact b.lt z a
    · rw [List.mem_singleton.1 a]; exact lt _ _ cS
  · intro z hz
    rcases List.mem_append.1 hz with a | a
    · show Rw S (if z = c then d u + 1 else d z) f z
      rw [old z a]; exact b.wk z a
    · rw [List.mem_singleton.1 a]
      show Rw S (if c = c then d u + 1 else d c) f c
      rw [if_pos rfl]
      exact (b.wk u uQ).snoc cS
  · intro i j x w hij hx hw
    show (if x = c then d u + 1 else d x) ≤ (if w = c then d u + 1 else d w)
    rcases app hx with a | ⟨a, rfl⟩
    · rw [old x (mem a)]
      rcases app hw with a' | ⟨a', rfl⟩
      · rw [old w (mem a')]; exact b.so i j x w hij a a'
      · rw [if_pos rfl]; exact b.la i u x hu a
    · rcases app hw with a' | ⟨a', rfl⟩
      · have := (List.getElem?_eq_some_iff.1 a').1
        omega
      · rw [if_pos rfl]; exact Nat.le_refl _
  · intro j x w hx hw
    rw [hu'] at hx; cases hx
    show (if w = c then d u + 1 else d w) ≤ (if u = c then d u + 1 else d u) + 1
    rw [old u uQ]
    rcases app hw with a' | ⟨a', rfl⟩
    · rw [old w (mem a')]; exact b.la j u w hu a'
    · rw [if_pos rfl]; exact Nat.le_refl _
  · intro j w hw
    show (if w = c then d u + 1 else d w) ≤ j
    rcases app hw with a' | ⟨a', rfl⟩
    · rw [old w (mem a')]; exact b.dl j w a'
    · rw [if_pos rfl]
      have := b.dl k u hu
      omega
  · intro i x hi hx y hy
    rcases app hx with a | ⟨a, rfl⟩
    · obtain ⟨h1, h2⟩ := b.ch i x hi a y hy
      refine ⟨List.mem_append_left _ h1, ?_⟩
      show (if y = c then d u + 1 else d y) ≤ (if x = c then d u + 1 else d x) + 1
      rw [old y h1, old x (mem a)]; exact h2
    · omega
  · intro x hx y hy
    rw [hu'] at hx; cases hx
    rw [take_s hc] at hy
    show y ∈ Q ++ [c] ∧ (if y = c then d u + 1 else d y) ≤ (if u = c then d u + 1 else d u) + 1
    rw [old u uQ]
    rcases List.mem_append.1 hy with a | a
    · obtain ⟨h1, h2⟩ := b.ct u hu y a
      rw [old y h1]
      exact ⟨List.mem_append_left _ h1, h2⟩
    · rw [List.mem_singleton.1 a, if_pos rfl]
      exact ⟨by simp, Nat.le_refl _⟩
theorem BQ.next (b : BQ S f d Q k t) (hu : Q[k]? = some u) (ht : t = (S.getD u []).length) : BQ S f d Q (k + 1) 0 where
  q0 := b.q0
  f0 := b.f0
  nd := b.nd
  lt := b.lt
  wk := b.wk
  so := b.so
  la := fun j x w hx hw => by
    have h1 := b.la j u w hu hw
    have h2 := b.so k (k + 1) u x (by omega) hu hx
    omega
  dl := b.dl
  ch := fun i x hi hx c hc => by
    by_cases e : i = k
    · subst e
      rw [hu] at hx; cases hx
      exact b.ct u hu c (by rw [ht, List.take_length]; exact hc)
    · exact b.ch i x (by omega) hx c hc
  ct := fun u hu c hc => by simp at hc
def NF (S : List (List Nat)) (f : Nat) (Q : List Nat) (k t : Nat) : Prop := (∀ (i u : Nat), i < k → Q[i]? = some u → f ∉ S.getD u []) ∧ ∀ u, Q[k]? = some u → f ∉ (S.getD u []).take t
theorem BQ.reach (b : BQ S f d Q k t) {s D : Nat} (hD : ∀ u, Q[k]? = some u → D ≤ d u) (hk : k ≤ Q.length) (hs : s < D ∨ Q.length = k) (nf : ∀ (i u : Nat), i < k → Q[i]? = some u → f ∉ S.getD u []) (w : Rw S (s + 1) f f) : False := by
  have key : ∀ r z, Rw S r f z → r ≤ s → z ∈ Q ∧ d z ≤ r := fun r => by
    induction r with
    | zero =>
      intro z hz _
      have e : f = z := hz
      rw [← e]; exact ⟨b.fQ, by rw [b.f0]; exact Nat.le_refl _⟩
    | succ r ih =>
      intro z hz hr
      obtain ⟨y, h1, h2⟩ := hz.last
      obtain ⟨h3, h4⟩ := ih y h1 (by omega)
      obtain ⟨j, hj⟩ := List.mem_iff_getElem?.1 h3
      have hjl := (List.getElem?_eq_some_iff.1 hj).1
      have : j < k := by
        apply Decidable.byContradiction
        intro c
        have hkl : k < Q.length := by omega
        have hkk := List.getElem?_eq_getElem hkl
        have h5 := b.so k j _ y (by omega) hkk hj
        have h6 := hD _ hkk
        omega
      obtain ⟨h5, h6⟩ := b.ch j y this hj z h2
      exact ⟨h5, by omega⟩
  obtain ⟨y, h1, h2⟩ := w.last
  obtain ⟨h3, h4⟩ := key s y h1 (Nat.le_refl _)
  obtain ⟨j, hj⟩ := List.mem_iff_getElem?.1 h3
  have hjl := (List.getElem?_eq_some_iff.1 hj).1
  have : j < k := by
    apply Decidable.byContradiction
    intro c
    have hkl : k < Q.length := by omega
    have hkk := List.getElem?_eq_getElem hkl
    have h5 := b.so k j _ y (by omega) hkk hj
    have h6 := hD _ hkk
    omega
  exact nf j y this hj h2
def CY (S : List (List Nat)) (f m : Nat) : Prop := Rw S (m + 1) f f ∧ ∀ s, Rw S (s + 1) f f → m ≤ s
theorem BQ.found (b : BQ S f d Q k t) (nf : NF S f Q k t) (hu : Q[k]? = some u) (h : f ∈ S.getD u []) : CY S f (d u) := by
  refine ⟨(b.wk u (b.uQ hu)).snoc h, fun s w => ?_⟩
  apply Decidable.byContradiction
  intro c
  have hk := (List.getElem?_eq_some_iff.1 hu).1
  exact b.reach (D := d u) (fun u' hu' => by rw [hu] at hu'; cases hu'; exact Nat.le_refl _) (by omega) (.inl (by omega)) nf.1 w
theorem BQ.none (b : BQ S f d Q Q.length 0) (nf : NF S f Q Q.length 0) : ∀ s, ¬ Rw S (s + 1) f f := fun s w =>
  b.reach (D := 0) (fun u hu => Nat.zero_le _) (Nat.le_refl _) (.inr rfl) nf.1 w
theorem NF.skip (n : NF S f Q k t) (hu : Q[k]? = some u) {c : Nat} (hc : (S.getD u [])[t]? = some c) (hn : c ≠ f) : NF S f Q k (t + 1) :=
  ⟨n.1, fun u' hu' => by
    rw [hu] at hu'; cases hu'
    rw [take_s hc]
    intro hx
    rcases List.mem_append.1 hx with a | a
    · exact n.2 u hu a
    · exact hn (List.mem_singleton.1 a).symm⟩
theorem NF.push (n : NF S f Q k t) (hk : k < Q.length) (c : Nat) : NF S f (Q ++ [c]) k t :=
  ⟨fun i u hi hu => n.1 i u hi (by rwa [List.getElem?_append_left (by omega)] at hu), fun u hu => n.2 u (by rwa [List.getElem?_append_left hk] at hu)⟩
theorem NF.next (n : NF S f Q k t) (hu : Q[k]? = some u) (ht : t = (S.getD u []).length) : NF S f Q (k + 1) 0 :=
  ⟨fun i x hi hx => by
    by_cases e : i = k
    · subst e
      rw [hu] at hx; cases hx
      have := n.2 u hu
      rwa [ht, List.take_length] at this
    · exact n.1 i x (by omega) hx, fun x hx => by simp⟩
theorem NF.init : NF S f [f] 0 0 := ⟨fun i u hi => absurd hi (by omega), fun u hu => by simp⟩
def PRT (S : List (List Nat)) (f : Nat) (d : Nat → Nat) (Q : List Nat) (E : List (Nat × Int)) : Prop :=
  fm f E = none ∧ ∀ z, z ≠ f → (z ∉ Q → fm z E = none) ∧ (z ∈ Q → ∃ p : Nat, fm z E = some (p : Int) ∧ p ∈ Q ∧ z ∈ S.getD p [] ∧ d z = d p + 1)
theorem PRT.init : PRT S f (fun _ => 0) [f] [] := ⟨rfl, fun z hz => ⟨fun _ => rfl, fun h => absurd (List.mem_singleton.1 h) hz⟩⟩
theorem PRT.new {E : List (Nat × Int)} (p : PRT S f d Q E) (uQ : u ∈ Q) (fQ : f ∈ Q) {c : Nat} (hc : c ∈ S.getD u []) (hQ : c ∉ Q) : PRT S f (fun z => if z = c then d u + 1 else d z) (Q ++ [c]) (pm c (u : Int) E) := by
  have cf : ¬ f = c := fun e => hQ (by rw [← e]; exact fQ)
  have old : ∀ z, z ∈ Q → (if z = c then d u + 1 else d z) = d z := fun z hz => if_neg fun e => hQ (by rw [← e]; exact hz)
  refine ⟨by rw [fm_pm, if_neg cf]; exact p.1, fun z hz => ⟨fun h => ?_, fun h => ?_⟩⟩
  · rw [fm_pm, if_neg (fun e => h (by rw [e]; simp))]
    exact (p.2 z hz).1 fun e => h (List.mem_append_left _ e)
  · by_cases e : z = c
    · subst e
      refine ⟨u, by rw [fm_pm, if_pos rfl], List.mem_append_left _ uQ, hc, ?_⟩
      show (if z = z then d u + 1 else d z) = (if u = z then d u + 1 else d u) + 1
      rw [if_pos rfl, old u uQ]
    · have hzQ : z ∈ Q := by
        rcases List.mem_append.1 h with a | a
        · exact a
        · exact absurd (List.mem_singleton.1 a) e
      obtain ⟨q, h1, h2, h3, h4⟩ := (p.2 z hz).2 hzQ
      refine ⟨q, by rw [fm_pm, if_neg e]; exact h1, List.mem_append_left _ h2, h3, ?_⟩
      show (if z = c then d u + 1 else d z) = (if q = c then d u + 1 else d q) + 1
      rw [old z hzQ, old q h2]; exact h4
def par (E : List (Nat × Int)) (i : Nat) : Nat := match fm i E with | some z => z.toNat | none => 0
def pth (E : List (Nat × Int)) : Nat → Nat → List Nat
  | 0, _ => []
  | D + 1, i => i :: pth E D (par E i)
def itp (E : List (Nat × Int)) : Nat → Nat → Nat
  | 0, i => i
  | s + 1, i => itp E s (par E i)
theorem itp_succ (E : List (Nat × Int)) : ∀ s i, itp E (s + 1) i = par E (itp E s i)
  | 0, i => rfl
  | s + 1, i => itp_succ E s (par E i)
theorem pth_len (E : List (Nat × Int)) : ∀ D i, (pth E D i).length = D
  | 0, _ => rfl
  | D + 1, i => by show (pth E D (par E i)).length + 1 = _; rw [pth_len]
theorem pth_at (E : List (Nat × Int)) : ∀ {D s i : Nat}, s < D → (pth E D i)[s]? = some (itp E s i)
  | 0, _, _, h => by omega
  | D + 1, 0, i, _ => rfl
  | D + 1, s + 1, i, h => by
    show (pth E D (par E i))[s]? = some (itp E s (par E i))
    exact pth_at E (by omega)
theorem PRT.step {E : List (Nat × Int)} (p : PRT S f d Q E) {z : Nat} (hz : z ∈ Q) (hn : z ≠ f) : fm z E = some (par E z : Int) ∧ par E z ∈ Q ∧ z ∈ S.getD (par E z) [] ∧ d z = d (par E z) + 1 := by
  obtain ⟨q, h1, h2, h3, h4⟩ := (p.2 z hn).2 hz
  have e : par E z = q := by unfold par; rw [h1]; simp
  rw [e]
  exact ⟨h1, h2, h3, h4⟩
theorem BQ.dz (b : BQ S f d Q k t) {z : Nat} (hz : z ∈ Q) (h : d z = 0) : z = f := by
  have := b.wk z hz
  rw [h] at this
  exact Eq.symm this
theorem PRT.back {E : List (Nat × Int)} (b : BQ S f d Q k t) (p : PRT S f d Q E) (hu : u ∈ Q) : ∀ {s}, s ≤ d u → itp E s u ∈ Q ∧ d (itp E s u) + s = d u
  | 0, _ => ⟨hu, rfl⟩
  | s + 1, h => by
    obtain ⟨h1, h2⟩ := PRT.back b p hu (s := s) (by omega)
    have hn : itp E s u ≠ f := fun e => by rw [e, b.f0] at h2; omega
    obtain ⟨_, h3, _, h4⟩ := p.step h1 hn
    rw [itp_succ]
    exact ⟨h3, by omega⟩
def rgL (E : List (Nat × Int)) (f D u : Nat) : List Nat := (pth E D u ++ [f]).reverse
theorem rgL_len (E : List (Nat × Int)) (f D u : Nat) : (rgL E f D u).length = D + 1 := by simp [rgL, pth_len]
def RG (S : List (List Nat)) (L : List Nat) : Prop := (∀ c ∈ L, c < S.length) ∧ (∀ (t a b : Nat), L[t]? = some a → L[t + 1]? = some b → b ∈ S.getD a []) ∧ ∀ a b : Nat, L[0]? = some a → L[L.length - 1]? = some b → a ∈ S.getD b []
theorem PRT.ring {E : List (Nat × Int)} (b : BQ S f d Q k t) (p : PRT S f d Q E) (hu : u ∈ Q) (h : f ∈ S.getD u []) : RG S (rgL E f (d u) u) := by
  have hl := rgL_len E f (d u) u
  have at' : ∀ t, t ≤ d u → (rgL E f (d u) u)[t]? = some (itp E (d u - t) u) := fun t ht => by
    unfold rgL
    rw [List.getElem?_reverse (by simp [pth_len]; omega)]
    have e : (pth E (d u) u ++ [f]).length - 1 - t = d u - t := by simp [pth_len]
    rw [e]
    by_cases c : t = 0
    · subst c
      rw [Nat.sub_zero, List.getElem?_append_right (by rw [pth_len]; exact Nat.le_refl _), pth_len, Nat.sub_self]
      obtain ⟨h1, h2⟩ := PRT.back b p hu (s := d u) (Nat.le_refl _)
      rw [b.dz h1 (by omega)]
      rfl
    · rw [List.getElem?_append_left (by rw [pth_len]; omega)]
      exact pth_at E (by omega)
  refine ⟨fun c hc => ?_, fun t x y hx hy => ?_, fun x y hx hy => ?_⟩
  · obtain ⟨t, ht⟩ := List.mem_iff_getElem?.1 hc
    have h3 := (List.getElem?_eq_some_iff.1 ht).1
    rw [at' t (by omega)] at ht
    cases ht
    exact b.lt _ (PRT.back b p hu (by omega)).1
  · have h3 := (List.getElem?_eq_some_iff.1 hy).1
    rw [at' t (by omega)] at hx
    rw [at' (t + 1) (by omega)] at hy
    cases hx; cases hy
    obtain ⟨h1, h2⟩ := PRT.back b p hu (s := d u - (t + 1)) (by omega)
    have hn : itp E (d u - (t + 1)) u ≠ f := fun e => by rw [e, b.f0] at h2; omega
    obtain ⟨_, _, h4, _⟩ := p.step h1 hn
    rw [← itp_succ, show d u - (t + 1) + 1 = d u - t by omega] at h4
    exact h4
  · rw [at' 0 (Nat.zero_le _)] at hx
    rw [hl, Nat.add_sub_cancel, at' (d u) (Nat.le_refl _), Nat.sub_self] at hy
    cases hx; cases hy
    obtain ⟨h1, h2⟩ := PRT.back b p hu (s := d u) (Nat.le_refl _)
    rw [Nat.sub_zero, b.dz h1 (by omega)]
    exact h
def MC (S : List (List Nat)) (n : Nat) (m : Nat) : Prop := (m = 0 ∧ ∀ f s, f < n → ¬ Rw S (s + 1) f f) ∨ ∃ r, m = r + 1 ∧ (∃ f, f < n ∧ Rw S (r + 1) f f) ∧ ∀ f s, f < n → Rw S (s + 1) f f → r ≤ s
theorem MC.uniq {n m m' : Nat} (h : MC S n m) (g : MC S n m') : m = m' := by
  rcases h with ⟨rfl, h⟩ | ⟨r, rfl, ⟨f, h1, h2⟩, h3⟩ <;> rcases g with ⟨rfl, g⟩ | ⟨r', rfl, ⟨f', g1, g2⟩, g3⟩
  · rfl
  · exact absurd g2 (h _ _ g1)
  · exact absurd h2 (g _ _ h1)
  · have := h3 _ _ g1 g2
    have := g3 _ _ h1 h2
    omega
theorem MC.nil : MC S 0 0 := .inl ⟨rfl, fun f s h => absurd h (by omega)⟩
theorem MC.skip {n m : Nat} (h : MC S n m) (g : ∀ s, ¬ Rw S (s + 1) n n) : MC S (n + 1) m := by
  have sp : ∀ {P : Nat → Prop}, (∀ f, f < n → P f) → P n → ∀ f, f < n + 1 → P f := fun h1 h2 f hf => by
    by_cases e : f = n
    · rw [e]; exact h2
    · exact h1 f (by omega)
  rcases h with ⟨rfl, h⟩ | ⟨r, rfl, ⟨f, h1, h2⟩, h3⟩
  · exact .inl ⟨rfl, fun f s hf => sp (P := fun f => ¬ Rw S (s + 1) f f) (fun f hf => h f s hf) (g s) f hf⟩
  · exact .inr ⟨r, rfl, ⟨f, by omega, h2⟩, fun f s hf => sp (P := fun f => Rw S (s + 1) f f → r ≤ s) (fun f hf => h3 f s hf) (fun w => absurd w (g s)) f hf⟩
theorem MC.put {n m r : Nat} (h : MC S n m) (g : CY S n r) : MC S (n + 1) (if m = 0 ∨ r + 1 < m then r + 1 else m) := by
  have sp : ∀ {P : Nat → Prop}, (∀ f, f < n → P f) → P n → ∀ f, f < n + 1 → P f := fun h1 h2 f hf => by
    by_cases e : f = n
    · rw [e]; exact h2
    · exact h1 f (by omega)
  rcases h with ⟨rfl, h⟩ | ⟨q, rfl, ⟨f, h1, h2⟩, h3⟩
  · rw [if_pos (.inl rfl)]
    exact .inr ⟨r, rfl, ⟨n, by omega, g.1⟩, fun f s hf => sp (P := fun f => Rw S (s + 1) f f → r ≤ s) (fun f hf w => absurd w (h f s hf)) (g.2 s) f hf⟩
  · by_cases c : r + 1 < q + 1
    · rw [if_pos (.inr c)]
      exact .inr ⟨r, rfl, ⟨n, by omega, g.1⟩, fun f s hf => sp (P := fun f => Rw S (s + 1) f f → r ≤ s) (fun f hf w => Nat.le_trans (by omega) (h3 f s hf w)) (g.2 s) f hf⟩
    · rw [if_neg (by omega)]
      exact .inr ⟨q, rfl, ⟨f, by omega, h2⟩, fun f s hf => sp (P := fun f => Rw S (s + 1) f f → q ≤ s) (fun f hf => h3 f s hf) (fun w => Nat.le_trans (by omega) (g.2 s w)) f hf⟩
end
end Go.Proofs.Ytljgfdamdcikgaa.Ev
set_option linter.unusedVariables false
set_option linter.unusedSimpArgs false
namespace Go.Proofs.Ytljgfdamdcikgaa.Ev
open Go Go.AEv
attribute [local simp] evFunc initS evOps_c evTrim_c evSkip_c evExit_c evRet_c evSeq_c evCond_c evBlock_c evDraw_c runOps_n runOps_c exec_n exec_g pure1_c act AOpd.ev T.get T.set T.put evBin evUn forceT_eq forceV_eq forceL_eq evRess evRes one keep runFP_n runFP_c app_none AV.flats AV.flat came_some List.getElem?_cons_zero List.getElem?_cons_succ beqT wrapI idxI tdivI tmodI decT decF ibT ibF inT inF evScope_c if_pos if_neg Cm_some thenW_n thenW_e thenW_r blkW_n blkW_e blkW_r goI kn putAt AV.cells fillA loadA takeA mk Eff.isAll Eff.isNone Eff.commutes Eff.spares okPair apart eqAgg fits LK.fits allEq aveq eqk mmA
theorem W.loop {tbl : Nat → Option CFunc} {I : CallF} {live : List Path} {c : CCode} {s : T} {h : Heap} {Q : PQ} (x : W tbl I (.trim live c) s h (thenW tbl I (.loop live c) Q)) : W tbl I (.loop live c) s h Q := by
  obtain ⟨e, s1, h1, ⟨n, r⟩, q⟩ := x
  cases e with
  | normal =>
    obtain ⟨e2, s2, h2, r2, q2⟩ := q
    exact ⟨e2, s2, h2, Runs.loop_next ⟨n, r⟩ r2, q2⟩
  | exit i => exact ⟨_, s1, h1, Runs.loop_out ⟨n, r⟩ (by simp), q⟩
  | ret => exact ⟨_, s1, h1, Runs.loop_out ⟨n, r⟩ (by simp), q⟩
theorem gD_some {L : List Nat} {t : Nat} (h : t < L.length) : L[t]? = some (L.getD t 0) := by
  rw [List.getD_eq_getElem?_getD, List.getElem?_eq_getElem h]; rfl
theorem gn_app (L : List Nat) (c : Nat) : gn (L ++ [c]) = gn L ++ [G c] := by simp [gn]
section
variable {S : List (List Nat)} {p f : Nat}
structure RM (h0 : Heap) (E : List (Nat × Int)) (xq : AV) (U : List Nat) (h : Heap) : Prop where
  kf : Kp (fun _ => False) (frameOf h0) h
  gm : h.get h0.size = .map (mv E)
  lq : ∃ b, xq = .slice b 0 U.length U.length ∧ h.get b = .cells 1 U.length (gn U) ∧ h0.size < b
theorem frS (h : Heap) : (frameOf h).size = h.size := by simp [frameOf, Heap.size]
theorem RM.put {h0 h : Heap} {E : List (Nat × Int)} {xq : AV} {U : List Nat} (r : RM h0 E xq U h) (c : Nat) (z : Int) : ∃ H, Eff.app (.mput h0.size (mv (pm c z E))) h = some H ∧ RM h0 (pm c z E) xq U H := by
  have hN : h.N = h0.size := r.kf.N
  have blt := get_lt r.gm (by simp)
  refine ⟨_, mput_gen h h0.size _ _ (by omega) r.gm, r.kf.updn _ _ (by omega) (by rw [frS]; omega), upd_same _ _ _ (by omega) blt, ?_⟩
  obtain ⟨b, e1, e2, e3⟩ := r.lq
  exact ⟨b, e1, by rw [upd_ne _ _ _ _ (by omega) (by omega)]; exact e2, e3⟩
theorem RM.push {h0 h : Heap} {E : List (Nat × Int)} {xq : AV} {U : List Nat} (k0 : Nat) (r : RM h0 E xq U h) (c : Nat) (hn : U.length ≤ 1000) :
    ∃ x1 e H, appA (h.plus [.cells 1 1 [G c]]) k0 none 1 8 1 [G c] xq = some (x1, e) ∧ Eff.app e (h.plus [.cells 1 1 [G c]]) = some H ∧ RM h0 E x1 (U ++ [c]) H := by
  have hN : h.N = h0.size := r.kf.N
  obtain ⟨b, rfl, e2, e3⟩ := r.lq
  have g2 := plus_keep [.cells 1 1 [G (c : Int)]] e2 (by simp)
  have hN' : (h.plus [.cells 1 1 [G (c : Int)]]).N ≤ b := by rw [plus_N]; omega
  have x := ext_gen (h.plus [.cells 1 1 [G (c : Int)]]) b U.length 1 (gn U) [G c] hN' g2 (gn_len U)
  have blt := get_lt e2 (by simp)
  refine ⟨.slice b 0 (U.length + 1) (U.length + 1), .ext b U.length 1 [G c], _, ?_, x, (r.kf.trans (Kp.plus _ _)).updn _ _ hN' (by rw [frS]; omega), ?_, b, by simp, ?_, e3⟩
  · simp only [appA, Nat.mul_one, Nat.one_mul]
    rw [if_neg (by decide), if_pos ⟨trivial, by simp, by omega⟩]
  · rw [upd_ne _ _ _ _ hN' (by omega)]; exact plus_keep _ r.gm (by simp)
  · rw [upd_same _ _ _ hN' (by rw [plus_size]; omega), gn_app]
    simp [gn_len]
structure RB7 (S : List (List Nat)) (f : Nat) (h0 : Heap) (k t : Nat) (E : List (Nat × Int)) (xq : AV) (U : List Nat) (d : Nat → Nat) (h : Heap) : Prop where
  bq : BQ S f d U k t
  nf : NF S f U k t
  pr : PRT S f d U E
  rm : RM h0 E xq U h
theorem BQ.du {d : Nat → Nat} {U : List Nat} {k t u : Nat} (b : BQ S f d U k t) (hu : u ∈ U) : d u < S.length := by
  obtain ⟨j, hj⟩ := List.mem_iff_getElem?.1 hu
  have h1 := b.dl j u hj
  have h2 := (List.getElem?_eq_some_iff.1 hj).1
  have := b.len
  omega
theorem c74_l0_ok (J : CallF) {Hb : Heap} {E : List (Nat × Int)} {U : List Nat} {d : Nat → Nat} {k t u bm : Nat} (b : BQ S f d U k t) (pr : PRT S f d U E) (hu : u ∈ U) (gm : Hb.get bm = .map (mv E)) (n1 : S.length ≤ 1000) :
    Tr tbl J c74_l0 (fun s h => ∃ x, NV Hb h x (gn ((pth E (d u) u).take 0)) ∧ s.get [false] = G f ∧ s.get [false, true] = .map bm ∧ s.get [true, true, false] = x ∧ s.get [false, false, true] = G (itp E 0 u)) (.exit 4) (fun s h => ∃ x, NV Hb h x (gn (pth E (d u) u)) ∧ s.get [false] = G f ∧ s.get [true, true, false] = x) := by
  have hd := b.du hu
  refine Tr.rounds (P := fun i s h => ∃ x, NV Hb h x (gn ((pth E (d u) u).take i)) ∧ s.get [false] = G f ∧ s.get [false, true] = .map bm ∧ s.get [true, true, false] = x ∧ s.get [false, false, true] = G (itp E i u)) (M := d u) (fun i hi => ?_) ?_ (by simp) 0 (by omega)
  · refine Tr.w fun s1 H1 hp _ kR => W.trim ?_
    obtain ⟨x, nv, q⟩ := hp
    obtain ⟨a1, a2⟩ := PRT.back b pr hu (s := i) (by omega)
    have hne : itp E i u ≠ f := fun e => by rw [e, b.f0] at a2; omega
    obtain ⟨a3, _, _, _⟩ := pr.step a1 hne
    rw [← itp_succ] at a3
    have fs := find_mv (itp E i u) E
    rw [a3] at fs
    simp only [Option.map_some] at fs
    have hl : (gn ((pth E (d u) u).take i)).length ≤ 1000 := by rw [gn_len, List.length_take]; omega
    obtain ⟨x1, e, H2, q1, q2, nv2, _⟩ := nv.app H1.size 8 (G (itp E i u)) (by omega)
    rw [← gn_app, ← take_s (pth_at E hi)] at nv2
    have ga := mapA_at (nv2.k.at gm (by simp) id)
    have f1 := app1_at H1 (G (itp E i u : Nat))
    have hne' : ¬ (itp E i u : Int) = f := by omega
    clear b pr nv gm a3 a2 a1 hl
    generalize itp E (i + 1) u = j at *
    generalize itp E i u = i0 at *
    generalize mv E = es at *
    generalize gn ((pth E (d u) u).take i) = L0 at *
    refine W.assoc ?_
    refine W.seq (W.chunk ?_)
    simp (disch := first|omega|exact zE rfl|exact zO|exact zL rfl) [c74_o11, zG, q]
    refine W.seq (W.chunk ?_)
    simp (disch := first|omega|exact zE rfl|exact zO|exact zL rfl) [zG, q]
    refine W.seq (W.block ?_)
    refine W.chunk ?_
    simp (disch := first|omega|exact zE rfl|exact zO|exact zL rfl) [c74_o12, zG, q, elems, rdOf, f1, q1, q2]
    refine W.chunk ?_
    simp (disch := first|omega|exact zE rfl|exact zO|exact zL rfl) [c74_o13, zG, q, ga, fs]
    exact kR _ _ ⟨_, nv2, by simp [T.get, q]⟩
  · refine Tr.w fun s1 H1 hp _ kR => W.trim ?_
    obtain ⟨x, nv, q⟩ := hp
    obtain ⟨a1, a2⟩ := PRT.back b pr hu (s := d u) (Nat.le_refl _)
    rw [b.dz a1 (by omega)] at q
    rw [List.take_of_length_le (by rw [pth_len]; exact Nat.le_refl _)] at nv
    clear b pr gm a1 a2
    refine W.assoc ?_
    refine W.seq (W.chunk ?_)
    simp (disch := first|omega|exact zE rfl|exact zO|exact zL rfl) [c74_o11, zG, q]
    refine W.seq (W.chunk ?_)
    simp (disch := first|omega|exact zE rfl|exact zO|exact zL rfl) [zG, q]
    exact kR _ _ ⟨_, nv, by simp [T.get, q]⟩
def FD (S : List (List Nat)) (f : Nat) (h0 : Heap) : SP := fun s h => ∃ x L m, (Kp (fun _ => False) (frameOf h0) h ∧ CY S f m ∧ RG S L ∧ L.length = m + 1 ∧ RV h x (gn L)) ∧ s.get [true, false] = x
def RP (S : List (List Nat)) (p f : Nat) (h0 : Heap) (k u : Nat) (y : AV) (t : Nat) : SP := fun s h => ∃ E xq U d, RB7 S f h0 k t E xq U d h ∧ U[k]? = some u ∧ s.get [] = .ptr p 0 3 ∧ s.get [false] = G f ∧ s.get [false, true] = .map h0.size ∧ s.get [true, true] = xq ∧ s.get [false, false, false] = G k ∧ s.get [true, false, false, false, false] = y ∧ s.get [false, true, false, false, false] = G (S.getD u []).length ∧ s.get [true, true, false, false, false] = G t
set_option maxHeartbeats 1000000 in
theorem c74_b1_n (J : CallF) (os : OkS S) {h0 : Heap} {k u : Nat} {y : AV} (rv : RV (frameOf h0) y (gn (S.getD u []))) {t : Nat} (ht : t < (S.getD u []).length) (hne : (S.getD u []).getD t 0 ≠ f) :
    Tr tbl J (.trim [[], [false], [false, true], [true, true], [false, false, false], [true, false, false, false, false], [false, true, false, false, false], [true, true, false, false, false]] c74_b1) (RP S p f h0 k u y t) .normal (RP S p f h0 k u y (t + 1)) := by
  have l1 := os.len u
  have n1 := os.n
  have ec := gn_at ht
  have ec' := getI ec
  have cc : (S.getD u [])[t]? = some ((S.getD u []).getD t 0) := gD_some ht
  have ny : gn (S.getD u []) ≠ [] := fun e => by rw [e] at ec; simp at ec
  obtain ⟨_, e⟩ | ⟨b, w, rfl, gy⟩ := rv
  · exact absurd e ny
  rw [gn_len]
  refine Tr.w fun s1 H1 hp R kR => W.trim ?_
  obtain ⟨E, xq, U, d, rb, hu, q⟩ := hp
  have gyH := rb.rm.kf.at gy (by simp) id
  have ga := mapA_at rb.rm.gm
  have uU := rb.bq.uQ hu
  have hkU := (List.getElem?_eq_some_iff.1 hu).1
  have fs := find_mv ((S.getD u []).getD t 0) E
  have hne' : ¬ (((S.getD u []).getD t 0 : Nat) : Int) = f := by omega
  have nf2 := rb.nf.skip hu cc hne
  dsimp only [RP] at kR
  by_cases hQ : (S.getD u []).getD t 0 ∈ U
  · obtain ⟨pq, a1, _⟩ := (rb.pr.2 _ hne).2 hQ
    rw [a1] at fs
    simp only [Option.map_some] at fs
    have rb2 : RB7 S f h0 k (t + 1) E xq U d H1 := ⟨rb.bq.old hu cc hQ, nf2, rb.pr, rb.rm⟩
    clear rb nf2 a1
    generalize (S.getD u []).getD t 0 = c at *
    generalize gn (S.getD u []) = L at *
    generalize hnl : (S.getD u []).length = nl at *
    generalize mv E = es at *
    refine W.seq (W.chunk ?_)
    simp (disch := first|omega|exact zE rfl|exact zO|exact zL rfl) [c74_o6, zG, q]
    refine W.seq (W.chunk ?_)
    simp (disch := first|omega|exact zE rfl|exact zO|exact zL rfl) [zG, q]
    refine W.seq (W.block ?_)
    refine W.seq (W.chunk ?_)
    simp (disch := first|omega|exact zE rfl|exact zO|exact zL rfl) [c74_o7, zG, q, gyH, ec, ec']
    refine W.assoc ?_
    refine W.seq (W.chunk ?_)
    simp (disch := first|omega|exact zE rfl|exact zO|exact zL rfl) [c74_o8, zG, q]
    refine W.seq (W.cond (v := false) (by simp (disch := first|omega|exact zE rfl|exact zO|exact zL rfl) [zG, q]) ?_)
    simp only [if_true, if_false, Bool.false_eq_true]
    refine W.skip ?_
    try simp only [zW, if_true]
    refine W.seq (W.chunk ?_)
    simp (disch := first|omega|exact zE rfl|exact zO|exact zL rfl) [c74_o17, zG, q, ga, fs]
    refine W.seq (W.chunk ?_)
    simp (disch := first|omega|exact zE rfl|exact zO|exact zL rfl) [c74_o18, zG, q]
    refine W.chunk ?_
    simp (disch := first|omega|exact zE rfl|exact zO|exact zL rfl) [c74_o19, c74_o20, zG, q]
    refine W.chunk ?_
    simp (disch := first|omega|exact zE rfl|exact zO|exact zL rfl) [c74_o21, zG, q]
    exact kR _ _ ⟨_, _, _, _, rb2, hu, by simp [T.get, q]⟩
  · have a1 := (rb.pr.2 _ hne).1 hQ
    rw [a1] at fs
    simp only [Option.map_none] at fs
    have f1 := put_mv ((S.getD u []).getD t 0) (u : Int) E
    obtain ⟨H2, p1, rm2⟩ := rb.rm.put ((S.getD u []).getD t 0) (u : Int)
    have hU := rb.bq.len
    obtain ⟨x1, e, H3, q1, q2, rm3⟩ := rm2.push H2.size ((S.getD u []).getD t 0) (by omega)
    have rb2 : RB7 S f h0 k (t + 1) _ x1 (U ++ [(S.getD u []).getD t 0]) _ H3 := ⟨rb.bq.new os.lt hu cc hQ, nf2.push hkU _, rb.pr.new uU rb.bq.fQ (gD_mem ht) hQ, rm3⟩
    have hu2 : (U ++ [(S.getD u []).getD t 0])[k]? = some u := by rw [List.getElem?_append_left hkU]; exact hu
    have ap := app1_at H2 (G ((S.getD u []).getD t 0 : Nat))
    obtain ⟨bq', rfl, gq, _⟩ := rb.rm.lq
    have eu : (gn U)[k]? = some (G u) := by rw [gnm, hu]; rfl
    have eu' := getI eu
    have lU : (gn U).length = U.length := gn_len U
    clear rb nf2 a1 rm2 rm3 hQ
    generalize (S.getD u []).getD t 0 = c at *
    generalize gn (S.getD u []) = L at *
    generalize hnl : (S.getD u []).length = nl at *
    generalize mv (pm c (u : Int) E) = es2 at *
    generalize mv E = es at *
    generalize gn U = gU at *
    generalize U.length = lu at *
    refine W.seq (W.chunk ?_)
    simp (disch := first|omega|exact zE rfl|exact zO|exact zL rfl) [c74_o6, zG, q]
    refine W.seq (W.chunk ?_)
    simp (disch := first|omega|exact zE rfl|exact zO|exact zL rfl) [zG, q]
    refine W.seq (W.block ?_)
    refine W.seq (W.chunk ?_)
    simp (disch := first|omega|exact zE rfl|exact zO|exact zL rfl) [c74_o7, zG, q, gyH, ec, ec']
    refine W.assoc ?_
    refine W.seq (W.chunk ?_)
    simp (disch := first|omega|exact zE rfl|exact zO|exact zL rfl) [c74_o8, zG, q]
    refine W.seq (W.cond (v := false) (by simp (disch := first|omega|exact zE rfl|exact zO|exact zL rfl) [zG, q]) ?_)
    simp only [if_true, if_false, Bool.false_eq_true]
    refine W.skip ?_
    try simp only [zW, if_true]
    refine W.seq (W.chunk ?_)
    simp (disch := first|omega|exact zE rfl|exact zO|exact zL rfl) [c74_o17, zG, q, ga, fs]
    refine W.seq (W.chunk ?_)
    simp (disch := first|omega|exact zE rfl|exact zO|exact zL rfl) [c74_o18, zG, q]
    refine W.cond (v := true) (by simp (disch := first|omega|exact zE rfl|exact zO|exact zL rfl) [zG, q]) ?_
    simp only [if_true, if_false, Bool.false_eq_true]
    refine W.seq (W.chunk ?_)
    simp (disch := first|omega|exact zE rfl|exact zO|exact zL rfl) [c74_o19, zG, q, gq, eu, eu', lU, ga, f1, p1]
    refine W.chunk ?_
    simp (disch := first|omega|exact zE rfl|exact zO|exact zL rfl) [c74_o20, zG, q, elems, rdOf, ap, q1, q2]
    refine W.chunk ?_
    simp (disch := first|omega|exact zE rfl|exact zO|exact zL rfl) [c74_o21, zG, q]
    exact kR _ _ ⟨_, _, _, _, rb2, hu2, by simp [T.get, q]⟩
set_option maxHeartbeats 1000000 in
theorem c74_b1_r (J : CallF) (h94 : ∀ a h, J 94 a h = none) (os : OkS S) {h0 : Heap} {k u : Nat} {y : AV} (rv : RV (frameOf h0) y (gn (S.getD u []))) {t : Nat} (ht : t < (S.getD u []).length) (he : (S.getD u []).getD t 0 = f) :
    Tr tbl J (.trim [[], [false], [false, true], [true, true], [false, false, false], [true, false, false, false, false], [false, true, false, false, false], [true, true, false, false, false]] c74_b1) (RP S p f h0 k u y t) .ret (FD S f h0) := by
  have l1 := os.len u
  have n1 := os.n
  have ec := gn_at ht
  have fm := gD_mem ht
  rw [he] at ec fm
  have ec' := getI ec
  have ny : gn (S.getD u []) ≠ [] := fun e => by rw [e] at ec; simp at ec
  obtain ⟨_, e⟩ | ⟨b, w, rfl, gy⟩ := rv
  · exact absurd e ny
  rw [gn_len]
  refine Tr.w fun s1 H1 hp R kR => W.trim ?_
  obtain ⟨E, xq, U, d, rb, hu, q⟩ := hp
  have gyH := rb.rm.kf.at gy (by simp) id
  have uU := rb.bq.uQ hu
  have hd := rb.bq.du uU
  have hkU := (List.getElem?_eq_some_iff.1 hu).1
  have l0 := c74_l0_ok J rb.bq rb.pr uU rb.rm.gm n1
  have hN0 : H1.N = h0.size := rb.rm.kf.N
  obtain ⟨bq', rfl, gq, _⟩ := rb.rm.lq
  have eu : (gn U)[k]? = some (G u) := by rw [gnm, hu]; rfl
  have eu' := getI eu
  have lU : (gn U).length = U.length := gn_len U
  have cy := rb.bq.found rb.nf hu fm
  have rg := PRT.ring rb.bq rb.pr uU fm
  have rl := rgL_len E f (d u) u
  have ex : ∃ x, NV H1 H1 x [] ∧ AV.nils = x := ⟨.nils, NV.nil H1, rfl⟩
  have lp := pth_len E (d u) u
  have post : ∀ H2 x, NV H1 H2 x (gn (pth E (d u) u)) → ∃ b1 e H3, appA (H2.plus [.cells 1 1 [G f]]) H2.size none 1 8 1 [G f] x = some (.slice b1 0 (d u + 1) (d u + 1), e) ∧ Eff.app e (H2.plus [.cells 1 1 [G f]]) = some H3 ∧
      ∃ H4, H3.N ≤ b1 ∧ Kp (fun _ => False) (frameOf h0) H4 ∧ RV H4 (.slice b1 0 (d u + 1) (d u + 1)) (gn (rgL E f (d u) u)) ∧ (⟨H3.lo, H3.N, H4.own⟩ : Heap) = H4 ∧ CallsTo tbl J 94 [.slice b1 0 (d u + 1) (d u + 1)] H3 (.tup [], H4.own, true) := fun H2 x nv => by
    obtain ⟨x1, e, H3, q1, q2, nv2, _⟩ := nv.app H2.size 8 (G f) (by rw [gn_len, lp]; omega)
    rw [← gn_app] at nv2
    have lz : (gn (pth E (d u) u ++ [f])).length = d u + 1 := by rw [gn_len, List.length_append, lp]; rfl
    obtain ⟨_, e0⟩ | ⟨b1, rfl, g1, hN⟩ := nv2.l
    · rw [e0] at lz; simp at lz
    rw [lz] at q1 g1
    have hb := nv2.x0 b1 rfl
    have lz' : (pth E (d u) u ++ [f]).length = d u + 1 := by rw [List.length_append, lp]; rfl
    obtain ⟨H4, ⟨k4, g4⟩, call⟩ := c94_ok (w := d u + 1) J h94 hN g1 (by rw [lz']; omega) rfl
    rw [lz'] at call
    have kk : Kp (fun _ => False) (frameOf h0) H4 := (rb.rm.kf.trans nv2.k).late k4 fun z hz => by
      have := rb.rm.kf.size
      rw [hz]; omega
    exact ⟨b1, e, H3, q1, q2, H4, hN, kk, .inr ⟨b1, d u + 1, by rw [gn_len, rl], g4⟩, all_eq k4, call⟩
  clear rb
  dsimp only [FD] at kR
  rw [List.take_zero] at l0
  rw [show gn [] = [] from rfl] at l0
  rw [show itp E 0 u = u from rfl] at l0
  generalize gn (S.getD u []) = L at *
  generalize hnl : (S.getD u []).length = nl at *
  generalize gn U = gU at *
  generalize U.length = lu at *
  refine W.seq (W.chunk ?_)
  simp (disch := first|omega|exact zE rfl|exact zO|exact zL rfl) [c74_o6, zG, q]
  refine W.seq (W.chunk ?_)
  simp (disch := first|omega|exact zE rfl|exact zO|exact zL rfl) [zG, q]
  refine W.seq (W.block ?_)
  refine W.seq (W.chunk ?_)
  simp (disch := first|omega|exact zE rfl|exact zO|exact zL rfl) [c74_o7, zG, q, gyH, ec, ec']
  refine W.assoc ?_
  refine W.seq (W.chunk ?_)
  simp (disch := first|omega|exact zE rfl|exact zO|exact zL rfl) [c74_o8, zG, q]
  refine W.seq (W.cond (v := true) (by simp (disch := first|omega|exact zE rfl|exact zO|exact zL rfl) [zG, q]) ?_)
  simp only [if_true, if_false, Bool.false_eq_true]
  refine W.seq (W.chunk ?_)
  simp (disch := first|omega|exact zE rfl|exact zO|exact zL rfl) [c74_o9, zG, q]
  refine W.assoc ?_
  refine W.seq (W.chunk ?_)
  simp (disch := first|omega|exact zE rfl|exact zO|exact zL rfl) [c74_o10, zG, q, gq, eu, eu', lU]
  refine W.seq (W.block ?_)
  refine W.use (l0) (by simp (disch := first|omega|exact zE rfl|exact zO|exact zL rfl) [zG, q, ex]) fun s1 H1 hp => ?_
  obtain ⟨x, nv, q⟩ := hp
  try simp only [zW, if_true]
  obtain ⟨b1, e, H3, q1, q2, H4, hN, kk, rv4, aa, call⟩ := post _ _ nv
  have f1 := app1_at H1 (G f)
  refine W.seq (W.chunk ?_)
  simp (disch := first|omega|exact zE rfl|exact zO|exact zL rfl) [c74_o14, zG, q, elems, rdOf, f1, q1, q2]
  refine W.point (by decide) call ?_
  have k94 := pt_at (I := J) (f := 94) (args := [.slice b1 0 (d u + 1) (d u + 1)]) (h := H3) (x := (.tup [], H4.own, true))
  refine W.seq (W.chunk ?_)
  simp (disch := first|omega|exact zE rfl|exact zO|exact zL rfl) [c74_o15, zG, q, k94]
  refine W.seq (W.chunk ?_)
  simp (disch := first|omega|exact zE rfl|exact zO|exact zL rfl) [c74_o16, zG, q]
  refine W.ret ?_
  try simp only [zW, if_true]
  rw [← aa] at kk rv4
  exact kR _ _ ⟨.slice b1 0 (d u + 1) (d u + 1), rgL E f (d u) u, d u, ⟨kk, cy, rg, rl, rv4⟩, by simp [T.get, q]⟩
end
section
variable {S : List (List Nat)} {p f : Nat}
theorem kids_ne (u : Nat) : af (fun t => decide ((S.getD u []).getD t 0 ≠ f)) 0 (S.getD u []).length = !decide (f ∈ S.getD u []) := by
  rw [af_range, all_range (S.getD u []) 0 fun c => decide (c ≠ f)]
  generalize S.getD u [] = L
  rw [Bool.eq_iff_iff]
  simp only [List.all_eq_true, decide_eq_true_eq, Bool.not_eq_true', decide_eq_false_iff_not]
  exact ⟨fun h hf => h f hf rfl, fun h c hc e => h (e ▸ hc)⟩
theorem c74_l1_ok (J : CallF) (h94 : ∀ a h, J 94 a h = none) (os : OkS S) {h0 : Heap} {k u : Nat} {y : AV} (rv : RV (frameOf h0) y (gn (S.getD u []))) :
    (f ∉ S.getD u [] → Tr tbl J c74_l1 (RP S p f h0 k u y 0) (.exit 2) (RP S p f h0 k u y (S.getD u []).length)) ∧
    (f ∈ S.getD u [] → Tr tbl J c74_l1 (RP S p f h0 k u y 0) .ret (FD S f h0)) := by
  have kn := kids_ne (S := S) (f := f) u
  have fin : Tr tbl J (.trim [[], [false], [false, true], [true, true], [false, false, false], [true, false, false, false, false], [false, true, false, false, false], [true, true, false, false, false]] c74_b1) (RP S p f h0 k u y (S.getD u []).length) (.exit 2) (RP S p f h0 k u y (S.getD u []).length) := by
    have l1 := os.len u
    refine Tr.w fun s1 H1 hp R kR => W.trim ?_
    obtain ⟨E, xq, U, d, rb, hu, q⟩ := hp
    dsimp only [RP] at kR
    clear kn
    generalize hnl : (S.getD u []).length = nl at *
    refine W.seq (W.chunk ?_)
    simp (disch := first|omega|exact zE rfl|exact zO|exact zL rfl) [c74_o6, zG, q]
    refine W.seq (W.chunk ?_)
    simp (disch := first|omega|exact zE rfl|exact zO|exact zL rfl) [zG, q]
    exact kR _ _ ⟨E, xq, U, d, rb, hu, by simp [T.get, q]⟩
  constructor
  · intro h
    rw [decide_eq_false h] at kn
    exact Tr.allT (P := RP S p f h0 k u y) (p := fun t => decide ((S.getD u []).getD t 0 ≠ f)) _ (fun t ht hc => c74_b1_n J os rv ht (of_decide_eq_true hc)) fin (by simp) _ 0 (by omega) kn
  · intro h
    rw [decide_eq_true h] at kn
    exact Tr.allF (P := RP S p f h0 k u y) (p := fun t => decide ((S.getD u []).getD t 0 ≠ f)) _ (fun t ht hc => c74_b1_n J os rv ht (of_decide_eq_true hc)) (fun t ht hc => c74_b1_r J h94 os rv ht (Decidable.not_not.1 (of_decide_eq_false hc))) (by simp) _ 0 (by omega) kn
def OR (S : List (List Nat)) (p f : Nat) (h0 : Heap) (k : Nat) : SP := fun s h => ∃ E xq U d, RB7 S f h0 k 0 E xq U d h ∧ k ≤ U.length ∧ s.get [] = .ptr p 0 3 ∧ s.get [false] = G f ∧ s.get [false, true] = .map h0.size ∧ s.get [true, true] = xq ∧ s.get [false, false, false] = G k
set_option maxHeartbeats 1000000 in
theorem c74_l2_n (J : CallF) (h94 : ∀ a h, J 94 a h = none) (os : OkS S) {h0 : Heap} (lf : LF (frameOf h0) p S) (nc : ∀ s, ¬ Rw S (s + 1) f f) : ∀ n k, k + n = S.length → Tr tbl J c74_l2 (OR S p f h0 k) (.exit 0) (fun s h => True) := by
  have n1 := os.n
  intro n
  induction n with
  | zero =>
    intro k hk
    refine Tr.w fun s1 H1 hp R kR => ?_
    obtain ⟨E, xq, U, d, rb, hkU, q⟩ := hp
    have hU := rb.bq.len
    obtain rfl : k = U.length := by omega
    obtain ⟨bq', rfl, gq, _⟩ := rb.rm.lq
    clear lf nc
    refine W.loop (W.trim ?_)
    refine W.assoc ?_
    refine W.seq (W.chunk ?_)
    simp (disch := first|omega|exact zE rfl|exact zO|exact zL rfl) [c74_o4, zG, q]
    refine W.seq (W.chunk ?_)
    simp (disch := first|omega|exact zE rfl|exact zO|exact zL rfl) [zG, q]
    exact kR _ _ trivial
  | succ n ih =>
    intro k hk
    have ih := ih (k + 1) (by omega)
    refine Tr.w fun s1 H1 hp R kR => ?_
    obtain ⟨E, xq, U, d, rb, hkU, q⟩ := hp
    have hU := rb.bq.len
    by_cases c : k = U.length
    · subst c
      obtain ⟨bq', rfl, gq, _⟩ := rb.rm.lq
      clear lf nc ih
      refine W.loop (W.trim ?_)
      refine W.assoc ?_
      refine W.seq (W.chunk ?_)
      simp (disch := first|omega|exact zE rfl|exact zO|exact zL rfl) [c74_o4, zG, q]
      refine W.seq (W.chunk ?_)
      simp (disch := first|omega|exact zE rfl|exact zO|exact zL rfl) [zG, q]
      exact kR _ _ trivial
    · have hlt : k < U.length := by omega
      have hu : U[k]? = some (U.getD k 0) := gD_some hlt
      generalize U.getD k 0 = u at *
      have uU := rb.bq.uQ hu
      have uS := rb.bq.lt u uU
      have nf : f ∉ S.getD u [] := fun hf => nc _ ((rb.bq.wk u uU).snoc hf)
      obtain ⟨x, mb, nb, rs, e1, e2, e3, e4⟩ := lf
      obtain ⟨y, e5, rv⟩ := e4 u uS
      have l1 := (c74_l1_ok (p := p) (k := k) J h94 os rv).1 nf
      have e1 := rb.rm.kf.at e1 (by simp) id
      have e3 := rb.rm.kf.at e3 (by simp) id
      have e5' := getI e5
      have lrs : u < rs.length := (List.getElem?_eq_some_iff.1 e5).1
      have sy := rv.sl
      rw [gn_len] at sy
      obtain ⟨bq', rfl, gq, _⟩ := rb.rm.lq
      have eu : (gn U)[k]? = some (G u) := by rw [gnm, hu]; rfl
      have eu' := getI eu
      have lU : (gn U).length = U.length := gn_len U
      have ex : ∃ E' xq' U', (∃ d', RB7 S f h0 k 0 E' xq' U' d' H1) ∧ U'[k]? = some u ∧ AV.slice bq' 0 U.length U.length = xq' := ⟨E, _, U, ⟨d, rb⟩, hu, rfl⟩
      unfold RP at l1
      clear e4 nc rb hu
      have post : ∀ s' h', (∃ E' xq' U' d', RB7 S f h0 k (S.getD u []).length E' xq' U' d' h' ∧ U'[k]? = some u ∧ s'.get [] = .ptr p 0 3 ∧ s'.get [false] = G f ∧ s'.get [false, true] = .map h0.size ∧ s'.get [true, true] = xq' ∧ s'.get [false, false, false] = G ((k + 1 : Nat) : Int)) → OR S p f h0 (k + 1) s' h' := fun s' h' ⟨E', xq', U', d', rb', hu', r⟩ =>
        ⟨E', xq', U', d', ⟨rb'.bq.next hu' rfl, rb'.nf.next hu' rfl, rb'.pr, rb'.rm⟩, (List.getElem?_eq_some_iff.1 hu').1, r⟩
      generalize hnl : (S.getD u []).length = nl at *
      generalize gn U = gU at *
      generalize U.length = lu at *
      rcases sy with ⟨rfl, e0⟩ | ⟨b', v', rfl⟩
      all_goals
        try subst e0
        refine W.loop (W.trim ?_)
        refine W.assoc ?_
        refine W.seq (W.chunk ?_)
        simp (disch := first|omega|exact zE rfl|exact zO|exact zL rfl) [c74_o4, zG, q]
        refine W.seq (W.chunk ?_)
        simp (disch := first|omega|exact zE rfl|exact zO|exact zL rfl) [zG, q]
        refine W.seq (W.block ?_)
        refine W.seq (W.chunk ?_)
        simp (disch := first|omega|exact zE rfl|exact zO|exact zL rfl) [-evDraw_c, c74_o5, zG, q, evDraw_0, e1, e3, e5, e5', gq, eu, eu', lU]
        refine W.block ?_
        refine W.use (l1) (by simp (disch := first|omega|exact zE rfl|exact zO|exact zL rfl) [zG, q, ex]) fun s1 H1 hp => ?_
        obtain ⟨E2, xq2, U2, d2, rb2, hu2, q⟩ := hp
        try simp only [zW, if_true]
        refine W.chunk ?_
        simp (disch := first|omega|exact zE rfl|exact zO|exact zL rfl) [c74_o22, zG, q]
        exact W.use ih (post _ _ ⟨E2, xq2, U2, d2, rb2, hu2, by simp [T.get, q]⟩) kR
set_option maxHeartbeats 1000000 in
theorem c74_l2_r (J : CallF) (h94 : ∀ a h, J 94 a h = none) (os : OkS S) {h0 : Heap} (lf : LF (frameOf h0) p S) (nc : ∃ s, Rw S (s + 1) f f) : ∀ n k, k + n = S.length → Tr tbl J c74_l2 (OR S p f h0 k) .ret (FD S f h0) := by
  have n1 := os.n
  intro n
  induction n with
  | zero =>
    intro k hk
    refine Tr.w fun s1 H1 hp R kR => ?_
    obtain ⟨E, xq, U, d, rb, hkU, q⟩ := hp
    have hU := rb.bq.len
    obtain rfl : k = U.length := by omega
    obtain ⟨c, w⟩ := nc
    exact absurd w (rb.bq.none rb.nf c)
  | succ n ih =>
    intro k hk
    have ih := ih (k + 1) (by omega)
    refine Tr.w fun s1 H1 hp R kR => ?_
    obtain ⟨E, xq, U, d, rb, hkU, q⟩ := hp
    have hU := rb.bq.len
    by_cases c : k = U.length
    · subst c
      obtain ⟨c, w⟩ := nc
      exact absurd w (rb.bq.none rb.nf c)
    · have hlt : k < U.length := by omega
      have hu : U[k]? = some (U.getD k 0) := gD_some hlt
      generalize U.getD k 0 = u at *
      have uU := rb.bq.uQ hu
      have uS := rb.bq.lt u uU
      obtain ⟨x, mb, nb, rs, e1, e2, e3, e4⟩ := lf
      obtain ⟨y, e5, rv⟩ := e4 u uS
      have l1 := c74_l1_ok (p := p) (k := k) J h94 os rv (f := f)
      have e1 := rb.rm.kf.at e1 (by simp) id
      have e3 := rb.rm.kf.at e3 (by simp) id
      have e5' := getI e5
      have lrs : u < rs.length := (List.getElem?_eq_some_iff.1 e5).1
      have sy := rv.sl
      rw [gn_len] at sy
      obtain ⟨bq', rfl, gq, _⟩ := rb.rm.lq
      have eu : (gn U)[k]? = some (G u) := by rw [gnm, hu]; rfl
      have eu' := getI eu
      have lU : (gn U).length = U.length := gn_len U
      have ex : ∃ E' xq' U', (∃ d', RB7 S f h0 k 0 E' xq' U' d' H1) ∧ U'[k]? = some u ∧ AV.slice bq' 0 U.length U.length = xq' := ⟨E, _, U, ⟨d, rb⟩, hu, rfl⟩
      unfold RP at l1
      clear e4 nc rb hu
      have post : ∀ s' h', (∃ E' xq' U' d', RB7 S f h0 k (S.getD u []).length E' xq' U' d' h' ∧ U'[k]? = some u ∧ s'.get [] = .ptr p 0 3 ∧ s'.get [false] = G f ∧ s'.get [false, true] = .map h0.size ∧ s'.get [true, true] = xq' ∧ s'.get [false, false, false] = G ((k + 1 : Nat) : Int)) → OR S p f h0 (k + 1) s' h' := fun s' h' ⟨E', xq', U', d', rb', hu', r⟩ =>
        ⟨E', xq', U', d', ⟨rb'.bq.next hu' rfl, rb'.nf.next hu' rfl, rb'.pr, rb'.rm⟩, (List.getElem?_eq_some_iff.1 hu').1, r⟩
      generalize hnl : (S.getD u []).length = nl at *
      generalize gn U = gU at *
      generalize U.length = lu at *
      by_cases hf : f ∈ S.getD u []
      · replace l1 := l1.2 hf
        rcases sy with ⟨rfl, e0⟩ | ⟨b', v', rfl⟩
        all_goals
          try subst e0
          refine W.loop (W.trim ?_)
          refine W.assoc ?_
          refine W.seq (W.chunk ?_)
          simp (disch := first|omega|exact zE rfl|exact zO|exact zL rfl) [c74_o4, zG, q]
          refine W.seq (W.chunk ?_)
          simp (disch := first|omega|exact zE rfl|exact zO|exact zL rfl) [zG, q]
          refine W.seq (W.block ?_)
          refine W.seq (W.chunk ?_)
          simp (disch := first|omega|exact zE rfl|exact zO|exact zL rfl) [-evDraw_c, c74_o5, zG, q, evDraw_0, e1, e3, e5, e5', gq, eu, eu', lU]
          refine W.block ?_
          refine W.use (l1) (by simp (disch := first|omega|exact zE rfl|exact zO|exact zL rfl) [zG, q, ex]) fun s1 H1 hp => ?_
          try simp only [zW, if_true]
          exact kR _ _ hp
      · replace l1 := l1.1 hf
        rcases sy with ⟨rfl, e0⟩ | ⟨b', v', rfl⟩
        all_goals
          try subst e0
          refine W.loop (W.trim ?_)
          refine W.assoc ?_
          refine W.seq (W.chunk ?_)
          simp (disch := first|omega|exact zE rfl|exact zO|exact zL rfl) [c74_o4, zG, q]
          refine W.seq (W.chunk ?_)
          simp (disch := first|omega|exact zE rfl|exact zO|exact zL rfl) [zG, q]
          refine W.seq (W.block ?_)
          refine W.seq (W.chunk ?_)
          simp (disch := first|omega|exact zE rfl|exact zO|exact zL rfl) [-evDraw_c, c74_o5, zG, q, evDraw_0, e1, e3, e5, e5', gq, eu, eu', lU]
          refine W.block ?_
          refine W.use (l1) (by simp (disch := first|omega|exact zE rfl|exact zO|exact zL rfl) [zG, q, ex]) fun s1 H1 hp => ?_
          obtain ⟨E2, xq2, U2, d2, rb2, hu2, q⟩ := hp
          try simp only [zW, if_true]
          refine W.chunk ?_
          simp (disch := first|omega|exact zE rfl|exact zO|exact zL rfl) [c74_o22, zG, q]
          exact W.use ih (post _ _ ⟨E2, xq2, U2, d2, rb2, hu2, by simp [T.get, q]⟩) kR
theorem ring_init {h0 : Heap} (hf : f < S.length) : RB7 S f h0 0 0 [] (.slice (h0.size + 1) 0 1 1) [f] (fun _ => 0) (((frameOf h0).plus [.map []]).plus [.cells 1 1 [G f]]) := by
  have e1 : ((frameOf h0).plus [.map []]).size = h0.size + 1 := by rw [plus_size, frS]; rfl
  exact ⟨BQ.init hf, NF.init, PRT.init, ⟨(Kp.plus _ _).trans (Kp.plus _ _), plus_keep _ (plus_at0 _ _ _ _ (frS h0)) (by simp), h0.size + 1, rfl, plus_at0 _ _ _ _ e1, by omega⟩⟩
def Post74 (S : List (List Nat)) (f : Nat) (h : Heap) (v : AV) (own : List AObj) : Prop := ((∀ s, ¬ Rw S (s + 1) f f) → v = .nils ∧ own = []) ∧ ((∃ s, Rw S (s + 1) f f) → ∃ L m, CY S f m ∧ RG S L ∧ L.length = m + 1 ∧ RV (h.plus own) v (gn L))
theorem c74_ok (J : CallF) (h94 : ∀ a h, J 94 a h = none) (hJ : ∀ a h, J 74 a h = none) (h : Heap) (os : OkS S) (lf : LF h p S) (hf : f < S.length) : ∃ v own, CallsTo tbl J 74 [.ptr p 0 3, G f] h (v, own, false) ∧ Post74 S f h v own := by
  have ini := ring_init (h0 := h) hf
  have ex : ∃ E' U' d', RB7 S f h 0 0 E' (AV.slice (h.size + 1) 0 1 1) U' d' (((frameOf h).plus [.map []]).plus [.cells 1 1 [G f]]) := ⟨_, _, _, ini⟩
  have e1 : ((frameOf h).plus [.map []]).size = h.size + 1 := by rw [plus_size, frS]; rfl
  have e0 := frS h
  by_cases c : ∃ s, Rw S (s + 1) f f
  · have l2 := c74_l2_r J h94 os lf.fr c S.length 0 (by omega)
    unfold OR at l2
    refine Tr.fny (cf := c74) (e := .ret) (s := T.set (T.set .leaf [] (.ptr p 0 3)) [false] (G f)) (by decide) rfl (hJ _ _) rfl rfl (by simp) ?_
    have fin : ∀ h' x L m, (Kp (fun _ => False) (frameOf h) h' ∧ CY S f m ∧ RG S L ∧ L.length = m + 1 ∧ RV h' x (gn L)) → Post74 S f h (one [x]) (if (one [x]).flat then [] else h'.own) := fun h' x L m ⟨k, c1, c2, c3, c4⟩ =>
      ⟨fun n => absurd c (fun ⟨s, w⟩ => n s w), fun _ => ⟨L, m, c1, c2, c3, c4.fr k⟩⟩
    clear ini os lf hf
    refine Tr.w fun s1 H1 hp _ kR => ?_
    obtain ⟨rfl, rfl⟩ := hp
    have q : True := trivial
    refine W.seq (W.chunk ?_)
    simp (disch := first|omega|exact zE rfl|exact zO|exact zL rfl) [c74_o0, zG, q]
    refine W.seq (W.chunk ?_)
    simp (disch := first|omega|exact zE rfl|exact zO|exact zL rfl) [c74_o1, zG, q]
    refine W.seq (W.chunk ?_)
    simp (disch := first|omega|exact zE rfl|exact zO|exact zL rfl) [c74_o2, zG, q, e1]
    refine W.assoc ?_
    refine W.seq (W.chunk ?_)
    simp (disch := first|omega|exact zE rfl|exact zO|exact zL rfl) [c74_o3, zG, q]
    refine W.seq (W.block ?_)
    refine W.use (l2) (by simp (disch := first|omega|exact zE rfl|exact zO|exact zL rfl) [zG, q, ex, e0, e1]) fun s1 H1 hp => ?_
    try simp only [zW, if_true]
    obtain ⟨x, L, m, h1, h2⟩ := hp
    exact kR _ _ ⟨[x], by simp [T.get, c74, evRess, evRes, h2], fin _ x L m h1⟩
  · have l2 := c74_l2_n J h94 os lf.fr (fun s w => c ⟨s, w⟩) S.length 0 (by omega)
    unfold OR at l2
    have := Tr.fnv (tbl := tbl) (I := J) (h := h) (args := [.ptr p 0 3, G f]) (v := .nils) (cf := c74) (e := .ret) (s := T.set (T.set .leaf [] (.ptr p 0 3)) [false] (G f)) (by decide) rfl (hJ _ _) rfl rfl rfl (by simp) (by
      refine Tr.post (Q := (fun s h => s.get [true, false] = .nils)) (fun s h q => by simp [c74, q]) ?_
      clear ini os lf hf
      refine Tr.w fun s1 H1 hp _ kR => ?_
      obtain ⟨rfl, rfl⟩ := hp
      have q : True := trivial
      refine W.seq (W.chunk ?_)
      simp (disch := first|omega|exact zE rfl|exact zO|exact zL rfl) [c74_o0, zG, q]
      refine W.seq (W.chunk ?_)
      simp (disch := first|omega|exact zE rfl|exact zO|exact zL rfl) [c74_o1, zG, q]
      refine W.seq (W.chunk ?_)
      simp (disch := first|omega|exact zE rfl|exact zO|exact zL rfl) [c74_o2, zG, q, e1]
      refine W.assoc ?_
      refine W.seq (W.chunk ?_)
      simp (disch := first|omega|exact zE rfl|exact zO|exact zL rfl) [c74_o3, zG, q]
      refine W.seq (W.block ?_)
      refine W.use (l2) (by simp (disch := first|omega|exact zE rfl|exact zO|exact zL rfl) [zG, q, ex, e0, e1]) fun s1 H1 hp => ?_
      obtain _ := hp
      try simp only [zW, if_true]
      refine W.seq (W.chunk ?_)
      simp (disch := first|omega|exact zE rfl|exact zO|exact zL rfl) [c74_o23, zG, q]
      refine W.ret ?_
      try simp only [zW, if_true]
      exact kR _ _ (by simp [T.get]))
    exact ⟨_, _, this, fun _ => ⟨rfl, rfl⟩, fun w => absurd w c⟩
end
structure A74 where
  p : Nat
  f : Nat
  S : List (List Nat)
def Ok74 (b : A74) (h : Heap) : Prop := OkS b.S ∧ LF h b.p b.S ∧ b.f < b.S.length
def Pre74 (b : A74) (args : List AV) (h : Heap) : Prop := Ok74 b h ∧ args = [.ptr b.p 0 3, G b.f]
def Po74 (b : A74) (h : Heap) (v : AV) (own : List AObj) : Prop := Post74 b.S b.f h v own
noncomputable def T53 : CallF := addK tbl T52 74 Pre74 Po74
theorem t53 : Sound Go.Proofs.Try.prog T53 := Sound.addK follows ok t52 (by decide) _ _
abbrev K74 (J : CallF) : Prop := ∀ (h : Heap) (p f : Nat) (S : List (List Nat)), OkS S → LF h p S → f < S.length → ∃ v own, J 74 [.ptr p 0 3, G f] h = some (v, own, false) ∧ Post74 S f h v own
theorem k74 : K74 T53 := fun h p f S os lf hf => by
  obtain ⟨v, own, e, l⟩ := addK_some (Pre := Pre74) (Post := Po74) (fun b args h hp => by
    obtain ⟨⟨h1, h2, h3⟩, rfl⟩ := hp
    exact c74_ok T52 (fun _ _ => by simp (disch := decide) only [T1, T2, T3, T4, T5, T6, T7, T8, T9, T10, T11, T12, T13, T14, T15, T16, T17, T18, T19, T20, T21, T22, T23, T24, T25, T26, T27, T28, T29, T30, T31, T32, T33, T34, T35, T36, T37, T38, T39, T40, T41, T42, T43, T44, T45, T46, T47, T48, T49, T50, T51, T52, addI_ne, addX_ne, addV_ne, addK_ne]; rfl) (fun _ _ => by simp (disch := decide) only [T1, T2, T3, T4, T5, T6, T7, T8, T9, T10, T11, T12, T13, T14, T15, T16, T17, T18, T19, T20, T21, T22, T23, T24, T25, T26, T27, T28, T29, T30, T31, T32, T33, T34, T35, T36, T37, T38, T39, T40, T41, T42, T43, T44, T45, T46, T47, T48, T49, T50, T51, T52, addI_ne, addX_ne, addV_ne, addK_ne]; rfl) h h1 h2 h3) ⟨p, f, S⟩ _ h ⟨⟨os, lf, hf⟩, rfl⟩
  exact ⟨v, own, e, l⟩
section
variable {S R : List (List Nat)} {p : Nat}
structure EB (S : List (List Nat)) (Hb : Heap) (i : Nat) (x : AV) (L : List Nat) (h : Heap) : Prop where
  kf : Kp (fun _ => False) Hb h
  mc : MC S i L.length
  xv : (x = .nils ∧ L = []) ∨ ∃ b v, x = .slice b 0 L.length v ∧ h.get b = .cells 1 v (gn L) ∧ L ≠ [] ∧ RG S L
def EP (S : List (List Nat)) (p : Nat) (Hb : Heap) (i : Nat) : SP := fun s h => ∃ x L, EB S Hb i x L h ∧ s.get [true, true] = .ptr p 0 3 ∧ s.get [false, false, false] = x ∧ s.get [true, false, true, true] = G S.length ∧ s.get [false, true, true, true] = G i
theorem MC.le {n m : Nat} (h : MC S n m) (os : OkS S) (hn : n ≤ S.length) : m ≤ S.length := by
  rcases h with ⟨rfl, _⟩ | ⟨r, rfl, ⟨f, h1, h2⟩, h3⟩
  · omega
  · have hf : f < S.length := by omega
    apply Decidable.byContradiction
    intro c
    have key : ∃ g : Nat → Nat, g 0 = f ∧ ∀ t, t < r + 1 → Rw S t f (g t) ∧ g t < S.length ∧ Rw S (r + 1 - t) (g t) f := by
      have gen : ∀ k i, Rw S k i f → ∃ g : Nat → Nat, g 0 = i ∧ ∀ t, t ≤ k → Rw S t i (g t) ∧ Rw S (k - t) (g t) f := fun k => by
        induction k with
        | zero =>
          intro i w
          exact ⟨fun _ => i, rfl, fun t ht => by
            obtain rfl : t = 0 := by omega
            exact ⟨rfl, w⟩⟩
        | succ k ih =>
          intro i w
          obtain ⟨c, c1, c2⟩ := id w
          obtain ⟨g, g1, g2⟩ := ih c c2
          refine ⟨fun t => if t = 0 then i else g (t - 1), rfl, fun t ht => ?_⟩
          cases t with
          | zero => exact ⟨rfl, w⟩
          | succ t =>
            obtain ⟨a1, a2⟩ := g2 t (by omega)
            show Rw S (t + 1) i (g t) ∧ Rw S (k + 1 - (t + 1)) (g t) f
            rw [show k + 1 - (t + 1) = k - t by omega]
            exact ⟨⟨c, c1, a1⟩, a2⟩
      obtain ⟨g, g1, g2⟩ := gen (r + 1) f h2
      exact ⟨g, g1, fun t ht => ⟨(g2 t (by omega)).1, (g2 t (by omega)).1.lt os.lt hf, (g2 t (by omega)).2⟩⟩
    obtain ⟨g, g1, g2⟩ := key
    obtain ⟨a, b, ab, bn, e⟩ := pigeon S.length g (fun t ht => (g2 t (by omega)).2.1)
    have w1 := (g2 a (by omega)).1
    have w2 := (g2 b (by omega)).2.2
    rw [← e] at w2
    have w3 := w1.add w2
    rw [show a + (r + 1 - b) = (a + (r - b)) + 1 by omega] at w3
    have := h3 f (a + (r - b)) h1 w3
    omega
set_option maxHeartbeats 1000000 in
theorem c36_b0_ok (J : CallF) (k74 : K74 J) (os : OkS S) {Hb : Heap} (lf : LF Hb p S) {i : Nat} (hi : i < S.length) :
    Tr tbl J (.trim [[true, true], [false, false, false], [true, false, true, true], [false, true, true, true]] c36_b0) (EP S p Hb i) .normal (EP S p Hb (i + 1)) := by
  have n1 := os.n
  refine Tr.w fun s1 H1 hp R kR => W.trim ?_
  obtain ⟨x, L, eb, q⟩ := hp
  dsimp only [EP] at kR
  obtain ⟨v, own, e74, l74⟩ := k74 H1 p i S os (lf.kp eb.kf) hi
  have mle := eb.mc.le os (by omega)
  by_cases c : ∃ s, Rw S (s + 1) i i
  · obtain ⟨L2, m, cy, rg, rl, rv⟩ := l74.2 c
    have mc2 := eb.mc.put cy
    obtain ⟨Z, hZ⟩ : ∃ Z, H1.plus own = Z := ⟨_, rfl⟩
    have kZ : Kp (fun _ => False) H1 Z := by rw [← hZ]; exact Kp.plus _ _
    rw [hZ] at rv
    have kk := eb.kf.trans kZ
    have ne2 : L2 ≠ [] := by intro e; rw [e] at rl; cases rl
    obtain ⟨_, e⟩ | ⟨b2, v2, rfl, g2⟩ := rv
    · exact absurd (by simpa [gn] using e) ne2
    rw [gn_len, rl] at e74
    have mc3 := mc2.le os (by omega)
    have fin : ∀ b : Bool, b = decide (L.length = 0 ∨ m + 1 < L.length) → b = true → EB S Hb (i + 1) (.slice b2 0 (m + 1) v2) L2 Z := fun b e1 e2 => by
      rw [if_pos (by rw [e2] at e1; exact of_decide_eq_true e1.symm), ← rl] at mc2
      exact ⟨kk, mc2, .inr ⟨b2, v2, by rw [rl], g2, ne2, rg⟩⟩
    have fin2 : ¬ (L.length = 0 ∨ m + 1 < L.length) → EB S Hb (i + 1) x L Z := fun e => by
      rw [if_neg e] at mc2
      refine ⟨kk, mc2, ?_⟩
      rcases eb.xv with h | ⟨b, v, h1, h2, h3⟩
      · exact .inl h
      · exact .inr ⟨b, v, h1, kZ.at h2 (by simp) id, h3⟩
    by_cases c2 : m + 1 < L.length
    · have eb2 := fin true (by rw [decide_eq_true (.inr c2)]) rfl
      obtain ⟨rfl, rfl⟩ | ⟨b1, v1, rfl, g1, ne1, rg1⟩ := eb.xv
      · simp at c2
      · clear eb fin fin2 mc2 lf l74 cy mc3
        generalize L.length = lL at *
        generalize S.length = n at *
        refine W.seq (W.chunk ?_)
        simp (disch := first|omega|exact zE rfl|exact zO|exact zL rfl) [c36_o6, zG, q]
        refine W.seq (W.chunk ?_)
        simp (disch := first|omega|exact zE rfl|exact zO|exact zL rfl) [zG, q]
        refine W.seq (W.block ?_)
        refine W.seq (W.chunk ?_)
        simp (disch := first|omega|exact zE rfl|exact zO|exact zL rfl) [c36_o7, zG, q]
        refine W.seq (W.chunk ?_)
        simp (disch := first|omega|exact zE rfl|exact zO|exact zL rfl) [c36_o8, zG, q, e74, app_if, app_if', hZ]
        refine W.seq (W.chunk ?_)
        simp (disch := first|omega|exact zE rfl|exact zO|exact zL rfl) [c36_o9, zG, q]
        refine W.chunk ?_
        simp (disch := first|omega|exact zE rfl|exact zO|exact zL rfl) [c36_o10, zG, q]
        refine W.chunk ?_
        simp (disch := first|omega|exact zE rfl|exact zO|exact zL rfl) [c36_o11, zG, q]
        exact kR _ _ ⟨_, _, eb2, by simp [T.get, q]⟩
    · obtain ⟨rfl, rfl⟩ | ⟨b1, v1, rfl, g1, ne1, rg1⟩ := eb.xv
      · have eb2 := fin true (by rw [decide_eq_true (.inl rfl)]) rfl
        clear eb fin fin2 mc2 lf l74 cy mc3
        generalize S.length = n at *
        refine W.seq (W.chunk ?_)
        simp (disch := first|omega|exact zE rfl|exact zO|exact zL rfl) [c36_o6, zG, q]
        refine W.seq (W.chunk ?_)
        simp (disch := first|omega|exact zE rfl|exact zO|exact zL rfl) [zG, q]
        refine W.seq (W.block ?_)
        refine W.seq (W.chunk ?_)
        simp (disch := first|omega|exact zE rfl|exact zO|exact zL rfl) [c36_o7, zG, q]
        refine W.seq (W.chunk ?_)
        simp (disch := first|omega|exact zE rfl|exact zO|exact zL rfl) [c36_o8, zG, q, e74, app_if, app_if', hZ]
        refine W.seq (W.chunk ?_)
        simp (disch := first|omega|exact zE rfl|exact zO|exact zL rfl) [c36_o9, zG, q]
        refine W.chunk ?_
        simp (disch := first|omega|exact zE rfl|exact zO|exact zL rfl) [c36_o10, zG, q]
        refine W.chunk ?_
        simp (disch := first|omega|exact zE rfl|exact zO|exact zL rfl) [c36_o11, zG, q]
        exact kR _ _ ⟨_, _, eb2, by simp [T.get, q]⟩
      · have nl : L.length ≠ 0 := fun e => ne1 (List.length_eq_zero_iff.1 e)
        have eb2 := fin2 (by omega)
        clear eb fin fin2 mc2 lf l74 cy mc3
        generalize hlL : L.length = lL at *
        generalize S.length = n at *
        refine W.seq (W.chunk ?_)
        simp (disch := first|omega|exact zE rfl|exact zO|exact zL rfl) [c36_o6, zG, q]
        refine W.seq (W.chunk ?_)
        simp (disch := first|omega|exact zE rfl|exact zO|exact zL rfl) [zG, q]
        refine W.seq (W.block ?_)
        refine W.seq (W.chunk ?_)
        simp (disch := first|omega|exact zE rfl|exact zO|exact zL rfl) [c36_o7, zG, q]
        refine W.seq (W.chunk ?_)
        simp (disch := first|omega|exact zE rfl|exact zO|exact zL rfl) [c36_o8, zG, q, e74, app_if, app_if', hZ]
        refine W.seq (W.chunk ?_)
        simp (disch := first|omega|exact zE rfl|exact zO|exact zL rfl) [c36_o9, zG, q]
        refine W.chunk ?_
        simp (disch := first|omega|exact zE rfl|exact zO|exact zL rfl) [c36_o10, zG, q]
        refine W.chunk ?_
        simp (disch := first|omega|exact zE rfl|exact zO|exact zL rfl) [c36_o11, zG, q]
        exact kR _ _ ⟨_, _, eb2, by simp [T.get, q]⟩
  · have nc : ∀ s, ¬ Rw S (s + 1) i i := fun s w => c ⟨s, w⟩
    obtain ⟨rfl, rfl⟩ := l74.1 nc
    have eb2 : EB S Hb (i + 1) x L H1 := ⟨eb.kf, eb.mc.skip nc, eb.xv⟩
    have hZ : H1.plus [] = H1 := by simp [Heap.plus]
    clear eb l74 lf c nc
    generalize S.length = n at *
    refine W.seq (W.chunk ?_)
    simp (disch := first|omega|exact zE rfl|exact zO|exact zL rfl) [c36_o6, zG, q]
    refine W.seq (W.chunk ?_)
    simp (disch := first|omega|exact zE rfl|exact zO|exact zL rfl) [zG, q]
    refine W.seq (W.block ?_)
    refine W.seq (W.chunk ?_)
    simp (disch := first|omega|exact zE rfl|exact zO|exact zL rfl) [c36_o7, zG, q]
    refine W.seq (W.chunk ?_)
    simp (disch := first|omega|exact zE rfl|exact zO|exact zL rfl) [c36_o8, zG, q, e74, app_if, app_if', hZ]
    refine W.seq (W.chunk ?_)
    simp (disch := first|omega|exact zE rfl|exact zO|exact zL rfl) [c36_o9, zG, q]
    refine W.chunk ?_
    simp (disch := first|omega|exact zE rfl|exact zO|exact zL rfl) [c36_o10, zG, q]
    refine W.chunk ?_
    simp (disch := first|omega|exact zE rfl|exact zO|exact zL rfl) [c36_o11, zG, q]
    exact kR _ _ ⟨_, _, eb2, by simp [T.get, q]⟩
theorem c36_l0_ok (J : CallF) (k74 : K74 J) (os : OkS S) {Hb : Heap} (lf : LF Hb p S) : Tr tbl J c36_l0 (EP S p Hb 0) (.exit 0) (fun s h => ∃ x L, EB S Hb S.length x L h ∧ s.get [true, true] = .ptr p 0 3 ∧ s.get [false, false, false] = x) := by
  refine Tr.rounds (P := EP S p Hb) (M := S.length) (fun i hi => c36_b0_ok J k74 os lf hi) ?_ (by simp) 0 (by omega)
  refine Tr.w fun s1 H1 hp R kR => W.trim ?_
  obtain ⟨x, L, eb, q⟩ := hp
  have n1 := os.n
  clear lf
  generalize hnl : S.length = n at *
  refine W.seq (W.chunk ?_)
  simp (disch := first|omega|exact zE rfl|exact zO|exact zL rfl) [c36_o6, zG, q]
  refine W.seq (W.chunk ?_)
  simp (disch := first|omega|exact zE rfl|exact zO|exact zL rfl) [zG, q]
  exact kR _ _ ⟨x, L, eb, by simp [T.get, q]⟩
def rT2 (R : List (List Nat)) (L : List Nat) : List (List Nat) := L.map fun c => R.getD c []
theorem c36_l1_ok (J : CallF) {Hb : Heap} {nx0 : AV} {mb bx vx b v : Nat} (f1 : Hb.get p = .cells 0 3 [.slice bx 0 R.length vx, .map mb, nx0]) (gx : Hb.get bx = .cells 1 vx (wsL R)) {L : List Nat} (gL : Hb.get b = .cells 1 v (gn L)) (hL : ∀ c ∈ L, c < R.length) (lL : L.length ≤ 1000) (lR : R.length ≤ 1000) :
    Tr tbl J c36_l1 (fun s h => ∃ z, NV Hb h z (wsL (rT2 R (L.take 0))) ∧ s.get [true, true] = .ptr p 0 3 ∧ s.get [true, true, false] = z ∧ s.get [true, false, true, false, true] = .slice b 0 L.length v ∧ s.get [false, true, true, false, true] = G L.length ∧ s.get [true, true, true, false, true] = G ((0 : Nat) : Int)) (.exit 2) (fun s h => ∃ z, NV Hb h z (wsL (rT2 R L)) ∧ s.get [true, true, false] = z) := by
  refine Tr.rounds (P := fun t s h => ∃ z, NV Hb h z (wsL (rT2 R (L.take t))) ∧ s.get [true, true] = .ptr p 0 3 ∧ s.get [true, true, false] = z ∧ s.get [true, false, true, false, true] = .slice b 0 L.length v ∧ s.get [false, true, true, false, true] = G L.length ∧ s.get [true, true, true, false, true] = G t) (M := L.length) (fun t ht => ?_) ?_ (by simp) 0 (by omega)
  · refine Tr.w fun s1 H1 hp _ kR => W.trim ?_
    obtain ⟨z, nv, q⟩ := hp
    have f1' := nv.k.at f1 (by simp) id
    have gx' := nv.k.at gx (by simp) id
    have gL' := nv.k.at gL (by simp) id
    have ec := gn_at ht
    have ec' := getI ec
    have hc := hL _ (gD_mem ht)
    have ew := wsL_at (R := R) hc
    have ew' := getI ew
    have lw := wsL_len R
    have lg : (gn L).length = L.length := gn_len L
    obtain ⟨x1, e, H2, q1, q2, nv2, q4⟩ := nv.app H1.size 16 (.str (stW (R.getD (L.getD t 0) []))) (by rw [wsL_len, rT2, List.length_map, List.length_take]; omega)
    rw [← wsL_app] at nv2
    have e2 : rT2 R (L.take t) ++ [R.getD (L.getD t 0) []] = rT2 R (L.take (t + 1)) := by
      rw [take_s (gD_some ht)]
      unfold rT2
      rw [List.map_append]; rfl
    rw [e2] at nv2
    have ap := app1_at H1 (.str (stW (R.getD (L.getD t 0) [])))
    clear nv e2 hL
    generalize stW (R.getD (L.getD t 0) []) = w at *
    generalize L.getD t 0 = c at *
    generalize wsL (rT2 R (L.take t)) = ww at *
    generalize hl : L.length = l at *
    generalize wsL R = wr at *
    generalize R.length = n at *
    generalize gn L = gl at *
    refine W.seq (W.chunk ?_)
    simp (disch := first|omega|exact zE rfl|exact zO|exact zL rfl) [c36_o16, zG, q]
    refine W.seq (W.chunk ?_)
    simp (disch := first|omega|exact zE rfl|exact zO|exact zL rfl) [zG, q]
    refine W.seq (W.block ?_)
    refine W.seq (W.chunk ?_)
    simp (disch := first|omega|exact zE rfl|exact zO|exact zL rfl) [c36_o17, zG, q, gL', ec, ec', lg]
    refine W.chunk ?_
    simp (disch := first|omega|exact zE rfl|exact zO|exact zL rfl) [c36_o18, zG, q, f1', gx', ew, ew', lw, elems, rdOf, ap, q1, q2]
    refine W.chunk ?_
    simp (disch := first|omega|exact zE rfl|exact zO|exact zL rfl) [c36_o19, zG, q]
    exact kR _ _ ⟨_, nv2, by simp [T.get, q]⟩
  · refine Tr.w fun s1 H1 hp _ kR => W.trim ?_
    obtain ⟨z, nv, q⟩ := hp
    rw [List.take_length] at nv
    clear f1 gx gL hL
    generalize L.length = l at *
    refine W.seq (W.chunk ?_)
    simp (disch := first|omega|exact zE rfl|exact zO|exact zL rfl) [c36_o16, zG, q]
    refine W.seq (W.chunk ?_)
    simp (disch := first|omega|exact zE rfl|exact zO|exact zL rfl) [zG, q]
    exact kR _ _ ⟨_, nv, by simp [T.get, q]⟩
end
def Post36 (a : AR) (m : Int) (h : Heap) (v : AV) (own : List AObj) : Prop :=
  (a.rm m = false → v = .tup [.nils, G 2] ∧ own = []) ∧
  (a.rm m = true → MC (a.steps m) (a.steps m).length 0 → v = .tup [.nils, G 6] ∧ own = []) ∧
  (a.rm m = true → ¬ MC (a.steps m) (a.steps m).length 0 → ∃ x L, v = .tup [x, G 0] ∧ L ≠ [] ∧ MC (a.steps m) (a.steps m).length L.length ∧ RG (a.steps m) L ∧ RV (h.plus own) x (wsL (rT2 (a.rows m) L)))
section
variable {a : AR} {m : Int}
theorem c36_0 (J : CallF) (k57 : KR 57 J) (k60 : K60 J) (hJ : ∀ a h, J 36 a h = none) (h : Heap) (o : OkR a h) (g : a.rm m = false) : CallsTo tbl J 36 [a.v, G m] h (.tup [.nils, G 2], [], false) := by
  refine Tr.fnv (cf := c36) (e := .ret) (s := T.set (T.set .leaf [] a.v) [false] (G m)) (by decide) rfl (hJ _ _) rfl rfl rfl (by simp) ?_
  obtain ⟨k1, k2⟩ := rs_pre (m := m) J k57 k60 o
  refine Tr.post (Q := (fun s h => s.get [true, false] = .nils ∧ s.get [false, true] = G 2)) (fun s h q => by simp [c36, q]) ?_
  unfold AR.rm at g
  generalize a.ru = b1 at *
  generalize decide (1 ≤ m ∧ m ≤ 5) = b2 at *
  refine Tr.w fun s1 H1 hp _ kR => ?_
  obtain ⟨rfl, rfl⟩ := hp
  have q : True := trivial
  cases b1
  · refine W.seq (W.chunk ?_)
    simp (disch := first|omega|exact zE rfl|exact zO|exact zL rfl) [c36_o0, size_mk, get_mk_lt, get_mk_ge, frameOf, Eff.app, Heap.setOwn, q]
    refine W.assoc ?_
    refine W.seq (W.chunk ?_)
    simp (disch := first|omega|exact zE rfl|exact zO|exact zL rfl) [c36_o1, size_mk, get_mk_lt, get_mk_ge, frameOf, Eff.app, Heap.setOwn, q, k1, k2]
    refine W.seq (W.chunk ?_)
    simp (disch := first|omega|exact zE rfl|exact zO|exact zL rfl) [c36_o2, size_mk, get_mk_lt, get_mk_ge, frameOf, Eff.app, Heap.setOwn, q]
    exact kR _ _ (by simp [T.get])
  · have : b2 = false := by simpa using g
    subst this
    refine W.seq (W.chunk ?_)
    simp (disch := first|omega|exact zE rfl|exact zO|exact zL rfl) [c36_o0, size_mk, get_mk_lt, get_mk_ge, frameOf, Eff.app, Heap.setOwn, q]
    refine W.assoc ?_
    refine W.seq (W.chunk ?_)
    simp (disch := first|omega|exact zE rfl|exact zO|exact zL rfl) [c36_o1, size_mk, get_mk_lt, get_mk_ge, frameOf, Eff.app, Heap.setOwn, q, k1, k2]
    refine W.seq (W.chunk ?_)
    simp (disch := first|omega|exact zE rfl|exact zO|exact zL rfl) [c36_o2, size_mk, get_mk_lt, get_mk_ge, frameOf, Eff.app, Heap.setOwn, q]
    exact kR _ _ (by simp [T.get])
set_option maxHeartbeats 1000000 in
theorem c36_1 (J : CallF) (k57 : KR 57 J) (k60 : K60 J) (k61 : K61 J) (k74 : K74 J) (hJ : ∀ a h, J 36 a h = none) (h : Heap) (o : OkR a h) (g : a.rm m = true) : ∃ v own, CallsTo tbl J 36 [a.v, G m] h (v, own, false) ∧ Post36 a m h v own := by
  obtain ⟨r1, r2⟩ := a.rm_iff g
  obtain ⟨os, s243, sr⟩ := AR.steps_ok g
  obtain ⟨k1, k2⟩ := rs_pre (m := m) J k57 k60 o
  rw [r1] at k1
  rw [decide_eq_true r2] at k2
  obtain ⟨Hs, hHs⟩ : ∃ H, (⟨h.get, h.size, [.cells 0 3 [G a.q, a.x, a.y]]⟩ : Heap) = H := ⟨_, rfl⟩
  have kHs : Kp (fun _ => False) (frameOf h) Hs := by rw [← hHs]; exact Kp.plus (frameOf h) [.cells 0 3 [G a.q, a.x, a.y]]
  rw [hHs] at k1 k2
  have oH : OkR a Hs := by rw [← hHs]; exact o.lo _
  have gS : Hs.get h.size = .cells 0 3 [G a.q, a.x, a.y] := by rw [← hHs, get_mk_ge _ _ _ _ (Nat.le_refl _), Nat.sub_self]; rfl
  obtain ⟨p, own, e61, lm⟩ := k61 Hs a.g m.toNat (oH.g r1) (by omega)
  rw [a.gv r1, show ((m.toNat : Nat) : Int) = m by omega] at e61
  obtain ⟨Z, hZ⟩ : ∃ Z, Hs.plus own = Z := ⟨_, rfl⟩
  have kZ : Kp (fun _ => False) Hs Z := by rw [← hZ]; exact Kp.plus _ _
  rw [hZ] at lm
  have lf : LF Z p (a.steps m) := lm.lf
  have l0 := c36_l0_ok J k74 os lf
  unfold EP at l0
  obtain ⟨x0, mb, nb, rs, f1, rx, _⟩ := lm
  have hrw : rwL a.g.q a.g.B m.toNat = a.rows m := rfl
  rw [hrw] at f1 rx
  have sx := rx.sl
  rw [wsL_len] at sx
  have ex : EB (a.steps m) Z 0 .nils [] Z := ⟨Kp.refl _, MC.nil, .inl ⟨rfl, rfl⟩⟩
  have ex : ∃ x, (∃ L, EB (a.steps m) Z 0 x L Z) ∧ AV.nils = x := ⟨_, ⟨[], ex⟩, rfl⟩
  have k0 := kHs.trans kZ
  by_cases c0 : MC (a.steps m) (a.steps m).length 0
  · have fin : ∀ x L H, EB (a.steps m) Z (a.steps m).length x L H → x = .nils := fun x L H eb => by
      have := c0.uniq eb.mc
      rcases eb.xv with ⟨h, _⟩ | ⟨_, _, _, _, h, _⟩
      · exact h
      · exact absurd (List.length_eq_zero_iff.1 this.symm) h
    have : CallsTo tbl J 36 [a.v, G m] h (.tup [.nils, G 6], [], false) := by
      refine Tr.fnv (cf := c36) (e := .ret) (s := T.set (T.set .leaf [] a.v) [false] (G m)) (by decide) rfl (hJ _ _) rfl rfl rfl (by simp) ?_
      refine Tr.post (Q := (fun s h => s.get [true, false] = .nils ∧ s.get [false, true] = G 6)) (fun s h q => by simp [c36, q]) ?_
      clear os oH o lf rx c0 hrw
      rw [sr] at *
      generalize (a.rows m).length = n at *
      rcases sx with ⟨rfl, e0⟩ | ⟨b1, v1, rfl⟩
      all_goals
        try subst e0
        refine Tr.w fun s1 H1 hp _ kR => ?_
        obtain ⟨rfl, rfl⟩ := hp
        have q : True := trivial
        refine W.seq (W.chunk ?_)
        simp (disch := first|omega|exact zE rfl|exact zO|exact zL rfl) [c36_o0, size_mk, get_mk_lt, get_mk_ge, frameOf, Eff.app, Heap.setOwn, q, hHs]
        refine W.assoc ?_
        refine W.seq (W.chunk ?_)
        simp (disch := first|omega|exact zE rfl|exact zO|exact zL rfl) [c36_o1, zG, q, k1, k2, gS]
        refine W.seq (W.chunk ?_)
        simp (disch := first|omega|exact zE rfl|exact zO|exact zL rfl) [c36_o2, zG, q]
        refine W.seq (W.chunk ?_)
        simp (disch := first|omega|exact zE rfl|exact zO|exact zL rfl) [c36_o3, zG, q, gS, e61, app_if, app_if', hZ]
        refine W.seq (W.chunk ?_)
        simp (disch := first|omega|exact zE rfl|exact zO|exact zL rfl) [c36_o4, zG, q]
        refine W.assoc ?_
        refine W.seq (W.chunk ?_)
        simp (disch := first|omega|exact zE rfl|exact zO|exact zL rfl) [c36_o5, zG, q, f1]
        refine W.seq (W.block ?_)
        refine W.use (l0) (by simp (disch := first|omega|exact zE rfl|exact zO|exact zL rfl) [zG, q, ex]) fun s1 H1 hp => ?_
        obtain ⟨x9, L9, eb, q⟩ := hp
        try simp only [zW, if_true]
        refine W.assoc ?_
        have e9 := fin _ _ _ eb
        refine W.seq (W.chunk ?_)
        simp (disch := first|omega|exact zE rfl|exact zO|exact zL rfl) [c36_o12, zG, q, e9]
        refine W.seq (W.chunk ?_)
        simp (disch := first|omega|exact zE rfl|exact zO|exact zL rfl) [c36_o13, zG, q]
        exact kR _ _ (by simp [T.get])
    exact ⟨_, _, this, fun e => (by rw [g] at e; cases e), fun _ _ => ⟨rfl, rfl⟩, fun _ e => absurd c0 e⟩
  · have fin : ∀ x L H, EB (a.steps m) Z (a.steps m).length x L H → ∃ b v, x = .slice b 0 L.length v ∧ H.get b = .cells 1 v (gn L) ∧ L ≠ [] ∧ RG (a.steps m) L ∧ L.length ≤ 243 ∧ MC (a.steps m) (a.steps m).length L.length ∧ Kp (fun _ => False) Z H := fun x L H eb => by
      rcases eb.xv with ⟨_, rfl⟩ | ⟨b, v, h1, h2, h3, h4⟩
      · exact absurd eb.mc c0
      · exact ⟨b, v, h1, h2, h3, h4, Nat.le_trans (eb.mc.le os (Nat.le_refl _)) s243, eb.mc, eb.kf⟩
    have n0 : (a.rows m).length ≠ 0 := fun e => c0 (by rw [sr, e]; exact MC.nil)
    obtain ⟨bx, vx, rfl⟩ := sx.resolve_left (fun e => n0 e.2)
    obtain ⟨e, _⟩ | ⟨bx', vx', e, gx⟩ := rx
    · cases e
    rw [wsL_len] at e
    simp only [AV.slice.injEq, true_and] at e
    obtain ⟨rfl, rfl⟩ := e
    have post : ∀ x L H, EB (a.steps m) Z (a.steps m).length x L H → ∃ b v, x = .slice b 0 L.length v ∧ L.length ≤ 243 ∧ Tr tbl J c36_l1 (fun s h => ∃ z, NV H h z (wsL (rT2 (a.rows m) (L.take 0))) ∧ s.get [true, true] = .ptr p 0 3 ∧ s.get [true, true, false] = z ∧ s.get [true, false, true, false, true] = .slice b 0 L.length v ∧ s.get [false, true, true, false, true] = G L.length ∧ s.get [true, true, true, false, true] = G ((0 : Nat) : Int)) (.exit 2) (fun s h => ∃ z, NV H h z (wsL (rT2 (a.rows m) L)) ∧ s.get [true, true, false] = z) ∧
        ∀ z h', NV H h' z (wsL (rT2 (a.rows m) L)) → Post36 a m h (.tup [z, G 0]) (if (one [z]).flat then [] else h'.own) := fun x L H eb => by
      obtain ⟨b, v, e1, e2, e3, e4, e5, e6, e7⟩ := fin x L H eb
      refine ⟨b, v, e1, e5, c36_l1_ok (R := a.rows m) (nx0 := .slice nb 0 (a.rows m).length (a.rows m).length) J (e7.at f1 (by simp) id) (e7.at gx (by simp) id) e2 (fun c hc => by rw [← sr]; exact e4.1 c hc) (by omega) (by rw [← sr]; exact os.n), fun z h' nv => ⟨fun e => (by rw [g] at e; cases e), fun _ e => absurd e c0, fun _ _ => ⟨z, L, rfl, e3, e6, e4, nv.rv.fr ((k0.trans e7).trans nv.k)⟩⟩⟩
    refine Tr.fny (cf := c36) (e := .ret) (s := T.set (T.set .leaf [] a.v) [false] (G m)) (by decide) rfl (hJ _ _) rfl rfl (by simp) ?_
    clear os oH o lf fin c0 gx hrw
    rw [sr] at *
    generalize (a.rows m).length = n at *
    refine Tr.w fun s1 H1 hp _ kR => ?_
    obtain ⟨rfl, rfl⟩ := hp
    have q : True := trivial
    refine W.seq (W.chunk ?_)
    simp (disch := first|omega|exact zE rfl|exact zO|exact zL rfl) [c36_o0, size_mk, get_mk_lt, get_mk_ge, frameOf, Eff.app, Heap.setOwn, q, hHs]
    refine W.assoc ?_
    refine W.seq (W.chunk ?_)
    simp (disch := first|omega|exact zE rfl|exact zO|exact zL rfl) [c36_o1, zG, q, k1, k2, gS]
    refine W.seq (W.chunk ?_)
    simp (disch := first|omega|exact zE rfl|exact zO|exact zL rfl) [c36_o2, zG, q]
    refine W.seq (W.chunk ?_)
    simp (disch := first|omega|exact zE rfl|exact zO|exact zL rfl) [c36_o3, zG, q, gS, e61, app_if, app_if', hZ]
    refine W.seq (W.chunk ?_)
    simp (disch := first|omega|exact zE rfl|exact zO|exact zL rfl) [c36_o4, zG, q]
    refine W.assoc ?_
    refine W.seq (W.chunk ?_)
    simp (disch := first|omega|exact zE rfl|exact zO|exact zL rfl) [c36_o5, zG, q, f1]
    refine W.seq (W.block ?_)
    refine W.use (l0) (by simp (disch := first|omega|exact zE rfl|exact zO|exact zL rfl) [zG, q, ex]) fun s1 H1 hp => ?_
    obtain ⟨x9, L9, eb, q⟩ := hp
    try simp only [zW, if_true]
    refine W.assoc ?_
    obtain ⟨b9, v9, rfl, l9, l1, pst⟩ := post _ _ _ eb
    refine W.seq (W.chunk ?_)
    simp (disch := first|omega|exact zE rfl|exact zO|exact zL rfl) [c36_o12, zG, q]
    refine W.seq (W.chunk ?_)
    simp (disch := first|omega|exact zE rfl|exact zO|exact zL rfl) [c36_o13, zG, q]
    have nv0 : NV H1 H1 .nils (wsL (rT2 (a.rows m) [])) := NV.nil H1
    refine W.seq (W.chunk ?_)
    simp (disch := first|omega|exact zE rfl|exact zO|exact zL rfl) [c36_o14, zG, q]
    refine W.assoc ?_
    refine W.seq (W.chunk ?_)
    simp (disch := first|omega|exact zE rfl|exact zO|exact zL rfl) [c36_o15, zG, q]
    refine W.seq (W.block ?_)
    refine W.use (l1) (by simp (disch := first|omega|exact zE rfl|exact zO|exact zL rfl) [zG, q, nv0]) fun s1 H1 hp => ?_
    obtain ⟨z9, nv9, q⟩ := hp
    try simp only [zW, if_true]
    refine W.seq (W.chunk ?_)
    simp (disch := first|omega|exact zE rfl|exact zO|exact zL rfl) [c36_o20, zG, q]
    refine W.ret ?_
    try simp only [zW, if_true]
    refine kR _ _ ?_
    refine ⟨[z9, G 0], by simp [T.get, c36, evRess, evRes, q], ?_⟩
    rw [show (one [z9, G 0]).flat = (one [z9]).flat from by simp [one, AV.flat, AV.flats]]
    exact pst _ _ nv9
end
def Po36 (b : ARm) (h : Heap) (v : AV) (own : List AObj) : Prop := Post36 b.a b.m h v own
noncomputable def T54 : CallF := addK tbl T53 36 PreRm Po36
theorem t54 : Sound Go.Proofs.Try.prog T54 := Sound.addK follows ok t53 (by decide) _ _
abbrev K36 (J : CallF) : Prop := ∀ (h : Heap) (a : AR) (m : Int), OkR a h → ∃ v own, J 36 [a.v, G m] h = some (v, own, false) ∧ Post36 a m h v own
theorem k57_53 : KR 57 T53 := fun h a o => by
  rw [show T53 57 [.agg [G a.q, a.x, a.y]] h = T10 57 [.agg [G a.q, a.x, a.y]] h from by simp (disch := decide) only [T11, T12, T13, T14, T15, T16, T17, T18, T19, T20, T21, T22, T23, T24, T25, T26, T27, T28, T29, T30, T31, T32, T33, T34, T35, T36, T37, T38, T39, T40, T41, T42, T43, T44, T45, T46, T47, T48, T49, T50, T51, T52, T53, addI_ne, addX_ne, addV_ne, addK_ne]]; exact k57 h a o
theorem k60_53 : K60 T53 := fun n lo hi h => by
  simp (disch := decide) only [T1, T2, T3, T4, T5, T6, T7, T8, T9, T10, T11, T12, T13, T14, T15, T16, T17, T18, T19, T20, T21, T22, T23, T24, T25, T26, T27, T28, T29, T30, T31, T32, T33, T34, T35, T36, T37, T38, T39, T40, T41, T42, T43, T44, T45, T46, T47, T48, T49, T50, T51, T52, T53, addI_ne, addX_ne, addV_ne, addK_ne]
  exact k60 n lo hi h
theorem k61_53 : K61 T53 := fun h a m o m5 => by
  obtain ⟨p, own, e, l⟩ := k61 h a m o m5
  exact ⟨p, own, by rw [show T53 61 [a.v, G m] h = T18 61 [a.v, G m] h from by simp (disch := decide) only [T19, T20, T21, T22, T23, T24, T25, T26, T27, T28, T29, T30, T31, T32, T33, T34, T35, T36, T37, T38, T39, T40, T41, T42, T43, T44, T45, T46, T47, T48, T49, T50, T51, T52, T53, addI_ne, addX_ne, addV_ne, addK_ne]]; exact e, l⟩
theorem k36 : K36 T54 := fun h a m o => by
  obtain ⟨v, own, e, l⟩ := addK_some (Pre := PreRm) (Post := Po36) (fun b args h hp => by
    obtain ⟨o, rfl⟩ := hp
    cases g : b.a.rm b.m
    · have := c36_0 T53 k57_53 k60_53 (fun _ _ => by simp (disch := decide) only [T1, T2, T3, T4, T5, T6, T7, T8, T9, T10, T11, T12, T13, T14, T15, T16, T17, T18, T19, T20, T21, T22, T23, T24, T25, T26, T27, T28, T29, T30, T31, T32, T33, T34, T35, T36, T37, T38, T39, T40, T41, T42, T43, T44, T45, T46, T47, T48, T49, T50, T51, T52, T53, addI_ne, addX_ne, addV_ne, addK_ne]; rfl) h o g
      exact ⟨_, _, this, fun _ => ⟨rfl, rfl⟩, fun e => (by rw [g] at e; cases e), fun e => (by rw [g] at e; cases e)⟩
    · exact c36_1 T53 k57_53 k60_53 k61_53 k74 (fun _ _ => by simp (disch := decide) only [T1, T2, T3, T4, T5, T6, T7, T8, T9, T10, T11, T12, T13, T14, T15, T16, T17, T18, T19, T20, T21, T22, T23, T24, T25, T26, T27, T28, T29, T30, T31, T32, T33, T34, T35, T36, T37, T38, T39, T40, T41, T42, T43, T44, T45, T46, T47, T48, T49, T50, T51, T52, T53, addI_ne, addX_ne, addV_ne, addK_ne]; rfl) h o g) ⟨a, m⟩ _ h ⟨o, rfl⟩
  exact ⟨v, own, e, l⟩
def bb (p : Nat → Bool) (n : Nat) : List AV := (List.range n).map fun i => .bool (p i)
theorem bb_len (p : Nat → Bool) (n : Nat) : (bb p n).length = n := by simp [bb]
theorem bb_at (p : Nat → Bool) {n i : Nat} (h : i < n) : (bb p n)[i]? = some (.bool (p i)) := by
  unfold bb
  rw [List.getElem?_map, List.getElem?_range h]; rfl
theorem bb_ext {p r : Nat → Bool} {n : Nat} (h : ∀ t, t < n → p t = r t) : bb p n = bb r n := by
  unfold bb
  apply List.map_congr_left
  intro t ht
  rw [h t (List.mem_range.1 ht)]
theorem bb_set (p : Nat → Bool) {n i : Nat} (h : i < n) (v : Bool) : (bb p n).set i (.bool v) = bb (fun t => if t = i then v else p t) n := by
  apply List.ext_getElem?
  intro j
  by_cases hj : j < n
  · rw [bb_at _ hj]
    by_cases e : i = j
    · subst e
      rw [List.getElem?_set_self (by rw [bb_len]; exact h), if_pos rfl]
    · rw [List.getElem?_set_ne e, bb_at _ hj, if_neg (fun h => e h.symm)]
  · rw [List.getElem?_eq_none (by rw [List.length_set, bb_len]; omega), List.getElem?_eq_none (by rw [bb_len]; omega)]
theorem bb_rep (n : Nat) : List.replicate n (AV.bool false) = bb (fun _ => false) n := by
  apply List.ext_getElem?
  intro j
  by_cases hj : j < n
  · rw [bb_at _ hj, List.getElem?_replicate, if_pos hj]
  · rw [List.getElem?_eq_none (by simp; omega), List.getElem?_eq_none (by rw [bb_len]; omega)]
structure BB (Hk h : Heap) (b n : Nat) (p : Nat → Bool) : Prop where
  kp : Kp (fun _ => False) Hk h
  g : h.get b = .cells 1 n (bb p n)
theorem BB.put {Hk h : Heap} {b n : Nat} {p : Nat → Bool} (t : BB Hk h b n p) (hb : Hk.size ≤ b) (hN : Hk.N ≤ b) {i : Nat} (hi : i < n) (v : Bool) : ∃ H, Eff.app (.put b n i [.bool v]) h = some H ∧ BB Hk H b n (fun t => if t = i then v else p t) := by
  have hNh : h.N ≤ b := by rw [t.kp.N]; exact hN
  refine ⟨_, put_gen h b n i 1 _ _ hNh t.g (by rw [bb_len]; show i + 1 ≤ n; omega), t.kp.updn b _ hNh hb, ?_⟩
  rw [upd_same _ _ _ hNh (get_lt t.g (by simp))]
  simp only [putAt]
  rw [bb_set _ hi]
theorem BB.ext {Hk h : Heap} {b n : Nat} {p r : Nat → Bool} (t : BB Hk h b n p) (e : ∀ u, u < n → p u = r u) : BB Hk h b n r := ⟨t.kp, by rw [← bb_ext e]; exact t.g⟩
section
variable {S : List (List Nat)}
def nq (S : List (List Nat)) (p : Nat → Bool) (i t u : Nat) : Bool := if u < i then (S.getD u []).any p else if u = i then ((S.getD i []).take t).any p else false
theorem nq_0 (p : Nat → Bool) (u : Nat) : nq S p 0 0 u = false := by
  unfold nq
  rw [if_neg (by omega)]
  split <;> simp
theorem nq_next (p : Nat → Bool) (i u : Nat) : nq S p i (S.getD i []).length u = nq S p (i + 1) 0 u := by
  unfold nq
  by_cases c : u < i
  · rw [if_pos c, if_pos (by omega)]
  · rw [if_neg c]
    by_cases e : u = i
    · rw [if_pos e, if_pos (by omega), List.take_length, e]
    · rw [if_neg e, if_neg (by omega)]
      split <;> simp
theorem nq_put (p : Nat → Bool) {i t c : Nat} (h : (S.getD i [])[t]? = some c) (u : Nat) : (if u = i then (((S.getD i []).take t).any p || p c) else nq S p i t u) = nq S p i (t + 1) u := by
  unfold nq
  by_cases e : u = i
  · rw [if_pos e, if_neg (by omega), if_pos e, take_s h, List.any_append]
    simp
  · rw [if_neg e, if_neg e, if_neg e]
def L7 (Hk : Heap) (S : List (List Nat)) (p : Nat → Bool) (b bc : Nat) (x : AV) (so : Bool) (L : Nat) (i t : Nat) : SP := fun s h => BB Hk h b S.length (nq S p i t) ∧ s.get [false, true] = x ∧ s.get [true, true] = G S.length ∧ s.get [false, false, false] = .slice bc 0 S.length S.length ∧ s.get [false, true, false] = .bool so ∧ s.get [true, true, false] = G L ∧ s.get [false, false, true] = .slice b 0 S.length S.length ∧ s.get [true, false, true] = G i ∧ s.get [false, true, true] = G t
def L7q (Hk : Heap) (S : List (List Nat)) (p : Nat → Bool) (b bc : Nat) (x : AV) (so : Bool) (L : Nat) (i t : Nat) : SP := fun s h => BB Hk h b S.length (nq S p i t) ∧ s.get [false, true] = x ∧ s.get [true, true] = G S.length ∧ s.get [false, false, false] = .slice bc 0 S.length S.length ∧ s.get [false, true, false] = .bool so ∧ s.get [true, true, false] = G L ∧ s.get [false, false, true] = .slice b 0 S.length S.length ∧ s.get [true, false, true] = G i
set_option maxHeartbeats 1000000 in
theorem c37_l1_ok (J : CallF) (os : OkS S) {Hk : Heap} {x : AV} (ln : LN Hk x S) {b bc : Nat} (hb : Hk.size ≤ b) (hN : Hk.N ≤ b) {p : Nat → Bool} (gc : Hk.get bc = .cells 1 S.length (bb p S.length)) {so : Bool} {L i : Nat} (hi : i < S.length) :
    Tr tbl J c37_l1 (L7 Hk S p b bc x so L i 0) (.exit 6) (L7q Hk S p b bc x so L i (S.getD i []).length) := by
  have n2 := os.n
  have l2 := os.len i
  refine Tr.rounds (P := L7 Hk S p b bc x so L i) (M := (S.getD i []).length) (fun t ht => ?_) ?_ (by simp) 0 (by omega)
  · refine Tr.w fun s1 H1 hp R kR => W.trim ?_
    obtain ⟨bz, q⟩ := hp
    dsimp only [L7] at kR
    obtain ⟨rs, h1, h2, h3⟩ := ln.kp bz.kp
    obtain ⟨bx, rfl, gx⟩ : ∃ b, x = .slice b 0 S.length S.length ∧ H1.get b = .cells 1 S.length rs := by
      rcases h1 with ⟨_, e⟩ | h
      · omega
      · exact h
    obtain ⟨y, ey, rv⟩ := h3 i hi
    have ey' := getI ey
    obtain ⟨by', vy, rfl, gy⟩ : ∃ b v, y = .slice b 0 (S.getD i []).length v ∧ H1.get b = .cells 1 v (gn (S.getD i [])) := by
      rcases rv with ⟨_, e⟩ | ⟨b, v, e, g⟩
      · have : (gn (S.getD i [])).length = 0 := by rw [e]; rfl
        rw [gn_len] at this; omega
      · rw [gn_len] at e; exact ⟨b, v, e, g⟩
    have gcH := bz.kp.at gc (by simp) id
    have e1 := gn_at ht
    have e1' := getI e1
    have lg := gn_len (S.getD i [])
    have cS := gD_some ht
    have hj := os.lt i _ (gD_mem ht)
    have e2 := bb_at p hj
    have e2' := getI e2
    have lb := bb_len p S.length
    have e3 := bb_at (nq S p i t) hi
    have em : nq S p i t i = ((S.getD i []).take t).any p := by unfold nq; rw [if_neg (by omega), if_pos rfl]
    rw [em] at e3
    have e3' := getI e3
    have l3 := bb_len (nq S p i t) S.length
    obtain ⟨H2, p1, bz2⟩ := bz.put hb hN hi (((S.getD i []).take t).any p || p ((S.getD i []).getD t 0))
    replace bz2 := bz2.ext fun u _ => nq_put p cS u
    have g := bz.g
    clear bz h1 h3 rv em ln gc cS
    generalize (S.getD i []).getD t 0 = c at *
    generalize ((S.getD i []).take t).any p = v1 at *
    generalize p c = v2 at *
    generalize bb (nq S p i t) S.length = c1 at *
    generalize bb p S.length = c2 at *
    generalize gn (S.getD i []) = cs at *
    generalize (S.getD i []).length = l at *
    generalize hnn : S.length = n at *
    cases v1
    · rw [Bool.false_or] at p1
      refine W.assoc ?_
      refine W.seq (W.chunk ?_)
      simp (disch := first|omega|exact zE rfl|exact zO|exact zL rfl) [c37_o19, zG, q, gx, ey, ey', h2]
      refine W.seq (W.chunk ?_)
      simp (disch := first|omega|exact zE rfl|exact zO|exact zL rfl) [zG, q]
      refine W.seq (W.block ?_)
      refine W.chunk ?_
      simp (disch := first|omega|exact zE rfl|exact zO|exact zL rfl) [c37_o20, zG, q, gx, ey, ey', h2, gcH, gy, e1, e1', lg, g, e2, e2', lb, e3, e3', l3, p1]
      refine W.chunk ?_
      simp (disch := first|omega|exact zE rfl|exact zO|exact zL rfl) [c37_o21, zG, q]
      exact kR _ _ ⟨bz2, by simp [T.get, q]⟩
    · rw [Bool.true_or] at p1
      refine W.assoc ?_
      refine W.seq (W.chunk ?_)
      simp (disch := first|omega|exact zE rfl|exact zO|exact zL rfl) [c37_o19, zG, q, gx, ey, ey', h2]
      refine W.seq (W.chunk ?_)
      simp (disch := first|omega|exact zE rfl|exact zO|exact zL rfl) [zG, q]
      refine W.seq (W.block ?_)
      refine W.chunk ?_
      simp (disch := first|omega|exact zE rfl|exact zO|exact zL rfl) [c37_o20, zG, q, gx, ey, ey', h2, gcH, gy, e1, e1', lg, g, e2, e2', lb, e3, e3', l3, p1]
      refine W.chunk ?_
      simp (disch := first|omega|exact zE rfl|exact zO|exact zL rfl) [c37_o21, zG, q]
      exact kR _ _ ⟨bz2, by simp [T.get, q]⟩
  · refine Tr.w fun s1 H1 hp R kR => W.trim ?_
    obtain ⟨bz, q⟩ := hp
    dsimp only [L7q] at kR
    obtain ⟨rs, h1, h2, h3⟩ := ln.kp bz.kp
    obtain ⟨bx, rfl, gx⟩ : ∃ b, x = .slice b 0 S.length S.length ∧ H1.get b = .cells 1 S.length rs := by
      rcases h1 with ⟨_, e⟩ | h
      · omega
      · exact h
    obtain ⟨y, ey, rv⟩ := h3 i hi
    have ey' := getI ey
    have sy := rv.sl
    rw [gn_len] at sy
    clear h1 h3 rv ln gc
    generalize (S.getD i []).length = l at *
    generalize hnn : S.length = n at *
    rcases sy with ⟨rfl, rfl⟩ | ⟨b1, v1, rfl⟩
    all_goals
      refine W.assoc ?_
      refine W.seq (W.chunk ?_)
      simp (disch := first|omega|exact zE rfl|exact zO|exact zL rfl) [c37_o19, zG, q, gx, ey, ey', h2]
      refine W.seq (W.chunk ?_)
      simp (disch := first|omega|exact zE rfl|exact zO|exact zL rfl) [zG, q]
      exact kR _ _ ⟨bz, by simp [T.get, q]⟩
def sm7 (S : List (List Nat)) (p : Nat → Bool) (i : Nat) : Bool := (List.range i).any fun u => (S.getD u []).any p
theorem sm7_succ (p : Nat → Bool) (i : Nat) : sm7 S p (i + 1) = (sm7 S p i || (S.getD i []).any p) := by
  unfold sm7
  rw [List.range_succ, List.any_append]; simp
def L8 (Hk : Heap) (S : List (List Nat)) (p : Nat → Bool) (b bc : Nat) (x : AV) (L : Nat) (i : Nat) : SP := fun s h => BB Hk h b S.length (nq S p i 0) ∧ s.get [false, true] = x ∧ s.get [true, true] = G S.length ∧ s.get [false, false, false] = .slice bc 0 S.length S.length ∧ s.get [false, true, false] = .bool (sm7 S p i) ∧ s.get [true, true, false] = G L ∧ s.get [false, false, true] = .slice b 0 S.length S.length ∧ s.get [true, false, true] = G i
theorem c37_l2_ok (J : CallF) (os : OkS S) {Hk : Heap} {x : AV} (ln : LN Hk x S) {b bc : Nat} (hb : Hk.size ≤ b) (hN : Hk.N ≤ b) {p : Nat → Bool} (gc : Hk.get bc = .cells 1 S.length (bb p S.length)) {L : Nat} :
    Tr tbl J c37_l2 (L8 Hk S p b bc x L 0) (.exit 4) (L8 Hk S p b bc x L S.length) := by
  have n2 := os.n
  refine Tr.rounds (P := L8 Hk S p b bc x L) (M := S.length) (fun i hi => ?_) ?_ (by simp) 0 (by omega)
  · refine Tr.w fun s1 H1 hp R kR => W.trim ?_
    obtain ⟨bz, q⟩ := hp
    dsimp only [L8] at kR
    rw [sm7_succ] at kR
    have l1 := c37_l1_ok (so := sm7 S p i) (L := L) J os ln hb hN gc hi
    unfold L7 L7q at l1
    have post : ∀ h, BB Hk h b S.length (nq S p i (S.getD i []).length) → BB Hk h b S.length (nq S p (i + 1) 0) ∧ h.get b = .cells 1 S.length (bb (nq S p (i + 1) 0) S.length) ∧ (bb (nq S p (i + 1) 0) S.length)[i]? = some (.bool ((S.getD i []).any p)) := fun h t => by
      have t2 := t.ext fun u _ => nq_next p i u
      refine ⟨t2, t2.g, ?_⟩
      rw [bb_at _ hi]
      unfold nq
      rw [if_pos (by omega)]
    have lb := bb_len (nq S p (i + 1) 0) S.length
    generalize hv : (S.getD i []).any p = v1 at *
    generalize sm7 S p i = v2 at *
    clear ln gc
    generalize hnn : S.length = n at *
    cases v2
    all_goals
      refine W.assoc ?_
      refine W.seq (W.chunk ?_)
      simp (disch := first|omega|exact zE rfl|exact zO|exact zL rfl) [c37_o17, zG, q]
      refine W.seq (W.chunk ?_)
      simp (disch := first|omega|exact zE rfl|exact zO|exact zL rfl) [zG, q]
      refine W.seq (W.block ?_)
      refine W.assoc ?_
      refine W.seq (W.chunk ?_)
      simp (disch := first|omega|exact zE rfl|exact zO|exact zL rfl) [c37_o18, zG, q]
      refine W.seq (W.block ?_)
      refine W.use (l1) (by simp (disch := first|omega|exact zE rfl|exact zO|exact zL rfl) [zG, q, bz]) fun s1 H1 hp => ?_
      obtain ⟨t, q⟩ := hp
      try simp only [zW, if_true]
      obtain ⟨t2, t3, t4⟩ := post _ t
      have t4' := getI t4
      refine W.chunk ?_
      simp (disch := first|omega|exact zE rfl|exact zO|exact zL rfl) [c37_o22, zG, q, t3, t4, t4', lb]
      refine W.chunk ?_
      simp (disch := first|omega|exact zE rfl|exact zO|exact zL rfl) [c37_o23, zG, q]
      exact kR _ _ ⟨t2, by simp [T.get, q]⟩
  · refine Tr.w fun s1 H1 hp R kR => W.trim ?_
    obtain ⟨bz, q⟩ := hp
    dsimp only [L8] at kR
    clear ln gc
    generalize sm7 S p S.length = v2 at *
    generalize hnn : S.length = n at *
    refine W.assoc ?_
    refine W.seq (W.chunk ?_)
    simp (disch := first|omega|exact zE rfl|exact zO|exact zL rfl) [c37_o17, zG, q]
    refine W.seq (W.chunk ?_)
    simp (disch := first|omega|exact zE rfl|exact zO|exact zL rfl) [zG, q]
    exact kR _ _ ⟨bz, by simp [T.get, q]⟩
end
section
variable {S : List (List Nat)}
def ex7 (S : List (List Nat)) (L : Nat) : Bool := (List.range S.length).any (al S L)
theorem ex7_iff (L : Nat) : ex7 S L = true ↔ ∃ i, i < S.length ∧ al S L i = true := by
  unfold ex7
  rw [List.any_eq_true]
  exact ⟨fun ⟨i, h1, h2⟩ => ⟨i, List.mem_range.1 h1, h2⟩, fun ⟨i, h1, h2⟩ => ⟨i, List.mem_range.2 h1, h2⟩⟩
theorem ex7_0 : ex7 S 0 = decide (0 < S.length) := by
  rw [Bool.eq_iff_iff, ex7_iff, decide_eq_true_eq]
  exact ⟨fun ⟨i, h, _⟩ => by omega, fun h => ⟨0, h, rfl⟩⟩
theorem ls_at (os : OkS S) {L : Nat} (h1 : ∀ k, k < L → ex7 S k = true) (h2 : ex7 S L = false) : (L : Int) = lsV S := lsV_eq os (.inr ⟨L, rfl, fun k => by
  rw [← ex7_iff]
  constructor
  · intro h
    apply Decidable.byContradiction
    intro c
    obtain ⟨i, a1, a2⟩ := (ex7_iff k).1 h
    have : ex7 S L = true := (ex7_iff L).2 ⟨i, a1, al_le (k := L) (d := k - L) (by rw [show L + (k - L) = k by omega]; exact a2)⟩
    rw [h2] at this; cases this
  · exact h1 k⟩)
theorem ls_big (os : OkS S) (h : ex7 S S.length = true) : (-1 : Int) = lsV S := lsV_eq os (.inl ⟨rfl, (ex7_iff _).1 h⟩)
def L9 (Hb : Heap) (S : List (List Nat)) (x : AV) (L : Nat) : SP := fun s h => ∃ bc, (Kp (fun _ => False) Hb h ∧ h.get bc = .cells 1 S.length (bb (al S L) S.length)) ∧ s.get [false, true] = x ∧ s.get [true, true] = G S.length ∧ s.get [false, false, false] = .slice bc 0 S.length S.length ∧ s.get [false, true, false] = .bool (ex7 S L) ∧ s.get [true, true, false] = G L
set_option maxHeartbeats 1000000 in
theorem c37_l3_w (J : CallF) (os : OkS S) {Hb : Heap} {x : AV} (ln : LN Hb x S) : ∀ d L, L + d = S.length → (∀ k, k < L → ex7 S k = true) → ∀ (s1 : T) (H1 : Heap) (R : PQ), L9 Hb S x L s1 H1 →
    (lsV S ≠ -1 → ∀ s' h', s'.get [true, true, false] = G (lsV S) → R (.exit 2) s' h') → (lsV S = -1 → ∀ s' h', s'.get [true, false] = G (-1) → R .ret s' h') → W tbl J c37_l3 s1 H1 R := by
  have n2 := os.n
  intro d
  induction d with
  | zero =>
    intro L hL hk s1 H1 R hp kA kB
    obtain ⟨bc, ⟨kp, gc⟩, q⟩ := hp
    obtain rfl : L = S.length := by omega
    cases he : ex7 S S.length
    · have e := ls_at os hk he
      have kR := kA (by omega)
      rw [← e] at kR
      rw [he] at q
      clear kA kB ln gc hk
      generalize hnn : S.length = n at *
      refine W.loop (W.trim ?_)
      refine W.assoc ?_
      refine W.seq (W.chunk ?_)
      simp (disch := first|omega|exact zE rfl|exact zO|exact zL rfl) [c37_o10, zG, q]
      refine W.seq (W.chunk ?_)
      simp (disch := first|omega|exact zE rfl|exact zO|exact zL rfl) [zG, q]
      exact kR _ _ (by simp [T.get, q])
    · have e := ls_big os he
      have kR := kB e.symm
      rw [he] at q
      clear kA kB ln gc hk
      generalize hnn : S.length = n at *
      refine W.loop (W.trim ?_)
      refine W.assoc ?_
      refine W.seq (W.chunk ?_)
      simp (disch := first|omega|exact zE rfl|exact zO|exact zL rfl) [c37_o10, zG, q]
      refine W.seq (W.chunk ?_)
      simp (disch := first|omega|exact zE rfl|exact zO|exact zL rfl) [zG, q]
      refine W.block ?_
      refine W.seq (W.chunk ?_)
      simp (disch := first|omega|exact zE rfl|exact zO|exact zL rfl) [c37_o11, zG, q]
      refine W.assoc ?_
      refine W.seq (W.chunk ?_)
      simp (disch := first|omega|exact zE rfl|exact zO|exact zL rfl) [c37_o12, zG, q]
      refine W.seq (W.chunk ?_)
      simp (disch := first|omega|exact zE rfl|exact zO|exact zL rfl) [c37_o13, zG, q]
      exact kR _ _ (by simp [T.get])
  | succ d ih =>
    intro L hL hk s1 H1 R hp kA kB
    obtain ⟨bc, ⟨kp, gc⟩, q⟩ := hp
    cases he : ex7 S L
    · have e := ls_at os hk he
      have kR := kA (by omega)
      rw [← e] at kR
      rw [he] at q
      clear kA kB ln gc hk ih
      generalize hnn : S.length = n at *
      refine W.loop (W.trim ?_)
      refine W.assoc ?_
      refine W.seq (W.chunk ?_)
      simp (disch := first|omega|exact zE rfl|exact zO|exact zL rfl) [c37_o10, zG, q]
      refine W.seq (W.chunk ?_)
      simp (disch := first|omega|exact zE rfl|exact zO|exact zL rfl) [zG, q]
      exact kR _ _ (by simp [T.get, q])
    · have ih := fun s' h' hp => ih (L + 1) (by omega) (fun k hk2 => by
        by_cases c : k = L
        · rw [c]; exact he
        · exact hk k (by omega)) s' h' R hp kA kB
      rw [he] at q
      have mk1 : mkSl H1 1 (.bool false) S.length = some (.slice H1.size 0 S.length S.length, { eff := .grow [.cells 1 S.length (List.replicate S.length (.bool false))] }) := mkSl_ok _ _ _ _ _ rfl (by omega)
      rw [bb_rep] at mk1
      have bz : BB H1 (H1.plus [.cells 1 S.length (bb (fun _ => false) S.length)]) H1.size S.length (nq S (al S L) 0 0) := BB.ext ⟨Kp.plus _ _, plus_at0 _ _ _ _ rfl⟩ fun u _ => (nq_0 _ u).symm
      have hN : H1.N ≤ H1.size := by unfold Heap.size; omega
      have l2 := c37_l2_ok (L := L + 1) J os (ln.kp kp) (Nat.le_refl _) hN gc
      unfold L8 at l2
      have s0 : sm7 S (al S L) 0 = false := rfl
      have s9 : sm7 S (al S L) S.length = ex7 S (L + 1) := rfl
      rw [s0, s9, show ((L + 1 : Nat) : Int) = (L : Int) + 1 by omega] at l2
      have post : ∀ h, BB H1 h H1.size S.length (nq S (al S L) S.length 0) → (Kp (fun _ => False) Hb h ∧ h.get H1.size = .cells 1 S.length (bb (al S (L + 1)) S.length)) := fun h t => ⟨kp.trans t.kp, (t.ext fun u hu => by
        unfold nq
        rw [if_pos hu]; rfl).g⟩
      unfold L9 at ih
      rw [show ((L + 1 : Nat) : Int) = (L : Int) + 1 by omega] at ih
      clear ln gc hk kA kB he
      generalize bb (fun _ => false) S.length = b0 at *
      generalize ex7 S (L + 1) = e1 at *
      generalize hnn : S.length = n at *
      refine W.loop (W.trim ?_)
      refine W.assoc ?_
      refine W.seq (W.chunk ?_)
      simp (disch := first|omega|exact zE rfl|exact zO|exact zL rfl) [c37_o10, zG, q]
      refine W.seq (W.chunk ?_)
      simp (disch := first|omega|exact zE rfl|exact zO|exact zL rfl) [zG, q]
      refine W.block ?_
      refine W.seq (W.chunk ?_)
      simp (disch := first|omega|exact zE rfl|exact zO|exact zL rfl) [c37_o11, zG, q]
      refine W.assoc ?_
      refine W.seq (W.chunk ?_)
      simp (disch := first|omega|exact zE rfl|exact zO|exact zL rfl) [c37_o12, zG, q]
      refine W.seq (W.chunk ?_)
      simp (disch := first|omega|exact zE rfl|exact zO|exact zL rfl) [c37_o13, zG, q]
      refine W.seq (W.chunk ?_)
      simp (disch := first|omega|exact zE rfl|exact zO|exact zL rfl) [c37_o14, zG, q]
      refine W.seq (W.chunk ?_)
      simp (disch := first|omega|exact zE rfl|exact zO|exact zL rfl) [-act, c37_o15, zG, q, act_move, act_mkSl, mk1]
      refine W.assoc ?_
      refine W.seq (W.chunk ?_)
      simp (disch := first|omega|exact zE rfl|exact zO|exact zL rfl) [c37_o16, zG, q]
      refine W.seq (W.block ?_)
      refine W.use (l2) (by simp (disch := first|omega|exact zE rfl|exact zO|exact zL rfl) [zG, q, bz]) fun s1 H1 hp => ?_
      obtain ⟨t, q⟩ := hp
      try simp only [zW, if_true]
      refine W.chunk ?_
      simp (disch := first|omega|exact zE rfl|exact zO|exact zL rfl) [c37_o24, zG, q]
      exact ih _ _ ⟨_, post _ t, by simp [T.get, q]⟩
theorem c37_l0_ok (J : CallF) {Hk : Heap} {x : AV} {b n : Nat} (hb : Hk.size ≤ b) (hN : Hk.N ≤ b) (n2 : n ≤ 1000) :
    Tr tbl J c37_l0 (fun s h => BB Hk h b n (fun t => decide (t < 0)) ∧ s.get [false, true] = x ∧ s.get [true, true] = G n ∧ s.get [false, false, false] = .slice b 0 n n ∧ s.get [true, false, false] = G ((0 : Nat) : Int)) (.exit 0) (fun s h => BB Hk h b n (fun t => decide (t < n)) ∧ s.get [false, true] = x ∧ s.get [true, true] = G n ∧ s.get [false, false, false] = .slice b 0 n n) := by
  refine Tr.rounds (P := fun (i : Nat) s h => BB Hk h b n (fun t => decide (t < i)) ∧ s.get [false, true] = x ∧ s.get [true, true] = G n ∧ s.get [false, false, false] = .slice b 0 n n ∧ s.get [true, false, false] = G i) (M := n) (fun i hi => ?_) ?_ (by simp) 0 (by omega)
  · refine Tr.w fun s1 H1 hp _ kR => W.trim ?_
    obtain ⟨bz, q⟩ := hp
    obtain ⟨H2, p1, bz2⟩ := bz.put hb hN hi true
    replace bz2 := bz2.ext (r := fun t => decide (t < i + 1)) fun u _ => by
      by_cases e : u = i
      · rw [if_pos e, decide_eq_true (by omega)]
      · rw [if_neg e]
        by_cases c : u < i
        · rw [decide_eq_true c, decide_eq_true (by omega)]
        · rw [decide_eq_false c, decide_eq_false (by omega)]
    clear bz
    refine W.assoc ?_
    refine W.seq (W.chunk ?_)
    simp (disch := first|omega|exact zE rfl|exact zO|exact zL rfl) [c37_o5, zG, q]
    refine W.seq (W.chunk ?_)
    simp (disch := first|omega|exact zE rfl|exact zO|exact zL rfl) [zG, q]
    refine W.seq (W.block ?_)
    refine W.chunk ?_
    simp (disch := first|omega|exact zE rfl|exact zO|exact zL rfl) [c37_o6, zG, q, p1]
    refine W.chunk ?_
    simp (disch := first|omega|exact zE rfl|exact zO|exact zL rfl) [c37_o7, zG, q]
    exact kR _ _ ⟨bz2, by simp [T.get, q]⟩
  · refine Tr.w fun s1 H1 hp _ kR => W.trim ?_
    obtain ⟨bz, q⟩ := hp
    refine W.assoc ?_
    refine W.seq (W.chunk ?_)
    simp (disch := first|omega|exact zE rfl|exact zO|exact zL rfl) [c37_o5, zG, q]
    refine W.seq (W.chunk ?_)
    simp (disch := first|omega|exact zE rfl|exact zO|exact zL rfl) [zG, q]
    exact kR _ _ ⟨bz, by simp [T.get, q]⟩
end
section
variable {a : AR} {m : Int}
set_option maxHeartbeats 1000000 in
theorem c37_ok (J : CallF) (k31 : K31 J) (hJ : ∀ a h, J 37 a h = none) (h : Heap) (o : OkR a h) (g : a.rm m = true) : CallsTo tbl J 37 [a.v, G m] h (G (lsV (a.steps m)), [], false) := by
  obtain ⟨r1, r2⟩ := a.rm_iff g
  obtain ⟨os, s243, sr⟩ := AR.steps_ok g
  obtain ⟨Hs, hHs⟩ : ∃ H, (⟨h.get, h.size, [.cells 0 3 [G a.q, a.x, a.y]]⟩ : Heap) = H := ⟨_, rfl⟩
  have oH : OkR a Hs := by rw [← hHs]; exact o.lo _
  have gS : Hs.get h.size = .cells 0 3 [G a.q, a.x, a.y] := by rw [← hHs, get_mk_ge _ _ _ _ (Nat.le_refl _), Nat.sub_self]; rfl
  obtain ⟨x, own, e31, l31⟩ := k31 Hs a.g m.toNat (oH.g r1) (by omega)
  rw [a.gv r1, show ((m.toNat : Nat) : Int) = m by omega] at e31
  obtain ⟨Z, hZ⟩ : ∃ Z, Hs.plus own = Z := ⟨_, rfl⟩
  rw [hZ] at l31
  have ln : LN Z x (a.steps m) := l31.ln
  generalize a.steps m = S at *
  have n2 := os.n
  have mk1 : mkSl Z 1 (.bool false) S.length = some (.slice Z.size 0 S.length S.length, { eff := .grow [.cells 1 S.length (List.replicate S.length (.bool false))] }) := mkSl_ok _ _ _ _ _ rfl (by omega)
  rw [bb_rep] at mk1
  have bz : BB Z (Z.plus [.cells 1 S.length (bb (fun _ => false) S.length)]) Z.size S.length (fun t => decide (t < 0)) := BB.ext ⟨Kp.plus _ _, plus_at0 _ _ _ _ rfl⟩ fun u _ => (decide_eq_false (by omega)).symm
  have hN : Z.N ≤ Z.size := by unfold Heap.size; omega
  have l0 := c37_l0_ok (x := x) J (Nat.le_refl Z.size) hN n2
  have l3A : lsV S ≠ -1 → Tr tbl J c37_l3 (L9 Z S x 0) (.exit 2) (fun s h => s.get [true, true, false] = G (lsV S)) := fun e => Tr.w fun s1 H1 hp R kR => c37_l3_w J os ln S.length 0 (by omega) (fun k hk => absurd hk (by omega)) s1 H1 R hp (fun _ s' h' q => kR s' h' q) (fun e' => absurd e' e)
  have l3B : lsV S = -1 → Tr tbl J c37_l3 (L9 Z S x 0) .ret (fun s h => s.get [true, false] = G (-1)) := fun e => Tr.w fun s1 H1 hp R kR => c37_l3_w J os ln S.length 0 (by omega) (fun k hk => absurd hk (by omega)) s1 H1 R hp (fun e' => absurd e e') (fun _ s' h' q => kR s' h' q)
  have post : ∀ h, BB Z h Z.size S.length (fun t => decide (t < S.length)) → Kp (fun _ => False) Z h ∧ h.get Z.size = .cells 1 S.length (bb (al S 0) S.length) := fun h t => ⟨t.kp, (t.ext fun u hu => decide_eq_true hu).g⟩
  have bz' : BB Z (Z.plus [.cells 1 S.length (bb (fun _ => false) S.length)]) Z.size S.length (fun t => false) := bz.ext fun u _ => decide_eq_false (by omega)
  obtain ⟨rs, sx, _⟩ := ln
  have sx : (x = .nils ∧ S.length = 0) ∨ ∃ b, x = .slice b 0 S.length S.length := by
    rcases sx with h | ⟨b, h, _⟩
    · exact .inl h
    · exact .inr ⟨b, h⟩
  unfold L9 at l3A l3B
  rw [ex7_0] at l3A l3B
  refine Tr.fnv (cf := c37) (e := .ret) (s := T.set (T.set .leaf [] a.v) [false] (G m)) (by decide) rfl (hJ _ _) rfl rfl rfl (by simp) ?_
  refine Tr.post (Q := (fun s h => s.get [true, false] = G (lsV S))) (fun s h q => by simp [c37, q]) ?_
  clear os oH o l31
  generalize bb (fun _ => false) S.length = b0 at *
  generalize hls : lsV S = z at *
  generalize hnn : S.length = n at *
  by_cases hz : z = -1
  · have l3 := l3B hz
    rcases sx with ⟨rfl, e0⟩ | ⟨b', rfl⟩
    all_goals
      try subst e0
      try rw [show ((0 : Nat) : Int) = 0 from rfl] at mk1
      refine Tr.w fun s1 H1 hp _ kR => ?_
      obtain ⟨rfl, rfl⟩ := hp
      have q : True := trivial
      refine W.seq (W.chunk ?_)
      simp (disch := first|omega|exact zE rfl|exact zO|exact zL rfl) [c37_o0, size_mk, get_mk_lt, get_mk_ge, frameOf, Eff.app, Heap.setOwn, q, hHs]
      refine W.seq (W.chunk ?_)
      simp (disch := first|omega|exact zE rfl|exact zO|exact zL rfl) [c37_o1, zG, q, gS, e31, app_if, app_if', hZ]
      refine W.seq (W.chunk ?_)
      simp (disch := first|omega|exact zE rfl|exact zO|exact zL rfl) [c37_o2, zG, q]
      refine W.seq (W.chunk ?_)
      simp (disch := first|omega|exact zE rfl|exact zO|exact zL rfl) [-act, c37_o3, zG, q, act_move, act_mkSl, mk1]
      refine W.assoc ?_
      refine W.seq (W.chunk ?_)
      simp (disch := first|omega|exact zE rfl|exact zO|exact zL rfl) [c37_o4, zG, q]
      refine W.seq (W.block ?_)
      refine W.use (l0) (by simp (disch := first|omega|exact zE rfl|exact zO|exact zL rfl) [zG, q, bz, bz']) fun s1 H1 hp => ?_
      obtain ⟨t, q⟩ := hp
      try simp only [zW, if_true]
      obtain ⟨t1, t2⟩ := post _ t
      refine W.seq (W.chunk ?_)
      simp (disch := first|omega|exact zE rfl|exact zO|exact zL rfl) [c37_o8, zG, q]
      refine W.seq (W.chunk ?_)
      simp (disch := first|omega|exact zE rfl|exact zO|exact zL rfl) [c37_o9, zG, q]
      refine W.seq (W.block ?_)
      refine W.use (l3) (by simp (disch := first|omega|exact zE rfl|exact zO|exact zL rfl) [zG, q, t1, t2]) fun s1 H1 hp => ?_
      try simp only [zW, if_true]
      exact kR _ _ (by rw [hp, hz])
  · have l3 := l3A hz
    rcases sx with ⟨rfl, e0⟩ | ⟨b', rfl⟩
    all_goals
      try subst e0
      try rw [show ((0 : Nat) : Int) = 0 from rfl] at mk1
      refine Tr.w fun s1 H1 hp _ kR => ?_
      obtain ⟨rfl, rfl⟩ := hp
      have q : True := trivial
      refine W.seq (W.chunk ?_)
      simp (disch := first|omega|exact zE rfl|exact zO|exact zL rfl) [c37_o0, size_mk, get_mk_lt, get_mk_ge, frameOf, Eff.app, Heap.setOwn, q, hHs]
      refine W.seq (W.chunk ?_)
      simp (disch := first|omega|exact zE rfl|exact zO|exact zL rfl) [c37_o1, zG, q, gS, e31, app_if, app_if', hZ]
      refine W.seq (W.chunk ?_)
      simp (disch := first|omega|exact zE rfl|exact zO|exact zL rfl) [c37_o2, zG, q]
      refine W.seq (W.chunk ?_)
      simp (disch := first|omega|exact zE rfl|exact zO|exact zL rfl) [-act, c37_o3, zG, q, act_move, act_mkSl, mk1]
      refine W.assoc ?_
      refine W.seq (W.chunk ?_)
      simp (disch := first|omega|exact zE rfl|exact zO|exact zL rfl) [c37_o4, zG, q]
      refine W.seq (W.block ?_)
      refine W.use (l0) (by simp (disch := first|omega|exact zE rfl|exact zO|exact zL rfl) [zG, q, bz, bz']) fun s1 H1 hp => ?_
      obtain ⟨t, q⟩ := hp
      try simp only [zW, if_true]
      obtain ⟨t1, t2⟩ := post _ t
      refine W.seq (W.chunk ?_)
      simp (disch := first|omega|exact zE rfl|exact zO|exact zL rfl) [c37_o8, zG, q]
      refine W.seq (W.chunk ?_)
      simp (disch := first|omega|exact zE rfl|exact zO|exact zL rfl) [c37_o9, zG, q]
      refine W.seq (W.block ?_)
      refine W.use (l3) (by simp (disch := first|omega|exact zE rfl|exact zO|exact zL rfl) [zG, q, t1, t2]) fun s1 H1 hp => ?_
      try simp only [zW, if_true]
      refine W.seq (W.chunk ?_)
      simp (disch := first|omega|exact zE rfl|exact zO|exact zL rfl) [c37_o25, zG, q]
      refine W.ret ?_
      try simp only [zW, if_true]
      exact kR _ _ (by simp [T.get, hp])
end
def Pre37 (b : ARm) (args : List AV) (h : Heap) : Prop := (OkR b.a h ∧ b.a.rm b.m = true) ∧ args = [b.a.v, G b.m]
def Post37 (b : ARm) (h : Heap) (v : AV) (own : List AObj) : Prop := v = G (lsV (b.a.steps b.m)) ∧ own = []
noncomputable def T55 : CallF := addK tbl T54 37 Pre37 Post37
theorem t55 : Sound Go.Proofs.Try.prog T55 := Sound.addK follows ok t54 (by decide) _ _
abbrev K37 (J : CallF) : Prop := ∀ (h : Heap) (a : AR) (m : Int), OkR a h → a.rm m = true → J 37 [a.v, G m] h = some (G (lsV (a.steps m)), [], false)
theorem k31_54 : K31 T54 := fun h a m o m5 => by
  obtain ⟨v, own, e, l⟩ := k31 h a m o m5
  exact ⟨v, own, by rw [show T54 31 [a.v, G m] h = T25 31 [a.v, G m] h from by simp (disch := decide) only [T26, T27, T28, T29, T30, T31, T32, T33, T34, T35, T36, T37, T38, T39, T40, T41, T42, T43, T44, T45, T46, T47, T48, T49, T50, T51, T52, T53, T54, addI_ne, addX_ne, addV_ne, addK_ne]]; exact e, l⟩
theorem k37 : K37 T55 := fun h a m o g => by
  obtain ⟨v, own, e, rfl, rfl⟩ := addK_some (Pre := Pre37) (Post := Post37) (fun b args h hp => by
    obtain ⟨⟨o, g⟩, rfl⟩ := hp
    exact ⟨_, _, c37_ok T54 k31_54 (fun _ _ => by simp (disch := decide) only [T1, T2, T3, T4, T5, T6, T7, T8, T9, T10, T11, T12, T13, T14, T15, T16, T17, T18, T19, T20, T21, T22, T23, T24, T25, T26, T27, T28, T29, T30, T31, T32, T33, T34, T35, T36, T37, T38, T39, T40, T41, T42, T43, T44, T45, T46, T47, T48, T49, T50, T51, T52, T53, T54, addI_ne, addX_ne, addV_ne, addK_ne]; rfl) h o g, rfl, rfl⟩) ⟨a, m⟩ _ h ⟨⟨o, g⟩, rfl⟩
  exact e
end Go.Proofs.Ytljgfdamdcikgaa.Ev
set_option linter.unusedVariables false
set_option linter.unusedSimpArgs false
namespace Go.Proofs.Ytljgfdamdcikgaa.Ev
open Go Go.AEv
section
variable {S : List (List Nat)} {f k t u : Nat} {d : Nat → Nat} {U : List Nat}
theorem cy_ex : (∃ s, Rw S (s + 1) f f) → ∃ m, CY S f m := by
  rintro ⟨s, w⟩
  induction s using Nat.strongRecOn with
  | _ s ih =>
    by_cases c : ∃ r, r < s ∧ Rw S (r + 1) f f
    · obtain ⟨r, h1, h2⟩ := c
      exact ih r h1 h2
    · refine ⟨s, w, fun r hr => ?_⟩
      apply Decidable.byContradiction
      intro h
      exact c ⟨r, by omega, hr⟩
def fr8 (d : Nat → Nat) (U : List Nat) (j : Nat) : Nat := if j ∈ U then d j else 0
theorem fr8_new {c : Nat} (uU : u ∈ U) (hc : c ∉ U) (z : Nat) : (if z = c then d u + 1 else fr8 d U z) = fr8 (fun z => if z = c then d u + 1 else d z) (U ++ [c]) z := by
  unfold fr8
  by_cases e : z = c
  · rw [if_pos e, if_pos (by simp [e])]
    exact (if_pos e).symm
  · rw [if_neg e]
    by_cases h : z ∈ U
    · rw [if_pos h, if_pos (by simp [h])]
      exact (if_neg e).symm
    · rw [if_neg h, if_neg (by simp [h, e])]
structure O8 (S : List (List Nat)) (f : Nat) (d : Nat → Nat) (U : List Nat) (k t M o : Nat) : Prop where
  v : o = M ∨ ∃ i, i ∈ U ∧ o = d i + 1 ∧ f ∈ S.getD i []
  c : ∀ (j i : Nat), j < k → U[j]? = some i → f ∈ S.getD i [] → o ≠ 0 ∧ o ≤ d i + 1
  n : ∀ i, U[k]? = some i → f ∈ (S.getD i []).take t → o ≠ 0 ∧ o ≤ d i + 1
  m : M ≠ 0 → o ≠ 0 ∧ o ≤ M
theorem O8.init (M : Nat) : O8 S f d U 0 0 M M := ⟨.inl rfl, fun j i h => absurd h (by omega), fun i _ h => by simp at h, fun h => ⟨h, Nat.le_refl _⟩⟩
theorem O8.skip {M o c : Nat} (l : O8 S f d U k t M o) (hu : U[k]? = some u) (hc : (S.getD u [])[t]? = some c) (hn : c ≠ f) : O8 S f d U k (t + 1) M o :=
  ⟨l.v, l.c, fun i hi h => by
    rw [hu] at hi; cases hi
    rw [take_s hc] at h
    rcases List.mem_append.1 h with a | a
    · exact l.n u hu a
    · exact absurd (List.mem_singleton.1 a).symm hn, l.m⟩
theorem O8.hit {M o : Nat} (l : O8 S f d U k t M o) (hu : U[k]? = some u) (hc : (S.getD u [])[t]? = some f) : O8 S f d U k (t + 1) M (if o = 0 ∨ d u + 1 < o then d u + 1 else o) := by
  have fS : f ∈ S.getD u [] := List.mem_iff_getElem?.2 ⟨t, hc⟩
  by_cases h : o = 0 ∨ d u + 1 < o
  · rw [if_pos h]
    refine ⟨.inr ⟨u, List.mem_iff_getElem?.2 ⟨k, hu⟩, rfl, fS⟩, fun j i hj hi hf => ?_, fun i hi hf => ?_, fun hm => ?_⟩
    · have := l.c j i hj hi hf
      omega
    · rw [hu] at hi; cases hi
      exact ⟨by omega, Nat.le_refl _⟩
    · have := l.m hm
      omega
  · rw [if_neg h]
    refine ⟨l.v, l.c, fun i hi hf => ?_, l.m⟩
    rw [hu] at hi; cases hi
    omega
theorem O8.push {M o c : Nat} (l : O8 S f d U k t M o) (hk : k < U.length) (hc : c ∉ U) (w : Nat) : O8 S f (fun z => if z = c then w else d z) (U ++ [c]) k t M o := by
  have old : ∀ z, z ∈ U → (if z = c then w else d z) = d z := fun z hz => if_neg fun e => hc (by rw [← e]; exact hz)
  have mem : ∀ {j z : Nat}, U[j]? = some z → z ∈ U := fun h => List.mem_iff_getElem?.2 ⟨_, h⟩
  refine ⟨?_, fun j i hj hi hf => ?_, fun i hi hf => ?_, l.m⟩
  · rcases l.v with h | ⟨i, h1, h2, h3⟩
    · exact .inl h
    · refine .inr ⟨i, List.mem_append_left _ h1, ?_, h3⟩
      show o = (if i = c then w else d i) + 1
      rw [old i h1]; exact h2
  · rw [List.getElem?_append_left (by omega)] at hi
    show o ≠ 0 ∧ o ≤ (if i = c then w else d i) + 1
    rw [old i (mem hi)]
    exact l.c j i hj hi hf
  · rw [List.getElem?_append_left hk] at hi
    show o ≠ 0 ∧ o ≤ (if i = c then w else d i) + 1
    rw [old i (mem hi)]
    exact l.n i hi hf
theorem O8.next {M o : Nat} (l : O8 S f d U k t M o) (hu : U[k]? = some u) (ht : t = (S.getD u []).length) : O8 S f d U (k + 1) 0 M o :=
  ⟨l.v, fun j i hj hi hf => by
    by_cases e : j = k
    · subst e
      rw [hu] at hi; cases hi
      exact l.n u hu (by rw [ht, List.take_length]; exact hf)
    · exact l.c j i (by omega) hi hf, fun i _ h => by simp at h, l.m⟩
theorem BQ.key (b : BQ S f d U U.length 0) : ∀ r z, Rw S r f z → z ∈ U ∧ d z ≤ r := fun r => by
  induction r with
  | zero =>
    intro z hz
    have e : f = z := hz
    rw [← e]; exact ⟨b.fQ, by rw [b.f0]; exact Nat.le_refl _⟩
  | succ r ih =>
    intro z hz
    obtain ⟨y, h1, h2⟩ := hz.last
    obtain ⟨h3, h4⟩ := ih y h1
    obtain ⟨j, hj⟩ := List.mem_iff_getElem?.1 h3
    have hjl := (List.getElem?_eq_some_iff.1 hj).1
    obtain ⟨h5, h6⟩ := b.ch j y hjl hj z h2
    exact ⟨h5, by omega⟩
theorem O8.done {M o : Nat} (b : BQ S f d U U.length 0) (l : O8 S f d U U.length 0 M o) (mc : MC S f M) : MC S (f + 1) o := by
  by_cases c : ∃ s, Rw S (s + 1) f f
  · obtain ⟨m, cy⟩ := cy_ex c
    have := mc.put cy
    obtain ⟨y, h1, h2⟩ := cy.1.last
    obtain ⟨h3, h4⟩ := b.key m y h1
    obtain ⟨j, hj⟩ := List.mem_iff_getElem?.1 h3
    have h5 := l.c j y (List.getElem?_eq_some_iff.1 hj).1 hj h2
    have h6 := l.m
    have e : (if M = 0 ∨ m + 1 < M then m + 1 else M) = o := by
      rcases l.v with h | ⟨i, a1, a2, a3⟩
      · rw [if_neg (by omega)]; exact h.symm
      · have := cy.2 _ ((b.wk i a1).snoc a3)
        by_cases c2 : M = 0 ∨ m + 1 < M
        · rw [if_pos c2]; omega
        · rw [if_neg c2]
          have := h6 (by omega)
          omega
    rw [e] at this
    exact this
  · have nc : ∀ s, ¬ Rw S (s + 1) f f := fun s w => c ⟨s, w⟩
    rcases l.v with h | ⟨i, a1, a2, a3⟩
    · rw [h]; exact mc.skip nc
    · exact absurd ((b.wk i a1).snoc a3) (nc _)
end
end Go.Proofs.Ytljgfdamdcikgaa.Ev
set_option linter.unusedVariables false
set_option linter.unusedSimpArgs false
namespace Go.Proofs.Ytljgfdamdcikgaa.Ev
open Go Go.AEv
attribute [local simp] evFunc initS evOps_c evTrim_c evSkip_c evExit_c evRet_c evSeq_c evCond_c evBlock_c evDraw_c runOps_n runOps_c exec_n exec_g pure1_c act AOpd.ev T.get T.set T.put evBin evUn forceT_eq forceV_eq forceL_eq evRess evRes one keep runFP_n runFP_c app_none AV.flats AV.flat came_some List.getElem?_cons_zero List.getElem?_cons_succ beqT wrapI idxI tdivI tmodI decT decF ibT ibF inT inF evScope_c if_pos if_neg Cm_some thenW_n thenW_e thenW_r blkW_n blkW_e blkW_r goI kn putAt AV.cells fillA loadA takeA mk Eff.isAll Eff.isNone Eff.commutes Eff.spares okPair apart eqAgg fits LK.fits allEq aveq eqk mmA
section
variable {S : List (List Nat)} {f : Nat}
structure M8 (Hk : Heap) (n : Nat) (b : Nat) (far : Nat → Nat) (xq : AV) (U : List Nat) (h : Heap) : Prop where
  kf : Kp (fun _ => False) Hk h
  gf : h.get b = .cells 1 n (gn (lN far n))
  lq : ∃ bq, xq = .slice bq 0 U.length U.length ∧ h.get bq = .cells 1 U.length (gn U) ∧ Hk.size ≤ bq ∧ bq ≠ b
theorem M8.set {Hk h : Heap} {n b : Nat} {far : Nat → Nat} {xq : AV} {U : List Nat} (r : M8 Hk n b far xq U h) (hb : Hk.size ≤ b) (hN : Hk.N ≤ b) {c : Nat} (hc : c < n) (v : Nat) : ∃ H, Eff.app (.put b n c [G v]) h = some H ∧ M8 Hk n b (fun z => if z = c then v else far z) xq U H := by
  have hNh : h.N ≤ b := by rw [r.kf.N]; exact hN
  obtain ⟨bq, e1, e2, e3, e4⟩ := r.lq
  refine ⟨_, put_gen h b n c 1 _ _ hNh r.gf (by rw [lN_len]; show c + 1 ≤ n; omega), r.kf.updn b _ hNh hb, ?_, bq, e1, ?_, e3, e4⟩
  · rw [upd_same _ _ _ hNh (get_lt r.gf (by simp))]
    simp only [putAt]
    rw [lN_set _ hc]
  · rw [upd_ne _ _ _ _ hNh e4.symm]; exact e2
theorem M8.push {Hk h : Heap} {n b : Nat} {far : Nat → Nat} {xq : AV} {U : List Nat} (k0 : Nat) (r : M8 Hk n b far xq U h) (hkN : Hk.N ≤ Hk.size) (c : Nat) (hn : U.length ≤ 1000) :
    ∃ x1 e H, appA (h.plus [.cells 1 1 [G c]]) k0 none 1 8 1 [G c] xq = some (x1, e) ∧ Eff.app e (h.plus [.cells 1 1 [G c]]) = some H ∧ M8 Hk n b far x1 (U ++ [c]) H := by
  obtain ⟨bq, rfl, e2, e3, e4⟩ := r.lq
  have g2 := plus_keep [.cells 1 1 [G (c : Int)]] e2 (by simp)
  have hN' : (h.plus [.cells 1 1 [G (c : Int)]]).N ≤ bq := by rw [plus_N, r.kf.N]; omega
  have x := ext_gen (h.plus [.cells 1 1 [G (c : Int)]]) bq U.length 1 (gn U) [G c] hN' g2 (gn_len U)
  have blt := get_lt e2 (by simp)
  refine ⟨.slice bq 0 (U.length + 1) (U.length + 1), .ext bq U.length 1 [G c], _, ?_, x, (r.kf.trans (Kp.plus _ _)).updn _ _ hN' e3, ?_, bq, by simp, ?_, e3, e4⟩
  · simp only [appA, Nat.mul_one, Nat.one_mul]
    rw [if_neg (by decide), if_pos ⟨trivial, by simp, by omega⟩]
  · rw [upd_ne _ _ _ _ hN' e4]; exact plus_keep _ r.gf (by simp)
  · rw [upd_same _ _ _ hN' (by rw [plus_size]; omega), gn_app]
    simp [gn_len]
structure R8 (S : List (List Nat)) (f : Nat) (Hk : Heap) (b k t M o : Nat) (xq : AV) (U : List Nat) (d : Nat → Nat) (h : Heap) : Prop where
  bq : BQ S f d U k t
  o8 : O8 S f d U k t M o
  mm : M8 Hk S.length b (fr8 d U) xq U h
  ob : o ≤ 100000
def X8 (S : List (List Nat)) (f : Nat) (Hk : Heap) (b k u t M o : Nat) (xq : AV) (h : Heap) : Prop := ∃ U d, R8 S f Hk b k t M o xq U d h ∧ U[k]? = some u
def P8 (S : List (List Nat)) (f : Nat) (Hk : Heap) (x : AV) (b k u M : Nat) (t : Nat) : SP := fun s h => ∃ o xq, X8 S f Hk b k u t M o xq h ∧ s.get [false, true] = x ∧ s.get [true, true] = G S.length ∧ s.get [false, false, false] = G (o : Nat) ∧ s.get [true, false, false] = G f ∧ s.get [false, true, false] = .slice b 0 S.length S.length ∧ s.get [true, true, false] = xq ∧ s.get [false, false, true] = G k ∧ s.get [true, false, true] = G u ∧ s.get [false, true, true] = G t
def P8q (S : List (List Nat)) (f : Nat) (Hk : Heap) (x : AV) (b k u M : Nat) (t : Nat) : SP := fun s h => ∃ o xq, X8 S f Hk b k u t M o xq h ∧ s.get [false, true] = x ∧ s.get [true, true] = G S.length ∧ s.get [false, false, false] = G (o : Nat) ∧ s.get [true, false, false] = G f ∧ s.get [false, true, false] = .slice b 0 S.length S.length ∧ s.get [true, true, false] = xq ∧ s.get [false, false, true] = G k
set_option maxHeartbeats 2000000 in
theorem c38_l0_ok (J : CallF) (os : OkS S) {Hk : Heap} {x : AV} (ln : LN Hk x S) {b k u M : Nat} (hb : Hk.size ≤ b) (hN : Hk.N ≤ b) (hkN : Hk.N ≤ Hk.size) (hu' : u < S.length) :
    Tr tbl J c38_l0 (P8 S f Hk x b k u M 0) (.exit 4) (P8q S f Hk x b k u M (S.getD u []).length) := by
  have n2 := os.n
  have l2 := os.len u
  refine Tr.rounds (P := P8 S f Hk x b k u M) (M := (S.getD u []).length) (fun t ht => ?_) ?_ (by simp) 0 (by omega)
  · refine Tr.w fun s1 H1 hp R kR => W.trim ?_
    obtain ⟨o, xq, ⟨U, d, r, hu⟩, q⟩ := hp
    dsimp only [P8] at kR
    obtain ⟨rs, h1, h2, h3⟩ := ln.kp r.mm.kf
    obtain ⟨bx, rfl, gx⟩ : ∃ b, x = .slice b 0 S.length S.length ∧ H1.get b = .cells 1 S.length rs := by
      rcases h1 with ⟨_, e⟩ | h
      · omega
      · exact h
    obtain ⟨y, ey, rv⟩ := h3 u hu'
    have ey' := getI ey
    obtain ⟨by', vy, rfl, gy⟩ : ∃ b v, y = .slice b 0 (S.getD u []).length v ∧ H1.get b = .cells 1 v (gn (S.getD u [])) := by
      rcases rv with ⟨_, e⟩ | ⟨b, v, e, g⟩
      · have : (gn (S.getD u [])).length = 0 := by rw [e]; rfl
        rw [gn_len] at this; omega
      · rw [gn_len] at e; exact ⟨b, v, e, g⟩
    have e1 := gn_at ht
    have e1' := getI e1
    have lg := gn_len (S.getD u [])
    have cS := gD_some ht
    have hj := os.lt u _ (gD_mem ht)
    have uU := r.bq.uQ hu
    have hkU := (List.getElem?_eq_some_iff.1 hu).1
    have du := r.bq.du uU
    have hU := r.bq.len
    have gf := r.mm.gf
    have e2 := lN_at (fr8 d U) hu'
    have fu : fr8 d U u = d u := if_pos uU
    rw [fu] at e2
    have e2' := getI e2
    have lf := lN_len (fr8 d U) S.length
    have e3 := lN_at (fr8 d U) hj
    have ob := r.ob
    generalize hc : (S.getD u []).getD t 0 = c at *
    by_cases cf : c = f
    · subst cf
      have o2 := r.o8.hit hu cS
      have b2 := r.bq.old hu cS r.bq.fQ
      by_cases ho : o = 0 ∨ d u + 1 < o
      · rw [if_pos ho] at o2
        have x2 : X8 S c Hk b k u (t + 1) M (d u + 1) xq H1 := ⟨U, d, ⟨b2, o2, r.mm, by omega⟩, hu⟩
        clear r h1 h3 rv ln o2 b2 fu hc e3
        generalize gn (lN (fr8 d U) S.length) = c2 at *
        generalize gn (S.getD u []) = cs at *
        generalize d u = dv at *
        generalize (S.getD u []).length = l at *
        generalize hnn : S.length = n at *
        by_cases o0 : o = 0
        · subst o0
          refine W.assoc ?_
          refine W.seq (W.chunk ?_)
          simp (disch := first|omega|exact zE rfl|exact zO|exact zL rfl) [c38_o12, zG, q, gx, ey, ey', h2]
          refine W.seq (W.chunk ?_)
          simp (disch := first|omega|exact zE rfl|exact zO|exact zL rfl) [zG, q]
          refine W.seq (W.block ?_)
          refine W.seq (W.chunk ?_)
          simp (disch := first|omega|exact zE rfl|exact zO|exact zL rfl) [c38_o13, zG, q, gx, ey, ey', h2, gy, e1, e1', lg]
          refine W.assoc ?_
          refine W.seq (W.chunk ?_)
          simp (disch := first|omega|exact zE rfl|exact zO|exact zL rfl) [c38_o14, zG, q, gf, e2, e2', lf]
          refine W.seq (W.chunk ?_)
          simp (disch := first|omega|exact zE rfl|exact zO|exact zL rfl) [c38_o15, zG, q, gf, e2, e2', lf]
          refine W.seq (W.chunk ?_)
          simp (disch := first|omega|exact zE rfl|exact zO|exact zL rfl) [c38_o16, zG, q]
          refine W.chunk ?_
          simp (disch := first|omega|exact zE rfl|exact zO|exact zL rfl) [c38_o17, c38_o18, zG, q]
          refine W.chunk ?_
          simp (disch := first|omega|exact zE rfl|exact zO|exact zL rfl) [c38_o19, zG, q]
          exact kR _ _ ⟨_, _, x2, by simp [T.get, q]⟩
        · have ho' : dv + 1 < o := by omega
          refine W.assoc ?_
          refine W.seq (W.chunk ?_)
          simp (disch := first|omega|exact zE rfl|exact zO|exact zL rfl) [c38_o12, zG, q, gx, ey, ey', h2]
          refine W.seq (W.chunk ?_)
          simp (disch := first|omega|exact zE rfl|exact zO|exact zL rfl) [zG, q]
          refine W.seq (W.block ?_)
          refine W.seq (W.chunk ?_)
          simp (disch := first|omega|exact zE rfl|exact zO|exact zL rfl) [c38_o13, zG, q, gx, ey, ey', h2, gy, e1, e1', lg]
          refine W.assoc ?_
          refine W.seq (W.chunk ?_)
          simp (disch := first|omega|exact zE rfl|exact zO|exact zL rfl) [c38_o14, zG, q, gf, e2, e2', lf]
          refine W.seq (W.chunk ?_)
          simp (disch := first|omega|exact zE rfl|exact zO|exact zL rfl) [c38_o15, zG, q, gf, e2, e2', lf]
          refine W.seq (W.chunk ?_)
          simp (disch := first|omega|exact zE rfl|exact zO|exact zL rfl) [c38_o16, zG, q]
          refine W.chunk ?_
          simp (disch := first|omega|exact zE rfl|exact zO|exact zL rfl) [c38_o17, c38_o18, zG, q]
          refine W.chunk ?_
          simp (disch := first|omega|exact zE rfl|exact zO|exact zL rfl) [c38_o19, zG, q]
          exact kR _ _ ⟨_, _, x2, by simp [T.get, q]⟩
      · rw [if_neg ho] at o2
        have x2 : X8 S c Hk b k u (t + 1) M o xq H1 := ⟨U, d, ⟨b2, o2, r.mm, ob⟩, hu⟩
        have o0 : ¬ o = 0 := fun e => ho (.inl e)
        have o1 : ¬ d u + 1 < o := fun e => ho (.inr e)
        clear r h1 h3 rv ln o2 b2 fu hc e3 ho
        generalize gn (lN (fr8 d U) S.length) = c2 at *
        generalize gn (S.getD u []) = cs at *
        generalize d u = dv at *
        generalize (S.getD u []).length = l at *
        generalize hnn : S.length = n at *
        refine W.assoc ?_
        refine W.seq (W.chunk ?_)
        simp (disch := first|omega|exact zE rfl|exact zO|exact zL rfl) [c38_o12, zG, q, gx, ey, ey', h2]
        refine W.seq (W.chunk ?_)
        simp (disch := first|omega|exact zE rfl|exact zO|exact zL rfl) [zG, q]
        refine W.seq (W.block ?_)
        refine W.seq (W.chunk ?_)
        simp (disch := first|omega|exact zE rfl|exact zO|exact zL rfl) [c38_o13, zG, q, gx, ey, ey', h2, gy, e1, e1', lg]
        refine W.assoc ?_
        refine W.seq (W.chunk ?_)
        simp (disch := first|omega|exact zE rfl|exact zO|exact zL rfl) [c38_o14, zG, q, gf, e2, e2', lf]
        refine W.seq (W.chunk ?_)
        simp (disch := first|omega|exact zE rfl|exact zO|exact zL rfl) [c38_o15, zG, q]
        refine W.seq (W.chunk ?_)
        simp (disch := first|omega|exact zE rfl|exact zO|exact zL rfl) [c38_o16, zG, q]
        refine W.chunk ?_
        simp (disch := first|omega|exact zE rfl|exact zO|exact zL rfl) [c38_o17, c38_o18, zG, q]
        refine W.chunk ?_
        simp (disch := first|omega|exact zE rfl|exact zO|exact zL rfl) [c38_o19, zG, q]
        exact kR _ _ ⟨_, _, x2, by simp [T.get, q]⟩
    · have o2 := r.o8.skip hu cS cf
      have cf' : ¬ (c : Int) = f := by omega
      by_cases cU : c ∈ U
      · have b2 := r.bq.old hu cS cU
        have x2 : X8 S f Hk b k u (t + 1) M o xq H1 := ⟨U, d, ⟨b2, o2, r.mm, ob⟩, hu⟩
        have fc : fr8 d U c = d c := if_pos cU
        have dc : d c ≠ 0 := fun e => cf (r.bq.dz cU e)
        have dc2 := r.bq.du cU
        rw [fc] at e3
        have e3' := getI e3
        clear r h1 h3 rv ln o2 b2 fu hc fc
        generalize gn (lN (fr8 d U) S.length) = c2 at *
        generalize gn (S.getD u []) = cs at *
        generalize d u = dv at *
        generalize d c = dcc at *
        generalize (S.getD u []).length = l at *
        generalize hnn : S.length = n at *
        have dc' : ¬ (dcc : Int) = 0 := by omega
        refine W.assoc ?_
        refine W.seq (W.chunk ?_)
        simp (disch := first|omega|exact zE rfl|exact zO|exact zL rfl) [c38_o12, zG, q, gx, ey, ey', h2]
        refine W.seq (W.chunk ?_)
        simp (disch := first|omega|exact zE rfl|exact zO|exact zL rfl) [zG, q]
        refine W.seq (W.block ?_)
        refine W.seq (W.chunk ?_)
        simp (disch := first|omega|exact zE rfl|exact zO|exact zL rfl) [c38_o13, zG, q, gx, ey, ey', h2, gy, e1, e1', lg]
        refine W.assoc ?_
        refine W.seq (W.chunk ?_)
        simp (disch := first|omega|exact zE rfl|exact zO|exact zL rfl) [c38_o14, zG, q, cf']
        refine W.seq (W.chunk ?_)
        simp (disch := first|omega|exact zE rfl|exact zO|exact zL rfl) [c38_o15, zG, q]
        refine W.seq (W.chunk ?_)
        simp (disch := first|omega|exact zE rfl|exact zO|exact zL rfl) [c38_o16, zG, q, gf, e3, e3', lf, cf', dc']
        refine W.chunk ?_
        simp (disch := first|omega|exact zE rfl|exact zO|exact zL rfl) [c38_o17, c38_o18, zG, q]
        refine W.chunk ?_
        simp (disch := first|omega|exact zE rfl|exact zO|exact zL rfl) [c38_o19, zG, q]
        exact kR _ _ ⟨_, _, x2, by simp [T.get, q]⟩
      · have b2 := r.bq.new os.lt hu cS cU
        have o3 := o2.push hkU cU (d u + 1)
        obtain ⟨H2, p1, m2⟩ := r.mm.set hb hN hj (d u + 1)
        obtain ⟨x1, e, H3, q1, q2, m3⟩ := m2.push H2.size hkN c (by omega)
        have fe : (fun z => if z = c then d u + 1 else fr8 d U z) = fr8 (fun z => if z = c then d u + 1 else d z) (U ++ [c]) := funext fun z => fr8_new uU cU z
        rw [fe] at m3
        have hu2 : (U ++ [c])[k]? = some u := by rw [List.getElem?_append_left hkU]; exact hu
        have x2 : X8 S f Hk b k u (t + 1) M o x1 H3 := ⟨_, _, ⟨b2, o3, m3, ob⟩, hu2⟩
        have fc : fr8 d U c = 0 := if_neg cU
        rw [fc] at e3
        have e3' := getI e3
        have ap := app1_at H2 (G (c : Nat))
        have i1 : ((d u + 1 : Nat) : Int) = (d u : Int) + 1 := by omega
        rw [i1] at p1
        clear r h1 h3 rv ln o2 o3 b2 fu hc fc m2 m3 fe i1
        generalize gn (lN (fr8 d U) S.length) = c2 at *
        generalize gn (S.getD u []) = cs at *
        generalize d u = dv at *
        generalize (S.getD u []).length = l at *
        generalize hnn : S.length = n at *
        refine W.assoc ?_
        refine W.seq (W.chunk ?_)
        simp (disch := first|omega|exact zE rfl|exact zO|exact zL rfl) [c38_o12, zG, q, gx, ey, ey', h2]
        refine W.seq (W.chunk ?_)
        simp (disch := first|omega|exact zE rfl|exact zO|exact zL rfl) [zG, q]
        refine W.seq (W.block ?_)
        refine W.seq (W.chunk ?_)
        simp (disch := first|omega|exact zE rfl|exact zO|exact zL rfl) [c38_o13, zG, q, gx, ey, ey', h2, gy, e1, e1', lg]
        refine W.assoc ?_
        refine W.seq (W.chunk ?_)
        simp (disch := first|omega|exact zE rfl|exact zO|exact zL rfl) [c38_o14, zG, q, cf']
        refine W.seq (W.chunk ?_)
        simp (disch := first|omega|exact zE rfl|exact zO|exact zL rfl) [c38_o15, zG, q]
        refine W.seq (W.chunk ?_)
        simp (disch := first|omega|exact zE rfl|exact zO|exact zL rfl) [c38_o16, zG, q, gf, e3, e3', lf, cf']
        refine W.cond (v := true) (by simp (disch := first|omega|exact zE rfl|exact zO|exact zL rfl) [zG, q]) ?_
        simp only [if_true, if_false, Bool.false_eq_true]
        refine W.seq (W.chunk ?_)
        simp (disch := first|omega|exact zE rfl|exact zO|exact zL rfl) [c38_o17, zG, q, gf, e2, e2', lf, p1]
        refine W.chunk ?_
        simp (disch := first|omega|exact zE rfl|exact zO|exact zL rfl) [c38_o18, zG, q, elems, rdOf, ap, q1, q2]
        refine W.chunk ?_
        simp (disch := first|omega|exact zE rfl|exact zO|exact zL rfl) [c38_o19, zG, q]
        exact kR _ _ ⟨_, _, x2, by simp [T.get, q]⟩
  · refine Tr.w fun s1 H1 hp R kR => W.trim ?_
    obtain ⟨o, xq, ⟨U, d, r, hu⟩, q⟩ := hp
    dsimp only [P8q] at kR
    obtain ⟨rs, h1, h2, h3⟩ := ln.kp r.mm.kf
    obtain ⟨bx, rfl, gx⟩ : ∃ b, x = .slice b 0 S.length S.length ∧ H1.get b = .cells 1 S.length rs := by
      rcases h1 with ⟨_, e⟩ | h
      · omega
      · exact h
    obtain ⟨y, ey, rv⟩ := h3 u hu'
    have ey' := getI ey
    have sy := rv.sl
    rw [gn_len] at sy
    have x2 : X8 S f Hk b k u (S.getD u []).length M o xq H1 := ⟨U, d, r, hu⟩
    clear h1 h3 rv ln r
    generalize (S.getD u []).length = l at *
    generalize hnn : S.length = n at *
    rcases sy with ⟨rfl, rfl⟩ | ⟨b1, v1, rfl⟩
    all_goals
      refine W.assoc ?_
      refine W.seq (W.chunk ?_)
      simp (disch := first|omega|exact zE rfl|exact zO|exact zL rfl) [c38_o12, zG, q, gx, ey, ey', h2]
      refine W.seq (W.chunk ?_)
      simp (disch := first|omega|exact zE rfl|exact zO|exact zL rfl) [zG, q]
      exact kR _ _ ⟨_, _, x2, by simp [T.get, q]⟩
end
section
variable {S : List (List Nat)} {f : Nat}
def X9 (S : List (List Nat)) (f : Nat) (Hk : Heap) (b k M o : Nat) (xq : AV) (h : Heap) : Prop := ∃ U d, R8 S f Hk b k 0 M o xq U d h ∧ k ≤ U.length
def P9 (S : List (List Nat)) (f : Nat) (Hk : Heap) (x : AV) (b M k : Nat) : SP := fun s h => ∃ o xq, X9 S f Hk b k M o xq h ∧ s.get [false, true] = x ∧ s.get [true, true] = G S.length ∧ s.get [false, false, false] = G (o : Nat) ∧ s.get [true, false, false] = G f ∧ s.get [false, true, false] = .slice b 0 S.length S.length ∧ s.get [true, true, false] = xq ∧ s.get [false, false, true] = G k
def X10 (S : List (List Nat)) (Hb : Heap) (f o : Nat) (h : Heap) : Prop := Kp (fun _ => False) Hb h ∧ MC S f o ∧ o ≤ 100000
def P10 (S : List (List Nat)) (Hb : Heap) (x : AV) (f g : Nat) : SP := fun s h => ∃ o, X10 S Hb g o h ∧ s.get [false, true] = x ∧ s.get [true, true] = G S.length ∧ s.get [false, false, false] = G (o : Nat) ∧ s.get [true, false, false] = G f
set_option maxHeartbeats 1000000 in
theorem c38_l1_ok (J : CallF) (os : OkS S) {Hb Hk : Heap} {x : AV} (kb : Kp (fun _ => False) Hb Hk) (ln : LN Hk x S) {b M : Nat} (hb : Hk.size ≤ b) (hN : Hk.N ≤ b) (hkN : Hk.N ≤ Hk.size) (mc : MC S f M) : ∀ n k, k + n = S.length →
    Tr tbl J c38_l1 (P9 S f Hk x b M k) (.exit 2) (P10 S Hb x f (f + 1)) := by
  have n2 := os.n
  have fin : ∀ k o xq h U d, R8 S f Hk b k 0 M o xq U d h → k = U.length → X10 S Hb (f + 1) o h := fun k o xq h U d r e => by
    subst e
    exact ⟨kb.trans r.mm.kf, r.o8.done r.bq mc, r.ob⟩
  intro n
  induction n with
  | zero =>
    intro k hk
    refine Tr.w fun s1 H1 hp R kR => ?_
    obtain ⟨o, xq, ⟨U, d, r, hkU⟩, q⟩ := hp
    have hU := r.bq.len
    obtain rfl : k = U.length := by omega
    have x2 := fin _ _ _ _ _ _ r rfl
    obtain ⟨bq, rfl, gq, _⟩ := r.mm.lq
    dsimp only [P10] at kR
    clear ln r fin
    generalize hlu : U.length = lu at *
    generalize hnn : S.length = n at *
    refine W.loop (W.trim ?_)
    refine W.assoc ?_
    refine W.seq (W.chunk ?_)
    simp (disch := first|omega|exact zE rfl|exact zO|exact zL rfl) [c38_o9, zG, q]
    refine W.seq (W.chunk ?_)
    simp (disch := first|omega|exact zE rfl|exact zO|exact zL rfl) [zG, q]
    exact kR _ _ ⟨_, x2, by simp [T.get, q]⟩
  | succ n ih =>
    intro k hk
    replace ih := ih (k + 1) (by omega)
    refine Tr.w fun s1 H1 hp R kR => ?_
    obtain ⟨o, xq, ⟨U, d, r, hkU⟩, q⟩ := hp
    have hU := r.bq.len
    by_cases c : k = U.length
    · have x2 := fin _ _ _ _ _ _ r c
      subst c
      obtain ⟨bq, rfl, gq, _⟩ := r.mm.lq
      dsimp only [P10] at kR
      clear ln r fin ih
      generalize hlu : U.length = lu at *
      generalize hnn : S.length = n at *
      refine W.loop (W.trim ?_)
      refine W.assoc ?_
      refine W.seq (W.chunk ?_)
      simp (disch := first|omega|exact zE rfl|exact zO|exact zL rfl) [c38_o9, zG, q]
      refine W.seq (W.chunk ?_)
      simp (disch := first|omega|exact zE rfl|exact zO|exact zL rfl) [zG, q]
      exact kR _ _ ⟨_, x2, by simp [T.get, q]⟩
    · have hlt : k < U.length := by omega
      have hu : U[k]? = some (U.getD k 0) := gD_some hlt
      generalize U.getD k 0 = u at *
      have uS := r.bq.lt u (r.bq.uQ hu)
      have l0 := c38_l0_ok (f := f) (k := k) (M := M) J os ln hb hN hkN uS
      unfold P8 P8q at l0
      have eu : (gn U)[k]? = some (G u) := by rw [gnm, hu]; rfl
      have eu' := getI eu
      have lU : (gn U).length = U.length := gn_len U
      have ex : X8 S f Hk b k u 0 M o xq H1 := ⟨U, d, r, hu⟩
      obtain ⟨bq, rfl, gq, _⟩ := r.mm.lq
      have post : ∀ o' xq' h', X8 S f Hk b k u (S.getD u []).length M o' xq' h' → X9 S f Hk b (k + 1) M o' xq' h' := fun o' xq' h' ⟨U', d', r', hu'⟩ =>
        ⟨U', d', ⟨r'.bq.next hu' rfl, r'.o8.next hu' rfl, r'.mm, r'.ob⟩, (List.getElem?_eq_some_iff.1 hu').1⟩
      have ex2 : ∃ o', X8 S f Hk b k u 0 M o' (AV.slice bq 0 U.length U.length) H1 ∧ (o : Int) = (o' : Nat) := ⟨_, ex, rfl⟩
      clear ln r fin
      generalize gn U = gU at *
      generalize hlu : U.length = lu at *
      generalize hnl : (S.getD u []).length = nl at *
      generalize hnn : S.length = nS at *
      refine W.loop (W.trim ?_)
      refine W.assoc ?_
      refine W.seq (W.chunk ?_)
      simp (disch := first|omega|exact zE rfl|exact zO|exact zL rfl) [c38_o9, zG, q]
      refine W.seq (W.chunk ?_)
      simp (disch := first|omega|exact zE rfl|exact zO|exact zL rfl) [zG, q]
      refine W.seq (W.block ?_)
      refine W.seq (W.chunk ?_)
      simp (disch := first|omega|exact zE rfl|exact zO|exact zL rfl) [c38_o10, zG, q, gq, eu, eu', lU]
      refine W.seq (W.chunk ?_)
      simp (disch := first|omega|exact zE rfl|exact zO|exact zL rfl) [c38_o11, zG, q]
      refine W.block ?_
      refine W.use (l0) (by simp (disch := first|omega|exact zE rfl|exact zO|exact zL rfl) [zG, q, ex, ex2]) fun s1 H1 hp => ?_
      obtain ⟨o2, xq2, x2, q⟩ := hp
      try simp only [zW, if_true]
      refine W.chunk ?_
      simp (disch := first|omega|exact zE rfl|exact zO|exact zL rfl) [c38_o20, zG, q]
      exact W.use ih ⟨o2, xq2, post _ _ _ x2, by simp [T.get, q, hnn]⟩ kR
theorem m8_init {H : Heap} {n : Nat} (hf : f < n) : M8 H n H.size (fr8 (fun _ => 0) [f]) (.slice (H.size + 1) 0 1 1) [f] ((H.plus [.cells 1 n (List.replicate n (G 0))]).plus [.cells 1 1 [G f]]) := by
  have e1 : (H.plus [.cells 1 n (List.replicate n (G 0))]).size = H.size + 1 := by rw [plus_size]; rfl
  refine ⟨(Kp.plus _ _).trans (Kp.plus _ _), ?_, H.size + 1, rfl, plus_at0 _ _ _ _ e1, by omega, by omega⟩
  rw [lN_zero, lN_ext (f := fr8 (fun _ => 0) [f]) (g := fun _ => 0) fun t _ => by unfold fr8; split <;> rfl]
  exact plus_keep _ (plus_at0 _ _ _ _ rfl) (by simp)
set_option maxHeartbeats 1000000 in
theorem c38_l2_ok (J : CallF) (os : OkS S) {Hb : Heap} {x : AV} (ln : LN Hb x S) : Tr tbl J c38_l2 (P10 S Hb x 0 0) (.exit 0) (fun s h => ∃ o, MC S S.length o ∧ s.get [false, false, false] = G (o : Nat)) := by
  have n2 := os.n
  refine Tr.rounds (P := fun f => P10 S Hb x f f) (M := S.length) (fun f hf => ?_) ?_ (by simp) 0 (by omega)
  · refine Tr.w fun s1 H1 hp R kR => W.trim ?_
    obtain ⟨o, ⟨kp, mc, ob⟩, q⟩ := hp
    have mk1 : mkSl H1 8 (G 0) S.length = some (.slice H1.size 0 S.length S.length, { eff := .grow [.cells 1 S.length (List.replicate S.length (G 0))] }) := mkSl_ok _ _ _ _ _ rfl (by omega)
    have hN : H1.N ≤ H1.size := by unfold Heap.size; omega
    have m8 := m8_init (H := H1) hf
    have l1 := c38_l1_ok J os kp (ln.kp kp) (Nat.le_refl _) hN hN mc S.length 0 (by omega)
    unfold P9 P10 at l1
    have x9 : X9 S f H1 H1.size 0 o o (.slice (H1.size + 1) 0 1 1) ((H1.plus [.cells 1 S.length (List.replicate S.length (G 0))]).plus [.cells 1 1 [G f]]) := ⟨[f], fun _ => 0, ⟨BQ.init hf, O8.init o, m8, ob⟩, Nat.zero_le _⟩
    have ex : ∃ o', X9 S f H1 H1.size 0 o o' (.slice (H1.size + 1) 0 1 1) ((H1.plus [.cells 1 S.length (List.replicate S.length (G 0))]).plus [.cells 1 1 [G f]]) ∧ (o : Int) = (o' : Nat) := ⟨_, x9, rfl⟩
    have e1 : (H1.plus [.cells 1 S.length (List.replicate S.length (G 0))]).size = H1.size + 1 := by rw [plus_size]; rfl
    dsimp only [P10] at kR
    clear m8 ln kp mc
    generalize List.replicate S.length (G 0) = rp at *
    generalize hnn : S.length = nS at *
    refine W.assoc ?_
    refine W.seq (W.chunk ?_)
    simp (disch := first|omega|exact zE rfl|exact zO|exact zL rfl) [c38_o5, zG, q]
    refine W.seq (W.chunk ?_)
    simp (disch := first|omega|exact zE rfl|exact zO|exact zL rfl) [zG, q]
    refine W.seq (W.block ?_)
    refine W.seq (W.chunk ?_)
    simp (disch := first|omega|exact zE rfl|exact zO|exact zL rfl) [-act, c38_o6, zG, q, act_move, act_mkSl, mk1]
    refine W.seq (W.chunk ?_)
    simp (disch := first|omega|exact zE rfl|exact zO|exact zL rfl) [c38_o7, zG, q, e1]
    refine W.seq (W.chunk ?_)
    simp (disch := first|omega|exact zE rfl|exact zO|exact zL rfl) [c38_o8, zG, q]
    refine W.block ?_
    refine W.use (l1) (by simp (disch := first|omega|exact zE rfl|exact zO|exact zL rfl) [zG, q, x9, ex, e1]) fun s1 H1 hp => ?_
    obtain ⟨o2, x2, q⟩ := hp
    try simp only [zW, if_true]
    refine W.chunk ?_
    simp (disch := first|omega|exact zE rfl|exact zO|exact zL rfl) [c38_o21, zG, q]
    exact kR _ _ ⟨o2, x2, by simp [T.get, q]⟩
  · refine Tr.w fun s1 H1 hp R kR => W.trim ?_
    obtain ⟨o, ⟨kp, mc, ob⟩, q⟩ := hp
    clear ln kp
    generalize hnn : S.length = nS at *
    refine W.assoc ?_
    refine W.seq (W.chunk ?_)
    simp (disch := first|omega|exact zE rfl|exact zO|exact zL rfl) [c38_o5, zG, q]
    refine W.seq (W.chunk ?_)
    simp (disch := first|omega|exact zE rfl|exact zO|exact zL rfl) [zG, q]
    exact kR _ _ ⟨o, mc, by simp [T.get, q]⟩
end
section
variable {a : AR} {m : Int}
theorem c38_ok (J : CallF) (k31 : K31 J) (hJ : ∀ a h, J 38 a h = none) (h : Heap) (o : OkR a h) (g : a.rm m = true) : ∃ v own, CallsTo tbl J 38 [a.v, G m] h (v, own, false) ∧ ∃ z : Nat, v = G z ∧ own = [] ∧ MC (a.steps m) (a.steps m).length z := by
  obtain ⟨r1, r2⟩ := a.rm_iff g
  obtain ⟨os, s243, sr⟩ := AR.steps_ok g
  obtain ⟨Hs, hHs⟩ : ∃ H, (⟨h.get, h.size, [.cells 0 3 [G a.q, a.x, a.y]]⟩ : Heap) = H := ⟨_, rfl⟩
  have oH : OkR a Hs := by rw [← hHs]; exact o.lo _
  have gS : Hs.get h.size = .cells 0 3 [G a.q, a.x, a.y] := by rw [← hHs, get_mk_ge _ _ _ _ (Nat.le_refl _), Nat.sub_self]; rfl
  obtain ⟨x, own, e31, l31⟩ := k31 Hs a.g m.toNat (oH.g r1) (by omega)
  rw [a.gv r1, show ((m.toNat : Nat) : Int) = m by omega] at e31
  obtain ⟨Z, hZ⟩ : ∃ Z, Hs.plus own = Z := ⟨_, rfl⟩
  rw [hZ] at l31
  have ln : LN Z x (a.steps m) := l31.ln
  generalize a.steps m = S at *
  have n2 := os.n
  have l2 := c38_l2_ok J os ln
  unfold P10 at l2
  have x10 : X10 S Z 0 0 Z := ⟨Kp.refl _, MC.nil, by omega⟩
  have ex : ∃ o', X10 S Z 0 o' Z ∧ (0 : Int) = (o' : Nat) := ⟨_, x10, rfl⟩
  obtain ⟨rs, sx, _⟩ := ln
  have sx : (x = .nils ∧ S.length = 0) ∨ ∃ b, x = .slice b 0 S.length S.length := by
    rcases sx with h | ⟨b, h, _⟩
    · exact .inl h
    · exact .inr ⟨b, h⟩
  refine Tr.fny (cf := c38) (e := .ret) (s := T.set (T.set .leaf [] a.v) [false] (G m)) (by decide) rfl (hJ _ _) rfl rfl (by simp) ?_
  have fin : ∀ (z : Nat) (h' : Heap), MC S S.length z → ∃ z' : Nat, one [G (z : Int)] = G z' ∧ (if (one [G (z : Int)]).flat then [] else h'.own) = [] ∧ MC S S.length z' := fun z h' mc => ⟨z, rfl, rfl, mc⟩
  clear os oH o l31
  generalize hnn : S.length = n at *
  rcases sx with ⟨rfl, e0⟩ | ⟨b', rfl⟩
  all_goals
    try subst e0
    refine Tr.w fun s1 H1 hp _ kR => ?_
    obtain ⟨rfl, rfl⟩ := hp
    have q : True := trivial
    refine W.seq (W.chunk ?_)
    simp (disch := first|omega|exact zE rfl|exact zO|exact zL rfl) [c38_o0, size_mk, get_mk_lt, get_mk_ge, frameOf, Eff.app, Heap.setOwn, q, hHs]
    refine W.seq (W.chunk ?_)
    simp (disch := first|omega|exact zE rfl|exact zO|exact zL rfl) [c38_o1, zG, q, gS, e31, app_if, app_if', hZ]
    refine W.seq (W.chunk ?_)
    simp (disch := first|omega|exact zE rfl|exact zO|exact zL rfl) [c38_o2, zG, q]
    refine W.seq (W.chunk ?_)
    simp (disch := first|omega|exact zE rfl|exact zO|exact zL rfl) [c38_o3, zG, q]
    refine W.assoc ?_
    refine W.seq (W.chunk ?_)
    simp (disch := first|omega|exact zE rfl|exact zO|exact zL rfl) [c38_o4, zG, q]
    refine W.seq (W.block ?_)
    refine W.use (l2) (by simp (disch := first|omega|exact zE rfl|exact zO|exact zL rfl) [zG, q, x10, ex]) fun s1 H1 hp => ?_
    obtain ⟨z, mc, q⟩ := hp
    try simp only [zW, if_true]
    refine W.seq (W.chunk ?_)
    simp (disch := first|omega|exact zE rfl|exact zO|exact zL rfl) [c38_o22, zG, q]
    refine W.ret ?_
    try simp only [zW, if_true]
    refine kR _ _ ⟨[G z], by simp [T.get, c38, evRess, evRes, q], ?_⟩
    exact fin z _ mc
end
def Post38 (b : ARm) (h : Heap) (v : AV) (own : List AObj) : Prop := ∃ z : Nat, v = G z ∧ own = [] ∧ MC (b.a.steps b.m) (b.a.steps b.m).length z
noncomputable def T56 : CallF := addK tbl T55 38 Pre37 Post38
theorem t56 : Sound Go.Proofs.Try.prog T56 := Sound.addK follows ok t55 (by decide) _ _
abbrev K38 (J : CallF) : Prop := ∀ (h : Heap) (a : AR) (m : Int), OkR a h → a.rm m = true → ∃ z : Nat, J 38 [a.v, G m] h = some (G z, [], false) ∧ MC (a.steps m) (a.steps m).length z
theorem k31_55 : K31 T55 := fun h a m o m5 => by
  obtain ⟨v, own, e, l⟩ := k31 h a m o m5
  exact ⟨v, own, by rw [show T55 31 [a.v, G m] h = T25 31 [a.v, G m] h from by simp (disch := decide) only [T26, T27, T28, T29, T30, T31, T32, T33, T34, T35, T36, T37, T38, T39, T40, T41, T42, T43, T44, T45, T46, T47, T48, T49, T50, T51, T52, T53, T54, T55, addI_ne, addX_ne, addV_ne, addK_ne]]; exact e, l⟩
theorem k38 : K38 T56 := fun h a m o g => by
  obtain ⟨v, own, e, z, rfl, rfl, mc⟩ := addK_some (Pre := Pre37) (Post := Post38) (fun b args h hp => by
    obtain ⟨⟨o, g⟩, rfl⟩ := hp
    exact c38_ok T55 k31_55 (fun _ _ => by simp (disch := decide) only [T1, T2, T3, T4, T5, T6, T7, T8, T9, T10, T11, T12, T13, T14, T15, T16, T17, T18, T19, T20, T21, T22, T23, T24, T25, T26, T27, T28, T29, T30, T31, T32, T33, T34, T35, T36, T37, T38, T39, T40, T41, T42, T43, T44, T45, T46, T47, T48, T49, T50, T51, T52, T53, T54, T55, addI_ne, addX_ne, addV_ne, addK_ne]; rfl) h o g) ⟨a, m⟩ _ h ⟨⟨o, g⟩, rfl⟩
  exact ⟨z, e, mc⟩
structure KS (a : AG) (m : Nat) (L : List (List Nat)) : Prop where
  w : ∀ w ∈ L, w.length = m ∧ (∀ c ∈ w, c < a.q) ∧ bsd a.B w = true
  n : ∀ i, i + 1 < L.length → blw a.W (L.getD i []) (L.getD (i + 1) []) = true
  l : L.length ≤ 1000
  m1 : 1 ≤ m
  m5 : m ≤ 5
section
variable {a : AG} {m : Nat} {L : List (List Nat)} {b v : Nat}
theorem KS.at {i : Nat} (k : KS a m L) (hi : i < L.length) : (L.getD i []).length = m ∧ (∀ c ∈ L.getD i [], c < a.q) ∧ bsd a.B (L.getD i []) = true := k.w _ (by
  rw [List.getD_eq_getElem?_getD, List.getElem?_eq_getElem hi]
  exact List.getElem_mem _)
theorem c46_ok (J : CallF) (k68 : KW 68 J) (k69 : KB 69 J) (hJ : ∀ a h, J 46 a h = none) (h : Heap) (o : OkG a h) (k : KS a m L) (g : h.get b = .cells 1 v (wsL L)) : CallsTo tbl J 46 [a.v, .slice b 0 L.length v] h (.bool true, [], false) := by
  refine Tr.fnv (cf := c46) (e := .ret) (s := T.set (T.set .leaf [] a.v) [false] (.slice b 0 L.length v)) (by decide) rfl (hJ _ _) rfl rfl rfl (by simp) ?_
  refine Tr.post (Q := (fun s h => s.get [true, false] = .bool true)) (fun s h q => by simp [c46, q]) ?_
  have oF := o.fr
  have gF : (frameOf h).get b = .cells 1 v (wsL L) := by
    unfold frameOf
    rw [get_mk_lt _ _ _ _ (get_lt g (by simp))]; exact g
  generalize frameOf h = H0 at *
  obtain ⟨H, hH⟩ : ∃ H, H0.plus [.cells 0 3 [G a.q, a.x, a.y]] = H := ⟨_, rfl⟩
  have kH : Kp (fun _ => False) H0 H := by rw [← hH]; exact Kp.plus _ _
  have gS : H.get H0.size = .cells 0 3 [G a.q, a.x, a.y] := by rw [← hH]; exact plus_at0 _ _ _ _ rfl
  have gH := kH.at gF (by simp) id
  have oH := oF.kp kH
  have l0 : Tr tbl J c46_l0 (fun s h => h = H ∧ s.get [false] = .slice b 0 L.length v ∧ s.get [true] = .ptr H0.size 0 3 ∧ s.get [false, true] = G ((0 : Nat) : Int)) (.exit 0) (fun s h => h = H) := by
    refine Tr.rounds (P := fun i => (fun s h => h = H ∧ s.get [false] = .slice b 0 L.length v ∧ s.get [true] = .ptr H0.size 0 3 ∧ s.get [false, true] = G (i : Nat))) (M := L.length) (fun i hi => ?_) ?_ (by simp) 0 (by omega)
    · have ki := k.at hi
      have e68 := k68 H a _ oH ki.2.1 (by have := k.m5; omega)
      rw [ki.2.2] at e68
      have wi := wsL_at (R := L) hi
      have wi' := getI wi
      have lw := wsL_len L
      have l1 := k.l
      cases i with
      | zero =>
        clear oH oF k ki gF o kH
        generalize stW (L.getD 0 []) = w0 at *
        generalize wsL L = ws at *
        generalize L.length = n at *
        refine Tr.w fun s1 H1 hp _ kR => W.trim ?_
        obtain ⟨rfl, q⟩ := hp
        refine W.assoc ?_
        refine W.seq (W.chunk ?_)
        simp (disch := first|omega|exact zE rfl|exact zO|exact zL rfl) [c46_o2, zG, q]
        refine W.seq (W.chunk ?_)
        simp (disch := first|omega|exact zE rfl|exact zO|exact zL rfl) [zG, q]
        refine W.seq (W.block ?_)
        refine W.seq (W.chunk ?_)
        simp (disch := first|omega|exact zE rfl|exact zO|exact zL rfl) [-evDraw_c, c46_o3, zG, q, evDraw_0, gS, gH, wi, wi', lw, e68, app_if, app_if']
        refine W.chunk ?_
        simp (disch := first|omega|exact zE rfl|exact zO|exact zL rfl) [c46_o4, zG, q]
        refine W.chunk ?_
        simp (disch := first|omega|exact zE rfl|exact zO|exact zL rfl) [c46_o5, zG, q]
        exact kR _ _ (by simp [T.get, q])
      | succ i =>
        have kj := k.at (i := i) (by omega)
        have e69 := k69 H a (L.getD i []) (L.getD (i + 1) []) oH kj.2.1 ki.2.1 (by have := k.m5; omega) (by rw [ki.1, kj.1])
        rw [k.n i hi] at e69
        have wj := wsL_at (R := L) (i := i) (by omega)
        have wj' := getI wj
        have n1 : ((i + 1 : Nat) : Int) = (i : Int) + 1 := by omega
        clear oH oF k ki kj gF o kH
        generalize stW (L.getD (i + 1) []) = w1 at *
        generalize stW (L.getD i []) = w0 at *
        generalize wsL L = ws at *
        generalize L.length = n at *
        refine Tr.w fun s1 H1 hp _ kR => W.trim ?_
        obtain ⟨rfl, q⟩ := hp
        refine W.assoc ?_
        refine W.seq (W.chunk ?_)
        simp (disch := first|omega|exact zE rfl|exact zO|exact zL rfl) [c46_o2, zG, q]
        refine W.seq (W.chunk ?_)
        simp (disch := first|omega|exact zE rfl|exact zO|exact zL rfl) [zG, q]
        refine W.seq (W.block ?_)
        refine W.seq (W.chunk ?_)
        simp (disch := first|omega|exact zE rfl|exact zO|exact zL rfl) [-evDraw_c, c46_o3, zG, q, evDraw_0, gS, gH, wi, wi', wj, wj', lw, e68, e69, app_if, app_if']
        refine W.chunk ?_
        simp (disch := first|omega|exact zE rfl|exact zO|exact zL rfl) [c46_o4, zG, q]
        refine W.chunk ?_
        simp (disch := first|omega|exact zE rfl|exact zO|exact zL rfl) [c46_o5, zG, q]
        exact kR _ _ (by simp [T.get, q])
    · have l1 := k.l
      clear oH oF k gF o kH gH g
      generalize L.length = n at *
      refine Tr.w fun s1 H1 hp _ kR => W.trim ?_
      obtain ⟨rfl, q⟩ := hp
      refine W.assoc ?_
      refine W.seq (W.chunk ?_)
      simp (disch := first|omega|exact zE rfl|exact zO|exact zL rfl) [c46_o2, zG, q]
      refine W.seq (W.chunk ?_)
      simp (disch := first|omega|exact zE rfl|exact zO|exact zL rfl) [zG, q]
      exact kR _ _ rfl
  clear oH oF k gF o kH gH g
  generalize L.length = n at *
  refine Tr.w fun s1 H1 hp _ kR => ?_
  obtain ⟨rfl, rfl⟩ := hp
  have q : True := trivial
  refine W.seq (W.chunk ?_)
  simp (disch := first|omega|exact zE rfl|exact zO|exact zL rfl) [c46_o0, zG, q, hH]
  refine W.assoc ?_
  refine W.seq (W.chunk ?_)
  simp (disch := first|omega|exact zE rfl|exact zO|exact zL rfl) [c46_o1, zG, q]
  refine W.seq (W.block ?_)
  refine W.use (l0) (by simp (disch := first|omega|exact zE rfl|exact zO|exact zL rfl) [zG, q]) fun s1 H1 hp => ?_
  obtain rfl := hp
  try simp only [zW, if_true]
  refine W.seq (W.chunk ?_)
  simp (disch := first|omega|exact zE rfl|exact zO|exact zL rfl) [c46_o6, zG, q]
  refine W.ret ?_
  try simp only [zW, if_true]
  exact kR _ _ (by simp [T.get])
theorem c40_ok (J : CallF) (k46 : ∀ (h : Heap) (b v : Nat), OkG a h → h.get b = .cells 1 v (wsL L) → J 46 [a.v, .slice b 0 L.length v] h = some (.bool true, [], false)) (k69 : KB 69 J) (hJ : ∀ a h, J 40 a h = none) (h : Heap) (o : OkG a h) (k : KS a m L) (hn : L ≠ []) (hr : blw a.W (L.getD (L.length - 1) []) (L.getD 0 []) = true) (g : h.get b = .cells 1 v (wsL L)) : CallsTo tbl J 40 [a.v, .slice b 0 L.length v] h (.bool true, [], false) := by
  refine Tr.fnv (cf := c40) (e := .ret) (s := T.set (T.set .leaf [] a.v) [false] (.slice b 0 L.length v)) (by decide) rfl (hJ _ _) rfl rfl rfl (by simp) ?_
  refine Tr.post (Q := (fun s h => s.get [true, false] = .bool true)) (fun s h q => by simp [c40, q]) ?_
  have oF := o.fr
  have gF : (frameOf h).get b = .cells 1 v (wsL L) := by
    unfold frameOf
    rw [get_mk_lt _ _ _ _ (get_lt g (by simp))]; exact g
  generalize frameOf h = H0 at *
  obtain ⟨H, hH⟩ : ∃ H, H0.plus [.cells 0 3 [G a.q, a.x, a.y]] = H := ⟨_, rfl⟩
  have kH : Kp (fun _ => False) H0 H := by rw [← hH]; exact Kp.plus _ _
  have gS : H.get H0.size = .cells 0 3 [G a.q, a.x, a.y] := by rw [← hH]; exact plus_at0 _ _ _ _ rfl
  have gH := kH.at gF (by simp) id
  have oH := oF.kp kH
  have e46 := k46 H b v oH gH
  obtain ⟨N, hN⟩ : ∃ N, L.length = N + 1 := ⟨L.length - 1, by have : L.length ≠ 0 := fun e => hn (List.length_eq_zero_iff.1 e); omega⟩
  have ki := k.at (i := N) (by omega)
  have kj := k.at (i := 0) (by omega)
  rw [hN, Nat.add_sub_cancel] at hr
  have e69 := k69 H a _ _ oH ki.2.1 kj.2.1 (by have := k.m5; omega) (by rw [ki.1, kj.1])
  rw [hr] at e69
  have wi := wsL_at (R := L) (i := N) (by omega)
  have wi' := getI wi
  have wj := wsL_at (R := L) (i := 0) (by omega)
  have wj' := getI wj
  have lw := wsL_len L
  have l1 := k.l
  rw [hN] at e46 lw l1 ⊢
  have n1 : ((N + 1 : Nat) : Int) = (N : Int) + 1 := by omega
  clear oH oF k ki kj gF o kH k46 hr
  generalize stW (L.getD N []) = w1 at *
  generalize stW (L.getD 0 []) = w0 at *
  generalize wsL L = ws at *
  refine Tr.w fun s1 H1 hp _ kR => ?_
  obtain ⟨rfl, rfl⟩ := hp
  have q : True := trivial
  refine W.seq (W.chunk ?_)
  simp (disch := first|omega|exact zE rfl|exact zO|exact zL rfl) [c40_o0, zG, q, hH]
  refine W.seq (W.chunk ?_)
  simp (disch := first|omega|exact zE rfl|exact zO|exact zL rfl) [-evDraw_c, c40_o1, zG, q, evDraw_0, gS, gH, wi, wi', wj, wj', lw, e46, e69, app_if, app_if']
  refine W.ret ?_
  try simp only [zW, if_true]
  exact kR _ _ (by simp [T.get])
end
section
variable {a : AG} {w : List Nat} {b v i : Nat} {ws : List AV}
theorem c39_l0_ok (J : CallF) (q3 : a.q ≤ 3) (hw : ∀ c ∈ w, c < a.q) (lw : w.length ≤ 1000) {H : Heap} {p : Nat} (gS : H.get p = .cells 0 3 [G a.q, a.x, a.y]) (g : H.get b = .cells 1 v ws) (hi : ws[i]? = some (.str (stW w))) :
    Tr tbl J c39_l0 (fun s h => h = H ∧ s.get [false] = .slice b i 1 v ∧ s.get [true] = .ptr p 0 3 ∧ s.get [false, true] = G 0 ∧ s.get [true, true] = G ((0 : Nat) : Int)) (.exit 2) (fun s h => h = H ∧ s.get [false] = .slice b i 1 v ∧ s.get [true] = .ptr p 0 3 ∧ s.get [false, true] = G 0) := by
  have hi' := getI hi
  have lwi := (List.getElem?_eq_some_iff.1 hi).1
  refine Tr.rounds (P := fun k => (fun s h => h = H ∧ s.get [false] = .slice b i 1 v ∧ s.get [true] = .ptr p 0 3 ∧ s.get [false, true] = G 0 ∧ s.get [true, true] = G (k : Nat))) (M := w.length) (fun k hk => ?_) ?_ (by simp) 0 (by omega)
  · have d1 := getD_lt hw hk
    have f1 := stW_at hw q3 hk
    have f1' := getI f1
    have lw' := stW_len w
    have n1 := u8_nat (show w.getD k 0 < 3 by omega)
    have w1 := wrap8 (w.getD k 0) (by omega)
    have dd : ¬ (a.q : Int) ≤ (w.getD k 0 : Nat) := by omega
    have d48 : ¬ (48 + (w.getD k 0 : Nat) : Int) < 48 := by omega
    clear hw
    generalize w.length = n at *
    generalize stW w = cw at *
    generalize UInt8.ofNat (48 + w.getD k 0) = u1 at *
    generalize w.getD k 0 = c1 at *
    obtain ⟨qq, x, y, tB, tW⟩ := a
    simp only at *
    refine Tr.w fun s1 H1 hp _ kR => W.trim ?_
    obtain ⟨rfl, q⟩ := hp
    refine W.assoc ?_
    refine W.seq (W.chunk ?_)
    simp (disch := first|omega|exact zE rfl|exact zO|exact zL rfl) [c39_o6, zG, q, g, hi, hi', lw']
    refine W.seq (W.chunk ?_)
    simp (disch := first|omega|exact zE rfl|exact zO|exact zL rfl) [zG, q]
    refine W.seq (W.block ?_)
    refine W.seq (W.chunk ?_)
    simp (disch := first|omega|exact zE rfl|exact zO|exact zL rfl) [-evDraw_c, c39_o7, zG, q, evDraw_0, gS, g, hi, hi', f1, f1', lw', n1, w1, dd, d48]
    refine W.chunk ?_
    simp (disch := first|omega|exact zE rfl|exact zO|exact zL rfl) [c39_o8, zG, q]
    refine W.chunk ?_
    simp (disch := first|omega|exact zE rfl|exact zO|exact zL rfl) [c39_o9, zG, q]
    exact kR _ _ (by simp [T.get, q])
  · have lw' := stW_len w
    generalize w.length = n at *
    generalize stW w = cw at *
    refine Tr.w fun s1 H1 hp _ kR => W.trim ?_
    obtain ⟨rfl, q⟩ := hp
    refine W.assoc ?_
    refine W.seq (W.chunk ?_)
    simp (disch := first|omega|exact zE rfl|exact zO|exact zL rfl) [c39_o6, zG, q, g, hi, hi', lw']
    refine W.seq (W.chunk ?_)
    simp (disch := first|omega|exact zE rfl|exact zO|exact zL rfl) [zG, q]
    exact kR _ _ (by simp [T.get, q])
theorem c39_ok (J : CallF) (hJ : ∀ a h, J 39 a h = none) (h : Heap) (q3 : a.q ≤ 3) (hw : ∀ c ∈ w, c < a.q) (w1 : 1 ≤ w.length) (w5 : w.length ≤ 5) (g : h.get b = .cells 1 v ws) (hi : ws[i]? = some (.str (stW w))) : CallsTo tbl J 39 [a.v, .slice b i 1 v] h (.bool true, [], false) := by
  refine Tr.fnv (cf := c39) (e := .ret) (s := T.set (T.set .leaf [] a.v) [false] (.slice b i 1 v)) (by decide) rfl (hJ _ _) rfl rfl rfl (by simp) ?_
  refine Tr.post (Q := (fun s h => s.get [true, false] = .bool true)) (fun s h q => by simp [c39, q]) ?_
  have gF : (frameOf h).get b = .cells 1 v ws := by
    unfold frameOf
    rw [get_mk_lt _ _ _ _ (get_lt g (by simp))]; exact g
  generalize frameOf h = H0 at *
  obtain ⟨H, hH⟩ : ∃ H, H0.plus [.cells 0 3 [G a.q, a.x, a.y]] = H := ⟨_, rfl⟩
  have kH : Kp (fun _ => False) H0 H := by rw [← hH]; exact Kp.plus _ _
  have gS : H.get H0.size = .cells 0 3 [G a.q, a.x, a.y] := by rw [← hH]; exact plus_at0 _ _ _ _ rfl
  have gH := kH.at gF (by simp) id
  have hi' := getI hi
  have lwi := (List.getElem?_eq_some_iff.1 hi).1
  have l0 := c39_l0_ok J q3 hw (by omega) gS gH hi
  have lw' := stW_len w
  have l1 : Tr tbl J c39_l1 (fun s h => h = H ∧ s.get [false] = .slice b i 1 v ∧ s.get [true] = .ptr H0.size 0 3 ∧ s.get [false, true] = G ((0 : Nat) : Int)) (.exit 0) (fun s h => h = H ∧ s.get [false] = .slice b i 1 v) := by
    clear hw gF g hH kH
    refine Tr.rounds (P := fun k => (fun s h => h = H ∧ s.get [false] = .slice b i 1 v ∧ s.get [true] = .ptr H0.size 0 3 ∧ s.get [false, true] = G (k : Nat))) (M := 1) (fun k hk => ?_) ?_ (by simp) 0 (by omega)
    · obtain rfl : k = 0 := by omega
      generalize stW w = cw at *
      generalize w.length = n at *
      refine Tr.w fun s1 H1 hp _ kR => W.trim ?_
      obtain ⟨rfl, q⟩ := hp
      refine W.assoc ?_
      refine W.seq (W.chunk ?_)
      simp (disch := first|omega|exact zE rfl|exact zO|exact zL rfl) [c39_o2, zG, q]
      refine W.seq (W.chunk ?_)
      simp (disch := first|omega|exact zE rfl|exact zO|exact zL rfl) [zG, q]
      refine W.seq (W.block ?_)
      refine W.assoc ?_
      refine W.seq (W.chunk ?_)
      simp (disch := first|omega|exact zE rfl|exact zO|exact zL rfl) [-evDraw_c, c39_o3, zG, q, evDraw_0, gH, hi, hi', lw']
      refine W.seq (W.chunk ?_)
      simp (disch := first|omega|exact zE rfl|exact zO|exact zL rfl) [c39_o4, zG, q]
      refine W.seq (W.chunk ?_)
      simp (disch := first|omega|exact zE rfl|exact zO|exact zL rfl) [c39_o5, zG, q]
      refine W.block ?_
      refine W.use (l0) (by simp (disch := first|omega|exact zE rfl|exact zO|exact zL rfl) [zG, q]) fun s1 H1 hp => ?_
      obtain ⟨rfl, q⟩ := hp
      try simp only [zW, if_true]
      refine W.chunk ?_
      simp (disch := first|omega|exact zE rfl|exact zO|exact zL rfl) [c39_o10, zG, q]
      exact kR _ _ (by simp [T.get, q])
    · refine Tr.w fun s1 H1 hp _ kR => W.trim ?_
      obtain ⟨rfl, q⟩ := hp
      refine W.assoc ?_
      refine W.seq (W.chunk ?_)
      simp (disch := first|omega|exact zE rfl|exact zO|exact zL rfl) [c39_o2, zG, q]
      refine W.seq (W.chunk ?_)
      simp (disch := first|omega|exact zE rfl|exact zO|exact zL rfl) [zG, q]
      exact kR _ _ (by simp [T.get, q])
  clear hw gF g kH l0
  generalize stW w = cw at *
  generalize w.length = n at *
  refine Tr.w fun s1 H1 hp _ kR => ?_
  obtain ⟨rfl, rfl⟩ := hp
  have q : True := trivial
  refine W.seq (W.chunk ?_)
  simp (disch := first|omega|exact zE rfl|exact zO|exact zL rfl) [c39_o0, zG, q, hH]
  refine W.assoc ?_
  refine W.seq (W.chunk ?_)
  simp (disch := first|omega|exact zE rfl|exact zO|exact zL rfl) [c39_o1, zG, q]
  refine W.seq (W.block ?_)
  refine W.use (l1) (by simp (disch := first|omega|exact zE rfl|exact zO|exact zL rfl) [zG, q]) fun s1 H1 hp => ?_
  obtain ⟨rfl, q⟩ := hp
  try simp only [zW, if_true]
  refine W.seq (W.chunk ?_)
  simp (disch := first|omega|exact zE rfl|exact zO|exact zL rfl) [c39_o11, zG, q, gH, hi, hi', lw']
  refine W.ret ?_
  try simp only [zW, if_true]
  exact kR _ _ (by simp [T.get])
end
structure AK where
  a : AG
  m : Nat
  L : List (List Nat)
  b : Nat
  v : Nat
def Ok46 (b : AK) (h : Heap) : Prop := OkG b.a h ∧ KS b.a b.m b.L ∧ h.get b.b = .cells 1 b.v (wsL b.L)
def Pre46 (b : AK) (args : List AV) (h : Heap) : Prop := Ok46 b h ∧ args = [b.a.v, .slice b.b 0 b.L.length b.v]
def PostT (v : AV) (own : List AObj) : Prop := v = .bool true ∧ own = []
noncomputable def T57 : CallF := addK tbl T56 46 Pre46 (fun _ _ v own => PostT v own)
theorem t57 : Sound Go.Proofs.Try.prog T57 := Sound.addK follows ok t56 (by decide) _ _
theorem k68_56 : KW 68 T56 := fun h a w o hw lw => by
  rw [show T56 68 [a.v, .str (stW w)] h = T14 68 [a.v, .str (stW w)] h from by simp (disch := decide) only [T15, T16, T17, T18, T19, T20, T21, T22, T23, T24, T25, T26, T27, T28, T29, T30, T31, T32, T33, T34, T35, T36, T37, T38, T39, T40, T41, T42, T43, T44, T45, T46, T47, T48, T49, T50, T51, T52, T53, T54, T55, T56, addI_ne, addX_ne, addV_ne, addK_ne]]; exact k68 h a w o hw lw
theorem k69_56 : KB 69 T56 := fun h a s t o hs ht ls lt => by
  rw [show T56 69 [a.v, .str (stW s), .str (stW t)] h = T16 69 [a.v, .str (stW s), .str (stW t)] h from by simp (disch := decide) only [T17, T18, T19, T20, T21, T22, T23, T24, T25, T26, T27, T28, T29, T30, T31, T32, T33, T34, T35, T36, T37, T38, T39, T40, T41, T42, T43, T44, T45, T46, T47, T48, T49, T50, T51, T52, T53, T54, T55, T56, addI_ne, addX_ne, addV_ne, addK_ne]]; exact k69 h a s t o hs ht ls lt
abbrev K46 (J : CallF) : Prop := ∀ (h : Heap) (a : AG) (m : Nat) (L : List (List Nat)) (b v : Nat), OkG a h → KS a m L → h.get b = .cells 1 v (wsL L) → J 46 [a.v, .slice b 0 L.length v] h = some (.bool true, [], false)
theorem k46 : K46 T57 := fun h a m L b v o k g => by
  obtain ⟨v, own, e, rfl, rfl⟩ := addK_some (Pre := Pre46) (Post := fun _ _ v own => PostT v own) (fun b args h hp => by
    obtain ⟨⟨o, k, g⟩, rfl⟩ := hp
    exact ⟨_, _, c46_ok T56 k68_56 k69_56 (fun _ _ => by simp (disch := decide) only [T1, T2, T3, T4, T5, T6, T7, T8, T9, T10, T11, T12, T13, T14, T15, T16, T17, T18, T19, T20, T21, T22, T23, T24, T25, T26, T27, T28, T29, T30, T31, T32, T33, T34, T35, T36, T37, T38, T39, T40, T41, T42, T43, T44, T45, T46, T47, T48, T49, T50, T51, T52, T53, T54, T55, T56, addI_ne, addX_ne, addV_ne, addK_ne]; rfl) h o k g, rfl, rfl⟩) ⟨a, m, L, b, v⟩ _ h ⟨⟨o, k, g⟩, rfl⟩
  exact e
def Ok40 (b : AK) (h : Heap) : Prop := Ok46 b h ∧ b.L ≠ [] ∧ blw b.a.W (b.L.getD (b.L.length - 1) []) (b.L.getD 0 []) = true
def Pre40 (b : AK) (args : List AV) (h : Heap) : Prop := Ok40 b h ∧ args = [b.a.v, .slice b.b 0 b.L.length b.v]
noncomputable def T58 : CallF := addK tbl T57 40 Pre40 (fun _ _ v own => PostT v own)
theorem t58 : Sound Go.Proofs.Try.prog T58 := Sound.addK follows ok t57 (by decide) _ _
theorem k69_57 : KB 69 T57 := fun h a s t o hs ht ls lt => by
  rw [show T57 69 [a.v, .str (stW s), .str (stW t)] h = T56 69 [a.v, .str (stW s), .str (stW t)] h from by simp (disch := decide) only [T57, addI_ne, addX_ne, addV_ne, addK_ne]]; exact k69_56 h a s t o hs ht ls lt
abbrev K40 (J : CallF) : Prop := ∀ (h : Heap) (a : AG) (m : Nat) (L : List (List Nat)) (b v : Nat), OkG a h → KS a m L → h.get b = .cells 1 v (wsL L) → L ≠ [] → blw a.W (L.getD (L.length - 1) []) (L.getD 0 []) = true → J 40 [a.v, .slice b 0 L.length v] h = some (.bool true, [], false)
theorem k40 : K40 T58 := fun h a m L b v o k g hn hr => by
  obtain ⟨v, own, e, rfl, rfl⟩ := addK_some (Pre := Pre40) (Post := fun _ _ v own => PostT v own) (fun b args h hp => by
    obtain ⟨⟨⟨o, k, g⟩, hn, hr⟩, rfl⟩ := hp
    exact ⟨_, _, c40_ok T57 (fun h b' v' o g => k46 h _ _ _ _ _ o k g) k69_57 (fun _ _ => by simp (disch := decide) only [T1, T2, T3, T4, T5, T6, T7, T8, T9, T10, T11, T12, T13, T14, T15, T16, T17, T18, T19, T20, T21, T22, T23, T24, T25, T26, T27, T28, T29, T30, T31, T32, T33, T34, T35, T36, T37, T38, T39, T40, T41, T42, T43, T44, T45, T46, T47, T48, T49, T50, T51, T52, T53, T54, T55, T56, T57, addI_ne, addX_ne, addV_ne, addK_ne]; rfl) h o k hn hr g, rfl, rfl⟩) ⟨a, m, L, b, v⟩ _ h ⟨⟨⟨o, k, g⟩, hn, hr⟩, rfl⟩
  exact e
structure A39 where
  a : AG
  w : List Nat
  ws : List AV
  b : Nat
  v : Nat
  i : Nat
def Ok39 (b : A39) (h : Heap) : Prop := b.a.q ≤ 3 ∧ (∀ c ∈ b.w, c < b.a.q) ∧ 1 ≤ b.w.length ∧ b.w.length ≤ 5 ∧ h.get b.b = .cells 1 b.v b.ws ∧ b.ws[b.i]? = some (.str (stW b.w))
def Pre39 (b : A39) (args : List AV) (h : Heap) : Prop := Ok39 b h ∧ args = [b.a.v, .slice b.b b.i 1 b.v]
noncomputable def T59 : CallF := addK tbl T58 39 Pre39 (fun _ _ v own => PostT v own)
theorem t59 : Sound Go.Proofs.Try.prog T59 := Sound.addK follows ok t58 (by decide) _ _
abbrev K39 (J : CallF) : Prop := ∀ (h : Heap) (a : AG) (w : List Nat) (ws : List AV) (b v i : Nat), a.q ≤ 3 → (∀ c ∈ w, c < a.q) → 1 ≤ w.length → w.length ≤ 5 → h.get b = .cells 1 v ws → ws[i]? = some (.str (stW w)) → J 39 [a.v, .slice b i 1 v] h = some (.bool true, [], false)
theorem k39 : K39 T59 := fun h a w ws b v i h1 h2 h3 h4 h5 h6 => by
  obtain ⟨v, own, e, rfl, rfl⟩ := addK_some (Pre := Pre39) (Post := fun _ _ v own => PostT v own) (fun b args h hp => by
    obtain ⟨⟨h1, h2, h3, h4, h5, h6⟩, rfl⟩ := hp
    exact ⟨_, _, c39_ok T58 (fun _ _ => by simp (disch := decide) only [T1, T2, T3, T4, T5, T6, T7, T8, T9, T10, T11, T12, T13, T14, T15, T16, T17, T18, T19, T20, T21, T22, T23, T24, T25, T26, T27, T28, T29, T30, T31, T32, T33, T34, T35, T36, T37, T38, T39, T40, T41, T42, T43, T44, T45, T46, T47, T48, T49, T50, T51, T52, T53, T54, T55, T56, T57, T58, addI_ne, addX_ne, addV_ne, addK_ne]; rfl) h h1 h2 h3 h4 h5 h6, rfl, rfl⟩) ⟨a, w, ws, b, v, i⟩ _ h ⟨⟨h1, h2, h3, h4, h5, h6⟩, rfl⟩
  exact e
theorem gw_mem {L : List Nat} {R : List (List Nat)} {w : List Nat} (h : w ∈ rT2 R L) : ∃ c, c ∈ L ∧ w = R.getD c [] := by
  obtain ⟨c, h1, h2⟩ := List.mem_map.1 h
  exact ⟨c, h1, h2.symm⟩
theorem rT2_at {L : List Nat} {R : List (List Nat)} {i : Nat} (hi : i < L.length) : (rT2 R L).getD i [] = R.getD (L.getD i 0) [] := by
  unfold rT2
  rw [List.getD_eq_getElem?_getD, List.getElem?_map, gD_some hi]; rfl
theorem ks_of {a : AR} {m : Int} (g : a.rm m = true) {L : List Nat} (rg : RG (a.steps m) L) (ll : L.length ≤ 1000) (ne : L ≠ []) : KS a.g m.toNat (rT2 (a.rows m) L) ∧ blw a.W ((rT2 (a.rows m) L).getD ((rT2 (a.rows m) L).length - 1) []) ((rT2 (a.rows m) L).getD 0 []) = true := by
  obtain ⟨r1, r2⟩ := a.rm_iff g
  obtain ⟨os, s243, sr⟩ := AR.steps_ok g
  have l2 : (rT2 (a.rows m) L).length = L.length := by unfold rT2; rw [List.length_map]
  have nl : L.length ≠ 0 := fun e => ne (List.length_eq_zero_iff.1 e)
  have lt : ∀ c ∈ L, c < (a.rows m).length := fun c hc => by rw [← sr]; exact rg.1 c hc
  have st : ∀ x y, x ∈ L → y ∈ L → y ∈ (a.steps m).getD x [] → blw a.W ((a.rows m).getD x []) ((a.rows m).getD y []) = true := fun x y hx hy h => by
    have := stL_mem (W := a.W) (R := a.rows m) (lt x hx) (lt y hy)
    rw [← this]
    exact decide_eq_true h
  have gm : ∀ {i}, i < L.length → L.getD i 0 ∈ L := fun h => gD_mem h
  refine ⟨⟨fun w hw => ?_, fun i hi => ?_, by rw [l2]; exact ll, by omega, by omega⟩, ?_⟩
  · obtain ⟨c, h1, rfl⟩ := gw_mem hw
    have hc := lt c h1
    have : (a.rows m).getD c [] ∈ a.rows m := by
      rw [List.getD_eq_getElem?_getD, List.getElem?_eq_getElem hc]
      exact List.getElem_mem _
    exact rwL_mem this
  · rw [l2] at hi
    rw [rT2_at (by omega), rT2_at hi]
    exact st _ _ (gm (by omega)) (gm hi) (rg.2.1 i _ _ (gD_some (by omega)) (gD_some hi))
  · rw [l2, rT2_at (by omega), rT2_at (by omega)]
    exact st _ _ (gm (by omega)) (gm (by omega)) (rg.2.2 _ _ (gD_some (by omega)) (gD_some (by omega)))
structure KnE (J : CallF) : Prop where
  k24 : K24 J
  k28 : K28 J
  k35 : K35 J
  k36 : K36 J
  k37 : K37 J
  k38 : K38 J
  k39 : K39 J
  k40 : K40 J
  k23 : ∀ h, J 23 [] h = some (.bool true, [], false)
section
variable {nq m : Int} {X Y : List (List Int)}
theorem c6_l0_ok (J : CallF) {a : AG} {M : Nat} {w : List (List Nat)} (q3 : a.q ≤ 3) (k39 : K39 J) (ks : KS a M w) {H : Heap} {pp b v : Nat} {x9 x10 : AV} (gc : H.get pp = .cells 0 3 [G a.q, a.x, a.y]) (g : H.get b = .cells 1 v (wsL w)) :
    Tr tbl J c6_l0 (fun s h => h = H ∧ s.get [false] = G M ∧ s.get [false, true] = .ptr pp 0 3 ∧ s.get [true, false, false] = .slice b 0 w.length v ∧ s.get [false, true, false] = x9 ∧ s.get [true, true, false] = x10 ∧ s.get [false, false, true] = G ((0 : Nat) : Int)) (.exit 0) (fun s h => h = H ∧ s.get [false, true] = .ptr pp 0 3 ∧ s.get [true, false, false] = .slice b 0 w.length v ∧ s.get [false, true, false] = x9 ∧ s.get [true, true, false] = x10) := by
  have l1 := ks.l
  have lw := wsL_len w
  refine Tr.rounds (P := fun i => (fun s h => h = H ∧ s.get [false] = G M ∧ s.get [false, true] = .ptr pp 0 3 ∧ s.get [true, false, false] = .slice b 0 w.length v ∧ s.get [false, true, false] = x9 ∧ s.get [true, true, false] = x10 ∧ s.get [false, false, true] = G (i : Nat))) (M := w.length) (fun i hi => ?_) ?_ (by simp) 0 (by omega)
  · obtain ⟨k1, k2, k3⟩ := ks.at hi
    have wi := wsL_at (R := w) hi
    have wi' := getI wi
    have e39 := k39 H a (w.getD i []) (wsL w) b v i q3 k2 (by rw [k1]; exact ks.m1) (by rw [k1]; exact ks.m5) g wi
    have lwi := stW_len (w.getD i [])
    rw [k1] at lwi
    clear k2 k3 ks q3
    generalize stW (w.getD i []) = u at *
    generalize wsL w = ws at *
    generalize hn : w.length = n at *
    have i1 : ¬ i = n := by omega
    refine Tr.w fun s1 H1 hp _ kR => W.trim ?_
    obtain ⟨rfl, q⟩ := hp
    refine W.assoc ?_
    refine W.seq (W.chunk ?_)
    simp (disch := first|omega|exact zE rfl|exact zO|exact zL rfl) [c6_o12, zG, q]
    refine W.seq (W.chunk ?_)
    simp (disch := first|omega|exact zE rfl|exact zO|exact zL rfl) [zG, q]
    refine W.seq (W.block ?_)
    refine W.seq (W.chunk ?_)
    simp (disch := first|omega|exact zE rfl|exact zO|exact zL rfl) [-evDraw_c, c6_o13, zG, q, evDraw_0, gc, g, wi, wi', lw, lwi, e39, i1, app_if, app_if', slSlA, bounds]
    refine W.chunk ?_
    simp (disch := first|omega|exact zE rfl|exact zO|exact zL rfl) [c6_o14, zG, q]
    refine W.chunk ?_
    simp (disch := first|omega|exact zE rfl|exact zO|exact zL rfl) [c6_o15, zG, q]
    exact kR _ _ (by simp [T.get, q])
  · clear ks
    generalize hn : w.length = n at *
    refine Tr.w fun s1 H1 hp _ kR => W.trim ?_
    obtain ⟨rfl, q⟩ := hp
    refine W.assoc ?_
    refine W.seq (W.chunk ?_)
    simp (disch := first|omega|exact zE rfl|exact zO|exact zL rfl) [c6_o12, zG, q]
    refine W.seq (W.chunk ?_)
    simp (disch := first|omega|exact zE rfl|exact zO|exact zL rfl) [zG, q]
    exact kR _ _ (by simp [T.get, q])
set_option maxHeartbeats 1000000 in
theorem c6_ok (J : CallF) (K : KnE J) (hJ : ∀ a h, J 6 a h = none) (h : Heap) {x y : AV} (mx : MR h x X) (my : MR h y Y) : CallsTo tbl J 6 [.agg [G nq, x, y], G m] h (.bool true, [], false) := by
  refine Tr.fnv (cf := c6) (e := .ret) (s := T.set (T.set .leaf [] (.agg [G nq, x, y])) [false] (G m)) (by decide) rfl (hJ _ _) rfl rfl rfl (by simp) ?_
  refine Tr.post (Q := (fun s h => s.get [true, false] = .bool true)) (fun s h q => by simp [c6, q]) ?_
  have mx0 : MR (frameOf h) x X := mx.lo []
  have my0 : MR (frameOf h) y Y := my.lo []
  generalize frameOf h = H0 at *
  obtain ⟨Ha, ha⟩ : ∃ H, H0.plus [.cells 0 3 [G nq, x, y]] = H := ⟨_, rfl⟩
  have ka : Kp (fun _ => False) H0 Ha := by rw [← ha]; exact Kp.plus _ _
  have gS : Ha.get H0.size = .cells 0 3 [G nq, x, y] := by rw [← ha]; exact plus_at0 _ _ _ _ rfl
  obtain ⟨x', y', own1, e24, t1, t2⟩ := K.k24 Ha ⟨nq, x, y, X, Y⟩ ⟨mx0.kp ka, my0.kp ka⟩
  simp only at e24
  obtain ⟨Hb, hb⟩ : ∃ H, Ha.plus own1 = H := ⟨_, rfl⟩
  have kb : Kp (fun _ => False) Ha Hb := by rw [← hb]; exact Kp.plus _ _
  rw [hb] at t1 t2
  obtain ⟨Hc, hc⟩ : ∃ H, Hb.plus [.cells 0 3 [G nq, x', y']] = H := ⟨_, rfl⟩
  have kc : Kp (fun _ => False) Hb Hc := by rw [← hc]; exact Kp.plus _ _
  have gc : Hc.get Hb.size = .cells 0 3 [G nq, x', y'] := by rw [← hc]; exact plus_at0 _ _ _ _ rfl
  obtain ⟨a, haa⟩ : ∃ a : AR, a = ⟨nq, x', y', cutM X, cutM Y⟩ := ⟨_, rfl⟩
  have av : a.v = .agg [G nq, x', y'] := by subst haa; rfl
  have o : OkR a Hc := by rw [haa]; exact ⟨(t1.kp kc).mr, (t2.kp kc).mr, cutM_small _, cutM_small _⟩
  have e35 := K.k35 Hc a m o
  obtain ⟨v36, own36, e36, p1, p2, p3⟩ := K.k36 Hc a m o
  have e28 := fun H o => K.k28 H a m o
  have k37 := fun H o g => K.k37 H a m o g
  have k38 := fun H o g => K.k38 H a m o g
  have k23 := K.k23
  have hp0 : Hc.plus [] = Hc := by simp [Heap.plus]
  unfold AR.lgV at e35
  rw [av] at e35 e36
  cases g : a.rm m
  · obtain ⟨rfl, rfl⟩ := p1 g
    have e28 := e28 Hc o
    rw [av, g] at e28
    rw [if_neg (by rw [g]; simp)] at e35
    clear p1 p2 p3 K g o k37 k38 t1 t2 mx my mx0 my0 ka kb kc haa av
    refine Tr.w fun s1 H1 hp _ kR => ?_
    obtain ⟨rfl, rfl⟩ := hp
    have q : True := trivial
    refine W.seq (W.chunk ?_)
    simp (disch := first|omega|exact zE rfl|exact zO|exact zL rfl) [c6_o0, zG, q, ha]
    refine W.seq (W.chunk ?_)
    simp (disch := first|omega|exact zE rfl|exact zO|exact zL rfl) [c6_o1, zG, q, gS, e24, app_if, app_if', hb, hc]
    refine W.seq (W.chunk ?_)
    simp (disch := first|omega|exact zE rfl|exact zO|exact zL rfl) [c6_o2, zG, q, gc, e35]
    refine W.seq (W.chunk ?_)
    simp (disch := first|omega|exact zE rfl|exact zO|exact zL rfl) [c6_o3, zG, q, gc, e36, app_if, app_if', hp0]
    refine W.assoc ?_
    refine W.seq (W.chunk ?_)
    simp (disch := first|omega|exact zE rfl|exact zO|exact zL rfl) [c6_o4, zG, q, gc, e28]
    refine W.seq (W.chunk ?_)
    simp (disch := first|omega|exact zE rfl|exact zO|exact zL rfl) [c6_o5, zG, q, k23]
    exact kR _ _ (by simp [T.get])
  · rw [if_pos g] at e35
    obtain ⟨r1, r2⟩ := a.rm_iff g
    obtain ⟨os, s243, sr⟩ := AR.steps_ok g
    by_cases c : MC (a.steps m) (a.steps m).length 0
    · obtain ⟨rfl, rfl⟩ := p2 g c
      have e28 := e28 Hc o
      rw [av, g] at e28
      have e37 := k37 Hc o g
      obtain ⟨z, e38, mc⟩ := k38 Hc o g
      obtain rfl := c.uniq mc
      rw [av] at e37 e38
      clear p1 p2 p3 K g o k37 k38 t1 t2 mx my mx0 my0 ka kb kc haa av os sr s243 c mc
      generalize lsV (a.steps m) = ls at *
      have z0 : ((0 : Nat) : Int) = 0 := rfl
      rw [z0] at e38
      refine Tr.w fun s1 H1 hp _ kR => ?_
      obtain ⟨rfl, rfl⟩ := hp
      have q : True := trivial
      refine W.seq (W.chunk ?_)
      simp (disch := first|omega|exact zE rfl|exact zO|exact zL rfl) [c6_o0, zG, q, ha]
      refine W.seq (W.chunk ?_)
      simp (disch := first|omega|exact zE rfl|exact zO|exact zL rfl) [c6_o1, zG, q, gS, e24, app_if, app_if', hb, hc]
      refine W.seq (W.chunk ?_)
      simp (disch := first|omega|exact zE rfl|exact zO|exact zL rfl) [c6_o2, zG, q, gc, e35]
      refine W.seq (W.chunk ?_)
      simp (disch := first|omega|exact zE rfl|exact zO|exact zL rfl) [c6_o3, zG, q, gc, e36, app_if, app_if', hp0]
      refine W.assoc ?_
      refine W.seq (W.chunk ?_)
      simp (disch := first|omega|exact zE rfl|exact zO|exact zL rfl) [c6_o4, zG, q, gc, e28]
      refine W.seq (W.chunk ?_)
      simp (disch := first|omega|exact zE rfl|exact zO|exact zL rfl) [c6_o5, zG, q]
      refine W.assoc ?_
      refine W.seq (W.chunk ?_)
      simp (disch := first|omega|exact zE rfl|exact zO|exact zL rfl) [c6_o6, zG, q, gc, e37]
      refine W.seq (W.chunk ?_)
      simp (disch := first|omega|exact zE rfl|exact zO|exact zL rfl) [c6_o7, zG, q]
      refine W.seq (W.chunk ?_)
      simp (disch := first|omega|exact zE rfl|exact zO|exact zL rfl) [c6_o8, zG, q, gc, e38]
      refine W.assoc ?_
      refine W.seq (W.chunk ?_)
      simp (disch := first|omega|exact zE rfl|exact zO|exact zL rfl) [c6_o9, zG, q]
      refine W.seq (W.chunk ?_)
      simp (disch := first|omega|exact zE rfl|exact zO|exact zL rfl) [c6_o10, zG, q, k23]
      exact kR _ _ (by simp [T.get])
    · obtain ⟨x6, L, rfl, ne, mcL, rg, rv⟩ := p3 g c
      obtain ⟨Hd, hd⟩ : ∃ H, Hc.plus own36 = H := ⟨_, rfl⟩
      have kd : Kp (fun _ => False) Hc Hd := by rw [← hd]; exact Kp.plus _ _
      rw [hd] at rv
      have od := o.kp kd
      have gcd := kd.at gc (by simp) id
      have e28 := e28 Hd od
      rw [av, g] at e28
      have e37 := k37 Hd od g
      obtain ⟨z, e38, mc⟩ := k38 Hd od g
      obtain rfl := mcL.uniq mc
      rw [av] at e37 e38
      have ll : L.length ≤ 1000 := Nat.le_trans (mcL.le os (Nat.le_refl _)) os.n
      obtain ⟨ks, wrap⟩ := ks_of g rg ll ne
      have lr : (rT2 (a.rows m) L).length = L.length := by unfold rT2; rw [List.length_map]
      have nl : L.length ≠ 0 := fun e => ne (List.length_eq_zero_iff.1 e)
      have nr : rT2 (a.rows m) L ≠ [] := fun e => nl (by rw [← lr, e]; rfl)
      generalize rT2 (a.rows m) L = w at *
      obtain ⟨_, e⟩ | ⟨b6, v6, rfl, g6⟩ := rv
      · exact absurd (by have := wsL_len w; rw [e] at this; exact List.length_eq_zero_iff.1 this.symm) nr
      rw [wsL_len, lr] at e36
      have q3 : a.g.q ≤ 3 := by
        have := a.q3 r1
        have := a.gq r1
        omega
      have ag : a.g.v = .agg [G nq, x', y'] := by rw [a.gv r1]; exact av
      have gq' : (G (a.g.q : Int)) = G nq := by rw [a.gq r1, haa]
      have gx : a.g.x = x' := by rw [haa]; rfl
      have gy : a.g.y = y' := by rw [haa]; rfl
      have e40 := K.k40 Hd a.g m.toNat w b6 v6 (od.g r1) ks g6 nr wrap
      rw [ag, lr] at e40
      have l0 := c6_l0_ok (pp := Hb.size) (x9 := G 0) (x10 := G (L.length : Nat)) J q3 K.k39 ks (by rw [gq', gx, gy]; exact gcd) g6
      rw [lr, show ((m.toNat : Nat) : Int) = m by omega] at l0
      have nz : ¬ (L.length : Int) = 0 := by omega
      clear p1 p2 p3 K g o od k37 k38 t1 t2 mx my mx0 my0 ka kb kc kd haa av os sr s243 c mc mcL rg ks wrap ag gq' gx gy q3 r1 r2 nr ne
      generalize lsV (a.steps m) = ls at *
      generalize L.length = lL at *
      refine Tr.w fun s1 H1 hp _ kR => ?_
      obtain ⟨rfl, rfl⟩ := hp
      have q : True := trivial
      refine W.seq (W.chunk ?_)
      simp (disch := first|omega|exact zE rfl|exact zO|exact zL rfl) [c6_o0, zG, q, ha]
      refine W.seq (W.chunk ?_)
      simp (disch := first|omega|exact zE rfl|exact zO|exact zL rfl) [c6_o1, zG, q, gS, e24, app_if, app_if', hb, hc]
      refine W.seq (W.chunk ?_)
      simp (disch := first|omega|exact zE rfl|exact zO|exact zL rfl) [c6_o2, zG, q, gc, e35]
      refine W.seq (W.chunk ?_)
      simp (disch := first|omega|exact zE rfl|exact zO|exact zL rfl) [c6_o3, zG, q, gc, e36, app_if, app_if', hd]
      refine W.assoc ?_
      refine W.seq (W.chunk ?_)
      simp (disch := first|omega|exact zE rfl|exact zO|exact zL rfl) [c6_o4, zG, q, gcd, e28]
      refine W.seq (W.chunk ?_)
      simp (disch := first|omega|exact zE rfl|exact zO|exact zL rfl) [c6_o5, zG, q]
      refine W.assoc ?_
      refine W.seq (W.chunk ?_)
      simp (disch := first|omega|exact zE rfl|exact zO|exact zL rfl) [c6_o6, zG, q, gcd, e37]
      refine W.seq (W.chunk ?_)
      simp (disch := first|omega|exact zE rfl|exact zO|exact zL rfl) [c6_o7, zG, q]
      refine W.seq (W.chunk ?_)
      simp (disch := first|omega|exact zE rfl|exact zO|exact zL rfl) [c6_o8, zG, q, gcd, e38]
      refine W.assoc ?_
      refine W.seq (W.chunk ?_)
      simp (disch := first|omega|exact zE rfl|exact zO|exact zL rfl) [c6_o9, zG, q, nz]
      refine W.seq (W.chunk ?_)
      simp (disch := first|omega|exact zE rfl|exact zO|exact zL rfl) [c6_o10, zG, q]
      refine W.assoc ?_
      refine W.seq (W.chunk ?_)
      simp (disch := first|omega|exact zE rfl|exact zO|exact zL rfl) [c6_o11, zG, q]
      refine W.seq (W.block ?_)
      refine W.use (l0) (by simp (disch := first|omega|exact zE rfl|exact zO|exact zL rfl) [zG, q]) fun s1 H1 hp => ?_
      obtain ⟨rfl, q⟩ := hp
      try simp only [zW, if_true]
      refine W.seq (W.chunk ?_)
      simp (disch := first|omega|exact zE rfl|exact zO|exact zL rfl) [c6_o16, zG, q, gcd, e40, k23]
      refine W.ret ?_
      try simp only [zW, if_true]
      exact kR _ _ (by simp [T.get, q])
end
theorem kE59 : KnE T59 where
  k24 := fun h a o => by
    obtain ⟨x, y, own, e, l⟩ := k24 h a o
    exact ⟨x, y, own, by rw [show T59 24 [.agg [G a.q, a.x, a.y]] h = T31 24 [.agg [G a.q, a.x, a.y]] h from by simp (disch := decide) only [T32, T33, T34, T35, T36, T37, T38, T39, T40, T41, T42, T43, T44, T45, T46, T47, T48, T49, T50, T51, T52, T53, T54, T55, T56, T57, T58, T59, addI_ne, addX_ne, addV_ne, addK_ne]]; exact e, l⟩
  k28 := fun h a m o => by
    rw [show T59 28 [a.v, G m] h = T32 28 [a.v, G m] h from by simp (disch := decide) only [T33, T34, T35, T36, T37, T38, T39, T40, T41, T42, T43, T44, T45, T46, T47, T48, T49, T50, T51, T52, T53, T54, T55, T56, T57, T58, T59, addI_ne, addX_ne, addV_ne, addK_ne]]; exact k28 h a m o
  k35 := fun h a m o => by
    rw [show T59 35 [a.v, G m] h = T52 35 [a.v, G m] h from by simp (disch := decide) only [T53, T54, T55, T56, T57, T58, T59, addI_ne, addX_ne, addV_ne, addK_ne]]; exact k35 h a m o
  k36 := fun h a m o => by
    obtain ⟨v, own, e, l⟩ := k36 h a m o
    exact ⟨v, own, by rw [show T59 36 [a.v, G m] h = T54 36 [a.v, G m] h from by simp (disch := decide) only [T55, T56, T57, T58, T59, addI_ne, addX_ne, addV_ne, addK_ne]]; exact e, l⟩
  k37 := fun h a m o g => by
    rw [show T59 37 [a.v, G m] h = T55 37 [a.v, G m] h from by simp (disch := decide) only [T56, T57, T58, T59, addI_ne, addX_ne, addV_ne, addK_ne]]; exact k37 h a m o g
  k38 := fun h a m o g => by
    obtain ⟨z, e, l⟩ := k38 h a m o g
    exact ⟨z, by rw [show T59 38 [a.v, G m] h = T56 38 [a.v, G m] h from by simp (disch := decide) only [T57, T58, T59, addI_ne, addX_ne, addV_ne, addK_ne]]; exact e, l⟩
  k39 := k39
  k40 := fun h a m L b v o k g hn hr => by
    rw [show T59 40 [a.v, .slice b 0 L.length v] h = T58 40 [a.v, .slice b 0 L.length v] h from by simp (disch := decide) only [T59, addI_ne, addX_ne, addV_ne, addK_ne]]; exact k40 h a m L b v o k g hn hr
  k23 := fun h => by
    rw [show T59 23 [] h = T2 23 [] h from by simp (disch := decide) only [T3, T4, T5, T6, T7, T8, T9, T10, T11, T12, T13, T14, T15, T16, T17, T18, T19, T20, T21, T22, T23, T24, T25, T26, T27, T28, T29, T30, T31, T32, T33, T34, T35, T36, T37, T38, T39, T40, T41, T42, T43, T44, T45, T46, T47, T48, T49, T50, T51, T52, T53, T54, T55, T56, T57, T58, T59, addI_ne, addX_ne, addV_ne, addK_ne]]; exact k23 h
theorem stripEvers_ok (h : Heap) (m : Int) {nq : Int} {x y : AV} {B W : List (List Int)} (mx : MR h x B) (my : MR h y W) : CallsTo tbl T59 6 [.agg [G nq, x, y], G m] h (.bool true, [], false) := c6_ok T59 kE59 (fun _ _ => by simp (disch := decide) only [T1, T2, T3, T4, T5, T6, T7, T8, T9, T10, T11, T12, T13, T14, T15, T16, T17, T18, T19, T20, T21, T22, T23, T24, T25, T26, T27, T28, T29, T30, T31, T32, T33, T34, T35, T36, T37, T38, T39, T40, T41, T42, T43, T44, T45, T46, T47, T48, T49, T50, T51, T52, T53, T54, T55, T56, T57, T58, T59, addI_ne, addX_ne, addV_ne, addK_ne]; rfl) h mx my
end Go.Proofs.Ytljgfdamdcikgaa.Ev
set_option linter.unusedVariables false
set_option linter.unusedSimpArgs false
namespace Go.AEv
open Go.ChangeShapes Go.WideShapes Go.Proofs.Ytljgfdamdcikgaa.Ev
theorem MR.ext {h h' : Heap} (e : Ext h h') {y : AV} {M : List (List Int)} (m : MR h y M) : MR h' y M := by
  rcases m with m | ⟨b, v, cs, rfl, g, hl, hr⟩
  · exact .inl m
  · refine .inr ⟨b, v, cs, rfl, e _ _ g (by simp), hl, fun i r q => ?_⟩
    obtain ⟨l, h1, h2⟩ := hr i r q
    exact ⟨l, h1, LR.ext e h2⟩
theorem rows_lo {CK : CKT} {w : World} {H : Type} {enc : TypeId × Value → H} {P : Program} {e i : TypeId} (he : P.underlying e = some (.slice i)) (hi : P.underlying i = some (.int .i64)) (hc : P.cellsOf i = 1) :
    ∀ (vs : List Value) {φ : Nat → Emb} {h : Heap} (ho : h.own = []) (hr : HR CK w [] φ h w), (∀ u ∈ vs, ∃ fuel z, DataW.trod enc P w 0 (fun _ => true) true fuel e [u] = some z) →
    ∃ φ' h', ∃ (rs : List AV) (ls : List (List Int)), h'.own = [] ∧ HR CK w [] φ' h' w ∧ Stp φ h φ' h' ∧ Ext h h' ∧ rs.length = vs.length ∧ ls.length = vs.length ∧ ∀ (j : Nat) u r, vs[j]? = some u → rs[j]? = some r → VR φ' h' r u ∧ Value.oneCell' u = true ∧ ∃ l, ls[j]? = some l ∧ LR h' r l
  | [], φ, h, ho, hr, _ => ⟨φ, h, [], [], ho, hr, Stp.refl φ h, Ext.refl h, rfl, rfl, fun j u r q => by simp at q⟩
  | u :: us, φ, h, ho, hr, ht => by
    obtain ⟨fuel, z, hf⟩ := ht u (by simp)
    obtain ⟨φ1, h1, x, l, o1, r1, s1, e1, v1, p1, c1⟩ := ints_lo0 ho hr he hi hc hf
    obtain ⟨φ2, h2, rs, ls, o2, r2, s2, e2, l1, l2, q⟩ := rows_lo he hi hc us o1 r1 (fun u' hu => ht u' (by simp [hu]))
    refine ⟨φ2, h2, x :: rs, l :: ls, o2, r2, s1.trans s2, e1.trans e2, by simp [l1], by simp [l2], fun j u' r hu hr' => ?_⟩
    cases j with
    | zero =>
      simp only [List.getElem?_cons_zero, Option.some.injEq] at hu hr'
      subst hu hr'
      exact ⟨VR.step s2 _ _ v1, c1, l, rfl, p1.ext e2⟩
    | succ j =>
      simp only [List.getElem?_cons_succ] at hu hr' ⊢
      exact q j u' r hu hr'
theorem mat_lo0 {CK : CKT} {φ : Nat → Emb} {h : Heap} {w : World} (ho : h.own = []) (hr : HR CK w [] φ h w) {H : Type} {enc : TypeId × Value → H} {P : Program} {t e i : TypeId} {v : Value} {fuel : Nat} {z : DataW H × List MemPlace}
    (ht : P.underlying t = some (.slice e)) (he : P.underlying e = some (.slice i)) (hi : P.underlying i = some (.int .i64)) (hce : P.cellsOf e = 1) (hci : P.cellsOf i = 1) (hf : DataW.trod enc P w 0 (fun _ => true) true fuel t [v] = some z) :
    ∃ φ' h' x M, h'.own = [] ∧ HR CK w [] φ' h' w ∧ Stp φ h φ' h' ∧ Ext h h' ∧ VR φ' h' x v ∧ MR h' x M ∧ Value.oneCell' v = true := by
  rcases DataW.trod_slice ht hf with ⟨hcs, _⟩ | ⟨a, len, cap, elems, rest, n, _, hcs, _, _, hl, hm, hlen, hel, hsp, _⟩
  · have hcs' : v = .slice none 0 0 := (List.cons.inj hcs).1
    rw [hcs']
    exact ⟨φ, h, .nils, [], ho, hr, Stp.refl φ h, Ext.refl h, by simp [VR], .inl ⟨.inl rfl, rfl⟩, rfl⟩
  · have hcs' : v = .slice (some a) len cap := (List.cons.inj hcs).1
    rw [hcs']
    by_cases h0 : len = 0
    · subst h0
      exact ⟨φ, h, .slice0, [], ho, hr, Stp.refl φ h, Ext.refl h, by simp [VR], .inl ⟨.inr rfl, rfl⟩, rfl⟩
    · obtain ⟨hrl, hre⟩ := hsp rfl
      have each : ∀ j, j < cap → ∃ u, w.cell? (a.add j) = some u ∧ ∃ z, DataW.trod enc P w 0 (fun _ => true) true n e [u] = some z := fun j hj => by
        have hb' : ∃ y, (w.cells? 0 (a.add (j * P.cellsOf e)) (P.cellsOf e)).bind (DataW.trod enc P w 0 (fun _ => true) true n e) = some y := by
          by_cases hjl : j < len
          · rw [hel j hjl, List.getElem?_eq_getElem (by omega)]; exact ⟨_, rfl⟩
          · have := hre (j - len) (by omega)
            rw [show len + (j - len) = j by omega] at this
            rw [this, List.getElem?_eq_getElem (by omega)]; exact ⟨_, rfl⟩
        obtain ⟨y, hy⟩ := hb'
        rw [hce, Nat.mul_one, Option.bind_eq_some_iff] at hy
        obtain ⟨cs', h1, h2⟩ := hy
        have hl1 := (World.cells?_some h1).2.1
        obtain ⟨u, rfl⟩ : ∃ u, cs' = [u] := by
          cases cs' with
          | nil => simp at hl1
          | cons u r => cases r with
            | nil => exact ⟨u, rfl⟩
            | cons u' r => simp at hl1
        exact ⟨u, cell_of_cells?_one h1, y, h2⟩
      obtain ⟨f, hfe⟩ : ∃ f : Nat → Value, ∀ j, j < cap → w.cell? (a.add j) = some (f j) ∧ ∃ z, DataW.trod enc P w 0 (fun _ => true) true n e [f j] = some z :=
        ⟨fun j => if hj : j < cap then Classical.choose (each j hj) else .nilFunc, fun j hj => by
          simp only [dif_pos hj]
          exact Classical.choose_spec (each j hj)⟩
      obtain ⟨b, off, spot⟩ := a
      have hspot : spot = none := by simpa [Addr.add] using World.cell?_spot (hfe 0 (by omega)).1
      subst hspot
      have hcell : ∀ j, j < cap → w.cell? ⟨b, off + j, none⟩ = some (f j) := fun j hj => by rw [← Go.WideShapes.add_plain]; exact (hfe j hj).1
      obtain ⟨c, ty, fr, hb, hc0⟩ := cell_obj (hcell 0 (by omega))
      have hcj : ∀ j, j < cap → c[off + j]? = some (f j) := fun j hj => by
        obtain ⟨c', ty', fr', hb', hcj⟩ := cell_obj (hcell j hj)
        rw [hb] at hb'
        simp only [Option.some.injEq, Obj.cells.injEq] at hb'
        obtain ⟨rfl, _⟩ := hb'
        exact hcj
      have hsize : off + cap ≤ c.size := by
        have := (Array.getElem?_eq_some_iff.1 (hcj (cap - 1) (by omega))).1
        omega
      obtain ⟨φ1, h1, rs, ls, o1, r1, s1, e1, l1, l2, q⟩ := rows_lo he hi hci ((List.range len).map f) ho hr (fun u hu => by
        obtain ⟨j, hj, rfl⟩ := List.mem_map.1 hu
        obtain ⟨z, hz⟩ := (hfe j (by have := List.mem_range.1 hj; omega)).2
        exact ⟨n, z, hz⟩)
      simp only [List.length_map, List.length_range] at l1 l2
      have hat : ∀ j, j < len → ((List.range len).map f)[j]? = some (f j) := fun j hj => by simp [hj]
      refine ⟨AEv.upd φ1 h1.N ⟨b, off, cap⟩, h1.more (.cells 1 len rs), .slice h1.N 0 len len, ls, rfl, lo_add o1 r1 _ _ ?_, s1.trans (lo_stp o1 _ _), e1.trans (more_ext h1 o1 _), ?_, .inr ⟨h1.N, len, rs, by rw [l2], more_at _ _, by omega, fun j r hr' => ?_⟩, rfl⟩
      · refine ⟨c, ty, fr, hb, hsize, by show rs.length ≤ cap; omega, fun j x hx => ?_⟩
        have hj : j < len := by have := (List.getElem?_eq_some_iff.1 hx).1; omega
        obtain ⟨q1, q2, _⟩ := q j (f j) x (hat j hj) hx
        exact ⟨f j, hcj j (by omega), VR.step (lo_stp o1 _ _) _ _ q1, q2⟩
      · simp only [VR]
        exact ⟨_, cap, 1, len, _, rfl, hl, more_at _ _, Nat.le_refl _, fun _ => ⟨by simp [AEv.upd], fun _ _ => by simp [AEv.upd]⟩⟩
      · have hj : j < len := by have := (List.getElem?_eq_some_iff.1 hr').1; omega
        obtain ⟨_, _, l, q3, q4⟩ := q j (f j) r (hat j hj) hr'
        exact ⟨l, q3, q4.ext (more_ext h1 o1 _)⟩
structure RuleKey (P : Program) (k i t : TypeId) (f g l : Field) : Prop where
  hu : P.underlying k = some (.struct #[f, g, l])
  size : P.cellsOf k = 3
  ci : P.cellsOf i = 1
  ct : P.cellsOf t = 1
  f1 : f.type = i
  f2 : g.type = t
  f3 : l.type = t
  o1 : f.offset = 0
  o2 : g.offset = 1
  o3 : l.offset = 2
theorem okWide_rule {P : Program} {W : World} {k i t : TypeId} {f g l : Field} (A : RuleKey P k i t f g l) {r : Reach} {b0 : Nat} {v : Value} (h : Value.okWide P W r b0 k v) : ∃ c0 c1 c2, v = .agg #[c0, c1, c2] := by
  simp only [Value.okWide, A.hu] at h
  obtain ⟨cs, h1, h2, _⟩ := h
  rw [A.size] at h2
  obtain ⟨l⟩ := cs
  match l, h2 with
  | [c0, c1, c2], _ => exact ⟨c0, c1, c2, h1⟩
theorem rule_lo {CK : CKT} {φ : Nat → Emb} {h : Heap} {w : World} (ho : h.own = []) (hr : HR CK w [] φ h w) {H : Type} {enc : TypeId × Value → H} {P : Program} {k i t e : TypeId} {f g l : Field} {v : Value} {d : DataW H} {p : List MemPlace} (A : RuleKey P k i t f g l)
    (ht : P.underlying t = some (.slice e)) (he : P.underlying e = some (.slice i)) (hi : P.underlying i = some (.int .i64)) (hce : P.cellsOf e = 1) {r : Reach} {b0 : Nat} (hval : Value.okWide P w r b0 k v) (kd : DataW.Trod enc P w 0 (fun _ => true) true k v d p) :
    ∃ φ' h' q x y B W, h'.own = [] ∧ HR CK w [] φ' h' w ∧ Stp φ h φ' h' ∧ Ext h h' ∧ VR φ' h' (.agg [.int .i64 q, x, y]) v ∧ MR h' x B ∧ MR h' y W := by
  obtain ⟨c0, c1, c2, rfl⟩ := okWide_rule A hval
  obtain ⟨fuel, hf⟩ := kd
  cases fuel with
  | zero => simp [DataW.trod] at hf
  | succ n =>
    rw [DataW.trod_step] at hf
    unfold DataW.trodStep at hf
    simp only [A.hu, Value.cells] at hf
    rw [if_pos (by rw [A.size]; rfl)] at hf
    simp only [Option.map_eq_some_iff] at hf
    obtain ⟨xs, hx, e1⟩ := hf
    rw [List.mapM_cons, List.mapM_cons, List.mapM_cons, List.mapM_nil] at hx
    simp only [bind, Option.bind_eq_some_iff, pure, Option.some.injEq, A.ci, A.ct, A.f1, A.f2, A.f3, A.o1, A.o2, A.o3] at hx
    obtain ⟨y0, h0, _, ⟨y1, h1, _, ⟨y2, h2, _, rfl, rfl⟩, rfl⟩, rfl⟩ := hx
    have h0' : DataW.trod enc P w 0 (fun _ => true) true n i [c0] = some y0 := h0
    have h1' : DataW.trod enc P w 0 (fun _ => true) true n t [c1] = some y1 := h1
    have h2' : DataW.trod enc P w 0 (fun _ => true) true n t [c2] = some y2 := h2
    obtain ⟨a, ea, _, _⟩ := DataW.trod_int hi h0'
    obtain rfl : c0 = .int .i64 a := by simpa using ea
    obtain ⟨φ1, m1, x, B, o1, r1, s1, x1, v1, p1, q1⟩ := mat_lo0 ho hr ht he hi hce A.ci h1'
    obtain ⟨φ2, m2, y, W, o2, r2, s2, x2, v2, p2, q2⟩ := mat_lo0 o1 r1 ht he hi hce A.ci h2'
    refine ⟨φ2, m2, a, x, y, B, W, o2, r2, s1.trans s2, x1.trans x2, ?_, Go.AEv.MR.ext x2 p1, p2⟩
    simp only [VR, VRs]
    refine ⟨#[.int .i64 a, c1, c2], rfl, ⟨_, [c1, c2], rfl, rfl, c1, [c2], rfl, VR.step s2 _ _ v1, c2, [], rfl, v2, rfl⟩, fun z hz => ?_⟩
    simp only [List.mem_cons, List.not_mem_nil, or_false] at hz
    rcases hz with rfl | rfl | rfl
    · rfl
    · exact q1
    · exact q2
end Go.AEv
