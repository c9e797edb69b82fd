/-
  An argument that is an array of ints, opened and shut again. No condition.
-/
import Derived.WideKeyPair
namespace Go.AEv
open Go.ChangeShapes Go.WideShapes
section
variable {H : Type} {enc : TypeId × Value → H} {P : Program} {k e : TypeId} {q : IntKind} {W : World} {base : Nat} {sp : Nat → Bool} {held : Bool}

theorem okWide_three (A : Go.WideMaps.ArrKey P k e 3) {r : Reach} {b0 : Nat} {v : Value} (h : Value.okWide P W r b0 k v) : ∃ c0 c1 c2, v = .agg #[c0, c1, c2] := by
  simp only [Value.okWide, A.hu] at h
  obtain ⟨cs, h1, h2, _⟩ := h
  rw [A.size] at h2
  obtain ⟨l⟩ := cs
  match l, h2 with
  | [c0, c1, c2], _ => exact ⟨c0, c1, c2, h1⟩

theorem open_three (A : Go.WideMaps.ArrKey P k e 3) (he : P.underlying e = some (.int q)) {r : Reach} {b0 : Nat} {v : Value} {d : DataW H} {ps : List MemPlace} (hval : Value.okWide P W r b0 k v) (hd : DataW.Trod enc P W base sp held k v d ps) :
    ∃ a b c : Int, v = .agg #[.int q a, .int q b, .int q c] ∧ d = .agg [.lit (.int q a), .lit (.int q b), .lit (.int q c)] ∧ ps = [] ∧ (Lit.int q a).wf = true ∧ (Lit.int q b).wf = true ∧ (Lit.int q c).wf = true := by
  obtain ⟨c0, c1, c2, rfl⟩ := okWide_three A hval
  obtain ⟨fuel, hf⟩ := hd
  cases fuel with
  | zero => simp [DataW.trod] at hf
  | succ n =>
    rw [DataW.trod_step] at hf
    unfold DataW.trodStep at hf
    simp only [A.hu, Value.cells] at hf
    rw [if_pos (by rw [A.size]; rfl)] at hf
    simp only [Option.map_eq_some_iff] at hf
    obtain ⟨xs, hx, e1⟩ := hf
    rw [show List.range 3 = [0, 1, 2] from rfl, List.mapM_cons, List.mapM_cons, List.mapM_cons, List.mapM_nil] at hx
    simp only [bind, Option.bind_eq_some_iff, pure, Option.some.injEq, A.one] at hx
    obtain ⟨y0, h0, _, ⟨y1, h1, _, ⟨y2, h2, _, rfl, rfl⟩, rfl⟩, rfl⟩ := hx
    obtain ⟨a, ea, rfl, wa⟩ := DataW.trod_int he h0
    obtain ⟨b, eb, rfl, wb⟩ := DataW.trod_int he h1
    obtain ⟨c, ec, rfl, wc⟩ := DataW.trod_int he h2
    simp at ea eb ec
    subst ea; subst eb; subst ec
    simp only [Prod.mk.injEq] at e1
    exact ⟨a, b, c, rfl, by rw [← e1.1]; rfl, by rw [← e1.2]; rfl, wa, wb, wc⟩

theorem shut_three (A : Go.WideMaps.ArrKey P k e 3) (he : P.underlying e = some (.int q)) {a b c : Int} (wa : (Lit.int q a).wf = true) (wb : (Lit.int q b).wf = true) (wc : (Lit.int q c).wf = true) :
    DataW.Trod enc P W base sp held k (.agg #[.int q a, .int q b, .int q c]) (.agg [.lit (.int q a), .lit (.int q b), .lit (.int q c)]) [] :=
  ⟨2, by
    show DataW.trod enc P W base sp held (1 + 1) k [.int q a, .int q b, .int q c] = _
    rw [DataW.trod_step]
    unfold DataW.trodStep
    simp only [A.hu]
    rw [if_pos (by rw [A.size]; rfl), show List.range 3 = [0, 1, 2] from rfl, List.mapM_cons, List.mapM_cons, List.mapM_cons, List.mapM_nil]
    simp [A.one, DataW.trod, he, wa, wb, wc]⟩

theorem okWide_four (A : Go.WideMaps.ArrKey P k e 4) {r : Reach} {b0 : Nat} {v : Value} (h : Value.okWide P W r b0 k v) : ∃ c0 c1 c2 c3, v = .agg #[c0, c1, c2, c3] := by
  simp only [Value.okWide, A.hu] at h
  obtain ⟨cs, h1, h2, _⟩ := h
  rw [A.size] at h2
  obtain ⟨l⟩ := cs
  match l, h2 with
  | [c0, c1, c2, c3], _ => exact ⟨c0, c1, c2, c3, h1⟩

theorem open_four (A : Go.WideMaps.ArrKey P k e 4) (he : P.underlying e = some (.int q)) {r : Reach} {b0 : Nat} {v : Value} {d : DataW H} {ps : List MemPlace} (hval : Value.okWide P W r b0 k v) (hd : DataW.Trod enc P W base sp held k v d ps) :
    ∃ a0 a1 a2 a3 : Int, v = .agg #[.int q a0, .int q a1, .int q a2, .int q a3] ∧ d = .agg [.lit (.int q a0), .lit (.int q a1), .lit (.int q a2), .lit (.int q a3)] ∧ ps = [] ∧ (Lit.int q a0).wf = true ∧ (Lit.int q a1).wf = true ∧ (Lit.int q a2).wf = true ∧ (Lit.int q a3).wf = true := by
  obtain ⟨c0, c1, c2, c3, rfl⟩ := okWide_four A hval
  obtain ⟨fuel, hf⟩ := hd
  cases fuel with
  | zero => simp [DataW.trod] at hf
  | succ n =>
    rw [DataW.trod_step] at hf
    unfold DataW.trodStep at hf
    simp only [A.hu, Value.cells] at hf
    rw [if_pos (by rw [A.size]; rfl)] at hf
    simp only [Option.map_eq_some_iff] at hf
    obtain ⟨xs, hx, e1⟩ := hf
    rw [show List.range 4 = [0, 1, 2, 3] from rfl, List.mapM_cons, List.mapM_cons, List.mapM_cons, List.mapM_cons, List.mapM_nil] at hx
    simp only [bind, Option.bind_eq_some_iff, pure, Option.some.injEq, A.one] at hx
    obtain ⟨y0, h0, _, ⟨y1, h1, _, ⟨y2, h2, _, ⟨y3, h3, _, rfl, rfl⟩, rfl⟩, rfl⟩, rfl⟩ := hx
    obtain ⟨a0, e10, rfl, w0⟩ := DataW.trod_int he h0
    obtain ⟨a1, e11, rfl, w1⟩ := DataW.trod_int he h1
    obtain ⟨a2, e12, rfl, w2⟩ := DataW.trod_int he h2
    obtain ⟨a3, e13, rfl, w3⟩ := DataW.trod_int he h3
    simp at e10 e11 e12 e13
    subst e10; subst e11; subst e12; subst e13
    simp only [Prod.mk.injEq] at e1
    exact ⟨a0, a1, a2, a3, rfl, by rw [← e1.1]; rfl, by rw [← e1.2]; rfl, w0, w1, w2, w3⟩

theorem shut_four (A : Go.WideMaps.ArrKey P k e 4) (he : P.underlying e = some (.int q)) {a0 a1 a2 a3 : Int} (w0 : (Lit.int q a0).wf = true) (w1 : (Lit.int q a1).wf = true) (w2 : (Lit.int q a2).wf = true) (w3 : (Lit.int q a3).wf = true) :
    DataW.Trod enc P W base sp held k (.agg #[.int q a0, .int q a1, .int q a2, .int q a3]) (.agg [.lit (.int q a0), .lit (.int q a1), .lit (.int q a2), .lit (.int q a3)]) [] :=
  ⟨2, by
    show DataW.trod enc P W base sp held (1 + 1) k [.int q a0, .int q a1, .int q a2, .int q a3] = _
    rw [DataW.trod_step]
    unfold DataW.trodStep
    simp only [A.hu]
    rw [if_pos (by rw [A.size]; rfl), show List.range 4 = [0, 1, 2, 3] from rfl, List.mapM_cons, List.mapM_cons, List.mapM_cons, List.mapM_cons, List.mapM_nil]
    simp [A.one, DataW.trod, he, w0, w1, w2, w3]⟩


theorem okWide_five (A : Go.WideMaps.ArrKey P k e 5) {r : Reach} {b0 : Nat} {v : Value} (h : Value.okWide P W r b0 k v) : ∃ c0 c1 c2 c3 c4, v = .agg #[c0, c1, c2, c3, c4] := by
  simp only [Value.okWide, A.hu] at h
  obtain ⟨cs, h1, h2, _⟩ := h
  rw [A.size] at h2
  obtain ⟨l⟩ := cs
  match l, h2 with
  | [c0, c1, c2, c3, c4], _ => exact ⟨c0, c1, c2, c3, c4, h1⟩

theorem open_five (A : Go.WideMaps.ArrKey P k e 5) (he : P.underlying e = some (.int q)) {r : Reach} {b0 : Nat} {v : Value} {d : DataW H} {ps : List MemPlace} (hval : Value.okWide P W r b0 k v) (hd : DataW.Trod enc P W base sp held k v d ps) :
    ∃ a0 a1 a2 a3 a4 : Int, v = .agg #[.int q a0, .int q a1, .int q a2, .int q a3, .int q a4] ∧ d = .agg [.lit (.int q a0), .lit (.int q a1), .lit (.int q a2), .lit (.int q a3), .lit (.int q a4)] ∧ ps = [] ∧ (Lit.int q a0).wf = true ∧ (Lit.int q a1).wf = true ∧ (Lit.int q a2).wf = true ∧ (Lit.int q a3).wf = true ∧ (Lit.int q a4).wf = true := by
  obtain ⟨c0, c1, c2, c3, c4, rfl⟩ := okWide_five A hval
  obtain ⟨fuel, hf⟩ := hd
  cases fuel with
  | zero => simp [DataW.trod] at hf
  | succ n =>
    rw [DataW.trod_step] at hf
    unfold DataW.trodStep at hf
    simp only [A.hu, Value.cells] at hf
    rw [if_pos (by rw [A.size]; rfl)] at hf
    simp only [Option.map_eq_some_iff] at hf
    obtain ⟨xs, hx, e1⟩ := hf
    rw [show List.range 5 = [0, 1, 2, 3, 4] from rfl, List.mapM_cons, List.mapM_cons, List.mapM_cons, List.mapM_cons, List.mapM_cons, List.mapM_nil] at hx
    simp only [bind, Option.bind_eq_some_iff, pure, Option.some.injEq, A.one] at hx
    obtain ⟨y0, h0, _, ⟨y1, h1, _, ⟨y2, h2, _, ⟨y3, h3, _, ⟨y4, h4, _, rfl, rfl⟩, rfl⟩, rfl⟩, rfl⟩, rfl⟩ := hx
    obtain ⟨a0, e10, rfl, w0⟩ := DataW.trod_int he h0
    obtain ⟨a1, e11, rfl, w1⟩ := DataW.trod_int he h1
    obtain ⟨a2, e12, rfl, w2⟩ := DataW.trod_int he h2
    obtain ⟨a3, e13, rfl, w3⟩ := DataW.trod_int he h3
    obtain ⟨a4, e14, rfl, w4⟩ := DataW.trod_int he h4
    simp at e10 e11 e12 e13 e14
    subst e10; subst e11; subst e12; subst e13; subst e14
    simp only [Prod.mk.injEq] at e1
    exact ⟨a0, a1, a2, a3, a4, rfl, by rw [← e1.1]; rfl, by rw [← e1.2]; rfl, w0, w1, w2, w3, w4⟩

theorem shut_five (A : Go.WideMaps.ArrKey P k e 5) (he : P.underlying e = some (.int q)) {a0 a1 a2 a3 a4 : Int} (w0 : (Lit.int q a0).wf = true) (w1 : (Lit.int q a1).wf = true) (w2 : (Lit.int q a2).wf = true) (w3 : (Lit.int q a3).wf = true) (w4 : (Lit.int q a4).wf = true) :
    DataW.Trod enc P W base sp held k (.agg #[.int q a0, .int q a1, .int q a2, .int q a3, .int q a4]) (.agg [.lit (.int q a0), .lit (.int q a1), .lit (.int q a2), .lit (.int q a3), .lit (.int q a4)]) [] :=
  ⟨2, by
    show DataW.trod enc P W base sp held (1 + 1) k [.int q a0, .int q a1, .int q a2, .int q a3, .int q a4] = _
    rw [DataW.trod_step]
    unfold DataW.trodStep
    simp only [A.hu]
    rw [if_pos (by rw [A.size]; rfl), show List.range 5 = [0, 1, 2, 3, 4] from rfl, List.mapM_cons, List.mapM_cons, List.mapM_cons, List.mapM_cons, List.mapM_cons, List.mapM_nil]
    simp [A.one, DataW.trod, he, w0, w1, w2, w3, w4]⟩


theorem okWide_six (A : Go.WideMaps.ArrKey P k e 6) {r : Reach} {b0 : Nat} {v : Value} (h : Value.okWide P W r b0 k v) : ∃ c0 c1 c2 c3 c4 c5, v = .agg #[c0, c1, c2, c3, c4, c5] := by
  simp only [Value.okWide, A.hu] at h
  obtain ⟨cs, h1, h2, _⟩ := h
  rw [A.size] at h2
  obtain ⟨l⟩ := cs
  match l, h2 with
  | [c0, c1, c2, c3, c4, c5], _ => exact ⟨c0, c1, c2, c3, c4, c5, h1⟩

theorem open_six (A : Go.WideMaps.ArrKey P k e 6) (he : P.underlying e = some (.int q)) {r : Reach} {b0 : Nat} {v : Value} {d : DataW H} {ps : List MemPlace} (hval : Value.okWide P W r b0 k v) (hd : DataW.Trod enc P W base sp held k v d ps) :
    ∃ a0 a1 a2 a3 a4 a5 : Int, v = .agg #[.int q a0, .int q a1, .int q a2, .int q a3, .int q a4, .int q a5] ∧ d = .agg [.lit (.int q a0), .lit (.int q a1), .lit (.int q a2), .lit (.int q a3), .lit (.int q a4), .lit (.int q a5)] ∧ ps = [] ∧ (Lit.int q a0).wf = true ∧ (Lit.int q a1).wf = true ∧ (Lit.int q a2).wf = true ∧ (Lit.int q a3).wf = true ∧ (Lit.int q a4).wf = true ∧ (Lit.int q a5).wf = true := by
  obtain ⟨c0, c1, c2, c3, c4, c5, rfl⟩ := okWide_six A hval
  obtain ⟨fuel, hf⟩ := hd
  cases fuel with
  | zero => simp [DataW.trod] at hf
  | succ n =>
    rw [DataW.trod_step] at hf
    unfold DataW.trodStep at hf
    simp only [A.hu, Value.cells] at hf
    rw [if_pos (by rw [A.size]; rfl)] at hf
    simp only [Option.map_eq_some_iff] at hf
    obtain ⟨xs, hx, e1⟩ := hf
    rw [show List.range 6 = [0, 1, 2, 3, 4, 5] from rfl, List.mapM_cons, List.mapM_cons, List.mapM_cons, List.mapM_cons, List.mapM_cons, List.mapM_cons, List.mapM_nil] at hx
    simp only [bind, Option.bind_eq_some_iff, pure, Option.some.injEq, A.one] at hx
    obtain ⟨y0, h0, _, ⟨y1, h1, _, ⟨y2, h2, _, ⟨y3, h3, _, ⟨y4, h4, _, ⟨y5, h5, _, rfl, rfl⟩, rfl⟩, rfl⟩, rfl⟩, rfl⟩, rfl⟩ := hx
    obtain ⟨a0, e10, rfl, w0⟩ := DataW.trod_int he h0
    obtain ⟨a1, e11, rfl, w1⟩ := DataW.trod_int he h1
    obtain ⟨a2, e12, rfl, w2⟩ := DataW.trod_int he h2
    obtain ⟨a3, e13, rfl, w3⟩ := DataW.trod_int he h3
    obtain ⟨a4, e14, rfl, w4⟩ := DataW.trod_int he h4
    obtain ⟨a5, e15, rfl, w5⟩ := DataW.trod_int he h5
    simp at e10 e11 e12 e13 e14 e15
    subst e10; subst e11; subst e12; subst e13; subst e14; subst e15
    simp only [Prod.mk.injEq] at e1
    exact ⟨a0, a1, a2, a3, a4, a5, rfl, by rw [← e1.1]; rfl, by rw [← e1.2]; rfl, w0, w1, w2, w3, w4, w5⟩

theorem shut_six (A : Go.WideMaps.ArrKey P k e 6) (he : P.underlying e = some (.int q)) {a0 a1 a2 a3 a4 a5 : Int} (w0 : (Lit.int q a0).wf = true) (w1 : (Lit.int q a1).wf = true) (w2 : (Lit.int q a2).wf = true) (w3 : (Lit.int q a3).wf = true) (w4 : (Lit.int q a4).wf = true) (w5 : (Lit.int q a5).wf = true) :
    DataW.Trod enc P W base sp held k (.agg #[.int q a0, .int q a1, .int q a2, .int q a3, .int q a4, .int q a5]) (.agg [.lit (.int q a0), .lit (.int q a1), .lit (.int q a2), .lit (.int q a3), .lit (.int q a4), .lit (.int q a5)]) [] :=
  ⟨2, by
    show DataW.trod enc P W base sp held (1 + 1) k [.int q a0, .int q a1, .int q a2, .int q a3, .int q a4, .int q a5] = _
    rw [DataW.trod_step]
    unfold DataW.trodStep
    simp only [A.hu]
    rw [if_pos (by rw [A.size]; rfl), show List.range 6 = [0, 1, 2, 3, 4, 5] from rfl, List.mapM_cons, List.mapM_cons, List.mapM_cons, List.mapM_cons, List.mapM_cons, List.mapM_cons, List.mapM_nil]
    simp [A.one, DataW.trod, he, w0, w1, w2, w3, w4, w5]⟩


/-- A struct of two cells of one kind. -/
structure RecKey (P : Program) (k e : TypeId) (f g : Field) : Prop where
  hu : P.underlying k = some (.struct #[f, g])
  one : P.cellsOf e = 1
  size : P.cellsOf k = 2
  f1 : f.type = e
  f2 : g.type = e
  o1 : f.offset = 0
  o2 : g.offset = 1

theorem okWide_rec {f g : Field} (A : RecKey P k e f g) {r : Reach} {b0 : Nat} {v : Value} (h : Value.okWide P W r b0 k v) : ∃ c0 c1, v = .agg #[c0, c1] := by
  simp only [Value.okWide, A.hu] at h
  obtain ⟨cs, h1, h2, _⟩ := h
  rw [A.size] at h2
  obtain ⟨l⟩ := cs
  match l, h2 with
  | [c0, c1], _ => exact ⟨c0, c1, h1⟩

theorem open_rec {f g : Field} (A : RecKey P k e f g) (he : P.underlying e = some (.int q)) {r : Reach} {b0 : Nat} {v : Value} {d : DataW H} {ps : List MemPlace} (hval : Value.okWide P W r b0 k v) (hd : DataW.Trod enc P W base sp held k v d ps) :
    ∃ a b : Int, v = .agg #[.int q a, .int q b] ∧ d = .agg [.lit (.int q a), .lit (.int q b)] ∧ ps = [] ∧ (Lit.int q a).wf = true ∧ (Lit.int q b).wf = true := by
  obtain ⟨c0, c1, rfl⟩ := okWide_rec A hval
  obtain ⟨fuel, hf⟩ := hd
  cases fuel with
  | zero => simp [DataW.trod] at hf
  | succ n =>
    rw [DataW.trod_step] at hf
    unfold DataW.trodStep at hf
    simp only [A.hu, Value.cells] at hf
    rw [if_pos (by rw [A.size]; rfl)] at hf
    simp only [Option.map_eq_some_iff] at hf
    obtain ⟨xs, hx, e1⟩ := hf
    rw [List.mapM_cons, List.mapM_cons, List.mapM_nil] at hx
    simp only [bind, Option.bind_eq_some_iff, pure, Option.some.injEq, A.one, A.f1, A.f2, A.o1, A.o2] at hx
    obtain ⟨y0, h0, _, ⟨y1, h1, _, rfl, rfl⟩, rfl⟩ := hx
    obtain ⟨a, ea, rfl, wa⟩ := DataW.trod_int he h0
    obtain ⟨b, eb, rfl, wb⟩ := DataW.trod_int he h1
    simp at ea eb
    subst ea; subst eb
    simp only [Prod.mk.injEq] at e1
    exact ⟨a, b, rfl, by rw [← e1.1]; rfl, by rw [← e1.2]; rfl, wa, wb⟩

theorem shut_rec {f g : Field} (A : RecKey P k e f g) (he : P.underlying e = some (.int q)) {a b : Int} (wa : (Lit.int q a).wf = true) (wb : (Lit.int q b).wf = true) :
    DataW.Trod enc P W base sp held k (.agg #[.int q a, .int q b]) (.agg [.lit (.int q a), .lit (.int q b)]) [] :=
  ⟨2, by
    show DataW.trod enc P W base sp held (1 + 1) k [.int q a, .int q b] = _
    rw [DataW.trod_step]
    unfold DataW.trodStep
    simp only [A.hu]
    rw [if_pos (by rw [A.size]; rfl), List.mapM_cons, List.mapM_cons, List.mapM_nil]
    simp [A.one, A.f1, A.f2, A.o1, A.o2, DataW.trod, he, wa, wb]⟩
end
end Go.AEv
