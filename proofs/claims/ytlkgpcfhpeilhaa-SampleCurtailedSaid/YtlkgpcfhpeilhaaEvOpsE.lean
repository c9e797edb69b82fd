/-
  Each operation of the evaluator stands for the model's: part six: append, copy, make.
-/
import Derived.Test.YtlkgpcfhpeilhaaEvOpsD
set_option linter.unusedVariables false
set_option linter.unusedSimpArgs false
namespace Go.AEv
section
variable {CK : CKT} {P : Program} {w0 : World} {K : List Nat} {φ : Nat → Emb} {H H' : Heap} {w : World} {s : T} {ρ : Operand → Value} {v : AV} {fp : FP} {call : CallF} {h0 : Heap}

/-- What is appended, or copied. -/
theorem elems_sim (hr : HR CK w0 K φ H w) {g n : Nat} {y : AV} {u : Value} {ys : List AV} (hy : VR φ H y u) (h : elems H g y = some (n, ys)) :
    (Builtin.lenOf u).run P w = .ok n w ∧ ys.length = n * g ∧ ∃ arr : Array Value, (∀ w' : World, w'.heap = w.heap → (Builtin.firstCells g n u).run P w' = .ok arr w') ∧ VRs φ H ys arr.toList ∧ ∀ x ∈ arr.toList, Value.oneCell' x = true := by
  unfold elems at h
  split at h
  · simp only [VR] at hy; subst hy
    simp only [Option.some.injEq, Prod.mk.injEq] at h
    obtain ⟨rfl, rfl⟩ := h
    exact ⟨by simp [Builtin.lenOf], by simp, #[], fun w' _ => by simp [Builtin.firstCells], by simp [VRs], by simp⟩
  · simp only [VR] at hy
    obtain ⟨a, c, rfl⟩ := hy
    simp only [Option.some.injEq, Prod.mk.injEq] at h
    obtain ⟨rfl, rfl⟩ := h
    refine ⟨by simp [Builtin.lenOf], by simp, #[], fun w' _ => ?_, by simp [VRs], by simp⟩
    simp [Builtin.firstCells, loadCells, loadCellsFrom]
  · rename_i l
    simp only [VR] at hy; subst hy
    split at h
    · rename_i hg
      subst hg
      simp only [Option.some.injEq, Prod.mk.injEq] at h
      obtain ⟨rfl, rfl⟩ := h
      refine ⟨by simp [Builtin.lenOf, ByteArray.size], by simp, l.toArray.map fun b => .int .u8 b.toNat, fun w' _ => ?_, ?_, by simp [Value.oneCell']⟩
      · simp only [Builtin.firstCells, Sem.run_pure]
        congr 2
        rw [ByteArray.data_extract]
        simp
      · simp only [Array.toList_map]
        induction l with
        | nil => simp [VRs]
        | cons b l ih => simp only [List.map_cons, VRs, VR]; exact ⟨_, _, rfl, rfl, by simpa using ih⟩
    · cases h
  · rename_i b o len ver
    simp only [VR] at hy
    obtain ⟨a, c, gg, nn, cs, rfl, hl, hg, hv, ha⟩ := hy
    rw [hg] at h
    simp only at h
    split at h
    · rename_i hn
      split at h
      · rename_i hlen
        simp only [Option.some.injEq, Prod.mk.injEq] at h
        obtain ⟨rfl, rfl⟩ := h
        obtain ⟨rfl, _⟩ := ha hn.symm
        obtain ⟨xs, hxl, hxs, hxc, hxa⟩ := range_at hr hg o (len * g) hlen
        refine ⟨by simp [Builtin.lenOf], hlen, xs.toArray, fun w' hw' => ?_, by simpa using hxs, by simpa using hxc⟩
        have := run_loadCells_list (P := P) w' ⟨(φ b).blk, (φ b).off + o, none⟩ xs (fun k q hk => by
          have := hxa k q hk
          unfold World.cell? at this ⊢
          rw [hw']; exact this)
        rw [hxl] at this
        simp only [Builtin.firstCells, this]
      · cases h
    · cases h
  · cases h

def zeroSz (P : Program) (e : TypeId) (g : Nat) : Bool :=
  match P.info? e with
  | some i => match i.zero with
    | some v => v.cells.size == g && v.cells.toList.all Value.oneCell'
    | none => false
  | none => false

def appOk (P : Program) (sT xT : TypeId) (g bytes : Nat) : Bool :=
  (match P.underlying sT with
   | some (.slice e) => sizeOk P e g && bytesOk P e bytes && zeroSz P e g && decide (0 < g) && decide (0 < bytes) && decide (bytes ≤ 1073741824)
   | _ => false) &&
  (match P.underlying xT with
   | some (.slice _) | some .string => true
   | _ => false)

theorem growBy_le (need : Nat) : ∀ (k c : Nat), c ≤ need + (need + 768) / 4 → Builtin.growBy need k c ≤ need + (need + 768) / 4
  | 0, c, h => h
  | k + 1, c, h => by
    simp only [Builtin.growBy]
    split
    · exact h
    · exact growBy_le need k _ (by omega)

theorem cap_le (need old : Nat) (h : old < need) : Builtin.nextslicecap need old ≤ 2 * need + 192 := by
  unfold Builtin.nextslicecap
  split
  · omega
  · split
    · omega
    · have := growBy_le need 4 old (by omega); omega

/-- What append makes where the cells do not suffice. -/
theorem run_append_grow {sT xT ty e : TypeId} {g bytes len c n : Nat} {base : Option Addr} {u : Value} {old new : Array Value}
    (hu : P.underlying sT = some (.slice e)) (hx : (match P.underlying xT with | some (.slice _) | some .string => true | _ => false) = true) (hs : sizeOk P e g = true) (hby : bytesOk P e bytes = true) (hz : zeroSz P e g = true)
    (hb0 : 0 < bytes) (hb1 : bytes ≤ 1073741824) (hle : (len + n) * bytes ≤ 1099511627776) (hc : c < len + n)
    (hl : (Builtin.lenOf u).run P w = .ok n w) (ho : ∀ w' : World, w'.heap = w.heap → (Builtin.firstCells g len (.slice base len c)).run P w' = .ok old w') (hn : ∀ w' : World, w'.heap = w.heap → (Builtin.firstCells g n u).run P w' = .ok new w')
    (hos : old.size = len * g) (hns : new.size = n * g) :
    ∃ (cap : Nat) (rest : Array Value) (w1 : World), (w1.heap = w.heap ∧ Env w w1) ∧ len + n ≤ cap ∧ rest.size = (cap - (len + n)) * g ∧ (∀ x ∈ rest.toList, Value.oneCell' x = true) ∧
      (Builtin.append_ #[sT, xT] ty #[.slice base len c, u]).run P w = .ok (.slice (some ⟨w1.heap.size, 0, none⟩) (len + n) cap) { w1 with heap := w1.heap.push (.cells (old ++ new ++ rest) e) } := by
  unfold bytesOk at hby
  unfold zeroSz at hz
  cases hi : P.info? e with
  | none => rw [hi] at hby; cases hby
  | some i =>
    rw [hi] at hby hz
    simp only [beq_iff_eq] at hby
    simp only at hz
    cases hzz : i.zero with
    | none => rw [hzz] at hz; cases hz
    | some zv =>
      rw [hzz] at hz
      simp only [Bool.and_eq_true, beq_iff_eq, List.all_eq_true] at hz
      have hzero : ∀ w' : World, (zeroValue e).run P w' = .ok zv w' := fun w' => by simp only [zeroValue, Sem.run_bind, run_info hi, Result.andThen_ok, hzz, Sem.run_pure]
      have hcap := cap_le (len + n) c hc
      have hbig : ¬ (Builtin.nextslicecap (len + n) c * i.bytes > 2 ^ 48) := by
        rw [hby]
        have h1 := Nat.mul_le_mul_right bytes hcap
        have h2 : (2 * (len + n) + 192) * bytes = 2 * ((len + n) * bytes) + 192 * bytes := by rw [Nat.add_mul, Nat.mul_assoc]
        omega
      have hneed : len + n ≤ 1099511627776 := Nat.le_trans (Nat.le_mul_of_pos_right _ hb0) hle
      generalize hcv : (Question.appendCap (len + n) c e).cut (w.tape w.drawn (.appendCap (len + n) c e)) = cap
      have hcg : len + n ≤ cap := by rw [← hcv]; simp [Question.cut]
      have hxu : ∃ d, P.underlying xT = some d ∧ ((∃ q, d = .slice q) ∨ d = .string) := by
        cases hq : P.underlying xT with
        | none => rw [hq] at hx; simp at hx
        | some d => exact ⟨d, rfl, by rw [hq] at hx; cases d <;> simp_all⟩
      refine ⟨cap, Builtin.zeroCells zv.cells (cap - (len + n)), { w with drawn := w.drawn + 1 }, ⟨rfl, rfl, rfl, rfl⟩, hcg, by simp [Builtin.zeroCells, hz.1], ?_, ?_⟩
      · intro x hx'
        simp only [Builtin.zeroCells, Array.toList_map, List.mem_map] at hx'
        obtain ⟨k, _, rfl⟩ := hx'
        by_cases hzs : zv.cells.size = 0
        · simp only [hz.1] at hzs
          exfalso
          rename_i hk
          simp [hz.1, hzs] at hk
        · have hlt : k % zv.cells.size < zv.cells.size := Nat.mod_lt _ (by omega)
          rw [getElem!_pos zv.cells _ hlt]
          exact hz.2 _ (by simp)
      · obtain ⟨d, hd, hdz⟩ := hxu
        have hforced : (Question.appendCap (len + n) c e).forced = false := rfl
        simp only [Builtin.append_, List.getElem?_toArray, List.getElem?_cons_zero, List.getElem?_cons_succ, Sem.run_bind, run_und hu, Result.andThen_ok, run_size hs, run_und hd, Sem.run_pure]
        rcases hdz with ⟨q, rfl⟩ | rfl <;>
        (simp only [Bool.false_eq_true, if_false, Sem.run_bind, hl, Result.andThen_ok, Sem.run_ite, if_neg (show ¬ len + n ≤ c by omega), run_info hi, false_or, hby]
         rw [if_neg (by rintro ⟨_, h⟩; omega), if_neg (by rw [← hby]; exact hbig)]
         simp only [Sem.run_bind, run_choose, hforced, Bool.false_eq_true, if_false, Result.andThen_ok, hcv, run_info hi, run_askRoom, ho { w with drawn := w.drawn + 1 } rfl, hn { w with drawn := w.drawn + 1 } rfl, Bool.not_false, if_true, hzero, newRow, run_newObj, Sem.run_pure])

theorem run_append_fit {sT xT ty e : TypeId} {g len c n : Nat} {base : Option Addr} {u : Value} {new : Array Value} {w' : World}
    (hu : P.underlying sT = some (.slice e)) (hx : (match P.underlying xT with | some (.slice _) | some .string => true | _ => false) = true) (hs : sizeOk P e g = true)
    (hc : len + n ≤ c) (hl : (Builtin.lenOf u).run P w = .ok n w) (hn : (Builtin.firstCells g n u).run P w = .ok new w)
    (hst : ∀ a, base = some a → (storeCells (a.add (len * g)) new.toList).run P w = .ok () w') (hno : base = none → w' = w) :
    (Builtin.append_ #[sT, xT] ty #[.slice base len c, u]).run P w = .ok (.slice base (len + n) c) w' := by
  have hxu : ∃ d, P.underlying xT = some d ∧ ((∃ q, d = .slice q) ∨ d = .string) := by
    cases hq : P.underlying xT with
    | none => rw [hq] at hx; simp at hx
    | some d => exact ⟨d, rfl, by rw [hq] at hx; cases d <;> simp_all⟩
  obtain ⟨d, hd, hdz⟩ := hxu
  simp only [Builtin.append_, List.getElem?_toArray, List.getElem?_cons_zero, List.getElem?_cons_succ, Sem.run_bind, run_und hu, Result.andThen_ok, run_size hs, run_und hd, Sem.run_pure]
  rcases hdz with ⟨q, rfl⟩ | rfl <;>
  (simp only [Bool.false_eq_true, if_false, Sem.run_bind, hl, Result.andThen_ok, if_pos hc, Bool.not_false, if_true, hn]
   cases base with
   | none => obtain rfl := hno rfl; simp
   | some a => simp [hst a rfl])

theorem upd_self (φ : Nat → Emb) (i : Nat) (e : Emb) : upd φ i e i = e := by simp [upd]

theorem append_sim (hr : HR CK w0 K φ H w) {sT xT ty : TypeId} {g bytes n n0 : Nat} {j : Option Nat} {a b : AV} {x u : Value} {ys : List AV} (hk : appOk P sT xT g bytes = true) (hx : VR φ H a x) (hy : VR φ H b u) (he : elems H g b = some (n, ys)) {eff : Eff}
    (hv : appA H n0 j g bytes n ys a = some (v, eff)) (ha : eff.app H = some H') :
    ∃ φ' w' r, (Builtin.append_ #[sT, xT] ty #[x, u]).run P w = .ok r w' ∧ HR CK w0 K φ' H' w' ∧ VR φ' H' v r ∧ Stp φ H φ' H' := by
  simp only [appOk, Bool.and_eq_true] at hk
  obtain ⟨hk1, hk2⟩ := hk
  cases hu : P.underlying sT with
  | none => rw [hu] at hk1; simp at hk1
  | some d =>
  rw [hu] at hk1
  cases d <;> simp only [Bool.false_eq_true] at hk1
  rename_i e
  simp only [Bool.and_eq_true, decide_eq_true_eq] at hk1
  obtain ⟨⟨⟨⟨⟨hs, hby⟩, hz⟩, hg0⟩, hb0⟩, hb1⟩ := hk1
  obtain ⟨hl, hyl, arr, hf', hya, hyo⟩ := elems_sim (P := P) hr hy he
  have hral : arr.size = n * g := by have := hya.length; simp at this; omega
  have hf := hf' w rfl
  unfold appA at hv
  cases a <;> simp only [reduceCtorEq] at hv
  case nils =>
    simp only [VR] at hx; subst hx
    split at hv
    · rename_i hn0
      simp only [Option.some.injEq, Prod.mk.injEq] at hv
      obtain ⟨rfl, rfl⟩ := hv
      simp only [Eff.app, Option.some.injEq] at ha; subst ha
      subst hn0
      exact ⟨φ, w, _, run_append_fit (w' := w) hu hk2 hs (by omega) hl hf (by simp) (fun _ => rfl), hr, by simp [VR], Stp.refl φ H⟩
    · rename_i hn0
      split at hv
      · rename_i hle
        simp only [Option.some.injEq, Prod.mk.injEq] at hv
        obtain ⟨rfl, rfl⟩ := hv
        obtain ⟨cap, rest, w1, hw1, hcap, hrs, hro, hrun⟩ := run_append_grow (ty := ty) (len := 0) (c := 0) (base := none) (old := #[]) hu hk2 hs hby hz hb0 hb1 (by simpa using hle) (by omega) hl (fun w' _ => by simp [Builtin.firstCells]) hf' (by simp) hral
        obtain ⟨r1, r2, r3⟩ := new_cells (hr.ofHeap hw1.1 hw1.2) (t := e) (c := #[] ++ arr ++ rest) ha (by
            rw [show ((#[] : Array Value) ++ arr ++ rest).toList.take ys.length = arr.toList by simp [hyl, ← hral]]; exact hya) (by simp; omega) (by simp; intro q hq; rcases hq with hq | hq; exact hyo q (by simpa using hq); exact hro q (by simpa using hq))
        refine ⟨_, _, _, hrun, r1, ?_, r2⟩
        simp only [VR]
        refine ⟨_, _, g, _, _, by rw [Nat.zero_add], by omega, r3, Nat.le_refl _, fun _ => ⟨by rw [upd_self], fun _ _ => ?_⟩⟩
        rw [upd_self]
        simp only [Array.size_append, hral, hrs, Nat.zero_add]
        have : cap * g = n * g + (cap - n) * g := by rw [← Nat.add_mul]; congr 1; omega
        simp; omega
      · cases hv
  case slice0 =>
    simp only [VR] at hx
    obtain ⟨ad, c, rfl⟩ := hx
    split at hv
    · rename_i hn0
      simp only [Option.some.injEq, Prod.mk.injEq] at hv
      obtain ⟨rfl, rfl⟩ := hv
      simp only [Eff.app, Option.some.injEq] at ha; subst ha
      subst hn0
      have hae : arr = #[] := by apply Array.eq_empty_of_size_eq_zero; simpa using hral
      subst hae
      exact ⟨φ, w, _, run_append_fit (w' := w) hu hk2 hs (by omega) hl hf (by simp [storeCells]) (by simp), hr, by simp only [VR]; exact ⟨_, _, rfl⟩, Stp.refl φ H⟩
    · cases hv
  case slice b o len ver =>
    split at hv
    · rename_i hn0
      simp only [Option.some.injEq, Prod.mk.injEq] at hv
      obtain ⟨rfl, rfl⟩ := hv
      simp only [Eff.app, Option.some.injEq] at ha; subst ha
      subst hn0
      have hae : arr = #[] := by apply Array.eq_empty_of_size_eq_zero; simpa using hral
      subst hae
      have hx' := hx
      simp only [VR] at hx'
      obtain ⟨ad, c, gg, nn, cs, rfl, hlc, _⟩ := hx'
      exact ⟨φ, w, _, run_append_fit (w' := w) hu hk2 hs (by omega) hl hf (by simp [storeCells]) (by simp), hr, hx, Stp.refl φ H⟩
    · rename_i hn0
      split at hv
      · rename_i hc
        obtain ⟨rfl, rfl, hle⟩ := hc
        simp only [Option.some.injEq, Prod.mk.injEq] at hv
        obtain ⟨rfl, rfl⟩ := hv
        simp only [Eff.app] at ha
        split at ha
        · cases ha
        · rename_i hb
          split at ha
          · rename_i g' nn cs hown
            split at ha
            · rename_i hcond
              obtain ⟨rfl, rfl, hcl⟩ := hcond
              rw [forceL_eq] at ha
              cases ha
              have hg := Heap.get_own H b _ hb hown
              simp only [VR] at hx
              obtain ⟨ad, c, gg, nn, cs', rfl, hlc, hg2, hv2, had⟩ := hx
              rw [hg] at hg2; cases hg2
              obtain ⟨rfl, hcc⟩ := had rfl
              have hcc := hcc (by omega) trivial
              have ho := hr.obj b
              rw [hg] at ho
              obtain ⟨cr, t, fr, hw, h2, h3, h4⟩ := ho
              obtain ⟨hlow, hoff, hfz⟩ := hr.own b (by omega) (by rw [hg]; simp)
              obtain rfl := hfz _ _ _ hw
              rw [hoff] at h2 h4 ⊢
              have hlen : (cs ++ ys).length = (len + n) * g' := by rw [List.length_append, hcl, hyl, Nat.add_mul]
              by_cases hfit : len + n ≤ c
              · have hmul : (len + n) * g' ≤ c * g' := Nat.mul_le_mul_right _ hfit
                have e1 : (len + n) * g' = len * g' + n * g' := Nat.add_mul _ _ _
                have hst := run_storeCells_at P (φ b).blk (len * g') t arr.toList 0 cr w hw (by simp [hral]; omega) hyo
                simp only [Nat.add_zero] at hst
                have hup := own_upd hr (n' := len * g' + ys.length) (cs' := cs ++ ys) (c' := (cr.toList.take (len * g') ++ arr.toList ++ cr.toList.drop (len * g' + arr.toList.length)).toArray) hb hown hw (by simp [hral]; omega) (by omega) (by rw [hlen]; omega) ?_
                · refine ⟨φ, _, _, run_append_fit (w' := w.setRow (φ b).blk (cr.toList.take (len * g') ++ arr.toList ++ cr.toList.drop (len * g' + arr.toList.length)).toArray) hu hk2 hs hfit hl hf ?_ (by simp), hup.1, ?_, hup.2⟩
                  · rintro _ ⟨⟩
                    rw [addr_add]
                    simpa using hst
                  · simp only [VR]
                    refine ⟨_, c, g', _, _, rfl, hfit, by rw [Heap.get_setOwn H b _ _ hb hown, if_pos rfl], by omega, fun _ => ⟨by rw [hoff], fun _ _ => hcc⟩⟩
                · intro k v hk
                  by_cases hkl : k < cs.length
                  · rw [List.getElem?_append_left hkl] at hk
                    obtain ⟨x, hx, hvx, hc1⟩ := h4 k v hk
                    refine ⟨x, ?_, hvx, hc1⟩
                    simp only [List.getElem?_toArray]
                    rw [List.append_assoc, List.getElem?_append_left (by simp; omega), List.getElem?_take_of_lt (by omega)]
                    simpa using hx
                  · rw [List.getElem?_append_right (by omega)] at hk
                    obtain ⟨x, hx, hvx⟩ := VRs.get hya hk
                    have hlt : k - cs.length < ys.length := (List.getElem?_eq_some_iff.1 hk).1
                    refine ⟨x, ?_, hvx, hyo x (List.mem_of_getElem? hx)⟩
                    simp only [List.getElem?_toArray]
                    have e2 : (cr.toList.take (len * g')).length = len * g' := by simp; omega
                    rw [List.append_assoc, List.getElem?_append_right (by omega), List.getElem?_append_left (by rw [e2]; simp [hral]; omega), e2, ← hcl]
                    exact hx
              · have hlt : c < len + n := by omega
                have hlenv : ((cs.drop 0).take (len * g')).length = len * g' := by simp [hcl]
                have hold : ∃ old : Array Value, (∀ w' : World, w'.heap = w.heap → (Builtin.firstCells g' len (.slice (some ⟨(φ b).blk, 0 + 0, none⟩) len c)).run P w' = .ok old w') ∧ VRs φ H cs old.toList ∧ (∀ q ∈ old.toList, Value.oneCell' q = true) ∧ old.size = len * g' := by
                  obtain ⟨xs, hxl, hxs, hxc, hxa⟩ := range_at hr hg 0 (len * g') hlenv
                  refine ⟨xs.toArray, fun w' hw' => ?_, ?_, by simpa using hxc, by simpa using hxl⟩
                  · have := run_loadCells_list (P := P) w' ⟨(φ b).blk, (φ b).off + 0, none⟩ xs (fun k q hk => by
                      have := hxa k q hk
                      unfold World.cell? at this ⊢
                      rw [hw']; exact this)
                    rw [hxl, hoff] at this
                    simp only [Builtin.firstCells, this]
                  · simpa [List.take_of_length_le (Nat.le_of_eq hcl)] using hxs
                obtain ⟨old, ho1, ho2, ho3, ho4⟩ := hold
                obtain ⟨cap, rest, w1, hw1, hcap, hrs, hro, hrun⟩ := run_append_grow (ty := ty) hu hk2 hs hby hz hb0 hb1 hle hlt hl ho1 hf' ho4 hral
                have hs2 : Stp φ H (upd φ b ⟨w1.heap.size, 0, (old ++ arr ++ rest).size⟩) (H.setOwn b (.cells g' (len * g' + ys.length) (cs ++ ys))) := by
                  intro k
                  have hgk := Heap.get_setOwn H b (.cells g' (len * g' + ys.length) (cs ++ ys)) _ hb hown k
                  by_cases hk : k = b
                  · subst hk
                    simp only [if_true] at hgk
                    refine ⟨fun g1 n1 cs1 e => ?_, fun es e => ?_, fun st pend s ps x y e => ?_⟩
                    · rw [hg] at e; cases e; refine ⟨_, _, hgk, by omega, fun q => ?_⟩
                      have : 0 < n * g' := Nat.mul_pos (by omega) hg0
                      omega
                    · rw [hg] at e; cases e
                    · rw [hg] at e; cases e
                  · simp only [hk, if_false] at hgk
                    have hp : upd φ b ⟨w1.heap.size, 0, (old ++ arr ++ rest).size⟩ k = φ k := by simp [upd, hk]
                    exact ⟨fun g1 n1 cs1 e => ⟨n1, cs1, by rw [hgk, e], Nat.le_refl _, fun _ => hp⟩, fun es e => ⟨es, by rw [hgk, e], hp⟩, fun st pend s ps x y e => ⟨st, pend, s, ps, x, y, by rw [hgk, e], hp⟩⟩
                have hr1 := hr.ofHeap hw1.1 hw1.2
                have htot : (old ++ arr ++ rest).size = cap * g' := by
                  simp only [Array.size_append, ho4, hral, hrs]
                  rw [← Nat.add_mul, ← Nat.add_mul]; congr 1; omega
                have e1 : (len + n) * g' = len * g' + n * g' := Nat.add_mul _ _ _
                have hmul : (len + n) * g' ≤ cap * g' := Nat.mul_le_mul_right _ hcap
                refine ⟨_, _, _, hrun, HR.upd hr1 b (by omega) (.cells g' (len * g' + ys.length) (cs ++ ys)) ⟨w1.heap.size, 0, (old ++ arr ++ rest).size⟩ (by rw [Heap.setOwn_eq]) (Heap.get_setOwn H b _ _ hb hown) (by simp) (fun r hr' _ => heap_push_same r hr') (.inr (Nat.le_refl _)) rfl hs2 ?_ ?_, ?_, hs2⟩
                · refine ⟨old ++ arr ++ rest, e, (0, 0), by simp, by simp, by rw [hlen, htot]; exact hmul, fun k v hk => ?_⟩
                  simp only [Nat.zero_add]
                  have hva := VRs.append ho2 hya
                  obtain ⟨x, hx, hvx⟩ := VRs.get hva hk
                  have hkl : k < (cs ++ ys).length := (List.getElem?_eq_some_iff.1 hk).1
                  refine ⟨x, ?_, VR.step hs2 _ _ hvx, ?_⟩
                  · rw [← Array.getElem?_toList, Array.toList_append, Array.toList_append, List.getElem?_append_left (by simp [ho4, hral]; omega)]
                    exact hx
                  · have := List.mem_of_getElem? hx
                    rw [List.mem_append] at this
                    rcases this with h | h
                    · exact ho3 x h
                    · exact hyo x h
                · intro c' t' fr e; simp at e; exact e.2.2.symm
                · simp only [VR]
                  refine ⟨_, cap, g', _, _, rfl, hcap, by rw [Heap.get_setOwn H b _ _ hb hown, if_pos rfl], by omega, fun _ => ⟨by rw [upd_self], fun _ _ => ?_⟩⟩
                  rw [upd_self]
                  show cap * g' ≤ (old ++ arr ++ rest).size
                  omega
            · cases ha
          · cases ha
      · cases hv

end
end Go.AEv
