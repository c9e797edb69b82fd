/-
  Each operation of the evaluator stands for the model's: part three: operations that only reckon.
-/
import Derived.Test.YtlkgpcfhpeilhaaEvOpsA
import Derived.Laws.Strings
set_option linter.unusedVariables false
set_option linter.unusedSimpArgs false
namespace Go.AEv
section
variable {CK : CKT} {P : Program} {w0 : World} {K : List Nat} {φ : Nat → Emb} {H H' : Heap} {w : World} {s : T} {ρ : Operand → Value} {v : AV} {fp : FP} {call : CallF} {h0 : Heap}

/-- A value that is reckoned without memory. -/
def Val (P : Program) (w : World) (φ : Nat → Emb) (H : Heap) (sem : Sem Value) (v : AV) : Prop := ∃ x, sem.run P w = .ok x w ∧ VR φ H v x

theorem Val.pure {x : Value} {sem : Sem Value} (h : sem.run P w = .ok x w) (hv : VR φ H v x) : Val P w φ H sem v := ⟨x, h, hv⟩

theorem bin_sim {op : BinOp} {t : TypeId} {x y : Operand} {a b : AV} {u z : Value} (ha : VR φ H a u) (hb : VR φ H b z) (h : evBin op a b = some v) :
    Val P w φ H (do eqGuard op t x y u z; binOp op t u z) v := by
  unfold evBin at h
  split at h
  · rename_i k a k' b
    simp only [VR] at ha hb
    subst ha; subst hb
    have hg : (eqGuard op t x y (.int k a) (.int k' b)).run P w = .ok () w := by
      unfold eqGuard
      cases op <;> rfl
    simp only [Val, Sem.run_bind, hg, Result.andThen_ok]
    cases op
    case shl => simp only at h; split at h <;> simp_all [binOp, Op.shift, VR] <;> (subst h; simp [VR]; intro hh; omega)
    case shr => simp only at h; split at h <;> simp_all [binOp, Op.shift, VR] <;> (subst h; simp [VR]; intro hh; omega)
    all_goals
      simp only at h
      split at h
      · cases h
      · rename_i hk
        have hk' : k = k' := by simpa using hk
        subst hk'
        first
          | (cases h; exact ⟨_, rfl, rfl⟩)
          | (simp only [Option.some.injEq] at h; subst h; exact ⟨_, by simp [binOp, Op.intArith, Op.intBits, Op.intCmp]; rfl, by simp [VR]⟩)
          | (split at h
             · cases h
             · rename_i hz
               simp only [Option.some.injEq] at h; subst h
               exact ⟨_, by simp [binOp, Op.intDiv, hz]; rfl, by simp [VR]⟩)
          | simp at h
  · rename_i a b
    simp only [VR] at ha hb
    subst ha; subst hb
    have hg : (eqGuard op t x y (.string ⟨a.toArray⟩) (.string ⟨b.toArray⟩)).run P w = .ok () w := by
      unfold eqGuard
      cases op <;> rfl
    have hl : ∀ l : List UInt8, (ByteArray.mk l.toArray).toList = l := by
      intro l; exact ByteArray.toList_mk l
    simp only [Val, Sem.run_bind, hg, Result.andThen_ok]
    cases op
    case add =>
      simp only at h
      split at h
      · rename_i hle
        simp only [Option.some.injEq] at h; subst h
        refine ⟨.string ⟨(a ++ b).toArray⟩, ?_, by simp [VR]⟩
        simp only [binOp, Op.stringOp]
        have : ¬ (((ByteArray.mk a.toArray).size + (ByteArray.mk b.toArray).size : Nat) : Int) > IntKind.i64.max := by
          simp [ByteArray.size, IntKind.max, IntKind.signed, IntKind.bits]; omega
        rw [if_neg this]
        simp only [Sem.run_pure]
        congr 2
      · cases h
    all_goals first
      | (simp only [Option.some.injEq] at h; subst h; exact ⟨_, by simp only [binOp, Op.stringOp, hl, Sem.run_pure]; rfl, by simp [VR]⟩)
      | (simp at h)
  · cases h


theorem un_sim {op : UnOp} {a : AV} {u : Value} (ha : VR φ H a u) (h : evUn op a = some v) : Val P w φ H (Op.unary op u) v := by
  unfold evUn at h
  split at h
  · simp only [VR] at ha
    subst ha
    cases op <;> simp at h
    subst h
    exact ⟨_, rfl, by simp [VR]⟩
  · simp only [VR] at ha
    subst ha
    cases op <;> simp at h
    subst h
    exact ⟨_, rfl, by simp [VR]⟩
  · cases h

def eqkOk : Nat → TypeDesc → Bool
  | 0, .bool | 1, .pointer _ | 2, .slice _ | 3, .func _ _ _ | 4, .map _ _ => true
  | _, _ => false

theorem eqk_sim {t : TypeId} {d : TypeDesc} {k : Nat} {a b : AV} {u z : Value} {r : Bool} (hu : P.underlying t = some d) (hk : eqkOk k d = true) (ha : VR φ H a u) (hb : VR φ H b z) (h : eqk k a b = some r) :
    (Op.equal t u z).run P w = .ok r w := by
  obtain ⟨dp, hd⟩ : ∃ dp, Op.maxDepth = dp + 1 := ⟨9999, rfl⟩
  have he : Op.equal t u z = Op.equalIn (dp + 1) t u z := by unfold Op.equal; rw [hd]
  rw [he]
  clear hd he
  rcases k with _ | _ | _ | _ | _ | k
  all_goals (cases d <;> simp only [eqkOk, Bool.false_eq_true] at hk)
  all_goals (unfold eqk at h; split at h)
  all_goals first | (exfalso; omega) | cases h | skip
  all_goals simp only [VR] at ha hb
  · subst ha; subst hb; simp only [Op.equalIn, Sem.run_bind, run_und hu, Result.andThen_ok, Sem.run_pure]
  · subst ha; subst hb; simp only [Op.equalIn, Sem.run_bind, run_und hu, Result.andThen_ok, Sem.run_pure, Option.isNone_none]
  · obtain ⟨a1, a2, a3, a4, rfl, _⟩ := hb; subst ha; simp only [Op.equalIn, Sem.run_bind, run_und hu, Result.andThen_ok, Sem.run_pure, Option.isNone_some]
  · obtain ⟨a1, a2, a3, a4, rfl, _⟩ := ha; subst hb; simp only [Op.equalIn, Sem.run_bind, run_und hu, Result.andThen_ok, Sem.run_pure]
  · subst ha; subst hb; simp only [Op.equalIn, Sem.run_bind, run_und hu, Result.andThen_ok, Sem.run_pure, Option.isNone_none]
  · obtain ⟨a1, a2, a3, a4, a5, rfl, _⟩ := hb; subst ha; simp only [Op.equalIn, Sem.run_bind, run_und hu, Result.andThen_ok, Sem.run_pure, Option.isNone_some]
  · obtain ⟨a1, a2, a3, a4, a5, rfl, _⟩ := ha; subst hb; simp only [Op.equalIn, Sem.run_bind, run_und hu, Result.andThen_ok, Sem.run_pure]
  · obtain ⟨a1, a2, rfl⟩ := hb; subst ha; simp only [Op.equalIn, Sem.run_bind, run_und hu, Result.andThen_ok, Sem.run_pure, Option.isNone_some]
  · obtain ⟨a1, a2, rfl⟩ := ha; subst hb; simp only [Op.equalIn, Sem.run_bind, run_und hu, Result.andThen_ok, Sem.run_pure]
  · subst ha; subst hb; simp only [Op.equalIn, Sem.run_bind, run_und hu, Result.andThen_ok, Sem.run_pure]
  · obtain ⟨a1, rfl, _⟩ := hb; subst ha; simp only [Op.equalIn, Sem.run_bind, run_und hu, Result.andThen_ok, Sem.run_pure]
  · obtain ⟨a1, rfl, _⟩ := ha; subst hb; simp only [Op.equalIn, Sem.run_bind, run_und hu, Result.andThen_ok, Sem.run_pure]
  · subst ha; subst hb; simp only [Op.equalIn, Sem.run_bind, run_und hu, Result.andThen_ok, Sem.run_pure, Option.isNone_none]
  · obtain ⟨a1, rfl, _⟩ := hb; subst ha; simp only [Op.equalIn, Sem.run_bind, run_und hu, Result.andThen_ok, Sem.run_pure, Option.isNone_some]
  · obtain ⟨a1, rfl, _⟩ := ha; subst hb; simp only [Op.equalIn, Sem.run_bind, run_und hu, Result.andThen_ok, Sem.run_pure]

end
end Go.AEv
