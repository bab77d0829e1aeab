/- A part of the proof of FilesFitCardSaid: M8, M9, M10, M11, M12, M13, M14. -/
import Derived.Test.YtamefnngdhbjiaaGreatDoorFitA0
import Derived.Laws.BytesArg
import Derived.Laws.Append
import Derived.Scope
set_option linter.all false
section
namespace Go.Mm
variable [Globs]
section
variable {P : Program}
theorem ints_sound {S : Real} {st : Store} (hS : SR S st) {op : BinOp} {k : IntKind} {a b : Int} {d : D} (hop : op ≠ .shl ∧ op ≠ .shr) (h : ints op k a b = some d) (t : TypeId) :
    DoesV P S (binOp op t (.int k a) (.int k b)) st d := by
  cases op <;> simp only [ints] at h <;> try (cases h; done)
  case quo =>
    split at h
    · cases h
    · rename_i hb
      injection h with h; subst h
      exact DoesV.same hS (v := .int k (k.wrap (a.tdiv b))) (by simp [binOp, Op.intDiv, hb, Sem.run, pure]) (by simp [R])
  case rem =>
    split at h
    · cases h
    · rename_i hb
      injection h with h; subst h
      exact DoesV.same hS (v := .int k (a.tmod b)) (by simp [binOp, Op.intDiv, hb, Sem.run, pure]) (by simp [R])
  all_goals
    injection h with h; subst h
    refine DoesV.same hS (v := _) (by simp only [binOp, ne_eq, not_true_eq_false, if_false, Op.intArith, Op.intBits, Op.intCmp, Sem.run, pure]; rfl) (by simp only [R])
theorem shifts_sound {S : Real} {st : Store} (hS : SR S st) {op : BinOp} {k k' : IntKind} {a b : Int} {d : D} (hop : op = .shl ∨ op = .shr) (h : shifts op k a b = some d) (t : TypeId) :
    DoesV P S (binOp op t (.int k a) (.int k' b)) st d := by
  unfold shifts at h
  split at h
  · cases h
  · rename_i hb
    rcases hop with rfl | rfl
    all_goals
      injection h with h; subst h
      refine DoesV.same hS (v := _) (by simp only [binOp, Op.shift, hb, if_false, Sem.run, pure]; rfl) (by simp only [R])
theorem strs_sound {S : Real} {st : Store} (hS : SR S st) {op : BinOp} {a b : ByteArray} {d : D} (h : strs op a b = some d) (t : TypeId) :
    DoesV P S (binOp op t (.string a) (.string b)) st d := by
  cases op <;> simp only [strs] at h <;> try (cases h; done)
  case add =>
    split at h
    · rename_i hs
      injection h with h; subst h
      refine DoesV.same hS (v := .string (a ++ b)) ?_ (by simp only [R])
      simp only [binOp, Op.stringOp]
      rw [if_neg (by simp [IntKind.max, IntKind.signed, IntKind.bits]; omega)]
      rfl
    · cases h
  all_goals
    injection h with h; subst h
    refine DoesV.same hS (v := _) (by simp only [binOp, Op.stringOp, Sem.run, pure]; rfl) (by simp only [R])
theorem equal_run {t : TypeId} {x y : Value} {b : Bool} {w : World} (h : ∀ n, (Op.equalIn (n + 1) t x y).run P w = .ok b w) : (Op.equal t x y).run P w = .ok b w := by
  unfold Op.equal Op.maxDepth
  exact h 9999
theorem ptrNil_R {S : Real} {d : D} {b : Bool} {v : Value} (h : R S d v) (hn : ptrNil d = some b) : ∃ p, v = .pointer p ∧ p.isNone = b := by
  cases d <;> simp only [ptrNil] at hn <;> cases hn <;> simp only [R] at h
  case nilp => exact ⟨none, h, rfl⟩
  case ptr => obtain ⟨a, rfl, _⟩ := h; exact ⟨_, rfl, rfl⟩
  case fptr => obtain ⟨b, o, vs, rfl, _⟩ := h; exact ⟨_, rfl, rfl⟩
theorem slNil_R {S : Real} {d : D} {b : Bool} {v : Value} (h : R S d v) (hn : slNil d = some b) : ∃ p l c, v = .slice p l c ∧ p.isNone = b := by
  cases d <;> simp only [slNil] at hn <;> cases hn <;> simp only [R] at h
  case nils => exact ⟨none, _, _, h, rfl⟩
  case zsl => obtain ⟨a, rfl⟩ := h; exact ⟨_, _, _, rfl, rfl⟩
  case osl => obtain ⟨a, cap, rfl, _⟩ := h; exact ⟨_, _, _, rfl, rfl⟩
  case fsl => obtain ⟨b, o, vs, cap, rfl, _⟩ := h; exact ⟨_, _, _, rfl, rfl⟩
theorem fnNil_R {S : Real} {d : D} {b : Bool} {v : Value} (h : R S d v) (hn : fnNil d = some b) : (v = .nilFunc ∧ b = true) ∨ (∃ f x y, v = .func f x y ∧ b = false) := by
  cases d <;> simp only [fnNil] at hn <;> cases hn <;> simp only [R] at h
  case nilf => exact .inl ⟨h, rfl⟩
  case fn => obtain ⟨vs, rfl, _⟩ := h; exact .inr ⟨_, _, _, rfl, rfl⟩
theorem ptrTy_some {t : TypeId} (h : ptrTy P t = true) : ∃ e, P.underlying t = some (.pointer e) := by
  unfold ptrTy at h; split at h
  · exact ⟨_, by assumption⟩
  · cases h
theorem fnTy_some {t : TypeId} (h : fnTy P t = true) : ∃ a b c, P.underlying t = some (.func a b c) := by
  unfold fnTy at h; split at h
  · exact ⟨_, _, _, by assumption⟩
  · cases h
theorem boolTy_some {t : TypeId} (h : boolTy P t = true) : P.underlying t = some .bool := by
  unfold boolTy at h; split at h
  · assumption
  · cases h
def plainEq : Value → Bool
  | .bool _ | .pointer _ | .slice .. | .func .. | .nilFunc => true
  | _ => false
theorem guard_plain {op : BinOp} {t : TypeId} {x y : Operand} {a b : Value} (ha : plainEq a = true) (w : World) : (eqGuard op t x y a b).run P w = .ok () w := by
  unfold eqGuard
  cases op <;> cases a <;> first | (cases ha; done) | (cases b <;> simp [Sem.run, pure])
theorem eql_sound {S : Real} {t : TypeId} {x y : D} {xv yv : Value} {b : Bool} (hx : R S x xv) (hy : R S y yv) (h : eql P t x y = some b) :
    (Op.equal t xv yv).run P S.w = .ok b S.w ∧ plainEq xv = true ∧ plainEq yv = true := by
  unfold eql at h
  split at h <;> (try split at h) <;> first | (cases h; done) | skip
  · rename_i hu
    injection h with h; subst h
    have hu := boolTy_some hu
    simp only [R] at hx hy; subst hx; subst hy
    exact ⟨equal_run fun n => by simp [Op.equalIn, Sem.run_bind, run_und hu, Result.andThen, Sem.run, pure], rfl, rfl⟩
  · rename_i hu
    obtain ⟨e, hu⟩ := ptrTy_some hu
    simp only [R] at hx; subst hx
    obtain ⟨p, rfl, rfl⟩ := ptrNil_R hy h
    exact ⟨equal_run fun n => by simp [Op.equalIn, Sem.run_bind, run_und hu, Result.andThen, Sem.run, pure], rfl, rfl⟩
  · rename_i hu
    obtain ⟨e, hu⟩ := ptrTy_some hu
    simp only [R] at hy; subst hy
    obtain ⟨p, rfl, rfl⟩ := ptrNil_R hx h
    exact ⟨equal_run fun n => by cases p <;> simp [Op.equalIn, Sem.run_bind, run_und hu, Result.andThen, Sem.run, pure], rfl, rfl⟩
  · rename_i hu
    obtain ⟨e, hu⟩ := isSlice_some hu
    simp only [R] at hx; subst hx
    obtain ⟨p, l, c, rfl, rfl⟩ := slNil_R hy h
    exact ⟨equal_run fun n => by simp [Op.equalIn, Sem.run_bind, run_und hu, Result.andThen, Sem.run, pure], rfl, rfl⟩
  · rename_i hu
    obtain ⟨e, hu⟩ := isSlice_some hu
    simp only [R] at hy; subst hy
    obtain ⟨p, l, c, rfl, rfl⟩ := slNil_R hx h
    exact ⟨equal_run fun n => by cases p <;> simp [Op.equalIn, Sem.run_bind, run_und hu, Result.andThen, Sem.run, pure], rfl, rfl⟩
  · rename_i hu
    obtain ⟨a1, a2, a3, hu⟩ := fnTy_some hu
    simp only [R] at hx; subst hx
    rcases fnNil_R hy h with ⟨rfl, rfl⟩ | ⟨f, u, v, rfl, rfl⟩
    · exact ⟨equal_run fun n => by simp [Op.equalIn, Sem.run_bind, run_und hu, Result.andThen, Sem.run, pure], rfl, rfl⟩
    · exact ⟨equal_run fun n => by simp [Op.equalIn, Sem.run_bind, run_und hu, Result.andThen, Sem.run, pure], rfl, rfl⟩
  · rename_i hu
    obtain ⟨a1, a2, a3, hu⟩ := fnTy_some hu
    simp only [R] at hy; subst hy
    rcases fnNil_R hx h with ⟨rfl, rfl⟩ | ⟨f, u, v, rfl, rfl⟩
    · exact ⟨equal_run fun n => by simp [Op.equalIn, Sem.run_bind, run_und hu, Result.andThen, Sem.run, pure], rfl, rfl⟩
    · exact ⟨equal_run fun n => by simp [Op.equalIn, Sem.run_bind, run_und hu, Result.andThen, Sem.run, pure], rfl, rfl⟩
theorem binOp_eql {t : TypeId} {x y : Value} (hx : plainEq x = true) (hy : plainEq y = true) : binOp .eql t x y = (do pure (.bool (← Op.equal t x y))) := by
  cases x <;> first | (cases hx; done) | (cases y <;> first | (cases hy; done) | rfl)
theorem binOp_neq {t : TypeId} {x y : Value} (hx : plainEq x = true) (hy : plainEq y = true) : binOp .neq t x y = (do pure (.bool (!(← Op.equal t x y)))) := by
  cases x <;> first | (cases hx; done) | (cases y <;> first | (cases hy; done) | rfl)
theorem eqFields_sound {S : Real} {xs ys : List D} {vs us : List Value} (hx : RL S xs vs) (hy : RL S ys us) (h1 : One vs) (h2 : One us) (d : Nat) : ∀ (fs : List Field) (off n : Nat) (b : Bool), digF P fs off = some n → eqDig n (xs.drop off) (ys.drop off) = some b →
    (Op.eqFields (d + 1) vs.toArray us.toArray fs).run P S.w = .ok b S.w := by
  intro fs
  induction fs with
  | nil =>
    intro off n b hd h
    simp only [digF, Option.some.injEq] at hd
    subst hd
    have : b = true := by
      unfold eqDig at h
      split at h
      · split at h
        · rename_i h0; simp at h0
        · cases h
      · split at h
        · rename_i h0; simp at h0
        · cases h
      · split at h
        · rename_i h0; simp at h0
        · cases h
      · simpa using h.symm
      · cases h
    subst this
    simp [Op.eqFields, Sem.run, pure]
  | cons f fs ih =>
    intro off n b hd h
    unfold digF at hd
    split at hd
    rotate_left
    · cases hd
    rename_i hc
    obtain ⟨hname, hoff⟩ := hc
    cases hm : digF P fs (off + 1) with
    | none => rw [hm] at hd; repeat' split at hd; all_goals (try cases hd); all_goals (rename_i e; cases e)
    | some m =>
    rw [hm] at hd
    have hpart : ∀ {cs : List D} {ws : List Value} {x : D}, RL S cs ws → One ws → (∃ z, lay P f.type = some (false, z)) → cs[off]? = some x → ∃ v, (part f.type ws.toArray f.offset).run P S.w = .ok v S.w ∧ R S x v := by
      intro cs ws x r1 r2 ⟨z, hz⟩ hg
      refine part_sound r1 r2 ?_
      unfold partD ld
      rw [hz, hoff]; exact hg
    have hdrop : ∀ {cs : List D} {x : D} {r : List D}, cs.drop off = x :: r → cs[off]? = some x ∧ cs.drop (off + 1) = r := by
      intro cs x r h
      constructor
      · have := congrArg (·[0]?) h
        simpa using this
      · rw [← List.drop_drop, h]; rfl
    have hlay : ∃ z, lay P f.type = some (false, z) := by
      revert hd; split <;> intro hd
      all_goals first | exact ⟨_, by assumption⟩ | cases hd
    unfold eqDig at h
    split at h
    · rename_i n _ _ _ a xs' b' ys' e1 e2
      split at h
      rotate_left
      · cases h
      rename_i hn
      obtain ⟨g1, g2⟩ := hdrop e1
      obtain ⟨g3, g4⟩ := hdrop e2
      obtain ⟨v, p1, p2⟩ := hpart hx h1 hlay g1
      obtain ⟨u, q1, q2⟩ := hpart hy h2 hlay g3
      simp only [R] at p2 q2
      subst p2; subst q2
      have hu : P.underlying f.type = some .bool ∧ n = 1 + 4 * m := by
        revert hd; split <;> intro hd
        · rename_i hu hmm; injection hmm with hmm; subst hmm; injection hd with hd; exact ⟨hu, hd.symm⟩
        · injection hd with hd; omega
        · injection hd with hd; omega
        · cases hd
      have he := run_equalIn_bool' S.w d f.type a b' hu.1
      simp only [Op.eqFields]
      rw [if_pos hname]
      simp only [Sem.run_bind, p1, q1, he, Result.andThen]
      split at h
      · rename_i hab
        have hdiv : n / 4 = m := by omega
        rw [hdiv, ← g2, ← g4] at h
        simp only [hab, BEq.rfl, Bool.not_true, Bool.false_eq_true, if_false]
        exact ih (off + 1) m b hm h
      · rename_i hab
        injection h with h; subst h
        have : (a == b') = false := by simpa using hab
        simp only [this, Bool.not_false, if_true, Sem.run, pure]
    · rename_i n _ _ _ k a xs' k' b' ys' e1 e2
      split at h
      rotate_left
      · cases h
      rename_i hn
      obtain ⟨hn, hkk⟩ := hn
      subst hkk
      obtain ⟨g1, g2⟩ := hdrop e1
      obtain ⟨g3, g4⟩ := hdrop e2
      obtain ⟨v, p1, p2⟩ := hpart hx h1 hlay g1
      obtain ⟨u, q1, q2⟩ := hpart hy h2 hlay g3
      simp only [R] at p2 q2
      subst p2; subst q2
      have hu : (∃ k0, P.underlying f.type = some (.int k0)) ∧ n = 2 + 4 * m := by
        revert hd; split <;> intro hd
        · injection hd with hd; omega
        · rename_i hu hmm; injection hmm with hmm; subst hmm; injection hd with hd; exact ⟨⟨_, hu⟩, hd.symm⟩
        · injection hd with hd; omega
        · cases hd
      obtain ⟨⟨k0, hu⟩, hnm⟩ := hu
      have he := run_equalIn_int S.w d f.type k k0 a b' hu
      simp only [Op.eqFields]
      rw [if_pos hname]
      simp only [Sem.run_bind, p1, q1, he, Result.andThen]
      split at h
      · rename_i hab
        have hdiv : n / 4 = m := by omega
        rw [hdiv, ← g2, ← g4] at h
        simp only [hab, BEq.rfl, Bool.not_true, Bool.false_eq_true, if_false]
        exact ih (off + 1) m b hm h
      · rename_i hab
        injection h with h; subst h
        have : (a == b') = false := by simpa using hab
        simp only [this, Bool.not_false, if_true, Sem.run, pure]
    · rename_i n _ _ _ a xs' b' ys' e1 e2
      split at h
      rotate_left
      · cases h
      rename_i hn
      obtain ⟨g1, g2⟩ := hdrop e1
      obtain ⟨g3, g4⟩ := hdrop e2
      obtain ⟨v, p1, p2⟩ := hpart hx h1 hlay g1
      obtain ⟨u, q1, q2⟩ := hpart hy h2 hlay g3
      simp only [R] at p2 q2
      subst p2; subst q2
      have hu : P.underlying f.type = some .string ∧ n = 3 + 4 * m := by
        revert hd; split <;> intro hd
        · injection hd with hd; omega
        · injection hd with hd; omega
        · rename_i hu hmm; injection hmm with hmm; subst hmm; injection hd with hd; exact ⟨hu, hd.symm⟩
        · cases hd
      have he := run_equalIn_string S.w d f.type a b' hu.1
      simp only [Op.eqFields]
      rw [if_pos hname]
      simp only [Sem.run_bind, p1, q1, he, Result.andThen]
      split at h
      · rename_i hab
        have hdiv : n / 4 = m := by omega
        rw [hdiv, ← g2, ← g4] at h
        simp only [hab, BEq.rfl, Bool.not_true, Bool.false_eq_true, if_false]
        exact ih (off + 1) m b hm h
      · rename_i hab
        injection h with h; subst h
        have : (a.toList == b'.toList) = false := by
          refine beq_eq_false_iff_ne.2 fun e => hab ?_
          rw [ByteArray.toList_eq, ByteArray.toList_eq] at e
          cases a; cases b'
          congr 1
          exact Array.ext' e
        simp only [this, Bool.not_false, if_true, Sem.run, pure]
    · split at h
      · rename_i h0
        subst h0
        revert hd; split <;> intro hd
        all_goals first | (injection hd with hd; omega) | cases hd
      · cases h
    · cases h
theorem eqAgg_sound {S : Real} {t : TypeId} {xs ys : List D} {vs us : List Value} {b : Bool} (hx : RL S xs vs) (hy : RL S ys us) (h1 : One vs) (h2 : One us) (h : eqAgg (digS P t) xs ys = some b) :
    (Op.equalIn 10000 t (.agg vs.toArray) (.agg us.toArray)).run P S.w = .ok b S.w ∧ P.eqGuardType P.depth t = false := by
  unfold eqAgg at h
  split at h
  · cases h
  · rename_i hne
    cases hu : P.underlying t with
    | none => unfold digS at hne; rw [hu] at hne; simp at hne
    | some td =>
      cases td
      case struct fs =>
        have hd : digS P t = if P.stoodInHeld t = false ∧ P.eqGuardType P.depth t = false then (match digF P fs.toList 0 with | some n => n | none => 0) else 0 := by unfold digS; simp only [hu]; rfl
        by_cases hc : P.stoodInHeld t = false ∧ P.eqGuardType P.depth t = false
        · rw [if_pos hc] at hd
          cases hf : digF P fs.toList 0 with
          | none => rw [hf] at hd; exact absurd hd hne
          | some n =>
            rw [hf] at hd
            simp only [] at hd
            have hfo : P.fieldsOf t = fs := by unfold Program.fieldsOf; rw [hu]
            refine ⟨?_, hc.2⟩
            rw [run_equalIn_struct S.w 9999 t _ _ (by rw [hfo]; exact hu) hc.1, hfo]
            rw [hd] at h
            exact eqFields_sound hx hy h1 h2 9998 fs.toList 0 n b hf (by simpa using h)
        · rw [if_neg hc] at hd; exact absurd hd hne
      all_goals (unfold digS at hne; rw [hu] at hne; simp at hne)
theorem bin_sound {S : Real} {st : Store} (hS : SR S st) {op : BinOp} {t : TypeId} {x y d : D} {xv yv : Value} {xo yo : Operand} (hx : R S x xv) (hy : R S y yv) (h : bin P op t x y = some d) :
    DoesV P S (do eqGuard op t xo yo xv yv; binOp op t xv yv) st d := by
  have wrap : ∀ {s : Sem Value}, (eqGuard op t xo yo xv yv).run P S.w = .ok () S.w → DoesV P S s st d → DoesV P S (do eqGuard op t xo yo xv yv; s) st d := by
    rintro s hg ⟨v, S', h1, h2⟩
    exact ⟨v, S', by simp only [Sem.run_bind, hg, Result.andThen, h1], h2⟩
  have gi : ∀ {k k' : IntKind} {a b : Int}, (eqGuard op t xo yo (.int k a) (.int k' b)).run P S.w = .ok () S.w := by
    intros; unfold eqGuard; cases op <;> simp [Sem.run, pure]
  have gs : ∀ {a b : ByteArray}, (eqGuard op t xo yo (.string a) (.string b)).run P S.w = .ok () S.w := by
    intros; unfold eqGuard; cases op <;> simp [Sem.run, pure]
  unfold bin at h
  split at h
  · rename_i k a k' b
    simp only [R] at hx hy; subst hx; subst hy
    refine wrap gi ?_
    split at h
    · exact shifts_sound hS (.inl rfl) h t
    · exact shifts_sound hS (.inr rfl) h t
    · split at h
      · rename_i h1 h2 hk
        subst hk
        exact ints_sound hS ⟨h1, h2⟩ h t
      · cases h
  · simp only [R] at hx hy; subst hx; subst hy
    exact wrap gs (strs_sound hS h t)
  · rename_i xs ys
    simp only [R] at hx hy
    obtain ⟨vs, rfl, rx, ox⟩ := hx
    obtain ⟨us, rfl, ry, oy⟩ := hy
    split at h
    · cases he : eqAgg (digS P t) xs ys with
      | none => rw [he] at h; cases h
      | some b =>
        rw [he] at h; injection h with h; subst h
        obtain ⟨h1, h2⟩ := eqAgg_sound rx ry ox oy he
        refine wrap (run_eqGuard_agg S.w _ t xo yo _ _ h2) (DoesV.same hS (v := .bool b) ?_ (by simp only [R]))
        rw [run_eql_struct, h1]; rfl
    · cases he : eqAgg (digS P t) xs ys with
      | none => rw [he] at h; cases h
      | some b =>
        rw [he] at h; injection h with h; subst h
        obtain ⟨h1, h2⟩ := eqAgg_sound rx ry ox oy he
        refine wrap (run_eqGuard_agg S.w _ t xo yo _ _ h2) (DoesV.same hS (v := .bool (!b)) ?_ (by simp only [R]))
        rw [run_neq_struct, h1]; rfl
    · cases h
  · split at h
    · cases he : eql P t x y with
      | none => rw [he] at h; cases h
      | some b =>
        rw [he] at h; injection h with h; subst h
        obtain ⟨h1, h2, h3⟩ := eql_sound hx hy he
        refine wrap (guard_plain h2 _) (DoesV.same hS (v := .bool b) ?_ (by simp only [R]))
        rw [binOp_eql h2 h3]
        simp only [Sem.run_bind, h1, Result.andThen, Sem.run, pure]
    · cases he : eql P t x y with
      | none => rw [he] at h; cases h
      | some b =>
        rw [he] at h; injection h with h; subst h
        obtain ⟨h1, h2, h3⟩ := eql_sound hx hy he
        refine wrap (guard_plain h2 _) (DoesV.same hS (v := .bool (!b)) ?_ (by simp only [R]))
        rw [binOp_neq h2 h3]
        simp only [Sem.run_bind, h1, Result.andThen, Sem.run, pure]
    · cases h
theorem un_sound {S : Real} {st : Store} (hS : SR S st) {op : UnOp} {x d : D} {xv : Value} (hx : R S x xv) (h : un op x = some d) : DoesV P S (Op.unary op xv) st d := by
  unfold un at h
  split at h
  · simp only [R] at hx; subst hx
    split at h
    · injection h with h; subst h
      exact DoesV.same hS (v := _) (by simp only [Op.unary, Op.intArith, Sem.run, pure]; rfl) (by simp only [R])
    · injection h with h; subst h
      exact DoesV.same hS (v := _) (by simp only [Op.unary, Op.intBits, Sem.run, pure]; rfl) (by simp only [R])
    · cases h
  · simp only [R] at hx; subst hx
    split at h
    · injection h with h; subst h
      exact DoesV.same hS (v := _) (by simp only [Op.unary, Sem.run, pure]; rfl) (by simp only [R])
    · cases h
  · cases h
end
section
variable {P : Program}
def RO (S : Real) : Option D → Option Value → Prop
  | none, v => v = none
  | some d, v => ∃ x, v = some x ∧ R S d x
theorem bound_run {S : Real} {d : D} {v : Value} {top n : Nat} (h : R S d v) (hb : bound (some d) 0 top = some n) (code : BoundsCode) : (Instr.sliceBound v top code).run P S.w = .ok n S.w ∧ n ≤ top := by
  cases d <;> simp only [bound] at hb <;> try (cases hb; done)
  rename_i k i
  split at hb
  · rename_i hc
    injection hb with hb; subst hb
    simp only [R] at h; subst h
    refine ⟨?_, by omega⟩
    simp only [Instr.sliceBound, Sem.run_bind, asIntOf, Sem.run, pure, Result.andThen]
    rw [if_pos hc]
    rfl
  · cases hb
theorem bounds_run {S : Real} {lo hi : Option D} {lv hv : Option Value} (hl : RO S lo lv) (hh : RO S hi hv) {len cap l h : Nat} {isSl : Bool} (hcap : len ≤ cap)
    (h1 : bound hi len len = some h) (h2 : bound lo 0 h = some l) : (Instr.sliceBounds isSl len cap lv hv none).run P S.w = .ok (l, h, cap) S.w ∧ l ≤ h ∧ h ≤ len := by
  have bd : ∀ (d : D) (a b n : Nat), bound (some d) a b = some n → bound (some d) 0 b = some n := by
    intro d a b n; cases d <;> simp [bound]
  have up : ∀ (d : D) (n : Nat), bound (some d) 0 len = some n → bound (some d) 0 cap = some n := by
    intro d n hx
    cases d <;> simp only [bound] at hx ⊢ <;> try (cases hx; done)
    split at hx
    · rename_i hc
      rw [if_pos (by omega)]; exact hx
    · cases hx
  have H : ∃ hb : h ≤ len, ∀ c, (match hv, (none : Option Value) with
      | some v, some _ => Instr.sliceBound v cap .slice3B
      | some v, none => Instr.sliceBound v cap c
      | none, none => pure len
      | none, some _ => stuck "Slice: max without high" : Sem Nat).run P S.w = .ok h S.w := by
    cases hi with
    | none => simp only [RO] at hh; subst hh; simp only [bound] at h1; injection h1 with h1; subst h1; exact ⟨Nat.le_refl _, fun c => by simp [Sem.run, pure]⟩
    | some d =>
      simp only [RO] at hh
      obtain ⟨x, rfl, hx⟩ := hh
      have h1' := bd d _ _ _ h1
      refine ⟨?_, fun c => ?_⟩
      · exact (bound_run (P := P) hx h1' .sliceB).2
      · exact (bound_run (P := P) hx (up _ _ h1') c).1
  obtain ⟨hle, H⟩ := H
  have L : ∃ hb : l ≤ h, ∀ c, (match lv with
      | some v => Instr.sliceBound v h c
      | none => pure 0 : Sem Nat).run P S.w = .ok l S.w := by
    cases lo with
    | none => simp only [RO] at hl; subst hl; simp only [bound] at h2; injection h2 with h2; subst h2; exact ⟨Nat.zero_le _, fun c => by simp [Sem.run, pure]⟩
    | some d =>
      simp only [RO] at hl
      obtain ⟨x, rfl, hx⟩ := hl
      exact ⟨(bound_run (P := P) hx h2 .sliceB).2, fun c => (bound_run (P := P) hx h2 c).1⟩
  obtain ⟨hle2, L⟩ := L
  refine ⟨?_, hle2, hle⟩
  unfold Instr.sliceBounds
  cases hv with
  | none =>
    have H := H .sliceB
    have L := L .sliceB
    cases lv <;> simp_all [Sem.run_bind, Result.andThen, Sem.run, pure]
  | some v =>
    have H1 := H .sliceAcap
    have H2 := H .sliceAlen
    have L := L .sliceB
    cases lv <;> cases isSl <;> simp_all [Sem.run_bind, Result.andThen, Sem.run, pure]
theorem slice_sound {S : Real} {st : Store} (hS : SR S st) {t : TypeId} {x d : D} {xv : Value} {lo hi : Option D} {lv hv : Option Value} (hx : R S x xv) (hl : RO S lo lv) (hh : RO S hi hv)
    (h : sliceD P t x lo hi = some d) : DoesV P S (Instr.sliceAt t xv lv hv none) st d := by
  unfold sliceD at h
  split at h
  · rename_i s
    split at h
    · rename_i hs
      split at h
      · rename_i hn h1
        split at h
        · rename_i ln h2
          injection h with h; subst h
          simp only [R] at hx; subst hx
          obtain ⟨hb, hle1, hle2⟩ := bounds_run (P := P) (isSl := false) hl hh (Nat.le_refl _) h1 h2
          refine DoesV.same hS (v := .string (s.extract ln hn)) ?_ (by simp only [R])
          simp only [Instr.sliceAt, Sem.run_bind, run_und (isStr_some hs), Result.andThen, Instr.slice, Option.isSome_none, Bool.false_eq_true, if_false, hb, Sem.run, pure]
        · cases h
      · cases h
    · cases h
  · split at h
    · rename_i x he
      obtain ⟨e, sz, by_⟩ := x
      obtain ⟨hu, info, hin, hsz, _⟩ := el_some he
      split at h
      · rename_i hn h1
        split at h
        · rename_i ln h2
          injection h with h; subst h
          simp only [R] at hx; subst hx
          obtain ⟨hb, hle1, hle2⟩ := bounds_run (P := P) (isSl := true) hl hh (Nat.le_refl _) h1 h2
          have h0 : hn = 0 := by omega
          have h00 : ln = 0 := by omega
          subst h0; subst h00
          refine DoesV.same hS (v := .slice none 0 0) ?_ (by simp only [R])
          simp only [Instr.sliceAt, Sem.run_bind, run_und hu, Result.andThen, Instr.slice, hb, run_size hin, Sem.run, pure, if_true]
        · cases h
      · cases h
    · cases h
  · rename_i id ver esz off len
    split at h
    · rename_i e sz by_ he
      obtain ⟨hu, info, hin, hsz, _⟩ := el_some he
      split at h
      · rename_i hse
        subst hse
        split at h
        · rename_i hn h1
          split at h
          · rename_i ln h2
            injection h with h; subst h
            simp only [R] at hx
            obtain ⟨a, cap, rfl, hc, hid, hlv⟩ := hx
            obtain ⟨hb, hle1, hle2⟩ := bounds_run (P := P) (isSl := true) hl hh hc h1 h2
            refine DoesV.same hS (v := .slice (some (if cap = ln then a else a.add (ln * info.size))) (hn - ln) (cap - ln)) ?_ ?_
            · simp only [Instr.sliceAt, Sem.run_bind, run_und hu, Result.andThen, Instr.slice, hb, run_size hin, Sem.run, pure]
              split <;> rfl
            · simp only [R]
              refine ⟨_, _, rfl, by omega, hid, fun l hl' => ?_⟩
              obtain ⟨g1, g2⟩ := hlv l hl'
              refine ⟨g1, fun e => ?_⟩
              rcases g2 e with ⟨g3, g4, g5⟩ | ⟨g3, g4⟩
              · left; omega
              · by_cases hcl : cap = ln
                · by_cases ho : off + ln * sz = 0
                  · right
                    rw [if_pos hcl, g3, ho]
                    have : off = 0 := by omega
                    refine ⟨by rw [this], ?_⟩
                    rw [hcl]
                    have hz : (ln - ln) * sz = 0 := by rw [Nat.sub_self, Nat.zero_mul]
                    omega
                  · left; exact ⟨by omega, ho, by omega⟩
                · right
                  rw [if_neg hcl, g3, add_plain, hsz]
                  refine ⟨by rw [Nat.add_assoc], ?_⟩
                  have : ln * sz + (cap - ln) * sz = cap * sz := by rw [← Nat.add_mul]; congr 1; omega
                  omega
          · cases h
        · cases h
      · cases h
    · cases h
  · rename_i len cells
    split at h
    · rename_i e sz by_ he
      obtain ⟨hu, info, hin, hsz, _⟩ := el_some he
      split at h
      · rename_i hn h1
        split at h
        · rename_i ln h2
          injection h with h; subst h
          simp only [R] at hx
          obtain ⟨b, o, vs, cap, rfl, hc, hr, hrow, ho⟩ := hx
          obtain ⟨hb, hle1, hle2⟩ := bounds_run (P := P) (isSl := true) hl hh hc h1 h2
          refine DoesV.same hS (v := .slice (some (if cap = ln then ⟨b, o, none⟩ else (⟨b, o, none⟩ : Addr).add (ln * info.size))) (hn - ln) (cap - ln)) ?_ ?_
          · simp only [Instr.sliceAt, Sem.run_bind, run_und hu, Result.andThen, Instr.slice, hb, run_size hin, Sem.run, pure]
            split <;> rfl
          · simp only [R]
            have hr' := RL_take ((hn - ln) * sz) (RL_drop (ln * sz) hr)
            have ho' := One_take ((hn - ln) * sz) (One_drop (ln * sz) ho)
            by_cases hcl : cap = ln
            · refine ⟨b, o, _, _, by rw [if_pos hcl], by omega, hr', .inl ?_, ho'⟩
              have : hn - ln = 0 := by omega
              rw [this]; simp
            · refine ⟨b, o + ln * sz, _, _, by rw [if_neg hcl, add_plain, hsz], by omega, hr', ?_, ho'⟩
              rcases hrow with rfl | ⟨hr1, hr2⟩
              · left; simp
              · right
                refine ⟨hr1, fun i hi => ?_⟩
                have hi' : ln * sz + i < vs.length := by simp at hi; omega
                have := hr2 (ln * sz + i) hi'
                rw [Nat.add_assoc, this]
                simp
        · cases h
      · cases h
    · cases h
  · cases h
theorem el_isSome {t : TypeId} (h : (el P t).isSome = true) : ∃ e info, P.underlying t = some (.slice e) ∧ P.info? e = some info := by
  obtain ⟨⟨e, sz, by_⟩, he⟩ := Option.isSome_iff_exists.1 h
  obtain ⟨hu, info, hin, _⟩ := el_some he
  exact ⟨e, info, hu, hin⟩
theorem bounds00 {len cap : Nat} {k k' : IntKind} (w : World) : (Instr.sliceBounds true len cap none (some (.int k 0)) (some (.int k' 0))).run P w = .ok (0, 0, 0) w := by
  simp [Instr.sliceBounds, Instr.sliceBound, asIntOf, Sem.run_bind, Result.andThen, Sem.run, pure]
theorem slice00_run {S : Real} {t : TypeId} (h : (el P t).isSome = true) (a : Option Addr) (len cap : Nat) (k k' : IntKind) :
    (Instr.sliceAt t (.slice a len cap) none (some (.int k 0)) (some (.int k' 0))).run P S.w = .ok (.slice a 0 0) S.w := by
  obtain ⟨e, info, hu, hin⟩ := el_isSome h
  simp only [Instr.sliceAt, Sem.run_bind, run_und hu, Result.andThen, Instr.slice, bounds00, run_size hin, Sem.run, pure, if_true]
theorem slice00_sound {S : Real} {st : Store} (hS : SR S st) {t : TypeId} {x d : D} {xv : Value} {lo hi mx : Option D} {lv hv mv : Option Value} (hx : R S x xv) (hl : RO S lo lv) (hh : RO S hi hv) (hm : RO S mx mv)
    (h : slice00 P t x lo hi mx = some d) : DoesV P S (Instr.sliceAt t xv lv hv mv) st d := by
  unfold slice00 at h
  split at h <;> try (cases h; done)
  all_goals
    split at h <;> try (cases h; done)
    rename_i he
    injection h with h; subst h
    simp only [RO] at hl hh hm
    subst hl
    obtain ⟨_, rfl, hh⟩ := hh
    obtain ⟨_, rfl, hm⟩ := hm
    simp only [R] at hh hm
    subst hh; subst hm
    simp only [R] at hx
  · subst hx
    exact DoesV.same hS (slice00_run he _ _ _ _ _) (by simp only [R])
  · obtain ⟨a, cap, rfl, _⟩ := hx
    exact DoesV.same hS (slice00_run he _ _ _ _ _) (by simp only [R]; exact ⟨_, rfl⟩)
  · obtain ⟨b, o, vs, cap, rfl, _⟩ := hx
    exact DoesV.same hS (slice00_run he _ _ _ _ _) (by simp only [R]; exact ⟨_, rfl⟩)
  · obtain ⟨a, rfl⟩ := hx
    exact DoesV.same hS (slice00_run he _ _ _ _ _) (by simp only [R]; exact ⟨_, rfl⟩)
theorem conv_sound {S : Real} {st : Store} (hS : SR S st) {src dst : TypeId} {x d : D} {xv : Value} (hx : R S x xv) (h : convD P src dst x = some d) : DoesV P S (convert src dst xv) st d := by
  unfold convD at h
  split at h
  · rename_i hs hd
    injection h with h; subst h
    simp only [R] at hx; subst hx
    refine DoesV.same hS (v := _) (by simp only [convert, Sem.run_bind, run_und hs, run_und hd, Result.andThen, Conv.intToInt, Sem.run, pure]; rfl) (by simp only [R])
  · rename_i hs hd
    injection h with h; subst h
    simp only [R] at hx; subst hx
    refine DoesV.same hS (v := _) (by simp only [convert, Sem.run_bind, run_und hs, run_und hd, Result.andThen, Sem.run, pure]; rfl) (by simp only [R])
  · cases h
theorem cells_at {S : Real} {st : Store} (hS : SR S st) {esz : Nat} {x : D} {xv : Value} {cs : List D} (hx : R S x xv) (h : cellsOf st esz x = some cs) :
    (xv = .slice none 0 0 ∧ cs = []) ∨ ∃ a len cap vs, xv = .slice (some a) len cap ∧ RL S cs vs ∧ One vs ∧ vs.length = len * esz ∧ ∀ j (h : j < vs.length), S.w.cell? (a.add j) = some vs[j] := by
  unfold cellsOf at h
  split at h
  · injection h with h; subst h
    simp only [R] at hx
    exact .inl ⟨hx, rfl⟩
  · injection h with h; subst h
    simp only [R] at hx
    obtain ⟨a, rfl⟩ := hx
    exact .inr ⟨a, 0, 0, [], rfl, by simp only [RL], fun v hv => (by cases hv), by simp, by simp⟩
  · split at h
    · rename_i len cells hlen
      injection h with h; subst h
      simp only [R] at hx
      obtain ⟨b, o, vs, cap, rfl, hc, hr, hrow, ho⟩ := hx
      refine .inr ⟨_, len, cap, vs, rfl, hr, ho, by rw [← RL_length hr, hlen], fun j hj => ?_⟩
      rw [add_plain]
      exact at_row hrow j hj
    · cases h
  · split at h
    · rename_i id ver e off len _ v rw' ty cs' hb
      split at h
      · rename_i hc
        obtain ⟨rfl, rfl, hle⟩ := hc
        injection h with h; subst h
        obtain ⟨l, vs0, vs1, vs2, fr, h1, h2, h3, h4, h5, h6, h0, h7, h8⟩ := block_of hS hb
        simp only [R] at hx
        obtain ⟨a, cap, rfl, hc, hid, hlv⟩ := hx
        have hlen := RL_length h5
        have hr := RL_take (len * e) (RL_drop off h5)
        have ho := One_take (len * e) (One_drop off (One_append.1 (One_append.1 h6).2).1)
        have hvl : ((vs1.drop off).take (len * e)).length = len * e := by simp; omega
        refine .inr ⟨a, len, cap, (vs1.drop off).take (len * e), rfl, hr, ho, hvl, fun j hj => ?_⟩
        rcases (hlv l h1).2 h2.symm with ⟨g1, _⟩ | ⟨g1, _⟩
        · subst g1; simp at hj
        · subst g1
          rw [add_plain]
          have := at_base h3 (off + j) (by simp at hj; omega)
          rw [h0, ← Nat.add_assoc] at this
          rw [this]
          simp
      · cases h
    · cases h
  · cases h
theorem bytes_vals {S : Real} : ∀ {cs : List D} {l : List UInt8} {vs : List Value}, bytesOf cs = some l → RL S cs vs → ∃ ns : List Int, vs = ns.map (Value.int .u8) ∧ l = ns.map fun n => UInt8.ofNat n.toNat := by
  intro cs
  induction cs with
  | nil => intro l vs h hr; simp only [bytesOf] at h; injection h with h; subst h; simp only [RL] at hr; subst hr; exact ⟨[], rfl, rfl⟩
  | cons c cs ih =>
    intro l vs h hr
    simp only [RL] at hr
    obtain ⟨v, vs', rfl, hc, hr'⟩ := hr
    unfold bytesOf at h
    split at h
    · cases ‹_ :: _ = []›
    · rename_i n ds heq
      injection heq with e1 e2; subst e1; subst e2
      split at h
      · rename_i l' hl'
        injection h with h; subst h
        obtain ⟨ns, rfl, rfl⟩ := ih hl' hr'
        simp only [R] at hc; subst hc
        exact ⟨n :: ns, rfl, rfl⟩
      · cases h
    · cases h
theorem convBytes_sound {S : Real} {st : Store} (hS : SR S st) {src dst e : TypeId} (hs : P.underlying src = some (.slice e)) (hd : P.underlying dst = some .string) (he : P.underlying e = some (.int .u8))
    {x : D} {xv : Value} {cs : List D} {l : List UInt8} (hx : R S x xv) (hc : cellsOf st 1 x = some cs) (hb : bytesOf cs = some l) : DoesV P S (convert src dst xv) st (.str ⟨l.toArray⟩) := by
  rcases cells_at hS hx hc with ⟨rfl, rfl⟩ | ⟨a, len, cap, vs, rfl, hr, ho, hl, hat⟩
  · simp only [bytesOf] at hb
    injection hb with hb; subst hb
    exact DoesV.same hS (run_convert_bytes_nil S.w src e hs he 0 0 dst hd) (by simp only [R]; rfl)
  · obtain ⟨ns, rfl, rfl⟩ := bytes_vals hb hr
    refine DoesV.same hS (v := .string ⟨(ns.map fun n => UInt8.ofNat n.toNat).toArray⟩) ?_ (by simp only [R])
    have hlc := run_loadCells (P := P) _ hat
    rw [hl, Nat.mul_one] at hlc
    rw [run_convert_bytes_string S.w src dst e _ len cap hs he hd, run_bytesToString S.w a len cap ns hlc, foldl_push_bytes]
    simp [ByteArray.empty, ByteArray.emptyWithCapacity]
    rfl
theorem range_sound {S : Real} {st : Store} (hS : SR S st) {t : TypeId} (hs : isStr P t = true) (s : ByteArray) :
    DoesV P S (Instr.range t (.string s)) (st ++ [.iter s 0]) (.ptr st.length 0 0) := by
  refine ⟨.pointer (some ⟨S.w.heap.size, 0, none⟩), S.push (.stringIter s 0) 0, ?_, push_SR hS _ _ _ ?_, push_ext hS _ _, push_ptr hS _ _⟩
  · simp only [Instr.range, Sem.run_bind, run_und (isStr_some hs), Result.andThen, Sem.run, pure, newObj, Real.push, wpush]
  · simp only [RB]
    exact ⟨⟨0, S.w.heap.size, 0, true, 0, fun _ => rfl⟩, by simp [Real.push, setf], ⟨rfl, rfl⟩, rfl, .inr rfl, alloc_new _ _⟩
theorem iter_block {S : Real} {st : Store} (hS : SR S st) {id : Nat} {s : ByteArray} {pos : Nat} (h : st[id]? = some (.iter s pos)) :
    ∃ l : Loc, S.bl id = some l ∧ (l.ver = 0 ∧ l.base = 0) ∧ l.rw = true ∧ S.hot l.b ∧ S.w.heap[l.b]? = some (.stringIter s pos) := by
  have := hS.blk id _ h
  simpa only [RB] using this
theorem id_lt {st : Store} {id : Nat} {b : Blk} (h : st[id]? = some b) : id < st.length := by
  by_cases hx : id < st.length
  · exact hx
  · rw [List.getElem?_eq_none (by omega)] at h; cases h
theorem next_sound {S : Real} {st : Store} (hS : SR S st) {id : Nat} {s : ByteArray} {pos : Nat} {x : Value} (hx : R S (.ptr id 0 0) x) (h : st[id]? = some (.iter s pos)) (ty : TypeId) :
    DoesV P S (Instr.next x true ty) (if pos < s.size then st.set id (.iter s (pos + (Utf8.decode s pos).2)) else st)
      (if pos < s.size then .tup [.bool true, .int .i64 pos, .int .i32 (Utf8.decode s pos).1] else .tup [.bool false]) := by
  obtain ⟨l, h1, h2, hw, h3, h4⟩ := iter_block hS h
  simp only [R] at hx
  obtain ⟨a, rfl, hid, ha⟩ := hx
  have ha := (ha l h1).2 h2.1.symm
  rw [h2.2] at ha
  subst ha
  have hg : (getObj l.b).run P S.w = .ok (.stringIter s pos) S.w := by simp [getObj, Sem.run, h4]
  split
  · rename_i hlt
    refine ⟨.tuple #[.bool true, goInt pos, .int .i32 (Utf8.decode s pos).1], S.write l.b (.stringIter s (pos + (Utf8.decode s pos).2)), ?_, write_SR hS h1 hw h3 _ _ (id_lt h) ?_, write_ext hS h1 hw h3 _, ?_⟩
    · have hset : ∀ o, (setObj l.b o).run P S.w = .ok () (S.w.putObj l.b o) := by intro o; simp [setObj, Sem.run, h4, World.putObj]
      simp only [Instr.next, Sem.run_bind, hg, Result.andThen, hlt, if_true, hset, Sem.run, pure, Real.write]
    · simp only [RB]
      exact ⟨l, h1, h2, hw, h3, putObj_get (block_lt h4)⟩
    · simp only [R]
      exact ⟨[.bool true, goInt pos, .int .i32 (Utf8.decode s pos).1], rfl, by simp only [RL, R]; exact ⟨_, _, rfl, rfl, _, _, rfl, rfl, _, _, rfl, rfl, rfl⟩⟩
  · rename_i hlt
    refine DoesV.same hS (v := .tuple #[.bool false]) ?_ ?_
    · simp only [Instr.next, Sem.run_bind, hg, Result.andThen, hlt, if_false, Sem.run, pure]
    · simp only [R]
      exact ⟨[.bool false], rfl, by simp only [RL, R]; exact ⟨_, _, rfl, rfl, rfl⟩⟩
end
section
variable {P : Program}
theorem opOk_mem {n : Nat} {o : Op} (h : opOk n o = true) {x : Operand} (hx : x ∈ o.operands.toList) : opndOk n x = true := by
  unfold opOk at h
  exact List.all_eq_true.1 h x hx
theorem rds_opt {S : Real} {fr : Fr} {n : Nat} {a : Act} (hf : FrR S fr n a.tmps) {o : Option Operand} (ho : ∀ x ∈ o.toList, opndOk n x = true) {l : List D} (h : rds fr o.toList = some l) : RO S l.head? (o.map a.eval) := by
  cases o with
  | none => simp only [Option.toList, rds] at h; injection h with h; subst h; simp [RO]
  | some x =>
    simp only [Option.toList, rds] at h
    split at h
    · rename_i d es h1 h2
      injection h with h; subst h
      injection h2 with h2
      exact ⟨_, rfl, rd_R hf (ho x (by simp)) h1⟩
    · cases h
theorem pick_sound {S : Real} {st : Store} (hS : SR S st) {c a b : Option D} {cv av bv : Value} {d : D} (hc : ∀ x, c = some x → R S x cv) (ha : ∀ x, a = some x → R S x av) (hb : ∀ x, b = some x → R S x bv)
    (h : pickD c a b = some d) : Does P S (do pure (.value (if ← asBool cv then av else bv))) st d := by
  unfold pickD at h
  split at h
  · have := hc _ rfl
    simp only [R] at this; subst this
    exact Does.same hS (v := av) (by simp [asBool, Sem.run_bind, Result.andThen, Sem.run, pure]) (ha d h)
  · have := hc _ rfl
    simp only [R] at this; subst this
    exact Does.same hS (v := bv) (by simp [asBool, Sem.run_bind, Result.andThen, Sem.run, pure]) (hb d h)
  · cases h
theorem map_some {α β : Type} {x : Option α} {f : α → β} {y : β} (h : x.map f = some y) : ∃ a, x = some a ∧ f a = y := by
  cases x with
  | none => cases h
  | some a => exact ⟨a, rfl, by injection h⟩
theorem step_sound {S : Real} {st : Store} (hS : SR S st) {fr : Fr} {n : Nat} {a : Act} (hf : FrR S fr n a.tmps) {o : Oper} (hok : opOk n o.op = true) {d : D} {st' : Store}
    (h : stepOp P fr st o.op = some (d, st')) : Does P S (execOp a.eval o) st' d := by
  have ok : ∀ x ∈ o.op.operands.toList, opndOk n x = true := fun x hx => opOk_mem hok hx
  unfold execOp
  cases hop : o.op <;> rw [hop] at h ok <;> simp only [stepOp] at h <;> try (cases h; done)
  case move x =>
    obtain ⟨y, hy, he⟩ := map_some h
    injection he with e1 e2; subst e1; subst e2
    exact Does.same hS rfl (rd_R hf (ok x (by simp [Op.operands])) hy)
  case assign x =>
    obtain ⟨y, hy, he⟩ := map_some h
    injection he with e1 e2; subst e1; subst e2
    exact Does.same hS rfl (rd_R hf (ok x (by simp [Op.operands])) hy)
  case pick c x y =>
    obtain ⟨z, hz, he⟩ := map_some h
    injection he with e1 e2; subst e1; subst e2
    exact pick_sound hS (fun d hd => rd_R hf (ok c (by simp [Op.operands])) hd) (fun d hd => rd_R hf (ok x (by simp [Op.operands])) hd) (fun d hd => rd_R hf (ok y (by simp [Op.operands])) hd) hz
  case alloc t =>
    split at h
    · rename_i z hz
      injection h with h; injection h with e1 e2; subst e1; subst e2
      exact (alloc_sound hS hz).does
    · cases h
  case box t x =>
    split at h
    · rename_i y hy
      split at h
      · rename_i cs hcs
        injection h with h; injection h with e1 e2; subst e1; subst e2
        exact (box_sound hS (rd_R hf (ok x (by simp [Op.operands])) hy) hcs).does
      · cases h
    · cases h
  case build t parts =>
    split at h
    · rename_i z ps hz hp
      split at h
      · rename_i hpl
        split at h
        · rename_i cs hcs
          injection h with h; injection h with e1 e2; subst e1; subst e2
          exact (build_sound hS hf (fun x hx => ok x.2 (by simp only [Op.operands]; exact List.mem_map.2 ⟨x, hx, rfl⟩)) hz hp hcs hpl).does
        · cases h
      · cases h
    · cases h
  case buildSlice t len parts =>
    split at h
    · rename_i e sz by_ ps he hp
      split at h
      · cases h
      · rename_i hsm
        split at h
        · rename_i z hz
          split at h
          · rename_i hzl
            split at h
            · rename_i cs hcs
              injection h with h; injection h with e1 e2; subst e1; subst e2
              exact (buildSlice_sound hS hf (fun x hx => ok x.2 (by simp only [Op.operands]; exact List.mem_map.2 ⟨x, hx, rfl⟩)) he hz hzl hsm hp hcs).does
            · cases h
          · cases h
        · cases h
    · cases h
  case load t x =>
    split at h
    · rename_i id ver off hx
      split at h
      · rename_i v rw' ty cs hb
        split at h
        · rename_i hv
          subst hv
          obtain ⟨y, hy, he⟩ := map_some h
          injection he with e1 e2; subst e1; subst e2
          exact (load_ptr hS hb (rd_R hf (ok x (by simp [Op.operands])) hx) hy).does
        · cases h
      · cases h
    · rename_i cs off hx
      obtain ⟨y, hy, he⟩ := map_some h
      injection he with e1 e2; subst e1; subst e2
      exact (load_fptr hS (rd_R hf (ok x (by simp [Op.operands])) hx) hy).does
    · cases h
  case store t x v =>
    split at h
    · rename_i id ver off dd hx hv
      split at h
      · rename_i w ty cs b nn vc hb hl hc
        split at h
        · rename_i hcond
          obtain ⟨rfl, hn, hle⟩ := hcond
          injection h with h; injection h with e1 e2; subst e1; subst e2
          obtain ⟨S', h1, h2, h3⟩ := store_sound hS hb hl (rd_R hf (ok x (by simp [Op.operands])) hx) (rd_R hf (ok v (by simp [Op.operands])) hv) hc hn hle
          exact ⟨.skip, Go.undef, S', by simp only [Sem.run_bind, h1, Result.andThen, Sem.run, pure], .inr ⟨rfl, rfl⟩, h2, h3, by simp [R, RL, D.undef, Go.undef]⟩
        · cases h
      · cases h
    · cases h
  case nilCheck x =>
    split at h <;> try (cases h; done)
    all_goals
      rename_i hx
      injection h with h; injection h with e1 e2; subst e1; subst e2
      have hr := rd_R hf (ok x (by simp [Op.operands])) hx
      have hr0 := hr
      simp only [R] at hr
    · obtain ⟨b, e, _⟩ := hr; rw [e] at hr0; simp only [e]; exact Does.same hS rfl hr0
    · obtain ⟨b, u, vs, e, _⟩ := hr; rw [e] at hr0; simp only [e]; exact Does.same hS rfl hr0
    · obtain ⟨vs, e, _⟩ := hr; rw [e] at hr0; simp only [e]; exact Does.same hS rfl hr0
    · obtain ⟨l, e, _⟩ := hr; rw [e] at hr0; simp only [e]; exact Does.same hS rfl hr0
  case binOp op t x y yt =>
    split at h
    · rename_i p q hp hq
      obtain ⟨z, hz, he⟩ := map_some h
      injection he with e1 e2; subst e1; subst e2
      exact (bin_sound hS (rd_R hf (ok x (by simp [Op.operands])) hp) (rd_R hf (ok y (by simp [Op.operands])) hq) hz).does
    · cases h
  case unOp op t x =>
    split at h
    · rename_i p hp
      obtain ⟨z, hz, he⟩ := map_some h
      injection he with e1 e2; subst e1; subst e2
      exact (un_sound hS (rd_R hf (ok x (by simp [Op.operands])) hp) hz).does
    · cases h
  case convert src dst x =>
    split at h
    · rename_i p hp
      have hr := rd_R hf (ok x (by simp [Op.operands])) hp
      split at h
      · rename_i q hq
        injection h with h; injection h with e1 e2; subst e1; subst e2
        exact (conv_sound hS hr hq).does
      · split at h
        · rename_i e d' hs hd hnone
          split at h
          · rename_i cs he hc
            split at h
            · rename_i l hl
              injection h with h; injection h with e1 e2; subst e1; subst e2
              exact (convBytes_sound hS hs hd he hr hc hl).does
            · cases h
          · cases h
        · cases h
    · cases h
  case makeFunc fn first caps =>
    cases fn <;> simp only at h <;> try (cases h; done)
    rename_i f
    split at h
    · rename_i ds hfst hcaps
      injection h with h; injection h with e1 e2; subst e1; subst e2
      have hr := rds_R hf (fun x hx => ok x (by simp only [Op.operands, Array.toList_append]; exact List.mem_append_right _ hx)) hcaps
      have hfe : first = #[] := by
        apply Array.ext'
        simpa using hfst
      subst hfe
      refine Does.same hS (v := .func (.func f) #[] (caps.map a.eval)) ?_ ?_
      · simp [Instr.makeFunc, Sem.run_bind, Result.andThen, Sem.run, pure]
      · simp only [R]
        exact ⟨caps.toList.map a.eval, by rw [← List.map_toArray], hr⟩
    · cases h
  case makeSlice t l c =>
    split at h
    · rename_i e sz by_ k m k' m' he hl hc
      split at h
      · rename_i hcond
        obtain ⟨rfl, h0, hb, hm⟩ := hcond
        split at h
        · rename_i z hz
          split at h
          · rename_i hzl
            injection h with h; injection h with e1 e2; subst e1; subst e2
            have r1 := rd_R hf (ok l (by simp [Op.operands])) hl
            have r2 := rd_R hf (ok c (by simp [Op.operands])) hc
            simp only [R] at r1 r2
            simp only [r1, r2]
            exact (makeSlice_sound hS he hz hzl h0 hb hm).does
          · cases h
        · cases h
      · cases h
    · cases h
  case slice t x lo hi mx =>
    have o1 : ∀ y ∈ lo.toList, opndOk n y = true := fun y hy => ok y (by simp only [Op.operands, Array.toList_append]; simp at hy ⊢; simp [hy])
    have o2 : ∀ y ∈ hi.toList, opndOk n y = true := fun y hy => ok y (by simp only [Op.operands, Array.toList_append]; simp at hy ⊢; simp [hy])
    have o3 : ∀ y ∈ mx.toList, opndOk n y = true := fun y hy => ok y (by simp only [Op.operands, Array.toList_append]; simp at hy ⊢; simp [hy])
    have ox : opndOk n x = true := ok x (by simp [Op.operands])
    split at h
    · rename_i p l1 h1 hp hl hh hm
      obtain ⟨z, hz, he⟩ := map_some h
      injection he with e1 e2; subst e1; subst e2
      have hmx : mx = none := by
        cases mx with
        | none => rfl
        | some y =>
          simp only [Option.toList, rds] at hm
          split at hm
          · cases hm
          · cases hm
      subst hmx
      exact (slice_sound hS (rd_R hf ox hp) (rds_opt hf o1 hl) (rds_opt hf o2 hh) hz).does
    · rename_i p l1 h1 m1 hne hp hl hh hm
      obtain ⟨z, hz, he⟩ := map_some h
      injection he with e1 e2; subst e1; subst e2
      exact (slice00_sound hS (rd_R hf ox hp) (rds_opt hf o1 hl) (rds_opt hf o2 hh) (rds_opt hf o3 hm) hz).does
    · cases h
  case fieldAddr s x f =>
    split at h
    · rename_i id ver off g hx hg
      injection h with h; injection h with e1 e2; subst e1; subst e2
      have hr := rd_R hf (ok x (by simp [Op.operands])) hx
      obtain ⟨b, hb⟩ := R_ptr_some hr
      rw [hb] at hr
      simp only [hb]
      exact (DoesV.same hS (fieldAt_run hg b S.w) (R_ptr_add g hr)).does
    · rename_i cs off g hx hg
      injection h with h; injection h with e1 e2; subst e1; subst e2
      have hr := rd_R hf (ok x (by simp [Op.operands])) hx
      obtain ⟨b, hb⟩ := R_fptr_some hr
      rw [hb] at hr
      simp only [hb]
      exact (DoesV.same hS (fieldAt_run hg b S.w) (R_fptr_add g hr)).does
    · cases h
  case field t x f =>
    split at h
    · rename_i p hp
      obtain ⟨z, hz, he⟩ := map_some h
      injection he with e1 e2; subst e1; subst e2
      exact (field_sound hS (rd_R hf (ok x (by simp [Op.operands])) hp) hz).does
    · cases h
  case indexAddr t x i =>
    split at h
    · rename_i p q hp hq
      obtain ⟨z, hz, he⟩ := map_some h
      injection he with e1 e2; subst e1; subst e2
      exact (indexAddr_sound hS (rd_R hf (ok x (by simp [Op.operands])) hp) (rd_R hf (ok i (by simp [Op.operands])) hq) hz).does
    · cases h
  case index t x i =>
    split at h
    · rename_i p q hp hq
      obtain ⟨z, hz, he⟩ := map_some h
      injection he with e1 e2; subst e1; subst e2
      exact (index_sound hS (rd_R hf (ok x (by simp [Op.operands])) hp) (rd_R hf (ok i (by simp [Op.operands])) hq) hz).does
    · cases h
  case range t x =>
    split at h
    · rename_i s hx
      split at h
      · rename_i hs
        injection h with h; injection h with e1 e2; subst e1; subst e2
        have hr := rd_R hf (ok x (by simp [Op.operands])) hx
        simp only [R] at hr
        simp only [hr]
        exact (range_sound hS hs s).does
      · cases h
    · cases h
  case next x isS =>
    cases isS <;> simp only at h <;> try (cases h; done)
    split at h <;> try (cases h; done)
    rename_i id hx
    split at h <;> try (cases h; done)
    rename_i s pos hb
    have := (next_sound (P := P) hS (rd_R hf (ok x (by simp [Op.operands])) hx) hb o.type).does
    split at h <;> rename_i hlt <;> injection h with h <;> injection h with e1 e2 <;> subst e1 <;> subst e2
    · simpa only [hlt, if_true] using this
    · simpa only [hlt, if_false] using this
  case extract x i =>
    split at h
    · rename_i ds hx
      obtain ⟨z, hz, he⟩ := map_some h
      injection he with e1 e2; subst e1; subst e2
      have hr := rd_R hf (ok x (by simp [Op.operands])) hx
      simp only [R] at hr
      obtain ⟨vs, e, hl⟩ := hr
      obtain ⟨v, hv, hR⟩ := RL_get hl hz
      simp only [e]
      refine (DoesV.same hS (v := v) ?_ hR).does
      have : vs.toArray[i]? = some v := by simpa using hv
      simp only [Instr.extract, this, Sem.run, pure]
    · cases h
end
section
variable {P : Program}
theorem lenOf_sound {S : Real} {x : D} {xv : Value} {n : Nat} (hx : R S x xv) (h : lenOf x = some n) (w : World) : (Builtin.lenOf xv).run P w = .ok n w := by
  cases x <;> simp only [lenOf] at h <;> cases h <;> simp only [R] at hx
  case str => subst hx; simp [Builtin.lenOf, Sem.run, pure]
  case nils => subst hx; simp [Builtin.lenOf, Sem.run, pure]
  case zsl => obtain ⟨a, rfl⟩ := hx; simp [Builtin.lenOf, Sem.run, pure]
  case osl => obtain ⟨a, cap, rfl, _⟩ := hx; simp [Builtin.lenOf, Sem.run, pure]
  case fsl => obtain ⟨b, o, vs, cap, rfl, _⟩ := hx; simp [Builtin.lenOf, Sem.run, pure]
theorem lenD_sound {S : Real} {st : Store} (hS : SR S st) {t ty : TypeId} {ts : Array TypeId} {x d : D} {xv : Value} (ht : ts[0]? = some t) (hx : R S x xv) (h : lenD P t x = some d) :
    DoesV P S (Builtin.len_ ts ty #[xv]) st d := by
  unfold lenD at h
  split at h
  · split at h
    · rename_i hs
      injection h with h; subst h
      simp only [R] at hx; subst hx
      refine DoesV.same hS (v := _) (by simp only [Builtin.len_, ht, Array.getElem?_singleton, if_true, Sem.run_bind, run_und (isStr_some hs), Result.andThen, Sem.run, pure, goInt]; rfl) (by simp only [R])
    · cases h
  · cases h
  · split at h
    · rename_i hs
      obtain ⟨e, hu⟩ := isSlice_some hs
      split at h
      · rename_i n hn
        injection h with h; subst h
        have hv : ∃ a c, xv = .slice a n c := by
          cases x <;> simp only [lenOf] at hn <;> cases hn <;> simp only [R] at hx <;> simp_all
          case zsl => obtain ⟨a, rfl⟩ := hx; exact ⟨_, _, rfl⟩
          case osl => obtain ⟨a, cap, rfl, _⟩ := hx; exact ⟨_, _, rfl⟩
          case fsl => obtain ⟨b, o, vs, ⟨cap, rfl, _⟩⟩ := hx; exact ⟨_, _, rfl⟩
        obtain ⟨a, c, rfl⟩ := hv
        refine DoesV.same hS (v := .int .i64 n) (by simp only [Builtin.len_, ht, Array.getElem?_singleton, if_true, Sem.run_bind, run_und hu, Result.andThen, Sem.run, pure, goInt]) (by simp only [R])
      · cases h
    · cases h
theorem fold_sound {S : Real} {f : D → D → Option D} {g : Value → Value → Sem Value} (hfg : ∀ a b c av bv, f a b = some c → R S a av → R S b bv → ∃ cv, (g av bv).run P S.w = .ok cv S.w ∧ R S c cv) :
    ∀ {l : List D} {vs : List Value} {a c : D} {av : Value}, RL S l vs → R S a av → foldD f a l = some c → ∃ cv, (vs.foldlM g av).run P S.w = .ok cv S.w ∧ R S c cv := by
  intro l
  induction l with
  | nil => intro vs a c av h1 h2 h; simp only [RL] at h1; subst h1; simp only [foldD] at h; injection h with h; subst h; exact ⟨av, by simp [Sem.run, pure], h2⟩
  | cons b l ih =>
    intro vs a c av h1 h2 h
    simp only [RL] at h1
    obtain ⟨bv, vs', rfl, hb, hl⟩ := h1
    simp only [foldD] at h
    split at h
    · rename_i c' hc
      obtain ⟨cv, e1, e2⟩ := hfg _ _ _ _ _ hc h2 hb
      obtain ⟨dv, e3, e4⟩ := ih hl e2 h
      exact ⟨dv, by simp only [List.foldlM_cons, Sem.run_bind, e1, Result.andThen, e3], e4⟩
    · cases h
theorem min_fg {S : Real} : ∀ a b c av bv, minD a b = some c → R S a av → R S b bv → ∃ cv, (Builtin.min2 av bv).run P S.w = .ok cv S.w ∧ R S c cv := by
  intro a b c av bv h ha hb
  cases a <;> cases b <;> simp only [minD] at h <;> try (cases h; done)
  injection h with h; subst h
  simp only [R] at ha hb; subst ha; subst hb
  exact ⟨_, by simp only [Builtin.min2, Sem.run, pure]; rfl, by simp only [R]⟩
theorem max_fg {S : Real} : ∀ a b c av bv, maxD a b = some c → R S a av → R S b bv → ∃ cv, (Builtin.max2 av bv).run P S.w = .ok cv S.w ∧ R S c cv := by
  intro a b c av bv h ha hb
  cases a <;> cases b <;> simp only [maxD] at h <;> try (cases h; done)
  injection h with h; subst h
  simp only [R] at ha hb; subst ha; subst hb
  exact ⟨_, by simp only [Builtin.max2, Sem.run, pure]; rfl, by simp only [R]⟩
def Real.drew (S : Real) : Real := { S with w := S.w.drew }
theorem drew_ext {S : Real} {st : Store} (h : SR S st) : Ext S S.drew where
  size := Nat.le_refl _
  n := Nat.le_refl _
  keep _ _ _ := rfl
  hot1 _ _ h := h
  hot2 _ h _ := h
  live i l' _ h := ⟨l', h, .inl rfl⟩
  new i l' hi hl := by rw [show S.drew.bl = S.bl from rfl, h.out i hi] at hl; cases hl
  os := rfl
  tape := rfl
  output := rfl
  hlt := h.hlt
theorem drew_SR {S : Real} {st : Store} (h : SR S st) : SR S.drew st where
  glob := GR_mono (drew_ext h).w h.glob
  len := h.len
  blk id b hb := RB_mono (drew_ext h) rfl (fun l _ => ⟨rfl, Iff.rfl⟩) (h.blk id b hb)
  out := h.out
  inj := h.inj
  lt := h.lt
  hlt := h.hlt
theorem src_sound {S : Real} {st : Store} (hS : SR S st) {esz n : Nat} {x : D} {xv : Value} {new : List D} (hx : R S x xv) (hc : srcCells st esz x = some new) (hn : lenOf x = some n) :
    ∃ vs, RL S new vs ∧ One vs ∧ vs.length = n * esz ∧ (∀ w, (∀ a, w.cell? a = S.w.cell? a) → ∀ m, m ≤ n → (Builtin.firstCells esz m xv).run P w = .ok (vs.take (m * esz)).toArray w) := by
  unfold srcCells at hc
  split at hc
  · rename_i s
    split at hc
    · rename_i he
      subst he
      injection hc with hc; subst hc
      simp only [R] at hx; subst hx
      simp only [lenOf] at hn; injection hn with hn; subst hn
      refine ⟨s.data.toList.map fun b => .int .u8 b.toNat, ?_, ?_, by simp only [List.length_map, Array.length_toList, Nat.mul_one]; rfl, fun w hw m hm => ?_⟩
      · unfold ofBytes
        generalize s.data.toList = l
        induction l with
        | nil => simp [RL]
        | cons b l ih => simp only [List.map_cons, RL]; exact ⟨_, _, rfl, by simp only [R], ih⟩
      · intro v hv
        obtain ⟨b, _, rfl⟩ := List.mem_map.1 hv
        rfl
      · simp only [Builtin.firstCells, Sem.run, pure]
        congr 1
        apply Array.ext'
        rw [show (s.extract 0 m).data = s.data.extract 0 m from ByteArray.data_extract]
        simp only [Array.toList_map, Array.toList_extract, List.extract_eq_take_drop, Nat.sub_zero, List.drop_zero, Nat.mul_one, List.map_take]
    · cases hc
  · rcases cells_at hS hx hc with ⟨rfl, rfl⟩ | ⟨a, len, cap, vs, rfl, hr, ho, hl, hat⟩
    · have hn0 : n = 0 := by
        cases x <;> simp only [lenOf] at hn <;> cases hn <;> simp only [R] at hx <;> first | (obtain ⟨_, _, _, _, e, _⟩ := hx; cases e; done) | (obtain ⟨_, _, e, _⟩ := hx; cases e; done) | (obtain ⟨_, e⟩ := hx; cases e; done) | rfl | (cases hx; done)
      subst hn0
      refine ⟨[], by simp [RL], fun v hv => (by cases hv), by simp, fun w hw m hm => by simp [Builtin.firstCells, Sem.run, pure]⟩
    · have hn0 : n = len := by
        cases x <;> simp only [lenOf] at hn <;> cases hn <;> simp only [R] at hx
        case str => cases hx
        case nils => cases hx
        case zsl => obtain ⟨_, e⟩ := hx; injection e with _ e _; exact e.symm
        case osl => obtain ⟨_, _, e, _⟩ := hx; injection e with _ e _; exact e.symm
        case fsl => obtain ⟨_, _, _, _, e, _⟩ := hx; injection e with _ e _; exact e.symm
      subst hn0
      refine ⟨vs, hr, ho, hl, fun w hw m hm => ?_⟩
      simp only [Builtin.firstCells]
      have hml : m * esz ≤ n * esz := Nat.mul_le_mul_right _ hm
      have := run_loadCells (P := P) (w := w) (a := a) (vs.take (m * esz)) (fun j hj => by
        rw [hw, hat j (by simp at hj; omega)]; simp)
      rw [show (vs.take (m * esz)).length = m * esz by simp; omega] at this
      exact this
theorem slNil_slice {S : Real} {s : D} {sv : Value} (h : R S s sv) (hs : (slNil s).isSome = true) : ∃ a len cap, sv = .slice a len cap ∧ len ≤ cap := by
  cases s <;> simp only [slNil] at hs <;> try (cases hs; done)
  all_goals simp only [R] at h
  · exact ⟨_, _, _, h, Nat.le_refl _⟩
  · obtain ⟨a, rfl⟩ := h; exact ⟨_, _, _, rfl, Nat.le_refl _⟩
  · obtain ⟨a, cap, rfl, hc, _⟩ := h; exact ⟨_, _, _, rfl, hc⟩
  · obtain ⟨b, o, vs, cap, rfl, hc, _⟩ := h; exact ⟨_, _, _, rfl, hc⟩
theorem wrV_splice : ∀ (us : List Value) (k : Nat) (vs : List Value), k + us.length ≤ vs.length → wrV vs k us = vs.take k ++ us ++ vs.drop (k + us.length) := by
  intro us
  induction us with
  | nil => intro k vs h; simp [wrV]
  | cons u us ih =>
    intro k vs h
    simp only [List.length_cons] at h
    simp only [wrV]
    rw [ih (k + 1) (vs.set k u) (by simp; omega)]
    have h1 : (vs.set k u).take (k + 1) = vs.take k ++ [u] := by
      rw [List.take_add_one, List.take_set_of_le (Nat.le_refl _)]
      rw [List.getElem?_set_self (by omega)]
      rfl
    rw [h1, List.drop_set_of_lt (by omega)]
    simp only [List.append_assoc, List.cons_append, List.nil_append, List.length_cons]
    congr 4
    omega
section
variable {t t2 e ty : TypeId} {info : TypeInfo} {z : Value} {xv : Value} {n : Nat} {news : List Value} {w : World}
theorem append_zero (ht : P.underlying t = some (.slice e)) (hi : P.info? e = some info) (h2 : (∃ e2, P.underlying t2 = some (.slice e2)) ∨ P.underlying t2 = some .string)
    (hlen : (Builtin.lenOf xv).run P w = .ok 0 w) (hf : (Builtin.firstCells info.size 0 xv).run P w = .ok #[] w) (a : Option Addr) (len cap : Nat) (hc : len ≤ cap) :
    (Builtin.append_ #[t, t2] ty #[.slice a len cap, xv]).run P w = .ok (.slice a len cap) w := by
  have hz : ∀ w, (underlying t2).run P w = .ok (match P.underlying t2 with | some d => d | none => .bool) w := by
    intro w; rcases h2 with ⟨e2, h2⟩ | h2 <;> simp [run_und h2, h2]
  rcases h2 with ⟨e2, h2⟩ | h2 <;> cases a <;>
    simp [Builtin.append_, Sem.run_bind, run_und ht, run_und h2, Result.andThen, run_size hi, hlen, Sem.run, pure, hc, hf, storeCells]
theorem append_fits (ht : P.underlying t = some (.slice e)) (hi : P.info? e = some info) (h2 : (∃ e2, P.underlying t2 = some (.slice e2)) ∨ P.underlying t2 = some .string)
    (hlen : (Builtin.lenOf xv).run P w = .ok n w) (hf : (Builtin.firstCells info.size n xv).run P w = .ok news.toArray w) (b o len cap : Nat) (hc : len + n ≤ cap)
    {cs : List Value} {fr : Nat × Nat} {te : TypeId} (hb : w.heap[b]? = some (.cells cs.toArray te fr)) (hfit : o + len * info.size + news.length ≤ cs.length) (h1 : One news) (hu : unfrozen fr cs.length) (hne : news ≠ []) :
    (Builtin.append_ #[t, t2] ty #[.slice (some ⟨b, o, none⟩) len cap, xv]).run P w = .ok (.slice (some ⟨b, o, none⟩) (len + n) cap) (w.putObj b (.cells (wrV cs (o + len * info.size) news).toArray te fr)) := by
  have hst := run_storeCells (P := P) (b := b) (t := te) (fr := fr) news w cs (o + len * info.size) 0 hb (by simpa using hfit) h1 hu
  rw [if_neg hne] at hst
  simp only [Nat.add_zero] at hst
  rcases h2 with ⟨e2, h2⟩ | h2 <;>
    simp [Builtin.append_, Sem.run_bind, run_und ht, run_und h2, Result.andThen, run_size hi, hlen, Sem.run, pure, hc, hf, add_plain, hst]
theorem append_grows (ht : P.underlying t = some (.slice e)) (hi : P.info? e = some info) (hz : info.zero = some z) (h2 : (∃ e2, P.underlying t2 = some (.slice e2)) ∨ P.underlying t2 = some .string)
    (hlen : (Builtin.lenOf xv).run P w = .ok n w) (hf : (Builtin.firstCells info.size n xv).run P w.drew = .ok news.toArray w.drew) (a : Option Addr) (len cap : Nat) (hc : cap < len + n)
    {olds : List Value} (ho : (Builtin.firstCells info.size len (.slice a len cap)).run P w.drew = .ok olds.toArray w.drew) (h63 : len + n ≤ 9223372036854775807) (hby : (len + n) * info.bytes ≤ 140737488355328) :
    (Builtin.append_ #[t, t2] ty #[.slice a len cap, xv]).run P w = .ok (.slice (some ⟨w.heap.size, 0, none⟩) (len + n) (grownCap w (len + n) cap e))
      (wpush w.drew (.cells (olds ++ news ++ (Builtin.zeroCells z.cells (grownCap w (len + n) cap e - (len + n))).toList).toArray e)) := by
  have hn : ¬ (len + n ≤ cap) := by omega
  have h63' : ¬ (9223372036854775807 < ((len : Int) + (n : Int))) := by omega
  have hfit := growslice_fits hc hby
  have h48' : ¬ (281474976710656 < Builtin.nextslicecap (len + n) cap * info.bytes) := by omega
  have hw : ∀ o, wpush w.drew o = w.drew.alloc o := fun o => rfl
  rw [hw]
  rcases h2 with ⟨e2, h2⟩ | h2 <;>
    simp [Builtin.append_, run_underlying ht, run_underlying h2, sizeOf, typeInfo, zeroValue, hi, hz, hlen, hn, h63', h48', Question.forced, hf, ho, newRow, grownCap] <;> (congr 2; apply Array.ext'; simp)
end
def Real.moved (S : Real) (id ver : Nat) (o : Obj) (sz : Nat) : Real :=
  { w := wpush S.w o, bl := setf S.bl id (some ⟨ver, S.w.heap.size, sz, true, 0, fun _ => rfl⟩), n := S.n, hot := fun b => S.hot b ∨ b = S.w.heap.size }
theorem moved_ext {S : Real} {st : Store} (h : SR S st) {id : Nat} {l : Loc} (hl : S.bl id = some l) (hw : l.rw = true) (hid : id < S.n) {ver : Nat} (hv : l.ver < ver) (o : Obj) (sz : Nat) : Ext S (S.moved id ver o sz) where
  size := by simp only [Real.moved, alloc_size]; omega
  n := Nat.le_refl _
  keep b hb _ := alloc_get hb
  hot1 b hb hh := by
    rcases hh with hh | hh
    · exact hh
    · omega
  hot2 b hh _ := .inl hh
  live i l' hi hl' := by
    simp only [Real.moved, setf] at hl'
    split at hl'
    · rename_i e; subst e
      injection hl' with hl'; subst hl'
      exact ⟨l, hl, .inr ⟨hv, hw, .inr (Nat.le_refl _)⟩⟩
    · exact ⟨l', hl', .inl rfl⟩
  new i l' hi hl' := by
    simp only [Real.moved, setf] at hl'
    split at hl'
    · omega
    · rw [h.out i hi] at hl'; cases hl'
  os := rfl
  tape := rfl
  output := rfl
  hlt := h.hlt
theorem moved_SR {S : Real} {st : Store} (h : SR S st) {id : Nat} {l : Loc} (hl : S.bl id = some l) (hw : l.rw = true) (hid : id < S.n) {ver : Nat} (hv : l.ver < ver) (o : Obj) (sz : Nat) (blk : Blk)
    (hb : RB (S.moved id ver o sz) id blk) : SR (S.moved id ver o sz) (st.set id blk) where
  glob := GR_mono (moved_ext h hl hw hid hv o sz).w h.glob
  len := by simp [Real.moved, h.len]
  blk i b hi := by
    rw [List.getElem?_set] at hi
    by_cases e : id = i
    · subst e
      rw [← h.len] at hi
      simp [hid] at hi
      subst hi
      exact hb
    · simp only [e, if_false] at hi
      refine RB_mono (moved_ext h hl hw hid hv o sz) ?_ (fun m hm => ?_) (h.blk i b hi)
      · simp only [Real.moved, setf]; rw [if_neg (fun x => e x.symm)]
      · have := h.lt i m hm
        refine ⟨alloc_get this, ⟨fun hh => ?_, fun hh => .inl hh⟩⟩
        rcases hh with hh | hh
        · exact hh
        · omega
  out i hi := by
    simp only [Real.moved, setf]
    rw [if_neg (by simp only [Real.moved] at hi; omega)]
    exact h.out i hi
  inj i j l' m hi hj hb := by
    simp only [Real.moved, setf] at hi hj
    split at hi <;> split at hj
    · rename_i e1 e2; rw [e1, e2]
    · injection hi with hi; subst hi
      have := h.lt j m hj
      simp at hb; omega
    · injection hj with hj; subst hj
      have := h.lt i l' hi
      simp at hb; omega
    · exact h.inj i j l' m hi hj hb
  lt i l' hi := by
    simp only [Real.moved, alloc_size]
    simp only [Real.moved, setf] at hi
    split at hi
    · injection hi with hi; subst hi; simp
    · have := h.lt i l' hi; omega
  hlt b hb := by
    simp only [Real.moved, alloc_size]
    rcases hb with hb | hb
    · have := h.hlt b hb; omega
    · omega
def Real.bumped (S : Real) (id : Nat) (l : Loc) (ver : Nat) (o : Obj) (bs : Nat) (hz : ver = 0 → bs = 0 := by intro h; omega) : Real :=
  { S with w := S.w.putObj l.b o, bl := setf S.bl id (some ⟨ver, l.b, l.sz, true, bs, hz⟩) }
theorem bumped_ext {S : Real} {st : Store} (h : SR S st) {id : Nat} {l : Loc} (hl : S.bl id = some l) (hw : l.rw = true) (hh : S.hot l.b) (hid : id < S.n) {ver : Nat} (hv : l.ver < ver) (o : Obj) (bs : Nat) : Ext S (S.bumped id l ver o bs) where
  size := by simp [Real.bumped]
  n := Nat.le_refl _
  keep b hb hn := by
    refine World.putObj_heap_other ?_
    intro e
    subst e
    exact hn ⟨hh, id, l, hl, rfl, hw⟩
  hot1 b hb h := h
  hot2 b h _ := h
  live i l' hi hl' := by
    simp only [Real.bumped, setf] at hl'
    split at hl'
    · rename_i e; subst e
      injection hl' with hl'; subst hl'
      exact ⟨l, hl, .inr ⟨hv, hw, .inl rfl⟩⟩
    · exact ⟨l', hl', .inl rfl⟩
  new i l' hi hl' := by
    simp only [Real.bumped, setf] at hl'
    split at hl'
    · omega
    · rw [h.out i hi] at hl'; cases hl'
  os := rfl
  tape := rfl
  output := rfl
  hlt := h.hlt
theorem bumped_SR {S : Real} {st : Store} (h : SR S st) {id : Nat} {l : Loc} (hl : S.bl id = some l) (hw : l.rw = true) (hh : S.hot l.b) (hid : id < S.n) {ver : Nat} (hv : l.ver < ver) (o : Obj) (blk : Blk)
    (bs : Nat) (hb : RB (S.bumped id l ver o bs) id blk) : SR (S.bumped id l ver o bs) (st.set id blk) where
  glob := GR_mono (bumped_ext h hl hw hh hid hv o bs).w h.glob
  len := by simp [Real.bumped, h.len]
  blk i b hi := by
    rw [List.getElem?_set] at hi
    by_cases e : id = i
    · subst e
      rw [← h.len] at hi
      simp [hid] at hi
      subst hi
      exact hb
    · simp only [e, if_false] at hi
      refine RB_mono (bumped_ext h hl hw hh hid hv o bs) ?_ (fun m hm => ⟨?_, Iff.rfl⟩) (h.blk i b hi)
      · simp only [Real.bumped, setf]; rw [if_neg (fun x => e x.symm)]
      · refine World.putObj_heap_other (fun he => e ?_)
        exact (h.inj i id m l hm hl he).symm
  out i hi := by
    simp only [Real.bumped, setf]
    rw [if_neg (by simp only [Real.bumped] at hi; omega)]
    exact h.out i hi
  inj i j l' m hi hj hb := by
    simp only [Real.bumped, setf] at hi hj
    split at hi <;> split at hj
    · rename_i e1 e2; rw [e1, e2]
    · rename_i e1 e2
      injection hi with hi; subst hi
      exact absurd (h.inj j id m l hj hl hb.symm) e2
    · rename_i e1 e2
      injection hj with hj; subst hj
      exact absurd (h.inj i id l' l hi hl hb) e1
    · exact h.inj i j l' m hi hj hb
  lt i l' hi := by
    simp only [Real.bumped, World.putObj_size]
    simp only [Real.bumped, setf] at hi
    split at hi
    · injection hi with hi; subst hi; exact h.lt id l hl
    · exact h.lt i l' hi
  hlt b hb := by simpa [Real.bumped] using h.hlt b hb
theorem zeroCells_one {z : Array Value} (h : One z.toList) (n : Nat) : One (Builtin.zeroCells z n).toList := by
  intro v hv
  unfold Builtin.zeroCells at hv
  simp only [Array.toList_map, List.mem_map, Array.toList_range, List.mem_range] at hv
  obtain ⟨i, hi, rfl⟩ := hv
  have hz : 0 < z.size := by
    rcases Nat.eq_zero_or_pos z.size with h | h
    · rw [h] at hi; simp at hi
    · exact h
  have hm : i % z.size < z.size := Nat.mod_lt _ hz
  rw [getElem!_pos z _ hm]
  exact h _ (by simp)
end
section
variable {P : Program}
theorem t2_kind {t2 : TypeId} (h : (isSlice P t2 || isStr P t2) = true) : (∃ e2, P.underlying t2 = some (.slice e2)) ∨ P.underlying t2 = some .string := by
  rw [Bool.or_eq_true] at h
  rcases h with h | h
  · exact .inl (isSlice_some h)
  · exact .inr (isStr_some h)
theorem grow_new {S : Real} {st : Store} (hS : SR S st) {e : TypeId} {sz len cap : Nat} {new : List D} {news rest : List Value} (hr : RL S new news) (h1 : One news) (h2 : One rest) (hc : len ≤ cap) (hsz : cap * sz ≤ (news ++ rest).length) :
    SR (S.drew.push (.cells (news ++ rest).toArray e) (news ++ rest).length) (st ++ [.cells 0 true e new]) ∧ Ext S (S.drew.push (.cells (news ++ rest).toArray e) (news ++ rest).length) ∧
      R (S.drew.push (.cells (news ++ rest).toArray e) (news ++ rest).length) (.osl st.length 0 sz 0 len) (.slice (some ⟨S.w.heap.size, 0, none⟩) len cap) := by
  have hS' := drew_SR hS
  have hE := drew_ext hS
  refine ⟨push_cells hS' e new news rest (RL_mono hE _ _ hr) (One_append.2 ⟨h1, h2⟩), hE.trans (push_ext hS' _ _), ?_⟩
  exact push_osl hS' _ _ _ _ _ hc hsz
theorem zeroCells_len (z : Array Value) (n : Nat) : (Builtin.zeroCells z n).size = n * z.size := by simp [Builtin.zeroCells]
theorem append_sound {S : Real} {st : Store} (hS : SR S st) {t t2 ty : TypeId} {s x : D} {sv xv : Value} (hs : R S s sv) (hx : R S x xv) {d : D} {st' : Store} (h : appendD P st t t2 s x = some (d, st')) :
    DoesV P S (Builtin.append_ #[t, t2] ty #[sv, xv]) st' d := by
  unfold appendD at h
  split at h
  · rename_i e sz by_ he
    obtain ⟨ht, info, hi, hsz, hby⟩ := el_some he
    split at h
    · rename_i hk
      have h2 := t2_kind hk
      split at h
      · rename_i new n hnew hn
        obtain ⟨news, hr, h1, hlen, hfc⟩ := src_sound (P := P) hS hx hnew hn
        have hlo := lenOf_sound (P := P) hx hn S.w
        split at h
        · rename_i h0
          subst h0
          split at h
          · rename_i hsl
            injection h with h; injection h with e1 e2; subst e1; subst e2
            obtain ⟨a, len, cap, rfl, hc⟩ := slNil_slice hs hsl
            refine DoesV.same hS (append_zero ht hi h2 hlo ?_ a len cap hc) hs
            have := hfc S.w (fun _ => rfl) 0 (Nat.zero_le _)
            rw [Nat.zero_mul, List.take_zero] at this
            rw [hsz]
            cases xv <;> simp [Builtin.firstCells, loadCells, loadCellsFrom, Sem.run, pure] at this ⊢
            all_goals first | assumption | (split <;> simp [loadCells, loadCellsFrom, Sem.run, pure]) | skip
          · cases h
        · rename_i h0
          split at h
          · rename_i hcond
            obtain ⟨h1z, hzs⟩ := hcond
            have hzs' : ∃ z, zero P e = some z ∧ z.length = sz := by
              unfold zeroOk at hzs
              split at hzs
              · exact ⟨_, by assumption, by simpa using hzs⟩
              · cases hzs
            obtain ⟨z, hz, hzl⟩ := hzs'
            obtain ⟨i', zv, hi', hzv, hzz⟩ := zero_some hz
            rw [hi] at hi'; injection hi' with hi'; subst hi'
            obtain ⟨zr, zone⟩ := ofVals_R (S := S) hzz
            have hzcs : zv.cells.size = sz := by rw [← hzl, RL_length zr, Array.length_toList]
            have hfull : ∀ w, (∀ a, w.cell? a = S.w.cell? a) → (Builtin.firstCells info.size n xv).run P w = .ok news.toArray w := by
              intro w hw
              have := hfc w hw n (Nat.le_refl _)
              rw [List.take_of_length_le (by rw [hlen]; exact Nat.le_refl _)] at this
              rw [hsz]; exact this
            have hdr : (Builtin.firstCells info.size n xv).run P S.w.drew = .ok news.toArray S.w.drew := hfull _ (fun _ => rfl)
            have fresh : ∀ a, sv = .slice a 0 0 → n * by_ ≤ 70368744177664 ∧ n ≤ 70368744177664 → DoesV P S (Builtin.append_ #[t, t2] ty #[sv, xv]) (st ++ [.cells 0 true e new]) (.osl st.length 0 sz 0 n) := by
              rintro a rfl ⟨hb1, hb2⟩
              have hg := append_grows (ty := ty) ht hi hzv h2 hlo hdr a 0 0 (by omega) (olds := []) (by cases a <;> simp [Builtin.firstCells, loadCells, loadCellsFrom, Sem.run, pure]) (by omega) (by rw [hby, Nat.zero_add]; omega)
              have hge := grownCap_ge S.w (0 + n) 0 e
              rw [Nat.zero_add] at hge hg
              have hrl : (news ++ (Builtin.zeroCells zv.cells (grownCap S.w n 0 e - n)).toList).length = grownCap S.w n 0 e * sz := by
                rw [List.length_append, hlen, Array.length_toList, zeroCells_len, hzcs, ← Nat.add_mul]
                congr 1; omega
              obtain ⟨g1, g2, g3⟩ := grow_new (len := n) (e := e) hS hr h1 (zeroCells_one zone (grownCap S.w n 0 e - n)) hge (Nat.le_of_eq hrl.symm)
              refine ⟨_, _, ?_, g1, g2, g3⟩
              rw [hg]
              simp [Real.push, Real.drew]
            split at h
            · split at h
              · rename_i hb
                injection h with h; injection h with e1 e2; subst e1; subst e2
                simp only [R] at hs
                exact fresh none hs hb
              · cases h
            · split at h
              · rename_i hb
                injection h with h; injection h with e1 e2; subst e1; subst e2
                simp only [R] at hs
                obtain ⟨a, hs⟩ := hs
                exact fresh (some a) hs hb
              · cases h
            · rename_i id ver es off len
              split at h
              · rename_i v tb cs hb
                split at h
                · rename_i hcond
                  obtain ⟨rfl, he0, hle, ht0, hb1, hb2⟩ := hcond
                  have he1 := he0.symm
                  have ht1 := ht0.symm
                  clear he0 ht0
                  subst he1
                  subst ht1
                  injection h with h; injection h with e1 e2; subst e1; subst e2
                  obtain ⟨l, vs0, vs1, vs2, fr, k1, k2, k3, k4, k5, k6, k0, k7, k8⟩ := block_of hS hb
                  obtain ⟨hh, hu⟩ := k8 rfl
                  simp only [R] at hs
                  obtain ⟨a, cap, rfl, hcap, hid, hloc⟩ := hs
                  have hloc := (hloc l k1).2 k2.symm
                  have hcsl := RL_length k5
                  have hnl : news ≠ [] := by
                    intro hx0
                    rw [hx0] at hlen
                    simp only [List.length_nil] at hlen
                    have : 0 < n * sz := Nat.mul_pos (by omega) h1z
                    omega
                  have hidn : id < S.n := hid
                  have hOl : ((vs1.drop off).take (len * sz)).length = len * sz := by simp only [List.length_take, List.length_drop]; omega
                  have hO1 : One ((vs1.drop off).take (len * sz)) := One_take _ (One_drop _ (One_append.1 (One_append.1 k6).2).1)
                  by_cases hroom : len + n ≤ cap
                  ·
                    rcases hloc with ⟨q1, _, q2⟩ | ⟨rfl, hcs⟩
                    · omega
                    have hbig : l.base + off + (len + n) * sz ≤ l.sz := by
                      have := Nat.mul_le_mul_right sz hroom
                      omega
                    have hbig2 : (l.base + off) + len * sz + news.length ≤ (vs0 ++ (vs1 ++ vs2)).length := by
                      rw [k4, hlen]
                      have := Nat.add_mul len n sz
                      omega
                    have hg := append_fits (ty := ty) ht hi h2 hlo (hfull S.w fun _ => rfl) l.b (l.base + off) len cap hroom k3 (by rw [hsz]; exact hbig2) h1 (by rw [k4]; exact hu) hnl
                    rw [hsz, wrV_splice _ _ _ hbig2] at hg
                    have htk : (vs0 ++ (vs1 ++ vs2)).take (l.base + off + len * sz) = (vs0 ++ vs1.take off) ++ (vs1.drop off).take (len * sz) := by
                      rw [List.take_append, List.take_of_length_le (by omega), List.append_assoc]
                      congr 1
                      rw [show l.base + off + len * sz - vs0.length = off + len * sz by omega, List.take_append_of_le_length (by omega), List.take_add]
                    rw [htk] at hg
                    have hform : ((vs0 ++ vs1.take off) ++ (vs1.drop off).take (len * sz)) ++ news ++ (vs0 ++ (vs1 ++ vs2)).drop (l.base + off + len * sz + news.length) =
                        (vs0 ++ vs1.take off) ++ (((vs1.drop off).take (len * sz) ++ news) ++ (vs0 ++ (vs1 ++ vs2)).drop (l.base + off + len * sz + news.length)) := by simp only [List.append_assoc]
                    rw [hform] at hg
                    have hE := bumped_ext hS k1 k7 hh hidn (ver := v + 1) (by omega) (.cells ((vs0 ++ vs1.take off) ++ (((vs1.drop off).take (len * sz) ++ news) ++ (vs0 ++ (vs1 ++ vs2)).drop (l.base + off + len * sz + news.length))).toArray e fr) (l.base + off)
                    refine ⟨_, S.bumped id l (v + 1) (.cells ((vs0 ++ vs1.take off) ++ (((vs1.drop off).take (len * sz) ++ news) ++ (vs0 ++ (vs1 ++ vs2)).drop (l.base + off + len * sz + news.length))).toArray e fr) (l.base + off), hg, bumped_SR hS k1 k7 hh hidn (by omega) _ _ _ ?_, hE, ?_⟩
                    · simp only [RB]
                      refine ⟨⟨v + 1, l.b, l.sz, true, l.base + off, by intro h; omega⟩, vs0 ++ vs1.take off, (vs1.drop off).take (len * sz) ++ news, (vs0 ++ (vs1 ++ vs2)).drop (l.base + off + len * sz + news.length), fr, by simp [Real.bumped, setf], rfl, ?_, ?_, ?_, ?_, ?_, rfl, fun _ => ⟨hh, hu⟩⟩
                      · exact putObj_get (block_lt k3)
                      · simp only [List.length_append, List.length_take, List.length_drop] at k4 hbig2 ⊢
                        omega
                      · exact RL_mono hE _ _ (RL_append (RL_take _ (RL_drop _ k5)) hr)
                      · exact One_append.2 ⟨One_append.2 ⟨(One_append.1 k6).1, One_take _ (One_append.1 (One_append.1 k6).2).1⟩, One_append.2 ⟨One_append.2 ⟨hO1, h1⟩, One_drop _ k6⟩⟩
                      · simp only [List.length_append, List.length_take]; omega
                    · simp only [R]
                      refine ⟨_, cap, rfl, hroom, hidn, fun m hm => ?_⟩
                      simp only [Real.bumped, setf, if_true] at hm
                      injection hm with hm; subst hm
                      exact ⟨Nat.le_refl _, fun _ => .inr ⟨rfl, hcs⟩⟩
                  ·
                    have hold : (Builtin.firstCells info.size len (.slice (some a) len cap)).run P S.w.drew = .ok ((vs1.drop off).take (len * sz)).toArray S.w.drew := by
                      simp only [Builtin.firstCells]
                      have := run_loadCells (P := P) (w := S.w.drew) (a := a) ((vs1.drop off).take (len * sz)) (fun j hj => by
                        rcases hloc with ⟨q1, _, _⟩ | ⟨rfl, hcs⟩
                        · subst q1; simp at hj
                        rw [add_plain]
                        have := at_base k3 (off + j) (by simp at hj; omega)
                        rw [k0, ← Nat.add_assoc] at this
                        have h' : S.w.drew.cell? ⟨l.b, l.base + off + j, none⟩ = S.w.cell? ⟨l.b, l.base + off + j, none⟩ := rfl
                        rw [h', this]; simp)
                      rw [hOl] at this
                      rw [hsz]; exact this
                    have hg := append_grows (ty := ty) ht hi hzv h2 hlo hdr (some a) len cap (by omega) hold (by omega) (by rw [hby]; omega)
                    have hge := grownCap_ge S.w (len + n) cap e
                    have hS' := drew_SR hS
                    have hE0 := drew_ext hS
                    have hrl : ((vs1.drop off).take (len * sz) ++ news ++ (Builtin.zeroCells zv.cells (grownCap S.w (len + n) cap e - (len + n))).toList).length = grownCap S.w (len + n) cap e * sz := by
                      rw [List.length_append, List.length_append, hOl, hlen, show (Builtin.zeroCells zv.cells (grownCap S.w (len + n) cap e - (len + n))).toList.length = (grownCap S.w (len + n) cap e - (len + n)) * sz by rw [Array.length_toList, zeroCells_len, hzcs], ← Nat.add_mul, ← Nat.add_mul]
                      congr 1; omega
                    have hE1 := moved_ext hS' (id := id) (l := l) k1 k7 hidn (ver := v + 1) (by omega) (.cells ((vs1.drop off).take (len * sz) ++ news ++ (Builtin.zeroCells zv.cells (grownCap S.w (len + n) cap e - (len + n))).toList).toArray e) ((vs1.drop off).take (len * sz) ++ news ++ (Builtin.zeroCells zv.cells (grownCap S.w (len + n) cap e - (len + n))).toList).length
                    refine ⟨_, S.drew.moved id (v + 1) (.cells ((vs1.drop off).take (len * sz) ++ news ++ (Builtin.zeroCells zv.cells (grownCap S.w (len + n) cap e - (len + n))).toList).toArray e) ((vs1.drop off).take (len * sz) ++ news ++ (Builtin.zeroCells zv.cells (grownCap S.w (len + n) cap e - (len + n))).toList).length, hg, moved_SR hS' k1 k7 hidn (by omega) _ _ _ ?_, hE0.trans hE1, ?_⟩
                    · simp only [RB]
                      refine ⟨⟨v + 1, S.w.heap.size, _, true, 0, fun _ => rfl⟩, [], (vs1.drop off).take (len * sz) ++ news, (Builtin.zeroCells zv.cells (grownCap S.w (len + n) cap e - (len + n))).toList, (0, 0), by simp [Real.moved, setf]; rfl, rfl, alloc_new _ _, rfl, ?_, ?_, rfl, rfl, fun _ => ⟨.inr rfl, fun off ho => by simp⟩⟩
                      · exact RL_mono (hE0.trans hE1) _ _ (RL_append (RL_take _ (RL_drop _ k5)) hr)
                      · exact One_append.2 ⟨(fun v hv => absurd hv (by simp) : One []), One_append.2 ⟨One_append.2 ⟨hO1, h1⟩, zeroCells_one zone _⟩⟩
                    · simp only [R]
                      refine ⟨_, _, rfl, hge, hidn, fun m hm => ?_⟩
                      simp only [Real.moved, setf, if_true] at hm
                      injection hm with hm; subst hm
                      exact ⟨Nat.le_refl _, fun _ => .inr ⟨rfl, by simp only [Nat.zero_add]; exact Nat.le_of_eq hrl.symm⟩⟩
                · cases h
              · cases h
            · cases h
          · cases h
      · cases h
    · cases h
  · cases h
theorem copy_sound {S : Real} {st : Store} (hS : SR S st) {t ty : TypeId} {ts : Array TypeId} {d x r : D} {dv xv : Value} (htt : ts[0]? = some t) (hd : R S d dv) (hx : R S x xv) {st' : Store} (h : copyD P st t d x = some (r, st')) :
    DoesV P S (Builtin.copy_ ts ty #[dv, xv]) st' r := by
  unfold copyD at h
  split at h
  · rename_i e sz by_ he
    obtain ⟨ht, info, hi, hsz, hby⟩ := el_some he
    split at h
    · rename_i new n m hnew hn hm
      obtain ⟨news, hr, h1, hlen, hfc⟩ := src_sound (P := P) hS hx hnew hn
      have hlo := lenOf_sound (P := P) hx hn S.w
      split at h
      · rename_i h0
        split at h
        · rename_i hsl
          injection h with h; injection h with e1 e2; subst e1; subst e2
          obtain ⟨a, len, cap, rfl, hc⟩ := slNil_slice hd hsl
          have hml : len = m := by
            have := lenOf_sound (P := P) hd hm S.w
            simp only [Builtin.lenOf, Sem.run, pure] at this
            injection this
          subst hml
          have hf := hfc S.w (fun _ => rfl) (min n len) (Nat.min_le_left _ _)
          rw [h0, Nat.zero_mul, List.take_zero] at hf
          refine DoesV.same hS (v := .int .i64 0) ?_ (by simp only [R])
          have hmin : Nat.min n len = 0 := h0
          cases a <;> simp [Builtin.copy_, htt, Sem.run_bind, run_und ht, Result.andThen, hlo, hmin, run_size hi, hsz, hf, Sem.run, pure, storeCells, goInt]
        · cases h
      · rename_i h0
        split at h
        · rename_i id ver es off len
          split at h
          · rename_i v tb cs hb
            split at h
            · rename_i hcond
              obtain ⟨rfl, he0, hle⟩ := hcond
              have he1 := he0.symm
              clear he0
              subst he1
              injection h with h; injection h with e1 e2; subst e1; subst e2
              obtain ⟨l, vs0, vs1, vs2, fr, k1, k2, k3, k4, k5, k6, k0, k7, k8⟩ := block_of hS hb
              obtain ⟨hh, hu⟩ := k8 rfl
              simp only [lenOf] at hm
              injection hm with hm; subst hm
              simp only [R] at hd
              obtain ⟨a, cap, rfl, hcap, hid, hloc⟩ := hd
              have hloc := (hloc l k1).2 k2.symm
              rcases hloc with ⟨hx0, _⟩ | ⟨rfl, hcs⟩
              · exact absurd (by rw [hx0]; exact Nat.min_zero _) h0
              have hcsl := RL_length k5
              have hf := hfc S.w (fun _ => rfl) (min n len) (Nat.min_le_left _ _)
              have hmm : min n len * sz ≤ len * sz := Nat.mul_le_mul_right _ (Nat.min_le_right _ _)
              have hmn : min n len * sz ≤ n * sz := Nat.mul_le_mul_right _ (Nat.min_le_left _ _)
              have hst := run_storeCells (P := P) (b := l.b) (t := tb) (fr := fr) (news.take (min n len * sz)) S.w (vs0 ++ (vs1 ++ vs2)) (l.base + off) 0 k3
                (by simp only [List.length_append, List.length_take]; omega) (One_take _ h1) (by rw [k4]; exact hu)
              simp only [Nat.add_zero] at hst
              have hnewl := RL_length hr
              have hwr := RL_wr (S := S) off k5 (RL_take (min n len * sz) hr)
              rw [← k0, wrV_mid _ _ _ _ _ (by simp only [List.length_take]; omega), k0] at hst
              obtain ⟨g1, g2⟩ := rewrite_block (vs1' := wrV vs1 off (news.take (min n len * sz))) (cs' := wr cs off (new.take (min n len * sz))) hS hb k1 k2 k3 k4 k6 k0 k7 hh hu (wrV_length _ _ _) hwr (One_wrV off (One_append.1 (One_append.1 k6).2).1 (One_take _ h1))
              have hmin : Nat.min n len = min n len := rfl
              by_cases hne : news.take (min n len * sz) = []
              · rw [if_pos hne] at hst
                have hcn : new.take (min n len * sz) = [] := by
                  have := RL_length (RL_take (min n len * sz) hr)
                  rw [hne] at this
                  exact List.eq_nil_of_length_eq_zero this
                rw [hcn]
                simp only [wr]
                rw [set_same hb]
                refine DoesV.same hS (v := goInt (min n len : Nat)) ?_ (by simp only [R, goInt])
                simp only [Builtin.copy_, htt, List.getElem?_toArray, List.getElem?_cons_zero, List.getElem?_cons_succ, Sem.run_bind, run_und ht, Result.andThen, hlo, hmin, run_size hi, hsz, hf, hst, Sem.run, pure]
              · rw [if_neg hne] at hst
                refine ⟨goInt (min n len : Nat), _, ?_, g1, g2, by simp only [R, goInt]⟩
                simp only [Builtin.copy_, htt, List.getElem?_toArray, List.getElem?_cons_zero, List.getElem?_cons_succ, Sem.run_bind, run_und ht, Result.andThen, hlo, hmin, run_size hi, hsz, hf, hst, Sem.run, pure]
                rfl
            · cases h
          · cases h
        · cases h
    · cases h
  · cases h
theorem undef_R0 (S : Real) : R S (.tup []) (.tuple #[]) := by simp [R, RL]
theorem clear_sound {S : Real} {st : Store} (hS : SR S st) {t ty : TypeId} {ts : Array TypeId} {x r : D} {xv : Value} (htt : ts[0]? = some t) (hx : R S x xv) {st' : Store} (h : clearD P st t x = some (r, st')) :
    DoesV P S (Builtin.clear_ ts ty #[xv]) st' r := by
  unfold clearD at h
  have hu0 : R S (.tup []) (.tuple #[]) := undef_R0 S
  split at h
  · rename_i e sz by_ he
    obtain ⟨ht, info, hi, hsz, hby⟩ := el_some he
    split at h
    · rename_i z hz
      obtain ⟨i', zv, hi', hzv, hzz⟩ := zero_some hz
      rw [hi] at hi'
      injection hi' with hi'; subst hi'
      obtain ⟨z1, z2⟩ := ofVals_R (S := S) hzz
      split at h
      · rename_i hzl
        split at h
        · injection h with h; injection h with e1 e2; subst e1; subst e2
          simp only [R] at hx
          subst hx
          refine DoesV.same hS (v := .tuple #[]) ?_ hu0
          simp [Builtin.clear_, htt, Sem.run_bind, run_und ht, Result.andThen, Sem.run, pure]
        · injection h with h; injection h with e1 e2; subst e1; subst e2
          simp only [R] at hx
          obtain ⟨a, rfl⟩ := hx
          refine DoesV.same hS (v := .tuple #[]) ?_ hu0
          simp [Builtin.clear_, htt, Sem.run_bind, run_und ht, Result.andThen, Sem.run, pure]
        · rename_i id ver es off len
          split at h
          · rename_i v tb cs hb
            split at h
            · rename_i hcond
              obtain ⟨rfl, he0, hle⟩ := hcond
              subst he0
              injection h with h; injection h with e1 e2; subst e1; subst e2
              obtain ⟨l, vs0, vs1, vs2, fr, k1, k2, k3, k4, k5, k6, k0, k7, k8⟩ := block_of hS hb
              obtain ⟨hh, hu⟩ := k8 rfl
              simp only [R] at hx
              obtain ⟨a, cap, rfl, hcap, hid, hloc⟩ := hx
              have hloc := (hloc l k1).2 k2.symm
              by_cases h0 : len = 0
              · subst h0
                simp only [rep, wr]
                rw [set_same hb]
                refine DoesV.same hS (v := .tuple #[]) ?_ hu0
                simp [Builtin.clear_, htt, Sem.run_bind, run_und ht, Result.andThen, Sem.run, pure]
              · rcases hloc with ⟨hx0, _⟩ | ⟨rfl, hcs⟩
                · exact absurd hx0 h0
                have hcsl := RL_length k5
                have hvl : zv.cells.size = es := by rw [← hzl, RL_length z1]; simp
                have hrl := RL_rep z1 len
                have hrO := One_rep z2 len
                have hrep : (Builtin.zeroCells zv.cells len).toList = repV zv.cells.toList len := by
                  unfold Builtin.zeroCells
                  rw [range_rep]
                have hlen : (repV zv.cells.toList len).length = len * es := by rw [repV_length]; simp [hvl]
                have hst := run_storeCells (P := P) (b := l.b) (t := tb) (fr := fr) (repV zv.cells.toList len) S.w (vs0 ++ (vs1 ++ vs2)) (l.base + off) 0 k3
                  (by simp only [List.length_append]; omega) hrO (by rw [k4]; exact hu)
                simp only [Nat.add_zero] at hst
                rw [← k0, wrV_mid _ _ _ _ _ (by omega), k0] at hst
                obtain ⟨g1, g2⟩ := rewrite_block (vs1' := wrV vs1 off (repV zv.cells.toList len)) (cs' := wr cs off (rep z len)) hS hb k1 k2 k3 k4 k6 k0 k7 hh hu (wrV_length _ _ _) (RL_wr (S := S) off k5 hrl) (One_wrV off (One_append.1 (One_append.1 k6).2).1 hrO)
                obtain ⟨m, rfl⟩ : ∃ m, len = m + 1 := ⟨len - 1, by omega⟩
                by_cases hne : repV zv.cells.toList (m + 1) = []
                · rw [if_pos hne] at hst
                  have hcn : rep z (m + 1) = [] := by
                    have := RL_length hrl
                    rw [hne] at this
                    exact List.eq_nil_of_length_eq_zero this
                  rw [hcn]
                  simp only [wr]
                  rw [set_same hb]
                  refine DoesV.same hS (v := .tuple #[]) ?_ hu0
                  simp only [Builtin.clear_, htt, List.getElem?_toArray, List.getElem?_cons_zero, Sem.run_bind, run_und ht, Result.andThen, run_zero hi hzv, hrep, hst, Sem.run, pure]
                · rw [if_neg hne] at hst
                  refine ⟨.tuple #[], _, ?_, g1, g2, undef_R0 _⟩
                  simp only [Builtin.clear_, htt, List.getElem?_toArray, List.getElem?_cons_zero, Sem.run_bind, run_und ht, Result.andThen, run_zero hi hzv, hrep, hst, Sem.run, pure]
                  rfl
            · cases h
          · cases h
        · cases h
      · cases h
    · cases h
  · cases h
end
section
mutual
def refs : D → List Nat
  | .ptr id _ _ => [id]
  | .osl id _ _ _ _ => [id]
  | .yld id => [id]
  | .fptr cs _ => refsL cs
  | .fsl _ cs => refsL cs
  | .fn _ cs => refsL cs
  | .iface _ d => refs d
  | .agg cs => refsL cs
  | .tup cs => refsL cs
  | _ => []
def refsL : List D → List Nat
  | [] => []
  | d :: ds => refs d ++ refsL ds
end
mutual
def ren (f : Nat → Option Nat) : D → Option D
  | .bool b => some (.bool b)
  | .int k n => some (.int k n)
  | .str s => some (.str s)
  | .nilp => some .nilp
  | .ptr id v o => match f id with
    | some j => some (.ptr j v o)
    | none => none
  | .fptr cs o => match renL f cs with
    | some l => some (.fptr l o)
    | none => none
  | .nils => some .nils
  | .zsl => some .zsl
  | .osl id v e o n => match f id with
    | some j => some (.osl j v e o n)
    | none => none
  | .fsl n cs => match renL f cs with
    | some l => some (.fsl n l)
    | none => none
  | .fn g cs => match renL f cs with
    | some l => some (.fn g l)
    | none => none
  | .nilf => some .nilf
  | .yld _ => none
  | .iface t d => match ren f d with
    | some x => some (.iface t x)
    | none => none
  | .nili => some .nili
  | .agg cs => match renL f cs with
    | some l => some (.agg l)
    | none => none
  | .tup cs => match renL f cs with
    | some l => some (.tup l)
    | none => none
def renL (f : Nat → Option Nat) : List D → Option (List D)
  | [] => some []
  | d :: ds => match ren f d, renL f ds with
    | some x, some l => some (x :: l)
    | _, _ => none
end
def renB (ro : Bool) (f : Nat → Option Nat) : Blk → Option Blk
  | .dead => some .dead
  | .cells v rw ty cs => match renL f cs with
    | some l => some (.cells v (rw && !ro) ty l)
    | none => none
  | .iter s p => if ro then none else some (.iter s p)
  | .loop .. => none
def idxOf (m : List Nat) (i : Nat) : Option Nat := m.findIdx? (· == i)
def take (ro : Bool) (st : Store) (f : Nat → Option Nat) : List Nat → Option Store
  | [] => some []
  | i :: m => match st[i]? with
    | some b => match renB ro f b, take ro st f m with
      | some x, some l => some (x :: l)
      | _, _ => none
    | none => none
def refsB : Blk → List Nat
  | .cells _ _ _ cs => refsL cs
  | _ => []
def kids (st : Store) (i : Nat) : List Nat := match st[i]? with
  | some b => refsB b
  | none => []
def reach (st : Store) : Nat → List Nat → List Nat
  | 0, m => m
  | k + 1, m => reach st k (addNew m (m.flatMap (kids st)))
def putBack (st : Store) : List Nat → Store → Store
  | i :: m, b :: l => putBack (st.set i b) m l
  | _, _ => st
def alive : Blk → Bool
  | .dead => false
  | _ => true
def mapO (f : D → Option D) : List D → Option (List D)
  | [] => some []
  | d :: ds => match f d, mapO f ds with
    | some x, some l => some (x :: l)
    | _, _ => none
def fz (st : Store) : Nat → D → Option D
  | 0, _ => none
  | k + 1, d => if (refs d).isEmpty then some d else
    match d with
    | .osl id v e o n => if n = 0 ∧ o ≠ 0 then none else match st[id]? with
      | some (.cells w _ _ cs) => if v = w ∧ o + n * e ≤ cs.length then match mapO (fz st k) ((cs.drop o).take (n * e)) with
          | some l => some (.fsl n l)
          | none => none
        else none
      | _ => none
    | .ptr id v o => match st[id]? with
      | some (.cells w _ _ cs) => if v = w then match mapO (fz st k) cs with
          | some l => some (.fptr l o)
          | none => none
        else none
      | _ => none
    | .agg cs => match mapO (fz st k) cs with
      | some l => some (.agg l)
      | none => none
    | .tup cs => match mapO (fz st k) cs with
      | some l => some (.tup l)
      | none => none
    | .fsl n cs => match mapO (fz st k) cs with
      | some l => some (.fsl n l)
      | none => none
    | .iface t x => match fz st k x with
      | some y => some (.iface t y)
      | none => none
    | _ => none
def givenB (st : Store) (m : List Nat) (i : Nat) : Bool := m.contains i && (match st[i]? with
  | some (.cells _ true _ _) => true
  | _ => false)
def onlyGo (m : List Nat) (st : Store) : Store → Nat → Store
  | [], _ => []
  | b :: l, i => (if givenB st m i then b else .dead) :: onlyGo m st l (i + 1)
def only (m : List Nat) (st : Store) : Store := onlyGo m st st 0
def killGo (m : List Nat) (st : Store) : Store → Nat → Store
  | [], _ => []
  | b :: l, i => (if givenB st m i then .dead else b) :: killGo m st l (i + 1)
def kill (m : List Nat) (st : Store) : Store := killGo m st st 0
inductive Mode where
  | thread
  | keep
  | frz
  | move
structure Cfg where
  mode : FuncId → Mode
  ro : FuncId → Bool
  ext : FuncId → Option (List D → Store → Option (D × Store))
  fp : FuncId → Option (List D → Store → List Nat)
  fpOk : ∀ f g t, ext f = some g → fp f = some t → ∀ args st d st1, g args st = some (d, st1) → ∀ i, i < st.length → i ∉ t args st → st1[i]? = st[i]?
inductive Out where
  | norm
  | ret
  | exit (id : Nat)
def frOf (args : List D) : Fr := fun i => match args[i]? with | some d => d | none => .undef
def wantedM (ops : Array Oper) (fr : Fr) (o : Oper) : Bool :=
  match o.guard with
  | none => true
  | some (j, b) => match (ops[j]?).bind (·.dst) with
    | some d => match fr d with
      | .bool b' => b' == b
      | _ => false
    | none => false
def runL (f : Oper → Fr → Store → Option (D × Store)) (ops : Array Oper) : List Oper → Fr → Store → Option (Fr × Store)
  | [], fr, st => some (fr, st)
  | o :: rest, fr, st =>
    if wantedM ops fr o then
      match f o fr st with
      | some (d, st') => runL f ops rest (put fr o.dst d) st'
      | none => none
    else runL f ops rest (put fr o.dst .undef) st
inductive Fp where
  | non
  | free
  | read (i : Option Nat)
  | touch (is : List Nat) (n : Nat)
  | top
def fpOk : Fp → Fp → Bool
  | .non, _ => true
  | _, .non => true
  | .free, _ => true
  | _, .free => true
  | .read none, .touch _ _ => true
  | .read (some i), .touch is n => decide (i < n) && !is.contains i
  | .touch _ _, .read none => true
  | .touch is n, .read (some i) => decide (i < n) && !is.contains i
  | _, _ => false
def fpOf (C : Cfg) (o : Oper) (fr : Fr) (st : Store) : Fp :=
  match o.op with
  | .load _ x => match rd fr x with
    | some (.ptr i _ _) => .read (some i)
    | some (.fptr ..) => .read none
    | _ => .top
  | .convert _ _ x => match rd fr x with
    | some (.osl i _ _ _ _) => .read (some i)
    | some _ => .read none
    | none => .top
  | .store _ x _ => match rd fr x with
    | some (.ptr i _ _) => .touch [i] st.length
    | _ => .top
  | .alloc _ | .box .. | .buildSlice .. | .makeSlice .. | .range .. => .touch [] st.length
  | .next x _ => match rd fr x with
    | some (.ptr i _ _) => .touch [i] st.length
    | _ => .top
  | .call c => match c.callee with
    | .builtin .append | .builtin .copy => match rds fr c.args.toList with
      | some (.osl i _ _ _ _ :: _) => .touch [i] st.length
      | some _ => .touch [] st.length
      | none => .top
    | .value f => match rd fr f, rds fr c.args.toList with
      | some (.fn g caps), some ds => match C.ext g, C.mode g with
        | none, .frz => .free
        | none, .keep => if C.ro g then .touch [] st.length else .touch (reach st 6 (addNew [] (refsL (ds ++ caps)))) st.length
        | some _, _ => match C.fp g with
          | some t => .touch (t (ds ++ caps) st) st.length
          | none => .top
        | _, _ => .top
      | _, _ => .top
    | _ => .top
  | _ => .top
def runT (f : Oper → Fr → Store → Option (D × Store)) (g : Oper → Fr → Store → Fp) (ops : Array Oper) : List Oper → Fr → Store → Option (Fr × Store × List Fp)
  | [], fr, st => some (fr, st, [])
  | o :: rest, fr, st =>
    if wantedM ops fr o then
      match f o fr st with
      | some (d, st') => match runT f g ops rest (put fr o.dst d) st' with
        | some (fr', st'', tr) => some (fr', st'', g o fr st :: tr)
        | none => none
      | none => none
    else match runT f g ops rest (put fr o.dst .undef) st with
      | some (fr', st'', tr) => some (fr', st'', .non :: tr)
      | none => none
def drawn (f : Oper → Fr → Store → Option (D × Store)) (g : Oper → Fr → Store → Fp) (ops : Array Oper) (fr : Fr) (st : Store) : Option (Fr × Store) :=
  match runT f g ops ops.toList fr st with
  | some (fr', st', tr) => if (conflicts ops).all (fun p => fpOk ((tr[p.1]?).getD .top) ((tr[p.2]?).getD .top)) then some (fr', st') else none
  | none => none
def resOf (P : Program) (fr : Fr) (st : Store) : List ResultVar → Option (List D)
  | [] => some []
  | .tmp t :: rs => match resOf P fr st rs with
    | some l => some (fr t :: l)
    | none => none
  | .cell a t :: rs => match fr a, resOf P fr st rs with
    | .ptr id ver off, some l => match st[id]? with
      | some (.cells v _ _ cs) => if v = ver then (match ld P t cs off with | some d => some (d :: l) | none => none) else none
      | _ => none
    | _, _ => none
def resD (l : List D) : D := match l with | [d] => d | ds => .tup ds
def params (fr : Fr) : List Tmp → List D → Option Fr
  | [], [] => some fr
  | p :: ps, d :: ds => params (upd fr p d) ps ds
  | _, _ => none
def finish (ro : Bool) (st : Store) (m : List Nat) (d : D) (st1 : Store) : Option (D × Store) :=
  let k := m.length
  let m2 := (reach st1 6 (addNew (List.range k) (refs d))).drop k
  let back : Nat → Option Nat := fun i => if i < k then m[i]? else (idxOf m2 i).map (st.length + ·)
  match ren back d, take false st1 back (List.range k), take false st1 back m2 with
  | some d', some old, some new => if ro && !old.all alive then none else some (d', (if ro then st else putBack st m old) ++ new)
  | _, _, _ => none
def popLoop (st : Store) (lid : Nat) : Option (Out × Store) :=
  match st[lid]? with
  | some (.loop s pend fid fr n ps asg body) =>
    match s with
    | .busy => none
    | _ => match pend with
      | none => some (.norm, st.set lid (.loop .exhausted pend fid fr n ps asg body))
      | some .ret => some (.ret, st.set lid (.loop .exhausted pend fid fr n ps asg body))
      | some (.exit id) => some (.exit id, st.set lid (.loop .exhausted pend fid fr n ps asg body))
      | _ => none
  | _ => none
def jumpOf : Out → Option Code
  | .norm => none
  | .ret => some .ret
  | .exit id => some (.exit id)
mutual
def rcode (C : Cfg) (P : Program) : Nat → FuncId → Nat → Code → Fr → Store → Option (Out × Fr × Store)
  | 0, _, _, _, _, _ => none
  | k + 1, fid, n, c, fr, st =>
    match c with
    | .skip => some (.norm, fr, st)
    | .label _ => some (.norm, fr, st)
    | .scope b => rcode C P k fid n b fr st
    | .seq a b => match rcode C P k fid n a fr st with
      | some (.norm, fr, st) => rcode C P k fid n b fr st
      | r => r
    | .cond c a b => match rd fr c with
      | some (.bool true) => rcode C P k fid n a fr st
      | some (.bool false) => rcode C P k fid n b fr st
      | _ => none
    | .block id b => match rcode C P k fid n b fr st with
      | some (.exit i, fr, st) => if i = id then some (.norm, fr, st) else some (.exit i, fr, st)
      | r => r
    | .loop b => match rcode C P k fid n b fr st with
      | some (.norm, fr, st) => rcode C P k fid n (.loop b) fr st
      | r => r
    | .exit id => some (.exit id, fr, st)
    | .ret => some (.ret, fr, st)
    | .region id ops false => match runL (fun o fr st => rop C P k o fr st) ops ops.toList fr st with
      | some (fr, st) => some (.norm, fr, st)
      | none => none
    | .region id ops true => match drawn (fun o fr st => rop C P k o fr st) (fpOf C) ops fr st with
      | some (fr, st) => some (.norm, fr, st)
      | none => none
    | .rangeFunc f ps asg body => match rd fr f with
      | some (.fn g caps) => match rbody C P k g (.yld st.length :: caps) (st ++ [.loop .ready none fid fr n ps asg body]) with
        | some (_, st') => match popLoop st' st.length with
          | some (o, st'') => some (o, fr, st'')
          | none => none
        | none => none
      | _ => none
    | _ => none
def rop (C : Cfg) (P : Program) : Nat → Oper → Fr → Store → Option (D × Store)
  | 0, _, _, _ => none
  | k + 1, o, fr, st =>
    match o.op with
    | .call c => match c.callee with
      | .builtin b => match rds fr c.args.toList with
        | some ds => builtinD P st b c.argTypes.toList ds
        | none => none
      | .value f => match rd fr f, rds fr c.args.toList with
        | some (.fn g caps), some ds => rcall C P k g (ds ++ caps) st
        | some (.yld lid), some ds => ryield C P k lid ds st
        | _, _ => none
      | .invoke _ _ => none
    | op => stepOp P fr st op
def ryield (C : Cfg) (P : Program) : Nat → Nat → List D → Store → Option (D × Store)
  | 0, _, _, _ => none
  | k + 1, lid, ds, st =>
    match st[lid]? with
    | some (.loop .ready _ fid fr n ps asg body) => match params fr ps.toList ds with
      | some fr1 => match rcode C P k fid n asg fr1 st with
        | some (.norm, fr2, st2) => match st2[lid]? with
          | some (.loop .ready q fid' fr' n' ps' asg' body') =>
            match rcode C P k fid n body fr2 (st2.set lid (.loop .busy q fid' fr' n' ps' asg' body')) with
            | some (o, _, st4) => match st4[lid]? with
              | some (.loop _ _ fid4 fr4 n4 ps4 asg4 body4) =>
                some (.bool (jumpOf o).isNone, st4.set lid (.loop (if (jumpOf o).isNone then .ready else .done) (jumpOf o) fid4 fr4 n4 ps4 asg4 body4))
              | _ => none
            | none => none
          | _ => none
        | _ => none
      | none => none
    | _ => none
def rbody (C : Cfg) (P : Program) : Nat → FuncId → List D → Store → Option (D × Store)
  | 0, _, _, _ => none
  | k + 1, f, args, st =>
    match P.funcs[f]? with
    | some fn => match fn.body with
      | some c =>
        if args.length ≤ fn.ntmps then
          match rcode C P k f fn.ntmps c (frOf args) st with
          | some (.norm, fr, st') => match resOf P fr st' fn.results.toList with
            | some l => some (resD l, st')
            | none => none
          | some (.ret, fr, st') => match resOf P fr st' fn.results.toList with
            | some l => some (resD l, st')
            | none => none
          | _ => none
        else none
      | none => none
    | none => none
def rcall (C : Cfg) (P : Program) : Nat → FuncId → List D → Store → Option (D × Store)
  | 0, _, _, _ => none
  | k + 1, f, args, st =>
    match C.ext f with
    | some g => g args st
    | none => match C.mode f with
      | .thread => rbody C P k f args st
      | .frz => if (refsL args).isEmpty then
          match rbody C P k f args [] with
          | some (d, st1) => match fz st1 8 d with
            | some d' => some (d', st)
            | none => none
          | none => none
        else none
      | .move =>
        let m := reach st 6 (addNew [] (refsL args))
        match mapO (fz (only m st) 8) args with
        | some args0 => match rbody C P k f args0 [] with
          | some (d, st1) => match fz st1 8 d with
            | some d' => some (d', kill m st)
            | none => none
          | none => none
        | none => none
      | .keep =>
        let m := reach st 6 (addNew [] (refsL args))
        match renL (idxOf m) args, take (C.ro f) st (idxOf m) m with
        | some args0, some st0 => match rbody C P k f args0 st0 with
          | some (d, st1) => finish (C.ro f) st m d st1
          | none => none
        | _, _ => none
end
end
end Go.Mm
end
section
namespace Go.Mm
section
section
variable {P : Program} {b : Frame} {a : Act} {k : List Item} {cs : List Frame} {w : World} {Q : Exit → Act → World → Prop} {F : Fence} {n : Nat}
theorem stepR_scope {c : Code} : step P (lone (b.atR a (.code (.scope c) :: k)) cs w) = .next (lone (b.atR a (.code c :: .inScope c :: k)) cs w) :=
  step_lone_go (by simp [stepG, stepG.exec, Frame.atR])
theorem stepR_inScope {c : Code} : step P (lone (b.atR a (.inScope c :: k)) cs w) = .next (lone (b.atR a k) cs w) :=
  step_lone_go (by simp [stepG, stepG.exec, Frame.atR])
theorem wpIn_scope {c : Code} (h : c.wpIn F n P (Exit.noGoto Q) a w) : (Code.scope c).wpIn F n P Q a w := by
  intro b k cs hro hb hr
  have h0 : (lone (b.atR a (.code (.scope c) :: k)) cs w).fenced P F := fenced_calm hb hr rfl
  obtain ⟨e, a₁, w₁, hq, harr⟩ := h b (.inScope c :: k) cs hro hb hr
  cases e with
  | normal => exact ⟨.normal, a₁, w₁, hq, .head h0 stepR_scope (StepsIn.trans harr (.one (fenced_calm hb hr rfl) stepR_inScope))⟩
  | exit id =>
    have hx : exitTo id (.inScope c :: k) = exitTo id k := by simp [exitTo]
    exact ⟨.exit id, a₁, w₁, hq, fun k' hk => .head h0 stepR_scope (harr.1 k' (by rw [hx]; exact hk)),
      fun hr' hk => let ⟨k₁, h1, h2⟩ := harr.2 hr' (by rw [hx]; exact hk); ⟨k₁, h1, .head h0 stepR_scope h2⟩⟩
  | goto l => exact hq.elim
  | ret => exact ⟨_, a₁, w₁, hq, .of_steps (.one h0 stepR_scope) harr⟩
  | panic ch => exact ⟨_, a₁, w₁, hq, .of_steps (.one h0 stepR_scope) harr⟩
  | outgrown => exact ⟨_, a₁, w₁, hq, .of_steps (.one h0 stepR_scope) harr⟩
end
end
end Go.Mm
end
