/- A part of the proof of FilesFitCardSaid: M24, M25, M26, M27, M28, M29, M30, M31, M32. -/
import Derived.Test.YtamefnngdhbjiaaGreatDoorFitA2
import Derived.Test.YtamefnngdhbjiaaGreatDoorFitA1
set_option linter.all false
section
namespace Go.Mm
variable [Globs]
section
variable {P : Program}
theorem rd_put {fr : Fr} {dst : Option Tmp} {d : D} {x : Operand} (h : ∀ t, dst = some t → x ≠ .tmp t) : rd (put fr dst d) x = rd fr x := by
  cases dst with
  | none => rfl
  | some t =>
    cases x <;> simp only [rd, put]
    rename_i u
    simp only [upd]
    rw [if_neg (fun e => h t rfl (by rw [e]))]
theorem put_agree {ops : Array Oper} {o : Oper} {fr : Fr} {dst : Option Tmp} {d : D} (h : ∀ t, dst = some t → t ∉ Oper.looksAt ops o) : Agree (put fr dst d) fr o.op := by
  intro x hx
  refine rd_put fun t ht hxt => h t ht ?_
  subst hxt
  exact List.mem_append_left _ (List.mem_filterMap.2 ⟨.tmp t, hx, rfl⟩)
theorem put_wanted {ops : Array Oper} {o : Oper} {fr : Fr} {dst : Option Tmp} {d : D} (h : ∀ t, dst = some t → t ∉ Oper.looksAt ops o) : wantedM ops (put fr dst d) o = wantedM ops fr o := by
  cases dst with
  | none => rfl
  | some t =>
    unfold wantedM
    cases hg : o.guard with
    | none => rfl
    | some jb =>
      obtain ⟨j, b⟩ := jb
      simp only []
      cases hd : (ops[j]?).bind (·.dst) with
      | none => rfl
      | some u =>
        simp only [put, upd]
        rw [if_neg]
        intro e
        refine h t rfl ?_
        unfold Oper.looksAt
        refine List.mem_append_right _ ?_
        simp only [hg, hd, e]
        simp
theorem put_comm {fr : Fr} {x y : Option Tmp} {d e : D} (h : ∀ t, x = some t → y ≠ some t) : put (put fr x d) y e = put (put fr y e) x d := by
  cases x with
  | none => rfl
  | some t =>
    cases y with
    | none => rfl
    | some u =>
      have : u ≠ t := fun hh => h t rfl (by rw [hh])
      funext i
      simp only [put, upd]
      by_cases h1 : i = u <;> by_cases h2 : i = t
      · exact absurd (h1.symm.trans h2) this
      · rw [if_pos h1, if_neg h2, if_pos h1]
      · rw [if_neg h1, if_pos h2, if_pos h2]
      · rw [if_neg h1, if_neg h2, if_neg h2, if_neg h1]
theorem fpOf_pure {C : Cfg} {o : Oper} {fr : Fr} {st : Store} (hk : kind o.op = .pure) : fpOf C o fr st = .top := by
  unfold fpOf
  generalize o.op = op at hk
  cases op <;> simp only [kind, reduceCtorEq] at hk <;> try rfl
  split at hk
  · rename_i hc; simp only [hc]
  · rename_i hc; simp only [hc]
  · rename_i hc; simp only [hc]
  · cases hk
theorem fpOf_non {C : Cfg} {o : Oper} {fr : Fr} {st : Store} : fpOf C o fr st ≠ .non := by
  intro h
  unfold fpOf at h
  generalize o.op = op at h
  cases op <;> simp only [reduceCtorEq] at h
  case call c =>
    cases hc : c.callee with
    | invoke => simp only [hc, reduceCtorEq] at h
    | builtin b =>
      cases b <;> simp only [hc, reduceCtorEq] at h <;> (split at h <;> cases h)
    | value f =>
      simp only [hc] at h
      split at h
      · split at h
        · cases h
        · split at h <;> cases h
        · split at h <;> cases h
        · cases h
      · cases h
  all_goals (split at h <;> cases h)
theorem fpOf_eff {C : Cfg} {o : Oper} {fr : Fr} {st : Store} (hk : kind o.op = .eff) {i : Option Nat} (h : fpOf C o fr st = .read i) : False := by
  unfold fpOf at h
  generalize o.op = op at h hk
  cases op <;> simp only [kind, reduceCtorEq] at h hk
  case call c =>
    cases hc : c.callee with
    | invoke => simp only [hc, reduceCtorEq] at h
    | builtin b =>
      cases b <;> simp only [hc, reduceCtorEq] at h <;> (split at h <;> cases h)
    | value f =>
      simp only [hc] at h
      split at h
      · split at h
        · cases h
        · split at h <;> cases h
        · split at h <;> cases h
        · cases h
      · cases h
  all_goals (split at h <;> cases h)
def stepL (f : Oper → Fr → Store → Option (D × Store)) (g : Oper → Fr → Store → Fp) (ops : Array Oper) (o : Oper) (fr : Fr) (st : Store) : Option (Fr × Store × Fp) :=
  if wantedM ops fr o then
    match f o fr st with
    | some (d, st') => some (put fr o.dst d, st', g o fr st)
    | none => none
  else some (put fr o.dst .undef, st, .non)
theorem runT_cons {f : Oper → Fr → Store → Option (D × Store)} {g : Oper → Fr → Store → Fp} {ops : Array Oper} {o : Oper} {l : List Oper} {fr fr2 : Fr} {st st2 : Store} {tr : List Fp} :
    runT f g ops (o :: l) fr st = some (fr2, st2, tr) ↔ ∃ fr1 st1 a tr', stepL f g ops o fr st = some (fr1, st1, a) ∧ runT f g ops l fr1 st1 = some (fr2, st2, tr') ∧ tr = a :: tr' := by
  unfold stepL
  simp only [runT]
  by_cases hw : wantedM ops fr o = true
  · simp only [hw, if_true]
    cases hf : f o fr st with
    | none => simp
    | some p =>
      obtain ⟨d, st'⟩ := p
      simp only [Option.some.injEq, Prod.mk.injEq]
      constructor
      · intro h
        split at h
        · rename_i a b c hr
          injection h with h; injection h with e1 h; injection h with e2 e3
          subst e1; subst e2; subst e3
          exact ⟨_, _, _, c, ⟨rfl, rfl, rfl⟩, hr, rfl⟩
        · cases h
      · rintro ⟨_, _, _, tr', ⟨rfl, rfl, rfl⟩, hr, rfl⟩
        rw [hr]
  · simp only [hw, if_false, Bool.false_eq_true]
    simp only [Option.some.injEq, Prod.mk.injEq]
    constructor
    · intro h
      split at h
      · rename_i a b c hr
        injection h with h; injection h with e1 h; injection h with e2 e3
        subst e1; subst e2; subst e3
        exact ⟨_, _, _, c, ⟨rfl, rfl, rfl⟩, hr, rfl⟩
      · cases h
    · rintro ⟨_, _, _, tr', ⟨rfl, rfl, rfl⟩, hr, rfl⟩
      rw [hr]
theorem fpOk_read {i : Nat} {b : Fp} (h : fpOk (.read (some i)) b = true) (hb : b ≠ .non) (hf : b ≠ .free) : ∃ is n, b = .touch is n ∧ i < n ∧ i ∉ is := by
  cases b <;> simp only [fpOk, reduceCtorEq, Bool.false_eq_true] at h
  · exact absurd rfl hb
  · exact absurd rfl hf
  · simp only [Bool.and_eq_true, decide_eq_true_eq, Bool.not_eq_true', List.contains_eq_mem, decide_eq_false_iff_not] at h
    exact ⟨_, _, rfl, h.1, h.2⟩
theorem fpOk_touch {i : Nat} {b : Fp} (h : fpOk b (.read (some i)) = true) (hb : b ≠ .non) (hf : b ≠ .free) : ∃ is n, b = .touch is n ∧ i < n ∧ i ∉ is := by
  cases b <;> simp only [fpOk, reduceCtorEq, Bool.false_eq_true] at h
  · exact absurd rfl hb
  · exact absurd rfl hf
  · simp only [Bool.and_eq_true, decide_eq_true_eq, Bool.not_eq_true', List.contains_eq_mem, decide_eq_false_iff_not] at h
    exact ⟨_, _, rfl, h.1, h.2⟩
theorem step_swap {C : Cfg} {k : Nat} {ops : Array Oper} {p o : Oper} (hap : p.apart ops o = true) {fr fr1 fr2 : Fr} {st st1 st2 : Store} {a b : Fp}
    (hfp : clash (kind p.op) (kind o.op) = true → fpOk a b = true)
    (hp : stepL (rop C P k) (fpOf C) ops p fr st = some (fr1, st1, a)) (ho : stepL (rop C P k) (fpOf C) ops o fr1 st1 = some (fr2, st2, b)) :
    ∃ fr1' st1', stepL (rop C P k) (fpOf C) ops o fr st = some (fr1', st1', b) ∧ stepL (rop C P k) (fpOf C) ops p fr1' st1' = some (fr2, st2, a) := by
  obtain ⟨h1, h2, h3⟩ := Oper.apart_spec hap
  unfold stepL at hp ho ⊢
  by_cases hwp : wantedM ops fr p = true
  · rw [if_pos hwp] at hp
    split at hp
    · rename_i d st1' hfp'
      injection hp with hp; injection hp with e1 hp; injection hp with e2 e3
      subst e1; subst e2; subst e3
      rw [put_wanted h1] at ho
      by_cases hwo : wantedM ops fr o = true
      · rw [if_pos hwo] at ho ⊢
        rw [rop_congr (put_agree h1), fpOf_congr (put_agree h1)] at ho
        split at ho
        · rename_i e st2' hfo
          injection ho with ho; injection ho with e1 ho; injection ho with e2 e3
          subst e1; subst e2; subst e3
          have fin : ∀ st', rop C P k o fr st = some (e, st') → fpOf C o fr st = fpOf C o fr st1' → rop C P k p fr st' = some (d, st2') → fpOf C p fr st' = fpOf C p fr st →
              ∃ fr1' st1'', (match rop C P k o fr st with | some (d, st') => some (put fr o.dst d, st', fpOf C o fr st) | none => none) = some (fr1', st1'', fpOf C o fr st1') ∧
              (if wantedM ops fr1' p = true then match rop C P k p fr1' st1'' with | some (d, st') => some (put fr1' p.dst d, st', fpOf C p fr1' st1'') | none => none else some (put fr1' p.dst .undef, st1'', .non)) = some (put (put fr p.dst d) o.dst e, st2', fpOf C p fr st) := by
            intro st' q1 q2 q3 q4
            refine ⟨put fr o.dst e, st', ?_, ?_⟩
            · rw [q1, q2]
            · rw [put_wanted h3, if_pos hwp, rop_congr (put_agree h3), q3, fpOf_congr (put_agree h3), q4, put_comm h2]
          by_cases hpf : fpOf C p fr st = .free
          · obtain ⟨rfl, q⟩ := rop_free hfp' hpf
            obtain ⟨q1, q2⟩ := q st2'
            exact fin _ hfo rfl q1 (by rw [q2, hpf])
          by_cases hof : fpOf C o fr st1' = .free
          · obtain ⟨rfl, q⟩ := rop_free hfo hof
            obtain ⟨q1, q2⟩ := q st
            exact fin _ q1 (by rw [q2, hof]) hfp' rfl
          cases hkp : kind p.op with
          | pure =>
            obtain ⟨rfl, q⟩ := rop_pure hkp hfp'
            exact fin _ hfo rfl (q _) (by rw [fpOf_pure hkp, fpOf_pure hkp])
          | read =>
            obtain ⟨rfl, q⟩ := rop_read hkp hfp'
            cases hko : kind o.op with
            | pure =>
              obtain ⟨rfl, q'⟩ := rop_pure hko hfo
              exact fin _ hfo rfl hfp' rfl
            | read =>
              obtain ⟨rfl, q'⟩ := rop_read hko hfo
              exact fin _ hfo rfl hfp' rfl
            | eff =>
              have hok := hfp (by rw [hkp, hko]; rfl)
              obtain ⟨q1, q2⟩ := q st2' fun i hi => by
                rw [hi] at hok
                obtain ⟨is, n, g1, g2, g3⟩ := fpOk_read hok fpOf_non hof
                exact rop_eff hfo g1 i g2 g3
              exact fin _ hfo rfl q1 q2
          | eff =>
            cases hko : kind o.op with
            | pure =>
              obtain ⟨rfl, q⟩ := rop_pure hko hfo
              exact fin _ (q _) (by rw [fpOf_pure hko, fpOf_pure hko]) hfp' rfl
            | read =>
              obtain ⟨rfl, q⟩ := rop_read hko hfo
              have hok := hfp (by rw [hkp, hko]; rfl)
              obtain ⟨q1, q2⟩ := q st fun i hi => by
                rw [hi] at hok
                obtain ⟨is, n, g1, g2, g3⟩ := fpOk_touch hok fpOf_non hpf
                exact (rop_eff hfp' g1 i g2 g3).symm
              exact fin _ q1 q2 hfp' rfl
            | eff =>
              exfalso
              have hok := hfp (by rw [hkp, hko]; rfl)
              cases ha : fpOf C p fr st <;> cases hb : fpOf C o fr st1' <;> rw [ha, hb] at hok <;> simp only [fpOk, Bool.false_eq_true] at hok <;>
                first | exact fpOf_non ha | exact fpOf_non hb | exact hpf ha | exact hof hb | skip
              all_goals first | exact fpOf_eff hkp ha | exact fpOf_eff hko hb
        · cases ho
      · rw [if_neg hwo] at ho ⊢
        injection ho with ho; injection ho with e1 ho; injection ho with e2 e3
        subst e1; subst e2; subst e3
        refine ⟨_, _, rfl, ?_⟩
        rw [put_wanted h3, if_pos hwp, rop_congr (put_agree h3), hfp', fpOf_congr (put_agree h3), put_comm h2]
    · cases hp
  · rw [if_neg hwp] at hp
    injection hp with hp; injection hp with e1 hp; injection hp with e2 e3
    subst e1; subst e2; subst e3
    rw [put_wanted h1] at ho
    by_cases hwo : wantedM ops fr o = true
    · rw [if_pos hwo] at ho ⊢
      rw [rop_congr (put_agree h1), fpOf_congr (put_agree h1)] at ho
      split at ho
      · rename_i e st2' hfo
        injection ho with ho; injection ho with e1 ho; injection ho with e2 e3
        subst e1; subst e2; subst e3
        refine ⟨put fr o.dst e, _, rfl, ?_⟩
        rw [put_wanted h3, if_neg hwp, put_comm h2]
      · cases ho
    · rw [if_neg hwo] at ho ⊢
      injection ho with ho; injection ho with e1 ho; injection ho with e2 e3
      subst e1; subst e2; subst e3
      refine ⟨_, _, rfl, ?_⟩
      rw [put_wanted h3, if_neg hwp, put_comm h2]
def Free (ops : Array Oper) (fp : Nat → Fp) (i j : Nat) : Prop :=
  ∀ p o, ops[i]? = some p → ops[j]? = some o → p.apart ops o = true ∧ (clash (kind p.op) (kind o.op) = true → fpOk (fp i) (fp j) = true)
def ogets (ops : Array Oper) (l : List Nat) : List Oper := l.map fun i => (ops[i]?).getD default
theorem to_front {C : Cfg} {k : Nat} {ops : Array Oper} {fp : Nat → Fp} {i : Nat} (hi : i < ops.size) {l2 : List Nat} {fr2 : Fr} {st2 : Store} : ∀ (l1 : List Nat) (fr : Fr) (st : Store), (∀ j ∈ l1, j < ops.size ∧ Free ops fp j i) →
    runT (rop C P k) (fpOf C) ops (ogets ops (l1 ++ i :: l2)) fr st = some (fr2, st2, (l1 ++ i :: l2).map fp) →
    runT (rop C P k) (fpOf C) ops (ogets ops (i :: (l1 ++ l2))) fr st = some (fr2, st2, (i :: (l1 ++ l2)).map fp)
  | [], fr, st, _, h => h
  | j :: l1, fr, st, hl, h => by
    simp only [List.cons_append, ogets, List.map_cons] at h
    obtain ⟨fr1, st1, a, tr, hs, hr, he⟩ := runT_cons.1 h
    injection he with e1 e2; subst e2
    have ih := to_front hi l1 fr1 st1 (fun j' hj' => hl j' (List.mem_cons_of_mem _ hj')) hr
    simp only [ogets, List.map_cons] at ih
    obtain ⟨fr1', st1', b, tr', hs', hr', he'⟩ := runT_cons.1 ih
    injection he' with e3 e4; subst e4
    obtain ⟨hj, hf⟩ := hl j (by simp)
    obtain ⟨g1, g3⟩ := hf _ _ (Array.getElem?_eq_getElem hj) (Array.getElem?_eq_getElem hi)
    have ej : (ops[j]?).getD default = ops[j] := by rw [Array.getElem?_eq_getElem hj]; rfl
    have ei : (ops[i]?).getD default = ops[i] := by rw [Array.getElem?_eq_getElem hi]; rfl
    rw [ej] at hs; rw [ei] at hs'
    obtain ⟨fr1'', st1'', q1, q2⟩ := step_swap g1 (fun hc => by rw [← e1, ← e3]; exact g3 hc) hs hs'
    simp only [List.cons_append, ogets, List.map_cons, ei, ej]
    refine runT_cons.2 ⟨_, _, _, _, q1, runT_cons.2 ⟨_, _, _, _, q2, hr', rfl⟩, ?_⟩
    rw [e1, e3]
end
section
variable {P : Program}
theorem addNew_mem {j : Nat} : ∀ {l m : List Nat}, j ∈ addNew m l → j ∈ m ∨ j ∈ l
  | [], m, h => .inl (by simpa [addNew] using h)
  | i :: l, m, h => by
    unfold addNew at h
    split at h
    · exact (addNew_mem h).imp id (List.mem_cons_of_mem _)
    · rcases addNew_mem h with h | h
      · rcases List.mem_append.1 h with h | h
        · exact .inl h
        · simp at h; exact .inr (by simp [h])
      · exact .inr (List.mem_cons_of_mem _ h)
theorem ancsOf_mem {ms : List (List Nat)} {j : Nat} : ∀ {es : List Edge} {acc : List Nat}, j ∈ ancsOf ms es acc → j ∈ acc ∨ ∃ e ∈ es, Region.binds .any e = true ∧ (j = e.on ∨ j ∈ (ms[e.on]?).getD [])
  | [], acc, h => .inl (by simpa [ancsOf] using h)
  | e :: es, acc, h => by
    unfold ancsOf at h
    rcases ancsOf_mem h with h | ⟨e', h1, h2⟩
    · split at h
      · rename_i hb
        rcases addNew_mem h with h | h
        · exact .inl h
        · refine .inr ⟨e, by simp, hb, ?_⟩
          simpa using h
      · exact .inl h
    · exact .inr ⟨e', List.mem_cons_of_mem _ h1, h2⟩
def Closed (ops : List Oper) (L : Nat → Prop) : Prop := ∀ (i : Nat) (o : Oper), ops[i]? = some o → L i → ∀ e ∈ o.after.toList, Region.binds .any e = true → L e.on
def AncOk (ops : List Oper) (ms : List (List Nat)) : Prop :=
  ∀ (i : Nat) (l : List Nat), ms[i]? = some l → ∀ L : Nat → Prop, Closed ops L → (∀ o : Oper, ops[i]? = some o → ∀ e ∈ o.after.toList, Region.binds .any e = true → L e.on) → ∀ j ∈ l, L j
theorem ancs_ok (ops : List Oper) : ∀ (l : List Oper) (ms : List (List Nat)) (pre : List Oper), ops = pre ++ l → pre.length = ms.length → AncOk ops ms → AncOk ops (ancs l ms)
  | [], ms, _, _, _, h => h
  | o :: l, ms, pre, he, hl, h => by
    unfold ancs
    refine ancs_ok ops l _ (pre ++ [o]) (by simp [he]) (by simp [hl]) ?_
    intro i li hi L hL hp j hj
    by_cases hlt : i < ms.length
    · rw [List.getElem?_append_left hlt] at hi
      exact h i li hi L hL hp j hj
    · rw [List.getElem?_append_right (by omega)] at hi
      have hi0 : i = ms.length := by
        have := (List.getElem?_eq_some_iff.1 hi).1
        simp at this; omega
      subst hi0
      simp at hi
      subst hi
      have ho : ops[ms.length]? = some o := by rw [he, List.getElem?_append_right (by omega), hl]; simp
      rcases ancsOf_mem hj with hj | ⟨e, h1, h2, h3⟩
      · simp at hj
      · have hLe := hp o ho e h1 h2
        rcases h3 with rfl | h3
        · exact hLe
        · cases hms : ms[e.on]? with
          | none => rw [hms] at h3; simp at h3
          | some le =>
            rw [hms] at h3
            exact h e.on le hms L hL (fun o' ho' e' he' hb' => hL e.on o' ho' hLe e' he' hb') j h3
theorem pairsOf_spec {all : Array Oper} {a : List Nat} {x : Oper} : ∀ {l : List Oper} {j : Nat}, pairsOf all a x l j = true → ∀ k y, l[k]? = some y → (j + k ∈ a) ∨ y.apart all x = true
  | [], _, _, k, y, h => by simp at h
  | z :: l, j, h, k, y, hk => by
    unfold pairsOf at h
    simp only [Bool.and_eq_true, Bool.or_eq_true] at h
    cases k with
    | zero =>
      simp at hk; subst hk
      rcases h.1 with h | h
      · exact .inl (by simpa using h)
      · exact .inr h
    | succ k =>
      simp at hk
      have := pairsOf_spec h.2 k y hk
      rw [show j + (k + 1) = j + 1 + k by omega]
      exact this
theorem pairsOk_spec {all : Array Oper} {ops : List Oper} {ms : List (List Nat)} : ∀ {l : List Oper} {i : Nat}, pairsOk all ops ms l i = true → ∀ k x, l[k]? = some x →
    (∀ e ∈ x.after.toList, Region.binds .any e = true → e.on < i + k) ∧ pairsOf all ((ms[i + k]?).getD []) x (ops.take (i + k)) 0 = true
  | [], _, _, k, y, h => by simp at h
  | z :: l, i, h, k, x, hk => by
    unfold pairsOk at h
    simp only [Bool.and_eq_true] at h
    obtain ⟨⟨h1, h2⟩, h3⟩ := h
    cases k with
    | zero =>
      simp at hk; subst hk
      refine ⟨fun e he hb => ?_, h2⟩
      have := List.all_eq_true.1 h1 e he
      simpa [hb] using this
    | succ k =>
      simp at hk
      have := pairsOk_spec h3 k x hk
      rw [show i + (k + 1) = i + 1 + k by omega]
      exact this
theorem conflOf_mem {a : List Nat} {x y : Oper} : ∀ {l : List Oper} {j : Nat} (k : Nat), l[k]? = some y → j + k ∉ a → clash (kind y.op) (kind x.op) = true → j + k ∈ conflOf a x l j
  | [], _, k, h, _, _ => by simp at h
  | z :: l, j, k, hk, hn, hc => by
    unfold conflOf
    cases k with
    | zero =>
      simp at hk; subst hk
      rw [if_pos (by simp [hc]; simpa using hn)]
      simp
    | succ k =>
      simp at hk
      have := conflOf_mem (a := a) (x := x) (j := j + 1) k hk (by rw [show j + 1 + k = j + (k + 1) by omega]; exact hn) hc
      rw [show j + (k + 1) = j + 1 + k by omega]
      split
      · exact List.mem_cons_of_mem _ this
      · exact this
theorem confl_mem {ops : List Oper} {ms : List (List Nat)} {x y : Oper} {j : Nat} : ∀ {l : List Oper} {i : Nat} (k : Nat), l[k]? = some x → (ops.take (i + k))[j]? = some y → j ∉ (ms[i + k]?).getD [] →
    clash (kind y.op) (kind x.op) = true → (j, i + k) ∈ confl ops ms l i
  | [], _, k, h, _, _, _ => by simp at h
  | z :: l, i, k, hk, hy, hn, hc => by
    unfold confl
    cases k with
    | zero =>
      simp at hk; subst hk
      refine List.mem_append_left _ (List.mem_map.2 ⟨j, ?_, rfl⟩)
      have := conflOf_mem (a := (ms[i]?).getD []) (j := 0) j hy (by rw [Nat.zero_add]; exact hn) hc
      rwa [Nat.zero_add] at this
    | succ k =>
      simp at hk
      have e : i + (k + 1) = i + 1 + k := by omega
      rw [e] at hy hn ⊢
      exact List.mem_append_right _ (confl_mem k hk hy hn hc)
theorem free_of {ops : Array Oper} (hok : drawnOk ops = true) {fp : Nat → Fp} (hc : ∀ p ∈ conflicts ops, fpOk (fp p.1) (fp p.2) = true) {i j : Nat} (hji : j < i) (hi : i < ops.size)
    {L : Nat → Prop} (hL : Closed ops.toList L) (hp : ∀ o : Oper, ops[i]? = some o → ∀ e ∈ o.after.toList, Region.binds .any e = true → L e.on) (hj : ¬ L j) : Free ops fp j i := by
  intro p o hp' ho'
  have hA : AncOk ops.toList (ancs ops.toList []) := ancs_ok ops.toList ops.toList [] [] rfl rfl (fun i l h => by simp at h)
  have ho : ops.toList[i]? = some o := by simpa using ho'
  have hpl : ops.toList[j]? = some p := by simpa using hp'
  have hspec := (pairsOk_spec hok i o ho).2
  rw [Nat.zero_add] at hspec
  have hnot : j ∉ ((ancs ops.toList [])[i]?).getD [] := by
    intro hm
    cases hx : (ancs ops.toList [])[i]? with
    | none => rw [hx] at hm; simp at hm
    | some l =>
      rw [hx] at hm
      exact hj (hA i l hx L hL (fun o' h' => hp o' (by simpa using h')) j hm)
  have hyt : (ops.toList.take i)[j]? = some p := by rw [List.getElem?_take, if_pos hji]; exact hpl
  rcases pairsOf_spec hspec j p hyt with h | h1
  · rw [Nat.zero_add] at h; exact absurd h hnot
  · refine ⟨h1, fun hcl => ?_⟩
    have := confl_mem (ops := ops.toList) (ms := ancs ops.toList []) (l := ops.toList) (i := 0) (j := j) i ho (by rw [Nat.zero_add]; exact hyt) (by rw [Nat.zero_add]; exact hnot) hcl
    rw [Nat.zero_add] at this
    exact hc (j, i) this
def Listed (listed : Array Bool) (i : Nat) : Prop := listed.getD i false = true
theorem getD_dflt {a : Array Bool} {i : Nat} (h : i < a.size) : a.getD i false = a.getD i true := by
  simp [Array.getD, h]
theorem go_sound {C : Cfg} {k : Nat} {ops : Array Oper} (hok : drawnOk ops = true) {fp : Nat → Fp} (hc : ∀ p ∈ conflicts ops, fpOk (fp p.1) (fp p.2) = true) {fr' : Fr} {st' : Store} :
    ∀ (fuel t : Nat) (listed : Array Bool) (l : List Nat) (fr : Fr) (st : Store), listed.size = ops.size → l.Pairwise (· < ·) → (∀ i, i ∈ l ↔ i < ops.size ∧ listed.getD i true = false) → l.length ≤ fuel →
      Closed ops.toList (Listed listed) → runT (rop C P k) (fpOf C) ops (ogets ops l) fr st = some (fr', st', l.map fp) →
      runL (rop C P k) ops (ogets ops (Region.linearise.go .any ops fuel t listed [])) fr st = some (fr', st') ∧ ∀ i ∈ Region.linearise.go .any ops fuel t listed [], i < ops.size := by
  intro fuel
  induction fuel with
  | zero =>
    intro t listed l fr st _ _ _ hlen _ h
    have : l = [] := List.length_eq_zero_iff.1 (by omega)
    subst this
    simp only [ogets, List.map_nil, runT, Option.some.injEq, Prod.mk.injEq] at h
    obtain ⟨rfl, rfl, _⟩ := h
    simp [Region.linearise.go, ogets, runL]
  | succ fuel ih =>
    intro t listed l fr st hsz hpw hl hlen hcl h
    simp only [Region.linearise.go]
    change runL (rop C P k) ops (ogets ops (match (Region.ready .any ops listed)[t % (Region.ready .any ops listed).length]? with
      | some i => Region.linearise.go .any ops fuel (t / (Region.ready .any ops listed).length) (listed.setIfInBounds i true) [i]
      | none => [].reverse)) fr st = _ ∧ ∀ i ∈ (match (Region.ready .any ops listed)[t % (Region.ready .any ops listed).length]? with
      | some i => Region.linearise.go .any ops fuel (t / (Region.ready .any ops listed).length) (listed.setIfInBounds i true) [i]
      | none => [].reverse), i < ops.size
    cases hi : (Region.ready .any ops listed)[t % (Region.ready .any ops listed).length]? with
    | none =>
      have hnil : Region.ready .any ops listed = [] := by
        cases hr : Region.ready .any ops listed with
        | nil => rfl
        | cons x xs =>
          rw [hr] at hi
          have hlt : t % (x :: xs).length < (x :: xs).length := Nat.mod_lt _ (by simp)
          simp at hi
          simp at hlt
          omega
      have : l = [] := by
        cases l with
        | nil => rfl
        | cons i l =>
          exfalso
          obtain ⟨h1, h2⟩ := (hl i).1 (by simp)
          have : i ∈ Region.ready .any ops listed := by
            refine mem_ready.2 ⟨h2, ops[i], Array.getElem?_eq_getElem h1, fun e he hb => ?_⟩
            have hspec := (pairsOk_spec hok i ops[i] (by simp [h1])).1 e (by simpa using he) hb
            rw [Nat.zero_add] at hspec
            have hlt : e.on < listed.size := by omega
            rw [getD_dflt hlt]
            cases hx : listed.getD e.on true with
            | true => rfl
            | false =>
              have hm := (hl e.on).2 ⟨by omega, hx⟩
              rcases List.mem_cons.1 hm with hm | hm
              · omega
              · have := (List.pairwise_cons.1 hpw).1 e.on hm
                omega
          rw [hnil] at this
          cases this
      subst this
      simp only [ogets, List.map_nil, runT, Option.some.injEq, Prod.mk.injEq] at h
      obtain ⟨rfl, rfl, _⟩ := h
      simp [ogets, runL]
    | some i =>
      simp only []
      have hir := List.mem_of_getElem? hi
      obtain ⟨h1, o, ho, hpre⟩ := mem_ready.1 hir
      have hisz : i < ops.size := (Array.getElem?_eq_some_iff.1 ho).1
      have hil : i ∈ l := (hl i).2 ⟨hisz, h1⟩
      obtain ⟨l1, l2, rfl⟩ := List.append_of_mem hil
      rw [linearise_go_acc, List.reverse_singleton, List.singleton_append]
      have hp1 := List.pairwise_append.1 hpw
      have hfr : ∀ j ∈ l1, j < ops.size ∧ Free ops fp j i := fun j hj => by
        obtain ⟨g1, g2⟩ := (hl j).1 (by simp [hj])
        refine ⟨g1, free_of hok hc (hp1.2.2 j hj i (by simp)) hisz hcl (fun o' ho' e he hb => ?_) ?_⟩
        · rw [ho] at ho'; injection ho' with ho'; subst ho'
          exact hpre e (by simpa using he) hb
        · unfold Listed
          rw [getD_dflt (by omega), g2]; simp
      have hfront := to_front hisz l1 fr st hfr h
      simp only [ogets, List.map_cons] at hfront
      obtain ⟨fr1, st1, a, tr, q1, q2, q3⟩ := runT_cons.1 hfront
      injection q3 with q3 q4; subst q4
      have hpw' : (l1 ++ l2).Pairwise (· < ·) := List.pairwise_append.2 ⟨hp1.1, (List.pairwise_cons.1 hp1.2.1).2, fun x hx y hy => hp1.2.2 x hx y (List.mem_cons_of_mem _ hy)⟩
      have hni : i ∉ l1 ++ l2 := by
        intro hm
        rcases List.mem_append.1 hm with hm | hm
        · have := hp1.2.2 i hm i (by simp); omega
        · have := (List.pairwise_cons.1 hp1.2.1).1 i hm; omega
      have hset : ∀ j d, j ≠ i → (listed.setIfInBounds i true).getD j d = listed.getD j d := fun j d hj => getD_set_ne d (Ne.symm hj)
      have hseti : ∀ d, (listed.setIfInBounds i true).getD i d = true := fun d => by
        have : i < listed.size := by omega
        simp [Array.getD, this]
      have hmem : ∀ j, j ∈ l1 ++ l2 ↔ j < ops.size ∧ (listed.setIfInBounds i true).getD j true = false := by
        intro j
        by_cases hj : j = i
        · subst hj
          rw [hseti]
          simp only [Bool.true_eq_false, and_false, iff_false]
          exact hni
        · rw [hset j true hj, ← hl j]
          simp only [List.mem_append, List.mem_cons]
          constructor
          · rintro (h | h)
            · exact .inl h
            · exact .inr (.inr h)
          · rintro (h | h | h)
            · exact .inl h
            · exact absurd h hj
            · exact .inr h
      have hcl' : Closed ops.toList (Listed (listed.setIfInBounds i true)) := by
        intro j oj hoj hLj e he hb
        unfold Listed at hLj ⊢
        have hold : listed.getD e.on false = true → (listed.setIfInBounds i true).getD e.on false = true := fun h => by
          by_cases hx : e.on = i
          · rw [hx]; exact hseti _
          · rw [hset _ _ hx]; exact h
        by_cases hj : j = i
        · subst hj
          have : oj = o := by
            have := hoj; rw [show ops.toList[j]? = ops[j]? by simp, ho] at this; exact (Option.some.inj this).symm
          subst this
          exact hold (hpre e (by simpa using he) hb)
        · rw [hset j false hj] at hLj
          exact hold (hcl j oj hoj hLj e he hb)
      obtain ⟨r1, r2⟩ := ih (t / (Region.ready .any ops listed).length) (listed.setIfInBounds i true) (l1 ++ l2) fr1 st1 (by simpa using hsz) hpw' hmem (by simp at hlen ⊢; omega) hcl' q2
      refine ⟨?_, fun j hj => ?_⟩
      · simp only [ogets, List.map_cons] at r1 ⊢
        unfold stepL at q1
        simp only [runL]
        split at q1
        · rename_i hw
          rw [if_pos hw]
          split at q1
          · rename_i d st'' hr
            injection q1 with q1; injection q1 with e1 q1; injection q1 with e2 e3
            subst e1; subst e2
            rw [hr]
            exact r1
          · cases q1
        · rename_i hw
          rw [if_neg hw]
          injection q1 with q1; injection q1 with e1 q1; injection q1 with e2 e3
          subst e1; subst e2
          exact r1
      · rcases List.mem_cons.1 hj with rfl | hj
        · exact hisz
        · exact r2 j hj
theorem runT_length {f : Oper → Fr → Store → Option (D × Store)} {g : Oper → Fr → Store → Fp} {ops : Array Oper} : ∀ {l : List Oper} {fr fr' : Fr} {st st' : Store} {tr : List Fp}, runT f g ops l fr st = some (fr', st', tr) → tr.length = l.length
  | [], _, _, _, _, _, h => by simp only [runT, Option.some.injEq, Prod.mk.injEq] at h; obtain ⟨_, _, rfl⟩ := h; rfl
  | o :: l, _, _, _, _, _, h => by
    obtain ⟨_, _, _, tr', _, hr, rfl⟩ := runT_cons.1 h
    simp [runT_length hr]
theorem ogets_range (ops : Array Oper) : ogets ops (List.range ops.size) = ops.toList := by
  unfold ogets
  apply List.ext_getElem?
  intro i
  by_cases hi : i < ops.size
  · simp [List.getElem?_range hi, hi]
  · rw [List.getElem?_eq_none (by simp; omega), List.getElem?_eq_none (by simp; omega)]
theorem drawn_sound {C : Cfg} {k : Nat} {ops : Array Oper} (hok : drawnOk ops = true) {fr fr' : Fr} {st st' : Store} (h : drawn (rop C P k) (fpOf C) ops fr st = some (fr', st')) (t : Nat) :
    runL (rop C P k) ops (ogets ops (Region.linearise .any ops t)) fr st = some (fr', st') ∧ ∀ i ∈ Region.linearise .any ops t, i < ops.size := by
  unfold drawn at h
  split at h
  · rename_i fr1 st1 tr hr
    split at h
    · rename_i hall
      injection h with h; injection h with e1 e2; subst e1; subst e2
      have hlen := runT_length hr
      have htr : (List.range ops.size).map (fun i => (tr[i]?).getD .top) = tr := by
        apply List.ext_getElem?
        intro i
        by_cases hi : i < ops.size
        · have hi' : i < tr.length := by rw [hlen]; simpa using hi
          simp [List.getElem?_range hi, List.getElem?_eq_getElem hi']
        · rw [List.getElem?_eq_none (by simp; omega), List.getElem?_eq_none (by rw [hlen]; simp; omega)]
      unfold Region.linearise
      refine go_sound hok (fp := fun i => (tr[i]?).getD .top) (fun p hp => List.all_eq_true.1 hall p hp) ops.size t _ (List.range ops.size) fr st (by simp) List.pairwise_lt_range ?_ (by simp) ?_ (by rw [ogets_range, htr]; exact hr)
      · intro i
        simp only [List.mem_range]
        constructor
        · intro hi
          exact ⟨hi, by simp [Array.getD, hi]⟩
        · exact fun h => h.1
      · intro i o ho hL
        unfold Listed at hL
        have : i < ops.size := by
          have := (List.getElem?_eq_some_iff.1 ho).1
          simpa using this
        simp [Array.getD, this] at hL
    · cases h
  · cases h
end
section
variable {P : Program}
theorem ops_of {n : Nat} {ops : Array Oper} {f : Oper → Fr → Store → Option (D × Store)} (hf : ∀ o fr st d st', f o fr st = some (d, st') → OpS P n o fr st d st') :
    ∀ (l : List Oper) (fr fr' : Fr) (st st' : Store), runL f ops l fr st = some (fr', st') → OpsS P n ops l fr st fr' st'
  | [], fr, fr', st, st', h => by
    simp only [runL, Option.some.injEq, Prod.mk.injEq] at h
    obtain ⟨rfl, rfl⟩ := h
    exact ops_nil
  | o :: l, fr, fr', st, st', h => by
    simp only [runL] at h
    by_cases hw : wantedM ops fr o = true
    · rw [if_pos hw] at h
      split at h
      · rename_i d st1 hr
        exact ops_cons hw (hf _ _ _ _ _ hr) (ops_of hf l _ _ _ _ h)
      · cases h
    · rw [if_neg hw] at h
      exact ops_skip (by simpa using hw) (ops_of hf l _ _ _ _ h)
theorem code_drawn (hm : P.follows .mixedOrders = true) {C : Cfg} {k n id : Nat} {ops : Array Oper} {fr fr' : Fr} {st st' : Store} (hf : ∀ o fr st d st', rop C P k o fr st = some (d, st') → OpS P n o fr st d st')
    (h : drawn (rop C P k) (fpOf C) ops fr st = some (fr', st')) : CodeS P n (.region id ops true) fr st .norm fr' st' := by
  intro S F m a Q hok hF hS hfr hn
  simp only [codeOk, Bool.and_eq_true] at hok
  refine wpIn_region_draw fun t => ?_
  simp only [Region.schedule, hm, Bool.true_or, if_true]
  obtain ⟨h1, h2⟩ := drawn_sound hok.2 h t
  have hall : (ogets ops (Region.linearise .any ops t)).all (operOk n ops) = true := by
    refine List.all_eq_true.2 fun o ho => ?_
    obtain ⟨i, hi, rfl⟩ := List.mem_map.1 ho
    have hlt := h2 i hi
    refine List.all_eq_true.1 hok.1 _ ?_
    simp [Array.getElem?_eq_getElem hlt]
  have hE := drew_ext hS
  refine ops_of hf _ _ _ _ _ h1 hall S.drew F m a Q _ hF (drew_SR hS) (FrR_mono hE hfr) ?_ fun a' S' g1 g2 g3 g4 => ?_
  · unfold ogets
    rw [List.map_map]
    refine List.map_congr_left fun i hi => ?_
    have hlt := h2 i hi
    simp [Array.getElem?_eq_getElem hlt]
  · exact hn .normal a' S' .norm g1 g2 (hE.trans g3) (DefStep.refl F S a S' a' g4)
def ExtOk (C : Cfg) (P : Program) : Prop := ∀ f g, C.ext f = some g → ∀ args st d st', g args st = some (d, st') → CallS P f args st d st'
theorem main (hm : P.follows .mixedOrders = true) (hfn : P.funcs.toList.all funcOk = true) {C : Cfg} (hx : ExtOk C P) : ∀ k : Nat,
    (∀ fid n c fr st o fr' st', rcode C P k fid n c fr st = some (o, fr', st') → CodeS P n c fr st o fr' st' ∧ ∀ b, c = .loop b → ∃ r, RoundsS P n b fr st o fr' st' r) ∧
    (∀ n o fr st d st', rop C P k o fr st = some (d, st') → OpS P n o fr st d st') ∧
    (∀ lid ds st d st', ryield C P k lid ds st = some (d, st') → YieldS P lid ds st d st') ∧
    (∀ f args st d st', rbody C P k f args st = some (d, st') → BodyS P f args st d st') ∧
    (∀ f args st d st', rcall C P k f args st = some (d, st') → CallS P f args st d st') := by
  intro k
  induction k with
  | zero => refine ⟨?_, ?_, ?_, ?_, ?_⟩ <;> intros <;> simp only [rcode, rop, ryield, rbody, rcall, reduceCtorEq] at *
  | succ k ih =>
    obtain ⟨ihc, iho, ihy, ihb, ihk⟩ := ih
    refine ⟨?_, ?_, ?_, ?_, ?_⟩
    · intro fid n c fr st o fr' st' h
      have key : (∀ b, c ≠ .loop b) → CodeS P n c fr st o fr' st' → CodeS P n c fr st o fr' st' ∧ ∀ b, c = .loop b → ∃ r, RoundsS P n b fr st o fr' st' r :=
        fun h1 h2 => ⟨h2, fun b hb => absurd hb (h1 b)⟩
      cases c
      case skip =>
        simp only [rcode, Option.some.injEq, Prod.mk.injEq] at h
        obtain ⟨rfl, rfl, rfl⟩ := h
        exact key (by simp) fun S F m a Q _ _ hS hf hn => wpIn_skip (hn _ a S .norm hS hf hS.refl (DefStep.refl F S a S a rfl))
      case label l =>
        simp only [rcode, Option.some.injEq, Prod.mk.injEq] at h
        obtain ⟨rfl, rfl, rfl⟩ := h
        exact key (by simp) fun S F m a Q _ _ hS hf hn => wpIn_label (hn _ a S .norm hS hf hS.refl (DefStep.refl F S a S a rfl))
      case scope b =>
        simp only [rcode] at h
        refine key (by simp) fun S F m a Q hok hF hS hf hn => ?_
        simp only [codeOk] at hok
        refine wpIn_scope ((ihc _ _ _ _ _ _ _ _ h).1 S F m a _ hok hF hS hf fun e a' S' ho g1 g2 g3 g4 => ?_)
        cases ho <;> exact hn _ a' S' (by constructor) g1 g2 g3 g4
      case seq x y =>
        simp only [rcode] at h
        refine key (by simp) ?_
        split at h
        · rename_i fr1 st1 hr
          exact code_seq (ihc _ _ _ _ _ _ _ _ hr).1 (ihc _ _ _ _ _ _ _ _ h).1
        · rename_i hne
          exact code_seq_out (fun e => by subst e; exact hne _ _ h) (ihc _ _ _ _ _ _ _ _ h).1
      case cond c x y =>
        simp only [rcode] at h
        refine key (by simp) ?_
        split at h
        · rename_i hr
          exact code_cond hr (by simpa using (ihc _ _ _ _ _ _ _ _ h).1)
        · rename_i hr
          exact code_cond hr (by simpa using (ihc _ _ _ _ _ _ _ _ h).1)
        · cases h
      case block id b =>
        simp only [rcode] at h
        refine key (by simp) ?_
        split at h
        · rename_i i fr1 st1 hr
          split at h
          · rename_i e
            subst e
            injection h with h; injection h with e1 h; injection h with e2 e3
            subst e1; subst e2; subst e3
            exact code_block (ihc _ _ _ _ _ _ _ _ hr).1 (.inl ⟨rfl, rfl⟩)
          · rename_i e
            injection h with h; injection h with e1 h; injection h with e2 e3
            subst e1; subst e2; subst e3
            exact code_block (ihc _ _ _ _ _ _ _ _ hr).1 (.inr ⟨fun hh => by injection hh with hh; exact e hh, rfl⟩)
        · rename_i hne
          exact code_block (ihc _ _ _ _ _ _ _ _ h).1 (.inr ⟨fun hh => by subst hh; exact hne _ _ _ h, rfl⟩)
      case loop b =>
        have : ∃ r, RoundsS P n b fr st o fr' st' r := by
          simp only [rcode] at h
          split at h
          · rename_i fr1 st1 hr
            obtain ⟨r, hr'⟩ := (ihc _ _ _ _ _ _ _ _ h).2 b rfl
            exact ⟨r + 1, round_go (ihc _ _ _ _ _ _ _ _ hr).1 hr'⟩
          · rename_i hne
            exact ⟨1, round_out (r := 0) (fun e => by subst e; exact hne _ _ h) (ihc _ _ _ _ _ _ _ _ h).1⟩
        obtain ⟨r, hr⟩ := this
        exact ⟨code_loop hr, fun b' hb' => by injection hb' with hb'; subst hb'; exact ⟨r, hr⟩⟩
      case exit id =>
        simp only [rcode, Option.some.injEq, Prod.mk.injEq] at h
        obtain ⟨rfl, rfl, rfl⟩ := h
        exact key (by simp) fun S F m a Q _ _ hS hf hn => wpIn_exit (hn _ a S (.exit id) hS hf hS.refl (DefStep.refl F S a S a rfl))
      case ret =>
        simp only [rcode, Option.some.injEq, Prod.mk.injEq] at h
        obtain ⟨rfl, rfl, rfl⟩ := h
        exact key (by simp) fun S F m a Q _ _ hS hf hn => wpIn_ret (hn _ a S .ret hS hf hS.refl (DefStep.refl F S a S a rfl))
      case region id ops dr =>
        refine key (by simp) ?_
        cases dr with
        | false =>
          simp only [rcode] at h
          split at h
          · rename_i fr1 st1 hr
            injection h with h; injection h with e1 h; injection h with e2 e3
            subst e1; subst e2; subst e3
            exact code_region (ops_of (fun o fr st d st' h => iho n o fr st d st' h) _ _ _ _ _ hr)
          · cases h
        | true =>
          simp only [rcode] at h
          split at h
          · rename_i fr1 st1 hr
            injection h with h; injection h with e1 h; injection h with e2 e3
            subst e1; subst e2; subst e3
            exact code_drawn hm (fun o fr st d st' h => iho n o fr st d st' h) hr
          · cases h
      case rangeFunc f ps asg body =>
        refine key (by simp) ?_
        simp only [rcode] at h
        split at h
        · rename_i g caps hg
          split at h
          · rename_i d st1 hb
            split at h
            · rename_i o' st2 hp
              injection h with h; injection h with e1 h; injection h with e2 e3
              subst e1; subst e2; subst e3
              exact code_range hg (ihb _ _ _ _ _ hb) hp
            · cases h
          · cases h
        · cases h
      all_goals (simp only [rcode, reduceCtorEq] at h)
    · intro n o fr st d st' h
      simp only [rop] at h
      split at h
      · rename_i c hop
        split at h
        · rename_i b hc
          split at h
          · rename_i ds hds
            intro ho hnd S F m a next Q hF hS hf hn
            have hargs : ∀ x ∈ c.args.toList, opndOk n x = true := fun x hx => by
              rw [hop] at ho
              exact opOk_mem ho (by simp [Op.operands, Call.operands, hc]; simpa using hx)
            exact wp_value hF hnd (builtin_sound hS hf hop hc hargs hds h) hn
          · cases h
        · rename_i f hc
          split at h
          · rename_i g caps ds hfv hds
            exact op_call hop hc hfv hds (ihk _ _ _ _ _ h)
          · rename_i lid ds hfv hds
            exact op_yield hop hc hfv hds (ihy _ _ _ _ _ h)
          · cases h
        · cases h
      · exact op_plain h
    · intro lid ds st d st' h
      simp only [ryield] at h
      split at h
      · rename_i pend fid fr n ps asg body h0
        split at h
        · rename_i fr1 hp
          split at h
          · rename_i fr2 st2 h1
            split at h
            · rename_i q fid' fr' n' ps' asg' body' h2
              split at h
              · rename_i o fr3 st4 h3
                split at h
                · rename_i s4 q4 fid4 fr4 n4 ps4 asg4 body4 h4
                  injection h with h; injection h with e1 e2
                  subst e1; subst e2
                  exact yield_sound h0 hp (ihc _ _ _ _ _ _ _ _ h1).1 h2 (ihc _ _ _ _ _ _ _ _ h3).1 h4
                · cases h
              · cases h
            · cases h
          · cases h
        · cases h
      · cases h
    · intro f args st d st' h
      simp only [rbody] at h
      split at h
      · rename_i fn hf
        have hok : funcOk fn = true := by
          have hlt := (Array.getElem?_eq_some_iff.1 hf)
          obtain ⟨h1, h2⟩ := hlt
          exact List.all_eq_true.1 hfn fn (by rw [← h2]; simp)
        split at h
        · rename_i c hb
          split at h
          · rename_i hn
            split at h
            · rename_i fr st1 hr
              split at h
              · rename_i l hres
                injection h with h; injection h with e1 e2
                subst e1; subst e2
                exact body_sound hf hb hok hn (.inl rfl) (ihc _ _ _ _ _ _ _ _ hr).1 hres
              · cases h
            · rename_i fr st1 hr
              split at h
              · rename_i l hres
                injection h with h; injection h with e1 e2
                subst e1; subst e2
                exact body_sound hf hb hok hn (.inr rfl) (ihc _ _ _ _ _ _ _ _ hr).1 hres
              · cases h
            · cases h
          · cases h
        · cases h
      · cases h
    · intro f args st d st' h
      simp only [rcall] at h
      split at h
      · rename_i g hg
        exact hx f g hg args st d st' h
      · split at h
        · exact fun S vs hS hr => .inr (ihb _ _ _ _ _ h S vs hS hr)
        · rename_i hmode
          split at h
          · rename_i he
            split at h
            · rename_i d1 st1 hb
              split at h
              · rename_i d' hz
                injection h with h; injection h with e1 e2
                subst e1; subst e2
                exact fun S vs hS hr => .inr (frz_sound (by simpa using he) (ihb _ _ _ _ _ hb) hz S vs hS hr)
              · cases h
            · cases h
          · cases h
        · split at h
          · rename_i args0 ha
            split at h
            · rename_i d1 st1 hb
              split at h
              · rename_i d' hz
                injection h with h; injection h with e1 e2
                subst e1; subst e2
                exact fun S vs hS hr => .inr (move_sound ha (ihb _ _ _ _ _ hb) hz S vs hS hr)
              · cases h
            · cases h
          · cases h
        · split at h
          · rename_i args0 st0 ha ht
            split at h
            · rename_i d1 st1 hb
              exact fun S vs hS hr => .inr (keep_sound rfl ha ht (ihb _ _ _ _ _ hb) h S vs hS hr)
            · cases h
          · cases h
end
section
variable {P : Program}
theorem runL_mono {f f' : Oper → Fr → Store → Option (D × Store)} (hf : ∀ o fr st r, f o fr st = some r → f' o fr st = some r) {ops : Array Oper} : ∀ (l : List Oper) (fr : Fr) (st : Store) (r : Fr × Store), runL f ops l fr st = some r → runL f' ops l fr st = some r
  | [], _, _, _, h => h
  | o :: l, fr, st, r, h => by
    simp only [runL] at h ⊢
    split at h
    · rename_i hw
      rw [if_pos hw]
      split at h
      · rename_i d st' hr
        rw [hf _ _ _ _ hr]
        exact runL_mono hf l _ _ r h
      · cases h
    · rename_i hw
      rw [if_neg hw]
      exact runL_mono hf l _ _ r h
theorem runT_mono {f f' : Oper → Fr → Store → Option (D × Store)} (hf : ∀ o fr st r, f o fr st = some r → f' o fr st = some r) {g : Oper → Fr → Store → Fp} {ops : Array Oper} : ∀ (l : List Oper) (fr : Fr) (st : Store) (r : Fr × Store × List Fp), runT f g ops l fr st = some r → runT f' g ops l fr st = some r
  | [], _, _, _, h => h
  | o :: l, fr, st, (fr2, st2, tr), h => by
    obtain ⟨fr1, st1, a, tr', h1, h2, h3⟩ := runT_cons.1 h
    refine runT_cons.2 ⟨fr1, st1, a, tr', ?_, runT_mono hf l _ _ _ h2, h3⟩
    unfold stepL at h1 ⊢
    split at h1
    · rename_i hw
      rw [if_pos hw]
      split at h1
      · rename_i d st' hr
        rw [hf _ _ _ _ hr]
        exact h1
      · cases h1
    · rename_i hw
      rw [if_neg hw]
      exact h1
theorem drawn_mono {f f' : Oper → Fr → Store → Option (D × Store)} (hf : ∀ o fr st r, f o fr st = some r → f' o fr st = some r) {g : Oper → Fr → Store → Fp} {ops : Array Oper} {fr : Fr} {st : Store} {r : Fr × Store} (h : drawn f g ops fr st = some r) : drawn f' g ops fr st = some r := by
  unfold drawn at h ⊢
  split at h
  · rename_i fr' st' tr hr
    rw [runT_mono hf _ _ _ _ hr]
    exact h
  · cases h
theorem mono (C : Cfg) : ∀ k : Nat,
    (∀ fid n c fr st r, rcode C P k fid n c fr st = some r → rcode C P (k + 1) fid n c fr st = some r) ∧
    (∀ o fr st r, rop C P k o fr st = some r → rop C P (k + 1) o fr st = some r) ∧
    (∀ lid ds st r, ryield C P k lid ds st = some r → ryield C P (k + 1) lid ds st = some r) ∧
    (∀ f args st r, rbody C P k f args st = some r → rbody C P (k + 1) f args st = some r) ∧
    (∀ f args st r, rcall C P k f args st = some r → rcall C P (k + 1) f args st = some r) := by
  intro k
  induction k with
  | zero => refine ⟨?_, ?_, ?_, ?_, ?_⟩ <;> intros <;> simp only [rcode, rop, ryield, rbody, rcall, reduceCtorEq] at *
  | succ k ih =>
    obtain ⟨ihc, iho, ihy, ihb, ihk⟩ := ih
    refine ⟨?_, ?_, ?_, ?_, ?_⟩
    · intro fid n c fr st r h
      cases c
      case seq a b =>
        rw [rcode] at h ⊢
        split at h
        · rename_i fr1 st1 hr
          rw [ihc _ _ _ _ _ _ hr]
          exact ihc _ _ _ _ _ _ h
        · rename_i hne
          rw [ihc _ _ _ _ _ _ h]
          obtain ⟨o, fr1, st1⟩ := r
          cases o <;> first | rfl | exact absurd h (hne _ _)
      case cond c a b =>
        rw [rcode] at h ⊢
        split at h
        · exact ihc _ _ _ _ _ _ h
        · exact ihc _ _ _ _ _ _ h
        · cases h
      case block id b =>
        rw [rcode] at h ⊢
        split at h
        · rename_i i fr1 st1 hr
          rw [ihc _ _ _ _ _ _ hr]
          exact h
        · rename_i hne
          rw [ihc _ _ _ _ _ _ h]
          obtain ⟨o, fr1, st1⟩ := r
          cases o <;> first | rfl | exact absurd h (hne _ _ _)
      case scope b =>
        rw [rcode] at h ⊢
        exact ihc _ _ _ _ _ _ h
      case loop b =>
        rw [rcode] at h ⊢
        split at h
        · rename_i fr1 st1 hr
          rw [ihc _ _ _ _ _ _ hr]
          exact ihc _ _ _ _ _ _ h
        · rename_i hne
          rw [ihc _ _ _ _ _ _ h]
          obtain ⟨o, fr1, st1⟩ := r
          cases o <;> first | rfl | exact absurd h (hne _ _)
      case region id ops dr =>
        cases dr
        · rw [rcode] at h ⊢
          split at h
          · rename_i fr1 st1 hr
            rw [runL_mono (fun o fr st r h => iho o fr st r h) _ _ _ _ hr]
            exact h
          · cases h
        · rw [rcode] at h ⊢
          split at h
          · rename_i fr1 st1 hr
            rw [drawn_mono (fun o fr st r h => iho o fr st r h) hr]
            exact h
          · cases h
      case rangeFunc f ps asg body =>
        rw [rcode] at h ⊢
        split at h
        · rename_i g caps hg
          split at h
          · rename_i d st1 hb
            rw [ihb _ _ _ _ hb]
            exact h
          · cases h
        · cases h
      all_goals first | (simp only [rcode, reduceCtorEq] at h; done) | (simp only [rcode] at h ⊢; exact h)
    · intro o fr st r h
      rw [rop] at h ⊢
      split at h
      · rename_i c hop
        split at h
        · exact h
        · rename_i f hc
          split at h
          · exact ihk _ _ _ _ h
          · exact ihy _ _ _ _ h
          · cases h
        · cases h
      · exact h
    · intro lid ds st r h
      rw [ryield] at h ⊢
      split at h
      · split at h
        · split at h
          · rename_i h1
            rw [ihc _ _ _ _ _ _ h1]
            simp only []
            split at h
            · split at h
              · rename_i h2
                rw [ihc _ _ _ _ _ _ h2]
                exact h
              · cases h
            · cases h
          · cases h
        · cases h
      · cases h
    · intro f args st r h
      rw [rbody] at h ⊢
      split at h
      · split at h
        · split at h
          · rename_i hn
            rw [if_pos hn]
            split at h
            · rename_i hr
              rw [ihc _ _ _ _ _ _ hr]
              exact h
            · rename_i hr
              rw [ihc _ _ _ _ _ _ hr]
              exact h
            · cases h
          · cases h
        · cases h
      · cases h
    · intro f args st r h
      rw [rcall] at h ⊢
      split at h
      · exact h
      · split at h
        · exact ihb _ _ _ _ h
        · split at h
          · rename_i he
            rw [if_pos he]
            split at h
            · rename_i hb
              rw [ihb _ _ _ _ hb]
              exact h
            · cases h
          · cases h
        · simp only [] at h ⊢
          split at h
          · split at h
            · rename_i hb
              rw [ihb _ _ _ _ hb]
              exact h
            · cases h
          · cases h
        · simp only [] at h ⊢
          split at h
          · split at h
            · rename_i hb
              rw [ihb _ _ _ _ hb]
              exact h
            · cases h
          · cases h
theorem upTo {α : Type} {f : Nat → Option α} (h : ∀ k r, f k = some r → f (k + 1) = some r) {k k' : Nat} (hk : k ≤ k') {r : α} (hr : f k = some r) : f k' = some r := by
  induction hk with
  | refl => exact hr
  | step _ ih => exact h _ _ ih
theorem rcode_le {C : Cfg} {k k' : Nat} (hk : k ≤ k') {fid : FuncId} {n : Nat} {c : Code} {fr : Fr} {st : Store} {r : Out × Fr × Store} (h : rcode C P k fid n c fr st = some r) : rcode C P k' fid n c fr st = some r :=
  upTo (f := fun k => rcode C P k fid n c fr st) (fun k r h => (mono C k).1 _ _ _ _ _ _ h) hk h
theorem rop_le {C : Cfg} {k k' : Nat} (hk : k ≤ k') {o : Oper} {fr : Fr} {st : Store} {r : D × Store} (h : rop C P k o fr st = some r) : rop C P k' o fr st = some r :=
  upTo (f := fun k => rop C P k o fr st) (fun k r h => (mono C k).2.1 _ _ _ _ h) hk h
theorem rcall_le {C : Cfg} {k k' : Nat} (hk : k ≤ k') {f : FuncId} {args : List D} {st : Store} {r : D × Store} (h : rcall C P k f args st = some r) : rcall C P k' f args st = some r :=
  upTo (f := fun k => rcall C P k f args st) (fun k r h => (mono C k).2.2.2.2 _ _ _ _ h) hk h
end
section
def wB (x : Option (D × Store)) (K : D → Store → Prop) : Prop := match x with | some (d, st) => K d st | none => False
def wIf (b : Bool) (A B : Prop) : Prop := match b with | true => A | false => B
def wCond (x : Option D) (A B : Prop) : Prop := match x with | some (.bool true) => A | some (.bool false) => B | _ => False
def wSeq (o : Out) (A B : Prop) : Prop := match o with | .norm => A | _ => B
def wRes (x : Option (List D)) (K : D → Prop) : Prop := match x with | some l => K (resD l) | none => False
def wEnd (o : Out) (A : Prop) : Prop := match o with | .exit _ => False | _ => A
def wPop (x : Option (Out × Store)) (K : Out → Store → Prop) : Prop := match x with | some (o, st) => K o st | none => False
def wCall (f : Option D) (ds : Option (List D)) (A : FuncId → List D → Prop) (B : Nat → List D → Prop) : Prop :=
  match f, ds with
  | some (.fn g caps), some ds => A g (ds ++ caps)
  | some (.yld lid), some ds => B lid ds
  | _, _ => False
def wFn (f : Option D) (A : FuncId → List D → Prop) : Prop := match f with | some (.fn g caps) => A g caps | _ => False
def outBlock (id : Nat) : Out → Out
  | .exit i => if i = id then .norm else .exit i
  | o => o
section
variable (C : Cfg) (P : Program)
def CodeW (fid : FuncId) (n : Nat) (c : Code) (fr : Fr) (st : Store) (K : Out → Fr → Store → Prop) : Prop := ∃ k o fr' st', rcode C P k fid n c fr st = some (o, fr', st') ∧ K o fr' st'
def OpW (o : Oper) (fr : Fr) (st : Store) (K : D → Store → Prop) : Prop := ∃ k d st', rop C P k o fr st = some (d, st') ∧ K d st'
def YieldW (lid : Nat) (ds : List D) (st : Store) (K : D → Store → Prop) : Prop := ∃ k d st', ryield C P k lid ds st = some (d, st') ∧ K d st'
def BodyW (f : FuncId) (args : List D) (st : Store) (K : D → Store → Prop) : Prop := ∃ k d st', rbody C P k f args st = some (d, st') ∧ K d st'
def CallW (f : FuncId) (args : List D) (st : Store) (K : D → Store → Prop) : Prop := ∃ k d st', rcall C P k f args st = some (d, st') ∧ K d st'
def wpOp (o : Op) (fr : Fr) (st : Store) (K : D → Store → Prop) : Prop :=
  match o with
  | .call c => match c.callee with
    | .builtin b => wB (match rds fr c.args.toList with | some ds => builtinD P st b c.argTypes.toList ds | none => none) K
    | .value f => wCall (rd fr f) (rds fr c.args.toList) (fun g ds => CallW C P g ds st K) (fun lid ds => YieldW C P lid ds st K)
    | .invoke _ _ => False
  | op => wB (stepOp P fr st op) K
def wpOps (ops : Array Oper) : List Oper → Fr → Store → (Fr → Store → Prop) → Prop
  | [], fr, st, K => K fr st
  | o :: rest, fr, st, K => wIf (wantedM ops fr o) (wpOp C P o.op fr st fun d st' => wpOps ops rest (put fr o.dst d) st' K) (wpOps ops rest (put fr o.dst .undef) st K)
def wpT (ops : Array Oper) : List Oper → Fr → Store → List Fp → (Fr → Store → List Fp → Prop) → Prop
  | [], fr, st, tr, K => K fr st tr
  | o :: rest, fr, st, tr, K => wIf (wantedM ops fr o) (wpOp C P o.op fr st fun d st' => wpT ops rest (put fr o.dst d) st' (tr ++ [fpOf C o fr st]) K) (wpT ops rest (put fr o.dst .undef) st (tr ++ [.non]) K)
def wpC (X : List Nat) (fid : FuncId) (n : Nat) : Code → Fr → Store → (Out → Fr → Store → Prop) → Prop
  | .skip, fr, st, K => K .norm fr st
  | .label _, fr, st, K => K .norm fr st
  | .scope b, fr, st, K => wpC X fid n b fr st K
  | .seq a b, fr, st, K => wpC X fid n a fr st fun o fr st => wSeq o (wpC X fid n b fr st K) (K o fr st)
  | .cond c a b, fr, st, K => wCond (rd fr c) (wpC X fid n a fr st K) (wpC X fid n b fr st K)
  | .block id b, fr, st, K => wpC X fid n b fr st fun o fr st => K (outBlock id o) fr st
  | .loop b, fr, st, K => CodeW C P fid n (.loop b) fr st K
  | .exit id, fr, st, K => K (.exit id) fr st
  | .ret, fr, st, K => K .ret fr st
  | .region id ops dr, fr, st, K => wIf (dr && X.contains id)
      (wpT C P ops ops.toList fr st [] fun fr' st' tr => (conflicts ops).all (fun p => fpOk ((tr[p.1]?).getD .top) ((tr[p.2]?).getD .top)) = true ∧ K .norm fr' st')
      (wpOps C P ops ops.toList fr st fun fr' st' => K .norm fr' st')
  | .rangeFunc f ps asg body, fr, st, K => wFn (rd fr f) fun g caps => BodyW C P g (.yld st.length :: caps) (st ++ [.loop .ready none fid fr n ps asg body]) fun _ st' =>
      wPop (popLoop st' st.length) fun o st'' => K o fr st''
  | _, _, _, _ => False
def xOk (X : List Nat) : Code → Bool
  | .region id ops true => X.contains id || (conflicts ops).isEmpty
  | .seq a b => xOk X a && xOk X b
  | .cond _ a b => xOk X a && xOk X b
  | .block _ b => xOk X b
  | .loop b => xOk X b
  | .scope b => xOk X b
  | .rangeFunc _ _ a b => xOk X a && xOk X b
  | _ => true
end
variable {C : Cfg} {P : Program}
theorem wpOp_sound {o : Oper} {fr : Fr} {st : Store} {K : D → Store → Prop} (h : wpOp C P o.op fr st K) : OpW C P o fr st K := by
  unfold wpOp at h
  unfold OpW
  split at h
  · rename_i c hop
    split at h
    · rename_i b hc
      cases hds : rds fr c.args.toList with
      | none => simp only [hds, wB] at h
      | some ds =>
        simp only [hds] at h
        unfold wB at h
        split at h
        · rename_i d st' hb
          exact ⟨1, d, st', by simp only [rop, hop, hc, hds, hb], h⟩
        · exact h.elim
    · rename_i f hc
      unfold wCall at h
      split at h
      · rename_i g caps ds hf hds
        obtain ⟨k, d, st', hr, hk⟩ := h
        exact ⟨k + 1, d, st', by simp only [rop, hop, hc, hf, hds, hr], hk⟩
      · rename_i lid ds hf hds
        obtain ⟨k, d, st', hr, hk⟩ := h
        exact ⟨k + 1, d, st', by simp only [rop, hop, hc, hf, hds, hr], hk⟩
      · exact h.elim
    · exact h.elim
  · rename_i hne
    unfold wB at h
    split at h
    · rename_i d st' hb
      refine ⟨1, d, st', ?_, h⟩
      rw [rop]
      split
      · rename_i c hc; exact absurd hc (hne c)
      · exact hb
    · exact h.elim
theorem wpOps_sound {ops : Array Oper} : ∀ {l : List Oper} {fr : Fr} {st : Store} {K : Fr → Store → Prop}, wpOps C P ops l fr st K → ∃ k fr' st', runL (rop C P k) ops l fr st = some (fr', st') ∧ K fr' st'
  | [], fr, st, K, h => ⟨0, fr, st, rfl, h⟩
  | o :: l, fr, st, K, h => by
    unfold wpOps wIf at h
    split at h
    · rename_i hw
      obtain ⟨k, d, st', hr, hk⟩ := wpOp_sound h
      obtain ⟨k2, fr2, st2, hr2, hk2⟩ := wpOps_sound hk
      refine ⟨max k k2, fr2, st2, ?_, hk2⟩
      simp only [runL]
      rw [if_pos hw, rop_le (Nat.le_max_left k k2) hr]
      exact runL_mono (fun o fr st r h => rop_le (Nat.le_max_right k k2) h) _ _ _ _ hr2
    · rename_i hw
      obtain ⟨k2, fr2, st2, hr2, hk2⟩ := wpOps_sound h
      refine ⟨k2, fr2, st2, ?_, hk2⟩
      simp only [runL]
      rw [if_neg (by simp [hw])]
      exact hr2
theorem wpT_sound {ops : Array Oper} : ∀ {l : List Oper} {fr : Fr} {st : Store} {tr : List Fp} {K : Fr → Store → List Fp → Prop}, wpT C P ops l fr st tr K →
    ∃ k fr' st' tr', runT (rop C P k) (fpOf C) ops l fr st = some (fr', st', tr') ∧ K fr' st' (tr ++ tr')
  | [], fr, st, tr, K, h => ⟨0, fr, st, [], rfl, by simp only [wpT] at h; simpa using h⟩
  | o :: l, fr, st, tr, K, h => by
    unfold wpT wIf at h
    split at h
    · rename_i hw
      obtain ⟨k, d, st', hr, hk⟩ := wpOp_sound h
      obtain ⟨k2, fr2, st2, tr2, hr2, hk2⟩ := wpT_sound hk
      refine ⟨max k k2, fr2, st2, fpOf C o fr st :: tr2, ?_, by simpa using hk2⟩
      refine runT_cons.2 ⟨_, _, _, _, ?_, runT_mono (fun o fr st r h => rop_le (Nat.le_max_right k k2) h) _ _ _ _ hr2, rfl⟩
      unfold stepL
      rw [if_pos hw, rop_le (Nat.le_max_left k k2) hr]
    · rename_i hw
      obtain ⟨k2, fr2, st2, tr2, hr2, hk2⟩ := wpT_sound h
      refine ⟨k2, fr2, st2, .non :: tr2, ?_, by simpa using hk2⟩
      refine runT_cons.2 ⟨_, _, _, _, ?_, hr2, rfl⟩
      unfold stepL
      rw [if_neg (by simp [hw])]
theorem drawn_free {f : Oper → Fr → Store → Option (D × Store)} {g : Oper → Fr → Store → Fp} {ops : Array Oper} (he : (conflicts ops).isEmpty = true) {fr fr' : Fr} {st st' : Store} (h : runL f ops ops.toList fr st = some (fr', st')) :
    drawn f g ops fr st = some (fr', st') := by
  have key : ∀ (l : List Oper) (fr fr' : Fr) (st st' : Store), runL f ops l fr st = some (fr', st') → ∃ tr, runT f g ops l fr st = some (fr', st', tr) := by
    intro l
    induction l with
    | nil => intro fr fr' st st' h; simp only [runL, Option.some.injEq, Prod.mk.injEq] at h; obtain ⟨rfl, rfl⟩ := h; exact ⟨[], rfl⟩
    | cons o l ih =>
      intro fr fr' st st' h
      simp only [runL] at h
      by_cases hw : wantedM ops fr o = true
      · rw [if_pos hw] at h
        split at h
        · rename_i d st1 hr
          obtain ⟨tr, ht⟩ := ih _ _ _ _ h
          exact ⟨_, runT_cons.2 ⟨_, _, _, _, by unfold stepL; rw [if_pos hw, hr], ht, rfl⟩⟩
        · cases h
      · rw [if_neg hw] at h
        obtain ⟨tr, ht⟩ := ih _ _ _ _ h
        exact ⟨_, runT_cons.2 ⟨_, _, _, _, by unfold stepL; rw [if_neg hw], ht, rfl⟩⟩
  obtain ⟨tr, ht⟩ := key _ _ _ _ _ h
  unfold drawn
  rw [ht]
  have : conflicts ops = [] := by simpa using he
  simp [this]
theorem wpC_sound {X : List Nat} {fid : FuncId} {n : Nat} : ∀ {c : Code} {fr : Fr} {st : Store} {K : Out → Fr → Store → Prop}, xOk X c = true → wpC C P X fid n c fr st K → CodeW C P fid n c fr st K := by
  intro c
  induction c with
  | skip => intro fr st K _ h; exact ⟨1, .norm, fr, st, by simp only [rcode], h⟩
  | seq a b iha ihb =>
    intro fr st K hx h
    simp only [xOk, Bool.and_eq_true] at hx
    obtain ⟨k, o, fr1, st1, hr, hk⟩ := iha hx.1 h
    cases o with
    | norm =>
      obtain ⟨k2, o2, fr2, st2, hr2, hk2⟩ := ihb hx.2 hk
      refine ⟨max k k2 + 1, o2, fr2, st2, ?_, hk2⟩
      rw [rcode, rcode_le (Nat.le_max_left k k2) hr]
      exact rcode_le (Nat.le_max_right k k2) hr2
    | ret => exact ⟨k + 1, _, fr1, st1, by rw [rcode, hr], hk⟩
    | exit i => exact ⟨k + 1, _, fr1, st1, by rw [rcode, hr], hk⟩
  | cond c a b iha ihb =>
    intro fr st K hx h
    simp only [xOk, Bool.and_eq_true] at hx
    unfold wpC wCond at h
    split at h
    · rename_i hc
      obtain ⟨k, o, fr1, st1, hr, hk⟩ := iha hx.1 h
      exact ⟨k + 1, o, fr1, st1, by rw [rcode, hc]; exact hr, hk⟩
    · rename_i hc
      obtain ⟨k, o, fr1, st1, hr, hk⟩ := ihb hx.2 h
      exact ⟨k + 1, o, fr1, st1, by rw [rcode, hc]; exact hr, hk⟩
    · exact h.elim
  | block id b ih =>
    intro fr st K hx h
    obtain ⟨k, o, fr1, st1, hr, hk⟩ := ih (by simpa only [xOk] using hx) h
    cases o with
    | norm => exact ⟨k + 1, _, fr1, st1, by rw [rcode, hr]; rfl, hk⟩
    | ret => exact ⟨k + 1, _, fr1, st1, by rw [rcode, hr]; rfl, hk⟩
    | exit i =>
      simp only [outBlock] at hk
      by_cases e : i = id
      · rw [if_pos e] at hk; exact ⟨k + 1, _, fr1, st1, by rw [rcode, hr]; simp only []; rw [if_pos e], hk⟩
      · rw [if_neg e] at hk; exact ⟨k + 1, _, fr1, st1, by rw [rcode, hr]; simp only []; rw [if_neg e], hk⟩
  | loop b ih => intro fr st K _ h; exact h
  | exit id => intro fr st K _ h; exact ⟨1, _, fr, st, by simp only [rcode], h⟩
  | ret => intro fr st K _ h; exact ⟨1, _, fr, st, by simp only [rcode], h⟩
  | region id ops dr =>
    intro fr st K hx h
    unfold wpC wIf at h
    split at h
    · rename_i hd
      obtain ⟨k, fr', st', tr, hr, hall, hk⟩ := wpT_sound h
      simp only [Bool.and_eq_true] at hd
      rw [hd.1]
      refine ⟨k + 1, .norm, fr', st', ?_, hk⟩
      have : drawn (rop C P k) (fpOf C) ops fr st = some (fr', st') := by
        unfold drawn
        rw [hr]
        simp only []
        rw [if_pos (by simpa using hall)]
      rw [rcode]
      change (match drawn (rop C P k) (fpOf C) ops fr st with | some (fr, st) => some (Out.norm, fr, st) | none => none) = _
      rw [this]
    · rename_i hd
      obtain ⟨k, fr', st', hr, hk⟩ := wpOps_sound h
      refine ⟨k + 1, .norm, fr', st', ?_, hk⟩
      cases dr with
      | false =>
        rw [rcode]
        change (match runL (rop C P k) ops ops.toList fr st with | some (fr, st) => some (Out.norm, fr, st) | none => none) = _
        rw [hr]
      | true =>
        have he : (conflicts ops).isEmpty = true := by
          simp only [Bool.true_and] at hd
          simp only [xOk, hd, Bool.false_or] at hx
          exact hx
        rw [rcode]
        change (match drawn (rop C P k) (fpOf C) ops fr st with | some (fr, st) => some (Out.norm, fr, st) | none => none) = _
        rw [drawn_free he hr]
  | rangeFunc f ps asg body _ _ =>
    intro fr st K _ h
    unfold wpC wFn at h
    split at h
    · rename_i g caps hg
      obtain ⟨k, d, st', hr, hk⟩ := h
      unfold wPop at hk
      split at hk
      · rename_i o st'' hp
        refine ⟨k + 1, o, fr, st'', ?_, hk⟩
        rw [rcode, hg]
        simp only []
        rw [hr]
        simp only []
        rw [hp]
      · exact hk.elim
    · exact h.elim
  | scope b ih =>
    intro fr st K hx h
    obtain ⟨k, o, fr1, st1, hr, hk⟩ := ih (by simpa only [xOk] using hx) h
    exact ⟨k + 1, o, fr1, st1, by rw [rcode]; exact hr, hk⟩
  | label l => intro fr st K _ h; exact ⟨1, .norm, fr, st, by simp only [rcode], h⟩
  | goto l => intro fr st K _ h; exact h.elim
  | refuse w => intro fr st K _ h; exact h.elim
theorem loopW {fid : FuncId} {n : Nat} {b : Code} {fr : Fr} {st : Store} {K : Out → Fr → Store → Prop} (h : CodeW C P fid n b fr st fun o fr st => wSeq o (CodeW C P fid n (.loop b) fr st K) (K o fr st)) : CodeW C P fid n (.loop b) fr st K := by
  obtain ⟨k, o, fr1, st1, hr, hk⟩ := h
  cases o with
  | norm =>
    obtain ⟨k2, o2, fr2, st2, hr2, hk2⟩ := hk
    refine ⟨max k k2 + 1, o2, fr2, st2, ?_, hk2⟩
    rw [rcode, rcode_le (Nat.le_max_left k k2) hr]
    exact rcode_le (Nat.le_max_right k k2) hr2
  | ret => exact ⟨k + 1, _, fr1, st1, by rw [rcode, hr], hk⟩
  | exit i => exact ⟨k + 1, _, fr1, st1, by rw [rcode, hr], hk⟩
theorem call_keep {f : FuncId} (hx : C.ext f = none) (hm : C.mode f = .keep) {args args0 : List D} {st st0 : Store} {m : List Nat} (hmm : reach st 6 (addNew [] (refsL args)) = m) (ha : renL (idxOf m) args = some args0) (ht : take (C.ro f) st (idxOf m) m = some st0)
    {K : D → Store → Prop} (h : BodyW C P f args0 st0 fun d st1 => wB (finish (C.ro f) st m d st1) K) : CallW C P f args st K := by
  obtain ⟨k, d, st', hr, hk⟩ := h
  unfold wB at hk
  split at hk
  · rename_i d' st'' hf
    exact ⟨k + 1, d', st'', by rw [rcall, hx, hm]; simp only [hmm]; rw [ha, ht]; simp only []; rw [hr]; exact hf, hk⟩
  · exact hk.elim
end
section
inductive MI where
  | mv (x : Operand)
  | pick (c a b : Operand)
  | alc (t : TypeId) (z : List D)
  | box (t : TypeId) (x : Operand)
  | bld (z : List D) (ps : List (Nat × Nat × Operand))
  | ldo (x : Operand)
  | lda (n : Nat) (x : Operand)
  | sto (n : Nat) (x v : Operand)
  | fa (g : Nat) (x : Operand)
  | fdo (g : Nat) (x : Operand)
  | fda (g n : Nat) (x : Operand)
  | ias (sz : Nat) (x i : Operand)
  | iaa (n sz : Nat) (x i : Operand)
  | lnT (x : Operand)
  | lnS (x : Operand)
  | app (e : TypeId) (sz bytes : Nat) (s x : Operand)
  | cpy (sz : Nat) (d x : Operand)
  | blt (b : Builtin) (ts : List TypeId) (args : List Operand)
  | bsl (e : TypeId) (sz : Nat) (z : List D) (len : Nat) (ps : List (Nat × Operand))
  | mks (e : TypeId) (sz bytes : Nat) (z : List D) (l c : Operand)
  | slT (x : Operand) (lo hi : Option Operand)
  | slL (sz : Nat) (x : Operand) (lo hi : Option Operand)
  | ixT (x i : Operand)
  | cvI (k : IntKind) (x : Operand)
  | cvB (x : Operand)
  | bin (c : Nat) (op : BinOp) (x y : Operand)
  | un (op : UnOp) (x : Operand)
  | rng (x : Operand)
  | nxt (x : Operand)
  | ext (x : Operand) (i : Nat)
  | nck (x : Operand)
  | fun_ (f : FuncId) (caps : List Operand)
  | oth (o : Op)
inductive MX where
  | i (m : MI)
  | call (f : Operand) (args : List Operand)
  | bad
structure MOp where
  d : Option Tmp
  x : MX
  g : Option (Tmp × Bool)
inductive MC where
  | skip
  | reg (l : List MOp)
  | seq (a b : MC)
  | cond (c : Operand) (a b : MC)
  | block (id : Nat) (b : MC)
  | loop (b : MC)
  | range (f : Operand) (ps : Array Tmp) (asg body : Code)
  | regX (id : Nat) (ops : Array Oper)
  | exit (id : Nat)
  | ret
  | bad
def fill3 : List D → List (Nat × Nat × D) → Option (List D)
  | cells, [] => some cells
  | cells, (off, size, v) :: rest => match v.cells? with
    | some vc => if vc.length = size ∧ off + size ≤ cells.length then fill3 (wr cells off vc) rest else none
    | none => none
def rdp3 (fr : Fr) : List (Nat × Nat × Operand) → Option (List (Nat × Nat × D))
  | [] => some []
  | (o, s, x) :: xs => match rd fr x, rdp3 fr xs with
    | some d, some ds => some ((o, s, d) :: ds)
    | _, _ => none
def rdo (fr : Fr) : Option Operand → Option (Option D)
  | none => some none
  | some x => match rd fr x with
    | some d => some (some d)
    | none => none
def cellsAt (st : Store) : D → Option (List D × Nat)
  | .ptr id ver off => match st[id]? with
    | some (.cells v _ _ cs) => if v = ver then some (cs, off) else none
    | _ => none
  | .fptr cs off => some (cs, off)
  | _ => none
def eqlM (c : Nat) (x y : D) : Option Bool :=
  match x, y with
  | .bool a, .bool b => if c = 1 then some (a == b) else none
  | .nilp, d => if c = 2 then ptrNil d else none
  | d, .nilp => if c = 2 then ptrNil d else none
  | .nils, d => if c = 3 then slNil d else none
  | d, .nils => if c = 3 then slNil d else none
  | .nilf, d => if c = 4 then fnNil d else none
  | d, .nilf => if c = 4 then fnNil d else none
  | _, _ => none
def binM (c : Nat) (op : BinOp) (x y : D) : Option D :=
  match x, y with
  | .int k a, .int k' b => match op with
    | .shl | .shr => shifts op k a b
    | _ => if k = k' then ints op k a b else none
  | .str a, .str b => strs op a b
  | .agg xs, .agg ys => match op with
    | .eql => (eqAgg (c - 10) xs ys).map .bool
    | .neq => (eqAgg (c - 10) xs ys).map fun b => .bool (!b)
    | _ => none
  | x, y => match op with
    | .eql => (eqlM c x y).map .bool
    | .neq => (eqlM c x y).map fun b => .bool (!b)
    | _ => none
def appendM (st : Store) (e : TypeId) (sz bytes : Nat) (s x : D) : Option (D × Store) :=
  match srcCells st sz x, lenOf x with
  | some new, some n =>
    if n = 0 then (if (slNil s).isSome then some (s, st) else none) else
    match s with
    | .nils | .zsl => if n * bytes ≤ 70368744177664 ∧ n ≤ 70368744177664 then some (.osl st.length 0 sz 0 n, st ++ [.cells 0 true e new]) else none
    | .osl id ver es off len => match st[id]? with
      | some (.cells v true ty cs) =>
        if v = ver ∧ es = sz ∧ off + len * sz ≤ cs.length ∧ ty = e ∧ (len + n) * bytes ≤ 70368744177664 ∧ len + n ≤ 70368744177664 then
          some (.osl id (ver + 1) sz 0 (len + n), st.set id (.cells (ver + 1) true e ((cs.drop off).take (len * sz) ++ new)))
        else none
      | _ => none
    | _ => none
  | _, _ => none
def copyM (st : Store) (sz : Nat) (d x : D) : Option (D × Store) :=
  match srcCells st sz x, lenOf x, lenOf d with
  | some new, some n, some m =>
    if min n m = 0 then (if (slNil d).isSome then some (.int .i64 0, st) else none) else
    match d with
    | .osl id ver es off len => match st[id]? with
      | some (.cells v true ty cs) =>
        if v = ver ∧ es = sz ∧ off + len * sz ≤ cs.length then
          some (.int .i64 (min n m : Nat), st.set id (.cells v true ty (wr cs off (new.take (min n m * sz)))))
        else none
      | _ => none
    | _ => none
  | _, _, _ => none
def sliceT (x : D) (lo hi : Option D) : Option D :=
  match x with
  | .str s => match bound hi s.size s.size with
    | some h => match bound lo 0 h with
      | some l => some (.str (s.extract l h))
      | none => none
    | none => none
  | _ => none
def sliceL (sz : Nat) (x : D) (lo hi : Option D) : Option D :=
  match x with
  | .nils => match bound hi 0 0 with
    | some h => match bound lo 0 h with
      | some _ => some .nils
      | none => none
    | none => none
  | .osl id ver esz off len =>
    if sz = esz then
      match bound hi len len with
      | some h => match bound lo 0 h with
        | some l => some (.osl id ver esz (off + l * esz) (h - l))
        | none => none
      | none => none
    else none
  | .fsl len cells => match bound hi len len with
    | some h => match bound lo 0 h with
      | some l => some (.fsl (h - l) ((cells.drop (l * sz)).take ((h - l) * sz)))
      | none => none
    | none => none
  | _ => none
def idxS (sz : Nat) (x i : D) : Option D :=
  match i with
  | .int _ i => match x with
    | .osl id ver esz off len => match idx i len with
      | some j => if sz = esz then some (.ptr id ver (off + j * esz)) else none
      | none => none
    | .fsl len cells => match idx i len with
      | some j => some (.fptr cells (j * sz))
      | none => none
    | _ => none
  | _ => none
def idxA (n sz : Nat) (x i : D) : Option D :=
  match i with
  | .int _ i => match x with
    | .ptr id ver off => match idx i n with
      | some j => some (.ptr id ver (off + j * sz))
      | none => none
    | .fptr cells off => match idx i n with
      | some j => some (.fptr cells (off + j * sz))
      | none => none
    | _ => none
  | _ => none
def idxT (x i : D) : Option D :=
  match i, x with
  | .int _ i, .str s => match idx i s.size with
    | some j => some (.int .u8 (s.data.toList[j]?.getD 0).toNat)
    | none => none
  | _, _ => none
def mi (P : Program) (fr : Fr) (st : Store) : MI → Option (D × Store)
  | .mv x => (rd fr x).map (·, st)
  | .pick c a b => (pickD (rd fr c) (rd fr a) (rd fr b)).map (·, st)
  | .alc t z => some (.ptr st.length 0 0, st ++ [.cells 0 true t z])
  | .box t x => match rd fr x with
    | some d => match d.cells? with
      | some cs => some (.ptr st.length 0 0, st ++ [.cells 0 true t cs])
      | none => none
    | none => none
  | .bld z ps => match rdp3 fr ps with
    | some l => match fill3 z l with
      | some cs => some (.agg cs, st)
      | none => none
    | none => none
  | .ldo x => match rd fr x with
    | some d => match cellsAt st d with
      | some (cs, off) => match cs[off]? with
        | some y => some (y, st)
        | none => none
      | none => none
    | none => none
  | .lda n x => match rd fr x with
    | some d => match cellsAt st d with
      | some (cs, off) => if off + n ≤ cs.length then some (.agg ((cs.drop off).take n), st) else none
      | none => none
    | none => none
  | .sto n x v => match rd fr x, rd fr v with
    | some (.ptr id ver off), some d => match st[id]?, d.cells? with
      | some (.cells w true ty cs), some vc => if w = ver ∧ vc.length = n ∧ off + n ≤ cs.length then some (.undef, st.set id (.cells w true ty (wr cs off vc))) else none
      | _, _ => none
    | _, _ => none
  | .fa g x => match rd fr x with
    | some (.ptr id ver off) => some (.ptr id ver (off + g), st)
    | some (.fptr cs off) => some (.fptr cs (off + g), st)
    | _ => none
  | .fdo g x => match rd fr x with
    | some (.agg cs) => match cs[g]? with
      | some y => some (y, st)
      | none => none
    | _ => none
  | .fda g n x => match rd fr x with
    | some (.agg cs) => if g + n ≤ cs.length then some (.agg ((cs.drop g).take n), st) else none
    | _ => none
  | .ias sz x i => match rd fr x, rd fr i with
    | some a, some b => (idxS sz a b).map (·, st)
    | _, _ => none
  | .iaa n sz x i => match rd fr x, rd fr i with
    | some a, some b => (idxA n sz a b).map (·, st)
    | _, _ => none
  | .lnT x => match rd fr x with
    | some (.str s) => some (.int .i64 s.size, st)
    | _ => none
  | .lnS x => match rd fr x with
    | some .nils => some (.int .i64 0, st)
    | some .zsl => some (.int .i64 0, st)
    | some (.fsl n _) => some (.int .i64 n, st)
    | some (.osl _ _ _ _ n) => some (.int .i64 n, st)
    | _ => none
  | .app e sz bytes s x => match rd fr s, rd fr x with
    | some a, some b => appendM st e sz bytes a b
    | _, _ => none
  | .cpy sz d x => match rd fr d, rd fr x with
    | some a, some b => copyM st sz a b
    | _, _ => none
  | .blt b ts args => match rds fr args with
    | some ds => builtinD P st b ts ds
    | none => none
  | .bsl e sz z len ps => match rdp fr ps with
    | some l => match fillD (fun i => some (i * sz, sz)) (rep z len) l with
      | some cs => some (.osl st.length 0 sz 0 len, st ++ [.cells 0 true e cs])
      | none => none
    | none => none
  | .mks e sz bytes z l c => match rd fr l, rd fr c with
    | some (.int _ n), some (.int _ m) =>
      if n = m ∧ 0 ≤ n ∧ (bytes : Int) * n ≤ 281474976710656 ∧ n ≤ 281474976710656 then some (.osl st.length 0 sz 0 n.toNat, st ++ [.cells 0 true e (rep z n.toNat)]) else none
    | _, _ => none
  | .slT x lo hi => match rd fr x, rdo fr lo, rdo fr hi with
    | some d, some l, some h => (sliceT d l h).map (·, st)
    | _, _, _ => none
  | .slL sz x lo hi => match rd fr x, rdo fr lo, rdo fr hi with
    | some d, some l, some h => (sliceL sz d l h).map (·, st)
    | _, _, _ => none
  | .ixT x i => match rd fr x, rd fr i with
    | some a, some b => (idxT a b).map (·, st)
    | _, _ => none
  | .cvI k x => match rd fr x with
    | some (.int _ n) => some (.int k (k.wrap n), st)
    | _ => none
  | .cvB x => match rd fr x with
    | some d => match cellsOf st 1 d with
      | some cs => match bytesOf cs with
        | some l => some (.str ⟨l.toArray⟩, st)
        | none => none
      | none => none
    | none => none
  | .bin c op x y => match rd fr x, rd fr y with
    | some a, some b => (binM c op a b).map (·, st)
    | _, _ => none
  | .un op x => match rd fr x with
    | some a => (un op a).map (·, st)
    | none => none
  | .rng x => match rd fr x with
    | some (.str s) => some (.ptr st.length 0 0, st ++ [.iter s 0])
    | _ => none
  | .nxt x => match rd fr x with
    | some (.ptr id 0 0) => match st[id]? with
      | some (.iter s pos) =>
        if pos < s.size then
          some (.tup [.bool true, .int .i64 pos, .int .i32 (Utf8.decode s pos).1], st.set id (.iter s (pos + (Utf8.decode s pos).2)))
        else some (.tup [.bool false], st)
      | _ => none
    | _ => none
  | .ext x i => match rd fr x with
    | some (.tup ds) => match ds[i]? with
      | some y => some (y, st)
      | none => none
    | _ => none
  | .nck x => match rd fr x with
    | some (.ptr id ver off) => some (.ptr id ver off, st)
    | some (.fptr cs off) => some (.fptr cs off, st)
    | some (.fn f c) => some (.fn f c, st)
    | some (.yld id) => some (.yld id, st)
    | _ => none
  | .fun_ f caps => match rds fr caps with
    | some ds => some (.fn f ds, st)
    | none => none
  | .oth o => stepOp P fr st o
def parts3 (P : Program) (t : TypeId) : List (Nat × Operand) → Option (List (Nat × Nat × Operand))
  | [] => some []
  | (i, x) :: l => match places P t i, parts3 P t l with
    | some (o, s), some r => some ((o, s, x) :: r)
    | _, _ => none
def cls (P : Program) (t : TypeId) : Nat := if boolTy P t then 1 else if ptrTy P t then 2 else if isSlice P t then 3 else if fnTy P t then 4 else if digS P t = 0 then 0 else 10 + digS P t
def cI (P : Program) (o : Op) : MI :=
  match o with
  | .move x => .mv x
  | .assign x => .mv x
  | .pick c a b => .pick c a b
  | .alloc t => match zero P t with
    | some z => .alc t z
    | none => .oth o
  | .box t x => .box t x
  | .build t ps => match zero P t, parts3 P t ps.toList with
    | some z, some r => if plOk P t then .bld z r else .oth o
    | _, _ => .oth o
  | .load t x => match lay P t with
    | some (true, n) => .lda n x
    | some (false, _) => .ldo x
    | none => .oth o
  | .store t x v => match lay P t with
    | some (_, n) => .sto n x v
    | none => .oth o
  | .fieldAddr s x f => match fo P s f with
    | some g => .fa g x
    | none => .oth o
  | .field t x f => match P.underlying t with
    | some (.struct fs) => match fs[f]? with
      | some g => match lay P g.type with
        | some (true, n) => .fda g.offset n x
        | some (false, _) => .fdo g.offset x
        | none => .oth o
      | none => .oth o
    | _ => .oth o
  | .indexAddr t x i => match el P t with
    | some (_, sz, _) => .ias sz x i
    | none => match ar P t with
      | some (n, _, sz) => .iaa n sz x i
      | none => .oth o
  | .index t x i => if isStr P t then .ixT x i else .oth o
  | .buildSlice t len ps => match el P t with
    | some (e, sz, _) => match zero P e with
      | some z => if len * sz ≤ 16777216 ∧ z.length = sz then .bsl e sz z len ps.toList else .oth o
      | none => .oth o
    | none => .oth o
  | .makeSlice t l c => match el P t with
    | some (e, sz, bytes) => match zero P e with
      | some z => if z.length = sz then .mks e sz bytes z l c else .oth o
      | none => .oth o
    | none => .oth o
  | .slice t x lo hi none => if isStr P t then .slT x lo hi else match el P t with
    | some (_, sz, _) => .slL sz x lo hi
    | none => .oth o
  | .convert src dst x => match P.underlying src, P.underlying dst with
    | some (.int _), some (.int k) => .cvI k x
    | some (.slice e), some .string => match P.underlying e with
      | some (.int .u8) => .cvB x
      | _ => .oth o
    | _, _ => .oth o
  | .binOp op t x y _ => .bin (cls P t) op x y
  | .unOp op _ x => .un op x
  | .range t x => if isStr P t then .rng x else .oth o
  | .next x true => .nxt x
  | .extract x i => .ext x i
  | .nilCheck x => .nck x
  | .makeFunc (.func f) first caps => match first.toList with
    | [] => .fun_ f caps.toList
    | _ => .oth o
  | _ => .oth o
def cX (P : Program) (o : Op) : MX :=
  match o with
  | .call c => match c.callee with
    | .value f => .call f c.args.toList
    | .invoke _ _ => .bad
    | .builtin b => match b, c.argTypes.toList, c.args.toList with
      | .len, t :: ts, [x] => if isStr P t then .i (.lnT x) else if isSlice P t then .i (.lnS x) else .i (.blt .len (t :: ts) [x])
      | .append, [t, t2], [s, x] => match el P t with
        | some (e, sz, bytes) => if (isSlice P t2 || isStr P t2) && decide (1 ≤ sz) && zeroOk P e sz then .i (.app e sz bytes s x) else .i (.blt .append [t, t2] [s, x])
        | none => .i (.blt .append [t, t2] [s, x])
      | .copy, t :: ts, [d, x] => match el P t with
        | some (_, sz, _) => .i (.cpy sz d x)
        | none => .i (.blt .copy (t :: ts) [d, x])
      | b, ts, args => .i (.blt b ts args)
  | o => .i (cI P o)
def cG (ops : Array Oper) : Option (Nat × Bool) → Option (Option (Tmp × Bool))
  | none => some none
  | some (j, b) => match (ops[j]?).bind (·.dst) with
    | some d => some (some (d, b))
    | none => none
def cOps (P : Program) (ops : Array Oper) : List Oper → Option (List MOp)
  | [] => some []
  | o :: l => match cG ops o.guard, cOps P ops l with
    | some g, some r => some (⟨o.dst, cX P o.op, g⟩ :: r)
    | _, _ => none
def cC (P : Program) (X : List Nat) : Code → MC
  | .skip => .skip
  | .region id ops dr =>
    if dr && X.contains id then .regX id ops else
    if dr && !(conflicts ops).isEmpty then .bad else
    match cOps P ops ops.toList with
    | some l => .reg l
    | none => .bad
  | .seq a b => .seq (cC P X a) (cC P X b)
  | .cond c a b => .cond c (cC P X a) (cC P X b)
  | .block id b => .block id (cC P X b)
  | .loop b => .loop (cC P X b)
  | .scope b => cC P X b
  | .label _ => .skip
  | .rangeFunc f ps asg body => .range f ps asg body
  | .exit id => .exit id
  | .ret => .ret
  | _ => .bad
section
variable (C : Cfg) (P : Program)
def wpX (x : MX) (fr : Fr) (st : Store) (K : D → Store → Prop) : Prop :=
  match x with
  | .i m => wB (mi P fr st m) K
  | .call f args => wCall (rd fr f) (rds fr args) (fun g ds => CallW C P g ds st K) (fun lid ds => YieldW C P lid ds st K)
  | .bad => False
def wantG (fr : Fr) : Option (Tmp × Bool) → Bool
  | none => true
  | some (d, b) => match fr d with
    | .bool b' => b' == b
    | _ => false
def wpL : List MOp → Fr → Store → (Fr → Store → Prop) → Prop
  | [], fr, st, K => K fr st
  | ⟨d, x, g⟩ :: rest, fr, st, K => wIf (wantG fr g) (wpX C P x fr st fun v st' => wpL rest (put fr d v) st' K) (wpL rest (put fr d .undef) st K)
def wpM (X : List Nat) (fid : FuncId) (n : Nat) : MC → Fr → Store → (Out → Fr → Store → Prop) → Prop
  | .skip, fr, st, K => K .norm fr st
  | .reg l, fr, st, K => wpL C P l fr st fun fr' st' => K .norm fr' st'
  | .seq a b, fr, st, K => wpM X fid n a fr st fun o fr st => wSeq o (wpM X fid n b fr st K) (K o fr st)
  | .cond c a b, fr, st, K => wCond (rd fr c) (wpM X fid n a fr st K) (wpM X fid n b fr st K)
  | .block id b, fr, st, K => wpM X fid n b fr st fun o fr st => K (outBlock id o) fr st
  | .loop b, fr, st, K => ∀ c, cC P X c = b → CodeW C P fid n (.loop c) fr st K
  | .range f ps asg body, fr, st, K => wFn (rd fr f) fun g caps => BodyW C P g (.yld st.length :: caps) (st ++ [.loop .ready none fid fr n ps asg body]) fun _ st' =>
      wPop (popLoop st' st.length) fun o st'' => K o fr st''
  | .regX id ops, fr, st, K => wpT C P ops ops.toList fr st [] fun fr' st' tr => (conflicts ops).all (fun p => fpOk ((tr[p.1]?).getD .top) ((tr[p.2]?).getD .top)) = true ∧ K .norm fr' st'
  | .exit id, fr, st, K => K (.exit id) fr st
  | .ret, fr, st, K => K .ret fr st
  | .bad, _, _, _ => False
end
end
section
variable {P : Program} {C : Cfg}
theorem fill3_sound {t : TypeId} {fr : Fr} : ∀ {ps : List (Nat × Operand)} {r : List (Nat × Nat × Operand)} {l : List (Nat × Nat × D)} {z cs : List D}, parts3 P t ps = some r → rdp3 fr r = some l → fill3 z l = some cs →
    ∃ l', rdp fr ps = some l' ∧ fillD (places P t) z l' = some cs
  | [], r, l, z, cs, h1, h2, h3 => by
    simp only [parts3, Option.some.injEq] at h1; subst h1
    simp only [rdp3, Option.some.injEq] at h2; subst h2
    exact ⟨[], rfl, by simpa only [fill3, fillD] using h3⟩
  | (i, x) :: ps, r, l, z, cs, h1, h2, h3 => by
    simp only [parts3] at h1
    split at h1
    · rename_i o s r' hp hr
      injection h1 with h1; subst h1
      simp only [rdp3] at h2
      split at h2
      · rename_i d ds hd hds
        injection h2 with h2; subst h2
        simp only [fill3] at h3
        split at h3
        · rename_i vc hvc
          split at h3
          · rename_i hc
            obtain ⟨l', g1, g2⟩ := fill3_sound hr hds h3
            refine ⟨(i, d) :: l', by simp only [rdp, hd, g1], ?_⟩
            simp only [fillD, hp, hvc]
            rw [if_neg, g2]
            simp only [Bool.or_eq_true, decide_eq_true_eq, not_or, Nat.not_lt, ne_eq, Decidable.not_not]
            exact ⟨hc.1, by omega⟩
          · cases h3
        · cases h3
      · cases h2
    · cases h1
theorem ite_some {α : Type} {c : Prop} [Decidable c] {x : Option α} {b : α} (h : (if c then x else none) = some b) : c ∧ x = some b := by
  by_cases hc : c
  · rw [if_pos hc] at h; exact ⟨hc, h⟩
  · rw [if_neg hc] at h; cases h
theorem eqlM_sound {t : TypeId} {x y : D} {b : Bool} (h : eqlM (cls P t) x y = some b) : eql P t x y = some b := by
  have h1 : cls P t = 1 → boolTy P t = true := by
    intro h; unfold cls at h; repeat' split at h
    all_goals first | assumption | cases h | omega
  have h2 : cls P t = 2 → ptrTy P t = true := by
    intro h; unfold cls at h; repeat' split at h
    all_goals first | assumption | cases h | omega
  have h3 : cls P t = 3 → isSlice P t = true := by
    intro h; unfold cls at h; repeat' split at h
    all_goals first | assumption | cases h | omega
  have h4 : cls P t = 4 → fnTy P t = true := by
    intro h; unfold cls at h; repeat' split at h
    all_goals first | assumption | cases h | omega
  generalize cls P t = c at h h1 h2 h3 h4
  cases x <;> cases y <;> first
    | (cases h; done)
    | (obtain ⟨hc, h⟩ := ite_some h; first | (simp only [eql]; rw [if_pos (h1 hc)]; exact h) | (simp only [eql]; rw [if_pos (h2 hc)]; exact h) | (simp only [eql]; rw [if_pos (h3 hc)]; exact h) | (simp only [eql]; rw [if_pos (h4 hc)]; exact h))
theorem binM_sound {op : BinOp} {t : TypeId} {x y d : D} (h : binM (cls P t) op x y = some d) : bin P op t x y = some d := by
  unfold binM at h
  unfold bin
  split at h
  · exact h
  · exact h
  · rename_i xs ys
    have hc : ∀ b, eqAgg (cls P t - 10) xs ys = some b → eqAgg (digS P t) xs ys = some b := by
      intro b hb
      have : cls P t - 10 = 0 ∨ cls P t - 10 = digS P t := by
        unfold cls; repeat' split
        all_goals omega
      rcases this with e | e
      · rw [e] at hb; simp [eqAgg] at hb
      · rw [e] at hb; exact hb
    cases op <;> simp only [reduceCtorEq] at h ⊢
    · obtain ⟨b, hb, rfl⟩ := Option.map_eq_some_iff.1 h
      rw [hc b hb]; rfl
    · obtain ⟨b, hb, rfl⟩ := Option.map_eq_some_iff.1 h
      rw [hc b hb]; rfl
  · rename_i h1 h2 h3
    split
    · exact absurd rfl (h1 _ _ _ _ rfl)
    · exact absurd rfl (h2 _ _ rfl)
    · exact absurd rfl (h3 _ _ rfl)
    · cases op <;> simp only [reduceCtorEq] at h ⊢
      · obtain ⟨b, hb, rfl⟩ := Option.map_eq_some_iff.1 h
        rw [eqlM_sound hb]; rfl
      · obtain ⟨b, hb, rfl⟩ := Option.map_eq_some_iff.1 h
        rw [eqlM_sound hb]; rfl
theorem ld_one {t : TypeId} {s : Nat} (hl : lay P t = some (false, s)) (cs : List D) (off : Nat) : ld P t cs off = cs[off]? := by simp only [ld, hl]
theorem ld_agg {t : TypeId} {n : Nat} (hl : lay P t = some (true, n)) (cs : List D) (off : Nat) : ld P t cs off = if off + n ≤ cs.length then some (.agg ((cs.drop off).take n)) else none := by simp only [ld, hl]
theorem load_sound {fr : Fr} {st : Store} {t : TypeId} {x : Operand} {dx : D} {cs : List D} {off : Nat} {y : D} (hx : rd fr x = some dx) (hc : cellsAt st dx = some (cs, off)) (hl : ld P t cs off = some y) :
    stepOp P fr st (.load t x) = some (y, st) := by
  simp only [stepOp, hx]
  cases dx <;> simp only [cellsAt, reduceCtorEq] at hc
  · split at hc
    · rename_i v rw' ty cs' hst
      obtain ⟨hv, hc⟩ := ite_some hc
      injection hc with hc; injection hc with e1 e2; subst e1; subst e2
      simp only [hst]
      rw [if_pos hv, hl]; rfl
    · cases hc
  · injection hc with hc; injection hc with e1 e2; subst e1; subst e2
    simp only [hl]; rfl
theorem rdo_some {fr : Fr} {o : Option Operand} {l : Option D} (h : rdo fr o = some l) : ∃ ds, rds fr o.toList = some ds ∧ ds.head? = l ∧ ds = l.toList := by
  cases o with
  | none => simp only [rdo, Option.some.injEq] at h; subst h; exact ⟨[], rfl, rfl, rfl⟩
  | some x =>
    simp only [rdo] at h
    split at h
    · rename_i d hd
      injection h with h; subst h
      exact ⟨[d], by simp only [Option.toList, rds, hd], rfl, rfl⟩
    · cases h
end
section
variable {P : Program} {C : Cfg}
theorem mi_sound {fr : Fr} {st : Store} {o : Op} {r : D × Store} (h : mi P fr st (cI P o) = some r) : stepOp P fr st o = some r := by
  cases o
  case move => exact h
  case assign => exact h
  case pick => exact h
  case alloc t =>
    simp only [cI] at h
    split at h
    · rename_i z hz
      simp only [mi] at h
      simp only [stepOp, hz]; exact h
    · exact h
  case box => exact h
  case build t ps =>
    simp only [cI] at h
    split at h
    · rename_i z r' hz hp
      split at h
      · rename_i hpl
        simp only [mi] at h
        split at h
        · rename_i l hl
          split at h
          · rename_i cs hcs
            obtain ⟨l', g1, g2⟩ := fill3_sound hp hl hcs
            simp only [stepOp, hz, g1, hpl, if_true, g2]
            exact h
          · cases h
        · cases h
      · exact h
    · exact h
  case load t x =>
    simp only [cI] at h
    split at h
    · rename_i n hl
      simp only [mi] at h
      split at h
      · rename_i d hd
        split at h
        · rename_i cs off hc
          obtain ⟨hle, h⟩ := ite_some h
          injection h with h; subst h
          exact load_sound hd hc (by rw [ld_agg hl, if_pos hle])
        · cases h
      · cases h
    · rename_i n hl
      simp only [mi] at h
      split at h
      · rename_i d hd
        split at h
        · rename_i cs off hc
          split at h
          · rename_i y hy
            injection h with h; subst h
            exact load_sound hd hc (by rw [ld_one hl, hy])
          · cases h
        · cases h
      · cases h
    · exact h
  case store t x v =>
    simp only [cI] at h
    split at h
    · rename_i b n hl
      simp only [mi] at h
      simp only [stepOp]
      split at h
      · rename_i id ver off d hx hv
        simp only [hx, hv]
        split at h
        · rename_i w ty cs vc hst hvc
          simp only [hst, hl, hvc]
          exact h
        · cases h
      · cases h
    · exact h
  case fieldAddr s x f =>
    simp only [cI] at h
    split at h
    · rename_i g hg
      simp only [mi] at h
      simp only [stepOp, hg]
      split at h
      · rename_i hx; simp only [hx]; exact h
      · rename_i hx; simp only [hx]; exact h
      · cases h
    · exact h
  case field t x f =>
    simp only [cI] at h
    split at h
    · rename_i fs hu
      split at h
      · rename_i g hg
        split at h
        · rename_i n hl
          simp only [mi] at h
          split at h
          · rename_i cs hx
            obtain ⟨hle, h⟩ := ite_some h
            simp only [stepOp, hx, fieldD, hu, hg, partD, ld_agg hl]
            rw [if_pos hle]; exact h
          · cases h
        · rename_i n hl
          simp only [mi] at h
          split at h
          · rename_i cs hx
            split at h
            · rename_i y hy
              simp only [stepOp, hx, fieldD, hu, hg, partD, ld_one hl, hy]; exact h
            · cases h
          · cases h
        · exact h
      · exact h
    · exact h
  case indexAddr t x i =>
    simp only [cI] at h
    split at h
    · rename_i e sz by' he
      simp only [mi] at h
      split at h
      · rename_i a b hx hi
        simp only [stepOp, hx, hi]
        obtain ⟨y, hy, h⟩ := Option.map_eq_some_iff.1 h
        have : indexAddrD P t a b = some y := by
          unfold idxS at hy
          unfold indexAddrD
          split at hy
          · split at hy
            · split at hy
              · rename_i j hj
                obtain ⟨hs, hy⟩ := ite_some hy
                simp only [he, hj]
                rw [if_pos hs]; exact hy
              · cases hy
            · split at hy
              · rename_i j hj
                simp only [he, hj]; exact hy
              · cases hy
            · cases hy
          · cases hy
        rw [this, ← h]; rfl
      · cases h
    · split at h
      · rename_i n e sz har
        simp only [mi] at h
        split at h
        · rename_i a b hx hi
          simp only [stepOp, hx, hi]
          obtain ⟨y, hy, h⟩ := Option.map_eq_some_iff.1 h
          have : indexAddrD P t a b = some y := by
            unfold idxA at hy
            unfold indexAddrD
            split at hy
            · split at hy
              · split at hy
                · rename_i j hj
                  simp only [har, hj]; exact hy
                · cases hy
              · split at hy
                · rename_i j hj
                  simp only [har, hj]; exact hy
                · cases hy
              · cases hy
            · cases hy
          rw [this, ← h]; rfl
        · cases h
      · exact h
  case index t x i =>
    simp only [cI] at h
    split at h
    · rename_i hs
      simp only [mi] at h
      split at h
      · rename_i a b hx hi
        simp only [stepOp, hx, hi]
        obtain ⟨y, hy, h⟩ := Option.map_eq_some_iff.1 h
        have : indexD P t a b = some y := by
          unfold idxT at hy
          unfold indexD
          split at hy
          · simp only [hs, if_true]; exact hy
          · cases hy
        rw [this, ← h]; rfl
      · cases h
    · exact h
  case buildSlice t len ps =>
    simp only [cI] at h
    split at h
    · rename_i e sz by' he
      split at h
      · rename_i z hz
        split at h
        · rename_i hc
          simp only [mi] at h
          split at h
          · rename_i l hl
            split at h
            · rename_i cs hcs
              simp only [stepOp, he, hl, hz]
              rw [if_neg (by omega), if_pos hc.2, hcs]; exact h
            · cases h
          · cases h
        · exact h
      · exact h
    · exact h
  case makeSlice t l c =>
    simp only [cI] at h
    split at h
    · rename_i e sz by' he
      split at h
      · rename_i z hz
        split at h
        · rename_i hc
          simp only [mi] at h
          split at h
          · rename_i n m hn hm
            obtain ⟨hcond, h⟩ := ite_some h
            simp only [stepOp, he, hn, hm]
            rw [if_pos hcond]
            simp only [hz]
            rw [if_pos hc]; exact h
          · cases h
        · exact h
      · exact h
    · exact h
  case slice t x lo hi mx =>
    cases mx with
    | some m => exact h
    | none =>
      simp only [cI] at h
      split at h
      · rename_i hs
        simp only [mi] at h
        split at h
        · rename_i d l hh hx hl hhi
          obtain ⟨ls, g1, g2, _⟩ := rdo_some hl
          obtain ⟨hs', g3, g4, _⟩ := rdo_some hhi
          obtain ⟨y, hy, h⟩ := Option.map_eq_some_iff.1 h
          have g0 : rds fr (none : Option Operand).toList = some [] := rfl
          simp only [stepOp, hx, g1, g3, g0, g2, g4]
          have : sliceD P t d l hh = some y := by
            unfold sliceT at hy
            unfold sliceD
            split at hy
            · simp only [hs, if_true]; exact hy
            · cases hy
          rw [this, ← h]; rfl
        · cases h
      · split at h
        · rename_i e sz by' he
          simp only [mi] at h
          split at h
          · rename_i d l hh hx hl hhi
            obtain ⟨ls, g1, g2, _⟩ := rdo_some hl
            obtain ⟨hs', g3, g4, _⟩ := rdo_some hhi
            obtain ⟨y, hy, h⟩ := Option.map_eq_some_iff.1 h
            have g0 : rds fr (none : Option Operand).toList = some [] := rfl
            simp only [stepOp, hx, g1, g3, g0, g2, g4]
            have : sliceD P t d l hh = some y := by
              unfold sliceL at hy
              unfold sliceD
              split at hy
              · simp only [he]; exact hy
              · simp only [he]; exact hy
              · simp only [he]; exact hy
              · cases hy
            rw [this, ← h]; rfl
          · cases h
        · exact h
  case convert src dst x =>
    simp only [cI] at h
    split at h
    · rename_i hs hd
      simp only [mi] at h
      split at h
      · rename_i hx
        simp only [stepOp, hx, convD, hs, hd]; exact h
      · cases h
    · rename_i e hs hd
      split at h
      · rename_i hu
        simp only [mi] at h
        split at h
        · rename_i d hx
          split at h
          · rename_i cs hcs
            split at h
            · rename_i l hl
              have : convD P src dst d = none := by unfold convD; simp only [hs, hd]
              simp only [stepOp, hx, this, hs, hd, hu, hcs, hl]; exact h
            · cases h
          · cases h
        · cases h
      · exact h
    · exact h
  case binOp op t x y pl =>
    simp only [cI, mi] at h
    split at h
    · rename_i a b ha hb
      obtain ⟨z, hz, h⟩ := Option.map_eq_some_iff.1 h
      simp only [stepOp, ha, hb, binM_sound hz]
      rw [← h]; rfl
    · cases h
  case unOp => exact h
  case range t x =>
    simp only [cI] at h
    split at h
    · rename_i hs
      simp only [mi] at h
      split at h
      · rename_i hx
        simp only [stepOp, hx, hs, if_true]; exact h
      · cases h
    · exact h
  case next x b =>
    cases b with
    | true => exact h
    | false => exact h
  case extract x i =>
    simp only [cI, mi] at h
    simp only [stepOp]
    split at h
    · rename_i ds hx
      simp only [hx]
      split at h
      · rename_i y hy
        simp only [hy]; exact h
      · cases h
    · cases h
  case nilCheck => exact h
  case makeFunc f first caps =>
    cases f with
    | func g =>
      simp only [cI] at h
      split at h
      · rename_i hf
        simp only [mi] at h
        split at h
        · rename_i ds hds
          simp only [stepOp, hf, hds]; exact h
        · cases h
      · exact h
    | _ => exact h
  all_goals exact h
theorem cX_sound {o : Op} {fr : Fr} {st : Store} {K : D → Store → Prop} (h : wpX C P (cX P o) fr st K) : wpOp C P o fr st K := by
  have hplain : ∀ o : Op, cX P o = .i (cI P o) → wpOp C P o fr st K = wB (stepOp P fr st o) K → wpX C P (cX P o) fr st K → wpOp C P o fr st K := by
    intro o e1 e2 h
    rw [e1] at h
    rw [e2]
    simp only [wpX] at h
    unfold wB at h
    split at h
    · rename_i d st' hm
      rw [mi_sound hm]; exact h
    · exact h.elim
  cases o
  case call c =>
    simp only [cX] at h
    simp only [wpOp]
    split at h
    · rename_i f hc
      simp only [hc]; exact h
    · exact h.elim
    · rename_i b hc
      simp only [hc]
      have gen : ∀ m : MI, (∀ d st', mi P fr st m = some (d, st') → ∃ ds, rds fr c.args.toList = some ds ∧ builtinD P st b c.argTypes.toList ds = some (d, st')) → wB (mi P fr st m) K →
          wB (match rds fr c.args.toList with | some ds => builtinD P st b c.argTypes.toList ds | none => none) K := by
        intro m hm hw
        unfold wB at hw
        split at hw
        · rename_i d st' hmm
          obtain ⟨ds, g1, g2⟩ := hm d st' hmm
          rw [g1]; simp only [g2]; exact hw
        · exact hw.elim
      have blt : ∀ ts args, c.argTypes.toList = ts → c.args.toList = args → ∀ d st', mi P fr st (.blt b ts args) = some (d, st') → ∃ ds, rds fr c.args.toList = some ds ∧ builtinD P st b c.argTypes.toList ds = some (d, st') := by
        intro ts args e1 e2 d st' hm
        simp only [mi] at hm
        split at hm
        · rename_i ds hds
          exact ⟨ds, by rw [e2]; exact hds, by rw [e1]; exact hm⟩
        · cases hm
      split at h
      · rename_i t ts x hts hargs
        split at h
        · rename_i hs
          refine gen _ (fun d st' hm => ?_) h
          simp only [mi] at hm
          split at hm
          · rename_i s hx
            exact ⟨[.str s], by simp only [hargs, rds, hx], by simp only [hts, builtinD, lenD, hs, if_true]; exact hm⟩
          · cases hm
        · split at h
          · rename_i hs
            refine gen _ (fun d st' hm => ?_) h
            simp only [mi] at hm
            split at hm <;> first
              | (cases hm; done)
              | (rename_i hx; have e : rds fr c.args.toList = (match rd fr x with | some d => some [d] | none => none) := (by simp only [hargs, rds]; cases rd fr x <;> rfl); rw [hx] at e; refine ⟨_, e, ?_⟩; simp only [hts, builtinD, lenD, hs, if_true, lenOf]; exact hm)
          · exact gen _ (blt _ _ hts hargs) h
      · rename_i t t2 s x hts hargs
        split at h
        · rename_i e sz by' he
          split at h
          · rename_i hc'
            simp only [Bool.and_eq_true, decide_eq_true_eq] at hc'
            refine gen _ (fun d st' hm => ?_) h
            simp only [mi] at hm
            split at hm
            · rename_i a b' hs hx
              refine ⟨[a, b'], by simp only [hargs, rds, hs, hx], ?_⟩
              simp only [hts, builtinD, appendD, he]
              rw [if_pos hc'.1.1]
              unfold appendM at hm
              split at hm
              · rename_i new n hn hl
                simp only [hn, hl]
                split at hm
                · rename_i h0; rw [if_pos h0]; exact hm
                · rename_i h0
                  rw [if_neg h0, if_pos ⟨hc'.1.2, hc'.2⟩]
                  exact hm
              · cases hm
            · cases hm
          · exact gen _ (blt _ _ hts hargs) h
        · exact gen _ (blt _ _ hts hargs) h
      · rename_i t ts d' x hts hargs
        split at h
        · rename_i e sz by' he
          refine gen _ (fun d st' hm => ?_) h
          simp only [mi] at hm
          split at hm
          · rename_i a b' hs hx
            refine ⟨[a, b'], by simp only [hargs, rds, hs, hx], ?_⟩
            simp only [hts, builtinD, copyD, he]
            unfold copyM at hm
            exact hm
          · cases hm
        · exact gen _ (blt _ _ hts hargs) h
      · exact gen _ (blt _ _ rfl rfl) h
  all_goals exact hplain _ rfl rfl h
end
section
variable {P : Program} {C : Cfg}
theorem cG_sound {ops : Array Oper} {o : Oper} {g : Option (Tmp × Bool)} (h : cG ops o.guard = some g) (fr : Fr) : wantedM ops fr o = wantG fr g := by
  unfold wantedM
  cases hg : o.guard with
  | none => rw [hg] at h; simp only [cG, Option.some.injEq] at h; subst h; rfl
  | some jb =>
    obtain ⟨j, b⟩ := jb
    rw [hg] at h
    simp only [cG] at h ⊢
    split at h
    · rename_i d hd
      injection h with h; subst h
      simp only [hd, wantG]
      cases fr d <;> rfl
    · cases h
theorem wpL_sound {ops : Array Oper} : ∀ {l : List Oper} {r : List MOp} {fr : Fr} {st : Store} {K : Fr → Store → Prop}, cOps P ops l = some r → wpL C P r fr st K →
    ∃ k fr' st', runL (rop C P k) ops l fr st = some (fr', st') ∧ K fr' st'
  | [], r, fr, st, K, hc, h => by
    simp only [cOps, Option.some.injEq] at hc; subst hc
    exact ⟨0, fr, st, rfl, h⟩
  | o :: l, r, fr, st, K, hc, h => by
    simp only [cOps] at hc
    split at hc
    · rename_i g r' hg hr
      injection hc with hc; subst hc
      unfold wpL wIf at h
      split at h
      · rename_i hw
        obtain ⟨k, d, st', hrun, hk⟩ := wpOp_sound (cX_sound h)
        obtain ⟨k2, fr2, st2, hr2, hk2⟩ := wpL_sound hr hk
        refine ⟨max k k2, fr2, st2, ?_, hk2⟩
        simp only [runL]
        rw [cG_sound hg, if_pos hw, rop_le (Nat.le_max_left k k2) hrun]
        exact runL_mono (fun o fr st r h => rop_le (Nat.le_max_right k k2) h) _ _ _ _ hr2
      · rename_i hw
        obtain ⟨k2, fr2, st2, hr2, hk2⟩ := wpL_sound hr h
        refine ⟨k2, fr2, st2, ?_, hk2⟩
        simp only [runL]
        rw [cG_sound hg, if_neg (by simp [hw])]
        exact hr2
    · cases hc
theorem wpM_sound {X : List Nat} {fid : FuncId} {n : Nat} : ∀ {c : Code} {fr : Fr} {st : Store} {K : Out → Fr → Store → Prop}, wpM C P X fid n (cC P X c) fr st K → CodeW C P fid n c fr st K := by
  intro c
  induction c with
  | skip => intro fr st K h; exact ⟨1, .norm, fr, st, by simp only [rcode], h⟩
  | seq a b iha ihb =>
    intro fr st K h
    obtain ⟨k, o, fr1, st1, hr, hk⟩ := iha h
    cases o with
    | norm =>
      obtain ⟨k2, o2, fr2, st2, hr2, hk2⟩ := ihb hk
      refine ⟨max k k2 + 1, o2, fr2, st2, ?_, hk2⟩
      rw [rcode, rcode_le (Nat.le_max_left k k2) hr]
      exact rcode_le (Nat.le_max_right k k2) hr2
    | ret => exact ⟨k + 1, _, fr1, st1, by rw [rcode, hr], hk⟩
    | exit i => exact ⟨k + 1, _, fr1, st1, by rw [rcode, hr], hk⟩
  | cond c a b iha ihb =>
    intro fr st K h
    unfold cC wpM wCond at h
    split at h
    · rename_i hc
      obtain ⟨k, o, fr1, st1, hr, hk⟩ := iha h
      exact ⟨k + 1, o, fr1, st1, by rw [rcode, hc]; exact hr, hk⟩
    · rename_i hc
      obtain ⟨k, o, fr1, st1, hr, hk⟩ := ihb h
      exact ⟨k + 1, o, fr1, st1, by rw [rcode, hc]; exact hr, hk⟩
    · exact h.elim
  | block id b ih =>
    intro fr st K h
    obtain ⟨k, o, fr1, st1, hr, hk⟩ := ih h
    cases o with
    | norm => exact ⟨k + 1, _, fr1, st1, by rw [rcode, hr]; rfl, hk⟩
    | ret => exact ⟨k + 1, _, fr1, st1, by rw [rcode, hr]; rfl, hk⟩
    | exit i =>
      simp only [outBlock] at hk
      by_cases e : i = id
      · rw [if_pos e] at hk; exact ⟨k + 1, _, fr1, st1, by rw [rcode, hr]; simp only []; rw [if_pos e], hk⟩
      · rw [if_neg e] at hk; exact ⟨k + 1, _, fr1, st1, by rw [rcode, hr]; simp only []; rw [if_neg e], hk⟩
  | loop b ih => intro fr st K h; exact h b rfl
  | exit id => intro fr st K h; exact ⟨1, _, fr, st, by simp only [rcode], h⟩
  | ret => intro fr st K h; exact ⟨1, _, fr, st, by simp only [rcode], h⟩
  | region id ops dr =>
    intro fr st K h
    unfold cC at h
    split at h
    · rename_i hd
      refine wpC_sound (X := X) ?_ (?_ : wpC C P X fid n (.region id ops dr) fr st K)
      · simp only [Bool.and_eq_true] at hd
        rw [hd.1]; simp only [xOk, hd.2, Bool.true_or]
      · unfold wpC
        rw [hd]
        exact h
    · split at h
      · exact h.elim
      · rename_i hd hx
        split at h
        · rename_i l hl
          obtain ⟨k, fr', st', hr, hk⟩ := wpL_sound hl h
          refine ⟨k + 1, .norm, fr', st', ?_, hk⟩
          cases dr with
          | false =>
            rw [rcode]
            change (match runL (rop C P k) ops ops.toList fr st with | some (fr, st) => some (Out.norm, fr, st) | none => none) = _
            rw [hr]
          | true =>
            have he : (conflicts ops).isEmpty = true := by simpa using hx
            rw [rcode]
            change (match drawn (rop C P k) (fpOf C) ops fr st with | some (fr, st) => some (Out.norm, fr, st) | none => none) = _
            rw [drawn_free he hr]
        · exact h.elim
  | rangeFunc f ps asg body _ _ =>
    intro fr st K h
    unfold cC wpM wFn at h
    split at h
    · rename_i g caps hg
      obtain ⟨k, d, st', hr, hk⟩ := h
      unfold wPop at hk
      split at hk
      · rename_i o st'' hp
        refine ⟨k + 1, o, fr, st'', ?_, hk⟩
        rw [rcode, hg]
        simp only []
        rw [hr]
        simp only []
        rw [hp]
      · exact hk.elim
    · exact h.elim
  | scope b ih =>
    intro fr st K h
    obtain ⟨k, o, fr1, st1, hr, hk⟩ := ih h
    exact ⟨k + 1, o, fr1, st1, by rw [rcode]; exact hr, hk⟩
  | label l => intro fr st K h; exact ⟨1, .norm, fr, st, by simp only [rcode], h⟩
  | goto l => intro fr st K h; exact h.elim
  | refuse w => intro fr st K h; exact h.elim
def bodyM (P : Program) (X : List Nat) (f : FuncId) : Option (Nat × List ResultVar × MC) :=
  match P.funcs[f]? with
  | some fn => match fn.body with
    | some c => some (fn.ntmps, fn.results.toList, cC P X c)
    | none => none
  | none => none
theorem body_m {X : List Nat} {f : FuncId} {n : Nat} {rs : List ResultVar} {m : MC} (hb : bodyM P X f = some (n, rs, m)) {args : List D} {st : Store} {K : D → Store → Prop} (hn : args.length ≤ n)
    (h : wpM C P X f n m (frOf args) st fun o fr st' => wEnd o (wRes (resOf P fr st' rs) fun d => K d st')) : BodyW C P f args st K := by
  unfold bodyM at hb
  split at hb
  · rename_i fn hf
    split at hb
    · rename_i c hc
      injection hb with hb; injection hb with e1 hb; injection hb with e2 e3
      subst e1; subst e2; subst e3
      obtain ⟨k, o, fr', st', hr, hk⟩ := wpM_sound h
      have key : wRes (resOf P fr' st' fn.results.toList) (fun d => K d st') → (o = .norm ∨ o = .ret) → BodyW C P f args st K := by
        intro hk ho
        unfold wRes at hk
        split at hk
        · rename_i l hl
          refine ⟨k + 1, resD l, st', ?_, hk⟩
          rcases ho with rfl | rfl <;> rw [rbody, hf] <;> simp only [hc] <;> rw [if_pos hn, hr] <;> simp only [hl]
        · exact hk.elim
      cases o with
      | norm => exact key hk (.inl rfl)
      | ret => exact key hk (.inr rfl)
      | exit i => exact hk.elim
    · cases hb
  · cases hb
theorem BodyW.mono {f : FuncId} {args : List D} {st : Store} {K K' : D → Store → Prop} (h : BodyW C P f args st K) (hk : ∀ d st', K d st' → K' d st') : BodyW C P f args st K' := by
  obtain ⟨k, d, st', hr, h⟩ := h
  exact ⟨k, d, st', hr, hk _ _ h⟩
theorem CallW.mono {f : FuncId} {args : List D} {st : Store} {K K' : D → Store → Prop} (h : CallW C P f args st K) (hk : ∀ d st', K d st' → K' d st') : CallW C P f args st K' := by
  obtain ⟨k, d, st', hr, h⟩ := h
  exact ⟨k, d, st', hr, hk _ _ h⟩
def Gives (C : Cfg) (P : Program) (f : FuncId) (args : List D) (d : D) : Prop := ∃ k, ∀ st, rcall C P k f args st = some (d, st)
theorem Gives.call {f : FuncId} {args : List D} {d : D} (h : Gives C P f args d) {st : Store} {K : D → Store → Prop} (hk : K d st) : CallW C P f args st K := by
  obtain ⟨k, h⟩ := h
  exact ⟨k, d, st, h st, hk⟩
theorem gives_frz {f : FuncId} (hx : C.ext f = none) (hm : C.mode f = .frz) {args : List D} (ha : refsL args = []) {d : D} (h : BodyW C P f args [] fun d0 st1 => fz st1 8 d0 = some d) : Gives C P f args d := by
  obtain ⟨k, d0, st1, hr, hz⟩ := h
  refine ⟨k + 1, fun st => ?_⟩
  rw [rcall, hx, hm]
  simp only []
  rw [if_pos (by simp [ha]), hr]
  simp only []
  rw [hz]
def cAt : Code → List Nat → Code
  | c, [] => c
  | .seq a b, i :: p => cAt (if i = 0 then a else b) p
  | .cond _ a b, i :: p => cAt (if i = 0 then a else b) p
  | .block _ b, _ :: p => cAt b p
  | .loop b, _ :: p => cAt b p
  | .scope b, _ :: p => cAt b p
  | .rangeFunc _ _ a b, i :: p => cAt (if i = 0 then a else b) p
  | c, _ => c
def cOf (P : Program) (f : FuncId) : Code := match P.funcs[f]? with
  | some fn => fn.body.getD .skip
  | none => .skip
def opsAt (c : Code) (p : List Nat) : Array Oper := match cAt c p with
  | .region _ ops _ => ops
  | _ => #[]
end
end Go.Mm
end
