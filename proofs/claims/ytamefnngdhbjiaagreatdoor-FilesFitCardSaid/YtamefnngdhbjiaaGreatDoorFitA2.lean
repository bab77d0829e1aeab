/- A part of the proof of FilesFitCardSaid: M15, M16, M17, M18, M19, M20, M21, M22, M23. -/
import Derived.Test.YtamefnngdhbjiaaGreatDoorFitA1
import Derived.LoopNIn
set_option linter.all false
section
namespace Go.Mm
variable [Globs]
section
variable {P : Program}
def WideF (F : Fence) : Prop := F = Fence.wide ∨ ∃ l, F = Fence.wide.inRound l
theorem WideF.fn {F : Fence} (h : WideF F) (f : FuncId) : F.fn f := by
  rcases h with rfl | ⟨l, rfl⟩ <;> exact trivial
theorem WideF.depth {F : Fence} (h : WideF F) : F.depth = none := by
  rcases h with rfl | ⟨l, rfl⟩ <;> rfl
theorem WideF.calls {F : Fence} (h : WideF F) {n : Nat} {f : FuncId} {vs : Array Value} {w : World} {Q : Ending → World → Prop} (hc : CallsIn Fence.wide n P f vs w Q) : CallsIn F n P f vs w Q := by
  rcases h with rfl | ⟨l, rfl⟩
  · exact hc
  · exact hc
theorem WideF.inRound {F : Fence} (h : WideF F) (l : Nat) : WideF (F.inRound l) := by
  rcases h with rfl | ⟨l', rfl⟩ <;> exact .inr ⟨l, rfl⟩
inductive OutR : Out → Exit → Prop
  | norm : OutR .norm .normal
  | ret : OutR .ret .ret
  | exit (id : Nat) : OutR (.exit id) (.exit id)
def MarksOk (B : Nat) (S : Real) (rs : List Nat) : Prop :=
  rs.Nodup ∧ ∀ r ∈ rs, B ≤ r ∧ S.w.heap[r]? = some (.deferred (some [])) ∧ ¬ S.hot r ∧ ∀ i l, S.bl i = some l → l.b ≠ r
def marksOf (rs : List Nat) : List Deferred := rs.map fun r => { target := .collected r, args := #[] }
theorem MarksOk.ext {B : Nat} {S S' : Real} {rs : List Nat} (h : MarksOk B S rs) (he : Ext S S') : MarksOk B S' rs := by
  refine ⟨h.1, fun r hr => ?_⟩
  obtain ⟨h1, h2, h3, h4⟩ := h.2 r hr
  have hlt := block_lt h2
  refine ⟨h1, ?_, fun hh => h3 (he.hot1 r hlt hh), fun i l' hl' => ?_⟩
  · rw [he.keep r hlt (fun hx => h3 hx.1)]; exact h2
  · by_cases hi : i < S.n
    · obtain ⟨l, g1, g2⟩ := he.live i l' hi hl'
      have := h4 i l g1
      rcases g2 with rfl | ⟨_, _, g2 | g2⟩
      · exact this
      · omega
      · omega
    · have := he.new i l' (by omega) hl'
      omega
theorem MarksOk.append {B B' : Nat} {S : Real} {rs rs' : List Nat} (h : MarksOk B S rs) (h' : MarksOk B' S rs') (hB : B ≤ B') (hlt : ∀ r ∈ rs, r < B') : MarksOk B S (rs' ++ rs) := by
  refine ⟨List.nodup_append.2 ⟨h'.1, h.1, fun a ha b hb => ?_⟩, fun r hr => ?_⟩
  · have := hlt b hb
    have := (h'.2 a ha).1
    omega
  · rcases List.mem_append.1 hr with hr | hr
    · obtain ⟨h1, h2⟩ := h'.2 r hr
      exact ⟨by omega, h2⟩
    · exact h.2 r hr
def DefStep (F : Fence) (S S' : Real) (a a' : Act) : Prop :=
  ∃ rs, a'.defers = marksOf rs ++ a.defers ∧ MarksOk S.w.heap.size S' rs ∧ (F.round ≠ none → rs = [])
theorem DefStep.refl (F : Fence) (S : Real) (a : Act) (S' : Real) (a' : Act) (h : a'.defers = a.defers) : DefStep F S S' a a' :=
  ⟨[], by simp [marksOf, h], ⟨List.nodup_nil, by simp⟩, fun _ => rfl⟩
theorem DefStep.trans {F : Fence} {S S1 S2 : Real} {a a1 a2 : Act} (h : DefStep F S S1 a a1) (k : DefStep F S1 S2 a1 a2) (h1 : Ext S S1) (h2 : Ext S1 S2) : DefStep F S S2 a a2 := by
  obtain ⟨rs, e1, m1, r1⟩ := h
  obtain ⟨rs', e2, m2, r2⟩ := k
  refine ⟨rs' ++ rs, by rw [e2, e1]; simp [marksOf], (m1.ext h2).append m2 h1.size (fun r hr => block_lt (m1.2 r hr).2.1), fun hr => by rw [r1 hr, r2 hr]; rfl⟩
def Post (S : Real) (d : D) (st' : Store) : Ending → World → Prop := fun e w' => ∃ v S', e = .returned v ∧ S'.w = w' ∧ SR S' st' ∧ Ext S S' ∧ R S' d v
def CallOk (P : Program) (S : Real) (f : FuncId) (vs : Array Value) (d : D) (st' : Store) : Prop :=
  (∃ v S', (callFunc f vs).run P S.w = .ok (.value v) S'.w ∧ SR S' st' ∧ Ext S S' ∧ R S' d v) ∨
  ((callFunc f vs).run P S.w = .ok (.enter f vs) S.w ∧ ∀ n, CallsIn Fence.wide n P f vs S.w (Post S d st'))
def CodeS (P : Program) (n : Nat) (c : Code) (fr : Fr) (st : Store) (o : Out) (fr' : Fr) (st' : Store) : Prop :=
  ∀ (S : Real) (F : Fence) (m : Nat) (a : Act) (Q : Exit → Act → World → Prop), codeOk F.round.isSome n c = true → WideF F → SR S st → FrR S fr n a.tmps →
    (∀ e a' S', OutR o e → SR S' st' → FrR S' fr' n a'.tmps → Ext S S' → DefStep F S S' a a' → Q e a' S'.w) → c.wpIn F m P Q a S.w
def OpsS (P : Program) (n : Nat) (ops : Array Oper) (l : List Oper) (fr : Fr) (st : Store) (fr' : Fr) (st' : Store) : Prop :=
  l.all (operOk n ops) = true → ∀ (S : Real) (F : Fence) (m : Nat) (a : Act) (Q : Exit → Act → World → Prop) (is : List Nat), WideF F → SR S st → FrR S fr n a.tmps → is.map (ops[·]?) = l.map some →
    (∀ a' S', SR S' st' → FrR S' fr' n a'.tmps → Ext S S' → a'.defers = a.defers → Q .normal a' S'.w) → wpOpsIn F m P ops Q is a S.w
def OpS (P : Program) (n : Nat) (o : Oper) (fr : Fr) (st : Store) (d : D) (st' : Store) : Prop :=
  opOk n o.op = true → noDefer o.op = true → ∀ (S : Real) (F : Fence) (m : Nat) (a : Act) (next : Act → World → Prop) (Q : Exit → Act → World → Prop), WideF F → SR S st → FrR S fr n a.tmps →
    (∀ v S', SR S' st' → Ext S S' → R S' d v → next (a.put o.dst v) S'.w) → o.wpIn F m P a S.w next Q
def CallS (P : Program) (f : FuncId) (args : List D) (st : Store) (d : D) (st' : Store) : Prop :=
  ∀ (S : Real) (vs : List Value), SR S st → RL S args vs → CallOk P S f vs.toArray d st'
def BodyS (P : Program) (f : FuncId) (args : List D) (st : Store) (d : D) (st' : Store) : Prop :=
  ∀ (S : Real) (vs : List Value), SR S st → RL S args vs → (callFunc f vs.toArray).run P S.w = .ok (.enter f vs.toArray) S.w ∧ ∀ n, CallsIn Fence.wide n P f vs.toArray S.w (Post S d st')
def YieldS (P : Program) (lid : Nat) (ds : List D) (st : Store) (d : D) (st' : Store) : Prop :=
  ∀ (S : Real) (F : Fence) (vs : List Value) (m : Nat) (l : Nat), WideF F → SR S st → RL S ds vs → R S (.yld lid) (.func (.yield l) #[] #[]) →
    ∃ f tmps asg body, (Instr.yield l vs.toArray).run P S.w = .ok (.round l f tmps asg body) S.w ∧ RoundIn F m P l f tmps asg body S.w (Post S d st')
theorem put_FrR {S : Real} {fr : Fr} {n : Nat} {a : Act} (h : FrR S fr n a.tmps) {d : D} {v : Value} (hr : R S d v) (dst : Option Tmp) : FrR S (put fr dst d) n (a.put dst v).tmps := by
  cases dst with
  | none => exact h
  | some t =>
    refine ⟨by simp [Act.put, h.1], fun i hi => ?_, h.2.2⟩
    simp only [put, upd, Act.put]
    by_cases e : i = t
    · subst e
      rw [if_pos rfl]
      simp only [Array.getD_eq_getD_getElem?]
      rw [Array.getElem?_setIfInBounds_self_of_lt (by rw [h.1]; exact hi)]
      exact hr
    · rw [if_neg e]
      simp only [Array.getD_eq_getD_getElem?]
      rw [Array.getElem?_setIfInBounds_ne (Ne.symm e)]
      have := h.2.1 i hi
      simpa only [Array.getD_eq_getD_getElem?] using this
theorem put_defers (a : Act) (dst : Option Tmp) (v : Value) : (a.put dst v).defers = a.defers := by cases dst <;> rfl
theorem undef_R (S : Real) : R S .undef Go.undef := by simp [R, RL, D.undef, Go.undef]
theorem wanted_R {S : Real} {fr : Fr} {n : Nat} {a : Act} (h : FrR S fr n a.tmps) {ops : Array Oper} {o : Oper} (hg : guardOk n ops o = true) : Region.wanted o (yielded ops a.tmps) = wantedM ops fr o := by
  unfold Region.wanted wantedM
  cases hgd : o.guard with
  | none => rfl
  | some jb =>
    obtain ⟨j, b⟩ := jb
    simp only [guardOk, hgd] at hg
    simp only [yielded]
    cases hd : (ops[j]?).bind (·.dst) with
    | none => rfl
    | some d =>
      rw [hd] at hg
      have hlt : d < n := by simpa using hg
      have hr := h.2.1 d hlt
      have hsz : d < a.tmps.size := by rw [h.1]; exact hlt
      have hget : a.tmps[d]? = some (a.tmps.getD d Go.undef) := by
        rw [Array.getElem?_eq_getElem hsz]
        simp [Array.getD, hsz]
      simp only [Option.bind_some, hget]
      generalize a.tmps.getD d Go.undef = v at hr
      generalize fr d = x at hr
      cases x <;> simp only [R] at hr
      case bool b' => subst hr; simp
      case int => subst hr; rfl
      case str => subst hr; rfl
      case nilp => subst hr; rfl
      case ptr => obtain ⟨_, rfl, _⟩ := hr; rfl
      case fptr => obtain ⟨_, _, _, rfl, _⟩ := hr; rfl
      case nils => subst hr; rfl
      case zsl => obtain ⟨_, rfl⟩ := hr; rfl
      case osl => obtain ⟨_, _, rfl, _⟩ := hr; rfl
      case fsl => obtain ⟨_, _, _, _, rfl, _⟩ := hr; rfl
      case fn => obtain ⟨_, rfl, _⟩ := hr; rfl
      case nilf => subst hr; rfl
      case yld => obtain ⟨_, rfl, _⟩ := hr; rfl
      case iface => obtain ⟨_, rfl, _⟩ := hr; rfl
      case nili => subst hr; rfl
      case agg => obtain ⟨_, rfl, _⟩ := hr; rfl
      case tup => obtain ⟨_, rfl, _⟩ := hr; rfl
end
section
variable {P : Program}
theorem WideF.depthNone {F : Fence} (h : WideF F) : F.depth.isSome = true → False := by rw [h.depth]; simp
theorem wp_value {S : Real} {F : Fence} {m : Nat} {a : Act} {next : Act → World → Prop} {Q : Exit → Act → World → Prop} (hF : WideF F) {o : Oper} (hnd : noDefer o.op = true) {st' : Store} {d : D}
    (h : Does P S (execOp a.eval o) st' d) (hn : ∀ v S', SR S' st' → Ext S S' → R S' d v → next (a.put o.dst v) S'.w) : o.wpIn F m P a S.w next Q := by
  refine ⟨fun f _ => hF.fn f, ?_⟩
  rw [Oper.semAt_eq F.round a.eval o (fun c hc => by rw [hc] at hnd; cases hnd)]
  obtain ⟨nx, v, S', hrun, hv, hS, hE, hR⟩ := h
  rw [hrun]
  rcases hv with rfl | ⟨rfl, rfl⟩
  · exact hn v S' hS hE hR
  · exact hn _ S' hS hE hR
theorem rds_args {S : Real} {fr : Fr} {n : Nat} {a : Act} (hf : FrR S fr n a.tmps) {args : Array Operand} (ho : ∀ x ∈ args.toList, opndOk n x = true) {ds : List D} (h : rds fr args.toList = some ds) :
    ∃ vs : List Value, args.map a.eval = vs.toArray ∧ RL S ds vs :=
  ⟨args.toList.map a.eval, by rw [← List.map_toArray], rds_R hf ho h⟩
theorem builtin_sound {S : Real} {st : Store} (hS : SR S st) {fr : Fr} {n : Nat} {a : Act} (hf : FrR S fr n a.tmps) {o : Oper} {c : Call} (hop : o.op = .call c) {b : Builtin} (hb : c.callee = .builtin b)
    (ho : ∀ x ∈ c.args.toList, opndOk n x = true) {ds : List D} (hds : rds fr c.args.toList = some ds) {d : D} {st' : Store} (h : builtinD P st b c.argTypes.toList ds = some (d, st')) :
    Does P S (execOp a.eval o) st' d := by
  obtain ⟨vs, hvs, hrl⟩ := rds_args hf ho hds
  have hex : execOp a.eval o = (do let d ← resolve a.eval c o.type; invoke d.target d.args) := by unfold execOp; rw [hop]
  rw [hex]
  have hr : ∃ cn, resolve a.eval c o.type = pure { target := .builtin b c.argTypes o.type cn, args := vs.toArray } := by
    unfold resolve; rw [hb, hvs]; exact ⟨_, rfl⟩
  obtain ⟨cn, hr⟩ := hr
  rw [hr]
  have go : ∀ {s : Sem Value}, (∀ x y z w : Unit, builtin b c.argTypes o.type cn vs.toArray = (do pure (.value (← s)))) → DoesV P S s st' d →
      Does P S (do let d ← pure ({ target := .builtin b c.argTypes o.type cn, args := vs.toArray } : Deferred); invoke d.target d.args) st' d := by
    intro s hs hd
    obtain ⟨nx, v, S', h1, h2⟩ := hd.does
    refine ⟨nx, v, S', ?_, h2⟩
    rw [Sem.run_bind, Sem.run_pure]
    simp only [Result.andThen, invoke]
    rw [hs () () () ()]
    exact h1
  unfold builtinD at h
  split at h
  · rename_i t ts x hts
    obtain ⟨z, hz, he⟩ := map_some h
    injection he with e1 e2; subst e1; subst e2
    simp only [RL] at hrl
    obtain ⟨v, vs', rfl, hx, rfl⟩ := hrl
    have h0 : c.argTypes[0]? = some t := by rw [← Array.getElem?_toList, hts]; rfl
    exact go (fun _ _ _ _ => rfl) (lenD_sound hS h0 hx hz)
  · rename_i ts x r
    obtain ⟨z, hz, he⟩ := map_some h
    injection he with e1 e2; subst e1; subst e2
    simp only [RL] at hrl
    obtain ⟨v, vs', rfl, hx, hr'⟩ := hrl
    obtain ⟨cv, g1, g2⟩ := fold_sound (P := P) (min_fg (P := P)) hr' hx hz
    exact go (s := Builtin.min_ c.argTypes o.type (v :: vs').toArray) (fun _ _ _ _ => rfl) (DoesV.same hS (by simpa [Builtin.min_] using g1) g2)
  · rename_i ts x r
    obtain ⟨z, hz, he⟩ := map_some h
    injection he with e1 e2; subst e1; subst e2
    simp only [RL] at hrl
    obtain ⟨v, vs', rfl, hx, hr'⟩ := hrl
    obtain ⟨cv, g1, g2⟩ := fold_sound (P := P) (max_fg (P := P)) hr' hx hz
    exact go (s := Builtin.max_ c.argTypes o.type (v :: vs').toArray) (fun _ _ _ _ => rfl) (DoesV.same hS (by simpa [Builtin.max_] using g1) g2)
  · rename_i t t2 s x hts
    simp only [RL] at hrl
    obtain ⟨v, vs', rfl, hs, w, ws, rfl, hx, rfl⟩ := hrl
    have h0 : c.argTypes = #[t, t2] := by apply Array.ext'; rw [hts]
    refine go (s := Builtin.append_ #[t, t2] o.type #[v, w]) (fun _ _ _ _ => by rw [h0]; rfl) (append_sound hS hs hx h)
  · rename_i t ts dd x hts
    simp only [RL] at hrl
    obtain ⟨v, vs', rfl, hs, w, ws, rfl, hx, rfl⟩ := hrl
    have h0 : c.argTypes[0]? = some t := by rw [← Array.getElem?_toList, hts]; rfl
    exact go (s := Builtin.copy_ c.argTypes o.type #[v, w]) (fun _ _ _ _ => rfl) (copy_sound hS h0 hs hx h)
  · rename_i t ts x hts
    simp only [RL] at hrl
    obtain ⟨v, vs', rfl, hx, rfl⟩ := hrl
    have h0 : c.argTypes[0]? = some t := by rw [← Array.getElem?_toList, hts]; rfl
    exact go (s := Builtin.clear_ c.argTypes o.type #[v]) (fun _ _ _ _ => rfl) (clear_sound hS h0 hx h)
  · cases h
theorem op_plain {n : Nat} {o : Oper} {fr : Fr} {st st' : Store} {d : D} (h : stepOp P fr st o.op = some (d, st')) : OpS P n o fr st d st' :=
  fun ho hnd S F m a next Q hF hS hf hn => wp_value hF hnd (step_sound hS hf ho h) hn
theorem call_operands {n : Nat} {o : Op} {c : Call} {f : Operand} (hop : o = .call c) (hc : c.callee = .value f) (ho : opOk n o = true) : opndOk n f = true ∧ ∀ x ∈ c.args.toList, opndOk n x = true := by
  subst hop
  have : ∀ x ∈ (Op.call c).operands.toList, opndOk n x = true := fun x hx => opOk_mem ho hx
  simp only [Op.operands, Call.operands, hc, Array.toList_append] at this
  exact ⟨this f (by simp), fun x hx => this x (List.mem_append_right _ hx)⟩
theorem op_call {n : Nat} {o : Oper} {fr : Fr} {st st' : Store} {d : D} {c : Call} {f : Operand} (hop : o.op = .call c) (hc : c.callee = .value f) {g : FuncId} {caps ds : List D}
    (hf : rd fr f = some (.fn g caps)) (hds : rds fr c.args.toList = some ds) (h : CallS P g (ds ++ caps) st d st') : OpS P n o fr st d st' := by
  intro ho hnd S F m a next Q hF hS hfr hn
  obtain ⟨of, oa⟩ := call_operands hop hc ho
  have hr := rd_R hfr of hf
  simp only [R] at hr
  obtain ⟨cv, hfv, hcv⟩ := hr
  obtain ⟨vs, hvs, hrl⟩ := rds_args hfr oa hds
  have hex : execOp a.eval o = (do let d ← resolve a.eval c o.type; invoke d.target d.args) := by unfold execOp; rw [hop]
  have hrun : (execOp a.eval o).run P S.w = (callFunc g (vs ++ cv).toArray).run P S.w := by
    rw [hex]
    simp only [resolve, hc, hfv, Deferred.ofValue, hvs, Sem.run_bind, Sem.run_pure, Result.andThen, invoke]
    congr 2
    simp
  refine ⟨fun f _ => hF.fn f, ?_⟩
  rw [Oper.semAt_eq F.round a.eval o (fun c hc => by rw [hc] at hnd; cases hnd), hrun]
  rcases h S (vs ++ cv) hS (RL_append hrl hcv) with ⟨v, S', h1, h2, h3, h4⟩ | ⟨h1, h2⟩
  · rw [h1]
    exact hn v S' h2 h3 h4
  · rw [h1]
    refine ⟨fun hx => (hF.depthNone hx).elim, (hF.calls (h2 (m - 1))).mono ?_⟩
    rintro e w' ⟨v, S', rfl, rfl, g1, g2, g3⟩
    exact hn v S' g1 g2 g3
theorem op_yield {n : Nat} {o : Oper} {fr : Fr} {st st' : Store} {d : D} {c : Call} {f : Operand} (hop : o.op = .call c) (hc : c.callee = .value f) {lid : Nat} {ds : List D}
    (hf : rd fr f = some (.yld lid)) (hds : rds fr c.args.toList = some ds) (h : YieldS P lid ds st d st') : OpS P n o fr st d st' := by
  intro ho hnd S F m a next Q hF hS hfr hn
  obtain ⟨of, oa⟩ := call_operands hop hc ho
  have hr := rd_R hfr of hf
  have hr0 := hr
  simp only [R] at hr
  obtain ⟨l, hfv, _⟩ := hr
  rw [hfv] at hr0
  obtain ⟨vs, hvs, hrl⟩ := rds_args hfr oa hds
  have hex : execOp a.eval o = (do let d ← resolve a.eval c o.type; invoke d.target d.args) := by unfold execOp; rw [hop]
  have hrun : (execOp a.eval o).run P S.w = (Instr.yield l vs.toArray).run P S.w := by
    rw [hex]
    simp only [resolve, hc, hfv, Deferred.ofValue, hvs, Sem.run_bind, Sem.run_pure, Result.andThen, invoke]
    congr 2
    simp
  refine ⟨fun f _ => hF.fn f, ?_⟩
  rw [Oper.semAt_eq F.round a.eval o (fun c hc => by rw [hc] at hnd; cases hnd), hrun]
  obtain ⟨fn, tm, asg, body, h1, h2⟩ := h S F vs (m - 1) l hF hS hrl hr0
  rw [h1]
  refine ⟨fun hx => (hF.depthNone hx).elim, h2.mono ?_⟩
  rintro e w' ⟨v, S', rfl, rfl, g1, g2, g3⟩
  exact hn v S' g1 g2 g3
theorem ops_nil {n : Nat} {ops : Array Oper} {fr : Fr} {st : Store} : OpsS P n ops [] fr st fr st := by
  intro _ S F m a Q is hF hS hf his hn
  have : is = [] := by simpa using his
  subst this
  exact hn a S hS hf hS.refl rfl
theorem ops_cons {n : Nat} {ops : Array Oper} {o : Oper} {rest : List Oper} {fr fr' : Fr} {st st1 st' : Store} {d : D} (hw : wantedM ops fr o = true) (h1 : OpS P n o fr st d st1)
    (h2 : OpsS P n ops rest (put fr o.dst d) st1 fr' st') : OpsS P n ops (o :: rest) fr st fr' st' := by
  intro hall S F m a Q is hF hS hf his hn
  simp only [List.all_cons, Bool.and_eq_true] at hall
  obtain ⟨ho, hall⟩ := hall
  simp only [operOk, Bool.and_eq_true] at ho
  obtain ⟨⟨ho1, ho2⟩, ho3⟩ := ho
  cases is with
  | nil => simp at his
  | cons i is =>
    simp only [List.map_cons, List.cons.injEq] at his
    obtain ⟨hi, his⟩ := his
    simp only [wpOpsIn, hi]
    rw [if_pos (by rw [wanted_R hf ho2]; exact hw)]
    refine h1 ho1 ho3 S F m a _ Q hF hS hf fun v S' hS' hE hR => ?_
    refine h2 hall S' F m (a.put o.dst v) Q is hF hS' (put_FrR (FrR_mono hE hf) hR o.dst) his fun a' S'' g1 g2 g3 g4 => ?_
    exact hn a' S'' g1 g2 (hE.trans g3) (by rw [g4, put_defers])
theorem ops_skip {n : Nat} {ops : Array Oper} {o : Oper} {rest : List Oper} {fr fr' : Fr} {st st' : Store} (hw : wantedM ops fr o = false)
    (h2 : OpsS P n ops rest (put fr o.dst .undef) st fr' st') : OpsS P n ops (o :: rest) fr st fr' st' := by
  intro hall S F m a Q is hF hS hf his hn
  simp only [List.all_cons, Bool.and_eq_true] at hall
  obtain ⟨ho, hall⟩ := hall
  simp only [operOk, Bool.and_eq_true] at ho
  obtain ⟨⟨ho1, ho2⟩, ho3⟩ := ho
  cases is with
  | nil => simp at his
  | cons i is =>
    simp only [List.map_cons, List.cons.injEq] at his
    obtain ⟨hi, his⟩ := his
    simp only [wpOpsIn, hi]
    rw [if_neg (by rw [wanted_R hf ho2, hw]; simp)]
    refine ⟨fun f _ => hF.fn f, ?_⟩
    refine h2 hall S F m (a.put o.dst Go.undef) Q is hF hS (put_FrR hf (undef_R S) o.dst) his fun a' S'' g1 g2 g3 g4 => ?_
    exact hn a' S'' g1 g2 g3 (by rw [g4, put_defers])
theorem code_region {n id : Nat} {ops : Array Oper} {fr fr' : Fr} {st st' : Store} (h : OpsS P n ops ops.toList fr st fr' st') : CodeS P n (.region id ops false) fr st .norm fr' st' := by
  intro S F m a Q hok hF hS hf hn
  simp only [codeOk] at hok
  refine wpIn_region (h hok S F m a Q _ hF hS hf ?_ fun a' S' g1 g2 g3 g4 => hn .normal a' S' .norm g1 g2 g3 (DefStep.refl F S a S' a' g4))
  apply List.ext_getElem?
  intro i
  by_cases hi : i < ops.size
  · simp [List.getElem?_range hi, hi]
  · rw [List.getElem?_eq_none (by simp; omega), List.getElem?_eq_none (by simp; omega)]
theorem code_seq {n : Nat} {x y : Code} {fr fr1 fr' : Fr} {st st1 st' : Store} {o : Out} (h1 : CodeS P n x fr st .norm fr1 st1) (h2 : CodeS P n y fr1 st1 o fr' st') : CodeS P n (.seq x y) fr st o fr' st' := by
  intro S F m a Q hok hF hS hf hn
  simp only [codeOk, Bool.and_eq_true] at hok
  refine wpIn_seq (h1 S F m a _ hok.1 hF hS hf fun e a1 S1 ho g1 g2 g3 g4 => ?_)
  cases ho
  exact h2 S1 F m a1 Q hok.2 hF g1 g2 fun e a' S' ho k1 k2 k3 k4 => hn e a' S' ho k1 k2 (g3.trans k3) (g4.trans k4 g3 k3)
theorem code_seq_out {n : Nat} {x y : Code} {fr fr' : Fr} {st st' : Store} {o : Out} (hne : o ≠ .norm) (h1 : CodeS P n x fr st o fr' st') : CodeS P n (.seq x y) fr st o fr' st' := by
  intro S F m a Q hok hF hS hf hn
  simp only [codeOk, Bool.and_eq_true] at hok
  refine wpIn_seq (h1 S F m a _ hok.1 hF hS hf fun e a1 S1 ho g1 g2 g3 g4 => ?_)
  cases ho
  · exact absurd rfl hne
  · exact hn _ a1 S1 .ret g1 g2 g3 g4
  · exact hn _ a1 S1 (.exit _) g1 g2 g3 g4
theorem code_cond {n : Nat} {c : Operand} {x y : Code} {fr fr' : Fr} {st st' : Store} {o : Out} {b : Bool} (hc : rd fr c = some (.bool b)) (h : CodeS P n (if b then x else y) fr st o fr' st') : CodeS P n (.cond c x y) fr st o fr' st' := by
  intro S F m a Q hok hF hS hf hn
  simp only [codeOk, Bool.and_eq_true] at hok
  have hr := rd_R hf hok.1.1 hc
  simp only [R] at hr
  refine wpIn_cond hr (h S F m a Q ?_ hF hS hf hn)
  cases b
  · exact hok.2
  · exact hok.1.2
theorem code_block {n id : Nat} {x : Code} {fr fr' : Fr} {st st' : Store} {o o' : Out} (h : CodeS P n x fr st o fr' st') (ho : (o = .exit id ∧ o' = .norm) ∨ (o ≠ .exit id ∧ o' = o)) : CodeS P n (.block id x) fr st o' fr' st' := by
  intro S F m a Q hok hF hS hf hn
  simp only [codeOk] at hok
  refine wpIn_block (h S F m a _ hok hF hS hf fun e a1 S1 hoe g1 g2 g3 g4 => ?_)
  rcases ho with ⟨rfl, rfl⟩ | ⟨hne, rfl⟩
  · cases hoe
    simp only [Exit.inBlock, if_true]
    exact hn _ a1 S1 .norm g1 g2 g3 g4
  · cases hoe
    · exact hn _ a1 S1 .norm g1 g2 g3 g4
    · exact hn _ a1 S1 .ret g1 g2 g3 g4
    · rename_i i
      simp only [Exit.inBlock]
      rw [if_neg (fun e => hne (by rw [e]))]
      exact hn _ a1 S1 (.exit _) g1 g2 g3 g4
end
section
variable {P : Program}
def RoundsS (P : Program) (n : Nat) (c : Code) (fr : Fr) (st : Store) (o : Out) (fr' : Fr) (st' : Store) (r : Nat) : Prop :=
  ∀ (S : Real) (F : Fence) (m : Nat) (a : Act) (Q : Exit → Act → World → Prop), codeOk F.round.isSome n c = true → WideF F → SR S st → FrR S fr n a.tmps →
    (∀ e a' S', OutR o e → SR S' st' → FrR S' fr' n a'.tmps → Ext S S' → DefStep F S S' a a' → Q e a' S'.w) → Code.roundsIn F m P c Q r a S.w
theorem round_go {n : Nat} {c : Code} {fr fr1 fr' : Fr} {st st1 st' : Store} {o : Out} {r : Nat} (h1 : CodeS P n c fr st .norm fr1 st1) (h2 : RoundsS P n c fr1 st1 o fr' st' r) : RoundsS P n c fr st o fr' st' (r + 1) := by
  intro S F m a Q hok hF hS hf hn
  rw [roundsIn_succ]
  refine h1 S F m a _ hok hF hS hf fun e a1 S1 ho g1 g2 g3 g4 => ?_
  cases ho
  exact h2 S1 F m a1 Q hok hF g1 g2 fun e a' S' ho k1 k2 k3 k4 => hn e a' S' ho k1 k2 (g3.trans k3) (g4.trans k4 g3 k3)
theorem round_out {n : Nat} {c : Code} {fr fr' : Fr} {st st' : Store} {o : Out} {r : Nat} (hne : o ≠ .norm) (h1 : CodeS P n c fr st o fr' st') : RoundsS P n c fr st o fr' st' (r + 1) := by
  intro S F m a Q hok hF hS hf hn
  rw [roundsIn_succ]
  refine h1 S F m a _ hok hF hS hf fun e a1 S1 ho g1 g2 g3 g4 => ?_
  cases ho
  · exact absurd rfl hne
  · exact hn _ a1 S1 .ret g1 g2 g3 g4
  · exact hn _ a1 S1 (.exit _) g1 g2 g3 g4
theorem code_loop {n : Nat} {c : Code} {fr fr' : Fr} {st st' : Store} {o : Out} {r : Nat} (h : RoundsS P n c fr st o fr' st' r) : CodeS P n (.loop c) fr st o fr' st' := by
  intro S F m a Q hok hF hS hf hn
  simp only [codeOk] at hok
  exact wpIn_loop_rounds r (h S F m a Q hok hF hS hf hn)
theorem loop_block {S : Real} {st : Store} (hS : SR S st) {id : Nat} {s : LoopState} {pend : Option Code} {fid : FuncId} {fr : Fr} {n : Nat} {ps : Array Tmp} {asg body : Code} (h : st[id]? = some (.loop s pend fid fr n ps asg body)) :
    ∃ (l : Loc) (tm : Array Value) (df fn : Nat), S.bl id = some l ∧ l.ver = 0 ∧ l.rw = true ∧ S.hot l.b ∧
      S.w.heap[l.b]? = some (.loop { state := s, pending := pend, fn := fn, tmps := tm, params := ps, assign := asg, body := body, defers := df }) ∧ codeOk true n asg = true ∧ codeOk true n body = true ∧ FrR S fr n tm := by
  have := hS.blk id _ h
  simpa only [RB] using this
theorem params_FrR {S : Real} {n : Nat} : ∀ {ps : List Tmp} {ds : List D} {vs : List Value} {fr fr' : Fr} {tm : Array Value}, RL S ds vs → FrR S fr n tm → params fr ps ds = some fr' →
    ps.length = vs.length ∧ FrR S fr' n ((ps.zip vs).foldl (fun tmps (x : Tmp × Value) => tmps.setIfInBounds x.1 x.2) tm) := by
  intro ps
  induction ps with
  | nil =>
    intro ds vs fr fr' tm hr hf h
    cases ds with
    | nil => simp only [params] at h; injection h with h; subst h; simp only [RL] at hr; subst hr; exact ⟨rfl, hf⟩
    | cons d ds => simp [params] at h
  | cons p ps ih =>
    intro ds vs fr fr' tm hr hf h
    cases ds with
    | nil => simp [params] at h
    | cons d ds =>
      simp only [params] at h
      simp only [RL] at hr
      obtain ⟨v, vs', rfl, hd, hr'⟩ := hr
      have := put_FrR (a := { tmps := tm, defers := [] }) hf hd (some p)
      obtain ⟨g1, g2⟩ := ih hr' this h
      exact ⟨by simp [g1], by simpa [Act.put] using g2⟩
theorem loop_write {S : Real} {st : Store} (hS : SR S st) {id : Nat} {s s' : LoopState} {pend pend' : Option Code} {fid : FuncId} {fr : Fr} {n : Nat} {ps : Array Tmp} {asg body : Code} (h : st[id]? = some (.loop s pend fid fr n ps asg body))
    {l : Loc} {tm : Array Value} {df fn : Nat} (h1 : S.bl id = some l) (h2 : l.ver = 0) (hw : l.rw = true) (h3 : S.hot l.b)
    (h4 : S.w.heap[l.b]? = some (.loop { state := s, pending := pend, fn := fn, tmps := tm, params := ps, assign := asg, body := body, defers := df })) (hc1 : codeOk true n asg = true) (hc2 : codeOk true n body = true) (h5 : FrR S fr n tm) :
    SR (S.write l.b (.loop { state := s', pending := pend', fn := fn, tmps := tm, params := ps, assign := asg, body := body, defers := df })) (st.set id (.loop s' pend' fid fr n ps asg body)) ∧
    Ext S (S.write l.b (.loop { state := s', pending := pend', fn := fn, tmps := tm, params := ps, assign := asg, body := body, defers := df })) := by
  have hE := write_ext hS h1 hw h3 (.loop { state := s', pending := pend', fn := fn, tmps := tm, params := ps, assign := asg, body := body, defers := df })
  refine ⟨write_SR hS h1 hw h3 _ _ (id_lt h) ?_, hE⟩
  simp only [RB]
  exact ⟨l, tm, df, fn, h1, h2, hw, h3, putObj_get (block_lt h4), hc1, hc2, FrR_mono hE h5⟩
theorem yield_sound {n : Nat} {lid : Nat} {ds : List D} {st st2 st4 : Store} {pend q q4 : Option Code} {fid fid' fid4 : FuncId} {fr fr1 fr2 fr' fr3 fr4 : Fr} {n' n4 : Nat} {ps ps' ps4 : Array Tmp} {asg body asg' body' asg4 body4 : Code} {o : Out} {s4 : LoopState}
    (h0 : st[lid]? = some (.loop .ready pend fid fr n ps asg body)) (hp : params fr ps.toList ds = some fr1) (h1 : CodeS P n asg fr1 st .norm fr2 st2)
    (h2 : st2[lid]? = some (.loop .ready q fid' fr' n' ps' asg' body')) (h3 : CodeS P n body fr2 (st2.set lid (.loop .busy q fid' fr' n' ps' asg' body')) o fr3 st4)
    (h4 : st4[lid]? = some (.loop s4 q4 fid4 fr4 n4 ps4 asg4 body4)) :
    YieldS P lid ds st (.bool (jumpOf o).isNone) (st4.set lid (.loop (if (jumpOf o).isNone then .ready else .done) (jumpOf o) fid4 fr4 n4 ps4 asg4 body4)) := by
  intro S F vs m l hF hS hr hy
  obtain ⟨lc, tm, df, fn, k1, k2, kw, k3, k4, kc1, kc2, k5⟩ := loop_block hS h0
  simp only [R] at hy
  obtain ⟨l', e, hid, hl⟩ := hy
  injection e with e _ _; injection e with e; subst e
  have hlb := (hl lc k1).2 k2.symm
  subst hlb
  obtain ⟨hlen, hfr1⟩ := params_FrR hr k5 hp
  have hsz : vs.toArray.size = ps.size := by simpa using hlen.symm
  refine ⟨fn, _, asg, body, run_yield k4 hsz, ?_⟩
  refine roundIn_of_wpIn (hF.fn fn) ?_
  have hF' := hF.inRound lc.b
  have hfold : FrR S fr1 n ((ps.zip vs.toArray).foldl (fun tmps (x : Tmp × Value) => tmps.setIfInBounds x.1 x.2) tm) := by
    rw [← Array.foldl_toList, Array.toList_zip]
    exact hfr1
  refine h1 S (F.inRound lc.b) m _ _ kc1 hF' hS hfold fun e a1 S1 ho g1 g2 g3 g4 => ?_
  cases ho
  simp only [Exit.then]
  obtain ⟨lc2, tm2, df2, fn2, p1, p2, pw, p3, p4, pc1, pc2, p5⟩ := loop_block g1 h2
  have hlid : lid < S.n := hid
  have sameloc : ∀ (S1 : Real) (lc2 : Loc), Ext S S1 → S1.bl lid = some lc2 → lc2.ver = 0 → lc2.b = lc.b := by
    intro S1 lc2 hE p1 p2
    obtain ⟨l0, q1, q2⟩ := hE.live lid lc2 hlid p1
    rw [k1] at q1; injection q1 with q1; subst q1
    rcases q2 with rfl | ⟨hv, _⟩
    · rfl
    · omega
  have hb2 := sameloc S1 lc2 g3 p1 p2
  obtain ⟨w1, w2⟩ := loop_write (s' := .busy) (pend' := q) g1 h2 p1 p2 pw p3 p4 pc1 pc2 p5
  refine ⟨(S1.write lc2.b (.loop { state := .busy, pending := q, fn := fn2, tmps := tm2, params := ps', assign := asg', body := body', defers := df2 })).w, by rw [← hb2]; exact run_beginRound p4 rfl, ?_⟩
  · refine h3 (S1.write lc2.b (.loop { state := .busy, pending := q, fn := fn2, tmps := tm2, params := ps', assign := asg', body := body', defers := df2 })) (F.inRound lc.b) m a1 _ kc2 hF' w1 (FrR_mono w2 g2) fun e a2 S2 ho r1 r2 r3 r4 => ?_
    obtain ⟨lc4, tm4, df4, fn4, u1, u2, uw, u3, u4, uc1, uc2, u5⟩ := loop_block r1 h4
    have hE2 := (g3.trans w2).trans r3
    have hb4 := sameloc S2 lc4 hE2 u1 u2
    have fin : ∀ jump, ∃ v w', (Instr.endRound lc.b jump).run P S2.w = .ok v w' ∧ (jump = jumpOf o → Post S (.bool (jumpOf o).isNone) (st4.set lid (.loop (if (jumpOf o).isNone then .ready else .done) (jumpOf o) fid4 fr4 n4 ps4 asg4 body4)) (.returned v) w') := by
      intro jump
      rw [← hb4]
      refine ⟨_, _, run_endRound jump u4, ?_⟩
      rintro rfl
      obtain ⟨z1, z2⟩ := loop_write (s' := if (jumpOf o).isNone then .ready else .done) (pend' := jumpOf o) r1 h4 u1 u2 uw u3 u4 uc1 uc2 u5
      exact ⟨_, S2.write lc4.b (.loop { state := if (jumpOf o).isNone then .ready else .done, pending := jumpOf o, fn := fn4, tmps := tm4, params := ps4, assign := asg4, body := body4, defers := df4 }), rfl, rfl, z1, hE2.trans z2, by simp only [R]⟩
    cases ho
    · obtain ⟨v, w', f1, f2⟩ := fin none
      exact ⟨v, w', f1, f2 rfl⟩
    · obtain ⟨v, w', f1, f2⟩ := fin (some .ret)
      exact ⟨v, w', f1, f2 rfl⟩
    · rename_i id
      obtain ⟨v, w', f1, f2⟩ := fin (some (.exit id))
      exact ⟨v, w', f1, f2 rfl⟩
def Real.junk (S : Real) (o : Obj) : Real := { S with w := wpush S.w o }
theorem junk_ext {S : Real} {st : Store} (h : SR S st) (o : Obj) : Ext S (S.junk o) where
  size := by simp only [Real.junk, alloc_size]; omega
  n := Nat.le_refl _
  keep b hb _ := alloc_get hb
  hot1 b hb hh := hh
  hot2 b hh _ := hh
  live i l' hi hl := ⟨l', hl, .inl rfl⟩
  new i l' hi hl := by rw [show (S.junk o).bl = S.bl from rfl, h.out i hi] at hl; cases hl
  os := rfl
  tape := rfl
  output := rfl
  hlt := h.hlt
theorem junk_SR {S : Real} {st : Store} (h : SR S st) (o : Obj) : SR (S.junk o) st where
  glob := GR_mono (junk_ext h o).w h.glob
  len := h.len
  blk id b hb := RB_mono (junk_ext h o) rfl (fun l hl => ⟨alloc_get (h.lt id l hl), Iff.rfl⟩) (h.blk id b hb)
  out := h.out
  inj := h.inj
  lt i l hl := by have := h.lt i l hl; simp only [Real.junk, alloc_size]; omega
  hlt b hb := by have := h.hlt b hb; simp only [Real.junk, alloc_size]; omega
theorem popLoop_some {st st'' : Store} {lid : Nat} {o : Out} (h : popLoop st lid = some (o, st'')) : ∃ s pend fid fr n ps asg body, st[lid]? = some (.loop s pend fid fr n ps asg body) ∧ s ≠ .busy ∧
    pend = jumpOf o ∧ st'' = st.set lid (.loop .exhausted pend fid fr n ps asg body) := by
  unfold popLoop at h
  split at h
  · rename_i s pend fid fr n ps asg body hb
    split at h
    · cases h
    · rename_i hs
      refine ⟨s, pend, fid, fr, n, ps, asg, body, hb, hs, ?_⟩
      split at h <;> first | (injection h with h; injection h with e1 e2; subst e1; subst e2; exact ⟨rfl, rfl⟩) | cases h
  · cases h
theorem code_range {n : Nat} {f : Operand} {ps : Array Tmp} {asg body : Code} {fid : FuncId} {fr : Fr} {st st' st'' : Store} {g : FuncId} {caps : List D} {d : D} {o : Out} (hf : rd fr f = some (.fn g caps))
    (hc : BodyS P g (.yld st.length :: caps) (st ++ [.loop .ready none fid fr n ps asg body]) d st') (hp : popLoop st' st.length = some (o, st'')) : CodeS P n (.rangeFunc f ps asg body) fr st o fr st'' := by
  intro S F m a Q hok hF hS hfr hn
  simp only [codeOk, Bool.and_eq_true] at hok
  obtain ⟨⟨⟨hr0, hof⟩, hok1⟩, hok2⟩ := hok
  have hFw : F = Fence.wide := by
    rcases hF with h | ⟨l, rfl⟩
    · exact h
    · simp at hr0
  subst hFw
  have hro : Fence.wide.round = none := rfl
  have hr := rd_R hfr hof hf
  simp only [R] at hr
  obtain ⟨cv, hfv, hcv⟩ := hr
  refine wpIn_rangeFunc fun fn _ => ?_
  have hS1 := junk_SR hS (.deferred (some []))
  have hE1 := junk_ext hS (.deferred (some []))
  let rec' : Obj := .loop { state := .ready, pending := none, fn := fn, tmps := a.tmps, params := ps, assign := asg, body := body, defers := S.w.heap.size }
  have hE2 := push_ext hS1 rec' 0
  have hS2 : SR ((S.junk (.deferred (some []))).push rec' 0) (st ++ [.loop .ready none fid fr n ps asg body]) := by
    refine push_SR hS1 _ _ _ ?_
    simp only [RB]
    exact ⟨⟨0, (S.junk (.deferred (some []))).w.heap.size, 0, true, 0, fun _ => rfl⟩, a.tmps, S.w.heap.size, fn, by simp [Real.push, setf], rfl, rfl, .inr rfl, alloc_new _ _, hok1, hok2, FrR_mono (hE1.trans hE2) hfr⟩
  have hsz : (S.junk (.deferred (some []))).w.heap.size = S.w.heap.size + 1 := alloc_size _ _
  have hy : R ((S.junk (.deferred (some []))).push rec' 0) (.yld st.length) (.func (.yield (S.w.heap.size + 1)) #[] #[]) := by
    simp only [R]
    refine ⟨_, rfl, by simp [Real.push, Real.junk, hS.len], fun l hl => ?_⟩
    simp only [Real.push, Real.junk, setf, hS.len, if_true] at hl
    injection hl with hl; subst hl
    exact ⟨Nat.le_refl _, fun _ => (alloc_size _ _).symm⟩
  have hrl : RL ((S.junk (.deferred (some []))).push rec' 0) (.yld st.length :: caps) (.func (.yield (S.w.heap.size + 1)) #[] #[] :: cv) := by
    simp only [RL]
    exact ⟨_, _, rfl, hy, RL_mono (hE1.trans hE2) _ _ hcv⟩
  obtain ⟨henter, hcalls⟩ := hc _ _ hS2 hrl
  refine ⟨S.w.heap.size + 1, [{ target := .collected S.w.heap.size, args := #[] }], ((S.junk (.deferred (some []))).push rec' 0).w, { target := .fn (.func g) cv.toArray, args := #[.func (.yield (S.w.heap.size + 1)) #[] #[]] }, ((S.junk (.deferred (some []))).push rec' 0).w, g, (.func (.yield (S.w.heap.size + 1)) #[] #[] :: cv).toArray, ((S.junk (.deferred (some []))).push rec' 0).w, ?_, ?_, fun f' _ => trivial, ?_, fun h => by simp [Fence.wide] at h, ?_⟩
  · exact run_enterLoop_outer fn a.tmps ps asg body
  · simp only [resolve, rangeCall, hfv, Deferred.ofValue, Sem.run_pure]
    simp [Act.eval]
  · simp only [invoke]
    rw [show #[Value.func (.yield (S.w.heap.size + 1)) #[] #[]] ++ cv.toArray = (.func (.yield (S.w.heap.size + 1)) #[] #[] :: cv).toArray by simp]
    exact henter
  · refine (hcalls (m - 1)).mono ?_
    rintro e w' ⟨v, S3, rfl, rfl, g1, g2, g3⟩
    obtain ⟨s, pend, fid', fr', n', ps', asg', body', hb, hs, hpend, rfl⟩ := popLoop_some hp
    obtain ⟨lc, tm, df, fn', u1, u2, uw, u3, u4, uc1, uc2, u5⟩ := loop_block g1 hb
    have hE := (hE1.trans hE2).trans g2
    have hloc : lc.b = S.w.heap.size + 1 := by
      have hlt : st.length < ((S.junk (.deferred (some []))).push rec' 0).n := by simp [Real.push, Real.junk, hS.len]
      obtain ⟨l0, q1, q2⟩ := g2.live st.length lc hlt u1
      simp only [Real.push, Real.junk, setf, hS.len, if_true] at q1
      injection q1 with q1; subst q1
      rcases q2 with rfl | ⟨hv, _⟩
      · exact alloc_size _ _
      · omega
    obtain ⟨z1, z2⟩ := loop_write (s' := .exhausted) (pend' := pend) g1 hb u1 u2 uw u3 u4 uc1 uc2 u5
    simp only [rangePost]
    refine ⟨pend, (S3.write lc.b (.loop { state := .exhausted, pending := pend, fn := fn', tmps := tm, params := ps', assign := asg', body := body', defers := df })).w, ?_, ?_⟩
    · rw [← hloc]
      exact run_endLoop u4 hs
    · have hmark : MarksOk S.w.heap.size ((S.junk (.deferred (some []))).push rec' 0) [S.w.heap.size] := by
        refine ⟨by simp, fun r hr => ?_⟩
        simp only [List.mem_singleton] at hr
        subst hr
        refine ⟨Nat.le_refl _, ?_, ?_, fun i l hl => ?_⟩
        · have h0 : (S.junk (.deferred (some []))).w.heap[S.w.heap.size]? = some (.deferred (some [])) := alloc_new _ _
          rw [← h0]
          exact alloc_get (by rw [hsz]; omega)
        · rintro (hh | hh)
          · have := hS.hlt _ hh; omega
          · rw [hsz] at hh; omega
        · simp only [Real.push, setf] at hl
          split at hl
          · injection hl with hl; subst hl; simp only [hsz]; omega
          · have := hS.lt i l hl; omega
      have hfin : Ext S (S3.write lc.b (.loop { state := .exhausted, pending := pend, fn := fn', tmps := tm, params := ps', assign := asg', body := body', defers := df })) := hE.trans z2
      have hds : DefStep Fence.wide S (S3.write lc.b (.loop { state := .exhausted, pending := pend, fn := fn', tmps := tm, params := ps', assign := asg', body := body', defers := df })) a
          { a with defers := [{ target := .collected S.w.heap.size, args := #[] }] ++ a.defers } :=
        ⟨[S.w.heap.size], rfl, hmark.ext (g2.trans z2), fun h => absurd hro h⟩
      have hfr' := FrR_mono hfin hfr
      subst hpend
      cases o with
      | norm => exact hn .normal _ _ .norm z1 hfr' hfin hds
      | ret => exact wpIn_ret (hn .ret _ _ .ret z1 hfr' hfin hds)
      | exit id => exact wpIn_exit (hn (.exit id) _ _ (.exit id) z1 hfr' hfin hds)
def resV (tm : Array Value) : ResultVar → Sem Value
  | .tmp t => pure (tm.getD t Go.undef)
  | .cell a t => do loadVar t (← asAddr (tm.getD a Go.undef))
theorem res_sound {S : Real} {st : Store} (hS : SR S st) {fr : Fr} {n : Nat} {tm : Array Value} (hf : FrR S fr n tm) : ∀ {rs : List ResultVar} {l : List D},
    rs.all (resVarOk n) = true → resOf P fr st rs = some l → ∃ vs, (rs.mapM (resV tm)).run P S.w = .ok vs S.w ∧ RL S l vs := by
  intro rs
  induction rs with
  | nil => intro l _ h; simp only [resOf] at h; injection h with h; subst h; exact ⟨[], by simp [Sem.run_pure], by simp [RL]⟩
  | cons r rs ih =>
    intro l hall h
    simp only [List.all_cons, Bool.and_eq_true] at hall
    cases r with
    | tmp t =>
      simp only [resOf] at h
      split at h
      · rename_i l' hl'
        injection h with h; subst h
        obtain ⟨vs, h1, h2⟩ := ih hall.2 hl'
        refine ⟨tm.getD t Go.undef :: vs, ?_, by simp only [RL]; exact ⟨_, _, rfl, hf.2.1 t (by simpa [resVarOk] using hall.1), h2⟩⟩
        simp only [List.mapM_cons, resV, Sem.run_bind, Sem.run_pure, Result.andThen, h1]
      · cases h
    | cell a t =>
      simp only [resOf] at h
      split at h
      · rename_i id ver off l' ha hl'
        split at h
        · rename_i v rw' ty cs hb
          split at h
          · rename_i hv
            subst hv
            split at h
            · rename_i d hd
              injection h with h; subst h
              obtain ⟨vs, h1, h2⟩ := ih hall.2 hl'
              have hra := hf.2.1 a (by simpa [resVarOk] using hall.1)
              rw [ha] at hra
              obtain ⟨x, S', g1, g2, g3, g4⟩ := load_ptr (P := P) hS hb hra hd
              obtain ⟨ad, had⟩ := R_ptr_some hra
              rw [had] at g1
              have hrun : (loadVar t ad).run P S.w = .ok x S.w ∧ R S d x := by
                obtain ⟨lc, vs0, vs1, vs2, frz, q1, q2, q3, q4, q5, q6, q0, _⟩ := block_of hS hb
                rw [had] at hra
                simp only [R] at hra
                obtain ⟨a', e, _, hl⟩ := hra
                injection e with e; injection e with e; subst e
                have := (hl lc q1).2 q2.symm
                subst this
                obtain ⟨x', hx', hR'⟩ := ld_sound (P := P) (b := lc.b) (o := lc.base) q5 (One_append.1 (One_append.1 q6).2).1 (by rw [← q0]; exact at_base q3) hd
                have : x' = x := by
                  have e1 : (Instr.loadAt t (.pointer (some ⟨lc.b, lc.base + off, none⟩))).run P S.w = .ok x' S.w := by
                    simpa [Instr.loadAt, Instr.sureAddr, Sem.run_bind, Result.andThen, Sem.run, pure] using hx'
                  rw [g1] at e1
                  injection e1 with e1 _
                  exact e1.symm
                subst this
                exact ⟨hx', hR'⟩
              refine ⟨x :: vs, ?_, by simp only [RL]; exact ⟨_, _, rfl, hrun.2, h2⟩⟩
              simp only [List.mapM_cons, resV, Sem.run_bind, had, asAddr, Sem.run_pure, Result.andThen, hrun.1, h1]
            · cases h
          · cases h
        · cases h
      · cases h
theorem results_eq (fn : Func) (tm : Array Value) : results fn tm = (do
    let vs ← fn.results.mapM (resV tm)
    pure (if h : vs.size = 1 then vs[0] else .tuple vs)) := by
  unfold results
  congr 1
theorem results_sound {S : Real} {st : Store} (hS : SR S st) {fr : Fr} {fn : Func} {tm : Array Value} (hf : FrR S fr fn.ntmps tm) {l : List D} (hall : fn.results.toList.all (resVarOk fn.ntmps) = true)
    (h : resOf P fr st fn.results.toList = some l) : ∃ v, (results fn tm).run P S.w = .ok v S.w ∧ R S (resD l) v := by
  obtain ⟨vs, h1, h2⟩ := res_sound (P := P) hS hf hall h
  rw [results_eq, Array.mapM_eq_mapM_toList]
  have hrun : (do let x ← (do let l ← fn.results.toList.mapM (resV tm); pure l.toArray); pure (if h : x.size = 1 then x[0] else .tuple x) : Sem Value).run P S.w = .ok (if h : vs.toArray.size = 1 then vs.toArray[0] else .tuple vs.toArray) S.w := by
    simp only [Sem.run_bind, h1, Result.andThen, Sem.run_pure]
  refine ⟨if h : vs.toArray.size = 1 then vs.toArray[0] else .tuple vs.toArray, ?_, ?_⟩
  · first
      | exact hrun
      | (simp only [Functor.map, Sem.run_bind, h1, Result.andThen, Sem.run_pure] at hrun ⊢)
  · cases l with
    | nil => simp only [RL] at h2; subst h2; simp only [resD]; rw [dif_neg (by simp)]; simp only [R]; exact ⟨[], rfl, by simp only [RL]⟩
    | cons d l =>
      cases l with
      | nil =>
        simp only [RL] at h2
        obtain ⟨v, vs', rfl, hv, rfl⟩ := h2
        simp only [resD]
        rw [dif_pos (by simp)]
        exact hv
      | cons d2 l =>
        have hl := RL_length h2
        simp only [resD]
        rw [dif_neg (by simp only [List.size_toArray, ← hl, List.length_cons]; omega)]
        simp only [R]
        exact ⟨vs, rfl, h2⟩
end
section
variable {P : Program}
theorem frOf_FrR {S : Real} {st : Store} (hS : SR S st) {args : List D} {vs : List Value} {n : Nat} (hr : RL S args vs) (hn : args.length ≤ n) : FrR S (frOf args) n (vs.toArray ++ Array.replicate (n - vs.toArray.size) Go.undef) := by
  have hl := RL_length hr
  refine ⟨by simp; omega, fun i hi => ?_, hS.glob⟩
  simp only [Array.getD_eq_getD_getElem?]
  unfold frOf
  by_cases hlt : i < vs.length
  · rw [Array.getElem?_append_left (by simpa using hlt)]
    have : args[i]? = some args[i] := List.getElem?_eq_getElem (by omega)
    obtain ⟨v, hv, hR⟩ := RL_get hr this
    rw [this]
    simp only [List.getElem?_toArray, hv, Option.getD_some]
    exact hR
  · rw [List.getElem?_eq_none (by omega), Array.getElem?_append_right (by simp; omega)]
    simp only [List.size_toArray, Array.getElem?_replicate]
    rw [if_pos (by omega)]
    exact undef_R S
theorem leaves_marks {n : Nat} {fn : Func} {tm : Array Value} {B : Nat} {st' : Store} {S0 : Real} (hB : B = S0.w.heap.size) {fr : Fr} {l : List D} (hall : fn.results.toList.all (resVarOk fn.ntmps) = true)
    (hres : resOf P fr st' fn.results.toList = some l) : ∀ (rs : List Nat) (S : Real), SR S st' → Ext S0 S → MarksOk B S rs → FrR S fr fn.ntmps tm →
    LeavesInM Fence.wide n P fn tm (Post S0 (resD l) st') (marksOf rs) .returning S.w := by
  intro rs
  induction rs with
  | nil =>
    intro S hS hE _ hf
    obtain ⟨v, h1, h2⟩ := results_sound (P := P) hS hf hall hres
    exact ⟨v, h1, v, S, rfl, rfl, hS, hE, h2⟩
  | cons r rs ih =>
    intro S hS hE hm hf
    obtain ⟨hnd, hm⟩ := hm
    obtain ⟨h1, h2, h3, h4⟩ := hm r (by simp)
    have hlt := block_lt h2
    refine ⟨by simp, .inl ⟨r, S.w.putObj r (.deferred none), rfl, run_takeDeferred h2, ?_⟩⟩
    have hE' : Ext S0 (S.write r (.deferred none)) := by
      refine { size := ?_, n := hE.n, keep := ?_, hot1 := hE.hot1, hot2 := hE.hot2, live := hE.live, new := hE.new, os := hE.os, tape := hE.tape, output := hE.output, hlt := hE.hlt }
      · have := hE.size; simpa [Real.write] using this
      · intro b hb hn
        rw [← hE.keep b hb hn]
        exact World.putObj_heap_other (by omega)
    have hW : ExtW S (S.write r (.deferred none)) := by
      refine { n := Nat.le_refl _, keep := fun b cs t fr hh hb => ?_, hot1 := fun b _ h => h, live := fun i l' _ hl => ⟨l', hl, .inl rfl⟩ }
      refine World.putObj_heap_other (fun e => ?_)
      subst e
      rw [h2] at hb; cases hb
    have hS' : SR (S.write r (.deferred none)) st' := by
      refine { len := hS.len, blk := fun id b hb => ?_, out := hS.out, inj := hS.inj, lt := fun i l hl => by simpa [Real.write] using hS.lt i l hl, hlt := fun b hb => by simpa [Real.write] using hS.hlt b hb, glob := GR_mono hW hS.glob }
      refine RB_monoW hW rfl (fun l hl => ⟨?_, Iff.rfl⟩) (hS.blk id b hb)
      exact World.putObj_heap_other (h4 id l hl)
    refine ih (S.write r (.deferred none)) hS' hE' ⟨(List.nodup_cons.1 hnd).2, fun r' hr' => ?_⟩ (FrR_monoW hW hf)
    · obtain ⟨k1, k2, k3, k4⟩ := hm r' (List.mem_cons_of_mem _ hr')
      refine ⟨k1, ?_, k3, k4⟩
      rw [← k2]
      refine World.putObj_heap_other (fun e => ?_)
      subst e
      exact (List.nodup_cons.1 hnd).1 hr'
theorem body_sound {f : FuncId} {fn : Func} {c : Code} {args : List D} {st st' : Store} {o : Out} {fr : Fr} {l : List D} (hfn : P.funcs[f]? = some fn) (hb : fn.body = some c) (hok : funcOk fn = true) (hn : args.length ≤ fn.ntmps)
    (ho : o = .norm ∨ o = .ret) (h : CodeS P fn.ntmps c (frOf args) st o fr st') (hres : resOf P fr st' fn.results.toList = some l) : BodyS P f args st (resD l) st' := by
  intro S vs hS hr
  simp only [funcOk, hb, Bool.and_eq_true] at hok
  obtain ⟨⟨hname, hall⟩, hcode⟩ := hok
  refine ⟨?_, fun n => ?_⟩
  · have : (fn.name == "runtime.NumGoroutine") = false := by simpa [bne] using hname
    simp only [callFunc, Sem.run_bind, run_program, Result.andThen, hfn, this, hb, Option.isNone_some, Bool.false_eq_true, if_false, Sem.run_pure]
  · refine callsIn_of_wp_marks hfn hb trivial ?_ rfl
    refine h S Fence.wide n _ _ hcode (.inl rfl) hS (frOf_FrR hS hr hn) fun e a' S' hoe g1 g2 g3 g4 => ?_
    obtain ⟨rs, e1, m1, _⟩ := g4
    simp only [List.append_nil] at e1
    have hl := leaves_marks (P := P) (n := n) (fn := fn) (tm := a'.tmps) (B := S.w.heap.size) rfl hall hres rs S' g1 g3 m1 g2
    rcases ho with rfl | rfl <;> cases hoe <;> simp only [bodyPostM] <;> rw [e1] <;> exact hl
structure Ren (S S' : Real) (f : Nat → Option Nat) : Prop where
  w : S'.w = S.w
  hot : ∀ b, S'.hot b → S.hot b
  lt : ∀ i j, f i = some j → j < S'.n
  bl : ∀ i j l', f i = some j → S'.bl j = some l' → ∃ l, S.bl i = some l ∧ l.ver = l'.ver ∧ l.b = l'.b ∧ l.sz = l'.sz ∧ l.base = l'.base
theorem Ren.row {S S' : Real} {f : Nat → Option Nat} (h : Ren S S' f) {b o : Nat} {vs : List Value} (hr : Row S b o vs) : Row S' b o vs := by
  rcases hr with hr | ⟨h1, h2⟩
  · exact .inl hr
  · exact .inr ⟨fun hh => h1 (h.hot b hh), by rw [h.w]; exact h2⟩
mutual
theorem ren_R {S S' : Real} {f : Nat → Option Nat} (h : Ren S S' f) : (d : D) → (d' : D) → (v : Value) → ren f d = some d' → R S d v → R S' d' v
  | .bool _, _, _, e, hr => by simp only [ren] at e; injection e with e; subst e; simpa only [R] using hr
  | .int _ _, _, _, e, hr => by simp only [ren] at e; injection e with e; subst e; simpa only [R] using hr
  | .str _, _, _, e, hr => by simp only [ren] at e; injection e with e; subst e; simpa only [R] using hr
  | .nilp, _, _, e, hr => by simp only [ren] at e; injection e with e; subst e; simpa only [R] using hr
  | .nils, _, _, e, hr => by simp only [ren] at e; injection e with e; subst e; simpa only [R] using hr
  | .zsl, _, _, e, hr => by simp only [ren] at e; injection e with e; subst e; simpa only [R] using hr
  | .nilf, _, _, e, hr => by simp only [ren] at e; injection e with e; subst e; simpa only [R] using hr
  | .nili, _, _, e, hr => by simp only [ren] at e; injection e with e; subst e; simpa only [R] using hr
  | .yld _, _, _, e, _ => by simp [ren] at e
  | .ptr id ver off, _, _, e, hr => by
    simp only [ren] at e
    split at e
    · rename_i j hj
      injection e with e; subst e
      simp only [R] at hr ⊢
      obtain ⟨a, h1, h2, h3⟩ := hr
      refine ⟨a, h1, h.lt id j hj, fun l' hl' => ?_⟩
      obtain ⟨l, g1, g2, g3, g4, g5⟩ := h.bl id j l' hj hl'
      rw [← g2, ← g3, ← g5]
      exact h3 l g1
    · cases e
  | .osl id ver esz off len, _, _, e, hr => by
    simp only [ren] at e
    split at e
    · rename_i j hj
      injection e with e; subst e
      simp only [R] at hr ⊢
      obtain ⟨a, cap, h1, hc, h2, h3⟩ := hr
      refine ⟨a, cap, h1, hc, h.lt id j hj, fun l' hl' => ?_⟩
      obtain ⟨l, g1, g2, g3, g4, g5⟩ := h.bl id j l' hj hl'
      rw [← g2, ← g3, ← g4, ← g5]
      exact h3 l g1
    · cases e
  | .fptr cs off, _, _, e, hr => by
    simp only [ren] at e
    split at e
    · rename_i l hl
      injection e with e; subst e
      simp only [R] at hr ⊢
      obtain ⟨b, o, vs, h1, h2, h3, h4⟩ := hr
      exact ⟨b, o, vs, h1, ren_RL h cs l vs hl h2, h.row h3, h4⟩
    · cases e
  | .fsl len cs, _, _, e, hr => by
    simp only [ren] at e
    split at e
    · rename_i l hl
      injection e with e; subst e
      simp only [R] at hr ⊢
      obtain ⟨b, o, vs, cap, h1, hc, h2, h3, h4⟩ := hr
      exact ⟨b, o, vs, cap, h1, hc, ren_RL h cs l vs hl h2, h.row h3, h4⟩
    · cases e
  | .fn g cs, _, _, e, hr => by
    simp only [ren] at e
    split at e
    · rename_i l hl
      injection e with e; subst e
      simp only [R] at hr ⊢
      obtain ⟨vs, h1, h2⟩ := hr
      exact ⟨vs, h1, ren_RL h cs l vs hl h2⟩
    · cases e
  | .iface t d, _, _, e, hr => by
    simp only [ren] at e
    split at e
    · rename_i x hx
      injection e with e; subst e
      simp only [R] at hr ⊢
      obtain ⟨y, h1, h2⟩ := hr
      exact ⟨y, h1, ren_R h d x y hx h2⟩
    · cases e
  | .agg cs, _, _, e, hr => by
    simp only [ren] at e
    split at e
    · rename_i l hl
      injection e with e; subst e
      simp only [R] at hr ⊢
      obtain ⟨vs, h1, h2, h3⟩ := hr
      exact ⟨vs, h1, ren_RL h cs l vs hl h2, h3⟩
    · cases e
  | .tup cs, _, _, e, hr => by
    simp only [ren] at e
    split at e
    · rename_i l hl
      injection e with e; subst e
      simp only [R] at hr ⊢
      obtain ⟨vs, h1, h2⟩ := hr
      exact ⟨vs, h1, ren_RL h cs l vs hl h2⟩
    · cases e
theorem ren_RL {S S' : Real} {f : Nat → Option Nat} (h : Ren S S' f) : (ds ds' : List D) → (vs : List Value) → renL f ds = some ds' → RL S ds vs → RL S' ds' vs
  | [], _, _, e, hr => by simp only [renL] at e; injection e with e; subst e; simpa only [RL] using hr
  | d :: ds, _, _, e, hr => by
    simp only [renL] at e
    split at e
    · rename_i x l hx hl
      injection e with e; subst e
      simp only [RL] at hr ⊢
      obtain ⟨v, vs', h1, h2, h3⟩ := hr
      exact ⟨v, vs', h1, ren_R h d x v hx h2, ren_RL h ds l vs' hl h3⟩
    · cases e
end
end
section
variable {P : Program}
theorem addNew_spec : ∀ (l m : List Nat), m.Nodup → ∃ t, addNew m l = m ++ t ∧ (m ++ t).Nodup
  | [], m, h => ⟨[], by simp [addNew], by simpa using h⟩
  | i :: l, m, h => by
    unfold addNew
    by_cases hc : m.contains i = true
    · rw [if_pos hc]; exact addNew_spec l m h
    · rw [if_neg hc]
      have hn : i ∉ m := by simpa using hc
      have h' : (m ++ [i]).Nodup := List.nodup_append.2 ⟨h, by simp, fun a ha b hb => by simp at hb; subst hb; intro e; exact hn (e ▸ ha)⟩
      obtain ⟨t, h1, h2⟩ := addNew_spec l (m ++ [i]) h'
      exact ⟨i :: t, by rw [h1]; simp, by simpa using h2⟩
theorem reach_spec (st : Store) : ∀ (k : Nat) (m : List Nat), m.Nodup → ∃ t, reach st k m = m ++ t ∧ (m ++ t).Nodup
  | 0, m, h => ⟨[], by simp [reach], by simpa using h⟩
  | k + 1, m, h => by
    unfold reach
    obtain ⟨t, h1, h2⟩ := addNew_spec (m.flatMap (kids st)) m h
    obtain ⟨t', h3, h4⟩ := reach_spec st k (m ++ t) h2
    refine ⟨t ++ t', by rw [h1, h3]; simp, by simpa using h4⟩
theorem idxOf_some {m : List Nat} {i j : Nat} (h : idxOf m i = some j) : m[j]? = some i := by
  unfold idxOf at h
  rw [List.findIdx?_eq_some_iff_getElem] at h
  obtain ⟨h1, h2, _⟩ := h
  rw [List.getElem?_eq_getElem h1]
  simpa using h2
theorem idxOf_of {m : List Nat} (hm : m.Nodup) {i j : Nat} (h : m[j]? = some i) : idxOf m i = some j := by
  obtain ⟨hlt, he⟩ := List.getElem?_eq_some_iff.1 h
  unfold idxOf
  rw [List.findIdx?_eq_some_iff_getElem]
  refine ⟨hlt, by simp [he], fun k hk => ?_⟩
  have : m[k]'(by omega) ≠ m[j] := List.pairwise_iff_getElem.1 hm k j (by omega) hlt hk
  rw [he] at this
  simpa using this
theorem idxOf_none {m : List Nat} {i : Nat} (h : idxOf m i = none) : i ∉ m := by
  unfold idxOf at h
  rw [List.findIdx?_eq_none_iff] at h
  intro hi
  have := h i hi
  simp at this
theorem nodup_get {m : List Nat} (hm : m.Nodup) {i j x : Nat} (hi : m[i]? = some x) (hj : m[j]? = some x) : i = j := by
  have h1 := idxOf_of hm hi
  have h2 := idxOf_of hm hj
  rw [h1] at h2
  exact Option.some.inj h2
theorem take_get {ro : Bool} {st : Store} {f : Nat → Option Nat} : ∀ {m : List Nat} {l : Store}, take ro st f m = some l →
    l.length = m.length ∧ ∀ (j : Nat) (i : Nat), m[j]? = some i → ∃ b b', st[i]? = some b ∧ renB ro f b = some b' ∧ l[j]? = some b'
  | [], l, h => by simp [take] at h; subst h; simp
  | i :: m, l, h => by
    unfold take at h
    split at h
    · rename_i b hb
      split at h
      · rename_i x l' hx hl'
        injection h with h; subst h
        obtain ⟨h1, h2⟩ := take_get hl'
        refine ⟨by simp [h1], fun j i' hj => ?_⟩
        cases j with
        | zero => simp at hj; subst hj; exact ⟨b, x, hb, hx, rfl⟩
        | succ j => simp at hj; simpa using h2 j i' hj
      · cases h
    · cases h
theorem putBack_length : ∀ (m : List Nat) (l st : Store), (putBack st m l).length = st.length
  | [], l, st => by simp [putBack]
  | i :: m, [], st => by simp [putBack]
  | i :: m, b :: l, st => by simp [putBack, putBack_length m l]
theorem putBack_other : ∀ (m : List Nat) (l st : Store) (x : Nat), x ∉ m → (putBack st m l)[x]? = st[x]?
  | [], l, st, x, _ => by simp [putBack]
  | i :: m, [], st, x, _ => by simp [putBack]
  | i :: m, b :: l, st, x, hx => by
    simp only [putBack]
    rw [putBack_other m l _ x (fun h => hx (List.mem_cons_of_mem _ h)), List.getElem?_set_ne (fun e => hx (by simp [e]))]
theorem putBack_at : ∀ (m : List Nat) (l st : Store) (j x : Nat), m.Nodup → l.length = m.length → m[j]? = some x → x < st.length → (putBack st m l)[x]? = l[j]?
  | [], l, st, j, x, _, _, h, _ => by simp at h
  | i :: m, [], st, j, x, _, hl, _, _ => by simp at hl
  | i :: m, b :: l, st, 0, x, hn, hl, h, hx => by
    simp at h; subst h
    simp only [putBack]
    rw [putBack_other m l _ i (List.nodup_cons.1 hn).1]
    simp [hx]
  | i :: m, b :: l, st, j + 1, x, hn, hl, h, hx => by
    simp only [putBack]
    simp at h hl
    rw [putBack_at m l _ j x (List.nodup_cons.1 hn).2 hl h (by simpa using hx)]
    simp
theorem ren_RB {S S' : Real} {f : Nat → Option Nat} (h : Ren S S' f) {ro : Bool} {b b' : Blk} {i j : Nat} (hr : RB S i b) (e : renB ro f b = some b')
    (hj : S'.bl j = (S.bl i).map fun l => { l with rw := l.rw && !ro }) (hh : ∀ l, S.bl i = some l → S.hot l.b → S'.hot l.b) : RB S' j b' := by
  cases b with
  | dead => simp only [renB] at e; injection e with e; subst e; simp only [RB] at hr ⊢; simp [hj, hr]
  | cells ver rw ty cs =>
    simp only [renB] at e
    split at e
    · rename_i l hl
      injection e with e; subst e
      simp only [RB] at hr ⊢
      obtain ⟨lc, vs0, vs1, vs2, fr, h1, h2, h3, h4, h5, h6, h0, h7, h8⟩ := hr
      refine ⟨{ lc with rw := lc.rw && !ro }, vs0, vs1, vs2, fr, by rw [hj, h1]; rfl, h2, by rw [h.w]; exact h3, h4, ren_RL h cs l vs1 hl h5, h6, h0, by simp [h7], fun hx => ?_⟩
      simp only [Bool.and_eq_true] at hx
      obtain ⟨g1, g2⟩ := h8 hx.1
      exact ⟨hh lc h1 g1, g2⟩
    · cases e
  | iter s pos =>
    simp only [renB] at e
    split at e
    · cases e
    · rename_i hro
      injection e with e; subst e
      simp only [RB] at hr ⊢
      obtain ⟨lc, h1, h2, h3, h4, h5⟩ := hr
      refine ⟨{ lc with rw := lc.rw && !ro }, by rw [hj, h1]; rfl, h2, ?_, hh lc h1 h4, by rw [h.w]; exact h5⟩
      cases ro <;> simp_all
  | loop => simp only [renB] at e; cases e
theorem ren_lits (f : Nat → Option Nat) : ∀ cs : List D, cs.all litD = true → renL f cs = some cs
  | [], _ => rfl
  | d :: ds, h => by
    simp only [List.all_cons, Bool.and_eq_true] at h
    simp only [renL, ren_lits f ds h.2]
    cases d <;> simp only [litD, Bool.false_eq_true, false_and] at h <;> simp only [ren]
theorem ren_glob {f : Nat → Option Nat} (g : Nat) (cs : List D) (h : Globs.glob g = some cs) : ren f (.fptr cs 0) = some (.fptr cs 0) := by
  simp only [ren, ren_lits f cs (Globs.lit g cs h)]
def sub (S : Real) (ro : Bool) (m : List Nat) : Real where
  w := S.w
  n := m.length
  hot := S.hot
  bl j := match m[j]? with
    | some i => (S.bl i).map fun l => { l with rw := l.rw && !ro }
    | none => none
theorem sub_ren {S : Real} {ro : Bool} {m : List Nat} (hm : m.Nodup) : Ren S (sub S ro m) (idxOf m) where
  w := rfl
  hot b h := h
  lt i j h := by
    have := idxOf_some h
    exact (List.getElem?_eq_some_iff.1 this).1
  bl i j l' h hl := by
    have := idxOf_some h
    simp only [sub, this, Option.map_eq_some_iff] at hl
    obtain ⟨l, h1, rfl⟩ := hl
    exact ⟨l, h1, rfl, rfl, rfl, rfl⟩
theorem sub_SR {S : Real} {st st0 : Store} (hS : SR S st) {ro : Bool} {m : List Nat} (hm : m.Nodup) (ht : take ro st (idxOf m) m = some st0) : SR (sub S ro m) st0 where
  len := (take_get ht).1.symm
  glob g cs hc := ren_R (sub_ren hm) _ _ _ (ren_glob g cs hc) (hS.glob g cs hc)
  blk j b' hj := by
    obtain ⟨h1, h2⟩ := take_get ht
    have hlt : j < m.length := by rw [← h1]; exact (List.getElem?_eq_some_iff.1 hj).1
    have hmj : m[j]? = some m[j] := List.getElem?_eq_getElem hlt
    obtain ⟨b, b'', g1, g2, g3⟩ := h2 j m[j] hmj
    rw [hj] at g3; injection g3 with g3; subst g3
    exact ren_RB (sub_ren hm) (hS.blk _ b g1) g2 (by simp only [sub, hmj]) (fun l _ h => h)
  out j hj := by
    simp only [sub] at hj ⊢
    rw [List.getElem?_eq_none hj]
  inj i j l l' hi hj he := by
    simp only [sub] at hi hj
    split at hi
    · rename_i x hx
      split at hj
      · rename_i y hy
        simp only [Option.map_eq_some_iff] at hi hj
        obtain ⟨a, h1, rfl⟩ := hi
        obtain ⟨a', h2, rfl⟩ := hj
        have := hS.inj x y a a' h1 h2 he
        subst this
        exact nodup_get hm hx hy
      · cases hj
    · cases hi
  lt i l hi := by
    simp only [sub] at hi
    split at hi
    · simp only [Option.map_eq_some_iff] at hi
      obtain ⟨a, h1, rfl⟩ := hi
      exact hS.lt _ a h1
    · cases hi
  hlt := hS.hlt
theorem sub_mine {S : Real} {ro : Bool} {m : List Nat} {b : Nat} (h : Mine (sub S ro m) b) : ro = false ∧ Mine S b ∧ ∃ i l, i ∈ m ∧ S.bl i = some l ∧ l.b = b := by
  obtain ⟨j, l, h1, h2, h3⟩ := h
  simp only [sub] at h1
  split at h1
  · rename_i i hi
    simp only [Option.map_eq_some_iff] at h1
    obtain ⟨a, g1, rfl⟩ := h1
    simp only [Bool.and_eq_true] at h3
    exact ⟨by simpa using h3.2, ⟨i, a, g1, h2, h3.1⟩, i, a, List.mem_of_getElem? hi, g1, h2⟩
  · cases h1
def sup (S S1 : Real) (ro : Bool) (m m2 : List Nat) : Real where
  w := S1.w
  n := S.n + m2.length
  hot := S1.hot
  bl i := if i < S.n then (match idxOf m i with | some j => if ro then S.bl i else S1.bl j | none => S.bl i)
    else match m2[i - S.n]? with | some j => S1.bl j | none => none
variable {S S1 : Real} {ro : Bool} {m m2 : List Nat} {st st0 : Store}
theorem sup_in {i : Nat} (hi : i < S.n) {j : Nat} (h : idxOf m i = some j) : (sup S S1 ro m m2).bl i = if ro then S.bl i else S1.bl j := by
  simp only [sup]; rw [if_pos hi, h]
theorem sup_out {i : Nat} (hi : i < S.n) (h : idxOf m i = none) : (sup S S1 ro m m2).bl i = S.bl i := by
  simp only [sup]; rw [if_pos hi, h]
theorem sup_new {i : Nat} (hi : ¬ i < S.n) : (sup S S1 ro m m2).bl i = match m2[i - S.n]? with | some j => S1.bl j | none => none := by
  simp only [sup]; rw [if_neg hi]
theorem sup_old {i : Nat} (hS : SR S st) (he : Ext (sub S ro m) S1) (hi : i < S.n) {l' : Loc} (hl : (sup S S1 ro m m2).bl i = some l') :
    ∃ l, S.bl i = some l ∧ (l' = l ∨ (l.ver < l'.ver ∧ l.rw = true ∧ (l'.b = l.b ∨ S.w.heap.size ≤ l'.b))) := by
  cases hx : idxOf m i with
  | none => rw [sup_out hi hx] at hl; exact ⟨l', hl, .inl rfl⟩
  | some j =>
    rw [sup_in hi hx] at hl
    cases ro with
    | true => exact ⟨l', by simpa using hl, .inl rfl⟩
    | false =>
      simp only [Bool.false_eq_true, if_false] at hl
      have hj := idxOf_some hx
      obtain ⟨l, h1, h2⟩ := he.live j l' (by simpa [sub] using (List.getElem?_eq_some_iff.1 hj).1) hl
      simp only [sub, hj, Option.map_eq_some_iff, Bool.not_false, Bool.and_true] at h1
      obtain ⟨a, g1, g2⟩ := h1
      have : a = l := by cases a; cases g2; rfl
      subst this
      exact ⟨a, g1, h2⟩
theorem sup_ext (hS : SR S st) (he : Ext (sub S ro m) S1) (hk : ∀ i ∈ m2, m.length ≤ i) : Ext S (sup S S1 ro m m2) where
  size := he.size
  n := by simp [sup]
  keep b hb hn := he.keep b hb (fun ⟨h1, h2⟩ => hn ⟨h1, (sub_mine h2).2.1⟩)
  hot1 := he.hot1
  hot2 b hh hm := he.hot2 b hh (fun h2 => hm (sub_mine h2).2.1)
  live i l' hi hl := sup_old hS he hi hl
  new i l' hi hl := by
    rw [sup_new (by omega)] at hl
    split at hl
    · rename_i j hj
      exact he.new j l' (hk j (List.mem_of_getElem? hj)) hl
    · cases hl
  os := he.os
  tape := he.tape
  output := he.output
  hlt := hS.hlt
end
section
variable {P : Program} {S S1 : Real} {ro : Bool} {m m2 : List Nat} {st st0 st1 : Store}
def back (m m2 : List Nat) (n : Nat) : Nat → Option Nat := fun i => if i < m.length then m[i]? else (idxOf m2 i).map (n + ·)
theorem sup_ren (hS : SR S st) (h1 : SR S1 st1) (he : Ext (sub S ro m) S1) (hm : m.Nodup) (hm2 : m2.Nodup) (hlt : ∀ i ∈ m, i < S.n)
    (hal : ro = true → ∀ j, j < m.length → ∃ l, S1.bl j = some l) : Ren S1 (sup S S1 ro m m2) (back m m2 S.n) where
  w := rfl
  hot b h := h
  lt i j h := by
    unfold back at h
    split at h
    · have := hlt j (List.mem_of_getElem? h)
      simp only [sup]; omega
    · simp only [Option.map_eq_some_iff] at h
      obtain ⟨a, g1, rfl⟩ := h
      have := (List.getElem?_eq_some_iff.1 (idxOf_some g1)).1
      simp only [sup]; omega
  bl i j l' h hl := by
    unfold back at h
    split at h
    · rename_i hi
      have hj := hlt j (List.mem_of_getElem? h)
      rw [sup_in hj (idxOf_of hm h)] at hl
      cases ro with
      | false => exact ⟨l', by simpa using hl, rfl, rfl, rfl, rfl⟩
      | true =>
        simp only [if_true] at hl
        obtain ⟨l, g⟩ := hal rfl i hi
        obtain ⟨l0, g1, g2⟩ := he.live i l hi g
        simp only [sub, h, hl, Option.map_some, Option.some.injEq] at g1
        subst g1
        rcases g2 with rfl | ⟨_, g2, _⟩
        · exact ⟨_, g, rfl, rfl, rfl, rfl⟩
        · simp at g2
    · simp only [Option.map_eq_some_iff] at h
      obtain ⟨a, g1, rfl⟩ := h
      rw [sup_new (by omega)] at hl
      rw [Nat.add_sub_cancel_left, idxOf_some g1] at hl
      exact ⟨l', hl, rfl, rfl, rfl, rfl⟩
theorem getElem?_split {a b : Store} {i : Nat} {x : Blk} (h : (a ++ b)[i]? = some x) : (i < a.length ∧ a[i]? = some x) ∨ (¬ i < a.length ∧ b[i - a.length]? = some x) := by
  by_cases hi : i < a.length
  · rw [List.getElem?_append_left hi] at h; exact .inl ⟨hi, h⟩
  · rw [List.getElem?_append_right (by omega)] at h; exact .inr ⟨hi, h⟩
theorem sup_SR {old new : Store} (hS : SR S st) (h1 : SR S1 st1) (he : Ext (sub S ro m) S1) (hm : m.Nodup) (hm2 : m2.Nodup) (hlt : ∀ i ∈ m, i < S.n) (hk : ∀ i ∈ m2, m.length ≤ i)
    (hal : ro = true → ∀ j, j < m.length → ∃ l, S1.bl j = some l)
    (ho : take false st1 (back m m2 st.length) (List.range m.length) = some old) (hn : take false st1 (back m m2 st.length) m2 = some new) :
    SR (sup S S1 ro m m2) ((if ro then st else putBack st m old) ++ new) := by
  have hlen : (if ro then st else putBack st m old).length = st.length := by
    cases ro
    · simp [putBack_length]
    · simp
  have hE := sup_ext (m2 := m2) hS he hk
  have hR := sup_ren (m2 := m2) hS h1 he hm hm2 hlt hal
  have hsl := hS.len
  rw [← hsl] at ho hn
  obtain ⟨o1, o2⟩ := take_get ho
  obtain ⟨n1, n2⟩ := take_get hn
  have hfar : ∀ i l, i < S.n → S.bl i = some l → idxOf m i = none → (sup S S1 ro m m2).w.heap[l.b]? = S.w.heap[l.b]? ∧ ((sup S S1 ro m m2).hot l.b ↔ S.hot l.b) := by
    intro i l hi hl hx
    have hb := hS.lt i l hl
    have hnm : ¬ Mine (sub S ro m) l.b := fun h => by
      obtain ⟨_, _, i', l', g1, g2, g3⟩ := sub_mine h
      have := hS.inj i i' l l' hl g2 g3.symm
      subst this
      exact idxOf_none hx g1
    exact ⟨he.keep l.b hb (fun h => hnm h.2), fun h => he.hot1 l.b hb h, fun h => he.hot2 l.b h hnm⟩
  have hro : ro = true → ∀ i l, S.bl i = some l → (sup S S1 ro m m2).w.heap[l.b]? = S.w.heap[l.b]? ∧ ((sup S S1 ro m m2).hot l.b ↔ S.hot l.b) := by
    intro hr i l hl
    subst hr
    have hb := hS.lt i l hl
    have hnm : ¬ Mine (sub S true m) l.b := fun h => by have := (sub_mine h).1; cases this
    exact ⟨he.keep l.b hb (fun h => hnm h.2), fun h => he.hot1 l.b hb h, fun h => he.hot2 l.b h hnm⟩
  have hblk : ∀ id b, ((if ro then st else putBack st m old) ++ new)[id]? = some b → RB (sup S S1 ro m m2) id b := by
    intro id b hb
    rcases getElem?_split hb with ⟨hid, hb⟩ | ⟨hid, hb⟩
    · rw [hlen, ← hsl] at hid
      cases hx : idxOf m id with
      | none =>
        have hb' : st[id]? = some b := by
          cases ro
          · simp only [Bool.false_eq_true, if_false] at hb
            rw [putBack_other m old st id (idxOf_none hx)] at hb; exact hb
          · simpa using hb
        exact RB_monoW hE.w (sup_out hid hx) (fun l hl => hfar id l hid hl hx) (hS.blk id b hb')
      | some j =>
        cases ro with
        | true =>
          simp only [if_true] at hb
          exact RB_monoW hE.w (by rw [sup_in hid hx]; rfl) (fun l hl => hro rfl id l hl) (hS.blk id b hb)
        | false =>
          simp only [Bool.false_eq_true, if_false] at hb
          have hj := idxOf_some hx
          have hjl : j < m.length := (List.getElem?_eq_some_iff.1 hj).1
          rw [putBack_at m old st j id hm (by simpa using o1) hj (by omega)] at hb
          obtain ⟨b0, b1, g1, g2, g3⟩ := o2 j j (by simp [hjl])
          rw [hb] at g3; injection g3 with g3; subst g3
          exact ren_RB hR (h1.blk j b0 g1) g2 (by rw [sup_in hid hx]; cases S1.bl j <;> simp) (fun l _ h => h)
    · rw [hlen, ← hsl] at hid hb
      have hlt2 : id - S.n < m2.length := by rw [← n1]; exact (List.getElem?_eq_some_iff.1 hb).1
      have hj : m2[id - S.n]? = some m2[id - S.n] := List.getElem?_eq_getElem hlt2
      obtain ⟨b0, b1, g1, g2, g3⟩ := n2 (id - S.n) _ hj
      rw [hb] at g3; injection g3 with g3; subst g3
      exact ren_RB hR (h1.blk _ b0 g1) g2 (by rw [sup_new hid, hj]; simp only []; cases S1.bl _ <;> simp) (fun l _ h => h)
  have hold : ∀ i l, i < S.n → (sup S S1 ro m m2).bl i = some l → ∃ l0, S.bl i = some l0 ∧ (l.b = l0.b ∨ (S.w.heap.size ≤ l.b ∧ ∃ j, ro = false ∧ idxOf m i = some j ∧ S1.bl j = some l)) := by
    intro i l hi hl
    cases hx : idxOf m i with
    | none => rw [sup_out hi hx] at hl; exact ⟨l, hl, .inl rfl⟩
    | some j =>
      obtain ⟨l0, g1, g2⟩ := sup_old hS he hi hl
      refine ⟨l0, g1, ?_⟩
      rcases g2 with rfl | ⟨hv, _, g2 | g2⟩
      · exact .inl rfl
      · exact .inl g2
      · refine .inr ⟨g2, j, ?_, rfl, ?_⟩
        · cases ro with
          | false => rfl
          | true => rw [sup_in hi hx, if_pos rfl, g1] at hl; injection hl with hl; subst hl; omega
        · cases ro with
          | false => rw [sup_in hi hx] at hl; simpa using hl
          | true => rw [sup_in hi hx, if_pos rfl, g1] at hl; injection hl with hl; subst hl; omega
  have hnew : ∀ i l, ¬ i < S.n → (sup S S1 ro m m2).bl i = some l → ∃ j, m2[i - S.n]? = some j ∧ S1.bl j = some l ∧ S.w.heap.size ≤ l.b := by
    intro i l hi hl
    rw [sup_new hi] at hl
    split at hl
    · rename_i j hj
      exact ⟨j, hj, hl, he.new j l (hk j (List.mem_of_getElem? hj)) hl⟩
    · cases hl
  refine { len := ?_, blk := hblk, out := fun id hid => ?_, inj := fun i j l l' hi hj hb => ?_, lt := fun i l hi => ?_, hlt := h1.hlt, glob := GR_mono hE.w hS.glob }
  · simp only [List.length_append, hlen, n1, sup, hsl]
  · simp only [sup] at hid
    rw [sup_new (by omega), List.getElem?_eq_none (by omega)]
  · by_cases hin : i < S.n <;> by_cases hjn : j < S.n
    · cases hxi : idxOf m i with
      | none =>
        rw [sup_out hin hxi] at hi
        obtain ⟨l0, g1, g2⟩ := hold j l' hjn hj
        have hb1 := hS.lt i l hi
        rcases g2 with g2 | ⟨g2, _⟩
        · exact hS.inj i j l l0 hi g1 (by rw [hb, g2])
        · omega
      | some a =>
        cases hxj : idxOf m j with
        | none =>
          rw [sup_out hjn hxj] at hj
          obtain ⟨l0, g1, g2⟩ := hold i l hin hi
          have hb1 := hS.lt j l' hj
          rcases g2 with g2 | ⟨g2, _⟩
          · exact hS.inj i j l0 l' g1 hj (by rw [← g2, hb])
          · omega
        | some a' =>
          cases ro with
          | true =>
            rw [sup_in hin hxi, if_pos rfl] at hi
            rw [sup_in hjn hxj, if_pos rfl] at hj
            exact hS.inj i j l l' hi hj hb
          | false =>
            rw [sup_in hin hxi] at hi
            rw [sup_in hjn hxj] at hj
            have := h1.inj a a' l l' (by simpa using hi) (by simpa using hj) hb
            subst this
            have e1 := idxOf_some hxi
            rw [idxOf_some hxj] at e1
            exact (Option.some.inj e1).symm
    · obtain ⟨a, g1, g2, g3⟩ := hnew j l' hjn hj
      obtain ⟨l0, k1, k2⟩ := hold i l hin hi
      have hb1 := hS.lt i l0 k1
      rcases k2 with k2 | ⟨k2, b, k3, k4, k5⟩
      · omega
      · have := h1.inj b a l l' k5 g2 hb
        subst this
        have e1 := hk b (List.mem_of_getElem? g1)
        have e2 := (List.getElem?_eq_some_iff.1 (idxOf_some k4)).1
        omega
    · obtain ⟨a, g1, g2, g3⟩ := hnew i l hin hi
      obtain ⟨l0, k1, k2⟩ := hold j l' hjn hj
      have hb1 := hS.lt j l0 k1
      rcases k2 with k2 | ⟨k2, b, k3, k4, k5⟩
      · omega
      · have := h1.inj a b l l' g2 k5 hb
        subst this
        have e1 := hk a (List.mem_of_getElem? g1)
        have e2 := (List.getElem?_eq_some_iff.1 (idxOf_some k4)).1
        omega
    · obtain ⟨a, g1, g2, g3⟩ := hnew i l hin hi
      obtain ⟨a', k1, k2, k3⟩ := hnew j l' hjn hj
      have := h1.inj a a' l l' g2 k2 hb
      subst this
      have := nodup_get hm2 g1 k1
      omega
  · by_cases hin : i < S.n
    · obtain ⟨l0, k1, k2⟩ := hold i l hin hi
      have hb1 := hS.lt i l0 k1
      have hsz := hE.size
      rcases k2 with k2 | ⟨k2, b, k3, k4, k5⟩
      · omega
      · exact h1.lt b l k5
    · obtain ⟨a, g1, g2, g3⟩ := hnew i l hin hi
      exact h1.lt a l g2
theorem keep_sound {f : FuncId} {args args0 : List D} {d d' : D} {st' : Store} {m : List Nat}
    (hm : m = reach st 6 (addNew [] (refsL args))) (ha : renL (idxOf m) args = some args0) (ht : take ro st (idxOf m) m = some st0) (hb : BodyS P f args0 st0 d st1)
    (hf : finish ro st m d st1 = some (d', st')) : BodyS P f args st d' st' := by
  intro S vs hS hr
  have hnd : m.Nodup := by
    obtain ⟨t, e1, e2⟩ := addNew_spec (refsL args) [] (List.nodup_nil)
    obtain ⟨t', e3, e4⟩ := reach_spec st 6 _ (e1 ▸ e2)
    rw [hm, e3]; exact e4
  have hr0 : RL (sub S ro m) args0 vs := ren_RL (sub_ren hnd) args args0 vs ha hr
  obtain ⟨c1, c2⟩ := hb (sub S ro m) vs (sub_SR hS hnd ht) hr0
  refine ⟨c1, fun n => ?_⟩
  refine CallsIn.mono (c2 n) fun e w hp => ?_
  obtain ⟨v, S1, e1, e2, h1, he, hv⟩ := hp
  unfold finish at hf
  generalize hm2 : (reach st1 6 (addNew (List.range m.length) (refs d))).drop m.length = m2 at hf
  have hfst : (fun i => if i < m.length then m[i]? else (idxOf m2 i).map (st.length + ·)) = back m m2 st.length := rfl
  simp only [hm2, hfst] at hf
  have hm2s : m2.Nodup ∧ ∀ i ∈ m2, m.length ≤ i := by
    obtain ⟨t, e1, e2⟩ := addNew_spec (refs d) (List.range m.length) List.nodup_range
    obtain ⟨t', e3, e4⟩ := reach_spec st1 6 _ (e1 ▸ e2)
    have : m2 = t ++ t' := by
      rw [← hm2, e3, e1, List.append_assoc]
      have hlr : m.length = (List.range m.length).length := by simp
      conv => lhs; arg 1; rw [hlr]
      exact List.drop_left' rfl
    rw [e1, List.append_assoc] at e4
    subst this
    obtain ⟨q1, q2, q3⟩ := List.nodup_append.1 e4
    refine ⟨q2, fun i hi => ?_⟩
    by_cases hlt : i < m.length
    · exact absurd rfl (q3 i (by simpa using hlt) i hi)
    · omega
  have hlt : ∀ i ∈ m, i < S.n := by
    intro i hi
    obtain ⟨j, hj⟩ := List.getElem?_of_mem hi
    obtain ⟨b, b', g1, _⟩ := (take_get ht).2 j i hj
    rw [hS.len]
    exact (List.getElem?_eq_some_iff.1 g1).1
  split at hf
  · rename_i x old new q1 q2 q3
    split at hf
    · cases hf
    · rename_i hal
      simp only [Option.some.injEq, Prod.mk.injEq] at hf
      obtain ⟨rfl, rfl⟩ := hf
      have hal' : ro = true → ∀ j, j < m.length → ∃ l, S1.bl j = some l := by
        intro hr j hj
        subst hr
        obtain ⟨b0, b1, g1, g2, g3⟩ := (take_get q2).2 j j (by simp [hj])
        have hb1 := List.mem_of_getElem? g3
        have hb2 : old.all alive = true := by simpa using hal
        have hb3 := List.all_eq_true.1 hb2 b1 hb1
        have hrb := h1.blk j b0 g1
        cases b0 with
        | dead => simp [renB] at g2; subst g2; simp [alive] at hb3
        | cells => simp only [RB] at hrb; obtain ⟨l, _, _, _, _, g, _⟩ := hrb; exact ⟨l, g⟩
        | iter => simp only [RB] at hrb; obtain ⟨l, g, _⟩ := hrb; exact ⟨l, g⟩
        | loop => simp only [RB] at hrb; obtain ⟨l, _, _, _, g, _⟩ := hrb; exact ⟨l, g⟩
      refine ⟨v, sup S S1 ro m m2, e1, e2, sup_SR hS h1 he hnd hm2s.1 hlt hm2s.2 hal' q2 q3, sup_ext hS he hm2s.2, ?_⟩
      exact ren_R (sup_ren hS h1 he hnd hm2s.1 hlt hal') d x v (by rw [hS.len]; exact q1) hv
  · cases hf
end
section
variable {P : Program}
mutual
theorem ren_none : (d : D) → refs d = [] → ren (fun _ => none) d = some d
  | .bool _, _ => rfl
  | .int _ _, _ => rfl
  | .str _, _ => rfl
  | .nilp, _ => rfl
  | .nils, _ => rfl
  | .zsl, _ => rfl
  | .nilf, _ => rfl
  | .nili, _ => rfl
  | .ptr .., h => by simp [refs] at h
  | .osl .., h => by simp [refs] at h
  | .yld _, h => by simp [refs] at h
  | .fptr cs o, h => by simp only [refs] at h; simp only [ren, renL_none cs h]
  | .fsl n cs, h => by simp only [refs] at h; simp only [ren, renL_none cs h]
  | .fn g cs, h => by simp only [refs] at h; simp only [ren, renL_none cs h]
  | .iface t d, h => by simp only [refs] at h; simp only [ren, ren_none d h]
  | .agg cs, h => by simp only [refs] at h; simp only [ren, renL_none cs h]
  | .tup cs, h => by simp only [refs] at h; simp only [ren, renL_none cs h]
theorem renL_none : (ds : List D) → refsL ds = [] → renL (fun _ => none) ds = some ds
  | [], _ => rfl
  | d :: ds, h => by
    simp only [refsL, List.append_eq_nil_iff] at h
    simp only [renL, ren_none d h.1, renL_none ds h.2]
end
structure Thaw (S S' : Real) : Prop where
  w : S'.w = S.w
  hot : ∀ b, S'.hot b → S.hot b
theorem Thaw.ren {S S' : Real} (h : Thaw S S') : Ren S S' (fun _ => none) where
  w := h.w
  hot := h.hot
  lt _ _ h := by cases h
  bl _ _ _ h := by cases h
theorem Thaw.R {S S' : Real} (h : Thaw S S') {d : D} {v : Value} (hd : refs d = []) (hr : R S d v) : R S' d v := ren_R h.ren d d v (ren_none d hd) hr
theorem Thaw.RL {S S' : Real} (h : Thaw S S') {d : List D} {v : List Value} (hd : refsL d = []) (hr : RL S d v) : RL S' d v := ren_RL h.ren d d v (renL_none d hd) hr
theorem mapO_RL {S S' : Real} {f : D → Option D} (hf : ∀ d d' v, f d = some d' → R S d v → R S' d' v) : ∀ {ds ds' : List D} {vs : List Value}, mapO f ds = some ds' → RL S ds vs → RL S' ds' vs
  | [], _, _, e, hr => by simp only [mapO] at e; injection e with e; subst e; simpa only [RL] using hr
  | d :: ds, _, _, e, hr => by
    simp only [mapO] at e
    split at e
    · rename_i x l hx hl
      injection e with e; subst e
      simp only [RL] at hr ⊢
      obtain ⟨v, vs', h1, h2, h3⟩ := hr
      exact ⟨v, vs', h1, hf d x v hx h2, mapO_RL hf hl h3⟩
    · cases e
theorem fz_R' {S S' : Real} {st : Store} (hS : ∀ i w rw ty cs, st[i]? = some (.cells w rw ty cs) → RB S i (.cells w rw ty cs)) (h : Thaw S S')
    (hb : ∀ i w rw ty cs, st[i]? = some (.cells w rw ty cs) → ∀ l, S.bl i = some l → ¬ S'.hot l.b) : ∀ (k : Nat) (d d' : D) (v : Value), fz st k d = some d' → R S d v → R S' d' v := by
  intro k
  induction k with
  | zero => intro d d' v e; simp [fz] at e
  | succ k ih =>
    intro d d' v e hr
    unfold fz at e
    split at e
    · rename_i he
      injection e with e; subst e
      exact h.R (by simpa using he) hr
    · rename_i hne
      have hblk : ∀ (i : Nat) (w : Nat) (rw : Bool) (ty : TypeId) (cs : List D), st[i]? = some (.cells w rw ty cs) → ∃ (lc : Loc) (vs1 : List Value), S.bl i = some lc ∧ lc.ver = w ∧ RL S cs vs1 ∧ One vs1 ∧
          ∀ o us, (∃ t, us = (vs1.drop o).take t) → Row S' lc.b (lc.base + o) us := by
        intro i w rw ty cs hst
        have hrb := hS i _ _ _ _ hst
        simp only [RB] at hrb
        obtain ⟨lc, vs0, vs1, vs2, fr, g1, g2, g3, g4, g5, g6, g0, g7, g8⟩ := hrb
        refine ⟨lc, vs1, g1, g2, g5, (One_append.1 (One_append.1 g6).2).1, fun o us hus => .inr ⟨hb i _ _ _ _ hst lc g1, fun j hj => ?_⟩⟩
        obtain ⟨t, rfl⟩ := hus
        rw [h.w, cell_at g3]
        simp only [List.getElem_take, List.getElem_drop]
        simp only [List.length_take, List.length_drop] at hj
        simp only [List.getElem?_toArray]
        rw [List.getElem?_append_right (by omega), show lc.base + o + j - vs0.length = o + j by omega, List.getElem?_append_left (by omega)]
        exact List.getElem?_eq_getElem _
      cases d with
      | osl i ver esz off len =>
        simp only [] at e
        split at e
        · cases e
        · rename_i hno
          split at e
          · rename_i w rw ty cs hst
            split at e
            · rename_i hc
              obtain ⟨rfl, hle⟩ := hc
              split at e
              · rename_i l hl
                injection e with e; subst e
                obtain ⟨lc, vs1, g1, g2, g3, g4, g5⟩ := hblk i _ rw ty cs hst
                simp only [R] at hr ⊢
                obtain ⟨a, cap, r1, r2, r3, r4⟩ := hr
                obtain ⟨r5, r6⟩ := r4 lc g1
                rcases r6 g2.symm with q | ⟨q1, q2⟩
                · exact absurd ⟨q.1, q.2.1⟩ hno
                · subst q1
                  exact ⟨lc.b, lc.base + off, _, cap, r1, r2, mapO_RL ih hl (RL_take _ (RL_drop _ g3)), g5 off _ ⟨_, rfl⟩, One_take _ (One_drop _ g4)⟩
              · cases e
            · cases e
          · cases e
      | ptr i ver off =>
        simp only [] at e
        split at e
        · rename_i w rw ty cs hst
          split at e
          · rename_i hc
            subst hc
            split at e
            · rename_i l hl
              injection e with e; subst e
              obtain ⟨lc, vs1, g1, g2, g3, g4, g5⟩ := hblk i _ rw ty cs hst
              simp only [R] at hr ⊢
              obtain ⟨a, r1, r2, r3⟩ := hr
              have := (r3 lc g1).2 g2.symm
              subst this
              exact ⟨lc.b, lc.base, vs1, r1, mapO_RL ih hl g3, by have := g5 0 vs1 ⟨vs1.length, by simp⟩; rwa [Nat.add_zero] at this, g4⟩
            · cases e
          · cases e
        · cases e
      | agg cs =>
        simp only [] at e
        split at e
        · rename_i l hl
          injection e with e; subst e
          simp only [R] at hr ⊢
          obtain ⟨vs, h1, h2, h3⟩ := hr
          exact ⟨vs, h1, mapO_RL ih hl h2, h3⟩
        · cases e
      | tup cs =>
        simp only [] at e
        split at e
        · rename_i l hl
          injection e with e; subst e
          simp only [R] at hr ⊢
          obtain ⟨vs, h1, h2⟩ := hr
          exact ⟨vs, h1, mapO_RL ih hl h2⟩
        · cases e
      | fsl n cs =>
        simp only [] at e
        split at e
        · rename_i l hl
          injection e with e; subst e
          simp only [R] at hr ⊢
          obtain ⟨b, o, vs, cap, h1, hc, h2, h3, h4⟩ := hr
          exact ⟨b, o, vs, cap, h1, hc, mapO_RL ih hl h2, (h.ren).row h3, h4⟩
        · cases e
      | iface t x =>
        simp only [] at e
        split at e
        · rename_i y hy
          injection e with e; subst e
          simp only [R] at hr ⊢
          obtain ⟨z, h1, h2⟩ := hr
          exact ⟨z, h1, ih x y z hy h2⟩
        · cases e
      | bool => cases e
      | int => cases e
      | str => cases e
      | nilp => cases e
      | fptr => cases e
      | nils => cases e
      | zsl => cases e
      | fn => cases e
      | nilf => cases e
      | yld => cases e
      | nili => cases e
theorem fz_R {S S' : Real} {st : Store} (hS : SR S st) (h : Thaw S S') (hb : ∀ i l, S.bl i = some l → ¬ S'.hot l.b) : ∀ (k : Nat) (d d' : D) (v : Value), fz st k d = some d' → R S d v → R S' d' v :=
  fz_R' (fun i _ _ _ _ hi => hS.blk i _ hi) h (fun i _ _ _ _ _ l hl => hb i l hl)
def bare (S : Real) : Real where
  w := S.w
  bl _ := none
  n := 0
  hot := S.hot
theorem bare_SR {S : Real} {st : Store} (hS : SR S st) : SR (bare S) [] where
  len := rfl
  glob g cs hc := ren_R (S := S) (Thaw.ren (S := S) (S' := bare S) ⟨rfl, fun _ h => h⟩) _ _ _ (ren_glob g cs hc) (hS.glob g cs hc)
  blk id b h := by simp at h
  out _ _ := rfl
  inj i j l l' h := by simp [bare] at h
  lt i l h := by simp [bare] at h
  hlt := hS.hlt
theorem frz_sound {f : FuncId} {args : List D} {d d' : D} {st st1 : Store} (ha : refsL args = []) (hb : BodyS P f args [] d st1) (hf : fz st1 8 d = some d') : BodyS P f args st d' st := by
  intro S vs hS hr
  have hth : Thaw S (bare S) := ⟨rfl, fun _ h => h⟩
  obtain ⟨c1, c2⟩ := hb (bare S) vs (bare_SR hS) (hth.RL ha hr)
  refine ⟨c1, fun n => CallsIn.mono (c2 n) fun e w hp => ?_⟩
  obtain ⟨v, S1, rfl, rfl, h1, he, hv⟩ := hp
  have hnm : ∀ b, ¬ Mine (bare S) b := fun b ⟨i, l, h, _⟩ => by simp [bare] at h
  have hE : Ext S { w := S1.w, bl := S.bl, n := S.n, hot := S.hot } := {
    size := he.size
    n := Nat.le_refl _
    keep := fun b hb _ => he.keep b hb (fun h => hnm b h.2)
    hot1 := fun b _ h => h
    hot2 := fun b h _ => h
    live := fun i l' _ h => ⟨l', h, .inl rfl⟩
    new := fun i l' h h' => by rw [hS.out i h] at h'; cases h'
    os := he.os
    tape := he.tape
    output := he.output
    hlt := hS.hlt }
  refine ⟨v, { w := S1.w, bl := S.bl, n := S.n, hot := S.hot }, rfl, rfl, ?_, hE, ?_⟩
  · refine { len := hS.len, blk := fun id b hb => ?_, out := hS.out, inj := hS.inj, lt := fun i l hl => Nat.lt_of_lt_of_le (hS.lt i l hl) he.size, hlt := fun b h => Nat.lt_of_lt_of_le (hS.hlt b h) he.size, glob := GR_mono hE.w hS.glob }
    exact RB_monoW hE.w rfl (fun l hl => ⟨he.keep l.b (hS.lt id l hl) (fun h => hnm _ h.2), Iff.rfl⟩) (hS.blk id b hb)
  · have hT : Thaw S1 { w := S1.w, bl := S.bl, n := S.n, hot := S.hot } := ⟨rfl, fun b hh => he.hot2 b hh (hnm b)⟩
    refine fz_R h1 hT (fun i l hl hh => ?_) 8 d d' v hf hv
    have := he.new i l (Nat.zero_le _) hl
    have := hS.hlt l.b hh
    simp only [bare] at *
    omega
theorem onlyGo_get (m : List Nat) (st : Store) : ∀ (l : Store) (k i : Nat), (onlyGo m st l k)[i]? = (l[i]?).map fun b => if givenB st m (k + i) then b else .dead
  | [], _, _ => by simp [onlyGo]
  | b :: l, k, 0 => by simp [onlyGo]
  | b :: l, k, i + 1 => by
    simp only [onlyGo, List.getElem?_cons_succ]
    rw [onlyGo_get m st l (k + 1) i, Nat.add_assoc, Nat.add_comm 1 i]
theorem killGo_get (m : List Nat) (st : Store) : ∀ (l : Store) (k i : Nat), (killGo m st l k)[i]? = (l[i]?).map fun b => if givenB st m (k + i) then .dead else b
  | [], _, _ => by simp [killGo]
  | b :: l, k, 0 => by simp [killGo]
  | b :: l, k, i + 1 => by
    simp only [killGo, List.getElem?_cons_succ]
    rw [killGo_get m st l (k + 1) i, Nat.add_assoc, Nat.add_comm 1 i]
theorem only_get {m : List Nat} {st : Store} {i : Nat} : (only m st)[i]? = (st[i]?).map fun b => if givenB st m i then b else .dead := by
  unfold only; rw [onlyGo_get, Nat.zero_add]
theorem kill_get {m : List Nat} {st : Store} {i : Nat} : (kill m st)[i]? = (st[i]?).map fun b => if givenB st m i then .dead else b := by
  unfold kill; rw [killGo_get, Nat.zero_add]
theorem kill_length {m : List Nat} {st : Store} : (kill m st).length = st.length := by
  have : ∀ (l : Store) (k : Nat), (killGo m st l k).length = l.length := fun l => by
    induction l with
    | nil => intro k; rfl
    | cons b l ih => intro k; simp [killGo, ih]
  exact this st 0
def gave (S : Real) (st : Store) (m : List Nat) (w : World) : Real where
  w := w
  bl i := if givenB st m i then none else S.bl i
  n := S.n
  hot b := S.hot b ∧ ∀ i l, givenB st m i = true → S.bl i = some l → l.b ≠ b
theorem move_sound {f : FuncId} {args args0 : List D} {d d' : D} {st st1 : Store} {m : List Nat} (ha : mapO (fz (only m st) 8) args = some args0) (hb : BodyS P f args0 [] d st1) (hf : fz st1 8 d = some d') :
    BodyS P f args st d' (kill m st) := by
  intro S vs hS hr
  have hmine : ∀ i, givenB st m i = true → ∃ l, S.bl i = some l ∧ l.rw = true := by
    intro i hi
    simp only [givenB, Bool.and_eq_true] at hi
    obtain ⟨_, hi⟩ := hi
    split at hi
    · rename_i v ty cs hst
      have := hS.blk i _ hst
      simp only [RB] at this
      obtain ⟨l, _, _, _, _, g1, _, _, _, _, _, _, g6, _⟩ := this
      exact ⟨l, g1, g6⟩
    · cases hi
  let S0 : Real := { w := S.w, bl := fun _ => none, n := 0, hot := (gave S st m S.w).hot }
  have hth : Thaw S S0 := ⟨rfl, fun _ h => h.1⟩
  have hSR0 : SR S0 [] := {
    len := rfl
    glob := fun g cs hc => ren_R (S := S) (Thaw.ren (S := S) (S' := S0) hth) _ _ _ (ren_glob g cs hc) (hS.glob g cs hc)
    blk := fun id b h => by simp at h
    out := fun _ _ => rfl
    inj := fun i j l l' h => by cases h
    lt := fun i l h => by cases h
    hlt := fun b h => hS.hlt b h.1 }
  have hr0 : RL S0 args0 vs := mapO_RL (fz_R' (S := S) (S' := S0) (st := only m st) (fun i w rw ty cs hi => by
      rw [only_get] at hi
      simp only [Option.map_eq_some_iff] at hi
      obtain ⟨b, h1, h2⟩ := hi
      split at h2
      · subst h2; exact hS.blk i _ h1
      · cases h2) hth (fun i w rw ty cs hi l hl hh => by
      rw [only_get] at hi
      simp only [Option.map_eq_some_iff] at hi
      obtain ⟨b, h1, h2⟩ := hi
      split at h2
      · rename_i hg
        exact hh.2 i l hg hl rfl
      · cases h2) 8) ha hr
  obtain ⟨c1, c2⟩ := hb S0 vs hSR0 hr0
  refine ⟨c1, fun n => CallsIn.mono (c2 n) fun e w hp => ?_⟩
  obtain ⟨v, S1, rfl, rfl, h1, he, hv⟩ := hp
  have hnm : ∀ b, ¬ Mine S0 b := fun b ⟨i, l, h, _⟩ => by cases h
  have hkeep : ∀ b, b < S.w.heap.size → S1.w.heap[b]? = S.w.heap[b]? := fun b hb => he.keep b hb (fun h => hnm b h.2)
  have hE : Ext S (gave S st m S1.w) := {
    size := he.size
    n := Nat.le_refl _
    keep := fun b hb _ => hkeep b hb
    hot1 := fun b _ h => h.1
    hot2 := fun b h hm => ⟨h, fun i l hi hl e => hm (by
      obtain ⟨l', g1, g2⟩ := hmine i hi
      rw [hl] at g1; injection g1 with g1; subst g1
      exact ⟨i, l, hl, e, g2⟩)⟩
    live := fun i l' _ h => by
      simp only [gave] at h
      split at h
      · cases h
      · exact ⟨l', h, .inl rfl⟩
    new := fun i l' h h' => by
      simp only [gave] at h'
      split at h'
      · cases h'
      · rw [hS.out i h] at h'; cases h'
    os := he.os
    tape := he.tape
    output := he.output
    hlt := hS.hlt }
  refine ⟨v, gave S st m S1.w, rfl, rfl, ?_, hE, ?_⟩
  · refine { len := by rw [kill_length]; exact hS.len, blk := fun id b hb => ?_, out := fun id hid => ?_, inj := fun i j l l' hi hj => ?_, lt := fun i l hl => ?_, hlt := fun b h => Nat.lt_of_lt_of_le (hS.hlt b h.1) he.size, glob := GR_mono hE.w hS.glob }
    · rw [kill_get] at hb
      simp only [Option.map_eq_some_iff] at hb
      obtain ⟨b0, g1, g2⟩ := hb
      split at g2
      · rename_i hg
        subst g2
        simp only [RB, gave, hg, if_true]
      · rename_i hg
        subst g2
        refine RB_monoW hE.w (by simp only [gave, hg]; rfl) (fun l hl => ⟨hkeep l.b (hS.lt id l hl), ?_⟩) (hS.blk id _ g1)
        refine ⟨fun h => h.1, fun h => ⟨h, fun i l' hi hl' e => ?_⟩⟩
        have := hS.inj i id l' l hl' hl e
        subst this
        exact hg hi
    · simp only [gave]
      split
      · rfl
      · exact hS.out id hid
    · simp only [gave] at hi hj
      split at hi
      · cases hi
      · split at hj
        · cases hj
        · exact hS.inj i j l l' hi hj
    · simp only [gave] at hl
      split at hl
      · cases hl
      · exact Nat.lt_of_lt_of_le (hS.lt i l hl) he.size
  · have hT : Thaw S1 (gave S st m S1.w) := ⟨rfl, fun b hh => he.hot2 b hh (hnm b)⟩
    refine fz_R h1 hT (fun i l hl hh => ?_) 8 d d' v hf hv
    have h2 := he.new i l (Nat.zero_le _) hl
    have h3 := hS.hlt l.b hh.1
    simp only [S0] at h2
    omega
end
section
variable {P : Program}
def Agree (fr fr' : Fr) (o : Op) : Prop := ∀ x ∈ o.operands.toList, rd fr x = rd fr' x
theorem rds_congr {fr fr' : Fr} : ∀ {l : List Operand}, (∀ x ∈ l, rd fr x = rd fr' x) → rds fr l = rds fr' l
  | [], _ => rfl
  | x :: l, h => by
    simp only [rds]
    rw [h x (by simp), rds_congr fun y hy => h y (by simp [hy])]
theorem rdp_congr {fr fr' : Fr} : ∀ {l : List (Nat × Operand)}, (∀ x ∈ l.map (·.2), rd fr x = rd fr' x) → rdp fr l = rdp fr' l
  | [], _ => rfl
  | (i, x) :: l, h => by
    simp only [rdp]
    rw [h x (by simp), rdp_congr fun y hy => h y (by simp at hy ⊢; exact .inr hy)]
theorem stepOp_congr {fr fr' : Fr} {o : Op} (h : Agree fr fr' o) (st : Store) : stepOp P fr st o = stepOp P fr' st o := by
  unfold Agree at h
  cases o
  case build t ps => simp only [stepOp]; rw [rdp_congr (l := ps.toList) (fun x hx => h x (by simpa [Op.operands] using hx))]
  case buildSlice t len ps => simp only [stepOp]; rw [rdp_congr (l := ps.toList) (fun x hx => h x (by simpa [Op.operands] using hx))]
  case slice t x l hi m =>
    simp only [Op.operands, Array.toList_append] at h
    simp only [stepOp]
    rw [h x (by simp), rds_congr (l := l.toList) (fun y hy => h y (by simp; simp at hy; simp [hy])), rds_congr (l := hi.toList) (fun y hy => h y (by simp; simp at hy; simp [hy])),
      rds_congr (l := m.toList) (fun y hy => h y (by simp; simp at hy; simp [hy]))]
  case makeFunc t first caps =>
    simp only [Op.operands, Array.toList_append] at h
    cases t <;> simp only [stepOp]
    rw [rds_congr (l := caps.toList) (fun y hy => h y (List.mem_append_right _ hy))]
  case next x b =>
    simp only [Op.operands] at h
    have e := h x (by simp)
    cases b <;> simp only [stepOp, e]
  all_goals first
    | rfl
    | (simp only [Op.operands] at h
       simp only [stepOp]
       try simp only [h _ (List.mem_singleton.2 rfl)]
       try simp only [h _ (List.mem_cons_self ..), h _ (List.mem_cons_of_mem _ (List.mem_cons_self ..))]
       try simp only [h _ (List.mem_cons_self ..), h _ (List.mem_cons_of_mem _ (List.mem_cons_self ..)), h _ (List.mem_cons_of_mem _ (List.mem_cons_of_mem _ (List.mem_cons_self ..)))]
       done)
theorem rop_congr {C : Cfg} {k : Nat} {o : Oper} {fr fr' : Fr} (h : Agree fr fr' o.op) (st : Store) : rop C P k o fr st = rop C P k o fr' st := by
  cases k with
  | zero => simp only [rop]
  | succ k =>
    have hs := stepOp_congr (P := P) h st
    unfold Agree at h
    generalize ho : o.op = op at h hs
    cases op
    case call c =>
      simp only [Op.operands, Call.operands] at h
      simp only [rop, ho]
      cases hc : c.callee with
      | builtin b =>
        rw [hc] at h
        simp only []
        rw [rds_congr (l := c.args.toList) (fun y hy => h y (by simpa using hy))]
      | value f =>
        rw [hc] at h
        simp only []
        rw [h f (by simp), rds_congr (l := c.args.toList) (fun y hy => h y (by simp at hy ⊢; simp [hy]))]
      | invoke => rfl
    all_goals (simp only [rop, ho]; exact hs)
theorem fpOf_congr {C : Cfg} {o : Oper} {fr fr' : Fr} (h : Agree fr fr' o.op) (st : Store) : fpOf C o fr st = fpOf C o fr' st := by
  unfold Agree at h
  unfold fpOf
  generalize o.op = op at h
  cases op
  case call c =>
    simp only [Op.operands, Call.operands] at h
    cases hc : c.callee with
    | builtin b =>
      rw [hc] at h
      have e := rds_congr (fr := fr) (fr' := fr') (l := c.args.toList) (fun y hy => h y (by simpa using hy))
      cases b <;> simp only [hc, e]
    | value f =>
      rw [hc] at h
      simp only [hc]
      rw [h f (by simp), rds_congr (l := c.args.toList) (fun y hy => h y (by simp at hy ⊢; simp [hy]))]
    | invoke => simp only [hc]
  all_goals first
    | rfl
    | (simp only [Op.operands] at h
       simp only []
       first
         | simp only [h _ (List.mem_singleton.2 rfl)]
         | simp only [h _ (List.mem_cons_self ..)])
end
section
variable {P : Program}
theorem map_st {α : Type} {x : Option α} {st st1 : Store} {d : α} (h : x.map (·, st) = some (d, st1)) : st1 = st ∧ ∀ st' : Store, x.map (·, st') = some (d, st') := by
  cases x with
  | none => cases h
  | some a => simp only [Option.map_some, Option.some.injEq, Prod.mk.injEq] at h; obtain ⟨rfl, rfl⟩ := h; exact ⟨rfl, fun _ => rfl⟩
theorem step_pure {fr : Fr} {st st1 : Store} {o : Op} {d : D} (hk : kind o = .pure) (h : stepOp P fr st o = some (d, st1)) : st1 = st ∧ ∀ st', stepOp P fr st' o = some (d, st') := by
  have key : ∀ x : Option D, (∀ st', stepOp P fr st' o = x.map (·, st')) → st1 = st ∧ ∀ st', stepOp P fr st' o = some (d, st') := by
    intro x hx
    rw [hx st] at h
    obtain ⟨h1, h2⟩ := map_st h
    exact ⟨h1, fun st' => by rw [hx st']; exact h2 st'⟩
  cases o <;> simp only [kind, reduceCtorEq] at hk
  case call => simp only [stepOp, reduceCtorEq] at h
  case move => exact key _ fun _ => rfl
  case assign => exact key _ fun _ => rfl
  case pick => exact key _ fun _ => rfl
  case index t x i =>
    cases hx : rd fr x <;> cases hi : rd fr i <;> simp only [stepOp, hx, hi] at h ⊢ <;> first | cases h | exact map_st h
  case indexAddr t x i =>
    cases hx : rd fr x <;> cases hi : rd fr i <;> simp only [stepOp, hx, hi] at h ⊢ <;> first | cases h | exact map_st h
  case binOp op t x y pl =>
    cases hx : rd fr x <;> cases hi : rd fr y <;> simp only [stepOp, hx, hi] at h ⊢ <;> first | cases h | exact map_st h
  case unOp op t x =>
    cases hx : rd fr x <;> simp only [stepOp, hx] at h ⊢ <;> first | cases h | exact map_st h
  case field t x f =>
    cases hx : rd fr x <;> simp only [stepOp, hx] at h ⊢ <;> first | cases h | exact map_st h
  case makeFunc g first caps =>
    cases g <;> simp only [stepOp] at h ⊢ <;> try (cases h; done)
    cases hx : first.toList <;> cases hy : rds fr caps.toList <;> simp only [hx, hy] at h ⊢ <;> try (cases h; done)
    injection h with h; injection h with e1 e2; subst e1; subst e2
    exact ⟨rfl, fun _ => rfl⟩
  all_goals
    simp only [stepOp] at h ⊢
    repeat' split at h
    all_goals first
      | (cases h; done)
      | (obtain ⟨h1, h2⟩ := map_st h; exact ⟨h1, fun st' => h2 st'⟩)
      | (injection h with h; injection h with e1 e2; subst e1; subst e2; refine ⟨rfl, fun st' => ?_⟩; simp_all; done)
theorem lenD_st {b : Builtin} {ts : List TypeId} {args : List D} {st st1 : Store} {d : D} (hb : b = .len ∨ b = .min ∨ b = .max) (h : builtinD P st b ts args = some (d, st1)) :
    st1 = st ∧ ∀ st', builtinD P st' b ts args = some (d, st') := by
  rcases hb with rfl | rfl | rfl
  · unfold builtinD at h ⊢
    cases ts <;> cases args <;> try (cases h)
    rename_i t ts x r
    cases r
    · exact map_st h
    · cases h
  · unfold builtinD at h ⊢
    cases args
    · cases h
    · exact map_st h
  · unfold builtinD at h ⊢
    cases args
    · cases h
    · exact map_st h
theorem rop_pure {C : Cfg} {k : Nat} {o : Oper} {fr : Fr} {st st1 : Store} {d : D} (hk : kind o.op = .pure) (h : rop C P k o fr st = some (d, st1)) : st1 = st ∧ ∀ st', rop C P k o fr st' = some (d, st') := by
  cases k with
  | zero => simp only [rop, reduceCtorEq] at h
  | succ k =>
    have hs := step_pure (P := P) (fr := fr) (st := st) (st1 := st1) (d := d) hk
    generalize ho : o.op = op at hk hs
    cases op
    case call c =>
      simp only [kind] at hk
      simp only [rop, ho] at h ⊢
      split at hk
      · rename_i hc
        simp only [hc] at h ⊢
        cases hr : rds fr c.args.toList <;> simp only [hr] at h ⊢ <;> first | cases h | exact lenD_st (.inl rfl) h
      · rename_i hc
        simp only [hc] at h ⊢
        cases hr : rds fr c.args.toList <;> simp only [hr] at h ⊢ <;> first | cases h | exact lenD_st (.inr (.inl rfl)) h
      · rename_i hc
        simp only [hc] at h ⊢
        cases hr : rds fr c.args.toList <;> simp only [hr] at h ⊢ <;> first | cases h | exact lenD_st (.inr (.inr rfl)) h
      · cases hk
    all_goals (simp only [rop, ho] at h ⊢; exact hs h)
theorem cellsOf_st {st st' : Store} {e : Nat} {d : D} (h : ∀ id v es o n, d = .osl id v es o n → st'[id]? = st[id]?) : cellsOf st' e d = cellsOf st e d := by
  cases d <;> simp only [cellsOf]
  rename_i id v es o n
  rw [h id v es o n rfl]
theorem rop_read {C : Cfg} {k : Nat} {o : Oper} {fr : Fr} {st st1 : Store} {d : D} (hk : kind o.op = .read) (h : rop C P k o fr st = some (d, st1)) :
    st1 = st ∧ ∀ st', (∀ i, fpOf C o fr st = .read (some i) → st'[i]? = st[i]?) → rop C P k o fr st' = some (d, st') ∧ fpOf C o fr st' = fpOf C o fr st := by
  cases k with
  | zero => simp only [rop, reduceCtorEq] at h
  | succ k =>
    generalize ho : o.op = op at hk
    cases op <;> simp only [kind, reduceCtorEq] at hk
    case call c => split at hk <;> cases hk
    case load t x =>
      simp only [rop, ho] at h ⊢
      simp only [fpOf, ho]
      simp only [stepOp] at h ⊢
      cases hx : rd fr x with
      | none => simp only [hx, reduceCtorEq] at h
      | some dx =>
        simp only [hx] at h ⊢
        cases dx <;> simp only [reduceCtorEq] at h
        case ptr id ver off =>
          have hcase : ∃ v rw ty cs, st[id]? = some (.cells v rw ty cs) ∧ v = ver ∧ (ld P t cs off).map (·, st) = some (d, st1) := by
            split at h
            · rename_i v rw ty cs hst
              split at h
              · exact ⟨v, rw, ty, cs, hst, ‹_›, h⟩
              · cases h
            · cases h
          obtain ⟨v, rw, ty, cs, hst, hv, h⟩ := hcase
          refine ⟨(map_st h).1, fun st' hst' => ?_⟩
          have e := hst' id rfl
          rw [hst] at e
          refine ⟨?_, by trivial⟩
          simp only [e]
          rw [if_pos hv]
          exact (map_st h).2 st'
        case fptr cs off =>
          exact ⟨(map_st h).1, fun st' _ => ⟨(map_st h).2 st', by trivial⟩⟩
    case convert src dst x =>
      simp only [rop, ho] at h ⊢
      simp only [fpOf, ho]
      simp only [stepOp] at h ⊢
      cases hx : rd fr x with
      | none => simp only [hx, reduceCtorEq] at h
      | some dx =>
        simp only [hx] at h ⊢
        have hfp : ∀ st', (∀ i, (match some dx with | some (.osl i _ _ _ _) => Fp.read (some i) | some _ => Fp.read none | none => Fp.top) = .read (some i) → st'[i]? = st[i]?) → ∀ e, cellsOf st' e dx = cellsOf st e dx := by
          intro st' hst e
          refine cellsOf_st fun id v es o n hd => ?_
          subst hd
          exact hst id rfl
        cases hcv : convD P src dst dx with
        | some y =>
          simp only [hcv] at h ⊢
          injection h with h; injection h with e1 e2; subst e1; subst e2
          refine ⟨rfl, fun st' _ => ⟨rfl, ?_⟩⟩
          trivial
        | none =>
          simp only [hcv] at h ⊢
          split at h
          · rename_i e hs hd
            split at h
            · rename_i cs hu hc
              split at h
              · rename_i l hl
                injection h with h; injection h with e1 e2; subst e1; subst e2
                refine ⟨rfl, fun st' hst' => ⟨?_, by trivial⟩⟩
                rw [hfp st' hst' 1, hu, hc]
                simp only [hl]
              · cases h
            · cases h
          · cases h
theorem set_other {st : Store} {i j : Nat} {b : Blk} (h : j ≠ i) : (st.set i b)[j]? = st[j]? := List.getElem?_set_ne (Ne.symm h)
theorem app_old {st new : Store} {j : Nat} (h : j < st.length) : (st ++ new)[j]? = st[j]? := List.getElem?_append_left h
theorem append_keep {st st1 : Store} {t t2 : TypeId} {s x d : D} (h : appendD P st t t2 s x = some (d, st1)) {i : Nat} (hi : i < st.length) (hn : ∀ id v e o n, s = .osl id v e o n → i ≠ id) : st1[i]? = st[i]? := by
  unfold appendD at h
  repeat' split at h
  all_goals first
    | (cases h; done)
    | (injection h with h; injection h with e1 e2; subst e2; first | rfl | exact app_old hi | exact set_other (hn _ _ _ _ _ rfl))
theorem copy_keep {st st1 : Store} {t : TypeId} {s x d : D} (h : copyD P st t s x = some (d, st1)) {i : Nat} (hn : ∀ id v e o n, s = .osl id v e o n → i ≠ id) : st1[i]? = st[i]? := by
  unfold copyD at h
  repeat' split at h
  all_goals first
    | (cases h; done)
    | (injection h with h; injection h with e1 e2; subst e2; first | rfl | exact set_other (hn _ _ _ _ _ rfl))
theorem finish_keep {ro : Bool} {st st1 st' : Store} {m : List Nat} {d d' : D} (h : finish ro st m d st1 = some (d', st')) {i : Nat} (hi : i < st.length) (hn : ro = false → i ∉ m) : st'[i]? = st[i]? := by
  unfold finish at h
  simp only [] at h
  split at h
  · split at h
    · cases h
    · injection h with h; injection h with e1 e2; subst e2
      cases ro
      · simp only [Bool.false_eq_true, if_false]
        rw [List.getElem?_append_left (by rw [putBack_length]; exact hi), putBack_other _ _ _ _ (hn rfl)]
      · simp only [if_true]
        exact app_old hi
  · cases h
theorem keep_eff {C : Cfg} {k : Nat} {g : FuncId} {args : List D} {st st1 : Store} {d : D} (hx : C.ext g = none) (hm : C.mode g = .keep) (h : rcall C P k g args st = some (d, st1)) {m : List Nat}
    (hmm : reach st 6 (addNew [] (refsL args)) = m) {i : Nat} (hi : i < st.length) (hn : C.ro g = false → i ∉ m) : st1[i]? = st[i]? := by
  cases k with
  | zero => simp only [rcall, reduceCtorEq] at h
  | succ k =>
    simp only [rcall, hx, hm, hmm] at h
    split at h
    · split at h
      · exact finish_keep h hi hn
      · cases h
    · cases h
theorem frz_eff {C : Cfg} {k : Nat} {g : FuncId} {args : List D} {st st1 : Store} {d : D} (hx : C.ext g = none) (hm : C.mode g = .frz) (h : rcall C P k g args st = some (d, st1)) : st1 = st := by
  cases k with
  | zero => simp only [rcall, reduceCtorEq] at h
  | succ k =>
    simp only [rcall, hx, hm] at h
    split at h
    · split at h
      · split at h
        · injection h with h; injection h with e1 e2; exact e2.symm
        · cases h
      · cases h
    · cases h
theorem rop_eff {C : Cfg} {k : Nat} {o : Oper} {fr : Fr} {st st1 : Store} {d : D} (h : rop C P k o fr st = some (d, st1)) {is : List Nat} {n : Nat} (hf : fpOf C o fr st = .touch is n) :
    ∀ i, i < n → i ∉ is → st1[i]? = st[i]? := by
  cases k with
  | zero => simp only [rop, reduceCtorEq] at h
  | succ k =>
    intro i hi hn
    generalize ho : o.op = op
    unfold fpOf at hf
    simp only [rop] at h
    rw [ho] at hf h
    cases op <;> simp only [reduceCtorEq] at hf h
    case load => split at hf <;> cases hf
    case convert => split at hf <;> cases hf
    case alloc =>
      injection hf with e1 e2; subst e1; subst e2
      simp only [stepOp] at h
      repeat' split at h
      all_goals first | (cases h; done) | (injection h with h; injection h with e1 e2; subst e2; exact app_old hi)
    case box =>
      injection hf with e1 e2; subst e1; subst e2
      simp only [stepOp] at h
      repeat' split at h
      all_goals first | (cases h; done) | (injection h with h; injection h with e1 e2; subst e2; exact app_old hi)
    case buildSlice =>
      injection hf with e1 e2; subst e1; subst e2
      simp only [stepOp] at h
      repeat' split at h
      all_goals first | (cases h; done) | (injection h with h; injection h with e1 e2; subst e2; exact app_old hi)
    case makeSlice =>
      injection hf with e1 e2; subst e1; subst e2
      simp only [stepOp] at h
      repeat' split at h
      all_goals first | (cases h; done) | (injection h with h; injection h with e1 e2; subst e2; exact app_old hi)
    case range =>
      injection hf with e1 e2; subst e1; subst e2
      simp only [stepOp] at h
      repeat' split at h
      all_goals first | (cases h; done) | (injection h with h; injection h with e1 e2; subst e2; exact app_old hi)
    case store t x v =>
      simp only [stepOp] at h
      split at hf
      · rename_i j w off hx
        injection hf with e1 e2; subst e1; subst e2
        cases hv : rd fr v <;> simp only [hx, hv, reduceCtorEq] at h
        repeat' split at h
        all_goals first | (cases h; done) | skip
        injection h with h; injection h with e1 e2; subst e2
        exact set_other (by simpa using hn)
      · cases hf
    case next x b =>
      cases b
      · simp only [stepOp, reduceCtorEq] at h
      simp only [stepOp] at h
      split at hf
      · rename_i j w off hx
        injection hf with e1 e2; subst e1; subst e2
        cases w <;> cases off <;> simp only [hx, reduceCtorEq] at h
        repeat' split at h
        all_goals first | (cases h; done) | skip
        · injection h with h; injection h with e1 e2; subst e2
          exact set_other (by simpa using hn)
        · injection h with h; injection h with e1 e2; subst e2
          rfl
      · cases hf
    case call c =>
      cases hc : c.callee with
      | invoke => simp only [hc, reduceCtorEq] at h
      | builtin b =>
        simp only [hc] at hf h
        cases hds : rds fr c.args.toList with
        | none => simp only [hds, reduceCtorEq] at h
        | some ds =>
          simp only [hds] at hf h
          cases b <;> simp only [reduceCtorEq] at hf
          case append =>
            rcases hts : c.argTypes.toList with _ | ⟨t, _ | ⟨t2, _ | ⟨t3, ts⟩⟩⟩ <;> rcases ds with _ | ⟨s, _ | ⟨x, _ | ⟨y, r⟩⟩⟩ <;> simp only [hts, builtinD, reduceCtorEq] at h
            have hlt : i < st.length := by cases s <;> simp only [] at hf <;> injection hf with e1 e2 <;> omega
            refine append_keep h hlt fun id v e o n hs => ?_
            subst hs
            simp only [] at hf
            injection hf with e1 e2
            subst e1
            simpa using hn
          case copy =>
            rcases hts : c.argTypes.toList with _ | ⟨t, ts⟩ <;> rcases ds with _ | ⟨s, _ | ⟨x, _ | ⟨y, r⟩⟩⟩ <;> simp only [hts, builtinD, reduceCtorEq] at h
            refine copy_keep h fun id v e o n hs => ?_
            subst hs
            simp only [] at hf
            injection hf with e1 e2
            subst e1
            simpa using hn
      | value f =>
        simp only [hc] at hf h
        cases hfv : rd fr f with
        | none => simp only [hfv, reduceCtorEq] at hf
        | some df =>
          cases hds : rds fr c.args.toList with
          | none => cases df <;> simp only [hfv, hds, reduceCtorEq] at hf
          | some ds =>
            cases df <;> simp only [hfv, hds, reduceCtorEq] at hf h
            rename_i g caps
            generalize hmm : reach st 6 (addNew [] (refsL (ds ++ caps))) = m at hf
            cases hx : C.ext g with
            | some y =>
              simp only [hx] at hf
              cases ht : C.fp g with
              | none => simp only [ht, reduceCtorEq] at hf
              | some t =>
                simp only [ht, Fp.touch.injEq] at hf
                obtain ⟨rfl, rfl⟩ := hf
                cases k with
                | zero => simp only [rcall, reduceCtorEq] at h
                | succ k =>
                  simp only [rcall, hx] at h
                  exact C.fpOk g y t hx ht _ _ _ _ h i hi hn
            | none =>
              cases hm : C.mode g <;> simp only [hx, hm, reduceCtorEq] at hf
              · cases hro : C.ro g
                · simp only [hro, Bool.false_eq_true, if_false, Fp.touch.injEq] at hf
                  obtain ⟨rfl, rfl⟩ := hf
                  exact keep_eff hx hm h hmm hi fun _ => hn
                · simp only [hro, if_true, Fp.touch.injEq] at hf
                  obtain ⟨rfl, rfl⟩ := hf
                  exact keep_eff hx hm h hmm hi fun h0 => by rw [hro] at h0; cases h0
theorem rop_free {C : Cfg} {k : Nat} {o : Oper} {fr : Fr} {st st1 : Store} {d : D} (h : rop C P k o fr st = some (d, st1)) (hf : fpOf C o fr st = .free) :
    st1 = st ∧ ∀ st', rop C P k o fr st' = some (d, st') ∧ fpOf C o fr st' = .free := by
  cases k with
  | zero => simp only [rop, reduceCtorEq] at h
  | succ k =>
    generalize ho : o.op = op
    unfold fpOf at hf
    simp only [rop] at h
    rw [ho] at hf h
    cases op <;> simp only [reduceCtorEq] at hf
    case call c =>
      cases hc : c.callee with
      | invoke => simp only [hc, reduceCtorEq] at hf
      | builtin b =>
        simp only [hc] at hf
        cases b <;> simp only [reduceCtorEq] at hf <;> (split at hf <;> cases hf)
      | value f =>
        simp only [hc] at hf h
        cases hfv : rd fr f with
        | none => simp only [hfv, reduceCtorEq] at hf
        | some df =>
          cases hds : rds fr c.args.toList with
          | none => cases df <;> simp only [hfv, hds, reduceCtorEq] at hf
          | some ds =>
            cases df <;> simp only [hfv, hds, reduceCtorEq] at hf h
            rename_i g caps
            cases hx : C.ext g with
            | some y => exfalso; simp only [hx] at hf; split at hf <;> cases hf
            | none =>
              cases hm : C.mode g
              · simp only [hx, hm, reduceCtorEq] at hf
              · exfalso
                simp only [hx, hm] at hf
                split at hf <;> cases hf
              rotate_left
              · simp only [hx, hm, reduceCtorEq] at hf
              · have hst := frz_eff hx hm h
                subst hst
                refine ⟨rfl, fun st' => ⟨?_, ?_⟩⟩
                · simp only [rop, ho, hc, hfv, hds]
                  cases k with
                  | zero => simp only [rcall, reduceCtorEq] at h
                  | succ k =>
                    simp only [rcall, hx, hm] at h ⊢
                    split at h
                    · rename_i he
                      rw [if_pos he]
                      split at h
                      · split at h
                        · injection h with h; injection h with e1 e2; subst e1; rfl
                        · cases h
                      · cases h
                    · cases h
                · unfold fpOf
                  rw [ho]
                  simp only [hc, hfv, hds, hx, hm]
    all_goals (split at hf <;> cases hf)
end
end Go.Mm
end
