/- A part of the proof of FilesFitCardSaid: M33. -/
import Derived.Test.YtamefnngdhbjiaaGreatDoorFitA3
set_option linter.all false
section
namespace Go.Mm
variable [Globs]
section
variable {P : Program} {C : Cfg}
universe u
structure Dep {α : Sort u} (a : α) : Type where
def wantD (d : D) (b : Bool) : Bool := match d with
  | .bool b' => b' == b
  | _ => false
def hB (x : Option (D × Store)) (K : D → Store → Prop) (_ : Dep K) : Prop := wB x K
def hIf (b : Bool) (A B : Prop) (_ : Dep A) (_ : Dep B) : Prop := wIf b A B
def hCond (x : Option D) (A B : Prop) (_ : Dep A) (_ : Dep B) : Prop := wCond x A B
def hSeq (o : Out) (A B : Prop) (_ : Dep A) (_ : Dep B) : Prop := wSeq o A B
def hRes (x : Option (List D)) (K : D → Prop) (_ : Dep K) : Prop := wRes x K
def hEnd (o : Out) (A : Prop) (_ : Dep A) : Prop := wEnd o A
def hPop (x : Option (Out × Store)) (K : Out → Store → Prop) (_ : Dep K) : Prop := wPop x K
def hFn (f : Option D) (A : FuncId → List D → Prop) (_ : Dep A) : Prop := wFn f A
def hCall (C : Cfg) (P : Program) (f : FuncId) (args : List D) (st : Store) (K : D → Store → Prop) (_ : Dep K) : Prop := CallW C P f args st K
def hYield (C : Cfg) (P : Program) (lid : Nat) (args : List D) (st : Store) (K : D → Store → Prop) (_ : Dep K) : Prop := YieldW C P lid args st K
def hBody (C : Cfg) (P : Program) (f : FuncId) (args : List D) (st : Store) (K : D → Store → Prop) (_ : Dep K) : Prop := BodyW C P f args st K
def hC (C : Cfg) (P : Program) (f : Option D) (ds : Option (List D)) (st : Store) (K : D → Store → Prop) (_ : Dep K) : Prop :=
  wCall f ds (fun g ds => CallW C P g ds st K) (fun lid ds => YieldW C P lid ds st K)
def hLoop (C : Cfg) (P : Program) (X : List Nat) (fid n : Nat) (b : MC) (fr : Fr) (st : Store) (K : Out → Fr → Store → Prop) (_ : Dep b) (_ : Dep fr) (_ : Dep K) : Prop := wpM C P X fid n (.loop b) fr st K
theorem wpM_skip {X : List Nat} {fid n : Nat} {fr : Fr} {st : Store} {K : Out → Fr → Store → Prop} : wpM C P X fid n .skip fr st K = K .norm fr st := rfl
theorem wpM_ret {X : List Nat} {fid n : Nat} {fr : Fr} {st : Store} {K : Out → Fr → Store → Prop} : wpM C P X fid n .ret fr st K = K .ret fr st := rfl
theorem wpM_exit {X : List Nat} {fid n : Nat} {fr : Fr} {st : Store} {K : Out → Fr → Store → Prop} {i : Nat} : wpM C P X fid n (.exit i) fr st K = K (.exit i) fr st := rfl
theorem wpM_reg {X : List Nat} {fid n : Nat} {l : List MOp} {fr : Fr} {st : Store} {K : Out → Fr → Store → Prop} : wpM C P X fid n (.reg l) fr st K = wpL C P l fr st fun fr' st' => K .norm fr' st' := rfl
theorem wpM_seq {X : List Nat} {fid n : Nat} {a b : MC} {fr : Fr} {st : Store} {K : Out → Fr → Store → Prop} : wpM C P X fid n (.seq a b) fr st K = wpM C P X fid n a fr st fun o fr st => hSeq o (wpM C P X fid n b fr st K) (K o fr st) ⟨⟩ ⟨⟩ := rfl
theorem wpM_cond {X : List Nat} {fid n : Nat} {c : Operand} {a b : MC} {fr : Fr} {st : Store} {K : Out → Fr → Store → Prop} : wpM C P X fid n (.cond c a b) fr st K = hCond (rd fr c) (wpM C P X fid n a fr st K) (wpM C P X fid n b fr st K) ⟨⟩ ⟨⟩ := rfl
theorem wpM_block {X : List Nat} {fid n i : Nat} {b : MC} {fr : Fr} {st : Store} {K : Out → Fr → Store → Prop} : wpM C P X fid n (.block i b) fr st K = wpM C P X fid n b fr st fun o fr st => K (outBlock i o) fr st := rfl
theorem wpM_loop {X : List Nat} {fid n : Nat} {b : MC} {fr : Fr} {st : Store} {K : Out → Fr → Store → Prop} : wpM C P X fid n (.loop b) fr st K = hLoop C P X fid n b fr st K ⟨⟩ ⟨⟩ ⟨⟩ := rfl
theorem wpM_range {X : List Nat} {fid n : Nat} {f : Operand} {ps : Array Tmp} {asg body : Code} {fr : Fr} {st : Store} {K : Out → Fr → Store → Prop} : wpM C P X fid n (.range f ps asg body) fr st K =
    hFn (rd fr f) (fun g caps => hBody C P g (.yld st.length :: caps) (st ++ [.loop .ready none fid fr n ps asg body]) (fun _ st' => hPop (popLoop st' st.length) (fun o st'' => K o fr st'') ⟨⟩) ⟨⟩) ⟨⟩ := rfl
theorem wpL_nil {fr : Fr} {st : Store} {K : Fr → Store → Prop} : wpL C P [] fr st K = K fr st := rfl
theorem wpL_none {d : Option Tmp} {x : MX} {l : List MOp} {fr : Fr} {st : Store} {K : Fr → Store → Prop} : wpL C P (⟨d, x, none⟩ :: l) fr st K = wpX C P x fr st fun v st' => wpL C P l (put fr d v) st' K := rfl
theorem wpL_some {d : Option Tmp} {x : MX} {g : Tmp × Bool} {l : List MOp} {fr : Fr} {st : Store} {K : Fr → Store → Prop} : wpL C P (⟨d, x, some g⟩ :: l) fr st K =
    hIf (wantG fr (some g)) (wpX C P x fr st fun v st' => wpL C P l (put fr d v) st' K) (wpL C P l (put fr d .undef) st K) ⟨⟩ ⟨⟩ := rfl
theorem wpX_i {m : MI} {fr : Fr} {st : Store} {K : D → Store → Prop} : wpX C P (.i m) fr st K = hB (mi P fr st m) K ⟨⟩ := rfl
theorem wpX_call {f : Operand} {args : List Operand} {fr : Fr} {st : Store} {K : D → Store → Prop} : wpX C P (.call f args) fr st K = hC C P (rd fr f) (rds fr args) st K ⟨⟩ := rfl
theorem hB_some {d : D} {st : Store} {K : D → Store → Prop} {u : Dep K} : hB (some (d, st)) K u = K d st := rfl
theorem hIf_t {A B : Prop} {u : Dep A} {v : Dep B} : hIf true A B u v = A := rfl
theorem hIf_f {A B : Prop} {u : Dep A} {v : Dep B} : hIf false A B u v = B := rfl
theorem hSeq_n {A B : Prop} {u : Dep A} {v : Dep B} : hSeq .norm A B u v = A := rfl
theorem hSeq_r {A B : Prop} {u : Dep A} {v : Dep B} : hSeq .ret A B u v = B := rfl
theorem hSeq_e {A B : Prop} {u : Dep A} {v : Dep B} {i : Nat} : hSeq (.exit i) A B u v = B := rfl
theorem hCond_b {b : Bool} {A B : Prop} {u : Dep A} {v : Dep B} : hCond (some (.bool b)) A B u v = hIf b A B ⟨⟩ ⟨⟩ := by cases b <;> rfl
theorem hEnd_r {A : Prop} {u : Dep A} : hEnd .ret A u = A := rfl
theorem hEnd_n {A : Prop} {u : Dep A} : hEnd .norm A u = A := rfl
theorem hRes_s {l : List D} {K : D → Prop} {u : Dep K} : hRes (some l) K u = K (resD l) := rfl
theorem hPop_s {o : Out} {st : Store} {K : Out → Store → Prop} {u : Dep K} : hPop (some (o, st)) K u = K o st := rfl
theorem hFn_f {g : FuncId} {caps : List D} {A : FuncId → List D → Prop} {u : Dep A} : hFn (some (.fn g caps)) A u = A g caps := rfl
theorem hC_f {g : FuncId} {caps ds : List D} {st : Store} {K : D → Store → Prop} {u : Dep K} : hC C P (some (.fn g caps)) (some ds) st K u = hCall C P g (ds ++ caps) st K ⟨⟩ := rfl
theorem hC_y {lid : Nat} {ds : List D} {st : Store} {K : D → Store → Prop} {u : Dep K} : hC C P (some (.yld lid)) (some ds) st K u = hYield C P lid ds st K ⟨⟩ := rfl
theorem out_n {i : Nat} : outBlock i .norm = .norm := rfl
theorem out_r {i : Nat} : outBlock i .ret = .ret := rfl
theorem out_e {i j : Nat} : outBlock i (.exit j) = if j = i then .norm else .exit j := rfl
theorem rd_t {fr : Fr} {t : Nat} : rd fr (.tmp t) = some (fr t) := rfl
theorem rd_f {fr : Fr} {t : Nat} : rd fr (.func t) = some (.fn t []) := rfl
theorem rd_b {fr : Fr} {b : Bool} : rd fr (.const (.bool b)) = some (.bool b) := rfl
theorem rd_i {fr : Fr} {k : IntKind} {n : Int} : rd fr (.const (.int k n)) = some (.int k n) := rfl
theorem rd_s {fr : Fr} {s : ByteArray} : rd fr (.const (.string s)) = some (.str s) := rfl
theorem rd_p {fr : Fr} : rd fr (.const (.pointer none)) = some .nilp := rfl
theorem rd_l {fr : Fr} : rd fr (.const (.slice none 0 0)) = some .nils := rfl
theorem rd_n {fr : Fr} : rd fr (.const .nilFunc) = some .nilf := rfl
theorem put_s {fr : Fr} {t : Nat} {d : D} : put fr (some t) d = upd fr t d := rfl
theorem put_n {fr : Fr} {d : D} : put fr none d = fr := rfl
theorem upd_a {fr : Fr} {t i : Nat} {d : D} : upd fr t d i = if i = t then d else fr i := rfl
theorem want_b {fr : Fr} {t : Tmp} {b : Bool} : wantG fr (some (t, b)) = wantD (fr t) b := by simp only [wantG, wantD]; cases fr t <;> rfl
theorem frOf_a {args : List D} {i : Nat} : frOf args i = (match args[i]? with | some d => d | none => .undef) := rfl
theorem body_h {X : List Nat} {f : FuncId} {n : Nat} {rs : List ResultVar} {m : MC} (hb : bodyM P X f = some (n, rs, m)) {args : List D} {st : Store} {K : D → Store → Prop} (hn : args.length ≤ n)
    (h : wpM C P X f n m (frOf args) st fun o fr st' => hEnd o (hRes (resOf P fr st' rs) (fun d => K d st') ⟨⟩) ⟨⟩) : BodyW C P f args st K := body_m hb hn h
end
end Go.Mm
end
