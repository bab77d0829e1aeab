/- A part of the proof of FilesFitCardSaid: M34, M35. -/
import Derived.Test.YtamefnngdhbjiaaGreatDoorFitA4
import Derived.ChangeReads
import Derived.ChangeShapes
import Derived.DataReads
import GoSem.ClaimJoined
import Derived.Carry
import Derived.OpenShut
import Derived.Handed
set_option linter.all false
section
namespace Go.Mm
variable [Globs]
section
def tiles (P : Program) : Nat → List Field → Nat → Bool
  | off, [], n => off == n
  | off, f :: fs, n => (f.offset == off) && tiles P (off + P.cellsOf f.type) fs n
def plainT (P : Program) : Nat → TypeId → Bool
  | 0, _ => false
  | j + 1, t => match P.underlying t with
    | some .bool => P.cellsOf t == 1
    | some (.int _) => P.cellsOf t == 1
    | some .string => P.cellsOf t == 1
    | some (.slice e) => (P.cellsOf t == 1) && plainT P j e && decide (1 ≤ P.cellsOf e)
    | some (.struct fs) => tiles P 0 fs.toList (P.cellsOf t) && fs.toList.all fun f => plainT P j f.type
    | _ => false
def Typ (P : Program) : Nat → TypeId → List D → Prop
  | 0, _, _ => False
  | j + 1, t, ds => match P.underlying t with
    | some .bool => ∃ b, ds = [.bool b]
    | some (.int k) => ∃ n, ds = [.int k n] ∧ (Lit.int k n).wf = true
    | some .string => ∃ s : ByteArray, ds = [.str s] ∧ s.size ≤ reachBytes
    | some (.slice e) => ds = [.nils] ∨ ds = [.zsl] ∨ ∃ rows : List (List D), ds = [.fsl rows.length rows.flatten] ∧ rows.length ≤ maxLen ∧ rows.length * P.bytesOf e ≤ reachBytes ∧ ∀ r ∈ rows, Typ P j e r ∧ r.length = P.cellsOf e
    | some (.struct fs) => ds.length = P.cellsOf t ∧ ∀ f ∈ fs.toList, Typ P j f.type ((ds.drop f.offset).take (P.cellsOf f.type))
    | _ => False
theorem refsL_append : ∀ (a b : List D), refsL (a ++ b) = refsL a ++ refsL b
  | [], b => rfl
  | d :: a, b => by simp only [List.cons_append, refsL, refsL_append a b, List.append_assoc]
theorem refsL_flatten : ∀ (l : List (List D)), (∀ r ∈ l, refsL r = []) → refsL l.flatten = []
  | [], _ => rfl
  | r :: l, h => by
    simp only [List.flatten_cons, refsL_append, h r (by simp), refsL_flatten l (fun x hx => h x (by simp [hx])), List.append_nil]
variable {H : Type} {enc : TypeId × Value → H} {P : Program} {W : World} {base : Nat}
def still (W : World) : Real := { w := W, bl := fun _ => none, n := 0, hot := fun _ => False }
theorem struct_cells {S : Real} {j fuel : Nat} (ih : ∀ fuel t cs x, plainT P j t = true → DataW.trod enc P S.w base (fun _ => true) true fuel t cs = some x → (∀ n ∈ x.1.weights P t, n ≤ reachBytes) → ∃ ds, RL S ds cs ∧ One cs ∧ ds.length = P.cellsOf t ∧ Typ P j t ds ∧ refsL ds = []) {cs : List Value} {n : Nat} (hn : cs.length = n) :
    ∀ (fs : List Field) (off : Nat) (xs : List (DataW H × List MemPlace)), off ≤ n → tiles P off fs n = true → (fs.all fun f => plainT P j f.type) = true →
      (fs.mapM fun f => DataW.trod enc P S.w base (fun _ => true) true fuel f.type ((cs.drop f.offset).take (P.cellsOf f.type))) = some xs → (∀ n ∈ DataW.weightsEach P (fs.map (·.type)) (xs.map (·.1)), n ≤ reachBytes) →
      ∃ ds, RL S ds (cs.drop off) ∧ One (cs.drop off) ∧ refsL ds = [] ∧ ∀ f ∈ fs, off ≤ f.offset ∧ Typ P j f.type ((ds.drop (f.offset - off)).take (P.cellsOf f.type)) := by
  intro fs
  induction fs with
  | nil =>
    intro off xs _ ht _ _ _
    simp only [tiles, beq_iff_eq] at ht
    refine ⟨[], ?_, ?_, rfl, by simp⟩
    · rw [List.drop_eq_nil_of_le (by omega)]; simp only [RL]
    · rw [List.drop_eq_nil_of_le (by omega)]; intro v hv; cases hv
  | cons f fs ihf =>
    intro off xs hoff ht hp hm hwt
    simp only [tiles, Bool.and_eq_true, beq_iff_eq] at ht
    simp only [List.all_cons, Bool.and_eq_true] at hp
    obtain ⟨ho, ht⟩ := ht
    rw [List.mapM_cons] at hm
    cases h1 : DataW.trod enc P S.w base (fun _ => true) true fuel f.type ((cs.drop f.offset).take (P.cellsOf f.type)) with
    | none => rw [h1] at hm; cases hm
    | some x =>
      cases h2 : (fs.mapM fun f => DataW.trod enc P S.w base (fun _ => true) true fuel f.type ((cs.drop f.offset).take (P.cellsOf f.type))) with
      | none => rw [h1, h2] at hm; cases hm
      | some ys =>
        have hxs : xs = x :: ys := by
          rw [h1, h2] at hm
          exact (Option.some.inj hm).symm
        subst hxs
        simp only [List.map_cons, DataW.weightsEach, List.mem_append] at hwt
        have hwy : ∀ n ∈ DataW.weightsEach P (fs.map (·.type)) (ys.map (·.1)), n ≤ reachBytes := fun n hn => hwt n (.inr hn)
        obtain ⟨d1, r1, o1, l1, t1, e1⟩ := ih fuel _ _ _ hp.1 h1 (fun n hn => hwt n (.inl hn))
        have hlen : (cs.drop f.offset).take (P.cellsOf f.type) = ((cs.drop f.offset).take (P.cellsOf f.type)) := rfl
        have hrl := RL_length r1
        rw [l1] at hrl
        simp only [List.length_take, List.length_drop] at hrl
        by_cases hz : P.cellsOf f.type = 0
        · obtain ⟨d2, r2, o2, e2, t2⟩ := ihf (off + P.cellsOf f.type) ys (by omega) ht hp.2 h2 hwy
          rw [hz, Nat.add_zero] at r2 o2 t2
          refine ⟨d2, r2, o2, e2, fun g hg => ?_⟩
          rcases List.mem_cons.1 hg with rfl | hg
          · refine ⟨by omega, ?_⟩
            have : d1 = [] := List.length_eq_zero_iff.1 (by omega)
            subst this
            rw [hz, List.take_zero]; exact t1
          · exact t2 g hg
        · obtain ⟨d2, r2, o2, e2, t2⟩ := ihf (off + P.cellsOf f.type) ys (by omega) ht hp.2 h2 hwy
          have hsplit : cs.drop off = (cs.drop f.offset).take (P.cellsOf f.type) ++ cs.drop (off + P.cellsOf f.type) := by
            rw [ho, ← List.drop_drop, List.take_append_drop]
          refine ⟨d1 ++ d2, by rw [hsplit]; exact RL_append r1 r2, by rw [hsplit]; exact One_append.2 ⟨o1, o2⟩, by rw [refsL_append, e1, e2]; rfl, fun g hg => ?_⟩
          rcases List.mem_cons.1 hg with rfl | hg
          · refine ⟨by omega, ?_⟩
            rw [ho, Nat.sub_self, List.drop_zero, ← l1, List.take_left']
            · exact t1
            · rfl
          · obtain ⟨g1, g2⟩ := t2 g hg
            refine ⟨by omega, ?_⟩
            rw [List.drop_append, List.drop_eq_nil_of_le (by omega), List.nil_append, l1, Nat.sub_sub]
            exact g2
theorem trod_typ {S : Real} (hh : ∀ b, ¬ S.hot b) : ∀ (j fuel : Nat) (t : TypeId) (cs : List Value) (x : DataW H × List MemPlace), plainT P j t = true → DataW.trod enc P S.w base (fun _ => true) true fuel t cs = some x → (∀ n ∈ x.1.weights P t, n ≤ reachBytes) →
    ∃ ds, RL S ds cs ∧ One cs ∧ ds.length = P.cellsOf t ∧ Typ P j t ds ∧ refsL ds = [] := by
  intro j
  induction j with
  | zero => intro fuel t cs x h; simp [plainT] at h
  | succ j ih =>
    intro fuel t cs x hp h hwt
    cases fuel with
    | zero => simp [DataW.trod] at h
    | succ fuel =>
      rw [DataW.trod_step] at h
      unfold DataW.trodStep at h
      simp only [plainT] at hp
      cases hu : P.underlying t with
      | none => rw [hu] at hp; cases hp
      | some td =>
        rw [hu] at hp h
        cases td
        case bool =>
          simp only [beq_iff_eq] at hp
          simp only [] at h
          split at h <;> try (cases h; done)
          all_goals rename_i heq
          all_goals try (cases heq; done)
          rename_i b
          exact ⟨[.bool b], by simp [RL, R], by intro v hv; simp at hv; subst hv; rfl, by rw [hp]; rfl, by simp only [Typ, hu]; exact ⟨b, rfl⟩, rfl⟩
        case int k =>
          simp only [beq_iff_eq] at hp
          simp only [] at h
          split at h <;> try (cases h; done)
          all_goals rename_i heq
          all_goals try (cases heq; done)
          rename_i k1 k2 n
          injection heq with heq; injection heq with heq; subst heq
          obtain ⟨⟨rfl, hw⟩, h⟩ := ite_some h
          exact ⟨[.int _ n], by simp only [RL, R]; exact ⟨_, [], rfl, rfl, rfl⟩, by intro v hv; simp at hv; subst hv; rfl, by rw [hp]; rfl, by simp only [Typ, hu]; exact ⟨n, rfl, hw⟩, rfl⟩
        case string =>
          simp only [beq_iff_eq] at hp
          simp only [] at h
          split at h <;> try (cases h; done)
          all_goals rename_i heq
          all_goals try (cases heq; done)
          rename_i s
          obtain ⟨hw, h⟩ := ite_some h
          injection h with h; subst h
          have hws : s.size ≤ reachBytes := by
            have := hwt s.data.toList.length (by simp [DataW.weights])
            simpa using this
          exact ⟨[.str s], by simp [RL, R], by intro v hv; simp at hv; subst hv; rfl, by rw [hp]; rfl, by simp only [Typ, hu]; exact ⟨s, rfl, hws⟩, rfl⟩
        case slice e =>
          simp only [Bool.and_eq_true, beq_iff_eq, decide_eq_true_eq] at hp
          obtain ⟨⟨hp1, hp2⟩, hp3⟩ := hp
          simp only [] at h
          split at h <;> try (cases h; done)
          all_goals rename_i heq
          all_goals try (cases heq; done)
          · exact ⟨[.nils], by simp [RL, R], by intro v hv; simp at hv; subst hv; rfl, by rw [hp1]; rfl, by simp [Typ, hu], rfl⟩
          · rename_i e' a len cap
            injection heq with heq; injection heq with heq; subst heq
            obtain ⟨⟨hb, hlc, hcm⟩, h⟩ := ite_some h
            by_cases hc0 : cap = 0
            · subst hc0
              have : len = 0 := by omega
              subst this
              exact ⟨[.zsl], by simp only [RL, R]; exact ⟨_, [], rfl, ⟨a, rfl⟩, rfl⟩, by intro v hv; simp at hv; subst hv; rfl, by rw [hp1]; rfl, by simp [Typ, hu], rfl⟩
            · obtain ⟨elems, he, h⟩ := Option.bind_eq_some_iff.1 h
              simp only [if_true] at h
              obtain ⟨rest, hr, h⟩ := Option.map_eq_some_iff.1 h
              subst h
              have hel1 : elems.length = len := by rw [mapM_some_length he]; simp
              simp only [DataW.weights, hu, List.mem_cons, List.mem_append] at hwt
              have hwl : len * P.bytesOf e ≤ reachBytes := by
                have h1 := hwt _ (.inl rfl)
                rw [List.length_map, List.length_map, hel1] at h1
                exact Nat.le_trans (Nat.mul_le_mul_right _ (by omega)) h1
              have hall : ∀ (l : List (DataW H × List MemPlace)) (y : DataW H × List MemPlace), y ∈ l → ∀ n ∈ y.1.weights P e, n ∈ DataW.weightsAll P e (l.map (·.1)) := by
                intro l
                induction l with
                | nil => intro y hy; cases hy
                | cons z l ihl =>
                  intro y hy n hn
                  simp only [List.map_cons, DataW.weightsAll, List.mem_append]
                  rcases List.mem_cons.1 hy with rfl | hy
                  · exact .inl hn
                  · exact .inr (ihl y hy n hn)
              have hel : ∀ i, i < cap → ∃ ds vs, RL S ds vs ∧ One vs ∧ ds.length = P.cellsOf e ∧ (Typ P j e ds ∧ refsL ds = []) ∧ ∀ m (hm : m < vs.length), S.w.cell? ((a.add (i * P.cellsOf e)).add m) = some vs[m] := by
                intro i hi
                have hget : ∃ y, ((S.w.cells? base (a.add (i * P.cellsOf e)) (P.cellsOf e)).bind (DataW.trod enc P S.w base (fun _ => true) true fuel e)) = some y ∧ ∀ n ∈ y.1.weights P e, n ≤ reachBytes := by
                  by_cases hil : i < len
                  · have := mapM_some_get he i i (by simp [hil])
                    have hlt : i < elems.length := by rw [mapM_some_length he]; simpa using hil
                    exact ⟨elems[i], by rw [this]; exact List.getElem?_eq_getElem hlt, fun n hn => hwt n (.inr (.inl (hall elems _ (List.getElem_mem hlt) n hn)))⟩
                  · have := mapM_some_get hr (i - len) (i - len) (by rw [List.getElem?_range (by omega)])
                    have hlt : i - len < rest.length := by rw [mapM_some_length hr]; simp; omega
                    rw [show len + (i - len) = i by omega] at this
                    exact ⟨rest[i - len], by rw [this]; exact List.getElem?_eq_getElem hlt, fun n hn => hwt n (.inr (.inr (hall rest _ (List.getElem_mem hlt) n hn)))⟩
                obtain ⟨y, hy, hyw⟩ := hget
                obtain ⟨vs, hvs, hy⟩ := Option.bind_eq_some_iff.1 hy
                obtain ⟨_, hvl, hcell⟩ := World.cells?_some hvs
                obtain ⟨ds, r1, r2, r3, r4⟩ := ih fuel e vs y hp2 hy hyw
                exact ⟨ds, vs, r1, r2, r3, r4, fun m hm => by rw [hcell m (by omega)]; exact List.getElem?_eq_getElem hm⟩
              obtain ⟨b, o, spot⟩ := a
              have hspot : spot = none := by
                obtain ⟨ds, vs, r1, r2, r3, r4, r5⟩ := hel 0 (by omega)
                have hvl := RL_length r1
                have := r5 0 (by omega)
                simp only [Nat.zero_mul, Addr.add, if_true] at this
                unfold World.cell? at this
                split at this
                · split at this
                  · cases this
                  · rename_i hs
                    simpa using hs
                · cases this
              subst hspot
              have hrows : ∀ n, n ≤ cap → ∃ (rows : List (List D)) (vs : List Value), rows.length = n ∧ RL S rows.flatten vs ∧ One vs ∧ vs.length = n * P.cellsOf e ∧ (∀ r ∈ rows, (Typ P j e r ∧ refsL r = []) ∧ r.length = P.cellsOf e) ∧
                  ∀ m (hm : m < vs.length), S.w.cell? ⟨b, o + m, none⟩ = some vs[m] := by
                intro n
                induction n with
                | zero => intro _; exact ⟨[], [], rfl, by simp [RL], by intro v hv; (cases hv), by simp, by simp, by simp⟩
                | succ n ihn =>
                  intro hn
                  obtain ⟨rows, vs, q1, q2, q3, q4, q5, q6⟩ := ihn (by omega)
                  obtain ⟨ds, us, r1, r2, r3, r4, r5⟩ := hel n (by omega)
                  have hul := RL_length r1
                  refine ⟨rows ++ [ds], vs ++ us, by simp [q1], by simp only [List.flatten_append, List.flatten_cons, List.flatten_nil, List.append_nil]; exact RL_append q2 r1, One_append.2 ⟨q3, r2⟩, ?_, ?_, ?_⟩
                  · rw [List.length_append, q4, Nat.succ_mul]; omega
                  · intro r hr
                    rcases List.mem_append.1 hr with hr | hr
                    · exact q5 r hr
                    · simp at hr; subst hr; exact ⟨r4, r3⟩
                  · intro m hm
                    by_cases hmv : m < vs.length
                    · rw [q6 m hmv, List.getElem_append_left hmv]
                    · rw [List.length_append] at hm
                      have := r5 (m - vs.length) (by omega)
                      rw [add_plain, add_plain, ← q4, Nat.add_assoc, show vs.length + (m - vs.length) = m by omega] at this
                      rw [this, List.getElem_append_right (by omega)]
              obtain ⟨rows, vs, q1, q2, q3, q4, q5, q6⟩ := hrows len hlc
              refine ⟨[.fsl rows.length rows.flatten], ?_, by intro v hv; simp at hv; subst hv; rfl, by rw [hp1]; rfl, ?_, ?_⟩
              · simp only [RL, R]
                exact ⟨_, [], rfl, ⟨b, o, vs, cap, by rw [q1], by omega, q2, .inr ⟨hh b, q6⟩, q3⟩, rfl⟩
              · simp only [Typ, hu]
                exact .inr (.inr ⟨rows, rfl, by omega, by rw [q1]; exact hwl, fun r hr => ⟨(q5 r hr).1.1, (q5 r hr).2⟩⟩)
              · simp only [refsL, refs, List.append_nil]
                exact refsL_flatten rows fun r hr => (q5 r hr).1.2
        case struct fs =>
          simp only [Bool.and_eq_true] at hp
          simp only [] at h
          obtain ⟨hl, h⟩ := ite_some h
          obtain ⟨xs, hxs, h⟩ := Option.map_eq_some_iff.1 h
          subst h
          simp only [DataW.weights, hu] at hwt
          obtain ⟨ds, r1, r2, r4, r3⟩ := struct_cells (fun fuel t cs x hp h hwt => ih fuel t cs x hp h hwt) hl fs.toList 0 xs (by omega) hp.1 hp.2 hxs hwt
          rw [List.drop_zero] at r1 r2
          have hlen := RL_length r1
          exact ⟨ds, r1, r2, by omega, by simp only [Typ, hu]; exact ⟨by omega, fun f hf => (r3 f hf).2⟩, r4⟩
        all_goals (simp only [Bool.false_eq_true] at hp)
end
end Go.Mm
end
section
namespace Go.Mm
open Go.RowKit
variable [Globs] {H : Type} {enc : TypeId × Value → H} {P : Program} {W : World} {base : Nat}
section
def isStruct (P : Program) (t : TypeId) : Bool := match P.underlying t with | some (.struct _) => true | _ => false
def TypV (P : Program) (t : TypeId) (d : D) : Prop := if isStruct P t then ∃ ds, d = .agg ds ∧ Typ P 6 t ds else Typ P 6 t [d]
def TypL (P : Program) : List TypeId → List D → Prop
  | [], ds => ds = []
  | t :: ts, ds => ∃ d r, ds = d :: r ∧ TypV P t d ∧ TypL P ts r
theorem cells_one {v : Value} (h : ∀ cs, v ≠ .agg cs) : v.cells.toList = [v] := by
  cases v <;> first | rfl | exact absurd rfl (h _)
theorem okWide_no_agg {t : TypeId} (hp : plainT P 6 t = true) (hs : isStruct P t = false) {cs : Array Value} (h : Value.okWide P W .any base t (.agg cs)) : False := by
  unfold isStruct at hs
  simp only [plainT] at hp
  cases hu : P.underlying t with
  | none => rw [hu] at hp; cases hp
  | some td =>
    rw [hu] at hp hs
    cases td <;> simp only [Bool.false_eq_true, reduceCtorEq] at hp hs
    all_goals (simp only [Value.okWide, hu, Cell.okWide, Cell.ok] at h)
theorem struct_agg {t : TypeId} (hs : isStruct P t = true) {v : Value} (h : Value.okWide P W .any base t v) : ∃ cs, v = .agg cs := by
  unfold isStruct at hs
  split at hs
  · rename_i fs hu
    simp only [Value.okWide, hu] at h
    obtain ⟨cs, h, _⟩ := h
    exact ⟨cs, h⟩
  · cases hs
theorem arg_R {S : Real} (hSw : S.w = W) (hh : ∀ b, ¬ S.hot b) {t : TypeId} {v : Value} {d : DataW H} {ps : List MemPlace} (hp : plainT P 6 t = true) (h : DataW.Trod enc P W 0 (fun _ => true) true t v d ps) (hok : Value.okWide P W .any base t v) (hwt : ∀ n ∈ d.weights P t, n ≤ reachBytes) :
    ∃ x, R S x v ∧ TypV P t x ∧ refs x = [] := by
  obtain ⟨fuel, h⟩ := h
  rw [← hSw] at h
  obtain ⟨ds, r1, r2, r3, r4, r5⟩ := trod_typ hh 6 fuel t _ _ hp h hwt
  cases hs : isStruct P t with
  | true =>
    obtain ⟨cs, rfl⟩ := struct_agg hs hok
    refine ⟨.agg ds, ?_, by unfold TypV; rw [hs]; exact ⟨ds, rfl, r4⟩, by simp only [refs]; exact r5⟩
    simp only [R]
    exact ⟨cs.toList, by simp, r1, r2⟩
  | false =>
    have hna : ∀ cs, v ≠ .agg cs := fun cs e => by subst e; exact okWide_no_agg hp hs hok
    rw [cells_one hna] at r1
    cases ds with
    | nil => simp only [RL, reduceCtorEq] at r1
    | cons x xs =>
      simp only [RL] at r1
      obtain ⟨u, us, e, hx, hxs⟩ := r1
      injection e with e1 e2; subst e1; subst e2
      have : xs = [] := by
        have := RL_length hxs
        exact List.length_eq_zero_iff.1 (by simpa using this)
      subst this
      refine ⟨x, hx, by unfold TypV; rw [hs]; exact r4, ?_⟩
      simp only [refsL, List.append_nil] at r5
      exact r5
theorem args_R {S : Real} (hSw : S.w = W) (hh : ∀ b, ¬ S.hot b) : ∀ {ts : List TypeId} {vs : List Value} {ds : List (DataW H)} {ps : List MemPlace}, (ts.all fun t => plainT P 6 t) = true → DataW.TrodAll enc P W 0 (fun _ => true) true ts vs ds ps →
    (∀ (j : Nat) t v, ts[j]? = some t → vs[j]? = some v → Value.okWide P W .any base t v) → (∀ n ∈ DataW.weightsEach P ts ds, n ≤ reachBytes) → ∃ xs, RL S xs vs ∧ TypL P ts xs ∧ refsL xs = []
  | [], vs, ds, ps, _, h, _, _ => by
    obtain ⟨rfl, _, _⟩ := Go.ChangeShapes.trodAll_nil h
    exact ⟨[], by simp only [RL], by simp only [TypL], rfl⟩
  | t :: ts, vs, ds, ps, hp, h, hok, hwt => by
    simp only [List.all_cons, Bool.and_eq_true] at hp
    obtain ⟨v, vs', d, ds', p, q, rfl, rfl, rfl, h1, h2⟩ := Go.ChangeShapes.trodAll_cons h
    obtain ⟨x, r1, r2, r3⟩ := arg_R hSw hh hp.1 h1 (hok 0 t v rfl rfl) (fun n hn => hwt n (by simp only [DataW.weightsEach, List.mem_append]; exact .inl hn))
    obtain ⟨xs, q1, q2, q3⟩ := args_R hSw hh hp.2 h2 (fun j t v ht hv => hok (j + 1) t v (by simpa using ht) (by simpa using hv)) (fun n hn => hwt n (by simp only [DataW.weightsEach, List.mem_append]; exact .inr hn))
    exact ⟨x :: xs, by simp only [RL]; exact ⟨v, vs', rfl, r1, q1⟩, by simp only [TypL]; exact ⟨x, xs, rfl, r2, q2⟩, by simp only [refsL, r3, q3]; rfl⟩
theorem args_stay {W' : World} (hl : laidOutB P = true) (hb : Below W.heap.size W W') : ∀ {ts : List TypeId} {vs : List Value} {ds : List (DataW H)} {ps : List MemPlace}, (ts.all fun t => P.readableRec t && decide (t < P.types.size)) = true →
    DataW.TrodAll enc P W 0 (fun _ => true) true ts vs ds ps → DataW.TrodAll enc P W' 0 (fun b => decide (b < W.heap.size)) true ts vs ds ps
  | [], vs, ds, ps, _, h => by
    obtain ⟨rfl, rfl, rfl⟩ := Go.ChangeShapes.trodAll_nil h
    exact rfl
  | t :: ts, vs, ds, ps, hp, h => by
    simp only [List.all_cons, Bool.and_eq_true, decide_eq_true_eq] at hp
    obtain ⟨v, vs', d, ds', p, q, rfl, rfl, rfl, h1, h2⟩ := Go.ChangeShapes.trodAll_cons h
    have hlt : ∀ x ∈ p, x.block < W.heap.size := by obtain ⟨m, hm⟩ := h1; exact DataW.trod_lt m _ _ _ hm
    exact trodAll_cons_mk (Below.trod hl hp.1.1 hp.1.2 h1 hb hlt) (args_stay hl hb hp.2 h2)
theorem call_end (hm : P.follows .mixedOrders = true) (hfn : P.funcs.toList.all funcOk = true) {C : Cfg} (hx : ExtOk C P) {f : FuncId} {vs : List Value} {xs : List D} (hg : GR (still W)) (hr : RL (still W) xs vs)
    {b : Bool} (hrun : BodyW C P f xs [] fun d _ => d = .bool b) : Calls P f vs.toArray W fun e W' => e = .returned (.bool b) ∧ Below W.heap.size W W' := by
  obtain ⟨k, d, st', hk, rfl⟩ := hrun
  have hb := (main hm hfn hx k).2.2.2.1 f xs [] _ st' hk
  have hS : SR (still W) [] := {
    len := rfl
    blk := fun id b h => by simp at h
    out := fun _ _ => rfl
    inj := fun i j l l' h => by simp [still] at h
    lt := fun i l h => by simp [still] at h
    hlt := fun b h => h.elim
    glob := hg }
  obtain ⟨_, h2⟩ := hb (still W) vs hS hr
  refine Calls.mono (CallsIn.calls (h2 0) (fun k => by simp [Fence.room, Fence.wide])) fun e W' hp => ?_
  obtain ⟨v, S', rfl, rfl, _, hE, hv⟩ := hp
  simp only [R] at hv
  subst hv
  refine ⟨rfl, hE.os, hE.tape, hE.output, hE.size, fun b hb => ?_⟩
  exact hE.keep b hb (fun h => h.1)
end
end Go.Mm
end
