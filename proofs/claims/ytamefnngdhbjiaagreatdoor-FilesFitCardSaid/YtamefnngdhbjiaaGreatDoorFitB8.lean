/- A part of the proof of FilesFitCardSaid: M36. -/
import Derived.Test.YtamefnngdhbjiaaGreatDoorFitB6
import Derived.ChangeArms
import Derived.FnData
set_option linter.all false
section
namespace Go.Mm
variable [Globs] {P : Program}
section
mutual
def flatD {H : Type} : DataW H → List D
  | .lit (.int k n) => [.int k n]
  | .agg xs => flatDs xs
  | _ => []
def flatDs {H : Type} : List (DataW H) → List D
  | [] => []
  | d :: ds => flatD d ++ flatDs ds
end
theorem flatDs_append {H : Type} : ∀ (a b : List (DataW H)), flatDs (a ++ b) = flatDs a ++ flatDs b
  | [], b => rfl
  | d :: a, b => by simp only [List.cons_append, flatDs, flatDs_append a b, List.append_assoc]
def flatT (P : Program) : Nat → TypeId → Bool
  | 0, _ => false
  | j + 1, t => match P.underlying t with
    | some (.int _) => P.cellsOf t == 1
    | some (.array n e) => (P.cellsOf t == n * P.cellsOf e) && flatT P j e
    | some (.struct fs) => tiles P 0 fs.toList (P.cellsOf t) && fs.toList.all fun f => flatT P j f.type
    | _ => false
theorem tile_flat {H : Type} {S : Real} {cs : List Value} {n : Nat} (hn : cs.length = n) : ∀ (fl : List Field) (xl : List (DataW H × List MemPlace)) (off : Nat), off ≤ n → tiles P off fl n = true → xl.length = fl.length →
    (∀ (i : Nat) (f : Field), fl[i]? = some f → ∃ y, xl[i]? = some y ∧ RL S (flatD y.1) ((cs.drop f.offset).take (P.cellsOf f.type)) ∧ One ((cs.drop f.offset).take (P.cellsOf f.type))) →
    RL S (flatDs (xl.map (·.1))) (cs.drop off) ∧ One (cs.drop off)
  | [], xl, off, ho, ht, hl, h => by
    simp only [tiles, beq_iff_eq] at ht
    have : xl = [] := List.length_eq_zero_iff.1 (by simpa using hl)
    subst this
    rw [List.drop_eq_nil_of_le (by omega)]
    exact ⟨by simp only [List.map_nil, flatDs, RL], fun v hv => (by cases hv)⟩
  | f :: fl, [], off, ho, ht, hl, h => by simp at hl
  | f :: fl, x :: xl, off, ho, ht, hl, h => by
    simp only [tiles, Bool.and_eq_true, beq_iff_eq] at ht
    obtain ⟨hof, ht⟩ := ht
    obtain ⟨y, hy, r1, r2⟩ := h 0 f rfl
    simp at hy; subst hy
    by_cases hle : off + P.cellsOf f.type ≤ n
    · obtain ⟨q1, q2⟩ := tile_flat hn fl xl (off + P.cellsOf f.type) hle ht (by simpa using hl) (fun i g hg => by simpa using h (i + 1) g (by simpa using hg))
      have hsplit : cs.drop off = (cs.drop f.offset).take (P.cellsOf f.type) ++ cs.drop (off + P.cellsOf f.type) := by
        rw [hof, ← List.drop_drop, List.take_append_drop]
      rw [hsplit]
      simp only [List.map_cons, flatDs]
      exact ⟨RL_append r1 q1, One_append.2 ⟨r2, q2⟩⟩
    · exfalso
      have : ∀ (fl : List Field) (a : Nat), tiles P a fl n = true → a ≤ n := by
        intro fl
        induction fl with
        | nil => intro a h; simp only [tiles, beq_iff_eq] at h; omega
        | cons g fl ih => intro a h; simp only [tiles, Bool.and_eq_true] at h; have := ih _ h.2; omega
      exact hle (this fl _ ht)
theorem flat_trod {H : Type} {enc : TypeId × Value → H} {S : Real} {base : Nat} {spare : Nat → Bool} {held : Bool} : ∀ (j fuel : Nat) (t : TypeId) (cs : List Value) (x : DataW H × List MemPlace), flatT P j t = true → DataW.trod enc P S.w base spare held fuel t cs = some x →
    RL S (flatD x.1) cs ∧ One cs := by
  intro j
  induction j with
  | zero => intro fuel t cs x h; simp [flatT] at h
  | succ j ih =>
    intro fuel t cs x hp h
    simp only [flatT] at hp
    cases hu : P.underlying t with
    | none => rw [hu] at hp; cases hp
    | some td =>
      rw [hu] at hp
      cases td
      case int k =>
        cases fuel with
        | zero => simp [DataW.trod] at h
        | succ fuel =>
          rw [DataW.trod_step] at h
          unfold DataW.trodStep at h
          rw [hu] at h
          simp only [] at h
          split at h <;> try (cases h; done)
          all_goals rename_i heq
          all_goals try (cases heq; done)
          rename_i k1 k2 n
          injection heq with heq; injection heq with heq; subst heq
          obtain ⟨⟨rfl, hw⟩, h⟩ := ite_some h
          injection h with h; subst h
          exact ⟨by simp only [flatD, RL, R]; exact ⟨_, [], rfl, rfl, rfl⟩, by intro v hv; simp at hv; subst hv; rfl⟩
      case array n e =>
        simp only [Bool.and_eq_true, beq_iff_eq] at hp
        obtain ⟨xs, m, rfl, rfl, hl, hxl, hel⟩ := DataW.trod_array hu h
        have key : ∀ i, i ≤ n → RL S (flatDs ((xs.take i).map (·.1))) (cs.take (i * P.cellsOf e)) ∧ One (cs.take (i * P.cellsOf e)) := by
          intro i
          induction i with
          | zero => intro _; simp only [Nat.zero_mul, List.take_zero, List.map_nil, flatDs, RL]; exact ⟨trivial, fun v hv => (by cases hv)⟩
          | succ i ihi =>
            intro hi
            obtain ⟨q1, q2⟩ := ihi (by omega)
            have hlt : i < xs.length := by omega
            have hx := hel i (by omega)
            rw [List.getElem?_eq_getElem hlt] at hx
            obtain ⟨r1, r2⟩ := ih m e _ _ hp.2 hx
            have e1 : cs.take ((i + 1) * P.cellsOf e) = cs.take (i * P.cellsOf e) ++ (cs.drop (i * P.cellsOf e)).take (P.cellsOf e) := by
              rw [Nat.succ_mul, List.take_add]
            have e2 : (xs.take (i + 1)) = xs.take i ++ [xs[i]] := by rw [List.take_succ, List.getElem?_eq_getElem hlt]; rfl
            rw [e1, e2, List.map_append, flatDs_append]
            simp only [List.map_cons, List.map_nil, flatDs, List.append_nil]
            exact ⟨RL_append q1 r1, One_append.2 ⟨q2, r2⟩⟩
        obtain ⟨q1, q2⟩ := key n (Nat.le_refl _)
        rw [List.take_of_length_le (by omega), List.take_of_length_le (by rw [hl, hp.1]; omega)] at q1
        rw [List.take_of_length_le (by rw [hl, hp.1]; omega)] at q2
        exact ⟨by simp only [flatD]; exact q1, q2⟩
      case struct fs =>
        simp only [Bool.and_eq_true] at hp
        obtain ⟨xs, m, rfl, rfl, hl, hxl, hel⟩ := DataW.trod_struct hu h
        have := tile_flat (S := S) (P := P) hl fs.toList xs 0 (by omega) hp.1 (by simpa using hxl) (fun i f hf => by
          have hx := hel i f (by simpa using hf)
          have hlt : i < xs.length := by
            have := (List.getElem?_eq_some_iff.1 hf).1
            simpa [hxl] using this
          rw [List.getElem?_eq_getElem hlt] at hx
          have hT : flatT P j f.type = true := List.all_eq_true.1 hp.2 f (List.mem_of_getElem? hf)
          obtain ⟨r1, r2⟩ := ih m f.type _ _ hT hx
          exact ⟨xs[i], List.getElem?_eq_getElem hlt, r1, r2⟩)
        rw [List.drop_zero] at this
        exact ⟨by simp only [flatD]; exact this.1, this.2⟩
      all_goals (simp only [Bool.false_eq_true] at hp)
theorem laid_glob {W : World} {n : String} {d : DataW Unit} {g : Nat} {t : TypeId} {cs : Array Value} {fuel : Nat} {p : List MemPlace} (hg : P.globalNamed n = some g) (hv : W.var? P n = some cs)
    (h : DataW.trod (fun _ => ()) P W 0 (fun _ => true) false fuel t cs.toList = some (d, p)) (ht : flatT P 6 t = true) : R (still W) (.fptr (flatD d) 0) (.pointer (some ⟨g, 0, none⟩)) := by
  obtain ⟨r1, r2⟩ := flat_trod (S := still W) 6 fuel t _ _ ht h
  simp only [R]
  refine ⟨g, 0, cs.toList, rfl, r1, .inr ⟨fun h => h, fun i hi => ?_⟩, r2⟩
  rw [Nat.zero_add]
  show W.cell? _ = _
  rw [World.var?_cell hg hv i]
  simp at hi
  simp [hi]
end
end Go.Mm
end
