/- A part of the proof of FilesFitCardSaid: N0. -/
import Derived.Test.YtamefnngdhbjiaaGreatDoorFitA4
import Derived.Test.YtamefnngdhbjiaaGreatDoorProg
import Derived.KernelRfl
set_option linter.all false
section
namespace Go.Mm
open Go.Proofs
variable [Globs]
section
def ixB : List UInt8 → UInt8 → Nat → Int
  | [], _, _ => -1
  | b :: l, c, i => if b == c then (i : Int) else ixB l c (i + 1)
def x84 (args : List D) (st : Store) : Option (D × Store) := match args with
  | [.str s, .int .u8 c] => some (.int .i64 (ixB s.data.toList (UInt8.ofNat c.toNat) 0), st)
  | _ => none
def cmpL : List UInt8 → List UInt8 → Int
  | [], [] => 0
  | [], _ :: _ => -1
  | _ :: _, [] => 1
  | a :: l, b :: m => if a == b then cmpL l m else if a < b then -1 else 1
def x167 (args : List D) (st : Store) : Option (D × Store) := match args with
  | [.str a, .str b] => some (.int .i64 (cmpL a.data.toList b.data.toList), st)
  | _ => none
def strsOf : List D → Option (List ByteArray)
  | [] => some []
  | .str s :: ds => match strsOf ds with
    | some l => some (s :: l)
    | none => none
  | _ => none
def sortB (l : List ByteArray) : List ByteArray := ((l.map fun s => s.data.toList).mergeSort fun x y => decide (x ≤ y)).map fun x => ⟨x.toArray⟩
def x38 (args : List D) (st : Store) : Option (D × Store) := match args with
  | [.nils] => some (.undef, st)
  | [.osl id ver 1 0 n] => match st[id]? with
    | some (.cells v true ty cs) => if v = ver ∧ cs.length = n ∧ 1 ≤ n ∧ n < 4611686018427387904 then match strsOf cs with
        | some l => some (.undef, st.set id (.cells v true ty ((sortB l).map .str)))
        | none => none
      else none
    | _ => none
  | _ => none
def x110 (args : List D) (st : Store) : Option (D × Store) := match args with
  | [s, .int .i64 i, .osl vid vver 2 0 1] => match st[vid]? with
    | some (.cells vv true 71 [a, b]) => if vv = vver then match s with
      | .nils => if i = 0 then some (.osl st.length 0 2 0 1, st ++ [.cells 0 true 71 [a, b]]) else none
      | .osl id ver 2 0 n => if id = vid then none else match st[id]? with
        | some (.cells v true 71 cs) => if v = ver ∧ 0 ≤ i ∧ i ≤ n ∧ n * 2 ≤ cs.length ∧ n < 4096 then
            some (.osl id (ver + 1) 2 0 (n + 1), st.set id (.cells (ver + 1) true 71 (cs.take (i.toNat * 2) ++ [a, b] ++ (cs.take (n * 2)).drop (i.toNat * 2))))
          else none
        | _ => none
      | _ => none
    else none
    | _ => none
  | _ => none
def f110 : List D → Store → List Nat
  | .osl id _ _ _ _ :: _, _ => [id]
  | _, _ => []
def x157 (args : List D) (st : Store) : Option (D × Store) := match args with
  | [.ptr wid 0 5] => match st[wid]? with
    | some (.cells 0 true 57 cs) => if cs.length = 8 then
        match (cs[5]? : Option D) with
        | some .nilp => some (.undef, st.set wid (.cells 0 true 57 (cs.set 5 (.ptr wid 0 5))))
        | some (.ptr i 0 5) => if i = wid then some (.undef, st) else none
        | _ => none
      else none
    | _ => none
  | _ => none
def x22 (args : List D) (st : Store) : Option (D × Store) := match args with
  | [.ptr wid wv off] => match st[wid]? with
    | some (.cells v true ty cs) => if v = wv ∧ off + 1 < cs.length then
        match cs[off + 1]? with
        | some .nils => some (.str ⟨#[]⟩, st)
        | some (.osl id ver 1 0 n) => match st[id]? with
          | some (.cells u true 5 bs) => if u = ver ∧ n ≤ bs.length ∧ 1 ≤ n ∧ n < 4611686018427387904 then match bytesOf (bs.take n) with
              | some l => some (.str ⟨l.toArray⟩, st.set id .dead)
              | none => none
            else none
          | _ => none
        | _ => none
      else none
    | _ => none
  | _ => none
def f22 : List D → Store → List Nat
  | [.ptr wid _ off], st => match st[wid]? with
    | some (.cells _ _ _ cs) => match cs[off + 1]? with
      | some (.osl id _ _ _ _) => [id]
      | _ => []
    | _ => []
  | _, _ => []
def dropN (nm : ByteArray) : List D → Option (List D)
  | [] => some []
  | .str a :: .int .i64 b :: l => match dropN nm l with
    | some r => some (if a.toList == nm.toList then r else .str a :: .int .i64 b :: r)
    | none => none
  | _ => none
def zer2 : Nat → List D
  | 0 => []
  | n + 1 => .str ⟨#[]⟩ :: .int .i64 0 :: zer2 n
def x145 (args : List D) (st : Store) : Option (D × Store) := match args with
  | [.nils, .fn 146 [.ptr _ _ 0]] => some (.nils, st)
  | [.zsl, .fn 146 [.ptr _ _ 0]] => some (.zsl, st)
  | [.osl id ver 2 0 n, .fn 146 [.ptr xb xv 0]] => if id = xb then none else match st[id]?, st[xb]? with
    | some (.cells v true 71 cs), some (.cells u _ _ [.int .i64 _, .str nm, .int .i64 _]) => if v = ver ∧ u = xv ∧ cs.length = n * 2 ∧ n < 1000000 then match dropN nm cs with
        | some r => some (.osl id ver 2 0 (r.length / 2), st.set id (.cells v true 71 (r ++ zer2 (n - r.length / 2))))
        | none => none
      else none
    | _, _ => none
  | _ => none
def extF (f : FuncId) : Option (List D → Store → Option (D × Store)) := match f with
  | 84 => some x84
  | 167 => some x167
  | 38 => some x38
  | 110 => some x110
  | 157 => some x157
  | 22 => some x22
  | 145 => some x145
  | _ => none
def fpF (f : FuncId) : Option (List D → Store → List Nat) := match f with
  | 110 => some f110
  | 145 => some f110
  | 22 => some f22
  | _ => none
def frzL : List Nat := [108, 144, 152, 153, 161, 3, 4, 5, 7, 9, 10, 11, 12, 13, 14, 15, 16, 17, 24, 25, 27, 28, 29, 30, 31, 32, 33, 34, 35, 36, 42, 43, 46, 50, 51, 52, 53, 54, 60, 62, 63, 64, 65, 67, 69, 72, 76, 77, 79, 80, 81, 82, 83, 96, 97, 98, 99, 100, 101, 103, 104, 109, 113, 116, 117, 119, 120, 128, 129, 137, 139, 140, 141, 143, 147, 150, 154, 155, 156, 163, 165, 169]
def keepL : List Nat := [71, 106, 112, 121, 123, 126]
def moveL : List Nat := [6, 8]
def modeF (f : FuncId) : Mode := if moveL.contains f then .move else if frzL.contains f then .frz else if keepL.contains f then .keep else .thread
def roF (f : FuncId) : Bool := [106, 112, 121, 126].contains f
theorem fpF_ok : ∀ f g t, extF f = some g → fpF f = some t → ∀ args st d st1, g args st = some (d, st1) → ∀ i, i < st.length → i ∉ t args st → st1[i]? = st[i]? := by
  intro f g t hg ht args st d st1 h i hi hn
  unfold fpF at ht
  split at ht
  · injection ht with ht; subst ht
    simp only [extF, Option.some.injEq] at hg
    subst hg
    unfold x110 at h
    repeat' split at h
    all_goals first | (cases h; done) | skip
    all_goals (injection h with h; injection h with e1 e2; subst e2)
    · rw [List.getElem?_append_left hi]
    · rw [List.getElem?_set_ne]
      simp only [f110, List.mem_singleton] at hn
      exact fun e => hn e.symm
  · injection ht with ht; subst ht
    simp only [extF, Option.some.injEq] at hg
    subst hg
    unfold x145 at h
    repeat' split at h
    all_goals first | (cases h; done) | skip
    all_goals (injection h with h; injection h with e1 e2; subst e2)
    · rfl
    · rfl
    · rw [List.getElem?_set_ne]
      simp only [f110, List.mem_singleton] at hn
      exact fun e => hn e.symm
  · injection ht with ht; subst ht
    simp only [extF, Option.some.injEq] at hg
    subst hg
    unfold x22 at h
    repeat' split at h
    all_goals first | (cases h; done) | skip
    all_goals (injection h with h; injection h with e1 e2; subst e2)
    · rfl
    · rename_i g1 _ _ _ _ g2 _ _ _ _ _ _ _ _ _ _
      rw [List.getElem?_set_ne]
      intro e
      refine hn ?_
      simp_all [f22]
  · cases ht
def C : Cfg where
  mode := modeF
  ro := roF
  ext := extF
  fp := fpF
  fpOk := fpF_ok
end
end Go.Mm
end
