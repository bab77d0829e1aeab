/- A part of the proof of FilesFitCardSaid: X1, X2, X3. -/
import Derived.Test.YtamefnngdhbjiaaGreatDoorFitA7
import Derived.Test.YtamefnngdhbjiaaGreatDoorFitA3
import Derived.Lib.Bytealg
import Derived.Test.YtamefnngdhbjiaaGreatDoorProg
import Derived.KernelRfl
import Derived.Shelf.RegionOpenPlain
import Derived.Lib.Strings
import Derived.Lib.Slices
import Derived.Lib.Walk
import Derived.Lib.Builder
import Derived.Lib.AppendStr
import Derived.Lib.UnsafeStr
import Derived.WalkKit
import Derived.Laws.Externs
import Derived.Laws.IdiomCopy
set_option linter.all false
section
namespace Go.Mm
open Go.Proofs
variable [Globs]
set_option maxRecDepth 100000
section
theorem fn84 : Tryz.prog.funcs[84]? = some Tryz.f84 := by kernel_rfl
theorem nx84 : Extern.findNext Tryz.f84 = none := by kernel_rfl
theorem fd84 : Extern.find Tryz.f84 = some Extern.BytealgIndexByte.indexByte := by kernel_rfl
theorem call84 (s : ByteArray) (c : Int) (w : World) : (callFunc 84 #[.string s, .int .u8 c]).run Tryz.prog w = .ok (.value (.int .i64 (Lib.indexByte s.data.toList c.toNat.toUInt8))) w := by
  have h1 : (Tryz.f84.name == "runtime.NumGoroutine") = false := by kernel_rfl
  have h2 : Tryz.f84.body.isNone = true := by kernel_rfl
  simp only [callFunc, Sem.run_bind, run_program, Result.andThen_ok, fn84, h1, h2, nx84, fd84, Bool.false_eq_true, if_false, if_true, run_mark, Lib.run_indexByteString, Sem.run_pure]
theorem fn167 : Tryz.prog.funcs[167]? = some Tryz.f167 := by kernel_rfl
theorem nx167 : Extern.findNext Tryz.f167 = none := by kernel_rfl
theorem fd167 : Extern.find Tryz.f167 = some Extern.BytealgCompare.compare := by kernel_rfl
theorem call167 (a b : ByteArray) (w : World) : (callFunc 167 #[.string a, .string b]).run Tryz.prog w = .ok (.value (.int .i64 (Lib.compareBytes a.data.toList b.data.toList))) w := by
  have h1 : (Tryz.f167.name == "runtime.NumGoroutine") = false := by kernel_rfl
  have h2 : Tryz.f167.body.isNone = true := by kernel_rfl
  simp only [callFunc, Sem.run_bind, run_program, Result.andThen_ok, fn167, h1, h2, nx167, fd167, Bool.false_eq_true, if_false, if_true, run_mark, Lib.run_compareString, Sem.run_pure]
theorem ixB_eq (c : UInt8) : ∀ (l : List UInt8) (i : Nat), ixB l c i = if Lib.indexByte l c = -1 then -1 else i + Lib.indexByte l c
  | [], i => rfl
  | b :: l, i => by
    unfold ixB Lib.indexByte
    by_cases h : (b == c) = true
    · simp only [h, if_true]
      rw [if_neg (by decide)]; omega
    · have h' : (b == c) = false := by simpa using h
      simp only [h', Bool.false_eq_true, if_false]
      rw [ixB_eq c l (i + 1)]
      have := Lib.indexByte_ge l c
      by_cases h2 : Lib.indexByte l c = -1
      · simp only [h2, if_true]; simp
      · have h3 : (Lib.indexByte l c == -1) = false := by simpa using h2
        simp only [h3, Bool.false_eq_true, if_false, h2]
        rw [if_neg (by omega)]; push_cast; omega
theorem ixB0 (l : List UInt8) (c : UInt8) : ixB l c 0 = Lib.indexByte l c := by
  rw [ixB_eq]
  split
  · rename_i h; exact h.symm
  · simp
theorem cmpL_eq : ∀ (a b : List UInt8), cmpL a b = Lib.compareBytes a b
  | [], [] => rfl
  | [], _ :: _ => rfl
  | _ :: _, [] => rfl
  | x :: a, y :: b => by
    unfold cmpL Lib.compareBytes
    by_cases h : x = y
    · subst h
      have hlt : ¬ x < x := UInt8.lt_irrefl x
      simp only [BEq.rfl, if_true, hlt, if_false]
      exact cmpL_eq a b
    · have hne : (x == y) = false := by simpa using h
      simp only [hne, Bool.false_eq_true, if_false]
      by_cases hlt : x < y
      · simp [hlt]
      · have : y < x := UInt8.lt_of_le_of_ne (UInt8.not_lt.1 hlt) (Ne.symm h)
        simp [hlt, this]
theorem CallOk.tell {P : Program} {S : Real} {f : FuncId} {vs : Array Value} {d : D} {v : Value} {st : Store} (hS : SR S st) (h : (callFunc f vs).run P S.w = .ok (.value v) S.w) (hr : R S d v) : CallOk P S f vs d st :=
  .inl ⟨v, S, h, hS, hS.refl, hr⟩
theorem c84 {args : List D} {st st' : Store} {d : D} (h : x84 args st = some (d, st')) : CallS Tryz.prog 84 args st d st' := by
  unfold x84 at h
  split at h
  · rename_i s c
    simp only [Option.some.injEq, Prod.mk.injEq] at h
    obtain ⟨rfl, rfl⟩ := h
    intro S vs hS hr
    simp only [RL, R] at hr
    obtain ⟨_, _, rfl, rfl, _, _, rfl, rfl, rfl⟩ := hr
    refine CallOk.tell hS (call84 s c S.w) ?_
    simp only [R]
    rw [ixB0]
  · cases h
theorem c167 {args : List D} {st st' : Store} {d : D} (h : x167 args st = some (d, st')) : CallS Tryz.prog 167 args st d st' := by
  unfold x167 at h
  split at h
  · rename_i a b
    simp only [Option.some.injEq, Prod.mk.injEq] at h
    obtain ⟨rfl, rfl⟩ := h
    intro S vs hS hr
    simp only [RL, R] at hr
    obtain ⟨_, _, rfl, rfl, _, _, rfl, rfl, rfl⟩ := hr
    refine CallOk.tell hS (call167 a b S.w) ?_
    simp only [R]
    rw [cmpL_eq]
  · cases h
end
end Go.Mm
end
section
namespace Go.Mm
open Go.Proofs
set_option maxRecDepth 100000
section
theorem fn157 : Tryz.prog.funcs[157]? = some Tryz.f157 := by kernel_rfl
theorem nt157 : Tryz.f157.ntmps = 20 := by kernel_rfl
theorem fn170 : Tryz.prog.funcs[170]? = some Tryz.f170 := by kernel_rfl
theorem ty52 : Tryz.prog.underlying 52 = some (.pointer 55) := by kernel_rfl
theorem ty184 : Tryz.prog.underlying 184 = some .unsafePointer := by kernel_rfl
theorem mixed : Tryz.prog.follows .mixedOrders = true := by kernel_rfl
theorem in55 : ∃ j, Tryz.prog.info? 55 = some j ∧ j.size = 2 := by
  have h : (Tryz.prog.info? 55).map (·.size) = some 2 := by kernel_rfl
  obtain ⟨j, h1, h2⟩ := Option.map_eq_some_iff.1 h
  exact ⟨j, h1, h2⟩
set_option maxHeartbeats 1000000 in
theorem walk157u (b o : Nat) (w : World) (h0 : w.cell? ⟨b, o, none⟩ = some (.pointer (some ⟨b, o, none⟩))) :
    Calls Tryz.prog 157 #[.pointer (some ⟨b, o, none⟩)] w fun e w' => e = .returned (.tuple #[]) ∧ w' = w := by
  obtain ⟨j, hj, _⟩ := in55
  have mixed := mixed
  have u52 := fun w => run_underlying (w := w) ty52
  go_enter fn157, nt157
  go_wp2
  rw [Lib.run_neq_ptr_same w _ ty52 hj]
  go_wp2
  go_end0
  exact ⟨rfl, rfl⟩
set_option maxHeartbeats 1000000 in
theorem walk157 (b o n : Nat) (T : TypeId) (w : World) (h0 : w.cell? ⟨b, o, none⟩ = some (.pointer none)) (hsh : w.shape? b = some (T, n)) (hn : o < n) (hl : liesAt Tryz.prog Tryz.prog.depth T (n / Tryz.prog.cellsOf T) o 55 1 = true) (hfz : w.frozen? ⟨b, o, none⟩ = false) :
    Calls Tryz.prog 157 #[.pointer (some ⟨b, o, none⟩)] w fun e w' => e = .returned (.tuple #[]) ∧ w' = w.setCell ⟨b, o, none⟩ (.pointer (some ⟨b, o, none⟩)) := by
  obtain ⟨j, hj, hjs⟩ := in55
  have mixed := mixed
  have u52 := fun w => run_underlying (w := w) ty52
  go_enter fn157, nt157
  go_wp2
  rw [Lib.run_to_unsafe w ⟨b, o, none⟩ ty52 ty184 hj (by rw [hjs]; decide) hsh hn]
  simp only [Result.andThen]
  rw [Oper.upon_value]
  go_wp2
  rw [run_callFunc_extern fn170 (by kernel_rfl) (by kernel_rfl) (by kernel_rfl) (e := Extern.AbiNoEscape.same) (by kernel_rfl)]
  rw [Lib.run_noEscape]
  simp only [Result.andThen]
  rw [Oper.upon_value]
  go_wp2
  rw [Lib.run_from_unsafe w ⟨b, o, none⟩ ty184 ty52 hj hsh hl]
  simp only [Result.andThen]
  rw [Oper.upon_value]
  go_wp2
  go_end0
  exact ⟨rfl, rfl⟩
theorem fn22 : Tryz.prog.funcs[22]? = some Tryz.f22 := by kernel_rfl
theorem nt22 : Tryz.f22.ntmps = 14 := by kernel_rfl
theorem ty80 : Tryz.prog.underlying 80 = some (.pointer 5) := by kernel_rfl
theorem ce5 : Tryz.prog.cellsOf 5 = 1 := by kernel_rfl
theorem liesAt_byte (count o n : Nat) (hn : o + n ≤ count) : liesAt Tryz.prog Tryz.prog.depth 5 count o 5 n = true := by
  have hd : Tryz.prog.depth = (2 * (Tryz.prog.types.size + Made.depth) + 1) + 1 := rfl
  rw [hd]
  simp only [liesAt, Bool.or_eq_true]
  left
  rw [hd]
  simp [rowAt, ce5, hn, sameLayout, Nat.mod_one]
def byL (ns : List Int) : List UInt8 := ns.map fun n => UInt8.ofNat n.toNat
theorem loadB {w : World} : ∀ (l : List Int) (a : Addr) (acc : ByteArray), (∀ j x, l[j]? = some x → w.cell? (a.add j) = some (.int .u8 x)) →
    (loadBytes a acc l.length).run Tryz.prog w = .ok ⟨acc.data ++ (byL l).toArray⟩ w
  | [], a, acc, _ => by simp [loadBytes, byL]
  | x :: l, a, acc, h => by
    have h0 : w.cell? a = some (.int .u8 x) := by
      have := h 0 x rfl
      simpa [Addr.add] using this
    have ih := loadB l (a.add 1) (acc.push (UInt8.ofNat x.toNat)) (fun j y hy => by
      have := h (j + 1) y (by simpa using hy)
      have e : (a.add 1).add j = a.add (j + 1) := by
        unfold Addr.add
        by_cases hj : j = 0
        · subst hj; simp
        · simp [hj]; omega
      rw [e]; exact this)
    have e0 : (load a).run Tryz.prog w = .ok (.int .u8 x) w := by simp [load, Sem.run, h0]
    simp only [List.length_cons, loadBytes, Sem.run_bind, e0, Result.andThen_ok]
    have e1 : x.toNat.toUInt8 = UInt8.ofNat x.toNat := rfl
    rw [e1, ih]
    simp [byL, ByteArray.push]
theorem uString (w : World) (g o cells : Nat) (hsh : w.shape? g = some (5, cells)) (l : List Int) (h0 : l ≠ []) (hn : o + l.length ≤ cells) (h63 : l.length ≤ 9223372036854775807)
    (hcell : ∀ j x, l[j]? = some x → w.cell? ((⟨g, o, none⟩ : Addr).add j) = some (.int .u8 x)) :
    (Builtin.unsafeString_ #[80, 3] 9 #[.pointer (some ⟨g, o, none⟩), .int .i64 l.length]).run Tryz.prog w = .ok (.string ⟨(byL l).toArray⟩) (w.freeze ⟨g, o, none⟩ l.length) := by
  have hl : l.length ≠ 0 := by simpa using h0
  have hlb := loadB l ⟨g, o, none⟩ .empty hcell
  have hlies := liesAt_byte (cells / Tryz.prog.cellsOf 5) o l.length (by rw [ce5]; simpa using hn)
  have h63' : ¬ (9223372036854775807 : Int) < (l.length : Int) := by omega
  have hmax : IntKind.i64.max = 9223372036854775807 := rfl
  have hneg : ¬ (l.length : Int) < 0 := by omega
  have hp := run_underlying (P := Tryz.prog) (w := w) ty80
  obtain ⟨e1, u1, u2, hdef⟩ : ∃ e1 u1 u2, Builtin.unsafeString_ #[80, 3] 9 #[.pointer (some ⟨g, o, none⟩), .int .i64 l.length] =
      (do
        let n ← asInt (.int .i64 l.length)
        if n < 0 then runtimePanic e1
        if n > IntKind.i64.max then unsupported u1
        if n = 0 then pure (.string .empty)
        else if ← variablesAt ⟨g, o, none⟩ (← elemOf 80) n.toNat then do
          let s ← loadBytes ⟨g, o, none⟩ .empty n.toNat
          freeze ⟨g, o, none⟩ n.toNat
          pure (.string s)
        else unsupported u2) := ⟨_, _, _, rfl⟩
  rw [hdef]
  simp [asInt, asIntOf, hmax, h63', hneg, hl, variablesAt, hsh, elemOf, hp, hlies, hlb]
set_option maxHeartbeats 1000000 in
theorem walk22n (b o : Nat) (w : World) (c1 : w.cell? ⟨b, o + 1, none⟩ = some (.slice none 0 0)) :
    Calls Tryz.prog 22 #[.pointer (some ⟨b, o, none⟩)] w fun e w' => e = .returned (.string ⟨#[]⟩) ∧ w' = w.drew := by
  have hUS : ∀ W : World, (Builtin.unsafeString_ #[80, 3] 9 #[.pointer none, .int .i64 0]).run Tryz.prog W = .ok (.string .empty) W := fun W => Lib.run_unsafeString_none W _ _ _ none
  have hSD : ∀ W : World, (Builtin.unsafeSliceData_ #[53] 80 #[.slice none 0 0]).run Tryz.prog W = .ok (.pointer none) W := fun W => rfl
  have c1 : w.drew.cell? ⟨b, o + 1, none⟩ = some (.slice none 0 0) := c1
  have mixed := mixed
  have u80 := fun w => run_underlying (w := w) ty80
  go_enter fn22, nt22
  go_wp2
  go_region_o
  all_goals (go_wp2; go_ret; exact ⟨rfl, rfl⟩)
set_option maxHeartbeats 1000000 in
theorem walk22 (b o g q cap n : Nat) (l : List Int) (w : World) (c1 : w.cell? ⟨b, o + 1, none⟩ = some (.slice (some ⟨g, q, none⟩) l.length cap)) (h0 : l ≠ []) (hc : l.length ≤ cap) (hsh : w.shape? g = some (5, n)) (hn : q + l.length ≤ n) (h63 : l.length ≤ 9223372036854775807)
    (hcell : ∀ j x, l[j]? = some x → w.cell? ⟨g, q + j, none⟩ = some (.int .u8 x)) :
    Calls Tryz.prog 22 #[.pointer (some ⟨b, o, none⟩)] w fun e w' => e = .returned (.string ⟨(byL l).toArray⟩) ∧ w' = w.drew.freeze ⟨g, q, none⟩ l.length := by
  have hl0 : l.length ≠ 0 := by simpa using h0
  have hSD : (Builtin.unsafeSliceData_ #[53] 80 #[.slice (some ⟨g, q, none⟩) l.length cap]).run Tryz.prog w.drew = .ok (.pointer (some ⟨g, q, none⟩)) w.drew := by
    have hdef : Builtin.unsafeSliceData_ #[53] 80 #[.slice (some ⟨g, q, none⟩) l.length cap] = (if cap ≠ 0 then pure (.pointer (some ⟨g, q, none⟩)) else viewAt g >>= fun v => if v.isSome then pure (.pointer (some ⟨g, q, none⟩))
        else elemOf 80 >>= fun e => newObj (.view ⟨g, q, none⟩ e) >>= fun x => pure (.pointer (some ⟨x, 0, none⟩))) := rfl
    rw [hdef, if_pos (by omega)]
    rfl
  have hUS := uString w.drew g q n hsh l h0 hn h63 (fun j x hx => by rw [Addr.add_lit]; exact hcell j x hx)
  have c1 : w.drew.cell? ⟨b, o + 1, none⟩ = some (.slice (some ⟨g, q, none⟩) l.length cap) := c1
  have mixed := mixed
  have u80 := fun w => run_underlying (w := w) ty80
  go_enter fn22, nt22
  go_wp2
  go_region_o
  all_goals (go_wp2; go_ret; exact ⟨rfl, rfl⟩)
end
end Go.Mm
end
section
namespace Go.Mm
open Go.Proofs
variable [Globs]
set_option maxRecDepth 100000
section
theorem enter_of {f : FuncId} {fn : Func} {vs : Array Value} {w : World} (h : Tryz.prog.funcs[f]? = some fn) (h1 : (fn.name == "runtime.NumGoroutine") = false) (h2 : fn.body.isNone = false) :
    (callFunc f vs).run Tryz.prog w = .ok (.enter f vs) w := by
  simp only [callFunc, Sem.run_bind, run_program, Result.andThen_ok, h, h1, h2, Bool.false_eq_true, if_false, Sem.run_pure]
theorem CallOk.walk {S : Real} {f : FuncId} {fn : Func} {vs : Array Value} {d : D} {st' : Store} {Q : Ending → World → Prop} (h : Tryz.prog.funcs[f]? = some fn) (h1 : (fn.name == "runtime.NumGoroutine") = false) (h2 : fn.body.isNone = false)
    (hc : Calls Tryz.prog f vs S.w Q) (hq : ∀ e w', Q e w' → Post S d st' e w') : CallOk Tryz.prog S f vs d st' :=
  .inr ⟨enter_of h h1 h2, fun n => (callsIn_wide.2 hc).mono hq⟩
theorem rowAt_one {P : Program} {fits : TypeId → Bool} {d : Nat} {e : TypeId} {off n : Nat} (hn : 1 ≤ n) (ho : off < P.cellsOf e) (h : rowAt P fits d e 1 off 1 = true) : rowAt P fits d e n off 1 = true := by
  cases d with
  | zero => simp [rowAt] at h
  | succ d =>
    have h0 : off / P.cellsOf e = 0 := Nat.div_eq_of_lt ho
    have h1 : 0 < n := hn
    simp only [rowAt, h0, Nat.zero_add, Nat.le_refl, decide_true, Bool.and_true, Nat.lt_one_iff, Bool.true_and, hn, h1] at h ⊢
    exact h
theorem liesAt_one {P : Program} : ∀ {d : Nat} {e u : TypeId} {off n : Nat}, 1 ≤ n → off < P.cellsOf e → (∀ m u', P.underlying u ≠ some (.array m u')) → liesAt P d e 1 off u 1 = true → liesAt P d e n off u 1 = true
  | 0, _, _, _, _, _, _, _, h => by simp [liesAt] at h
  | d + 1, e, u, off, n, hn, ho, hu, h => by
    simp only [liesAt, Bool.or_eq_true] at h ⊢
    rcases h with h | h
    · exact .inl (rowAt_one hn ho h)
    · cases h
theorem liesW (n : Nat) (hn : 1 ≤ n) : liesAt Tryz.prog Tryz.prog.depth 57 n 5 55 1 = true := by
  have hc : Tryz.prog.cellsOf 57 = 8 := by kernel_rfl
  have h1 : (match Tryz.prog.underlying 55 with | some (.array _ _) => true | _ => false) = false := by kernel_rfl
  refine liesAt_one hn (by rw [hc]; decide) (fun m u' hx => by rw [hx] at h1; cases h1) ?_
  kernel_rfl
theorem c157 {args : List D} {st st' : Store} {d : D} (h : x157 args st = some (d, st')) : CallS Tryz.prog 157 args st d st' := by
  unfold x157 at h
  split at h
  · rename_i wid
    split at h
    · rename_i cs hb
      split at h
      · rename_i hlen
        intro S vs hS hr
        simp only [RL, R] at hr
        obtain ⟨_, _, rfl, ⟨a, rfl, hid, ha⟩, rfl⟩ := hr
        obtain ⟨l, vs0, vs1, vs2, fr, k1, k2, k3, k4, k5, k6, k0, k7, k8⟩ := block_of hS hb
        obtain ⟨hh, hu⟩ := k8 rfl
        have ha := (ha l k1).2 k2.symm
        have hb0 := l.z k2
        rw [hb0, Nat.zero_add] at ha
        subst ha
        have hv0 : vs0 = [] := List.eq_nil_of_length_eq_zero (k0.trans hb0)
        subst hv0
        have hl1 := RL_length k5
        split at h
        · rename_i h5
          injection h with h; injection h with e1 e2; subst e1; subst e2
          obtain ⟨v5, e5, r5⟩ := RL_get k5 h5
          simp only [R] at r5
          subst r5
          have c0 : S.w.cell? ⟨l.b, 5, none⟩ = some (.pointer none) := by
            rw [cell_at k3]
            simp only [List.getElem?_toArray, List.nil_append]
            rw [List.getElem?_append_left (by omega)]; exact e5
          have hsh : S.w.shape? l.b = some (57, (vs1 ++ vs2).length) := by simp [World.shape?, k3]
          have hsz : (vs1 ++ vs2).length = l.sz := k4
          have h8 : 8 ≤ (vs1 ++ vs2).length := by rw [List.length_append]; omega
          have hfz : S.w.frozen? ⟨l.b, 5, none⟩ = false := by
            simp only [World.frozen?, k3]; exact hu 5 (by omega)
          have hc : Tryz.prog.cellsOf 57 = 8 := by kernel_rfl
          refine CallOk.walk fn157 (by kernel_rfl) (by kernel_rfl) (walk157 l.b 5 _ 57 S.w c0 hsh (by omega) (liesW _ (by rw [hc]; omega)) hfz) ?_
          rintro e w' ⟨rfl, rfl⟩
          obtain ⟨g1, g2⟩ := rewrite_block (vs1' := vs1.set 5 (.pointer (some ⟨l.b, 5, none⟩))) (cs' := cs.set 5 (.ptr wid 0 5)) hS hb k1 k2 k3 k4 k6 k0 k7 hh hu (by simp)
            (RL_set 5 k5 (by simp only [R]; exact ⟨_, rfl, hid, fun m hm => by rw [k1] at hm; injection hm with hm; subst hm; exact ⟨Nat.zero_le _, fun _ => by rw [hb0]⟩⟩)) (One_set (One_append.1 (One_append.1 k6).2).1 rfl 5)
          refine ⟨_, _, rfl, ?_, g1, g2, undef_R0 _⟩
          rw [setCell_block _ k3]
          simp only [Real.write, List.nil_append]
          rw [List.set_append_left _ _ (by omega)]
        · rename_i i h5
          split at h
          · rename_i hi
            subst hi
            injection h with h; injection h with e1 e2; subst e1; subst e2
            obtain ⟨v5, e5, r5⟩ := RL_get k5 h5
            simp only [R] at r5
            obtain ⟨a, rfl, _, ha⟩ := r5
            have ha := (ha l k1).2 k2.symm
            rw [hb0, Nat.zero_add] at ha
            subst ha
            have c0 : S.w.cell? ⟨l.b, 5, none⟩ = some (.pointer (some ⟨l.b, 5, none⟩)) := by
              rw [cell_at k3]
              simp only [List.getElem?_toArray, List.nil_append]
              rw [List.getElem?_append_left (by omega)]; exact e5
            refine CallOk.walk fn157 (by kernel_rfl) (by kernel_rfl) (walk157u l.b 5 S.w c0) ?_
            rintro e w' ⟨rfl, rfl⟩
            exact ⟨_, S, rfl, rfl, hS, hS.refl, undef_R0 _⟩
          · cases h
        · cases h
      · cases h
    · cases h
  · cases h
def Real.gone (S : Real) (id : Nat) (w : World) : Real := { S with w := w, bl := setf S.bl id none }
theorem gone_ext {S : Real} {st : Store} (h : SR S st) {id : Nat} {l : Loc} (hl : S.bl id = some l) (hw : l.rw = true) (hh : S.hot l.b) {w : World} (hsz : w.heap.size = S.w.heap.size)
    (hk : ∀ b, b ≠ l.b → w.heap[b]? = S.w.heap[b]?) (h1 : w.os = S.w.os) (h2 : w.tape = S.w.tape) (h3 : w.output = S.w.output) : Ext S (S.gone id w) where
  size := by simp only [Real.gone]; omega
  n := Nat.le_refl _
  keep b hb hn := hk b (fun e => by subst e; exact hn ⟨hh, id, l, hl, rfl, hw⟩)
  hot1 b hb h := h
  hot2 b h _ := h
  live i l' hi hl' := by
    simp only [Real.gone, setf] at hl'
    split at hl'
    · cases hl'
    · exact ⟨l', hl', .inl rfl⟩
  new i l' hi hl' := by
    simp only [Real.gone, setf] at hl'
    split at hl'
    · cases hl'
    · rw [h.out i hi] at hl'; cases hl'
  os := h1
  tape := h2
  output := h3
  hlt := h.hlt
theorem gone_SR {S : Real} {st : Store} (h : SR S st) {id : Nat} {l : Loc} (hl : S.bl id = some l) (hw : l.rw = true) (hh : S.hot l.b) {w : World} (hsz : w.heap.size = S.w.heap.size)
    (hk : ∀ b, b ≠ l.b → w.heap[b]? = S.w.heap[b]?) (h1 : w.os = S.w.os) (h2 : w.tape = S.w.tape) (h3 : w.output = S.w.output) : SR (S.gone id w) (st.set id .dead) where
  glob := GR_mono (gone_ext h hl hw hh hsz hk h1 h2 h3).w h.glob
  len := by simp [Real.gone, h.len]
  blk i b hi := by
    rw [List.getElem?_set] at hi
    by_cases e : id = i
    · subst e
      split at hi
      · split at hi
        · injection hi with hi; subst hi
          simp only [RB, Real.gone, setf, if_true]
        · cases hi
      · exact absurd rfl ‹¬ id = id›
    · simp only [e, if_false] at hi
      refine RB_mono (gone_ext h hl hw hh hsz hk h1 h2 h3) ?_ (fun m hm => ⟨?_, Iff.rfl⟩) (h.blk i b hi)
      · simp only [Real.gone, setf]; rw [if_neg (fun x => e x.symm)]
      · exact hk _ (fun he => e ((h.inj i id m l hm hl he).symm))
  out i hi := by
    simp only [Real.gone, setf]
    split
    · rfl
    · exact h.out i hi
  inj i j l' m hi hj hb := by
    simp only [Real.gone, setf] at hi hj
    split at hi <;> split at hj
    · rename_i e1 e2; rw [e1, e2]
    · cases hi
    · cases hj
    · exact h.inj i j l' m hi hj hb
  lt i l' hi := by
    simp only [Real.gone, setf] at hi
    split at hi
    · cases hi
    · simp only [Real.gone]; rw [hsz]; exact h.lt i l' hi
  hlt b hb := by simp only [Real.gone]; rw [hsz]; exact h.hlt b hb
theorem freeze_size (w : World) (a : Addr) (n : Nat) : (w.freeze a n).heap.size = w.heap.size := by
  unfold World.freeze; split <;> simp
theorem freeze_other (w : World) (a : Addr) (n : Nat) {b : Nat} (hb : b ≠ a.block) : (w.freeze a n).heap[b]? = w.heap[b]? := by
  unfold World.freeze; split
  · rfl
  · simp only [Array.getElem?_modify]; rw [if_neg (fun e => hb e.symm)]
theorem freeze_os (w : World) (a : Addr) (n : Nat) : (w.freeze a n).os = w.os ∧ (w.freeze a n).tape = w.tape ∧ (w.freeze a n).output = w.output := by
  unfold World.freeze; split <;> exact ⟨rfl, rfl, rfl⟩
theorem c22 {args : List D} {st st' : Store} {d : D} (h : x22 args st = some (d, st')) : CallS Tryz.prog 22 args st d st' := by
  unfold x22 at h
  split at h
  · rename_i wid wv off
    split at h
    · rename_i v ty cs hb
      split at h
      · rename_i hc
        obtain ⟨rfl, hlen⟩ := hc
        intro S vs hS hr
        simp only [RL, R] at hr
        obtain ⟨_, _, rfl, ⟨a, rfl, hid, ha⟩, rfl⟩ := hr
        obtain ⟨l, vs0, vs1, vs2, fr, k1, k2, k3, k4, k5, k6, k0, k7, k8⟩ := block_of hS hb
        have ha := (ha l k1).2 k2.symm
        subst ha
        have hl1 := RL_length k5
        have cell : ∀ x, vs1[off + 1]? = some x → S.w.cell? ⟨l.b, l.base + off + 1, none⟩ = some x := by
          intro x hx
          rw [cell_at k3]
          simp only [List.getElem?_toArray]
          rw [List.getElem?_append_right (by omega), List.getElem?_append_left (by omega), ← hx]
          congr 1; omega
        split at h
        · rename_i h5
          injection h with h; injection h with e1 e2; subst e1; subst e2
          obtain ⟨v5, e5, r5⟩ := RL_get k5 h5
          simp only [R] at r5
          subst r5
          refine CallOk.walk fn22 (by kernel_rfl) (by kernel_rfl) (walk22n l.b (l.base + off) S.w (cell _ e5)) ?_
          rintro e w' ⟨rfl, rfl⟩
          exact ⟨_, S.drew, rfl, rfl, drew_SR hS, drew_ext hS, by simp only [R]⟩
        · rename_i id ver n h5
          obtain ⟨v5, e5, r5⟩ := RL_get k5 h5
          simp only [R] at r5
          obtain ⟨a, cap, rfl, hcap, hid2, hloc⟩ := r5
          split at h
          · rename_i u bs hb2
            split at h
            · rename_i hcond
              obtain ⟨rfl, hn, hn1, hn2⟩ := hcond
              split at h
              · rename_i lb hbytes
                injection h with h; injection h with e1 e2; subst e1; subst e2
                obtain ⟨m, us0, us1, us2, fr2, j1, j2, j3, j4, j5, j6, j0, j7, j8⟩ := block_of hS hb2
                obtain ⟨hh, hu⟩ := j8 rfl
                have hloc := (hloc m j1).2 j2.symm
                rcases hloc with ⟨q1, _⟩ | ⟨rfl, hcs⟩
                · omega
                have hul := RL_length j5
                obtain ⟨ns, hns, rfl⟩ := bytes_vals hbytes (RL_take n j5)
                have hnl : ns.length = n := by
                  have := congrArg List.length hns
                  rw [List.length_take, List.length_map] at this
                  omega
                subst hnl
                have hsh : S.w.shape? m.b = some (5, (us0 ++ (us1 ++ us2)).length) := by simp only [World.shape?, j3, List.size_toArray]
                have hcell : ∀ j x, ns[j]? = some x → S.w.cell? ⟨m.b, m.base + 0 + j, none⟩ = some (.int .u8 x) := by
                  intro j x hx
                  have hj := (List.getElem?_eq_some_iff.1 hx).1
                  have e : us1[j]? = some (.int .u8 x) := by
                    have : (us1.take ns.length)[j]? = some (.int .u8 x) := by rw [hns, List.getElem?_map, hx]; rfl
                    rwa [List.getElem?_take_of_lt hj] at this
                  rw [cell_at j3]
                  simp only [List.getElem?_toArray]
                  rw [List.getElem?_append_right (by omega), List.getElem?_append_left (by omega), ← e]
                  congr 1; omega
                have hbig : ns.length ≤ 9223372036854775807 := by omega
                refine CallOk.walk fn22 (by kernel_rfl) (by kernel_rfl) (walk22 l.b (l.base + off) m.b (m.base + 0) cap _ ns S.w (cell _ e5) (fun e => by subst e; simp at hn1) hcap hsh (by simp only [List.length_append]; omega) hbig hcell) ?_
                rintro e w' ⟨rfl, rfl⟩
                have hS' := drew_SR hS
                have hk : ∀ b, b ≠ m.b → (S.w.drew.freeze ⟨m.b, m.base + 0, none⟩ ns.length).heap[b]? = S.drew.w.heap[b]? := fun b hb => freeze_other _ _ _ hb
                obtain ⟨o1, o2, o3⟩ := freeze_os S.w.drew ⟨m.b, m.base + 0, none⟩ ns.length
                exact ⟨_, S.drew.gone id (S.w.drew.freeze ⟨m.b, m.base + 0, none⟩ ns.length), rfl, rfl, gone_SR hS' j1 j7 hh (freeze_size _ _ _) hk o1 o2 o3, (drew_ext hS).trans (gone_ext hS' j1 j7 hh (freeze_size _ _ _) hk o1 o2 o3), by simp only [R]; rfl⟩
              · cases h
            · cases h
          · cases h
        · cases h
      · cases h
    · cases h
  · cases h
end
end Go.Mm
end
