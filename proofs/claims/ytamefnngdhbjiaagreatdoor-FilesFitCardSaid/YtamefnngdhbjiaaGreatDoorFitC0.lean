/- A part of the proof of FilesFitCardSaid: M39. -/
import Derived.Test.YtamefnngdhbjiaaGreatDoorFitB9
import Derived.Test.YtamefnngdhbjiaaGreatDoorFitB7
set_option linter.all false
section
set_option maxRecDepth 100000
namespace Go.Mm
open Go.Proofs Go.Proofs.YtamefnngdhbjiaaGreatDoor
def look1 (cs : List D) : Bool := (List.range 256).all fun b => match cs[b]? with
  | some (.int .u8 x) => !decide (x < 240) || (decide (2 ≤ IntKind.i64.wrap (andV .u8 x 7)) && decide (IntKind.i64.wrap (andV .u8 x 7) ≤ 4) && decide (0 ≤ shrV .u8 x 4) && decide (shrV .u8 x 4 < 16))
  | _ => false
def look2 (cs : List D) : Bool := (cs.length == 32) && (List.range 16).all fun i => match (cs.drop (i * 2)).take 2 with
  | [.int .u8 _, .int .u8 _] => true
  | _ => false
theorem look1_ok {cs : List D} (h : look1 cs = true) (b : Nat) (hb : b < 256) : ∃ x : Int, cs[b]? = some (.int .u8 x) ∧ (x < 240 → 2 ≤ IntKind.i64.wrap (andV .u8 x 7) ∧ IntKind.i64.wrap (andV .u8 x 7) ≤ 4 ∧ 0 ≤ shrV .u8 x 4 ∧ shrV .u8 x 4 < 16) := by
  have := List.all_eq_true.1 h b (List.mem_range.2 hb)
  split at this
  · rename_i x hx
    refine ⟨x, hx, fun hlt => ?_⟩
    simp only [hlt, decide_true, Bool.not_true, Bool.false_or, Bool.and_eq_true, decide_eq_true_eq] at this
    exact ⟨this.1.1.1, this.1.1.2, this.1.2, this.2⟩
  · cases this
theorem look2_ok {cs : List D} (h : look2 cs = true) : cs.length = 32 ∧ ∀ i : Nat, i < 16 → ∃ a b : Int, (cs.drop (i * 2)).take 2 = [.int .u8 a, .int .u8 b] := by
  unfold look2 at h
  simp only [Bool.and_eq_true, beq_iff_eq] at h
  refine ⟨h.1, fun i hi => ?_⟩
  have := List.all_eq_true.1 h.2 i (List.mem_range.2 hi)
  split at this
  · rename_i a b hab
    exact ⟨a, b, hab⟩
  · cases this
theorem glob1 : Globs.glob 1 = some (flatD (Rows.laid_unicode_utf8_first)) := by
  show (if (1 : Nat) = 2 then _ else if (1 : Nat) = 1 then _ else _) = _
  rw [if_neg (by decide), if_pos rfl]
theorem glob2 : Globs.glob 2 = some (flatD (Rows.laid_unicode_utf8_acceptRanges (H := Unit))) := by
  show (if (2 : Nat) = 2 then _ else _) = _
  rw [if_pos rfl]
theorem lk1 : look1 (flatD (Rows.laid_unicode_utf8_first)) = true := by kernel_rfl
theorem lk2 : look2 (flatD (Rows.laid_unicode_utf8_acceptRanges (H := Unit))) = true := by kernel_rfl
instance gok : GOk where
  g1 := ⟨_, glob1, look1_ok lk1⟩
  g2 := ⟨_, glob2, (look2_ok lk2).1, (look2_ok lk2).2⟩
theorem fit_said (hx : ExtOk C Tryz.prog) : Rows.FilesFitSaid := fit_holds hx (fun xs h _ => run3 xs h)
end Go.Mm
end
