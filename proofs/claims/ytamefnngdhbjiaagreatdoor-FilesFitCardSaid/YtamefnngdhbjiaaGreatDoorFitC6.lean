/- A part of the proof of FilesFitCardSaid: M38. -/
import Derived.Test.YtamefnngdhbjiaaGreatDoorFitB9
import Derived.Test.YtamefnngdhbjiaaGreatDoorCards
import Derived.Test.YtamefnngdhbjiaaGreatDoorTie
import Derived.SevenTiedAt
set_option linter.all false
section
set_option maxRecDepth 100000
namespace Go.Mm
open Go.Proofs Go.Proofs.YtamefnngdhbjiaaGreatDoor
theorem fit_card (h : Rows.FilesFitSaid) : Rows.FilesFitCardSaid :=
  Claim7.holds_tied_plain_at .later [] [.data, .pinned] true (true, "09c75229b110c77ba97b1a40dfe90010f17b56e2d95e6d6e9f8e39c0b564d51f") false
    h (fun _ h => by cases h) (by kernel_rfl) (fun _ h => by cases h) filesFit_row_tie rfl ⟨rfl, rfl⟩ (by kernel_rfl) rfl
    (fun f fn hf hfn => by
      obtain rfl : f = 3 := Option.some.inj ((show Tryz.prog.funcNamed "windlass/windlasslaw25.FilesFit" = some 3 by kernel_rfl).symm.trans hf) |>.symm
      obtain rfl : fn = Tryz.f3 := (Option.some.inj (func3.symm.trans hfn)).symm
      exact ⟨by kernel_rfl, fun j t ht => by
        have ht' : ([24, 3, 9, 25] : List Nat)[j]? = some t := by rw [← params3]; simpa using ht
        have : t ∈ ([24, 3, 9, 25] : List Nat) := List.mem_of_getElem? ht'
        have hall : (([24, 3, 9, 25] : List Nat).all fun t => !Tryz.prog.wantsStandIn t) = true := by kernel_rfl
        have := List.all_eq_true.1 hall t this
        exact (show Tryz.prog.wantsStandIn t = false by simpa using this)⟩)
    (by kernel_rfl)
end Go.Mm
end
