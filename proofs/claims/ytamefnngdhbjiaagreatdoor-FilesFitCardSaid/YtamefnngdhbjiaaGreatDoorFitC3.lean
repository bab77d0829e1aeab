/- A part of the proof of FilesFitCardSaid: X5. -/
import Derived.Test.YtamefnngdhbjiaaGreatDoorFitC2
import Derived.Test.YtamefnngdhbjiaaGreatDoorFitB5
import Derived.Test.YtamefnngdhbjiaaGreatDoorFitB9
set_option linter.all false
section
namespace Go.Mm
open Go.Proofs
variable [Globs]
set_option maxRecDepth 100000
section
theorem bareC {C : Cfg} (h : ∀ f, C.ext f = none) : ExtOk C Tryz.prog := fun f g hg => by rw [h f] at hg; cases hg
theorem c145 {args : List D} {st st' : Store} {d : D} (h : x145 args st = some (d, st')) : CallS Tryz.prog 145 args st d st' := by
  rcases y145 h with ⟨k, h⟩ | ⟨k, h⟩
  · exact (main mixed funcsOk (bareC (C := C2) fun _ => rfl) k).2.2.2.2 _ _ _ _ _ h
  · exact (main mixed funcsOk (bareC (C := C3) fun _ => rfl) k).2.2.2.2 _ _ _ _ _ h
end
end Go.Mm
end
