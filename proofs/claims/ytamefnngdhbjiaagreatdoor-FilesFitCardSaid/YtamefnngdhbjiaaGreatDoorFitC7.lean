/- FilesFitCardSaid is proved here: for every tree that is fit, and every list of names that is allowed, the program's answer keeps the tree fit; with no condition of its own. -/
import Derived.Test.YtamefnngdhbjiaaGreatDoorFitC5
import Derived.Test.YtamefnngdhbjiaaGreatDoorFitC0
import Derived.Test.YtamefnngdhbjiaaGreatDoorFitC6
set_option linter.all false
section
namespace Go.Mm
open Go.Proofs
set_option maxRecDepth 100000
theorem ext_ok [Globs] : ExtOk C Tryz.prog := by
  intro f g hg args st d st' h
  have hg : extF f = some g := hg
  unfold extF at hg
  split at hg
  · injection hg with hg; subst hg; exact c84 h
  · injection hg with hg; subst hg; exact c167 h
  · injection hg with hg; subst hg; exact c38 h
  · injection hg with hg; subst hg; exact c110 h
  · injection hg with hg; subst hg; exact c157 h
  · injection hg with hg; subst hg; exact c22 h
  · injection hg with hg; subst hg; exact c145 h
  · cases hg
end Go.Mm
namespace Go.Proofs.YtamefnngdhbjiaaGreatDoor
open Go.Mm
theorem files_fit_card : Rows.FilesFitCardSaid := fit_card (fit_said ext_ok)
end Go.Proofs.YtamefnngdhbjiaaGreatDoor
end
