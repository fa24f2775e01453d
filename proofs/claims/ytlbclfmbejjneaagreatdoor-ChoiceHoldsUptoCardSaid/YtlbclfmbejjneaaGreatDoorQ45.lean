/- Part 45 of the proof (merged by a program out of the texts BulkV): lemmas of no further condition than each states. -/
import Derived.Test.YtlbclfmbejjneaaGreatDoorRows
import Derived.ProofKit
import Derived.Lib.SmallJoins
import Derived.Test.YtlbclfmbejjneaaGreatDoorQ02
namespace Go.Proofs.YtlbclfmbejjneaaGreatDoor.bulks
set_option linter.unusedVariables false
set_option linter.unusedSimpArgs false
section
open Go.RowKit Go.ChangeShapes Go.WideShapes Go.ChangeAt
theorem bound {H:Type} {l:List (DataW H)} (hk:Rows.uptoSmall H l=true):Rows.uptoBulkAll l≤1048576:=of_decide_eq_true hk
end
end Go.Proofs.YtlbclfmbejjneaaGreatDoor.bulks
