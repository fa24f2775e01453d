/- Lemmas, part 5: no further condition than each states. -/
import Derived.Test.YtncplikdjcmoeaaGreatDoorRows
import Derived.Test.YtncplikdjcmoeaaGreatDoorQ04
namespace Go.Proofs.YtncplikdjcmoeaaGreatDoor.laids
set_option linter.unusedVariables false
set_option linter.unusedSimpArgs false
set_option maxRecDepth 100000
set_option maxHeartbeats 4000000
section
open Go.RowKit
def db64:List Int:=[0,1,56,2,57,49,28,3,61,58,42,50,38,29,17,4,62,47,59,36,45,43,51,22,53,39,33,30,24,18,12,5,63,55,48,27,60,41,37,16,46,35,44,21,52,32,23,11,54,26,40,15,34,20,31,10,25,14,19,9,13,8,7,6]
theorem db_eq:(Rows.laid_math_bits_deBruijn64tab:DataW Unit)=Lib.tabData .u8 db64:=by kernel_rfl
theorem ac_eq:(Rows.laid_unicode_utf8_acceptRanges:DataW Unit)=Lib.acceptData:=by kernel_rfl
theorem fi_eq:Rows.laid_unicode_utf8_first=Lib.firstData:=Pinned.utf8First_eq
theorem gDB:Tryz.prog.globalNamed "math/bits.deBruijn64tab" = some 5:=by kernel_rfl
theorem yDB:(Tryz.prog.globals[5]?).map (·.type)=some 352:=by kernel_rfl
theorem yOf {W:World} (h0:laidMetH Tryz.prog Rows.rowEdgesRow.laid W):T8 W∧DB W:=by
 have h:laidMet Tryz.prog Rows.rowEdgesRow.laid W:=by rwa [MakeChecks.laidMetH_plain _ _ _ (by kernel_rfl)] at h0
 have b:("unicode/utf8.first",Lib.firstData)∈Rows.rowEdgesRow.laid:=by
  rw [←fi_eq];exact .tail _ (.tail _ (.tail _ (.tail _ (.head _))))
 have c:("unicode/utf8.acceptRanges",Lib.acceptData)∈Rows.rowEdgesRow.laid:=by
  rw [←ac_eq];exact .tail _ (.tail _ (.tail _ (.head _)))
 have d:("math/bits.deBruijn64tab",Lib.tabData .u8 db64)∈Rows.rowEdgesRow.laid:=by
  rw [←db_eq];exact .tail _ (.head _)
 constructor
 ·exact utf8Tabs_of_reads (ρ:=Tryz.lays197_ren) { Tryz.lays197 with } ⟨by kernel_rfl,by kernel_rfl,by kernel_rfl,by kernel_rfl,by kernel_rfl,by kernel_rfl,by kernel_rfl⟩ (Lib.laidMet.reads h b) (Lib.laidMet.reads h c)
 ·obtain⟨g,t,cs,fuel,p,a,e,f,i⟩:=Lib.laidMet.reads h d;obtain rfl:=zu (gDB.symm.trans a);obtain rfl:=zu (yDB.symm.trans e);have j:=Lib.cells_of_tab Tryz.underlying352 Tryz.underlying5 (by kernel_rfl) (by kernel_rfl) i;have:=World.var?_cell a f 15;unfold DB;rw [this,←Array.getElem?_toList,j];rfl
noncomputable def yCl (os:Os):World:=World.laidAll Tryz.prog os Rows.rowEdgesRow.laid
theorem yLi (a:Os) (args:Array Value):laidMet Tryz.prog Rows.rowEdgesRow.laid ((yCl a).forCall (fun _ _=>0) ⟨#[],args,[]⟩).memory :=
 laidMet_laidAll _ (by kernel_rfl) (by kernel_rfl)
end
end Go.Proofs.YtncplikdjcmoeaaGreatDoor.laids
