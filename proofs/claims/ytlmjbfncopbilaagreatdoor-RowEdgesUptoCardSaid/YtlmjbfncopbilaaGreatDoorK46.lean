/- Part 46 (merged by a program): lemmas of no further condition than each states. -/
import Derived.Test.YtlmjbfncopbilaaGreatDoorRows
import Derived.ProofKit
import Derived.Lib.SmallJoins
import Derived.Test.YtlmjbfncopbilaaGreatDoorK02
namespace Go.Proofs.YtlmjbfncopbilaaGreatDoor.bulks
set_option linter.unusedVariables false
set_option linter.unusedSimpArgs false
section
open Go.RowKit Go.ChangeShapes Go.WideShapes Go.ChangeAt
theorem bound {H:Type} {l:List (DataW H)} (hk:Rows.uptoSmall H l=true):Rows.uptoBulkAll l≤1048576:=of_decide_eq_true hk
theorem drop_one {α:Type} (l:List α) (i:Nat) (x:α) (h:l[i]? = some x):(l.drop i).take 1=[x]:=by
 obtain⟨hl,e⟩:=List.getElem?_eq_some_iff.1 h
 rw [List.drop_eq_getElem_cons hl,e]
 rfl
theorem fields_open {P:Program} {H:Type} {enc:TypeId × Value→H} {w:World} {base:Nat} {spare:Nat→Bool} {held:Bool} {r:Reach} {b0:Nat} {t:TypeId} {fs:Array Field} {v:Value} {d:DataW H} {p:List MemPlace}
 (hs:P.underlying t=some (.struct fs)) (hone:Deep.oneCellFields P fs=true) (hC:P.cellsOf t=fs.size) (hv:Value.okWide P w r b0 t v) (h:DataW.Trod enc P w base spare held t v d p) :
 ∃(cs:List Value) (ys:List (DataW H × List MemPlace)) (n:Nat),v=.agg cs.toArray∧d=.agg (ys.map (·.1))∧cs.length=fs.size∧ys.length=fs.size ∧
   ∀(i:Nat) (f:Field) (c:Value) (y:DataW H × List MemPlace),fs[i]? = some f→cs[i]? = some c→ys[i]? = some y→DataW.trod enc P w base spare held n f.type [c]=some y:=by
 obtain⟨arr,rfl,hsz⟩:=okWide_struct hs hv
 obtain⟨cs⟩:=arr
 obtain⟨fuel,hf⟩:=h
 obtain⟨ys,n,_,hx,_,hlen,hg⟩:=DataW.trod_struct hs hf
 simp only [Prod.mk.injEq] at hx
 refine⟨cs,ys,n,rfl,hx.1,by rw [hC] at hsz;simpa using hsz,hlen,fun i f c y h1 h2 h3=>?_⟩
 obtain⟨o,k⟩:=Deep.hone_of hone i f h1
 have:=hg i f h1
 rw [o,k] at this
 rw [h3] at this
 rw [←this]
 congr 1
 exact (drop_one cs i c h2).symm
end
end Go.Proofs.YtlmjbfncopbilaaGreatDoor.bulks
