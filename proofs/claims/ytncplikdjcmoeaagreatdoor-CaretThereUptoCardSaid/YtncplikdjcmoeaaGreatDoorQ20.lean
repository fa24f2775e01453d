/- Lemmas, part 20: no further condition than each states. -/
import Derived.Test.YtncplikdjcmoeaaGreatDoorRows
import Derived.Test.YtncplikdjcmoeaaGreatDoorQ01
namespace Go.Proofs.YtncplikdjcmoeaaGreatDoor.bulks
set_option linter.unusedVariables false
set_option linter.unusedSimpArgs false
set_option maxRecDepth 100000
set_option maxHeartbeats 4000000
section
open Go.RowKit Go.ChangeShapes Go.WideShapes Go.ChangeAt
theorem bound {H:Type} {l:List (DataW H)} (a:Rows.uptoSmall H l=true):Rows.uptoBulkAll l≤1048576:=JZ a
theorem drop_one {α:Type} (l:List α) (i:Nat) (x:α) (h:l[i]? = some x):(l.drop i).take 1=[x]:=by
 obtain⟨a,e⟩:=zG.1 h;rw [qT a,e];rfl
theorem fields_open {P:Program} {H:Type} {enc:TypeId × Value→H} {w:World} {base:Nat} {e:Nat→Bool} {g:Bool} {r:Reach} {s:Nat} {t:TypeId} {a:Array Field} {v:Value} {d:DataW H} {p:List MemPlace}
 (j:P.underlying t=some (.struct a)) (u:Deep.oneCellFields P a=true) (x:P.cellsOf t=a.size) (z:Value.okWide P w r s t v) (h:DataW.Trod enc P w base e g t v d p) :
 ∃(cs:List Value) (b:List (DataW H × List MemPlace)) (n:Nat),v=.agg cs.toArray∧d=.agg (b.map (·.1))∧cs.length=a.size∧b.length=a.size ∧
   ∀(i:Nat) (f:Field) (c:Value) (y:DataW H × List MemPlace),a[i]? = some f→cs[i]? = some c→b[i]? = some y→DataW.trod enc P w base e g n f.type [c]=some y:=by
 obtain⟨A,rfl,l⟩:=okWide_struct j z;obtain⟨cs⟩:=A;obtain⟨fuel,B⟩:=h;obtain⟨b,n,_,m,_,C,D⟩:=DataW.trod_struct j B;simp only [Prod.mk.injEq] at m;refine⟨cs,b,n,rfl,m.1,by rw [x] at l;simpa using l,C,fun i f c y q E F=>?_⟩;obtain⟨o,k⟩:=Deep.hone_of u i f q;have:=D i f q;rw [o,k] at this;rw [F] at this;rw [←this]
 congr 1
 exact (drop_one cs i c E).symm
end
end Go.Proofs.YtncplikdjcmoeaaGreatDoor.bulks
