/- Part 13 (merged by a program): lemmas of no further condition than each states. -/
import Derived.Laws.RangeAny
import Derived.Test.YtlbclfmbejjneaaGreatDoorR12
namespace Go.Proofs.YtlbclfmbejjneaaGreatDoor
set_option linter.unusedVariables false
set_option linter.unusedSimpArgs false
section
def runesF (s:ByteArray):Nat→Nat→List Int
 | 0,_=>[]
 | f+1,i=>if i<s.size then ((Utf8.decode s i).1:Int)::runesF s f (i+(Utf8.decode s i).2) else []
def runesI (s:ByteArray):List Int:=runesF s s.size 0
def textD (d:ByteArray) (col tab:Int) (wide raw:Bool):ByteArray × Int :=
 if d.size=0 then (⟨#[]⟩,0)
 else if decR d=65533∧decN d=1 then (⟨#[60]⟩++strOfNums [digI ((d.get! 0).toNat / 16),digI ((d.get! 0).toNat % 16)]++⟨#[62]⟩,4)
 else oneI d (runesI d) col tab wide raw
def textI (c:ByteArray) (col tab:Int) (wide raw:Bool):ByteArray × Int:=textD (c.extract 0 (nextI c)) col tab wide raw
theorem tab_mem:∀(T:List (Int × Int)) (r:Int),T≠[]→∃x∈T,tabLook T r=x.2
 | [],_,h=>absurd rfl h
 | [x],_,_=>⟨x,by simp,rfl⟩
 | x::y::rest,r,_=>by
   rw [tabLook]
   split
   ·exact⟨x,by simp,rfl⟩
   ·obtain⟨z,hz,e⟩:=tab_mem (y::rest) r (by simp)
    exact⟨z,List.mem_cons_of_mem _ hz,e⟩
theorem widths_nn:widthsT.all (fun x=>decide (0≤x.2))=true:=by decide +kernel
theorem wideI_bd (r:Int) (b:Bool):0≤wideI r b∧wideI r b≤2:=by
 obtain⟨x,hx,e⟩:=tab_mem widthsT (known r) (by decide)
 have:=List.all_eq_true.1 widths_nn x hx
 simp at this
 unfold wideI
 rw [e]
 split
 ·omega
 ·split <;> omega
theorem padF_size:∀(f:Nat) (s:ByteArray),s.size≤17→(padF f s).size≤17
 | 0,s,h=>h
 | f+1,s,h=>by
   rw [padF]
   split
   ·refine padF_size f _ ?_
    rw [ByteArray.size_append]
    show 1+s.size≤17
    omega
   ·exact h
theorem namedS_size (x:Nat):(namedS x).size≤19:=by
 have h1:(strOfNums (hexI x)).size≤17:=by
  rw [strOfNums_size]
  have:=hexF_len 16 x []
  simpa [hexI] using this
 have:=padF_size 4 _ h1
 unfold namedS
 rw [ByteArray.size_append,ByteArray.size_append]
 show 1+(padF 4 (strOfNums (hexI x))).size+1≤19
 omega
theorem oneI_bd (c:ByteArray) (rs:List Int) (col tab:Int) (wide raw:Bool):0≤(oneI c rs col tab wide raw).2∧(oneI c rs col tab wide raw).2≤19:=by
 have h1:=stopI_bd col tab
 have h2:=wideI_bd (ith rs 0) wide
 have h3:=namedS_size (ith rs 0).toNat
 unfold oneI
 repeat' split
 all_goals (dsimp only;omega)
theorem textI_bd (c:ByteArray) (col tab:Int) (wide raw:Bool):0≤(textI c col tab wide raw).2∧(textI c col tab wide raw).2≤19:=by
 unfold textI textD
 split
 ·exact⟨Int.le_refl _,by show (0:Int)≤19;omega⟩
 split
 ·exact⟨by show (0:Int)≤4;omega,by show (4:Int)≤19;omega⟩
 ·exact oneI_bd _ _ _ _ _ _
def blankC (c:ByteArray):Bool:=(!decide (decR c=65533)||decide (1<decN c))&&decide (breakI (decR c)=1)
def countF:List (Nat × ByteArray)→List Int→Option Nat
 | p::t,k::ks=>if k=2 then some p.1 else countF t ks
 | _,_=>none
def countI (s:ByteArray):Option Nat:=countF (piecesI s) (whereI s)
def textOf (s:ByteArray):ByteArray:=match countI s with
 | some e=>s.extract 0 e
 | none=>s
structure Fl where
 a:Nat
 n:Nat
 wide:Int
 ma:Nat
 mn:Nat
 mw:Int
 hangs:Bool
 c:Int
structure Rul where
 wh:List Int
 w:Int
 tab:Int
 wideA:Bool
 raw:Bool
def adv (wh:List Int) (x:Nat) (s:Fl):Fl :=
 ⟨s.a+x,s.n+1,s.wide+s.c,if ith wh s.n=1 then s.a+x else s.ma,if ith wh s.n=1 then s.n+1 else s.mn,if ith wh s.n=1 then s.wide+s.c else s.mw,s.hangs,s.c⟩
def stepF (r:Rul) (s:Fl) (x:ByteArray):Fl × Bool :=
 if blankC x=true∧(s.hangs=true∨r.w<s.wide+(textI x s.wide r.tab r.wideA r.raw).2) then (adv r.wh x.size { s with hangs:=true,c:=0 },false)
 else if s.hangs=true∨r.w<s.wide+(textI x s.wide r.tab r.wideA r.raw).2 then ({ s with c:=(textI x s.wide r.tab r.wideA r.raw).2 },true)
 else (adv r.wh x.size { s with c:=(textI x s.wide r.tab r.wideA r.raw).2 },false)
def fillRow (r:Rul):List ByteArray→Fl→Fl × Bool
 | [],s=>(s,false)
 | x::t,s=>if (stepF r s x).2=true then ((stepF r s x).1,true) else fillRow r t (stepF r s x).1
def lastEnd (e:Bool):Int:=if e=true then 1 else 0
def fl0 (a n:Nat):Fl:=⟨a,n,0,a,n,0,false,0⟩
def rowAt1 (r:Rul) (text:ByteArray) (e:Bool) (a n:Nat):Nat × Nat × Int × Int :=
 match fillRow r ((piecesI (text.extract a text.size)).map (·.2)) (fl0 a n) with
 | (s,false)=>(s.a,s.n,s.wide,lastEnd e)
 | (s,true) =>
   if a<s.ma then (s.ma,s.mn,s.mw,2)
   else if a<s.a then (s.a,s.n,s.wide,3)
   else (s.a+nextI (text.extract s.a text.size),s.n+1,s.c,if s.a+nextI (text.extract s.a text.size)=text.size then lastEnd e else 3)
def rowsFrom (r:Rul) (text:ByteArray) (e:Bool):Nat→Nat→Nat→List (Nat × Nat × Int × Int)
 | 0,_,_=>[]
 | f+1,a,n =>
   (a,(rowAt1 r text e a n).1-a,(rowAt1 r text e a n).2.2.1,(rowAt1 r text e a n).2.2.2) ::
     if (rowAt1 r text e a n).2.2.2=2∨(rowAt1 r text e a n).2.2.2=3 then rowsFrom r text e f (rowAt1 r text e a n).1 (rowAt1 r text e a n).2.1 else []
theorem piecesF_map (T:ByteArray) (a:Nat) (ha:a≤T.size):(piecesI (T.extract a T.size)).map (·.2)=(piecesF T T.size a).map (·.2):=by
 rw [pieces_tail T a ha,List.map_map]
 rfl
theorem fill_bord (r:Rul) (T:ByteArray) (a:Nat):∀(L:List ByteArray) (s:Fl),(piecesF T T.size s.a).map (·.2)=L→Bord T s.a s.n→Bord T s.ma s.mn→a≤s.a→a≤s.ma→s.ma≤s.a →
 ∃st full,fillRow r L s=(st,full)∧Bord T st.a st.n∧Bord T st.ma st.mn∧a≤st.a∧a≤st.ma∧st.ma≤st.a∧(full=true→st.a<T.size)∧(full=false→st.a=T.size)
 | [],s,h,h1,h2,h3,h4,h5=>by
   refine⟨s,false,rfl,h1,h2,h3,h4,h5,(fun h=>by cases h),(fun _=>?_)⟩
   have:=h1.1
   by_cases e:s.a<T.size
   ·rw [piecesF_cons T s.a e] at h;cases h
   ·omega
 | x::t,s,h,h1,h2,h3,h4,h5=>by
   have hlt:s.a<T.size:=by
    have:=h1.1
    by_cases e:s.a<T.size
    ·exact e
    ·have:s.a=T.size:=by omega
     rw [this,piecesF_nil] at h;cases h
   rw [piecesF_cons T s.a hlt,List.map_cons] at h
   obtain⟨hx,ht⟩:=List.cons.inj h
   have hn:=nextI_bd (T.extract s.a T.size) (by rw [ext_size T s.a (by omega)];omega)
   rw [ext_size T s.a (by omega)] at hn
   have hxz:x.size=nextI (T.extract s.a T.size):=by rw [←hx];simp [ByteArray.size_extract];omega
   have hb:=h1.next hlt
   have key:∀s':Fl,s'.a=s.a→s'.n=s.n→s'.ma=s.ma→s'.mn=s.mn→∃st full,fillRow r t (adv r.wh x.size s')=(st,full)∧Bord T st.a st.n∧Bord T st.ma st.mn∧a≤st.a∧a≤st.ma∧st.ma≤st.a∧(full=true→st.a<T.size)∧(full=false→st.a=T.size):=by
    intro s' e1 e2 e3 e4
    refine fill_bord r T a t _ ?_ ?_ ?_ ?_ ?_ ?_
    ·show (piecesF T T.size (s'.a+x.size)).map (·.2)=t
     rw [e1,hxz];exact ht
    ·show Bord T (s'.a+x.size) (s'.n+1)
     rw [e1,e2,hxz];exact hb
    ·show Bord T (if ith r.wh s'.n=1 then s'.a+x.size else s'.ma) (if ith r.wh s'.n=1 then s'.n+1 else s'.mn)
     split
     ·rw [e1,e2,hxz];exact hb
     ·rw [e3,e4];exact h2
    ·show a≤s'.a+x.size
     omega
    ·show a≤(if ith r.wh s'.n=1 then s'.a+x.size else s'.ma)
     split <;> omega
    ·show (if ith r.wh s'.n=1 then s'.a+x.size else s'.ma)≤s'.a+x.size
     split <;> omega
   rw [fillRow]
   unfold stepF
   by_cases c1:blankC x=true∧(s.hangs=true∨r.w<s.wide+(textI x s.wide r.tab r.wideA r.raw).2)
   ·rw [if_pos c1,if_neg (by simp)]
    exact key _ rfl rfl rfl rfl
   ·rw [if_neg c1]
    by_cases c2:s.hangs=true∨r.w<s.wide+(textI x s.wide r.tab r.wideA r.raw).2
    ·rw [if_pos c2,if_pos rfl]
     exact⟨_,true,rfl,h1,h2,h3,h4,h5,fun _=>hlt,fun h=>by cases h⟩
    ·rw [if_neg c2,if_neg (by simp)]
     exact key _ rfl rfl rfl rfl
theorem rowI_bord (r:Rul) (T:ByteArray) (e:Bool) (a n:Nat) (h:Bord T a n) :
 Bord T (rowAt1 r T e a n).1 (rowAt1 r T e a n).2.1∧a≤(rowAt1 r T e a n).1 ∧
 (((rowAt1 r T e a n).2.2.2=2∨(rowAt1 r T e a n).2.2.2=3)→a<(rowAt1 r T e a n).1∧(rowAt1 r T e a n).1<T.size) ∧
 (¬ ((rowAt1 r T e a n).2.2.2=2∨(rowAt1 r T e a n).2.2.2=3)→(rowAt1 r T e a n).1=T.size∧(rowAt1 r T e a n).2.2.2=lastEnd e):=by
 have hl:lastEnd e≠2∧lastEnd e≠3:=by unfold lastEnd;split <;> constructor <;> decide
 obtain⟨st,full,hf,b1,b2,h3,h4,h5,h6,h7⟩:=fill_bord r T a _ (fl0 a n) rfl h h (Nat.le_refl _) (Nat.le_refl _) (Nat.le_refl _)
 rw [show (fl0 a n).a=a from rfl,←piecesF_map T a h.1] at hf
 unfold rowAt1
 rw [hf]
 cases full with
 | false =>
   refine⟨b1,h3,fun h=>?_,fun _=>⟨h7 rfl,rfl⟩⟩
   rcases h with h | h
   ·exact absurd h hl.1
   ·exact absurd h hl.2
 | true =>
   have h6:=h6 rfl
   dsimp only
   by_cases c1:a<st.ma
   ·rw [if_pos c1]
    exact⟨b2,h4,fun _=>⟨c1,by show st.ma<T.size;omega⟩,fun h=>absurd (.inl rfl) h⟩
   ·rw [if_neg c1]
    by_cases c2:a<st.a
    ·rw [if_pos c2]
     exact⟨b1,h3,fun _=>⟨c2,h6⟩,fun h=>absurd (.inr rfl) h⟩
    ·rw [if_neg c2]
     have hn:=nextI_bd (T.extract st.a T.size) (by rw [ext_size T st.a (by omega)];omega)
     rw [ext_size T st.a (by omega)] at hn
     refine⟨b1.next h6,by show a≤st.a+_;omega,fun h=>?_,fun h=>?_⟩
     ·by_cases c3:st.a+nextI (T.extract st.a T.size)=T.size
      ·dsimp only at h
       rw [if_pos c3] at h
       rcases h with h | h
       ·exact absurd h hl.1
       ·exact absurd h hl.2
      ·exact⟨by show a<st.a+_;omega,by show st.a+_<T.size;omega⟩
     ·by_cases c3:st.a+nextI (T.extract st.a T.size)=T.size
      ·exact⟨c3,by show (if _ then _ else _)=_;rw [if_pos c3]⟩
      ·dsimp only at h
       rw [if_neg c3] at h
       exact absurd (.inr rfl) h
theorem piecesF_mid (s:ByteArray):∀(pre:List (Nat × ByteArray)) (a:Nat) (p:Nat × ByteArray) (post:List (Nat × ByteArray)),a≤s.size→piecesF s s.size a=pre++p::post→piecesF s s.size p.1=p::post∧a≤p.1∧p.1<s.size∧∀q∈pre,q.1<p.1
 | [],a,p,post,ha,h=>by
   have hlt:a<s.size:=by
    by_cases e:a<s.size
    ·exact e
    ·have:a=s.size:=by omega
     rw [this,piecesF_nil] at h;cases h
   have h0:=h
   rw [piecesF_cons s a hlt] at h
   obtain⟨hq,_⟩:=List.cons.inj h
   subst hq
   exact⟨h0,Nat.le_refl _,hlt,fun q hq=>by cases hq⟩
 | q::pre,a,p,post,ha,h=>by
   have hlt:a<s.size:=by
    by_cases e:a<s.size
    ·exact e
    ·have:a=s.size:=by omega
     rw [this,piecesF_nil] at h;cases h
   rw [piecesF_cons s a hlt,List.cons_append] at h
   obtain⟨hq,h2⟩:=List.cons.inj h
   have hn:=nextI_bd (s.extract a s.size) (by rw [ext_size s a (by omega)];omega)
   rw [ext_size s a (by omega)] at hn
   obtain⟨g1,g2,g3,g4⟩:=piecesF_mid s pre _ p post (by omega) h2
   refine⟨g1,by omega,g3,fun x hx=>?_⟩
   rcases List.mem_cons.1 hx with rfl | hx
   ·rw [←hq];show a<p.1;omega
   ·exact g4 x hx
theorem countF_some:∀(L:List (Nat × ByteArray)) (ks:List Int) (e:Nat),countF L ks=some e→∃pre p post,L=pre++p::post∧p.1=e∧ith ks pre.length=2
 | [],ks,e,h=>by cases ks <;> simp [countF] at h
 | p::t,[],e,h=>by simp [countF] at h
 | p::t,k::ks,e,h=>by
   rw [countF] at h
   by_cases hk:k=2
   ·rw [if_pos hk] at h
    exact⟨[],p,t,rfl,by simpa using h,hk⟩
   ·rw [if_neg hk] at h
    obtain⟨pre,q,post,h1,h2,h3⟩:=countF_some t ks e h
    exact⟨p::pre,q,post,by rw [h1];rfl,h2,h3⟩
theorem textOf_pieces (s:ByteArray):(textOf s).size≤s.size∧∃post,piecesI s=piecesI (textOf s)++post:=by
 unfold textOf
 cases h:countI s with
 | none=>exact⟨Nat.le_refl _,[],by simp⟩
 | some e =>
   dsimp only
   obtain⟨pre,p,post,h1,h2,_⟩:=countF_some _ _ _ h
   obtain⟨g1,_,g3,g4⟩:=piecesF_mid s pre 0 p post (Nat.zero_le _) h1
   rw [h2] at g1 g3 g4
   have hz:(s.extract 0 e).size=e:=by simp [ByteArray.size_extract];omega
   refine⟨by omega,p::post,?_⟩
   rw [h1]
   congr 1
   unfold piecesI
   rw [hz]
   exact (piecesF_cut s e (by omega) e 0 pre (Nat.zero_le _) (by omega) (by rw [g1];exact h1) g4).symm
theorem whereI_len (s:ByteArray):(whereI s).length=(piecesI s).length:=by
 rw [whereI_K]
 cases h:piecesI s with
 | nil=>rfl
 | cons p t=>rw [List.map_cons,whereK,whereF_len,List.length_map,List.length_cons]
theorem Bord.len {s:ByteArray} {b k:Nat} (h:Bord s b k):k+(piecesI (s.extract b s.size)).length=(piecesI s).length:=by
 obtain⟨hb,pre,hp,hl⟩:=h
 have:=congrArg List.length (piecesF_map s b hb)
 rw [List.length_map,List.length_map] at this
 rw [hp,List.length_append,this]
 omega
theorem textOf_len (s:ByteArray):(piecesI (textOf s)).length≤(whereI s).length:=by
 obtain⟨_,post,h⟩:=textOf_pieces s
 rw [whereI_len,h,List.length_append]
 omega
end
section
open Go.RowKit Go.Proofs Go.Shelf
attribute [local go_sem] Oper.semAt_some
theorem runes_conv (s:ByteArray):∀(f i:Nat) (acc:Array Value),Conv.runesFrom s f i acc=acc++((runesF s f i).map (Value.int .i32)).toArray
 | 0,i,acc=>by simp [Conv.runesFrom,runesF]
 | f+1,i,acc=>by
   rw [Conv.runesFrom,runesF]
   split
   ·show Conv.runesFrom s f (i+(Utf8.decode s i).2) (acc.push (.int .i32 ((Utf8.decode s i).1:Int)))=_
    rw [runes_conv s f,List.map_cons]
    simp
   ·simp
theorem runesF_len (s:ByteArray):∀(f i:Nat),(runesF s f i).length≤f
 | 0,i=>Nat.le_refl _
 | f+1,i=>by
   rw [runesF]
   split
   ·rw [List.length_cons];exact Nat.succ_le_succ (runesF_len s f _)
   ·exact Nat.zero_le _
theorem runesI_pos (s:ByteArray) (h:0<s.size):0<(runesI s).length∧ith (runesI s) 0=((Utf8.decode s 0).1:Int):=by
 unfold runesI
 obtain⟨k,hk⟩:∃k,s.size=k+1:=⟨s.size-1,by omega⟩
 rw [hk,runesF,if_pos h]
 exact⟨by simp,rfl⟩
theorem runes_rd (W:World) (s:ByteArray) (t g:Nat) :
 Rd .i32 (W.drew.alloc (.cells (Conv.runesFrom s s.size 0 #[]++Array.replicate g (.int .i32 0)) t)) (some ⟨W.heap.size,0,none⟩) (runesI s):=by
 refine .inr ⟨W.heap.size,0,rfl,by rw [World.size_alloc];exact Nat.lt_succ_self _,fun i hi=>?_⟩
 rw [runes_conv]
 have h0:(W.drew.alloc (.cells (#[]++((runesF s s.size 0).map (Value.int .i32)).toArray++Array.replicate g (.int .i32 0)) t)).heap[W.heap.size]? = _:=World.alloc_heap_new W.drew _
 have h1:(runesI s)[i]? = some (ith (runesI s) i):=ith_get hi
 unfold runesI at h1 hi ⊢
 simp only [World.cell?,h0]
 simp only [Nat.zero_add,Array.empty_append]
 rw [Array.getElem?_append_left (by simpa using hi)]
 simp [h1]
theorem conv_str (d:ByteArray) (hz:d.size≤16777216) :
 ∃(C:World→Nat) (F:World→World),(∀w,(convert 9 82 (.string d)).run Tryz.prog w=.ok (.slice (some ⟨w.heap.size,0,none⟩) (runesI d).length (C w)) (F w)) ∧
   ∀w,Below w.heap.size w (F w)∧Rd .i32 (F w) (some ⟨w.heap.size,0,none⟩) (runesI d)∧(runesI d).length≤C w:=by
 have hs:Conv.runesFrom d d.size 0 #[]=((runesI d).map (Value.int .i32)).toArray:=by
  rw [runes_conv];unfold runesI;simp
 have hsz:(Conv.runesFrom d d.size 0 #[]).size=(runesI d).length:=by rw [hs];simp
 have hle:=runesF_len d d.size 0
 refine⟨fun w=>grownCap w (runesI d).length 0 21,fun w=>w.drew.alloc (.cells (Conv.runesFrom d d.size 0 #[]++Array.replicate (grownCap w (runesI d).length 0 21-(runesI d).length) (.int .i32 0)) 21),fun w=>?_,fun w=>⟨?_,?_,?_⟩⟩
 ·have:=run_runes_of_string (P:=Tryz.prog) w 9 82 21 d Tryz.underlying9 Tryz.underlying82 Tryz.underlying21 (by rw [hsz];unfold runesI;omega)
  rw [this,hsz]
 ·exact (Below.refl _ _).drew.alloc (Nat.le_refl _) _
 ·exact runes_rd w d 21 _
 ·exact grownCap_ge w (runesI d).length 0 21
theorem conv_two (W:World) (x y:Int):(convert 42 9 (.slice (some ⟨W.heap.size,0,none⟩) 2 2)).run Tryz.prog (W.alloc (.cells #[.int .u8 x,.int .u8 y] 5)).drew=.ok (.string (strOfNums [x,y])) (W.alloc (.cells #[.int .u8 x,.int .u8 y] 5)).drew:=by
 refine conv_rdx (xs:=[x,y]) (.inr ⟨W.heap.size,0,rfl,by show W.heap.size<(W.alloc _).heap.size;rw [World.size_alloc];exact Nat.lt_succ_self _,fun i hi=>?_⟩) rfl
 have hi:i<2:=hi
 have hc:=World.cell?_alloc_mark W #[.int .u8 x,.int .u8 y] 5 (0,0) i
 rw [Nat.zero_add]
 refine Eq.trans hc ?_
 obtain rfl | rfl:i=0∨i=1:=by omega
 ·rfl
 ·rfl
theorem and15_u8:∀y:Fin 256,bits .and .u8 (y.val:Int) 15=(y.val:Int) % 16:=by decide +kernel
def digS:ByteArray:=⟨#[48,49,50,51,52,53,54,55,56,57,97,98,99,100,101,102]⟩
theorem digS_at (d:Nat) (hd:d<16) (h:d<digS.size):((digS[d]'h).toNat:Int)=digI d:=by
 have:d=0∨d=1∨d=2∨d=3∨d=4∨d=5∨d=6∨d=7∨d=8∨d=9∨d=10∨d=11∨d=12∨d=13∨d=14∨d=15:=by omega
 rcases this with rfl | rfl | rfl | rfl | rfl | rfl | rfl | rfl | rfl | rfl | rfl | rfl | rfl | rfl | rfl | rfl <;> rfl
set_option maxHeartbeats 1000000 in
theorem text_anyB (c:ByteArray) (hz:c.size≤16777216) (col tab want:Int) (wide join raw:Bool) (w:World) (hT:T8 w) (hD:DB w) :
 Calls Tryz.prog 17 #[.string c,.int .i64 col,lookV tab want wide join raw] w fun e w' =>
  e=.returned (.tuple #[.string (textI c col tab wide raw).1,.int .i64 (textI c col tab wide raw).2])∧Below w.heap.size w w':=by
 obtain⟨p,hp⟩:∃p,textI c col tab wide raw=p:=⟨_,rfl⟩
 rw [hp]
 have hkb:nextI c≤c.size:=by
  by_cases h:c.size=0
  ·unfold nextI;rw [if_pos h];omega
  ·exact (nextI_bd c (by omega)).2
 unfold textI at hp
 obtain⟨k,hk⟩:∃k,nextI c=k:=⟨_,rfl⟩
 have HN:=lh (fun (W:World) (hb:Below w.heap.size w W)=>hk▸Next_any c W (hT.below rfl hb) (by omega))
 rw [hk] at hp hkb
 obtain⟨d,hd⟩:∃d,c.extract 0 k=d:=⟨_,rfl⟩
 have hdz:d.size=k:=by rw [←hd];simp [ByteArray.size_extract];omega
 rw [hd] at hp
 have HS:=lh (fun (W:World) (hb:Below w.heap.size w W)=>sNext_any d W (hT.below rfl hb))
 have HD:=lh (fun (W:World) (hb:Below w.heap.size w W)=>hD.below hb)
 have HP:=lh hp
 clear hT hD hp hk
 go_enter Tryz.func17,Tryz.ntmps17
 go_upto_region 1 with (fail)
 have hb1:Below w.heap.size w (w.alloc (.cells #[.int .i64 tab,.bool wide,.int .i8 want,.bool join,.bool raw] 26)):=(Below.refl _ _).alloc (Nat.le_refl _) _
 have hL:(w.alloc (.cells #[.int .i64 tab,.bool wide,.int .i8 want,.bool join,.bool raw] 26)).heap[w.heap.size]? = some (.cells #[.int .i64 tab,.bool wide,.int .i8 want,.bool join,.bool raw] 26 (0,0)):=World.alloc_heap_new w _
 generalize w.alloc (.cells #[.int .i64 tab,.bool wide,.int .i8 want,.bool join,.bool raw] 26)=W1 at hb1 hL ⊢
 have g0:(k:Int)≤(c.size:Int):=by omega
 go_upto_region 2 with (go_at_call 36;refine (HN.out _ hb1).mono ?_;rintro e w2 ⟨rfl,hb2⟩)
 have hb3:=hb1.trans (hb2.mono hb1.size)
 have hL2:=(hb2.block w.heap.size (Array.getElem?_eq_some_iff.1 hL).1).trans hL
 have hx:c.extract 0 k=d:=hd
 by_cases h0:d.size=0
 ·have hd0:d=⟨#[]⟩:=ByteArray.ext (Array.eq_empty_of_size_eq_zero h0)
  have hp:=HP.out
  unfold textD at hp
  rw [if_pos h0] at hp
  subst hd0
  go_wp2_with (fail)
  go_ret2
  exact⟨by rw [←hp];rfl,hb3⟩
 have hem:=ne_isEmpty d h0
 have hpos:0<d.size:=by omega
 by_cases hbad:decR d=65533∧decN d=1
 ·have hp:=HP.out
  unfold textD at hp
  rw [if_neg h0,if_pos hbad] at hp
  obtain⟨e1,e2⟩:=hbad
  have hS2:=lh (HS.out w2 hb3)
  rw [e1,e2] at hS2
  have HP2:=lh hp
  clear hp HP
  go_upto_region 6 with (go_at_call 37;refine hS2.out.mono ?_;rintro e w4 ⟨rfl,hb4⟩)
  have hb5:=hb3.trans (hb4.mono hb3.size)
  clear hb2 hb4 hL2 hL hb1 hb3
  have hk0:0<k:=by omega
  obtain⟨y,hy⟩:∃y:Nat,(d[0]'hpos).toNat=y:=⟨_,rfl⟩
  have hy8:y<256:=by rw [←hy];exact UInt8.toNat_lt _
  have hq:(0:Int)≤(y:Int) / 16∧(y:Int) / 16<16:=by omega
  have ha:bits .and .u8 (y:Int) 15=(y:Int) % 16:=and15_u8 ⟨y,hy8⟩
  have hm:(0:Int)≤(y:Int) % 16∧(y:Int) % 16<16:=by omega
  obtain⟨S2,hS2,hsz⟩:∃S2:Int→Int→ByteArray,(∀x y,S2 x y=strOfNums [x,y])∧∀x y,(S2 x y).size=2:=⟨fun x y=>strOfNums [x,y],fun _ _=>rfl,fun x y=>by rw [strOfNums_size];rfl⟩
  have hcv:=fun W x y=>conv_two W x y
  simp only [←hS2] at hcv
  have hS3:=lh hS2
  clear hS2
  go_region
  go_wp2_with (fail)
  go_ret2
  refine⟨two_ret ?_,(hb5.alloc hb5.size _).drew⟩
  have hg:(d.get! 0).toNat=y:=by
   rw [←hy]
   show (d.data[0]!).toNat=(d.data[0]).toNat
   rw [getElem!_pos d.data 0 hpos]
  have k1:=digS_at (y / 16) (by omega) (by show y / 16<16;omega)
  have k2:=digS_at (y % 16) (by omega) (by show y % 16<16;omega)
  rw [←HP2.out,hS3.out,hg,←k1,←k2]
  rfl
 ·have hp:=HP.out
  unfold textD at hp
  rw [if_neg h0,if_neg hbad] at hp
  have hS2:=lh (HS.out w2 hb3)
  have HP2:=lh hp
  obtain⟨C,F,hcv,hF⟩:=conv_str d (by omega)
  obtain⟨hrp,hr0⟩:=runesI_pos d hpos
  have hrb:0≤ith (runesI d) 0∧ith (runesI d) 0<2147483648:=by
   have:=decode_le d 0
   rw [hr0];omega
  have hrl:=runesF_len d d.size 0
  have hone:=fun (W:World) (hb:Below w.heap.size w (F W))=>one_any d (runesI d) (runesI d).length (C W) W.heap.size 0 rfl hrp (hF W).2.2 (by unfold runesI;omega) col tab want wide join raw (F W) (hF W).2.1 hrb (HD.out _ hb)
  have HF:=lh hF
  rw [hp] at hone
  have hOne:=lh hone
  have hbb:=lh hbad
  clear hp HP hF hone hbad
  obtain⟨r,hr⟩:∃r,decR d=r:=⟨_,rfl⟩
  obtain⟨m,hm⟩:∃m,decN d=m:=⟨_,rfl⟩
  rw [hr,hm] at hS2 hbb
  clear hr hm
  go_upto_region 5 with (go_at_call 37;refine hS2.out.mono ?_;rintro e w4 ⟨rfl,hb4⟩)
  have hb5:=hb3.trans (hb4.mono hb3.size)
  have hL4:=(hb4.block w.heap.size (Nat.lt_of_lt_of_le (Array.getElem?_eq_some_iff.1 hL).1 hb2.size)).trans hL2
  have hb6:=hb5.trans (((HF.out w4).1).mono hb5.size)
  have hLs:w.heap.size<w4.heap.size:=(Array.getElem?_eq_some_iff.1 hL4).1
  have hLF:=(((HF.out w4).1).block w.heap.size hLs).trans hL4
  have k0:(F w4).cell? ⟨w.heap.size,0,none⟩=some (.int .i64 tab):=by simp [World.cell?,hLF]
  have c1:(F w4).cell? ⟨w.heap.size,1,none⟩=some (.bool wide):=by simp [World.cell?,hLF]
  have k2:(F w4).cell? ⟨w.heap.size,2,none⟩=some (.int .i8 want):=by simp [World.cell?,hLF]
  have k3:(F w4).cell? ⟨w.heap.size,3,none⟩=some (.bool join):=by simp [World.cell?,hLF]
  have c4:(F w4).cell? ⟨w.heap.size,4,none⟩=some (.bool raw):=by simp [World.cell?,hLF]
  have hB6:=lh hb6
  have hO4:=lh (hOne.out w4 hb6)
  clear hLF hL4 hL2 hL hb1 hb2 hb3 hb4 hb5 hb6 hOne hrp hr0 hrb hrl HF hS2 HN HS HD
  by_cases e1:r=65533
  ·subst e1
   have e2:((m:Int)==1)=false:=by
    rw [beq_eq_false_iff_ne]
    intro h
    exact hbb.out ⟨rfl,by omega⟩
   go_wp2_with (go_at_call 38;refine hO4.out.mono ?_;rintro e w5 ⟨rfl,hb7⟩)
   go_ret2
   exact⟨rfl,hB6.out.trans (hb7.mono hB6.out.size)⟩
  ·have e2:(r==65533)=false:=by rw [beq_eq_false_iff_ne];exact e1
   go_wp2_with (go_at_call 38;refine hO4.out.mono ?_;rintro e w5 ⟨rfl,hb7⟩)
   go_ret2
   exact⟨rfl,hB6.out.trans (hb7.mono hB6.out.size)⟩
theorem text_any (c:ByteArray) (hz:c.size≤2097152) (col tab want:Int) (wide join raw:Bool) (w:World) (hT:T8 w) (hD:DB w) :
 Calls Tryz.prog 17 #[.string c,.int .i64 col,lookV tab want wide join raw] w fun e w' =>
  e=.returned (.tuple #[.string (textI c col tab wide raw).1,.int .i64 (textI c col tab wide raw).2])∧Below w.heap.size w w':=text_anyB c (by omega) col tab want wide join raw w hT hD
end
section
open Go.RowKit Go.Proofs Go.Shelf
def Blk (W:World) (n m:Nat) (C:Nat→Array Value) (T:Nat→Nat):Prop:=∀j,j<m→W.heap[n+j]? = some (.cells (C j) (T j) (0,0))
theorem Blk.set {W:World} {n m:Nat} {C:Nat→Array Value} {T:Nat→Nat} (h:Blk W n m C T) (k i:Nat) (v:Value) {C':Nat→Array Value} (hC:∀j,j<m→C' j=if j=k then (C j).setIfInBounds i v else C j) :
 Blk (W.setCell ⟨n+k,i,none⟩ v) n m C' T:=fun j hj=>by
 rw [hC j hj]
 by_cases e:j=k
 ·subst e;rw [if_pos rfl];exact set_at (h j hj) v
 ·rw [if_neg e];exact box_other (h j hj) (by omega)
theorem Blk.below {W W':World} {n m:Nat} {C:Nat→Array Value} {T:Nat→Nat} (h:Blk W n m C T) (hb:Below W.heap.size W W'):Blk W' n m C T:=fun j hj =>
 Eq.trans (hb.block (n+j) (Array.getElem?_eq_some_iff.1 (h j hj)).1) (h j hj)
theorem Blk.kept {A B:World} {n m:Nat} {C:Nat→Array Value} {T:Nat→Nat} (h:Blk A n m C T) {row:Option Nat} (hg:A.grownBy B row) (hrow:∀k,row=some k→∃o,A.heap[k]? = some o∧o.isCells=false):Blk B n m C T:=fun j hj =>
 (hg.block _ (Array.getElem?_eq_some_iff.1 (h j hj)).1 (fun e=>by
   obtain⟨o,ho,hc⟩:=hrow _ e.symm
   rw [h j hj] at ho;cases ho;cases hc)).trans (h j hj)
theorem Blk.cell {W:World} {n m:Nat} {C:Nat→Array Value} {T:Nat→Nat} (h:Blk W n m C T) (j i:Nat) (hj:j<m) {v:Value} (hv:(C j)[i]? = some v):W.cell? ⟨n+j,i,none⟩=some v:=by
 simp [World.cell?,h j hj,hv]
theorem Blk.frozen {W:World} {n m:Nat} {C:Nat→Array Value} {T:Nat→Nat} (h:Blk W n m C T) (j i:Nat) (hj:j<m):W.frozen? ⟨n+j,i,none⟩=false:=by
 simp [World.frozen?,h j hj]
theorem Blk.alloc {W:World} {n m:Nat} {C:Nat→Array Value} {T:Nat→Nat} (h:Blk W n m C T) (o:Obj):Blk (W.alloc o) n m C T :=
 h.kept (row:=none) (World.grownBy_alloc W o none) (fun k e=>by cases e)
theorem Blk.push {W:World} {n m:Nat} {C:Nat→Array Value} {T:Nat→Nat} (h:Blk W n m C T) (hs:W.heap.size=n+m):Blk (W.alloc (.cells (C m) (T m))) n (m+1) C T:=fun j hj=>by
 by_cases e:j=m
 ·subst e
  have:=World.alloc_heap_new W (.cells (C j) (T j))
  rwa [hs] at this
 ·exact h.alloc _ j (by omega)
theorem Blk.nil {W:World} {n:Nat} {C:Nat→Array Value} {T:Nat→Nat}:Blk W n 0 C T:=fun j hj=>by omega
end
section
open Go.RowKit Go.Proofs Go.Shelf
attribute [local go_sem] Oper.semAt_some
theorem blankB_C (c:ByteArray):blankB c=blankC c:=by unfold blankB blankC;simp
def FilW (W:World) (f:Nat) (text:ByteArray) (wa:Option Addr) (wn wc:Nat) (e:Bool) (r:Rul) (want:Int) (join:Bool):Prop :=
 W.heap[f]? = some (.cells #[.string text,.slice wa wn wc,.bool e,.int .i64 r.w,.int .i64 r.tab,.bool r.wideA,.int .i8 want,.bool join,.bool r.raw] 144 (0,0))
theorem FilW.lt {W:World} {f:Nat} {text:ByteArray} {wa:Option Addr} {wn wc:Nat} {e:Bool} {r:Rul} {want:Int} {join:Bool} (h:FilW W f text wa wn wc e r want join):f<W.heap.size:=(Array.getElem?_eq_some_iff.1 h).1
theorem FilW.below {W W':World} {f B:Nat} {text:ByteArray} {wa:Option Addr} {wn wc:Nat} {e:Bool} {r:Rul} {want:Int} {join:Bool} (h:FilW W f text wa wn wc e r want join) (hb:Below B W W') (hB:f<B):FilW W' f text wa wn wc e r want join :=
 (hb.block f hB).trans h
theorem FilW.cells {W:World} {f:Nat} {text:ByteArray} {wa:Option Addr} {wn wc:Nat} {e:Bool} {r:Rul} {want:Int} {join:Bool} (h:FilW W f text wa wn wc e r want join) :
 W.cell? ⟨f,0,none⟩=some (.string text)∧W.cell? ⟨f,1,none⟩=some (.slice wa wn wc)∧W.cell? ⟨f,2,none⟩=some (.bool e)∧W.cell? ⟨f,3,none⟩=some (.int .i64 r.w) ∧
 W.cell? ⟨f,4,none⟩=some (.int .i64 r.tab)∧W.cell? ⟨f,5,none⟩=some (.bool r.wideA)∧W.cell? ⟨f,6,none⟩=some (.int .i8 want)∧W.cell? ⟨f,7,none⟩=some (.bool join)∧W.cell? ⟨f,8,none⟩=some (.bool r.raw):=by
 unfold FilW at h
 refine⟨?_,?_,?_,?_,?_,?_,?_,?_,?_⟩ <;> simp [World.cell?,h]
theorem last_any (f:Nat) (text:ByteArray) (wa:Option Addr) (wn wc:Nat) (e:Bool) (r:Rul) (want:Int) (join:Bool) (w:World) (h:FilW w f text wa wn wc e r want join) :
 Calls Tryz.prog 120 #[.pointer (some ⟨f,0,none⟩)] w fun en w'=>en=.returned (.int .i8 (lastEnd e))∧w'=w:=by
 have c2:=h.cells.2.2.1
 clear h
 go_enter Tryz.func120,Tryz.ntmps120
 cases e with
 | true =>
   go_wp2_with (fail)
   go_ret
   exact⟨rfl,rfl⟩
 | false =>
   go_wp2_with (fail)
   go_ret
   exact⟨rfl,rfl⟩
def rwC (f a n:Nat) (R:Int × Int × Int) (s:Fl) (tail:ByteArray):Nat→Array Value
 | 0=>#[.pointer (some ⟨f,0,none⟩)]
 | 1=>#[.int .i64 a,.int .i64 n,.int .i64 0]
 | 2=>#[.int .i64 R.1,.int .i64 R.2.1,.int .i64 R.2.2]
 | 3=>#[.int .i64 s.a,.int .i64 s.n,.int .i64 s.wide]
 | 4=>#[.int .i64 s.ma,.int .i64 s.mn,.int .i64 s.mw]
 | 5=>#[.bool s.hangs]
 | 6=>#[.int .i64 s.c]
 | _=>#[.string tail]
def rwT:Nat→Nat
 | 0=>140
 | 1=>146
 | 2=>146
 | 3=>146
 | 4=>146
 | 5=>4
 | 6=>3
 | _=>9
def RwB (W:World) (B f a n:Nat) (R:Int × Int × Int) (s:Fl) (tail:ByteArray):Prop:=Blk W B 8 (rwC f a n R s tail) rwT
theorem lt8 {j:Nat} (h:j<8):j=0∨j=1∨j=2∨j=3∨j=4∨j=5∨j=6∨j=7:=by omega
section
variable {W W':World} {B f a n:Nat} {R:Int × Int × Int} {s:Fl} {tail:ByteArray}
theorem RwB.below (h:RwB W B f a n R s tail) (hb:Below W.heap.size W W'):RwB W' B f a n R s tail:=Blk.below h hb
theorem RwB.cells (h:RwB W B f a n R s tail):W.cell? ⟨B,0,none⟩=some (.pointer (some ⟨f,0,none⟩))∧W.cell? ⟨B+1,0,none⟩=some (.int .i64 a)∧W.cell? ⟨B+1,1,none⟩=some (.int .i64 n)∧W.cell? ⟨B+1,2,none⟩=some (.int .i64 0) ∧
 W.cell? ⟨B+5,0,none⟩=some (.bool s.hangs)∧W.cell? ⟨B+6,0,none⟩=some (.int .i64 s.c)∧W.cell? ⟨B+7,0,none⟩=some (.string tail) :=
 ⟨Blk.cell h 0 0 (by omega) rfl,Blk.cell h 1 0 (by omega) rfl,Blk.cell h 1 1 (by omega) rfl,Blk.cell h 1 2 (by omega) rfl,Blk.cell h 5 0 (by omega) rfl,Blk.cell h 6 0 (by omega) rfl,Blk.cell h 7 0 (by omega) rfl⟩
theorem RwB.now (h:RwB W B f a n R s tail):W.cell? ⟨B+3,0,none⟩=some (.int .i64 s.a)∧W.cell? ⟨B+3,1,none⟩=some (.int .i64 s.n)∧W.cell? ⟨B+3,2,none⟩=some (.int .i64 s.wide) :=
 ⟨Blk.cell h 3 0 (by omega) rfl,Blk.cell h 3 1 (by omega) rfl,Blk.cell h 3 2 (by omega) rfl⟩
theorem RwB.may (h:RwB W B f a n R s tail):W.cell? ⟨B+4,0,none⟩=some (.int .i64 s.ma)∧W.cell? ⟨B+4,1,none⟩=some (.int .i64 s.mn)∧W.cell? ⟨B+4,2,none⟩=some (.int .i64 s.mw) :=
 ⟨Blk.cell h 4 0 (by omega) rfl,Blk.cell h 4 1 (by omega) rfl,Blk.cell h 4 2 (by omega) rfl⟩
theorem RwB.frz (h:RwB W B f a n R s tail) (j i:Nat) (hj:j<8):W.frozen? ⟨B+j,i,none⟩=false:=Blk.frozen h j i hj
theorem RwB.setN (h:RwB W B f a n R s tail) (i:Nat) (v:Int) (s':Fl) (hs:(rwC f a n R s' tail 3)=(rwC f a n R s tail 3).setIfInBounds i (.int .i64 v)) (h4:s'.ma=s.ma∧s'.mn=s.mn∧s'.mw=s.mw∧s'.hangs=s.hangs∧s'.c=s.c) :
 RwB (W.setCell ⟨B+3,i,none⟩ (.int .i64 v)) B f a n R s' tail:=Blk.set h 3 i _ (fun j hj=>by
 obtain⟨e1,e2,e3,e4,e5⟩:=h4
 rcases lt8 hj with rfl | rfl | rfl | rfl | rfl | rfl | rfl | rfl
 case inr.inr.inr.inl=>rw [if_pos rfl];exact hs
 all_goals (rw [if_neg (by decide)];simp only [rwC,e1,e2,e3,e4,e5]))
theorem RwB.setA (h:RwB W B f a n R s tail) (v:Nat):RwB (W.setCell ⟨B+3,0,none⟩ (.int .i64 v)) B f a n R { s with a:=v } tail:=h.setN 0 v _ rfl ⟨rfl,rfl,rfl,rfl,rfl⟩
theorem RwB.setK (h:RwB W B f a n R s tail) (v:Nat):RwB (W.setCell ⟨B+3,1,none⟩ (.int .i64 v)) B f a n R { s with n:=v } tail:=h.setN 1 v _ rfl ⟨rfl,rfl,rfl,rfl,rfl⟩
theorem RwB.setW (h:RwB W B f a n R s tail) (v:Int):RwB (W.setCell ⟨B+3,2,none⟩ (.int .i64 v)) B f a n R { s with wide:=v } tail:=h.setN 2 v _ rfl ⟨rfl,rfl,rfl,rfl,rfl⟩
theorem RwB.setM (h:RwB W B f a n R s tail) (x y:Nat) (z:Int) :
 RwB (((W.setCell ⟨B+4,0,none⟩ (.int .i64 x)).setCell ⟨B+4,1,none⟩ (.int .i64 y)).setCell ⟨B+4,2,none⟩ (.int .i64 z)) B f a n R { s with ma:=x,mn:=y,mw:=z } tail:=by
 have h1:=Blk.set (C':=rwC f a n R { s with ma:=x } tail) h 4 0 (.int .i64 x) (fun j hj=>by rcases lt8 hj with rfl | rfl | rfl | rfl | rfl | rfl | rfl | rfl <;> rfl)
 have h2:=Blk.set (C':=rwC f a n R { s with ma:=x,mn:=y } tail) h1 4 1 (.int .i64 y) (fun j hj=>by rcases lt8 hj with rfl | rfl | rfl | rfl | rfl | rfl | rfl | rfl <;> rfl)
 exact Blk.set (C':=rwC f a n R { s with ma:=x,mn:=y,mw:=z } tail) h2 4 2 (.int .i64 z) (fun j hj=>by rcases lt8 hj with rfl | rfl | rfl | rfl | rfl | rfl | rfl | rfl <;> rfl)
theorem RwB.setR (h:RwB W B f a n R s tail) (x y z:Int) :
 RwB (((W.setCell ⟨B+2,0,none⟩ (.int .i64 x)).setCell ⟨B+2,1,none⟩ (.int .i64 y)).setCell ⟨B+2,2,none⟩ (.int .i64 z)) B f a n (x,y,z) s tail:=by
 have h1:=Blk.set (C':=rwC f a n (x,R.2.1,R.2.2) s tail) h 2 0 (.int .i64 x) (fun j hj=>by rcases lt8 hj with rfl | rfl | rfl | rfl | rfl | rfl | rfl | rfl <;> rfl)
 have h2:=Blk.set (C':=rwC f a n (x,y,R.2.2) s tail) h1 2 1 (.int .i64 y) (fun j hj=>by rcases lt8 hj with rfl | rfl | rfl | rfl | rfl | rfl | rfl | rfl <;> rfl)
 exact Blk.set (C':=rwC f a n (x,y,z) s tail) h2 2 2 (.int .i64 z) (fun j hj=>by rcases lt8 hj with rfl | rfl | rfl | rfl | rfl | rfl | rfl | rfl <;> rfl)
theorem RwB.setH (h:RwB W B f a n R s tail) (b:Bool):RwB (W.setCell ⟨B+5,0,none⟩ (.bool b)) B f a n R { s with hangs:=b } tail :=
 Blk.set h 5 0 (.bool b) (fun j hj=>by rcases lt8 hj with rfl | rfl | rfl | rfl | rfl | rfl | rfl | rfl <;> rfl)
theorem RwB.setC (h:RwB W B f a n R s tail) (v:Int):RwB (W.setCell ⟨B+6,0,none⟩ (.int .i64 v)) B f a n R { s with c:=v } tail :=
 Blk.set h 6 0 (.int .i64 v) (fun j hj=>by rcases lt8 hj with rfl | rfl | rfl | rfl | rfl | rfl | rfl | rfl <;> rfl)
end
def rwW (w:World) (f a n B:Nat) (tail:ByteArray):World :=
 (((((((w.alloc (.cells (rwC f a n (0,0,0) (fl0 a n) tail 0) (rwT 0))).alloc (.cells (rwC f a n (0,0,0) (fl0 a n) tail 1) (rwT 1))).alloc (.cells (rwC f a n (0,0,0) (fl0 a n) tail 2) (rwT 2))).alloc (.cells (rwC f a n (0,0,0) (fl0 a n) tail 3) (rwT 3))).alloc
   (.cells (rwC f a n (0,0,0) (fl0 a n) tail 4) (rwT 4))).alloc (.cells (rwC f a n (0,0,0) (fl0 a n) tail 5) (rwT 5))).alloc (.cells (rwC f a n (0,0,0) (fl0 a n) tail 6) (rwT 6))).alloc (.cells (rwC f a n (0,0,0) (fl0 a n) tail 7) (rwT 7))
theorem rw_start (w:World) (f a n B:Nat) (tail:ByteArray) (hB:w.heap.size=B):RwB (rwW w f a n B tail) B f a n (0,0,0) (fl0 a n) tail∧Below B w (rwW w f a n B tail):=by
 constructor
 ·unfold rwW RwB
  have h0:Blk w B 0 (rwC f a n (0,0,0) (fl0 a n) tail) rwT:=Blk.nil
  have h1:=h0.push (by omega)
  have h2:=h1.push (by simp only [World.size_alloc];omega)
  have h3:=h2.push (by simp only [World.size_alloc];omega)
  have h4:=h3.push (by simp only [World.size_alloc];omega)
  have h5:=h4.push (by simp only [World.size_alloc];omega)
  have h6:=h5.push (by simp only [World.size_alloc];omega)
  have h7:=h6.push (by simp only [World.size_alloc];omega)
  exact h7.push (by simp only [World.size_alloc];omega)
 ·unfold rwW
  refine ((((((((Below.refl _ w).alloc (by omega) _).alloc ?_ _).alloc ?_ _).alloc ?_ _).alloc ?_ _).alloc ?_ _).alloc ?_ _).alloc ?_ _ <;> simp only [World.size_alloc] <;> omega
theorem fill_step {r:Rul} {L:List ByteArray} {s0 st:Fl} (h:∀R,fillRow r (L++R) s0=fillRow r R st) {x:ByteArray} (hs:(stepF r st x).2=false):∀R,fillRow r ((L++[x])++R) s0=fillRow r R (stepF r st x).1:=fun R=>by
 rw [List.append_assoc,h,List.singleton_append,fillRow,if_neg (by rw [hs];decide)]
theorem fill_full {r:Rul} {L:List ByteArray} {s0 st:Fl} (h:∀R,fillRow r (L++R) s0=fillRow r R st) {x:ByteArray} (hs:(stepF r st x).2=true):∀R,fillRow r ((L++[x])++R) s0=((stepF r st x).1,true):=fun R=>by
 rw [List.append_assoc,h,List.singleton_append,fillRow,if_pos hs]
def FlB (a n m z:Nat) (s:Fl):Prop:=s.n=n+m∧s.a≤a+m*z∧0≤s.wide∧s.wide≤19*m∧0≤s.c∧s.c≤19
theorem FlB.start (a n z:Nat):FlB a n 0 z (fl0 a n):=⟨rfl,by simp [fl0],by simp [fl0],by simp [fl0],by simp [fl0],by simp [fl0]⟩
theorem FlB.adv {a n m z:Nat} {s:Fl} (h:FlB a n m z s) (wh:List Int) (x:Nat) (hx:x≤z):FlB a n (m+1) z (adv wh x s):=by
 obtain⟨h1,h2,h3,h4,h5,h6⟩:=h
 refine⟨by show s.n+1=_;omega,?_,by show 0≤s.wide+s.c;omega,?_,h5,h6⟩
 ·show s.a+x≤a+(m+1)*z
  rw [Nat.add_mul,Nat.one_mul]
  omega
 ·show s.wide+s.c≤19*((m+1:Nat):Int)
  omega
end
end Go.Proofs.YtlbclfmbejjneaaGreatDoor
