/- Part 35 (merged by a program): lemmas of no further condition than each states. -/
import Derived.Lib.OthersKept
import Derived.Test.YtlbclfmbejjneaaGreatDoorR32
import Derived.Test.YtlbclfmbejjneaaGreatDoorR34
namespace Go.Proofs.YtlbclfmbejjneaaGreatDoor
set_option linter.unusedVariables false
set_option linter.unusedSimpArgs false
section
def growF (lo en:Int):List (Nat × ByteArray)→Int→Int→Int × Int
 | [],f,t=>(f,t)
 | p::r,f,t =>
   if (p.1:Int)+(p.2.size:Int)≤lo then growF lo en r f t
   else if en≤(p.1:Int) then (f,t)
   else growF lo en r (if (p.1:Int)≤lo then (p.1:Int) else f) ((p.1:Int)+(p.2.size:Int))
def wholeL (s:ByteArray) (how:Int):List (Nat × ByteArray) :=
 if how=0 then piecesI s else if how=1 then wordsI s else if how=2 then linesI s else [(0,s)]
def growI (s:ByteArray) (f t how:Int):Int × Int :=
 if (how<0∨3<how)∨loI f t s.size=s.size then (loI f t s.size,hiI f t s.size)
 else growF (loI f t s.size) (max (hiI f t s.size) (loI f t s.size+1)) (wholeL s how) f t
def ChainP:Nat→List (Nat × ByteArray)→Nat→Prop
 | a,[],z=>a=z
 | a,p::t,z=>p.1=a∧ChainP (a+p.2.size) t z
theorem chain_ge:∀(L:List (Nat × ByteArray)) (a z:Nat),ChainP a L z→a≤z∧∀x∈L,a≤x.1∧x.1+x.2.size≤z
 | [],a,z,h=>⟨Nat.le_of_eq h,fun x hx=>by cases hx⟩
 | p::t,a,z,⟨h1,h2⟩=>by
   obtain⟨g1,g2⟩:=chain_ge t _ z h2
   refine⟨by omega,fun x hx=>?_⟩
   rcases List.mem_cons.1 hx with rfl | hx
   ·exact⟨by omega,by omega⟩
   ·have:=g2 x hx
    exact⟨by omega,this.2⟩
theorem chain_not_in:∀(L:List (Nat × ByteArray)) (a z:Nat),ChainP a L z→∀x∈L,∀u∈L,¬ (x.1<u.1∧u.1<x.1+x.2.size)
 | [],a,z,h,x,hx=>by cases hx
 | p::t,a,z,⟨h1,h2⟩,x,hx=>fun u hu hc=>by
   obtain⟨g1,g2⟩:=chain_ge t _ z h2
   rcases List.mem_cons.1 hx with rfl | hx
   ·rcases List.mem_cons.1 hu with rfl | hu
    ·omega
    ·have:=g2 u hu
     omega
   ·have hxx:=g2 x hx
    rcases List.mem_cons.1 hu with rfl | hu
    ·omega
    ·exact chain_not_in t _ z h2 x hx u hu hc
theorem chain_next:∀(L:List (Nat × ByteArray)) (a z:Nat),ChainP a L z→∀y∈L,(∃x∈L,x.1=y.1+y.2.size)∨y.1+y.2.size=z
 | [],a,z,h,y,hy=>by cases hy
 | p::t,a,z,⟨h1,h2⟩,y,hy=>by
   rcases List.mem_cons.1 hy with rfl | hy
   ·cases t with
    | nil=>exact .inr (by rw [h1];exact h2)
    | cons q r=>exact .inl ⟨q,List.mem_cons_of_mem _ (List.mem_cons_self ..),by rw [h2.1,h1]⟩
   ·rcases chain_next t _ z h2 y hy with ⟨x,hx,e⟩ | e
    ·exact .inl ⟨x,List.mem_cons_of_mem _ hx,e⟩
    ·exact .inr e
def BndP (L:List (Nat × ByteArray)) (z k:Nat):Prop:=(∃x∈L,x.1=k)∨k=z
theorem chain_pos:∀(L:List (Nat × ByteArray)) (a z:Nat),ChainP a L z→∀j,j≤L.length→BndP L z (a+(((L.map (·.2)).take j).map (·.size)).sum)
 | [],a,z,h,j,hj=>.inr (by simp;exact h)
 | p::t,a,z,⟨h1,h2⟩,0,hj=>.inl ⟨p,List.mem_cons_self ..,by simp [h1]⟩
 | p::t,a,z,⟨h1,h2⟩,j+1,hj=>by
   rw [List.map_cons,List.take_succ_cons,List.map_cons,List.sum_cons]
   have:=chain_pos t _ z h2 j (by simpa using hj)
   rw [Nat.add_assoc] at this
   rcases this with ⟨x,hx,e⟩ | e
   ·exact .inl ⟨x,List.mem_cons_of_mem _ hx,e⟩
   ·exact .inr e
theorem chain_pieces (s:ByteArray):∀(f a:Nat),a≤s.size→s.size-a≤f→ChainP a (piecesF s f a) s.size
 | 0,a,h,h2=>by
   rw [piecesF]
   show a=_
   omega
 | f+1,a,h,h2=>by
   rw [piecesF]
   split
   ·rename_i hlt
    have hz:=ext_size s a h
    have hn:=nextI_bd (s.extract a s.size) (by omega)
    have he:(s.extract a (a+nextI (s.extract a s.size))).size=nextI (s.extract a s.size):=by simp [ByteArray.size_extract];omega
    refine⟨rfl,?_⟩
    show ChainP (a+(s.extract a (a+nextI (s.extract a s.size))).size) _ _
    rw [he]
    exact chain_pieces s f _ (by omega) (by omega)
   ·show a=_
    omega
theorem piecesI_chain (s:ByteArray):ChainP 0 (piecesI s) s.size:=chain_pieces s s.size 0 (Nat.zero_le _) (by omega)
theorem ext_sz (s:ByteArray) (a e:Nat) (h1:a≤e) (h2:e≤s.size):(s.extract a e).size=e-a:=by simp [ByteArray.size_extract];omega
theorem chain_seg (s:ByteArray) (cs:List ByteArray) (hc:posI cs cs.length=s.size):∀(f i at':Nat),i≤cs.length→at'=posI cs i→cs.length≤i+f→ChainP at' (partsF s at' ((segOut cs f i at').map (·.1))) s.size∧∀e∈(segOut cs f i at').map (·.1),∃j,j≤cs.length∧e=posI cs j
 | 0,i,at',h,h2,h3=>by
   obtain rfl:i=cs.length:=by omega
   rw [segOut]
   exact⟨by show at'=_;omega,fun e he=>by cases he⟩
 | f+1,i,at',h,h2,h3=>by
   rw [segOut]
   split
   ·rename_i hlt
    have hs:=segIn_spec cs i cs.length (i+1) (at'+(clI cs i).size) (by omega) (by rw [posI_succ cs i hlt,h2])
    obtain⟨j,e,hr⟩:∃j e,segIn cs i cs.length (i+1) (at'+(clI cs i).size)=(j,e):=⟨_,_,rfl⟩
    rw [hr] at hs ⊢
    dsimp only at hs ⊢
    have m1:=posI_mono cs (j-i) i (by omega)
    have m2:=posI_mono cs (cs.length-j) j (by omega)
    rw [show i+(j-i)=j by omega] at m1
    rw [show j+(cs.length-j)=cs.length by omega] at m2
    obtain⟨k1,k2⟩:=chain_seg s cs hc f j e hs.2.1 hs.2.2 (by omega)
    rw [List.map_cons,partsF]
    refine⟨⟨rfl,?_⟩,fun x hx=>?_⟩
    ·show ChainP (at'+(s.extract at' e).size) _ _
     rw [ext_sz s at' e (by omega) (by omega),show at'+(e-at')=e by omega]
     exact k1
    ·rcases List.mem_cons.1 hx with rfl | hx
     ·exact⟨j,hs.2.1,hs.2.2⟩
     ·exact k2 x hx
   ·rename_i hlt
    obtain rfl:i=cs.length:=by omega
    exact⟨by show at'=_;omega,fun e he=>by cases he⟩
theorem words_chain (s:ByteArray):ChainP 0 (wordsI s) s.size∧∀e∈wendsI s,BndP (piecesI s) s.size e:=by
 obtain⟨h1,h2⟩:=chain_seg s (clsI s) (posI_all s) (clsI s).length 0 0 (Nat.zero_le _) rfl (by omega)
 refine⟨h1,fun e he=>?_⟩
 obtain⟨j,hj,rfl⟩:=h2 e he
 have:=chain_pos (piecesI s) 0 s.size (piecesI_chain s) j (by unfold clsI at hj;simpa using hj)
 rw [Nat.zero_add] at this
 exact this
theorem parts_end (s:ByteArray):∀(es:List Nat) (a:Nat),EndsUp s.size a es→∀x∈partsF s a es,(x.1=a∨x.1∈es)∧x.1+x.2.size∈es
 | [],a,_,x,hx=>by cases hx
 | e::t,a,⟨h1,h2,h3⟩,x,hx=>by
   rw [partsF] at hx
   rcases List.mem_cons.1 hx with rfl | hx
   ·refine⟨.inl rfl,?_⟩
    show a+(s.extract a e).size∈_
    rw [ext_sz s a e h1 h2,show a+(e-a)=e by omega]
    exact List.mem_cons_self ..
   ·obtain⟨k1,k2⟩:=parts_end s t e h3 x hx
    refine⟨.inr ?_,List.mem_cons_of_mem _ k2⟩
    rcases k1 with k1 | k1
    ·rw [k1];exact List.mem_cons_self ..
    ·exact List.mem_cons_of_mem _ k1
theorem chain_lines (s:ByteArray):∀(L:List (Nat × ByteArray)) (a fr:Nat),ChainP a L s.size→fr≤a→ChainP fr (lnF s L fr) s.size
 | [],a,fr,h,hf=>by
   have h:a=s.size:=h
   rw [lnF]
   refine⟨rfl,?_⟩
   show fr+(s.extract fr s.size).size=_
   rw [ext_sz s fr s.size (by omega) (Nat.le_refl _)]
   omega
 | p::t,a,fr,⟨h1,h2⟩,hf=>by
   have hz:=(chain_ge t _ _ h2).1
   rw [lnF]
   unfold outLn frLn
   by_cases hc:fr+65536<p.1+p.2.size
   ·have hfr:frN fr p=p.1:=by unfold frN;rw [if_pos hc]
    rw [if_pos hc,hfr]
    refine⟨rfl,?_⟩
    show ChainP (fr+(s.extract fr p.1).size) _ _
    rw [ext_sz s fr p.1 (by omega) (by omega),show fr+(p.1-fr)=p.1 by omega]
    by_cases hb:bkindI p.2=2
    ·rw [if_pos hb,if_pos hb]
     refine⟨rfl,?_⟩
     show ChainP (p.1+(s.extract p.1 (p.1+p.2.size)).size) _ _
     rw [ext_sz s p.1 (p.1+p.2.size) (by omega) (by omega),show p.1+(p.1+p.2.size-p.1)=p.1+p.2.size by omega]
     exact chain_lines s t _ _ (by rw [h1];exact h2) (Nat.le_refl _)
    ·rw [if_neg hb,if_neg hb]
     exact chain_lines s t _ _ h2 (by omega)
   ·have hfr:frN fr p=fr:=by unfold frN;rw [if_neg hc]
    rw [if_neg hc,hfr,List.nil_append]
    by_cases hb:bkindI p.2=2
    ·rw [if_pos hb,if_pos hb]
     refine⟨rfl,?_⟩
     show ChainP (fr+(s.extract fr (p.1+p.2.size)).size) _ _
     rw [ext_sz s fr (p.1+p.2.size) (by omega) (by omega),show fr+(p.1+p.2.size-fr)=p.1+p.2.size by omega]
     exact chain_lines s t _ _ (by rw [h1];exact h2) (Nat.le_refl _)
    ·rw [if_neg hb,if_neg hb]
     exact chain_lines s t _ _ h2 (by omega)
theorem whole_chain (s:ByteArray) (how:Int):ChainP 0 (wholeL s how) s.size:=by
 unfold wholeL
 split
 ·exact piecesI_chain s
 split
 ·exact (words_chain s).1
 split
 ·exact chain_lines s _ 0 0 (piecesI_chain s) (Nat.le_refl _)
 ·exact⟨rfl,Nat.zero_add _⟩
theorem growF_rest (lo en:Nat):∀(L:List (Nat × ByteArray)) (a z:Nat) (f:Int),ChainP a L z→lo<a→en≤z→∃e:Nat,growF lo en L f a=(f,(e:Int))∧((en≤a∧e=a)∨∃y∈L,e=y.1+y.2.size∧y.1<en∧en≤e)
 | [],a,z,f,h,h1,h2=>⟨a,rfl,.inl ⟨by have h:a=z:=h;omega,rfl⟩⟩
 | p::t,a,z,f,⟨h3,h4⟩,h1,h2=>by
   rw [growF,if_neg (by omega)]
   by_cases he:(en:Int)≤(p.1:Int)
   ·rw [if_pos he]
    exact⟨a,rfl,.inl ⟨by omega,rfl⟩⟩
   ·rw [if_neg he,if_neg (by omega)]
    have:=growF_rest lo en t (a+p.2.size) z f h4 (by omega) h2
    rw [Int.natCast_add,←h3] at this
    obtain⟨e,e1,e2⟩:=this
    refine⟨e,e1,.inr ?_⟩
    rcases e2 with ⟨e3,e4⟩ | ⟨y,hy,e3⟩
    ·exact⟨p,List.mem_cons_self ..,e4,by omega,by omega⟩
    ·exact⟨y,List.mem_cons_of_mem _ hy,e3⟩
theorem growF_found (lo en:Nat):∀(L:List (Nat × ByteArray)) (a z:Nat) (f t:Int),ChainP a L z→a≤lo→lo<z→lo<en→en≤z →
 ∃x∈L,∃y∈L,growF lo en L f t=((x.1:Int),((y.1+y.2.size:Nat):Int))∧x.1≤lo∧lo<x.1+x.2.size∧y.1<en∧en≤y.1+y.2.size
 | [],a,z,f,t,h,h1,h2,h3,h4=>by have h:a=z:=h;omega
 | p::r,a,z,f,t,⟨h5,h6⟩,h1,h2,h3,h4=>by
   rw [growF]
   by_cases hs:(p.1:Int)+(p.2.size:Int)≤(lo:Int)
   ·rw [if_pos hs]
    obtain⟨x,hx,y,hy,k⟩:=growF_found lo en r _ z f t h6 (by omega) h2 h3 h4
    exact⟨x,List.mem_cons_of_mem _ hx,y,List.mem_cons_of_mem _ hy,k⟩
   ·rw [if_neg hs,if_neg (by omega),if_pos (by omega)]
    have:=growF_rest lo en r (a+p.2.size) z p.1 h6 (by omega) h4
    rw [Int.natCast_add,←h5] at this
    obtain⟨e,e1,e2⟩:=this
    rcases e2 with ⟨e3,e4⟩ | ⟨y,hy,e3,e4,e5⟩
    ·exact⟨p,List.mem_cons_self ..,p,List.mem_cons_self ..,by rw [e1,e4],by omega,by omega,by omega,by omega⟩
    ·exact⟨p,List.mem_cons_self ..,y,List.mem_cons_of_mem _ hy,by rw [e1,e3],by omega,by omega,e4,by omega⟩
theorem chain_same (L:List (Nat × ByteArray)) (a z k:Nat) (h:ChainP a L z) (x u:Nat × ByteArray) (hx:x∈L) (hu:u∈L) (h1:x.1≤k) (h2:k<x.1+x.2.size) (h3:u.1≤k) (h4:k<u.1+u.2.size):x.1=u.1∧x.1+x.2.size=u.1+u.2.size:=by
 have g1:=chain_not_in L a z h x hx u hu
 have g2:=chain_not_in L a z h u hu x hx
 have e:x.1=u.1:=by omega
 refine⟨e,?_⟩
 rcases chain_next L a z h x hx with ⟨q,hq,eq⟩ | eq
 ·rcases chain_next L a z h u hu with ⟨r,hr,er⟩ | er
  ·have g3:=chain_not_in L a z h u hu q hq
   have g4:=chain_not_in L a z h x hx r hr
   omega
  ·have g3:=chain_not_in L a z h u hu q hq
   have:=(chain_ge L a z h).2 x hx
   omega
 ·have:=(chain_ge L a z h).2 u hu
  rcases chain_next L a z h u hu with ⟨r,hr,er⟩ | er
  ·have g4:=chain_not_in L a z h x hx r hr
   omega
  ·omega
theorem grow_at (s:ByteArray) (f t how:Int) (h1:0≤how) (h2:how≤3) (hlo:loI f t s.size<s.size):∃x∈wholeL s how,∃y∈wholeL s how,growI s f t how=((x.1:Int),((y.1+y.2.size:Nat):Int)) ∧
 (x.1:Int)≤loI f t s.size∧loI f t s.size<((x.1+x.2.size:Nat):Int)∧(y.1:Int)<max (hiI f t s.size) (loI f t s.size+1)∧max (hiI f t s.size) (loI f t s.size+1)≤((y.1+y.2.size:Nat):Int):=by
 obtain⟨l1,l2,l3⟩:=lohi f t s.size (by omega)
 obtain⟨lo,hl⟩:∃lo:Nat,loI f t s.size=lo:=⟨_,(Int.toNat_of_nonneg l1).symm⟩
 obtain⟨en,he⟩:∃en:Nat,max (hiI f t s.size) (loI f t s.size+1)=en:=⟨(max (hiI f t s.size) (loI f t s.size+1)).toNat,by omega⟩
 unfold growI
 rw [if_neg (by omega),he,hl]
 obtain⟨x,hx,y,hy,k1,k2,k3,k4,k5⟩:=growF_found lo en (wholeL s how) 0 s.size f t (whole_chain s how) (Nat.zero_le _) (by omega) (by omega) (by omega)
 exact⟨x,hx,y,hy,k1,by omega,by omega,by omega,by omega⟩
theorem grow_holds (s:ByteArray) (f t how:Int):(growI s f t how).1≤loI f t s.size∧hiI f t s.size≤(growI s f t how).2∧0≤(growI s f t how).1∧(growI s f t how).2≤(s.size:Int)∧(growI s f t how).1≤(growI s f t how).2 ∧
 ((how<0∨3<how)→(growI s f t how).1=loI f t s.size∧(growI s f t how).2=hiI f t s.size)∧growI s (growI s f t how).1 (growI s f t how).2 how=growI s f t how:=by
 obtain⟨l1,l2,l3⟩:=lohi f t s.size (by omega)
 have hlh:∀c d:Int,0≤c→c≤d→d≤(s.size:Int)→loI c d s.size=c∧hiI c d s.size=d:=fun c d g1 g2 g3=>by unfold loI hiI;omega
 by_cases hw:how<0∨3<how
 ·have e:growI s f t how=(loI f t s.size,hiI f t s.size):=by unfold growI;rw [if_pos (.inl hw)]
  rw [e]
  refine⟨Int.le_refl _,Int.le_refl _,l1,l3,l2,fun _=>⟨rfl,rfl⟩,?_⟩
  obtain⟨g1,g2⟩:=hlh _ _ l1 l2 l3
  show growI s (loI f t s.size) (hiI f t s.size) how=_
  unfold growI
  rw [if_pos (.inl hw),g1,g2]
 ·by_cases hn:loI f t s.size=s.size
  ·have e:growI s f t how=(loI f t s.size,hiI f t s.size):=by unfold growI;rw [if_pos (.inr hn)]
   rw [e]
   refine⟨Int.le_refl _,Int.le_refl _,l1,l3,l2,fun h=>absurd h hw,?_⟩
   obtain⟨g1,g2⟩:=hlh _ _ l1 l2 l3
   show growI s (loI f t s.size) (hiI f t s.size) how=_
   unfold growI
   rw [if_pos (.inr (by rw [g1];exact hn)),g1,g2]
  ·obtain⟨x,hx,y,hy,k1,k2,k3,k4,k5⟩:=grow_at s f t how (by omega) (by omega) (by omega)
   have hc:=whole_chain s how
   have hyz:=(chain_ge _ _ _ hc).2 y hy
   have hxz:=(chain_ge _ _ _ hc).2 x hx
   rw [k1]
   have q1:(x.1:Int)≤((y.1+y.2.size:Nat):Int):=by omega
   obtain⟨g1,g2⟩:=hlh (x.1:Int) ((y.1+y.2.size:Nat):Int) (by omega) q1 (by omega)
   refine⟨k2,by show _≤((y.1+y.2.size:Nat):Int);omega,by show (0:Int)≤(x.1:Int);omega,by show ((y.1+y.2.size:Nat):Int)≤_;omega,q1,fun h=>absurd h hw,?_⟩
   show growI s (x.1:Int) ((y.1+y.2.size:Nat):Int) how=_
   obtain⟨x',hx',y',hy',j1,j2,j3,j4,j5⟩:=grow_at s (x.1:Int) ((y.1+y.2.size:Nat):Int) how (by omega) (by omega) (by omega)
   rw [g1] at j2 j3 j4 j5
   rw [g2] at j4 j5
   rw [j1]
   have e1:=chain_same _ 0 s.size x.1 hc x' x hx' hx (by omega) (by omega) (Nat.le_refl _) (by omega)
   have e2:=chain_same _ 0 s.size (y.1+y.2.size-1) hc y' y hy' hy (by omega) (by omega) (by omega) (by omega)
   rw [e1.1,e2.2]
def isF (n at':Int):List (Nat × ByteArray)→Bool
 | []=>decide (at'=n)
 | p::t=>if at'≤(p.1:Int) then decide ((p.1:Int)=at') else isF n at' t
def isI (s:ByteArray) (at':Int):Bool:=isF s.size at' (piecesI s)
theorem isF_bnd (z k:Nat):∀(L:List (Nat × ByteArray)) (a:Nat),ChainP a L z→a≤k→BndP L z k→isF z k L=true
 | [],a,h,h1,hb=>by
   rw [isF]
   rcases hb with ⟨x,hx,_⟩ | e
   ·cases hx
   ·exact decide_eq_true (by omega)
 | p::t,a,⟨h3,h4⟩,h1,hb=>by
   rw [isF]
   by_cases hk:(k:Int)≤(p.1:Int)
   ·rw [if_pos hk]
    exact decide_eq_true (by omega)
   ·rw [if_neg hk]
    have hz:=chain_ge t _ z h4
    have hb':BndP t z k:=by
     rcases hb with ⟨x,hx,e⟩ | e
     ·rcases List.mem_cons.1 hx with rfl | hx
      ·omega
      ·exact .inl ⟨x,hx,e⟩
     ·exact .inr e
    refine isF_bnd z k t _ h4 ?_ hb'
    rcases hb' with ⟨x,hx,e⟩ | e
    ·have:=hz.2 x hx
     omega
    ·omega
theorem isI_bnd (s:ByteArray) (k:Nat) (h:BndP (piecesI s) s.size k):isI s k=true:=isF_bnd s.size k _ 0 (piecesI_chain s) (Nat.zero_le _) h
theorem bnd_next (s:ByteArray) (y:Nat × ByteArray) (hy:y∈piecesI s):BndP (piecesI s) s.size (y.1+y.2.size):=chain_next _ 0 _ (piecesI_chain s) y hy
theorem grow_levels (s:ByteArray) (f t:Int):isI s (growI s f t 0).1=true∧isI s (growI s f t 0).2=true∧(growI s f t 1).1≤(growI s f t 0).1∧(growI s f t 0).2≤(growI s f t 1).2 ∧
 (loI f t s.size=s.size→(growI s f t 3).1=s.size∧(growI s f t 3).2=s.size)∧(loI f t s.size<s.size→(growI s f t 3).1=0∧(growI s f t 3).2=s.size∧(growI s f t 0).1<(growI s f t 0).2):=by
 obtain⟨l1,l2,l3⟩:=lohi f t s.size (by omega)
 by_cases hn:loI f t s.size=s.size
 ·have e:∀how,growI s f t how=(loI f t s.size,hiI f t s.size):=fun how=>by unfold growI;rw [if_pos (.inr hn)]
  have hh:hiI f t s.size=s.size:=by omega
  rw [e,e,e,hn,hh]
  have hz:=isI_bnd s s.size (.inr rfl)
  exact⟨hz,hz,Int.le_refl _,Int.le_refl _,fun _=>⟨rfl,rfl⟩,fun h=>absurd h (by omega)⟩
 ·obtain⟨x,hx,y,hy,k1,k2,k3,k4,k5⟩:=grow_at s f t 0 (by omega) (by omega) (by omega)
  obtain⟨u,hu,v,hv,j1,j2,j3,j4,j5⟩:=grow_at s f t 1 (by omega) (by omega) (by omega)
  obtain⟨p,hp,q,hq,i1,i2,i3,i4,i5⟩:=grow_at s f t 3 (by omega) (by omega) (by omega)
  have hx:x∈piecesI s:=hx
  have hy:y∈piecesI s:=hy
  have hu:u∈wordsI s:=hu
  have hv:v∈wordsI s:=hv
  have hp:p∈[(0,s)]:=hp
  have hq:q∈[(0,s)]:=hq
  have hc:=piecesI_chain s
  obtain⟨hw1,hw2⟩:=words_chain s
  obtain⟨m1,_⟩:=parts_end s (wendsI s) 0 (wends_up s) u hu
  obtain⟨_,m2⟩:=parts_end s (wendsI s) 0 (wends_up s) v hv
  have hyz:=(chain_ge _ _ _ hc).2 y hy
  have hub:¬ (x.1<u.1):=fun hlt=>by
   rcases m1 with m1 | m1
   ·omega
   ·rcases hw2 _ m1 with ⟨r,hr,e⟩ | e
    ·exact chain_not_in _ _ _ hc x hx r hr (by omega)
    ·omega
  have hvb:¬ (v.1+v.2.size<y.1+y.2.size):=fun hlt=>by
   rcases hw2 _ m2 with ⟨r,hr,e⟩ | e
   ·exact chain_not_in _ _ _ hc y hy r hr (by omega)
   ·omega
  obtain rfl:=List.mem_singleton.1 hp
  obtain rfl:=List.mem_singleton.1 hq
  rw [k1,j1,i1]
  refine⟨isI_bnd s _ (.inl ⟨x,hx,rfl⟩),isI_bnd s _ (bnd_next s y hy),by show (u.1:Int)≤(x.1:Int);omega,by show ((y.1+y.2.size:Nat):Int)≤((v.1+v.2.size:Nat):Int);omega,fun h=>absurd h hn,fun _=>⟨rfl,by show ((0+s.size:Nat):Int)=_;omega,by show (x.1:Int)<((y.1+y.2.size:Nat):Int);omega⟩⟩
theorem grow_lines (s:ByteArray) (f t:Int) (h:(growI s f t 2).1≠s.size):(∃x∈linesI s,(x.1:Int)=(growI s f t 2).1)∧(∃y∈linesI s,(y.1:Int)+(y.2.size:Int)=(growI s f t 2).2)∧(growI s f t 2).1<(growI s f t 2).2:=by
 obtain⟨l1,l2,l3⟩:=lohi f t s.size (by omega)
 by_cases hn:loI f t s.size=s.size
 ·have e:growI s f t 2=(loI f t s.size,hiI f t s.size):=by unfold growI;rw [if_pos (.inr hn)]
  rw [e] at h
  exact absurd hn h
 ·obtain⟨x,hx,y,hy,k1,k2,k3,k4,k5⟩:=grow_at s f t 2 (by omega) (by omega) (by omega)
  rw [k1]
  exact⟨⟨x,hx,rfl⟩,⟨y,hy,by show _=((y.1+y.2.size:Nat):Int);omega⟩,by show (x.1:Int)<((y.1+y.2.size:Nat):Int);omega⟩
theorem grow_end (s:ByteArray) (f t:Int) (h:(growI s f t 2).1=s.size):(growI s f t 2).2=(growI s f t 2).1:=by
 have:=grow_holds s f t 2
 omega
end
section
open Go.RowKit Go.Proofs Go.Shelf
attribute [local go_sem] Oper.semAt_some
theorem out_ends {w:World} {t base:Nat} {a:Option Addr} {c:Nat} {es:List Nat} (h:OutAt .i64 t w base a c (es.map fun e:Nat=>(e:Int))):es≠[]→∃G,a=some ⟨G,0,none⟩∧base≤G∧G<w.heap.size∧EndsAt w G es:=fun hne=>by
 unfold OutAt at h
 obtain⟨a',cap,hv,hr⟩:=row_read h
 rw [List.length_map] at hv
 cases hv
 have h0:0<es.length:=List.length_pos_iff.2 hne
 obtain⟨G,e1,e2,e3,cur,e4,e5⟩:=hr (by rw [List.length_map];exact h0)
 refine⟨G,e1,e2,e3,cur,_,_,e4,fun i e he=>e5 i _ ?_⟩
 rw [List.getElem?_map,List.getElem?_map,he]
 rfl
set_option maxRecDepth 100000 in
theorem wAll_any (s:ByteArray) (w:World) (hT:T8 w) (hs:s.size≤2097152) :
 Calls Tryz.prog 71 #[.string s] w fun e w'=>∃(E S:Nat) (a:Option Addr) (c:Nat),e=.returned (.func (.func 98) #[] #[.pointer (some ⟨E,0,none⟩),.pointer (some ⟨S,0,none⟩)]) ∧
  Boxed w' E 56 (.slice a (wendsI s).length c)∧Boxed w' S 9 (.string s)∧w.heap.size≤E∧w.heap.size≤S∧(wendsI s≠[]→∃G,a=some ⟨G,0,none⟩∧w.heap.size≤G∧EndsAt w' G (wendsI s))∧Below w.heap.size w w':=by
 have hmf:∀(fn:Fn) (first cap:Array Value) (w:World),(Instr.makeFunc fn first cap).run Tryz.prog w=.ok (.func fn first cap) w:=fun _ _ _ _=>rfl
 have HT:=lh hT
 clear hT
 have hb1:Below w.heap.size w (w.alloc (.cells #[.string s] 9)):=(Below.refl _ _).alloc (Nat.le_refl _) _
 have hx1:Boxed (w.alloc (.cells #[.string s] 9)) w.heap.size 9 (.string s):=Boxed.new w _ _
 have hz1:(w.alloc (.cells #[.string s] 9)).heap.size=w.heap.size+1:=World.size_alloc _ _
 have HS:=lh (segs_any s (w.alloc (.cells #[.string s] 9)) (HT.out.below rfl hb1) hs)
 go_enter Tryz.func71,Tryz.ntmps71
 go_upto_region 1 with (fail)
 generalize w.alloc (.cells #[.string s] 9)=W1 at hb1 hx1 hz1 HS ⊢
 have c1:=hx1.cell
 have HX:=lh hx1
 have HB:=lh hb1
 clear hx1 hb1 HT
 go_wp2_with (go_at_call 97;refine HS.out.mono ?_;rintro e w2 ⟨a,c,x,rfl,hO,hb2⟩)
 go_ret
 have hx2:Boxed w2 w.heap.size 9 (.string s):=(hb2.block w.heap.size (by omega)).trans HX.out
 have hb3:Below w2.heap.size w2 (w2.alloc (.cells #[.slice a (wendsI s).length c] 56)):=(Below.refl _ _).alloc (Nat.le_refl _) _
 have hz2:=hb2.size
 refine⟨w2.heap.size,w.heap.size,a,c,rfl,World.alloc_heap_new w2 _,(hb3.block _ (by omega)).trans hx2,by omega,Nat.le_refl _,fun hne=>?_,(HB.out.trans (hb2.mono (by omega))).trans (hb3.mono (by omega))⟩
 obtain⟨G,e1,e2,e3,cur,t,f,e4,e5⟩:=out_ends hO hne
 exact⟨G,e1,by omega,cur,t,f,(hb3.block G e3).trans e4,e5⟩
theorem Lines_any (s:ByteArray) (w:World) :
 Calls Tryz.prog 29 #[.string s] w fun e w'=>e=.returned (.func (.func 46) #[] #[.pointer (some ⟨w.heap.size,0,none⟩)])∧w'=w.alloc (.cells #[.string s] 9):=by
 have hmf:∀(fn:Fn) (first cap:Array Value) (w:World),(Instr.makeFunc fn first cap).run Tryz.prog w=.ok (.func fn first cap) w:=fun _ _ _ _=>rfl
 go_enter Tryz.func29,Tryz.ntmps29
 go_wp2_with (fail)
 go_ret
 exact⟨rfl,rfl⟩
theorem All2_any (s:ByteArray) (w:World) (z:Nat) (hz:w.heap.size=z) :
 Calls Tryz.prog 16 #[.string s] w fun e w'=>e=.returned (.func (.func 54) #[] #[.pointer (some ⟨z,0,none⟩)])∧Boxed w' z 9 (.string s)∧Below w.heap.size w w':=by
 refine (All_any s w).mono ?_
 rintro e w' ⟨rfl,rfl⟩
 subst hz
 exact⟨rfl,Boxed.new w _ _,(Below.refl _ _).alloc (Nat.le_refl _) _⟩
theorem Lines2_any (s:ByteArray) (w:World) (z:Nat) (hz:w.heap.size=z) :
 Calls Tryz.prog 29 #[.string s] w fun e w'=>e=.returned (.func (.func 46) #[] #[.pointer (some ⟨z,0,none⟩)])∧Boxed w' z 9 (.string s)∧Below w.heap.size w w':=by
 refine (Lines_any s w).mono ?_
 rintro e w' ⟨rfl,rfl⟩
 subst hz
 exact⟨rfl,Boxed.new w _ _,(Below.refl _ _).alloc (Nat.le_refl _) _⟩
def ItPack (s:ByteArray) (L:List (Nat × ByteArray)) (n₀ z:Nat) (gf:Nat) (lb:Array Value) (w:World):Prop :=
 (∀args w,(callFunc gf args).run Tryz.prog w=.ok (.enter gf args) w)∧∃(m:Nat) (Kp:World→World→Prop),SeqStopsC m Tryz.prog gf lb (fun x:PieceOf s=>encP x.1) Kp (fun xs=>xs.map (·.1)=L) (fun pre=>pre.map (·.1) <+: L) w ∧
   (∀{A B C:World},Kp A B→Kp B C→Kp A C)∧(∀(W:World) (l:Nat) (o o':Obj),w.heap.size≤l→W.heap[l]? = some o→o.isCells=false→o.isWalk=false→Kp W (W.putObj l o')) ∧
   (∀(W:World),Kp W W)∧(∀(W:World) (k:Nat) (v:Value),n₀≤k→k<z→Kp W (W.setCell ⟨k,0,none⟩ v))
theorem pack_pieces (s:ByteArray) (hs:s.size≤2097152) (B n₀ z:Nat) (w:World) (h3:Tryz.lays197_ren.g 3<n₀) (h4:Tryz.lays197_ren.g 4<n₀) (hz:z≤B) (hn:n₀≤w.heap.size) (hT:T8 w) (hB:Boxed w B 9 (.string s)) :
 ItPack s (piecesI s) n₀ z 54 #[.pointer (some ⟨B,0,none⟩)] w :=
 ⟨enters_of Tryz.func54 (by kernel_rfl) rfl,0,KpB B n₀,pieces_stopsC B n₀ s (by omega) h3 h4 w hn hB.cell hT,fun h k=>KpB.trans h k,kpB_put (w:=w) hn,fun W=>⟨Below.refl _ _,fun v h=>h⟩,
   fun W k v h1 h2=>⟨(Below.refl _ _).setCell (p:=⟨k,0,none⟩) h1 v,fun u hu=>by
    rw [←hu]
    exact World.cell?_setCell_far _ _ _ _ (by show k≠B;omega)⟩⟩
theorem pack_words (s:ByteArray) (hs:s.size≤2097152) (E S n₀ z:Nat) (a:Option Addr) (c:Nat) (w:World) (hzE:z≤E) (hzS:z≤S) (hn:n₀≤w.heap.size) (hE:Boxed w E 56 (.slice a (wendsI s).length c)) (hS:Boxed w S 9 (.string s))
 (hG:wendsI s≠[]→∃G,a=some ⟨G,0,none⟩∧z≤G∧EndsAt w G (wendsI s)) :
 ItPack s (wordsI s) n₀ z 98 #[.pointer (some ⟨E,0,none⟩),.pointer (some ⟨S,0,none⟩)] w:=by
 obtain⟨G,g1,g2,g3⟩:∃G,(wendsI s≠[]→a=some ⟨G,0,none⟩)∧z≤G∧(wendsI s≠[]→EndsAt w G (wendsI s)):=by
  by_cases h:wendsI s=[]
  ·exact⟨z,fun h'=>absurd h h',Nat.le_refl _,fun h'=>absurd h h'⟩
  ·obtain⟨G,e1,e2,e3⟩:=hG h
   exact⟨G,fun _=>e1,e2,fun _=>e3⟩
 have hl:=wends_len s
 refine⟨enters_of Tryz.func98 (by kernel_rfl) rfl,0,KpL [E,S,G] n₀,words_stopsC E S G n₀ s (wendsI s) a c hs (wends_up s) (by omega) g1 w hn hE hS g3,fun h k=>KpL.trans h k,kpL_put (w:=w) hn,fun W=>⟨Below.refl _ _,fun b hb o ho hc=>ho⟩,
  fun W k v h1 h2=>⟨(Below.refl _ _).setCell (p:=⟨k,0,none⟩) h1 v,fun b hb o ho hc=>?_⟩⟩
 have hbk:b≠k:=fun e=>by
  simp only [List.mem_cons,List.not_mem_nil,or_false] at hb
  rcases hb with h | h | h <;> omega
 exact ((grownBy_setCell' W k v).block b (Array.getElem?_eq_some_iff.1 ho).1 (fun e=>by cases e;exact hbk rfl)).trans ho
theorem pack_all (s:ByteArray) (S n₀ z:Nat) (w:World) (hzS:z≤S) (hn:n₀≤w.heap.size) (hS:Boxed w S 9 (.string s)):ItPack s [(0,s)] n₀ z 72 #[.pointer (some ⟨S,0,none⟩)] w:=by
 refine⟨enters_of Tryz.func72 (by kernel_rfl) rfl,0,KpL [S] n₀,whole_stopsC S n₀ s w hn hS,fun h k=>KpL.trans h k,kpL_put (w:=w) hn,fun W=>⟨Below.refl _ _,fun b hb o ho hc=>ho⟩,fun W k v h1 h2=>⟨(Below.refl _ _).setCell (p:=⟨k,0,none⟩) h1 v,fun b hb o ho hc=>?_⟩⟩
 have hbk:b≠k:=fun e=>by
  simp only [List.mem_cons,List.not_mem_nil,or_false] at hb
  omega
 exact ((grownBy_setCell' W k v).block b (Array.getElem?_eq_some_iff.1 ho).1 (fun e=>by cases e;exact hbk rfl)).trans ho
theorem pack_lines (s:ByteArray) (hs:s.size≤2097152) (B n₀ z:Nat) (w:World) (h3:Tryz.lays197_ren.g 3<n₀) (h4:Tryz.lays197_ren.g 4<n₀) (hz:z≤B) (hn:n₀≤w.heap.size) (hzw:z≤w.heap.size) (hT:T8 w) (hB:Boxed w B 9 (.string s)) :
 ItPack s (linesI s) n₀ z 46 #[.pointer (some ⟨B,0,none⟩)] w :=
 ⟨enters_of Tryz.func46 (by kernel_rfl) rfl,2,KpX (fun b _=>b<z) n₀,lines_stopsC B n₀ (fun b _=>b<z) s hs h3 h4 w hn hB hT (by omega) (fun b t hb _=>by omega),fun h k=>KpX.trans h k,kpX_put (w:=w) hn,fun W=>⟨Below.refl _ _,fun b cs t f hb ho=>ho⟩,
   fun W k v h1 h2=>⟨(Below.refl _ _).setCell (p:=⟨k,0,none⟩) h1 v,fun b cs t f hb ho=>by
    have hbk:b≠k:=fun e=>hb (by omega)
    exact ((grownBy_setCell' W k v).block b (Array.getElem?_eq_some_iff.1 ho).1 (fun e=>by cases e;exact hbk rfl)).trans ho⟩⟩
set_option maxRecDepth 100000 in
set_option maxHeartbeats 1000000 in
theorem wholes_any (s:ByteArray) (hs:s.size≤2097152) (how:Int) (n₀:Nat) (w:World) (h3:Tryz.lays197_ren.g 3<n₀) (h4:Tryz.lays197_ren.g 4<n₀) (hn:n₀≤w.heap.size) (hT:T8 w) :
 Calls Tryz.prog 45 #[.string s,.int .i8 how] w fun e w'=>Below w.heap.size w w'∧(((how<0∨3<how)∧e=.returned .nilFunc) ∨
  (¬ (how<0∨3<how)∧∃gf lb,e=.returned (.func (.func gf) #[] lb)∧ItPack s (wholeL s how) n₀ w.heap.size gf lb w')):=by
 have hmf:∀(fn:Fn) (first cap:Array Value) (w:World),(Instr.makeFunc fn first cap).run Tryz.prog w=.ok (.func fn first cap) w:=fun _ _ _ _=>rfl
 have hb1:Below w.heap.size w (w.alloc (.cells #[.string s] 9)):=(Below.refl _ _).alloc (Nat.le_refl _) _
 have hx1:Boxed (w.alloc (.cells #[.string s] 9)) w.heap.size 9 (.string s):=Boxed.new w _ _
 have hz1:(w.alloc (.cells #[.string s] 9)).heap.size=w.heap.size+1:=World.size_alloc _ _
 have hT1:=hT.below rfl hb1
 go_enter Tryz.func45,Tryz.ntmps45
 go_upto_region 1 with (fail)
 generalize w.alloc (.cells #[.string s] 9)=W1 at hb1 hx1 hz1 hT1 ⊢
 have c1:=hx1.cell
 have HX:=lh hx1
 have HB:=lh hb1
 have HT:=lh hT1
 have hzz:=hb1.size
 clear hx1 hb1 hT hT1
 by_cases h0:how=0
 ·subst h0
  go_wp2_with (go_at_call 16;refine (All2_any s W1 _ hz1).mono ?_;rintro e w2 ⟨rfl,hx2,hb2⟩)
  go_ret
  refine⟨HB.out.trans (hb2.mono hzz),.inr ⟨by omega,_,_,rfl,?_⟩⟩
  exact pack_pieces s hs (w.heap.size+1) n₀ w.heap.size w2 h3 h4 (by omega) (by have:=hb2.size;omega) (HT.out.below rfl hb2) hx2
 ·by_cases h1:how=1
  ·subst h1
   go_wp2_with (go_at_call 71;refine (wAll_any s W1 HT.out hs).mono ?_;rintro e w2 ⟨E,S,a,c,rfl,hE,hS,hzE,hzS,hG,hb2⟩)
   go_ret
   refine⟨HB.out.trans (hb2.mono hzz),.inr ⟨by omega,_,_,rfl,?_⟩⟩
   exact pack_words s hs E S n₀ w.heap.size a c w2 (by omega) (by omega) (by have:=hb2.size;omega) hE hS (fun hne=>by
    obtain⟨G,e1,e2,e3⟩:=hG hne
    exact⟨G,e1,by omega,e3⟩)
  ·by_cases h2:how=2
   ·subst h2
    go_wp2_with (go_at_call 29;refine (Lines2_any s W1 _ hz1).mono ?_;rintro e w2 ⟨rfl,hx2,hb2⟩)
    go_ret
    refine⟨HB.out.trans (hb2.mono hzz),.inr ⟨by omega,_,_,rfl,?_⟩⟩
    exact pack_lines s hs (w.heap.size+1) n₀ w.heap.size w2 h3 h4 (by omega) (by have:=hb2.size;omega) (by have:=hb2.size;omega) (HT.out.below rfl hb2) hx2
   ·by_cases h3':how=3
    ·subst h3'
     go_wp2_with (fail)
     go_ret
     refine⟨HB.out,.inr ⟨by omega,_,_,rfl,?_⟩⟩
     exact pack_all s w.heap.size n₀ w.heap.size W1 (Nat.le_refl _) (by omega) HX.out
    ·have d0:decide (how=0)=false:=decide_eq_false h0
     have d1:decide (how=1)=false:=decide_eq_false h1
     have d2:decide (how=2)=false:=decide_eq_false h2
     have d3:decide (how=3)=false:=decide_eq_false h3'
     go_wp2_with (fail)
     go_ret
     exact⟨HB.out,.inl ⟨by omega,rfl⟩⟩
end
section
open Go.RowKit Go.Proofs Go.Shelf
theorem iter_own {k:IntKind} {e base cap:Nat} {w:World} {ao:Option Addr} {out:List Int} (h:OutAt k e w base ao cap out) {B:Nat} {s:ByteArray} {pos:Nat} (hB:B<base) (pos':Nat) (hs:w.heap[B]? = some (.stringIter s pos)):OutAt k e (w.iterAt B s pos') base ao cap out:=by
 refine⟨h.1,?_⟩
 rcases h.2 with hn | ⟨g,c,cur,h1,h2,h3,h4⟩
 ·exact .inl hn
 ·exact .inr ⟨g,c,cur,h1,h2,(Lib.iterAt_other w B g s pos' (by omega)).trans h3,h4⟩
theorem bad_step (s:ByteArray) (pos:Nat) (h:pos<s.size):badF s (s.size-pos) pos=((decide (((Utf8.decode s pos).1:Int)=65533)&&decide ((Utf8.decode s pos).2=1))||badF s (s.size-(pos+(Utf8.decode s pos).2)) (pos+(Utf8.decode s pos).2)):=by
 obtain⟨k,hk⟩:∃k,s.size-pos=k+1:=⟨s.size-pos-1,by omega⟩
 have hp:=Lib.decode_width_pos s pos h
 rw [hk,badF,if_pos h]
 congr 1
 exact badF_fuel s _ _ _ (by omega) (by omega)
set_option maxRecDepth 100000 in
set_option maxHeartbeats 1000000 in
theorem Bad_any (s:ByteArray) (hs:s.size≤2097152) (w:World) (hT:T8 w) :
 Calls Tryz.prog 80 #[.string s] w fun e w'=>∃a n c,e=.returned (.slice a n c)∧(n=0↔badI s=false)∧Below w.heap.size w w':=by
 obtain⟨i0,hi0,hz0,hz1,hz2⟩:=info_parts (Tryz.info_int)
 go_enter Tryz.func80,Tryz.ntmps80
 go_wp2_with (fail)
 refine wp_scope_straight ?_
 go_wp2_with (fail)
 refine wp_label ?_
 go_wp2_with (fail)
 obtain⟨B0,hB0⟩:∃B0,w.heap.size=B0:=⟨_,rfl⟩
 have hx0:(w.iter s 0).heap[B0]? = some (.stringIter s 0):=by rw [←hB0];exact World.iter_heap w s 0
 have hb0:Below B0 w (w.iter s 0):=by rw [←hB0];exact (Below.refl _ _).alloc (Nat.le_refl _) _
 generalize w.iter s 0=W0 at hx0 hb0 ⊢
 rw [hB0]
 go_loopw [3,4,5,6,7,14] (fun u3 _ _ _ _ _ wx=>∃(pos:Nat) (out:List Int) (a:Option Addr) (c:Nat),pos≤s.size∧out.length≤pos∧u3=.slice a out.length c∧wx.heap[B0]? = some (.stringIter s pos)∧OutAt .i64 3 wx (B0+1) a c out∧Below B0 w wx ∧
  ((out=[]∧badF s (s.size-pos) pos=badI s)∨(out≠[]∧badI s=true))) (fun _ _ _ _ _ _ wx=>s.size-wx.iterPos B0)
 case atStart=>exact⟨0,[],none,0,by omega,by simp,rfl,hx0,World.ownsRow_nil _ _ _ _,hb0,.inl ⟨rfl,by rw [Nat.sub_zero];rfl⟩⟩
 case round =>
  obtain⟨pos,out,a,c,hp,hol,rfl,hit,hO,hbel,hbad⟩:=hrel
  have hip:wr.iterPos B0=pos:=by simp [World.iterPos,hit]
  clear hx0 hb0
  by_cases hlt:pos<s.size
  ·have hnx:=fun ty=>Lib.run_next_any_at (P:=Tryz.prog) wr B0 s pos ty hit hlt
   have hstep:=bad_step s pos hlt
   have hdp:=Lib.decode_width_pos s pos hlt
   have hdg:Lib.decodeGo (s.extract pos s.size)=Utf8.decode s pos:=by
    rw [←dec_go _ (by rw [ext_size s pos hp];omega),dec_ext s pos 0 hp,Nat.add_zero]
   have hdl:pos+(Utf8.decode s pos).2≤s.size:=by
    have h1:=decN_le (s.extract pos s.size)
    unfold decN at h1
    rw [hdg,ext_size s pos hp] at h1
    omega
   have hO1:=iter_own hO (by omega) (pos+(Utf8.decode s pos).2) hit
   have hx1:=Lib.iterAt_heap wr B0 s pos (pos+(Utf8.decode s pos).2) hit
   have hb1:=Lib.below_iterAt hbel (Nat.le_refl B0) s (pos+(Utf8.decode s pos).2)
   have hT1:=hT.below hB0.symm hb1
   have HDE:Hid (∀W,T8 W→Calls Tryz.prog 61 #[.string (s.extract pos s.size)] W fun e w'=>e=.returned (.tuple #[.int .i32 (Utf8.decode s pos).1,.int .i64 (Utf8.decode s pos).2])∧Below W.heap.size W w'):=lh fun W h=>hdg▸Any.utf8_DecodeRuneInString Tryz.lays197 (s.extract pos s.size) W h
   generalize (Utf8.decode s pos).1=r at hnx hstep HDE
   generalize (Utf8.decode s pos).2=n at hnx hstep hdp hdl hO1 hx1 hb1 hT1 HDE
   generalize wr.iterAt B0 s (pos+n)=w1 at hnx hO1 hx1 hb1 hT1
   have HST:=lh hstep
   have HO1:=lh hO1
   have HX1:=lh hx1
   have HB1:=lh hb1
   have HT1:=lh hT1
   have HBAD:=lh hbad
   have HDL:=lh hdl
   have HIP:=lh hip
   have HOL:=lh hol
   have gp:(pos:Int)≤(s.size:Int):=by omega
   clear hit hO hbel hbad hstep hO1 hx1 hb1 hT1 hdg hdl hip hol
   go_upto_region 6 with (go_at_call 61;refine (HDE.out _ HT1.out).mono ?_;rintro e w2 ⟨rfl,hb2⟩)
   have hlt1:B0<w1.heap.size:=(Array.getElem?_eq_some_iff.1 HX1.out).1
   have hx2:w2.heap[B0]? = some (.stringIter s (pos+n)):=(hb2.block B0 hlt1).trans HX1.out
   have HX2:=lh hx2
   have HO2:=lh (HO1.out.keep hb2)
   have HB2:=lh (HB1.out.trans (hb2.mono (Nat.le_of_lt hlt1)))
   have hsz2:B0<w2.heap.size:=(Array.getElem?_eq_some_iff.1 hx2).1
   clear hx2 hb2 HO1 HB1 HX1 HDE hnx
   have hsame:¬ (r=65533∧n=1)→((out=[]∧badF s (s.size-(pos+n)) (pos+n)=badI s)∨(out≠[]∧badI s=true)):=fun hno=>by
    rcases HBAD.out with ⟨h1,h2⟩ | h
    ·refine .inl ⟨h1,?_⟩
     rw [HST.out] at h2
     rw [←h2]
     by_cases h3:r=65533
     ·have h4:¬ n=1:=fun h=>hno ⟨h3,h⟩
      rw [decide_eq_false h4,Bool.and_false,Bool.false_or]
     ·have h5:¬ ((r:Int)=65533):=by omega
      rw [decide_eq_false h5,Bool.false_and,Bool.false_or]
    ·exact .inr h
   have HSAME:=lh hsame
   clear hsame
   by_cases hr:r=65533
   ·by_cases hn:n=1
    ·subst hr hn
     have HBI:Hid (badI s=true):=lh (by
      rcases HBAD.out with ⟨h1,h2⟩ | h
      ·rw [←h2,HST.out]
       rfl
      ·exact h.2)
     clear HSAME HST HBAD
     have hoc:=own_slice HO2.out
     go_wp2_with (at_builtin;refine wpList_append_own _ rfl _ _ 56 rfl (B0+1) 3 i0 (.int .i64 0) 1 8 Tryz.underlying56 hi0 hz0 hz1 hz2 rfl (by decide) _ _ _ rfl (HO2.out.alloc _) ⟨w2.heap.size,0,none⟩ 1 1 [.int .i64 pos] rfl rfl (cell_one_new _ _ _) (by simp [Value.oneCell']) (by unfold maxLen;have:=HOL.out;omega) (by have:=HOL.out;omega) (by simp;omega) ?_;intro v' w4 ho hg _)
     have hb4:=(HB2.out.alloc (Nat.le_of_lt hsz2) (.cells #[.int .i64 pos] 3)).grown hg (by simp;omega) (fun k hk=>by have:=(World.ownsRow.lt HO2.out k hk).1;omega)
     have hx4:w4.heap[B0]? = some (.stringIter s (pos+1)):=(hg.block B0 (by simp;omega) (fun e=>by have:=(World.ownsRow.lt HO2.out B0 e.symm).1;omega)).trans ((Below.heap_alloc w2 _ B0 hsz2).trans HX2.out)
     have hm:out.map (Value.int .i64)++[.int .i64 (pos:Int)]=(out++[(pos:Int)]).map (Value.int .i64):=by rw [List.map_append];rfl
     rw [hm] at ho
     obtain⟨va,vc,hva,_,_⟩:=own_slice ho
     subst hva
     have ho':OutAt .i64 3 w4 (B0+1) va vc (out++[(pos:Int)]):=by
      unfold OutAt
      rw [List.length_append]
      exact ho
     have HO4:=lh ho'
     have HX4:=lh hx4
     have HB4:=lh hb4
     clear ho ho' hx4 hb4 hg hm hoc HO2 HX2 HB2
     go_wp2_with (fail)
     go_roundw
     case rel=>exact⟨pos+1,out++[(pos:Int)],va,vc,HDL.out,by have:=HOL.out;rw [List.length_append];simp;omega,by rw [List.length_append];rfl,HX4.out,HO4.out,HB4.out,.inr ⟨by simp,HBI.out⟩⟩
     case measure=>rw [HIP.out];simp [World.iterPos,HX4.out];have:=HDL.out;omega
    ·have hne:((n:Int) != 1)=true:=by simp;omega
     have HN:=lh (HSAME.out (fun h=>hn h.2))
     subst hr
     clear hn HSAME HST HBAD
     go_wp2_with (fail)
     go_roundw
     case rel=>exact⟨pos+n,out,a,c,HDL.out,by have:=HOL.out;omega,rfl,HX2.out,HO2.out,HB2.out,HN.out⟩
     case measure=>rw [HIP.out];simp [World.iterPos,HX2.out];have:=HDL.out;omega
   ·have hne:((r:Int) != 65533)=true:=by simp;omega
    have HN:=lh (HSAME.out (fun h=>hr h.1))
    clear hr HSAME HST HBAD
    go_wp2_with (fail)
    go_roundw
    case rel=>exact⟨pos+n,out,a,c,HDL.out,by have:=HOL.out;omega,rfl,HX2.out,HO2.out,HB2.out,HN.out⟩
    case measure=>rw [HIP.out];simp [World.iterPos,HX2.out];have:=HDL.out;omega
  ·obtain rfl:pos=s.size:=by omega
   have hnx:=fun ty=>Lib.run_next_end_at (P:=Tryz.prog) wr B0 s s.size ty hit (Nat.lt_irrefl _)
   have hE:out.length=0↔badI s=false:=by
    rcases hbad with ⟨h1,h2⟩ | ⟨h1,h2⟩
    ·rw [h1,←h2,Nat.sub_self,badF]
     simp
    ·rw [h2]
     simp [h1]
   have HE:=lh hE
   have HBE:=lh hbel
   clear hE hbel hbad hO hit hip hol
   go_wp2_with (fail)
   unfold Exit.noGoto
   go_ret
   exact⟨_,_,_,rfl,HE.out,by first | exact HBE.out | exact hB0▸HBE.out⟩
end
end Go.Proofs.YtlbclfmbejjneaaGreatDoor
