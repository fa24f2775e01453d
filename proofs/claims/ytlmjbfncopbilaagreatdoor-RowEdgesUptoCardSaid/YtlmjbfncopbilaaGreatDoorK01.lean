/- Part 1 (merged by a program): lemmas of no further condition than each states. -/
import Derived.WalkKit
import Derived.WalkSpells
import Derived.WalkLawsBesides
import Derived.Lib.Hide
namespace Go.Proofs.YtlmjbfncopbilaaGreatDoor
set_option linter.unusedVariables false
set_option linter.unusedSimpArgs false
theorem lh {p : Prop} (h : p) : Go.RowKit.Hid p := h
section
open Go.RowKit
def ith (l:List Int) (i:Nat):Int:=l.getD i 0
theorem ret_i {k:IntKind} {a b:Int} (h:a=b):Ending.returned (.int k a)=.returned (.int k b):=by rw [h]
theorem ret_b {a b:Bool} (h:a=b):Ending.returned (.bool a)=.returned (.bool b):=by rw [h]
theorem ret_ii {k k':IntKind} {a b c d:Int} (h:a=b) (h':c=d):Ending.returned (.tuple #[.int k a,.int k' c])=.returned (.tuple #[.int k b,.int k' d]):=by rw [h,h']
theorem ret_ibb {k:IntKind} {a b:Int} {c d x y:Bool} (h:a=b) (h':c=d) (h'':x=y) :
 Ending.returned (.tuple #[.int k a,.bool c,.bool x])=.returned (.tuple #[.int k b,.bool d,.bool y]):=by rw [h,h',h'']
theorem bl_drewN {B:Nat} {a w:World} (h:Below B a w) (n:Nat):Below B a (w.drewN n):=h.trans ⟨rfl,rfl,rfl,Nat.le_refl _,fun _ _=>rfl⟩
theorem cell_lt {w:World} {b o:Nat} {v:Value} (h:w.cell? ⟨b,o,none⟩=some v):b<w.heap.size:=World.block_lt_of_cell? w ⟨b,o,none⟩ h
theorem cell_bl {B:Nat} {w w':World} (h:Below B w w') {b o:Nat} {v:Value} (hB:b<B) (hc:w.cell? ⟨b,o,none⟩=some v):w'.cell? ⟨b,o,none⟩=some v :=
 (h.cell (p:=⟨b,o,none⟩) hB).trans hc
def Rd (k:IntKind) (w:World) (a:Option Addr) (xs:List Int):Prop :=
 xs=[]∨∃b off,a=some ⟨b,off,none⟩∧b<w.heap.size∧∀i,i<xs.length→w.cell? ⟨b,off+i,none⟩=some (.int k (ith xs i))
theorem Rd.below {k:IntKind} {w w':World} {a:Option Addr} {xs:List Int} (h:Rd k w a xs) (hb:Below w.heap.size w w'):Rd k w' a xs:=by
 rcases h with h | ⟨b,off,h1,h2,h3⟩
 ·exact .inl h
 ·exact .inr ⟨b,off,h1,Nat.lt_of_lt_of_le h2 hb.size,fun i hi=>cell_bl hb h2 (h3 i hi)⟩
theorem Rd.at {k:IntKind} {w wr:World} {a:Option Addr} {xs:List Int} (h:Rd k w a xs) (hb:Below w.heap.size w wr) (i:Nat) (hi:i<xs.length) :
 ∃b off,a=some ⟨b,off,none⟩∧b<w.heap.size∧wr.cell? ⟨b,off+i,none⟩=some (.int k (ith xs i)):=by
 rcases h with h | ⟨b,off,h1,h2,h3⟩
 ·subst h;simp at hi
 ·exact⟨b,off,h1,h2,cell_bl hb h2 (h3 i hi)⟩
theorem cell_set {w:World} {a:Addr} {v:Value} (h:w.cell? a=some v) (u:Value):(w.setCell a u).cell? a=some u:=World.cell?_setCell_same' w a u (by rw [h];rfl)
theorem frozen_set {w:World} {a:Addr} {b:Bool} (h:w.frozen? a=b) (u:Value):(w.setCell a u).frozen? a=b:=by rw [World.frozen?_setCell];exact h
end
section
def known (r:Int):Int:=if r<0∨1114111<r∨(55296≤r∧r≤57343) then 65533 else r
theorem known_bd (r:Int):0≤known r∧known r≤1114111:=by unfold known;split <;> omega
def tabLook:List (Int × Int)→Int→Int
 | [],_=>0
 | [x],_=>x.2
 | x::y::rest,r=>if r<y.1 then x.2 else tabLook (y::rest) r
def risesB:List (Int × Int)→Bool
 | x::y::rest=>decide (x.1<y.1)&&risesB (y::rest)
 | _=>true
theorem rises_le:∀(T:List (Int × Int)) (i:Nat),risesB T=true→i<T.length→(T.getD 0 (0,0)).1≤(T.getD i (0,0)).1
 | [],_,_,h=>by simp at h
 | [x],i,_,h=>by
   obtain rfl:i=0:=by simpa using h
   simp
 | x::y::rest,0,_,_=>by simp
 | x::y::rest,i+1,hs,h=>by
   simp only [risesB,Bool.and_eq_true,decide_eq_true_eq] at hs
   have:=rises_le (y::rest) i hs.2 (by simpa using h)
   simp at this ⊢
   omega
theorem tabLook_of:∀(T:List (Int × Int)) (low:Nat) (r:Int),risesB T=true→low<T.length→(low=0∨(T.getD low (0,0)).1≤r)→(low+1=T.length∨r<(T.getD (low+1) (0,0)).1) →
 tabLook T r=(T.getD low (0,0)).2
 | [],low,_,_,h,_,_=>by simp at h
 | [x],low,r,_,h,_,_=>by
   obtain rfl:low=0:=by simpa using h
   simp [tabLook]
 | x::y::rest,0,r,_,_,_,h2=>by
   simp only [tabLook]
   rcases h2 with h2 | h2
   ·simp at h2
   ·simp at h2;rw [if_pos h2];simp
 | x::y::rest,low+1,r,hs,h,h1,h2=>by
   simp only [risesB,Bool.and_eq_true,decide_eq_true_eq] at hs
   have hle:=rises_le (y::rest) low hs.2 (by simpa using h)
   simp only [List.getD_cons_succ] at h1 h2
   have h1':((y::rest).getD low (0,0)).1≤r:=by
    rcases h1 with h1 | h1
    ·omega
    ·exact h1
   simp only [tabLook]
   rw [if_neg (by rw [List.getD_cons_zero] at hle;omega)]
   exact tabLook_of (y::rest) low r hs.2 (by simpa using h) (.inr h1') (by simpa using h2)
def tabSmall (T:List (Int × Int)):Bool:=T.all fun x=>decide (0≤x.2)&&decide (x.2≤127)
theorem tabSmall_bd {T:List (Int × Int)} (h:tabSmall T=true) (i:Nat):0≤(T.getD i (0,0)).2∧(T.getD i (0,0)).2≤127:=by
 rw [List.getD_eq_getElem?_getD]
 cases hx:T[i]? with
 | none=>simp
 | some x =>
   have:=List.all_eq_true.1 h x (List.mem_of_getElem? hx)
   simpa using this
def dirsT:List (Int × Int):=[(0,9),(9,11),(10,10),(11,11),(12,12),(13,10),(14,9),(28,10),(31,11),(32,12),(33,13),(35,5),(38,13),(43,4),(44,7),(45,4),(46,7),(48,3),(58,7),(59,13),(65,0),(91,13),(97,0),(123,13),(127,9),(133,10),(134,9),(160,7),(161,13),(162,5),(166,13),(173,9),(174,13),(176,5),(178,3),(180,13),(185,3),(186,13),(192,0),(215,13),(216,0),(247,13),(248,0),(768,8),(880,0),(1155,8),(1162,0),(1424,1),(1425,8),(1470,1),(1471,8),(1472,1),(1473,8),(1475,1),(1476,8),(1478,1),(1479,8),(1480,1),(1536,6),(1542,13),(1544,2),(1548,7),(1549,2),(1552,8),(1563,2),(1611,8),(1632,6),(1642,5),(1643,6),(1645,2),(1648,8),(1649,2),(1750,8),(1757,6),(1758,2),(1759,8),(1765,2),(1767,8),(1769,2),(1770,8),(1774,2),(1776,3),(1786,2),(1984,1),(2144,0),(3633,8),(3634,0),(3636,8),(3643,0),(3655,8),(3663,0),(5760,12),(5761,0),(6832,8),(6912,0),(7616,8),(7680,0),(8192,12),(8203,9),(8206,0),(8207,1),(8208,13),(8232,12),(8233,10),(8234,14),(8235,15),(8236,18),(8237,16),(8238,17),(8239,7),(8240,5),(8245,13),(8287,12),(8288,9),(8294,19),(8295,20),(8296,21),(8297,22),(8298,0),(8304,3),(8314,0),(8320,3),(8330,0),(8352,5),(8400,8),(8448,0),(8592,13),(8722,4),(8723,13),(9372,0),(9472,13),(11264,0),(12288,12),(12289,13),(12293,0),(12296,13),(12321,0),(12330,8),(12334,0),(12336,13),(12337,0),(12441,8),(12443,0),(64285,1),(64336,2),(65024,8),(65040,0),(65056,8),(65072,0),(65136,2),(65279,9),(65280,0),(65281,13),(65283,5),(65286,13),(65291,4),(65292,7),(65293,4),(65294,7),(65296,3),(65306,7),(65307,13),(65313,0),(65339,13),(65345,0),(65371,13),(65382,0),(65532,13),(65534,0),(67584,1),(69632,0),(127744,13),(129792,0)]
def dirI (r:Int):Int:=tabLook dirsT (known r)
def brL:List Int:=[40,41,91,93,123,125,12296,12297,12298,12299,12300,12301,12302,12303,12304,12305,12308,12309,12310,12311,12312,12313,12314,12315,65288,65289,65339,65341,65371,65373]
def pairAt:List Int→Int→Int × Bool × Bool
 | o::c::rest,r=>if r=o then (c,true,true) else if r=c then (o,false,true) else pairAt rest r
 | _,_=>(0,false,false)
def pairI (r:Int):Int × Bool × Bool:=pairAt brL r
def farI (k:Nat):Int:=if k % 2=0 then (if (1<k∧k<6)∨25<k then 2 else 1) else (if (1<k∧k<6)∨25<k then -2 else -1)
theorem pair_hit:∀k,k<30→40≤ith brL k∧ith brL k≤65373∧(65339≤ith brL k↔25<k)∧pairI (ith brL k)=(ith brL k+farI k,decide (k % 2=0),true):=by decide +kernel
theorem pair_miss:∀(l:List Int) (r:Int),(∀x∈l,x≠r)→pairAt l r=(0,false,false)
 | [],_,_=>rfl
 | [_],_,_=>rfl
 | o::c::rest,r,h=>by
   unfold pairAt
   rw [if_neg (fun e=>h o (by simp) e.symm),if_neg (fun e=>h c (by simp) e.symm)]
   exact pair_miss rest r (fun x hx=>h x (by simp [hx]))
theorem pairI_miss (r:Int) (h:∀j,j<30→ith brL j≠r):pairI r=(0,false,false):=by
 refine pair_miss brL r fun x hx e=>?_
 obtain⟨j,hj,hx⟩:=List.mem_iff_getElem.1 hx
 exact h j (by simpa [brL] using hj) (by rw [ith,List.getD_eq_getElem?_getD,List.getElem?_eq_getElem hj];simpa [hx] using e)
end
section
def wayI (k:Int):Int:=if k=0 then 0 else if k=1∨k=2∨k=3∨k=6 then 1 else -1
def sideI (k:Int):Int:=if k=1 then 1 else 0
def decF (xs:List Int) (e ahead:Int):Nat→Nat→Int→Int
 | 0,_,acc=>acc
 | m+1,i,acc=>if wayI (ith xs i)=e then e else if wayI (ith xs i) = -1 then decF xs e ahead m (i+1) acc else decF xs e ahead m (i+1) ahead
def decI (xs:List Int) (p0 p1:Nat) (e ahead:Int):Int:=decF xs e ahead (p1-(p0+1)) (p0+1) (-1)
def findTop (st:List (Nat × Int)) (r:Int):Nat→Option Nat
 | 0=>none
 | k+1=>if (st.getD k (0,0)).2=r then some k else findTop st r k
def brkF (rs ks:List Int):Nat→Nat→List (Nat × Int)→List (Nat × Nat)→List (Nat × Nat)
 | 0,_,_,out=>out
 | m+1,i,st,out =>
   if (pairI (ith rs i)).2.2=false∨ith ks i≠13 then brkF rs ks m (i+1) st out
   else if (pairI (ith rs i)).2.1=true then (if st.length=63 then out else brkF rs ks m (i+1) (st++[(i,(pairI (ith rs i)).1)]) out)
   else match findTop st (ith rs i) st.length with
    | none=>brkF rs ks m (i+1) st out
    | some k=>brkF rs ks m (i+1) (st.take k) (out++[((st.getD k (0,0)).1,i)])
def alF:Nat→Nat→List Int→List Int
 | 0,_,out=>out
 | m+1,i,out=>if ith out i=2 then alF m (i+1) (out.set i 1) else alF m (i+1) out
def aheadF (out:List Int):Nat→Nat→Int→Int
 | 0,_,a=>a
 | m+1,i,a=>if 0≤wayI (ith out i) then aheadF out m (i+1) (wayI (ith out i)) else aheadF out m (i+1) a
def spreadF (rs:List Int) (k:Int):Nat→Nat→List Int→List Int
 | 0,_,out=>out
 | m+1,i,out=>if wayI (ith out i)<0∧dirI (ith rs i)=8 then spreadF rs k m (i+1) (out.set i k) else out
def markF (rs:List Int) (n:Nat) (k:Int) (b:Nat) (out:List Int):List Int:=spreadF rs k (n-(b+1)) (b+1) (out.set b k)
def resF (rs:List Int) (n:Nat) (e:Int):List (Nat × Nat)→Nat→Int→List Int→List Int
 | [],_,_,out=>out
 | p::ps,at',ahead,out =>
   if decI out p.1 p.2 e (aheadF out (p.1-at') at' ahead)<0 then resF rs n e ps (at'+(p.1-at')) (aheadF out (p.1-at') at' ahead) out
   else resF rs n e ps (at'+(p.1-at')) (aheadF out (p.1-at') at' ahead)
    (markF rs n (decI out p.1 p.2 e (aheadF out (p.1-at') at' ahead)) p.2 (markF rs n (decI out p.1 p.2 e (aheadF out (p.1-at') at' ahead)) p.1 out))
def runF (out:List Int):Nat→Nat→Nat
 | 0,j=>j
 | m+1,j=>if wayI (ith out j)<0 then runF out m (j+1) else j
def fillF (k:Int):Nat→Nat→List Int→List Int
 | 0,_,out=>out
 | m+1,i,out=>fillF k m (i+1) (out.set i k)
def fillI (n:Nat) (e sos eos:Int) (i j:Nat) (out:List Int):Int :=
 if (if 0<i then wayI (ith out (i-1)) else sos)=(if j<n then wayI (ith out j) else eos) then (if 0<i then wayI (ith out (i-1)) else sos) else e
def restF (n:Nat) (e sos eos:Int):Nat→Nat→List Int→List Int
 | 0,_,out=>out
 | f+1,i,out =>
   if i<n then
    if 0≤wayI (ith out i) then restF n e sos eos f (i+1) out
    else restF n e sos eos f (runF out (n-i) i) (fillF (fillI n e sos eos i (runF out (n-i) i) out) (runF out (n-i) i-i) i out)
   else out
def resolveF (rs ks:List Int) (level sos eos:Int) (l:List (Nat × Nat)):List Int :=
 restF (min rs.length ks.length) (level % 2) (sideI sos) (sideI eos) (min rs.length ks.length+1) 0
  (resF rs (min rs.length ks.length) (level % 2) l 0 (sideI sos) (alF (min rs.length ks.length) 0 (ks.take (min rs.length ks.length))))
end
section
def lkn (d:Int):Int:=if d<0∨22<d then 13 else d
theorem lkn_bd (d:Int):0≤lkn d∧lkn d≤22:=by unfold lkn;split <;> omega
def marksF:Nat→Nat→Int→List Int→List Int
 | 0,_,_,l=>l
 | m+1,i,sos,l =>
   if ith l i=8 then marksF m (i+1) (if 19≤sos∧sos≤22 then 13 else sos) (l.set i sos)
   else marksF m (i+1) (if 19≤ith l i∧ith l i≤22 then 13 else ith l i) l
def arabicF:Nat→Nat→Int→List Int→List Int
 | 0,_,_,l=>l
 | m+1,i,sos,l =>
   if ith l i=0∨ith l i=1∨ith l i=2 then arabicF m (i+1) (ith l i) l
   else if ith l i=3∧sos=2 then arabicF m (i+1) sos (l.set i 6)
   else arabicF m (i+1) sos l
def lettersF:Nat→Nat→List Int→List Int
 | 0,_,l=>l
 | m+1,i,l=>if ith l i=2 then lettersF m (i+1) (l.set i 1) else lettersF m (i+1) l
def sepF:Nat→Nat→List Int→List Int
 | 0,_,l=>l
 | m+1,i,l =>
   if ith l (i-1)=ith l (i+1)∧(ith l (i-1)=3∨ith l (i-1)=6)∧(ith l i=7∨(ith l i=4∧ith l (i-1)=3)) then sepF m (i+1) (l.set i (ith l (i-1)))
   else sepF m (i+1) l
def seekF (b:Bool) (l:List Int):Nat→Nat→Nat
 | 0,i=>i
 | m+1,i=>if decide (ith l i=5)=b then i else seekF b l m (i+1)
def fillW (k:Int):Nat→Nat→List Int→List Int
 | 0,_,l=>l
 | m+1,i,l=>fillW k m (i+1) (l.set i k)
def termF:Nat→Nat→List Int→List Int
 | 0,_,l=>l
 | f+1,i,l =>
   let a:=seekF true l (l.length-i) i
   if a=l.length then l
   else
    let b:=seekF false l (l.length-a) a
    if (0<a∧ith l (a-1)=3)∨(b<l.length∧ith l b=3) then termF f b (fillW 3 (b-a) a l) else termF f b l
def othersF:Nat→Nat→List Int→List Int
 | 0,_,l=>l
 | m+1,i,l=>if ith l i=4∨ith l i=5∨ith l i=7 then othersF m (i+1) (l.set i 13) else othersF m (i+1) l
def digitsF:Nat→Nat→Int→List Int→List Int
 | 0,_,_,l=>l
 | m+1,i,sos,l =>
   if ith l i=0∨ith l i=1 then digitsF m (i+1) (ith l i) l
   else if ith l i=3∧sos=0 then digitsF m (i+1) sos (l.set i 0)
   else digitsF m (i+1) sos l
def weakF (ks:List Int) (sos:Int):List Int :=
 let n:=ks.length
 let s:=if sos=1 then (1:Int) else 0
 digitsF n 0 s (othersF n 0 (termF (n+1) 0 (sepF (n-2) 1 (lettersF n 0 (arabicF n 0 s (marksF n 0 s (ks.map lkn)))))))
end
section
def leftB (d:Int):Bool:=decide (d=9)||(decide (14≤d)&&decide (d≤18))
def opensB (d:Int):Bool:=decide (19≤d)&&decide (d≤21)
def firstF (ds:List Int):Nat→Nat→Nat→Int
 | 0,_,_=>13
 | m+1,i,deep =>
   if opensB (lkn (ith ds i))=true then firstF ds m (i+1) (deep+1)
   else if lkn (ith ds i)=22∧0<deep then firstF ds m (i+1) (deep-1)
   else if lkn (ith ds i)=22∨lkn (ith ds i)=10 then 13
   else if deep=0∧(lkn (ith ds i)=0∨lkn (ith ds i)=1∨lkn (ith ds i)=2) then lkn (ith ds i)
   else firstF ds m (i+1) deep
def firstI (ds:List Int):Int:=firstF ds ds.length 0 0
def afterF (ds:List Int):Nat→Nat→Nat→Int
 | 0,_,_ => -1
 | m+1,i,deep =>
   if opensB (lkn (ith ds i))=true then afterF ds m (i+1) (deep+1)
   else if lkn (ith ds i)=22∧deep=0 then (i:Int)+1
   else if lkn (ith ds i)=22 then afterF ds m (i+1) (deep-1)
   else if lkn (ith ds i)=10 then -1
   else afterF ds m (i+1) deep
def skipF (ds:List Int):Nat→Nat→Nat
 | 0,i=>i
 | m+1,i=>if lkn (ith ds i)=22 then skipF ds m (i+1) else i
def baseF (want:Int):Nat→List Int→Int
 | 0,_=>0
 | f+1,ds =>
   if want=1 then 0 else if want=2 then 1
   else if skipF ds ds.length 0=ds.length then 0
   else if lkn (ith ds (skipF ds ds.length 0))=10 then 0
   else if firstI (ds.drop (skipF ds ds.length 0))=13 then
    (if ((skipF ds ds.length 0:Nat):Int)<afterF ds (ds.length-skipF ds ds.length 0) (skipF ds ds.length 0) 0 then
      baseF want f (ds.drop (afterF ds (ds.length-skipF ds ds.length 0) (skipF ds ds.length 0) 0).toNat) else 0)
   else if firstI (ds.drop (skipF ds ds.length 0))≠0 then 1 else 0
def baseI (ds:List Int) (want:Int):Int:=baseF want (ds.length+1) ds
def pairsF (ds:List Int):Nat→Nat→List Nat→List Int→List Int
 | 0,_,_,out=>out
 | m+1,i,opn,out =>
   if opensB (lkn (ith ds i))=true then pairsF ds m (i+1) (opn++[i]) (out.set i (-1))
   else if lkn (ith ds i)=10 then pairsF ds m (i+1) [] (out.set i (-1))
   else if lkn (ith ds i)=22∧0<opn.length then pairsF ds m (i+1) (opn.take (opn.length-1)) (((out.set i (-1)).set i (opn.getD (opn.length-1) 0)).set (opn.getD (opn.length-1) 0) i)
   else pairsF ds m (i+1) opn (out.set i (-1))
def pairsI (ds:List Int):List Int:=pairsF ds ds.length 0 [] (List.replicate ds.length 0)
structure LSt where
 level:Nat
 over:Int
 iso:Bool
structure LPile where
 states:List LSt
 opn:Nat
 deep:Nat
 emb:Nat
def LPile.top (p:LPile):LSt:=p.states.getLastD ⟨0,-1,false⟩
def LPile.said (p:LPile) (d:Int):Int:=if p.top.over ≠ -1 then p.top.over else d
def LPile.next (p:LPile) (odd:Bool):Nat:=if odd then (p.top.level+1) / 2*2+1 else (p.top.level+2) / 2*2
def LPile.room (p:LPile) (odd:Bool):Bool:=decide (p.next odd≤125)&&decide (p.deep=0)&&decide (p.emb=0)
def LPile.lay (p:LPile) (odd:Bool) (over:Int) (iso:Bool):LPile:=if p.room odd=true then { p with states:=p.states++[⟨p.next odd,over,iso⟩] } else p
def LPile.pop (p:LPile):LPile:={ p with states:=p.states.take (p.states.length-1) }
def LPile.popTo:Nat→LPile→LPile
 | 0,p=>p
 | n+1,p=>if p.top.iso=true then p else popTo n p.pop
def LPile.close (p:LPile):LPile :=
 if 0<p.deep then { p with deep:=p.deep-1 }
 else if 0<p.opn then { ((LPile.popTo p.states.length { p with emb:=0 }).pop) with opn:=p.opn-1 }
 else p
def LPile.fin (p:LPile):LPile :=
 if 0<p.deep then p
 else if 0<p.emb then { p with emb:=p.emb-1 }
 else if 1<p.states.length∧p.top.iso=false then p.pop
 else p
def LPile.embed (p:LPile) (d:Int):LPile :=
 let odd:=decide (d=15)||decide (d=17)
 let over:Int:=if d=16 then 0 else if d=17 then 1 else -1
 if p.room odd=true then p.lay odd over false else if p.deep=0 then { p with emb:=p.emb+1 } else p
def LPile.step (p:LPile) (base:Nat) (ds:List Int) (i:Nat):LPile × Nat × Int :=
 let d:=lkn (ith ds i)
 if 14≤d∧d≤17 then (p.embed d,p.top.level,9)
 else if 19≤d∧d≤21 then
  let odd:=if d=21 then decide (firstI (ds.drop (i+1))=1)||decide (firstI (ds.drop (i+1))=2) else decide (d=20)
  (if p.room odd=true then { p.lay odd (-1) true with opn:=p.opn+1 } else { p with deep:=p.deep+1 },p.top.level,p.said d)
 else if d=22 then (p.close,p.close.top.level,p.close.said d)
 else if d=18 then (p.fin,p.fin.top.level,9)
 else if d=9 then (p,p.top.level,9)
 else if d=10 then (⟨[⟨base,-1,false⟩],0,0,0⟩,base,10)
 else (p,p.top.level,p.said d)
def levF (base:Nat) (ds:List Int):Nat→Nat→LPile→List Nat→List Int→List Nat × List Int
 | 0,_,_,ls,ks=>(ls,ks)
 | m+1,i,p,ls,ks=>levF base ds m (i+1) (p.step base ds i).1 (ls++[(p.step base ds i).2.1]) (ks++[(p.step base ds i).2.2])
def levI (ds:List Int) (base:Nat):List Nat × List Int:=levF (min base 125) ds ds.length 0 ⟨[⟨min base 125,-1,false⟩],0,0,0⟩ [] []
structure RSt where
 out:List (List Nat)
 goes:List (Nat × Nat)
 now:Int
 last:Int
def RSt.find (s:RSt) (i:Nat):Option Nat:=(s.goes.find? (fun x=>x.1==i)).map (·.2)
def RSt.at (s:RSt) (ps:List Int) (i:Nat):Option Nat :=
 match s.find i with
 | none=>none
 | some k=>if (((s.out.getD k []).getLastD 0:Nat):Int)≠ith ps i then none else some k
def RSt.step (s:RSt) (ds ls ps:List Int) (i:Nat):RSt :=
 let d:=lkn (ith ds i)
 if leftB d=true then s
 else
  let fresh:Bool:=decide (s.now<0)||decide (s.last<0)||decide (ith ls s.last.toNat≠ith ls i)
  let k:Nat:=if fresh=true then (s.at ps i).getD s.out.length else s.now.toNat
  let out1:List (List Nat):=if fresh=true∧(s.at ps i).isNone=true then s.out++[[]] else s.out
  {out:=out1.set k (out1.getD k []++[i]),
   goes:=if opensB d=true∧0≤ith ps i then ((ith ps i).toNat,k)::s.goes else s.goes,
   now:=k,
   last:=if d=10 then -1 else i }
def runsF (ds ls ps:List Int):Nat→Nat→RSt→RSt
 | 0,_,s=>s
 | m+1,i,s=>runsF ds ls ps m (i+1) (s.step ds ls ps i)
def runsI (ds ls:List Int):List (List Nat) :=
 let n:=min ds.length ls.length
 (runsF (ds.take n) ls (pairsI (ds.take n)) n 0 ⟨[],[],-1,-1⟩).out
end
section
def aheadL (ds:List Int) (ls:List Nat) (base:Nat):Nat→Nat
 | 0=>base
 | i+1=>if lkn (ith ds i)=10 then base else if leftB (lkn (ith ds i))=true then aheadL ds ls base i else ls.getD i 0
def behindL (ds:List Int) (ls:List Nat) (base:Nat):Nat→Nat→Nat
 | 0,_=>base
 | m+1,i=>if leftB (lkn (ith ds i))=true then behindL ds ls base m (i+1) else ls.getD i 0
def sidesI (ds:List Int) (ls:List Nat) (base:Nat) (run:List Nat):Int × Int :=
 let n:=min ds.length ls.length
 let ps:=run.filter (fun p=>decide (p<n))
 if ps=[] then (((base % 2:Nat):Int),((base % 2:Nat):Int))
 else
  let a:=ps.getD 0 0
  let b:=ps.getLastD 0
  let behind:=if (opensB (lkn (ith ds b))=false∨0≤ith (pairsI (ds.take n)) b)∧lkn (ith ds b)≠10 then behindL ds ls base (n-(b+1)) (b+1) else base
  (((max (ls.getD a 0) (aheadL ds ls base a) % 2:Nat):Int),((max (ls.getD b 0) behind % 2:Nat):Int))
def insP (p:Nat × Nat):List (Nat × Nat)→List (Nat × Nat)
 | []=>[p]
 | q::t=>if p.1<q.1 then p::q::t else q::insP p t
def sortP (l:List (Nat × Nat)):List (Nat × Nat):=l.foldl (fun s p=>insP p s) []
def resI (rs ks:List Int) (level sos eos:Int):List Int :=
 let n:=min rs.length ks.length
 resolveF rs ks level sos eos (sortP (brkF (rs.take n) (alF n 0 (ks.take n)) n 0 [] []))
def upI (x:Nat) (k:Int):Nat:=if k=3∨k=6 then 2-x % 2 else if (k=1∧x % 2=0)∨(k=0∧x % 2=1) then 1 else 0
def layRun (x:Nat) (own:List Int):List Nat→Nat→List Nat→List Nat
 | [],_,out=>out
 | p::ps,i,out=>layRun x own ps (i+1) (out.set p (x+upI x (ith own i)))
def runOut (cs ds:List Int) (ls:List Nat) (ks:List Int) (base:Nat) (run:List Nat) (out:List Nat):List Nat :=
 let x:=ls.getD (run.getD 0 0) 0
 let s:=sidesI ds ls base run
 layRun x (resI (run.map (ith cs)) (weakF (run.map (ith ks)) s.1) x s.1 s.2) run 0 out
def tidyF (ds:List Int) (base:Nat):Nat→Nat→Nat→List Nat→List Nat
 | 0,_,_,out=>out
 | m+1,i,ahead,out =>
   if leftB (ith ds i)=true then tidyF ds base m (i+1) ahead (out.set i ahead)
   else if ith ds i=10 then tidyF ds base m (i+1) base (out.set i base)
   else tidyF ds base m (i+1) (out.getD i 0) out
def paraI (cs ds:List Int) (base:Nat):List Nat :=
 let lk:=levI ds base
 tidyF ds base ds.length 0 base ((runsI ds (lk.1.map Int.ofNat)).foldl (fun out run=>runOut cs ds lk.1 lk.2 base run out) (List.replicate cs.length 0))
def paraLen (ds:List Int):Nat:=match ds.findIdx? (fun d=>d==10) with
 | none=>ds.length
 | some i=>i+1
def linesF (base:Nat):Nat→List Int→List Nat→List Nat
 | 0,_,out=>out
 | f+1,cs,out =>
   if cs=[] then out
   else linesF base f (cs.drop (paraLen (cs.map dirI))) (out++paraI (cs.take (paraLen (cs.map dirI))) ((cs.take (paraLen (cs.map dirI))).map dirI) base)
def visualI (cs:List Int) (want:Int):List Nat × Int :=
 (linesF (baseI (cs.map dirI) want).toNat cs.length cs [],baseI (cs.map dirI) want)
end
section
def LPile.last (P:LPile) (i:Nat):LSt:=P.states.getD i ⟨0,-1,false⟩
structure LPile.Ok (P:LPile) (i:Nat):Prop where
 ne:0<P.states.length
 bot:(P.last 0).iso=false
 cnt:P.states.countP (·.iso)=P.opn
 lev:∀s∈P.states,s.level≤125 ∧ -1≤s.over∧s.over≤1
 deep:P.deep≤i
 emb:P.emb≤i
 len:P.states.length≤i+1
 opn:P.opn≤i
theorem LPile.top_at (P:LPile) (h:0<P.states.length):P.top=P.last (P.states.length-1):=by
 unfold LPile.top LPile.last
 rw [List.getLastD_eq_getLast?,List.getLast?_eq_getElem?,List.getD_eq_getElem?_getD]
theorem LPile.top_mem (P:LPile) (h:0<P.states.length):P.top∈P.states:=by
 rw [P.top_at h,LPile.last,List.getD_eq_getElem?_getD,List.getElem?_eq_getElem (by omega)]
 exact List.getElem_mem _
theorem LPile.Ok.top {P:LPile} {i:Nat} (h:P.Ok i):P.top.level≤125 ∧ -1≤P.top.over∧P.top.over≤1:=h.lev _ (P.top_mem h.ne)
theorem LPile.Ok.mono {P:LPile} {i j:Nat} (h:P.Ok i) (hj:i≤j):P.Ok j:=⟨h.ne,h.bot,h.cnt,h.lev,by have:=h.deep;omega,by have:=h.emb;omega,by have:=h.len;omega,by have:=h.opn;omega⟩
theorem LPile.split (P:LPile) (h:0<P.states.length):P.states=P.states.take (P.states.length-1)++[P.top]:=by
 rw [P.top_at h,LPile.last,List.getD_eq_getElem?_getD,List.getElem?_eq_getElem (by omega)]
 have:=List.take_succ_eq_append_getElem (l:=P.states) (i:=P.states.length-1) (by omega)
 rw [show P.states.length-1+1=P.states.length by omega,List.take_length] at this
 exact this
theorem LPile.pop_len (P:LPile):P.pop.states.length=P.states.length-1:=by
 unfold LPile.pop;simp
theorem LPile.pop_cnt (P:LPile) (h:0<P.states.length):P.states.countP (·.iso)=P.pop.states.countP (·.iso)+(if P.top.iso=true then 1 else 0):=by
 conv=>lhs;rw [P.split h]
 rw [List.countP_append]
 unfold LPile.pop
 congr 1
 by_cases ht:P.top.iso=true
 ·rw [if_pos ht];simp [List.countP_cons,ht]
 ·rw [if_neg ht];simp [List.countP_cons,ht]
theorem LPile.pop_last (P:LPile) (k:Nat) (h:k<P.states.length-1):P.pop.last k=P.last k:=by
 unfold LPile.pop LPile.last
 rw [List.getD_eq_getElem?_getD,List.getD_eq_getElem?_getD,List.getElem?_take,if_pos h]
theorem LPile.pop_mem (P:LPile) {s:LSt} (h:s∈P.pop.states):s∈P.states:=List.mem_of_mem_take h
theorem LPile.two {P:LPile} (ne:0<P.states.length) (bot:(P.last 0).iso=false) (c:0<P.states.countP (·.iso)):1<P.states.length:=by
 rcases Nat.lt_or_ge 1 P.states.length with h | h
 ·exact h
 ·have h1:P.states.length=1:=by omega
  obtain⟨s,hs⟩:=List.length_eq_one_iff.1 h1
  unfold LPile.last at bot
  rw [hs] at bot c
  simp [List.countP_cons] at bot c
  rw [bot] at c
  cases c
theorem LPile.Ok.step_pop {P:LPile} {i:Nat} (h:P.Ok i) (h1:1<P.states.length) (ht:P.top.iso=false):P.pop.Ok i:=by
 have hl:=P.pop_len
 refine⟨by omega,by rw [P.pop_last 0 (by omega)];exact h.bot,?_,fun s hs=>h.lev s (P.pop_mem hs),h.deep,h.emb,by have:=h.len;omega,h.opn⟩
 have:=P.pop_cnt h.ne
 rw [ht,if_neg (by decide),h.cnt] at this
 exact this.symm
theorem LPile.popTo_ok:∀(n:Nat) (P:LPile),P.states.length=n→0<n→(P.last 0).iso=false→0<P.states.countP (·.iso) →
 1<(LPile.popTo n P).states.length∧(LPile.popTo n P).top.iso=true∧((LPile.popTo n P).last 0).iso=false∧(LPile.popTo n P).states.countP (·.iso)=P.states.countP (·.iso) ∧
   (∀s∈(LPile.popTo n P).states,s∈P.states)∧(LPile.popTo n P).states.length≤n∧(LPile.popTo n P).opn=P.opn∧(LPile.popTo n P).deep=P.deep∧(LPile.popTo n P).emb=P.emb
 | 0,_,_,h,_,_=>absurd h (by omega)
 | n+1,P,hn,_,bot,c=>by
   rw [LPile.popTo]
   by_cases ht:P.top.iso=true
   ·rw [if_pos ht]
    exact⟨LPile.two (by omega) bot c,ht,bot,rfl,fun _ h=>h,by omega,rfl,rfl,rfl⟩
   ·rw [if_neg ht]
    have h1:=LPile.two (by omega) bot c
    have hl:=P.pop_len
    have hc:=P.pop_cnt (by omega)
    rw [if_neg ht,Nat.add_zero] at hc
    obtain⟨a,b,d,e,f,g,k⟩:=LPile.popTo_ok n P.pop (by omega) (by omega) (by rw [P.pop_last 0 (by omega)];exact bot) (by omega)
    exact⟨a,b,d,by omega,fun s hs=>P.pop_mem (f s hs),by omega,k⟩
theorem LPile.Ok.close {P:LPile} {i:Nat} (h:P.Ok i):P.close.Ok (i+1):=by
 unfold LPile.close
 by_cases hd:0<P.deep
 ·rw [if_pos hd]
  exact⟨h.ne,h.bot,h.cnt,h.lev,by have:=h.deep;simp only;omega,by have:=h.emb;simp only;omega,by have:=h.len;simp only;omega,by have:=h.opn;simp only;omega⟩
 ·rw [if_neg hd]
  by_cases ho:0<P.opn
  ·rw [if_pos ho]
   obtain⟨a,b,d,e,f,g,k1,k2,k3⟩:=LPile.popTo_ok P.states.length { P with emb:=0 } rfl h.ne h.bot (by have:=h.cnt;simp only;omega)
   generalize LPile.popTo P.states.length { P with emb:=0 }=Q at a b d e f g k1 k2 k3 ⊢
   have hl:=Q.pop_len
   have hc:=Q.pop_cnt (by omega)
   rw [if_pos b] at hc
   simp only at e k1 k2 k3
   have hcnt:=h.cnt
   refine⟨by simp only;omega,?_,by simp only;omega,fun s hs=>h.lev s (f s (Q.pop_mem hs)),?_,?_,?_,by have:=h.opn;simp only;omega⟩
   ·exact (congrArg LSt.iso (Q.pop_last 0 (by omega))).trans d
   ·have:=h.deep;show Q.deep≤i+1;omega
   ·show Q.emb≤i+1;omega
   ·have:=h.len;show Q.pop.states.length≤i+1+1;omega
  ·rw [if_neg ho]
   exact h.mono (by omega)
theorem LPile.Ok.fin {P:LPile} {i:Nat} (h:P.Ok i):P.fin.Ok (i+1):=by
 unfold LPile.fin
 by_cases hd:0<P.deep
 ·rw [if_pos hd];exact h.mono (by omega)
 ·rw [if_neg hd]
  by_cases he:0<P.emb
  ·rw [if_pos he]
   exact⟨h.ne,h.bot,h.cnt,h.lev,by have:=h.deep;simp only;omega,by have:=h.emb;simp only;omega,by have:=h.len;simp only;omega,by have:=h.opn;simp only;omega⟩
  ·rw [if_neg he]
   by_cases h1:1<P.states.length∧P.top.iso=false
   ·rw [if_pos h1];exact (h.step_pop h1.1 h1.2).mono (by omega)
   ·rw [if_neg h1];exact h.mono (by omega)
theorem LPile.Ok.laid {P:LPile} {i:Nat} (h:P.Ok i) (odd:Bool) (over:Int) (iso:Bool) (hr:P.room odd=true) (ho1 : -1≤over) (ho2:over≤1) :
 ({states:=P.states++[⟨P.next odd,over,iso⟩],opn:=P.opn+(if iso=true then 1 else 0),deep:=P.deep,emb:=P.emb }:LPile).Ok (i+1):=by
 have hn:P.next odd≤125:=by
  unfold LPile.room at hr
  simp only [Bool.and_eq_true,decide_eq_true_eq] at hr
  exact hr.1.1
 refine⟨by simp,?_,?_,?_,by have:=h.deep;simp only;omega,by have:=h.emb;simp only;omega,by have:=h.len;simp only [List.length_append,List.length_singleton];omega,?_⟩
 ·have:=h.ne
  have hb:=h.bot
  unfold LPile.last at hb ⊢
  rw [List.getD_eq_getElem?_getD,List.getElem?_append_left this,←List.getD_eq_getElem?_getD]
  exact hb
 ·simp only [List.countP_append,h.cnt]
  congr 1
  cases iso <;> rfl
 ·intro s hs
  rw [List.mem_append,List.mem_singleton] at hs
  rcases hs with hs | rfl
  ·exact h.lev s hs
  ·exact⟨hn,ho1,ho2⟩
 ·have:=h.opn
  simp only
  split <;> omega
theorem LPile.Ok.lay0 {P:LPile} {i:Nat} (h:P.Ok i) (odd:Bool) (over:Int) (ho1 : -1≤over) (ho2:over≤1):(P.lay odd over false).Ok (i+1):=by
 unfold LPile.lay
 by_cases hr:P.room odd=true
 ·rw [if_pos hr]
  exact h.laid odd over false hr ho1 ho2
 ·rw [if_neg hr];exact h.mono (by omega)
theorem LPile.Ok.embed {P:LPile} {i:Nat} (h:P.Ok i) (d:Int):(P.embed d).Ok (i+1):=by
 unfold LPile.embed
 simp only
 split
 ·refine h.lay0 _ _ ?_ ?_
  ·split
   ·omega
   ·split <;> omega
  ·split
   ·omega
   ·split <;> omega
 ·split
  ·exact⟨h.ne,h.bot,h.cnt,h.lev,by have:=h.deep;simp only;omega,by have:=h.emb;simp only;omega,by have:=h.len;simp only;omega,by have:=h.opn;simp only;omega⟩
  ·exact h.mono (by omega)
theorem LPile.Ok.isolate {P:LPile} {i:Nat} (h:P.Ok i) (odd:Bool):(if P.room odd=true then { P.lay odd (-1) true with opn:=P.opn+1 } else { P with deep:=P.deep+1 }:LPile).Ok (i+1):=by
 by_cases hr:P.room odd=true
 ·rw [if_pos hr]
  have:=h.laid odd (-1) true hr (by omega) (by omega)
  unfold LPile.lay
  rw [if_pos hr]
  exact this
 ·rw [if_neg hr]
  exact⟨h.ne,h.bot,h.cnt,h.lev,by have:=h.deep;simp only;omega,by have:=h.emb;simp only;omega,by have:=h.len;simp only;omega,by have:=h.opn;simp only;omega⟩
theorem LPile.begin_ok (base i:Nat) (hb:base≤125):(⟨[⟨base,-1,false⟩],0,0,0⟩:LPile).Ok i :=
 ⟨by simp,rfl,rfl,fun s hs=>by simp at hs;subst hs;exact⟨hb,by simp,by simp⟩,Nat.zero_le _,Nat.zero_le _,by simp,Nat.zero_le _⟩
theorem LPile.Ok.step {P:LPile} {i:Nat} (h:P.Ok i) (base:Nat) (hb:base≤125) (ds:List Int) (j:Nat):(P.step base ds j).1.Ok (i+1):=by
 unfold LPile.step
 simp only
 split
 ·exact h.embed _
 split
 ·exact h.isolate _
 split
 ·exact h.close
 split
 ·exact h.fin
 split
 ·exact h.mono (by omega)
 split
 ·exact LPile.begin_ok base _ hb
 ·exact h.mono (by omega)
end
section
theorem LPile.Ok.said {P:LPile} {i:Nat} (h:P.Ok i) (d:Int) (h0:0≤d) (h1:d≤22):0≤P.said d∧P.said d≤22:=by
 have:=h.top
 unfold LPile.said
 split <;> omega
theorem LPile.Ok.step_bd {P:LPile} {i:Nat} (h:P.Ok i) (base:Nat) (hb:base≤125) (ds:List Int) (j:Nat):(P.step base ds j).2.1≤125∧0≤(P.step base ds j).2.2∧(P.step base ds j).2.2≤22:=by
 have hk:=lkn_bd (ith ds j)
 have t:=h.top.1
 have s:=h.said (lkn (ith ds j)) hk.1 hk.2
 unfold LPile.step
 simp only
 split
 ·exact⟨t,by simp,by simp⟩
 split
 ·exact⟨t,s⟩
 split
 ·exact⟨h.close.top.1,h.close.said _ hk.1 hk.2⟩
 split
 ·exact⟨h.fin.top.1,by simp,by simp⟩
 split
 ·exact⟨t,by simp,by simp⟩
 split
 ·exact⟨hb,by simp,by simp⟩
 ·exact⟨t,s⟩
theorem levF_ok (base:Nat) (hb:base≤125) (ds:List Int):∀(m i:Nat) (P:LPile) (ls:List Nat) (ks:List Int),P.Ok i→ls.length=i→ks.length=i→(∀l∈ls,l≤125)→(∀k∈ks,0≤k∧k≤22) →
 (levF base ds m i P ls ks).1.length=i+m∧(levF base ds m i P ls ks).2.length=i+m∧(∀l∈(levF base ds m i P ls ks).1,l≤125)∧(∀k∈(levF base ds m i P ls ks).2,0≤k∧k≤22)
 | 0,i,P,ls,ks,h,h1,h2,h3,h4=>⟨h1,h2,h3,h4⟩
 | m+1,i,P,ls,ks,h,h1,h2,h3,h4=>by
   rw [levF,show i+(m+1)=(i+1)+m by omega]
   have hs:=h.step_bd base hb ds i
   refine levF_ok base hb ds m (i+1) _ _ _ (h.step base hb ds i) (by simp [h1]) (by simp [h2]) (fun l hl=>?_) fun k hk=>?_
   ·rw [List.mem_append,List.mem_singleton] at hl
    rcases hl with hl | rfl
    ·exact h3 l hl
    ·exact hs.1
   ·rw [List.mem_append,List.mem_singleton] at hk
    rcases hk with hk | rfl
    ·exact h4 k hk
    ·exact hs.2
theorem levI_ok (ds:List Int) (base:Nat):(levI ds base).1.length=ds.length∧(levI ds base).2.length=ds.length∧(∀l∈(levI ds base).1,l≤125)∧(∀k∈(levI ds base).2,0≤k∧k≤22):=by
 have:=levF_ok (min base 125) (by omega) ds ds.length 0 ⟨[⟨min base 125,-1,false⟩],0,0,0⟩ [] [] (LPile.begin_ok _ 0 (by omega)) rfl rfl (fun l hl=>by simp at hl) (fun k hk=>by simp at hk)
 rw [Nat.zero_add] at this
 exact this
end
end Go.Proofs.YtlmjbfncopbilaaGreatDoor
