/- Lemmas, part 10: no further condition than each states. -/
import Derived.Test.YtncplikdjcmoeaaGreatDoorQ09
namespace Go.Proofs.YtncplikdjcmoeaaGreatDoor
set_option linter.unusedVariables false
set_option linter.unusedSimpArgs false
set_option maxRecDepth 100000
set_option maxHeartbeats 4000000
section
theorem mem_piece (s:ByteArray):∀(f a:Nat),a≤s.size→∀q∈piecesF s f a,q.2=s.extract q.1 (q.1+q.2.size)
 | 0,a,ha,q,b=>by simp [piecesF] at b
 | f+1,a,ha,q,b=>by
   rw [piecesF] at b;by_cases h:a<s.size
   ·rw [Zg h] at b;have c:=yJ s a ha;have d:=yY (s.extract a s.size) (by omega);rcases zX.1 b with rfl | b
    ·have:(s.extract a (a+nextI (s.extract a s.size))).size=nextI (s.extract a s.size):=(by simp [ZV];omega);show _=s.extract a (a+(s.extract a (a+nextI (s.extract a s.size))).size);rw [this]
    ·exact mem_piece s f _ (by omega) q b
   ·rw [Zf h] at b;cases b
theorem mem_inPs {s:ByteArray} {fr a:Nat} {q:Nat × ByteArray} (h:q∈inPs s fr a):q.2=s.extract q.1 (q.1+q.2.size) :=
 mem_piece s s.size 0 (zd _) q (List.mem_filter.1 h).1
theorem yD5:∀(a:List (Nat × ByteArray)) (n:Nat),(findF a n).length=a.length
 | [],_=>rfl
 | p::t,n=>by rw [findF,zb,yD5 t,zb]
theorem findF_get:∀(a:List (Nat × ByteArray)) (n i:Nat) (p:Nat × ByteArray),a[i]? = some p →
 (findF a n)[i]? = some (pc0 p.1 p.2.size (n+(((a.take i).map (·.2)).flatMap yE).length) (n+(((a.take i).map (·.2)).flatMap yE).length+(yE p.2).length))
 | [],n,i,p,h=>by simp at h
 | q::t,n,0,p,h=>by
   have:q=p:=(by simpa using h);subst this;simp [findF]
 | q::t,n,i+1,p,h=>by
   rw [findF,zA,findF_get t _ i p (by simpa using h),Zm,Zd,ZK,zJ,←qz]
theorem yO9:∀(a:List (Nat × ByteArray)) (n:Nat) (p:Nat × ByteArray),
 findF (a++[p]) n=findF a n++[pc0 p.1 p.2.size (n+((a.map (·.2)).flatMap yE).length) (n+((a.map (·.2)).flatMap yE).length+(yE p.2).length)]
 | [],n,p=>by simp [findF]
 | q::t,n,p=>by
   rw [zo,findF,yO9 t,findF,zo,Zd,ZK,zJ,←qz]
theorem take_mid {α:Type} (A B C:List α):((A++B++C).drop A.length).take B.length=B:=by
 rw [zZ,List.drop_left,List.take_left]
theorem found_get {s:ByteArray} {fr b k m:Nat} (n:yQ s fr k) (o:yQ s b m) (h:fr≤b) (i:Nat) (p:Pc) (c:(yAo s fr b)[i]? = some p) :
 fr≤p.a∧p.a+p.size≤b∧0<p.size∧p=pc0 p.a p.size p.c0 p.c1∧p.c0<p.c1∧p.c1≤(yE (s.extract fr b)).length ∧
  ((yE (s.extract fr b)).drop p.c0).take (p.c1-p.c0)=yE (s.extract p.a (p.a+p.size))∧(i+1=(yAo s fr b).length→p.c1=(yE (s.extract fr b)).length):=by
 obtain⟨_,r,_,t,_⟩:=yD6 n o h;have u:yE (s.extract fr b)=((inPs s fr b).map (·.2)).flatMap yE:=by rw [yJa (s.extract fr b),r]
 unfold yAo at c ⊢;have v:i<(inPs s fr b).length:=by
  have:=(zG.1 c).1
  rwa [yD5] at this
 rw [yD5];obtain⟨q,d⟩:∃q,(inPs s fr b)[i]? = some q:=⟨_,zF v⟩;have f:q∈inPs s fr b:=zS d;obtain⟨w,x,g⟩:=t q f;have y:=mem_inPs f;rw [findF_get _ 0 i q d] at c;have c:=(zu c).symm;have z:inPs s fr b=(inPs s fr b).take i++[q]++(inPs s fr b).drop (i+1):=by
  have j:=zw (i+1) (inPs s fr b);rw [qS,d] at j;exact j.symm
 have l:yE (s.extract fr b)=(((inPs s fr b).take i).map (·.2)).flatMap yE++yE q.2++(((inPs s fr b).drop (i+1)).map (·.2)).flatMap yE:=by
  rw [u]
  conv=>lhs;rw [z]
  simp
 have e:=Zb List.length l;rw [zJ,zJ] at e;have A:=runesI_pos2 q.2 g;subst c;refine⟨w,x,g,rfl,?_,?_,?_,fun B=>?_⟩
 ·show 0+_<0+_+_;omega
 ·show 0+_+_≤_;omega
 ·show ((yE (s.extract fr b)).drop (0+_)).take (0+_+(yE q.2).length-(0+_))=yE (s.extract q.1 (q.1+q.2.size));rw [l,←y,Za,Nat.add_sub_cancel_left];exact take_mid _ _ _
 ·show 0+_+_=_;have:(inPs s fr b).drop (i+1)=[]:=ql (by omega);rw [this] at e;simp at e;simp;omega
theorem rowI_some (cs:List Int) (b:List Nat) (base a m:Nat) (f:a+m≤cs.length) (g:b.length=cs.length):∃l,rowI cs b base (a:Int) ((a+m:Nat):Int)=some l∧l.length=m:=by
 have c:min cs.length b.length=cs.length:=by omega
 have d:yB6 cs.length (a:Int)=a:=by unfold yB6;omega
 have e:yB6 cs.length ((a+m:Nat):Int)=a+m:=by unfold yB6;omega
 unfold rowI;simp only [c,d,e];rw [Zf (by omega)];refine⟨_,rfl,?_⟩;rw [yM1,za,zy];omega
end
section
open Go.RowKit Go.Great
def yCr:List (Int × Int):=[(0,0),(768,4),(880,0),(1155,4),(1162,0),(1425,4),(1470,0),(1471,4),(1472,0),(1473,4),(1475,0),(1476,4),(1478,0),(1479,4),(1480,0),(1552,4),(1563,0),(1570,1),(1574,2),(1575,1),(1576,2),(1577,1),(1578,2),(1583,1),(1587,2),(1595,0),(1600,3),(1601,2),(1608,1),(1610,2),(1611,4),(1632,0),(1648,4),(1649,0),(1750,4),(1757,0),(1759,4),(1765,0),(1767,4),(1769,0),(1770,4),(1774,0),(3633,4),(3634,0),(3636,4),(3643,0),(3655,4),(3663,0),(6832,4),(6912,0),(7616,4),(7680,0),(8205,3),(8206,0),(8400,4),(8448,0),(12330,4),(12334,0),(12441,4),(12443,0),(65024,4),(65040,0),(65056,4),(65072,0)]
theorem yJ3:yCr.length=64:=by as_aux_lemma=>kernel_rfl
theorem joins_any (r:Int) (w:World) :
 Calls Tryz.prog 221 #[.int .i32 r] w (yJd yCr (yAv r) w):=by
 refine calls_of_wp Tryz.func221 rfl ?_;refine yB4 75 (.int .i32 r) (by as_aux_lemma=>kernel_rfl) rfl (by as_aux_lemma=>kernel_rfl) fun i d e h0=>?_;apply wp_seq_k;intro j f;apply JX;refine yA4 rfl (some 2) rfl _ (.inr rfl) ?_;refine yA4 rfl (some 3) rfl _ (.inr rfl) ?_;apply wpList_nil;refine f _ _ ?_;refine yB4 75 (.int .i32 r) (by simp only [qi,d]) (by simp only [Act.defers_put',e]) (by rw [qg _ _ _ _ (by decide),qg _ _ _ _ (by decide),h0]) fun t a k l=>?_;clear f j h0 e d i;apply wp_seq_k;intro m g;apply JX;refine wpList_splitAt 64 (yNf 247 (yJs Tryz.f221) 5 yCr) (by as_aux_lemma=>kernel_rfl) ?_;refine yD7 247 (yJs Tryz.f221) (fun _ _=>by as_aux_lemma=>kernel_rfl) yCr 5 _ (by rw [yJ3,a];decide) fun c b n o p=>?_;refine yBr rfl 320 247 64 _ yCr rfl 5 (some 69) rfl (by as_aux_lemma=>kernel_rfl) (by as_aux_lemma=>kernel_rfl) (by as_aux_lemma=>kernel_rfl) (by as_aux_lemma=>kernel_rfl) o ?_;refine yB5 rfl (some 4) rfl 320 rfl w.heap.size rfl (((Tryz.prog.info? 320).bind (·.zero)).getD undef) (by as_aux_lemma=>kernel_rfl) ?_;have h:(yy yCr).toArray.size=128:=by rw [qW,yCx,yJ3]
 have u:w.heap.size<(w.alloc (.cells (((Tryz.prog.info? 320).bind (·.zero)).getD undef).cells 320)).heap.size:=by simp
 refine wpList_store_row rfl 320 (.tmp 4) (.tmp 69) rfl w.heap.size (yy yCr).toArray
  (qh _ _ _ (by simp only [qi,b,a];decide)) (by rw [qg _ _ _ _ (by decide),qh _ _ _ (by simp only [b,a];decide)])
  320 _ (JS w _) (by rw [h];as_aux_lemma=>kernel_rfl) (by rw [h];as_aux_lemma=>kernel_rfl) (yFk _) ?_
 apply wpList_nil;refine g _ _ ?_;clear g m;have q:((((c.put (some 69) (.agg (yy yCr).toArray)).put (some 4) (.pointer (some ⟨w,0,none⟩)))).put none undef).eval (.tmp 4)=.pointer (some ⟨w,0,none⟩) :=
  qh _ _ _ (by simp only [qi,b,a];decide)
 have s:((((c.put (some 69) (.agg (yy yCr).toArray)).put (some 4) (.pointer (some ⟨w,0,none⟩)))).put none undef).eval (.tmp 0)=.int .i32 r:=by
  show ((c.put (some 69) (.agg (yy yCr).toArray)).put (some 4) (.pointer (some ⟨w,0,none⟩))).eval (.tmp 0)=_;rw [qg _ _ _ _ (by decide),qg _ _ _ _ (by decide),p 0 (by decide),l]
 exact yH2 yCr 64 75 70 4 320 247 r w _ _ _ _ _ _ _ _ _ _ yJ3 (by decide) (by decide) (by simp only [qi,b,a]) (by simp only [Act.defers_put',n,k]) q s (by decide) (by decide)
  (by as_aux_lemma=>kernel_rfl) (by as_aux_lemma=>kernel_rfl) (setRow_heap _ _ _ _ _ _ (JS w _)) (yD0 w _ _) rfl
  rfl rfl rfl rfl rfl rfl rfl rfl (fun x=>by rw [execOp_call_go];simp) rfl rfl rfl rfl rfl rfl rfl rfl rfl rfl rfl rfl
theorem joins_val (r:Int) (w:World):Calls Tryz.prog 221 #[.int .i32 r] w fun e w'=>∃x y:Int,x=yBh yCr (yAv r)∧0≤x∧x≤127∧e=.returned (.tuple #[.int .u8 x,.int .i32 y])∧Below w w w':=by
 refine (joins_any r w).mono fun e w1 h=>?_;obtain⟨low,b,c,d,f,g⟩:=h;have i:yGa yCr=true:=by as_aux_lemma=>kernel_rfl
 have j:yF4 yCr=true:=by as_aux_lemma=>kernel_rfl
 have a:=yEf i low;exact⟨_,_,(yDy yCr low (yAv r) j b c d).symm,a.1,a.2,f,g⟩
def yDr (r:Int):Int:=yBh yCr (yAv r)
theorem yLu (r:Int) (w:World) :
 Calls Tryz.prog 200 #[.int .i32 r] w fun e w'=>e=.returned (.int .i8 (yDr r))∧Below w w w':=by
 go_enter Tryz.func200,Tryz.ntmps200;go_wp2_with (go_at_call 221;refine (joins_val r w).mono ?_;rintro e w1 ⟨x,y,rfl,h0,b,rfl,a⟩);go_ret;exact⟨yK rfl,a⟩
def yFt:List Int:=[0xfe80,0xfe81,0xfe83,0xfe85,0xfe87,0xfe89,0xfe8d,0xfe8f,0xfe93,0xfe95,0xfe99,0xfe9d,0xfea1,0xfea5,0xfea9,0xfeab,0xfead,0xfeaf,0xfeb1,0xfeb5,0xfeb9,0xfebd,0xfec1,0xfec5,0xfec9,0xfecd,0,0,0,0,0,0,0xfed1,0xfed5,0xfed9,0xfedd,0xfee1,0xfee5,0xfee9,0xfeed,0xfeef,0xfef1]
def yGu (r:Int):Int:=if r<1569∨1610<r then 0 else yFt.getD (r-1569).toNat 0
def yH3 (r form:Int):Int :=
 if yGu r=0 then r
 else if yDr r=2 then (if form=3 then yGu r+1 else if form=1 then yGu r+2 else if form=2 then yGu r+3 else yGu r)
 else if yDr r=1 then (if form=3∨form=2 then yGu r+1 else yGu r)
 else yGu r
def fstC:Array Value:=(yFt.map (Value.int .u16)).toArray
theorem fsts_bd (k:Nat):0≤yFt.getD k 0∧yFt.getD k 0≤65265:=by
 by_cases h:k<42
 ·have:∀j:Fin 42,0≤yFt.getD j.1 0∧yFt.getD j.1 0≤65265:=(by decide);exact this ⟨k,h⟩
 ·rw [zI,qD (by show 42≤k;omega)];decide
theorem fst_bd (r:Int):0≤yGu r∧yGu r≤65265:=by
 unfold yGu;split
 ·decide
 ·exact fsts_bd _
theorem jFirst_any (r:Int) (w:World) :
 Calls Tryz.prog 201 #[.int .i32 r] w fun e w'=>e=.returned (.int .i32 (yGu r))∧Below w w w':=by
 go_enter Tryz.func201,Tryz.ntmps201;go_upto_region 1 with fail;apply JX;refine wpList_buildTo rfl 302 _ rfl (some 4) rfl fstC (by as_aux_lemma=>kernel_rfl) ?_;refine yB5 rfl (some 3) rfl 302 rfl w.heap.size rfl (((Tryz.prog.info? 302).bind (·.zero)).getD undef) (by as_aux_lemma=>kernel_rfl) ?_;refine wpList_store_rowTo rfl 302 (.tmp 3) (.tmp 4) rfl rfl w.heap.size fstC rfl rfl 302 _ (JS w _) (by as_aux_lemma=>kernel_rfl) (by as_aux_lemma=>kernel_rfl) (by as_aux_lemma=>kernel_rfl) ?_;apply wpList_nil;rename_i l;have a:=setRow_heap _ _ _ fstC _ _ (JS w (.cells (((Tryz.prog.info? 302).bind (·.zero)).getD undef).cells 302));have b:=yD0 w (.cells (((Tryz.prog.info? 302).bind (·.zero)).getD undef).cells 302) fstC;simp only [Act.put];generalize World.setRow _ _ _=w1 at a b ⊢;refine l _ _ ?_;clear l;simp only [zg,zi,zh];have m:w.heap.size<w1.heap.size:=(zH.1 a).1;obtain⟨B,c⟩:=nm (w.heap.size);rw [c] at a m;have d:Below w w w1:=b;rw [c] at d;have g:=lh b;have h:=lh d;have n:=lh a;rw [c];clear b d a;generalize Value.agg fstC=v4;by_cases o:r<1569
 ·go_wp2;go_ret;exact⟨yK (by unfold yGu;rw [Zg (.inl o)]),by first | exact g.out | exact h.out⟩
 by_cases p:1610<r
 ·go_wp2;go_ret;exact⟨yK (by unfold yGu;rw [Zg (.inr p)]),by first | exact g.out | exact h.out⟩
 obtain⟨k,i⟩:∃k:Nat,r=1569+k:=⟨(r-1569).toNat,by omega⟩;subst i;have i:k<42:=by omega
 have q:w1.cell? ⟨B,k,none⟩=some (.int .u16 (yGu (1569+k))):=by
  have e:fstC[k]? = some (.int .u16 (yFt.getD k 0)):=by
   unfold fstC;rw [zC,zm,zI,zF (show k<yFt.length from i)];rfl
  unfold yGu;rw [Zf (by omega),show ((1569:Int)+k-1569).toNat=k by omega];simp [World.cell?,n.out,e]
 have s:=fst_bd (1569+k);obtain⟨f,j⟩:=nm (yGu (1569+k));rw [j] at q s;have t:=lh j;clear j;have u:IntKind.i32.wrap ((1569:Int)+k-1569)=k:=by rw [IntKind.wrap_i32];omega
 have v:(k:Int)<42:=by omega
 go_wp2;go_ret;exact⟨yK (by rw [t.out]),by first | exact g.out | exact h.out⟩
theorem Shape_any (r a:Int) (w:World) :
 Calls Tryz.prog 169 #[.int .i32 r,.int .i8 a] w fun e w'=>e=.returned (.int .i32 (yH3 r a))∧Below w w w':=by
 obtain⟨V,k⟩:=nm (yH3 r a);rw [k];unfold yH3 at k;have x:=fst_bd r;have s:Hid (∀W:World,Calls Tryz.prog 201 #[.int .i32 r] W fun e w'=>e=.returned (.int .i32 (yGu r))∧Below W W w'):=lh fun W=>jFirst_any r W;have t:Hid (∀W:World,Calls Tryz.prog 200 #[.int .i32 r] W fun e w'=>e=.returned (.int .i8 (yDr r))∧Below W W w'):=lh fun W=>yLu r W;generalize yGu r=f at k x s;generalize yDr r=j at k t;have b:=lh k;clear k;go_enter Tryz.func169,Tryz.ntmps169;go_upto_region 2 with (go_at_call 201;refine (s.out _).mono ?_;rintro e w1 ⟨rfl,m⟩);by_cases n:f=0
 ·subst n;go_wp2;go_ret;exact⟨yK (by rw [←b.out];simp),m⟩
 ·have A:(f==0)=false:=(by rw [zN];exact n);go_upto_region 5 with (go_at_call 200;refine (t.out _).mono ?_;rintro e B ⟨rfl,u⟩);have v:=m.trans (u.mono m.size);have g:=lh v;have h:=lh n;clear m u v n;have C:V=V:=rfl;by_cases o:j=2
  ·subst o;by_cases c:a=3
   ·subst c;go_wp2;go_ret;exact⟨yK (by rw [←b.out];simp [h.out]),g.out⟩
   by_cases p:a=1
   ·subst p;go_wp2;go_ret;exact⟨yK (by rw [←b.out];simp [h.out]),g.out⟩
   by_cases d:a=2
   ·subst d;go_wp2;go_ret;exact⟨yK (by rw [←b.out];simp [h.out]),g.out⟩
   ·have y:(a==3)=false:=(by rw [zN];exact c);have D:(a==1)=false:=(by rw [zN];exact p);have z:(a==2)=false:=(by rw [zN];exact d);have i:V=f:=(by rw [←b.out];simp [h.out,p,d,c]);have l:=lh i;clear p d c i;go_wp2;go_ret;exact⟨yK l.out.symm,g.out⟩
  ·have E:(j==2)=false:=(by rw [zN];exact o);by_cases q:j=1
   ·subst q;by_cases c:a=3
    ·subst c;go_wp2;go_ret;exact⟨yK (by rw [←b.out];simp [h.out]),g.out⟩
    by_cases d:a=2
    ·subst d;go_wp2;go_ret;exact⟨yK (by rw [←b.out];simp [h.out]),g.out⟩
    ·have y:(a==3)=false:=(by rw [zN];exact c);have z:(a==2)=false:=(by rw [zN];exact d);have i:V=f:=(by rw [←b.out];simp [h.out,d,c]);have l:=lh i;clear d c i;go_wp2;go_ret;exact⟨yK l.out.symm,g.out⟩
   ·have F:(j==1)=false:=(by rw [zN];exact q);have i:V=f:=(by rw [←b.out];simp [h.out,q,o]);have l:=lh i;clear q o i;go_wp2;go_ret;exact⟨yK l.out.symm,g.out⟩
end
section
open Go.RowKit
def yEh (cs fs:List Int) (last:Int) (i:Nat):List Int × Int :=
 if yDr (yH cs i)=4 then (fs,last)
 else if yDr (yH cs i)=1∨yDr (yH cs i)=2∨yDr (yH cs i)=3 then
  if last<0 then (fs,i)
  else if yDr (yH cs last.toNat)≠2∧yDr (yH cs last.toNat)≠3 then (fs,i)
  else if yDr (yH cs last.toNat)=2 then
   ((if yDr (yH cs i)≠3 then fs.set i 3 else fs).set last.toNat (if yH (if yDr (yH cs i)≠3 then fs.set i 3 else fs) last.toNat=3 then 2 else 1),i)
  else (if yDr (yH cs i)≠3 then fs.set i 3 else fs,i)
 else (fs,i)
def yAf (cs:List Int):Nat→List Int × Int
 | 0=>(List.replicate cs.length 0,-1)
 | n+1=>yEh cs (yAf cs n).1 (yAf cs n).2 n
def yFm (cs:List Int):List Int:=(yAf cs cs.length).1
theorem formStep_len (cs a:List Int) (last:Int) (i:Nat):(yEh cs a last i).1.length=a.length:=by
 unfold yEh
 repeat' split
 all_goals simp
theorem formStep_last (cs a:List Int) (last:Int) (i:Nat):(yEh cs a last i).2=last∨(yEh cs a last i).2=i:=by
 unfold yEh
 repeat' split
 all_goals simp
theorem yG4 (cs:List Int):∀n,(yAf cs n).1.length=cs.length
 | 0=>by simp [yAf]
 | n+1=>by rw [yAf,formStep_len,yG4 cs n]
theorem yM8 (cs:List Int):∀n:Nat,-1≤(yAf cs n).2∧(yAf cs n).2<(n:Int)
 | 0=>by simp [yAf]
 | n+1=>by
   have h:=yM8 cs n;rw [yAf];rcases formStep_last cs (yAf cs n).1 (yAf cs n).2 n with e | e <;> (rw [e];omega)
theorem formsI_len (cs:List Int):(yFm cs).length=cs.length:=yG4 cs _
def FormsPost (cs:List Int) (n:Nat) (w:World) (e:Ending) (w':World):Prop :=
 e=.returned (.slice (some ⟨w,0,none⟩) n n)∧yG .i8 22 w' w.heap.size (some ⟨w,0,none⟩) n (yFm cs)∧Below w w w'
theorem Forms_any (a:Option Addr) (cs:List Int) (n c:Nat) (w:World) (hl:cs.length=n) (hd:Rd .i32 w a cs) (hn:n≤2097152) :
 Calls Tryz.prog 168 #[.slice a n c] w (FormsPost cs n w):=by
 obtain⟨i3,c1,c2,c3,r⟩:=info_parts (Tryz.info_i8);have K:=lh hl;have b3:yFm cs=(yAf cs n).1:=by unfold yFm;rw [hl]
 have c4:=lh b3;have c5:=run_make_row (P:=Tryz.prog) 123 22 i3 (.int .i8 0) Tryz.underlying123 c1 c2 c3 rfl .i64 .i64 n (by rw [r];omega) (by omega);clear hl b3;go_enter Tryz.func168,Tryz.ntmps168;go_wp2;refine wp_scope_straight ?_;go_wp2;clear c5;refine wp_label ?_;go_wp2;have b4:yG .i8 22 (w.alloc (.cells (madeCells #[.int .i8 0] n) 22)) w.heap.size (some ⟨w,0,none⟩) n (yAf cs 0).1 :=
  yCj ((JQ w (.int .i8 0) n 22).congr fun i hi=>by
   rw [yAf];unfold yH;simp [K.out,hi]) ((yG4 cs 0).trans K.out) (zT _) (by unfold maxLen;omega)
 have b5:=(Zc w.heap.size w).alloc (zT _) (.cells (madeCells #[.int .i8 0] n) 22);go_loopw [4,5,6,7,8,14] (fun u4 _ _ _ _ u wx=>∃i:Nat,i≤n∧u=.int .i64 i∧u4=.int .i64 (yAf cs i).2∧yG .i8 22 wx w.heap.size (some ⟨w,0,none⟩) n (yAf cs i).1∧Below w w wx) (fun _ _ _ _ _ u _=>n-(intOf u).toNat)
 case atStart=>exact⟨0,by omega,rfl,rfl,b4,b5⟩
 case round =>
  obtain⟨i,hi,rfl,rfl,M,Q⟩:=hrel;clear b4 b5;by_cases b6:i<n
  ·obtain⟨G,o,rfl,hG,b7⟩:=hd.at Q i (by rw [K.out];exact b6);obtain⟨j,a0⟩:=nm ((yAf cs i).1);obtain⟨L,hL⟩:=nm ((yAf cs i).2);have s:yAf cs (i+1)=yEh cs j L i:=(by rw [yAf,a0,hL]);have b8:j.length=n:=(by rw [←a0,yG4,K.out]);have c6:=yM8 cs i;rw [hL] at c6 ⊢;rw [a0] at M;obtain⟨y,hy⟩:=nm (yH cs i);rw [hy] at b7;obtain⟨k,hk⟩:=nm (yDr y);unfold yEh at s;rw [hy,hk] at s;have HJ:Hid (∀W,Calls Tryz.prog 200 #[.int .i32 y] W fun e w'=>e=.returned (.int .i8 k)∧Below W.heap.size W w'):=lh fun W=>hk▸yLu y W;have m:=lh s;have HO:=lh M;have a6:=lh Q;have N:=lh b8;have d7:(0:Int)≤(i:Int):=(by omega);have d8:(i:Int)<(n:Int):=(by omega);clear a0 hL s M Q b8 hy hk;go_upto_region 7 with (go_at_call 200;refine (HJ.out _).mono ?_;rintro e w1 ⟨rfl,a7⟩);have b9:=HO.out.keep a7;have c0:=a6.out.trans (a7.mono a6.out.size);have v:=lh b9;have q:=lh c0;clear b7 a7 b9 c0 HO a6 HJ;by_cases O:k=4
   ·subst O;have d:yAf cs (i+1)=(j,L):=(by rw [m.out,Zg rfl]);have f:=lh d;clear d;go_wp2;go_roundw
    case rel=>exact⟨i+1,by omega,by go_num,by rw [f.out],by rw [f.out];exact v.out,q.out⟩
    case measure=>simp [intOf];omega
   by_cases a1:k=1∨k=2
   ·rcases a1 with rfl | rfl
    all_goals
     clear O;by_cases a8:L<0
     ·have a9:=lh a8;have d:yAf cs (i+1)=(j,(i:Int)):=(by rw [m.out];simp [a9.out]);have f:=lh d;clear d;go_wp2;go_roundw
      case rel=>exact⟨i+1,by omega,by go_num,by rw [f.out],by rw [f.out];exact v.out,q.out⟩
      case measure=>simp [intOf];omega
     obtain⟨l,rfl⟩:∃l:Nat,L=l:=⟨L.toNat,by omega⟩;have c7:l<i:=(by omega);have c8:(0:Int)≤(l:Int):=(by omega);have c9:(l:Int)<(n:Int):=(by omega);obtain⟨G2,o2,e2,d0,R⟩:=hd.at q.out l (by rw [K.out];omega);cases e2;obtain⟨z,C⟩:=nm (yH cs l);rw [C] at R;obtain⟨b,D⟩:=nm (yDr z);have s:=m.out;rw [ZC,C,D] at s;have S:Hid (∀W,Calls Tryz.prog 200 #[.int .i32 z] W fun e w'=>e=.returned (.int .i8 b)∧Below W.heap.size W w'):=lh fun W=>D▸yLu z W;clear m C D;have m:=lh s;clear s;go_upto_region 14 with (go_at_call 200;refine (S.out _).mono ?_;rintro e w2 ⟨rfl,g⟩);have T:=v.out.keep g;have U:=q.out.trans (g.mono q.out.size);have t:=lh T;have B:=lh U;clear R g T U v q S;by_cases g:b=2
     ·subst g;obtain⟨_,E,_,_,x,V,_,_⟩:=t.out.at i (by rw [N.out];omega);cases E;generalize yH j i=vi at x;have h:=t.out.set i 3;have F:=B.out.setCell (p:=⟨w.heap.size,i,none⟩) (zT _) (.int .i8 3);go_upto_region 17 with fail;clear x V;generalize w2.setCell _ _=w3 at h F ⊢;have X:=lh h;have a2:=lh F;clear h F;obtain⟨_,E,_,_,x,V,_,_⟩:=X.out.at l (by first | (rw [N.out];omega) | (rw [ZQ,N.out];omega));cases E;obtain⟨Y,H⟩:=nm (yH (j.set i 3) l);rw [H] at x;have Z:=lh H;clear H;by_cases A:Y=3
      ·subst A;have h:=yG.set X.out l 2;have I:=lh h;have J:=lh (a2.out.setCell (p:=⟨w.heap.size,l,none⟩) (zT _) (.int .i8 2));clear h;have d:yAf cs (i+1)=((j.set i 3).set l 2,(i:Int)):=(by rw [m.out];simp [show ¬ ((l:Int)<0) from by omega,Z.out]);have f:=lh d;clear d;go_wp2;go_roundw
       case rel=>exact⟨i+1,by omega,by go_num,by rw [f.out],by rw [f.out];exact I.out,J.out⟩
       case measure=>simp [intOf];omega
      ·have d1:(Y==3)=false:=(by rw [zN];exact A);have h:=yG.set X.out l 1;have I:=lh h;have J:=lh (a2.out.setCell (p:=⟨w.heap.size,l,none⟩) (zT _) (.int .i8 1));clear h;have b0:=lh A;clear A;have d:yAf cs (i+1)=((j.set i 3).set l 1,(i:Int)):=(by rw [m.out];simp [show ¬ ((l:Int)<0) from by omega,Z.out,b0.out]);have f:=lh d;clear d;go_wp2;go_roundw
       case rel=>exact⟨i+1,by omega,by go_num,by rw [f.out],by rw [f.out];exact I.out,J.out⟩
       case measure=>simp [intOf];omega
     by_cases r:b=3
     ·subst r;clear g;obtain⟨_,E,_,_,x,V,_,_⟩:=t.out.at i (by rw [N.out];omega);cases E;generalize yH j i=vi at x;have h:=t.out.set i 3;have F:=B.out.setCell (p:=⟨w.heap.size,i,none⟩) (zT _) (.int .i8 3);go_upto_region 17 with fail;clear x V;generalize w2.setCell _ _=w3 at h F ⊢;have X:=lh h;have a2:=lh F;clear h F;have d:yAf cs (i+1)=(j.set i 3,(i:Int)):=(by rw [m.out];simp [show ¬ ((l:Int)<0) from by omega]);have f:=lh d;clear d;go_wp2;go_roundw
      case rel=>exact⟨i+1,by omega,by go_num,by rw [f.out],by rw [f.out];exact X.out,a2.out⟩
      case measure=>simp [intOf];omega
     have d2:(b==2)=false:=(by rw [zN];exact g);have d3:(b==3)=false:=(by rw [zN];exact r);have d4:(b != 2)=true:=(by simp [g]);have d5:(b != 3)=true:=(by simp [r]);have b1:=lh g;have b2:=lh r;clear g r;have d:yAf cs (i+1)=(j,(i:Int)):=(by rw [m.out];simp [b1.out,b2.out,show ¬ ((l:Int)<0) from by omega]);have f:=lh d;clear d;go_wp2;go_roundw
     case rel=>exact⟨i+1,by omega,by go_num,by rw [f.out],by rw [f.out];exact t.out,B.out⟩
     case measure=>simp [intOf];omega
   have a3:¬ k=1:=fun e=>a1 (.inl e);have a4:¬ k=2:=fun e=>a1 (.inr e);clear a1;by_cases a5:k=3
   ·subst a5;clear O a3 a4;by_cases a8:L<0
    ·have a9:=lh a8;have d:yAf cs (i+1)=(j,(i:Int)):=(by rw [m.out];simp [a9.out]);have f:=lh d;clear d;go_wp2;go_roundw
     case rel=>exact⟨i+1,by omega,by go_num,by rw [f.out],by rw [f.out];exact v.out,q.out⟩
     case measure=>simp [intOf];omega
    obtain⟨l,rfl⟩:∃l:Nat,L=l:=⟨L.toNat,by omega⟩;have c7:l<i:=(by omega);have c8:(0:Int)≤(l:Int):=(by omega);have c9:(l:Int)<(n:Int):=(by omega);obtain⟨G2,o2,e2,d0,R⟩:=hd.at q.out l (by rw [K.out];omega);cases e2;obtain⟨z,C⟩:=nm (yH cs l);rw [C] at R;obtain⟨b,D⟩:=nm (yDr z);have s:=m.out;rw [ZC,C,D] at s;have S:Hid (∀W,Calls Tryz.prog 200 #[.int .i32 z] W fun e w'=>e=.returned (.int .i8 b)∧Below W.heap.size W w'):=lh fun W=>D▸yLu z W;clear m C D;have m:=lh s;clear s;go_upto_region 14 with (go_at_call 200;refine (S.out _).mono ?_;rintro e w2 ⟨rfl,g⟩);have T:=v.out.keep g;have U:=q.out.trans (g.mono q.out.size);have t:=lh T;have B:=lh U;clear R g T U v q S;by_cases g:b=2
    ·subst g;go_upto_region 17 with fail;obtain⟨_,E,_,_,x,V,_,_⟩:=t.out.at l (by first | (rw [N.out];omega) | (rw [ZQ,N.out];omega));cases E;obtain⟨Y,H⟩:=nm (yH (j) l);rw [H] at x;have Z:=lh H;clear H;by_cases A:Y=3
     ·subst A;have h:=yG.set t.out l 2;have I:=lh h;have J:=lh (B.out.setCell (p:=⟨w.heap.size,l,none⟩) (zT _) (.int .i8 2));clear h;have d:yAf cs (i+1)=((j).set l 2,(i:Int)):=(by rw [m.out];simp [show ¬ ((l:Int)<0) from by omega,Z.out]);have f:=lh d;clear d;go_wp2;go_roundw
      case rel=>exact⟨i+1,by omega,by go_num,by rw [f.out],by rw [f.out];exact I.out,J.out⟩
      case measure=>simp [intOf];omega
     ·have d1:(Y==3)=false:=(by rw [zN];exact A);have h:=yG.set t.out l 1;have I:=lh h;have J:=lh (B.out.setCell (p:=⟨w.heap.size,l,none⟩) (zT _) (.int .i8 1));clear h;have b0:=lh A;clear A;have d:yAf cs (i+1)=((j).set l 1,(i:Int)):=(by rw [m.out];simp [show ¬ ((l:Int)<0) from by omega,Z.out,b0.out]);have f:=lh d;clear d;go_wp2;go_roundw
      case rel=>exact⟨i+1,by omega,by go_num,by rw [f.out],by rw [f.out];exact I.out,J.out⟩
      case measure=>simp [intOf];omega
    by_cases r:b=3
    ·subst r;clear g;go_upto_region 17 with fail;have d:yAf cs (i+1)=(j,(i:Int)):=(by rw [m.out];simp [show ¬ ((l:Int)<0) from by omega]);have f:=lh d;clear d;go_wp2;go_roundw
     case rel=>exact⟨i+1,by omega,by go_num,by rw [f.out],by rw [f.out];exact t.out,B.out⟩
     case measure=>simp [intOf];omega
    have d2:(b==2)=false:=(by rw [zN];exact g);have d3:(b==3)=false:=(by rw [zN];exact r);have d4:(b != 2)=true:=(by simp [g]);have d5:(b != 3)=true:=(by simp [r]);have b1:=lh g;have b2:=lh r;clear g r;have d:yAf cs (i+1)=(j,(i:Int)):=(by rw [m.out];simp [b1.out,b2.out,show ¬ ((l:Int)<0) from by omega]);have f:=lh d;clear d;go_wp2;go_roundw
    case rel=>exact⟨i+1,by omega,by go_num,by rw [f.out],by rw [f.out];exact t.out,B.out⟩
    case measure=>simp [intOf];omega
   have e4:(k==4)=false:=(by rw [zN];exact O);have e1:(k==1)=false:=(by rw [zN];exact a3);have e2:(k==2)=false:=(by rw [zN];exact a4);have e3:(k==3)=false:=(by rw [zN];exact a5);have H1:=lh a3;have H2:=lh a4;have H3:=lh a5;have H4:=lh O;clear a3 a4 a5 O;have d:yAf cs (i+1)=(j,(i:Int)):=(by rw [m.out];simp [H1.out,H2.out,H3.out,H4.out]);have f:=lh d;clear d;go_wp2;go_roundw
   case rel=>exact⟨i+1,by omega,by go_num,by rw [f.out],by rw [f.out];exact v.out,q.out⟩
   case measure=>simp [intOf];omega
  ·have d6:n=i:=(by omega);subst d6;rw [←c4.out] at M;have v:=lh M;have q:=lh Q;clear M Q hi b6;go_wp2;unfold Exit.noGoto;go_ret;exact⟨rfl,v.out,q.out⟩
def yEv (cs:List Int):List Int:=(List.range cs.length).map fun i=>yH3 (yH cs i) (yH (yFm cs) i)
theorem shapedI_len (cs:List Int):(yEv cs).length=cs.length:=by unfold yEv;simp
def shN (cs:List Int) (n i:Nat):List Int:=(List.range n).map fun j=>if j<i then yH3 (yH cs j) (yH (yFm cs) j) else 0
theorem shN_len (cs:List Int) (n i:Nat):(shN cs n i).length=n:=by unfold shN;simp
theorem shN_ith (cs:List Int) (n i j:Nat) (h:j<n):yH (shN cs n i) j=if j<i then yH3 (yH cs j) (yH (yFm cs) j) else 0:=by
 unfold shN yH;rw [zI,zm,JO h];rfl
theorem shN_next (cs:List Int) (n i:Nat):(shN cs n i).set i (yH3 (yH cs i) (yH (yFm cs) i))=shN cs n (i+1):=by
 apply qK;intro j;unfold shN;rw [ZP,zm,zm,zK,List.length_range];by_cases a:j<n
 ·rw [JO a];by_cases e:i=j
  ·subst e;simp [a]
  ·rw [Zf e];simp only [Option.map_some]
   congr 1
   by_cases b:j<i
   ·rw [Zg b,Zg (by omega)]
   ·rw [Zf b,Zf (by omega)]
 ·rw [qD (by simp;omega)];simp;intro e;omega
theorem shN_all (cs:List Int):shN cs cs.length cs.length=yEv cs:=by
 unfold shN yEv;apply List.map_congr_left;intro j a;rw [Zg (List.mem_range.1 a)]
def ShapedPost (cs:List Int) (n:Nat) (w:World) (e:Ending) (w':World):Prop :=
 e=.returned (.slice (some ⟨w,0,none⟩) n n)∧yG .i32 21 w' w.heap.size (some ⟨w,0,none⟩) n (yEv cs)∧Below w w w'
theorem Shaped_any (a:Option Addr) (cs:List Int) (n c:Nat) (w:World) (I:cs.length=n) (J:Rd .i32 w a cs) (hn:n≤2097152) :
 Calls Tryz.prog 128 #[.slice a n c] w (ShapedPost cs n w):=by
 obtain⟨i3,a2,a3,a4,k⟩:=info_parts (Tryz.info_rune);have l:=lh I;have a5:=run_make_row (P:=Tryz.prog) 121 21 i3 (.int .i32 0) Tryz.underlying121 a2 a3 a4 rfl .i64 .i64 n (by rw [k];omega) (by omega);clear I;go_enter Tryz.func128,Tryz.ntmps128;go_upto_region 2 with fail;clear a5;have t:yG .i32 21 (w.alloc (.cells (madeCells #[.int .i32 0] n) 21)) w.heap.size (some ⟨w,0,none⟩) n (shN cs n 0) :=
  yCj ((JQ w (.int .i32 0) n 21).congr fun i K=>by rw [shN_ith _ _ _ _ K,Zf (Zo _)]) (shN_len _ _ _) (zT _) (by unfold maxLen;omega)
 have m:=(Zc w.heap.size w).alloc (zT _) (.cells (madeCells #[.int .i32 0] n) 21);have L:w.heap.size<(w.alloc (.cells (madeCells #[.int .i32 0] n) 21)).heap.size:=by simp
 generalize w.alloc _=w0 at t m L ⊢;have M:=lh (Forms_any a cs n c w0 l.out (J.below m) hn);have N:=lh t;have v:=lh m;clear t m;go_upto_block 0 with (go_at_call 168;refine M.out.mono ?_;rintro e w1 ⟨rfl,O,z⟩);have Q:=lh (N.out.keep z);have R:=lh (v.out.trans (z.mono v.out.size));have A:=lh O;clear O z M N v;obtain⟨d,S⟩:=nm (w0.heap.size);rw [S] at A L ⊢;clear S;go_wp2;go_loopw [4,5,12] (fun _ _ u B=>∃i:Nat,i≤n∧u=.int .i64 i∧yG .i32 21 B w.heap.size (some ⟨w,0,none⟩) n (shN cs n i)∧yG .i8 22 B d (some ⟨d,0,none⟩) n (yFm cs)∧Below w w B) (fun _ _ u _=>n-(intOf u).toNat)
 case atStart=>exact⟨0,by omega,rfl,Q.out,A.out,R.out⟩
 case round =>
  obtain⟨i,K,rfl,b,q,h⟩:=hrel;clear Q A R;by_cases C:i<n
  ·obtain⟨G,o,rfl,hG,a6⟩:=J.at h i (by rw [l.out];exact C);obtain⟨_,D,_,_,T,a7,_,_⟩:=b.at i (by rw [shN_len];exact C);cases D;obtain⟨_,D,_,b5,a8,_,_,_⟩:=q.at i (by rw [formsI_len,l.out];exact C);cases D;have j:=shN_next cs n i;obtain⟨y,U⟩:=nm (yH cs i);obtain⟨f,V⟩:=nm (yH (yFm cs) i);rw [U] at a6 j;rw [V] at a8 j;obtain⟨x,E⟩:=nm (yH3 y f);rw [E] at j;have a9:Hid (∀W,Calls Tryz.prog 169 #[.int .i32 y,.int .i8 f] W fun e w'=>e=.returned (.int .i32 x)∧Below W.heap.size W w'):=lh fun W=>E▸Shape_any y f W;have b0:=lh j;have r:=lh b;have HF:=lh q;have X:=lh h;generalize yH (shN cs n i) i=vo at T;have b6:(0:Int)≤(i:Int):=(by omega);have b7:(i:Int)<(n:Int):=(by omega);have Y:w.heap.size<wr.heap.size:=r.out.lt.2;clear b q h U V E j;go_wp2_with (go_at_call 169;refine (a9.out _).mono ?_;rintro e Z ⟨rfl,s⟩;have b8:=(s.cell (p:=⟨w.heap.size,i,none⟩) Y).trans T;have b9:=(s.frozen (p:=⟨w.heap.size,i,none⟩) Y).trans a7;have F:=lh s;clear s);have H:=(r.out.keep F.out).set i x;rw [b0.out] at H;have a0:yG .i8 22 (Z.setCell ⟨w.heap.size,i,none⟩ (.int .i32 x)) d (some ⟨d,0,none⟩) n (yFm cs):=yp (HF.out.keep F.out) (fun g hg=>by cases hg;show d≠w.heap.size;omega);have k:Below w w (Z.setCell ⟨w.heap.size,i,none⟩ (.int .i32 x)):=(X.out.trans (F.out.mono X.out.size)).setCell (p:=⟨w.heap.size,i,none⟩) (zT _) _;have b1:=lh H;have b2:=lh a0;have b3:=lh k;clear H a0 k;go_roundw
   case rel=>exact⟨i+1,by omega,by go_num,b1.out,b2.out,b3.out⟩
   case measure=>simp [intOf];omega
  ·have b4:i=n:=(by omega);subst b4;have a1:shN cs i i=yEv cs:=(by rw [←l.out];exact shN_all cs);rw [a1] at b;have r:=lh b;have HB:=lh h;clear b q h a1;go_wp2;go_ret;exact⟨rfl,r.out,HB.out⟩
end
section
def yQj (s:ByteArray) (join:Bool) (fr tt:Nat):List Int:=if join=true then yEv (yE (s.extract fr tt)) else yE (s.extract fr tt)
theorem madeI_len (s:ByteArray) (b:Bool) (fr a:Nat):(yQj s b fr a).length=(yE (s.extract fr a)).length:=by
 unfold yQj;split
 ·exact shapedI_len _
 ·rfl
def lay2 (s:ByteArray) (want:Int) (join raw:Bool) (ra rl:Int):List Pc :=
 (yFv s want raw (ym s ra) (yAo s (ym s ra) (yk s ra rl))).map (yC2 s (yQj s join (ym s ra) (yk s ra rl)))
def lay3 (s:ByteArray) (tab want:Int) (wideA join raw:Bool) (ra rl rw:Int):List Pc × Int :=
 yGl rw tab wideA raw (lay2 s want join raw ra rl) 0 0 (yHt s (lay2 s want join raw ra rl) (lay2 s want join raw ra rl).length)
def laySeen (s:ByteArray) (want:Int) (join raw:Bool) (ra rl:Int):List Int:=orderI ((lay2 s want join raw ra rl).map (·.level))
def layL (s:ByteArray) (tab want:Int) (wideA join raw:Bool) (ra rl rw:Int):List Pc:=yDo (laySeen s want join raw ra rl) 0 (lay3 s tab want wideA join raw ra rl rw).1
def layI (s:ByteArray) (tab want:Int) (wideA join raw:Bool) (ra rl rw:Int):LaidR :=
 ⟨layL s tab want wideA join raw ra rl rw,laySeen s want join raw ra rl,ym s ra,yk s ra rl,yJx s want raw,(lay3 s tab want wideA join raw ra rl rw).2⟩
structure Ce where
 text:ByteArray
 part:Int
 a:Nat
 len:Nat
 right:Bool
deriving DecidableEq
def dotS:ByteArray:=⟨#[226,151,140]⟩
def dotB (s:ByteArray):Bool:=decide (3≤s.size)&&decide (s.extract 0 3=dotS)
def wholeB (p:Pc):Bool:=decide (p.shown=p.became)||dotB p.shown
def oddB (p:Pc):Bool:=decide (p.level % 2=1)
def cellsP (p:Pc):List Ce :=
 (List.range p.wide.toNat).map fun (i:Nat) =>
   if wholeB p=true then Ce.mk (if i=0 then p.shown else ⟨#[]⟩) (i:Int) p.a p.size (oddB p)
   else Ce.mk ⟨#[p.shown.get! i]⟩ 0 p.a p.size (oddB p)
def yKo (L:List Pc):List Int→List Ce
 | []=>[]
 | i::t=>(if 0<(L.getD i.toNat default).wide then cellsP (L.getD i.toNat default) else [])++yKo L t
def yQo (W:LaidR):List Ce:=yKo W.l W.seen
def yDe (W:LaidR) (i:Nat) (back:Bool):Int :=
 if back=true∧i=0 then (if W.base % 2=1 then W.wide else 0)
 else if back=true then (if oddB (W.l.getD (i-1) default)=true then (W.l.getD (i-1) default).e0 else (W.l.getD (i-1) default).e1)
 else if i=W.l.length then (if W.base % 2=1 then 0 else W.wide)
 else (if oddB (W.l.getD i default)=true then (W.l.getD i default).e1 else (W.l.getD i default).e0)
def leftF (c:Int):List Pc→Nat
 | []=>0
 | p::t=>if ((p.a+p.size:Nat):Int)≤c then leftF c t+1 else 0
def yEk (W:LaidR) (c:Int) (back:Bool):Int:=yDe W (leftF c W.l) back
theorem tailF_le (s:ByteArray) (L:List Pc):∀t,yHt s L t≤t
 | 0=>zT _
 | t+1=>by
   rw [yHt];split
   ·have:=tailF_le s L t;omega
   ·exact zT _
def tlF (rw:Int) (i:Nat) (x n t:Int):Int:=if t≤(i:Int)∧rw<x+n then -1 else t
theorem yDu (rw tab:Int) (a b:Bool) (p:Pc) (L:List Pc) (i:Nat) (x t:Int):yGl rw tab a b (p::L) i x t =
 if 0≤tlF rw i x (yx p.became x tab a b).2 t then
  ({p with shown:=(yx p.became x tab a b).1,wide:=(yx p.became x tab a b).2 }::(yGl rw tab a b L (i+1) (x+(yx p.became x tab a b).2) (tlF rw i x (yx p.became x tab a b).2 t)).1,
    (yGl rw tab a b L (i+1) (x+(yx p.became x tab a b).2) (tlF rw i x (yx p.became x tab a b).2 t)).2)
 else (p::(yGl rw tab a b L (i+1) x (-1)).1,(yGl rw tab a b L (i+1) x (-1)).2):=rfl
theorem yIt (rw tab:Int) (a b:Bool):∀(L:List Pc) (i:Nat) (x t:Int),(yGl rw tab a b L i x t).1.length=L.length
 | [],_,_,_=>rfl
 | p::L,i,x,t=>by
   rw [yDu];by_cases h:0≤tlF rw i x (yx p.became x tab a b).2 t
   ·rw [Zg h];simp only [zb,yIt rw tab a b L]
   ·rw [Zf h];simp only [zb,yIt rw tab a b L]
def LaidP (tab:Int) (wideA raw:Bool) (p q:Pc):Prop:=q=p∨∃x:Int,q={ p with shown:=(yx p.became x tab wideA raw).1,wide:=(yx p.became x tab wideA raw).2 }
theorem yO7 (rw tab:Int) (a b:Bool):∀(L:List Pc) (i:Nat) (x t:Int) (j:Nat) (p:Pc),L[j]? = some p→∃q,(yGl rw tab a b L i x t).1[j]? = some q∧LaidP tab a b p q
 | [],_,_,_,j,p,h=>by simp at h
 | r::L,i,x,t,0,p,h=>by
   have:r=p:=(by simpa using h);subst this;rw [yDu];by_cases c:0≤tlF rw i x (yx r.became x tab a b).2 t
   ·rw [Zg c];exact⟨_,rfl,.inr ⟨x,rfl⟩⟩
   ·rw [Zf c];exact⟨_,rfl,.inl rfl⟩
 | r::L,i,x,t,j+1,p,h=>by
   rw [yDu];by_cases c:0≤tlF rw i x (yx r.became x tab a b).2 t
   ·rw [Zg c];exact yO7 rw tab a b L _ _ _ j p (by simpa using h)
   ·rw [Zf c];exact yO7 rw tab a b L _ _ _ j p (by simpa using h)
def yHd:List Pc→Int
 | []=>0
 | p::t=>p.wide+yHd t
theorem yQg (rw tab:Int) (a b:Bool):∀(L:List Pc) (i:Nat) (x t:Int),(∀p∈L,p.wide=0)→(yGl rw tab a b L i x t).2=x+yHd (yGl rw tab a b L i x t).1
 | [],_,x,_,_=>by simp [yGl,yHd]
 | p::L,i,x,t,h=>by
   have e:=h p (zR ..);have c:∀q∈L,q.wide=0:=fun q f=>h q (zc _ f);rw [yDu];by_cases d:0≤tlF rw i x (yx p.became x tab a b).2 t
   ·rw [Zg d];dsimp only;rw [yQg rw tab a b L _ _ _ c,yHd];dsimp only;omega
   ·rw [Zf d];dsimp only;rw [yQg rw tab a b L _ _ _ c,yHd,e];omega
theorem edgeF_len:∀(o:List Int) (x:Int) (L:List Pc),(yDo o x L).length=L.length
 | [],_,_=>rfl
 | i::t,x,L=>by rw [yDo,edgeF_len t,ZQ]
end
section
open Go.RowKit Go.Proofs Go.Shelf
attribute [local go_sem] qV
theorem yPc {c:Func} {p q:Tmp} {ty d:TypeId} (h:c.results=#[.cell p ty,.cell q d]) (b:Array Value) (P:Program) (w:World) :
 (results c b).run P w=((asAddr (b.getD p undef)).run P w).andThen fun a e=>((loadVar ty a).run P e).andThen fun v f=>((asAddr (b.getD q undef)).run P f).andThen fun a g=>((loadVar d a).run P g).andThen fun i j=>.ok (.tuple #[v,i]) j:=by
 simp only [results,h];simp [Sem.run_bind,Result.andThen]
theorem yQ1 {a:Array Value} {W:World} {g h:Nat} {x y:Int} (b:a.getD 4 undef=.pointer (some ⟨g,0,none⟩)) (c:a.getD 5 undef=.pointer (some ⟨h,0,none⟩)) (d:Boxed W g 3 (.int .i64 x)) (e:Boxed W h 3 (.int .i64 y)) :
 (results Tryz.f112 a).run Tryz.prog W=.ok (.tuple #[x,y]) W:=by
 have f:Tryz.f112.results=#[.cell 4 3,.cell 5 3]:=rfl;have i:(loadVar 3 ⟨g,0,none⟩).run Tryz.prog W=.ok (.int .i64 x) W:=by
  simp [loadVar,JU Tryz.underlying3,isAgg,d.cell]
 have j:(loadVar 3 ⟨h,0,none⟩).run Tryz.prog W=.ok (.int .i64 y) W:=by
  simp [loadVar,JU Tryz.underlying3,isAgg,e.cell]
 rw [yPc f,b,c];simp only [asAddr,JB,qy,i,j]
def AtJ (w:World) (X n:Nat) (s:ByteArray) (pre:List (yO s)) (W:World):Prop :=
 Boxed W w.heap.size 3 (.int .i64 X)∧Boxed W (w.heap.size+1) 3 (.int .i64 0)∧Boxed W (w.heap.size+1+1) 3 (.int .i64 0)∧Boxed W n 9 (.string s) ∧
  (∀R,yBd X (pre.map (·.1)++R) s.size=yBd X R s.size)∧Below w w W
def AtY (w:World) (X:Nat) (s:ByteArray) (c:Code) (pre:List (yO s)) (W:World):Prop :=
 c=.ret∧∃r:Nat × Nat,(∀R,yBd X (pre.map (·.1)++R) s.size=r)∧Boxed W (w.heap.size+1) 3 (.int .i64 r.1)∧Boxed W (w.heap.size+1+1) 3 (.int .i64 r.2)∧Below w w W
theorem alloc3 (w:World) (a b c:Obj):(((w.alloc a).alloc b).alloc c).heap[w.heap.size]? = some a∧(((w.alloc a).alloc b).alloc c).heap[w.heap.size+1]? = some b∧(((w.alloc a).alloc b).alloc c).heap[w.heap.size+1+1]? = some c∧Below w w (((w.alloc a).alloc b).alloc c):=by
 obtain⟨f,g,h⟩:=yCm w a b;have i:((w.alloc a).alloc b).heap.size=w.heap.size+2:=by rw [zM,zM]
 have e:=zL ((w.alloc a).alloc b) c;have d:=(Zc ((w.alloc a).alloc b).heap.size ((w.alloc a).alloc b)).alloc (zT _) c;rw [i] at e d;exact⟨(d.block _ (by omega)).trans f,(d.block _ (by omega)).trans g,e,h.trans (d.mono (by omega))⟩
theorem clAtF_snoc {X n:Nat} {L:List (Nat × ByteArray)} (h:∀R,yBd X (L++R) n=yBd X R n) (p:Nat × ByteArray):∀R,yBd X ((L++[p])++R) n=if X<p.1+p.2.size then (p.1,p.1+p.2.size) else yBd X R n:=fun R=>by
 rw [zZ,h,ZN,yBd]
theorem cAt_any (s:ByteArray) (hs:s.size≤2097152) (x:Int) (w:World) (hT:T8 w) :
 Calls Tryz.prog 112 #[s,x] w fun e w'=>e=.returned (.tuple #[.int .i64 (yEx s x).1,.int .i64 (yEx s x).2])∧Below w w w':=by
 refine (qG (n:=4)).1 ?_;refine qI Tryz.func112 rfl trivial ?_ rfl;simp only [Tryz.ntmps112,qW,zb,zn,Nat.reduceAdd,Nat.reduceSub,qX,qY,qZ,qd,zp,zo];obtain⟨J,b3⟩:=nm (x.toNat);obtain⟨X,hX⟩:=nm (min J s.size);have e1:max x 0=(J:Int):=by omega
 have e2:min (J:Int) (s.size:Int)=(X:Int):=by omega
 have b4:yEx s x=yBd X (yF s) s.size:=by unfold yEx;rw [b3,hX]
 rw [b4];have b9:X≤s.size:=by omega
 clear b3 hX b4;gi_upto_region 1 with fail;obtain⟨j1,j2,j3,a8⟩:=alloc3 w (.cells #[x] 3 (0,0)) (.cells #[.int .i64 0] 3 (0,0)) (.cells #[.int .i64 0] 3 (0,0));have b0:(((w.alloc (.cells #[x] 3)).alloc (.cells #[.int .i64 0] 3)).alloc (.cells #[.int .i64 0] 3)).heap.size=w.heap.size+3:=by rw [zM,zM,zM]
 generalize ((w.alloc _).alloc _).alloc _=W0 at j1 j2 j3 a8 b0 ⊢;have L:Boxed W0 w.heap.size 3 (.int .i64 x):=j1;have k2:Boxed W0 (w.heap.size+1) 3 (.int .i64 0):=j2;have k3:Boxed W0 (w.heap.size+1+1) 3 (.int .i64 0):=j3;clear j1 j2 j3;have c1:=L.cell;have f1:=L.frozen;gi_upto_region 2 with fail;have b1:Below w w (W0.setCell ⟨w,0,none⟩ (.int .i64 X)):=a8.setCell (p:=⟨w,0,none⟩) (zT _) _;have q1:Boxed (W0.setCell ⟨w,0,none⟩ (.int .i64 X)) w.heap.size 3 (.int .i64 X):=yM L _;have q2:Boxed (W0.setCell ⟨w,0,none⟩ (.int .i64 X)) (w.heap.size+1) 3 (.int .i64 0):=yA k2 (by omega);have q3:Boxed (W0.setCell ⟨w,0,none⟩ (.int .i64 X)) (w.heap.size+1+1) 3 (.int .i64 0):=yA k3 (by omega);have M:(W0.setCell ⟨w,0,none⟩ (.int .i64 X)).heap.size=w.heap.size+3:=by
  have:=(KeepsWalks.setCell W0 ⟨w,0,none⟩ (.int .i64 X)).size;show (W0.heap.modify _ _).size=_;rw [Array.size_modify,b0]
 generalize W0.setCell _ _=W1 at b1 q1 q2 q3 M ⊢;clear L k2 k3 c1 f1 a8 b0 W0;gi_wp2;refine⟨trivial,?_⟩;refine (qG.2 (yG1 s _)).mono ?_;rintro e' j ⟨rfl,N⟩;obtain⟨n,hn⟩:=nm (w.heap.size+3);have C:Below W1 W1 j:=N▸(Zc _ _).alloc (zT _) _;have E:Boxed j n 9 (.string s):=by rw [←hn,←M,N];exact zL W1 _
 have c0:j.heap.size=n+1:=by rw [N,zM,M,hn]
 have O:Boxed j w.heap.size 3 (.int .i64 X):=(C.block _ (by omega)).trans q1;have P:Boxed j (w.heap.size+1) 3 (.int .i64 0):=(C.block _ (by omega)).trans q2;have Q:Boxed j (w.heap.size+1+1) 3 (.int .i64 0):=(C.block _ (by omega)).trans q3;have G:Below w w j:=b1.trans (C.mono (by omega));clear N C q1 q2 q3 b1;simp only [M,hn];have S:T8 j:=hT.below rfl G;have h3:Tryz.lays197_ren.g 3<w.heap.size:=yD (hT.1 0 (by omega));have h4:Tryz.lays197_ren.g 4<w.heap.size:=yD (hT.2 0 (by omega)).1;unfold itV;gi_wp2;refine wpIn_rangeFunc_ownF (F:=Fence.wide) rfl (by omega) (gf:=124) (lb:=#[.pointer (some ⟨n,0,none⟩)]) rfl trivial (qJ Tryz.func124 (by kernel_rfl) rfl)
  (yBf 3 (by omega) n w.heap.size s (by omega) h3 h4 j (by omega) E.cell S) (fun h k=>KpB.trans h k) (yEy (w:=j) (by omega)) (Zc _ _) (fun _=>rfl)
  (AtJ w X n s) (AtY w X s) ?hI ?hIx ?h0
  (fun f=>{ tmps:=#[s,x,undef,.pointer (some ⟨w,0,none⟩),.pointer (some ⟨w.heap.size+1,0,none⟩),.pointer (some ⟨w.heap.size+1+1,0,none⟩),.int .i64 f.1.1,.string f.1.2,x,J,s,s.size,X,s,(.func (.func 124) #[] #[.pointer (some ⟨n,0,none⟩)]),.int .i64 f.1.1,.string f.1.2,undef,undef,undef,undef,undef,undef,undef,undef,undef,undef,undef,undef,undef,undef,undef],defers:=[] }) ?assign ?body ?done ?stop
 case hI =>
  rintro pre A B row ⟨i,b,d,z,u,q⟩ m H;have y:=fun k e=>(H k e).2;exact⟨yV i m y,yV b m y,yV d m y,yV z m y,u,q.grown m (by have:=q.size;omega) (fun k e=>by have:=(H k e).1;omega)⟩
 case hIx =>
  rintro c pre A B row ⟨h0,e,i,b,d,T⟩ m H;have y:=fun k e=>(H k e).2;exact⟨h0,e,i,yV b m y,yV d m y,T.grown m (by have:=T.size;omega) (fun k e=>by have:=(H k e).1;omega)⟩
 case h0=>exact⟨O,P,Q,E,fun R=>by simp,G⟩
 case assign =>
  intro l f W K t;gi_wp2;exact t
 case body =>
  rintro l pre f W ⟨i,b,d,z,u,q⟩ b7;obtain⟨o,U⟩:∃a,f.1.1=a:=⟨_,rfl⟩;obtain⟨c,V⟩:=nm (f.1.2);have hx:=f.2;rw [U,V] at hx;simp only [U,V];have b2:=clAtF_snoc u f.1;rw [U,V] at b2;have b5:∀R,yBd X ((pre++[f]).map (·.1)++R) s.size=if X<o+c.size then (o,o+c.size) else yBd X R s.size:=fun R=>by
   rw [zW,ZA];exact b2 R
  have c1:=i.cell;have c2:=b.cell;have c3:=d.cell;have f2:=b.frozen;have f3:=d.frozen;have A1:=lh i;have Y:=lh b;have Z:=lh d;have A4:=lh z;have A6:=lh q;have a0:=lh b5;have g1:(o:Int)≤2097152:=(by omega);have g2:(c.size:Int)≤2097152:=(by omega);clear i b d z u q b2 b5 U V hx b7 O P Q E G S e1 e2;by_cases hc:X<o+c.size
  ·have hd:(X:Int)<(o:Int)+(c.size:Int):=(by omega);have HE:=lh (fun R=>(a0.out R).trans (Zg hc));clear hc a0;gi_wp2;refine⟨(ZT _ _ _).trans (ZT _ _ _),?_⟩;exact⟨rfl,(o,o+c.size),HE.out,yA (yM Y.out _) (by omega),yM (yA Z.out (by omega)) _,
    (A6.out.setCell (p:=⟨w.heap.size+1,0,none⟩) (Nat.le_succ _) _).setCell (p:=⟨w.heap.size+1+1,0,none⟩) (zY (Nat.le_succ _) (Nat.le_succ _)) _⟩
  ·have hd:¬ ((X:Int)<(o:Int)+(c.size:Int)):=(by omega);have HE:=lh (fun R=>(a0.out R).trans (Zf hc));clear hc a0;gi_wp2;refine⟨KeepsOthers.refl _,⟨Zc _ _,fun v hv=>hv⟩,A1.out,Y.out,Z.out,A4.out,HE.out,A6.out⟩
 case done =>
  rintro D xs W hD b6 ⟨i,b,d,z,u,q⟩ t;have a7:yBd X (yF s) s.size=(s.size,s.size):=by
   have:=u [];rw [zq,b6] at this;rw [this,yBd]
  have c2:=b.cell;have c3:=d.cell;have f2:=b.frozen;have f3:=d.frozen;have Y:=lh b;have Z:=lh d;have A6:=lh q;have HF:=lh a7;clear i b d z u q a7 b6 O P Q E G S e1 e2;gi_wp2;have s2:Boxed ((W.setCell ⟨w.heap.size+1,0,none⟩ (.int .i64 s.size)).setCell ⟨w.heap.size+1+1,0,none⟩ (.int .i64 s.size)) (w.heap.size+1) 3 (.int .i64 s.size):=yA (yM Y.out _) (by omega);have s3:Boxed ((W.setCell ⟨w.heap.size+1,0,none⟩ (.int .i64 s.size)).setCell ⟨w.heap.size+1+1,0,none⟩ (.int .i64 s.size)) (w.heap.size+1+1) 3 (.int .i64 s.size):=yM (yA Z.out (by omega)) _;have s9:Below w w ((W.setCell ⟨w.heap.size+1,0,none⟩ (.int .i64 s.size)).setCell ⟨w.heap.size+1+1,0,none⟩ (.int .i64 s.size)):=(A6.out.setCell (p:=⟨w.heap.size+1,0,none⟩) (Nat.le_succ _) _).setCell (p:=⟨w.heap.size+1+1,0,none⟩) (zY (Nat.le_succ _) (Nat.le_succ _)) _;have I:((W.setCell ⟨w.heap.size+1,0,none⟩ (.int .i64 s.size)).setCell ⟨w.heap.size+1+1,0,none⟩ (.int .i64 s.size)).heap[D]? = some (.deferred (some [])):=yA (yA t (by omega)) (by omega);generalize (W.setCell _ _).setCell _ _=W5 at s2 s3 s9 I ⊢;refine⟨by simp,.inl ⟨_,_,rfl,Zv I,?_⟩⟩;refine⟨_,yQ1 rfl rfl (yV s2 (qE W5 D (.deferred none)) (fun r e=>by cases e;exact⟨_,I,rfl⟩)) (yV s3 (qE W5 D (.deferred none)) (fun r e=>by cases e;exact⟨_,I,rfl⟩)),?_,?_⟩
  ·rw [HF.out]
  ·exact s9.trans (JY (w:=w) (zT _) W5 D _ _ (by omega) I rfl rfl)
 case stop =>
  rintro D c pre W hD b8 ⟨rfl,r,i,b,d,T⟩ t;have a7:yBd X (yF s) s.size=r:=by
   obtain⟨R,hR⟩:=b8;have:=i R;rw [hR] at this;exact this
  dsimp only;clear O P Q E G S e1 e2;gi_wp2;refine⟨by simp,.inl ⟨_,_,rfl,Zv t,?_⟩⟩;refine⟨_,yQ1 rfl rfl (yV b (qE W D (.deferred none)) (fun r e=>by cases e;exact⟨_,t,rfl⟩)) (yV d (qE W D (.deferred none)) (fun r e=>by cases e;exact⟨_,t,rfl⟩)),?_,?_⟩
  ·rw [a7]
  ·exact T.trans (JY (w:=w) (zT _) W D _ _ (by omega) t rfl rfl)
end
section
open Go.RowKit Go.Proofs Go.Shelf
structure Enc (α:Type) where
 enc:α→List Value
 k:Nat
 len:∀x,(enc x).length=k
variable {α:Type} (E:Enc α)
theorem flatS_get (l:List α) (i:Nat) (x:α) (h:l[i]? = some x) (j:Nat) (v:Value) (a:(E.enc x)[j]? = some v):(l.flatMap E.enc)[i*E.k+j]? = some v:=by
 have b:j<E.k:=by
  have:=(zG.1 a).1;rw [E.len] at this;exact this
 induction l generalizing i with
 | nil=>simp at h
 | cons y l ih =>
   rw [ZK];cases i with
   | zero =>
     have:y=x:=(by simpa using h);subst this;rw [Nat.zero_mul,Za,zt (by rw [E.len];exact b)];exact a
   | succ i =>
     have c:(i+1)*E.k+j-(E.enc y).length=i*E.k+j:=(by rw [E.len,JD];omega);rw [zr (by rw [E.len,JD];omega),c];exact ih i (by simpa using h)
theorem flatS_set (l:List α) (i:Nat) (x y:α) (h:l[i]? = some x) (j:Nat) (v:Value) (a:j<E.k) (b:E.enc y=(E.enc x).set j v):(l.set i y).flatMap E.enc=(l.flatMap E.enc).set (i*E.k+j) v:=by
 induction l generalizing i with
 | nil=>simp at h
 | cons z l ih =>
   cases i with
   | zero =>
     have:z=x:=(by simpa using h);subst this;rw [zi,ZK,ZK,Nat.zero_mul,Za,List.set_append_left _ _ (by rw [E.len];exact a),b]
   | succ i =>
     have c:(i+1)*E.k+j-(E.enc z).length=i*E.k+j:=(by rw [E.len,JD];omega);rw [zh,ZK,ZK,qm _ _ (by rw [E.len,JD];omega),c,ih i (by simpa using h)]
theorem flatS_snoc (l:List α) (x:α):(l++[x]).flatMap E.enc=l.flatMap E.enc++E.enc x:=by
 rw [zU,zV]
def yN (e:Nat) (W:World) (base:Nat) (v:Value) (l:List α):Prop:=W.ownsRow base e E.k v l.length (l.flatMap E.enc)
variable {E}
theorem yN.nil (e:Nat) (W:World) (base:Nat):yN E e W base (.slice none 0 0) []:=⟨by simp,.inl ⟨rfl,rfl⟩⟩
theorem yN.keep {e:Nat} {W a:World} {base:Nat} {v:Value} {l:List α} (h:yN E e W base v l) (b:Below W W a):yN E e a base v l:=yCq h b
theorem yN.low {e:Nat} {W:World} {base base':Nat} {v:Value} {l:List α} (h:yN E e W base v l) (a:base'≤base):yN E e W base' v l:=yq h a
theorem yN.slice {e:Nat} {W:World} {base:Nat} {v:Value} {l:List α} (h:yN E e W base v l):∃a cap,v=.slice a l.length cap∧l.length≤cap∧cap≤maxLen:=yP h
theorem yN.other {e:Nat} {W:World} {base B i:Nat} {v u:Value} {l:List α} (h:yN E e W base v l) (a:∀g,v.ownBlock=some g→g≠B):yN E e (W.setCell ⟨B,i,none⟩ u) base v l:=yp h a
theorem yN.at {e:Nat} {W:World} {base cap:Nat} {a:Option Addr} {l:List α} (h:yN E e W base (.slice a l.length cap) l) (i:Nat) (x:α) (c:l[i]? = some x) :
 ∃G,a=some ⟨G,0,none⟩∧base≤G∧G<W.heap.size∧(∀j u,(E.enc x)[j]? = some u→W.cell? ⟨G,i*E.k+j,none⟩=some u)∧∀j,W.frozen? ⟨G,j,none⟩=false:=by
 have r:=(zG.1 c).1;obtain⟨G,d,m,n,o⟩:=yB2 h (by omega);refine⟨G,d,m,n,fun j u f=>?_,fun j=>?_⟩
 ·have s:j<E.k:=by
   have:=(zG.1 f).1;rw [E.len] at this;exact this
  have p:(i+1)*E.k≤l.length*E.k:=JM _ (by omega);rw [JD] at p;rw [o _ (by omega)];exact flatS_get E l i x c j u f
 ·rcases h.2 with ⟨b,h0⟩ | ⟨g,t,v,b,w,q,_⟩
  ·omega
  ·rw [d] at b;simp only [Value.slice.injEq,Option.some.injEq,Addr.mk.injEq] at b;obtain⟨⟨rfl,_⟩,_⟩:=b;simp [World.frozen?,q]
theorem yN.set {e:Nat} {W:World} {base cap G:Nat} {l:List α} (h:yN E e W base (.slice (some ⟨G,0,none⟩) l.length cap) l) (i:Nat) (x y:α) (a:l[i]? = some x) (j:Nat) (v:Value) (b:j<E.k) (c:E.enc y=(E.enc x).set j v) :
 yN E e (W.setCell ⟨G,i*E.k+j,none⟩ v) base (.slice (some ⟨G,0,none⟩) (l.set i y).length cap) (l.set i y):=by
 unfold yN;rw [ZQ,flatS_set E l i x y a j v b c];exact (qH h (i*E.k+j) v).1
end
section
open Go.RowKit Go.Proofs
variable {P:Program} {ops:Array Oper} {Q:Exit→Act→World→Prop} {md:Region.Mode}
def waitsB (md:Region.Mode) (ops:Array Oper) (o:Oper) (i:Nat):Bool :=
 o.after.any fun e=>Region.binds md e&&(e.on==i||match ops[e.on]? with
  | some p=>p.after.any fun e2=>Region.binds md e2&&e2.on==i
  | none=>false)
def yKp (md:Region.Mode) (ops:Array Oper) (n:Nat):Bool :=
 ((List.range n).all fun i=>match ops[n]? with
   | some o=>waitsB md ops o i
   | none=>false) &&
 ((List.range (n+1)).all fun i=>match ops[i]? with
   | some o=>o.after.all fun e=>!Region.binds md e||decide (e.on<i)
   | none=>false) &&
 match ops[n]? with
  | some o=>o.guard.isNone&&o.dst.isNone
  | none=>false
def yOi (md:Region.Mode) (ops:Array Oper) (L:Array Bool):Prop:=∀i,L.getD i false=true→∀o,ops[i]? = some o→∀e∈o.after,Region.binds md e=true→L.getD e.on false=true
theorem getD_lt {L:Array Bool} {i:Nat} (h:L.getD i false=true):i<L.size:=by
 by_cases e:i<L.size
 ·exact e
 ·simp [e] at h
theorem closed_set {L:Array Bool} (h:yOi md ops L) {i:Nat} (m:i∈Region.ready md ops L):yOi md ops (L.setIfInBounds i true):=fun j a o b e c d=>by
 have up:∀k,L.getD k false=true→(L.setIfInBounds i true).getD k false=true:=fun k f=>by
  have n:=getD_lt f;by_cases e:i=k
  ·subst e;simp [n]
  ·rw [getD_set_ne false e];exact f
 by_cases g:i=j
 ·subst g;obtain⟨_,q,l,p⟩:=mem_ready.1 m;rw [b] at l;cases l;exact up _ (p e c d)
 ·rw [getD_set_ne false g] at a;exact up _ (h j a o b e c d)
theorem yNk {n:Nat} {L:Array Bool} (a:((List.range (n+1)).all fun i=>match ops[i]? with
 | some o=>o.after.all fun e=>!Region.binds md e||decide (e.on<i)
 | none=>false)=true) (q:ops.size=n+1) (r:L.size=n+1) (j:Region.ready md ops L=[]):∀i,i≤n→L.getD i true=true:=by
 intro i
 induction i using Nat.strongRecOn with
 | _ i ih =>
   intro s;by_cases b:L.getD i true=true
   ·exact b
   ·exfalso;have k:L.getD i true=false:=(by simpa using b);simp only [Zs,List.mem_range] at a;have c:=a i (by omega);have d:i<ops.size:=(by omega);rw [qs d] at c;have f:i∈Region.ready md ops L:=mem_ready.2 ⟨k,ops[i],qs d,fun e l m=>by
     have g:=Array.all_eq_true'.1 c e l;rw [m] at g;have p:e.on<i:=(by simpa using g);have h:=ih e.on p (by omega);have:e.on<L.size:=(by omega);simp [this] at h ⊢;exact h⟩
    rw [j] at f;cases f
theorem yKx (h:List Oper) (o:Oper) (g:yKp md (h++[o]).toArray h.length=true):∀(fuel:Nat) (L:Array Bool) (a:Act) (w:World),L.size=h.length+1→L.getD h.length true=false→yOi md (h++[o]).toArray L →
 wpAny P md (h++[nop o]).toArray (Exit.then (fun a w=>wpList P (h++[o]).toArray Q [o] a w) Q) fuel L a w→wpAny P md (h++[o]).toArray Q fuel L a w
 | 0,L,a,w,hL,hn,hc,hh=>by
   have c:=hh.1;rw [yE6] at c;simp only [yKp,ZU] at g;have:=yNk g.1.2 (by simp) hL c h.length (zT _);rw [hn] at this;cases this
 | fuel+1,L,a,w,hL,hn,hc,hh=>by
   have A:=g;simp only [yKp,ZU] at A;have G:Region.ready md (h++[o]).toArray L≠[]:=fun c=>by
    have:=yNk A.1.2 (by simp) hL c h.length (zT _);rw [hn] at this;cases this
   have r:=g;simp only [yKp,ZU,Zs,List.mem_range] at r;have B:=r.2;simp only [zC,qo,ZU,Option.isNone_iff_eq_none] at B;obtain⟨H,I⟩:=B;refine⟨fun c=>qF c G,fun i d=>?_⟩;have b:=hh.2 i (by rw [yE6];exact d);by_cases e:i=h.length
   ·subst e;have J:∀j,j<h.length→L.getD j false=true:=fun j s=>by
     have k:=r.1.1 j s;simp only [zC,qo] at k;obtain⟨e,K,t⟩:=Array.any_eq_true'.1 k;simp only [ZU,Bool.or_eq_true,ZD] at t;obtain⟨_,M,l,N⟩:=mem_ready.1 d;simp only [zC,qo,Option.some.injEq] at l;subst l;have C:=N e K t.1;rcases t.2 with f | f
     ·rwa [f] at C
     ·cases hp:(h++[o]).toArray[e.on]? with
      | none=>rw [hp] at f;cases f
      | some p =>
        have O:=hp;rw [hp] at f;obtain⟨R,S,u⟩:=Array.any_eq_true'.1 f;simp only [ZU,ZD] at u;have:=hc e.on C p O R S u.1
        rwa [u.2] at this
    have v:Region.ready md (h++[o]).toArray (L.setIfInBounds h.length true)=[]:=by
     refine List.eq_nil_iff_forall_not_mem.2 fun j s=>?_;obtain⟨m,M,l,_⟩:=mem_ready.1 s;have X:j<h.length+1:=by
      have:=(zH.1 l).1;simpa using this
     by_cases D:h.length=j
     ·subst D;simp [hL] at m
     ·rw [getD_set_ne true D] at m;have:=J j (by omega);have T:j<L.size:=(by omega);simp [T] at m this;rw [m] at this;cases this
    unfold wpOp at b;rw [yJh,Zg rfl] at b;have U:∀y,Region.wanted (nop o) y=true:=fun y=>by
     unfold Region.wanted nop;rw [H]
    dsimp only at b;rw [Zg (U _)] at b;have k:wpAny P md (h++[nop o]).toArray (Exit.then (fun a w=>wpList P (h++[o]).toArray Q [o] a w) Q) fuel (L.setIfInBounds h.length true) a w:=by
     rcases b with b | b
     ·exact b
     ·exact qF b.1 (nop_asks o a w)
    have n:wpList P (h++[o]).toArray Q [o] a w:=by
     have E:=v;rw [←yE6] at E;cases fuel with
     | zero=>exact k.2
     | succ fuel=>exact k.1 E
    have F:∀a w,Q .normal a w→wpAny P md (h++[o]).toArray Q fuel (L.setIfInBounds h.length true) a w:=fun a w q=>by
     cases fuel with
     | zero=>exact⟨v,q⟩
     | succ fuel=>exact⟨fun _=>q,fun i d=>by rw [v] at d;cases d⟩
    unfold wpOp;simp only [zC,qo];unfold wpList at n;split at n
    ·rename_i hw;rw [Zg hw];exact n.imp (Oper.wp_mono (fun a w q=>F a w q)) id
    ·rename_i hw;rw [Zf hw];exact F _ _ n
   ·have V:(h++[nop o]).toArray[i]? = (h++[o]).toArray[i]?:=(by rw [yJh,Zf e]);unfold wpOp at b ⊢;rw [V] at b;have x:∀a w,wpAny P md (h++[nop o]).toArray (Exit.then (fun a w=>wpList P (h++[o]).toArray Q [o] a w) Q) fuel (L.setIfInBounds i true) a w→wpAny P md (h++[o]).toArray Q fuel (L.setIfInBounds i true) a w:=fun a w W =>
     yKx h o g fuel _ a w (by simp [hL]) (by rw [getD_set_ne true e];exact hn) (closed_set hc d) W
    split
    ·rename_i z;rw [z] at b;exact x _ _ b
    ·rename_i p z;rw [z] at b;dsimp only at b;rw [yNr h o I] at b;split
     ·rename_i hw;rw [Zg hw] at b;rcases b with b | b
      ·exact .inl (Oper.wp_mono x (yDd b))
      ·exact .inr b
     ·rename_i hw;rw [Zf hw] at b;exact x _ _ b
theorem yHe (n:Nat):yOi md ops (Array.replicate n false):=fun i a=>by
 have b:=getD_lt a;simp at b;simp [b] at a
theorem yGn {id n r:Nat} {a:Act} {w:World} {l:List Oper} (S:World→Prop) (e:List Nat) (p:P.follows .mixedOrders=true)
 (d:(yG7 l&&(decide (0<l.length)&&yKp .any l.toArray (l.length-1)&&(Region.noSelect (yAz l).toArray&&segB .any (yAz l).toArray e l.length 0 (Array.replicate l.length false))))=true)
 (q:∀c a f w,Q (.panic c) a w→Q (.panic c) f w) (s:∀a w,¬ Q .outgrown a w)
 (t:S w.drew) (h:yHw P (yAz l).toArray S (Exit.then (fun a w=>wpList P l.toArray Q (yDx l) a w) Q) e (yAz l) a w.drew):(Code.region id l.toArray true).wpIn (Fence.wide.inRound r) n P Q a w:=by
 rw [ZU] at d;obtain⟨u,d⟩:=d;simp only [ZU,ZX] at d;obtain⟨⟨h0,g⟩,i,k⟩:=d;obtain⟨b,o,v,m,x⟩:=yFj l (by intro hl;rw [hl] at h0;cases h0);rw [m,x] at h;rw [m] at i k;subst v;have y:(b++[o]).length-1=b.length:=by simp
 rw [y] at g;refine wpIn_region_any p (yC9 (yCn u) s _ _ _ _ (?_:wpAny P .any (b++[o]).toArray Q _ _ a w.drew));refine yKx b o g _ _ a _ (by simp) (by simp) (yHe _) (wpAny_of_held (S:=S) _ _ _ _ ?_);have:=yIv (md:=.any) (Q:=Exit.then (fun a w=>wpList P (b++[o]).toArray Q [o] a w) Q) i (fun c a f w h=>q c a f w h) e (b++[nop o]) 0 _ a w.drew (fun j=>by simp) (by simpa using k) t h;simpa using this
end
section
open Go.RowKit Go.Proofs Go.Shelf
attribute [local go_sem] qV
theorem rup_any (s:ByteArray) (j:s.size≤2097152) (x:Nat) (w:World) (d:T8 w) :
 Calls Tryz.prog 125 #[s,x] w fun e w'=>e=.returned (.int .i64 (upB s x))∧Below w w w':=by
 have a:=cAt_any s j (x:Int) w d;have b:upB s x=if (yEx s (x:Int)).1=x then x else (yEx s (x:Int)).2:=rfl;obtain⟨q,g⟩:=nm (yEx s (x:Int));rw [g] at a b;obtain⟨f,t⟩:=q;dsimp only at a b;rw [b];have i:=lh a;clear a b g d;go_enter Tryz.func125,Tryz.ntmps125;by_cases h:f=x
 ·rw [Zg h];subst h;go_wp2_with (go_at_call 112;refine i.out.mono ?_;rintro e w1 ⟨rfl,c⟩);go_ret;exact⟨rfl,c⟩
 ·rw [Zf h];have k:((f:Int)==(x:Int))=false:=(by rw [zN];omega);clear h;go_wp2_with (go_at_call 112;refine i.out.mono ?_;rintro e w1 ⟨rfl,c⟩);go_ret;exact⟨rfl,c⟩
theorem conv_str3 (d:ByteArray) (c:d.size≤2097152) :
 ∃(C:World→Nat) (F:World→World),(∀w,(convert 9 121 (.string d)).run Tryz.prog w=.ok (.slice (some ⟨w.heap.size,0,none⟩) (yE d).length (C w)) (F w))∧∀w,Below w.heap.size w (F w):=by
 obtain⟨C,F,a,b⟩:=conv_str d (by omega);exact⟨C,F,a,fun w=>(b w).1⟩
theorem yQt (s:ByteArray) (a:s.size≤2097152) (w:World) :
 Calls Tryz.prog 126 #[s] w fun e w'=>e=.returned (.int .i64 (yE s).length)∧Below w w w':=by
 obtain⟨C,F,c,b⟩:=conv_str3 s a;go_enter Tryz.func126,Tryz.ntmps126;go_wp2;go_ret;exact⟨rfl,b w⟩
def pcE:Enc Pc:=⟨fun p=>[p.a,p.size,p.c0,p.c1,.int .u8 p.level,p.became,p.shown,p.wide,p.e0,p.e1],10,fun _=>rfl⟩
def LdB (W:World) (b:Nat) (lv sv:Value) (fr tt base:Nat) (wide:Int):Prop :=
 W.heap[b]? = some (.cells #[lv,sv,fr,tt,.int .u8 base,wide] 95 (0,0))
section
variable {W W':World} {b:Nat} {lv sv:Value} {fr tt base:Nat} {wide:Int}
theorem LdB.lt (h:LdB W b lv sv fr tt base wide):b<W.heap.size:=(zH.1 h).1
theorem LdB.below (h:LdB W b lv sv fr tt base wide) {B:Nat} (a:Below B W W') (c:b<B):LdB W' b lv sv fr tt base wide:=(a.block b c).trans h
theorem LdB.cells (h:LdB W b lv sv fr tt base wide):W.cell? ⟨b,0,none⟩=some lv∧W.cell? ⟨b,1,none⟩=some sv∧W.cell? ⟨b,2,none⟩=some (.int .i64 fr)∧W.cell? ⟨b,3,none⟩=some (.int .i64 tt)∧W.cell? ⟨b,4,none⟩=some (.int .u8 base)∧W.cell? ⟨b,5,none⟩=some (.int .i64 wide):=by
 unfold LdB at h;refine⟨?_,?_,?_,?_,?_,?_⟩ <;> simp [World.cell?,h]
theorem LdB.frz (h:LdB W b lv sv fr tt base wide) (i:Nat):W.frozen? ⟨b,i,none⟩=false:=by
 unfold LdB at h;simp [World.frozen?,h]
theorem LdB.set0 (h:LdB W b lv sv fr tt base wide) (v:Value):LdB (W.setCell ⟨b,0,none⟩ v) b v sv fr tt base wide:=yM h v
theorem LdB.set1 (h:LdB W b lv sv fr tt base wide) (v:Value):LdB (W.setCell ⟨b,1,none⟩ v) b lv v fr tt base wide:=yM h v
theorem LdB.set2 (h:LdB W b lv sv fr tt base wide) (x:Nat):LdB (W.setCell ⟨b,2,none⟩ (.int .i64 x)) b lv sv x tt base wide:=yM h _
theorem LdB.set3 (h:LdB W b lv sv fr tt base wide) (x:Nat):LdB (W.setCell ⟨b,3,none⟩ (.int .i64 x)) b lv sv fr x base wide:=yM h _
theorem LdB.set4 (h:LdB W b lv sv fr tt base wide) (x:Nat):LdB (W.setCell ⟨b,4,none⟩ (.int .u8 x)) b lv sv fr tt x wide:=yM h _
theorem LdB.set5 (h:LdB W b lv sv fr tt base wide) (x:Int):LdB (W.setCell ⟨b,5,none⟩ (.int .i64 x)) b lv sv fr tt base x:=yM h _
theorem LdB.other (h:LdB W b lv sv fr tt base wide) {B i:Nat} {v:Value} (a:b≠B):LdB (W.setCell ⟨B,i,none⟩ v) b lv sv fr tt base wide:=yA h a
end
def inL (fr tt:Nat) (L:List (Nat × ByteArray)):List (Nat × ByteArray):=L.filter (fun p=>decide (fr≤p.1)&&decide (p.1<tt))
theorem inL_snoc (fr tt:Nat) (L:List (Nat × ByteArray)) (p:Nat × ByteArray):inL fr tt (L++[p])=inL fr tt L++if fr≤p.1∧p.1<tt then [p] else []:=by
 unfold inL;rw [List.filter_append]
 congr 1
 by_cases h:fr≤p.1∧p.1<tt
 ·rw [Zg h,List.filter_cons_of_pos (by simp [h]),List.filter_nil]
 ·rw [Zf h,List.filter_cons_of_neg (by simp;omega),List.filter_nil]
def yOv (L:List (Nat × ByteArray)):Nat:=((L.map (·.2)).flatMap yE).length
theorem yQl (L:List (Nat × ByteArray)) (p:Nat × ByteArray):yOv (L++[p])=yOv L+(yE p.2).length:=by
 unfold yOv;rw [zW,zU,zJ];simp
theorem Tryz.info_piece:(Tryz.prog.info? 98).map (fun i=>(i.zero,i.size,i.bytes))=some (some (.agg #[.int .i64 0,.int .i64 0,.int .i64 0,.int .i64 0,.int .u8 0,.string ⟨#[]⟩,.string ⟨#[]⟩,.int .i64 0,.int .i64 0,.int .i64 0]),10,96):=by kernel_rfl
def yDq (ra rl lev rwd fin:Int):Value:=.agg #[ra,rl,.int .u8 lev,rwd,.int .i8 fin]
def FdJ (w:World) (b n:Nat) (s:ByteArray) (sv:Value) (fr tt base:Nat) (wide:Int) (pre:List (yO s)) (W:World):Prop :=
 Boxed W w.heap.size 87 (.pointer (some ⟨b,0,none⟩))∧(∃lv,LdB W b lv sv fr tt base wide∧yN pcE 98 W w.heap.size lv (findF (inL fr tt (pre.map (·.1))) 0))∧Boxed W n 3 (.int .i64 (yOv (inL fr tt (pre.map (·.1))))) ∧
  Boxed W (n+1) 9 (.string s)∧yOv (inL fr tt (pre.map (·.1)))≤pre.length*2097152∧Below b w W
theorem LdB.kept {X Y:World} {b:Nat} {lv a:Value} {fr c base:Nat} {d:Int} (h:LdB X b lv a fr c base d) {row:Option Nat} (g:X.grownBy Y row) (i:∀k,row=some k→∃o,X.heap[k]? = some o∧o.isCells=false):LdB Y b lv a fr c base d :=
 (g.block b (zH.1 h).1 (fun e=>by
   obtain⟨o,f,j⟩:=i _ e.symm;rw [show X.heap[b]? = _ from h] at f;cases f;cases j)).trans h
theorem yN.kept {α:Type} {E:Enc α} {e:Nat} {X Y:World} {base:Nat} {v:Value} {l:List α} (h:yN E e X base v l) {row:Option Nat} (b:X.grownBy Y row) (c:∀k,row=some k→∃o,X.heap[k]? = some o∧o.isCells=false):yN E e Y base v l:=by
 refine JC h b ?_;rcases h.2 with ⟨h,_⟩ | ⟨g,cap,j,h,_,d,_⟩
 ·rw [h];exact .inl rfl
 ·rw [h];refine .inr fun f=>?_;obtain⟨o,a,i⟩:=c _ f.symm;rw [d] at a;cases a;cases i
theorem farS {W a:World} {b t c d base e i n:Nat} {x:Array Value} {v:Value} {xs:List Value} (h:W.heap[b]? = some (.cells x t (c,d))) (j:W.ownsRow base e i v n xs) (k:t≠e) (l:W.grownBy a v.ownBlock) :
 a.heap[b]? = some (.cells x t (c,d)):=by
 refine (l.block b (zH.1 h).1 ?_).trans h;rcases j.2 with ⟨rfl,_⟩ | ⟨g,cap,m,rfl,_,f,_⟩
 ·intro e;cases e
 ·intro e;cases e;rw [h] at f;cases f;exact k rfl
theorem newS (W:World) (t:Nat) (xs:List Value):∀j u,xs[j]? = some u→(W.alloc (.cells xs.toArray t)).cell? ((⟨W,0,none⟩:Addr).add j)=some u:=fun j u a=>by
 have h:=World.cell?_alloc_mark W xs.toArray t (0,0) j;rw [JK,Za];refine h.trans ?_;simpa using a
structure FdS (w:World) (b n:Nat) (sv:Value) (base:Nat) (wide:Int) (W:World):Prop where
 t8:T8 W
 ptr:Boxed W w.heap.size 87 (.pointer (some ⟨b,0,none⟩))
 ld:∃x y,LdB W b (.slice none 0 0) sv x y base wide
 bel:Below b w W
 sz:n≤W.heap.size
theorem FdS.below {w:World} {b n:Nat} {c:Value} {base:Nat} {d:Int} {W e:World} (h:FdS w b n c base d W) (l:w.heap.size<n) (m:b<w.heap.size) (a:Below W W e):FdS w b n c base d e:=by
 obtain⟨f,g,⟨x,y,i⟩,j,k⟩:=h;exact⟨f.below rfl a,(a.block _ (by omega)).trans g,⟨x,y,i.below a (by omega)⟩,j.trans (a.mono (by omega)),zY k a.size⟩
theorem FdS.drew {w:World} {b n:Nat} {a:Value} {base:Nat} {c:Int} {W:World} (h:FdS w b n a base c W):FdS w b n a base c W.drew :=
 ⟨h.t8,h.ptr,h.ld,h.bel.drew,h.sz⟩
theorem FdS.set {w:World} {b n:Nat} {c:Value} {base:Nat} {d:Int} {W:World} (h:FdS w b n c base d W) (f:Tryz.lays197_ren.g 3<b) (j:Tryz.lays197_ren.g 4<b) (r:b<w.heap.size) (i x:Nat) (k:i=2∨i=3):FdS w b n c base d (W.setCell ⟨b,i,none⟩ (.int .i64 x)):=by
 obtain⟨l,m,⟨y,z,e⟩,o,q⟩:=h;have a:Below b W (W.setCell ⟨b,i,none⟩ (.int .i64 x)):=(Zc _ W).setCell (p:=⟨b,i,none⟩) (zT _) _;refine⟨l.keep f j a,yA m (by omega),?_,o.trans a,?_⟩
 ·rcases k with rfl | rfl
  ·exact⟨x,z,e.set2 x⟩
  ·exact⟨y,x,e.set3 x⟩
 ·exact zY q a.size
theorem rFind_any (s:ByteArray) (hs:s.size≤2097152) (H P a7 a8 fin:Int) (b:Nat) (f:Value) (base:Nat) (m:Int) (w:World) (hT:T8 w) (f0:Tryz.lays197_ren.g 3<b) (f1:Tryz.lays197_ren.g 4<b) (hL:LdB w b (.slice none 0 0) f 0 0 base m) :
 Calls Tryz.prog 83 #[.pointer (some ⟨b,0,none⟩),s,yDq H P a7 a8 fin] w fun e w'=>e=.returned (.tuple #[]) ∧
  ∃lv,LdB w' b lv f (ym s H) (yk s H P) base m∧yN pcE 98 w' w.heap.size lv (yAo s (ym s H) (yk s H P))∧Below b w w':=by
 obtain⟨i0,k4,k5,k6,k7⟩:=info_parts Tryz.info_piece;obtain⟨m0,c6⟩:=nm (H.toNat);obtain⟨m1,f4⟩:=nm (P.toNat);obtain⟨A,hA⟩:=nm (min m0 s.size);obtain⟨D,hD⟩:=nm (min m1 (s.size-A));obtain⟨E,hE⟩:=nm (A+D);have e1:max H 0=(m0:Int):=by omega
 have e2:min (m0:Int) (s.size:Int)=(A:Int):=by omega
 have e3:max P 0=(m1:Int):=by omega
 have e4:min (m1:Int) ((s.size:Int)-(A:Int))=(D:Int):=by omega
 have o2:A≤s.size:=by omega
 have o3:E≤s.size:=by omega
 have f5:ym s H=upB s A:=by unfold ym yN8;rw [c6,hA]
 have f6:yk s H P=upB s E:=by unfold yk rowB yN8;rw [c6,hA,f4,hD,hE]
 rw [f5,f6];obtain⟨fr,c7⟩:=nm (upB s A);obtain⟨q,c8⟩:=nm (upB s E);rw [c7,c8];have b4:b<w.heap.size:=hL.lt;have f7:Hid (∀W,T8 W→Calls Tryz.prog 125 #[s,A] W fun e w'=>e=.returned (.int .i64 fr)∧Below W.heap.size W w'):=lh fun W h=>c7▸rup_any s hs A W h;have f8:Hid (∀W,T8 W→Calls Tryz.prog 125 #[s,E] W fun e w'=>e=.returned (.int .i64 q)∧Below W.heap.size W w'):=lh fun W h=>c8▸rup_any s hs E W h;clear c6 hA f4 hD f5 f6 c7 c8;refine (qG (n:=4)).1 ?_;refine qI Tryz.func83 rfl trivial ?_ rfl;simp only [Tryz.ntmps83,qW,zb,zn,Nat.reduceAdd,Nat.reduceSub,qX,qY,qZ,qd,zp,zo];unfold yDq;gi_upto_region 1 with fail;obtain⟨j1,j2,a9⟩:=yCm w (.cells #[.pointer (some ⟨b,0,none⟩)] 87 (0,0)) (.cells #[H,P,.int .u8 a7,a8,.int .i8 fin] 24 (0,0));have c9:((w.alloc (.cells #[.pointer (some ⟨b,0,none⟩)] 87)).alloc (.cells #[H,P,.int .u8 a7,a8,.int .i8 fin] 24)).heap.size=w.heap.size+2:=by rw [zM,zM]
 generalize (w.alloc _).alloc _=W1 at j1 j2 a9 c9 ⊢;obtain⟨q0,q1⟩:=qc2 j2;have k1:Boxed W1 w.heap.size 87 (.pointer (some ⟨b,0,none⟩)):=j1;have hF:FdS w b (w.heap.size+2) f base m W1:=⟨hT.below rfl a9,k1,⟨0,0,hL.below a9 b4⟩,a9.mono (by omega),by omega⟩;have HF:=lh hF;have o4:(A:Int)≤(s.size:Int):=by omega
 have o5:(s.size:Int)≤2097152:=by omega
 have o6:(D:Int)≤2097152:=by omega
 have o7:=lh c9;clear j1 j2 k1 hF;gi_upto_region 3 with fail;clear q0 q1;have f9:Hid (∀W,FdS w b (w.heap.size+2) f base m W→Calls Tryz.prog 125 #[s,A] W fun e w'=>e=.returned (.int .i64 fr)∧FdS w b (w.heap.size+2) f base m w'):=lh fun W h=>(f7.out W h.t8).mono fun e w' ⟨t,M⟩=>⟨t,h.below (by omega) b4 M⟩;have g0:Hid (∀W,FdS w b (w.heap.size+2) f base m W→Calls Tryz.prog 125 #[s,E] W fun e w'=>e=.returned (.int .i64 q)∧FdS w b (w.heap.size+2) f base m w'):=lh fun W h=>(f8.out W h.t8).mono fun e w' ⟨t,M⟩=>⟨t,h.below (by omega) b4 M⟩;obtain⟨v2,g3⟩:∃v2:World→Value,∀W,FdS w b (w.heap.size+2) f base m W→W.cell? ⟨b,2,none⟩=some (v2 W):=⟨fun W=>(W.cell? ⟨b,2,none⟩).getD undef,fun W h=>by obtain⟨_,_,u⟩:=h.ld;simp [u.cells]⟩;obtain⟨v3,g4⟩:∃v3:World→Value,∀W,FdS w b (w.heap.size+2) f base m W→W.cell? ⟨b,3,none⟩=some (v3 W):=⟨fun W=>(W.cell? ⟨b,3,none⟩).getD undef,fun W h=>by obtain⟨_,_,u⟩:=h.ld;simp [u.cells]⟩;have I:Hid (∀W,FdS w b (w.heap.size+2) f base m W→W.cell? ⟨w,0,none⟩=some (.pointer (some ⟨b,0,none⟩))∧W.frozen? ⟨b,2,none⟩=false∧W.frozen? ⟨b,3,none⟩=false∧W.cell? ⟨b,2,none⟩=some (v2 W)∧W.cell? ⟨b,3,none⟩=some (v3 W)∧FdS w b (w.heap.size+2) f base m W) :=
  lh fun W h=>⟨h.ptr.cell,(by obtain⟨_,_,u⟩:=h.ld;exact u.frz 2),(by obtain⟨_,_,u⟩:=h.ld;exact u.frz 3),g3 W h,g4 W h,h⟩
 clear g3 g4;have a2:Hid (∀W i (x:Nat),FdS w b (w.heap.size+2) f base m W→(i=2∨i=3)→FdS w b (w.heap.size+2) f base m (W.setCell ⟨b,i,none⟩ (.int .i64 x))):=lh fun W i x h hi=>h.set f0 f1 b4 i x hi;obtain⟨kc,f2,f3,k8,k9,hF⟩:=I.out W1 HF.out;clear f7 f8 e1 e2 e3 e4 hL hT a9 c9;rw [show (A:Int)+(D:Int)=(E:Int) by omega];refine wpIn_wide.2 ?_
 go_region_held3 (fun w'=>w'.cell? ⟨w,0,none⟩=some (.pointer (some ⟨b,0,none⟩))∧w'.frozen? ⟨b,2,none⟩=false∧w'.frozen? ⟨b,3,none⟩=false∧w'.cell? ⟨b,2,none⟩=some (v2 w')∧w'.cell? ⟨b,3,none⟩=some (v3 w')∧FdS w b (w.heap.size+2) f base m w')
  ((refine I.out _ ?_;repeat (first | assumption | refine FdS.drew ?_ | refine a2.out _ _ _ ?_ (by first | exact Or.inl rfl | exact Or.inr rfl))))
  ((first | (go_at_call 125;(with_reducible refine (f9.out _ (by repeat (first | assumption | refine FdS.drew ?_ | refine a2.out _ _ _ ?_ (by first | exact Or.inl rfl | exact Or.inr rfl)))).mono ?_);rintro e w1 ⟨rfl,a3⟩;have l0:=(I.out _ a3).1;have l1:=(I.out _ a3).2.1;have l2:=(I.out _ a3).2.2.1;have l3:=(I.out _ a3).2.2.2.1;have l4:=(I.out _ a3).2.2.2.2.1) | (go_at_call 125;(with_reducible refine (g0.out _ (by repeat (first | assumption | refine FdS.drew ?_ | refine a2.out _ _ _ ?_ (by first | exact Or.inl rfl | exact Or.inr rfl)))).mono ?_);rintro e w2 ⟨rfl,V⟩;have l5:=(I.out _ V).1;have l6:=(I.out _ V).2.1;have l7:=(I.out _ V).2.2.1;have l8:=(I.out _ V).2.2.2.1;have l9:=(I.out _ V).2.2.2.2.1)))
 have hW:∃R,(w2.setCell ⟨b,2,none⟩ (.int .i64 (fr:Int))).setCell ⟨b,3,none⟩ (.int .i64 (q:Int))=R:=⟨_,rfl⟩;obtain⟨R,b5⟩:=hW;have m2:FdS w b (w.heap.size+2) f base m R:=b5▸a2.out _ 3 q (a2.out _ 2 fr V (.inl rfl)) (.inr rfl);have g8:LdB R b (.slice none 0 0) f fr q base m:=by
  obtain⟨x,y,hl⟩:=V.ld;exact b5▸(hl.set2 fr).set3 q
 obtain⟨g9,k2,_,h8,m3⟩:=m2;rw [b5];clear b5 a3 V l0 l1 l2 l3 l4 l5 l6 l7 l8 l9 f9 g0 I a2 HF kc f2 f3 k8 k9 hF;have a0:=(Zc R.heap.size R).alloc (zT _) (.cells #[.int .i64 0] 3);have b6:=zL R (.cells #[.int .i64 0] 3);have b0:=zM R (.cells #[.int .i64 0] 3);obtain⟨n,hn⟩:=nm (R.heap.size);gi_upto_region 5 with fail;rw [hn] at a0 b6 b0 m3;generalize R.alloc _=W3 at a0 b6 b0 ⊢;have r1:Boxed W3 w.heap.size 87 (.pointer (some ⟨b,0,none⟩)):=(a0.block _ (by omega)).trans k2;have r2:LdB W3 b (.slice none 0 0) f fr q base m:=g8.below a0 (by omega);have r3:Boxed W3 n 3 (.int .i64 0):=b6;have r6:Below b w W3:=h8.trans (a0.mono (by omega));have h9:T8 W3:=g9.below hn.symm a0;clear a0 b6 k2 g8 h8 g9 hn;gi_wp2;refine⟨trivial,?_⟩;refine (qG.2 (yIy s _)).mono ?_;rintro e' T ⟨rfl,b7⟩;simp only [b0];unfold itV;have a4:Below W3 W3 T:=b7▸(Zc _ _).alloc (zT _) _;have b8:Boxed T (n+1) 9 (.string s):=by rw [←b0,b7];exact zL W3 _
 have o8:T.heap.size=n+2:=by rw [b7,zM,b0]
 have p1:Boxed T w.heap.size 87 (.pointer (some ⟨b,0,none⟩)):=(a4.block _ (by omega)).trans r1;have p2:LdB T b (.slice none 0 0) f fr q base m:=r2.below a4 (by omega);have p3:Boxed T n 3 (.int .i64 0):=(a4.block _ (by omega)).trans r3;have p6:Below b w T:=r6.trans (a4.mono (by omega));have d6:T8 T:=h9.below rfl a4;clear b7 a4 r1 r2 r3 r6 h9;gi_wp2;refine wpIn_rangeFunc_ownF (F:=Fence.wide) rfl (by omega) (gf:=124) (lb:=#[.pointer (some ⟨n+1,0,none⟩)]) rfl trivial (qJ Tryz.func124 (by kernel_rfl) rfl)
  (yBf 3 (by omega) (n+1) b s (by omega) f0 f1 T (by omega) b8.cell d6) (fun h k=>KpB.trans h k) (yEy (w:=T) (by omega)) (Zc _ _) (fun _=>rfl)
  (FdJ w b n s f fr q base m) (fun _ _ _=>False) ?hI (fun _ _ _ _ _ hs _ _=>hs) ?h0
  (fun x=>{ tmps:=#[.pointer (some ⟨b,0,none⟩),.string s,.agg #[.int .i64 H,.int .i64 P,.int .u8 a7,.int .i64 a8,.int .i8 fin],.pointer (some ⟨w,0,none⟩),undef,.pointer (some ⟨w.heap.size+1,0,none⟩),.int .i64 A,.int .i64 E,.pointer (some ⟨n,0,none⟩),.int .i64 x.1.1,.string x.1.2,undef,.pointer (some ⟨w.heap.size+1,0,none⟩),.int .i64 H,.int .i64 m0,.string s,.int .i64 s.size,.int .i64 A,.int .i64 A,.pointer (some ⟨w.heap.size+1,1,none⟩),.int .i64 P,.int .i64 m1,.string s,.int .i64 s.size,.int .i64 A,.int .i64 ((s.size:Int)-A),.int .i64 D,.int .i64 E,.pointer (some ⟨b,0,none⟩),.pointer (some ⟨b,0,none⟩),.string s,.int .i64 A,.int .i64 fr,.string s,.int .i64 E,.int .i64 q,.pointer (some ⟨b,0,none⟩),.pointer (some ⟨b,2,none⟩),.pointer (some ⟨b,0,none⟩),.pointer (some ⟨b,3,none⟩),.string s,(.func (.func 124) #[] #[.pointer (some ⟨n+1,0,none⟩)]),.int .i64 x.1.1,.string x.1.2,undef,undef,undef,undef,undef,undef,undef,undef,undef,undef,undef,undef,undef,undef,undef,undef,undef,undef,undef,undef,undef,undef,undef,undef,undef,undef,undef,undef,undef,undef,undef,undef,undef,undef,undef,undef,undef],defers:=[] }) ?assign ?body ?done ?stop
 case hI =>
  rintro pre X Y row ⟨t,⟨lv,M,u⟩,h4,h5,h6,Z⟩ C i3;have hr:=fun k e=>(i3 k e).2;exact⟨yV t C hr,⟨lv,M.kept C hr,u.kept C hr⟩,yV h4 C hr,yV h5 C hr,h6,Z.grown C (by have:=Z.size;omega) (fun k e=>by have:=(i3 k e).1;omega)⟩
 case h0=>exact⟨p1,⟨_,p2,yN.nil _ _ _⟩,p3,b8,by simp [yOv,inL],p6⟩
 case assign =>
  intro l x W K Q;gi_wp2;exact Q
 case stop =>
  rintro D' c pre W m4 _ h _;exact h.elim
 case done =>
  rintro D' xs W m4 i4 ⟨t,⟨lv,M,u⟩,h4,h5,h6,Z⟩ Q;rw [i4] at u;have i5:=qE W D' (.deferred none);have i6:∀k,some D'=some k→∃o,W.heap[k]? = some o∧o.isCells=false:=fun k e=>by cases e;exact⟨_,Q,rfl⟩
  have b9:LdB (W.putObj D' (.deferred none)) b lv f fr q base m∧yN pcE 98 (W.putObj D' (.deferred none)) w.heap.size lv (yAo s fr q)∧Below b w (W.putObj D' (.deferred none)) :=
   ⟨M.kept i5 i6,u.kept i5 i6,Z.trans (JY (w:=w) (by omega) W D' _ _ (by omega) Q rfl rfl)⟩
  clear t M u h4 h5 h6 Z i4 p1 p2 p3 p6 b8 d6;gi_wp2;refine⟨by simp,.inl ⟨_,_,rfl,Zv Q,?_⟩⟩;exact⟨_,results_none rfl _ _ _,rfl,lv,b9⟩
 case body =>
  rintro l pre x W ⟨t,⟨lv,M,u⟩,h4,h5,h6,Z⟩ o9;obtain⟨r,b1⟩:∃a,x.1.1=a:=⟨_,rfl⟩;obtain⟨c,c0⟩:=nm (x.1.2);have hx:=x.2;rw [b1,c0] at hx;simp only [b1,c0];have p0:=yAj s;obtain⟨L,c2⟩:=nm (inL fr q (pre.map (·.1)));have d7:=inL_snoc fr q (pre.map (·.1)) x.1;have i7:(pre++[x]).map (·.1)=pre.map (·.1)++[x.1]:=(by rw [zW,ZA]);rw [←i7,c2,b1] at d7;have p4:L.length≤pre.length:=by
   rw [←c2];have:=List.length_filter_le (fun p:Nat × ByteArray=>decide (fr≤p.1)&&decide (p.1<q)) (pre.map (·.1));rw [zK] at this;exact this
  rw [c2] at u h4 h6;have c1:=t.cell;obtain⟨d0,d1,d2,d3,d4,d5⟩:=M.cells;have H1:=lh t;have H2:=lh M;have H3:=lh u;have H4:=lh h4;have H5:=lh h5;have H7:=lh Z;have c3:=lh d7;have i9:x.1=(r,c):=(by rw [←b1,←c0]);clear t M u h4 h5 Z d7 i7 b1 c0 p1 p2 p3 p6 b8 d6 c2;by_cases d8:fr≤r∧r<q
  ·have HS:=lh (c3.out.trans (Zb (L++·) (Zg d8)));obtain⟨i1,i2⟩:=d8;have g1:¬ ((r:Int)<(fr:Int)):=(by omega);have g2:¬ ((r:Int) ≥ (q:Int)):=(by omega);clear c3;gi_upto_region 9 with fail;have d9:=yQt c (by omega) W;have m5:(yE c).length≤c.size:=yD3 c c.size 0;obtain⟨k,hk⟩:=nm ((yE c).length);rw [hk] at d9 m5;obtain⟨N,hN⟩:=nm (yOv L);rw [hN] at h6;have HN:=lh hN;have e0:=lh hk;have j0:=lh d9;have p5:N≤4398046511104:=by
    have:pre.length*2097152≤2097152*2097152:=JM _ (by omega);omega
   clear d9 hN hk c1 d0 d1 d2 d3 d4 d5;gi_wp2;refine⟨trivial,?_⟩;refine (CallsIn.inRound l (qG.2 j0.out)).mono ?_;rintro e' d ⟨rfl,U⟩;have p7:=H7.out.size;have p8:n+1<W.heap.size:=(zH.1 H5.out).1;have q1:Boxed d w.heap.size 87 (.pointer (some ⟨b,0,none⟩)):=(U.block _ (by omega)).trans H1.out;have q2:LdB d b lv f fr q base m:=H2.out.below U (by omega);have q3:yN pcE 98 d w.heap.size lv (findF L 0):=H3.out.keep U;have q4:Boxed d n 3 (.int .i64 N):=(U.block _ (by omega)).trans (HN.out▸H4.out);have q5:Boxed d (n+1) 9 (.string s):=(U.block _ (by omega)).trans H5.out;have q7:Below b W d:=U.mono (by omega);obtain⟨a,cap,j3,m6,_⟩:=q3.slice;rw [yD5] at j3 m6;subst j3;have kB:=q1.cell;have kb:=q2.cells.1;have kn:=q4.cell;have fb:=q2.frz 0;have fn:=q4.frozen;have p9:b≠w.heap.size:=(by omega);have q6:b≠n:=(by omega);have m7:w.heap.size<d.heap.size:=(by have:=U.size;omega);have Q1:=lh q1;have Q2:=lh q2;have Q3:=lh q3;have Q4:=lh q4;have Q5:=lh q5;have Q7:=lh q7;have m8:=lh (yR U);have e5:=lh i9;have m9:Hid (W.cell? ⟨n+1,0,none⟩=some (.string s)):=lh H5.out.cell;clear q1 q2 q3 q4 q5 q7 U H1 H2 H3 H4 H5 j0 i9;gi_upto_region 10 with fail;obtain⟨S,c4,e6⟩:∃S:World→Prop,(∀w',S w'→w'.cell? ⟨w,0,none⟩=some (.pointer (some ⟨b,0,none⟩))∧w'.cell? ⟨b,0,none⟩=some (.slice a L.length cap)∧w'.cell? ⟨n,0,none⟩=some (.int .i64 N)) ∧
    ∀w',w'.cell? ⟨w,0,none⟩=some (.pointer (some ⟨b,0,none⟩))→w'.cell? ⟨b,0,none⟩=some (.slice a L.length cap)→w'.cell? ⟨n,0,none⟩=some (.int .i64 N)→S w' :=
    ⟨fun w'=>w'.cell? ⟨w,0,none⟩=some (.pointer (some ⟨b,0,none⟩))∧w'.cell? ⟨b,0,none⟩=some (.slice a L.length cap)∧w'.cell? ⟨n,0,none⟩=some (.int .i64 N),fun _ h=>h,fun _ x y z=>⟨x,y,z⟩⟩
   have n0:∀p:WIn S,p.w.cell? ⟨w,0,none⟩=some (.pointer (some ⟨b,0,none⟩)):=fun p=>(c4 _ p.h).1;have n1:∀p:WIn S,p.w.cell? ⟨b,0,none⟩=some (.slice a L.length cap):=fun p=>(c4 _ p.h).2.1;have n2:∀p:WIn S,p.w.cell? ⟨n,0,none⟩=some (.int .i64 N):=fun p=>(c4 _ p.h).2.2;have c5:=lh e6;have n3:Nonempty (WIn S):=⟨⟨d,e6 _ kB kb kn⟩⟩;clear c4 e6;have g5:(N:Int)≤4398046511104:=(by omega);have g6:(k:Int)≤2097152:=(by omega);have g7:(c.size:Int)≤2097152:=(by omega);have q8:L.length≤2097152:=(by omega);refine yGn S [14,0] (by kernel_rfl) (by kernel_rfl) (fun _ _ _ _ h=>h) (fun _ _ h=>h) (c5.out _ kB kb kn) ?_;simp only [yHw,yAz,nop,yDx,Zm,Zj,qp,ZZ]
   repeat (go_big_quiet_step (fail))
   refine Zt ?_;intro K Q;have b2:=lh Q;clear Q;go_wp2;have b3:=qal d (.cells #[r,c.size,N,.int .i64 ((N:Int)+k),.int .u8 0,.string ⟨#[]⟩,.string ⟨#[]⟩,.int .i64 0,.int .i64 0,.int .i64 0] 98);refine b2.out _ _ (c5.out _ (yB b3 (yD kB) kB) (yB b3 (yD kb) kb) (yB b3 (yD kn) kn)) ?_;clear b2;refine Zt ?_;intro K Q;have b2:=lh Q;have a5:=lh b3;have j4:(d.alloc (.cells #[r,c.size,N,.int .i64 ((N:Int)+k),.int .u8 0,.string ⟨#[]⟩,.string ⟨#[]⟩,.int .i64 0,.int .i64 0,.int .i64 0] 98)).ownsRow w.heap.size 98 10 (.slice a L.length cap) L.length ((findF L 0).flatMap pcE.enc):=by
    have h:=Q3.out;unfold yN at h;rw [yD5] at h;exact h.alloc _
   have e7:=lh j4;clear Q b3 j4 n0 n1 n2;go_wp2_with (at_builtin;refine Zy _ rfl _ _ 92 rfl w.heap.size 98 i0 (.agg #[.int .i64 0,.int .i64 0,.int .i64 0,.int .i64 0,.int .u8 0,.string ⟨#[]⟩,.string ⟨#[]⟩,.int .i64 0,.int .i64 0,.int .i64 0]) 10 96 Tryz.underlying92 k4 k5 k6 k7 rfl (by decide) _ L.length _ rfl e7.out ⟨d,0,none⟩ 1 1 [r,c.size,N,.int .i64 ((N:Int)+k),.int .u8 0,.string ⟨#[]⟩,.string ⟨#[]⟩,.int .i64 0,.int .i64 0,.int .i64 0] rfl rfl (newS _ _ _) (by simp [Value.oneCell']) (by unfold maxLen;omega) (by omega) (by simp;omega) ?_;intro v' G ho C _ _);obtain⟨O,J,n4,_,_⟩:=yP ho;subst n4;replace C:(d.alloc (.cells #[r,c.size,N,.int .i64 ((N:Int)+k),.int .u8 0,.string ⟨#[]⟩,.string ⟨#[]⟩,.int .i64 0,.int .i64 0,.int .i64 0] 98)).drew.grownBy G (Value.slice a L.length cap).ownBlock:=C;have A1:Boxed (d.alloc (.cells #[r,c.size,N,.int .i64 ((N:Int)+k),.int .u8 0,.string ⟨#[]⟩,.string ⟨#[]⟩,.int .i64 0,.int .i64 0,.int .i64 0] 98)).drew w.heap.size 87 (.pointer (some ⟨b,0,none⟩)):=(a5.out.block _ m7).trans Q1.out;have A2:LdB (d.alloc (.cells #[r,c.size,N,.int .i64 ((N:Int)+k),.int .u8 0,.string ⟨#[]⟩,.string ⟨#[]⟩,.int .i64 0,.int .i64 0,.int .i64 0] 98)).drew b (.slice a L.length cap) f fr q base m:=(a5.out.block _ (by omega)).trans Q2.out;have n5:n<d.heap.size:=(zH.1 Q4.out).1;have n6:n+1<d.heap.size:=(zH.1 Q5.out).1;have A4:Boxed (d.alloc (.cells #[r,c.size,N,.int .i64 ((N:Int)+k),.int .u8 0,.string ⟨#[]⟩,.string ⟨#[]⟩,.int .i64 0,.int .i64 0,.int .i64 0] 98)).drew n 3 (.int .i64 N):=(a5.out.block _ n5).trans Q4.out;have A5:Boxed (d.alloc (.cells #[r,c.size,N,.int .i64 ((N:Int)+k),.int .u8 0,.string ⟨#[]⟩,.string ⟨#[]⟩,.int .i64 0,.int .i64 0,.int .i64 0] 98)).drew (n+1) 9 (.string s):=(a5.out.block _ n6).trans Q5.out;have a1:(d.alloc (.cells #[r,c.size,N,.int .i64 ((N:Int)+k),.int .u8 0,.string ⟨#[]⟩,.string ⟨#[]⟩,.int .i64 0,.int .i64 0,.int .i64 0] 98)).drew.ownsRow w.heap.size 98 10 (.slice a L.length cap) L.length ((findF L 0).flatMap pcE.enc):=e7.out;have B1:Boxed G w.heap.size 87 (.pointer (some ⟨b,0,none⟩)):=farS A1 a1 (by decide) C;have B2:LdB G b (.slice a L.length cap) f fr q base m:=farS A2 a1 (by decide) C;have B4:Boxed G n 3 (.int .i64 N):=farS A4 a1 (by decide) C;have B5:Boxed G (n+1) 9 (.string s):=farS A5 a1 (by decide) C;have j5:Below w d G:=by
    have t:Below w d (d.alloc (.cells #[r,c.size,N,.int .i64 ((N:Int)+k),.int .u8 0,.string ⟨#[]⟩,.string ⟨#[]⟩,.int .i64 0,.int .i64 0,.int .i64 0] 98)).drew:=((Zc w.heap.size d).alloc (by omega) _).drew;exact t.grown C (by have:=t.size;omega) (fun k hk=>(a1.lt k hk).1)
   have j6:KeepsOthers d G:=(yR (A:=d) (B:=(d.alloc (.cells #[r,c.size,N,.int .i64 ((N:Int)+k),.int .u8 0,.string ⟨#[]⟩,.string ⟨#[]⟩,.int .i64 0,.int .i64 0,.int .i64 0] 98)).drew) a5.out.drew).trans (qQ C (fun j o hj j7=>by
    rcases a1.2 with ⟨t,_⟩ | ⟨g,J,q9,t,_,n7,_⟩
    ·rw [t] at hj;cases hj
    ·rw [t] at hj;have:g=j:=by
      have:=zu hj;exact this
     subst this;rw [n7] at j7;cases j7;rfl))
   have e8:=lh B1;have a6:=lh B2;have e9:=lh B4;have j8:=lh B5;have j9:=lh j5;have k0:=lh j6;have HO:=lh ho;clear C A1 A2 A4 A5 a1 B1 B2 B4 B5 j5 j6 ho a5 e7;refine b2.out _ _ (c5.out _ e8.out.cell a6.out.cells.1 e9.out.cell) ?_;clear b2;simp only [Act.put,zg,zh,zi]
   repeat (go_big_quiet_step (fail))
   refine Zt ?_;change wpList _ _ _ _ _ _;have n8:=a6.out.cells.1;have n9:=a6.out.frz 0;clear c5 kB kb kn fb fn n3;go_wp2;have C2:LdB (G.setCell ⟨b,0,none⟩ (.slice O (L.length+1) J)) b (.slice O (L.length+1) J) f fr q base m:=a6.out.set0 _;have C1:Boxed (G.setCell ⟨b,0,none⟩ (.slice O (L.length+1) J)) w.heap.size 87 (.pointer (some ⟨b,0,none⟩)):=yA e8.out (by omega);have C4:Boxed (G.setCell ⟨b,0,none⟩ (.slice O (L.length+1) J)) n 3 (.int .i64 N):=yA e9.out (by omega);have C5:Boxed (G.setCell ⟨b,0,none⟩ (.slice O (L.length+1) J)) (n+1) 9 (.string s):=yA j8.out (by omega);have CO:(G.setCell ⟨b,0,none⟩ (.slice O (L.length+1) J)).ownsRow w.heap.size 98 10 (.slice O (L.length+1) J) (L.length+1) ((findF L 0).flatMap pcE.enc++[.int .i64 r,.int .i64 c.size,.int .i64 N,.int .i64 ((N:Int)+k),.int .u8 0,.string ⟨#[]⟩,.string ⟨#[]⟩,.int .i64 0,.int .i64 0,.int .i64 0]) :=
    yp HO.out (yA8 HO.out a6.out (by decide))
   have o0:Below b d G:=j9.out.mono (by omega);have CB:Below b d (G.setCell ⟨b,0,none⟩ (.slice O (L.length+1) J)):=o0.setCell (p:=⟨b,0,none⟩) (zT _) _;have CK:KeepsOthers d (G.setCell ⟨b,0,none⟩ (.slice O (L.length+1) J)):=k0.out.trans (ZT _ _ _);clear e8 a6 e9 j8 HO j9 k0 n8 n9;generalize G.setCell _ _=W7 at C1 C2 C4 C5 CO CB CK ⊢;have r0:=C4.cell;have r4:=C4.frozen;have D1:=lh C1;have D2:=lh C2;have D4:=lh C4;have D5:=lh C5;have DO:=lh CO;have DB:=lh CB;have DK:=lh CK;clear C1 C2 C4 C5 CO CB CK;gi_wp2;have E1:Boxed (W7.setCell ⟨n,0,none⟩ (.int .i64 ((N:Int)+k))) w.heap.size 87 (.pointer (some ⟨b,0,none⟩)):=yA D1.out (by omega);have E2:LdB (W7.setCell ⟨n,0,none⟩ (.int .i64 ((N:Int)+k))) b (.slice O (L.length+1) J) f fr q base m:=D2.out.other (by omega);have E4:Boxed (W7.setCell ⟨n,0,none⟩ (.int .i64 ((N:Int)+k))) n 3 (.int .i64 ((N:Int)+k)):=yM D4.out _;have E5:Boxed (W7.setCell ⟨n,0,none⟩ (.int .i64 ((N:Int)+k))) (n+1) 9 (.string s):=yA D5.out (by omega);have EO:(W7.setCell ⟨n,0,none⟩ (.int .i64 ((N:Int)+k))).ownsRow w.heap.size 98 10 (.slice O (L.length+1) J) (L.length+1) ((findF L 0).flatMap pcE.enc++[.int .i64 r,.int .i64 c.size,.int .i64 N,.int .i64 ((N:Int)+k),.int .u8 0,.string ⟨#[]⟩,.string ⟨#[]⟩,.int .i64 0,.int .i64 0,.int .i64 0]) :=
    yp DO.out (yA8 DO.out D4.out (by decide))
   have EB:Below b d (W7.setCell ⟨n,0,none⟩ (.int .i64 ((N:Int)+k))):=DB.out.setCell (p:=⟨n,0,none⟩) (show b≤n by omega) _;have k3:Below b W d:=Q7.out;have o1:findF (L++[x.1]) 0=findF L 0++[pc0 r c.size N (N+k)]:=by
    rw [yO9];have e1:0+((L.map (·.2)).flatMap yE).length=N:=(by rw [Za];exact HN.out);rw [e1,e5.out];show findF L 0++[pc0 r c.size N (N+(yE c).length)]=_;rw [e0.out]
   refine⟨m8.out.trans (DK.out.trans (ZT _ _ _)),⟨k3.trans EB,fun v hv=>?_⟩,E1,⟨_,E2,?_⟩,?_,E5,?_,H7.out.trans (k3.trans EB)⟩
   ·rw [m9.out] at hv;cases hv;exact E5.cell
   ·rw [HS.out,o1];unfold yN;rw [zJ,yD5,flatS_snoc];exact EO
   ·rw [HS.out,yQl,HN.out,e5.out];show Boxed _ n 3 (.int .i64 ((N+(yE c).length:Nat):Int));rw [e0.out];exact E4
   ·rw [HS.out,yQl,HN.out,e5.out,zJ];show N+(yE c).length≤(pre.length+1)*2097152;rw [e0.out,JD];omega
  ·have HS:=lh (c3.out.trans (Zb (L++·) (Zf d8)));have b9:KeepsOthers W W∧KpB (n+1) b W W∧FdJ w b n s f fr q base m (pre++[x]) W:=by
    refine⟨KeepsOthers.refl _,⟨Zc _ _,fun v hv=>hv⟩,H1.out,⟨lv,H2.out,?_⟩,?_,H5.out,?_,H7.out⟩
    ·rw [HS.out,zq];exact H3.out
    ·rw [HS.out,zq];exact H4.out
    ·rw [HS.out,zq,zJ];exact zY h6 (JM _ (ZS _ _))
   have HF:=lh b9;clear c3 HS b9;by_cases g1:(r:Int)<(fr:Int)
   ·gi_wp2;exact HF.out
   ·have g2:(r:Int) ≥ (q:Int):=(by omega);gi_wp2;exact HF.out
theorem conv_str2 (d:ByteArray) (e:d.size≤2097152) :
 ∃(C:World→Nat) (F:World→World),(∀w,(convert 9 121 (.string d)).run Tryz.prog w=.ok (.slice (some ⟨w.heap.size,0,none⟩) (yE d).length (C w)) (F w)) ∧
   ∀w,Below w.heap.size w (F w)∧Rd .i32 (F w) (some ⟨w.heap.size,0,none⟩) (yE d)∧(yE d).length≤C w∧C w≤9223372036854775807:=by
 have b:Conv.runesFrom d d.size 0 #[]=((yE d).map (Value.int .i32)).toArray:=by
  rw [yHn];unfold yE;simp
 have a:(Conv.runesFrom d d.size 0 #[]).size=(yE d).length:=by rw [b];simp
 have f:=yD3 d d.size 0;refine⟨fun w=>grownCap w (yE d).length 0 21,fun w=>w.drew.alloc (.cells (Conv.runesFrom d d.size 0 #[]++Array.replicate (grownCap w (yE d).length 0 21-(yE d).length) (.int .i32 0)) 21),fun w=>?_,fun w=>⟨?_,?_,?_,?_⟩⟩
 ·have:=run_runes_of_string (P:=Tryz.prog) w 9 121 21 d Tryz.underlying9 Tryz.underlying121 Tryz.underlying21 (by rw [a];unfold yE;omega);rw [this,a]
 ·exact (Zc _ _).drew.alloc (zT _) _
 ·exact runes_rd w d 21 _
 ·exact grownCap_ge w (yE d).length 0 21
 ·have g:(yE d).length≤d.size:=(by unfold yE;omega);have c:=grownCap_le_maxLen w (yE d).length 0 21 (by unfold maxLen;omega);unfold maxLen at c;show grownCap w (yE d).length 0 21≤9223372036854775807;omega
theorem yG2 (d:ByteArray):(yE d).length≤d.size:=by
 have a:=yD3 d d.size 0;unfold yE;omega
theorem Runes_any (d:ByteArray) (f:d.size≤2097152) (w:World) :
 Calls Tryz.prog 61 #[d] w fun e w'=>∃a c,e=.returned (.slice a (yE d).length c)∧Rd .i32 w' a (yE d)∧(yE d).length≤c∧c≤9223372036854775807∧Below w w w':=by
 obtain⟨C,F,g,b⟩:=conv_str2 d f;go_enter Tryz.func61,Tryz.ntmps61;go_wp2;go_ret;exact⟨_,_,rfl,(b w).2.1,(b w).2.2.1,(b w).2.2.2,(b w).1⟩
theorem Runes_at (d:ByteArray) (b:d.size≤2097152) (w:World) :
 Calls Tryz.prog 61 #[d] w fun e w'=>∃c,e=.returned (.slice (some ⟨w,0,none⟩) (yE d).length c)∧Rd .i32 w' (some ⟨w,0,none⟩) (yE d)∧(yE d).length≤c∧c≤9223372036854775807∧Below w w w':=by
 obtain⟨C,F,f,a⟩:=conv_str2 d b;go_enter Tryz.func61,Tryz.ntmps61;go_wp2;go_ret;exact⟨_,rfl,(a w).2.1,(a w).2.2.1,(a w).2.2.2,(a w).1⟩
theorem yO1 {k:IntKind} {w:World} {g o b i:Nat} {xs:List Int} {v:Value} (h:Rd k w (some ⟨g,o,none⟩) xs) (a:b≠g):Rd k (w.setCell ⟨b,i,none⟩ v) (some ⟨g,o,none⟩) xs:=by
 rcases h with h | ⟨c,m,e,d,f⟩
 ·exact .inl h
 ·cases e;exact .inr ⟨g,o,rfl,zl d (KeepsWalks.setCell w ⟨b,i,none⟩ v).size,fun j l=>(Zw _ _ _ _ a).trans (f j l)⟩
theorem bl_set {b:Nat} {A W:World} (h:Below b A W) (i:Nat) (v:Value):Below b A (W.setCell ⟨b,i,none⟩ v):=h.setCell (p:=⟨b,i,none⟩) (zT _) v
structure LvS (w:World) (b:Nat) (lv sv:Value) (fr tt bs:Nat) (wide:Int) (M:List Pc) (cg:Nat) (cs:List Int) (vb:Nat) (va:Option Addr) (vc:Nat) (vs:List Int) (W:World):Prop where
 ld:LdB W b lv sv fr tt bs wide
 own:yN pcE 98 W (b+1) lv M
 rd:Rd .i32 W (some ⟨cg,0,none⟩) cs
 vo:yG .u8 5 W vb va vc vs
 bel:Below b w W
section
variable {w W W':World} {b:Nat} {lv sv:Value} {fr tt bs:Nat} {wide:Int} {M:List Pc} {cg:Nat} {cs:List Int} {vb:Nat} {va:Option Addr} {vc:Nat} {vs:List Int}
theorem LvS.below (h:LvS w b lv sv fr tt bs wide M cg cs vb va vc vs W) (a:Below W W W'):LvS w b lv sv fr tt bs wide M cg cs vb va vc vs W' :=
 ⟨h.ld.below a h.ld.lt,h.own.keep a,h.rd.below a,h.vo.keep a,h.bel.trans (a.mono (Zq h.ld.lt))⟩
theorem LvS.drew (h:LvS w b lv sv fr tt bs wide M cg cs vb va vc vs W):LvS w b lv sv fr tt bs wide M cg cs vb va vc vs W.drew:=⟨h.ld,h.own,h.rd,h.vo,h.bel.drew⟩
end
structure LwS (w:World) (b G cap:Nat) (sv:Value) (fr tt bs:Nat) (wide:Int) (M:List Pc) (i:Nat) (p:Pc) (P:Nat) (oa:Option Addr) (oc:Nat) (own:List Int) (W:World):Prop where
 ld:LdB W b (.slice (some ⟨G,0,none⟩) M.length cap) sv fr tt bs wide
 row:∃y:Nat,yN pcE 98 W (b+1) (.slice (some ⟨G,0,none⟩) M.length cap) (M.set i { p with level:=y })
 box:W.heap[P]? = some (.cells #[p.a,p.size,p.c0,p.c1,.int .u8 p.level,p.became,p.shown,p.wide,p.e0,p.e1] 98 (0,0))
 out:yG .u8 5 W (b+1) oa oc own
 bel:Below b w W
theorem LwS.drew {w:World} {b G cap:Nat} {sv:Value} {fr tt bs:Nat} {wide:Int} {M:List Pc} {i:Nat} {p:Pc} {P:Nat} {a:Option Addr} {c:Nat} {own:List Int} {W:World} (h:LwS w b G cap sv fr tt bs wide M i p P a c own W):LwS w b G cap sv fr tt bs wide M i p P a c own W.drew:=⟨h.ld,h.row,h.box,h.out,h.bel.drew⟩
theorem LwS.set {w:World} {b G cap:Nat} {sv:Value} {fr tt bs:Nat} {wide:Int} {M:List Pc} {i:Nat} {p:Pc} {P:Nat} {j:Option Addr} {k:Nat} {own:List Int} {W:World} (h:LwS w b G cap sv fr tt bs wide M i p P j k own W) (n:i<M.length) (o:G≠P) (x:Nat) :
 LwS w b G cap sv fr tt bs wide M i p P j k own (W.setCell ⟨G,i*10+4,none⟩ (.int .u8 x)):=by
 obtain⟨q,⟨y,d⟩,r,l,s⟩:=h;have A:=ZW d G rfl;have t:(M.set i { p with level:=y }).length=M.length:=ZQ;have u:(M.set i { p with level:=y })[i]? = some { p with level:=y }:=by rw [ZP];simp [n]
 refine⟨yA q (by omega),⟨x,?_⟩,yA r (fun e=>o e.symm),?_,s.trans ((Zc _ W).setCell (p:=⟨G,i*10+4,none⟩) (show b≤G by omega) _)⟩
 ·have:=yN.set (cap:=cap) (by rw [t];exact d) i _ { p with level:=x } u 4 (.int .u8 x) (by decide) rfl;rw [JJ,ZQ] at this;exact this
 ·refine yp l (fun g a e=>?_);subst e;rcases l.2 with ⟨f,_⟩ | ⟨v,B,C,f,_,z,_⟩
  ·rw [f] at a;cases a
  ·rw [f] at a;have:v=g:=zu a;subst this;rcases d.2 with ⟨c,_⟩ | ⟨D,E,F,c,_,m,_⟩
   ·simp at c
   ·simp only [Value.slice.injEq,Option.some.injEq,Addr.mk.injEq] at c;obtain⟨⟨rfl,_⟩,_⟩:=c;rw [z] at m;cases m
theorem LwS.rowx {w:World} {b G cap:Nat} {sv:Value} {fr tt bs:Nat} {wide:Int} {M:List Pc} {i:Nat} {p:Pc} {P:Nat} {a:Option Addr} {c:Nat} {own:List Int} {W:World} (h:LwS w b G cap sv fr tt bs wide M i p P a c own W) (d:i<M.length) (x:Nat) :
 yN pcE 98 (W.setCell ⟨G,i*10+4,none⟩ (.int .u8 x)) (b+1) (.slice (some ⟨G,0,none⟩) M.length cap) (M.set i { p with level:=x }):=by
 obtain⟨j,⟨y,e⟩,k,l,m⟩:=h;have f:(M.set i { p with level:=y }).length=M.length:=ZQ;have g:(M.set i { p with level:=y })[i]? = some { p with level:=y }:=by rw [ZP];simp [d]
 have:=yN.set (cap:=cap) (by rw [f];exact e) i _ { p with level:=x } g 4 (.int .u8 x) (by decide) rfl;rw [JJ,ZQ] at this;exact this
theorem lastC_get {L:List Pc} {n:Nat} {p:Pc} (a:L.length=n+1) (h:L[n]? = some p):yEu L=p.c1:=by
 unfold yEu;rw [JR,qx,a,Ze,h];rfl
theorem out_addr {k:IntKind} {e base cap:Nat} {w:World} {b:Option Addr} {c:List Int} (h:yG k e w base b cap c):(b=none∧cap=0)∨∃G o,b=some ⟨G,o,none⟩:=by
 rcases h.2 with ⟨a,h0⟩ | ⟨g,d,f,a,_⟩
 ·simp only [Value.slice.injEq] at a;exact .inl ⟨a.1,a.2.2⟩
 ·simp only [Value.slice.injEq] at a;exact .inr ⟨g,0,a.1⟩
def lvP (own:List Nat) (L:List Pc) (i:Nat):List Pc:=(L.take i).map (yF5 own)++L.drop i
theorem lvP_zero (own:List Nat) (L:List Pc):lvP own L 0=L:=by unfold lvP;simp
theorem lvP_all (own:List Nat) (L:List Pc):lvP own L L.length=L.map (yF5 own):=by unfold lvP;simp
theorem lvP_len (own:List Nat) (L:List Pc) (i:Nat) (h:i≤L.length):(lvP own L i).length=L.length:=by unfold lvP;simp;omega
theorem lvP_get (own:List Nat) (L:List Pc) (i:Nat) (p:Pc) (h:L[i]? = some p):(lvP own L i)[i]? = some p:=by
 have a:=(zG.1 h).1;unfold lvP;rw [zr (by simp;omega)];simp only [zK,za];rw [ZI,show i+(i-min i L.length)=i by omega];exact h
theorem lvP_next (own:List Nat) (L:List Pc) (i:Nat) (p:Pc) (h:L[i]? = some p):(lvP own L i).set i (yF5 own p)=lvP own L (i+1):=by
 have b:=(zG.1 h).1;unfold lvP;have a:(List.map (yF5 own) (L.take i)).length=i:=by simp;omega
 rw [qm _ _ (by omega),a,Zk,qS,h,zW,yAu h,zi,zZ];rfl
theorem rLev_any (s:ByteArray) (hs:s.size≤2097152) (z f:Int) (A B Z:Bool) (b:Nat) (lv sv:Value) (fr tt:Nat) (wide:Int) (L:List Pc) (w:World) (E:LdB w b lv sv fr tt 0 wide) (hO:yN pcE 98 w (b+1) lv L) (n0:fr≤s.size)
 (hn:L.length≤2097152) (hc:∀(i:Nat) (p:Pc),L[i]? = some p→p.c0<yEu L) (a8:(yE (s.extract 0 fr)).length+yEu L≤(yE s).length) :
 Calls Tryz.prog 84 #[.pointer (some ⟨b,0,none⟩),s,yEq z f A B Z] w fun e w'=>e=.returned (.tuple #[]) ∧
  LdB w' b lv sv fr tt (yJx s f Z) wide∧yN pcE 98 w' (b+1) lv (yFv s f Z fr L)∧Below b w w':=by
 cases Z with
 | true =>
   have a9:b<w.heap.size:=E.lt;go_enter Tryz.func84,Tryz.ntmps84;go_upto_region 1 with fail;have o:=qal w (.cells #[z,A,.int .i8 f,B,true] 26);have t:=zL w (.cells #[z,A,.int .i8 f,B,true] 26);generalize w.alloc _=W0 at o t ⊢;have e6:w.heap.size<W0.heap.size:=(zH.1 t).1;obtain⟨-,-,l2,-,l4⟩:=qc5 t;have h0:LdB W0 b lv sv fr tt 0 wide:=E.below o a9;have o0:=hO.keep o;have a0:=lh o;clear o t E hO;go_wp2;exact qC (results_none rfl _ _ _) rfl ⟨rfl,h0,o0,a0.out.mono (by omega)⟩
 | false =>
   obtain⟨V,H⟩:=nm (yAx (yE s) f);obtain⟨bs,b0⟩:∃bs:Nat,V.2=bs:=⟨V.2.toNat,by rw [←H];unfold yAx;rcases yGg f (((yE s).map yDa).length+1) ((yE s).map yDa) with h | h <;> (unfold yIm;dsimp only;omega)⟩;have e7:yJx s f false=bs:=(by unfold yJx;rw [Zf (by decide),H,b0];rfl);have e8:yFv s f false fr L=L.map (yF5 (yNh s f fr (yEu L))):=(by unfold yFv;rw [Zf (by decide)]);rw [e7,e8];clear e7 e8;have a9:b<w.heap.size:=E.lt;go_enter Tryz.func84,Tryz.ntmps84;go_upto_region 1 with fail;have o:=qal w (.cells #[z,A,.int .i8 f,B,false] 26);have t:=zL w (.cells #[z,A,.int .i8 f,B,false] 26);generalize w.alloc _=W0 at o t ⊢;have e6:w.heap.size<W0.heap.size:=(zH.1 t).1;obtain⟨-,-,l2,-,l4⟩:=qc5 t;have h0:LdB W0 b lv sv fr tt 0 wide:=E.below o a9;have o0:=hO.keep o;have a0:=lh o;clear o t E hO;obtain⟨cs,I⟩:=nm (yE s);have b1:cs.length≤2097152:=(by rw [←I];have:=yG2 s;omega);rw [I] at H;have e9:Hid (∀W:World,Calls Tryz.prog 61 #[s] W fun e w'=>∃c,e=.returned (.slice (some ⟨W,0,none⟩) cs.length c)∧Rd .i32 w' (some ⟨W,0,none⟩) cs∧cs.length≤c∧c≤9223372036854775807∧Below W W w'):=lh fun W=>I▸Runes_at s hs W;go_upto_region 3 with (go_at_call 61;refine (e9.out _).mono ?_;rintro e w1 ⟨cc,rfl,a1,k7,k8,J⟩);obtain⟨cg,k9⟩:=nm (W0.heap.size);have n1:b<cg:=(by omega);rw [k9] at a1;have n2:W0.heap.size≤w1.heap.size:=J.size;have m2:=yB J e6 l2;have h1:=h0.below J (by omega);have o1:=o0.keep J;have f0:=lh (yNo (some ⟨cg,0,none⟩) cs cs.length cc f w1 rfl a1 b1 k7 k8);have f1:=a0.out.trans (J.mono (by omega));have f2:=lh f1;have f3:=lh a1;clear l2 l4 h0 o0 J f1 a1 a0 e9;go_upto_region 4 with (go_at_call 60;refine f0.out.mono ?_;rintro e v ⟨va,vc,rfl,b2,b3,K⟩);rw [H] at b2 b3;have N:=h1.below K (by omega);have o2:=o1.keep K;have f5:=f2.out.trans (K.mono (by omega));have f6:=lh (f3.out.below (K));obtain⟨la,d,l0,n3,_⟩:=o2.slice;subst l0;have C:=N.cells.1;have d2:=N.cells.2.2.1;have d4:=N.cells.2.2.2.2.1;have f4:=N.frz 4;have b4:=lh b3;have b6:=lh b2;have f7:=lh f5;have H2:=lh N;have O2:=lh o2;have n4:=K.size;clear m2 h1 o1 K b3 b2 f5 N o2 f3 f2 f0;go_upto_region 5 with fail;have D:LdB (v.setCell ⟨b,4,none⟩ (.int .u8 bs)) b (.slice la L.length d) sv fr tt bs wide:=H2.out.set4 bs;have T:yN pcE 98 (v.setCell ⟨b,4,none⟩ (.int .u8 bs)) (b+1) (.slice la L.length d) L:=O2.out.other (fun g hg=>by
    have:=ZW O2.out g hg;omega)
   have U:Below b w (v.setCell ⟨b,4,none⟩ (.int .u8 bs)):=bl_set (f7.out.mono (by omega)) _ _;have a2:Rd .i32 (v.setCell ⟨b,4,none⟩ (.int .u8 bs)) (some ⟨cg,0,none⟩) cs:=yO1 f6.out (by omega);have O:yG .u8 5 (v.setCell ⟨b,4,none⟩ (.int .u8 bs)) w1.heap.size va vc (yg V.1):=yp b4.out (fun g hg=>by have:=ZW b4.out g hg;omega);have l1:v.heap.size≤(v.setCell ⟨b,4,none⟩ (.int .u8 bs)).heap.size:=(KeepsWalks.setCell _ _ _).size;clear C d2 d4 f4 b4 f6 f7 H2 O2;generalize v.setCell _ _=W3 at D T U a2 O l1 ⊢;have C:=D.cells.1;have d2:=D.cells.2.2.1;by_cases b7:L=[]
   ·subst b7;have H3:=lh D;have O3:=lh T;have l3:=lh U;clear D T U a2 O hc a8;go_wp2;exact qC (results_none rfl _ _ _) rfl ⟨rfl,H3.out,O3.out,l3.out⟩
   have n5:0<L.length:=zj.2 b7;obtain⟨n,Q⟩:∃n,L.length=n+1:=⟨L.length-1,by omega⟩;obtain⟨l,b8⟩:∃l,L[n]? = some l:=⟨_,zF (by omega)⟩;have X:=lastC_get Q b8;obtain⟨F,hF⟩:=nm ((yE (s.extract 0 fr)).length);have f8:Hid (∀W:World,Calls Tryz.prog 126 #[.string (s.extract 0 fr)] W fun e w'=>e=.returned (.int .i64 F)∧Below W W w'):=lh fun W=>hF▸yQt (s.extract 0 fr) (by simp [ZV];omega) W;rw [hF,I,X] at a8;obtain⟨own,a3,f9⟩:=rowI_some cs V.1 bs F l.c1 a8 b6.out;rw [Int.natCast_add] at a3;have g0:yNh s f fr (yEu L)=own:=by
    unfold yNh;rw [I,H,b0,hF,X,ZC,Int.natCast_add,a3];rfl
   have l5:=lh g0;have n6:=lh X;have g1:LvS w b (.slice la L.length d) sv fr tt bs wide L cg cs w1.heap.size va vc (yg V.1) W3:=⟨D,T,a2,O,U⟩;have g2:=lh g1;have n7:(fr:Int)≤(s.size:Int):=(by omega);have g3:∀(i:Nat) (p:Pc),L[i]? = some p→p.c0<l.c1:=fun i p r=>by have:=hc i p r;rw [X] at this;exact this
   have l6:=lh g3;have g4:=lh a3;have n8:(F:Int)≤2097152:=(by omega);have n9:(l.c1:Int)≤2097152:=(by omega);have b9:=b6.out;have g5:=lh b9;have c2:=yRe O;rw [yZ,b9] at c2;have g6:=out_addr O;have g7:=lh g6;have c3:=lh c2;clear D T a2 O U g1 g0 X hc g3 a3 b9 b6 b7 hF c2 g6 b0 H I;have cL:((((n+1:Nat)):Int)==0)=false:=(by rw [zN];omega);have o4:((n:Int)+1==0)=false:=(by rw [zN];omega);rw [Q] at C;go_upto_region 7 with (go_at_call 126;refine (f8.out _).mono ?_;rintro e w4 ⟨rfl,g8⟩);have c4:=g2.out.below g8;clear C d2 g8 g2 f8;obtain⟨G,hG,o6,o7,m,c5⟩:=c4.own.at n l b8;subst hG;have c6:Hid (∀W,LvS w b (.slice (some ⟨G,0,none⟩) L.length d) sv fr tt bs wide L cg cs w1.heap.size va vc (yg V.1) W→W.cell? ⟨b,0,none⟩=some (.slice (some ⟨G,0,none⟩) (n+1) d)∧W.cell? ⟨G,n*10+3,none⟩=some (.int .i64 l.c1)∧LvS w b (.slice (some ⟨G,0,none⟩) L.length d) sv fr tt bs wide L cg cs w1.heap.size va vc (yg V.1) W) :=
    lh fun W h=>⟨Q▸h.ld.cells.1,(by
     obtain⟨G',e,_,_,a4,_⟩:=h.own.at n l b8;cases e;exact a4 3 _ rfl),h⟩
   have g9:Hid (∀W,LvS w b (.slice (some ⟨G,0,none⟩) L.length d) sv fr tt bs wide L cg cs w1.heap.size va vc (yg V.1) W →
    Calls Tryz.prog 127 #[.slice (some ⟨cg,0,none⟩) cs.length cc,.slice va cs.length vc,.int .u8 bs,F,.int .i64 ((F:Int)+l.c1)] W fun e w'=>∃oa q,e=.returned (.slice oa own.length q)∧yG .u8 5 w' (b+1) oa q (yg own) ∧
     LvS w b (.slice (some ⟨G,0,none⟩) L.length d) sv fr tt bs wide L cg cs w1.heap.size va vc (yg V.1) w') :=
    lh fun W h=>(Row_any (some ⟨cg,0,none⟩) va cs V.1 cs.length cs.length cc vc bs F ((F:Int)+l.c1) W rfl g5.out h.rd h.vo.rd b1 b1 c3.out.1 (by have:=c3.out.2;unfold maxLen at this;omega) g7.out).mono fun e w' r=>by
     rw [g4.out] at r;obtain⟨hb,a,c,he,ho⟩:=r;exact⟨a,c,he,own_mono ho (by have:=h.ld.lt;omega),h.below hb⟩
   obtain⟨k0,k3,l7⟩:=c6.out _ c4;have o8:(n:Int)≤2097152:=(by omega);have i1:IntKind.i64.wrap ((n:Int)+1-1)=(n:Int):=(by rw [ZH];omega);have i2:IntKind.i64.wrap (((n+1:Nat):Int)-1)=(n:Int):=(by rw [ZH];omega);have i3:IntKind.i64.wrap ((F:Int)+(l.c1:Int))=(F:Int)+(l.c1:Int):=(by rw [ZH];omega);have i0:IntKind.i64.wrap (n:Int)=(n:Int):=(by rw [ZH];omega);have i4:(0:Int)≤(n:Int):=(by omega);have i5:(n:Int)<(n:Int)+1:=(by omega);have i6:(n:Int)<((n+1:Nat):Int):=(by omega);clear c4 m c5 g5 g7 c3 g4
   go_region_held3 (fun w'=>w'.cell? ⟨b,0,none⟩=some (.slice (some ⟨G,0,none⟩) (n+1) d)∧w'.cell? ⟨G,n*10+3,none⟩=some (.int .i64 l.c1)∧LvS w b (.slice (some ⟨G,0,none⟩) L.length d) sv fr tt bs wide L cg cs w1.heap.size va vc (yg V.1) w')
    ((refine c6.out _ ?_;repeat (first | assumption | refine LvS.drew ?_)))
    ((go_at_call 127;refine (g9.out _ (by repeat (first | assumption | refine LvS.drew ?_))).mono ?_;rintro e w5 ⟨oa,q,rfl,h5,h6⟩))
   have a5:=lh h6;have h7:=lh h5;clear h6 h5 k0 k3 l7 g9 i0 i1 i2 i3 i4 i5 i6;have c7:=a5.out.ld;have o5:=a5.out.own;have b5:=a5.out.bel;have C:=c7.cells.1;rw [Q] at C;have h8:=lh c7;have h9:=lh o5;have i7:=lh b5;clear c7 o5 b5 a5 c6;go_upto_block 0 with fail;go_wp2;clear C;go_loopw [67] (fun u67 wx=>∃i:Nat,i≤n+1∧u67=.int .i64 i∧LdB wx b (.slice (some ⟨G,0,none⟩) L.length d) sv fr tt bs wide∧yN pcE 98 wx (b+1) (.slice (some ⟨G,0,none⟩) L.length d) (lvP own L i)∧yG .u8 5 wx (b+1) oa q (yg own)∧Below b w wx) (fun u67 _=>n+1-(intOf u67).toNat)
   case atStart=>exact⟨0,by omega,rfl,h8.out,by rw [lvP_zero];exact h9.out,h7.out,i7.out⟩
   case round =>
    obtain⟨i,hi,rfl,i9,j0,j1,j2⟩:=hrel;have j3:=lh i9;have j4:=lh j0;have j5:=lh j1;have j6:=lh j2;clear i9 j0 j1 j2 h8 h9 i7 h7;by_cases l8:i<n+1
    ·obtain⟨p,r⟩:∃p,L[i]? = some p:=⟨_,zF (by omega)⟩;have R:=lvP_get own L i p r;have Y:=lvP_len own L i (by omega);have c8:=lvP_next own L i p r;obtain⟨M,hM⟩:=nm (lvP own L i);rw [hM] at R Y c8;have c9:yN pcE 98 wr (b+1) (.slice (some ⟨G,0,none⟩) M.length d) M:=(by rw [Y,←hM];exact j4.out);have j7:LdB wr b (.slice (some ⟨G,0,none⟩) M.length d) sv fr tt bs wide:=(by rw [Y];exact j3.out);obtain⟨G',eG,o9,p0,m,c5⟩:=c9.at i p R;cases eG;have j8:=l6.out i p r;obtain⟨u,l9,p1,p2,d1,m0,p3,_⟩:=j5.out.at p.c0 (by rw [yZ,f9];exact j8);subst l9;rw [yAt] at d1;obtain⟨x,hx⟩:=nm (own.getD p.c0 0);rw [hx] at d1;have y0:wr.cell? ⟨G,i*10,none⟩=some (.int .i64 p.a):=m 0 _ rfl;have y1:wr.cell? ⟨G,i*10+1,none⟩=some (.int .i64 p.size):=m 1 _ rfl;have y2:wr.cell? ⟨G,i*10+2,none⟩=some (.int .i64 p.c0):=m 2 _ rfl;have y3:wr.cell? ⟨G,i*10+3,none⟩=some (.int .i64 p.c1):=m 3 _ rfl;have y4:wr.cell? ⟨G,i*10+4,none⟩=some (.int .u8 p.level):=m 4 _ rfl;have y5:wr.cell? ⟨G,i*10+5,none⟩=some (.string p.became):=m 5 _ rfl;have y6:wr.cell? ⟨G,i*10+6,none⟩=some (.string p.shown):=m 6 _ rfl;have y7:wr.cell? ⟨G,i*10+7,none⟩=some (.int .i64 p.wide):=m 7 _ rfl;have y8:wr.cell? ⟨G,i*10+8,none⟩=some (.int .i64 p.e0):=m 8 _ rfl;have y9:wr.cell? ⟨G,i*10+9,none⟩=some (.int .i64 p.e1):=m 9 _ rfl;have j9:M.set i { p with level:=p.level }=M:=by
      apply qK;intro j;rw [ZP];split
      ·rename_i e;subst e;split
       ·exact R.symm
       ·rename_i h;exact qF (zG.1 R).1 h
      ·rfl
     have m1:=lh c8;have d3:=lh Y;have HX:=lh hx;have HP:=lh r;have k1:=lh j9;have a6:=lh j7;have k5:=lh c9;have d5:i<M.length:=(zG.1 R).1;have p4:(p.c0:Int)<(own.length:Int):=(by omega);clear R Y c8 hM c9 j7 m c5 r hx j9 d1 m0;go_upto_region 11 with fail;have S:=qal wr (.cells #[p.a,p.size,p.c0,p.c1,.int .u8 p.level,p.became,p.shown,p.wide,p.e0,p.e1] 98);have d6:=zL wr (.cells #[p.a,p.size,p.c0,p.c1,.int .u8 p.level,p.became,p.shown,p.wide,p.e0,p.e1] 98);generalize wr.alloc _=W6 at S d6 ⊢;obtain⟨P,hP⟩:=nm (wr.heap.size);have m3:G≠P:=(by omega);have d7:LwS w b G d sv fr tt bs wide M i p P (some ⟨u,0,none⟩) q (yg own) W6 :=
      ⟨a6.out.below S a6.out.lt,⟨p.level,by rw [k1.out];exact k5.out.keep S⟩,hP▸d6,j5.out.keep S,j6.out.trans (S.mono (Zq a6.out.lt))⟩
     obtain⟨v4,d8⟩:∃v4:World→Value,∀W,LwS w b G d sv fr tt bs wide M i p P (some ⟨u,0,none⟩) q (yg own) W→W.cell? ⟨G,i*10+4,none⟩=some (v4 W)∧W.frozen? ⟨G,i*10+4,none⟩=false:=⟨fun W=>(W.cell? ⟨G,i*10+4,none⟩).getD undef,fun W h=>by
      obtain⟨y,hr⟩:=h.row;have m4:(M.set i { p with level:=y }).length=M.length:=ZQ;have m5:(M.set i { p with level:=y })[i]? = some { p with level:=y }:=(by rw [ZP];simp [d5]);obtain⟨g,e,_,_,m6,m7⟩:=(show yN pcE 98 W (b+1) (.slice (some ⟨G,0,none⟩) (M.set i { p with level:=y }).length d) _ by rw [m4];exact hr).at i _ m5;cases e;have h4:=m6 4 _ rfl;refine⟨?_,m7 _⟩;rw [show i*pcE.k+4=i*10+4 from rfl] at h4;simp [h4]⟩
     have d9:Hid (∀W,LwS w b G d sv fr tt bs wide M i p P (some ⟨u,0,none⟩) q (yg own) W→W.cell? ⟨b,0,none⟩=some (.slice (some ⟨G,0,none⟩) (n+1) d)∧W.cell? ⟨P,2,none⟩=some (.int .i64 p.c0)∧W.cell? ⟨u,p.c0,none⟩=some (.int .u8 x)∧W.cell? ⟨G,i*10+4,none⟩=some (v4 W)∧W.frozen? ⟨G,i*10+4,none⟩=false ∧
      LwS w b G d sv fr tt bs wide M i p P (some ⟨u,0,none⟩) q (yg own) W) :=
      lh fun W h=>⟨by have:=h.ld.cells.1;rw [d3.out,Q] at this;exact this,(by have:=h.box;simp [World.cell?,this]),(by
       obtain⟨p5,e,_,_,a4,_⟩:=h.out.at p.c0 (by rw [yZ,f9];exact j8);cases e;rw [yAt,HX.out] at a4;exact a4),(d8 W h).1,(d8 W h).2,h⟩
     have e2:Hid (∀W,LwS w b G d sv fr tt bs wide M i p P (some ⟨u,0,none⟩) q (yg own) W→LwS w b G d sv fr tt bs wide M i p P (some ⟨u,0,none⟩) q (yg own) (W.setCell ⟨G,i*10+4,none⟩ (.int .u8 x))):=lh fun W h=>h.set d5 m3 x;obtain⟨k0,k2,kx,k4,kf,m8⟩:=d9.out _ d7;have e3:=lh d7;rw [hP];have i3:(i:Int)<(n:Int)+1:=(by omega);have i4:(0:Int)≤(i:Int):=(by omega);have i5:(0:Int)≤(p.c0:Int):=(by omega);clear y0 y1 y2 y3 y4 y5 y6 y7 y8 y9 d8 S d6 d7 a6 k5 k1
     go_region_held3 (fun w'=>w'.cell? ⟨b,0,none⟩=some (.slice (some ⟨G,0,none⟩) (n+1) d)∧w'.cell? ⟨P,2,none⟩=some (.int .i64 p.c0)∧w'.cell? ⟨u,p.c0,none⟩=some (.int .u8 x)∧w'.cell? ⟨G,i*10+4,none⟩=some (v4 w')∧w'.frozen? ⟨G,i*10+4,none⟩=false ∧
      LwS w b G d sv fr tt bs wide M i p P (some ⟨u,0,none⟩) q (yg own) w')
      ((refine d9.out _ ?_;repeat (first | assumption | refine LwS.drew ?_ | refine e2.out _ ?_)))
      (fail)
     have a7:=e2.out _ e3.out;have e4:=e3.out.rowx d5 x;rw [show ({ p with level:=x }:Pc)=yF5 own p by unfold yF5;rw [HX.out],m1.out,d3.out] at e4;have e5:=a7.ld;rw [d3.out] at e5;have ZL:=lh e5;have ZR:=lh e4;have ZO:=lh a7.out;have ZB:=lh a7.bel.drew;clear a7 e4 e5 k0 k2 kx k4 kf m8 e3 e2 d9;go_wp2;go_roundw
     case rel=>exact⟨i+1,by omega,by go_num,ZL.out,ZR.out,ZO.out,ZB.out⟩
     case measure=>simp [intOf];omega
    ·obtain rfl:i=n+1:=(by omega);have e1:lvP own L (n+1)=L.map (yF5 own):=(by rw [←Q];exact lvP_all own L);have k6:yN pcE 98 wr (b+1) (.slice (some ⟨G,0,none⟩) L.length d) (L.map (yF5 (yNh s f fr (yEu L)))):=(by rw [l5.out,←e1];exact j4.out);have m9:=lh k6;clear k6 e1 l8;go_wp2
     go_end0
     exact⟨rfl,j3.out,m9.out,j6.out⟩
end
section
open Go.RowKit Go.Proofs Go.Shelf
section
variable {α:Type} (E:Enc α)
end
theorem bytes_beq (x y:ByteArray):(x.toList==y.toList)=decide (x=y):=by
 rw [ZY,ZD,ByteArray.toList_eq,ByteArray.toList_eq,decide_eq_true_iff];exact⟨fun h=>qq (Array.toList_inj.mp h),fun h=>by rw [h]⟩
end
section
open Go.RowKit Go.Proofs Go.Shelf
attribute [local go_sem] qV
def yGm (c:ByteArray):Int :=
 if c=⟨#[39]⟩∨c=⟨#[226,128,153]⟩∨c=⟨#[194,183]⟩∨c=⟨#[58]⟩ then 3
 else if c=⟨#[46]⟩∨c=⟨#[44]⟩ then 4
 else 0
theorem yN3 (c:ByteArray) (l:List UInt8):(c.toList==l)=decide (c=⟨l.toArray⟩):=by
 rw [←bytes_beq,ByteArray.toList_eq ⟨l.toArray⟩]
theorem between_any (c:ByteArray) (w:World):Calls Tryz.prog 198 #[c] w fun e w'=>e=.returned (.int .i64 (yGm c))∧w'=w:=by
 obtain⟨V,k⟩:=nm (yGm c);have a:=lh (show V=if c=⟨#[39]⟩∨c=⟨#[226,128,153]⟩∨c=⟨#[194,183]⟩∨c=⟨#[58]⟩ then 3 else if c=⟨#[46]⟩∨c=⟨#[44]⟩ then 4 else 0 by rw [←k];rfl);rw [k];clear k;go_enter Tryz.func198,Tryz.ntmps198;by_cases b:c=⟨#[39]⟩
 ·have s:(c.toList==[39])=true:=(yN3 c [39]).trans (zQ b);have l:=lh b;clear b;go_wp2;go_ret;exact⟨yK (by rw [a.out];rw [Zg (.inl l.out)]),rfl⟩
 ·have s:(c.toList==[39])=false:=(yN3 c [39]).trans (zP b);have l:=lh b;clear b;by_cases d:c=⟨#[226,128,153]⟩
  ·have t:(c.toList==[226,128,153])=true:=(yN3 c [226,128,153]).trans (zQ d);have m:=lh d;clear d;go_wp2;go_ret;exact⟨yK (by rw [a.out];rw [Zg (.inr (.inl m.out))]),rfl⟩
  ·have t:(c.toList==[226,128,153])=false:=(yN3 c [226,128,153]).trans (zP d);have m:=lh d;clear d;by_cases f:c=⟨#[194,183]⟩
   ·have u:(c.toList==[194,183])=true:=(yN3 c [194,183]).trans (zQ f);have n:=lh f;clear f;go_wp2;go_ret;exact⟨yK (by rw [a.out];rw [Zg (.inr (.inr (.inl n.out)))]),rfl⟩
   ·have u:(c.toList==[194,183])=false:=(yN3 c [194,183]).trans (zP f);have n:=lh f;clear f;by_cases g:c=⟨#[58]⟩
    ·have v:(c.toList==[58])=true:=(yN3 c [58]).trans (zQ g);have o:=lh g;clear g;go_wp2;go_ret;exact⟨yK (by rw [a.out];rw [Zg (.inr (.inr (.inr o.out)))]),rfl⟩
    ·have v:(c.toList==[58])=false:=(yN3 c [58]).trans (zP g);have o:=lh g;clear g;have p:¬ (c=⟨#[39]⟩∨c=⟨#[226,128,153]⟩∨c=⟨#[194,183]⟩∨c=⟨#[58]⟩):=fun h=>h.elim l.out (fun h=>h.elim m.out (fun h=>h.elim n.out o.out));by_cases i:c=⟨#[46]⟩
     ·have x:(c.toList==[46])=true:=(yN3 c [46]).trans (zQ i);have q:=lh i;clear i;go_wp2;go_ret;exact⟨yK (by rw [a.out];rw [Zf p,Zg (.inl q.out)]),rfl⟩
     ·have x:(c.toList==[46])=false:=(yN3 c [46]).trans (zP i);have q:=lh i;clear i;by_cases j:c=⟨#[44]⟩
      ·have y:(c.toList==[44])=true:=(yN3 c [44]).trans (zQ j);have r:=lh j;clear j;go_wp2;go_ret;exact⟨yK (by rw [a.out];rw [Zf p,Zg (.inr r.out)]),rfl⟩
      ·have y:(c.toList==[44])=false:=(yN3 c [44]).trans (zP j);have r:=lh j;clear j;go_wp2;go_ret;exact⟨yK (by rw [a.out];rw [Zf p,Zf (fun h=>h.elim q.out r.out)]),rfl⟩
end
end Go.Proofs.YtncplikdjcmoeaaGreatDoor
