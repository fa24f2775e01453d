/- Part 38 (merged by a program): lemmas of no further condition than each states. -/
import Derived.Test.YtlmjbfncopbilaaGreatDoorK37
namespace Go.Proofs.YtlmjbfncopbilaaGreatDoor
set_option linter.unusedVariables false
set_option linter.unusedSimpArgs false
section
open Go.RowKit Go.Proofs Go.Shelf
attribute [local go_sem] Oper.semAt_some
theorem set_two (L1 L2 L3:List St) (x y:St):((L1++x::(L2++y::L3)).set L1.length y).set (L1.length+1+L2.length) x=L1++y::(L2++x::L3):=by
 rw [set_app]
 have e:L1++y::(L2++y::L3)=(L1++y::L2)++y::L3:=by simp
 have e2:L1.length+1+L2.length=(L1++y::L2).length:=by simp;omega
 rw [e,e2,set_app]
 simp
theorem get_fst (L1 L2 L3:List St) (x y:St):(L1++x::(L2++y::L3))[L1.length]? = some x:=getS_app _ _ _
theorem get_snd (L1 L2 L3:List St) (x y:St):(L1++x::(L2++y::L3))[L1.length+1+L2.length]? = some y:=by
 have e:L1++x::(L2++y::L3)=(L1++x::L2)++y::L3:=by simp
 have e2:L1.length+1+L2.length=(L1++x::L2).length:=by simp;omega
 rw [e,e2]
 exact getS_app _ _ _
theorem InS.sw {w W:World} {base G c n:Nat} {M:List St} (h:InS w base G c n M W) (hl:M.length=n) (i k:Nat) (hik:i≠k) (s t:St) (hs:M[i]? = some s) (ht:M[k]? = some t) :
 InS w base G c n ((M.set i t).set k s) ((((((((W.setCell ⟨G,i*4,none⟩ (.int .i64 t.a)).setCell ⟨G,i*4+1,none⟩ (.bool t.back)).setCell ⟨G,i*4+2,none⟩ (.int .i64 (-1))).setCell ⟨G,i*4+3,none⟩ (.int .i64 t.x)).setCell ⟨G,k*4,none⟩ (.int .i64 s.a)).setCell ⟨G,k*4+1,none⟩ (.bool s.back)).setCell ⟨G,k*4+2,none⟩ (.int .i64 (-1))).setCell ⟨G,k*4+3,none⟩ (.int .i64 s.x)):=by
 have h1:=st_set hl h.own i s t hs
 have ht':(M.set i t)[k]? = some t:=by rw [List.getElem?_set,if_neg hik];exact ht
 have h2:=st_set (by rw [List.length_set];exact hl) h1 k t s ht'
 have hG:=(World.ownsRow.lt h.own G rfl).1
 refine⟨h2,?_,?_⟩
 ·have key:∀{X:World} (k:Nat) (v:Value),Below base w X→Below base w (X.setCell ⟨G,k,none⟩ v):=fun k v hX=>hX.setCell (p:=⟨G,k,none⟩) hG v
  exact key _ _ (key _ _ (key _ _ (key _ _ (key _ _ (key _ _ (key _ _ (key _ _ h.bel)))))))
 ·have:=h.sz;simp;omega
set_option maxRecDepth 100000 in
set_option maxHeartbeats 1000000 in
theorem swr_any (G c N base:Nat) (w:World) (P X Q Y R:List St) (a b n:Nat) (ha:P.length=a) (hn:X.length=n) (hb:a+n+Q.length=b) (hxy:Y.length=n) (hl:(P++X++Q++Y++R).length=N) (hN:N≤8388608) (fv:Value) (W:World) (hS:InS w base G c N (P++X++Q++Y++R) W) :
 Calls Tryz.prog 228 #[.slice (some ⟨G,0,none⟩) N c,.int .i64 a,.int .i64 b,.int .i64 n,fv] W fun e w'=>e=.returned (.tuple #[])∧InS w base G c N (P++Y++Q++X++R) w':=by
 have HS:=lh hS
 have hNN:a+n+Q.length+n+R.length=N:=by rw [←hl];simp;omega
 clear hS hl
 go_enter Tryz.func228,Tryz.ntmps228
 go_wp2_with (fail)
 go_loopw [10] (fun u10 wx=>∃(i:Nat) (X1 X2 Y1 Y2:List St),u10=.int .i64 i∧X=X1++X2∧Y=Y1++Y2∧X1.length=i∧Y1.length=i∧InS w base G c N (P++Y1++X2++Q++X1++Y2++R) wx) (fun u10 _=>n-(intOf u10).toNat)
 case atStart=>exact⟨0,[],X,[],Y,rfl,rfl,rfl,rfl,rfl,by simpa using HS.out⟩
 case round =>
  obtain⟨i,X1,X2,Y1,Y2,rfl,hX,hY,h1,h2,hS⟩:=hrel
  have hx2:X2.length=n-i:=by rw [hX,List.length_append] at hn;omega
  have hy2:Y2.length=n-i:=by rw [hY,List.length_append] at hxy;omega
  by_cases hlt:i<n
  ·obtain⟨x,X3,rfl⟩:∃x t,X2=x::t:=by
    cases X2 with
    | nil=>simp at hx2;omega
    | cons x t=>exact⟨x,t,rfl⟩
   obtain⟨y,Y3,rfl⟩:∃x t,Y2=x::t:=by
    cases Y2 with
    | nil=>simp at hy2;omega
    | cons x t=>exact⟨x,t,rfl⟩
   rw [List.length_cons] at hx2 hy2
   have eM:P++Y1++x::X3++Q++X1++y::Y3++R=(P++Y1)++x::((X3++Q++X1)++y::(Y3++R)):=by simp
   have i1:(P++Y1).length=a+i:=by rw [List.length_append];omega
   have i2:(P++Y1).length+1+(X3++Q++X1).length=b+i:=by simp only [List.length_append];omega
   rw [eM] at hS
   have hML:((P++Y1)++x::((X3++Q++X1)++y::(Y3++R))).length=N:=by simp only [List.length_append,List.length_cons];omega
   have g1:=get_fst (P++Y1) (X3++Q++X1) (Y3++R) x y
   have g2:=get_snd (P++Y1) (X3++Q++X1) (Y3++R) x y
   have hsw:=hS.sw hML (a+i) (b+i) (by omega) x y (by rw [←i1];exact g1) (by rw [←i2];exact g2)
   have hset:=set_two (P++Y1) (X3++Q++X1) (Y3++R) x y
   rw [i1,show a+i+1+(X3++Q++X1).length=b+i by rw [←i2,i1]] at hset
   rw [hset] at hsw
   rw [i1] at g1
   rw [i2] at g2
   obtain⟨_,_,a0,a1,a2,a3,hf⟩:=st_cells hML hS.own (a+i) x g1
   obtain⟨_,_,b0,b1,b2,b3,_⟩:=st_cells hML hS.own (b+i) y g2
   have e0:=hf ((a+i)*4)
   have e1:=hf ((a+i)*4+1)
   have e2:=hf ((a+i)*4+2)
   have e3:=hf ((a+i)*4+3)
   have f0:=hf ((b+i)*4)
   have f1:=hf ((b+i)*4+1)
   have f2:=hf ((b+i)*4+2)
   have f3:=hf ((b+i)*4+3)
   have HSW:=lh hsw
   have hwa:IntKind.i64.wrap ((a:Int)+(i:Int))=((a+i:Nat):Int):=by rw [IntKind.wrap_i64];omega
   have hwb:IntKind.i64.wrap ((b:Int)+(i:Int))=((b+i:Nat):Int):=by rw [IntKind.wrap_i64];omega
   have hla:((a+i:Nat):Int)<(N:Int):=by omega
   have hlb:((b+i:Nat):Int)<(N:Int):=by omega
   have hlt':(i:Int)<(n:Int):=by omega
   obtain⟨p,hp⟩:∃p,a+i=p:=⟨_,rfl⟩
   obtain⟨q,hq⟩:∃q,b+i=q:=⟨_,rfl⟩
   have hpq:p≠q:=by omega
   rw [hp] at a0 a1 a2 a3 e0 e1 e2 e3 hwa hla HSW
   rw [hq] at b0 b1 b2 b3 f0 f1 f2 f3 hwb hlb HSW
   have HX:=lh hX
   have HY:=lh hY
   clear hS hsw hset g1 g2 hf hML eM i1 i2 hX hY hp hq
   go_upto_region 3 with (fail)
   go_region
   clear a0 a1 a2 a3 b0 b1 b2 b3 e0 e1 e2 e3 f0 f1 f2 f3
   go_wp2_with (fail)
   go_roundw
   case rel=>exact⟨i+1,X1++[x],X3,Y1++[y],Y3,by go_num,by rw [HX.out];simp,by rw [HY.out];simp,by simp [h1],by simp [h2],by have h:=HSW.out.drew;simp only [List.append_assoc,List.cons_append,List.nil_append,List.singleton_append] at h ⊢;exact h⟩
   case measure=>simp [intOf];omega
  ·have hi:i=n:=by
    have:=congrArg List.length hX
    rw [List.length_append] at this
    omega
   have e2:X2=[]:=List.length_eq_zero_iff.1 (by omega)
   have e3:Y2=[]:=List.length_eq_zero_iff.1 (by omega)
   subst e2
   subst e3
   rw [List.append_nil] at hX hY
   subst hX
   subst hY
   rw [List.append_nil,List.append_nil] at hS
   have HS2:=lh hS
   clear hS
   go_wp2_with (fail)
   go_end0
   exact⟨rfl,HS2.out⟩
set_option maxRecDepth 100000 in
set_option maxHeartbeats 1000000 in
theorem rot_any (G c N base:Nat) (w:World) (P X Y R:List St) (a m b:Nat) (ha:P.length=a) (hm:a+X.length=m) (hb:m+Y.length=b) (hx:X≠[]) (hy:Y≠[]) (hl:(P++X++Y++R).length=N) (hN:N≤8388608) (fv:Value) (W:World) (hS:InS w base G c N (P++X++Y++R) W) :
 Calls Tryz.prog 209 #[.slice (some ⟨G,0,none⟩) N c,.int .i64 a,.int .i64 m,.int .i64 b,fv] W fun e w'=>e=.returned (.tuple #[])∧InS w base G c N (P++Y++X++R) w':=by
 have HS:=lh hS
 have hNN:b+R.length=N:=by rw [←hl];simp;omega
 have hX0:0<X.length:=List.length_pos_iff.2 hx
 have hY0:0<Y.length:=List.length_pos_iff.2 hy
 have hw1:IntKind.i64.wrap ((m:Int)-(a:Int))=(X.length:Int):=by rw [IntKind.wrap_i64];omega
 have hw2:IntKind.i64.wrap ((b:Int)-(m:Int))=(Y.length:Int):=by rw [IntKind.wrap_i64];omega
 have HL:=lh hl
 obtain⟨T,hT⟩:∃T,P++Y++X++R=T:=⟨_,rfl⟩
 rw [hT]
 have HT:=lh hT
 obtain⟨xl,hxl⟩:∃n,X.length=n:=⟨_,rfl⟩
 obtain⟨yl,hyl⟩:∃n,Y.length=n:=⟨_,rfl⟩
 rw [hxl] at hw1 hX0 hm
 rw [hyl] at hw2 hY0 hb
 clear hS hl hT hx hy
 go_enter Tryz.func209,Tryz.ntmps209
 go_wp2_with (fail)
 go_loopw [10,11] (fun u10 u11 wx=>∃(i j:Nat) (P' X' Y' R':List St),u10=.int .i64 i∧u11=.int .i64 j∧X'.length=i∧Y'.length=j∧0<i∧0<j∧P'.length+i=m∧P'++Y'++X'++R'=T∧(P'++X'++Y'++R').length=N∧InS w base G c N (P'++X'++Y'++R') wx) (fun u10 u11 _=>(intOf u10).toNat+(intOf u11).toNat)
 case atStart=>exact⟨xl,yl,P,X,Y,R,rfl,rfl,hxl,hyl,hX0,hY0,by omega,HT.out,HL.out,HS.out⟩
 case round =>
  obtain⟨i,j,P',X',Y',R',rfl,rfl,hi,hj,hi0,hj0,hpm,hTT,hLN,hS⟩:=hrel
  have HS':=lh hS
  have HTT:=lh hTT
  have HLN:=lh hLN
  have hsum:P'.length+i+j+R'.length=N:=by rw [←hLN];simp;omega
  clear hS hTT hLN HS
  by_cases h1:i=j
  ·subst h1
   have hne:((i:Int) != (i:Int))=false:=by simp
   have hwp:IntKind.i64.wrap ((m:Int)-(i:Int))=(P'.length:Int):=by rw [IntKind.wrap_i64];omega
   have HSW:=swr_any G c N base w P' X' [] Y' R' P'.length m i rfl hi (by simp;omega) hj (by rw [List.append_nil];exact HLN.out) hN fv
   go_wp2_with (go_at_call 228;refine (HSW _ (by rw [List.append_nil];exact HS'.out)).mono ?_;rintro e w5 ⟨rfl,hS5⟩)
   go_end0
   exact⟨rfl,by rw [List.append_nil,HTT.out] at hS5;exact hS5⟩
  ·have hne:((i:Int) != (j:Int))=true:=by rw [bne_iff_ne];omega
   have hwp:IntKind.i64.wrap ((m:Int)-(i:Int))=(P'.length:Int):=by rw [IntKind.wrap_i64];omega
   by_cases h2:j<i
   ·have h2d:decide ((j:Int)<(i:Int))=true:=decide_eq_true (by omega)
    have e1:X'=X'.take j++X'.drop j:=(List.take_append_drop j X').symm
    obtain⟨Xa,hXa⟩:∃l,X'.take j=l:=⟨_,rfl⟩
    obtain⟨Xb,hXb⟩:∃l,X'.drop j=l:=⟨_,rfl⟩
    have l1:Xa.length=j:=by rw [←hXa,List.length_take];omega
    have l2:Xb.length=i-j:=by rw [←hXb,List.length_drop];omega
    rw [hXa,hXb] at e1
    have hsw:=fun (W:World) (h:InS w base G c N (P'++X'++Y'++R') W)=>swr_any G c N base w P' Xa Xb Y' R' P'.length m j rfl l1 (by omega) hj (by rw [←HLN.out,e1];simp) hN fv W (by rw [e1] at h;simpa using h)
    have HSW:=lh hsw
    have hwj:IntKind.i64.wrap ((i:Int)-(j:Int))=((i-j:Nat):Int):=by rw [IntKind.wrap_i64];omega
    have HE1:=lh e1
    clear hsw e1 hXa hXb
    go_wp2_with (go_at_call 228;refine (HSW.out _ HS'.out).mono ?_;rintro e w5 ⟨rfl,hS5⟩)
    go_roundw
    case rel=>exact⟨i-j,j,P'++Y',Xb,Xa,R',by go_num,rfl,l2,l1,by omega,hj0,by rw [List.length_append];omega,by rw [←HTT.out,HE1.out];simp,by rw [←HLN.out,HE1.out];simp only [List.length_append];omega,by simpa using hS5⟩
    case measure=>simp [intOf];omega
   ·have h2d:decide ((j:Int)<(i:Int))=false:=decide_eq_false (by omega)
    have e1:Y'=Y'.take (j-i)++Y'.drop (j-i):=(List.take_append_drop (j-i) Y').symm
    obtain⟨Ya,hYa⟩:∃l,Y'.take (j-i)=l:=⟨_,rfl⟩
    obtain⟨Yb,hYb⟩:∃l,Y'.drop (j-i)=l:=⟨_,rfl⟩
    have l1:Ya.length=j-i:=by rw [←hYa,List.length_take];omega
    have l2:Yb.length=i:=by rw [←hYb,List.length_drop];omega
    rw [hYa,hYb] at e1
    obtain⟨q,hq⟩:∃q,m+j-i=q:=⟨_,rfl⟩
    have hsw:=fun (W:World) (h:InS w base G c N (P'++X'++Y'++R') W)=>swr_any G c N base w P' X' Ya Yb R' P'.length q i rfl hi (by omega) l2 (by rw [←HLN.out,e1];simp) hN fv W (by rw [e1] at h;simpa using h)
    have HSW:=lh hsw
    have hwj:IntKind.i64.wrap ((j:Int)-(i:Int))=((j-i:Nat):Int):=by rw [IntKind.wrap_i64];omega
    have hwq1:IntKind.i64.wrap ((m:Int)+(j:Int))=(m:Int)+j:=by rw [IntKind.wrap_i64];omega
    have hwq:IntKind.i64.wrap ((m:Int)+(j:Int)-(i:Int))=(q:Int):=by rw [IntKind.wrap_i64];omega
    have HE1:=lh e1
    clear hsw e1 hYa hYb
    go_wp2_with (go_at_call 228;refine (HSW.out _ HS'.out).mono ?_;rintro e w5 ⟨rfl,hS5⟩)
    go_roundw
    case rel=>exact⟨i,j-i,P',Yb,Ya,X'++R',rfl,by go_num,l2,l1,hi0,by omega,hpm,by rw [←HTT.out,HE1.out];simp,by rw [←HLN.out,HE1.out];simp only [List.length_append];omega,by simpa using hS5⟩
    case measure=>simp [intOf];omega
end
section
open Go.RowKit Go.Proofs Go.Shelf
attribute [local go_sem] Oper.semAt_some
theorem mid_ins (T S1 S2:List St) (x:St) (h:isrt T=S1++S2) (h1:∀z∈S1,z.x≤x.x) (h2:∀z∈S2,x.x<z.x):isrt (T++[x])=S1++x::S2:=by
 have hs:=isrt_srt T
 rw [h] at hs
 obtain⟨s1,s2,s3⟩:=(srt_app S1 S2).1 hs
 rw [isrt_snoc,h,mg_app]
 have e1:mg S2 [x]=x::S2:=by
  have:=mg_past [x] [] S2 (fun a ha b hb=>by rcases List.mem_singleton.1 hb with rfl;exact h2 a ha)
  rw [mg_nil S2 s2] at this
  exact this
 rw [e1]
 have:=mg_within [] (x::S2) S1 (fun a ha c hc=>by
  rcases List.mem_cons.1 hc with rfl | hc
  ·exact h1 a ha
  ·exact s3 a ha c hc)
 rw [List.nil_append,mg_nil S1 s1] at this
 exact this
set_option maxRecDepth 100000 in
set_option maxHeartbeats 4000000 in
theorem insP_any (G c n base:Nat) (w:World) (P S R:List St) (a b:Nat) (ha:P.length=a) (hb:a+S.length=b) (hl:(P++S++R).length=n) (hn:n≤8388608) (hx:smallX (P++S++R)) (W:World) (hS:InS w base G c n (P++S++R) W) :
 Calls Tryz.prog 175 #[.slice (some ⟨G,0,none⟩) n c,.int .i64 a,.int .i64 b,.func (.func 91) #[] #[]] W fun e w'=>e=.returned (.tuple #[])∧InS w base G c n (P++isrt S++R) w':=by
 have HS0:=lh hS
 have HXX:Hid (∀z,z∈P∨z∈S∨z∈R → -1099511627776≤z.x∧z.x≤1099511627776):=lh fun z hz=>hx z (by simp only [List.mem_append];rcases hz with h | h | h;exact .inl (.inl h);exact .inl (.inr h);exact .inr h)
 have hNN:b+R.length=n:=by rw [←hl];simp;omega
 have hwa:IntKind.i64.wrap ((a:Int)+1)=((a+1:Nat):Int):=by rw [IntKind.wrap_i64];omega
 clear hS hx hl
 go_enter Tryz.func175,Tryz.ntmps175
 go_upto_block 0 with (fail)
 go_wp2_with (fail)
 go_loopw [8,9] (fun u8 _ wx=>∃(i:Nat) (T1 T2:List St),u8=.int .i64 i∧a+1≤i∧i≤b+1∧S=T1++T2∧(S=[]∨a+T1.length=i)∧InS w base G c n (P++isrt T1++T2++R) wx) (fun u8 _ _=>b-(intOf u8).toNat)
 case atStart =>
  refine⟨a+1,S.take 1,S.drop 1,rfl,Nat.le_refl _,by omega,(List.take_append_drop 1 S).symm,?_,?_⟩
  ·cases S with
   | nil=>exact .inl rfl
   | cons s t=>exact .inr rfl
  ·have h:=HS0.out
   cases S with
   | nil=>simpa [isrt] using h
   | cons s t=>simpa [isrt,insL] using h
 case round =>
  obtain⟨i,T1,T2,rfl,hi1,hi2,hST,hor,hS⟩:=hrel
  have HS:=lh hS
  clear hS HS0
  by_cases hlt:i<b
  ·have hTl:a+T1.length=i:=hor.resolve_left (fun e=>by rw [e] at hb;simp at hb;omega)
   obtain⟨x,T3,rfl⟩:∃x t,T2=x::t:=by
    cases T2 with
    | nil=>rw [hST,List.append_nil] at hb;omega
    | cons x t=>exact⟨x,t,rfl⟩
   have hxm:x∈S:=by rw [hST];simp
   have hT1m:∀z∈T1,z∈S:=fun z hz=>by rw [hST];exact List.mem_append_left _ hz
   have hlen:a+T1.length+1+T3.length=b:=by rw [hST] at hb;simp at hb;omega
   have HST:=lh hST
   have hwi:IntKind.i64.wrap ((i:Int)+1)=((i+1:Nat):Int):=by rw [IntKind.wrap_i64];omega
   have hxs:=HXX.out x (.inr (.inl hxm))
   have HTM:=lh hT1m
   clear hST hor hT1m
   go_upto_block 1 with (fail)
   go_cut [9] (fun _ wx=>InS w base G c n (P++isrt (T1++[x])++T3++R) wx)
   case first =>
    go_wp2_with (fail)
    go_loopw [9] (fun u9 wx=>∃(j:Nat) (S1 S2:List St),u9=.int .i64 j∧a+S1.length=j∧isrt T1=S1++S2∧(∀z∈S2,x.x<z.x)∧InS w base G c n (P++S1++x::(S2++T3++R)) wx) (fun u9 _=>(intOf u9).toNat)
    case atStart=>exact⟨i,isrt T1,[],rfl,by rw [isrt_len];exact hTl,by simp,(fun z hz=>by cases hz),by simpa using HS.out⟩
    case round =>
     obtain⟨j,S1,S2,rfl,hj,hiT,hgt,hS⟩:=hrel
     have HN:=lh hS
     have HIT:=lh hiT
     have HGT:=lh hgt
     have hsl:S1.length+S2.length=T1.length:=by rw [←isrt_len T1,hiT,List.length_append]
     clear hS HS
     rcases List.eq_nil_or_concat S1 with e | ⟨S0,y,e⟩
     ·subst e
      have hja:j=a:=by simpa using hj.symm
      subst hja
      have hfin:isrt (T1++[x])=x::S2:=mid_ins T1 [] S2 x HIT.out (fun z hz=>by cases hz) hgt
      have HF:=lh hfin
      have hd1:decide ((j:Int)<(j:Int))=false:=decide_eq_false (by omega)
      clear hiT hgt hfin hj
      go_upto_region 4 with (fail)
      go_quiet (fail)
      go_wp2_with (fail)
      go_meet
      have h:=HN.out
      rw [HF.out]
      exact (by simpa using h:InS w base G c n (P++x::S2++T3++R) _).drewN _
     ·rw [List.concat_eq_append] at e
      subst e
      obtain⟨q,hq⟩:∃q,a+S0.length=q:=⟨_,rfl⟩
      have hjq:j=q+1:=by rw [←hj,List.length_append,List.length_singleton];omega
      subst hjq
      obtain⟨N,hNd⟩:∃N,P++(S0++[y])++x::(S2++T3++R)=N:=⟨_,rfl⟩
      have eN:N=(P++S0)++y::x::(S2++T3++R):=by rw [←hNd];simp
      have lP:(P++S0).length=q:=by rw [List.length_append];omega
      have hs:N[q+1]? = some x:=by
       rw [eN,show (P++S0)++y::x::(S2++T3++R)=(P++S0++[y])++x::(S2++T3++R) by simp,show q+1=(P++S0++[y]).length by simp only [List.length_append,List.length_singleton] at lP ⊢;omega]
       exact getS_app _ _ _
      have ht:N[q]? = some y:=by rw [eN,←lP];exact getS_app _ _ _
      have hsw2:swapL N q=P++S0++x::((y::S2)++T3++R):=by rw [eN,←lP,swapL_app];simp
      have hnl:N.length=n:=by rw [eN];simp only [List.length_append,List.length_cons] at lP hsl ⊢;simp at hsl;omega
      rw [hNd] at HN
      have hym:y∈T1:=(isrt_mem T1 y).1 (by rw [hiT];simp)
      have hys:=HXX.out y (.inr (.inl (HTM.out y hym)))
      have hqn:q+1<n:=by rw [←hnl];exact (List.getElem?_eq_some_iff.1 hs).1
      have hwj:IntKind.i64.wrap (((q+1:Nat):Int)-1)=(q:Int):=by rw [IntKind.wrap_i64];omega
      have hd1:decide ((a:Int)<((q+1:Nat):Int))=true:=decide_eq_true (by omega)
      have hg1:(q:Int)+1<(n:Int):=by omega
      have hg2:(q:Int)<(n:Int):=by omega
      have hg3:((q+1:Nat):Int)<(n:Int):=by omega
      have hg4:(0:Int)≤(q:Int)+1:=by omega
      have hd1':decide ((a:Int)<(q:Int)+1)=true:=decide_eq_true (by omega)
      have hwj':IntKind.i64.wrap ((q:Int)+1-1)=(q:Int):=by rw [IntKind.wrap_i64];omega
      have htn:((q:Int)+1).toNat=q+1:=by omega
      have hwk:IntKind.i64.wrap (q:Int)=(q:Int):=by rw [IntKind.wrap_i64];omega
      have hg5:(0:Int)≤(q:Int):=by omega
      have HKC:Hid (∀W,InS w base G c n N W→W.cell? ⟨G,(q+1)*4,none⟩=some (.int .i64 x.a)∧W.cell? ⟨G,(q+1)*4+1,none⟩=some (.bool x.back)∧W.cell? ⟨G,(q+1)*4+2,none⟩=some (.int .i64 (-1))∧W.cell? ⟨G,(q+1)*4+3,none⟩=some (.int .i64 x.x) ∧
       W.cell? ⟨G,q*4,none⟩=some (.int .i64 y.a)∧W.cell? ⟨G,q*4+1,none⟩=some (.bool y.back)∧W.cell? ⟨G,q*4+2,none⟩=some (.int .i64 (-1))∧W.cell? ⟨G,q*4+3,none⟩=some (.int .i64 y.x)∧InS w base G c n N W):=lh fun W h=>by
       obtain⟨_,_,a0,a1,a2,a3,_⟩:=st_cells hnl h.own (q+1) x hs
       obtain⟨_,_,b0,b1,b2,b3,_⟩:=st_cells hnl h.own q y ht
       exact⟨a0,a1,a2,a3,b0,b1,b2,b3,h⟩
      have HCM:Hid (∀W,InS w base G c n N W→Calls Tryz.prog 91 #[.agg #[.int .i64 x.a,.bool x.back,.int .i64 (-1),.int .i64 x.x],.agg #[.int .i64 y.a,.bool y.back,.int .i64 (-1),.int .i64 y.x]] W fun e w'=>e=.returned (.int .i64 (x.x-y.x))∧InS w base G c n N w') :=
       lh fun W h=>(scmp_any x y hxs hys W).mono fun e w' ⟨h1,h2⟩=>⟨h1,h.below h2⟩
      obtain⟨a0,a1,a2,a3,b0,b1,b2,b3,hN⟩:=HKC.out wr HN.out
      have HSS:=lh hs
      have HTT:=lh ht
      have HSW2:=lh hsw2
      have HND:=lh hNd
      have HYM:=lh hym
      clear hs ht HN eN lP hNd hsw2 hiT hgt hym hj hsl
      go_upto_region 4 with (fail)
      go_region_held3 (fun W=>W.cell? ⟨G,(q+1)*4,none⟩=some (.int .i64 x.a)∧W.cell? ⟨G,(q+1)*4+1,none⟩=some (.bool x.back)∧W.cell? ⟨G,(q+1)*4+2,none⟩=some (.int .i64 (-1))∧W.cell? ⟨G,(q+1)*4+3,none⟩=some (.int .i64 x.x) ∧
       W.cell? ⟨G,q*4,none⟩=some (.int .i64 y.a)∧W.cell? ⟨G,q*4+1,none⟩=some (.bool y.back)∧W.cell? ⟨G,q*4+2,none⟩=some (.int .i64 (-1))∧W.cell? ⟨G,q*4+3,none⟩=some (.int .i64 y.x)∧InS w base G c n N W)
       ((refine HKC.out _ ?_;(repeat (first | assumption | refine InS.drew ?_))))
       ((go_at_call 91;refine (HCM.out _ (by (repeat (first | assumption | refine InS.drew ?_)))).mono ?_;rintro e w5 ⟨rfl,hN5⟩))
      have HN5:=lh hN5
      clear a0 a1 a2 a3 b0 b1 b2 b3 hN hN5 HCM
      by_cases hlt2:x.x<y.x
      ·have hd2:decide (x.x-y.x<0)=true:=decide_eq_true (by omega)
       have hd3:x.x-y.x<0:=by omega
       have HLT:=lh hlt2
       go_upto_region 6 with (fail)
       obtain⟨a0,a1,a2,a3,b0,b1,b2,b3,_⟩:=HKC.out w5 HN5.out
       obtain⟨_,_,_,_,_,_,hf⟩:=st_cells hnl HN5.out.own q y HTT.out
       have e0:=hf ((q+1)*4)
       have e1:=hf ((q+1)*4+1)
       have e2:=hf ((q+1)*4+2)
       have e3:=hf ((q+1)*4+3)
       have f0:=hf (q*4)
       have f1:=hf (q*4+1)
       have f2:=hf (q*4+2)
       have f3:=hf (q*4+3)
       have HSW:=lh (HN5.out.swap hnl q x y HSS.out HTT.out)
       clear hf HKC
       go_region
       clear a0 a1 a2 a3 b0 b1 b2 b3 e0 e1 e2 e3 f0 f1 f2 f3
       go_wp2_with (fail)
       go_roundw
       case rel=>exact⟨q,S0,y::S2,by go_num,hq,by rw [HIT.out];simp,fun z hz=>by rcases List.mem_cons.1 hz with rfl | hz;exact HLT.out;exact HGT.out z hz,by rw [←HSW2.out];exact HSW.out.drew⟩
       case measure=>simp [intOf]
      ·have hd2:decide (x.x-y.x<0)=false:=decide_eq_false (by omega)
       have hd3:¬ x.x-y.x<0:=by omega
       have hfin:isrt (T1++[x])=(S0++[y])++x::S2:=mid_ins T1 (S0++[y]) S2 x HIT.out (fun z hz=>by
        have hso:=isrt_srt T1
        rw [HIT.out] at hso
        have h3:=((srt_app (S0++[y]) S2).1 hso).1
        rcases List.mem_append.1 hz with hz | hz
        ·have:=((srt_app S0 [y]).1 h3).2.2 z hz y (List.mem_singleton.2 rfl)
         omega
        ·rcases List.mem_singleton.1 hz with rfl
         omega) HGT.out
       have HF:=lh hfin
       clear hfin
       go_wp2_with (fail)
       go_meet
       have h:=HN5.out
       rw [←HND.out] at h
       rw [HF.out]
       simpa using h
   case rest =>
    have HS2:=lh hcut
    clear hcut HS
    go_wp2_with (fail)
    go_roundw
    case rel=>exact⟨i+1,T1++[x],T3,by go_num,by omega,by omega,by rw [HST.out];simp,.inr (by rw [List.length_append,List.length_singleton];omega),HS2.out⟩
    case measure=>simp [intOf];omega
  ·have hT2:T2=[]:=by
    rcases hor with h | h
    ·rw [h] at hST
     exact (List.append_eq_nil_iff.1 hST.symm).2
    ·have:=congrArg List.length hST
     rw [List.length_append] at this
     exact List.length_eq_zero_iff.1 (by omega)
   subst hT2
   rw [List.append_nil] at hST
   subst hST
   clear hor
   go_wp2_with (fail)
   go_end0
   have h:=HS.out
   rw [List.append_nil] at h
   exact⟨rfl,h⟩
end
end Go.Proofs.YtlmjbfncopbilaaGreatDoor
