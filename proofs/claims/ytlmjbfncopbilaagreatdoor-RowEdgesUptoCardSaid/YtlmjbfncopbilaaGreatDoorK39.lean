/- Part 39 (merged by a program): lemmas of no further condition than each states. -/
import Derived.Test.YtlmjbfncopbilaaGreatDoorK38
namespace Go.Proofs.YtlmjbfncopbilaaGreatDoor
set_option linter.unusedVariables false
set_option linter.unusedSimpArgs false
section
open Go.RowKit Go.Proofs Go.Shelf
attribute [local go_sem] Oper.semAt_some
theorem get_midS {P A R:List St} {k:Nat} {x:St} (h:A[k]? = some x):(P++A++R)[P.length+k]? = some x:=by
 rw [List.append_assoc,List.getElem?_append_right (by omega),Nat.add_sub_cancel_left,List.getElem?_append_left (List.getElem?_eq_some_iff.1 h).1]
 exact h
theorem ins_at (B:List St) (x:St) (hB:SrtL B) (s:Nat) (hs:s≤B.length) (h1:s=0∨∃z,B[s-1]? = some z∧z.x<x.x) (h2:s=B.length∨∃z,B[s]? = some z∧¬ z.x<x.x):mg [x] B=B.take s++x::B.drop s:=by
 have key:=mg_parted [x] B ⟨fun y hy=>absurd hy (by simp),trivial⟩ hB 0 s (Nat.zero_le _) hs (.inl rfl) (by
  rcases h1 with h | ⟨z,h,hz⟩
  ·exact .inr (.inl h)
  ·exact .inr (.inr ⟨x,z,rfl,h,hz⟩))
 rw [key]
 show B.take s++insL x (B.drop s)=_
 rw [insL_front]
 intro y hy
 rcases h2 with h | ⟨z,h,hz⟩
 ·rw [h,List.drop_length] at hy;cases hy
 ·obtain⟨i,hi⟩:=List.mem_iff_getElem?.1 hy
  rw [List.getElem?_drop] at hi
  have:=srt_get B hB s (s+i) z y (by omega) h hi
  omega
theorem ins_at2 (A:List St) (y:St) (hA:SrtL A) (s:Nat) (hs:s≤A.length) (h1:s=0∨∃z,A[s-1]? = some z∧¬ y.x<z.x) (h2:s=A.length∨∃z,A[s]? = some z∧y.x<z.x):mg A [y]=A.take s++y::A.drop s:=by
 have key:=mg_parted A [y] hA ⟨fun y hy=>absurd hy (by simp),trivial⟩ s 0 hs (Nat.zero_le _) (by
  rcases h1 with h | ⟨z,h,hz⟩
  ·exact .inl h
  ·exact .inr (.inr ⟨z,y,h,rfl,by omega⟩)) (.inr (.inl rfl))
 have hd:SrtL (A.drop s):=by
  have:=hA
  rw [←List.take_append_drop s A] at this
  exact ((srt_app _ _).1 this).2.1
 have ht:SrtL (A.take s):=by
  have:=hA
  rw [←List.take_append_drop s A] at this
  exact ((srt_app _ _).1 this).1
 rw [key]
 show mg (A.take s) []++mg (A.drop s) [y]=_
 rw [mg_nil _ ht]
 congr 1
 have:=mg_past [y] [] (A.drop s) (fun a ha b hb=>by
  rcases List.mem_singleton.1 hb with rfl
  rcases h2 with h | ⟨z,h,hz⟩
  ·rw [h,List.drop_length] at ha;cases ha
  ·obtain⟨i,hi⟩:=List.mem_iff_getElem?.1 ha
   rw [List.getElem?_drop] at hi
   have:=srt_get A hA s (s+i) z a (by omega) h hi
   omega)
 rw [mg_nil _ hd] at this
 exact this
theorem half_bd (i j:Nat) (h:i<j):i≤(i+j) / 2∧(i+j) / 2<j:=by omega
set_option maxRecDepth 100000 in
set_option maxHeartbeats 4000000 in
theorem symA_any (G c N base:Nat) (w:World) (P B R:List St) (x:St) (a m b:Nat) (ha:P.length=a) (hm:m=a+1) (hb:m+B.length=b) (hl:(P++x::(B++R)).length=N) (hN:N≤8388608) (hB:SrtL B) (hx:smallX (P++x::(B++R))) (W:World) (hS:InS w base G c N (P++x::(B++R)) W) :
 Calls Tryz.prog 176 #[.slice (some ⟨G,0,none⟩) N c,.int .i64 a,.int .i64 m,.int .i64 b,.func (.func 91) #[] #[]] W fun e w'=>e=.returned (.tuple #[])∧InS w base G c N (P++mg [x] B++R) w':=by
 have hm1:a+1≤m:=by omega
 have hm2:m≤a+1:=by omega
 clear hm
 have HS0:=lh hS
 have HXM':=lh hx
 have HBS:=lh hB
 obtain⟨Mc,hMc⟩:∃M,P++x::(B++R)=M:=⟨_,rfl⟩
 have HXM:Hid (∀z∈Mc,-1099511627776≤z.x∧z.x≤1099511627776):=lh (by rw [←hMc];exact hx)
 rw [hMc] at HS0
 have hML:Mc.length=N:=by rw [←hMc];exact hl
 have hNN:b+R.length=N:=by rw [←hl];simp;omega
 have hwd:IntKind.i64.wrap ((m:Int)-(a:Int))=1:=by rw [IntKind.wrap_i64];omega
 have HMC:=lh hMc
 have HA:=lh ha
 clear hS hl hx hB hMc HXM' ha
 go_enter Tryz.func176,Tryz.ntmps176
 go_upto_block 0 with (fail)
 go_wp2_with (fail)
 go_loopw [10,11,12] (fun u10 u11 _ wx=>∃i j:Nat,u10=.int .i64 i∧u11=.int .i64 j∧m≤i∧i≤j∧j≤b∧(i=m∨∃z,B[i-1-m]? = some z∧z.x<x.x)∧(j=b∨∃z,B[j-m]? = some z∧x.x≤z.x)∧InS w base G c N Mc wx) (fun u10 u11 _ _=>(intOf u11).toNat-(intOf u10).toNat)
 case atStart=>exact⟨m,b,rfl,rfl,Nat.le_refl _,by omega,Nat.le_refl _,.inl rfl,.inl rfl,HS0.out⟩
 case round =>
  obtain⟨i,j,rfl,rfl,hi1,hij,hjb,hl1,hl2,hS1⟩:=hrel
  have HS1:=lh hS1
  have HL1:=lh hl1
  have HL2:=lh hl2
  clear hS1 hl1 hl2 HS0
  by_cases hlt:i<j
  ·obtain⟨h,hh⟩:∃h,(i+j) / 2=h:=⟨_,rfl⟩
   have hh1:i≤h∧h<j:=by rw [←hh];exact half_bd i j hlt
   obtain⟨y,hy⟩:∃y,B[h-m]? = some y:=⟨_,List.getElem?_eq_getElem (by omega)⟩
   have HY:=lh hy
   have hltI:(i:Int)<(j:Int):=by omega
   have hw1:IntKind.i64.wrap ((i:Int)+(j:Int))=((i+j:Nat):Int):=by rw [IntKind.wrap_i64];omega
   have hha:((i:Int)+(j:Int)) / 2=(h:Int):=by omega
   have G1:Mc[h]? = some y:=by
    have h1:=get_midS (P:=P++[x]) (R:=R) HY.out
    have h2:=HA.out
    rw [show (P++[x]).length+(h-m)=h by rw [List.length_append,List.length_singleton];omega] at h1
    rw [←HMC.out]
    simpa using h1
   have G2:Mc[a]? = some x:=by rw [←HMC.out,←HA.out];exact getS_app _ _ _
   have HH:=lh hh
   clear hh hy
   have gx:Mc[h]? = some y:=G1
   have gy:Mc[a]? = some x:=G2
   have HKC:Hid (∀W,InS w base G c N Mc W→W.cell? ⟨G,(h)*4,none⟩=some (.int .i64 y.a)∧W.cell? ⟨G,(h)*4+1,none⟩=some (.bool y.back)∧W.cell? ⟨G,(h)*4+2,none⟩=some (.int .i64 (-1))∧W.cell? ⟨G,(h)*4+3,none⟩=some (.int .i64 y.x) ∧
    W.cell? ⟨G,(a)*4,none⟩=some (.int .i64 x.a)∧W.cell? ⟨G,(a)*4+1,none⟩=some (.bool x.back)∧W.cell? ⟨G,(a)*4+2,none⟩=some (.int .i64 (-1))∧W.cell? ⟨G,(a)*4+3,none⟩=some (.int .i64 x.x)∧InS w base G c N Mc W):=lh fun W hW0=>by
    obtain⟨_,_,a0,a1,a2,a3,_⟩:=st_cells hML hW0.own (h) y gx
    obtain⟨_,_,b0,b1,b2,b3,_⟩:=st_cells hML hW0.own (a) x gy
    exact⟨a0,a1,a2,a3,b0,b1,b2,b3,hW0⟩
   have hbx:=HXM.out y (List.mem_of_getElem? gx)
   have hby:=HXM.out x (List.mem_of_getElem? gy)
   have HCM:Hid (∀W,InS w base G c N Mc W→Calls Tryz.prog 91 #[.agg #[.int .i64 y.a,.bool y.back,.int .i64 (-1),.int .i64 y.x],.agg #[.int .i64 x.a,.bool x.back,.int .i64 (-1),.int .i64 x.x]] W fun e w'=>e=.returned (.int .i64 (y.x-x.x))∧InS w base G c N Mc w') :=
    lh fun W h=>(scmp_any y x hbx hby W).mono fun e w' ⟨h1,h2⟩=>⟨h1,h.below h2⟩
   obtain⟨a0,a1,a2,a3,b0,b1,b2,b3,hN⟩:=HKC.out wr HS1.out
   have hpN:((h:Nat):Int)<(N:Int):=by have:=(List.getElem?_eq_some_iff.1 gx).1;omega
   have hqN:((a:Nat):Int)<(N:Int):=by have:=(List.getElem?_eq_some_iff.1 gy).1;omega
   clear gx gy HS1
   go_upto_region 5 with (fail)
   go_region_held3 (fun W=>W.cell? ⟨G,(h)*4,none⟩=some (.int .i64 y.a)∧W.cell? ⟨G,(h)*4+1,none⟩=some (.bool y.back)∧W.cell? ⟨G,(h)*4+2,none⟩=some (.int .i64 (-1))∧W.cell? ⟨G,(h)*4+3,none⟩=some (.int .i64 y.x) ∧
    W.cell? ⟨G,(a)*4,none⟩=some (.int .i64 x.a)∧W.cell? ⟨G,(a)*4+1,none⟩=some (.bool x.back)∧W.cell? ⟨G,(a)*4+2,none⟩=some (.int .i64 (-1))∧W.cell? ⟨G,(a)*4+3,none⟩=some (.int .i64 x.x)∧InS w base G c N Mc W)
    ((refine HKC.out _ ?_;(repeat (first | assumption | refine InS.drew ?_))))
    ((go_at_call 91;refine (HCM.out _ (by (repeat (first | assumption | refine InS.drew ?_)))).mono ?_;rintro e w5 ⟨rfl,hN5⟩))
   have HN5:=lh hN5
   clear a0 a1 a2 a3 b0 b1 b2 b3 hN hN5 HCM HKC hpN hqN
   clear G1 G2
   by_cases hc:y.x<x.x
   ·have hd2:decide (y.x-x.x<0)=true:=decide_eq_true (by omega)
    have hd3:y.x-x.x<0:=by omega
    have HCC:=lh hc
    have hwh:IntKind.i64.wrap ((h:Int)+1)=((h+1:Nat):Int):=by rw [IntKind.wrap_i64];omega
    clear hc
    go_wp2_with (fail)
    go_roundw
    case rel=>exact⟨h+1,j,by go_num,rfl,by omega,by omega,hjb,.inr ⟨y,by rw [show h+1-1-m=h-m by omega];exact HY.out,HCC.out⟩,HL2.out,HN5.out⟩
    case measure=>simp [intOf];omega
   ·have hd2:decide (y.x-x.x<0)=false:=decide_eq_false (by omega)
    have hd3:¬ y.x-x.x<0:=by omega
    have HCC:=lh hc
    clear hc
    go_wp2_with (fail)
    go_roundw
    case rel=>exact⟨i,h,rfl,by go_num,hi1,hh1.1,by omega,HL1.out,.inr ⟨y,HY.out,by have:=HCC.out;omega⟩,HN5.out⟩
    case measure=>simp [intOf];omega
  ·obtain rfl:i=j:=by omega
   obtain⟨s,hs⟩:∃s,i-m=s:=⟨_,rfl⟩
   have hsB:s≤B.length:=by omega
   have hres:=ins_at B x HBS.out s hsB (by
    rcases HL1.out with h | ⟨z,h,hz⟩
    ·exact .inl (by omega)
    ·exact .inr ⟨z,by rw [←hs,show i-m-1=i-1-m by omega];exact h,hz⟩) (by
    rcases HL2.out with h | ⟨z,h,hz⟩
    ·exact .inl (by omega)
    ·exact .inr ⟨z,by rw [←hs];exact h,by omega⟩)
   obtain⟨B1,hB1⟩:∃l,B.take s=l:=⟨_,rfl⟩
   obtain⟨B2,hB2⟩:∃l,B.drop s=l:=⟨_,rfl⟩
   have hBB:B=B1++B2:=by rw [←hB1,←hB2,List.take_append_drop]
   have hl1':B1.length=s:=by rw [←hB1,List.length_take];omega
   rw [hB1,hB2] at hres
   have hl2':s+B2.length=B.length:=by rw [hBB,List.length_append,hl1']
   have HRES:=lh hres
   have HBB:=lh hBB
   have hAl:=HA.out
   have hwi:IntKind.i64.wrap ((i:Int)-1)=((i-1:Nat):Int):=by rw [IntKind.wrap_i64];omega
   have hltI:¬ (i:Int)<(i:Int):=by omega
   have HS1':Hid (InS w base G c N (P++x::(B1++(B2++R))) wr):=lh (by have h:=HS1.out;rw [←HMC.out,HBB.out] at h;simpa using h)
   clear hres hBB hB1 hB2 HL1 HL2 HBS HS1 HXM hML
   go_wp2_with (fail)
   go_loopw [13] (fun u13 wx=>∃(k:Nat) (Ba Bb:List St),u13=.int .i64 k∧B1=Ba++Bb∧a+Ba.length=k∧InS w base G c N (P++Ba++x::(Bb++(B2++R))) wx) (fun u13 _=>b-(intOf u13).toNat)
   case atStart=>exact⟨a,[],B1,rfl,rfl,rfl,by simpa using HS1'.out⟩
   case round =>
    obtain⟨k,Ba,Bb,rfl,hBa,hka,hS1⟩:=hrel
    have HS1:=lh hS1
    have hlB:Ba.length+Bb.length=s:=by rw [←hl1',hBa,List.length_append]
    clear hS1 HS1'
    by_cases hk:k<i-1
    ·obtain⟨z,Bc,rfl⟩:∃z t,Bb=z::t:=by
      cases Bb with
      | nil=>simp at hlB;omega
      | cons z t=>exact⟨z,t,rfl⟩
     rw [List.length_cons] at hlB
     have hkI:(k:Int)<((i-1:Nat):Int):=by omega
     obtain⟨Mk,hMk⟩:∃M,P++Ba++x::(z::Bc++(B2++R))=M:=⟨_,rfl⟩
     have eM:Mk=(P++Ba)++x::([]++z::(Bc++(B2++R))):=by rw [←hMk];simp
     have lP:(P++Ba).length=k:=by rw [List.length_append];omega
     rw [hMk] at HS1
     have hML:Mk.length=N:=by rw [eM];simp only [List.length_append,List.length_cons,List.length_nil];simp only [List.length_append] at lP;omega
     have gx:Mk[k]? = some x:=by rw [eM,←lP];exact get_fst _ _ _ _ _
     have gy:Mk[k+1]? = some z:=by
      have h:=get_snd (P++Ba) [] (Bc++(B2++R)) x z
      rw [List.length_nil,Nat.add_zero,lP] at h
      rw [eM];exact h
     have hset:(Mk.set k z).set (k+1) x=(P++Ba)++z::([]++x::(Bc++(B2++R))):=by
      have h:=set_two (P++Ba) [] (Bc++(B2++R)) x z
      rw [List.length_nil,Nat.add_zero,lP] at h
      rw [eM];exact h
     have hg1:(k:Int)+1<(N:Int):=by have:=(List.getElem?_eq_some_iff.1 gy).1;omega
     have hg4:(0:Int)≤(k:Int)+1:=by omega
     have htn:((k:Int)+1).toNat=k+1:=by omega
     have hwk:IntKind.i64.wrap ((k:Int)+1)=(k:Int)+1:=by rw [IntKind.wrap_i64];omega
     have HBA:=lh hBa
     clear hMk eM lP hBa
     obtain⟨_,_,a0,a1,a2,a3,hf⟩:=st_cells hML HS1.out.own (k) x gx
     obtain⟨_,_,b0,b1,b2,b3,_⟩:=st_cells hML HS1.out.own (k+1) z gy
     have e0:=hf ((k)*4)
     have e1:=hf ((k)*4+1)
     have e2:=hf ((k)*4+2)
     have e3:=hf ((k)*4+3)
     have f0:=hf ((k+1)*4)
     have f1:=hf ((k+1)*4+1)
     have f2:=hf ((k+1)*4+2)
     have f3:=hf ((k+1)*4+3)
     have hsw:=HS1.out.sw hML (k) (k+1) (by omega) x z gx gy
     rw [hset] at hsw
     have HSW:=lh hsw
     have hpN:((k:Nat):Int)<(N:Int):=by have:=(List.getElem?_eq_some_iff.1 gx).1;omega
     have hqN:((k+1:Nat):Int)<(N:Int):=by have:=(List.getElem?_eq_some_iff.1 gy).1;omega
     clear hf hsw hset gx gy HS1
     go_upto_region 11 with (fail)
     go_region
     clear a0 a1 a2 a3 b0 b1 b2 b3 e0 e1 e2 e3 f0 f1 f2 f3
     go_wp2_with (fail)
     go_roundw
     case rel=>exact⟨k+1,Ba++[z],Bc,by go_num,by rw [HBA.out];simp,by rw [List.length_append,List.length_singleton];omega,by have h:=HSW.out.drew;simpa using h⟩
     case measure=>simp [intOf];omega
    ·have hkI:¬ (k:Int)<((i-1:Nat):Int):=by omega
     have hbb:Bb=[]:=List.length_eq_zero_iff.1 (by omega)
     subst hbb
     rw [List.append_nil] at hBa
     subst hBa
     go_wp2_with (fail)
     refine bodyPost_ret (results_none rfl _ _ _) rfl ?_
     exact⟨rfl,by rw [HRES.out];simpa using HS1.out⟩
theorem set_rev (L1 L3:List St) (x y:St):((L1++x::y::L3).set (L1.length+1) x).set L1.length y=L1++y::x::L3:=by
 have h:=set_two L1 [] L3 x y
 rw [List.length_nil,Nat.add_zero,List.nil_append,List.nil_append] at h
 rw [List.set_comm _ _ (by omega)]
 exact h
set_option maxRecDepth 100000 in
set_option maxHeartbeats 4000000 in
theorem symB_any (G c N base:Nat) (w:World) (P A R:List St) (y:St) (a m b:Nat) (ha:P.length=a) (hm:a+A.length=m) (hA2:2≤A.length) (hb:b=m+1) (hl:(P++A++y::R).length=N) (hN:N≤8388608) (hA:SrtL A) (hx:smallX (P++A++y::R)) (W:World) (hS:InS w base G c N (P++A++y::R) W) :
 Calls Tryz.prog 176 #[.slice (some ⟨G,0,none⟩) N c,.int .i64 a,.int .i64 m,.int .i64 b,.func (.func 91) #[] #[]] W fun e w'=>e=.returned (.tuple #[])∧InS w base G c N (P++mg A [y]++R) w':=by
 have hb1:m+1≤b:=by omega
 have hb2:b≤m+1:=by omega
 clear hb
 have HS0:=lh hS
 have HAS:=lh hA
 obtain⟨Mc,hMc⟩:∃M,P++A++y::R=M:=⟨_,rfl⟩
 have HXM:Hid (∀z∈Mc,-1099511627776≤z.x∧z.x≤1099511627776):=lh (by rw [←hMc];exact hx)
 rw [hMc] at HS0
 have hML:Mc.length=N:=by rw [←hMc];exact hl
 have hNN:m+1+R.length=N:=by rw [←hl];simp;omega
 have hwd:IntKind.i64.wrap ((m:Int)-(a:Int))=(A.length:Int):=by rw [IntKind.wrap_i64];omega
 have hne:((A.length:Int)==1)=false:=beq_eq_false_iff_ne.2 (by omega)
 have hwd2:IntKind.i64.wrap ((b:Int)-(m:Int))=1:=by rw [IntKind.wrap_i64];omega
 have HMC:=lh hMc
 have HA:=lh ha
 clear hS hl hx hA hMc ha
 go_enter Tryz.func176,Tryz.ntmps176
 go_upto_block 4 with (fail)
 go_wp2_with (fail)
 go_loopw [14,15,16] (fun u14 u15 _ wx=>∃i j:Nat,u14=.int .i64 i∧u15=.int .i64 j∧a≤i∧i≤j∧j≤m∧(i=a∨∃z,A[i-1-a]? = some z∧z.x≤y.x)∧(j=m∨∃z,A[j-a]? = some z∧y.x<z.x)∧InS w base G c N Mc wx) (fun u14 u15 _ _=>(intOf u15).toNat-(intOf u14).toNat)
 case atStart=>exact⟨a,m,rfl,rfl,Nat.le_refl _,by omega,Nat.le_refl _,.inl rfl,.inl rfl,HS0.out⟩
 case round =>
  obtain⟨i,j,rfl,rfl,hi1,hij,hjm,hl1,hl2,hS1⟩:=hrel
  have HS1:=lh hS1
  have HL1:=lh hl1
  have HL2:=lh hl2
  clear hS1 hl1 hl2 HS0
  by_cases hlt:i<j
  ·obtain⟨h,hh⟩:∃h,(i+j) / 2=h:=⟨_,rfl⟩
   have hh1:i≤h∧h<j:=by rw [←hh];exact half_bd i j hlt
   obtain⟨x,hxx⟩:∃x,A[h-a]? = some x:=⟨_,List.getElem?_eq_getElem (by omega)⟩
   have HX:=lh hxx
   have hltI:(i:Int)<(j:Int):=by omega
   have hw1:IntKind.i64.wrap ((i:Int)+(j:Int))=((i+j:Nat):Int):=by rw [IntKind.wrap_i64];omega
   have hha:((i:Int)+(j:Int)) / 2=(h:Int):=by omega
   have G2:Mc[h]? = some x:=by
    have h1:=get_midS (P:=P) (R:=y::R) HX.out
    have h2:=HA.out
    rw [show P.length+(h-a)=h by omega] at h1
    rw [←HMC.out]
    exact h1
   have G1:Mc[m]? = some y:=by
    have h2:=HA.out
    rw [←HMC.out,show m=(P++A).length by rw [List.length_append];omega]
    exact getS_app _ _ _
   have HH:=lh hh
   clear hh hxx
   have gx:Mc[m]? = some y:=G1
   have gy:Mc[h]? = some x:=G2
   have HKC:Hid (∀W,InS w base G c N Mc W→W.cell? ⟨G,(m)*4,none⟩=some (.int .i64 y.a)∧W.cell? ⟨G,(m)*4+1,none⟩=some (.bool y.back)∧W.cell? ⟨G,(m)*4+2,none⟩=some (.int .i64 (-1))∧W.cell? ⟨G,(m)*4+3,none⟩=some (.int .i64 y.x) ∧
    W.cell? ⟨G,(h)*4,none⟩=some (.int .i64 x.a)∧W.cell? ⟨G,(h)*4+1,none⟩=some (.bool x.back)∧W.cell? ⟨G,(h)*4+2,none⟩=some (.int .i64 (-1))∧W.cell? ⟨G,(h)*4+3,none⟩=some (.int .i64 x.x)∧InS w base G c N Mc W):=lh fun W hW0=>by
    obtain⟨_,_,a0,a1,a2,a3,_⟩:=st_cells hML hW0.own (m) y gx
    obtain⟨_,_,b0,b1,b2,b3,_⟩:=st_cells hML hW0.own (h) x gy
    exact⟨a0,a1,a2,a3,b0,b1,b2,b3,hW0⟩
   have hbx:=HXM.out y (List.mem_of_getElem? gx)
   have hby:=HXM.out x (List.mem_of_getElem? gy)
   have HCM:Hid (∀W,InS w base G c N Mc W→Calls Tryz.prog 91 #[.agg #[.int .i64 y.a,.bool y.back,.int .i64 (-1),.int .i64 y.x],.agg #[.int .i64 x.a,.bool x.back,.int .i64 (-1),.int .i64 x.x]] W fun e w'=>e=.returned (.int .i64 (y.x-x.x))∧InS w base G c N Mc w') :=
    lh fun W h=>(scmp_any y x hbx hby W).mono fun e w' ⟨h1,h2⟩=>⟨h1,h.below h2⟩
   obtain⟨a0,a1,a2,a3,b0,b1,b2,b3,hN⟩:=HKC.out wr HS1.out
   have hpN:((m:Nat):Int)<(N:Int):=by have:=(List.getElem?_eq_some_iff.1 gx).1;omega
   have hqN:((h:Nat):Int)<(N:Int):=by have:=(List.getElem?_eq_some_iff.1 gy).1;omega
   clear gx gy HS1
   go_upto_region 17 with (fail)
   go_region_held3 (fun W=>W.cell? ⟨G,(m)*4,none⟩=some (.int .i64 y.a)∧W.cell? ⟨G,(m)*4+1,none⟩=some (.bool y.back)∧W.cell? ⟨G,(m)*4+2,none⟩=some (.int .i64 (-1))∧W.cell? ⟨G,(m)*4+3,none⟩=some (.int .i64 y.x) ∧
    W.cell? ⟨G,(h)*4,none⟩=some (.int .i64 x.a)∧W.cell? ⟨G,(h)*4+1,none⟩=some (.bool x.back)∧W.cell? ⟨G,(h)*4+2,none⟩=some (.int .i64 (-1))∧W.cell? ⟨G,(h)*4+3,none⟩=some (.int .i64 x.x)∧InS w base G c N Mc W)
    ((refine HKC.out _ ?_;(repeat (first | assumption | refine InS.drew ?_))))
    ((go_at_call 91;refine (HCM.out _ (by (repeat (first | assumption | refine InS.drew ?_)))).mono ?_;rintro e w5 ⟨rfl,hN5⟩))
   have HN5:=lh hN5
   clear a0 a1 a2 a3 b0 b1 b2 b3 hN hN5 HCM HKC hpN hqN
   clear G1 G2
   by_cases hc:y.x<x.x
   ·have hd2:decide (y.x-x.x<0)=true:=decide_eq_true (by omega)
    have hd3:y.x-x.x<0:=by omega
    have hd4:decide (0≤y.x-x.x)=false:=decide_eq_false (by omega)
    have hd5:(!decide (y.x-x.x<0))=false:=by rw [hd2];rfl
    have HCC:=lh hc
    clear hc
    go_wp2_with (fail)
    all_goals (try (rename_i hbb;rw [hd5] at hbb;cases hbb))
    go_roundw
    case rel=>exact⟨i,h,rfl,by go_num,hi1,hh1.1,by omega,HL1.out,.inr ⟨x,HX.out,HCC.out⟩,HN5.out⟩
    case measure=>simp [intOf];omega
   ·have hd2:decide (y.x-x.x<0)=false:=decide_eq_false (by omega)
    have hd3:¬ y.x-x.x<0:=by omega
    have hd4:decide (0≤y.x-x.x)=true:=decide_eq_true (by omega)
    have hd5:(!decide (y.x-x.x<0))=true:=by rw [hd2];rfl
    have HCC:=lh (show x.x≤y.x by omega)
    have hwh:IntKind.i64.wrap ((h:Int)+1)=((h+1:Nat):Int):=by rw [IntKind.wrap_i64];omega
    clear hc
    go_wp2_with (fail)
    all_goals (try (rename_i hbb;rw [hd5] at hbb;cases hbb))
    go_roundw
    case rel=>exact⟨h+1,j,by go_num,rfl,by omega,by omega,hjm,.inr ⟨x,by rw [show h+1-1-a=h-a by omega];exact HX.out,HCC.out⟩,HL2.out,HN5.out⟩
    case measure=>simp [intOf];omega
  ·obtain rfl:i=j:=by omega
   obtain⟨s,hs⟩:∃s,i-a=s:=⟨_,rfl⟩
   have hsA:s≤A.length:=by omega
   have hres:=ins_at2 A y HAS.out s hsA (by
    rcases HL1.out with h | ⟨z,h,hz⟩
    ·exact .inl (by omega)
    ·exact .inr ⟨z,by rw [←hs,show i-a-1=i-1-a by omega];exact h,by omega⟩) (by
    rcases HL2.out with h | ⟨z,h,hz⟩
    ·exact .inl (by omega)
    ·exact .inr ⟨z,by rw [←hs];exact h,hz⟩)
   obtain⟨A1,hA1⟩:∃l,A.take s=l:=⟨_,rfl⟩
   obtain⟨A2,hA2'⟩:∃l,A.drop s=l:=⟨_,rfl⟩
   have hAA:A=A1++A2:=by rw [←hA1,←hA2',List.take_append_drop]
   have hl1':A1.length=s:=by rw [←hA1,List.length_take];omega
   rw [hA1,hA2'] at hres
   have hl2':s+A2.length=A.length:=by rw [hAA,List.length_append,hl1']
   have HRES:=lh hres
   have HAA:=lh hAA
   have hAl:=HA.out
   have hltI:¬ (i:Int)<(i:Int):=by omega
   have HS1':Hid (InS w base G c N (P++A1++A2++y::R) wr):=lh (by have h:=HS1.out;rw [←HMC.out,HAA.out] at h;simpa using h)
   clear hres hAA hA1 hA2' HL1 HL2 HAS HS1 HXM hML
   go_wp2_with (fail)
   go_loopw [17] (fun u17 wx=>∃(k:Nat) (Ba Bb:List St),u17=.int .i64 k∧A2=Ba++Bb∧i+Ba.length=k∧InS w base G c N (P++A1++Ba++y::(Bb++R)) wx) (fun u17 _=>(intOf u17).toNat)
   case atStart=>exact⟨m,A2,[],rfl,by simp,by omega,by simpa using HS1'.out⟩
   case round =>
    obtain⟨k,Ba,Bb,rfl,hBa,hka,hS1⟩:=hrel
    have HS1:=lh hS1
    have hlB:Ba.length+Bb.length=A2.length:=by rw [hBa,List.length_append]
    clear hS1 HS1'
    by_cases hk:i<k
    ·rcases List.eq_nil_or_concat Ba with e | ⟨Bc,z,e⟩
     ·rw [e] at hka;simp at hka;omega
     rw [List.concat_eq_append] at e
     subst e
     obtain⟨q,hq⟩:∃q,i+Bc.length=q:=⟨_,rfl⟩
     have hk1:q+1≤k:=by rw [List.length_append,List.length_singleton] at hka;omega
     have hk2:k≤q+1:=by rw [List.length_append,List.length_singleton] at hka;omega
     have hkI:(i:Int)<(k:Int):=by omega
     obtain⟨Mk,hMk⟩:∃M,P++A1++(Bc++[z])++y::(Bb++R)=M:=⟨_,rfl⟩
     have eM:Mk=(P++A1++Bc)++z::y::(Bb++R):=by rw [←hMk];simp
     have lP:(P++A1++Bc).length=q:=by rw [List.length_append,List.length_append];omega
     rw [hMk] at HS1
     have hek:k=q+1:=by omega
     have hML:Mk.length=N:=by rw [eM];simp only [List.length_append,List.length_cons];simp only [List.length_append,List.length_singleton] at lP hlB;omega
     have gx:Mk[k]? = some y:=by
      have h:=get_snd (P++A1++Bc) [] (Bb++R) z y
      rw [List.length_nil,Nat.add_zero,lP] at h
      rw [eM,hek];exact h
     have gy:Mk[q]? = some z:=by rw [eM,←lP];exact getS_app _ _ _
     have hset:(Mk.set k z).set q y=(P++A1++Bc)++y::z::(Bb++R):=by
      have h:=set_rev (P++A1++Bc) (Bb++R) z y
      rw [lP] at h
      rw [eM,hek];exact h
     have hg1:(q:Int)<(N:Int):=by have:=(List.getElem?_eq_some_iff.1 gy).1;omega
     have hwk:IntKind.i64.wrap ((k:Int)-1)=(q:Int):=by rw [IntKind.wrap_i64];omega
     have HBA:=lh hBa
     clear hMk eM lP hBa hek hka
     obtain⟨_,_,a0,a1,a2,a3,hf⟩:=st_cells hML HS1.out.own (k) y gx
     obtain⟨_,_,b0,b1,b2,b3,_⟩:=st_cells hML HS1.out.own (q) z gy
     have e0:=hf ((k)*4)
     have e1:=hf ((k)*4+1)
     have e2:=hf ((k)*4+2)
     have e3:=hf ((k)*4+3)
     have f0:=hf ((q)*4)
     have f1:=hf ((q)*4+1)
     have f2:=hf ((q)*4+2)
     have f3:=hf ((q)*4+3)
     have hsw:=HS1.out.sw hML (k) (q) (by omega) y z gx gy
     rw [hset] at hsw
     have HSW:=lh hsw
     have hpN:((k:Nat):Int)<(N:Int):=by have:=(List.getElem?_eq_some_iff.1 gx).1;omega
     have hqN:((q:Nat):Int)<(N:Int):=by have:=(List.getElem?_eq_some_iff.1 gy).1;omega
     clear hf hsw hset gx gy HS1
     go_upto_region 23 with (fail)
     go_region
     clear a0 a1 a2 a3 b0 b1 b2 b3 e0 e1 e2 e3 f0 f1 f2 f3
     go_wp2_with (fail)
     go_roundw
     case rel=>exact⟨q,Bc,z::Bb,by go_num,by rw [HBA.out];simp,hq,by have h:=HSW.out.drew;simpa using h⟩
     case measure=>simp [intOf];omega
    ·have hkI:¬ (i:Int)<(k:Int):=by omega
     have hbb:Ba=[]:=List.length_eq_zero_iff.1 (by omega)
     subst hbb
     rw [List.nil_append] at hBa
     subst hBa
     go_wp2_with (fail)
     refine bodyPost_ret (results_none rfl _ _ _) rfl ?_
     exact⟨rfl,by rw [HRES.out];simpa using HS1.out⟩
end
section
open Go.RowKit Go.Proofs Go.Shelf
attribute [local go_sem] Oper.semAt_some
theorem sym_split (A B:List St) (hA:SrtL A) (hB:SrtL B) (u v a m b mid nn p s0 r0 i sa eb:Nat) (hu:A.length=u) (hv:B.length=v) (hm:m=a+u) (hb:b=m+v) (hn:nn=mid+m) (hp:p+1=nn) (q1:a≤s0) (q4:r0≤mid) (q3:r0≤m) (q5:nn≤b+s0) (hi1:s0≤i) (hi2:i≤r0)
 (hs2:(s0=a∨s0+b=nn)∧(r0=m∨r0=mid)) (hsa:i=a+sa) (heb:mid=i+eb)
 (l1:i=s0∨∃x y,A[i-1-a]? = some x∧B[nn-i-m]? = some y∧x.x≤y.x) (l2:i=r0∨∃x y,A[i-a]? = some x∧B[p-i-m]? = some y∧y.x<x.x) :
 ∃A1 A2 B1 B2,A=A1++A2∧B=B1++B2∧A1.length=sa∧A2.length+sa=u∧B1.length=eb∧B2.length+eb=v∧SrtL A1∧SrtL A2∧SrtL B1∧SrtL B2∧mg A B=mg A1 B1++mg A2 B2:=by
 have hpar:=mg_parted A B hA hB sa eb (by omega) (by omega) (by
  rcases l1 with h | ⟨x,y,k1,k2,k3⟩
  ·rcases hs2.1 with h' | h'
   ·exact .inl (by omega)
   ·exact .inr (.inl (by omega))
  ·exact .inr (.inr ⟨x,y,by rw [show sa-1=i-1-a by omega];exact k1,by rw [show eb=nn-i-m by omega];exact k2,k3⟩)) (by
  rcases l2 with h | ⟨x,y,k1,k2,k3⟩
  ·rcases hs2.2 with h' | h'
   ·exact .inl (by omega)
   ·exact .inr (.inl (by omega))
  ·exact .inr (.inr ⟨x,y,by rw [show sa=i-a by omega];exact k1,by rw [show eb-1=p-i-m by omega];exact k2,k3⟩))
 have hAA:A.take sa++A.drop sa=A:=List.take_append_drop sa A
 have hBB:B.take eb++B.drop eb=B:=List.take_append_drop eb B
 have hSA:=hA
 rw [←hAA] at hSA
 have hSB:=hB
 rw [←hBB] at hSB
 obtain⟨sA1,sA2,_⟩:=(srt_app _ _).1 hSA
 obtain⟨sB1,sB2,_⟩:=(srt_app _ _).1 hSB
 exact⟨A.take sa,A.drop sa,B.take eb,B.drop eb,hAA.symm,hBB.symm,by rw [List.length_take];omega,by rw [List.length_drop];omega,by rw [List.length_take];omega,by rw [List.length_drop];omega,sA1,sA2,sB1,sB2,hpar⟩
theorem sym_calls (G c N base:Nat) (w:World) (P A1 A2 B1 B2 R:List St) (a i m mid e b T:Nat) (hP:P.length=a) (h1:a+A1.length=i) (h2:i+A2.length=m) (h3:i+B1.length=mid) (h4:m+B1.length=e) (h5:e+B2.length=b) (h6:mid+A2.length=e) (hT:A1.length+A2.length+B1.length+B2.length=T) (hT1:0<A2.length+B2.length) (hT2:0<A1.length+B1.length) (hN:N≤8388608)
 (hsum:(P++(A1++A2)++(B1++B2)++R).length=N) (sA1:SrtL A1) (sA2:SrtL A2) (sB1:SrtL B1) (sB2:SrtL B2) (hx:∀z,z∈P∨z∈A1++A2∨z∈B1++B2∨z∈R → -1099511627776≤z.x∧z.x≤1099511627776)
 (IH:∀(P' A' B' R':List St) (a' m' b':Nat),P'.length=a'→a'+A'.length=m'→m'+B'.length=b'→1≤A'.length→1≤B'.length→A'.length+B'.length<T→(P'++A'++B'++R').length=N→SrtL A'→SrtL B'→smallX (P'++A'++B'++R') →
   ∀W',InS w base G c N (P'++A'++B'++R') W'→Calls Tryz.prog 176 #[.slice (some ⟨G,0,none⟩) N c,.int .i64 a',.int .i64 m',.int .i64 b',.func (.func 91) #[] #[]] W' fun e w'=>e=.returned (.tuple #[])∧InS w base G c N (P'++mg A' B'++R') w') :
 (i<m→m<e→∀W',InS w base G c N (P++A1++A2++(B1++B2++R)) W'→Calls Tryz.prog 209 #[.slice (some ⟨G,0,none⟩) N c,.int .i64 i,.int .i64 m,.int .i64 e,.func (.func 91) #[] #[]] W' fun e w'=>e=.returned (.tuple #[])∧InS w base G c N (P++A1++B1++(A2++B2++R)) w') ∧
 (a<i→i<mid→∀W',InS w base G c N (P++A1++B1++(A2++B2++R)) W'→Calls Tryz.prog 176 #[.slice (some ⟨G,0,none⟩) N c,.int .i64 a,.int .i64 i,.int .i64 mid,.func (.func 91) #[] #[]] W' fun e w'=>e=.returned (.tuple #[])∧InS w base G c N (P++mg A1 B1++(A2++B2++R)) w') ∧
 (mid<e→e<b→∀W',InS w base G c N (P++mg A1 B1++(A2++B2++R)) W'→Calls Tryz.prog 176 #[.slice (some ⟨G,0,none⟩) N c,.int .i64 mid,.int .i64 e,.int .i64 b,.func (.func 91) #[] #[]] W' fun e w'=>e=.returned (.tuple #[])∧InS w base G c N (P++mg A1 B1++mg A2 B2++R) w'):=by
 have hs:=hsum
 simp only [List.length_append] at hs
 have hx2:∀z,(z∈P∨z∈A1∨z∈A2∨z∈B1∨z∈B2∨z∈R) → -1099511627776≤z.x∧z.x≤1099511627776:=fun z hz=>hx z (by
  simp only [List.mem_append]
  rcases hz with h | h | h | h | h | h
  ·exact .inl h
  ·exact .inr (.inl (.inl h))
  ·exact .inr (.inl (.inr h))
  ·exact .inr (.inr (.inl (.inl h)))
  ·exact .inr (.inr (.inl (.inr h)))
  ·exact .inr (.inr (.inr h)))
 refine⟨fun g1 g2 W' h=>?_,fun g1 g2 W' h=>?_,fun g1 g2 W' h=>?_⟩
 ·have h':InS w base G c N ((P++A1)++A2++B1++(B2++R)) W':=by simpa using h
  refine (rot_any G c N base w (P++A1) A2 B1 (B2++R) i m e (by rw [List.length_append];omega) h2 h4 (fun h=>by rw [h] at h2;simp at h2;omega) (fun h=>by rw [h] at h4;simp at h4;omega) (by simp only [List.length_append];omega) hN _ W' h').mono ?_
  rintro e' w' ⟨k1,k2⟩
  exact⟨k1,by simpa using k2⟩
 ·refine IH P A1 B1 (A2++B2++R) a i mid hP h1 h3 (by omega) (by omega) (by omega) (by simp only [List.length_append];omega) sA1 sB1 (fun z hz=>hx2 z ?_) W' h
  simp only [List.mem_append] at hz
  rcases hz with ((h | h) | h) | ((h | h) | h)
  ·exact .inl h
  ·exact .inr (.inl h)
  ·exact .inr (.inr (.inr (.inl h)))
  ·exact .inr (.inr (.inl h))
  ·exact .inr (.inr (.inr (.inr (.inl h))))
  ·exact .inr (.inr (.inr (.inr (.inr h))))
 ·have h':InS w base G c N ((P++mg A1 B1)++A2++B2++R) W':=by simpa using h
  refine IH (P++mg A1 B1) A2 B2 R mid e b (by rw [List.length_append,mg_len];omega) h6 h5 (by omega) (by omega) (by omega) (by simp only [List.length_append,mg_len];omega) sA2 sB2 (fun z hz=>hx2 z ?_) W' h'
  simp only [List.mem_append,mg_mem] at hz
  rcases hz with (((h | h | h) | h) | h) | h
  ·exact .inl h
  ·exact .inr (.inl h)
  ·exact .inr (.inr (.inr (.inl h)))
  ·exact .inr (.inr (.inl h))
  ·exact .inr (.inr (.inr (.inr (.inl h))))
  ·exact .inr (.inr (.inr (.inr (.inr h))))
end
end Go.Proofs.YtlmjbfncopbilaaGreatDoor
