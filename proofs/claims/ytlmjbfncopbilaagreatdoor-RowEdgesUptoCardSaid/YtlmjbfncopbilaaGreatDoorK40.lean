/- Part 40 (merged by a program): lemmas of no further condition than each states. -/
import Derived.Test.YtlmjbfncopbilaaGreatDoorK39
namespace Go.Proofs.YtlmjbfncopbilaaGreatDoor
set_option linter.unusedVariables false
set_option linter.unusedSimpArgs false
section
open Go.RowKit Go.Proofs Go.Shelf
attribute [local go_sem] Oper.semAt_some
set_option maxRecDepth 100000 in
set_option maxHeartbeats 4000000 in
theorem symG_any (G c N base:Nat) (w:World) (P A B R:List St) (a m b:Nat) (ha:P.length=a) (hm:a+A.length=m) (hb:m+B.length=b) (hA2:2≤A.length) (hB2:2≤B.length) (hl:(P++A++B++R).length=N) (hN:N≤8388608) (hA:SrtL A) (hB:SrtL B) (hx:smallX (P++A++B++R))
 (IH:∀(P' A' B' R':List St) (a' m' b':Nat),P'.length=a'→a'+A'.length=m'→m'+B'.length=b'→1≤A'.length→1≤B'.length→A'.length+B'.length<A.length+B.length→(P'++A'++B'++R').length=N→SrtL A'→SrtL B'→smallX (P'++A'++B'++R') →
   ∀W',InS w base G c N (P'++A'++B'++R') W'→Calls Tryz.prog 176 #[.slice (some ⟨G,0,none⟩) N c,.int .i64 a',.int .i64 m',.int .i64 b',.func (.func 91) #[] #[]] W' fun e w'=>e=.returned (.tuple #[])∧InS w base G c N (P'++mg A' B'++R') w')
 (W:World) (hS:InS w base G c N (P++A++B++R) W) :
 Calls Tryz.prog 176 #[.slice (some ⟨G,0,none⟩) N c,.int .i64 a,.int .i64 m,.int .i64 b,.func (.func 91) #[] #[]] W fun e w'=>e=.returned (.tuple #[])∧InS w base G c N (P++mg A B++R) w':=by
 have HS0:=lh hS
 have HAS:=lh hA
 have HBS:=lh hB
 have HIH:=lh IH
 have HXX:Hid (∀z,z∈P∨z∈A∨z∈B∨z∈R → -1099511627776≤z.x∧z.x≤1099511627776):=lh fun z hz=>hx z (by simp only [List.mem_append];rcases hz with h | h | h | h;exact .inl (.inl (.inl h));exact .inl (.inl (.inr h));exact .inl (.inr h);exact .inr h)
 obtain⟨Mc,hMc⟩:∃M,P++A++B++R=M:=⟨_,rfl⟩
 have HXM:Hid (∀z∈Mc,-1099511627776≤z.x∧z.x≤1099511627776):=lh (by rw [←hMc];exact hx)
 rw [hMc] at HS0
 have hML:Mc.length=N:=by rw [←hMc];exact hl
 have hNN:b+R.length=N:=by rw [←hl];simp;omega
 obtain⟨mid,hmid⟩:∃h,(a+b) / 2=h:=⟨_,rfl⟩
 obtain⟨nn,hnn⟩:∃n,mid+m=n:=⟨_,rfl⟩
 obtain⟨u,hu⟩:∃u,A.length=u:=⟨_,rfl⟩
 obtain⟨v,hv⟩:∃v,B.length=v:=⟨_,rfl⟩
 have hmid1:2*mid≤a+b:=by omega
 have hmid2:a+b≤2*mid+1:=by omega
 have hwd:IntKind.i64.wrap ((m:Int)-(a:Int))=(u:Int):=by rw [IntKind.wrap_i64];omega
 have hne:((u:Int)==1)=false:=beq_eq_false_iff_ne.2 (by omega)
 have hwd2:IntKind.i64.wrap ((b:Int)-(m:Int))=(v:Int):=by rw [IntKind.wrap_i64];omega
 have hne2:((v:Int)==1)=false:=beq_eq_false_iff_ne.2 (by omega)
 have hw1:IntKind.i64.wrap ((a:Int)+(b:Int))=(a:Int)+b:=by rw [IntKind.wrap_i64];omega
 have hha:((a:Int)+(b:Int)) / 2=(mid:Int):=by omega
 have hwn:IntKind.i64.wrap ((mid:Int)+(m:Int))=(nn:Int):=by rw [IntKind.wrap_i64];omega
 have hnn1:mid+m≤nn:=by omega
 have hnn2:nn≤mid+m:=by omega
 have hm1:a+u≤m:=by omega
 have hm2:m≤a+u:=by omega
 have hv1:m+v≤b:=by omega
 have hv2:b≤m+v:=by omega
 have hA2':2≤u:=by omega
 have hB2':2≤v:=by omega
 have HMC:=lh hMc
 have HA:=lh ha
 have HU:=lh hu
 have HV:=lh hv
 have HLN:=lh hl
 obtain⟨s0,hs0⟩:∃s,(if mid<m then nn-b else a)=s:=⟨_,rfl⟩
 obtain⟨r0,hr0⟩:∃s,(if mid<m then mid else m)=s:=⟨_,rfl⟩
 have HS:=lh hs0
 have HR:=lh hr0
 have hs1:a≤s0∧s0≤r0∧r0≤m∧r0≤mid∧nn≤b+s0:=by rw [←hs0,←hr0];split <;> omega
 have hs2:(s0=a∨s0+b=nn)∧(r0=m∨r0=mid):=by rw [←hs0,←hr0];split <;> omega
 obtain⟨q1,q2,q3,q4,q5⟩:=hs1
 have HS2:=lh hs2
 clear hS hl hx hA hB hMc ha hm hb IH hA2 hB2 hu hv hmid hnn hs0 hr0 hs2
 go_enter Tryz.func176,Tryz.ntmps176
 go_upto_if 140 with (fail)
 go_cut [20,21] (fun u20 u21 wx=>u20=.int .i64 s0∧u21=.int .i64 r0∧wx=W)
 case first=>as_aux_lemma =>
  by_cases hc:mid<m
  ·have hd:decide ((mid:Int)<(m:Int))=true:=decide_eq_true (by omega)
   have hws:IntKind.i64.wrap ((nn:Int)-(b:Int))=((nn-b:Nat):Int):=by rw [IntKind.wrap_i64];omega
   have HC:=lh hc
   clear hc
   go_wp2_with (fail)
   go_meet
   case rel=>exact⟨by rw [←HS.out,if_pos HC.out],by rw [←HR.out,if_pos HC.out],rfl⟩
  ·have hd:decide ((mid:Int)<(m:Int))=false:=decide_eq_false (by omega)
   have HC:=lh hc
   clear hc
   go_wp2_with (fail)
   go_meet
   case rel=>exact⟨by rw [←HS.out,if_neg HC.out],by rw [←HR.out,if_neg HC.out],rfl⟩
 case rest =>
  obtain⟨hv1,hv2,hw⟩:=hcut
  subst hv1
  subst hv2
  subst hw
  obtain⟨p,hp⟩:∃p,nn-1=p:=⟨_,rfl⟩
  have hp1:p+1≤nn:=by omega
  have hp2:nn≤p+1:=by omega
  have hwp:IntKind.i64.wrap ((nn:Int)-1)=(p:Int):=by rw [IntKind.wrap_i64];omega
  clear hp
  go_wp2_with (fail)
  go_loopw [20,21,23] (fun u20 u21 _ wx=>∃s r:Nat,u20=.int .i64 s∧u21=.int .i64 r∧s0≤s∧s≤r∧r≤r0∧(s=s0∨∃x y,A[s-1-a]? = some x∧B[nn-s-m]? = some y∧x.x≤y.x)∧(r=r0∨∃x y,A[r-a]? = some x∧B[p-r-m]? = some y∧y.x<x.x)∧InS w base G c N Mc wx) (fun u20 u21 _ _=>(intOf u21).toNat-(intOf u20).toNat)
  case atStart=>exact⟨s0,r0,rfl,rfl,Nat.le_refl _,q2,Nat.le_refl _,.inl rfl,.inl rfl,HS0.out⟩
  case round =>
   obtain⟨i,j,rfl,rfl,hi1,hij,hjr,hl1,hl2,hS1⟩:=hrel
   have HS1:=lh hS1
   have HL1:=lh hl1
   have HL2:=lh hl2
   clear hS1 hl1 hl2 HS0
   by_cases hlt:i<j
   ·as_aux_lemma =>
    obtain⟨h,hh⟩:∃h,(i+j) / 2=h:=⟨_,rfl⟩
    have hh1:i≤h∧h<j:=by rw [←hh];exact half_bd i j hlt
    obtain⟨q,hq⟩:∃q,p-h=q:=⟨_,rfl⟩
    have hqq:m≤q∧q<b∧q+h≤p∧p≤q+h:=by omega
    obtain⟨x,hxx⟩:∃x,A[h-a]? = some x:=⟨_,List.getElem?_eq_getElem (by have:=HU.out;omega)⟩
    obtain⟨y,hyy⟩:∃y,B[q-m]? = some y:=⟨_,List.getElem?_eq_getElem (by have:=HV.out;omega)⟩
    have HX:=lh hxx
    have HY:=lh hyy
    have hltI:(i:Int)<(j:Int):=by omega
    have hw1:IntKind.i64.wrap ((i:Int)+(j:Int))=((i+j:Nat):Int):=by rw [IntKind.wrap_i64];omega
    have hha:((i:Int)+(j:Int)) / 2=(h:Int):=by omega
    have hwq:IntKind.i64.wrap ((p:Int)-(h:Int))=(q:Int):=by rw [IntKind.wrap_i64];omega
    have G2:Mc[h]? = some x:=by
     have h1:=get_midS (P:=P) (R:=B++R) HX.out
     have h2:=HA.out
     rw [show P.length+(h-a)=h by omega] at h1
     rw [←HMC.out]
     simpa using h1
    have G1:Mc[q]? = some y:=by
     have h1:=get_midS (P:=P++A) (R:=R) HY.out
     have h2:=HA.out
     have h3:=HU.out
     rw [show (P++A).length+(q-m)=q by rw [List.length_append];omega] at h1
     rw [←HMC.out]
     exact h1
    have HH:=lh hh
    have HQ:=lh hq
    clear hh hxx hyy hq
    have gx:Mc[q]? = some y:=G1
    have gy:Mc[h]? = some x:=G2
    have HKC:Hid (∀W,InS w base G c N Mc W→W.cell? ⟨G,(q)*4,none⟩=some (.int .i64 y.a)∧W.cell? ⟨G,(q)*4+1,none⟩=some (.bool y.back)∧W.cell? ⟨G,(q)*4+2,none⟩=some (.int .i64 (-1))∧W.cell? ⟨G,(q)*4+3,none⟩=some (.int .i64 y.x) ∧
     W.cell? ⟨G,(h)*4,none⟩=some (.int .i64 x.a)∧W.cell? ⟨G,(h)*4+1,none⟩=some (.bool x.back)∧W.cell? ⟨G,(h)*4+2,none⟩=some (.int .i64 (-1))∧W.cell? ⟨G,(h)*4+3,none⟩=some (.int .i64 x.x)∧InS w base G c N Mc W):=lh fun W hW0=>by
     obtain⟨_,_,a0,a1,a2,a3,_⟩:=st_cells hML hW0.own (q) y gx
     obtain⟨_,_,b0,b1,b2,b3,_⟩:=st_cells hML hW0.own (h) x gy
     exact⟨a0,a1,a2,a3,b0,b1,b2,b3,hW0⟩
    have hbx:=HXM.out y (List.mem_of_getElem? gx)
    have hby:=HXM.out x (List.mem_of_getElem? gy)
    have HCM:Hid (∀W,InS w base G c N Mc W→Calls Tryz.prog 91 #[.agg #[.int .i64 y.a,.bool y.back,.int .i64 (-1),.int .i64 y.x],.agg #[.int .i64 x.a,.bool x.back,.int .i64 (-1),.int .i64 x.x]] W fun e w'=>e=.returned (.int .i64 (y.x-x.x))∧InS w base G c N Mc w') :=
     lh fun W h=>(scmp_any y x hbx hby W).mono fun e w' ⟨h1,h2⟩=>⟨h1,h.below h2⟩
    obtain⟨a0,a1,a2,a3,b0,b1,b2,b3,hN⟩:=HKC.out wr HS1.out
    have hpN:((q:Nat):Int)<(N:Int):=by have:=(List.getElem?_eq_some_iff.1 gx).1;omega
    have hqN:((h:Nat):Int)<(N:Int):=by have:=(List.getElem?_eq_some_iff.1 gy).1;omega
    clear gx gy HS1
    go_upto_region 35 with (fail)
    go_region_held3 (fun W=>W.cell? ⟨G,(q)*4,none⟩=some (.int .i64 y.a)∧W.cell? ⟨G,(q)*4+1,none⟩=some (.bool y.back)∧W.cell? ⟨G,(q)*4+2,none⟩=some (.int .i64 (-1))∧W.cell? ⟨G,(q)*4+3,none⟩=some (.int .i64 y.x) ∧
     W.cell? ⟨G,(h)*4,none⟩=some (.int .i64 x.a)∧W.cell? ⟨G,(h)*4+1,none⟩=some (.bool x.back)∧W.cell? ⟨G,(h)*4+2,none⟩=some (.int .i64 (-1))∧W.cell? ⟨G,(h)*4+3,none⟩=some (.int .i64 x.x)∧InS w base G c N Mc W)
     ((refine HKC.out _ ?_;(repeat (first | assumption | refine InS.drew ?_))))
     ((go_at_call 91;refine (HCM.out _ (by (repeat (first | assumption | refine InS.drew ?_)))).mono ?_;rintro e w5 ⟨rfl,hN5⟩))
    have HN5:=lh hN5
    clear a0 a1 a2 a3 b0 b1 b2 b3 hN hN5 HCM HKC hpN hqN
    clear G1 G2
    by_cases hc:y.x<x.x
    ·have hd2:decide (y.x-x.x<0)=true:=decide_eq_true (by omega)
     have hd3:y.x-x.x<0:=by omega
     have hd5:(!decide (y.x-x.x<0))=false:=by rw [hd2];rfl
     have HCC:=lh hc
     clear hc
     go_wp2_with (fail)
     all_goals (try (rename_i hbb;rw [hd5] at hbb;cases hbb))
     go_roundw
     case rel=>exact⟨i,h,rfl,by go_num,hi1,hh1.1,by omega,HL1.out,.inr ⟨x,y,HX.out,by rw [HQ.out];exact HY.out,HCC.out⟩,HN5.out⟩
     case measure=>simp [intOf];omega
    ·have hd2:decide (y.x-x.x<0)=false:=decide_eq_false (by omega)
     have hd3:¬ y.x-x.x<0:=by omega
     have hd5:(!decide (y.x-x.x<0))=true:=by rw [hd2];rfl
     have HCC:=lh (show x.x≤y.x by omega)
     have hwh:IntKind.i64.wrap ((h:Int)+1)=((h+1:Nat):Int):=by rw [IntKind.wrap_i64];omega
     clear hc
     go_wp2_with (fail)
     all_goals (try (rename_i hbb;rw [hd5] at hbb;cases hbb))
     go_roundw
     case rel=>exact⟨h+1,j,by go_num,rfl,by omega,by omega,hjr,.inr ⟨x,y,by rw [show h+1-1-a=h-a by omega];exact HX.out,by rw [show nn-(h+1)-m=q-m by omega];exact HY.out,HCC.out⟩,HL2.out,HN5.out⟩
     case measure=>simp [intOf];omega
   ·as_aux_lemma =>
    obtain rfl:i=j:=by omega
    obtain⟨sa,hsa⟩:∃s,i=a+s:=⟨i-a,by omega⟩
    obtain⟨eb,heb⟩:∃x,mid=i+x:=⟨mid-i,by omega⟩
    obtain⟨e,he⟩:∃e,m+eb=e:=⟨_,rfl⟩
    have hnn3:nn=mid+m:=by omega
    obtain⟨A1,A2,B1,B2,hAA,hBB,lA1,lA2,lB1,lB2,sA1,sA2,sB1,sB2,hpar⟩:=sym_split A B HAS.out HBS.out u v a m b mid nn p s0 r0 i sa eb HU.out HV.out (by omega) (by omega) hnn3 (by omega) q1 q4 q3 q5 hi1 hjr HS2.out hsa heb HL1.out HL2.out
    have hLN:=HLN.out
    have hxx:=HXX.out
    have hih:=HIH.out
    rw [hAA,hBB] at hLN hxx
    rw [HU.out,HV.out] at hih
    obtain⟨hrot,hi1',hi2'⟩:=sym_calls G c N base w P A1 A2 B1 B2 R a i m mid e b (u+v) HA.out (by omega) (by omega) (by omega) (by omega) (by omega) (by omega) (by omega) (by omega) (by omega) hN hLN sA1 sA2 sB1 sB2 hxx hih
    have HROT:=lh hrot
    have HI1:=lh hi1'
    have HI2:=lh hi2'
    have HPE:Hid (P++mg A B++R=P++mg A1 B1++mg A2 B2++R):=lh (by rw [hpar,←List.append_assoc])
    have HSA1:=lh sA1
    have HSA2:=lh sA2
    have HSc:Hid (InS w base G c N (P++A1++A2++(B1++B2++R)) wr):=lh (by have h:=HS1.out;rw [←HMC.out,hAA,hBB] at h;simpa using h)
    have hwe:IntKind.i64.wrap ((nn:Int)-(i:Int))=(e:Int):=by rw [IntKind.wrap_i64];omega
    have hltI:¬ (i:Int)<(i:Int):=by omega
    have z1:a+A1.length≤i:=by omega
    have z2:i≤a+A1.length:=by omega
    have z3:i+A2.length≤m:=by omega
    have z4:m≤i+A2.length:=by omega
    have z5:i+B1.length≤mid:=by omega
    have z6:mid≤i+B1.length:=by omega
    have z7:m+B1.length≤e:=by omega
    have z8:e≤m+B1.length:=by omega
    have z9:e+B2.length≤b:=by omega
    have z10:b≤e+B2.length:=by omega
    clear hrot hi1' hi2' hpar sA1 sA2 sB1 sB2 hAA hBB hLN HS1 HL1 HL2 HAS HBS HXM HXX hML HIH hxx hih hsa heb he hnn3 lA1 lA2 lB1 lB2
    obtain⟨b1,hb1⟩:∃q,(decide (i<m)&&decide (m<e))=q:=⟨_,rfl⟩
    have Hb1:=lh hb1
    clear hb1
    go_upto_region 39 with (fail)
    go_cut [185] (fun v wx=>v=.bool b1∧wx=wr)
    case first=>as_aux_lemma =>
     by_cases g1:i<m
     ·have g1d:decide (((i:Nat):Int)<((m:Nat):Int))=true:=decide_eq_true (by omega)
      have G1:=lh (decide_eq_true g1)
      have g1n:decide (i<m)=true:=decide_eq_true g1
      have g1c:((i:Nat):Int)<((m:Nat):Int):=by omega
      by_cases g2:m<e
      ·have g2d:decide (((m:Nat):Int)<((e:Nat):Int))=true:=decide_eq_true (by omega)
       have G2:=lh (decide_eq_true g2)
       have g2n:decide (m<e)=true:=decide_eq_true g2
       have g2c:((m:Nat):Int)<((e:Nat):Int):=by omega
       go_wp2_with (fail)
       go_meet
       case rel=>exact⟨by rw [←Hb1.out,G1.out,G2.out];rfl,rfl⟩
      ·have g2d:decide (((m:Nat):Int)<((e:Nat):Int))=false:=decide_eq_false (by omega)
       have G2:=lh (decide_eq_false g2)
       have g2n:decide (m<e)=false:=decide_eq_false g2
       have g2c:¬ ((m:Nat):Int)<((e:Nat):Int):=by omega
       go_wp2_with (fail)
       go_meet
       case rel=>exact⟨by rw [←Hb1.out,G2.out,Bool.and_false],rfl⟩
     ·have g1d:decide (((i:Nat):Int)<((m:Nat):Int))=false:=decide_eq_false (by omega)
      have G1:=lh (decide_eq_false g1)
      have g1n:decide (i<m)=false:=decide_eq_false g1
      have g1c:¬ ((i:Nat):Int)<((m:Nat):Int):=by omega
      go_wp2_with (fail)
      go_meet
      case rel=>exact⟨by rw [←Hb1.out,G1.out];rfl,rfl⟩
    case rest =>
     obtain⟨hv,hw⟩:=hcut
     subst hv
     subst hw
     go_upto_if 185 with (fail)
     go_cut [] (fun wx=>InS w base G c N (P++A1++B1++(A2++B2++R)) wx)
     case first=>as_aux_lemma =>
      cases b1 with
      | true =>
        have hbb:=Hb1.out
        simp only [Bool.and_eq_true,decide_eq_true_eq] at hbb
        obtain⟨j1,j2⟩:=hbb
        go_wp2_with (go_at_call 209;refine (HROT.out j1 j2 _ HSc.out).mono ?_;rintro e9 w9 ⟨rfl,hw9⟩)
        go_meet
        case rel=>exact hw9
      | false =>
        have hbb:=Hb1.out
        simp only [Bool.and_eq_false_iff,decide_eq_false_iff_not] at hbb
        go_wp2_with (fail)
        go_meet
        case rel =>
         rcases hbb with hbb | hbb
         ·have e0:A2=[]:=List.length_eq_zero_iff.1 (by omega)
          have h:=HSc.out
          rw [e0] at h ⊢
          simpa using h
         ·have e0:B1=[]:=List.length_eq_zero_iff.1 (by omega)
          have h:=HSc.out
          rw [e0] at h ⊢
          simpa using h
     case rest =>
      have Hb1S:=lh hcut
      clear hcut
      obtain⟨b2,hb2⟩:∃q,(decide (a<i)&&decide (i<mid))=q:=⟨_,rfl⟩
      have Hb2:=lh hb2
      clear hb2
      go_upto_region 41 with (fail)
      go_cut [199] (fun v wx=>v=.bool b2∧wx=wc)
      case first=>as_aux_lemma =>
       by_cases g1:a<i
       ·have g1d:decide (((a:Nat):Int)<((i:Nat):Int))=true:=decide_eq_true (by omega)
        have G1:=lh (decide_eq_true g1)
        have g1n:decide (a<i)=true:=decide_eq_true g1
        have g1c:((a:Nat):Int)<((i:Nat):Int):=by omega
        by_cases g2:i<mid
        ·have g2d:decide (((i:Nat):Int)<((mid:Nat):Int))=true:=decide_eq_true (by omega)
         have G2:=lh (decide_eq_true g2)
         have g2n:decide (i<mid)=true:=decide_eq_true g2
         have g2c:((i:Nat):Int)<((mid:Nat):Int):=by omega
         go_wp2_with (fail)
         go_meet
         case rel=>exact⟨by rw [←Hb2.out,G1.out,G2.out];rfl,rfl⟩
        ·have g2d:decide (((i:Nat):Int)<((mid:Nat):Int))=false:=decide_eq_false (by omega)
         have G2:=lh (decide_eq_false g2)
         have g2n:decide (i<mid)=false:=decide_eq_false g2
         have g2c:¬ ((i:Nat):Int)<((mid:Nat):Int):=by omega
         go_wp2_with (fail)
         go_meet
         case rel=>exact⟨by rw [←Hb2.out,G2.out,Bool.and_false],rfl⟩
       ·have g1d:decide (((a:Nat):Int)<((i:Nat):Int))=false:=decide_eq_false (by omega)
        have G1:=lh (decide_eq_false g1)
        have g1n:decide (a<i)=false:=decide_eq_false g1
        have g1c:¬ ((a:Nat):Int)<((i:Nat):Int):=by omega
        go_wp2_with (fail)
        go_meet
        case rel=>exact⟨by rw [←Hb2.out,G1.out];rfl,rfl⟩
      case rest =>
       obtain⟨hv,hw⟩:=hcut
       subst hv
       subst hw
       go_upto_if 199 with (fail)
       go_cut [] (fun wx=>InS w base G c N (P++mg A1 B1++(A2++B2++R)) wx)
       case first=>as_aux_lemma =>
        cases b2 with
        | true =>
          have hbb:=Hb2.out
          simp only [Bool.and_eq_true,decide_eq_true_eq] at hbb
          obtain⟨j1,j2⟩:=hbb
          go_wp2_with (go_at_call 176;refine (HI1.out j1 j2 _ Hb1S.out).mono ?_;rintro e9 w9 ⟨rfl,hw9⟩)
          go_meet
          case rel=>exact hw9
        | false =>
          have hbb:=Hb2.out
          simp only [Bool.and_eq_false_iff,decide_eq_false_iff_not] at hbb
          go_wp2_with (fail)
          go_meet
          case rel =>
           rcases hbb with hbb | hbb
           ·have e0:A1=[]:=List.length_eq_zero_iff.1 (by omega)
            have h:=Hb1S.out
            rw [e0] at h ⊢
            simpa [mg] using h
           ·have e0:B1=[]:=List.length_eq_zero_iff.1 (by omega)
            have h:=Hb1S.out
            rw [e0] at h ⊢
            rw [mg_nil A1 HSA1.out]
            simpa using h
       case rest =>
        have Hb2S:=lh hcut
        clear hcut
        obtain⟨b3,hb3⟩:∃q,(decide (mid<e)&&decide (e<b))=q:=⟨_,rfl⟩
        have Hb3:=lh hb3
        clear hb3
        go_upto_region 43 with (fail)
        go_cut [213] (fun v wx=>v=.bool b3∧wx=wc)
        case first=>as_aux_lemma =>
         by_cases g1:mid<e
         ·have g1d:decide (((mid:Nat):Int)<((e:Nat):Int))=true:=decide_eq_true (by omega)
          have G1:=lh (decide_eq_true g1)
          have g1n:decide (mid<e)=true:=decide_eq_true g1
          have g1c:((mid:Nat):Int)<((e:Nat):Int):=by omega
          by_cases g2:e<b
          ·have g2d:decide (((e:Nat):Int)<((b:Nat):Int))=true:=decide_eq_true (by omega)
           have G2:=lh (decide_eq_true g2)
           have g2n:decide (e<b)=true:=decide_eq_true g2
           have g2c:((e:Nat):Int)<((b:Nat):Int):=by omega
           go_wp2_with (fail)
           go_meet
           case rel=>exact⟨by rw [←Hb3.out,G1.out,G2.out];rfl,rfl⟩
          ·have g2d:decide (((e:Nat):Int)<((b:Nat):Int))=false:=decide_eq_false (by omega)
           have G2:=lh (decide_eq_false g2)
           have g2n:decide (e<b)=false:=decide_eq_false g2
           have g2c:¬ ((e:Nat):Int)<((b:Nat):Int):=by omega
           go_wp2_with (fail)
           go_meet
           case rel=>exact⟨by rw [←Hb3.out,G2.out,Bool.and_false],rfl⟩
         ·have g1d:decide (((mid:Nat):Int)<((e:Nat):Int))=false:=decide_eq_false (by omega)
          have G1:=lh (decide_eq_false g1)
          have g1n:decide (mid<e)=false:=decide_eq_false g1
          have g1c:¬ ((mid:Nat):Int)<((e:Nat):Int):=by omega
          go_wp2_with (fail)
          go_meet
          case rel=>exact⟨by rw [←Hb3.out,G1.out];rfl,rfl⟩
        case rest =>
         obtain⟨hv,hw⟩:=hcut
         subst hv
         subst hw
         go_upto_if 213 with (fail)
         cases b3 with
         | true =>
           have hbb:=Hb3.out
           simp only [Bool.and_eq_true,decide_eq_true_eq] at hbb
           obtain⟨j1,j2⟩:=hbb
           go_wp2_with (go_at_call 176;refine (HI2.out j1 j2 _ Hb2S.out).mono ?_;rintro e9 w9 ⟨rfl,hw9⟩)
           go_end0
           exact⟨rfl,by rw [HPE.out];exact hw9⟩
         | false =>
           have hbb:=Hb3.out
           simp only [Bool.and_eq_false_iff,decide_eq_false_iff_not] at hbb
           go_wp2_with (fail)
           go_end0
           refine⟨rfl,?_⟩
           rw [←List.append_assoc,HPE.out]
           rcases hbb with hbb | hbb
           ·have e0:A2=[]:=List.length_eq_zero_iff.1 (by omega)
            have h:=Hb2S.out
            rw [e0] at h ⊢
            simpa [mg] using h
           ·have e0:B2=[]:=List.length_eq_zero_iff.1 (by omega)
            have h:=Hb2S.out
            rw [e0] at h ⊢
            rw [mg_nil A2 HSA2.out]
            simpa using h
end
section
open Go.RowKit Go.Proofs Go.Shelf
attribute [local go_sem] Oper.semAt_some
theorem sym_any (G c N base:Nat) (w:World) (hN:N≤8388608):∀(k:Nat) (P A B R:List St) (a m b:Nat),P.length=a→a+A.length=m→m+B.length=b→1≤A.length→1≤B.length→A.length+B.length<k→(P++A++B++R).length=N→SrtL A→SrtL B→smallX (P++A++B++R) →
 ∀W,InS w base G c N (P++A++B++R) W→Calls Tryz.prog 176 #[.slice (some ⟨G,0,none⟩) N c,.int .i64 a,.int .i64 m,.int .i64 b,.func (.func 91) #[] #[]] W fun e w'=>e=.returned (.tuple #[])∧InS w base G c N (P++mg A B++R) w':=by
 intro k
 induction k with
 | zero=>intro P A B R a m b _ _ _ _ _ h;omega
 | succ k IH =>
   intro P A B R a m b ha hm hb hA1 hB1 hk hl hA hB hx W hS
   by_cases h1:A.length=1
   ·obtain⟨x,rfl⟩:=List.length_eq_one_iff.1 h1
    have e:P++[x]++B++R=P++x::(B++R):=by simp
    rw [e] at hl hx hS
    exact symA_any G c N base w P B R x a m b ha (by rw [←hm];rfl) hb hl hN hB hx W hS
   ·by_cases h2:B.length=1
    ·obtain⟨y,rfl⟩:=List.length_eq_one_iff.1 h2
     have e:P++A++[y]++R=P++A++y::R:=by simp
     rw [e] at hl hx hS
     exact symB_any G c N base w P A R y a m b ha hm (by omega) (by rw [←hb];rfl) hl hN hA hx W hS
    ·exact symG_any G c N base w P A B R a m b ha hm hb (by omega) (by omega) hl hN hA hB hx (fun P' A' B' R' a' m' b' g1 g2 g3 g4 g5 g6 g7 g8 g9 g10 W' g11=>IH P' A' B' R' a' m' b' g1 g2 g3 g4 g5 (by omega) g7 g8 g9 g10 W' g11) W hS
inductive BlkS (k:Nat):List St→List St→Prop
 | last (L:List St):L.length≤k→BlkS k L (isrt L)
 | cons (A L M:List St):A.length=k→BlkS k L M→BlkS k (A++L) (isrt A++M)
theorem BlkS.len {k:Nat} {L M:List St} (h:BlkS k L M):M.length=L.length:=by
 induction h with
 | last L _=>exact isrt_len L
 | cons A L M _ _ ih=>rw [List.length_append,List.length_append,isrt_len,ih]
theorem BlkS.short {k:Nat} (hk:1≤k) {L M:List St} (h:BlkS k L M) (hl:L.length≤k):M=isrt L:=by
 cases h with
 | last _ _=>rfl
 | cons A L M hA hM =>
   rw [List.length_append] at hl
   have e:L=[]:=List.length_eq_zero_iff.1 (by omega)
   have e2:M=[]:=List.length_eq_zero_iff.1 (by rw [hM.len,e];rfl)
   rw [e,e2,List.append_nil,List.append_nil]
theorem BlkS.long {k:Nat} {L M:List St} (h:BlkS k L M) (hl:k<L.length):∃A L2 M2,L=A++L2∧A.length=k∧M=isrt A++M2∧BlkS k L2 M2:=by
 cases h with
 | last _ h=>omega
 | cons A L M hA hM=>exact⟨A,L,M,rfl,hA,rfl,hM⟩
theorem BlkS.two {k:Nat} (hk:1≤k) {L M:List St} (h:BlkS k L M) (hl:k+k≤L.length):∃A B L2 M2,L=A++B++L2∧A.length=k∧B.length=k∧M=isrt A++isrt B++M2∧BlkS k L2 M2:=by
 obtain⟨A,L1,M1,rfl,hA,rfl,h1⟩:=h.long (by omega)
 rw [List.length_append] at hl
 by_cases hc:k<L1.length
 ·obtain⟨B,L2,M2,rfl,hB,rfl,h2⟩:=h1.long hc
  exact⟨A,B,L2,M2,by simp,hA,hB,by simp,h2⟩
 ·have e:=h1.short hk (by omega)
  exact⟨A,L1,[],[],by simp,hA,by omega,by rw [e];simp,.last [] (by simp)⟩
theorem small_perm {P A B R:List St} (h:smallX (P++A++R)) (hm:∀z,z∈B→z∈A):smallX (P++B++R):=fun z hz=>h z (by
 simp only [List.mem_append] at hz ⊢
 rcases hz with (hz | hz) | hz
 ·exact .inl (.inl hz)
 ·exact .inl (.inr (hm z hz))
 ·exact .inr hz)
theorem small_isrt {P A R:List St} (h:smallX (P++A++R)):smallX (P++isrt A++R):=small_perm h fun z hz=>(isrt_mem A z).1 hz
theorem small_isrt2 {P A B R:List St} (h:smallX (P++isrt A++isrt B++R)):smallX (P++isrt (A++B)++R):=by
 have h':smallX (P++(isrt A++isrt B)++R):=by simpa using h
 refine small_perm h' fun z hz=>?_
 have:=(isrt_mem (A++B) z).1 hz
 simp only [List.mem_append,isrt_mem] at this ⊢
 exact this
set_option maxRecDepth 100000 in
set_option maxHeartbeats 4000000 in
theorem stableL_any (G c n base:Nat) (l:List St) (hl:l.length=n) (hn:n≤8388608) (hx:smallX l) (w:World) (hO:OwnS stE 91 w base (.slice (some ⟨G,0,none⟩) n c) l) (hb:base≤w.heap.size) :
 Calls Tryz.prog 133 #[.slice (some ⟨G,0,none⟩) n c,.int .i64 n,.func (.func 91) #[] #[]] w fun e w'=>e=.returned (.tuple #[]) ∧
  OwnS stE 91 w' base (.slice (some ⟨G,0,none⟩) n c) (isrt l)∧Below base w w':=by
 have HS0:Hid (InS w base G c n l w):=lh ⟨hO,Below.refl _ _,hb⟩
 have HL:=lh hl
 have HX:=lh hx
 clear hO hx hl hb
 go_enter Tryz.func133,Tryz.ntmps133
 go_wp2_with (fail)
 go_loopw [7,8] (fun u7 u8 wx=>∃(a b:Nat) (D T:List St),u7=.int .i64 a∧u8=.int .i64 b∧a+20≤b∧b≤a+20∧D.length=a∧a+T.length=n∧smallX (D++T)∧(∀Z,BlkS 20 T Z→BlkS 20 l (D++Z))∧InS w base G c n (D++T) wx) (fun _ u8 _=>n+20-(intOf u8).toNat)
 case atStart=>exact⟨0,20,[],l,rfl,rfl,by omega,by omega,rfl,by rw [HL.out];omega,HX.out,fun Z h=>h,HS0.out⟩
 case round =>
  obtain⟨a,b,D,T,rfl,rfl,hab1,hab2,hD,hT,hsx,hblk,hS⟩:=hrel
  have HS:=lh hS
  have HSX:=lh hsx
  have HBK:=lh hblk
  clear hS hsx hblk HS0
  by_cases hc:b≤n
  ·as_aux_lemma =>
   have hcI:(b:Int)≤(n:Int):=by omega
   have hwb:IntKind.i64.wrap ((b:Int)+20)=((b+20:Nat):Int):=by rw [IntKind.wrap_i64];omega
   obtain⟨A,hA⟩:∃A,T.take 20=A:=⟨_,rfl⟩
   obtain⟨T2,hT2⟩:∃A,T.drop 20=A:=⟨_,rfl⟩
   have hAT:T=A++T2:=by rw [←hA,←hT2,List.take_append_drop]
   have hAl:A.length=20:=by rw [←hA,List.length_take];omega
   subst hAT
   rw [List.length_append] at hT
   clear hA hT2
   have HSa:Hid (InS w base G c n (D++A++T2) wr):=lh (by simpa using HS.out)
   have HSXa:Hid (smallX (D++A++T2)):=lh (by simpa using HSX.out)
   have HI:=lh (insP_any G c n base w D A T2 a b hD (by omega) (by simp only [List.length_append];omega) hn HSXa.out wr HSa.out)
   clear HS
   go_wp2_with (go_at_call 175;refine HI.out.mono ?_;rintro e w5 ⟨rfl,hS5⟩;have HS5:=lh hS5;clear hS5 HI)
   go_roundw
   case rel=>exact⟨b,b+20,D++isrt A,T2,rfl,by go_num,by omega,by omega,by rw [List.length_append,isrt_len];omega,by omega,small_isrt HSXa.out,fun Z hZ=>by rw [List.append_assoc];exact HBK.out _ (.cons A T2 Z hAl hZ),HS5.out⟩
   case measure=>simp [intOf];omega
  ·have hcI:¬ (b:Int)≤(n:Int):=by omega
   have hcI2:(n:Int)<(b:Int):=by omega
   have HSa:Hid (InS w base G c n (D++T++[]) wr):=lh (by rw [List.append_nil];exact HS.out)
   have HSXa:Hid (smallX (D++T++[])):=lh (by rw [List.append_nil];exact HSX.out)
   have HI:=lh (insP_any G c n base w D T [] a n hD hT (by simp only [List.length_append,List.length_nil];omega) hn HSXa.out wr HSa.out)
   have HB0:Hid (BlkS 20 l (D++isrt T)):=lh (HBK.out _ (.last T (by omega)))
   have HSX0:Hid (smallX (D++isrt T)):=lh (by have:=small_isrt HSXa.out;rw [List.append_nil] at this;exact this)
   clear HS HSa HSXa HSX HBK
   go_wp2_with (go_at_call 175;refine HI.out.mono ?_;rintro e w5 ⟨rfl,hS5⟩;have HS5:=lh hS5;clear hS5 HI)
   have HS6:Hid (InS w base G c n (D++isrt T) w5):=lh (by have:=HS5.out;rw [List.append_nil] at this;exact this)
   clear HS5
   go_loopw [6,7,8,9] (fun u6 _ _ _ wx=>∃(k:Nat) (M:List St),u6=.int .i64 k∧20≤k∧k≤16777216∧smallX M∧BlkS k l M∧InS w base G c n M wx) (fun u6 _ _ _ _=>n-(intOf u6).toNat)
   case atStart=>exact⟨20,_,rfl,by omega,by omega,HSX0.out,HB0.out,HS6.out⟩
   case round =>
    obtain⟨k,M,rfl,hk1,hk2,hsx,hblk,hS⟩:=hrel
    have HS:=lh hS
    have HSX:=lh hsx
    have HBK:=lh hblk
    have hMl:M.length=n:=by rw [hblk.len,HL.out]
    clear hS hsx hblk HB0 HSX0 HS6 hD hT hab1 hab2 hc hcI hcI2
    by_cases hkn:k<n
    ·as_aux_lemma =>
     have hkI:(k:Int)<(n:Int):=by omega
     have hwk:IntKind.i64.wrap (2*(k:Int))=((2*k:Nat):Int):=by rw [IntKind.wrap_i64];omega
     have hwk2:IntKind.i64.wrap ((k:Int)*2)=((2*k:Nat):Int):=by rw [IntKind.wrap_i64];omega
     go_wp2_with (fail)
     go_loopw [7,8] (fun u7 u8 wx=>∃(a b:Nat) (D T T0:List St),u7=.int .i64 a∧u8=.int .i64 b∧a+2*k≤b∧b≤a+2*k∧a≤n∧D.length=a∧a+T.length=n∧a+T0.length=n∧smallX (D++T)∧BlkS k T0 T∧(∀Z,BlkS (2*k) T0 Z→BlkS (2*k) l (D++Z))∧InS w base G c n (D++T) wx) (fun _ u8 _=>n+2*k-(intOf u8).toNat)
     case atStart=>exact⟨0,2*k,[],M,l,rfl,by go_num,by omega,by omega,by omega,rfl,by omega,by rw [HL.out];omega,HSX.out,HBK.out,fun Z h=>h,HS.out⟩
     case round =>
      obtain⟨a,b,D,T,T0,rfl,rfl,hab1,hab2,han,hD,hT,hT0,hsx,hblk,hcon,hS⟩:=hrel
      have HS1:=lh hS
      have HSX1:=lh hsx
      have HBK1:=lh hblk
      have HCO:=lh hcon
      clear hS hsx hblk hcon HS HSX HBK
      have hwm:IntKind.i64.wrap ((a:Int)+(k:Int))=((a+k:Nat):Int):=by rw [IntKind.wrap_i64];omega
      by_cases hc:b≤n
      ·as_aux_lemma =>
       have hcI:(b:Int)≤(n:Int):=by omega
       have hwb:IntKind.i64.wrap ((b:Int)+((2*k:Nat):Int))=((b+2*k:Nat):Int):=by rw [IntKind.wrap_i64];omega
       have hwb':IntKind.i64.wrap ((b:Int)+2*(k:Int))=((b+2*k:Nat):Int):=by rw [IntKind.wrap_i64];omega
       obtain⟨A,B,L2,M2,rfl,hA,hB,rfl,h2⟩:=HBK1.out.two (by omega) (by omega)
       simp only [List.length_append,isrt_len] at hT hT0
       have hML2:=h2.len
       have HB2:=lh h2
       have HSa:Hid (InS w base G c n (D++isrt A++isrt B++M2) wr):=lh (by simpa using HS1.out)
       have HSXa:Hid (smallX (D++isrt A++isrt B++M2)):=lh (by simpa using HSX1.out)
       have HI:=lh (sym_any G c n base w hn (A.length+B.length+1) D (isrt A) (isrt B) M2 a (a+k) b hD (by rw [isrt_len,hA]) (by rw [isrt_len];omega) (by rw [isrt_len];omega) (by rw [isrt_len];omega) (by rw [isrt_len,isrt_len];omega) (by simp only [List.length_append,isrt_len];omega) (isrt_srt A) (isrt_srt B) HSXa.out wr HSa.out)
       clear HS1 HBK1 HSX1 h2 HSa
       go_wp2_with (go_at_call 176;refine HI.out.mono ?_;rintro e w5 ⟨rfl,hS5⟩;have HS5:=lh hS5;clear hS5 HI)
       go_roundw
       case rel=>exact⟨b,b+2*k,D++isrt (A++B),M2,L2,rfl,by go_num,by omega,by omega,hc,by rw [List.length_append,isrt_len,List.length_append];omega,by omega,by omega,small_isrt2 HSXa.out,HB2.out,fun Z hZ=>by rw [List.append_assoc];exact HCO.out _ (.cons (A++B) L2 Z (by rw [List.length_append];omega) hZ),by rw [←isrt_mg];exact HS5.out⟩
       case measure=>simp [intOf];omega
      ·have hcI:¬ (b:Int)≤(n:Int):=by omega
       have hcI2:(n:Int)<(b:Int):=by omega
       by_cases hm:a+k<n
       ·as_aux_lemma =>
        have hmI:((a+k:Nat):Int)<(n:Int):=by omega
        obtain⟨A,L2,M2,rfl,hA,rfl,h2⟩:=HBK1.out.long (by omega)
        simp only [List.length_append,isrt_len] at hT hT0
        have hM2:=h2.short (by omega) (by omega)
        subst hM2
        rw [isrt_len] at hT
        have HSa:Hid (InS w base G c n (D++isrt A++isrt L2++[]) wr):=lh (by simpa using HS1.out)
        have HSXa:Hid (smallX (D++isrt A++isrt L2++[])):=lh (by simpa using HSX1.out)
        have HI:=lh (sym_any G c n base w hn (A.length+L2.length+1) D (isrt A) (isrt L2) [] a (a+k) n hD (by rw [isrt_len,hA]) (by rw [isrt_len];omega) (by rw [isrt_len];omega) (by rw [isrt_len];omega) (by rw [isrt_len,isrt_len];omega) (by simp only [List.length_append,isrt_len,List.length_nil];omega) (isrt_srt A) (isrt_srt L2) HSXa.out wr HSa.out)
        have HBE:Hid (BlkS (2*k) l (D++isrt (A++L2))):=lh (HCO.out _ (.last (A++L2) (by rw [List.length_append];omega)))
        have HSE:Hid (smallX (D++isrt (A++L2))):=lh (by have:=small_isrt2 HSXa.out;rw [List.append_nil] at this;exact this)
        clear HS1 HBK1 HSX1 h2 HSa HCO HSXa
        go_wp2_with (go_at_call 176;refine HI.out.mono ?_;rintro e w5 ⟨rfl,hS5⟩;have HS5:=lh hS5;clear hS5 HI)
        go_roundw
        case rel=>exact⟨2*k,_,by go_num,by omega,by omega,HSE.out,HBE.out,by have h:=HS5.out;rw [isrt_mg,List.append_nil] at h;exact h⟩
        case measure=>simp [intOf];omega
       ·as_aux_lemma =>
        have hmI:¬ ((a+k:Nat):Int)<(n:Int):=by omega
        have hmI2:(n:Int)≤((a+k:Nat):Int):=by omega
        have hM2:=HBK1.out.short (by omega) (by omega)
        have HBE:Hid (BlkS (2*k) l (D++T)):=lh (by rw [hM2];exact HCO.out _ (.last T0 (by omega)))
        clear HBK1 HCO hM2
        go_wp2_with (fail)
        go_roundw
        case rel=>exact⟨2*k,_,by go_num,by omega,by omega,HSX1.out,HBE.out,HS1.out⟩
        case measure=>simp [intOf];omega
    ·have hkI:¬ (k:Int)<(n:Int):=by omega
     have hkI2:(n:Int)≤(k:Int):=by omega
     have hM:=HBK.out.short (by omega) (by rw [HL.out];omega)
     have HM:=lh hM
     clear hM
     go_wp2_with (fail)
     go_end0
     exact⟨rfl,by rw [←HM.out];exact HS.out.own,HS.out.bel⟩
set_option maxHeartbeats 1000000 in
theorem sortStableL_any (G c n base:Nat) (l:List St) (hl:l.length=n) (hn:n≤8388608) (hx:smallX l) (w:World) (hO:OwnS stE 91 w base (.slice (some ⟨G,0,none⟩) n c) l) (hb:base≤w.heap.size) :
 Calls Tryz.prog 90 #[.slice (some ⟨G,0,none⟩) n c,.func (.func 91) #[] #[]] w fun e w'=>e=.returned (.tuple #[]) ∧
  OwnS stE 91 w' base (.slice (some ⟨G,0,none⟩) n c) (sortJ (n-1) 1 l)∧Below base w w':=by
 have HI:=lh (stableL_any G c n base l hl hn hx w hO hb)
 have HE:Hid (sortJ (n-1) 1 l=isrt l):=lh (by rw [←hl];exact sortJ_isrt l)
 clear hO hx hl
 go_enter Tryz.func90,Tryz.ntmps90
 go_wp2_with (go_at_call 133;refine HI.out.mono ?_;rintro e w5 ⟨rfl,hO5,hb5⟩)
 go_end0
 exact⟨rfl,by rw [HE.out];exact hO5,hb5⟩
end
end Go.Proofs.YtlmjbfncopbilaaGreatDoor
