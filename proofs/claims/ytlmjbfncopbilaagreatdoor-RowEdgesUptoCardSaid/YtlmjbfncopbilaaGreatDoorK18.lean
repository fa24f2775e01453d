/- Part 18 (merged by a program): lemmas of no further condition than each states. -/
import Derived.Shelf.GgSortFunc.Tiny
import Derived.Laws.BitsAllLaws
import Derived.Test.YtlmjbfncopbilaaGreatDoorK06
import Derived.Test.YtlmjbfncopbilaaGreatDoorK17
namespace Go.Proofs.YtlmjbfncopbilaaGreatDoor
set_option linter.unusedVariables false
set_option linter.unusedSimpArgs false
section
open Go.RowKit
theorem getD_le {ls:List Nat} (h:∀l∈ls,l≤125) (i:Nat):ls.getD i 0≤125:=by
 rw [List.getD_eq_getElem?_getD]
 cases hx:ls[i]? with
 | none=>simp
 | some x=>exact h x (List.mem_of_getElem? hx)
theorem aheadL_le (ds:List Int) (ls:List Nat) (base:Nat) (hb:base≤125) (h:∀l∈ls,l≤125):∀i,aheadL ds ls base i≤125
 | 0=>hb
 | i+1=>by
   rw [aheadL]
   split
   ·exact hb
   ·split
    ·exact aheadL_le ds ls base hb h i
    ·exact getD_le h i
theorem behindL_le (ds:List Int) (ls:List Nat) (base:Nat) (hb:base≤125) (h:∀l∈ls,l≤125):∀m i,behindL ds ls base m i≤125
 | 0,_=>hb
 | m+1,i=>by
   rw [behindL]
   split
   ·exact behindL_le ds ls base hb h m (i+1)
   ·exact getD_le h i
theorem bits_one (v:Nat) (h:v≤125):bits .and .u8 (v:Int) 1=((v % 2:Nat):Int):=by
 have:∀k:Fin 126,bits .and .u8 ((k:Nat):Int) 1=(((k:Nat) % 2:Nat):Int):=by decide
 exact this ⟨v,by omega⟩
def behindG (ds:List Int) (ls:List Nat) (base b n:Nat):Nat :=
 if (opensB (lkn (ith ds b))=false∨0≤ith (pairsI ds) b)∧lkn (ith ds b)≠10 then behindL ds ls base (n-(b+1)) (b+1) else base
theorem sidesI_at (ds:List Int) (ls run:List Nat) (base n:Nat) (hl:ds.length=n) (hll:ls.length=n) (hp:run≠[]) (hall:∀p∈run,p<n) :
 sidesI ds ls base run=(((max (ls.getD (run.getD 0 0) 0) (aheadL ds ls base (run.getD 0 0)) % 2:Nat):Int),((max (ls.getD (run.getLastD 0) 0) (behindG ds ls base (run.getLastD 0) n) % 2:Nat):Int)):=by
 unfold sidesI behindG
 have e:min ds.length ls.length=n:=by omega
 have e2:ds.take n=ds:=by rw [←hl];exact List.take_length
 have e3:run.filter (fun p=>decide (p<n))=run:=List.filter_eq_self.2 fun p hp=>by simpa using hall p hp
 simp only [e,e2,e3,if_neg hp]
set_option maxRecDepth 100000 in
set_option maxHeartbeats 1000000 in
theorem LSides_any (a la ra:Option Addr) (ds:List Int) (ls run:List Nat) (n cap lc rc L base:Nat) (w:World) (hl:ds.length=n) (hll:ls.length=n) (hrl:run.length=L)
 (hd:Rd .i8 w a ds) (hls:Rd .u8 w la (ints ls)) (hr:Rd .i64 w ra (ints run)) (hp:0<L) (hn:n≤2097152) (hLn:L≤2097152) (hnc:n≤cap) (hcm:cap≤9223372036854775807)
 (hall:∀p∈run,p<n) (hb:base≤125) (hlv:∀l∈ls,l≤125) :
 Calls Tryz.prog 158 #[.slice a n cap,.slice la n lc,.int .u8 base,.slice ra L rc] w fun e w' =>
  e=.returned (.tuple #[.int .i8 (sidesI ds ls base run).1,.int .i8 (sidesI ds ls base run).2])∧Below w.heap.size w w':=by
 have hrne:run≠[]:=by intro e;rw [e] at hrl;simp at hrl;omega
 rw [sidesI_at ds ls run base n hl hll hrne hall]
 obtain⟨Lm,hLm⟩:∃Lm,L=Lm+1:=⟨L-1,by omega⟩
 obtain⟨a0,ha0⟩:∃a0,run.getD 0 0=a0:=⟨_,rfl⟩
 obtain⟨b0,hb0⟩:∃b0,run.getLastD 0=b0:=⟨_,rfl⟩
 have hb0':run.getD Lm 0=b0:=by
  rw [←hb0,List.getLastD_eq_getLast?,List.getLast?_eq_getElem?,hrl,hLm,Nat.add_sub_cancel,List.getD_eq_getElem?_getD]
 have ha0n:a0<n:=hall a0 (by rw [←ha0,List.getD_eq_getElem?_getD,List.getElem?_eq_getElem (by omega)];exact List.getElem_mem _)
 have hb0n:b0<n:=hall b0 (by rw [←hb0',List.getD_eq_getElem?_getD,List.getElem?_eq_getElem (by omega)];exact List.getElem_mem _)
 rw [ha0,hb0]
 obtain⟨A,hA⟩:∃A,aheadL ds ls base a0=A:=⟨_,rfl⟩
 obtain⟨Bh,hBh⟩:∃Bh,behindG ds ls base b0 n=Bh:=⟨_,rfl⟩
 have hA5:A≤125:=by rw [←hA];exact aheadL_le ds ls base hb hlv a0
 have hB5:Bh≤125:=by
  rw [←hBh];unfold behindG
  split
  ·exact behindL_le ds ls base hb hlv _ _
  ·exact hb
 have hx5:=getD_le hlv a0
 have hy5:=getD_le hlv b0
 rw [hA,hBh]
 obtain⟨xa,hxa'⟩:∃xa,ls.getD a0 0=xa:=⟨_,rfl⟩
 obtain⟨xb,hxb'⟩:∃xb,ls.getD b0 0=xb:=⟨_,rfl⟩
 rw [hxa'] at hx5 ⊢
 rw [hxb'] at hy5 ⊢
 obtain⟨m1,hm1⟩:∃m1,max xa A=m1:=⟨_,rfl⟩
 obtain⟨m2,hm2⟩:∃m2,max xb Bh=m2:=⟨_,rfl⟩
 rw [hm1,hm2]
 have hmx1:max (xa:Int) (A:Int)=(m1:Int):=by omega
 have hmx2:max (xb:Int) (Bh:Int)=(m2:Int):=by omega
 have hb1:=bits_one m1 (by omega)
 have hb2:=bits_one m2 (by omega)
 have hh1:((m1 % 2:Nat):Int)≤1:=by omega
 have hh2:((m2 % 2:Nat):Int)≤1:=by omega
 have hh3:0≤((m1 % 2:Nat):Int):=by omega
 have hh4:0≤((m2 % 2:Nat):Int):=by omega
 generalize ((m1 % 2:Nat):Int)=q1 at hb1 hh1 hh3 ⊢
 generalize ((m2 % 2:Nat):Int)=q2 at hb2 hh2 hh4 ⊢
 have HXA:=lh hxa'
 have HXB:=lh hxb'
 have HM1:=lh hmx1
 have HM2:=lh hmx2
 have HQ1:=lh hb1
 have HQ2:=lh hb2
 clear hxa' hxb' hm1 hm2 hmx1 hmx2 hb1 hb2
 obtain⟨B,o,hra,hBl,hr0⟩:=hr.at (Below.refl _ _) 0 (by rw [ints_len];omega)
 subst hra
 obtain⟨W0,hW0⟩:∃W0,W0=w.alloc (.cells #[.int .i64 n] 3):=⟨_,rfl⟩
 have hb00:Below w.heap.size w W0:=by rw [hW0];exact (Below.refl _ _).alloc (Nat.le_refl _) _
 have hz0:W0.heap.size=w.heap.size+1:=by rw [hW0,World.size_alloc]
 have hcB:W0.cell? ⟨w.heap.size,0,none⟩=some (.int .i64 n):=by rw [hW0];simp
 have hCL:=ClI_any B o L rc L run W0 hrl (hr.below hb00) hp hLn
 have HL:=lh hl
 have HLL:=lh hll
 have HRL:=lh hrl
 have HALL:=lh hall
 have HA:=lh hA
 have HBH:=lh hBh
 have HW0:=lh hW0
 have HA0:=lh ha0
 have HB0:=lh hb0'
 have HLM:=lh hLm
 have HCL:=lh hCL
 have HCB:=lh hcB
 have hL0:((L:Int)==0)=false:=by simp;omega
 clear hl hll hrl hall hA hBh hW0 ha0 hb0 hb0' hLm hCL hcB hrne hr0
 go_enter Tryz.func158,Tryz.ntmps158
 go_upto_region 2 with (fail)
 rw [←HW0.out]
 go_upto_region 5 with (first | (go_at_call 192;refine HCL.out.mono ?_;rintro e w1 ⟨a1,c1,rfl,hO1,hb1⟩) | (go_at_call 191;refine (DelF_any a1 run L c1 w.heap.size n w1 HRL.out hO1.rd ((hb1.cell (p:=⟨w.heap.size,0,none⟩) (by show w.heap.size<W0.heap.size;omega)).trans HCB.out) hLn HALL.out).mono ?_;rintro e w' ⟨rfl,hw'⟩;have hw2:=hw'.symm;clear hw';subst hw2))
 have hcB1:w1.cell? ⟨w.heap.size,0,none⟩=some (.int .i64 n):=(hb1.cell (p:=⟨w.heap.size,0,none⟩) (by show w.heap.size<W0.heap.size;omega)).trans HCB.out
 obtain⟨G1,hG1,_,hG1l,x0,_,hcc1,hcc2⟩:=hO1.at 0 (by rw [ints_len,HRL.out];exact hp)
 subst hG1
 obtain⟨G1',hG1',_,_,x1,_,_,_⟩:=hO1.at Lm (by rw [ints_len,HRL.out];have:=HLM.out;omega)
 cases hG1'
 rw [ith_ints,HA0.out] at x0
 rw [ith_ints,HB0.out] at x1
 rw [ints_len,HRL.out] at hcc1
 have hwr:IntKind.i64.wrap ((L:Int)-1)=(Lm:Int):=by have:=HLM.out;rw [IntKind.wrap_i64];omega
 have gL0:(0:Int)≤(Lm:Int):=by omega
 have gL1:(Lm:Int)<(L:Int):=by have:=HLM.out;omega
 have gL2:(0:Int)<(L:Int):=by omega
 have hbC1:Below w.heap.size w w1:=hb00.trans (hb1.mono (by omega))
 have hsz1:w.heap.size<w1.heap.size:=by have:=hb1.size;omega
 have HB1:=lh hbC1
 clear hbC1 hb00 hb1 hz0
 go_cut [12,13] (fun v12 v13 wx=>v12=.int .i64 (a0:Nat)∧v13=.int .i64 (b0:Nat)∧Below w1.heap.size w1 wx)
 case first =>
  clear hcB1
  go_quiet (fail)
  go_wp2_with (fail)
  go_meet
  exact⟨rfl,rfl,bl_drewN (Below.refl _ _) _⟩
 case rest =>
 obtain⟨rfl,rfl,hbw⟩:=hcut
 obtain⟨V,hV⟩:∃V,V=wc:=⟨_,rfl⟩
 subst hV
 have HBC:Hid (Below w.heap.size w V):=lh (HB1.out.trans (hbw.mono (by omega)))
 have hcC:V.cell? ⟨w.heap.size,0,none⟩=some (.int .i64 n):=(hbw.cell (p:=⟨w.heap.size,0,none⟩) hsz1).trans hcB1
 have hszC:w.heap.size<V.heap.size:=by have:=hbw.size;omega
 clear hbw hcB1 x0 x1 hwr hsz1 hO1 gL0 gL1 gL2
 go_upto_block 0 with (fail)
 go_cut [14] (fun v wx=>v=.int .u8 (A:Nat)∧wx=V)
 case first =>
  go_wp2_with (fail)
  go_loopw [14,16] (fun u14 u16 wx=>∃(k:Nat) (z:Int),u14=.int .u8 (base:Nat)∧u16=.int .i64 z∧z+1=k∧k≤a0∧aheadL ds ls base k=A∧wx=V) (fun _ c _=>(intOf c+1).toNat)
  case atStart=>exact⟨a0,(a0:Int)-1,rfl,by go_num,by omega,Nat.le_refl _,HA.out,rfl⟩
  case round =>
   obtain⟨k,z,rfl,rfl,hzk,hka,hF,hwx⟩:=hrel
   have hwx':=hwx.symm
   clear hwx
   subst hwx'
   cases k with
   | zero =>
     have hz:z = -1:=by omega
     subst hz
     rw [aheadL] at hF
     clear hzk
     go_wp2_with (fail)
     go_meet
     exact⟨by rw [hF],rfl⟩
   | succ k =>
     have hz:z=(k:Int):=by omega
     subst hz
     rw [aheadL] at hF
     clear hzk
     obtain⟨G,o,hGa,hGl,hGc⟩:=hd.at HBC.out k (by have:=HL.out;omega)
     subst hGa
     obtain⟨G2,o2,hGb,hGl2,hGc2⟩:=hls.at HBC.out k (by have:=HLL.out;rw [ints_len];omega)
     subst hGb
     rw [ith_ints] at hGc2
     obtain⟨y,hy⟩:∃y,ith ds k=y:=⟨_,rfl⟩
     rw [hy] at hGc hF
     obtain⟨d,hd'⟩:∃d,lkn y=d:=⟨_,rfl⟩
     have HD:Hid (∀W,Calls Tryz.prog 153 #[.int .i8 y] W fun e w'=>e=.returned (.int .i8 d)∧W=w'):=lh fun W=>by rw [←hd'];exact lknown_any y W
     obtain⟨lb,hlb⟩:∃lb,leftB d=lb:=⟨_,rfl⟩
     have HLB:Hid (∀W,Calls Tryz.prog 190 #[.int .i8 d] W fun e w'=>e=.returned (.bool lb)∧W=w'):=lh fun W=>by rw [←hlb];exact lleft_any d W
     rw [hd'] at hF
     rw [hlb] at hF
     obtain⟨lv,hlv'⟩:∃lv,ls.getD k 0=lv:=⟨_,rfl⟩
     rw [hlv'] at hGc2 hF
     have HF:=lh hF
     clear hy hd' hlb hlv' hF
     have gk0:(0:Int)≤(k:Int):=by omega
     have gk1:(k:Int)<(n:Int):=by omega
     by_cases h10:d=10
     ·subst h10
      have e:=HF.out
      rw [if_pos rfl] at e
      have HE:=lh e
      clear e
      go_wp2_with (go_at_call 153;refine (HD.out _).mono ?_;rintro e w' ⟨rfl,hw'⟩;subst hw')
      go_meet
      exact⟨by rw [HE.out],rfl⟩
     ·have c10:(d==10)=false:=by simpa using h10
      have c10':(d != 10)=true:=by simpa using h10
      have e:=HF.out
      rw [if_neg h10] at e
      have HE:=lh e
      clear e h10
      cases lb with
      | true =>
        go_wp2_with (first | (go_at_call 153;refine (HD.out _).mono ?_;rintro e w' ⟨rfl,hw'⟩;subst hw') | (go_at_call 190;refine (HLB.out _).mono ?_;rintro e w' ⟨rfl,hw'⟩;subst hw'))
        go_roundw
        case rel=>exact⟨k,(k:Int)-1,rfl,by go_num,by omega,by omega,by have:=HE.out;rwa [if_pos trivial] at this,trivial⟩
        case measure=>simp [intOf]
      | false =>
        go_wp2_with (first | (go_at_call 153;refine (HD.out _).mono ?_;rintro e w' ⟨rfl,hw'⟩;subst hw') | (go_at_call 190;refine (HLB.out _).mono ?_;rintro e w' ⟨rfl,hw'⟩;subst hw'))
        go_meet
        exact⟨by have:=HE.out;rw [if_neg (by decide)] at this;rw [this],rfl⟩
 case rest =>
 obtain⟨rfl,hwx⟩:=hcut
 have hwx':=hwx.symm
 clear hwx
 subst hwx'
 obtain⟨G,o,hGa,hGl,hGcb⟩:=hd.at HBC.out b0 (by have:=HL.out;omega)
 subst hGa
 obtain⟨yb,hyb⟩:∃yb,ith ds b0=yb:=⟨_,rfl⟩
 rw [hyb] at hGcb
 obtain⟨db,hdb⟩:∃db,lkn yb=db:=⟨_,rfl⟩
 have HDB:Hid (∀W,Calls Tryz.prog 153 #[.int .i8 yb] W fun e w'=>e=.returned (.int .i8 db)∧W=w'):=lh fun W=>by rw [←hdb];exact lknown_any yb W
 obtain⟨ob,hob⟩:∃ob,opensB db=ob:=⟨_,rfl⟩
 have HOB:Hid (∀W,Calls Tryz.prog 182 #[.int .i8 db] W fun e w'=>e=.returned (.bool ob)∧W=w'):=lh fun W=>by rw [←hob];exact lopens_any db W
 have HPA:=lh (LPairs_any (some ⟨G,o,none⟩) ds n cap V HL.out (hd.below HBC.out) hn)
 unfold LPairsPost at HPA
 obtain⟨pb,hpb⟩:∃pb,ith (pairsI ds) b0=pb:=⟨_,rfl⟩
 obtain⟨go,hgo⟩:∃go,(!ob||decide (0≤pb))=go:=⟨_,rfl⟩
 have hBH:=HBH.out
 unfold behindG at hBH
 rw [hyb,hdb,hob,hpb] at hBH
 have HBH2:Hid ((if go=true∧db≠10 then behindL ds ls base (n-(b0+1)) (b0+1) else base)=Bh):=lh (by
  rw [←hBH,←hgo]
  have e:((!ob||decide (0≤pb))=true∧db≠10)↔((ob=false∨0≤pb)∧db≠10):=by simp
  by_cases h:(ob=false∨0≤pb)∧db≠10
  ·rw [if_pos h,if_pos (e.2 h)]
  ·rw [if_neg h,if_neg (fun h'=>h (e.1 h'))])
 have HGO:=lh hgo
 have gb0:(0:Int)≤(b0:Int):=by omega
 have gb1:(b0:Int)<(n:Int):=by omega
 have gn0:(n:Int)≤(cap:Int):=by omega
 clear hyb hdb hob hBH hgo
 go_upto_region 12 with (fail)
 go_cut [88] (fun t wx=>t=.bool go∧Below V.heap.size V wx)
 case first =>
  cases ob with
  | false =>
    go_wp2_with (first | (go_at_call 153;refine (HDB.out _).mono ?_;rintro e w' ⟨rfl,hw'⟩;subst hw') | (go_at_call 182;refine (HOB.out _).mono ?_;rintro e w' ⟨rfl,hw'⟩;subst hw'))
    go_meet
    exact⟨by rw [←HGO.out];rfl,Below.refl _ _⟩
  | true =>
    go_wp2_with (first | (go_at_call 153;refine (HDB.out _).mono ?_;rintro e w' ⟨rfl,hw'⟩;subst hw') | (go_at_call 182;refine (HOB.out _).mono ?_;rintro e w' ⟨rfl,hw'⟩;subst hw') | (go_at_call 189;refine HPA.out.mono ?_;rintro e w3 ⟨rfl,hpl,hO3,hb3⟩;obtain⟨_,hG3,_,_,hx3,_⟩:=OutAt.at hO3 b0 (by rw [hpl];omega);cases hG3;rw [hpb] at hx3;clear hpl hO3))
    go_meet
    exact⟨by rw [←HGO.out];rfl,hb3⟩
 case rest =>
 obtain⟨rfl,hbw⟩:=hcut
 obtain⟨U,hU⟩:∃U,U=wc:=⟨_,rfl⟩
 subst hU
 have HBU:Hid (Below w.heap.size w U):=lh (HBC.out.trans (hbw.mono (by omega)))
 have hcU:U.cell? ⟨w.heap.size,0,none⟩=some (.int .i64 n):=(hbw.cell (p:=⟨w.heap.size,0,none⟩) hszC).trans hcC
 have hGcU:U.cell? ⟨G,o+b0,none⟩=some (.int .i8 yb):=(hbw.cell (p:=⟨G,o+b0,none⟩) (by show G<V.heap.size;omega)).trans hGcb
 clear hbw hcC hGcb HPA HOB hpb HBC
 go_upto_if 88 with (fail)
 go_cut [15] (fun v wx=>v=.int .u8 (Bh:Nat)∧wx=U)
 case first =>
  cases go with
  | false =>
    have e:=HBH2.out
    rw [if_neg (fun h=>by simp at h)] at e
    have HE:=lh e
    clear e
    go_wp2_with (fail)
    go_meet
    exact⟨by rw [HE.out],rfl⟩
  | true =>
    have HE:Hid ((if db=10 then base else behindL ds ls base (n-(b0+1)) (b0+1))=Bh):=lh (by
     rw [←HBH2.out]
     by_cases h:db=10
     ·rw [if_pos h,if_neg (fun h'=>h'.2 h)]
     ·rw [if_neg h,if_pos ⟨rfl,h⟩])
    go_upto_block 2 with (fail)
    go_wp2_with (fail)
    go_loopw [15,17] (fun u15 u17 wx=>∃j m:Nat,u15=.int .u8 (base:Nat)∧u17=.int .i64 (j:Nat)∧j+m=n∧(if db=10 then base else behindL ds ls base m j)=Bh∧wx=U) (fun _ c _=>n-(intOf c).toNat)
    case atStart=>exact⟨b0+1,n-(b0+1),rfl,by go_num,by omega,HE.out,rfl⟩
    case round =>
     obtain⟨j,m,rfl,rfl,hjm,hF0,hwx⟩:=hrel
     have hwx':=hwx.symm
     clear hwx
     subst hwx'
     cases m with
     | zero =>
       have hjn:j=n:=by omega
       rw [behindL] at hF0
       have HF:=lh hF0
       subst hjn
       clear hF0 hjm
       go_wp2_with (go_at_call 153;refine (HDB.out _).mono ?_;rintro e w' ⟨rfl,hw'⟩;subst hw')
       go_meet
       exact⟨by have:=HF.out;rw [ite_self] at this;rw [this],rfl⟩
     | succ m =>
       have hjn:j<n:=by omega
       by_cases h10:db=10
       ·subst h10
        rw [if_pos rfl] at hF0
        have HF:=lh hF0
        clear hF0
        go_wp2_with (go_at_call 153;refine (HDB.out _).mono ?_;rintro e w' ⟨rfl,hw'⟩;subst hw')
        go_meet
        exact⟨by rw [HF.out],rfl⟩
       ·have c10:(db==10)=false:=by simpa using h10
        have c10':(db != 10)=true:=by simpa using h10
        rw [if_neg h10] at hF0
        have hF:=hF0
        rw [behindL] at hF
        clear hF0
        obtain⟨G4,o4,hGa,hGl4,hGc⟩:=hd.at HBU.out j (by have:=HL.out;omega)
        cases hGa
        obtain⟨G2,o2,hGb,hGl2,hGc2⟩:=hls.at HBU.out j (by have:=HLL.out;rw [ints_len];omega)
        subst hGb
        rw [ith_ints] at hGc2
        obtain⟨y,hy⟩:∃y,ith ds j=y:=⟨_,rfl⟩
        rw [hy] at hGc hF
        obtain⟨d,hd'⟩:∃d,lkn y=d:=⟨_,rfl⟩
        have HD:Hid (∀W,Calls Tryz.prog 153 #[.int .i8 y] W fun e w'=>e=.returned (.int .i8 d)∧W=w'):=lh fun W=>by rw [←hd'];exact lknown_any y W
        obtain⟨lb,hlb⟩:∃lb,leftB d=lb:=⟨_,rfl⟩
        have HLB:Hid (∀W,Calls Tryz.prog 190 #[.int .i8 d] W fun e w'=>e=.returned (.bool lb)∧W=w'):=lh fun W=>by rw [←hlb];exact lleft_any d W
        rw [hd'] at hF
        rw [hlb] at hF
        obtain⟨lv,hlv'⟩:∃lv,ls.getD j 0=lv:=⟨_,rfl⟩
        rw [hlv'] at hGc2 hF
        have HF:=lh hF
        clear hy hd' hlb hlv' hF
        have gk0:(0:Int)≤(j:Int):=by omega
        have gk1:(j:Int)<(n:Int):=by omega
        go_upto_block 3 with (go_at_call 153;refine (HDB.out _).mono ?_;rintro e w' ⟨rfl,hw'⟩;subst hw')
        cases lb with
        | true =>
          go_wp2_with (first | (go_at_call 153;refine (HD.out _).mono ?_;rintro e w' ⟨rfl,hw'⟩;subst hw') | (go_at_call 190;refine (HLB.out _).mono ?_;rintro e w' ⟨rfl,hw'⟩;subst hw'))
          go_roundw
          case rel=>exact⟨j+1,m,rfl,by go_num,by omega,by rw [if_neg h10];have:=HF.out;rwa [if_pos trivial] at this,trivial⟩
          case measure=>simp [intOf];omega
        | false =>
          go_wp2_with (first | (go_at_call 153;refine (HD.out _).mono ?_;rintro e w' ⟨rfl,hw'⟩;subst hw') | (go_at_call 190;refine (HLB.out _).mono ?_;rintro e w' ⟨rfl,hw'⟩;subst hw'))
          go_meet
          exact⟨by have:=HF.out;rw [if_neg (by decide)] at this;rw [this],rfl⟩
 case rest =>
 obtain⟨rfl,hwx⟩:=hcut
 have hwx':=hwx.symm
 clear hwx
 subst hwx'
 go_upto_region 18 with (fail)
 obtain⟨G2,o2,hGb,hGl2,hxa⟩:=hls.at HBU.out a0 (by have:=HLL.out;rw [ints_len];omega)
 subst hGb
 obtain⟨G3,o3,hGb,hGl3,hxb⟩:=hls.at HBU.out b0 (by have:=HLL.out;rw [ints_len];omega)
 cases hGb
 rw [ith_ints] at hxa hxb
 rw [HXA.out] at hxa
 rw [HXB.out] at hxb
 have hmx1:=HM1.out
 have hmx2:=HM2.out
 have hb1:=HQ1.out
 have hb2:=HQ2.out
 have ga0:(0:Int)≤(a0:Int):=by omega
 have ga1:(a0:Int)<(n:Int):=by omega
 clear hcU hGcU
 go_quiet (fail)
 go_wp2_with (fail)
 go_ret2
 exact⟨rfl,bl_drewN HBU.out _⟩
end
section
open Go.Proofs Go.Shelf Go.RowKit Go.Lib Go.Sort
def ltP (a b:Nat × Nat):Bool:=decide (a.1<b.1)
theorem swo_ltP:SWO ltP where
 irrefl:=fun x=>by simp [ltP]
 trans:=fun x y z h1 h2=>by simp [ltP] at *;omega
 ntrans:=fun x y z h1 h2=>by simp [ltP] at *;omega
theorem flatK_toList (d:Array (Nat × Nat)):(flatK pcell 2 d).toList=d.toList.flatMap pcell:=by
 apply List.ext_getElem?
 intro t
 have hl:(d.toList.flatMap pcell).length=d.size*2:=by rw [flat_len2 _ _ (fun _=>rfl)];simp
 by_cases ht:t<d.size*2
 ·have h1:(flatK pcell 2 d).toList[t]? = some ((pcell d[t / 2]!)[t % 2]!):=by
   rw [←get_flatK pcell 2 d t ht]
   simp [ht]
  have h2:=flat_get2 d.toList (0,0) pcell _ _ (fun _=>rfl) (t / 2) (by simp;omega)
  have h3:d[t / 2]! = d.toList.getD (t / 2) (0,0):=by
   have:t / 2<d.size:=by omega
   simp [this]
  rw [h1,h3]
  rcases Nat.mod_two_eq_zero_or_one t with h0 | h0
  ·have e:t=t / 2*2:=by omega
   rw [h0,show (d.toList.flatMap pcell)[t]? = (d.toList.flatMap pcell)[t / 2*2]? by rw [←e],h2.1]
   rfl
  ·have e:t=t / 2*2+1:=by omega
   rw [h0,show (d.toList.flatMap pcell)[t]? = (d.toList.flatMap pcell)[t / 2*2+1]? by rw [←e],h2.2]
   rfl
 ·rw [List.getElem?_eq_none (by simp;omega),List.getElem?_eq_none (by omega)]
theorem take_put (F cur:Array Value) (h:F.size≤cur.size):(putCells id 0 F cur).toList.take F.size=F.toList:=by
 apply List.ext_getElem?
 intro t
 rw [List.getElem?_take]
 by_cases ht:t<F.size
 ·rw [if_pos ht]
  have h2:t<cur.size:=by omega
  simp [putCells,ht,h2]
 ·rw [if_neg ht,List.getElem?_eq_none (by simpa using ht)]
theorem own_sorted {w:World} {base e g n c m:Nat} {xs:List Value} {os:Array Obj} (d:Array (Nat × Nat)) (hn:d.size=n)
 (h:w.ownsRow base e 2 (.slice (some ⟨g,0,none⟩) n c) n xs) :
 (grow (putRowK pcell 2 (Sort.ahead w m) g 0 d) os).ownsRow base e 2 (.slice (some ⟨g,0,none⟩) n c) n (d.toList.flatMap pcell):=by
 obtain⟨hl,h2⟩:=h
 rcases h2 with ⟨h0,_⟩ | ⟨g',cap,cur,hv,hg,hh,hc,hm,hs,ht⟩
 ·cases h0
 ·cases hv
  have hgl:g<w.heap.size:=(Array.getElem?_eq_some_iff.1 hh).1
  refine⟨by rw [flat_len2 _ _ (fun _=>rfl)];simp [hn],.inr ⟨g,c,putCells id 0 (flatK pcell 2 d) cur,rfl,hg,?_,hc,hm,by simp [putCells,hs],?_⟩⟩
  ·show (grow (putRow id (Sort.ahead w m) g 0 (flatK pcell 2 d)) os).heap[g]? = _
   have e1:(grow (putRow id (Sort.ahead w m) g 0 (flatK pcell 2 d)) os).heap[g]? = (putRow id (Sort.ahead w m) g 0 (flatK pcell 2 d)).heap[g]?:=by
    simp only [grow]
    rw [Array.getElem?_append_left (by rw [size_putRow];exact hgl)]
   rw [e1]
   simp only [putRow,mapBlock,Array.getElem?_modify,if_true]
   show Option.map _ (w.heap[g]?)=_
   rw [hh];rfl
  ·have hsz:(flatK pcell 2 d).size=n*2:=by simp [hn]
   rw [←hsz,take_put _ _ (by rw [hsz,hs];exact Nat.mul_le_mul_right 2 hc),flatK_toList]
theorem grown_sorted {w:World} {g m:Nat} {os:Array Obj} (d:Array (Nat × Nat)):w.grownBy (grow (putRowK pcell 2 (Sort.ahead w m) g 0 d) os) (some g):=by
 refine⟨rfl,rfl,rfl,by simp [grow,putRowK,putRow,mapBlock,Sort.ahead],fun k hk hne=>?_⟩
 have hne':g≠k:=fun e=>hne (by rw [e])
 simp only [grow]
 rw [Array.getElem?_append_left (by show k<(putRow id (Sort.ahead w m) g 0 (flatK pcell 2 d)).heap.size;rw [size_putRow];exact hk)]
 simp only [putRowK,putRow,mapBlock,Array.getElem?_modify,if_neg hne']
 rfl
theorem grown_grow (w:World) (os:Array Obj) (row:Option Nat):w.grownBy (grow w os) row :=
 ⟨rfl,rfl,rfl,by simp [grow],fun k hk _=>by simp only [grow];rw [Array.getElem?_append_left hk]⟩
noncomputable def svT:TypeInfo:=(Tryz.prog.info? 268).get (by kernel_rfl)
noncomputable def svE:TypeInfo:=(Tryz.prog.info? 96).get (by kernel_rfl)
theorem svK (n:Nat) (h2:2≤n):Lib.swapperK n svE 17=9:=by
 have a:svE.hasPointers=false:=by kernel_rfl
 have b:svE.bytes=16:=by kernel_rfl
 have c:(n==0)=false:=by simp;omega
 have d:(n==1)=false:=by simp;omega
 simp [Lib.swapperK,a,b,c,d]
set_option maxHeartbeats 1000000 in
theorem less_pairs (blk c Bs size:Nat) (W:World) (G:Nat→Int) (hs:W.cell? ⟨Bs,0,none⟩=some (.slice (some ⟨blk,0,none⟩) size c))
 (hc:∀t,t<size→W.cell? ⟨blk,t*2,none⟩=some (.int .i64 (G t))) (i j:Nat) (hi:i<size) (hj:j<size) (_hsz:size<4611686018427387904) :
 Calls Tryz.prog 213 #[.int .i64 i,.int .i64 j,.pointer (some ⟨Bs,0,none⟩)] W fun e w'=>e=.returned (.bool (decide (G i<G j)))∧∃q,w'=W.drewN q:=by
 have ci:=hc i hi
 have cj:=hc j hj
 have i0:(0:Int)≤(i:Int):=by omega
 have i1:(i:Int)<(size:Int):=by omega
 have j0:(0:Int)≤(j:Int):=by omega
 have j1:(j:Int)<(size:Int):=by omega
 go_enter Tryz.func213,Tryz.ntmps213
 go_wp2
 go_quiet (fail)
 go_wp2
 go_ret
 exact⟨rfl,nq,rfl⟩
def SortPost (out:List (Nat × Nat)) (base:Nat) (ov:Value) (w:World) (e:Ending) (w':World):Prop :=
 e=.returned (.tuple #[])∧∃l:List (Nat × Nat),l.Perm out∧l.Pairwise (fun a b=>a.1≤b.1)∧w'.ownsRow base 96 2 ov out.length (l.flatMap pcell)∧w.grownBy w' ov.ownBlock
theorem holdsK_of_own {w:World} {base e g c:Nat} (out:List (Nat × Nat)) (h:w.ownsRow base e 2 (.slice (some ⟨g,0,none⟩) out.length c) out.length (out.flatMap pcell)) :
 HoldsK pcell 2 w g 0 out.toArray:=by
 intro j hj
 rw [size_flatK] at hj
 have hlen:(out.flatMap pcell).length=out.length*2:=flat_len2 _ _ (fun _=>rfl)
 have hj':j<(out.flatMap pcell).length:=by rw [hlen];simpa using hj
 have e1:id (flatK pcell 2 out.toArray)[j]! = (out.flatMap pcell)[j]:=by
  have hk:flatK pcell 2 out.toArray=(out.flatMap pcell).toArray:=by
   apply Array.ext'
   rw [flatK_toList]
  rw [hk]
  rw [id,getElem!_pos _ _ (by simpa using hj')]
  simp
 rw [e1,Nat.zero_add]
 obtain⟨_,h2⟩:=h
 rcases h2 with ⟨h0,_⟩ | ⟨g',cap,cur,hv,hg,hh,hc,hm,hs,ht⟩
 ·cases h0
 ·cases hv
  have hx:cur[j]? = some ((out.flatMap pcell)[j]):=by
   have:(cur.toList.take (out.length*2))[j]? = (out.flatMap pcell)[j]?:=by rw [ht]
   rw [List.getElem?_take,if_pos (by omega),List.getElem?_eq_getElem hj'] at this
   simpa using this
  exact⟨by simp [World.cell?,hh,hx],by simp [World.frozen?,hh]⟩
theorem sort_call (OB base:Nat) (out:List (Nat × Nat)) (ov:Value) (w:World) (hown:w.ownsRow base 96 2 ov out.length (out.flatMap pcell)) (hOB:w.cell? ⟨OB,0,none⟩=some ov) (hOB2:OB<base)
 (hsz:out.length<1099511627776) :
 Calls Tryz.prog 212 #[.iface 268 ov,.func (.func 213) #[] #[.pointer (some ⟨OB,0,none⟩)]] w (SortPost out base ov w):=by
 have hOBl:OB<w.heap.size:=cell_lt hOB
 by_cases h1:out.length≤1
 ·obtain⟨p,c,hv⟩:∃p c,ov=.slice p out.length c:=by
   rcases hown.2 with ⟨h,h0⟩ | ⟨g,cap,cur,h,_⟩
   ·exact⟨none,0,by rw [h,h0]⟩
   ·exact⟨_,_,h⟩
  have hpw:out.Pairwise (fun a b=>a.1≤b.1):=by
   match out,h1 with
   | [],_=>exact .nil
   | [x],_=>exact List.pairwise_singleton _ _
  have hf:∃f,Tryz.prog.funcs.findIdx? (·.name == "internal/reflectlite" ++ ".Swapper$" ++ toString (Lib.swapperK out.length svE 17))=some f:=by
   match out,h1 with
   | [],_=>exact⟨240,by kernel_rfl⟩
   | [x],_=>exact⟨241,by kernel_rfl⟩
  obtain⟨f,hf⟩:=hf
  subst hv
  refine (Any.sort_Slice_tiny (P:=Tryz.prog) Tryz.laysGg6 268 96 svT svE (by kernel_rfl) (by kernel_rfl) (by kernel_rfl) (by kernel_rfl) 17 (fun _=>by kernel_rfl) p out.length c h1 f hf (.func 213) #[] #[.pointer (some ⟨OB,0,none⟩)] w).mono ?_
  rintro e w' ⟨rfl,os,rfl⟩
  exact⟨rfl,out,List.Perm.refl _,hpw,hown.kept (grown_grow _ _ none) (by cases h:(Value.slice p out.length c).ownBlock <;> simp),grown_grow _ _ _⟩
 ·obtain⟨g,c,hv,hg⟩:∃g c,ov=.slice (some ⟨g,0,none⟩) out.length c∧base≤g:=by
   rcases hown.2 with ⟨h,h0⟩ | ⟨g,cap,cur,h,hb,_⟩
   ·omega
   ·exact⟨_,_,h,hb⟩
  subst hv
  have hgl:g<w.heap.size:=(hown.lt g rfl).2
  have hH:=holdsK_of_own out hown
  have hless:LessReadsK Tryz.prog 213 #[.pointer (some ⟨OB,0,none⟩)] pcell 2 ltP g 0 out.toArray.size w:=by
   intro m os dk hs i j hi hj
   have e:sortWorldK pcell 2 w g 0 m dk os=putRowK pcell 2 (grow (Sort.ahead w m) os) g 0 dk:=by
    unfold sortWorldK;rw [putRowK_grow _ _ (Sort.ahead w m) _ g 0 _ hgl]
   have hHg:HoldsK pcell 2 (grow (Sort.ahead w m) os) g 0 out.toArray:=holdsK_grow _ _ _ _ g 0 _ hgl (holdsK_ahead _ _ _ _ _ _ _ hH)
   have:=less_pairs g c OB out.length (sortWorldK pcell 2 w g 0 m dk os) (fun t=>(dk[t]!.1:Int)) ?_ (fun t ht=>?_) i j (by simpa using hi) (by simpa using hj) (by omega)
   ·refine this.mono ?_
    rintro e w' ⟨rfl,hq⟩
    exact⟨by simp [ltP],hq⟩
   ·rw [e,cell?_putRowK_other _ _ _ g 0 dk _ (by show OB≠g;omega),cell?_grow _ _ _ (by exact hOBl)];exact hOB
   ·rw [e]
    have:=((holdsK_putRowK _ _ _ g 0 out.toArray dk hHg hs).cell (i:=t) (c:=0) (by simp at hs;omega) (by omega)).1
    rw [show (0+t*2+0:Nat)=t*2 by omega] at this
    exact this
  have hS:=Any.sort_Slice_cells_sorted (P:=Tryz.prog) Tryz.laysGg6 268 96 svT svE (by kernel_rfl) (by kernel_rfl) (by kernel_rfl) (by kernel_rfl) 17 (fun _=>by kernel_rfl) pcell 2 (fun _=>rfl) (by kernel_rfl) (fun _=>by kernel_rfl)
   (fun x v hv=>by simp [pcell] at hv;rcases hv with rfl | rfl <;> rfl) ltP swo_ltP 213 _
   (enters_of Tryz.func213 (by kernel_rfl) rfl) g 0 c out.toArray (by simp;omega) (by simp;omega) 248 (by rw [svK _ (by simp;omega)];kernel_rfl) false
   (fun args W=>run_callFunc_extern Tryz.func248 (by kernel_rfl) (by kernel_rfl) (by kernel_rfl) (e:=Extern.ReflectliteSwapper.swap false) (by kernel_rfl) args W) w hless hH hgl
  refine hS.mono ?_
  rintro e w' ⟨rfl,d',n,os,hp,hso,rfl⟩
  have hsz':d'.size=out.length:=by simpa using hp.1
  refine⟨rfl,d'.toList,?_,?_,own_sorted d' hsz' hown,grown_sorted d'⟩
  ·have:=hp.2.2
   rw [show d'.extract 0 out.toArray.size=d' by simp [←hsz'],show out.toArray.extract 0 out.toArray.size=out.toArray by simp] at this
   simpa using this
  ·rw [List.pairwise_iff_getElem]
   intro i j hi hj hij
   have:=hso i j (Nat.zero_le _) hij (by simp at hj ⊢;omega)
   have hi':i<d'.size:=by simpa using hi
   have hj':j<d'.size:=by simpa using hj
   simp [ltP,hi',hj'] at this
   simpa using this
end
end Go.Proofs.YtlmjbfncopbilaaGreatDoor
