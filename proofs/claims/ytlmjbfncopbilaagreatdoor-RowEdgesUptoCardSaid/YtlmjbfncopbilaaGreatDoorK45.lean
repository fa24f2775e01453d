/- Part 45 (merged by a program): lemmas of no further condition than each states. -/
import Derived.Test.YtlmjbfncopbilaaGreatDoorK44
namespace Go.Proofs.YtlmjbfncopbilaaGreatDoor
set_option linter.unusedVariables false
set_option linter.unusedSimpArgs false
section
open Go.RowKit Go.Proofs Go.Shelf
attribute [local go_sem] Oper.semAt_some
set_option maxRecDepth 100000 in
set_option maxHeartbeats 4000000 in
theorem LawRE_any (s:ByteArray) (hs:s.size≤2097152) (ra rl lev rwd fin tab want:Int) (wideA join raw:Bool) (x:Int) (w:World) (hT:T8 w) (hD:DB w) :
 Calls Tryz.prog 3 #[.string s,.agg #[.int .i64 ra,.int .i64 rl,.int .u8 lev,.int .i64 rwd,.int .i8 fin],.agg #[.int .i64 tab,.bool wideA,.int .i8 want,.bool join,.bool raw],.int .i64 x] w fun e w'=>e=.returned (.bool true)∧Below w.heap.size w w':=by
 obtain⟨Q,n0,nc,pf,hf,eQ,en,ec,epf,ehf,f1,f2,f3,F4,F5,F6,F7,g1,g2,g3,g4⟩:=edges_facts s hs tab want wideA join raw ra rl rwd fin
 have hlv:=lay2_lv s want join raw ra rl
 have HT:=lh (fun (W:World) (h:Below w.heap.size w W)=>(⟨hT.below rfl h,hD.below h⟩:T8 W∧DB W))
 have HST:=lh (fun (W:World) (h:Below w.heap.size w W)=>Stops_any s hs ra rl lev rwd fin tab want wideA join raw W (HT.out W h).1 (HT.out W h).2 hlv g1 g2 g3)
 have HC:=lh (fun (W:World) (h:Below w.heap.size w W)=>Cells_any s hs ra rl lev rwd fin tab want wideA join raw W (HT.out W h).1 (HT.out W h).2 hlv (lay_good s tab want wideA join raw ra rl rwd))
 have HP0:=lh (fun (c:Int) (b:Bool) (W:World) (h:Below w.heap.size w W)=>Place_any s hs ra rl lev rwd fin tab want wideA join raw c (-1) b W (HT.out W h).1 (HT.out W h).2 hlv)
 have HH0:=lh (fun (x:Int) (W:World) (h:Below w.heap.size w W)=>Hit_any s hs ra rl lev rwd fin tab want x wideA join raw W (HT.out W h).1 (HT.out W h).2 hlv g1 g2 g3 g4)
 have HAL:=lh (fun (W:World) (h:Below w.heap.size w W)=>alive_any W (HT.out W h).1 (HT.out W h).2)
 have HPL:Hid (∀(c:Int) (b:Bool) (W:World),Below w.heap.size w W→Calls Tryz.prog 15 #[.string s,.agg #[.int .i64 ra,.int .i64 rl,.int .u8 lev,.int .i64 rwd,.int .i8 fin],.agg #[.int .i64 tab,.bool wideA,.int .i8 want,.bool join,.bool raw],.agg #[.int .i64 c,.bool b,.int .i64 (-1)]] W fun e w'=>e=.returned (.int .i64 (pf c b))∧Below W.heap.size W w'):=lh fun c b W h=>epf c b▸HP0.out c b W h
 have HHT:Hid (∀(x:Int) (W:World),Below w.heap.size w W→Calls Tryz.prog 14 #[.string s,.agg #[.int .i64 ra,.int .i64 rl,.int .u8 lev,.int .i64 rwd,.int .i8 fin],.agg #[.int .i64 tab,.bool wideA,.int .i8 want,.bool join,.bool raw],.int .i64 x] W fun e w'=>e=.returned (.agg #[.int .i64 (hf x).a,.bool (hf x).back,.int .i64 (-1)])∧Below W.heap.size W w'):=lh fun x W h=>ehf x▸HH0.out x W h
 unfold rowA5 at HC HST
 rw [ec] at HC
 rw [eQ,en] at HST
 clear HP0 HH0 eQ ec epf ehf g1 g2 g3 g4 hlv hT hD
 obtain⟨x0,hx0⟩:∃y,max x 0=y:=⟨_,rfl⟩
 obtain⟨xx,hxx⟩:∃y,min x0 (nc:Int)=y:=⟨_,rfl⟩
 have X0:0≤xx∧xx≤(nc:Int):=by omega
 obtain⟨k1,k2⟩:=F6 xx X0.1 X0.2
 obtain⟨h,hh⟩:∃h,hf xx=h:=⟨_,rfl⟩
 rw [hh] at k1 k2
 obtain⟨k3,k4,k5⟩:=F4 h k1
 have HHX:Hid (hf xx=h):=lh hh
 have HF4:=lh F4
 have HF5:=lh F5
 have HF6:=lh F6
 have HF7:=lh F7
 have HK1:=lh k1
 have HK2:=lh k2
 have HK3:=lh k3
 have HQL:=lh en
 have hne0:((n0:Int)==0)=false:=beq_eq_false_iff_ne.2 (by omega)
 obtain⟨hx,hhx⟩:∃y,h.x=y:=⟨_,rfl⟩
 rw [hhx] at k4 k5
 have HHX2:=lh hhx
 clear F4 F5 F6 F7 k1 k2 k3 hh en hhx
 go_enter Tryz.func3,Tryz.ntmps3
 go_upto_region 1 with (fail)
 obtain⟨h0,h1,hb1,hs1⟩:=two_boxes w (.cells #[.int .i64 ra,.int .i64 rl,.int .u8 lev,.int .i64 rwd,.int .i8 fin] 24) (.cells #[.int .i64 tab,.bool wideA,.int .i8 want,.bool join,.bool raw] 26)
 generalize (w.alloc (.cells #[.int .i64 ra,.int .i64 rl,.int .u8 lev,.int .i64 rwd,.int .i8 fin] 24)).alloc (.cells #[.int .i64 tab,.bool wideA,.int .i8 want,.bool join,.bool raw] 26)=W1 at h0 h1 hb1 hs1 ⊢
 obtain⟨B,hB⟩:∃B,w.heap.size=B:=⟨_,rfl⟩
 have HB1:=lh hb1
 rw [hB] at h0 h1 hs1 ⊢
 have HY:Hid (∀W,Below W1.heap.size W1 W→W.cell? ⟨B,0,none⟩=some (.int .i64 ra)∧W.cell? ⟨B,1,none⟩=some (.int .i64 rl)∧W.cell? ⟨B,2,none⟩=some (.int .u8 lev)∧W.cell? ⟨B,3,none⟩=some (.int .i64 rwd)∧W.cell? ⟨B,4,none⟩=some (.int .i8 fin) ∧
  W.cell? ⟨B+1,0,none⟩=some (.int .i64 tab)∧W.cell? ⟨B+1,1,none⟩=some (.bool wideA)∧W.cell? ⟨B+1,2,none⟩=some (.int .i8 want)∧W.cell? ⟨B+1,3,none⟩=some (.bool join)∧W.cell? ⟨B+1,4,none⟩=some (.bool raw)):=lh fun W h=>by
  have g1:=(h.block B (by omega)).trans h0
  have g2:=(h.block (B+1) (by omega)).trans h1
  refine⟨?_,?_,?_,?_,?_,?_,?_,?_,?_,?_⟩ <;> simp [World.cell?,g1,g2]
 obtain⟨y0,y1,y2,y3,y4,y5,y6,y7,y8,y9⟩:=HY.out W1 (Below.refl _ _)
 have HSS:=lh (HST.out W1 HB1.out)
 clear h0 h1 hb1 HST
 go_upto_region 2 with (go_at_call 11;refine HSS.out.mono ?_;rintro e w2 ⟨qa,qc,rfl,hO2,hb2⟩)
 have HB2:=lh hb2
 have HW2:=lh (HB1.out.trans (hb2.mono HB1.out.size))
 have HO2:=lh hO2
 clear y0 y1 y2 y3 y4 y5 y6 y7 y8 y9 hO2 hb2 HSS
 obtain⟨y0,y1,y2,y3,y4,y5,y6,y7,y8,y9⟩:=HY.out w2 HB2.out
 have HCC:=lh (HC.out w2 HW2.out)
 clear HC
 go_upto_region 3 with (go_at_call 12;refine HCC.out.mono ?_;rintro e w3 ⟨ca,cc,rfl,hO3,hb3⟩)
 have HB3:=lh (HB2.out.trans (hb3.mono HB2.out.size))
 have HW3:=lh (HW2.out.trans (hb3.mono HW2.out.size))
 have HO3:=lh (HO2.out.keep hb3)
 clear y0 y1 y2 y3 y4 y5 y6 y7 y8 y9 hO3 hb3 HCC HB2 HW2 HO2
 have HAA:=lh (HAL.out w3 HW3.out)
 clear HAL
 go_upto_region 5 with (go_at_call 13;refine HAA.out.mono ?_;rintro e w4 ⟨rfl,hb4⟩)
 have HB4:=lh (HB3.out.trans (hb4.mono HB3.out.size))
 have HW4:=lh (HW3.out.trans (hb4.mono HW3.out.size))
 have HO4:=lh (HO3.out.keep hb4)
 clear hb4 HAA HB3 HW3 HO3
 go_upto_region 6 with (fail)
 clear hx0 hxx
 obtain⟨y0,y1,y2,y3,y4,y5,y6,y7,y8,y9⟩:=HY.out w4 HB4.out
 have HH6:=lh (HHX.out▸HHT.out xx w4 HW4.out)
 go_upto_region 7 with (go_at_call 14;refine HH6.out.mono ?_;rintro e w5 ⟨rfl,hb5⟩)
 have HB5:=lh (HB4.out.trans (hb5.mono HB4.out.size))
 have HW5:=lh (HW4.out.trans (hb5.mono HW4.out.size))
 have HO5:=lh (HO4.out.keep hb5)
 clear hb5 HH6 HB4 HW4 HO4 y0 y1 y2 y3 y4 y5 y6 y7 y8 y9
 go_upto_region 7 with (fail)
 have hb6:Below w5.heap.size w5 (w5.alloc (.cells #[.int .i64 h.a,.bool h.back,.int .i64 (-1)] 33)):=(Below.refl _ _).alloc (Nat.le_refl _) _
 have hx6:=World.alloc_heap_new w5 (.cells #[.int .i64 h.a,.bool h.back,.int .i64 (-1)] 33)
 have hz6:(w5.alloc (.cells #[.int .i64 h.a,.bool h.back,.int .i64 (-1)] 33)).heap.size=w5.heap.size+1:=by simp
 generalize w5.alloc (.cells #[.int .i64 h.a,.bool h.back,.int .i64 (-1)] 33)=W6 at hb6 hx6 hz6 ⊢
 obtain⟨A,hA⟩:∃A,w5.heap.size=A:=⟨_,rfl⟩
 have HB6:=lh (HB5.out.trans (hb6.mono HB5.out.size))
 have HW6:=lh (HW5.out.trans (hb6.mono HW5.out.size))
 have HO6:=lh (HO5.out.keep hb6)
 rw [hA] at hx6 hz6 ⊢
 have HZ:Hid (∀W,Below W6.heap.size W6 W→W.cell? ⟨A,0,none⟩=some (.int .i64 h.a)∧W.cell? ⟨A,1,none⟩=some (.bool h.back)∧W.cell? ⟨A,2,none⟩=some (.int .i64 (-1))):=lh fun W hb=>by
  have g1:=(hb.block A (by omega)).trans hx6
  refine⟨?_,?_,?_⟩ <;> simp [World.cell?,g1]
 clear hb6 hx6 hz6 HB5 HW5 HO5 hA
 obtain⟨y0,y1,y2,y3,y4,y5,y6,y7,y8,y9⟩:=HY.out W6 HB6.out
 obtain⟨z0,z1,z2⟩:=HZ.out W6 (Below.refl _ _)
 have HP7:Hid (Calls Tryz.prog 15 #[.string s,.agg #[.int .i64 ra,.int .i64 rl,.int .u8 lev,.int .i64 rwd,.int .i8 fin],.agg #[.int .i64 tab,.bool wideA,.int .i8 want,.bool join,.bool raw],.agg #[.int .i64 h.a,.bool h.back,.int .i64 (-1)]] W6 fun e w'=>e=.returned (.int .i64 hx)∧Below W6.heap.size W6 w'):=lh (by have:=HPL.out h.a h.back W6 HW6.out;rw [HK3.out,HHX2.out] at this;exact this)
 go_upto_region 8 with (go_at_call 15;refine HP7.out.mono ?_;rintro e w7 ⟨rfl,hb7⟩)
 have HB7:=lh hb7
 clear y0 y1 y2 y3 y4 y5 y6 y7 y8 y9 z0 z1 z2 hb7 HP7
 go_upto_block 0 with (fail)
 go_wp2_with (fail)
 go_loopw [13,14,15,16,17] (fun u13 u14 u15 _ _ wx=>∃(k:Nat) (last:Int) (fd:Bool),u13=.int .i64 last∧u14=.bool fd∧u15=.int .i64 k∧k≤n0∧k≤200∧(∀st,Q[k]? = some st→last≤st.x)∧(∀j,j<k→Q[j]? = some h→fd=true)∧Below W6.heap.size W6 wx) (fun _ _ u15 _ _ _=>200-(intOf u15).toNat)
 case atStart=>exact⟨0,0,false,rfl,rfl,rfl,by omega,by omega,fun st hst=>(HF4.out st (List.mem_of_getElem? hst)).2.1,fun j hj=>absurd hj (Nat.not_lt_zero _),HB7.out⟩
 case round =>
  obtain⟨k,last,fd,rfl,rfl,rfl,hk,hk2,hla,hfd,hb⟩:=hrel
  have HBr:=lh hb
  have HLA:=lh hla
  have HFD:=lh hfd
  clear hb hla hfd HB7
  obtain⟨b1,hb1⟩:∃b,(decide (k<n0)&&(decide (k<200)&&(decide (k<5)||decide (s.size<2000))))=b:=⟨_,rfl⟩
  have Hb1:=lh hb1
  clear hb1
  go_upto_region 11 with (fail)
  go_cut [64] (fun v wx=>v=.bool b1∧wx=wr)
  case first=>as_aux_lemma =>
   by_cases g1:k<n0
   ·have d1:decide ((k:Int)<(n0:Int))=true:=decide_eq_true (by omega)
    have d1':(k:Int)<(n0:Int):=by omega
    by_cases g2:k<200
    ·have d2:decide ((k:Int)<200)=true:=decide_eq_true (by omega)
     have d2':(k:Int)<200:=by omega
     by_cases g3:k<5
     ·have d3:decide ((k:Int)<5)=true:=decide_eq_true (by omega)
      have hb:b1=true:=by rw [←Hb1.out,decide_eq_true g1,decide_eq_true g2,decide_eq_true g3];rfl
      subst hb
      go_wp2_with (fail)
      go_meet
      case rel=>exact⟨rfl,rfl⟩
     ·have d3:decide ((k:Int)<5)=false:=decide_eq_false (by omega)
      by_cases g4:s.size<2000
      ·have d4:decide ((s.size:Int)<2000)=true:=decide_eq_true (by omega)
       have hb:b1=true:=by rw [←Hb1.out,decide_eq_true g1,decide_eq_true g2,decide_eq_true g4,Bool.or_true];rfl
       subst hb
       go_wp2_with (fail)
       go_meet
       case rel=>exact⟨rfl,rfl⟩
      ·have d4:decide ((s.size:Int)<2000)=false:=decide_eq_false (by omega)
       have hb:b1=false:=by rw [←Hb1.out,decide_eq_false g3,decide_eq_false g4,Bool.or_false,Bool.and_false,Bool.and_false]
       subst hb
       go_wp2_with (fail)
       go_meet
       case rel=>exact⟨rfl,rfl⟩
    ·have d2:decide ((k:Int)<200)=false:=decide_eq_false (by omega)
     have hb:b1=false:=by rw [←Hb1.out,decide_eq_false g2,Bool.false_and,Bool.and_false]
     subst hb
     go_wp2_with (fail)
     go_meet
     case rel=>exact⟨rfl,rfl⟩
   ·have d1:decide ((k:Int)<(n0:Int))=false:=decide_eq_false (by omega)
    have hb:b1=false:=by rw [←Hb1.out,decide_eq_false g1,Bool.false_and]
    subst hb
    go_wp2_with (fail)
    go_meet
    case rel=>exact⟨rfl,rfl⟩
  case rest =>
   obtain⟨hv,hw⟩:=hcut
   subst hv
   subst hw
   cases b1 with
   | true =>
     have hbb:=Hb1.out
     simp only [Bool.and_eq_true,Bool.or_eq_true,decide_eq_true_eq] at hbb
     obtain⟨g1,g2,_⟩:=hbb
     obtain⟨st,hst⟩:∃st,Q[k]? = some st:=⟨_,List.getElem?_eq_getElem (by have:=HQL.out;omega)⟩
     obtain⟨G,eG,q0,q1,q2⟩:=ca_cells HQL.out (HO6.out.keep HBr.out) k st hst
     subst eG
     have hstm:=List.mem_of_getElem? hst
     obtain⟨s1,s2,s3⟩:=HF4.out st hstm
     obtain⟨p,hp⟩:∃p,st.x=p:=⟨_,rfl⟩
     have hkn:(k:Int)<(n0:Int):=by omega
     have hlp:last≤p:=by rw [←hp];exact HLA.out st hst
     have hback:=HF7.out st hstm
     have hgap:=HK2.out st hstm
     rw [hp] at s1 s2 s3 hback hgap
     rw [HHX2.out] at hgap
     have HW:Hid (∀W,Below wc.heap.size wc W→Below w.heap.size w W∧Below W1.heap.size W1 W∧Below W6.heap.size W6 W):=lh fun W hb=>by
      have h1:=HBr.out.trans (hb.mono HBr.out.size)
      exact⟨HW6.out.trans (h1.mono HW6.out.size),HB6.out.trans (h1.mono HB6.out.size),h1⟩
     have HQC:Hid (∀W,Below wc.heap.size wc W→W.cell? ⟨G,k*3,none⟩=some (.int .i64 st.a)∧W.cell? ⟨G,k*3+1,none⟩=some (.bool st.back)∧W.cell? ⟨G,k*3+2,none⟩=some (.int .i64 (-1))):=lh fun W hb=>by
      obtain⟨G',e',r0,r1,r2⟩:=ca_cells HQL.out (HO6.out.keep (HW.out W hb).2.2) k st hst
      cases e'
      exact⟨r0,r1,r2⟩
     have HKC:Hid (∀W,Below wc.heap.size wc W→W.cell? ⟨B,0,none⟩=some (.int .i64 ra)∧W.cell? ⟨B,1,none⟩=some (.int .i64 rl)∧W.cell? ⟨B,2,none⟩=some (.int .u8 lev)∧W.cell? ⟨B,3,none⟩=some (.int .i64 rwd)∧W.cell? ⟨B,4,none⟩=some (.int .i8 fin)∧W.cell? ⟨B+1,0,none⟩=some (.int .i64 tab)∧W.cell? ⟨B+1,1,none⟩=some (.bool wideA)∧W.cell? ⟨B+1,2,none⟩=some (.int .i8 want)∧W.cell? ⟨B+1,3,none⟩=some (.bool join)∧W.cell? ⟨B+1,4,none⟩=some (.bool raw)∧W.cell? ⟨G,k*3,none⟩=some (.int .i64 st.a)∧W.cell? ⟨G,k*3+1,none⟩=some (.bool st.back)∧W.cell? ⟨G,k*3+2,none⟩=some (.int .i64 (-1))∧Below wc.heap.size wc W):=lh fun W hb=>by
      obtain⟨y0,y1,y2,y3,y4,y5,y6,y7,y8,y9⟩:=HY.out W (HW.out W hb).2.1
      obtain⟨r0,r1,r2⟩:=HQC.out W hb
      exact⟨y0,y1,y2,y3,y4,y5,y6,y7,y8,y9,r0,r1,r2,hb⟩
     have HCM:Hid (∀W,Below wc.heap.size wc W→Calls Tryz.prog 15 #[.string s,.agg #[.int .i64 ra,.int .i64 rl,.int .u8 lev,.int .i64 rwd,.int .i8 fin],.agg #[.int .i64 tab,.bool wideA,.int .i8 want,.bool join,.bool raw],.agg #[.int .i64 st.a,.bool st.back,.int .i64 (-1)]] W fun e w'=>e=.returned (.int .i64 p)∧Below wc.heap.size wc w') :=
      lh fun W hb=>(s1▸HPL.out st.a st.back W (HW.out W hb).1).mono fun e w' ⟨h1,h2⟩=>⟨h1,hb.trans (h2.mono hb.size)⟩
     have HST1:=lh hst
     clear q0 q1 q2 s1 hst hstm
     obtain⟨y0,y1,y2,y3,y4,y5,y6,y7,y8,y9,r0,r1,r2,hN⟩:=HKC.out wc (Below.refl _ _)
     go_upto_region 13 with (fail)
     go_region_held3 (fun W=>W.cell? ⟨B,0,none⟩=some (.int .i64 ra)∧W.cell? ⟨B,1,none⟩=some (.int .i64 rl)∧W.cell? ⟨B,2,none⟩=some (.int .u8 lev)∧W.cell? ⟨B,3,none⟩=some (.int .i64 rwd)∧W.cell? ⟨B,4,none⟩=some (.int .i8 fin)∧W.cell? ⟨B+1,0,none⟩=some (.int .i64 tab)∧W.cell? ⟨B+1,1,none⟩=some (.bool wideA)∧W.cell? ⟨B+1,2,none⟩=some (.int .i8 want)∧W.cell? ⟨B+1,3,none⟩=some (.bool join)∧W.cell? ⟨B+1,4,none⟩=some (.bool raw)∧W.cell? ⟨G,k*3,none⟩=some (.int .i64 st.a)∧W.cell? ⟨G,k*3+1,none⟩=some (.bool st.back)∧W.cell? ⟨G,k*3+2,none⟩=some (.int .i64 (-1))∧Below wc.heap.size wc W)
      ((refine HKC.out _ ?_;(repeat (first | assumption | refine Below.drew ?_))))
      ((go_at_call 15;refine (HCM.out _ (by (repeat (first | assumption | refine Below.drew ?_)))).mono ?_;rintro e w8 ⟨rfl,hN5⟩))
     have HN8:=lh hN5
     clear y0 y1 y2 y3 y4 y5 y6 y7 y8 y9 r0 r1 r2 hN hN5 HCM
     obtain⟨hk,hhk⟩:∃y,hf p=y:=⟨_,rfl⟩
     rw [hhk] at hback
     have HH8:Hid (Calls Tryz.prog 14 #[.string s,.agg #[.int .i64 ra,.int .i64 rl,.int .u8 lev,.int .i64 rwd,.int .i8 fin],.agg #[.int .i64 tab,.bool wideA,.int .i8 want,.bool join,.bool raw],.int .i64 p] w8 fun e w'=>e=.returned (.agg #[.int .i64 hk.a,.bool hk.back,.int .i64 (-1)])∧Below w8.heap.size w8 w'):=lh (hhk▸HHT.out p w8 (HW.out w8 HN8.out).1)
     have HBK:=lh hback
     obtain⟨y0,y1,y2,y3,y4,y5,y6,y7,y8,y9,_,_,_,_⟩:=HKC.out w8 HN8.out
     clear hhk hback
     go_upto_region 15 with (go_at_call 14;refine HH8.out.mono ?_;rintro e w9 ⟨rfl,hb9⟩)
     have hbA:Below w9.heap.size w9 (w9.alloc (.cells #[.int .i64 hk.a,.bool hk.back,.int .i64 (-1)] 33)):=(Below.refl _ _).alloc (Nat.le_refl _) _
     have hxA:=World.alloc_heap_new w9 (.cells #[.int .i64 hk.a,.bool hk.back,.int .i64 (-1)] 33)
     generalize w9.alloc (.cells #[.int .i64 hk.a,.bool hk.back,.int .i64 (-1)] 33)=WA at hbA hxA ⊢
     obtain⟨C,hC⟩:∃C,w9.heap.size=C:=⟨_,rfl⟩
     have h89:=HN8.out.trans (hb9.mono HN8.out.size)
     have HNA:=lh (h89.trans (hbA.mono h89.size))
     rw [hC] at hxA ⊢
     have b0:WA.cell? ⟨C,0,none⟩=some (.int .i64 hk.a):=by simp [World.cell?,hxA]
     have b1:WA.cell? ⟨C,1,none⟩=some (.bool hk.back):=by simp [World.cell?,hxA]
     have b2:WA.cell? ⟨C,2,none⟩=some (.int .i64 (-1)):=by simp [World.cell?,hxA]
     have HPA:Hid (Calls Tryz.prog 15 #[.string s,.agg #[.int .i64 ra,.int .i64 rl,.int .u8 lev,.int .i64 rwd,.int .i8 fin],.agg #[.int .i64 tab,.bool wideA,.int .i8 want,.bool join,.bool raw],.agg #[.int .i64 hk.a,.bool hk.back,.int .i64 (-1)]] WA fun e w'=>e=.returned (.int .i64 p)∧Below WA.heap.size WA w'):=lh (HBK.out▸HPL.out hk.a hk.back WA (HW.out WA HNA.out).1)
     clear y0 y1 y2 y3 y4 y5 y6 y7 y8 y9 hb9 hbA hxA hC h89 HH8 HN8
     obtain⟨y0,y1,y2,y3,y4,y5,y6,y7,y8,y9,r0,r1,r2,_⟩:=HKC.out WA HNA.out
     have d1:decide (p<last)=false:=decide_eq_false (by omega)
     have d1':¬ p<last:=by omega
     have d2:decide ((nc:Int)<p)=false:=decide_eq_false (by omega)
     have d2':¬ (nc:Int)<p:=by omega
     have d3:decide (gapI p xx<gapI hx xx)=false:=decide_eq_false (by omega)
     have d3':¬ gapI p xx<gapI hx xx:=by omega
     go_upto_region 17 with (first | (go_at_call 15;refine HPA.out.mono ?_;rintro e w10 ⟨rfl,hb10⟩;have HB10:=lh hb10;clear HPA hb10 y0 y1 y2 y3 y4 y5 y6 y7 y8 y9 r0 r1 r2 b0 b1 b2) | (go_at_call 16;refine (lfar_any _ _ (by omega) (by omega) _).mono ?_;rintro e w11 ⟨rfl,rfl⟩))
     have hN10:=HNA.out.trans (HB10.out.mono HNA.out.size)
     obtain⟨_,_,_,_,_,_,_,_,_,_,q0,q1,q2,_⟩:=HKC.out w10 hN10
     obtain⟨z0,z1,z2⟩:=HZ.out w10 (HW.out w10 hN10).2.2
     have HEQ:=fun w=>Tryz.eq_caret st.a (-1) h.a (-1) st.back h.back w
     have HNEXT:=lh (fun (fd':Bool) (hf:fd'=(fd||(decide ((st.a:Int)=h.a)&&decide (st.back=h.back)&&decide ((-1:Int) = -1))))=>(show ∀(W:World),Below w10.heap.size w10 W→(k+1≤n0∧k+1≤200∧(∀s',Q[k+1]? = some s'→p≤s'.x)∧(∀j,j<k+1→Q[j]? = some h→fd'=true)∧Below W6.heap.size W6 W) from fun W hWW =>
      ⟨by omega,by omega,fun s' hs'=>by have:=srt_get Q HF5.out k (k+1) st s' (by omega) HST1.out hs';omega,fun j hj hQj=>by
        rw [hf]
        by_cases hjk:j<k
        ·rw [HFD.out j hjk hQj];rfl
        ·obtain rfl:j=k:=by omega
         rw [HST1.out] at hQj
         obtain rfl:=Option.some.inj hQj
         simp,(HW.out W (hN10.trans (hWW.mono hN10.size))).2.2⟩))
     clear HKC HW HQC HNA HBK HPL HHT d1 d1' d2 d2' d3 d3' hgap s2 s3 HLA HFD hlp
     cases fd with
     | true =>
       go_upto_region 18 with (fail)
       go_quiet (fail)
       go_wp2_with (fail)
       go_roundw
       case rel=>exact⟨k+1,p,_,rfl,rfl,by go_num,HNEXT.out _ (by simp) _ (bl_drewN (Below.refl _ _) _)⟩
       case measure=>simp [intOf];omega
     | false =>
       go_upto_region 18 with (fail)
       go_quiet (fail)
       go_wp2_with (fail)
       go_roundw
       case rel=>exact⟨k+1,p,_,rfl,rfl,by go_num,HNEXT.out _ (by simp) _ (bl_drewN (Below.refl _ _) _)⟩
       case measure=>simp [intOf];omega
   | false =>
     have hbb:=Hb1.out
     simp only [Bool.and_eq_false_iff,Bool.or_eq_false_iff,decide_eq_false_iff_not] at hbb
     have HBw:=lh (HW6.out.trans (HBr.out.mono HW6.out.size))
     have dk4:decide ((0:Int)≤hx)=true:=decide_eq_true (by omega)
     have dk5:decide (hx≤(nc:Int))=true:=decide_eq_true (by omega)
     cases fd with
     | true =>
       go_wp2_with (fail)
       go_ret
       exact⟨rfl,hB▸HBw.out⟩
     | false =>
       have hor:(200:Int)<(n0:Int)∨(2000:Int)≤(s.size:Int):=by
        obtain⟨j,hj⟩:=List.mem_iff_getElem?.1 HK1.out
        have hjl:=(List.getElem?_eq_some_iff.1 hj).1
        have hq:=HQL.out
        have:¬ j<k:=fun hjk=>by have:=HFD.out j hjk hj;cases this
        omega
       by_cases g:(200:Int)<(n0:Int)
       ·have dg:decide ((200:Int)<(n0:Int))=true:=decide_eq_true g
        go_wp2_with (fail)
        go_ret
        exact⟨rfl,hB▸HBw.out⟩
       ·have dg:decide ((200:Int)<(n0:Int))=false:=decide_eq_false g
        have g2:(2000:Int)≤(s.size:Int):=by omega
        have dg2:decide ((2000:Int)≤(s.size:Int))=true:=decide_eq_true g2
        go_wp2_with (fail)
        go_ret
        exact⟨rfl,hB▸HBw.out⟩
end
end Go.Proofs.YtlmjbfncopbilaaGreatDoor
