/- Part 42 (merged by a program): lemmas of no further condition than each states. -/
import Derived.Test.YtlmjbfncopbilaaGreatDoorK40
import Derived.Test.YtlmjbfncopbilaaGreatDoorK41
namespace Go.Proofs.YtlmjbfncopbilaaGreatDoor
set_option linter.unusedVariables false
set_option linter.unusedSimpArgs false
section
open Go.RowKit Go.Proofs Go.Shelf
attribute [local go_sem] Oper.semAt_some
theorem wsum_le {L:List Pc} (h:∀p∈L,0≤p.wide∧p.wide≤19):0≤wsum L∧wsum L≤19*L.length:=by
 induction L with
 | nil=>exact⟨Int.le_refl _,by simp [wsum]⟩
 | cons p L ih =>
   have h1:=h p (List.mem_cons_self ..)
   have h2:=ih (fun q hq=>h q (List.mem_cons_of_mem _ hq))
   rw [wsum,List.length_cons]
   omega
theorem cellsF_cons (L:List Pc) (i:Nat) (t:List Int) (p:Pc) (h:L[i]? = some p):cellsF L ((i:Int)::t)=(if 0<p.wide then cellsP p else [])++cellsF L t:=by
 have hg:L.getD i default=p:=by rw [List.getD_eq_getElem?_getD,h];rfl
 rw [cellsF,Int.toNat_natCast,hg]
theorem ce_one (l:List Ce):∀u∈l.flatMap ceE.enc,u.oneCell'=true:=fun u hu=>by
 obtain⟨c,_,hc⟩:=List.mem_flatMap.1 hu
 simp only [ceE,List.mem_cons,List.not_mem_nil,or_false] at hc
 rcases hc with rfl | rfl | rfl | rfl | rfl | rfl <;> rfl
theorem two_boxes (w:World) (o1 o2:Obj):((w.alloc o1).alloc o2).heap[w.heap.size]? = some o1∧((w.alloc o1).alloc o2).heap[w.heap.size+1]? = some o2∧Below w.heap.size w ((w.alloc o1).alloc o2)∧((w.alloc o1).alloc o2).heap.size=w.heap.size+2:=by
 obtain⟨h1,h2,h3⟩:=two_alloc w o1 o2
 exact⟨h1,h2,h3,by rw [World.size_alloc,World.size_alloc]⟩
set_option maxRecDepth 100000 in
set_option maxHeartbeats 2000000 in
theorem Cells_any (s:ByteArray) (hs:s.size≤2097152) (ra rl lev rwd fin tab want:Int) (wideA join raw:Bool) (w:World) (hT:T8 w) (hD:DB w) (hlv:∀p∈lay2 s want join raw ra rl,p.level<256)
 (hgood:∀p∈layL s tab want wideA join raw ra rl rwd,GoodP p) :
 Calls Tryz.prog 12 #[.string s,rowA5 ra rl lev rwd fin,lookV tab want wideA join raw] w fun e w'=>∃a c,
  e=.returned (.slice a (cellsI (layI s tab want wideA join raw ra rl rwd)).length c)∧OwnS ceE 124 w' w.heap.size (.slice a (cellsI (layI s tab want wideA join raw ra rl rwd)).length c) (cellsI (layI s tab want wideA join raw ra rl rwd))∧Below w.heap.size w w':=by
 obtain⟨i5,hi5,hz5,ha5,hby5⟩:=info_parts (Tryz.info_cell)
 have hlvL:=layL_lv s tab want wideA join raw ra rl rwd hlv
 have hnL:=layL_max s tab want wideA join raw ra rl rwd hs
 have hwd:=layL_bd s tab want wideA join raw ra rl rwd
 have hsum:=lay3_sum s tab want wideA join raw ra rl rwd
 have hsl:(laySeen s want join raw ra rl).length=(layL s tab want wideA join raw ra rl rwd).length:=by unfold laySeen;rw [order_len,List.length_map,layL_len]
 have hsg:∀k,k<(layL s tab want wideA join raw ra rl rwd).length→∃j:Nat,j<(layL s tab want wideA join raw ra rl rwd).length∧(laySeen s want join raw ra rl)[k]? = some (j:Int):=fun k hk=>by
  unfold laySeen
  exact seen_get _ _ k (by rw [List.length_map,layL_len]) hk
 have HL1:=lh (fun (W:World) (h:Below w.heap.size w W)=>rLay_any s hs ra rl lev rwd fin tab want wideA join raw W (hT.below rfl h) (hD.below h) hlv)
 obtain⟨R,hR⟩:∃R,layI s tab want wideA join raw ra rl rwd=R:=⟨_,rfl⟩
 obtain⟨L,seen,fr,tt,bs,x⟩:=R
 have eL:layL s tab want wideA join raw ra rl rwd=L:=congrArg LaidR.l hR
 have es:laySeen s want join raw ra rl=seen:=congrArg LaidR.seen hR
 have ex:(lay3 s tab want wideA join raw ra rl rwd).2=x:=congrArg LaidR.wide hR
 rw [hR] at HL1 ⊢
 rw [eL] at hlvL hnL hwd hsum hsl hsg hgood
 rw [es] at hsl hsg
 rw [ex] at hsum
 obtain⟨hx0,hx1⟩:=wsum_le hwd
 rw [←hsum] at hx0 hx1
 obtain⟨xn,hxn⟩:∃xn:Nat,x=(xn:Int):=⟨x.toNat,by omega⟩
 subst hxn
 obtain⟨n,hn⟩:∃n,L.length=n:=⟨_,rfl⟩
 have hcI:cellsI ⟨L,seen,fr,tt,bs,(xn:Int)⟩=cellsF L seen:=rfl
 rw [hcI]
 have HLV:=lh hlvL
 have HWD:=lh hwd
 have HSG:=lh hsg
 have HGD:=lh hgood
 clear hsum hcI hR eL es ex hlvL hwd hsg hgood hlv hT hD
 go_enter Tryz.func12,Tryz.ntmps12
 unfold rowA5
 go_upto_region 1 with (fail)
 obtain⟨h0,h1,hb1,hs1⟩:=two_boxes w (.cells #[.int .i64 ra,.int .i64 rl,.int .u8 lev,.int .i64 rwd,.int .i8 fin] 24) (.cells #[.int .i64 tab,.bool wideA,.int .i8 want,.bool join,.bool raw] 26)
 generalize (w.alloc (.cells #[.int .i64 ra,.int .i64 rl,.int .u8 lev,.int .i64 rwd,.int .i8 fin] 24)).alloc (.cells #[.int .i64 tab,.bool wideA,.int .i8 want,.bool join,.bool raw] 26)=W1 at h0 h1 hb1 hs1 ⊢
 obtain⟨B,hB⟩:∃B,w.heap.size=B:=⟨_,rfl⟩
 have HB1:=lh hb1
 have HLA:=lh (HL1.out W1 hb1)
 rw [hB] at h0 h1 hs1 ⊢
 have b0:W1.cell? ⟨B,0,none⟩=some (.int .i64 ra):=by simp [World.cell?,h0]
 have b1:W1.cell? ⟨B,1,none⟩=some (.int .i64 rl):=by simp [World.cell?,h0]
 have b2:W1.cell? ⟨B,2,none⟩=some (.int .u8 lev):=by simp [World.cell?,h0]
 have b3:W1.cell? ⟨B,3,none⟩=some (.int .i64 rwd):=by simp [World.cell?,h0]
 have b4:W1.cell? ⟨B,4,none⟩=some (.int .i8 fin):=by simp [World.cell?,h0]
 have l0:W1.cell? ⟨B+1,0,none⟩=some (.int .i64 tab):=by simp [World.cell?,h1]
 have l1:W1.cell? ⟨B+1,1,none⟩=some (.bool wideA):=by simp [World.cell?,h1]
 have l2:W1.cell? ⟨B+1,2,none⟩=some (.int .i8 want):=by simp [World.cell?,h1]
 have l3:W1.cell? ⟨B+1,3,none⟩=some (.bool join):=by simp [World.cell?,h1]
 have l4:W1.cell? ⟨B+1,4,none⟩=some (.bool raw):=by simp [World.cell?,h1]
 clear h0 h1 hb1 HL1
 unfold rowA5 at HLA
 go_upto_region 2 with (go_at_call 46;refine HLA.out.mono ?_;rintro e w2 ⟨b,rfl,hL2,hb2,hbl2⟩)
 have HB2:=lh (HB1.out.trans (hbl2.mono (by omega)))
 clear b0 b1 b2 b3 b4 l0 l1 l2 l3 l4 hbl2 HLA
 obtain⟨la,lcap,va,vc,g1,g2,g3⟩:=hL2
 dsimp only at g1 g2 g3
 have d5:=g1.cells.2.2.2.2.2
 have hbl:=g1.lt
 obtain⟨W8,hmk,hown8,hg8⟩:=run_make_own (P:=Tryz.prog) w2 w2.heap.size 29 124 i5 _ 6 Tryz.underlying29 hi5 hz5 ha5 .i64 .i64 xn (by rw [hby5];omega) (by unfold maxLen;omega) (Nat.le_refl _)
 have hb8:Below w2.heap.size w2 W8:=(Below.refl w2.heap.size w2).grown hg8 (Nat.le_refl _) (fun k hk=>by cases hk)
 have H1:=lh g1
 have H2:=lh g2
 have H3:=lh g3
 obtain⟨ob0,hob0⟩:∃ob0,w2.heap.size=ob0:=⟨_,rfl⟩
 have HB8:=lh hb8
 rw [hob0] at hown8 hmk
 have HO8:=lh hown8
 clear g1 g2 g3 hown8 hg8 hb8
 go_upto_region 3 with (fail)
 clear d5 hmk
 have d1:=(H1.out.below HB8.out hbl).cells.2.1
 rw [hsl,hn] at d1
 go_upto_block 0 with (fail)
 clear d1
 have hb8n:=HB8.out.size
 go_wp2_with (fail)
 go_loopw [8,10,25] (fun u8 _ u25 wx=>∃(k:Nat) (done:List Ce) (a:Option Addr) (c:Nat),k≤n∧u25=.int .i64 k∧u8=.slice a done.length c∧done.length≤19*k∧OwnS ceE 124 wx ob0 (.slice a done.length c) done ∧
  Below ob0 w2 wx∧cellsF L seen=done++cellsF L (seen.drop k)) (fun _ _ u25 _=>n-(intOf u25).toNat)
 case atStart=>exact⟨0,[],some ⟨ob0,0,none⟩,xn,Nat.zero_le _,rfl,rfl,Nat.le_refl _,HO8.out,hob0▸HB8.out,by rw [List.drop_zero];rfl⟩
 case round =>
  obtain⟨k,done,a,c,hk,rfl,rfl,hdn,hO,hb,hcf⟩:=hrel
  have hbw:Below w2.heap.size w2 wr:=hob0▸hb
  have g1:=H1.out.below hbw hbl
  have g2:=H2.out.keep hbw
  have g3:=H3.out.below hbw
  have HO:=lh hO
  have HB:=lh hb
  have HCF:=lh hcf
  have hobr:ob0≤wr.heap.size:=by have:=hb.size;omega
  clear hO hb hcf HO8 hbw
  by_cases hlt:k<n
  ·obtain⟨j,hj,hsj⟩:=HSG.out k (by omega)
   obtain⟨p,hp⟩:∃p,L[j]? = some p:=⟨_,List.getElem?_eq_getElem (by omega)⟩
   have hpm:=List.mem_of_getElem? hp
   have hpw:=HWD.out p hpm
   have hpl:=HLV.out p hpm
   have hpg:=HGD.out p hpm
   have hds:seen.drop k=(j:Int)::seen.drop (k+1):=dropR_cons hsj
   have hcc:cellsF L seen=done++((if 0<p.wide then cellsP p else [])++cellsF L (seen.drop (k+1))):=by rw [HCF.out,hds,cellsF_cons L j _ p hp]
   obtain⟨G,eG,hGl,y0,y1,y2,y3,y4,y5,y6,y7,y8,y9⟩:=pc_cells g2 j p hp
   subst eG
   have ys:∃sg so,va=some ⟨sg,so,none⟩∧wr.cell? ⟨sg,so+k,none⟩=some (.int .i64 (j:Int)):=by
    rcases g3 with h | ⟨g,o,e,h1,h2⟩
    ·rw [h] at hsl;simp at hsl;omega
    ·have:=h2 k (by omega)
     refine⟨g,o,e,this.trans ?_⟩
     unfold ith
     rw [List.getD_eq_getElem?_getD,hsj]
     rfl
   obtain⟨sg,so,eva,ys⟩:=ys
   subst eva
   have d0:=g1.cells.1
   rw [hn] at d0
   have hnk:(k:Int)<(n:Int):=by omega
   have hjn:(j:Int)<(n:Int):=by omega
   have HCC:=lh hcc
   clear g1 g2 g3 hcc hds hsj hp hpm
   by_cases hw0:0<p.wide
   ·obtain⟨m,hm⟩:∃m:Nat,p.wide=m:=⟨p.wide.toNat,by omega⟩
    have hpc:=fun W=>pCells_any p m hm (by omega) (by omega) (by
     rcases (hpg hw0).2 with h | h
     ·exact .inl h
     ·exact .inr ⟨h.1,by have:=h.2;omega⟩) hpl W
    rw [hm] at hpc
    have HPC:=lh hpc
    have hcl:(cellsP p).length=m:=by rw [cellsP_len,hm];rfl
    rw [if_pos hw0] at HCC
    have hd2:done.length≤39845888:=by omega
    rw [hm] at y7 hw0
    clear hpc hpg
    go_wp2_with (first
     | (go_at_call 48;refine (HPC.out _).mono ?_;rintro e w5 ⟨pa,rfl,ho5,hb5⟩)
     | (at_builtin
        have hdp:=own_cells (xs:=(cellsP p).flatMap ceE.enc) (n:=m) (by unfold OwnS at ho5;rw [hcl] at ho5;exact ho5) (by omega)
        obtain⟨G5,eG5,hG5,_,hc5⟩:=hdp
        subst eG5
        refine wpList_append_own_at _ rfl _ _ 29 rfl ob0 124 i5 _ 6 48 Tryz.underlying29 hi5 hz5 ha5 hby5 rfl (by decide) _ done.length _ rfl (HO.out.keep hb5) ⟨G5,0,none⟩ m m ((cellsP p).flatMap ceE.enc) rfl (by rw [flatS_len,hcl];rfl) (fun j u hu=>by rw [Addr.add_lit,Nat.zero_add,hc5 j (by have:=(List.getElem?_eq_some_iff.1 hu).1;rw [flatS_len,hcl] at this;exact this)];exact hu) (ce_one _) (by unfold maxLen;omega) (by omega) (Nat.le_trans hobr hb5.size) ?_
        intro v' w6 ho6 hg6 _ _))
    replace hg6:w5.grownBy w6 (Value.slice a done.length c).ownBlock:=hg6
    have hol:=World.ownsRow.lt HO.out
    have hb6:Below ob0 wr w6:=(hb5.mono hobr).grown hg6 (Nat.le_trans hobr hb5.size) (fun q hq=>(hol q hq).1)
    obtain⟨a',c',hv',_,_⟩:=own_slice ho6
    subst hv'
    have ho6':OwnS ceE 124 w6 ob0 (.slice a' (done++cellsP p).length c') (done++cellsP p):=by
     unfold OwnS
     rw [List.length_append,hcl,List.flatMap_append]
     exact ho6
    go_roundw
    case rel=>exact⟨k+1,done++cellsP p,a',c',by omega,by go_num,by rw [List.length_append,hcl],by rw [List.length_append,hcl];omega,ho6',HB.out.trans hb6,by rw [HCC.out,List.append_assoc]⟩
    case measure=>simp [intOf];omega
   ·rw [if_neg hw0,List.nil_append] at HCC
    go_wp2_with (fail)
    go_roundw
    case rel=>exact⟨k+1,done,a,c,by omega,by go_num,rfl,by omega,HO.out,HB.out,HCC.out⟩
    case measure=>simp [intOf];omega
  ·obtain rfl:k=n:=by omega
   have hfin:cellsF L seen=done:=by rw [HCF.out,List.drop_eq_nil_of_le (by omega)];exact List.append_nil _
   rw [←hfin] at HO
   have hB0:w.heap.size≤ob0:=by have:=HB2.out.size;omega
   clear g1 g2 g3 hlt HCF
   go_wp2_with (fail)
   go_ret
   exact⟨a,c,by rw [hfin];rfl,HO.out.low (by omega),HB2.out.trans (HB.out.mono hB0)⟩
end
section
open Go.RowKit Go.Proofs Go.Shelf
attribute [local go_sem] Oper.semAt_some
set_option maxRecDepth 100000 in
set_option maxHeartbeats 4000000 in
theorem stops_any (b:Nat) (R:LaidR) (fin:Int) (w:World) (hL:LaidW w b R) (hbs:R.base<256) (hlv:∀p∈R.l,p.level<256) (hn:R.l.length≤2097152) (h20:(rawS R fin).length≤8388608) (hne:0<(rawS R fin).length) (hsx:smallX (rawS R fin)) :
 Calls Tryz.prog 47 #[.pointer (some ⟨b,0,none⟩),.int .i8 fin] w fun e w'=>∃G c,e=.returned (.slice (some ⟨G,0,none⟩) (rawS R fin).length c) ∧
  OwnS stE 91 w' w.heap.size (.slice (some ⟨G,0,none⟩) (rawS R fin).length c) (stopsI R fin)∧Below w.heap.size w w':=by
 obtain⟨cut,hcut0⟩:∃cut,cutB fin=cut:=⟨_,rfl⟩
 have hraw:rawS R fin=stopsF R cut R.l 0:=by unfold rawS;rw [hcut0]
 have hres:stopsI R fin=sortJ ((rawS R fin).length-1) 1 (rawS R fin):=rfl
 obtain⟨N,hN⟩:∃N,rawS R fin=N:=⟨_,rfl⟩
 rw [hN] at h20 hne hsx hraw hres ⊢
 have HRES:=lh hres
 have HRAW:=lh hraw
 have HSX:=lh hsx
 have HC0:=lh hcut0
 obtain⟨la,lcap,va,vc,g1,g2,g3⟩:=id hL
 obtain⟨n,hLn⟩:∃n,R.l.length=n:=⟨_,rfl⟩
 have hbl:=g1.lt
 rw [hLn] at g1
 have H1:=lh g1
 have H2:=lh g2
 clear hN hres hraw hsx hcut0 g1 g2 g3
 go_enter Tryz.func47,Tryz.ntmps47
 go_upto_region 2 with (fail)
 obtain⟨h0,h1,hb1,hs1⟩:=two_boxes w (.cells #[.pointer (some ⟨b,0,none⟩)] 87) (.cells #[.slice none 0 0] 86)
 generalize (w.alloc (.cells #[.pointer (some ⟨b,0,none⟩)] 87)).alloc (.cells #[.slice none 0 0] 86)=W1 at h0 h1 hb1 hs1 ⊢
 obtain⟨S0,hS0⟩:∃S0,w.heap.size=S0:=⟨_,rfl⟩
 rw [hS0] at h0 h1 hs1 hbl ⊢
 have hAd:∀cut,AdS w S0 b cut [] (W1.alloc (.cells #[.bool cut] 4)):=fun cut=>by
  have hba:=(Below.refl W1.heap.size W1).alloc (Nat.le_refl _) (.cells #[.bool cut] 4)
  have hx2:=World.alloc_heap_new W1 (.cells #[.bool cut] 4)
  rw [hs1] at hx2
  exact⟨(hba.block S0 (by omega)).trans h0,hx2,⟨none,0,(hba.block (S0+1) (by omega)).trans h1,OwnS.nil _ _ _⟩,(hS0▸hb1).trans (hba.mono (by omega))⟩
 have HAD:=lh hAd
 clear h0 h1 hb1 hAd
 go_cut [6] (fun v wx=>v=.pointer (some ⟨S0+2,0,none⟩)∧AdS w S0 b cut [] wx)
 case first =>
  have hs1':W1.heap.size=S0+2:=hs1
  by_cases f2:fin=2
  ·subst f2
   have hc:cut=true:=by rw [←HC0.out];rfl
   subst hc
   go_wp2_with (fail)
   go_meet
   exact⟨rfl,HAD.out _⟩
  ·have e2:(fin==2)=false:=by rw [beq_eq_false_iff_ne];exact f2
   by_cases f3:fin=3
   ·subst f3
    have hc:cut=true:=by rw [←HC0.out];rfl
    subst hc
    go_wp2_with (fail)
    go_meet
    exact⟨rfl,HAD.out _⟩
   ·have e3:(fin==3)=false:=by rw [beq_eq_false_iff_ne];exact f3
    have hc:cut=false:=by rw [←HC0.out];unfold cutB;rw [decide_eq_false f2,decide_eq_false f3];rfl
    subst hc
    go_wp2_with (fail)
    go_meet
    exact⟨rfl,HAD.out _⟩
 case rest =>
  obtain⟨rfl,hA⟩:=hcut
  have HA:=lh hA
  have HLB:Hid (∀W,Below S0 w W→W.cell? ⟨b,0,none⟩=some (.slice la n lcap)∧W.cell? ⟨b,3,none⟩=some (.int .i64 R.tt)):=lh fun W hb=>by
   have h:=(H1.out.below hb (by omega)).cells
   exact⟨h.1,h.2.2.2.1⟩
  obtain⟨d0,_⟩:=HLB.out wc hA.bel
  have k0:wc.cell? ⟨S0,0,none⟩=some (.pointer (some ⟨b,0,none⟩)):=by simp [World.cell?,hA.bw]
  clear hA HAD
  go_upto_block 0 with (fail)
  clear k0 d0
  go_wp2_with (fail)
  go_loopw [8,9,22] (fun _ _ u22 wx=>∃(k:Nat) (M:List St),k≤n∧u22=.int .i64 k∧M.length≤2*k∧N=M++stopsF R cut (R.l.drop k) k∧AdS w S0 b cut M wx) (fun _ _ u22 _=>n-(intOf u22).toNat)
  case atStart=>exact⟨0,[],Nat.zero_le _,rfl,Nat.le_refl _,by rw [List.drop_zero];exact HRAW.out,HA.out⟩
  case round =>
   obtain⟨k,M,hk,rfl,hml,hNM,hA⟩:=hrel
   have HAr:=lh hA
   have HNM:=lh hNM
   clear hNM HA
   by_cases hlt:k<n
   ·obtain⟨p,hp⟩:∃p,R.l[k]? = some p:=⟨_,List.getElem?_eq_getElem (by omega)⟩
    have hds:R.l.drop k=p::R.l.drop (k+1):=dropR_cons hp
    have hN2:N=(M++stopAt R cut k p.a)++stopsF R cut (R.l.drop (k+1)) (k+1):=by rw [HNM.out,hds,stopsF,List.append_assoc]
    have HN2:=lh hN2
    have hbw:Below w.heap.size w wr:=hS0▸hA.bel
    obtain⟨G,eG,hGl,y0,y1,y2,y3,y4,y5,y6,y7,y8,y9⟩:=pc_cells (H2.out.keep hbw) k p hp
    subst eG
    have hsl:=stopAt_len R cut k p.a
    have hkn:(k:Int)<(n:Int):=by omega
    have hwk:IntKind.i64.wrap ((k:Int)+1)=(k:Int)+1:=by rw [IntKind.wrap_i64];omega
    have HADD:Hid (∀W,AdS w S0 b cut M W→Calls Tryz.prog 89 #[.int .i64 k,.int .i64 p.a,.pointer (some ⟨S0,0,none⟩),.pointer (some ⟨S0+2,0,none⟩),.pointer (some ⟨S0+1,0,none⟩)] W fun e w'=>e=.returned (.tuple #[])∧AdS w S0 b cut (M++stopAt R cut k p.a) w') :=
     lh fun W h=>add_any w S0 b R cut M k p.a hS0 hL (by omega) hbs hlv hn (by omega) W h
    clear hA hN2 hds hp hbw
    go_upto_region 7 with (fail)
    have hb7:Below wr.heap.size wr (wr.alloc (.cells #[.int .i64 p.a,.int .i64 p.size,.int .i64 p.c0,.int .i64 p.c1,.int .u8 p.level,.string p.became,.string p.shown,.int .i64 p.wide,.int .i64 p.e0,.int .i64 p.e1] 98)):=(Below.refl _ _).alloc (Nat.le_refl _) _
    have hx7:=World.alloc_heap_new wr (.cells #[.int .i64 p.a,.int .i64 p.size,.int .i64 p.c0,.int .i64 p.c1,.int .u8 p.level,.string p.became,.string p.shown,.int .i64 p.wide,.int .i64 p.e0,.int .i64 p.e1] 98)
    have hA7:=HAr.out.below hb7
    generalize wr.alloc (.cells #[.int .i64 p.a,.int .i64 p.size,.int .i64 p.c0,.int .i64 p.c1,.int .u8 p.level,.string p.became,.string p.shown,.int .i64 p.wide,.int .i64 p.e0,.int .i64 p.e1] 98)=W7 at hb7 hx7 hA7 ⊢
    have z0:W7.cell? ⟨wr.heap.size,0,none⟩=some (.int .i64 p.a):=by simp [World.cell?,hx7]
    have HC7:=lh (HADD.out W7 hA7)
    clear y0 y1 y2 y3 y4 y5 y6 y7 y8 y9 hb7 hx7 hA7 HADD
    go_wp2_with (go_at_call 89;refine HC7.out.mono ?_;rintro e w8 ⟨rfl,hA8⟩)
    go_roundw
    case rel=>exact⟨k+1,M++stopAt R cut k p.a,by omega,by go_num,by rw [List.length_append];omega,HN2.out,hA8⟩
    case measure=>simp [intOf];omega
   ·obtain rfl:k=n:=by omega
    have hN2:N=M++stopAt R cut k R.tt:=by rw [HNM.out,List.drop_eq_nil_of_le (by omega),stopsF]
    have HN2:=lh hN2
    have HADD:Hid (∀W,AdS w S0 b cut M W→Calls Tryz.prog 89 #[.int .i64 k,.int .i64 R.tt,.pointer (some ⟨S0,0,none⟩),.pointer (some ⟨S0+2,0,none⟩),.pointer (some ⟨S0+1,0,none⟩)] W fun e w'=>e=.returned (.tuple #[])∧AdS w S0 b cut N w') :=
     lh fun W h=>HN2.out▸add_any w S0 b R cut M k R.tt hS0 hL (by omega) hbs hlv hn (by omega) W h
    clear hA hN2 HNM
    go_upto_region 9 with (fail)
    obtain⟨S,hSi,hSo⟩:∃S:World→Prop,(∀W:World,AdS w S0 b cut M W∨AdS w S0 b cut N W→S W)∧(∀W:World,S W→AdS w S0 b cut M W∨AdS w S0 b cut N W):=⟨fun W=>AdS w S0 b cut M W∨AdS w S0 b cut N W,fun _ h=>h,fun _ h=>h⟩
    have HSi:=lh hSi
    have hne':Nonempty (WIn S):=⟨⟨_,hSi _ (.inl HAr.out)⟩⟩
    have kp_a:∀q:WIn S,q.w.cell? ⟨S0,0,none⟩=some (.pointer (some ⟨b,0,none⟩))∧q.w.cell? ⟨b,0,none⟩=some (.slice la k lcap)∧q.w.cell? ⟨b,3,none⟩=some (.int .i64 R.tt):=fun q=>by
     rcases hSo _ q.h with h | h <;> exact⟨by simp [World.cell?,h.bw],HLB.out _ h.bel⟩
    have kp_0:∀q:WIn S,q.w.cell? ⟨S0,0,none⟩=some (.pointer (some ⟨b,0,none⟩)):=fun q=>(kp_a q).1
    have kp_1:∀q:WIn S,q.w.cell? ⟨b,0,none⟩=some (.slice la k lcap):=fun q=>(kp_a q).2.1
    have kp_3:∀q:WIn S,q.w.cell? ⟨b,3,none⟩=some (.int .i64 R.tt):=fun q=>(kp_a q).2.2
    clear hSi hSo kp_a
    refine wp_region_segP S [([0,1,2,3,4,5,6,7,8,9],10)] [] (by kernel_rfl) (by kernel_rfl) (HSi.out _ (.inl HAr.out.drew)) ?_
    simp only [segHP,opsAt,List.filterMap_cons,List.filterMap_nil,List.getElem?_toArray,List.getElem?_cons_zero,List.getElem?_cons_succ]
    show wpQuiet _ _ _ _ [_,_,_,_,_,_,_,_,_,_] _
    repeat (go_big_quiet_step (fail))
    refine wpQuiet_nil ?_
    intro K hK
    have HKK:=lh hK
    have HC7:=lh (HADD.out wr.drew HAr.out.drew)
    clear hK
    show wpList _ _ _ [_] _ _
    go_wp2_with (go_at_call 89;refine HC7.out.mono ?_;rintro e w8 ⟨rfl,hA8⟩)
    have HA8:=lh hA8
    refine HKK.out _ _ (HSi.out _ (.inr hA8)) ?_
    clear HKK HC7 HADD HSi kp_0 kp_1 kp_3 hne' hA8 HAr HN2
    refine wpQuiet_nil ?_
    refine NoPanic.normal ?_
    obtain⟨a,c,r1,r2⟩:=HA8.out.row
    obtain⟨G,eG,hG,hGl,_⟩:=own_cells (n:=N.length) r2 hne
    subst eG
    have k1:w8.cell? ⟨S0+1,0,none⟩=some (.slice (some ⟨G,0,none⟩) N.length c):=by simp [World.cell?,r1]
    have hz1:S0+1<w8.heap.size:=(Array.getElem?_eq_some_iff.1 r1).1
    have hz3:S0+3≤w8.heap.size:=by omega
    have HST:=lh (sortStableL_any G c N.length (S0+3) N rfl h20 HSX.out w8 r2 hz3)
    have HK9:Hid (∀w9,Below (S0+3) w8 w9→w9.cell? ⟨S0+1,0,none⟩=some (.slice (some ⟨G,0,none⟩) N.length c)):=lh fun w9 hb=>by
     have:=(hb.block (S0+1) (by omega)).trans r1
     simp [World.cell?,this]
    have HB8:=lh HA8.out.bel
    clear r1 r2 HA8
    go_wp2_with (go_at_call 90;refine HST.out.mono ?_;rintro e w9 ⟨rfl,hO9,hb9⟩;have k9:=HK9.out w9 hb9)
    go_ret
    exact⟨G,c,rfl,by rw [HRES.out];exact hO9.low (by omega),hS0▸HB8.out.trans (hb9.mono (by omega))⟩
end
section
open Go.RowKit Go.Proofs Go.Shelf
attribute [local go_sem] Oper.semAt_some
def caE:Enc St:=⟨fun c=>[.int .i64 c.a,.bool c.back,.int .i64 (-1)],3,fun _=>rfl⟩
theorem Tryz.info_caret:(Tryz.prog.info? 33).map (fun i=>(i.zero,i.size,i.bytes))=some (some (.agg #[.int .i64 0,.bool false,.int .i64 0]),3,24):=by kernel_rfl
set_option maxRecDepth 100000 in
set_option maxHeartbeats 2000000 in
theorem Stops_any (s:ByteArray) (hs:s.size≤2097152) (ra rl lev rwd fin tab want:Int) (wideA join raw:Bool) (w:World) (hT:T8 w) (hD:DB w) (hlv:∀p∈lay2 s want join raw ra rl,p.level<256)
 (h20:(rawS (layI s tab want wideA join raw ra rl rwd) fin).length≤8388608) (hne:0<(rawS (layI s tab want wideA join raw ra rl rwd) fin).length) (hsx:smallX (rawS (layI s tab want wideA join raw ra rl rwd) fin)) :
 Calls Tryz.prog 11 #[.string s,rowA5 ra rl lev rwd fin,lookV tab want wideA join raw] w fun e w'=>∃a c,
  e=.returned (.slice a (stopsI (layI s tab want wideA join raw ra rl rwd) fin).length c)∧OwnS caE 33 w' w.heap.size (.slice a (stopsI (layI s tab want wideA join raw ra rl rwd) fin).length c) (stopsI (layI s tab want wideA join raw ra rl rwd) fin)∧Below w.heap.size w w':=by
 obtain⟨i5,hi5,hz5,ha5,hby5⟩:=info_parts (Tryz.info_caret)
 have hbase:=baseR_lt s want raw
 have hlvL:=layL_lv s tab want wideA join raw ra rl rwd hlv
 have hnL:=layL_max s tab want wideA join raw ra rl rwd hs
 have HLA:=lh (fun (W:World) (h:Below w.heap.size w W)=>rLay_any s hs ra rl lev rwd fin tab want wideA join raw W (hT.below rfl h) (hD.below h) hlv)
 obtain⟨R,hR⟩:∃R,layI s tab want wideA join raw ra rl rwd=R:=⟨_,rfl⟩
 have eL:layL s tab want wideA join raw ra rl rwd=R.l:=congrArg LaidR.l hR
 have eb:baseR s want raw=R.base:=congrArg LaidR.base hR
 rw [hR] at HLA h20 hne hsx ⊢
 rw [eL] at hlvL hnL
 rw [eb] at hbase
 have HSP:=lh (fun (b:Nat) (W:World) (hL:LaidW W b R)=>stops_any b R fin W hL hbase hlvL hnL h20 hne hsx)
 have hlen:(stopsI R fin).length=(rawS R fin).length:=by unfold stopsI;rw [sortJ_len]
 obtain⟨Q,hQ⟩:∃Q,stopsI R fin=Q:=⟨_,rfl⟩
 rw [←hlen,hQ] at HSP
 rw [←hlen,hQ] at h20 hne
 rw [hQ]
 clear hR eL eb hlvL hlv hT hD hsx hlen hQ hbase
 go_enter Tryz.func11,Tryz.ntmps11
 unfold rowA5
 go_upto_region 2 with (fail)
 obtain⟨h0,h1,hb1,hs1⟩:=two_boxes w (.cells #[.int .i64 ra,.int .i64 rl,.int .u8 lev,.int .i64 rwd,.int .i8 fin] 24) (.cells #[.int .i64 tab,.bool wideA,.int .i8 want,.bool join,.bool raw] 26)
 generalize (w.alloc (.cells #[.int .i64 ra,.int .i64 rl,.int .u8 lev,.int .i64 rwd,.int .i8 fin] 24)).alloc (.cells #[.int .i64 tab,.bool wideA,.int .i8 want,.bool join,.bool raw] 26)=W1 at h0 h1 hb1 hs1 ⊢
 obtain⟨B,hB⟩:∃B,w.heap.size=B:=⟨_,rfl⟩
 have HB1:=lh hb1
 have HLA1:=lh (HLA.out W1.drew hb1.drew)
 rw [hB] at h0 h1 hs1 ⊢
 clear hb1 HLA
 unfold rowA5 at HLA1
 obtain⟨S,hSi,hSo⟩:∃S:World→Prop,(∀W:World,W.heap[B]? = some (.cells #[.int .i64 ra,.int .i64 rl,.int .u8 lev,.int .i64 rwd,.int .i8 fin] 24 (0,0))→W.heap[B+1]? = some (.cells #[.int .i64 tab,.bool wideA,.int .i8 want,.bool join,.bool raw] 26 (0,0))→S W) ∧
  (∀W:World,S W→W.heap[B]? = some (.cells #[.int .i64 ra,.int .i64 rl,.int .u8 lev,.int .i64 rwd,.int .i8 fin] 24 (0,0))∧W.heap[B+1]? = some (.cells #[.int .i64 tab,.bool wideA,.int .i8 want,.bool join,.bool raw] 26 (0,0))):=⟨fun W=>_∧_,fun _ h h'=>⟨h,h'⟩,fun _ h=>h⟩
 have HSi:=lh hSi
 have hne':Nonempty (WIn S):=⟨⟨_,hSi _ h0 h1⟩⟩
 have b0:∀q:WIn S,q.w.cell? ⟨B,0,none⟩=some (.int .i64 ra):=fun q=>by simp [World.cell?,(hSo _ q.h).1]
 have b1:∀q:WIn S,q.w.cell? ⟨B,1,none⟩=some (.int .i64 rl):=fun q=>by simp [World.cell?,(hSo _ q.h).1]
 have b2:∀q:WIn S,q.w.cell? ⟨B,2,none⟩=some (.int .u8 lev):=fun q=>by simp [World.cell?,(hSo _ q.h).1]
 have b3:∀q:WIn S,q.w.cell? ⟨B,3,none⟩=some (.int .i64 rwd):=fun q=>by simp [World.cell?,(hSo _ q.h).1]
 have b4:∀q:WIn S,q.w.cell? ⟨B,4,none⟩=some (.int .i8 fin):=fun q=>by simp [World.cell?,(hSo _ q.h).1]
 have l0:∀q:WIn S,q.w.cell? ⟨B+1,0,none⟩=some (.int .i64 tab):=fun q=>by simp [World.cell?,(hSo _ q.h).2]
 have l1:∀q:WIn S,q.w.cell? ⟨B+1,1,none⟩=some (.bool wideA):=fun q=>by simp [World.cell?,(hSo _ q.h).2]
 have l2:∀q:WIn S,q.w.cell? ⟨B+1,2,none⟩=some (.int .i8 want):=fun q=>by simp [World.cell?,(hSo _ q.h).2]
 have l3:∀q:WIn S,q.w.cell? ⟨B+1,3,none⟩=some (.bool join):=fun q=>by simp [World.cell?,(hSo _ q.h).2]
 have l4:∀q:WIn S,q.w.cell? ⟨B+1,4,none⟩=some (.bool raw):=fun q=>by simp [World.cell?,(hSo _ q.h).2]
 have H0:=lh h0
 have H1:=lh h1
 clear hSi hSo
 refine wp_region_segP S [([0,1,2,4,5,8],3),([],6)] [7] (by kernel_rfl) (by kernel_rfl) (HSi.out _ h0 h1) ?_
 simp only [segHP,opsAt,List.filterMap_cons,List.filterMap_nil,List.getElem?_toArray,List.getElem?_cons_zero,List.getElem?_cons_succ]
 clear h0 h1
 show wpQuiet _ _ _ _ [_,_,_,_,_,_] _
 repeat (go_big_quiet_step (fail))
 refine wpQuiet_nil ?_
 intro K hK
 have HKK:=lh hK
 clear hK
 show wpList _ _ _ [_] _ _
 go_wp2_with (go_at_call 46;refine HLA1.out.mono ?_;rintro e w2 ⟨b,rfl,hL2,hbb,hb2⟩)
 have HB2:=lh (HB1.out.drew.trans (hb2.mono HB1.out.size))
 have e0:=(hb2.block B (by show B<W1.heap.size;omega)).trans H0.out
 have e1:=(hb2.block (B+1) (by show B+1<W1.heap.size;omega)).trans H1.out
 have HS2:=lh (HSP.out b w2 hL2)
 have hz2:B+2≤w2.heap.size:=by have:=hb2.size;have h:W1.drew.heap.size=W1.heap.size:=rfl;omega
 refine HKK.out _ _ (HSi.out _ e0 e1) ?_
 clear HKK hb2 HLA1 HSP
 show wpQuiet _ _ _ _ [] _
 refine wpQuiet_nil ?_
 intro K hK
 have HKK:=lh hK
 clear hK
 show wpList _ _ _ [_] _ _
 go_wp2_with (go_at_call 47;refine HS2.out.mono ?_;rintro e w3 ⟨G,c,rfl,hO3,hb3⟩)
 have g0:=(hb3.block B (by omega)).trans e0
 have g1:=(hb3.block (B+1) (by omega)).trans e1
 refine HKK.out _ _ (HSi.out _ g0 g1) ?_
 have HB3:=lh (HB2.out.trans (hb3.mono (by omega)))
 have HO3:=lh hO3
 have hz3:w2.heap.size≤w3.heap.size:=hb3.size
 clear HKK HS2 HSi b0 b1 b2 b3 b4 l0 l1 l2 l3 l4 e0 e1 g0 g1 hb3 hO3
 show wpQuiet _ _ _ _ [_] _
 repeat (go_big_quiet_step (fail))
 refine wpQuiet_nil ?_
 refine NoPanic.normal ?_
 obtain⟨n,hn⟩:∃n,Q.length=n:=⟨_,rfl⟩
 clear hne'
 have hQn:∀k,k<n→∃q,Q[k]? = some q:=fun k hk=>⟨_,List.getElem?_eq_getElem (by omega)⟩
 have hHO:∀W,Below w3.heap.size w3 W→OwnS stE 91 W w2.heap.size (.slice (some ⟨G,0,none⟩) n c) Q:=fun W hb=>by have:=HO3.out.keep hb;rw [hn] at this;exact this
 have HHO:=lh hHO
 clear hHO
 rw [hn] at h20 hne
 rw [hn]
 go_upto_block 0 with (fail)
 go_wp2_with (fail)
 go_loopw [7,9,18] (fun u7 _ u18 wx=>∃(k:Nat) (a:Option Addr) (c':Nat),k≤n∧u18=.int .i64 k∧u7=.slice a k c'∧OwnS caE 33 wx w3.heap.size (.slice a (Q.take k).length c') (Q.take k)∧Below w3.heap.size w3 wx) (fun _ _ u18 _=>n-(intOf u18).toNat)
 case atStart=>exact⟨0,none,0,Nat.zero_le _,by rfl,rfl,OwnS.nil _ _ _,Below.refl _ _⟩
 case round =>
  obtain⟨k,a,c',hk,rfl,rfl,hO,hb⟩:=hrel
  have HO:=lh hO
  have HB:=lh hb
  clear hO
  by_cases hlt:k<n
  ·obtain⟨q,hq⟩:=hQn k hlt
   have htk:(Q.take k).length=k:=by rw [List.length_take];omega
   have htk2:Q.take (k+1)=Q.take k++[q]:=take_snoc hq
   obtain⟨_,hGl,y0,y1,y2,y3,_⟩:=st_cells hn (HHO.out wr hb) k q hq
   have hkn:(k:Int)<(n:Int):=by omega
   have hwk:IntKind.i64.wrap ((k:Int)+1)=(k:Int)+1:=by rw [IntKind.wrap_i64];omega
   have hbz:w3.heap.size≤wr.heap.size:=hb.size
   rw [htk] at HO
   clear hb hq
   go_upto_region 5 with (fail)
   have hb5:Below wr.heap.size wr (wr.alloc (.cells #[.int .i64 q.a,.bool q.back,.int .i64 (-1),.int .i64 q.x] 91)):=(Below.refl _ _).alloc (Nat.le_refl _) _
   have hx5:=World.alloc_heap_new wr (.cells #[.int .i64 q.a,.bool q.back,.int .i64 (-1),.int .i64 q.x] 91)
   generalize wr.alloc (.cells #[.int .i64 q.a,.bool q.back,.int .i64 (-1),.int .i64 q.x] 91)=W5 at hb5 hx5 ⊢
   have z0:W5.cell? ⟨wr.heap.size,0,none⟩=some (.int .i64 q.a):=by simp [World.cell?,hx5]
   have z1:W5.cell? ⟨wr.heap.size,1,none⟩=some (.bool q.back):=by simp [World.cell?,hx5]
   have z2:W5.cell? ⟨wr.heap.size,2,none⟩=some (.int .i64 (-1)):=by simp [World.cell?,hx5]
   have hO5:W5.ownsRow w3.heap.size 33 3 (.slice a k c') k ((Q.take k).flatMap caE.enc):=by
    have h:=HO.out.keep hb5
    unfold OwnS at h
    rw [htk] at h
    exact h
   have HO5:=lh hO5
   have HB5:=lh (HB.out.trans (hb5.mono hbz))
   have hsz5:=hb5.size
   have HAL:=lh (World.ownsRow.alloc hO5 (.cells #[.int .i64 q.a,.bool q.back,.int .i64 (-1)] 33))
   clear hb5 hx5 hO5 y0 y1 y2 y3
   go_wp2_with (at_builtin;refine wpList_append_own_at _ rfl _ _ 27 rfl w3.heap.size 33 i5 _ 3 24 Tryz.underlying27 hi5 hz5 ha5 hby5 rfl (by decide) _ k _ rfl HAL.out ⟨W5.heap.size,0,none⟩ 1 1 [.int .i64 q.a,.bool q.back,.int .i64 (-1)] rfl rfl (newS _ _ _) (by simp [Value.oneCell']) (by unfold maxLen;omega) (by omega) (by simp;omega) ?_;intro v' w8 ho8 hg8 _ _)
   replace hg8:(W5.alloc (.cells #[.int .i64 q.a,.bool q.back,.int .i64 (-1)] 33)).grownBy w8 (Value.slice a k c').ownBlock:=hg8
   have hol:=World.ownsRow.lt HO5.out
   have hb8:Below w3.heap.size w3 w8:=(HB5.out.alloc (by omega) _).grown hg8 (by simp;omega) (fun j hj=>(hol j hj).1)
   obtain⟨a',c'',hv',_,_⟩:=own_slice ho8
   subst hv'
   have ho9:OwnS caE 33 w8 w3.heap.size (.slice a' (Q.take (k+1)).length c'') (Q.take (k+1)):=by
    unfold OwnS
    rw [htk2,List.length_append,htk,List.flatMap_append,List.flatMap_singleton]
    exact ho8
   go_roundw
   case rel=>exact⟨k+1,a',c'',by omega,by go_num,rfl,ho9,hb8⟩
   case measure=>simp [intOf];omega
  ·obtain rfl:k=n:=by omega
   have hta:Q.take k=Q:=List.take_of_length_le (by omega)
   rw [hta] at HO
   clear hb hlt
   go_wp2_with (fail)
   go_ret
   exact⟨a,c',by rw [hn];rfl,HO.out.low (by have:=HB2.out.size;omega),HB3.out.trans (HB.out.mono (by have:=HB2.out.size;omega))⟩
end
end Go.Proofs.YtlmjbfncopbilaaGreatDoor
