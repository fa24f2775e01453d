/- Part 36 (merged by a program): lemmas of no further condition than each states. -/
import Derived.Test.YtlmjbfncopbilaaGreatDoorK35
namespace Go.Proofs.YtlmjbfncopbilaaGreatDoor
set_option linter.unusedVariables false
set_option linter.unusedSimpArgs false
section
open Go.RowKit Go.Proofs Go.Shelf
attribute [local go_sem] Oper.semAt_some
def LaidW (W:World) (b:Nat) (R:LaidR):Prop :=
 ∃(la:Option Addr) (lcap:Nat) (va:Option Addr) (vc:Nat),LdB W b (.slice la R.l.length lcap) (.slice va R.seen.length vc) R.fr R.tt R.base R.wide ∧
   OwnS pcE 98 W (b+1) (.slice la R.l.length lcap) R.l∧Rd .i64 W va R.seen
theorem LaidW.below {W W':World} {b:Nat} {R:LaidR} (h:LaidW W b R) (hb:Below W.heap.size W W'):LaidW W' b R:=by
 obtain⟨la,lcap,va,vc,h1,h2,h3⟩:=h
 exact⟨la,lcap,va,vc,h1.below hb h1.lt,h2.keep hb,h3.below hb⟩
theorem own_low {α:Type} {E:Enc α} {e:Nat} {W W':World} {base m:Nat} {v:Value} {l:List α} (h:OwnS E e W base v l) (hv:∀g,v.ownBlock=some g→g<m) (hb:Below m W W'):OwnS E e W' base v l:=by
 refine⟨h.1,?_⟩
 rcases h.2 with h1 | ⟨g,cap,cur,h1,h2,h3,h4⟩
 ·exact .inl h1
 ·exact .inr ⟨g,cap,cur,h1,h2,(hb.block g (hv g (by rw [h1];rfl))).trans h3,h4⟩
structure LoS (w:World) (b:Nat) (lv sv:Value) (fr tt bs:Nat) (wide:Int) (M:List Pc) (ob:Nat) (oa:Option Addr) (oc:Nat) (os:List Int) (W:World):Prop where
 ch:ChS w b lv sv fr tt bs wide M W
 out:OutAt .u8 5 W ob oa oc os
 sz:ob≤W.heap.size
section
variable {w W W':World} {b:Nat} {lv sv:Value} {fr tt bs:Nat} {wide:Int} {M:List Pc} {ob:Nat} {oa:Option Addr} {oc:Nat} {os:List Int}
theorem LoS.drew (h:LoS w b lv sv fr tt bs wide M ob oa oc os W):LoS w b lv sv fr tt bs wide M ob oa oc os W.drew:=⟨h.ch.drew,h.out,h.sz⟩
theorem LoS.drewN (h:LoS w b lv sv fr tt bs wide M ob oa oc os W) (n:Nat):LoS w b lv sv fr tt bs wide M ob oa oc os (W.drewN n):=⟨⟨h.ch.ld,h.ch.own,bl_drewN h.ch.bel n⟩,h.out,h.sz⟩
theorem LoS.below (h:LoS w b lv sv fr tt bs wide M ob oa oc os W) (hb:Below W.heap.size W W'):LoS w b lv sv fr tt bs wide M ob oa oc os W':=⟨h.ch.below hb,h.out.keep hb,Nat.le_trans h.sz hb.size⟩
end
theorem LoS.set {w W:World} {b G cap:Nat} {sv:Value} {fr tt bs:Nat} {wide:Int} {M:List Pc} {ob:Nat} {oa:Option Addr} {oc:Nat} {os:List Int} {n:Nat} (h:LoS w b (.slice (some ⟨G,0,none⟩) n cap) sv fr tt bs wide M ob oa oc os W) (hn:M.length=n) (hG:G<ob) (i:Nat) (p:Pc) (hp:M[i]? = some p) (x:ByteArray) (y:Int) :
 LoS w b (.slice (some ⟨G,0,none⟩) n cap) sv fr tt bs wide (M.set i { p with shown:=x,wide:=y }) ob oa oc os ((W.setCell ⟨G,i*10+6,none⟩ (.string x)).setCell ⟨G,i*10+7,none⟩ (.int .i64 y)):=by
 subst hn
 have hil:=(List.getElem?_eq_some_iff.1 hp).1
 have hGb:=World.ownsRow.lt h.ch.own G rfl
 have h1:=OwnS.set (cap:=cap) h.ch.own i p { p with shown:=x } hp 6 (.string x) (by decide) rfl
 have h2:=OwnS.set (cap:=cap) h1 i { p with shown:=x } { p with shown:=x,wide:=y } (by rw [List.getElem?_set];simp [hil]) 7 (.int .i64 y) (by decide) rfl
 rw [List.set_set,List.length_set] at h2
 refine⟨⟨box_other (box_other h.ch.ld (by omega)) (by omega),h2,?_⟩,?_,by have:=h.sz;simp;omega⟩
 ·exact (h.ch.bel.setCell (p:=⟨G,i*10+6,none⟩) (show b≤G by omega) _).setCell (p:=⟨G,i*10+7,none⟩) (show b≤G by omega) _
 ·exact row_other (row_other h.out (fun g hg=>by have:=(World.ownsRow.lt h.out g hg).1;omega)) (fun g hg=>by have:=(World.ownsRow.lt h.out g hg).1;omega)
theorem LoS.setx {w W:World} {b:Nat} {lv sv:Value} {fr tt bs:Nat} {wide:Int} {M:List Pc} {ob:Nat} {oa:Option Addr} {oc:Nat} {os:List Int} (h:LoS w b lv sv fr tt bs wide M ob oa oc os W) (hb:b<ob) (y:Int) :
 LoS w b lv sv fr tt bs y M ob oa oc os (W.setCell ⟨b,5,none⟩ (.int .i64 y)) :=
 ⟨⟨h.ch.ld.set5 y,h.ch.own.other (fun g hg=>by have:=(World.ownsRow.lt h.ch.own g hg).1;omega),bl_set h.ch.bel _ _⟩,row_other h.out (fun g hg=>by have:=(World.ownsRow.lt h.out g hg).1;omega),by have:=h.sz;simp;omega⟩
theorem ChS.setE {w W:World} {b G cap:Nat} {sv:Value} {fr tt bs:Nat} {wide:Int} {M:List Pc} {n:Nat} (h:ChS w b (.slice (some ⟨G,0,none⟩) n cap) sv fr tt bs wide M W) (hn:M.length=n) (i:Nat) (p:Pc) (hp:M[i]? = some p) (x y:Int) :
 ChS w b (.slice (some ⟨G,0,none⟩) n cap) sv fr tt bs wide (M.set i { p with e0:=x,e1:=y }) ((W.setCell ⟨G,i*10+8,none⟩ (.int .i64 x)).setCell ⟨G,i*10+8+1,none⟩ (.int .i64 y)):=by
 subst hn
 have hil:=(List.getElem?_eq_some_iff.1 hp).1
 have hGb:=World.ownsRow.lt h.own G rfl
 have h1:=OwnS.set (cap:=cap) h.own i p { p with e0:=x } hp 8 (.int .i64 x) (by decide) rfl
 have h2:=OwnS.set (cap:=cap) h1 i { p with e0:=x } { p with e0:=x,e1:=y } (by rw [List.getElem?_set];simp [hil]) 9 (.int .i64 y) (by decide) rfl
 rw [List.set_set,List.length_set] at h2
 refine⟨box_other (box_other h.ld (by omega)) (by omega),h2,?_⟩
 exact (h.bel.setCell (p:=⟨G,i*10+8,none⟩) (show b≤G by omega) _).setCell (p:=⟨G,i*10+8+1,none⟩) (show b≤G by omega) _
theorem three_alloc (w:World) (o1 o2 o3:Obj):(((w.alloc o1).alloc o2).alloc o3).heap[w.heap.size]? = some o1∧(((w.alloc o1).alloc o2).alloc o3).heap[w.heap.size+1]? = some o2∧(((w.alloc o1).alloc o2).alloc o3).heap[w.heap.size+2]? = some o3 ∧
 Below w.heap.size w (((w.alloc o1).alloc o2).alloc o3)∧(((w.alloc o1).alloc o2).alloc o3).heap.size=w.heap.size+3:=by
 obtain⟨h1,h2,h3⟩:=two_alloc w o1 o2
 have hb:=(Below.refl ((w.alloc o1).alloc o2).heap.size ((w.alloc o1).alloc o2)).alloc (Nat.le_refl _) o3
 have hs:((w.alloc o1).alloc o2).heap.size=w.heap.size+2:=by rw [World.size_alloc,World.size_alloc]
 refine⟨(hb.block _ (by omega)).trans h1,(hb.block _ (by omega)).trans h2,?_,h3.trans (hb.mono (by omega)),by rw [World.size_alloc,hs]⟩
 have h4:=World.alloc_heap_new ((w.alloc o1).alloc o2) o3
 rw [hs] at h4
 exact h4
set_option maxRecDepth 100000 in
set_option maxHeartbeats 4000000 in
theorem rLay_any (s:ByteArray) (hs:s.size≤2097152) (ra rl lev rwd fin tab want:Int) (wideA join raw:Bool) (w:World) (hT:T8 w) (hD:DB w) (hlv:∀p∈lay2 s want join raw ra rl,p.level<256) :
 Calls Tryz.prog 46 #[.string s,rowA5 ra rl lev rwd fin,lookV tab want wideA join raw] w fun e w'=>∃b,e=.returned (.pointer (some ⟨b,0,none⟩)) ∧
  LaidW w' b (layI s tab want wideA join raw ra rl rwd)∧w.heap.size≤b∧Below w.heap.size w w':=by
 obtain⟨hft,htt,hfl,hfc,hlast⟩:=found_facts s ra rl
 have hl2:=lay2_get s hs want join raw ra rl
 obtain⟨N,hN⟩:∃N,layI s tab want wideA join raw ra rl rwd=N:=⟨_,rfl⟩
 have hg3:Tryz.lays197_ren.g 3<w.heap.size:=cell_lt (hT.1 0 (by omega))
 have hg4:Tryz.lays197_ren.g 4<w.heap.size:=cell_lt (hT.2 0 (by omega)).1
 rw [hN]
 obtain⟨F0,hF0⟩:∃F0,foundI s (rowFr s ra) (rowTo s ra rl)=F0:=⟨_,rfl⟩
 obtain⟨fr,hfr⟩:∃fr,rowFr s ra=fr:=⟨_,rfl⟩
 obtain⟨tt,htt2⟩:∃tt,rowTo s ra rl=tt:=⟨_,rfl⟩
 have HFI:=fun b sv base wide W=>rFind_any s hs ra rl lev rwd fin b sv base wide W
 rw [hF0,hfr,htt2] at HFI hfc
 rw [hF0,hfr] at hlast
 rw [hF0] at hfl
 rw [hfr,htt2] at hft
 rw [htt2] at htt
 go_enter Tryz.func46,Tryz.ntmps46
 unfold rowA5
 go_upto_region 2 with (fail)
 obtain⟨h0,h1,h2,hb1,hs1⟩:=three_alloc w (.cells #[.int .i64 ra,.int .i64 rl,.int .u8 lev,.int .i64 rwd,.int .i8 fin] 24) (.cells #[.int .i64 tab,.bool wideA,.int .i8 want,.bool join,.bool raw] 26) (.cells #[.slice none 0 0,.slice none 0 0,.int .i64 0,.int .i64 0,.int .u8 0,.int .i64 0] 95)
 generalize ((w.alloc (.cells #[.int .i64 ra,.int .i64 rl,.int .u8 lev,.int .i64 rwd,.int .i8 fin] 24)).alloc (.cells #[.int .i64 tab,.bool wideA,.int .i8 want,.bool join,.bool raw] 26)).alloc (.cells #[.slice none 0 0,.slice none 0 0,.int .i64 0,.int .i64 0,.int .u8 0,.int .i64 0] 95)=W1 at h0 h1 h2 hb1 hs1 ⊢
 obtain⟨B,hB⟩:∃B,w.heap.size=B:=⟨_,rfl⟩
 rw [hB] at h0 h1 h2 hs1 hg3 hg4 ⊢
 rw [show B+1+1=B+2 from rfl]
 have hT1:=hT.below rfl hb1
 have hD1:DB W1:=hD.below hb1
 have hL1:LdB W1 (B+2) (.slice none 0 0) (.slice none 0 0) 0 0 0 0:=h2
 have hdl:5<B:=by have:=cell_lt hD;omega
 have HX:Hid (∀W,Below (B+2) W1 W→T8 W∧DB W∧W.heap[B]? = some (.cells #[.int .i64 ra,.int .i64 rl,.int .u8 lev,.int .i64 rwd,.int .i8 fin] 24 (0,0))∧W.heap[B+1]? = some (.cells #[.int .i64 tab,.bool wideA,.int .i8 want,.bool join,.bool raw] 26 (0,0))) :=
  lh fun W hb=>⟨T8.keep hT1 (by omega) (by omega) hb,cell_bl hb (by show 5<B+2;omega) hD1,(hb.block _ (by omega)).trans h0,(hb.block _ (by omega)).trans h1⟩
 have HFI':=lh (HFI (B+2) (.slice none 0 0) 0 0 W1 hT1 (by omega) (by omega) hL1)
 have b0:W1.cell? ⟨B,0,none⟩=some (.int .i64 ra):=by simp [World.cell?,h0]
 have b1:W1.cell? ⟨B,1,none⟩=some (.int .i64 rl):=by simp [World.cell?,h0]
 have b2:W1.cell? ⟨B,2,none⟩=some (.int .u8 lev):=by simp [World.cell?,h0]
 have b3:W1.cell? ⟨B,3,none⟩=some (.int .i64 rwd):=by simp [World.cell?,h0]
 have b4:W1.cell? ⟨B,4,none⟩=some (.int .i8 fin):=by simp [World.cell?,h0]
 clear h0 h1 h2 hT hD hT1 hD1 HFI hL1
 have HB1:=lh hb1
 have HL2:=lh hl2
 have HFC:=lh hfc
 have HLV:=lh hlv
 clear hb1 hl2 hfc hlv
 unfold rowA5 at HFI'
 go_upto_region 3 with (go_at_call 83;refine HFI'.out.mono ?_;rintro e w2 ⟨rfl,lv,hL2,hO2,hb2⟩)
 clear b0 b1 b2 b3 b4 HFI'
 rw [hs1,show B+3=B+2+1 from rfl] at hO2
 obtain⟨hT2,hD2,hr2,hk2⟩:=HX.out w2 hb2
 obtain⟨L1,hL1d⟩:∃L1,levelsI s want raw fr F0=L1:=⟨_,rfl⟩
 have HLE:=lh (rLev_any s hs tab want wideA join raw (B+2) lv (.slice none 0 0) fr tt 0 F0 w2 hL2 hO2 (by omega) (by omega) (fun i p hp=>(HFC.out i p hp).2.2.2.2) hlast)
 rw [hL1d] at HLE
 have hl1:∀(i:Nat) (p:Pc),L1[i]? = some p→p.c0<p.c1∧p.c1≤(runesI (s.extract fr tt)).length∧p.a+p.size≤s.size∧p.level<256:=by
  intro i p hp
  have hmap:L1.map (fun p=>(p.a,p.size,p.c0,p.c1))=F0.map (fun p=>(p.a,p.size,p.c0,p.c1)):=by rw [←hL1d];exact levels_map _ (fun _ _=>rfl) s want raw fr F0
  obtain⟨q,hq,e⟩:=mem_map_eq hmap (List.mem_of_getElem? hp)
  obtain⟨j,hj⟩:=List.mem_iff_getElem?.1 hq
  obtain⟨g1,g2,g3,_,_⟩:=HFC.out j q hj
  simp only [Prod.mk.injEq] at e
  refine⟨by omega,by omega,by omega,?_⟩
  have hm:changeP s (madeI s join fr tt) p∈lay2 s want join raw ra rl:=by
   unfold lay2
   rw [hF0,hfr,htt2,hL1d]
   exact List.mem_map_of_mem (List.mem_of_getElem? hp)
  have h256:=HLV.out _ hm
  exact h256
 have hn1:L1.length≤2097152:=by
  have:=congrArg List.length (levels_map (fun p=>p.a) (fun _ _=>rfl) s want raw fr F0)
  rw [hL1d,List.length_map,List.length_map] at this
  omega
 obtain⟨bs,hbs⟩:∃bs,baseR s want raw=bs:=⟨_,rfl⟩
 rw [hbs] at HLE
 have HL1:=lh hl1
 have b0:w2.cell? ⟨B+1,0,none⟩=some (.int .i64 tab):=by simp [World.cell?,hk2]
 have b1:w2.cell? ⟨B+1,1,none⟩=some (.bool wideA):=by simp [World.cell?,hk2]
 have b2:w2.cell? ⟨B+1,2,none⟩=some (.int .i8 want):=by simp [World.cell?,hk2]
 have b3:w2.cell? ⟨B+1,3,none⟩=some (.bool join):=by simp [World.cell?,hk2]
 have b4:w2.cell? ⟨B+1,4,none⟩=some (.bool raw):=by simp [World.cell?,hk2]
 have HB2:=lh hb2
 clear hL2 hO2 hb2 hT2 hD2 hr2 hk2 hl1
 go_upto_region 4 with (go_at_call 84;refine HLE.out.mono ?_;rintro e w3 ⟨rfl,hL3,hO3,hb3⟩)
 clear b0 b1 b2 b3 b4 HLE
 have hb3':=HB2.out.trans hb3
 obtain⟨hT3,hD3,hr3,hk3⟩:=HX.out w3 hb3'
 have HCG:=lh (rChg_any s hs tab want wideA join raw (B+2) lv (.slice none 0 0) fr tt bs 0 L1 w3 hL3 hO3 hT3 (by omega) (by omega) hft htt hn1 HL1.out)
 obtain⟨L2,hL2d⟩:∃L2,L1.map (changeP s (madeI s join fr tt))=L2:=⟨_,rfl⟩
 rw [hL2d] at HCG
 have b0:w3.cell? ⟨B+1,0,none⟩=some (.int .i64 tab):=by simp [World.cell?,hk3]
 have b1:w3.cell? ⟨B+1,1,none⟩=some (.bool wideA):=by simp [World.cell?,hk3]
 have b2:w3.cell? ⟨B+1,2,none⟩=some (.int .i8 want):=by simp [World.cell?,hk3]
 have b3:w3.cell? ⟨B+1,3,none⟩=some (.bool join):=by simp [World.cell?,hk3]
 have b4:w3.cell? ⟨B+1,4,none⟩=some (.bool raw):=by simp [World.cell?,hk3]
 have HB3:=lh hb3'
 clear hL3 hO3 hb3 hb3' hT3 hD3 hr3 hk3 HB2
 go_upto_region 5 with (go_at_call 85;refine HCG.out.mono ?_;rintro e w4 ⟨rfl,hL4,hO4,hb4⟩)
 clear b0 b1 b2 b3 b4 HCG
 have hb4':=HB3.out.trans hb4
 have hlay2:lay2 s want join raw ra rl=L2:=by unfold lay2;rw [hF0,hfr,htt2,hL1d,hL2d]
 have hL2n:L2.length=L1.length:=by rw [←hL2d,List.length_map]
 obtain⟨n,hn⟩:∃n,L2.length=n:=⟨_,rfl⟩
 have hn2:n≤2097152:=by omega
 rw [hlay2] at HL2
 obtain⟨la,lcap,hlv',_,_⟩:=hO4.slice
 subst hlv'
 rw [hn] at hL4 hO4
 have hS4:ChS W1 (B+2) (.slice la n lcap) (.slice none 0 0) fr tt bs 0 L2 w4:=⟨hL4,hO4,hb4'⟩
 have HS4:=lh hS4
 have k0:=hL4.cells.1
 clear hL4 hO4 hb4 hb4' HB3 HL1 HFC HLV hS4
 clear hs1
 obtain⟨tl,htl⟩:∃tl,tailF s L2 n=tl:=⟨_,rfl⟩
 go_upto_block 0 with (fail)
 clear k0
 go_cut [8] (fun u wx=>u=.int .i64 tl∧ChS W1 (B+2) (.slice la n lcap) (.slice none 0 0) fr tt bs 0 L2 wx)
 case first =>
  go_wp2_with (fail)
  go_loopw [8] (fun u wx=>∃t:Nat,t≤n∧u=.int .i64 t∧tailF s L2 t=tl∧ChS W1 (B+2) (.slice la n lcap) (.slice none 0 0) fr tt bs 0 L2 wx) (fun u _=>(intOf u).toNat)
  case atStart=>exact⟨n,Nat.le_refl _,rfl,htl,HS4.out⟩
  case round =>
   obtain⟨t,ht,rfl,htt',hS⟩:=hrel
   have HSr:=lh hS
   have HTr:=lh htt'
   clear hS htt' HS4
   cases t with
   | succ t =>
     obtain⟨p,hp⟩:∃p,L2[t]? = some p:=⟨_,List.getElem?_eq_getElem (by omega)⟩
     have hpg:L2.getD t default=p:=by rw [List.getD_eq_getElem?_getD,hp];rfl
     have hBL:=rBlank_any s hs (B+2) _ _ fr tt bs 0 L2 wr HSr.out.ld HSr.out.own (HX.out wr HSr.out.bel).1 t p hp (by have:=(HL2.out t p hp).1;omega)
     have HBL:=lh hBL
     have hw1:IntKind.i64.wrap (((t+1:Nat):Int)-1)=(t:Int):=by rw [IntKind.wrap_i64];omega
     have hp1:(0:Int)<((t+1:Nat):Int):=by omega
     have HPG:=lh hpg
     clear hBL hp hpg
     cases hbk:blankP s p with
     | true =>
       rw [hbk] at HBL
       go_wp2_with (go_at_call 86;refine HBL.out.mono ?_;rintro e w5 ⟨rfl,hb5⟩)
       go_roundw
       case rel=>exact⟨t,by omega,by go_num,by rw [←HTr.out,tailF_out s L2 t (by rw [HPG.out];exact hbk)],HSr.out.below hb5⟩
       case measure=>simp [intOf]
     | false =>
       rw [hbk] at HBL
       go_wp2_with (go_at_call 86;refine HBL.out.mono ?_;rintro e w5 ⟨rfl,hb5⟩)
       go_meet
       exact⟨by rw [←HTr.out,tailF_in s L2 t (by rw [HPG.out];exact hbk)];rfl,HSr.out.below hb5⟩
   | zero =>
     go_wp2_with (fail)
     go_meet
     exact⟨by rw [←HTr.out];rfl,HSr.out⟩
 case rest =>
  obtain⟨rfl,hSc⟩:=hcut
  obtain⟨i5,hi5,hz5,ha5,hb5⟩:=info_parts (Tryz.info_u8)
  have k0:=hSc.ld.cells.1
  obtain⟨W8,hmk,hown8,hg8⟩:=run_make_own (P:=Tryz.prog) wc wc.heap.size 134 5 i5 (.int .u8 0) 1 Tryz.underlying134 hi5 hz5 ha5 .i64 .i64 n (by rw [hb5];omega) (by unfold maxLen;omega) (Nat.le_refl _)
  have hb8:Below wc.heap.size wc W8:=(Below.refl wc.heap.size wc).grown hg8 (Nat.le_refl _) (fun k hk=>by cases hk)
  have HS8:=lh (hSc.below hb8)
  have hSc':=lh hSc
  have hsz8:=hb8.size
  obtain⟨ob0,hob0⟩:∃ob0,wc.heap.size=ob0:=⟨_,rfl⟩
  rw [hob0] at hown8 hmk
  have HO8:=lh hown8
  have hobl:B+2<ob0:=by have:=hSc.ld.lt;omega
  have hk8:=HS8.out.ld.cells.1
  clear hSc hown8 hg8 hb8 HS4
  go_upto_region 9 with (fail)
  clear hmk k0
  go_upto_block 2 with (fail)
  clear hk8
  have hGO:∀g,(Value.slice la n lcap).ownBlock=some g→g<ob0:=fun g hg=>by rw [←hob0];exact (World.ownsRow.lt hSc'.out.own g hg).2
  have HGO:=lh hGO
  clear hGO hSc'
  have hLS8:LoS W1 (B+2) (.slice la n lcap) (.slice none 0 0) fr tt bs 0 L2 ob0 (some ⟨ob0,0,none⟩) n [] W8:=⟨HS8.out,HO8.out,by rw [←hob0];exact hsz8⟩
  have HLS8:=lh hLS8
  clear hLS8 HS8 HO8
  obtain⟨Z,hZ⟩:∃Z,layF rwd tab wideA raw L2 0 0 tl=Z:=⟨_,rfl⟩
  have htln:tl≤n:=by rw [←htl];exact tailF_le s L2 n
  have HTL:=lh htl
  clear htl
  go_wp2_with (fail)
  go_loopw [8,9,10,11,12,13,58] (fun u8 u9 _ _ _ _ u58 wx=>∃(i:Nat) (done:List Pc) (t x:Int) (oa:Option Addr) (oc:Nat),i≤n∧done.length=i∧u58=.int .i64 i∧u8=.int .i64 t ∧ -1≤t∧t≤n∧u9=.slice oa i oc∧0≤x∧x≤19*i ∧
   LoS W1 (B+2) (.slice la n lcap) (.slice none 0 0) fr tt bs x (done++L2.drop i) ob0 oa oc (ints ((L2.take i).map (·.level))) wx ∧
   Z=(done++(layF rwd tab wideA raw (L2.drop i) i x t).1,(layF rwd tab wideA raw (L2.drop i) i x t).2)) (fun _ _ _ _ _ _ u58 _=>n-(intOf u58).toNat)
  case atStart=>exact⟨0,[],tl,0,_,_,Nat.zero_le _,rfl,rfl,rfl,by omega,by omega,rfl,by omega,by omega,HLS8.out,by rw [←hZ];rfl⟩
  case round =>
   obtain⟨i,done,t,x,oa,oc,hi,hdl,rfl,rfl,ht1,ht2,rfl,hx1,hx2,hS,hZi⟩:=hrel
   have HS:=lh hS
   have HZ:=lh hZi
   have HZ0:=lh hZ
   clear hS hZi HLS8 hZ
   by_cases hlt:i<n
   ·obtain⟨p,hp⟩:∃p,L2[i]? = some p:=⟨_,List.getElem?_eq_getElem (by omega)⟩
    have hpd:L2.drop i=p::L2.drop (i+1):=dropR_cons hp
    have hM:(done++L2.drop i)[i]? = some p:=by rw [List.getElem?_append_right (by omega),hdl,Nat.sub_self,hpd];rfl
    have hMl:(done++L2.drop i).length=n:=by rw [List.length_append,List.length_drop];omega
    have hMs:∀q,(done++L2.drop i).set i q=(done++[q])++L2.drop (i+1):=fun q=>by
     rw [List.set_append_right _ _ (by omega),hdl,Nat.sub_self,hpd,List.set_cons_zero,List.append_assoc]
     rfl
    have hMk:done++L2.drop i=(done++[p])++L2.drop (i+1):=by rw [hpd,List.append_assoc];rfl
    obtain⟨M,hMM⟩:∃M,done++L2.drop i=M:=⟨_,rfl⟩
    rw [hMM] at HS hM hMl hMs hMk
    have hrow:OwnS pcE 98 wr (B+2+1) (.slice la M.length lcap) M:=by rw [hMl];exact HS.out.ch.own
    obtain⟨G,eG,hGb,hGl,hcell,hfz⟩:=hrow.at i p hM
    subst eG
    have hGo:G<ob0:=HGO.out G rfl
    have y4:wr.cell? ⟨G,i*10+4,none⟩=some (.int .u8 p.level):=hcell 4 _ rfl
    have k0:=HS.out.ch.ld.cells.1
    have hpf:=HL2.out i p hp
    have htk:ints ((L2.take (i+1)).map (·.level))=ints ((L2.take i).map (·.level))++[(p.level:Int)]:=by rw [take_snoc hp,List.map_append];unfold ints;rw [List.map_append];rfl
    obtain⟨os,hos⟩:∃os,ints ((L2.take i).map (·.level))=os:=⟨_,rfl⟩
    have hosl:os.length=i:=by rw [←hos];unfold ints;rw [List.length_map,List.length_map,List.length_take];omega
    rw [hos] at HS htk
    have HTK:=lh htk
    have HMS:=lh hMs
    have HMK:=lh hMk
    have HPD:=lh hpd
    have HHM:=lh hM
    have hMML:M.length=n:=hMl
    have hob2:ob0≤wr.heap.size:=HS.out.sz
    have HO:=lh HS.out.out
    clear hcell hrow hos htk hMs hMk hpd hM hMM hp
    go_upto_region 14 with (at_builtin;refine wpList_append_own _ rfl _ _ 134 rfl ob0 5 i5 (.int .u8 0) 1 1 Tryz.underlying134 hi5 hz5 ha5 hb5 rfl (by decide) _ i _ rfl (by have h:=HO.out.alloc (.cells #[.int .u8 p.level] 5);rw [hosl] at h;exact h) ⟨wr.heap.size,0,none⟩ 1 1 [.int .u8 p.level] rfl rfl (cell_one_new _ _ _) (by simp [Value.oneCell']) (by unfold maxLen;omega) (by omega) (by simp;omega) ?_;intro v' w5 ho hg _)
    replace hg:(wr.alloc (.cells #[.int .u8 p.level] 5)).grownBy w5 (Value.slice oa i oc).ownBlock:=hg
    have hol:=World.ownsRow.lt HO.out
    rw [hosl] at hol
    have hb5':Below ob0 wr w5:=((Below.refl ob0 wr).alloc hob2 _).grown hg (by simp;omega) (fun k hk=>(hol k hk).1)
    have hsz5:ob0≤w5.heap.size:=Nat.le_trans hob2 hb5'.size
    have hm:os.map (Value.int .u8)++[.int .u8 p.level]=(os++[(p.level:Int)]).map (Value.int .u8):=by rw [List.map_append];rfl
    rw [hm] at ho
    obtain⟨va,vc,hva,_,_⟩:=own_slice ho
    subst hva
    have hS5:LoS W1 (B+2) (.slice (some ⟨G,0,none⟩) n lcap) (.slice none 0 0) fr tt bs x M ob0 va vc (os++[(p.level:Int)]) w5:=by
     refine⟨⟨HS.out.ch.ld.below hb5' (by omega),own_low HS.out.ch.own HGO.out hb5',HS.out.ch.bel.trans (hb5'.mono (by omega))⟩,?_,hsz5⟩
     unfold OutAt
     rw [List.length_append,hosl]
     exact ho
    have HKC:Hid (∀W,LoS W1 (B+2) (.slice (some ⟨G,0,none⟩) n lcap) (.slice none 0 0) fr tt bs x M ob0 va vc (os++[(p.level:Int)]) W→W.cell? ⟨G,i*10+5,none⟩=some (.string p.became)∧W.cell? ⟨B+2,5,none⟩=some (.int .i64 x)∧W.cell? ⟨B+1,0,none⟩=some (.int .i64 tab)∧W.cell? ⟨B+1,1,none⟩=some (.bool wideA) ∧
     W.cell? ⟨B+1,2,none⟩=some (.int .i8 want)∧W.cell? ⟨B+1,3,none⟩=some (.bool join)∧W.cell? ⟨B+1,4,none⟩=some (.bool raw)∧LoS W1 (B+2) (.slice (some ⟨G,0,none⟩) n lcap) (.slice none 0 0) fr tt bs x M ob0 va vc (os++[(p.level:Int)]) W):=lh fun W h=>by
     have hr:OwnS pcE 98 W (B+2+1) (.slice (some ⟨G,0,none⟩) M.length lcap) M:=by rw [hMML];exact h.ch.own
     obtain⟨G',eG,_,_,hc,_⟩:=hr.at i p HHM.out
     cases eG
     have hk:=(HX.out W h.ch.bel).2.2.2
     refine⟨hc 5 _ rfl,h.ch.ld.cells.2.2.2.2.2,?_,?_,?_,?_,?_,h⟩ <;> simp [World.cell?,hk]
    obtain⟨T,hTT⟩:∃T,textI p.became x tab wideA raw=T:=⟨_,rfl⟩
    have htb:=textI_bd p.became x tab wideA raw
    rw [hTT] at htb
    have HTX:Hid (∀W,LoS W1 (B+2) (.slice (some ⟨G,0,none⟩) n lcap) (.slice none 0 0) fr tt bs x M ob0 va vc (os++[(p.level:Int)]) W→Calls Tryz.prog 87 #[.string p.became,.int .i64 x,lookV tab want wideA join raw] W fun e w'=>e=.returned (.tuple #[.string T.1,.int .i64 T.2]) ∧
     LoS W1 (B+2) (.slice (some ⟨G,0,none⟩) n lcap) (.slice none 0 0) fr tt bs x M ob0 va vc (os++[(p.level:Int)]) w'):=lh fun W h=>by
     have:=text_anyB p.became (by omega) x tab want wideA join raw W (HX.out W h.ch.bel).1 (HX.out W h.ch.bel).2.1
     rw [hTT] at this
     exact this.mono fun e w' ⟨h1,h2⟩=>⟨h1,h.below h2⟩
    have HTT:=lh hTT
    obtain⟨j5,j6,l0,l1,l2,l3,l4,hS5'⟩:=HKC.out _ hS5
    clear hTT ho hg hm hol hb5' hsz5 HO hS5 y4 k0 HS hfz
    go_region_held3 (fun w'=>w'.cell? ⟨G,i*10+5,none⟩=some (.string p.became)∧w'.cell? ⟨B+2,5,none⟩=some (.int .i64 x)∧w'.cell? ⟨B+1,0,none⟩=some (.int .i64 tab)∧w'.cell? ⟨B+1,1,none⟩=some (.bool wideA) ∧
     w'.cell? ⟨B+1,2,none⟩=some (.int .i8 want)∧w'.cell? ⟨B+1,3,none⟩=some (.bool join)∧w'.cell? ⟨B+1,4,none⟩=some (.bool raw)∧LoS W1 (B+2) (.slice (some ⟨G,0,none⟩) n lcap) (.slice none 0 0) fr tt bs x M ob0 va vc (os++[(p.level:Int)]) w')
     ((refine HKC.out _ ?_;(repeat (first | assumption | refine LoS.drew ?_))))
     ((go_at_call 87;refine (HTX.out _ (by (repeat (first | assumption | refine LoS.drew ?_)))).mono ?_;rintro e w6 ⟨rfl,hS6⟩))
    have HS6:=lh hS6
    clear j5 j6 l0 l1 l2 l3 l4 hS5' HTX hS6 HKC
    obtain⟨T1,T2⟩:=T
    dsimp only at htb ⊢
    obtain⟨t',ht'⟩:∃t',tlF rwd i x T2 t=t':=⟨_,rfl⟩
    go_upto_region 15 with (fail)
    go_cut [100] (fun c wx=>c=.bool (decide (t≤(i:Int)∧rwd<x+T2))∧LoS W1 (B+2) (.slice (some ⟨G,0,none⟩) n lcap) (.slice none 0 0) fr tt bs x M ob0 va vc (os++[(p.level:Int)]) wx)
    case first =>
     have r3:w6.cell? ⟨B,3,none⟩=some (.int .i64 rwd):=by simp [World.cell?,(HX.out w6 HS6.out.ch.bel).2.2.1]
     have k5:=HS6.out.ch.ld.cells.2.2.2.2.2
     have hwr:IntKind.i64.wrap (x+T2)=x+T2:=by rw [IntKind.wrap_i64];omega
     by_cases h1:t≤(i:Int)
     ·have hd1:decide (t≤(i:Int))=true:=decide_eq_true h1
      have hd2:decide (t≤(i:Int)∧rwd<x+T2)=decide (rwd<x+T2):=by simp [h1]
      have HD2:=lh hd2
      clear hd2
      go_quiet (fail)
      go_wp2_with (fail)
      go_meet
      exact⟨by rw [HD2.out],HS6.out.drewN _⟩
     ·have hd1:decide (t≤(i:Int))=false:=decide_eq_false h1
      have hd2:decide (t≤(i:Int)∧rwd<x+T2)=false:=by simp [h1]
      have HD2:=lh hd2
      clear hd2
      go_quiet (fail)
      go_wp2_with (fail)
      go_meet
      exact⟨by rw [HD2.out],HS6.out.drewN _⟩
    case rest =>
     obtain⟨rfl,hS7⟩:=hcut
     have HS7:=lh hS7
     obtain⟨d,hd⟩:∃d,decide (t≤(i:Int)∧rwd<x+T2)=d:=⟨_,rfl⟩
     rw [hd]
     have hdt:t'=if d=true then -1 else t:=by rw [←ht',←hd];unfold tlF;simp
     have HDT:=lh hdt
     have HT':=lh ht'
     clear hS7 HS6 hd hdt ht'
     go_upto_if 100 with (fail)
     go_cut [8] (fun u wx=>u=.int .i64 t'∧LoS W1 (B+2) (.slice (some ⟨G,0,none⟩) n lcap) (.slice none 0 0) fr tt bs x M ob0 va vc (os++[(p.level:Int)]) wx)
     case first =>
      cases d with
      | true =>
        go_wp2_with (fail)
        go_meet
        exact⟨by rw [HDT.out];rfl,HS7.out⟩
      | false =>
        go_wp2_with (fail)
        go_meet
        exact⟨by rw [HDT.out];rfl,HS7.out⟩
     case rest =>
      obtain⟨rfl,hS8⟩:=hcut
      have HS8:=lh hS8
      have htt3:t' = -1∨t'=t:=by rw [HDT.out];cases d <;> simp
      have hwi:IntKind.i64.wrap ((i:Int)+1)=(i:Int)+1:=by rw [IntKind.wrap_i64];omega
      have hwr:IntKind.i64.wrap (x+T2)=x+T2:=by rw [IntKind.wrap_i64];omega
      clear hS8 HDT HS7
      by_cases h0:0≤t'
      ·have hr8:OwnS pcE 98 wc (B+2+1) (.slice (some ⟨G,0,none⟩) M.length lcap) M:=by rw [hMML];exact HS8.out.ch.own
       obtain⟨G',eG,_,_,hc8,hf8⟩:=hr8.at i p HHM.out
       cases eG
       have q6:wc.cell? ⟨G,i*10+6,none⟩=some (.string p.shown):=hc8 6 _ rfl
       have q7:wc.cell? ⟨G,i*10+7,none⟩=some (.int .i64 p.wide):=hc8 7 _ rfl
       have f6:=hf8 (i*10+6)
       have f7:=hf8 (i*10+7)
       have hS9:=HS8.out.set hMML hGo i p HHM.out T1 T2
       rw [HMS.out] at hS9
       have HS9:=lh hS9
       clear hr8 hf8 hc8 hS9
       go_upto_region 19 with (fail)
       clear f6 f7 q6 q7 HS8
       generalize (wc.setCell ⟨G,i*10+6,none⟩ (.string T1)).setCell ⟨G,i*10+7,none⟩ (.int .i64 T2)=W9 at HS9 ⊢
       have k5:=HS9.out.ch.ld.cells.2.2.2.2.2
       have f5:=HS9.out.ch.ld.frz 5
       have HS10:=lh (HS9.out.setx (by omega) (x+T2))
       clear HS9
       go_wp2_with (fail)
       go_roundw
       case rel=>exact⟨i+1,done++[{ p with shown:=T1,wide:=T2 }],t',x+T2,va,vc,by omega,by rw [List.length_append,hdl];rfl,by go_num,rfl,by omega,by omega,rfl,by omega,by omega,by rw [HTK.out];exact HS10.out,by
        rw [HZ.out,HPD.out,layF_cons,HTT.out]
        dsimp only
        rw [HT'.out,if_pos h0,List.append_assoc]
        rfl⟩
       case measure=>simp [intOf];omega
      ·go_wp2_with (fail)
       go_roundw
       case rel=>exact⟨i+1,done++[p],t',x,va,vc,by omega,by rw [List.length_append,hdl];rfl,by go_num,rfl,by omega,by omega,rfl,by omega,by omega,by rw [HTK.out,←HMK.out];exact HS8.out,by
        obtain rfl:t' = -1:=by omega
        rw [HZ.out,HPD.out,layF_cons,HTT.out]
        dsimp only
        rw [HT'.out,if_neg h0,List.append_assoc]
        rfl⟩
       case measure=>simp [intOf];omega
   ·obtain rfl:i=n:=by omega
    have hd0:L2.drop i=[]:=List.drop_eq_nil_of_le (by omega)
    have ht0:L2.take i=L2:=List.take_of_length_le (by omega)
    have hz:=HZ.out
    have hs:=HS.out
    rw [hd0,layF] at hz
    dsimp only at hz
    rw [List.append_nil] at hz
    rw [hd0,ht0,List.append_nil] at hs
    obtain⟨ls,hls⟩:∃ls,L2.map (·.level)=ls:=⟨_,rfl⟩
    have hlsn:ls.length=i:=by rw [←hls,List.length_map];exact hn
    rw [hls] at hs
    have hlen1:=(World.ownsRow.lt hs.ch.own)
    have hOR:=Order_any oa ls i oc wr hlsn hs.out.rd (by omega)
    have HOR:=lh hOR
    have HS1:=lh hs
    have HLS:=lh hls
    have HZ1:=lh hz
    have hln:(ints ls).length=i:=by unfold ints;rw [List.length_map];exact hlsn
    clear hlt hd0 ht0 hz hs hOR HS HZ hls hlen1
    obtain⟨seen,hsn⟩:∃seen,orderI ls=seen:=⟨_,rfl⟩
    have hsl:seen.length=i:=by rw [←hsn,order_len];exact hlsn
    have hsg:∀k,k<i→∃j:Nat,j<i∧seen[k]? = some (j:Int):=fun k hk=>by rw [←hsn];exact seen_get ls i k hlsn hk
    have HSG:=lh hsg
    have HSN:=lh hsn
    obtain⟨sg,hsg0⟩:∃sg,wr.heap.size=sg:=⟨_,rfl⟩
    have hosg:ob0≤sg:=by have:=HS1.out.sz;omega
    have HFZ:Hid (∀w5,Below wr.heap.size wr w5→w5.frozen? ⟨B+2,1,none⟩=false∧w5.cell? ⟨B+2,1,none⟩=some (.slice none 0 0)):=lh fun w5 h=>⟨(HS1.out.ch.ld.below h HS1.out.ch.ld.lt).frz 1,(HS1.out.ch.ld.below h HS1.out.ch.ld.lt).cells.2.1⟩
    clear hsg hsn
    go_upto_region 22 with (go_at_call 88;refine HOR.out.mono ?_;rintro e w5 ⟨rfl,hso,hb5⟩;obtain⟨f1,q1⟩:=HFZ.out w5 hb5)
    rw [HSN.out] at hso
    rw [hsg0] at hso hb5
    have hso2:=hso.rd
    have hS5:ChS W1 (B+2) (.slice la i lcap) (.slice none 0 0) fr tt bs x done w5:=HS1.out.ch.below (hsg0▸hb5)
    have hS6:ChS W1 (B+2) (.slice la i lcap) (.slice (some ⟨sg,0,none⟩) i i) fr tt bs x done (w5.setCell ⟨B+2,1,none⟩ (.slice (some ⟨sg,0,none⟩) i i)) :=
     ⟨hS5.ld.set1 _,hS5.own.other (fun g hg=>by have:=(World.ownsRow.lt hS5.own g hg).1;omega),bl_set hS5.bel _ _⟩
    have hR6:Rd .i64 (w5.setCell ⟨B+2,1,none⟩ (.slice (some ⟨sg,0,none⟩) i i)) (some ⟨sg,0,none⟩) seen:=rd_set hso2 (by omega)
    have hs6:sg≤(w5.setCell ⟨B+2,1,none⟩ (.slice (some ⟨sg,0,none⟩) i i)).heap.size:=by have:=hb5.size;simp;omega
    clear f1 q1 hso hso2 hb5 hS5 HFZ HS1 HOR
    generalize w5.setCell ⟨B+2,1,none⟩ (.slice (some ⟨sg,0,none⟩) i i)=W6 at hS6 hR6 hs6 ⊢
    have k1:=hS6.ld.cells.2.1
    have HS6:=lh hS6
    have HR6:=lh hR6
    clear hS6 hR6
    have hlay3:lay3 s tab want wideA join raw ra rl rwd=(done,x):=by
     unfold lay3
     rw [hlay2,hn,HTL.out,HZ0.out,HZ1.out]
    have hdw:∀p∈done,0≤p.wide∧p.wide≤19:=fun p hp=>lay3_bd s tab want wideA join raw ra rl rwd p (by rw [hlay3];exact hp)
    have HDW:=lh hdw
    have HL3:=lh hlay3
    obtain⟨E,hE⟩:∃E,edgeF seen 0 done=E:=⟨_,rfl⟩
    have HE:=lh hE
    clear hdw hlay3 hE
    go_upto_block 4 with (fail)
    clear k1
    go_wp2_with (fail)
    go_loopw [14,16,130] (fun u14 _ u130 wx=>∃(k:Nat) (x':Int) (M:List Pc),k≤i∧u130=.int .i64 k∧u14=.int .i64 x'∧0≤x'∧x'≤19*k∧M.length=i∧(∀p∈M,0≤p.wide∧p.wide≤19)∧edgeF (seen.drop k) x' M=E ∧
     ChS W1 (B+2) (.slice la i lcap) (.slice (some ⟨sg,0,none⟩) i i) fr tt bs x M wx∧Rd .i64 wx (some ⟨sg,0,none⟩) seen) (fun _ _ u130 _=>i-(intOf u130).toNat)
    case atStart=>exact⟨0,0,done,Nat.zero_le _,rfl,rfl,by omega,by omega,hdl,HDW.out,by rw [List.drop_zero];exact HE.out,HS6.out,HR6.out⟩
    case round =>
     obtain⟨k,x',M,hk,rfl,rfl,hx1',hx2',hMl,hMw,hME,hS,hR⟩:=hrel
     have HSk:=lh hS
     have HRk:=lh hR
     have HMW:=lh hMw
     have HME:=lh hME
     clear hS hR hMw hME HS6 HR6 HDW
     by_cases hlt:k<i
     ·obtain⟨j,hj,hsj⟩:=HSG.out k hlt
      obtain⟨p,hp⟩:∃p,M[j]? = some p:=⟨_,List.getElem?_eq_getElem (by omega)⟩
      have hpw:=HMW.out p (List.mem_of_getElem? hp)
      have hds:seen.drop k=(j:Int)::seen.drop (k+1):=dropR_cons hsj
      have hrow:OwnS pcE 98 wr (B+2+1) (.slice la M.length lcap) M:=by rw [hMl];exact HSk.out.own
      obtain⟨G,eG,hGb,hGl,hcell,hfz⟩:=hrow.at j p hp
      subst eG
      have hGo:=HGO.out G rfl
      have ys:wr.cell? ⟨sg,k,none⟩=some (.int .i64 (j:Int)):=by
       rcases HRk.out with h | ⟨g,o,e,h1,h2⟩
       ·rw [h] at hsl;simp at hsl;omega
       ·cases e
        have:=h2 k (by omega)
        rw [Nat.zero_add] at this
        rw [this]
        unfold ith
        rw [List.getD_eq_getElem?_getD,hsj]
        rfl
      have k0:=HSk.out.ld.cells.1
      have y7:wr.cell? ⟨G,j*10+7,none⟩=some (.int .i64 p.wide):=hcell 7 _ rfl
      have y8:wr.cell? ⟨G,j*10+8,none⟩=some (.int .i64 p.e0):=hcell 8 _ rfl
      have y9:wr.cell? ⟨G,j*10+9,none⟩=some (.int .i64 p.e1):=hcell 9 _ rfl
      have f8:=hfz (j*10+8)
      have f9:=hfz (j*10+9)
      have hwx:IntKind.i64.wrap (x'+p.wide)=x'+p.wide:=by rw [IntKind.wrap_i64];omega
      have HDS:=lh hds
      have HP:=lh hp
      clear hcell hfz hrow hds hp hsj
      go_upto_region 26 with (fail)
      obtain⟨S,hSi,hSo⟩:∃S:World→Prop,(∀W:World,W.cell? ⟨B+2,0,none⟩=some (.slice (some ⟨G,0,none⟩) i lcap)→W.cell? ⟨G,j*10+7,none⟩=some (.int .i64 p.wide)→S W)∧(∀W:World,S W→W.cell? ⟨B+2,0,none⟩=some (.slice (some ⟨G,0,none⟩) i lcap)∧W.cell? ⟨G,j*10+7,none⟩=some (.int .i64 p.wide)) :=
       ⟨fun W=>W.cell? ⟨B+2,0,none⟩=some (.slice (some ⟨G,0,none⟩) i lcap)∧W.cell? ⟨G,j*10+7,none⟩=some (.int .i64 p.wide),fun _ h h'=>⟨h,h'⟩,fun _ h=>h⟩
      have HSi:=lh hSi
      have hne:Nonempty (WIn S):=⟨⟨_,hSi _ k0 y7⟩⟩
      have kp_0:∀q:WIn S,q.w.cell? ⟨B+2,0,none⟩=some (.slice (some ⟨G,0,none⟩) i lcap):=fun q=>(hSo _ q.h).1
      have kp_7:∀q:WIn S,q.w.cell? ⟨G,j*10+7,none⟩=some (.int .i64 p.wide):=fun q=>(hSo _ q.h).2
      clear hSi hSo
      refine wp_region_seg S [19] (by kernel_rfl) (by kernel_rfl) (HSi.out _ k0 y7) ?_
      simp only [segH,List.take_succ_cons,List.take_zero,List.drop_succ_cons,List.drop_zero]
      repeat (go_big_quiet_step (fail))
      refine wpQuiet_nil ?_
      intro K hK
      have HKK:=lh hK
      clear hK
      go_wp2_with (fail)
      have hS9:=HSk.out.setE hMl j p HP.out x' (x'+p.wide)
      have hR9:Rd .i64 ((wr.setCell ⟨G,j*10+8,none⟩ (.int .i64 x')).setCell ⟨G,j*10+8+1,none⟩ (.int .i64 (x'+p.wide))) (some ⟨sg,0,none⟩) seen:=rd_set (rd_set HRk.out (by omega)) (by omega)
      clear k0 y7 y8 y9 f8 f9 ys kp_0 kp_7 hne HSk HRk
      generalize (wr.setCell ⟨G,j*10+8,none⟩ (.int .i64 x')).setCell ⟨G,j*10+8+1,none⟩ (.int .i64 (x'+p.wide))=W9 at hS9 hR9 ⊢
      have hjM:j<M.length:=by omega
      have hp9:(M.set j { p with e0:=x',e1:=x'+p.wide })[j]? = some { p with e0:=x',e1:=x'+p.wide }:=by rw [List.getElem?_set];simp [hjM]
      have hr9:OwnS pcE 98 W9 (B+2+1) (.slice (some ⟨G,0,none⟩) (M.set j { p with e0:=x',e1:=x'+p.wide }).length lcap) (M.set j { p with e0:=x',e1:=x'+p.wide }):=by rw [List.length_set,hMl];exact hS9.own
      obtain⟨G',eG,_,_,hc9,_⟩:=hr9.at j _ hp9
      cases eG
      have k0:W9.cell? ⟨B+2,0,none⟩=some (.slice (some ⟨G,0,none⟩) i lcap):=hS9.ld.cells.1
      have y7:W9.cell? ⟨G,j*10+7,none⟩=some (.int .i64 p.wide):=hc9 7 _ rfl
      have HS9:=lh hS9
      have HR9:=lh hR9
      clear hp9 hr9 hc9 hS9 hR9
      refine HKK.out _ _ (HSi.out _ k0 y7) ?_
      clear HKK HSi
      refine wpQuiet_nil (NoPanic.normal ?_)
      go_wp2_with (fail)
      go_roundw
      case rel=>exact⟨k+1,x'+p.wide,M.set j { p with e0:=x',e1:=x'+p.wide },by omega,by go_num,rfl,by omega,by omega,by rw [List.length_set];exact hMl,fun q hq=>by
       rcases List.mem_or_eq_of_mem_set hq with h | rfl
       ·exact HMW.out q h
       ·exact hpw,by rw [←HME.out,HDS.out,edgeF_step j _ x' M p HP.out],HS9.out.drew,HR9.out⟩
      case measure=>simp [intOf];omega
     ·obtain rfl:k=i:=by omega
      have hME:=HME.out
      rw [List.drop_eq_nil_of_le (by omega)] at hME
      have hME2:M=E:=hME
      have hN2:N=⟨M,seen,fr,tt,bs,x⟩:=by
       rw [←hN]
       unfold layI layL laySeen
       rw [hlay2,HLS.out,HSN.out,HL3.out,HE.out,hfr,htt2,hbs,hME2]
      have hfin:LaidW wr (B+2) N:=by
       rw [hN2]
       refine⟨la,lcap,some ⟨sg,0,none⟩,k,?_,?_,HRk.out⟩
       ·show LdB wr (B+2) (.slice la M.length lcap) (.slice (some ⟨sg,0,none⟩) seen.length k) fr tt bs x
        rw [hMl,hsl]
        exact HSk.out.ld
       ·show OwnS pcE 98 wr (B+2+1) (.slice la M.length lcap) M
        rw [hMl]
        exact HSk.out.own
      have HFIN:=lh hfin
      clear hME hME2 hN2 hfin hlt
      go_wp2_with (fail)
      go_ret
      exact⟨B+2,rfl,HFIN.out,by omega,HB1.out.trans (HSk.out.bel.mono (by omega))⟩
end
end Go.Proofs.YtlmjbfncopbilaaGreatDoor
