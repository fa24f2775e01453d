/- Part 20 (merged by a program): lemmas of no further condition than each states. -/
import Derived.Test.YtlmjbfncopbilaaGreatDoorK19
namespace Go.Proofs.YtlmjbfncopbilaaGreatDoor
set_option linter.unusedVariables false
set_option linter.unusedSimpArgs false
section
open Go.RowKit
theorem Tryz.info_kind:(Tryz.prog.info? 22).map (fun i=>(i.zero,i.size,i.bytes))=some (some (.int .i8 0),1,1):=by kernel_rfl
theorem bits_level:∀l:Nat,l<256→bits .and .u8 (l:Int) 1=((l % 2:Nat):Int):=by decide +kernel
theorem ints_one (k:IntKind) (l:List Int):∀u∈l.map (Value.int k),u.oneCell'=true:=by
 intro u hu;obtain⟨x,_,rfl⟩:=List.mem_map.1 hu;rfl
theorem rd_cells {k:IntKind} {w:World} {a:Option Addr} {xs:List Int} (h:Rd k w a xs) (m:Nat) (hm:m≤xs.length) :
 m=0∨∃ad,a=some ad∧∀j u,((xs.take m).map (Value.int k))[j]? = some u→w.cell? (ad.add j)=some u:=by
 rcases h with h | ⟨b,off,h1,h2,h3⟩
 ·subst h;left;simpa using hm
 ·refine .inr ⟨_,h1,fun j u hu=>?_⟩
  rw [List.getElem?_map,List.getElem?_take] at hu
  by_cases hj:j<m
  ·rw [if_pos hj,ith_get (by omega)] at hu
   simp at hu
   subst hu
   have e:(⟨b,off,none⟩:Addr).add j=⟨b,off+j,none⟩:=by unfold Addr.add;split <;> simp_all
   rw [e];exact h3 j (by omega)
  ·rw [if_neg hj] at hu;simp at hu
theorem Rd.take {k:IntKind} {w:World} {a:Option Addr} {xs:List Int} (h:Rd k w a xs) (m:Nat):Rd k w a (xs.take m):=by
 rcases h with h | ⟨b,off,h1,h2,h3⟩
 ·subst h;exact .inl (by simp)
 ·refine .inr ⟨b,off,h1,h2,fun i hi=>?_⟩
  rw [List.length_take] at hi
  rw [h3 i (by omega)]
  have:ith (xs.take m) i=ith xs i:=by unfold ith;rw [List.getD_eq_getElem?_getD,List.getD_eq_getElem?_getD,List.getElem?_take,if_pos (by omega)]
  rw [this]
theorem out_start {w:World} {base e M:Nat} {v:Value} {ks:List Int} (h:w.ownsRow base e 1 v (0+M) ([]++(ks.take M).map (Value.int .i8))) (hM:M≤ks.length) :
 ∃ao cap,v=.slice ao M cap∧OutAt .i8 e w base ao cap (ks.take M):=by
 rw [Nat.zero_add,List.nil_append] at h
 exact OutAt.of h (by simp;omega)
theorem pairs_in {rs out:List Int} {M:Nat} {l:List (Nat × Nat)} (hp:l.Perm (brkF (rs.take M) out (min (rs.take M).length out.length) 0 [] [])) (h1:(rs.take M).length=M) (h2:out.length=M) :
 ∀t,t<l.length→(l.getD t (0,0)).1<(l.getD t (0,0)).2∧(l.getD t (0,0)).2<M:=by
 intro t ht
 have:=brkF_mem (rs.take M) out (min (rs.take M).length out.length) 0 [] [] (by simp) (by simp) _ (hp.mem_iff.1 (getD_mem l (0,0) t ht))
 rw [h1,h2] at this
 omega
theorem drop_cons {α:Type} (l:List α) (d:α) (t:Nat) (h:t<l.length):l.drop t=l.getD t d::l.drop (t+1):=by
 rw [List.drop_eq_getElem_cons h];simp [h]
def PairRel (rs:List Int) (M:Nat) (E:Int) (B2:Nat) (w:World) (ao:Option Addr) (cap:Nat) (pa:Option Addr) (pcap:Nat) (l:List (Nat × Nat)) (RES:List Int) (sa sh sc:Value) (wx:World):Prop :=
 ∃(t at':Nat) (ahead:Int) (xs:List Int),t≤l.length∧sa=.int .i64 at'∧at'≤M∧sh=.int .i8 ahead∧0≤ahead∧ahead≤1∧sc=.int .i64 t∧xs.length=M ∧
   OutAt .i8 22 wx w.heap.size ao cap xs∧PairsAt wx B2 pa pcap l∧Below w.heap.size w wx∧B2≤wx.heap.size∧resF rs M E (l.drop t) at' ahead xs=RES
theorem wayI_bd (y:Int) : -1≤wayI y∧wayI y≤1:=by
 unfold wayI;split
 ·omega
 ·split <;> omega
theorem decF_bd (xs:List Int) (e ahead:Int) (h0:0≤e) (h1:e≤1) (a0:0≤ahead) (a1:ahead≤1):∀(m i:Nat) (acc:Int),-1≤acc→acc≤1 → -1≤decF xs e ahead m i acc∧decF xs e ahead m i acc≤1
 | 0,_,acc,h,h'=>⟨h,h'⟩
 | m+1,i,acc,h,h'=>by
   unfold decF
   split
   ·omega
   ·split
    ·exact decF_bd xs e ahead h0 h1 a0 a1 m (i+1) acc h h'
    ·exact decF_bd xs e ahead h0 h1 a0 a1 m (i+1) ahead (by omega) a1
theorem decI_bd (xs:List Int) (p0 p1:Nat) (e ahead:Int) (h0:0≤e) (h1:e≤1) (a0:0≤ahead) (a1:ahead≤1) : -1≤decI xs p0 p1 e ahead∧decI xs p0 p1 e ahead≤1 :=
 decF_bd xs e ahead h0 h1 a0 a1 _ _ (-1) (by omega) (by omega)
theorem pairs_len {base cap:Nat} {w:World} {pa:Option Addr} {l:List (Nat × Nat)} (h:PairsAt w base pa cap l):l.length≤maxLen:=by
 rcases h.2 with ⟨h1,h0⟩ | ⟨g,cap',cur,h1,hb,hh,hc,hm,hs,ht⟩
 ·rw [h0];exact Nat.zero_le _
 ·exact Nat.le_trans hc hm
theorem runF_bd (out:List Int):∀(m j:Nat),j≤runF out m j∧runF out m j≤j+m
 | 0,j=>⟨Nat.le_refl _,Nat.le_refl _⟩
 | m+1,j=>by
   unfold runF
   split
   ·have:=runF_bd out m (j+1);omega
   ·omega
theorem restF_out (n:Nat) (e sos eos:Int) (f i:Nat) (out:List Int) (hi:i<n) :
 (0≤wayI (ith out i)→restF n e sos eos (f+1) i out=restF n e sos eos f (i+1) out) ∧
 (wayI (ith out i)<0→restF n e sos eos (f+1) i out=restF n e sos eos f (runF out (n-i) i) (fillF (fillI n e sos eos i (runF out (n-i) i) out) (runF out (n-i) i-i) i out)):=by
 refine⟨fun h=>?_,fun h=>?_⟩
 ·rw [restF,if_pos hi,if_pos h]
 ·rw [restF,if_pos hi,if_neg (by omega)]
def ResPost (rs ks:List Int) (level sos eos:Int) (w:World) (e:Ending) (w':World):Prop :=
 ∃(v:Value) (l:List (Nat × Nat)),l.Perm (brkF (rs.take (min rs.length ks.length)) (alF (min rs.length ks.length) 0 (ks.take (min rs.length ks.length))) (min rs.length ks.length) 0 [] [])∧l.Pairwise (fun a b=>a.1≤b.1) ∧
   e=.returned v∧(resolveF rs ks level sos eos l).length=min rs.length ks.length∧w'.ownsRow w.heap.size 22 1 v (min rs.length ks.length) ((resolveF rs ks level sos eos l).map (Value.int .i8))∧Below w.heap.size w w'
theorem res_end {rs ks o0 out xs zs RES FIN:List Int} {level M cap:Nat} {sos eos E:Int} {l:List (Nat × Nat)} {w w':World} {ao:Option Addr} {e:Ending}
 (hM:M=min rs.length ks.length) (hT:ks.take M=o0) (hF1:out=alF M 0 o0) (hE:((level % 2:Nat):Int)=E) (hperm:l.Perm (brkF (rs.take M) out (min (rs.take M).length out.length) 0 [] []))
 (hsort:l.Pairwise (fun a b=>a.1≤b.1)) (hLR:(rs.take M).length=M) (hlen:out.length=M) (hRES:RES=resF rs M E l 0 (sideI sos) out) (hXE:xs=RES)
 (hFIN:FIN=restF M E (sideI sos) (sideI eos) (M+1) 0 xs) (hF2:zs=FIN) (he:e=.returned (.slice ao M cap)) (hzl:zs.length=M) (hZ:OutAt .i8 22 w' w.heap.size ao cap zs) (hb:Below w.heap.size w w') :
 ResPost rs ks level sos eos w e w':=by
 have hz:zs=resolveF rs ks level sos eos l:=by
  rw [hF2,hFIN,hXE,hRES,hF1,←hT,←hE,hM]
  rfl
 subst hM
 refine⟨_,l,?_,hsort,he,by rw [←hz];exact hzl,?_,hb⟩
 ·rw [hLR,hlen,Nat.min_self] at hperm
  rw [hT,←hF1]
  exact hperm
 ·rw [←hz]
  unfold OutAt at hZ
  rw [hzl] at hZ
  exact hZ
set_option maxRecDepth 100000 in
set_option maxHeartbeats 1000000 in
theorem Resolve_any (ra ka:Option Addr) (rs ks:List Int) (rc kc:Nat) (level:Nat) (sos eos:Int) (w:World) (hr:Rd .i32 w ra rs) (hk:Rd .i8 w ka ks) (hrn:rs.length≤2097152) (hkn:ks.length≤2097152)
 (hrc:rs.length≤rc) (hkc:ks.length≤kc) (hl:level<256) :
 Calls Tryz.prog 159 #[.slice ra rs.length rc,.slice ka ks.length kc,.int .u8 level,.int .i8 sos,.int .i8 eos] w (ResPost rs ks level sos eos w):=by
 obtain⟨M,hM⟩:∃M,M=min rs.length ks.length:=⟨_,rfl⟩
 have hM1:M≤rs.length:=by omega
 have hM2:M≤ks.length:=by omega
 have HM:=lh hM
 clear hM
 obtain⟨i33,hi33,hz33,ha33,hb33⟩:=info_parts (Tryz.info_kind)
 have hsrc:=rd_cells hk M hM2
 have hlenT:((ks.take M).map (Value.int .i8)).length=M*1:=by simp;omega
 have HLT:=lh hlenT
 clear hlenT
 go_enter Tryz.func159,Tryz.ntmps159
 go_upto_region 1 with (fail)
 go_cut [11] (fun s11 wx=>s11=.int .i64 M∧wx=w)
 case first =>
  go_wp2_with (fail)
  all_goals (go_meet;exact⟨by have:=HM.out;go_num,rfl⟩)
 case rest =>
  obtain⟨rfl,hwc⟩:=hcut
  have hwc':=hwc.symm
  clear hwc
  subst hwc'
  go_wp2_with (at_builtin;refine wpList_append_src _ rfl (.const (.slice none 0 0)) (.tmp 36) 103 rfl w.heap.size 22 i33 (.int .i8 0) 1 1 Tryz.underlying103 hi33 hz33 ha33 hb33 rfl (by decide) (.slice none 0 0) 0 [] rfl (World.ownsRow_nil _ _ _ _) _ M _ ((ks.take M).map (Value.int .i8)) rfl HLT.out hsrc (ints_one _ _) (by unfold maxLen;omega) (by omega) (Nat.le_refl _) ?_;intro v1 w1 hown1 hgrow1;obtain⟨ao,cap,rfl,hO⟩:=out_start hown1 hM2)
  have hb1:=(Below.refl w.heap.size w).grown hgrow1 (Nat.le_refl _) (fun q hq=>by cases hq)
  clear hown1 hgrow1 hsrc HLT
  have HK:=lh hk
  clear hk
  have ho0:(ks.take M).length=M:=by simp;omega
  generalize hT:ks.take M=o0 at hO ho0
  have HT:=lh hT
  have HO0:=lh ho0
  clear hT ho0
  go_loopw [40] (fun c wr=>∃(i m:Nat) (out:List Int),i+m=M∧c=.int .i64 i∧out.length=M∧OutAt .i8 22 wr w.heap.size ao cap out∧Below w.heap.size w wr∧alF m i out=alF M 0 o0) (fun c _=>M-(intOf c).toNat)
  case atStart=>exact⟨0,M,o0,by omega,rfl,HO0.out,hO,hb1,rfl⟩
  case round =>
   obtain⟨i,m,out,him,rfl,hlen,hO',hbel,hF⟩:=hrel
   have HIM:=lh him
   have HLEN:=lh hlen
   have HF:=lh hF
   clear him hlen hF
   by_cases hlt:i<M
   ·obtain⟨m,rfl⟩:∃q,m=q+1:=⟨m-1,by have:=HIM.out;omega⟩
    have hstep:∀y,ith out i=y→alF (m+1) i out=if y=2 then alF m (i+1) (out.set i 1) else alF m (i+1) out:=fun y hy=>by rw [alF,hy]
    have HS:=lh hstep
    clear hstep
    obtain⟨G,hG,hGb,hGl,hGc,hGf,hcap,hcm⟩:=hO'.at i (by have:=HLEN.out;omega)
    subst hG
    generalize hy:ith out i=y at hGc
    have HY:=lh hy
    clear hy
    by_cases h2:y=2
    ·subst h2
     have HN:=lh (HS.out 2 HY.out)
     go_wp2_with (fail)
     go_roundw
     case rel=>exact⟨i+1,m,out.set i 1,by have:=HIM.out;omega,by go_num,by rw [List.length_set];exact HLEN.out,hO'.set i 1,hbel.setCell (by exact hGb) _,by rw [←HF.out,HN.out];rfl⟩
     case measure=>simp [intOf];omega
    ·have h2':(y==2)=false:=by simpa using h2
     have HN:=lh ((HS.out y HY.out).trans (if_neg h2))
     clear h2
     go_wp2_with (fail)
     go_roundw
     case rel=>exact⟨i+1,m,out,by have:=HIM.out;omega,by go_num,HLEN.out,hO',hbel,by rw [←HF.out,HN.out]⟩
     case measure=>simp [intOf];omega
   ·have hm0:m=0:=by have:=HIM.out;omega
    have HF1:Hid (out=alF M 0 o0):=by subst hm0;exact HF
    clear hm0 HF HIM
    have hbit:=bits_level level hl
    go_upto_if 53 with (fail)
    clear hbit
    go_cut [15] (fun s15 wx=>s15=.int .i8 ((level % 2:Nat):Int)∧wx=wr)
    case first =>
     by_cases hodd:0<(level:Int) % 2
     ·go_wp2_with (fail)
      go_meet
      exact⟨by rw [show level % 2=1 by omega];rfl,rfl⟩
     ·go_wp2_with (fail)
      go_meet
      exact⟨by rw [show level % 2=0 by omega];rfl,rfl⟩
    case rest =>
     obtain⟨rfl,hwc⟩:=hcut
     have hwc':=hwc.symm
     clear hwc
     subst hwc'
     have hE0:0≤((level % 2:Nat):Int)∧((level % 2:Nat):Int)≤1:=by omega
     generalize hE:((level % 2:Nat):Int)=E at hE0
     have HE:=lh hE
     clear hE
     have hS0:0≤sideI sos∧sideI sos≤1:=by unfold sideI;split <;> omega
     have hS1:0≤sideI eos∧sideI eos≤1:=by unfold sideI;split <;> omega
     have hlenR:(rs.take M).length=M:=by simp;omega
     have HLR:=lh hlenR
     clear hlenR
     have hrd:Rd .i32 wr ra (rs.take M):=(hr.take M).below hbel
     have HRD:=lh hrd
     clear hrd
     have HORD:=lh hO'.rd
     have hlO:out.length≤2097152:=by have:=HLEN.out;omega
     clear hlO
     go_wp2_with (first | (go_at_call 194;refine (side_any _ _).mono ?_;rintro e w' ⟨rfl,rfl⟩) | (go_at_call 195;refine (Brackets_len _ _ (rs.take M) out M M _ _ _ HLR.out HLEN.out HRD.out HORD.out (by omega) (by omega)).mono ?_;rintro e w2 ⟨pv,l,hperm,hsort,rfl,hpown,hbel2⟩;obtain⟨pa,pcap,rfl,hP⟩:=PairsAt.of hpown;clear hpown))
     have hmem:∀t,t<l.length→(l.getD t (0,0)).1<(l.getD t (0,0)).2∧(l.getD t (0,0)).2<M:=pairs_in hperm HLR.out HLEN.out
     have HMEM:=lh hmem
     clear hmem
     have hO2:=hO'.keep hbel2
     have hbelW:=hbel.trans (hbel2.mono hbel.size)
     have hGB:∀G,ao=some ⟨G,0,none⟩→G<wr.heap.size:=fun G hG=>by subst hG;exact hO'.lt.2
     obtain⟨RES,hRES⟩:∃R,R=resF rs M E l 0 (sideI sos) out:=⟨_,rfl⟩
     have HRES:=lh hRES
     clear hRES
     have hB2:=hbel2.size
     have hll:=pairs_len hP
     unfold maxLen at hll
     generalize hBB:wr.heap.size=B2 at hB2 hP hGB
     have HBB:=lh hBB
     clear hBB hO' HORD HRD
     have HSORT:=lh hsort
     have HPERM:=lh hperm
     clear hsort hperm
     have hbB2:w.heap.size≤B2:=by rw [←HBB.out];exact hbel.size
     clear hbel hbel2
     go_loopw [16,17,65] (fun sa sh sc wx=>PairRel rs M E B2 w ao cap pa pcap l RES sa sh sc wx) (fun _ _ c _=>l.length-(intOf c).toNat)
     case atStart=>exact⟨0,0,sideI sos,out,by omega,rfl,by omega,rfl,hS0.1,hS0.2,rfl,HLEN.out,hO2,hP,hbelW,hB2,by rw [HRES.out];rfl⟩
     case round =>
      obtain⟨t,at',ahead,xs,htl,rfl,hatM,rfl,ha0,ha1,rfl,hxl,hX,hPX,hbx,hBx,hF⟩:=hrel
      have HXL:=lh hxl
      have HF:=lh hF
      clear hxl hF
      by_cases hlt:t<l.length
      ·obtain⟨hp1,hp2⟩:=HMEM.out t hlt
       obtain⟨PB,hPB,hPBb,hPBl,hc1,hc2⟩:=hPX.at t hlt
       subst hPB
       have hdrop:=drop_cons l (0,0) t hlt
       generalize hp:l.getD t (0,0)=p at hp1 hp2 hc1 hc2 hdrop
       have HD:=lh hdrop
       clear hdrop hp
       obtain⟨p1,p2⟩:=p
       simp only at hp1 hp2 hc1 hc2
       go_wp2_with (fail)
       have hXA:=hX.keep ((Below.refl _ _).alloc (Nat.le_refl _) (.cells #[.int .i64 p1,.int .i64 p2] 96))
       have hPA:=hPX.keep ((Below.refl _ _).alloc (Nat.le_refl _) (.cells #[.int .i64 p1,.int .i64 p2] 96))
       have hbA:=hbx.alloc hbx.size (.cells #[.int .i64 p1,.int .i64 p2] 96)
       have hPP0:(wr.alloc (.cells #[.int .i64 p1,.int .i64 p2] 96)).cell? ⟨wr.heap.size,0,none⟩=some (.int .i64 p1):=by simp
       have hPP1:(wr.alloc (.cells #[.int .i64 p1,.int .i64 p2] 96)).cell? ⟨wr.heap.size,1,none⟩=some (.int .i64 p2):=by simp
       have hWs:(wr.alloc (.cells #[.int .i64 p1,.int .i64 p2] 96)).heap.size=wr.heap.size+1:=by simp
       have HWS:=lh hWs
       clear hWs
       go_loop [16,17] (fun sa sh=>∃(q m:Nat) (ah:Int),q+m=at'+(p1-at')∧at'≤q∧q≤M∧sa=.int .i64 q∧sh=.int .i8 ah∧0≤ah∧ah≤1∧aheadF xs m q ah=aheadF xs (p1-at') at' ahead) (fun sa _=>p1-(intOf sa).toNat)
       case atStart=>exact⟨at',p1-at',ahead,rfl,by omega,hatM,rfl,rfl,ha0,ha1,rfl⟩
       case round =>
        obtain⟨q,m,ah,hqm,hq1,hqM,rfl,rfl,hah0,hah1,hFA⟩:=hrel
        have HFA:=lh hFA
        have HQM:=lh hqm
        clear hFA hqm
        by_cases hq:q<p1
        ·obtain⟨m,rfl⟩:∃m',m=m'+1:=⟨m-1,by have:=HQM.out;omega⟩
         obtain⟨G,hG,hGb,hGl,hGc,hGf,hcap,hcm⟩:=hXA.at q (by have:=HXL.out;omega)
         subst hG
         have hstep:∀y,ith xs q=y→aheadF xs (m+1) q ah=if 0≤wayI y then aheadF xs m (q+1) (wayI y) else aheadF xs m (q+1) ah:=fun y hy=>by rw [aheadF,hy]
         have HST:=lh hstep
         clear hstep
         generalize hy:ith xs q=y at hGc
         have HN:=lh (HST.out y hy)
         clear hy HST
         have hway:=wayI_bd y
         by_cases hw:0≤wayI y
         ·go_wp2_with (go_at_call 196;refine (way_any _ _).mono ?_;rintro e w' ⟨rfl,rfl⟩)
          go_round
          case rel=>exact⟨q+1,m,wayI y,by have:=HQM.out;omega,by omega,by omega,by go_num,rfl,hw,hway.2,by rw [←HFA.out,HN.out,if_pos hw]⟩
          case measure=>simp [intOf];omega
         ·go_wp2_with (go_at_call 196;refine (way_any _ _).mono ?_;rintro e w' ⟨rfl,rfl⟩)
          go_round
          case rel=>exact⟨q+1,m,ah,by have:=HQM.out;omega,by omega,by omega,by go_num,rfl,hah0,hah1,by rw [←HFA.out,HN.out,if_neg (by omega)]⟩
          case measure=>simp [intOf];omega
        ·have hqe:q=at'+(p1-at')∧m=0:=by have:=HQM.out;omega
         have HAH:Hid (ah=aheadF xs (p1-at') at' ahead∧q=at'+(p1-at')):=by
          obtain⟨h1,h2⟩:=hqe;subst h2;exact⟨HFA.out,h1⟩
         clear hqe HFA HQM
         obtain⟨G,hG,hGb,hGl,hGc,hGf,hcap,hcm⟩:=hXA.at p2 (by have:=HXL.out;omega)
         subst hG
         have hcells:∀i,i<M→(wr.alloc (.cells #[.int .i64 p1,.int .i64 p2] 96)).cell? ⟨G,i,none⟩=some (.int .i8 (ith xs i)):=fun i hi=>by
          obtain⟨G',hG',_,_,hc,_⟩:=hXA.at i (by have:=HXL.out;omega)
          cases hG';exact hc
         have HCELLS:=lh hcells
         clear hcells hGc hGf
         have hdb:=decI_bd xs p1 p2 E ah hE0.1 hE0.2 hah0 hah1
         have HDC:=lh (decide_any G M cap p1 p2 xs E ah (wr.alloc (.cells #[.int .i64 p1,.int .i64 p2] 96)) hGl hp1 hp2 (by have:=HXL.out;omega) hcm HCELLS.out)
         generalize hkk:decI xs p1 p2 E ah=kk at hdb HDC
         have HKK:=lh hkk
         clear hkk
         by_cases hneg:kk<0
         ·go_wp2_with (go_at_call 197;refine HDC.out.mono ?_;rintro e w5 ⟨rfl,hb5⟩)
          have hX5:=hXA.keep hb5
          have hP5:=hPA.keep hb5
          have hb5w:=hbA.trans (hb5.mono (by exact hbA.size))
          go_roundw
          case rel=>exact⟨t+1,q,ah,xs,by omega,rfl,hqM,rfl,hah0,hah1,by go_num,HXL.out,hX5,hP5,hb5w,by have:=hb5.size;have:=HWS.out;omega,by
           rw [←HF.out,HD.out,resF,←HAH.out.1,HKK.out,if_pos hneg,←HAH.out.2]⟩
          case measure=>simp [intOf];omega
         ·have hkb:decide (kk<0)=false:=by simp;omega
          go_wp2_with (go_at_call 197;refine HDC.out.mono ?_;rintro e w5 ⟨rfl,hb5⟩;have hq0:w5.cell? ⟨wr.heap.size,0,none⟩=some (.int .i64 p1):=cell_bl hb5 (by have:=HWS.out;omega) hPP0;have hq1':w5.cell? ⟨wr.heap.size,1,none⟩=some (.int .i64 p2):=cell_bl hb5 (by have:=HWS.out;omega) hPP1)
          have hX5:=hXA.keep hb5
          have hP5:=hPA.keep hb5
          have hb5w:=hbA.trans (hb5.mono (by exact hbA.size))
          have hB5:B2≤w5.heap.size:=by have:=hb5.size;have:=HWS.out;omega
          clear hq0 hq1' hPP0 hPP1 hXA hPA hbA hb5 HDC HCELLS HWS hX hPX hbx hc1 hc2
          have hGB2:G<B2:=hGB G rfl
          go_loopw [91] (fun sj wx=>∃(n:Nat) (ys:List Int),n≤2∧sj=.int .i64 n∧ys.length=M∧OutAt .i8 22 wx w.heap.size (some ⟨G,0,none⟩) cap ys∧PairsAt wx B2 (some ⟨PB,0,none⟩) pcap l∧Below w.heap.size w wx∧B2≤wx.heap.size ∧
           ys=(if n=0 then xs else if n=1 then markF rs M kk p1 xs else markF rs M kk p2 (markF rs M kk p1 xs))) (fun sj _=>2-(intOf sj).toNat)
          case atStart=>exact⟨0,xs,by omega,rfl,HXL.out,hX5,hP5,hb5w,hB5,rfl⟩
          case round =>
           obtain⟨n,ys,hn2,rfl,hyl,hY,hPY,hbY,hBY,hYE⟩:=hrel
           have HYL:=lh hyl
           have HYE:=lh hYE
           clear hyl hYE
           by_cases hn:n<2
           ·obtain⟨b,hbM,hbix,hbn⟩:∃b,b<M∧(#[Value.int .i64 (p1:Int),Value.int .i64 (p2:Int)])[n]? = some (.int .i64 (b:Int))∧Hid (markF rs M kk b ys=if n+1=1 then markF rs M kk p1 xs else markF rs M kk p2 (markF rs M kk p1 xs)):=by
             have:=HYE.out
             rcases (show n=0∨n=1 by omega) with rfl | rfl
             ·exact⟨p1,by omega,rfl,by rw [this];rfl⟩
             ·exact⟨p2,by omega,rfl,by rw [this];rfl⟩
            have hix:∀w:World,(Instr.index 96 (.agg #[Value.int .i64 (p1:Int),Value.int .i64 (p2:Int)]) (.int .i64 n)).run Tryz.prog w=.ok (.int .i64 b) w:=fun w =>
             run_index_int w _ n _ Tryz.underlying96 Tryz.underlying3 (by kernel_rfl) hn hbix
            clear hbix
            obtain⟨G',hG',hGb',hGl',hGc',hGf',_,_⟩:=hY.at b (by have:=HYL.out;omega)
            cases hG'
            have hnb:decide ((n:Int)<2)=true:=by simp;omega
            go_wp2_with (fail)
            clear hGc' hGf'
            have hY1:=hY.set b kk
            have hPY1:=hPY.set (a:=⟨G,b,none⟩) (by exact hGB2) (.int .i8 kk)
            have hbY1:=hbY.setCell (p:=⟨G,b,none⟩) (by exact hGb') (.int .i8 kk)
            have hBY1:B2≤(wr.setCell ⟨G,b,none⟩ (.int .i8 kk)).heap.size:=by simpa [World.setCell] using hBY
            have HS0:Hid (spreadF rs kk (M-(b+1)) (b+1) (ys.set b kk)=markF rs M kk b ys):=rfl
            clear hY hPY hbY hBY hX5 hP5 hb5w hB5
            clear HF HD HAH HKK HMEM HRES HSORT HPERM HLR HLEN HO0 HT HK HM HE HXL HF1 HBB hb1
            go_loopw [24] (fun si wx=>∃(i' m:Nat) (zs:List Int),i'+m=M∧si=.int .i64 i'∧zs.length=M∧OutAt .i8 22 wx w.heap.size (some ⟨G,0,none⟩) cap zs∧PairsAt wx B2 (some ⟨PB,0,none⟩) pcap l∧Below w.heap.size w wx∧B2≤wx.heap.size ∧
             spreadF rs kk m i' zs=markF rs M kk b ys) (fun si _=>M-(intOf si).toNat)
            case atStart=>exact⟨b+1,M-(b+1),ys.set b kk,by omega,by go_num,by rw [List.length_set];exact HYL.out,hY1,hPY1,hbY1,hBY1,HS0.out⟩
            case round =>
             obtain⟨i',m,zs,him',rfl,hzl,hZ,hPZ,hbZ,hBZ,hFZ⟩:=hrel
             have HIM':=lh him'
             have HZL:=lh hzl
             have HFZ:=lh hFZ
             clear him' hzl hFZ hY1 hPY1 hbY1 hBY1
             by_cases hi':i'<M
             ·obtain⟨m,rfl⟩:∃m',m=m'+1:=⟨m-1,by have:=HIM'.out;omega⟩
              obtain⟨G1,hG1,hG1b,hG1l,hG1c,hG1f,_,_⟩:=hZ.at i' (by have:=HZL.out;omega)
              cases hG1
              have hstep:∀y x,ith zs i'=y→ith rs i'=x→spreadF rs kk (m+1) i' zs=if wayI y<0∧dirI x=8 then spreadF rs kk m (i'+1) (zs.set i' kk) else zs:=fun y x hy hx=>by rw [spreadF,hy,hx]
              have HST:=lh hstep
              clear hstep
              generalize hy:ith zs i'=y at hG1c
              have HY:=lh hy
              clear hy
              obtain⟨rb,ro,hra,hrb,hrc'⟩:=hr.at hbZ i' (by omega)
              subst hra
              generalize hx:ith rs i'=x at hrc'
              have HN:=lh (HST.out y x HY.out hx)
              clear hx HST HY
              by_cases hw:wayI y<0
              ·by_cases hd:dirI x=8
               ·have hd':(dirI x==8)=true:=by rw [hd];rfl
                have HN2:=lh (HN.out.trans (if_pos ⟨hw,hd⟩))
                clear hd
                go_wp2_with (first | (go_at_call 196;refine (way_any _ _).mono ?_;rintro e w' ⟨rfl,rfl⟩) | (go_at_call 116;refine (Dir_any _ _).mono ?_;rintro e w6 ⟨rfl,hb6⟩;have hZ6:=hZ.keep hb6;have hP6:=hPZ.keep hb6;have hbZ6:=hbZ.trans (hb6.mono hbZ.size);obtain⟨G2,hG2,hG2b,hG2l,hG2c,hG2f,_,_⟩:=hZ6.at i' (by have:=HZL.out;omega);cases hG2))
                have hB6:=Nat.le_trans hBZ hb6.size
                go_roundw
                case rel=>exact⟨i'+1,m,zs.set i' kk,by have:=HIM'.out;omega,by go_num,by rw [List.length_set];exact HZL.out,hZ6.set i' kk,hP6.set (by exact hGB2) _,hbZ6.setCell (by exact hG2b) _,by simpa [World.setCell] using hB6,by rw [←HFZ.out,HN2.out]⟩
                case measure=>simp [intOf];omega
               ·have hd':(dirI x==8)=false:=by simpa using hd
                have HN2:=lh (HN.out.trans (if_neg (fun h=>hd h.2)))
                clear hd
                go_wp2_with (first | (go_at_call 196;refine (way_any _ _).mono ?_;rintro e w' ⟨rfl,rfl⟩) | (go_at_call 116;refine (Dir_any _ _).mono ?_;rintro e w6 ⟨rfl,hb6⟩;have hZ6:=hZ.keep hb6;have hP6:=hPZ.keep hb6;have hbZ6:=hbZ.trans (hb6.mono hbZ.size)))
                have hB6:=Nat.le_trans hBZ hb6.size
                go_roundw
                case rel=>exact⟨n+1,zs,by omega,by go_num,HZL.out,hZ6,hP6,hbZ6,hB6,by rw [←HN2.out,HFZ.out];exact hbn.out⟩
                case measure=>simp [intOf];omega
              ·have HN2:=lh (HN.out.trans (if_neg (fun h=>hw h.1)))
               go_wp2_with (first | (go_at_call 196;refine (way_any _ _).mono ?_;rintro e w' ⟨rfl,rfl⟩))
               go_roundw
               case rel=>exact⟨n+1,zs,by omega,by go_num,HZL.out,hZ,hPZ,hbZ,hBZ,by rw [←HN2.out,HFZ.out];exact hbn.out⟩
               case measure=>simp [intOf];omega
             ·have h0:m=0:=by have:=HIM'.out;omega
              have hm0:zs=markF rs M kk b ys:=by
               subst h0;exact HFZ.out
              have HZE:=lh hm0
              clear hm0
              go_wp2_with (fail)
              go_roundw
              case rel=>exact⟨n+1,zs,by omega,by go_num,HZL.out,hZ,hPZ,hbZ,hBZ,by rw [HZE.out];exact hbn.out⟩
              case measure=>simp [intOf];omega
           ·obtain rfl:n=2:=by omega
            go_wp2_with (fail)
            go_roundw
            case rel=>exact⟨t+1,q,ah,ys,by omega,rfl,hqM,rfl,hah0,hah1,by go_num,HYL.out,hY,hPY,hbY,hBY,by
             rw [←HF.out,HD.out,resF,←HAH.out.1,HKK.out,if_neg (by omega),←HAH.out.2,HYE.out];rfl⟩
            case measure=>simp [intOf];omega
      ·have hxe:xs=RES:=by
        have:=HF.out
        rw [List.drop_of_length_le (by omega)] at this
        exact this
       have HXE:=lh hxe
       clear hxe HF HMEM hP hO2 hbelW hPX
       obtain⟨FIN,hFIN⟩:∃R,R=restF M E (sideI sos) (sideI eos) (M+1) 0 xs:=⟨_,rfl⟩
       have HFIN:=lh hFIN
       clear hFIN
       generalize hS0e:sideI sos=S0 at hS0
       generalize hS1e:sideI eos=S1 at hS1
       have HS0E:=lh hS0e
       have HS1E:=lh hS1e
       clear hS0e hS1e
       have hxl:=HXL.out
       go_wp2_with (fail)
       clear HXL
       have HXL:=lh hxl
       clear hxl
       go_loopw [25] (fun si wx=>∃(i' f:Nat) (zs:List Int),i'≤M∧M<i'+f∧si=.int .i64 i'∧zs.length=M∧OutAt .i8 22 wx w.heap.size ao cap zs∧Below w.heap.size w wx∧restF M E S0 S1 f i' zs=FIN) (fun si _=>M-(intOf si).toNat)
       case atStart=>exact⟨0,M+1,xs,by omega,by omega,rfl,HXL.out,hX,hbx,by rw [HFIN.out,HS0E.out,HS1E.out]⟩
       case round =>
        obtain⟨i',f,zs,hi'M,hf,rfl,hzl,hZ,hbZ,hFZ⟩:=hrel
        have HZL:=lh hzl
        have HFZ:=lh hFZ
        clear hzl hFZ hX hbx
        obtain⟨f,rfl⟩:∃f',f=f'+1:=⟨f-1,by omega⟩
        by_cases hi':i'<M
        ·obtain⟨G,hG,hGb,hGl,hGc,hGf,hcap,hcm⟩:=hZ.at i' (by have:=HZL.out;omega)
         subst hG
         have hcells:∀i,i<M→wr.cell? ⟨G,i,none⟩=some (.int .i8 (ith zs i))∧wr.frozen? ⟨G,i,none⟩=false:=fun i hi=>by
          obtain⟨G',hG',_,_,hc,hfr,_⟩:=hZ.at i (by have:=HZL.out;omega)
          cases hG';exact⟨hc,hfr⟩
         have HCELLS:=lh hcells
         clear hcells hGf
         have HR1:=lh (restF_out M E S0 S1 f i' zs hi')
         by_cases hw:0≤wayI (ith zs i')
         ·have HN:=lh (HR1.out.1 hw)
          go_wp2_with (go_at_call 196;refine (way_any _ _).mono ?_;rintro e w' ⟨rfl,rfl⟩)
          go_roundw
          case rel=>exact⟨i'+1,f,zs,by omega,by omega,by go_num,HZL.out,hZ,hbZ,by rw [←HFZ.out,HN.out]⟩
          case measure=>simp [intOf];omega
         ·have hrun:=runF_bd zs (M-i') i'
          have hrun1:i'+1≤runF zs (M-i') i':=by
           obtain⟨q,hq⟩:∃q,M-i'=q+1:=⟨M-i'-1,by omega⟩
           rw [hq,runF,if_pos (by omega)]
           exact (runF_bd zs q (i'+1)).1
          have HN:=lh (HR1.out.2 (by omega))
          generalize hj:runF zs (M-i') i'=jj at hrun hrun1 HN
          have HJ:=lh hj
          clear hj HR1
          go_upto_block 12 with (go_at_call 196;refine (way_any _ _).mono ?_;rintro e w' ⟨rfl,rfl⟩)
          go_cut [26] (fun s26 wx=>s26=.int .i64 jj∧wx=wr)
          case first =>
           go_wp2_with (fail)
           go_loop [26] (fun sj=>∃(j m:Nat),j+m=M∧sj=.int .i64 j∧runF zs m j=jj) (fun sj=>M-(intOf sj).toNat)
           case atStart=>exact⟨i',M-i',by omega,rfl,HJ.out⟩
           case round =>
            obtain⟨j,m,hjm,rfl,hFJ⟩:=hrel
            have HJM:=lh hjm
            have HFJ:=lh hFJ
            clear hjm hFJ
            by_cases hjM:j<M
            ·obtain⟨m,rfl⟩:∃m',m=m'+1:=⟨m-1,by have:=HJM.out;omega⟩
             have hcj:=(HCELLS.out j hjM).1
             by_cases hwj:wayI (ith zs j)<0
             ·go_wp2_with (go_at_call 196;refine (way_any _ _).mono ?_;rintro e w' ⟨rfl,rfl⟩)
              go_round
              case rel=>exact⟨j+1,m,by have:=HJM.out;omega,by go_num,by rw [←HFJ.out,runF,if_pos hwj]⟩
              case measure=>simp [intOf];omega
             ·have hje:j=jj:=by rw [←HFJ.out,runF,if_neg hwj]
              have HJE:=lh hje
              clear hje
              go_wp2_with (go_at_call 196;refine (way_any _ _).mono ?_;rintro e w' ⟨rfl,rfl⟩)
              go_meet
              exact⟨by rw [HJE.out],rfl⟩
            ·have hm0:m=0:=by have:=HJM.out;omega
             have HJE:Hid (j=jj):=by subst hm0;exact HFJ.out
             clear hm0
             go_wp2_with (fail)
             go_meet
             exact⟨by rw [HJE.out],rfl⟩
          case rest =>
           obtain⟨rfl,hwc⟩:=hcut
           have hwc':=hwc.symm
           clear hwc
           subst hwc'
           obtain⟨av,hav⟩:∃a,a=if 0<i' then wayI (ith zs (i'-1)) else S0:=⟨_,rfl⟩
           obtain⟨bv,hbv⟩:∃a,a=if jj<M then wayI (ith zs jj) else S1:=⟨_,rfl⟩
           obtain⟨kv,hkv⟩:∃a,a=fillI M E S0 S1 i' jj zs:=⟨_,rfl⟩
           have hkv2:kv=if av=bv then av else E:=by rw [hkv,fillI,hav,hbv]
           have HAV:=lh hav
           have HBV:=lh hbv
           have HKV:=lh hkv
           have HKV2:=lh hkv2
           clear hav hbv hkv hkv2
           go_upto_if 155 with (fail)
           go_cut [27] (fun s27 wx=>s27=.int .i8 av∧wx=wr)
           case first =>
            by_cases hi0:0<i'
            ·have hc1:=(HCELLS.out (i'-1) (by omega)).1
             go_wp2_with (go_at_call 196;refine (way_any _ _).mono ?_;rintro e w' ⟨rfl,rfl⟩)
             go_meet
             exact⟨by rw [HAV.out,if_pos hi0],rfl⟩
            ·go_wp2_with (fail)
             go_meet
             exact⟨by rw [HAV.out,if_neg hi0],rfl⟩
           case rest =>
            obtain⟨rfl,hwc⟩:=hcut
            have hwc':=hwc.symm
            clear hwc
            subst hwc'
            go_upto_if 164 with (fail)
            go_cut [28] (fun s28 wx=>s28=.int .i8 bv∧wx=wr)
            case first =>
             by_cases hjM:jj<M
             ·have hc1:=(HCELLS.out jj hjM).1
              go_wp2_with (go_at_call 196;refine (way_any _ _).mono ?_;rintro e w' ⟨rfl,rfl⟩)
              go_meet
              exact⟨by rw [HBV.out,if_pos hjM],rfl⟩
             ·go_wp2_with (fail)
              go_meet
              exact⟨by rw [HBV.out,if_neg hjM],rfl⟩
            case rest =>
             obtain⟨rfl,hwc⟩:=hcut
             have hwc':=hwc.symm
             clear hwc
             subst hwc'
             go_upto_if 172 with (fail)
             go_cut [27] (fun s27 wx=>s27=.int .i8 kv∧wx=wr)
             case first =>
              by_cases hab:av=bv
              ·have hab':(av != bv)=false:=by simpa using hab
               have HAB:=lh hab
               clear hab
               go_wp2_with (fail)
               go_meet
               exact⟨by rw [HKV2.out,if_pos HAB.out],rfl⟩
              ·have hab':(av != bv)=true:=by simpa using hab
               have HAB:=lh hab
               clear hab
               go_wp2_with (fail)
               go_meet
               exact⟨by rw [HKV2.out,if_neg HAB.out],rfl⟩
             case rest =>
              obtain⟨rfl,hwc⟩:=hcut
              have hwc':=hwc.symm
              clear hwc
              subst hwc'
              go_wp2_with (fail)
              have HFI:Hid (fillF kv (jj-i') i' zs=fillF (fillI M E S0 S1 i' jj zs) (jj-i') i' zs):=by rw [HKV.out];exact lh rfl
              clear HCELLS hGc
              go_loopw [25] (fun si wx=>∃(q m:Nat) (ys:List Int),q+m=jj∧si=.int .i64 q∧ys.length=M∧OutAt .i8 22 wx w.heap.size (some ⟨G,0,none⟩) cap ys∧Below w.heap.size w wx∧fillF kv m q ys=fillF kv (jj-i') i' zs) (fun si _=>jj-(intOf si).toNat)
              case atStart=>exact⟨i',jj-i',zs,by omega,rfl,HZL.out,hZ,hbZ,rfl⟩
              case round =>
               obtain⟨q,m,ys,hqm,rfl,hyl,hY,hbY,hFY⟩:=hrel
               have HQM:=lh hqm
               have HYL:=lh hyl
               have HFY:=lh hFY
               clear hqm hyl hFY hZ hbZ
               by_cases hqj:q<jj
               ·obtain⟨m,rfl⟩:∃m',m=m'+1:=⟨m-1,by have:=HQM.out;omega⟩
                obtain⟨G1,hG1,hG1b,hG1l,hG1c,hG1f,_,_⟩:=hY.at q (by have:=HYL.out;omega)
                cases hG1
                go_wp2_with (fail)
                go_roundw
                case rel=>exact⟨q+1,m,ys.set q kv,by have:=HQM.out;omega,by go_num,by rw [List.length_set];exact HYL.out,hY.set q kv,hbY.setCell (by exact hG1b) _,by rw [←HFY.out];rfl⟩
                case measure=>simp [intOf];omega
               ·have hq:q=jj∧m=0:=by have:=HQM.out;omega
                have HQ:=lh hq
                clear hq
                go_wp2_with (fail)
                go_roundw
                case rel=>exact⟨q,f,ys,by have:=HQ.out;omega,by have:=HQ.out;omega,rfl,HYL.out,hY,hbY,by
                 rw [←HFZ.out,HN.out,←HFI.out,←HFY.out,HQ.out.2,HQ.out.1];rfl⟩
                case measure=>simp [intOf];have:=HQ.out;omega
        ·have hfin:zs=FIN:=by rw [←HFZ.out,restF,if_neg hi']
         have HFIN2:=lh hfin
         clear hfin
         have hend:=res_end (e:=.returned (.slice ao M cap)) HM.out HT.out HF1.out HE.out HPERM.out HSORT.out HLR.out HLEN.out HRES.out HXE.out HFIN.out HFIN2.out rfl HZL.out hZ hbZ
         have HEND:=lh hend
         clear hend
         go_wp2_with (fail)
         go_ret
         exact HEND.out
end
end Go.Proofs.YtlmjbfncopbilaaGreatDoor
