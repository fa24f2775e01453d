/- Part 23 (merged by a program): lemmas of no further condition than each states. -/
import Derived.RegionTactic
import Derived.Scope
import Derived.Test.YtlmjbfncopbilaaGreatDoorK22
namespace Go.Proofs.YtlmjbfncopbilaaGreatDoor
set_option linter.unusedVariables false
set_option linter.unusedSimpArgs false
section
open Go.RowKit
def dealD (cs:List Int) (i:Nat):List Int:=(cs.take i).map dirI++List.replicate (cs.length-i) 0
theorem dealD_next (cs:List Int) (i:Nat) (h:i<cs.length):(dealD cs i).set i (dirI (ith cs i))=dealD cs (i+1):=by
 unfold dealD
 have e:cs[i]=ith cs i:=by rw [ith,List.getD_eq_getElem?_getD,List.getElem?_eq_getElem h];rfl
 rw [List.take_succ_eq_append_getElem h,List.map_append,e,List.append_assoc,show cs.length-i=(cs.length-(i+1))+1 by omega,List.replicate_succ]
 rw [List.set_append_right _ _ (by simp;omega)]
 congr 1
 have:i-((cs.take i).map dirI).length=0:=by simp;omega
 rw [this]
 rfl
theorem dealD_zero (cs:List Int) (i:Nat) (h:i<cs.length):ith (dealD cs 0) i=0:=by
 unfold dealD ith
 rw [List.getD_eq_getElem?_getD]
 simp [h]
theorem dealD_len (cs:List Int) (i:Nat) (h:i≤cs.length):(dealD cs i).length=cs.length:=by unfold dealD;simp;omega
theorem dealD_all (cs:List Int):dealD cs cs.length=cs.map dirI:=by unfold dealD;simp
theorem baseF_bd (want:Int):∀(f:Nat) (ds:List Int),baseF want f ds=0∨baseF want f ds=1
 | 0,ds=>.inl rfl
 | f+1,ds=>by
   rw [baseF]
   repeat' split
   all_goals first | exact .inl rfl | exact .inr rfl | exact baseF_bd want f _
theorem idx_find (ds:List Int) (v:Int):∀(m i:Nat),i+m=ds.length→idxF ds v m i=(match (ds.drop i).findIdx? (fun d=>d==v) with | none => -1 | some j=>((i+j:Nat):Int))
 | 0,i,h=>by
   rw [idxF,List.drop_eq_nil_iff.2 (by omega)]
   rfl
 | m+1,i,h=>by
   have hd:ds.drop i=ith ds i::ds.drop (i+1):=by
    rw [List.drop_eq_getElem_cons (by omega),ith,List.getD_eq_getElem?_getD,List.getElem?_eq_getElem (by omega)];rfl
   rw [idxF,hd,List.findIdx?_cons]
   by_cases hv:ith ds i=v
   ·rw [if_pos hv]
    have:(ith ds i==v)=true:=by simpa using hv
    rw [this]
    simp
   ·rw [if_neg hv,idx_find ds v m (i+1) (by omega)]
    have:(ith ds i==v)=false:=by simpa using hv
    rw [this]
    cases (ds.drop (i+1)).findIdx? (fun d=>d==v) with
    | none=>rfl
    | some j=>show (((i+1+j:Nat)):Int)=(((i+(j+1):Nat)):Int);omega
theorem para_len (ds:List Int):paraLen ds=if idxF ds 10 ds.length 0 = -1 then ds.length else (idxF ds 10 ds.length 0+1).toNat:=by
 rw [idx_find ds 10 ds.length 0 (by omega),List.drop_zero]
 unfold paraLen
 cases ds.findIdx? (fun d=>d==10) with
 | none=>rfl
 | some j =>
   show j+1=if ((0+j:Nat):Int) = -1 then ds.length else (((0+j:Nat):Int)+1).toNat
   rw [if_neg (by omega)]
   omega
theorem idxF_bd (ds:List Int) (v:Int):∀(m i:Nat),idxF ds v m i = -1∨((i:Int)≤idxF ds v m i∧idxF ds v m i<i+m)
 | 0,i=>.inl rfl
 | m+1,i=>by
   rw [idxF]
   split
   ·right;omega
   ·rcases idxF_bd ds v m (i+1) with h | h
    ·exact .inl h
    ·right;omega
theorem rd_take {k:IntKind} {w:World} {a:Option Addr} {xs:List Int} (h:Rd k w a xs) (m:Nat):Rd k w a (xs.take m):=by
 rcases h with rfl | ⟨b,off,e,hb,hc⟩
 ·exact .inl (by simp)
 ·refine .inr ⟨b,off,e,hb,fun i hi=>?_⟩
  rw [List.length_take] at hi
  rw [hc i (by omega)]
  congr 2
  unfold ith
  rw [List.getD_eq_getElem?_getD,List.getD_eq_getElem?_getD,List.getElem?_take,if_pos (by omega)]
def VLPost (cs:List Int) (want:Int) (n:Nat) (w:World) (e:Ending) (w':World):Prop :=
 ∃a c,e=.returned (.tuple #[.slice a n c,.int .u8 (visualI cs want).2])∧(visualI cs want).1.length=n∧OutAt .u8 5 w' w.heap.size a c (ints (visualI cs want).1)∧Below w.heap.size w w'
theorem ints_append (a b:List Nat):ints (a++b)=ints a++ints b:=by unfold ints;simp
theorem OutAt.news {k:IntKind} {e base cap G:Nat} {w:World} {out:List Int} (h:OutAt k e w base (some ⟨G,0,none⟩) cap out):∀j u,(out.map (Value.int k))[j]? = some u→w.cell? ((⟨G,0,none⟩:Addr).add j)=some u:=fun j u hj=>World.ownsRow.cells h (g:=G) rfl j u hj
set_option maxRecDepth 100000 in
set_option maxHeartbeats 1000000 in
theorem VLevels_any (a:Option Addr) (cs:List Int) (n c:Nat) (want:Int) (w:World) (hl:cs.length=n) (hc:Rd .i32 w a cs) (hn:n≤2097152) (hnc:n≤c) (hcm:c≤9223372036854775807) :
 Calls Tryz.prog 75 #[.slice a n c,.int .i8 want] w (VLPost cs want n w):=by
 obtain⟨i5,hi5,hz5,ha5,hb5⟩:=info_parts (Tryz.info_u8)
 obtain⟨i40,hi40,hz40,ha40,hb40⟩:=info_parts (Tryz.info_i8)
 have HL:=lh hl
 have hmk:=run_make_row (P:=Tryz.prog) 103 22 i40 (.int .i8 0) Tryz.underlying103 hi40 hz40 ha40 rfl .i64 .i64 n (by rw [hb40];omega) (by omega)
 clear hl
 go_enter Tryz.func75,Tryz.ntmps75
 go_wp2_with (fail)
 clear hmk
 have hrow0:=World.rowIs_made w (.int .i8 0) n 22
 have hO0:OutAt .i8 22 (w.alloc (.cells (madeCells #[.int .i8 0] n) 22)) w.heap.size (some ⟨w.heap.size,0,none⟩) n (dealD cs 0) :=
  out_of_row (hrow0.congr fun i hi=>by rw [dealD_zero cs i (by rw [HL.out];exact hi)]) (by rw [dealD_len cs 0 (by omega)];exact HL.out) (Nat.le_refl _) (by unfold maxLen;omega)
 have hb0:=(Below.refl w.heap.size w).alloc (Nat.le_refl _) (.cells (madeCells #[.int .i8 0] n) 22)
 clear hrow0
 go_loopw [7,8,17] (fun _ _ u wx=>∃i:Nat,i≤n∧u=.int .i64 i∧OutAt .i8 22 wx w.heap.size (some ⟨w.heap.size,0,none⟩) n (dealD cs i)∧Below w.heap.size w wx) (fun _ _ u _=>n-(intOf u).toNat)
 case atStart=>exact⟨0,by omega,rfl,hO0,hb0⟩
 case round =>
  obtain⟨i,hi,rfl,hO,hbel⟩:=hrel
  clear hO0 hb0
  by_cases hlt:i<n
  ·obtain⟨Gc,co,rfl,hGc,hcc⟩:=hc.at hbel i (by rw [HL.out];exact hlt)
   obtain⟨G',hG',_,hGl,hXc,hXf,_,_⟩:=hO.at i (by rw [dealD_len cs i (by rw [HL.out];exact hi),HL.out];exact hlt)
   cases hG'
   have hnx:=dealD_next cs i (by rw [HL.out];exact hlt)
   obtain⟨y,hy⟩:∃y,ith cs i=y:=⟨_,rfl⟩
   rw [hy] at hcc hnx
   have HNX:=lh hnx
   have HO:=lh hO
   have HBE:=lh hbel
   generalize ith (dealD cs i) i=vo at hXc
   have gi0:(0:Int)≤(i:Int):=by omega
   have gi1:(i:Int)<(n:Int):=by omega
   clear hO hbel hy hnx
   go_wp2_with (go_at_call 116;refine (Dir_any y _).mono ?_;rintro e w2 ⟨rfl,hw2⟩;have hx2:=(hw2.cell (p:=⟨w.heap.size,i,none⟩) hGl).trans hXc;have hf2:=(hw2.frozen (p:=⟨w.heap.size,i,none⟩) hGl).trans hXf;have HW2:=lh hw2;clear hw2)
   have hO3:=(HO.out.keep HW2.out).set i (dirI y)
   rw [HNX.out] at hO3
   have hb3:Below w.heap.size w (w2.setCell ⟨w.heap.size,i,none⟩ (.int .i8 (dirI y))):=(HBE.out.trans (HW2.out.mono HBE.out.size)).setCell (p:=⟨w.heap.size,i,none⟩) (Nat.le_refl _) _
   go_roundw
   case rel=>exact⟨i+1,by omega,by go_num,hO3,hb3⟩
   case measure=>simp [intOf];omega
  ·have hie:i=n:=by omega
   rw [hie,←HL.out,dealD_all,HL.out] at hO
   obtain⟨ds,hds⟩:∃ds,cs.map dirI=ds:=⟨_,rfl⟩
   rw [hds] at hO
   have hdl:ds.length=n:=by rw [←hds,List.length_map,HL.out]
   obtain⟨bs,hbs⟩:∃bs:Nat,baseI ds want=bs:=⟨(baseI ds want).toNat,by rcases baseF_bd want (ds.length+1) ds with h | h <;> (unfold baseI;omega)⟩
   have hb1:bs≤1:=by rcases baseF_bd want (ds.length+1) ds with h | h <;> (unfold baseI at hbs;omega)
   have hV1:(visualI cs want).1=linesF bs n cs []:=by
    unfold visualI
    rw [hds,hbs,HL.out]
    rfl
   have hV2:(visualI cs want).2=bs:=by
    unfold visualI
    rw [hds,hbs]
   have HBA:=lh (Base_any want (some ⟨w.heap.size,0,none⟩) ds n n wr hdl hO.rd hn (Nat.le_refl _) (by unfold maxLen;omega))
   rw [hbs] at HBA
   have HDS:=lh hds
   have HDL:=lh hdl
   have HV1:=lh hV1
   have HV2:=lh hV2
   have hszr:w.heap.size<wr.heap.size:=hO.lt.2
   have hRd:Rd .i8 wr (some ⟨w.heap.size,0,none⟩) ds:=hO.rd
   have hie':n=i:=hie.symm
   subst hie'
   obtain⟨V,hV⟩:∃V,V=wr:=⟨_,rfl⟩
   subst hV
   clear hO hds hdl hbs hV1 hV2 hi hlt hie
   go_wp2_with (go_at_call 117;refine HBA.out.mono ?_;rintro e w' ⟨rfl,hw'⟩;have hw2:=hw'.symm;clear hw';subst hw2)
   have HBW:=lh hbel
   obtain⟨FIN,hFIN⟩:∃FIN,linesF bs n cs []=FIN:=⟨_,rfl⟩
   have HFIN:=lh hFIN
   clear hbel HBA hFIN
   go_loopw [0,6,10,11] (fun u0 u6 u10 _ wx=>∃(at' k f:Nat) (a0 d0:Option Addr) (c0 e0:Nat) (out:List Nat),at'+k=n∧u0=.slice a0 k c0∧u6=.slice d0 k e0∧k≤c0∧c0≤9223372036854775807∧k≤e0∧e0≤9223372036854775807 ∧
    Rd .i32 w a0 (cs.drop at')∧Rd .i8 V d0 (ds.drop at')∧wx.ownsRow V.heap.size 5 1 u10 out.length ((ints out).map (Value.int .u8))∧out.length=at'∧Below V.heap.size V wx∧linesF bs f (cs.drop at') out=FIN∧k≤f)
    (fun u0 _ _ _ _=>match u0 with | .slice _ k _=>k | _=>0)
   case atStart=>exact⟨0,n,n,a,some ⟨w.heap.size,0,none⟩,c,n,[],by omega,rfl,rfl,hnc,hcm,Nat.le_refl _,by omega,by rw [List.drop_zero];exact hc,by rw [List.drop_zero];exact hRd,World.ownsRow_nil _ _ _ _,rfl,Below.refl _ _,by rw [List.drop_zero];exact HFIN.out,Nat.le_refl _⟩
   case round =>
    obtain⟨at',k,f,a0,d0,c0,e0,out,hak,rfl,rfl,hkc,hc0,hke,he0,hr0,hrd0,hown,hol,hbV,hF,hkf⟩:=hrel
    obtain⟨oa,oc,hov,hoc1,hoc2⟩:=own_slice hown
    subst hov
    have hcl:(cs.drop at').length=k:=by rw [List.length_drop,HL.out];omega
    have hdl2:(ds.drop at').length=k:=by rw [List.length_drop,HDL.out];omega
    cases k with
    | zero =>
      have hnil:cs.drop at'=[]:=List.eq_nil_of_length_eq_zero hcl
      have hfo:out=FIN:=by
       rw [hnil] at hF
       cases f with
       | zero=>exact hF
       | succ f=>rw [linesF,if_pos rfl] at hF;exact hF
      have HOW:=lh hown
      have HFO:=lh hfo
      have HOL:=lh hol
      clear hown hF hnil hcl hdl2 hr0 hrd0 hfo hol
      go_wp2_with (fail)
      go_ret2
      have h1:=HFO.out
      have h2:=HOL.out
      subst h1
      have hn2:out.length=n:=by omega
      have e1:(visualI cs want).1=out:=HV1.out.trans HFIN.out
      refine⟨oa,oc,by rw [HV2.out,hn2];rfl,by rw [e1];exact hn2,?_,HBW.out.trans (hbV.mono (by omega))⟩
      rw [e1]
      unfold OutAt
      rw [ints_len]
      exact ownsRow_base HOW.out (by omega)
    | succ k' =>
      obtain⟨k,hk⟩:∃k,k'+1=k:=⟨_,rfl⟩
      have HOL:=lh hol
      have hol1:out.length≤n:=by omega
      clear hol
      rw [hk] at hak hkc hke hcl hdl2 hkf ⊢
      have hkp:0<k:=by omega
      obtain⟨f',rfl⟩:∃f',f=f'+1:=⟨f-1,by omega⟩
      rw [linesF,if_neg (by intro e;rw [e] at hcl;simp at hcl;omega)] at hF
      have hmd:(cs.drop at').map dirI=ds.drop at':=by rw [List.map_drop,HDS.out]
      rw [hmd] at hF
      obtain⟨q,hq⟩:∃q,paraLen (ds.drop at')=q:=⟨_,rfl⟩
      rw [hq,List.map_take,hmd,List.drop_drop] at hF
      obtain⟨r,hr⟩:∃r,idxF (ds.drop at') 10 k 0=r:=⟨_,rfl⟩
      have hrb:=idxF_bd (ds.drop at') 10 k 0
      have hpl:=para_len (ds.drop at')
      rw [hdl2,hr,hq] at hpl
      rw [hr] at hrb
      have hq1:0<q∧q≤k:=by
       rw [hpl]
       split
       ·omega
       ·rcases hrb with h | h
        ·contradiction
        ·omega
      obtain⟨G,o,rfl,hGl,_⟩:=hr0.at (Below.refl _ _) 0 (by omega)
      obtain⟨G2,o2,rfl,hGl2,_⟩:=hrd0.at (Below.refl _ _) 0 (by omega)
      have HIX:=lh (Ix8_any (some ⟨G2,o2,none⟩) (ds.drop at') k e0 10 wr hdl2 (hrd0.below hbV) (by omega))
      rw [hr] at HIX
      obtain⟨PP,hPP⟩:∃PP,paraI ((cs.drop at').take q) ((ds.drop at').take q) bs=PP:=⟨_,rfl⟩
      have HPA:=lh (fun W (hb:Below wr.heap.size wr W)=>Para_any (some ⟨G,o,none⟩) (some ⟨G2,o2,none⟩) ((cs.drop at').take q) ((ds.drop at').take q) q c0 e0 bs W (by rw [List.length_take];omega) (by rw [List.length_take];omega)
       (rd_take (hr0.below (HBW.out.trans ((hbV.trans (hb.mono hbV.size)).mono (by omega)))) q) (rd_take (hrd0.below (hbV.trans (hb.mono hbV.size))) q) (by omega) (by omega) he0 (by omega))
      unfold ParPost at HPA
      rw [hPP] at HPA hF
      have HF:=lh hF
      have HK:=lh hk
      have HPL:=lh hpl
      have HOW:=lh hown
      clear hF hr hpl hPP hmd hq hk hown
      have hr10:((k:Int) > 0):=by omega
      go_upto_if 38 with (go_at_call 118;refine HIX.out.mono ?_;rintro e w' ⟨rfl,hw'⟩;have hw2:=hw'.symm;clear hw';subst hw2)
      go_cut [11] (fun v wx=>v=.int .i64 (q:Nat)∧wx=wr)
      case first =>
       have e:=HPL.out
       by_cases hm:r = -1
       ·subst hm
        rw [if_pos rfl] at e
        have HE:=lh e
        clear e
        go_wp2_with (fail)
        go_meet
        exact⟨by rw [HE.out],rfl⟩
       ·rw [if_neg hm] at e
        have HE:Hid (r+1=q):=lh (by rcases hrb with h | h <;> omega)
        have h0:((r+1)==0)=false:=by rw [beq_eq_false_iff_ne];rcases hrb with h | h <;> omega
        clear e
        go_wp2_with (fail)
        go_meet
        exact⟨by rw [HE.out],rfl⟩
      case rest =>
       obtain⟨rfl,hwx⟩:=hcut
       have hwx':=hwx.symm
       clear hwx
       subst hwx'
       have gq0:(0:Int)≤(q:Int):=by omega
       have gq1:(q:Int)≤(k:Int):=by omega
       have gq2:(q:Int)≤(c0:Int):=by omega
       have gq3:(q:Int)≤(e0:Int):=by omega
       go_upto_region 13 with (fail)
       go_region_held3 (fun w'=>True) (trivial) (first | (go_at_call 119;refine (HPA.out wr.drew (bl_drewN (Below.refl _ _) 1)).mono ?_;rintro e w3 ⟨pa,pc,rfl,hpl,hPO,hb3⟩;obtain⟨Gp,hGp,_,_,_⟩:=OutAt.at hPO 0 (by rw [ints_len,hpl];exact hq1.1);subst hGp;have hbW:=(bl_drewN (Below.refl wr.heap.size wr) 1).trans hb3;have HPP:=lh hPO;have HB3:=lh hbW;have hs3:=hbW.size;clear hPO hb3 hbW) | (refine step_append_lies _ (by rfl) _ _ _ (by rfl) V.heap.size 5 i5 (.int .u8 0) 1 1 Tryz.underlying134 hi5 hz5 ha5 hb5 rfl (by decide) (.slice oa out.length oc) out.length ((ints out).map (Value.int .u8)) (by rfl) (by first | exact ownsRow_keep HOW.out HB3.out | exact World.ownsRow.drew (ownsRow_keep HOW.out HB3.out)) ⟨Gp,0,none⟩ q pc ((ints PP).map (Value.int .u8)) (by rfl) (by rw [List.length_map,ints_len,hpl,Nat.mul_one]) (by exact OutAt.news HPP.out) (by intro u hu;rw [List.mem_map] at hu;obtain⟨x,_,rfl⟩:=hu;rfl) hq1.1 (by unfold maxLen;omega) (by omega) (by exact Nat.le_trans hbV.size hs3) _ rfl ?_;intro gg cap4 w4 hown4 hg4 hat4 hlt4))
       all_goals
        have hrow4:w4.ownsRow V.heap.size 5 1 (.slice (some ⟨gg,0,none⟩) (out.length+q) cap4) (out++PP).length ((ints (out++PP)).map (Value.int .u8)):=by
         rw [List.length_append,hpl,ints_append,List.map_append];exact hown4
        have hbel4:Below V.heap.size V w4:=(hbV.trans (HB3.out.mono hbV.size)).grown hg4 (by exact Nat.le_trans hbV.size hs3) (fun g e=>(World.ownsRow.lt HOW.out g e).1)
        have hRA:∀ad,ad=some ⟨G,o+q,none⟩∨q=k→Rd .i32 w ad (cs.drop (at'+q)):=fun ad had=>by
         rcases had with rfl | rfl
         ·have:=rd_drop hr0 q
          rwa [List.drop_drop] at this
         ·exact .inl (by rw [List.drop_eq_nil_iff,HL.out];omega)
        have hRB:∀ad,ad=some ⟨G2,o2+q,none⟩∨q=k→Rd .i8 V ad (ds.drop (at'+q)):=fun ad had=>by
         rcases had with rfl | rfl
         ·have:=rd_drop hrd0 q
          rwa [List.drop_drop] at this
         ·exact .inl (by rw [List.drop_eq_nil_iff,HDL.out];omega)
        have HR4:=lh hrow4
        have HB4:=lh hbel4
        have HRA:=lh hRA
        have HRB:=lh hRB
        have hlen4:(out++PP).length=at'+q:=by rw [List.length_append,hpl,HOL.out]
        have HL4:=lh hlen4
        clear hrow4 hbel4 hRA hRB hlen4 hown4 hg4 hat4 hr0 hrd0 hb1
        by_cases hcq:c0=q
        ·by_cases heq:e0=q
         ·go_wp2_with (fail)
          go_quiet (fail)
          go_wp2_with (fail)
          go_roundw
          case rel=>exact⟨at'+q,k-q,f',_,_,_,_,out++PP,by omega,rfl,rfl,by omega,by omega,by omega,by omega,HRA.out _ (.inr (by omega)),HRB.out _ (.inr (by omega)),HR4.out,HL4.out,bl_drewN HB4.out _,HF.out,by omega⟩
          case measure=>show k-q<k;omega
         ·go_wp2_with (fail)
          go_quiet (fail)
          go_wp2_with (fail)
          go_roundw
          case rel=>exact⟨at'+q,k-q,f',_,_,_,_,out++PP,by omega,rfl,rfl,by omega,by omega,by omega,by omega,HRA.out _ (.inr (by omega)),HRB.out _ (.inr (by omega)),HR4.out,HL4.out,bl_drewN HB4.out _,HF.out,by omega⟩
          case measure=>show k-q<k;omega
        ·by_cases heq:e0=q
         ·go_wp2_with (fail)
          go_quiet (fail)
          go_wp2_with (fail)
          go_roundw
          case rel=>exact⟨at'+q,k-q,f',_,_,_,_,out++PP,by omega,rfl,rfl,by omega,by omega,by omega,by omega,HRA.out _ (.inr (by omega)),HRB.out _ (.inr (by omega)),HR4.out,HL4.out,bl_drewN HB4.out _,HF.out,by omega⟩
          case measure=>show k-q<k;omega
         ·go_wp2_with (fail)
          go_quiet (fail)
          go_wp2_with (fail)
          go_roundw
          case rel=>exact⟨at'+q,k-q,f',_,_,_,_,out++PP,by omega,rfl,rfl,by omega,by omega,by omega,by omega,HRA.out _ (.inl rfl),HRB.out _ (.inl rfl),HR4.out,HL4.out,bl_drewN HB4.out _,HF.out,by omega⟩
          case measure=>show k-q<k;omega
end
section
def mirrorI (r:Int):Int :=
 if (pairI r).2.2=true then (pairI r).1
 else if r=60∨r=65308 then r+2 else if r=62∨r=65310 then r-2
 else if r=171 then 187 else if r=187 then 171
 else if r=8249∨r=8250 then 16499-r else if r=8804∨r=8805 then 17609-r else r
def hangsF (d:Int) (h:Bool):Bool:=if d=11∨d=10 then true else if d≠12∧leftB d=false∧(d<19∨22<d) then false else h
def hangF (cs:List Int) (base fr:Nat):Nat→Bool→List Nat→List Nat
 | 0,_,out=>out
 | i+1,h,out =>
   hangF cs base fr i (hangsF (dirI (ith cs (fr+i))) h) (if hangsF (dirI (ith cs (fr+i))) h=true then (out.set i (min (out.getD i 0) 126)).set i base else out.set i (min (out.getD i 0) 126))
def clampN (n:Nat) (x:Int):Nat:=min x.toNat n
def rowI (cs:List Int) (ls:List Nat) (base:Nat) (fr tt:Int):Option (List Nat) :=
 let n:=min cs.length ls.length
 if clampN n tt<clampN n fr then none
 else some (hangF cs (min base 126) (clampN n fr) (clampN n tt-clampN n fr) true ((ls.drop (clampN n fr)).take (clampN n tt-clampN n fr)))
open Go.RowKit
set_option maxRecDepth 100000 in
set_option maxHeartbeats 1000000 in
theorem Mirror_any (r:Int) (w:World):Calls Tryz.prog 130 #[.int .i32 r] w fun e w'=>e=.returned (.int .i32 (mirrorI r))∧w=w':=by
 have hM:mirrorI r=if (pairI r).2.2=true then (pairI r).1
  else if r=60∨r=65308 then r+2 else if r=62∨r=65310 then r-2
  else if r=171 then 187 else if r=187 then 171
  else if r=8249∨r=8250 then 16499-r else if r=8804∨r=8805 then 17609-r else r:=rfl
 have HP:=lh (Pair_any r w)
 unfold PairPost at HP
 obtain⟨pr,hpr⟩:∃pr,pairI r=pr:=⟨_,rfl⟩
 rw [hpr] at hM HP
 obtain⟨o,op,ok⟩:=pr
 simp only at hM HP
 clear hpr
 have HM:=lh hM
 clear hM
 go_enter Tryz.func130,Tryz.ntmps130
 cases ok with
 | true =>
   go_wp2_with (go_at_call 170;refine HP.out.mono ?_;rintro e w' ⟨rfl,hw'⟩;subst hw')
   go_ret
   exact⟨ret_i (by rw [HM.out,if_pos (by first | rfl | trivial)]),rfl⟩
 | false =>
   have e:=HM.out
   rw [if_neg (by decide)] at e
   have HE:=lh e
   clear e HM
   by_cases h1:r=60∨r=65308
   ·have e:=HE.out.trans (if_pos h1)
    have HF:=lh e
    clear e
    rcases h1 with rfl | rfl
    all_goals
     go_wp2_with (go_at_call 170;refine HP.out.mono ?_;rintro e w' ⟨rfl,hw'⟩;subst hw')
     go_ret
     exact⟨ret_i (by rw [HF.out];rfl),rfl⟩
   ·have e:=HE.out.trans (if_neg h1)
    by_cases h2:r=62∨r=65310
    ·have HF:=lh (e.trans (if_pos h2))
     clear e
     rcases h2 with rfl | rfl
     all_goals
      go_wp2_with (go_at_call 170;refine HP.out.mono ?_;rintro e w' ⟨rfl,hw'⟩;subst hw')
      go_ret
      exact⟨ret_i (by rw [HF.out];rfl),rfl⟩
    ·replace e:=e.trans (if_neg h2)
     by_cases h3:r=171
     ·have HF:=lh (e.trans (if_pos h3))
      clear e
      subst h3
      go_wp2_with (go_at_call 170;refine HP.out.mono ?_;rintro e w' ⟨rfl,hw'⟩;subst hw')
      go_ret
      exact⟨ret_i (by rw [HF.out]),rfl⟩
     ·replace e:=e.trans (if_neg h3)
      by_cases h4:r=187
      ·have HF:=lh (e.trans (if_pos h4))
       clear e
       subst h4
       go_wp2_with (go_at_call 170;refine HP.out.mono ?_;rintro e w' ⟨rfl,hw'⟩;subst hw')
       go_ret
       exact⟨ret_i (by rw [HF.out]),rfl⟩
      ·replace e:=e.trans (if_neg h4)
       by_cases h5:r=8249∨r=8250
       ·have HF:=lh (e.trans (if_pos h5))
        clear e
        rcases h5 with rfl | rfl
        all_goals
         go_wp2_with (go_at_call 170;refine HP.out.mono ?_;rintro e w' ⟨rfl,hw'⟩;subst hw')
         go_ret
         exact⟨ret_i (by rw [HF.out];rfl),rfl⟩
       ·replace e:=e.trans (if_neg h5)
        by_cases h6:r=8804∨r=8805
        ·have HF:=lh (e.trans (if_pos h6))
         clear e
         rcases h6 with rfl | rfl
         all_goals
          go_wp2_with (go_at_call 170;refine HP.out.mono ?_;rintro e w' ⟨rfl,hw'⟩;subst hw')
          go_ret
          exact⟨ret_i (by rw [HF.out];rfl),rfl⟩
        ·have HF:=lh (e.trans (if_neg h6))
         have n1:(r==60)=false:=by rw [beq_eq_false_iff_ne];omega
         have n2:(r==65308)=false:=by rw [beq_eq_false_iff_ne];omega
         have n3:(r==62)=false:=by rw [beq_eq_false_iff_ne];omega
         have n4:(r==65310)=false:=by rw [beq_eq_false_iff_ne];omega
         have n5:(r==171)=false:=by rw [beq_eq_false_iff_ne];omega
         have n6:(r==187)=false:=by rw [beq_eq_false_iff_ne];omega
         have n7:(r==8249)=false:=by rw [beq_eq_false_iff_ne];omega
         have n8:(r==8250)=false:=by rw [beq_eq_false_iff_ne];omega
         have n9:(r==8804)=false:=by rw [beq_eq_false_iff_ne];omega
         have n10:(r==8805)=false:=by rw [beq_eq_false_iff_ne];omega
         clear e h1 h2 h3 h4 h5 h6 HE
         go_wp2_with (go_at_call 170;refine HP.out.mono ?_;rintro e w' ⟨rfl,hw'⟩;subst hw')
         go_ret
         exact⟨ret_i (by rw [HF.out]),rfl⟩
end
end Go.Proofs.YtlmjbfncopbilaaGreatDoor
