/- Part 25 (merged by a program): lemmas of no further condition than each states. -/
import Derived.RegionTactic
import Derived.Scope
import Derived.Test.YtlbclfmbejjneaaGreatDoorR24
namespace Go.Proofs.YtlbclfmbejjneaaGreatDoor
set_option linter.unusedVariables false
set_option linter.unusedSimpArgs false
section
open Go.RowKit
def dealD (cs:List Int) (i:Nat):List Int:=(cs.take i).map dirI++List.replicate (cs.length-i) 0
theorem dealD_next (cs:List Int) (i:Nat) (h:i<cs.length):(dealD cs i).set i (dirI (ith cs i))=dealD cs (i+1):=by
 unfold dealD
 have e:cs[i]=ith cs i:=by rw [ith,List.getD_eq_getElem?_getD,List.getElem?_eq_getElem h];rfl
 rw [List.take_succ_eq_append_getElem h,List.map_append,e,List.append_assoc,show cs.length-i=(cs.length-(i+1))+1 by omega,List.replicate_succ]
 rw [List.set_append_right _ _ (by simp;omega)]
 congr 1
 have:i-((cs.take i).map dirI).length=0:=by simp;omega
 rw [this]
 rfl
theorem dealD_zero (cs:List Int) (i:Nat) (h:i<cs.length):ith (dealD cs 0) i=0:=by
 unfold dealD ith
 rw [List.getD_eq_getElem?_getD]
 simp [h]
theorem dealD_len (cs:List Int) (i:Nat) (h:i≤cs.length):(dealD cs i).length=cs.length:=by unfold dealD;simp;omega
theorem dealD_all (cs:List Int):dealD cs cs.length=cs.map dirI:=by unfold dealD;simp
theorem baseF_bd (want:Int):∀(f:Nat) (ds:List Int),baseF want f ds=0∨baseF want f ds=1
 | 0,ds=>.inl rfl
 | f+1,ds=>by
   rw [baseF]
   repeat' split
   all_goals first | exact .inl rfl | exact .inr rfl | exact baseF_bd want f _
theorem idx_find (ds:List Int) (v:Int):∀(m i:Nat),i+m=ds.length→idxF ds v m i=(match (ds.drop i).findIdx? (fun d=>d==v) with | none => -1 | some j=>((i+j:Nat):Int))
 | 0,i,h=>by
   rw [idxF,List.drop_eq_nil_iff.2 (by omega)]
   rfl
 | m+1,i,h=>by
   have hd:ds.drop i=ith ds i::ds.drop (i+1):=by
    rw [List.drop_eq_getElem_cons (by omega),ith,List.getD_eq_getElem?_getD,List.getElem?_eq_getElem (by omega)];rfl
   rw [idxF,hd,List.findIdx?_cons]
   by_cases hv:ith ds i=v
   ·rw [if_pos hv]
    have:(ith ds i==v)=true:=by simpa using hv
    rw [this]
    simp
   ·rw [if_neg hv,idx_find ds v m (i+1) (by omega)]
    have:(ith ds i==v)=false:=by simpa using hv
    rw [this]
    cases (ds.drop (i+1)).findIdx? (fun d=>d==v) with
    | none=>rfl
    | some j=>show (((i+1+j:Nat)):Int)=(((i+(j+1):Nat)):Int);omega
theorem para_len (ds:List Int):paraLen ds=if idxF ds 10 ds.length 0 = -1 then ds.length else (idxF ds 10 ds.length 0+1).toNat:=by
 rw [idx_find ds 10 ds.length 0 (by omega),List.drop_zero]
 unfold paraLen
 cases ds.findIdx? (fun d=>d==10) with
 | none=>rfl
 | some j =>
   show j+1=if ((0+j:Nat):Int) = -1 then ds.length else (((0+j:Nat):Int)+1).toNat
   rw [if_neg (by omega)]
   omega
theorem idxF_bd (ds:List Int) (v:Int):∀(m i:Nat),idxF ds v m i = -1∨((i:Int)≤idxF ds v m i∧idxF ds v m i<i+m)
 | 0,i=>.inl rfl
 | m+1,i=>by
   rw [idxF]
   split
   ·right;omega
   ·rcases idxF_bd ds v m (i+1) with h | h
    ·exact .inl h
    ·right;omega
theorem rd_take {k:IntKind} {w:World} {a:Option Addr} {xs:List Int} (h:Rd k w a xs) (m:Nat):Rd k w a (xs.take m):=by
 rcases h with rfl | ⟨b,off,e,hb,hc⟩
 ·exact .inl (by simp)
 ·refine .inr ⟨b,off,e,hb,fun i hi=>?_⟩
  rw [List.length_take] at hi
  rw [hc i (by omega)]
  congr 2
  unfold ith
  rw [List.getD_eq_getElem?_getD,List.getD_eq_getElem?_getD,List.getElem?_take,if_pos (by omega)]
def VLPost (cs:List Int) (want:Int) (n:Nat) (w:World) (e:Ending) (w':World):Prop :=
 ∃a c,e=.returned (.tuple #[.slice a n c,.int .u8 (visualI cs want).2])∧(visualI cs want).1.length=n∧OutAt .u8 5 w' w.heap.size a c (ints (visualI cs want).1)∧Below w.heap.size w w'
theorem ints_append (a b:List Nat):ints (a++b)=ints a++ints b:=by unfold ints;simp
theorem OutAt.news {k:IntKind} {e base cap G:Nat} {w:World} {out:List Int} (h:OutAt k e w base (some ⟨G,0,none⟩) cap out):∀j u,(out.map (Value.int k))[j]? = some u→w.cell? ((⟨G,0,none⟩:Addr).add j)=some u:=fun j u hj=>World.ownsRow.cells h (g:=G) rfl j u hj
set_option maxRecDepth 100000 in
set_option maxHeartbeats 1000000 in
theorem VLevels_any (a:Option Addr) (cs:List Int) (n c:Nat) (want:Int) (w:World) (hl:cs.length=n) (hc:Rd .i32 w a cs) (hn:n≤2097152) (hnc:n≤c) (hcm:c≤9223372036854775807) :
 Calls Tryz.prog 77 #[.slice a n c,.int .i8 want] w (VLPost cs want n w):=by
 obtain⟨i5,hi5,hz5,ha5,hb5⟩:=info_parts (Tryz.info_u8)
 obtain⟨i40,hi40,hz40,ha40,hb40⟩:=info_parts (Tryz.info_i8)
 have HL:=lh hl
 have hmk:=run_make_row (P:=Tryz.prog) 142 22 i40 (.int .i8 0) Tryz.underlying142 hi40 hz40 ha40 rfl .i64 .i64 n (by rw [hb40];omega) (by omega)
 clear hl
 go_enter Tryz.func77,Tryz.ntmps77
 go_wp2_with (fail)
 clear hmk
 have hrow0:=World.rowIs_made w (.int .i8 0) n 22
 have hO0:OutAt .i8 22 (w.alloc (.cells (madeCells #[.int .i8 0] n) 22)) w.heap.size (some ⟨w.heap.size,0,none⟩) n (dealD cs 0) :=
  out_of_row (hrow0.congr fun i hi=>by rw [dealD_zero cs i (by rw [HL.out];exact hi)]) (by rw [dealD_len cs 0 (by omega)];exact HL.out) (Nat.le_refl _) (by unfold maxLen;omega)
 have hb0:=(Below.refl w.heap.size w).alloc (Nat.le_refl _) (.cells (madeCells #[.int .i8 0] n) 22)
 clear hrow0
 go_loopw [7,8,17] (fun _ _ u wx=>∃i:Nat,i≤n∧u=.int .i64 i∧OutAt .i8 22 wx w.heap.size (some ⟨w.heap.size,0,none⟩) n (dealD cs i)∧Below w.heap.size w wx) (fun _ _ u _=>n-(intOf u).toNat)
 case atStart=>exact⟨0,by omega,rfl,hO0,hb0⟩
 case round =>
  obtain⟨i,hi,rfl,hO,hbel⟩:=hrel
  clear hO0 hb0
  by_cases hlt:i<n
  ·obtain⟨Gc,co,rfl,hGc,hcc⟩:=hc.at hbel i (by rw [HL.out];exact hlt)
   obtain⟨G',hG',_,hGl,hXc,hXf,_,_⟩:=hO.at i (by rw [dealD_len cs i (by rw [HL.out];exact hi),HL.out];exact hlt)
   cases hG'
   have hnx:=dealD_next cs i (by rw [HL.out];exact hlt)
   obtain⟨y,hy⟩:∃y,ith cs i=y:=⟨_,rfl⟩
   rw [hy] at hcc hnx
   have HNX:=lh hnx
   have HO:=lh hO
   have HBE:=lh hbel
   generalize ith (dealD cs i) i=vo at hXc
   have gi0:(0:Int)≤(i:Int):=by omega
   have gi1:(i:Int)<(n:Int):=by omega
   clear hO hbel hy hnx
   go_wp2_with (go_at_call 100;refine (Dir_any y _).mono ?_;rintro e w2 ⟨rfl,hw2⟩;have hx2:=(hw2.cell (p:=⟨w.heap.size,i,none⟩) hGl).trans hXc;have hf2:=(hw2.frozen (p:=⟨w.heap.size,i,none⟩) hGl).trans hXf;have HW2:=lh hw2;clear hw2)
   have hO3:=(HO.out.keep HW2.out).set i (dirI y)
   rw [HNX.out] at hO3
   have hb3:Below w.heap.size w (w2.setCell ⟨w.heap.size,i,none⟩ (.int .i8 (dirI y))):=(HBE.out.trans (HW2.out.mono HBE.out.size)).setCell (p:=⟨w.heap.size,i,none⟩) (Nat.le_refl _) _
   go_roundw
   case rel=>exact⟨i+1,by omega,by go_num,hO3,hb3⟩
   case measure=>simp [intOf];omega
  ·have hie:i=n:=by omega
   rw [hie,←HL.out,dealD_all,HL.out] at hO
   obtain⟨ds,hds⟩:∃ds,cs.map dirI=ds:=⟨_,rfl⟩
   rw [hds] at hO
   have hdl:ds.length=n:=by rw [←hds,List.length_map,HL.out]
   obtain⟨bs,hbs⟩:∃bs:Nat,baseI ds want=bs:=⟨(baseI ds want).toNat,by rcases baseF_bd want (ds.length+1) ds with h | h <;> (unfold baseI;omega)⟩
   have hb1:bs≤1:=by rcases baseF_bd want (ds.length+1) ds with h | h <;> (unfold baseI at hbs;omega)
   have hV1:(visualI cs want).1=linesF bs n cs []:=by
    unfold visualI
    rw [hds,hbs,HL.out]
    rfl
   have hV2:(visualI cs want).2=bs:=by
    unfold visualI
    rw [hds,hbs]
   have HBA:=lh (Base_any want (some ⟨w.heap.size,0,none⟩) ds n n wr hdl hO.rd hn (Nat.le_refl _) (by unfold maxLen;omega))
   rw [hbs] at HBA
   have HDS:=lh hds
   have HDL:=lh hdl
   have HV1:=lh hV1
   have HV2:=lh hV2
   have hszr:w.heap.size<wr.heap.size:=hO.lt.2
   have hRd:Rd .i8 wr (some ⟨w.heap.size,0,none⟩) ds:=hO.rd
   have hie':n=i:=hie.symm
   subst hie'
   obtain⟨V,hV⟩:∃V,V=wr:=⟨_,rfl⟩
   subst hV
   clear hO hds hdl hbs hV1 hV2 hi hlt hie
   go_wp2_with (go_at_call 101;refine HBA.out.mono ?_;rintro e w' ⟨rfl,hw'⟩;have hw2:=hw'.symm;clear hw';subst hw2)
   have HBW:=lh hbel
   obtain⟨FIN,hFIN⟩:∃FIN,linesF bs n cs []=FIN:=⟨_,rfl⟩
   have HFIN:=lh hFIN
   clear hbel HBA hFIN
   go_loopw [0,6,10,11] (fun u0 u6 u10 _ wx=>∃(at' k f:Nat) (a0 d0:Option Addr) (c0 e0:Nat) (out:List Nat),at'+k=n∧u0=.slice a0 k c0∧u6=.slice d0 k e0∧k≤c0∧c0≤9223372036854775807∧k≤e0∧e0≤9223372036854775807 ∧
    Rd .i32 w a0 (cs.drop at')∧Rd .i8 V d0 (ds.drop at')∧wx.ownsRow V.heap.size 5 1 u10 out.length ((ints out).map (Value.int .u8))∧out.length=at'∧Below V.heap.size V wx∧linesF bs f (cs.drop at') out=FIN∧k≤f)
    (fun u0 _ _ _ _=>match u0 with | .slice _ k _=>k | _=>0)
   case atStart=>exact⟨0,n,n,a,some ⟨w.heap.size,0,none⟩,c,n,[],by omega,rfl,rfl,hnc,hcm,Nat.le_refl _,by omega,by rw [List.drop_zero];exact hc,by rw [List.drop_zero];exact hRd,World.ownsRow_nil _ _ _ _,rfl,Below.refl _ _,by rw [List.drop_zero];exact HFIN.out,Nat.le_refl _⟩
   case round =>
    obtain⟨at',k,f,a0,d0,c0,e0,out,hak,rfl,rfl,hkc,hc0,hke,he0,hr0,hrd0,hown,hol,hbV,hF,hkf⟩:=hrel
    obtain⟨oa,oc,hov,hoc1,hoc2⟩:=own_slice hown
    subst hov
    have hcl:(cs.drop at').length=k:=by rw [List.length_drop,HL.out];omega
    have hdl2:(ds.drop at').length=k:=by rw [List.length_drop,HDL.out];omega
    cases k with
    | zero =>
      have hnil:cs.drop at'=[]:=List.eq_nil_of_length_eq_zero hcl
      have hfo:out=FIN:=by
       rw [hnil] at hF
       cases f with
       | zero=>exact hF
       | succ f=>rw [linesF,if_pos rfl] at hF;exact hF
      have HOW:=lh hown
      have HFO:=lh hfo
      have HOL:=lh hol
      clear hown hF hnil hcl hdl2 hr0 hrd0 hfo hol
      go_wp2_with (fail)
      go_ret2
      have h1:=HFO.out
      have h2:=HOL.out
      subst h1
      have hn2:out.length=n:=by omega
      have e1:(visualI cs want).1=out:=HV1.out.trans HFIN.out
      refine⟨oa,oc,by rw [HV2.out,hn2];rfl,by rw [e1];exact hn2,?_,HBW.out.trans (hbV.mono (by omega))⟩
      rw [e1]
      unfold OutAt
      rw [ints_len]
      exact ownsRow_base HOW.out (by omega)
    | succ k' =>
      obtain⟨k,hk⟩:∃k,k'+1=k:=⟨_,rfl⟩
      have HOL:=lh hol
      have hol1:out.length≤n:=by omega
      clear hol
      rw [hk] at hak hkc hke hcl hdl2 hkf ⊢
      have hkp:0<k:=by omega
      obtain⟨f',rfl⟩:∃f',f=f'+1:=⟨f-1,by omega⟩
      rw [linesF,if_neg (by intro e;rw [e] at hcl;simp at hcl;omega)] at hF
      have hmd:(cs.drop at').map dirI=ds.drop at':=by rw [List.map_drop,HDS.out]
      rw [hmd] at hF
      obtain⟨q,hq⟩:∃q,paraLen (ds.drop at')=q:=⟨_,rfl⟩
      rw [hq,List.map_take,hmd,List.drop_drop] at hF
      obtain⟨r,hr⟩:∃r,idxF (ds.drop at') 10 k 0=r:=⟨_,rfl⟩
      have hrb:=idxF_bd (ds.drop at') 10 k 0
      have hpl:=para_len (ds.drop at')
      rw [hdl2,hr,hq] at hpl
      rw [hr] at hrb
      have hq1:0<q∧q≤k:=by
       rw [hpl]
       split
       ·omega
       ·rcases hrb with h | h
        ·contradiction
        ·omega
      obtain⟨G,o,rfl,hGl,_⟩:=hr0.at (Below.refl _ _) 0 (by omega)
      obtain⟨G2,o2,rfl,hGl2,_⟩:=hrd0.at (Below.refl _ _) 0 (by omega)
      have HIX:=lh (Ix8_any (some ⟨G2,o2,none⟩) (ds.drop at') k e0 10 wr hdl2 (hrd0.below hbV) (by omega))
      rw [hr] at HIX
      obtain⟨PP,hPP⟩:∃PP,paraI ((cs.drop at').take q) ((ds.drop at').take q) bs=PP:=⟨_,rfl⟩
      have HPA:=lh (fun W (hb:Below wr.heap.size wr W)=>Para_any (some ⟨G,o,none⟩) (some ⟨G2,o2,none⟩) ((cs.drop at').take q) ((ds.drop at').take q) q c0 e0 bs W (by rw [List.length_take];omega) (by rw [List.length_take];omega)
       (rd_take (hr0.below (HBW.out.trans ((hbV.trans (hb.mono hbV.size)).mono (by omega)))) q) (rd_take (hrd0.below (hbV.trans (hb.mono hbV.size))) q) (by omega) (by omega) he0 (by omega))
      unfold ParPost at HPA
      rw [hPP] at HPA hF
      have HF:=lh hF
      have HK:=lh hk
      have HPL:=lh hpl
      have HOW:=lh hown
      clear hF hr hpl hPP hmd hq hk hown
      have hr10:((k:Int) > 0):=by omega
      go_upto_if 38 with (go_at_call 102;refine HIX.out.mono ?_;rintro e w' ⟨rfl,hw'⟩;have hw2:=hw'.symm;clear hw';subst hw2)
      go_cut [11] (fun v wx=>v=.int .i64 (q:Nat)∧wx=wr)
      case first =>
       have e:=HPL.out
       by_cases hm:r = -1
       ·subst hm
        rw [if_pos rfl] at e
        have HE:=lh e
        clear e
        go_wp2_with (fail)
        go_meet
        exact⟨by rw [HE.out],rfl⟩
       ·rw [if_neg hm] at e
        have HE:Hid (r+1=q):=lh (by rcases hrb with h | h <;> omega)
        have h0:((r+1)==0)=false:=by rw [beq_eq_false_iff_ne];rcases hrb with h | h <;> omega
        clear e
        go_wp2_with (fail)
        go_meet
        exact⟨by rw [HE.out],rfl⟩
      case rest =>
       obtain⟨rfl,hwx⟩:=hcut
       have hwx':=hwx.symm
       clear hwx
       subst hwx'
       have gq0:(0:Int)≤(q:Int):=by omega
       have gq1:(q:Int)≤(k:Int):=by omega
       have gq2:(q:Int)≤(c0:Int):=by omega
       have gq3:(q:Int)≤(e0:Int):=by omega
       go_upto_region 13 with (fail)
       go_region_held3 (fun w'=>True) (trivial) (first | (go_at_call 103;refine (HPA.out wr.drew (bl_drewN (Below.refl _ _) 1)).mono ?_;rintro e w3 ⟨pa,pc,rfl,hpl,hPO,hb3⟩;obtain⟨Gp,hGp,_,_,_⟩:=OutAt.at hPO 0 (by rw [ints_len,hpl];exact hq1.1);subst hGp;have hbW:=(bl_drewN (Below.refl wr.heap.size wr) 1).trans hb3;have HPP:=lh hPO;have HB3:=lh hbW;have hs3:=hbW.size;clear hPO hb3 hbW) | (refine step_append_lies _ (by rfl) _ _ _ (by rfl) V.heap.size 5 i5 (.int .u8 0) 1 1 Tryz.underlying42 hi5 hz5 ha5 hb5 rfl (by decide) (.slice oa out.length oc) out.length ((ints out).map (Value.int .u8)) (by rfl) (by first | exact ownsRow_keep HOW.out HB3.out | exact World.ownsRow.drew (ownsRow_keep HOW.out HB3.out)) ⟨Gp,0,none⟩ q pc ((ints PP).map (Value.int .u8)) (by rfl) (by rw [List.length_map,ints_len,hpl,Nat.mul_one]) (by exact OutAt.news HPP.out) (by intro u hu;rw [List.mem_map] at hu;obtain⟨x,_,rfl⟩:=hu;rfl) hq1.1 (by unfold maxLen;omega) (by omega) (by exact Nat.le_trans hbV.size hs3) _ rfl ?_;intro gg cap4 w4 hown4 hg4 hat4 hlt4))
       all_goals
        have hrow4:w4.ownsRow V.heap.size 5 1 (.slice (some ⟨gg,0,none⟩) (out.length+q) cap4) (out++PP).length ((ints (out++PP)).map (Value.int .u8)):=by
         rw [List.length_append,hpl,ints_append,List.map_append];exact hown4
        have hbel4:Below V.heap.size V w4:=(hbV.trans (HB3.out.mono hbV.size)).grown hg4 (by exact Nat.le_trans hbV.size hs3) (fun g e=>(World.ownsRow.lt HOW.out g e).1)
        have hRA:∀ad,ad=some ⟨G,o+q,none⟩∨q=k→Rd .i32 w ad (cs.drop (at'+q)):=fun ad had=>by
         rcases had with rfl | rfl
         ·have:=rd_drop hr0 q
          rwa [List.drop_drop] at this
         ·exact .inl (by rw [List.drop_eq_nil_iff,HL.out];omega)
        have hRB:∀ad,ad=some ⟨G2,o2+q,none⟩∨q=k→Rd .i8 V ad (ds.drop (at'+q)):=fun ad had=>by
         rcases had with rfl | rfl
         ·have:=rd_drop hrd0 q
          rwa [List.drop_drop] at this
         ·exact .inl (by rw [List.drop_eq_nil_iff,HDL.out];omega)
        have HR4:=lh hrow4
        have HB4:=lh hbel4
        have HRA:=lh hRA
        have HRB:=lh hRB
        have hlen4:(out++PP).length=at'+q:=by rw [List.length_append,hpl,HOL.out]
        have HL4:=lh hlen4
        clear hrow4 hbel4 hRA hRB hlen4 hown4 hg4 hat4 hr0 hrd0 hb1
        by_cases hcq:c0=q
        ·by_cases heq:e0=q
         ·go_wp2_with (fail)
          go_quiet (fail)
          go_wp2_with (fail)
          go_roundw
          case rel=>exact⟨at'+q,k-q,f',_,_,_,_,out++PP,by omega,rfl,rfl,by omega,by omega,by omega,by omega,HRA.out _ (.inr (by omega)),HRB.out _ (.inr (by omega)),HR4.out,HL4.out,bl_drewN HB4.out _,HF.out,by omega⟩
          case measure=>show k-q<k;omega
         ·go_wp2_with (fail)
          go_quiet (fail)
          go_wp2_with (fail)
          go_roundw
          case rel=>exact⟨at'+q,k-q,f',_,_,_,_,out++PP,by omega,rfl,rfl,by omega,by omega,by omega,by omega,HRA.out _ (.inr (by omega)),HRB.out _ (.inr (by omega)),HR4.out,HL4.out,bl_drewN HB4.out _,HF.out,by omega⟩
          case measure=>show k-q<k;omega
        ·by_cases heq:e0=q
         ·go_wp2_with (fail)
          go_quiet (fail)
          go_wp2_with (fail)
          go_roundw
          case rel=>exact⟨at'+q,k-q,f',_,_,_,_,out++PP,by omega,rfl,rfl,by omega,by omega,by omega,by omega,HRA.out _ (.inr (by omega)),HRB.out _ (.inr (by omega)),HR4.out,HL4.out,bl_drewN HB4.out _,HF.out,by omega⟩
          case measure=>show k-q<k;omega
         ·go_wp2_with (fail)
          go_quiet (fail)
          go_wp2_with (fail)
          go_roundw
          case rel=>exact⟨at'+q,k-q,f',_,_,_,_,out++PP,by omega,rfl,rfl,by omega,by omega,by omega,by omega,HRA.out _ (.inl rfl),HRB.out _ (.inl rfl),HR4.out,HL4.out,bl_drewN HB4.out _,HF.out,by omega⟩
          case measure=>show k-q<k;omega
end
section
def mirrorI (r:Int):Int :=
 if (pairI r).2.2=true then (pairI r).1
 else if r=60∨r=65308 then r+2 else if r=62∨r=65310 then r-2
 else if r=171 then 187 else if r=187 then 171
 else if r=8249∨r=8250 then 16499-r else if r=8804∨r=8805 then 17609-r else r
def hangsF (d:Int) (h:Bool):Bool:=if d=11∨d=10 then true else if d≠12∧leftB d=false∧(d<19∨22<d) then false else h
def hangF (cs:List Int) (base fr:Nat):Nat→Bool→List Nat→List Nat
 | 0,_,out=>out
 | i+1,h,out =>
   hangF cs base fr i (hangsF (dirI (ith cs (fr+i))) h) (if hangsF (dirI (ith cs (fr+i))) h=true then (out.set i (min (out.getD i 0) 126)).set i base else out.set i (min (out.getD i 0) 126))
def clampN (n:Nat) (x:Int):Nat:=min x.toNat n
def rowI (cs:List Int) (ls:List Nat) (base:Nat) (fr tt:Int):Option (List Nat) :=
 let n:=min cs.length ls.length
 if clampN n tt<clampN n fr then none
 else some (hangF cs (min base 126) (clampN n fr) (clampN n tt-clampN n fr) true ((ls.drop (clampN n fr)).take (clampN n tt-clampN n fr)))
open Go.RowKit
set_option maxRecDepth 100000 in
set_option maxHeartbeats 1000000 in
theorem Mirror_any (r:Int) (w:World):Calls Tryz.prog 81 #[.int .i32 r] w fun e w'=>e=.returned (.int .i32 (mirrorI r))∧w=w':=by
 have hM:mirrorI r=if (pairI r).2.2=true then (pairI r).1
  else if r=60∨r=65308 then r+2 else if r=62∨r=65310 then r-2
  else if r=171 then 187 else if r=187 then 171
  else if r=8249∨r=8250 then 16499-r else if r=8804∨r=8805 then 17609-r else r:=rfl
 have HP:=lh (Pair_any r w)
 unfold PairPost at HP
 obtain⟨pr,hpr⟩:∃pr,pairI r=pr:=⟨_,rfl⟩
 rw [hpr] at hM HP
 obtain⟨o,op,ok⟩:=pr
 simp only at hM HP
 clear hpr
 have HM:=lh hM
 clear hM
 go_enter Tryz.func81,Tryz.ntmps81
 cases ok with
 | true =>
   go_wp2_with (go_at_call 108;refine HP.out.mono ?_;rintro e w' ⟨rfl,hw'⟩;subst hw')
   go_ret
   exact⟨ret_i (by rw [HM.out,if_pos (by first | rfl | trivial)]),rfl⟩
 | false =>
   have e:=HM.out
   rw [if_neg (by decide)] at e
   have HE:=lh e
   clear e HM
   by_cases h1:r=60∨r=65308
   ·have e:=HE.out.trans (if_pos h1)
    have HF:=lh e
    clear e
    rcases h1 with rfl | rfl
    all_goals
     go_wp2_with (go_at_call 108;refine HP.out.mono ?_;rintro e w' ⟨rfl,hw'⟩;subst hw')
     go_ret
     exact⟨ret_i (by rw [HF.out];rfl),rfl⟩
   ·have e:=HE.out.trans (if_neg h1)
    by_cases h2:r=62∨r=65310
    ·have HF:=lh (e.trans (if_pos h2))
     clear e
     rcases h2 with rfl | rfl
     all_goals
      go_wp2_with (go_at_call 108;refine HP.out.mono ?_;rintro e w' ⟨rfl,hw'⟩;subst hw')
      go_ret
      exact⟨ret_i (by rw [HF.out];rfl),rfl⟩
    ·replace e:=e.trans (if_neg h2)
     by_cases h3:r=171
     ·have HF:=lh (e.trans (if_pos h3))
      clear e
      subst h3
      go_wp2_with (go_at_call 108;refine HP.out.mono ?_;rintro e w' ⟨rfl,hw'⟩;subst hw')
      go_ret
      exact⟨ret_i (by rw [HF.out]),rfl⟩
     ·replace e:=e.trans (if_neg h3)
      by_cases h4:r=187
      ·have HF:=lh (e.trans (if_pos h4))
       clear e
       subst h4
       go_wp2_with (go_at_call 108;refine HP.out.mono ?_;rintro e w' ⟨rfl,hw'⟩;subst hw')
       go_ret
       exact⟨ret_i (by rw [HF.out]),rfl⟩
      ·replace e:=e.trans (if_neg h4)
       by_cases h5:r=8249∨r=8250
       ·have HF:=lh (e.trans (if_pos h5))
        clear e
        rcases h5 with rfl | rfl
        all_goals
         go_wp2_with (go_at_call 108;refine HP.out.mono ?_;rintro e w' ⟨rfl,hw'⟩;subst hw')
         go_ret
         exact⟨ret_i (by rw [HF.out];rfl),rfl⟩
       ·replace e:=e.trans (if_neg h5)
        by_cases h6:r=8804∨r=8805
        ·have HF:=lh (e.trans (if_pos h6))
         clear e
         rcases h6 with rfl | rfl
         all_goals
          go_wp2_with (go_at_call 108;refine HP.out.mono ?_;rintro e w' ⟨rfl,hw'⟩;subst hw')
          go_ret
          exact⟨ret_i (by rw [HF.out];rfl),rfl⟩
        ·have HF:=lh (e.trans (if_neg h6))
         have n1:(r==60)=false:=by rw [beq_eq_false_iff_ne];omega
         have n2:(r==65308)=false:=by rw [beq_eq_false_iff_ne];omega
         have n3:(r==62)=false:=by rw [beq_eq_false_iff_ne];omega
         have n4:(r==65310)=false:=by rw [beq_eq_false_iff_ne];omega
         have n5:(r==171)=false:=by rw [beq_eq_false_iff_ne];omega
         have n6:(r==187)=false:=by rw [beq_eq_false_iff_ne];omega
         have n7:(r==8249)=false:=by rw [beq_eq_false_iff_ne];omega
         have n8:(r==8250)=false:=by rw [beq_eq_false_iff_ne];omega
         have n9:(r==8804)=false:=by rw [beq_eq_false_iff_ne];omega
         have n10:(r==8805)=false:=by rw [beq_eq_false_iff_ne];omega
         clear e h1 h2 h3 h4 h5 h6 HE
         go_wp2_with (go_at_call 108;refine HP.out.mono ?_;rintro e w' ⟨rfl,hw'⟩;subst hw')
         go_ret
         exact⟨ret_i (by rw [HF.out]),rfl⟩
end
section
open Go.RowKit
set_option maxRecDepth 100000 in
set_option maxHeartbeats 400000 in
theorem ClU_any (a:Option Addr) (c L:Nat) (l:List Int) (w:World) (hl:l.length=L) (hd:Rd .u8 w a l) (hn:L≤2097152) (hnil:a=none→c=0) :
 Calls Tryz.prog 104 #[.slice a L c] w fun e w'=>∃a c',e=.returned (.slice a L c')∧OutAt .u8 5 w' w.heap.size a c' l∧Below w.heap.size w w':=by
 obtain⟨i3,hi3,hz3,ha3,hb3⟩:=info_parts (Tryz.info_u8)
 have q22:∀(w:World) (a:Option Addr) (n c n' c':Nat),(binOp .eql 42 (.slice a n c) (.slice none n' c')).run Tryz.prog w=.ok (.bool a.isNone) w:=fun w a n c n' c'=>Lib.run_eql_slice_nil w _ _ a n c n' c' Tryz.underlying42
 have HL:=lh hl
 cases a with
 | none =>
   have hl0:l=[]:=by
    rcases hd with h | ⟨_,_,e,_⟩
    ·exact h
    ·cases e
   have h0:L=0:=by rw [←hl,hl0];rfl
   subst hl0 h0
   clear hl hd
   go_enter Tryz.func104,Tryz.ntmps104
   go_wp2_with (fail)
   go_ret
   exact⟨none,0,rfl,World.ownsRow_nil _ _ _ _,Below.refl _ _⟩
 | some ad =>
   have hcells:∀j u,(l.map (Value.int .u8))[j]? = some u→(w.alloc (.cells #[] 5)).cell? (ad.add j)=some u:=fun j u hj=>by
    have hjl:j<l.length:=by
     rcases Nat.lt_or_ge j l.length with h | h
     ·exact h
     ·rw [List.getElem?_eq_none (by rw [List.length_map];exact h)] at hj;cases hj
    obtain⟨b,off,e,hb,hc⟩:=hd.at ((Below.refl w.heap.size w).alloc (Nat.le_refl _) (.cells #[] 5)) j hjl
    cases e
    rw [List.getElem?_map,ith_get hjl] at hj
    cases hj
    rw [Addr.add_lit,hc]
   have HC:=lh hcells
   clear hcells hl hd
   go_enter Tryz.func104,Tryz.ntmps104
   go_wp2_with (at_builtin;refine wpList_append_own _ rfl _ _ 42 rfl w.heap.size 5 i3 (.int .u8 0) 1 1 Tryz.underlying42 hi3 hz3 ha3 hb3 rfl (by decide) _ _ _ rfl (World.ownsRow_made w #[] 0 (Nat.le_refl _) (Nat.zero_le _) (by simp)) ad L c (l.map (Value.int .u8)) rfl (by rw [List.length_map,HL.out];omega) HC.out (fun u hu=>by rw [List.mem_map] at hu;obtain⟨x,_,rfl⟩:=hu;rfl) (by unfold maxLen;omega) (by omega) (by simp) ?_;intro v' w' ho hg _)
   obtain⟨va,vc,hva,_,_⟩:=own_slice ho
   subst hva
   go_ret
   rw [Nat.zero_add,List.nil_append] at ho
   refine⟨va,vc,by rw [Nat.zero_add];rfl,?_,((Below.refl w.heap.size w).alloc (Nat.le_refl _) _).grown hg (by simp) (fun k hk=>by cases hk;exact Nat.le_refl _)⟩
   unfold OutAt
   rw [HL.out]
   exact ho
def RowPost (R:Option (List Nat)) (w:World) (e':Ending) (w':World):Prop :=
 Below w.heap.size w w'∧match R with
  | none=>e'=.returned (.slice none 0 0)
  | some l=>∃a c,e'=.returned (.slice a l.length c)∧OutAt .u8 5 w' w.heap.size a c (ints l)
theorem hangF_len (cs:List Int) (base fr:Nat):∀(i:Nat) (h:Bool) (out:List Nat),(hangF cs base fr i h out).length=out.length
 | 0,h,out=>rfl
 | i+1,h,out=>by
   rw [hangF,hangF_len cs base fr i]
   split <;> simp
theorem ints_take (l:List Nat) (k:Nat):ints (l.take k)=(ints l).take k:=by unfold ints;rw [List.map_take]
theorem ints_drop (l:List Nat) (k:Nat):ints (l.drop k)=(ints l).drop k:=by unfold ints;rw [List.map_drop]
set_option maxRecDepth 100000 in
set_option maxHeartbeats 1000000 in
theorem Row_any (a la:Option Addr) (cs:List Int) (ls:List Nat) (n1 n2 c lc base:Nat) (fr tt:Int) (w:World) (h1:cs.length=n1) (h2:ls.length=n2) (hc:Rd .i32 w a cs) (hls:Rd .u8 w la (ints ls)) (hn1:n1≤2097152) (hn2:n2≤2097152)
 (hlc:n2≤lc) (hcm:lc≤9223372036854775807) (hla:(la=none∧lc=0)∨∃G o,la=some ⟨G,o,none⟩) :
 Calls Tryz.prog 78 #[.slice a n1 c,.slice la n2 lc,.int .u8 base,.int .i64 fr,.int .i64 tt] w (RowPost (rowI cs ls base fr tt) w):=by
 obtain⟨M,hM⟩:∃M,min n1 n2=M:=⟨_,rfl⟩
 obtain⟨F,hF⟩:∃F,clampN M fr=F:=⟨_,rfl⟩
 obtain⟨T,hT⟩:∃T,clampN M tt=T:=⟨_,rfl⟩
 obtain⟨B6,hB6⟩:∃B6,min base 126=B6:=⟨_,rfl⟩
 have hR:rowI cs ls base fr tt=if T<F then none else some (hangF cs B6 F (T-F) true ((ls.drop F).take (T-F))):=by
  unfold rowI
  simp only [h1,h2,hM,hF,hT,hB6]
 rw [hR]
 have eM:min (n1:Int) (n2:Int)=(M:Int):=by omega
 have eF:min (max fr 0) (M:Int)=(F:Int):=by rw [←hF];unfold clampN;omega
 have eT:min (max tt 0) (M:Int)=(T:Int):=by rw [←hT];unfold clampN;omega
 have eB:min (base:Int) 126=(B6:Int):=by omega
 have hFM:F≤M:=by rw [←hF];unfold clampN;omega
 have hTM:T≤M:=by rw [←hT];unfold clampN;omega
 have H1:=lh h1
 have H2:=lh h2
 clear hM hF hT hB6 hR h1 h2
 by_cases hTF:T<F
 ·rw [if_pos hTF]
  have ht:(T:Int)<(F:Int):=by omega
  go_enter Tryz.func78,Tryz.ntmps78
  go_wp2_with (fail)
  go_ret
  exact⟨Below.refl _ _,rfl⟩
 ·rw [if_neg hTF]
  obtain⟨K,hK⟩:∃K,T-F=K:=⟨_,rfl⟩
  rw [hK]
  obtain⟨l0,hl0⟩:∃l0,(ls.drop F).take K=l0:=⟨_,rfl⟩
  rw [hl0]
  have hl0l:l0.length=K:=by rw [←hl0,List.length_take,List.length_drop];have:=H2.out;omega
  obtain⟨FIN,hFIN⟩:∃FIN,hangF cs B6 F K true l0=FIN:=⟨_,rfl⟩
  rw [hFIN]
  have hfl:FIN.length=K:=by rw [←hFIN,hangF_len,hl0l]
  have HFL:=lh hfl
  have HFIN:=lh hFIN
  have HK:=lh hK
  have HL0:=lh hl0l
  have ht:¬ (T:Int)<(F:Int):=by omega
  have ht2:(F:Int)≤(T:Int):=by omega
  have gF0:(0:Int)≤(F:Int):=by omega
  have gT1:(T:Int)≤(lc:Int):=by omega
  have gT0:(0:Int)≤(T:Int):=by omega
  have hcl:∀ad c',(ad=la∧(F=0∨K=0)∨∃G o,la=some ⟨G,o,none⟩∧ad=some ⟨G,o+F,none⟩)→(ad=none→c'=0) →
   Calls Tryz.prog 104 #[.slice ad K c'] w fun e w'=>∃a c',e=.returned (.slice a K c')∧OutAt .u8 5 w' w.heap.size a c' (ints l0)∧Below w.heap.size w w':=fun ad c' had hnil=>by
   refine ClU_any ad c' K (ints l0) w (by rw [ints_len];exact hl0l) ?_ (by omega) hnil
   rcases had with ⟨rfl,h | h⟩ | ⟨G,o,e,rfl⟩
   ·subst h
    rw [←hl0,List.drop_zero,ints_take]
    exact rd_take hls K
   ·exact .inl (List.eq_nil_of_length_eq_zero (by rw [ints_len,hl0l];exact h))
   ·rw [e] at hls
    rw [←hl0,ints_take,ints_drop]
    exact rd_take (rd_drop hls F) K
  have HCL:=lh hcl
  clear hfl hFIN hK hl0 hl0l hcl hTF
  go_enter Tryz.func78,Tryz.ntmps78
  go_upto_region 5 with (fail)
  go_cut [12] (fun v wx=>∃oa oc,v=.slice oa K oc∧OutAt .u8 5 wx w.heap.size oa oc (ints l0)∧Below w.heap.size w wx)
  case first =>
   rcases hla with ⟨rfl,rfl⟩ | ⟨G,o,rfl⟩
   ·have hT0:T=0:=by omega
    have hF0:F=0:=by omega
    have hK0:K=0:=by have:=HK.out;omega
    subst hT0 hF0 hK0
    have hcal:=HCL.out none 0 (.inl ⟨rfl,.inl rfl⟩) (fun _=>rfl)
    go_wp2_with (go_at_call 104;refine hcal.mono ?_;rintro e w1 ⟨oa,oc,rfl,hO1,hb1⟩)
    go_meet
    exact⟨oa,oc,rfl,hO1,hb1⟩
   ·have hKi:T-F=K:=HK.out
    by_cases hcF:lc=F
    ·have hK0:K=0:=by omega
     have hTF2:T=F:=by omega
     subst hK0 hTF2
     subst hcF
     have hcal:=HCL.out (some ⟨G,o,none⟩) 0 (.inl ⟨rfl,.inr rfl⟩) (fun e=>by cases e)
     clear hKi
     go_wp2_with (go_at_call 104;refine hcal.mono ?_;rintro e w1 ⟨oa,oc,rfl,hO1,hb1⟩)
     go_meet
     exact⟨oa,oc,rfl,hO1,hb1⟩
    ·have hcal:=HCL.out (some ⟨G,o+F,none⟩) (lc-F) (.inr ⟨G,o,rfl,rfl⟩) (fun e=>by cases e)
     rw [←hKi] at hcal
     have HKI:=lh hKi
     clear hKi
     go_wp2_with (go_at_call 104;refine hcal.mono ?_;rintro e w1 ⟨oa,oc,rfl,hO1,hb1⟩)
     go_meet
     exact⟨oa,oc,by rw [HKI.out],hO1,hb1⟩
  case rest =>
   obtain⟨oa,oc,rfl,hO1,hb1⟩:=hcut
   have hK2:K≤n1:=by have:=HK.out;omega
   have hFK:F+K≤n1:=by have:=HK.out;omega
   clear hFM hTM ht ht2 gT0 gT1 HCL eM eF eT
   go_wp2_with (fail)
   go_loopw [13,14] (fun u13 u14 wx=>∃(k:Nat) (z:Int) (h:Bool) (out:List Nat),u13=.bool h∧u14=.int .i64 z∧z+1=k∧k≤K∧OutAt .u8 5 wx w.heap.size oa oc (ints out)∧out.length=K∧Below w.heap.size w wx∧hangF cs B6 F k h out=FIN) (fun _ c _=>(intOf c+1).toNat)
   case atStart=>exact⟨K,(K:Int)-1,true,l0,rfl,by go_num,by omega,Nat.le_refl _,hO1,HL0.out,hb1,HFIN.out⟩
   case round =>
    obtain⟨k,z,h,out,rfl,rfl,hzk,hkK,hO,hol,hbel,hF⟩:=hrel
    clear hO1 hb1
    cases k with
    | zero =>
      have hz:z = -1:=by omega
      subst hz
      rw [hangF] at hF
      have HF:=lh hF
      have HOL:=lh hol
      have HO:=lh hO
      clear hF hol hzk hO
      go_wp2_with (fail)
      go_ret
      refine⟨hbel,?_⟩
      have e:=HF.out
      subst e
      exact⟨oa,oc,by rw [HOL.out];rfl,HO.out⟩
    | succ k =>
      have hz:z=(k:Int):=by omega
      subst hz
      obtain⟨G,hG,_,hGl,hXo,hFo,_,_⟩:=hO.at k (by rw [ints_len,hol];omega)
      subst hG
      obtain⟨Gc,co,rfl,hGc,hcc⟩:=hc.at hbel (F+k) (by rw [H1.out];omega)
      obtain⟨x,hx⟩:∃x,out.getD k 0=x:=⟨_,rfl⟩
      rw [ith_ints,hx] at hXo
      obtain⟨y,hy⟩:∃y,ith cs (F+k)=y:=⟨_,rfl⟩
      rw [hy] at hcc
      rw [hangF,hy,hx] at hF
      obtain⟨m6,hm6⟩:∃m6,min x 126=m6:=⟨_,rfl⟩
      rw [hm6] at hF
      have hmi:min (x:Int) 126=(m6:Int):=by omega
      obtain⟨d,hd⟩:∃d,dirI y=d:=⟨_,rfl⟩
      rw [hd] at hF
      obtain⟨hh,hhh⟩:∃hh,hangsF d h=hh:=⟨_,rfl⟩
      rw [hhh] at hF
      have HF:=lh hF
      have HO:=lh hO
      have HOL:=lh hol
      have HBE:=lh hbel
      have HH:Hid (hh=if d=11∨d=10 then true else if d≠12∧leftB d=false∧(d<19∨22<d) then false else h):=lh hhh.symm
      have hDir:Hid (∀W,Calls Tryz.prog 100 #[.int .i32 y] W fun e w'=>e=.returned (.int .i8 d)∧Below W.heap.size W w'):=lh fun W=>by rw [←hd];exact Dir_any y W
      have gk0:(0:Int)≤(k:Int):=by omega
      have gk1:(k:Int)<(K:Int):=by omega
      have gfk:(F:Int)+(k:Int)<(n1:Int):=by omega
      clear hF hO hol hbel hx hy hm6 hd hhh hzk
      go_upto_region 12 with (fail)
      have hO2:OutAt .u8 5 (wr.setCell ⟨G,k,none⟩ (.int .u8 (m6:Nat))) w.heap.size (some ⟨G,0,none⟩) oc (ints (out.set k m6)):=by rw [ints_set];exact HO.out.set k m6
      have hb2:Below w.heap.size w (wr.setCell ⟨G,k,none⟩ (.int .u8 (m6:Nat))):=HBE.out.setCell (p:=⟨G,k,none⟩) (by exact (HO.out.lt).1) _
      have hcc2:(wr.setCell ⟨G,k,none⟩ (.int .u8 (m6:Nat))).cell? ⟨Gc,co+(F+k),none⟩=some (.int .i32 y):=(World.cell?_of_block (a:=⟨Gc,co+(F+k),none⟩) (heap_setCell_other wr ⟨G,k,none⟩ Gc _ (by show Gc≠G;have:=(HO.out.lt).1;omega))).trans hcc
      obtain⟨w2,hw2⟩:∃w2,w2=wr.setCell ⟨G,k,none⟩ (.int .u8 (m6:Nat)):=⟨_,rfl⟩
      rw [←hw2] at hO2 hb2 hcc2 ⊢
      have hGl2:G<w2.heap.size:=hO2.lt.2
      have HO2:=lh hO2
      have HB2:=lh hb2
      obtain⟨_,hGe,_,_,hXk,hFk,_,_⟩:=hO2.at k (by rw [ints_len,List.length_set,HOL.out];omega)
      cases hGe
      generalize ith (ints (out.set k m6)) k=vv at hXk
      clear hO2 hb2 hw2 hXo hFo hcc hmi hGl
      go_upto_block 2 with (go_at_call 100;refine (hDir.out _).mono ?_;rintro e w3 ⟨rfl,hw3⟩;have hX3:=(hw3.cell (p:=⟨G,k,none⟩) hGl2).trans hXk;have hF3:=(hw3.frozen (p:=⟨G,k,none⟩) hGl2).trans hFk;have HW3:=lh hw3;clear hw3)
      go_cut [13] (fun v wx=>v=.bool hh∧wx=w3)
      case first =>
       obtain⟨lb,hlb⟩:∃lb,leftB d=lb:=⟨_,rfl⟩
       have HLB:Hid (∀W,Calls Tryz.prog 105 #[.int .i8 d] W fun e w'=>e=.returned (.bool lb)∧W=w'):=lh fun W=>by rw [←hlb];exact vleft_any d W
       have HH2:=HH
       rw [hlb] at HH2
       clear hlb hX3 hF3
       by_cases h11:d=11
       ·subst h11
        have HE:=lh (HH2.out.trans (if_pos (.inl rfl)))
        go_wp2_with (fail)
        go_meet
        exact⟨by rw [HE.out],rfl⟩
       ·by_cases h10:d=10
        ·subst h10
         have HE:=lh (HH2.out.trans (if_pos (.inr rfl)))
         go_wp2_with (fail)
         go_meet
         exact⟨by rw [HE.out],rfl⟩
        ·have e:=HH2.out.trans (if_neg (by omega))
         have c11:(d==11)=false:=by simpa using h11
         have c10:(d==10)=false:=by simpa using h10
         by_cases h12:d=12
         ·subst h12
          have HE:=lh (e.trans (if_neg (fun h=>h.1 rfl)))
          clear e
          go_wp2_with (fail)
          go_meet
          exact⟨by rw [HE.out],rfl⟩
         ·have c12:(d==12)=false:=by simpa using h12
          have c12':(d != 12)=true:=by simpa using h12
          cases lb with
          | true =>
            have HE:=lh (e.trans (if_neg (fun h=>by have:=h.2.1;simp at this)))
            clear e h10 h11 h12
            go_wp2_with (go_at_call 105;refine (HLB.out _).mono ?_;rintro e w' ⟨rfl,hw'⟩;subst hw')
            go_meet
            exact⟨by rw [HE.out],rfl⟩
          | false =>
            by_cases h19:d<19
            ·have HE:=lh (e.trans (if_pos ⟨h12,rfl,.inl h19⟩))
             clear e h10 h11 h12
             go_wp2_with (go_at_call 105;refine (HLB.out _).mono ?_;rintro e w' ⟨rfl,hw'⟩;subst hw')
             go_meet
             exact⟨by rw [HE.out],rfl⟩
            ·by_cases h22:22<d
             ·have HE:=lh (e.trans (if_pos ⟨h12,rfl,.inr h22⟩))
              clear e h10 h11 h12
              go_wp2_with (go_at_call 105;refine (HLB.out _).mono ?_;rintro e w' ⟨rfl,hw'⟩;subst hw')
              go_meet
              exact⟨by rw [HE.out],rfl⟩
             ·have HE:=lh (e.trans (if_neg (fun h=>by have:=h.2.2;omega)))
              clear e h10 h11 h12
              go_wp2_with (go_at_call 105;refine (HLB.out _).mono ?_;rintro e w' ⟨rfl,hw'⟩;subst hw')
              go_meet
              exact⟨by rw [HE.out],rfl⟩
      case rest =>
       obtain⟨rfl,hwx⟩:=hcut
       have hwx':=hwx.symm
       clear hwx
       subst hwx'
       have hO3:=HO2.out.keep HW3.out
       have hS3:=hO3.set k B6
       rw [←ints_set] at hS3
       have HO3:=lh hO3
       have HS3:=lh hS3
       have HB3:Hid (Below w.heap.size w w3):=lh (HB2.out.trans (HW3.out.mono HB2.out.size))
       clear hO3 hS3
       cases hh with
       | true =>
         go_wp2_with (fail)
         go_roundw
         case rel=>exact⟨k,(k:Int)-1,true,_,rfl,by go_num,by omega,by omega,HS3.out,by rw [List.length_set,List.length_set];exact HOL.out,HB3.out.setCell (p:=⟨G,k,none⟩) (by exact (HO.out.lt).1) _,by have:=HF.out;rwa [if_pos (by first | rfl | trivial)] at this⟩
         case measure=>simp [intOf]
       | false =>
         go_wp2_with (fail)
         go_roundw
         case rel=>exact⟨k,(k:Int)-1,false,_,rfl,by go_num,by omega,by omega,HO3.out,by rw [List.length_set];exact HOL.out,HB3.out,by have:=HF.out;rwa [if_neg (by simp)] at this⟩
         case measure=>simp [intOf]
end
end Go.Proofs.YtlbclfmbejjneaaGreatDoor
