/- Part 19 (merged by a program): lemmas of no further condition than each states. -/
import Derived.Test.YtlmjbfncopbilaaGreatDoorK18
namespace Go.Proofs.YtlmjbfncopbilaaGreatDoor
set_option linter.unusedVariables false
set_option linter.unusedSimpArgs false
section
open Go.RowKit
def BrkPost (rs ks:List Int) (w:World) (e:Ending) (w':World):Prop :=
 ∃(v:Value) (l:List (Nat × Nat)),l.Perm (brkF rs ks (min rs.length ks.length) 0 [] [])∧l.Pairwise (fun a b=>a.1≤b.1)∧e=.returned v ∧
   w'.ownsRow w.heap.size 96 2 v l.length (l.flatMap pcell)∧Below w.heap.size w w'
theorem brk_end {rs ks:List Int} {w wr w1:World} {out:List (Nat × Nat)} {ov:Value} {M:Nat} (hM:M=min rs.length ks.length) (hF:out=brkF rs ks M 0 [] [])
 (hbel:Below w.heap.size w wr) (hsz:w.heap.size+2≤wr.heap.size) (hown:wr.ownsRow (w.heap.size+2) 96 2 ov out.length (out.flatMap pcell)) {e:Ending} (h:SortPost out (w.heap.size+2) ov wr e w1) :
 BrkPost rs ks w (.returned ov) w1:=by
 obtain⟨_,l,hp,hs,ho,hg⟩:=h
 subst hM hF
 refine⟨ov,l,hp,hs,rfl,?_,hbel.grown hg (by omega) (fun k hk=>by have:=(hown.lt k hk).1;omega)⟩
 rw [hp.length_eq]
 exact ownsRow_base ho (by omega)
def BrkRel (rs ks:List Int) (M:Nat) (w:World) (s c:Value) (wr:World):Prop :=
 ∃(i m:Nat) (st:List (Nat × Int)) (out:List (Nat × Nat)) (ov:Value),i+m=M∧c=.int .i64 i∧st.length≤63∧s=.slice (some ⟨w.heap.size,0,none⟩) st.length 63∧out.length≤i ∧
   RowAt wr w.heap.size 298 126 (st.flatMap ocell)∧wr.cell? ⟨w.heap.size+1,0,none⟩=some ov∧wr.frozen? ⟨w.heap.size+1,0,none⟩=false ∧
   wr.ownsRow (w.heap.size+2) 96 2 ov out.length (out.flatMap pcell)∧w.heap.size+2≤wr.heap.size∧Below w.heap.size w wr ∧
   brkF rs ks m i st out=brkF rs ks M 0 [] []
theorem brkF_step (rs ks:List Int) (m i:Nat) (st:List (Nat × Int)) (out:List (Nat × Nat)) (x y:Int) (pr:Int × Bool × Bool) (hx:ith rs i=x) (hy:ith ks i=y) (hp:pairI x=pr) :
 (pr.2.2=false∨y≠13→brkF rs ks (m+1) i st out=brkF rs ks m (i+1) st out) ∧
 (pr.2.2=true→y=13→pr.2.1=true→st.length=63→brkF rs ks (m+1) i st out=out) ∧
 (pr.2.2=true→y=13→pr.2.1=true→st.length≠63→brkF rs ks (m+1) i st out=brkF rs ks m (i+1) (st++[(i,pr.1)]) out) ∧
 (pr.2.2=true→y=13→pr.2.1=false→findTop st x st.length=none→brkF rs ks (m+1) i st out=brkF rs ks m (i+1) st out) ∧
 (∀k,pr.2.2=true→y=13→pr.2.1=false→findTop st x st.length=some k→brkF rs ks (m+1) i st out=brkF rs ks m (i+1) (st.take k) (out++[((st.getD k (0,0)).1,i)])):=by
 subst hx hy hp
 refine⟨fun h=>?_,fun h1 h2 h3 h4=>?_,fun h1 h2 h3 h4=>?_,fun h1 h2 h3 h4=>?_,fun k h1 h2 h3 h4=>?_⟩
 ·rw [brkF,if_pos h]
 ·rw [brkF,if_neg (by simp [h1,h2]),if_pos h3,if_pos h4]
 ·rw [brkF,if_neg (by simp [h1,h2]),if_pos h3,if_neg h4]
 ·rw [brkF,if_neg (by simp [h1,h2]),if_neg (by simp [h3])];simp only [h4]
 ·rw [brkF,if_neg (by simp [h1,h2]),if_neg (by simp [h3])];simp only [h4]
theorem rel_push {w wr w1:World} {o:Obj} {st:List (Nat × Int)} {x:Nat × Int} {out:List (Nat × Nat)} {ov:Value} {t te:Nat}
 (hrow1:RowAt w1 w.heap.size t 126 (st.flatMap ocell++[.int .i64 x.1,.int .i32 x.2])) (hgrow1:(wr.alloc o).grownBy w1 (some w.heap.size))
 (hcell:wr.cell? ⟨w.heap.size+1,0,none⟩=some ov) (hfro:wr.frozen? ⟨w.heap.size+1,0,none⟩=false)
 (hown:wr.ownsRow (w.heap.size+2) te 2 ov out.length (out.flatMap pcell)) (hsz:w.heap.size+2≤wr.heap.size) (hbel:Below w.heap.size w wr) :
 RowAt w1 w.heap.size t 126 ((st++[x]).flatMap ocell)∧w1.cell? ⟨w.heap.size+1,0,none⟩=some ov∧w1.frozen? ⟨w.heap.size+1,0,none⟩=false ∧
 w1.ownsRow (w.heap.size+2) te 2 ov out.length (out.flatMap pcell)∧w.heap.size+2≤w1.heap.size∧Below w.heap.size w w1:=by
 have hb2:∀k,k<wr.heap.size→k≠w.heap.size→w1.heap[k]? = wr.heap[k]?:=fun k hk hne =>
  (hgrow1.block k (by simp;omega) (by simpa using hne)).trans (Below.heap_alloc wr o k hk)
 have hs1:wr.heap.size+1≤w1.heap.size:=by have:=hgrow1.size;simpa using this
 refine⟨by simpa [List.flatMap_append,ocell] using hrow1,?_,?_,?_,by omega,?_⟩
 ·rw [World.cell?_of_block (w:=wr) (hb2 _ (by show w.heap.size+1<_;omega) (by show w.heap.size+1≠_;omega))];exact hcell
 ·rw [World.frozen?_of_block (w:=wr) (hb2 _ (by show w.heap.size+1<_;omega) (by show w.heap.size+1≠_;omega))];exact hfro
 ·refine (hown.alloc o).kept hgrow1 ?_
  cases hv:ov.ownBlock with
  | none=>exact .inl rfl
  | some k=>exact .inr (by have:=(hown.lt k hv).1;intro e;cases e;omega)
 ·exact (hbel.alloc (by omega) o).grown hgrow1 (by simp;omega) (fun k hk=>by cases hk;omega)
theorem rel_close {w wo w1:World} {st:List (Nat × Int)} {out:List (Nat × Nat)} {ov:Value} {t te tat i gg cap qn n:Nat} {o:Obj}
 (hown1:w1.ownsRow (w.heap.size+2) te 2 (.slice (some ⟨gg,0,none⟩) (out.length+1) cap) (out.length+1) (out.flatMap pcell++[.int .i64 tat,.int .i64 i]))
 (hgrow:((wo.drewN n).alloc o).grownBy w1 ov.ownBlock) (_hat:ov.ownBlock=some gg∨gg=wo.heap.size+1) (_hlt:gg<w1.heap.size)
 (hcw:w1.cell? ⟨w.heap.size+1,0,none⟩=some ov) (hfw:w1.frozen? ⟨w.heap.size+1,0,none⟩=false)
 (hown:wo.ownsRow (w.heap.size+2) te 2 ov out.length (out.flatMap pcell)) (hrow:RowAt wo w.heap.size t 126 (st.flatMap ocell)) (hsz:w.heap.size+2≤wo.heap.size) (hbel:Below w.heap.size w wo) :
 RowAt (w1.setCell ⟨w.heap.size+1,0,none⟩ (.slice (some ⟨gg,0,none⟩) (out.length+1) cap)) w.heap.size t 126 ((st.take qn).flatMap ocell) ∧
 (w1.setCell ⟨w.heap.size+1,0,none⟩ (.slice (some ⟨gg,0,none⟩) (out.length+1) cap)).cell? ⟨w.heap.size+1,0,none⟩=some (.slice (some ⟨gg,0,none⟩) (out.length+1) cap) ∧
 (w1.setCell ⟨w.heap.size+1,0,none⟩ (.slice (some ⟨gg,0,none⟩) (out.length+1) cap)).frozen? ⟨w.heap.size+1,0,none⟩=false ∧
 (w1.setCell ⟨w.heap.size+1,0,none⟩ (.slice (some ⟨gg,0,none⟩) (out.length+1) cap)).ownsRow (w.heap.size+2) te 2 (.slice (some ⟨gg,0,none⟩) (out.length+1) cap) (out++[(tat,i)]).length ((out++[(tat,i)]).flatMap pcell) ∧
 w.heap.size+2≤(w1.setCell ⟨w.heap.size+1,0,none⟩ (.slice (some ⟨gg,0,none⟩) (out.length+1) cap)).heap.size ∧
 Below w.heap.size w (w1.setCell ⟨w.heap.size+1,0,none⟩ (.slice (some ⟨gg,0,none⟩) (out.length+1) cap)):=by
 have hs1:wo.heap.size+1≤w1.heap.size:=by have:=hgrow.size;simpa using this
 have hro:∀k,ov.ownBlock=some k→w.heap.size+2≤k:=fun k hk=>(hown.lt k hk).1
 have hb1:w1.heap[w.heap.size]? = wo.heap[w.heap.size]? :=
  (hgrow.block _ (by simp;omega) (fun e=>by have:=hro _ e.symm;omega)).trans (Below.heap_alloc (wo.drewN n) o _ (by show _<wo.heap.size;omega))
 have hbel1:Below w.heap.size w w1:=((bl_drewN hbel n).alloc (by show _≤wo.heap.size;omega) o).grown hgrow (by simp;omega) (fun k hk=>by have:=hro k hk;omega)
 refine⟨?_,?_,?_,?_,by simp [World.setCell];omega,hbel1.setCell (by simp) _⟩
 ·rw [flat_take2 _ _ (fun _=>rfl)]
  exact (hrow.take (qn*2)).kept ((Below.heap_setCell _ _ _ _ (by show w.heap.size≠w.heap.size+1;omega)).trans hb1)
 ·exact cell_set hcw _
 ·exact frozen_set hfw _
 ·rw [List.length_append,List.length_singleton,List.flatMap_append]
  exact ownsRow_setCell_below hown1 (by show w.heap.size+1<_;omega) _
set_option maxRecDepth 100000 in
set_option maxHeartbeats 1000000 in
theorem Brackets_any (ra ka:Option Addr) (rs ks:List Int) (rc kc:Nat) (w:World) (hr:Rd .i32 w ra rs) (hk:Rd .i8 w ka ks) (hrn:rs.length≤2097152) (hkn:ks.length≤2097152) :
 Calls Tryz.prog 195 #[.slice ra rs.length rc,.slice ka ks.length kc] w (BrkPost rs ks w):=by
 obtain⟨M,hM⟩:∃M,M=min rs.length ks.length:=⟨_,rfl⟩
 have hM1:M≤rs.length:=by omega
 have hM2:M≤ks.length:=by omega
 have HM:=lh hM
 clear hM
 obtain⟨i29,hi29,hz29,ha29,hb29⟩:=info_parts (Tryz.info_two)
 obtain⟨i41,hi41,_,hz41,_⟩:=info_parts (Tryz.info_open)
 go_enter Tryz.func195,Tryz.ntmps195
 go_wp2_with (fail)
 go_step3
 go_wp2_with (fail)
 go_step3
 go_upto_region 4 with (fail)
 go_cut [18,19] (fun s18 s19 wx=>s18=.int .i64 M∧s19=.int .i64 0∧wx=(w.alloc (.cells Tryz.zeroCells298 298)).alloc (.cells #[.slice none 0 0] 268))
 case first =>
  go_wp2_with (fail)
  all_goals (go_meet;exact⟨by have:=HM.out;go_num,rfl,rfl⟩)
 case rest =>
  obtain⟨rfl,rfl,rfl⟩:=hcut
  go_wp2_with (fail)
  go_loopw [6,19] (fun s c wr=>BrkRel rs ks M w s c wr) (fun _ c _=>M-(intOf c).toNat)
  case atStart =>
   refine⟨0,M,[],[],.slice none 0 0,by omega,rfl,by simp,rfl,by simp,⟨Tryz.zeroCells298,?_,?_,rfl,by simp⟩,?_,?_,World.ownsRow_nil _ _ _ _,by simp,((Below.refl _ _).alloc (Nat.le_refl _) _).alloc (by simp) _,rfl⟩
   ·rw [Below.heap_alloc _ _ _ (by simp)];exact heap_alloc_new w _
   ·as_aux_lemma=>kernel_rfl
   ·have:=heap_alloc_new (w.alloc (.cells Tryz.zeroCells298 298)) (.cells #[.slice none 0 0] 268)
    rw [World.size_alloc] at this
    unfold World.cell?
    rw [this]
    rfl
   ·have:=heap_alloc_new (w.alloc (.cells Tryz.zeroCells298 298)) (.cells #[.slice none 0 0] 268)
    rw [World.size_alloc] at this
    unfold World.frozen?
    rw [this]
    rfl
  case round =>
   obtain⟨i,m,st,out,ov,him,rfl,hst,rfl,hout,hrow,hcell,hfro,hown,hsz,hbel,hF⟩:=hrel
   have HIM:=lh him
   clear him
   have HF:=lh hF
   clear hF
   by_cases hlt:i<M
   ·obtain⟨rb,ro,rfl,hrb,hrc⟩:=hr.at hbel i (by omega)
    obtain⟨kb,ko,rfl,hkb,hkc⟩:=hk.at hbel i (by omega)
    obtain⟨m,rfl⟩:∃q,m=q+1:=⟨m-1,by have:=HIM.out;omega⟩
    have hstep:=fun (x y:Int) (pr:Int × Bool × Bool) (hx:ith rs i=x) (hy:ith ks i=y) (hp:pairI x=pr)=>brkF_step rs ks m i st out x y pr hx hy hp
    have HS:=lh hstep
    clear hstep
    generalize hx:ith rs i=x at hrc
    generalize hy:ith ks i=y at hkc
    have HX:=lh hx
    have HY:=lh hy
    clear hx hy
    have HP:=lh (Pair_any x)
    unfold PairPost at HP
    generalize hpr:pairI x=pr at HP
    have HPR:=lh hpr
    clear hpr
    obtain⟨other,opens,ok⟩:=pr
    have hs:=HS.out x y _ HX.out HY.out HPR.out
    clear HS
    cases ok
    ·-- no bracket
     have HN:=lh (hs.1 (.inl rfl))
     clear hs
     go_wp2_with (go_at_call 170;refine (HP.out _).mono ?_;rintro e w' ⟨rfl,rfl⟩)
     go_roundw
     case rel=>exact⟨i+1,m,st,out,ov,by have:=HIM.out;omega,by go_num,hst,rfl,by omega,hrow,hcell,hfro,hown,hsz,hbel,by rw [←HF.out,HN.out]⟩
     case measure=>simp [intOf];omega
    ·by_cases h13:y=13
     ·subst h13
      cases opens
      ·-- a closing one
       clear hrb hkb
       have HS4:=lh (hs.2.2.2.1 rfl rfl rfl)
       have HS5:=lh (fun k=>hs.2.2.2.2 k rfl rfl rfl)
       clear hs
       go_wp2_with (go_at_call 170;refine (HP.out _).mono ?_;rintro e w' ⟨rfl,rfl⟩)
       obtain⟨wo,rfl⟩:∃wo:World,wo=wr:=⟨_,rfl⟩
       go_loopw [6,12] (fun s c wx=>∃(q:Int) (nq:Nat),s=.slice (some ⟨w.heap.size,0,none⟩) st.length 63 ∧ -1≤q∧q<st.length∧c=.int .i64 q∧wx=wo.drewN nq∧findTop st x st.length=findTop st x (q+1).toNat) (fun _ c _=>(intOf c+1).toNat)
       case atStart=>exact⟨(st.length:Int)-1,0,rfl,by omega,by omega,rfl,rfl,by rw [show ((st.length:Int)-1+1).toNat=st.length by omega]⟩
       case round =>
        obtain⟨q,nq,rfl,hq1,hq2,rfl,rfl,hfind⟩:=hrel
        have HFIND:=lh hfind
        clear hfind
        by_cases hq:0≤q
        ·have hc0:=hrow.cell (q.toNat*2) _ (flat_get2 st (0,0) ocell _ _ (fun _=>rfl) q.toNat (by omega)).1
         have hc1:=hrow.cell (q.toNat*2+1) _ (flat_get2 st (0,0) ocell _ _ (fun _=>rfl) q.toNat (by omega)).2
         obtain⟨qn,rfl⟩:=Int.eq_ofNat_of_zero_le hq
         rw [Int.toNat_natCast] at hc0 hc1
         have g1:(0:Int)≤(i:Int):=by omega
         have g2:(i:Int)<(rs.length:Int):=by omega
         have hft:findTop st x (qn+1)=if (st.getD qn (0,0)).2=x then some qn else findTop st x qn:=rfl
         generalize hget:st.getD qn (0,0)=tp at hc0 hc1 hft
         have HGET:=lh hget
         clear hget
         obtain⟨tat,toth⟩:=tp
         by_cases hcmp:toth=x
         ·subst hcmp
          rw [if_pos rfl] at hft
          have HFT:=lh hft
          clear hft
          have HN:=lh (HS5.out qn (by rw [HFIND.out,show ((qn:Int)+1).toNat=qn+1 by omega];exact HFT.out))
          go_wp2_with (fail)
          go_quiet (fail)
          go_wp2_with (fail)
          have ag:ov.ownBlock≠some (w.heap.size+1):=fun e=>by have:=(hown.lt _ e).1;omega
          have ar:ov.ownBlock≠some w.heap.size:=fun e=>by have:=(hown.lt _ e).1;omega
          have HOWN:=lh hown
          clear hown
          have hcz:∀(n:Nat) (o:Obj),((wo.drewN n).alloc o).cell? ⟨w.heap.size+1,0,none⟩=some ov:=fun n o=>by
           rw [World.cell?_of_block (w:=wo) (Below.heap_alloc (wo.drewN n) o (w.heap.size+1) (by show _<wo.heap.size;omega))];exact hcell
          have hfz:∀(n:Nat) (o:Obj),((wo.drewN n).alloc o).frozen? ⟨w.heap.size+1,0,none⟩=false:=fun n o=>by
           rw [World.frozen?_of_block (w:=wo) (Below.heap_alloc (wo.drewN n) o (w.heap.size+1) (by show _<wo.heap.size;omega))];exact hfro
          go_region_law
           ((refine step_append_lies _ (by rfl) _ _ _ (by rfl) (w.heap.size+2) 96 i29 _ 2 16 Tryz.underlying268 hi29 hz29 ha29 hb29 rfl (by omega) ov out.length (out.flatMap pcell) (by rfl) (by exact ownsRow_drewN (HOWN.out.alloc _) _)
              ⟨wo.heap.size,0,none⟩ 1 1 [.int .i64 tat,.int .i64 i] (by rfl) (by rfl) (World.news_of_block (cs:=#[.int .i64 tat,.int .i64 i]) (t:=96) (fr:=(0,0)) (heap_alloc_new _ _)) (by simp [Value.oneCell'])
              (by omega) (by unfold maxLen;omega) (by omega) (by simp;omega) (wo.heap.size+1) (by simp) ?_;intro gg cap w1 hown1 hgrow hat hlt;have hcw:w1.cell? ⟨w.heap.size+1,0,none⟩=some ov:=(hgrow.cell_far _ (by first | (simp;done) | (simp;omega)) (Ne.symm ag)).trans (hcz _ _);have hfw:w1.frozen? ⟨w.heap.size+1,0,none⟩=false:=(hgrow.frozen_far _ (by first | (simp;done) | (simp;omega)) (Ne.symm ag)).trans (hfz _ _)))
          all_goals
           have hr1:=rel_close (qn:=qn) hown1 hgrow hat hlt hcw hfw HOWN.out hrow hsz hbel
           clear hown1 hgrow hat hcw hfw hcz hfz
           go_wp2_with (fail)
           go_roundw
           case rel=>exact⟨i+1,m,st.take qn,out++[(tat,i)],_,by have:=HIM.out;omega,by go_num,by rw [List.length_take];omega,by rw [List.length_take,Nat.min_eq_left (by omega)],by rw [List.length_append,List.length_singleton];omega,hr1.1,hr1.2.1,hr1.2.2.1,hr1.2.2.2.1,hr1.2.2.2.2.1,hr1.2.2.2.2.2,by rw [←HF.out,HN.out,HGET.out]⟩
           case measure=>simp [intOf];omega
         ·rw [if_neg hcmp] at hft
          have HFT:=lh hft
          clear hft
          have hcmp':(toth==x)=false:=by simpa using hcmp
          have HC:=lh hcmp
          clear hcmp
          go_wp2_with (fail)
          go_quiet (fail)
          go_wp2_with (fail)
          go_roundw
          case rel=>exact⟨(qn:Int)-1,_,rfl,by omega,by omega,rfl,rfl,by rw [HFIND.out,show ((qn:Int)+1).toNat=qn+1 by omega,HFT.out];exact congrArg _ (by omega)⟩
          case measure=>simp [intOf]
        ·have HN:=lh (HS4.out (by rw [HFIND.out,show (q+1).toNat=0 by omega];rfl))
         go_wp2_with (fail)
         go_roundw
         case rel=>exact⟨i+1,m,st,out,ov,by have:=HIM.out;omega,by go_num,hst,rfl,by omega,hrow,hcell,hfro,ownsRow_drewN hown _,hsz,bl_drewN hbel _,by rw [←HF.out,HN.out]⟩
         case measure=>simp [intOf];omega
      ·-- an opening one
       by_cases hfull:st.length=63
       ·have HN:=lh (hs.2.1 rfl rfl rfl hfull)
        clear hs
        have hf1:((st.length:Int)==63)=true:=by rw [hfull];rfl
        have HFULL:=lh hfull
        clear hfull
        go_wp2_with (go_at_call 170;refine (HP.out _).mono ?_;rintro e w' ⟨rfl,rfl⟩)
        change Calls Tryz.prog 212 _ _ _
        have hOBl:w.heap.size+1<wr.heap.size:=by omega
        refine (sort_call (w.heap.size+1) (w.heap.size+2) out ov _ (by exact hown) (by exact hcell) (by omega) (by omega)).mono ?_
        intro e w1 hpost
        have hob:ov.ownBlock≠some (w.heap.size+1):=fun e=>by have:=(hown.lt _ e).1;omega
        have hfin:=brk_end (e:=e) HM.out (by rw [←HF.out,HN.out]) hbel hsz hown hpost
        obtain⟨rfl,l,hp,hsrt,ho,hg⟩:=hpost
        have hc1:w1.cell? ⟨w.heap.size+1,0,none⟩=some ov:=(hg.cell_far _ (by exact hOBl) (Ne.symm hob)).trans hcell
        clear hp hsrt ho hg hown hrow
        have HFIN:=lh hfin
        clear hfin
        go_wp2_with (fail)
        rw [Exit.noGoto_ret]
        go_ret
        exact HFIN.out
       ·have HN:=lh (hs.2.2.1 rfl rfl rfl hfull)
        clear hs
        have hf1:((st.length:Int)==63)=false:=by simp;omega
        go_wp2_with (first | (go_at_call 170;refine (HP.out _).mono ?_;rintro e w' ⟨rfl,rfl⟩) | (at_builtin;refine wpList_append_row _ rfl _ _ 299 rfl 297 i41 2 Tryz.underlying299 hi41 hz41 w.heap.size 298 126 st.length 63 (st.flatMap ocell) rfl (hrow.kept (Below.heap_alloc _ _ _ (by omega))) (flat_len2 _ ocell (fun _=>rfl)) ⟨wr.heap.size,0,none⟩ 1 1 [.int .i64 i,.int .i32 other] rfl rfl (World.news_of_block (cs:=#[.int .i64 i,.int .i32 other]) (t:=297) (fr:=(0,0)) (heap_alloc_new _ _)) (by simp [Value.oneCell']) (by omega) (by omega) ?_;intro w1 hrow1 hgrow1))
        have hr1:=rel_push (x:=(i,other)) hrow1 hgrow1 hcell hfro hown hsz hbel
        clear hrow1 hgrow1
        go_roundw
        case rel=>exact⟨i+1,m,st++[(i,other)],out,ov,by have:=HIM.out;omega,by go_num,by rw [List.length_append,List.length_singleton];omega,by simp,by omega,hr1.1,hr1.2.1,hr1.2.2.1,hr1.2.2.2.1,hr1.2.2.2.2.1,hr1.2.2.2.2.2,by rw [←HF.out,HN.out]⟩
        case measure=>simp [intOf];omega
     ·have HN:=lh (hs.1 (.inr h13))
      clear hs
      have h13':(y != 13)=true:=by simpa using h13
      have H13:=lh h13
      clear h13
      go_wp2_with (go_at_call 170;refine (HP.out _).mono ?_;rintro e w' ⟨rfl,rfl⟩)
      go_roundw
      case rel=>exact⟨i+1,m,st,out,ov,by have:=HIM.out;omega,by go_num,hst,rfl,by omega,hrow,hcell,hfro,hown,hsz,hbel,by rw [←HF.out,HN.out]⟩
      case measure=>simp [intOf];omega
   ·have hiM:i≤M:=by have:=HIM.out;omega
    have hm0:m=0:=by have:=HIM.out;omega
    have HF0:Hid (out=brkF rs ks M 0 [] []):=by subst hm0;exact HF
    clear hm0
    go_wp2_with (fail)
    change Calls Tryz.prog 212 _ _ _
    have hOBl:w.heap.size+1<wr.heap.size:=by omega
    refine (sort_call (w.heap.size+1) (w.heap.size+2) out ov _ (by exact hown) (by exact hcell) (by omega) (by omega)).mono ?_
    intro e w1 hpost
    have hob:ov.ownBlock≠some (w.heap.size+1):=fun e=>by have:=(hown.lt _ e).1;omega
    have hfin:=brk_end (e:=e) HM.out HF0.out hbel hsz hown hpost
    obtain⟨rfl,l,hp,hsrt,ho,hg⟩:=hpost
    have hc1:w1.cell? ⟨w.heap.size+1,0,none⟩=some ov:=(hg.cell_far _ (by exact hOBl) (Ne.symm hob)).trans hcell
    clear hp hsrt ho hg hown hrow
    have HFIN:=lh hfin
    clear hfin
    go_wp2_with (fail)
    rw [Exit.noGoto_ret]
    go_ret
    exact HFIN.out
theorem Brackets_len (ra ka:Option Addr) (rs ks:List Int) (nr nk rc kc:Nat) (w:World) (hnr:rs.length=nr) (hnk:ks.length=nk) (hr:Rd .i32 w ra rs) (hk:Rd .i8 w ka ks) (hrn:nr≤2097152) (hkn:nk≤2097152) :
 Calls Tryz.prog 195 #[.slice ra nr rc,.slice ka nk kc] w (BrkPost rs ks w):=by
 subst hnr hnk
 exact Brackets_any ra ka rs ks rc kc w hr hk hrn hkn
end
end Go.Proofs.YtlmjbfncopbilaaGreatDoor
