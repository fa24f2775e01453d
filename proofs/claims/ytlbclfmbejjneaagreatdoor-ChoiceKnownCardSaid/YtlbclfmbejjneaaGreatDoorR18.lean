/- Part 18 (merged by a program): lemmas of no further condition than each states. -/
import Derived.Test.YtlbclfmbejjneaaGreatDoorR17
namespace Go.Proofs.YtlbclfmbejjneaaGreatDoor
set_option linter.unusedVariables false
set_option linter.unusedSimpArgs false
section
open Go.RowKit
theorem Tryz.info_int:(Tryz.prog.info? 3).map (fun i=>(i.zero,i.size,i.bytes))=some (some (.int .i64 0),1,8):=by kernel_rfl
def LPairsPost (ds:List Int) (n:Nat) (w:World) (e:Ending) (w':World):Prop :=
 e=.returned (.slice (some ⟨w.heap.size,0,none⟩) n n)∧(pairsI ds).length=n∧OutAt .i64 3 w' w.heap.size (some ⟨w.heap.size,0,none⟩) n (pairsI ds)∧Below w.heap.size w w'
theorem rep_zero (n i:Nat) (h:i<n):ith (List.replicate n 0) i=0:=by
 unfold ith;rw [List.getD_eq_getElem?_getD];simp [h]
theorem lp_kept {k:IntKind} {e base cap B:Nat} {w2 w6:World} {ob:Obj} {out:List Int} {row:Option Nat} (h:OutAt k e w2 base (some ⟨B,0,none⟩) cap out) (hg:(w2.alloc ob).grownBy w6 row) (hr:∀j,row=some j→B<j):OutAt k e w6 base (some ⟨B,0,none⟩) cap out:=by
 refine World.ownsRow.kept (World.ownsRow.alloc h ob) hg (.inr fun e=>?_)
 have:=hr B e.symm
 omega
theorem lp_two {w w2:World} {t GO oc n L:Nat} {opn:List Nat} {out:List Int} (hO:OutAt .i64 t w2 w.heap.size (some ⟨w.heap.size,0,none⟩) n out)
 (hown:w2.ownsRow (w.heap.size+1) t 1 (.slice (some ⟨GO,0,none⟩) opn.length oc) opn.length (nats opn)) (hb:Below w.heap.size w w2) (hL:opn.length=L+1) (hs:w.heap.size+1≤w2.heap.size) (i j:Nat) :
 ((w2.setCell ⟨w.heap.size,i,none⟩ (.int .i64 j)).setCell ⟨w.heap.size,j,none⟩ (.int .i64 i)).drew.ownsRow (w.heap.size+1) t 1 (.slice (some ⟨GO,0,none⟩) L oc) (opn.take L).length (nats (opn.take L)) ∧
 OutAt .i64 t ((w2.setCell ⟨w.heap.size,i,none⟩ (.int .i64 j)).setCell ⟨w.heap.size,j,none⟩ (.int .i64 i)).drew w.heap.size (some ⟨w.heap.size,0,none⟩) n ((out.set i (j:Int)).set j (i:Int)) ∧
 w.heap.size+1≤((w2.setCell ⟨w.heap.size,i,none⟩ (.int .i64 j)).setCell ⟨w.heap.size,j,none⟩ (.int .i64 i)).drew.heap.size ∧
 Below w.heap.size w ((w2.setCell ⟨w.heap.size,i,none⟩ (.int .i64 j)).setCell ⟨w.heap.size,j,none⟩ (.int .i64 i)).drew:=by
 have h1:=ownsRow_setCell_below (ownsRow_setCell_below hown (show (⟨w.heap.size,i,none⟩:Addr).block<w.heap.size+1 from Nat.lt_succ_self _) (.int .i64 j)) (show (⟨w.heap.size,j,none⟩:Addr).block<w.heap.size+1 from Nat.lt_succ_self _) (.int .i64 i)
 refine⟨?_,(hO.set i j).set j i,by simpa [World.setCell] using hs,((hb.setCell (p:=⟨w.heap.size,i,none⟩) (Nat.le_refl _) _).setCell (p:=⟨w.heap.size,j,none⟩) (Nat.le_refl _) _).drew⟩
 have h2:=ownsRow_take (k:=L) h1 (by omega) (by omega) (by unfold nats;simp)
 have e1:(opn.take L).length=L:=by rw [List.length_take];omega
 have e2:nats (opn.take L)=(nats opn).take (L*1):=by unfold nats;rw [List.map_take,Nat.mul_one]
 rw [e1,e2]
 exact h2
set_option maxRecDepth 100000 in
set_option maxHeartbeats 400000 in
theorem LPairs_any (a:Option Addr) (ds:List Int) (n cap:Nat) (w:World) (hl:ds.length=n) (hd:Rd .i8 w a ds) (hn:n≤2097152) :
 Calls Tryz.prog 151 #[.slice a n cap] w (LPairsPost ds n w):=by
 obtain⟨i3,hi3,hz3,ha3,hb3⟩:=info_parts (Tryz.info_int)
 have HL:=lh hl
 have HI:Hid (pairsI ds=pairsF ds n 0 [] (List.replicate n 0)):=by rw [←hl];rfl
 clear hl
 go_enter Tryz.func151,Tryz.ntmps151
 have hmk:=run_make_row (P:=Tryz.prog) 56 3 i3 (.int .i64 0) Tryz.underlying56 hi3 hz3 ha3 rfl .i64 .i64 n (by rw [hb3];omega) (by omega)
 go_wp2_with (fail)
 clear hmk
 have hrow0:=World.rowIs_made w (.int .i64 0) n 3
 have hO0:OutAt .i64 3 (w.alloc (.cells (madeCells #[.int .i64 0] n) 3)) w.heap.size (some ⟨w.heap.size,0,none⟩) n (List.replicate n 0) :=
  out_of_row (hrow0.congr fun i hi=>by rw [rep_zero n i hi]) (by simp) (Nat.le_refl _) (by unfold maxLen;omega)
 have hb0:=(Below.refl w.heap.size w).alloc (Nat.le_refl _) (.cells (madeCells #[.int .i64 0] n) 3)
 clear hrow0
 go_loopw [4,13] (fun ov c wx=>∃(i m:Nat) (opn:List Nat) (out:List Int),i+m=n∧c=.int .i64 i∧wx.ownsRow (w.heap.size+1) 3 1 ov opn.length (nats opn) ∧
  out.length=n∧OutAt .i64 3 wx w.heap.size (some ⟨w.heap.size,0,none⟩) n out∧(∀p∈opn,p<i)∧opn.length≤i∧w.heap.size+1≤wx.heap.size∧Below w.heap.size w wx∧pairsF ds m i opn out=pairsI ds) (fun _ c _=>n-(intOf c).toNat)
 case atStart=>exact⟨0,n,[],List.replicate n 0,by omega,rfl,World.ownsRow_nil _ _ _ _,by simp,hO0,by simp,by simp,by simp,hb0,HI.out.symm⟩
 case round =>
  obtain⟨i,m,opn,out,him,rfl,hown,hol,hO,hlt',hoi,hsz,hbel,hF⟩:=hrel
  have HIM:=lh him
  have HF:=lh hF
  have HOL:=lh hol
  have HLT:=lh hlt'
  clear him hF hol hlt' hO0 hb0
  obtain⟨oa,oc,hov,hoc,hocm⟩:=own_slice hown
  subst hov
  by_cases hi:i<n
  ·obtain⟨m,rfl⟩:∃q,m=q+1:=⟨m-1,by have:=HIM.out;omega⟩
   obtain⟨G,o,rfl,hGl,hGc⟩:=hd.at hbel i (by have:=HL.out;omega)
   obtain⟨G',hG',_,_,hXc,hXf,_,_⟩:=hO.at i (by have:=HOL.out;omega)
   cases hG'
   have hst:∀d,lkn (ith ds i)=d→pairsF ds (m+1) i opn out=if opensB d=true then pairsF ds m (i+1) (opn++[i]) (out.set i (-1)) else if d=10 then pairsF ds m (i+1) [] (out.set i (-1))
    else if d=22∧0<opn.length then pairsF ds m (i+1) (opn.take (opn.length-1)) (((out.set i (-1)).set i (opn.getD (opn.length-1) 0)).set (opn.getD (opn.length-1) 0) i) else pairsF ds m (i+1) opn (out.set i (-1)):=fun d h=>by rw [pairsF,h]
   generalize ith ds i=y at hGc hst
   obtain⟨d,hd'⟩:∃d,lkn y=d:=⟨_,rfl⟩
   have hs:=hst d hd'
   have HD:Hid (∀W,Calls Tryz.prog 124 #[.int .i8 y] W fun e w'=>e=.returned (.int .i8 d)∧W=w'):=fun W=>by rw [←hd'];exact lknown_any y W
   clear hst hd'
   go_upto_region 7 with (fail)
   obtain⟨w2,hw2⟩:∃w2,w2=wr.setCell ⟨w.heap.size,i,none⟩ (.int .i64 (-1)):=⟨_,rfl⟩
   rw [←hw2]
   have hO2:OutAt .i64 3 w2 w.heap.size (some ⟨w.heap.size,0,none⟩) n (out.set i (-1)):=by rw [hw2];exact hO.set i (-1)
   have hb2:Below w.heap.size w w2:=by rw [hw2];exact hbel.setCell (p:=⟨w.heap.size,i,none⟩) (Nat.le_refl _) (.int .i64 (-1))
   have hown2:w2.ownsRow (w.heap.size+1) 3 1 (.slice oa opn.length oc) opn.length (nats opn):=by
    rw [hw2];exact ownsRow_setCell_below hown (show (⟨w.heap.size,i,none⟩:Addr).block<w.heap.size+1 from Nat.lt_succ_self _) (.int .i64 (-1))
   have hsz2:w.heap.size+1≤w2.heap.size:=by rw [hw2];simpa [World.setCell] using hsz
   have hGc2:w2.cell? ⟨G,o+i,none⟩=some (.int .i8 y):=by
    rw [hw2]
    exact (World.cell?_of_block (heap_setCell_other wr ⟨w.heap.size,i,none⟩ G (.int .i64 (-1)) (by show G≠w.heap.size;omega))).trans hGc
   clear hO hbel hown hsz hGc hXc hXf hw2
   go_upto_region 8 with (go_at_call 124;refine (HD.out _).mono ?_;rintro e w' ⟨rfl,hw'⟩;subst hw')
   have hlen2:(out.set i (-1)).length=n:=by rw [List.length_set];exact HOL.out
   have HL2:=lh hlen2
   have HO2:=lh hO2
   have HB2:=lh hb2
   have HOW2:=lh hown2
   clear hlen2 hO2 hb2 hown2 hGc2
   by_cases ho:opensB d=true
   ·have HN:=lh (hs.trans (if_pos ho))
    clear hs
    go_wp2_with (first | (go_at_call 144;refine (lopens_any _ _).mono ?_;rintro e w' ⟨rfl,hw'⟩;subst hw') | (at_builtin;refine wpList_append_own _ rfl (.tmp 27) (.tmp 29) 56 rfl (w.heap.size+1) 3 i3 (.int .i64 0) 1 8 Tryz.underlying56 hi3 hz3 ha3 hb3 rfl (by decide) (.slice oa opn.length oc) opn.length _ rfl (HOW2.out.alloc _) ⟨w2.heap.size,0,none⟩ 1 1 [.int .i64 i] rfl rfl (cell_one_new _ _ _) (by simp [Value.oneCell']) (by unfold maxLen;omega) (by omega) (by simp;omega) ?_;intro v6 w6 hown6 hg6 _))
    have hO6:=lp_kept HO2.out hg6 (fun k hk=>by have:=(HOW2.out.lt k hk).1;omega)
    have hb6:=(HB2.out.alloc HB2.out.size _).grown hg6 (by simp;omega) (fun k hk=>by have:=(HOW2.out.lt k hk).1;omega)
    have hs6:w.heap.size+1≤w6.heap.size:=by have:=hg6.size;rw [World.size_alloc] at this;omega
    clear hg6
    go_roundw
    case rel=>exact⟨i+1,m,opn++[i],out.set i (-1),by have:=HIM.out;omega,by go_num,by rw [nats_snoc,List.length_append,List.length_singleton];exact hown6,HL2.out,hO6,fun p hp=>by
     rw [List.mem_append,List.mem_singleton] at hp
     rcases hp with hp | hp
     ·have:=HLT.out p hp;omega
     ·omega,by rw [List.length_append,List.length_singleton];omega,hs6,hb6,by rw [←HF.out,HN.out]⟩
    case measure=>simp [intOf];omega
   ·rw [if_neg ho] at hs
    have hof:opensB d=false:=by simpa using ho
    clear ho
    by_cases h10:d=10
    ·have HN:=lh (hs.trans (if_pos h10))
     subst h10
     clear hs
     go_wp2_with (go_at_call 144;refine (lopens_any _ _).mono ?_;rintro e w' ⟨rfl,hw'⟩;subst hw')
     go_roundw
     case rel=>exact⟨i+1,m,[],out.set i (-1),by have:=HIM.out;omega,by go_num,World.ownsRow_nil _ _ _ _,HL2.out,HO2.out,by simp,by simp,hsz2,HB2.out,by rw [←HF.out,HN.out]⟩
     case measure=>simp [intOf];omega
    ·rw [if_neg h10] at hs
     have c10:(d==10)=false:=by simpa using h10
     clear h10
     by_cases h22:d=22∧0<opn.length
     ·have HN:=lh (hs.trans (if_pos h22))
      obtain⟨rfl,hlen⟩:=h22
      clear hs
      obtain⟨L,hL⟩:∃L,opn.length=L+1:=⟨opn.length-1,by omega⟩
      obtain⟨GO,hoa,hGO1,hGO2,hcells⟩:=own_cells HOW2.out hlen
      subst hoa
      obtain⟨j,hj⟩:∃j,opn.getD L 0=j:=⟨_,rfl⟩
      have hoc2:=hcells L (by omega)
      have hnl:(nats opn)[L]? = some (.int .i64 (j:Int)):=by
       unfold nats
       rw [List.getElem?_map,List.getElem?_eq_getElem (by omega),←hj,List.getD_eq_getElem?_getD,List.getElem?_eq_getElem (by omega)]
       rfl
      rw [hnl] at hoc2
      have hjm:j∈opn:=by rw [←hj,List.getD_eq_getElem?_getD,List.getElem?_eq_getElem (by omega)];exact List.getElem_mem _
      have hji:j<i:=HLT.out j hjm
      obtain⟨G1,hG1,_,_,hXi,hFi,_,_⟩:=HO2.out.at i (by have:=HL2.out;omega)
      cases hG1
      obtain⟨G1,hG1,_,_,hXj,hFj,_,_⟩:=HO2.out.at j (by have:=HL2.out;omega)
      cases hG1
      rw [hL,Nat.add_sub_cancel,hj] at HN
      have HLL:=lh hL
      clear hcells hnl hjm hj
      generalize ith (out.set i (-1)) i=vi at hXi
      generalize ith (out.set i (-1)) j=vj at hXj
      go_upto_region 13 with (go_at_call 144;refine (lopens_any _ _).mono ?_;rintro e w' ⟨rfl,hw'⟩;subst hw')
      go_cut [7] (fun t wx=>t=.int .i64 L∧wx=w2)
      case first =>
       clear hXi hXj hFi hFj hoc2
       go_wp2_with (fail)
       all_goals (go_meet;exact⟨by go_num,rfl⟩)
      case rest =>
       obtain⟨rfl,hwx⟩:=hcut
       have hwx':=hwx.symm
       clear hwx
       subst hwx'
       have gL0:(0:Int)≤(L:Int):=by omega
       have gL1:(L:Int)<(opn.length:Int):=by omega
       have gL2:(L:Int)<(L:Int)+1:=by omega
       have gj0:(0:Int)≤(j:Int):=by omega
       have gj1:(j:Int)<(n:Int):=by omega
       have gi0:(0:Int)≤(i:Int):=by omega
       have gi1:(i:Int)<(n:Int):=by omega
       have hne1:GO≠w.heap.size:=by omega
       have hne2:w.heap.size≠GO:=by omega
       have hij1:i≠j:=by omega
       have hij2:j≠i:=by omega
       have hLc:(L:Int)≤(oc:Int):=by omega
       clear hL
       go_upto_region 14 with (fail)
       go_region_held3 (fun w'=>w'.cell? ⟨GO,L,none⟩=some (.int .i64 j)) (go_keep) (fail)
       all_goals
        have HO6:=lh (lp_two HO2.out HOW2.out HB2.out HLL.out hsz2 i j)
        clear hXi hXj hFi hFj hoc2
        go_wp2_with (fail)
        go_roundw
        case rel=>exact⟨i+1,m,opn.take L,((out.set i (-1)).set i (j:Int)).set j (i:Int),by have:=HIM.out;omega,by go_num,HO6.out.1,by rw [List.length_set,List.length_set];exact HL2.out,HO6.out.2.1,fun p hp=>by have:=HLT.out p (List.mem_of_mem_take hp);omega,by rw [List.length_take];omega,HO6.out.2.2.1,HO6.out.2.2.2,by rw [←HF.out,HN.out]⟩
        case measure=>simp [intOf];omega
     ·have HN:=lh (hs.trans (if_neg h22))
      have hkeep:∀p∈opn,p<i+1:=fun p hp=>by have:=HLT.out p hp;omega
      have HKP:=lh hkeep
      clear hs hkeep
      by_cases h2:d=22
      ·have hl0:¬ 0<opn.length:=fun h=>h22 ⟨h2,h⟩
       subst h2
       clear h22
       go_wp2_with (go_at_call 144;refine (lopens_any _ _).mono ?_;rintro e w' ⟨rfl,hw'⟩;subst hw')
       go_roundw
       case rel=>exact⟨i+1,m,opn,out.set i (-1),by have:=HIM.out;omega,by go_num,HOW2.out,HL2.out,HO2.out,HKP.out,by omega,hsz2,HB2.out,by rw [←HF.out,HN.out]⟩
       case measure=>simp [intOf];omega
      ·have c22:(d==22)=false:=by simpa using h2
       clear h22 h2
       go_wp2_with (go_at_call 144;refine (lopens_any _ _).mono ?_;rintro e w' ⟨rfl,hw'⟩;subst hw')
       go_roundw
       case rel=>exact⟨i+1,m,opn,out.set i (-1),by have:=HIM.out;omega,by go_num,HOW2.out,HL2.out,HO2.out,HKP.out,by omega,hsz2,HB2.out,by rw [←HF.out,HN.out]⟩
       case measure=>simp [intOf];omega
  ·have hm0:m=0:=by have:=HIM.out;omega
   have HZ:Hid (out=pairsI ds):=by subst hm0;exact HF
   go_wp2_with (fail)
   go_ret
   exact⟨rfl,by rw [←HZ.out];exact HOL.out,by rw [←HZ.out];exact hO,hbel⟩
end
section
open Go.RowKit
theorem st_field0 (x y z:Value) (w:World):Sem.run Tryz.prog (Instr.field 215 (.agg #[x,y,z]) 0) w=.ok x w:=by kernel_rfl
theorem st_field1 (x y z:Value) (w:World):Sem.run Tryz.prog (Instr.field 215 (.agg #[x,y,z]) 1) w=.ok y w:=by kernel_rfl
theorem st_field2 (x y z:Value) (w:World):Sem.run Tryz.prog (Instr.field 215 (.agg #[x,y,z]) 2) w=.ok z w:=by kernel_rfl
def stV (s:LSt):Value:=.agg #[.int .u8 s.level,.int .i8 s.over,.bool s.iso]
set_option maxHeartbeats 400000 in
theorem top_any (w:World) (base p R:Nat) (P:LPile) (h:PileAt w base p R P) (hne:0<P.states.length) :
 Calls Tryz.prog 145 #[.pointer (some ⟨p,0,none⟩)] w fun e w'=>e=.returned (stV P.top)∧Below w.heap.size w w':=by
 obtain⟨N,cap,hp,hR,hb1,hb2,hne',hlc,hcm,hcN⟩:=h
 obtain⟨L,hL⟩:∃L,P.states.length=L+1:=⟨P.states.length-1,by omega⟩
 obtain⟨t0,t1,t2⟩:=pile_top hR hL
 have hRl:=hR.lt
 obtain⟨n,hn⟩:∃n,P.states.length=n:=⟨_,rfl⟩
 rw [hn] at hp hlc
 obtain⟨c0,_,_,_,_,hpl⟩:=pile_cells hp
 unfold maxLen at hcm
 have gL0:(0:Int)≤(L:Int):=by omega
 have gL1:(L:Int)<(n:Int):=by omega
 have hLc:(n:Int)≤(cap:Int):=by omega
 have hwr:IntKind.i64.wrap ((n:Int)-1)=(L:Int):=by rw [IntKind.wrap_i64];omega
 unfold stV
 generalize P.top=s at t0 t1 t2 ⊢
 clear hR hp hL hne hcN hn
 go_enter Tryz.func145,Tryz.ntmps145
 go_upto_region 1 with (fail)
 go_region_held3 (fun w'=>w'.cell? ⟨p,0,none⟩=some (.slice (some ⟨R,0,none⟩) n cap)∧w'.cell? ⟨R,L*3,none⟩=some (.int .u8 s.level)∧w'.cell? ⟨R,L*3+1,none⟩=some (.int .i8 s.over)∧w'.cell? ⟨R,L*3+2,none⟩=some (.bool s.iso)) (go_keep) (fail)
 go_wp2_with (fail)
 refine bodyPost_ret (results_cell_row rfl _ _ w.heap.size _ _ _ _ rfl (heap_alloc_new w _) Tryz.underlying215 rfl (by kernel_rfl)) rfl ⟨rfl,?_⟩
 exact ((Below.refl w.heap.size w).alloc (Nat.le_refl _) _).drew
set_option maxRecDepth 100000 in
set_option maxHeartbeats 400000 in
theorem said_any (w:World) (base p R:Nat) (P:LPile) (d:Int) (h:PileAt w base p R P) (hne:0<P.states.length) :
 Calls Tryz.prog 146 #[.pointer (some ⟨p,0,none⟩),.int .i8 d] w fun e w'=>e=.returned (.int .i8 (P.said d))∧Below w.heap.size w w':=by
 have ht:=top_any w base p R P h hne
 have hs:P.said d=if P.top.over ≠ -1 then P.top.over else d:=rfl
 unfold stV at ht
 generalize P.top=s at ht hs
 obtain⟨l,o,b⟩:=s
 simp only at ht hs
 have HS:=lh hs
 have HT:=lh ht
 have hf1:=st_field1 (.int .u8 l) (.int .i8 o) (.bool b)
 clear hs h hne ht
 go_enter Tryz.func146,Tryz.ntmps146
 go_upto_region 1 with (fail)
 go_upto_region 2 with (go_at_call 145;refine HT.out.mono ?_;rintro e w1 ⟨rfl,hw1⟩)
 by_cases ho:o = -1
 ·subst ho
  go_wp2_with (fail)
  go_ret
  exact⟨ret_i (by rw [HS.out];rfl),hw1⟩
 ·have hb:(o != -1)=true:=by simpa using ho
  go_wp2_with (fail)
  go_ret
  exact⟨ret_i (by rw [HS.out,if_pos ho]),hw1⟩
set_option maxHeartbeats 400000 in
theorem pop_any (w:World) (base p R:Nat) (P:LPile) (h:PileAt w base p R P) (h1:1<P.states.length) :
 Calls Tryz.prog 180 #[.pointer (some ⟨p,0,none⟩)] w fun e w'=>e=.returned (.tuple #[])∧PileAt w' base p R P.pop∧Keep2 p R w w':=by
 obtain⟨N,cap,hp,hR,hb1,hb2,hne',hlc,hcm,hcN⟩:=h
 obtain⟨L,hL⟩:∃L,P.states.length=L+1:=⟨P.states.length-1,by omega⟩
 have hRl:=hR.lt
 have hend:∀q,PileAt ((w.setCell ⟨p,0,none⟩ (.slice (some ⟨R,0,none⟩) L L)).drewN q) base p R P.pop∧Keep2 p R w ((w.setCell ⟨p,0,none⟩ (.slice (some ⟨R,0,none⟩) L L)).drewN q):=fun q=>by
  refine⟨⟨N,L,?_,?_,hb1,hb2,hne',?_,by unfold maxLen at *;omega,by omega⟩,((Keep2.refl p R w).set 0 _).drewN q⟩
  ·have:=pile_set0 (v:=.slice (some ⟨R,0,none⟩) L L) hp
   rw [P.pop_len,hL,Nat.add_sub_cancel]
   exact this
  ·have:=(row_set_other (i:=0) (v:=.slice (some ⟨R,0,none⟩) L L) hR hne').take (L*3)
   rw [←flat_take P.states scell 3 (fun _=>rfl)] at this
   unfold LPile.pop
   rw [hL,Nat.add_sub_cancel]
   exact this
  ·rw [P.pop_len];omega
 have HE:=lh hend
 obtain⟨n,hn⟩:∃n,P.states.length=n:=⟨_,rfl⟩
 rw [hn] at hp hlc
 obtain⟨c0,_,_,_,fr,hpl⟩:=pile_cells hp
 have f0:=fr 0
 unfold maxLen at hcm
 have gL0:(0:Int)≤(L:Int):=by omega
 have gL1:(L:Int)<(n:Int):=by omega
 have gL2:(L:Int)≤(cap:Int):=by omega
 have hLc:(n:Int)≤(cap:Int):=by omega
 have hwr:IntKind.i64.wrap ((n:Int)-1)=(L:Int):=by rw [IntKind.wrap_i64];omega
 clear hR hp hL h1 hcN hn hend
 go_enter Tryz.func180,Tryz.ntmps180
 go_wp2_with (fail)
 go_region
 all_goals go_end0
 all_goals exact⟨rfl,HE.out _⟩
end
section
open Go.RowKit
theorem Tryz.info_state:(Tryz.prog.info? 215).map (fun i=>(i.zero,i.size,i.bytes))=some (some (.agg #[.int .u8 0,.int .i8 0,.bool false]),3,3):=by kernel_rfl
theorem bits_even (l:Nat) (h:l≤125):bits .andNot .u8 ((l:Int)+2) 1=(((l+2) / 2*2:Nat):Int):=by
 have:∀k:Fin 126,bits .andNot .u8 (((k:Nat):Int)+2) 1=((((k:Nat)+2) / 2*2:Nat):Int):=by decide
 exact this ⟨l,by omega⟩
theorem bits_odd (l:Nat) (h:l≤125):bits .or .u8 ((l:Int)+1) 1=(((l+1) / 2*2+1:Nat):Int):=by
 have:∀k:Fin 126,bits .or .u8 (((k:Nat):Int)+1) 1=((((k:Nat)+1) / 2*2+1:Nat):Int):=by decide
 exact this ⟨l,by omega⟩
def PilePost (w:World) (base p R:Nat) (P:LPile) (v:Value) (e:Ending) (w':World):Prop :=
 e=.returned v∧∃R',PileAt w' base p R' P∧(R'=R∨w.heap.size≤R')∧Keep2 p R w w'
set_option maxRecDepth 100000 in
set_option maxHeartbeats 400000 in
theorem lay_any (w:World) (base p R:Nat) (P:LPile) (odd:Bool) (over:Int) (iso:Bool) (h:PileAt w base p R P) (hne:0<P.states.length) (hlv:P.top.level≤125) (hlen:P.states.length≤2097153) :
 Calls Tryz.prog 148 #[.pointer (some ⟨p,0,none⟩),.bool odd,.int .i8 over,.bool iso] w (PilePost w base p R (P.lay odd over iso) (.bool (P.room odd))):=by
 obtain⟨i3,hi3,hz3,ha3,hb3⟩:=info_parts (Tryz.info_state)
 have ht:=fun W (hb:Below w.heap.size w W)=>top_any W base p R P (h.keep hb) hne
 obtain⟨n,hn⟩:∃n,P.next odd=n:=⟨_,rfl⟩
 have hnx:n=if odd=true then (P.top.level+1) / 2*2+1 else (P.top.level+2) / 2*2:=by rw [←hn];rfl
 unfold stV at ht
 have HP:=lh h
 have HT:=lh ht
 have HNX:=lh hnx
 have HN:=lh hn
 clear ht h hnx hn
 generalize P.top=s at HT HNX hlv
 obtain⟨l,o,b⟩:=s
 simp only at hlv HNX
 have hf1:=st_field0 (.int .u8 l) (.int .i8 o) (.bool b)
 go_enter Tryz.func148,Tryz.ntmps148
 go_upto_region 2 with (go_at_call 145;refine (HT.out w (Below.refl _ _)).mono ?_;rintro e w1 ⟨rfl,hw1⟩)
 go_upto_if 15 with (fail)
 go_cut [9] (fun t wx=>t=.int .u8 n∧Below w.heap.size w wx)
 case first =>
  have e1:=bits_even l hlv
  have e2:=bits_odd l hlv
  cases odd with
  | true =>
    go_upto_region 3 with (fail)
    go_wp2_with (go_at_call 145;refine (HT.out w1 hw1).mono ?_;rintro e w2 ⟨rfl,hw2⟩)
    go_meet
    have hnn:(n:Int)=((l:Int)+1) / 2*2+1:=by rw [HNX.out,if_pos trivial];omega
    exact⟨by rw [hnn],hw1.trans (hw2.mono hw1.size)⟩
  | false =>
    go_wp2_with (fail)
    go_meet
    have hnn:(n:Int)=((l:Int)+2) / 2*2:=by rw [HNX.out,if_neg (by simp)];omega
    exact⟨congrArg (Value.int .u8) (by rw [e1];omega),hw1⟩
 case rest =>
  obtain⟨rfl,hbx⟩:=hcut
  obtain⟨N,cap,hp,hR,hb1,hb2,hne',hlc,hcm,hcN⟩:=HP.out.keep hbx
  have HK:Hid (PileAt wc base p R P):=HP.out.keep hbx
  obtain⟨c0,c1,c2,c3,fr,hpl⟩:=pile_cells hp
  have f0:=fr 0
  have hroom:P.room odd=(decide (n≤125)&&decide (P.deep=0)&&decide (P.emb=0)):=by unfold LPile.room;rw [HN.out]
  have hlay:P.lay odd over iso=if P.room odd=true then { P with states:=P.states++[⟨n,over,iso⟩] } else P:=by unfold LPile.lay;rw [HN.out]
  have HROOM:=lh hroom
  have HLAY:=lh hlay
  clear hroom hlay
  by_cases hr:n≤125∧P.deep=0∧P.emb=0
  ·obtain⟨hr1,hr2,hr3⟩:=hr
   have hrt:P.room odd=true:=by rw [HROOM.out];simp [hr1,hr2,hr3]
   rw [hr2] at c2
   rw [hr3] at c3
   have hr1':¬ (125:Int)<(n:Int):=by omega
   have HRT:=lh hrt
   have HPC:=lh hp
   have HRR:=lh hR
   clear hrt hr2 hr3 hp hR
   go_upto_region 6 with (fail)
   go_wp2_with (at_builtin;refine wpList_append_head _ rfl _ _ 217 rfl 215 i3 _ 3 3 Tryz.underlying217 hi3 hz3 ha3 hb3 rfl (by decide) R N P.states.length cap (P.states.flatMap scell) rfl (HRR.out.kept (Below.heap_alloc _ _ _ HRR.out.lt)) (flat_len _ scell 3 (fun _=>rfl)) hcN hcm ⟨wc.heap.size,0,none⟩ 1 1 (scell ⟨n,over,iso⟩) rfl rfl (World.news_of_block (cs:=(scell ⟨n,over,iso⟩).toArray) (t:=215) (fr:=(0,0)) (heap_alloc_new _ _)) (by simp [scell,Value.oneCell']) (by omega) (by unfold maxLen;omega) (by omega) ?_;intro w3 R' N' cap' h1 h2 h3 h4 h5 h6;have hp3:=(h6.block p (by rw [World.size_alloc];omega) (by simp;omega)).trans ((Below.heap_alloc _ _ _ hpl).trans HPC.out);obtain⟨x0,_,_,_,xf,_⟩:=pile_cells hp3;have xf0:=xf 0;have H3:=lh hp3;have H1:=lh h1;have H6:=lh h6;clear hp3 h1 h6)
   go_ret
   have hR':base≤R'∧R'≠p:=by
    rw [World.size_alloc] at h5
    rcases h5 with e | e
    ·rw [e];exact⟨hb2,hne'⟩
    ·omega
   have hfl:({ P with states:=P.states++[⟨n,over,iso⟩] }:LPile).states.flatMap scell=P.states.flatMap scell++scell ⟨n,over,iso⟩:=by
    show (P.states++[(⟨n,over,iso⟩:LSt)]).flatMap scell=_
    rw [List.flatMap_append,List.flatMap_singleton]
   refine⟨by rw [HRT.out];rfl,R',?_,?_,?_⟩
   ·rw [HLAY.out,if_pos HRT.out]
    refine⟨N',cap',?_,?_,hb1,hR'.1,hR'.2,?_,h3,h4⟩
    ·have:=pile_set0 (v:=.slice (some ⟨R',0,none⟩) (P.states.length+1) cap') H3.out
     simpa using this
    ·rw [hfl]
     exact row_set_other H1.out hR'.2
    ·show (P.states++[(⟨n,over,iso⟩:LSt)]).length≤cap'
     rw [List.length_append,List.length_singleton];exact h2
   ·rw [World.size_alloc] at h5
    have:=hbx.size
    rcases h5 with e | e
    ·exact .inl e
    ·right;omega
   ·exact (((Keep2.of hbx).alloc _).grown H6.out (fun k hk=>.inr (.inl (by cases hk;rfl)))).set 0 _
  ·have hrf:P.room odd=false:=by
    rw [HROOM.out]
    by_cases h1:n≤125
    ·by_cases h2:P.deep=0
     ·have h3:¬ P.emb=0:=fun h3=>hr ⟨h1,h2,h3⟩
      simp [h3]
     ·simp [h2]
    ·simp [h1]
   have hend:∀q,PilePost w base p R (P.lay odd over iso) (.bool (P.room odd)) (.returned (.bool false)) (wc.drewN q):=fun q =>
    ⟨by rw [hrf],R,by rw [HLAY.out,if_neg (by rw [hrf];decide)];exact HK.out.keep (bl_drewN (Below.refl _ _) q),.inl rfl,Keep2.of (bl_drewN hbx q)⟩
   have HE:=lh hend
   clear hend hrf hp hR
   by_cases h1:n≤125
   ·have h1':¬ (125:Int)<(n:Int):=by omega
    by_cases h2:P.deep=0
    ·have h3:0<P.emb:=by omega
     rw [h2] at c2
     clear hr
     go_wp2_with (fail)
     go_ret
     exact HE.out 0
    ·have h2':0<P.deep:=by omega
     clear hr
     go_wp2_with (fail)
     go_ret
     exact HE.out 0
   ·have h1':(125:Int)<(n:Int):=by omega
    clear hr
    go_wp2_with (fail)
    go_ret
    exact HE.out 0
end
section
open Go.RowKit
set_option maxRecDepth 100000 in
set_option maxHeartbeats 400000 in
theorem embed_any (w:World) (base p R:Nat) (P:LPile) (d:Int) (h:PileAt w base p R P) (hne:0<P.states.length) (hlv:P.top.level≤125) (hlen:P.states.length≤2097153) (hemb:P.emb≤2097152)
 (hd:d=14∨d=15∨d=16∨d=17) :
 Calls Tryz.prog 147 #[.pointer (some ⟨p,0,none⟩),.int .i8 d] w (PilePost w base p R (P.embed d) (.tuple #[])):=by
 obtain⟨odd,hodd⟩:∃odd,odd=(decide (d=15)||decide (d=17)):=⟨_,rfl⟩
 obtain⟨ov,hov⟩:∃ov:Int,ov=if d=16 then 0 else if d=17 then 1 else -1:=⟨_,rfl⟩
 have hE:P.embed d=if P.room odd=true then P.lay odd ov false else if P.deep=0 then { P with emb:=P.emb+1 } else P:=by rw [hodd,hov];rfl
 have hl:=lay_any w base p R P odd ov false h hne hlv hlen
 have hnl:P.room odd≠true→P.lay odd ov false=P:=fun hr=>by unfold LPile.lay;rw [if_neg hr]
 have HE:=lh hE
 have HNL:=lh hnl
 clear hE hnl h hne hlv hlen
 obtain⟨rm,hrm⟩:∃rm,P.room odd=rm:=⟨_,rfl⟩
 rw [hrm] at HE HNL hl
 have key:∀w1,(∃R',PileAt w1 base p R' (P.lay odd ov false)∧(R'=R∨w.heap.size≤R')∧Keep2 p R w w1)→rm=true→PilePost w base p R (P.embed d) (.tuple #[]) (.returned (.tuple #[])) w1:=fun w1 ⟨R',k1,k2,k3⟩ hr =>
  ⟨rfl,R',by rw [HE.out,if_pos hr];exact k1,k2,k3⟩
 have key0:∀w1,(∃R',PileAt w1 base p R' (P.lay odd ov false)∧(R'=R∨w.heap.size≤R')∧Keep2 p R w w1)→rm=false→¬ P.deep=0→PilePost w base p R (P.embed d) (.tuple #[]) (.returned (.tuple #[])) w1:=fun w1 ⟨R',k1,k2,k3⟩ hr h0=>by
  have e1:=HNL.out (by rw [hr];decide)
  rw [e1] at k1
  exact⟨rfl,R',by rw [HE.out,if_neg (by rw [hr];decide),if_neg h0];exact k1,k2,k3⟩
 have key1:∀w1,(∃R',PileAt w1 base p R' (P.lay odd ov false)∧(R'=R∨w.heap.size≤R')∧Keep2 p R w w1)→rm=false→P.deep=0→PilePost w base p R (P.embed d) (.tuple #[]) (.returned (.tuple #[])) (w1.setCell ⟨p,3,none⟩ (.int .i64 ((P.emb:Int)+1))):=fun w1 ⟨R',k1,k2,k3⟩ hr h0=>by
  have e1:=HNL.out (by rw [hr];decide)
  rw [e1] at k1
  obtain⟨N,cap,hp,hR,r1,r2,r3,r4⟩:=k1
  exact⟨rfl,R',by rw [HE.out,if_neg (by rw [hr];decide),if_pos h0];exact⟨N,cap,by simpa using pile_set3 (v:=.int .i64 ((P.emb:Int)+1)) hp,row_set_other hR r3,r1,r2,r3,r4⟩,k2,k3.set 3 _⟩
 have hcells:∀w1,(∃R',PileAt w1 base p R' (P.lay odd ov false)∧(R'=R∨w.heap.size≤R')∧Keep2 p R w w1)→rm=false→w1.cell? ⟨p,2,none⟩=some (.int .i64 P.deep)∧w1.cell? ⟨p,3,none⟩=some (.int .i64 P.emb)∧w1.frozen? ⟨p,3,none⟩=false:=fun w1 ⟨R',k1,k2,k3⟩ hr=>by
  rw [HNL.out (by rw [hr];decide)] at k1
  obtain⟨N,cap,hp,_⟩:=k1
  obtain⟨_,_,c2,c3,fr,_⟩:=pile_cells hp
  exact⟨c2,c3,fr 3⟩
 have K:=lh key
 have K0:=lh key0
 have K1:=lh key1
 have HC:=lh hcells
 have HL:=lh hl
 clear key key0 key1 hcells hl hrm
 rcases hd with rfl | rfl | rfl | rfl
 all_goals
  simp only [decide_true,Bool.or_true,Bool.true_or,Int.reduceEq,decide_false,Bool.or_false,if_true,if_false] at hodd hov
  subst hodd hov
  go_enter Tryz.func147,Tryz.ntmps147
  go_upto_region 6 with (fail)
  by_cases hr:rm=true
  ·subst hr
   go_wp2_with (go_at_call 148;refine HL.out.mono ?_;rintro e w1 ⟨rfl,hw1⟩)
   go_end0
   exact K.out w1 hw1 (by first | rfl | trivial)
  ·have hr':rm=false:=by simpa using hr
   subst hr'
   clear hr
   by_cases h0:P.deep=0
   ·go_wp2_with (go_at_call 148;refine HL.out.mono ?_;rintro e w1 ⟨rfl,hw1⟩;obtain⟨c2,c3,f3⟩:=HC.out w1 hw1 rfl;rw [h0] at c2;have HW:=lh hw1;clear hw1)
    go_end0
    exact K1.out w1 HW.out (by first | rfl | trivial) h0
   ·have h0':0<P.deep:=by omega
    have h0b:((P.deep:Int)==0)=false:=by simpa using h0
    go_wp2_with (go_at_call 148;refine HL.out.mono ?_;rintro e w1 ⟨rfl,hw1⟩;obtain⟨c2,c3,f3⟩:=HC.out w1 hw1 rfl;have HW:=lh hw1;clear hw1)
    go_end0
    exact K0.out w1 HW.out (by first | rfl | trivial) h0
set_option maxRecDepth 100000 in
set_option maxHeartbeats 400000 in
theorem fin_any (w:World) (base p R:Nat) (P:LPile) (h:PileAt w base p R P) (hne:0<P.states.length) (hlen:P.states.length≤2097153) (hemb:P.emb≤2097152) :
 Calls Tryz.prog 150 #[.pointer (some ⟨p,0,none⟩)] w (PilePost w base p R P.fin (.tuple #[])):=by
 have H:=lh h
 have ht:=top_any w base p R P h hne
 have hpop:=fun (h1:1<P.states.length) W (hb:Below w.heap.size w W)=>pop_any W base p R P (h.keep hb) h1
 obtain⟨N,cap,hp,hR,r1,r2,r3,r4⟩:=h
 obtain⟨c0,c1,c2,c3,fr,hpl⟩:=pile_cells hp
 have f3:=fr 3
 unfold stV at ht
 have HT:=lh ht
 have HPO:=lh hpop
 have HP:=lh hp
 have HR:=lh hR
 clear ht hp hR hpop
 have hF:P.fin=if 0<P.deep then P else if 0<P.emb then { P with emb:=P.emb-1 } else if 1<P.states.length∧P.top.iso=false then P.pop else P:=rfl
 have HF:=lh hF
 clear hF
 have same:∀w1,Below w.heap.size w w1→PileAt w1 base p R P∧Keep2 p R w w1:=fun w1 hb=>⟨H.out.keep hb,Keep2.of hb⟩
 have SM:=lh same
 clear same
 go_enter Tryz.func150,Tryz.ntmps150
 by_cases h1:0<P.deep
 ·go_wp2_with (fail)
  go_end0
  exact⟨rfl,R,by rw [HF.out,if_pos h1];exact (SM.out _ (Below.refl _ _)).1,.inl rfl,(SM.out _ (Below.refl _ _)).2⟩
 ·by_cases h2:0<P.emb
  ·go_wp2_with (fail)
   go_end0
   refine⟨rfl,R,?_,.inl rfl,(Keep2.refl p R w).set 3 _⟩
   rw [HF.out,if_neg h1,if_pos h2]
   refine⟨N,cap,?_,row_set_other HR.out r3,r1,r2,r3,r4⟩
   have:=pile_set3 (v:=.int .i64 ((P.emb-1:Nat):Int)) HP.out
   rw [show (((P.emb-1:Nat):Int))=(P.emb:Int)-1 by omega] at this
   simp only
   rw [show (((P.emb-1:Nat):Int))=(P.emb:Int)-1 by omega]
   exact this
  ·generalize P.top=s at HT HF
   obtain⟨l,o,b⟩:=s
   simp only at HF
   have hf2:=st_field2 (.int .u8 l) (.int .i8 o) (.bool b)
   by_cases h3:1<P.states.length
   ·cases b with
    | true =>
      go_wp2_with (go_at_call 145;refine HT.out.mono ?_;rintro e w1 ⟨rfl,hw1⟩)
      go_end0
      exact⟨rfl,R,by rw [HF.out,if_neg h1,if_neg h2,if_neg (by simp)];exact (SM.out _ hw1).1,.inl rfl,(SM.out _ hw1).2⟩
    | false =>
      go_wp2_with (first | (go_at_call 145;refine HT.out.mono ?_;rintro e w1 ⟨rfl,hw1⟩) | (go_at_call 180;refine (HPO.out h3 _ hw1).mono ?_;rintro e w2 ⟨rfl,hw2,hk2⟩))
      go_end0
      exact⟨rfl,R,by rw [HF.out,if_neg h1,if_neg h2,if_pos ⟨h3,by first | rfl | trivial⟩];exact hw2,.inl rfl,(Keep2.of hw1).trans hk2 (.inl rfl)⟩
   ·go_wp2_with (fail)
    go_end0
    exact⟨rfl,R,by rw [HF.out,if_neg h1,if_neg h2,if_neg (fun e=>h3 e.1)];exact (SM.out _ (Below.refl _ _)).1,.inl rfl,(SM.out _ (Below.refl _ _)).2⟩
structure PopRel (w:World) (base p R:Nat) (P0:LPile) (P:LPile) (wx:World):Prop where
 at_:PileAt wx base p R P
 keep:Keep2 p R w wx
 bot:(P.last 0).iso=false
 ne:0<P.states.length
 cnt:P.states.countP (·.iso)=P0.states.countP (·.iso)
 pop:LPile.popTo P.states.length P=LPile.popTo P0.states.length P0
 len:P.states.length≤P0.states.length
 opn:P.opn=P0.opn
set_option maxRecDepth 100000 in
set_option maxHeartbeats 400000 in
theorem close_any (w:World) (base p R:Nat) (P:LPile) (i:Nat) (h:PileAt w base p R P) (hok:P.Ok i) (hi:i≤2097152) :
 Calls Tryz.prog 149 #[.pointer (some ⟨p,0,none⟩)] w (PilePost w base p R P.close (.tuple #[])):=by
 have H:=lh h
 have hF:P.close=if 0<P.deep then { P with deep:=P.deep-1 } else if 0<P.opn then { ((LPile.popTo P.states.length { P with emb:=0 }).pop) with opn:=P.opn-1 } else P:=rfl
 have HF:=lh hF
 have HOK:=lh hok
 have hdp:=hok.deep
 have hop:=hok.opn
 obtain⟨N,cap,hp,hR,r1,r2,r3,r4⟩:=h
 obtain⟨c0,c1,c2,c3,fr,hpl⟩:=pile_cells hp
 have f1:=fr 1
 have f2:=fr 2
 have f3:=fr 3
 have HP:=lh hp
 have HR:=lh hR
 clear hp hR hF hok
 go_enter Tryz.func149,Tryz.ntmps149
 by_cases h1:0<P.deep
 ·go_wp2_with (fail)
  go_end0
  refine⟨rfl,R,?_,.inl rfl,(Keep2.refl p R w).set 2 _⟩
  rw [HF.out,if_pos h1]
  refine⟨N,cap,?_,row_set_other HR.out r3,r1,r2,r3,r4⟩
  have:=pile_set2 (v:=.int .i64 ((P.deep:Int)-1)) HP.out
  simp only
  rw [show (((P.deep-1:Nat):Int))=(P.deep:Int)-1 by omega]
  exact this
 ·by_cases h2:0<P.opn
  ·obtain⟨P1,hP1⟩:∃P1:LPile,P1={ P with emb:=0 }:=⟨_,rfl⟩
   have s1:P1.states=P.states:=by rw [hP1]
   have a1:PileAt (w.setCell ⟨p,3,none⟩ (.int .i64 0)) base p R P1:=by
    rw [hP1]
    exact⟨N,cap,pile_set3 HP.out,row_set_other HR.out r3,r1,r2,r3,r4⟩
   have rel1:PopRel w base p R P1 P1 (w.setCell ⟨p,3,none⟩ (.int .i64 0)) :=
    ⟨a1,(Keep2.refl p R w).set 3 _,by unfold LPile.last;rw [s1];exact HOK.out.bot,by rw [s1];exact HOK.out.ne,rfl,rfl,Nat.le_refl _,rfl⟩
   have hc1:0<P1.states.countP (·.iso):=by rw [s1,HOK.out.cnt];exact h2
   have hPE:P.close={ ((LPile.popTo P1.states.length P1).pop) with opn:=P.opn-1 }:=by rw [HF.out,if_neg h1,if_pos h2,hP1]
   have o1:P1.opn=P.opn:=by rw [hP1]
   have HR1:=lh rel1
   have HPE:=lh hPE
   have HO1:=lh o1
   clear rel1 hPE a1 s1 o1 hP1
   go_upto_block 1 with (fail)
   go_wp2_with (fail)
   go_loopg [24] P1.states.length (fun gg _ wx=>∃P',PopRel w base p R P1 P' wx∧P'.states.length≤gg)
   case atStart=>exact⟨P1,HR1.out,Nat.le_refl _⟩
   case round =>
    obtain⟨P',rel,hgg⟩:=hrel
    have htw:=LPile.two rel.ne rel.bot (by rw [rel.cnt];exact hc1)
    have ht:=top_any wr base p R P' rel.at_ rel.ne
    have hpop:=fun W (hb:Below wr.heap.size wr W)=>pop_any W base p R P' (rel.at_.keep hb) htw
    have hpc:=P'.pop_cnt rel.ne
    unfold stV at ht
    have HREL:=lh rel
    have HPO:=lh hpop
    obtain⟨s,hs⟩:∃s,P'.top=s:=⟨_,rfl⟩
    rw [hs] at ht hpc
    have HS:=lh hs
    obtain⟨l,o,b⟩:=s
    have hf2:=st_field2 (.int .u8 l) (.int .i8 o) (.bool b)
    clear rel hs hpop
    cases b with
    | true =>
      have eo:P'.pop.opn=P.opn:=HREL.out.opn.trans HO1.out
      go_wp2_with (first | (go_at_call 145;refine ht.mono ?_;rintro e w1 ⟨rfl,hw1⟩) | (go_at_call 180;refine (HPO.out _ hw1).mono ?_;rintro e w2 ⟨rfl,hw2,hk2⟩;have HW2:=lh hw2;obtain⟨N2,cap2,hp2,hR2,q1,q2,q3,q4⟩:=hw2;obtain⟨_,d1,_,_,dfr,_⟩:=pile_cells hp2;have g1:=dfr 1;rw [eo] at d1;have HP2:=lh hp2;have HR2:=lh hR2;clear hp2 hR2))
      go_end0
      have hpp:LPile.popTo P1.states.length P1=P':=by
       rw [←HREL.out.pop]
       obtain⟨m,hm⟩:∃m,P'.states.length=m+1:=⟨P'.states.length-1,by have:=HREL.out.ne;omega⟩
       rw [hm,LPile.popTo,if_pos (by rw [HS.out])]
      refine⟨rfl,R,?_,.inl rfl,((HREL.out.keep.trans (Keep2.of hw1) (.inl rfl)).trans hk2 (.inl rfl)).set 1 _⟩
      rw [HPE.out,hpp]
      refine⟨N2,cap2,?_,row_set_other HR2.out q3,q1,q2,q3,q4⟩
      have:=pile_set1 (v:=.int .i64 ((P.opn:Int)-1)) HP2.out
      simp only
      rw [show (((P.opn-1:Nat):Int))=(P.opn:Int)-1 by omega]
      exact this
    | false =>
      go_wp2_with (first | (go_at_call 145;refine ht.mono ?_;rintro e w1 ⟨rfl,hw1⟩) | (go_at_call 180;refine (HPO.out _ hw1).mono ?_;rintro e w2 ⟨rfl,hw2,hk2⟩))
      go_roundg (P'.states.length-1)
      case measure=>have:=HREL.out.ne;omega
      case rel =>
       have r:=HREL.out
       have hl:=P'.pop_len
       refine⟨P'.pop,⟨hw2,(r.keep.trans (Keep2.of hw1) (.inl rfl)).trans hk2 (.inl rfl),by rw [P'.pop_last 0 (by omega)];exact r.bot,by omega,?_,?_,by have:=r.len;omega,r.opn⟩,by omega⟩
       ·rw [←r.cnt]
        simpa using hpc.symm
       ·rw [←r.pop]
        obtain⟨m,hm⟩:∃m,P'.states.length=m+1:=⟨P'.states.length-1,by have:=r.ne;omega⟩
        rw [hl,hm,Nat.add_sub_cancel]
        conv=>rhs;rw [LPile.popTo,if_neg (by rw [HS.out];simp)]
  ·go_wp2_with (fail)
   go_end0
   exact⟨rfl,R,by rw [HF.out,if_neg h1,if_neg h2];exact H.out,.inl rfl,Keep2.refl p R w⟩
end
end Go.Proofs.YtlbclfmbejjneaaGreatDoor
