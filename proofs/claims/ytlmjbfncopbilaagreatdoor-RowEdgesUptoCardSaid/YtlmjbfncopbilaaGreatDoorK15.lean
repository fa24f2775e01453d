/- Part 15 (merged by a program): lemmas of no further condition than each states. -/
import Derived.Test.YtlmjbfncopbilaaGreatDoorK14
namespace Go.Proofs.YtlmjbfncopbilaaGreatDoor
set_option linter.unusedVariables false
set_option linter.unusedSimpArgs false
section
open Go.RowKit
theorem st_field0 (x y z:Value) (w:World):Sem.run Tryz.prog (Instr.field 255 (.agg #[x,y,z]) 0) w=.ok x w:=by kernel_rfl
theorem st_field1 (x y z:Value) (w:World):Sem.run Tryz.prog (Instr.field 255 (.agg #[x,y,z]) 1) w=.ok y w:=by kernel_rfl
theorem st_field2 (x y z:Value) (w:World):Sem.run Tryz.prog (Instr.field 255 (.agg #[x,y,z]) 2) w=.ok z w:=by kernel_rfl
def stV (s:LSt):Value:=.agg #[.int .u8 s.level,.int .i8 s.over,.bool s.iso]
set_option maxHeartbeats 400000 in
theorem top_any (w:World) (base p R:Nat) (P:LPile) (h:PileAt w base p R P) (hne:0<P.states.length) :
 Calls Tryz.prog 183 #[.pointer (some ⟨p,0,none⟩)] w fun e w'=>e=.returned (stV P.top)∧Below w.heap.size w w':=by
 obtain⟨N,cap,hp,hR,hb1,hb2,hne',hlc,hcm,hcN⟩:=h
 obtain⟨L,hL⟩:∃L,P.states.length=L+1:=⟨P.states.length-1,by omega⟩
 obtain⟨t0,t1,t2⟩:=pile_top hR hL
 have hRl:=hR.lt
 obtain⟨n,hn⟩:∃n,P.states.length=n:=⟨_,rfl⟩
 rw [hn] at hp hlc
 obtain⟨c0,_,_,_,_,hpl⟩:=pile_cells hp
 unfold maxLen at hcm
 have gL0:(0:Int)≤(L:Int):=by omega
 have gL1:(L:Int)<(n:Int):=by omega
 have hLc:(n:Int)≤(cap:Int):=by omega
 have hwr:IntKind.i64.wrap ((n:Int)-1)=(L:Int):=by rw [IntKind.wrap_i64];omega
 unfold stV
 generalize P.top=s at t0 t1 t2 ⊢
 clear hR hp hL hne hcN hn
 go_enter Tryz.func183,Tryz.ntmps183
 go_upto_region 1 with (fail)
 go_region_held3 (fun w'=>w'.cell? ⟨p,0,none⟩=some (.slice (some ⟨R,0,none⟩) n cap)∧w'.cell? ⟨R,L*3,none⟩=some (.int .u8 s.level)∧w'.cell? ⟨R,L*3+1,none⟩=some (.int .i8 s.over)∧w'.cell? ⟨R,L*3+2,none⟩=some (.bool s.iso)) (go_keep) (fail)
 go_wp2_with (fail)
 refine bodyPost_ret (results_cell_row rfl _ _ w.heap.size _ _ _ _ rfl (heap_alloc_new w _) Tryz.underlying255 rfl (by kernel_rfl)) rfl ⟨rfl,?_⟩
 exact ((Below.refl w.heap.size w).alloc (Nat.le_refl _) _).drew
set_option maxRecDepth 100000 in
set_option maxHeartbeats 400000 in
theorem said_any (w:World) (base p R:Nat) (P:LPile) (d:Int) (h:PileAt w base p R P) (hne:0<P.states.length) :
 Calls Tryz.prog 184 #[.pointer (some ⟨p,0,none⟩),.int .i8 d] w fun e w'=>e=.returned (.int .i8 (P.said d))∧Below w.heap.size w w':=by
 have ht:=top_any w base p R P h hne
 have hs:P.said d=if P.top.over ≠ -1 then P.top.over else d:=rfl
 unfold stV at ht
 generalize P.top=s at ht hs
 obtain⟨l,o,b⟩:=s
 simp only at ht hs
 have HS:=lh hs
 have HT:=lh ht
 have hf1:=st_field1 (.int .u8 l) (.int .i8 o) (.bool b)
 clear hs h hne ht
 go_enter Tryz.func184,Tryz.ntmps184
 go_upto_region 1 with (fail)
 go_upto_region 2 with (go_at_call 183;refine HT.out.mono ?_;rintro e w1 ⟨rfl,hw1⟩)
 by_cases ho:o = -1
 ·subst ho
  go_wp2_with (fail)
  go_ret
  exact⟨ret_i (by rw [HS.out];rfl),hw1⟩
 ·have hb:(o != -1)=true:=by simpa using ho
  go_wp2_with (fail)
  go_ret
  exact⟨ret_i (by rw [HS.out,if_pos ho]),hw1⟩
set_option maxHeartbeats 400000 in
theorem pop_any (w:World) (base p R:Nat) (P:LPile) (h:PileAt w base p R P) (h1:1<P.states.length) :
 Calls Tryz.prog 210 #[.pointer (some ⟨p,0,none⟩)] w fun e w'=>e=.returned (.tuple #[])∧PileAt w' base p R P.pop∧Keep2 p R w w':=by
 obtain⟨N,cap,hp,hR,hb1,hb2,hne',hlc,hcm,hcN⟩:=h
 obtain⟨L,hL⟩:∃L,P.states.length=L+1:=⟨P.states.length-1,by omega⟩
 have hRl:=hR.lt
 have hend:∀q,PileAt ((w.setCell ⟨p,0,none⟩ (.slice (some ⟨R,0,none⟩) L L)).drewN q) base p R P.pop∧Keep2 p R w ((w.setCell ⟨p,0,none⟩ (.slice (some ⟨R,0,none⟩) L L)).drewN q):=fun q=>by
  refine⟨⟨N,L,?_,?_,hb1,hb2,hne',?_,by unfold maxLen at *;omega,by omega⟩,((Keep2.refl p R w).set 0 _).drewN q⟩
  ·have:=pile_set0 (v:=.slice (some ⟨R,0,none⟩) L L) hp
   rw [P.pop_len,hL,Nat.add_sub_cancel]
   exact this
  ·have:=(row_set_other (i:=0) (v:=.slice (some ⟨R,0,none⟩) L L) hR hne').take (L*3)
   rw [←flat_take P.states scell 3 (fun _=>rfl)] at this
   unfold LPile.pop
   rw [hL,Nat.add_sub_cancel]
   exact this
  ·rw [P.pop_len];omega
 have HE:=lh hend
 obtain⟨n,hn⟩:∃n,P.states.length=n:=⟨_,rfl⟩
 rw [hn] at hp hlc
 obtain⟨c0,_,_,_,fr,hpl⟩:=pile_cells hp
 have f0:=fr 0
 unfold maxLen at hcm
 have gL0:(0:Int)≤(L:Int):=by omega
 have gL1:(L:Int)<(n:Int):=by omega
 have gL2:(L:Int)≤(cap:Int):=by omega
 have hLc:(n:Int)≤(cap:Int):=by omega
 have hwr:IntKind.i64.wrap ((n:Int)-1)=(L:Int):=by rw [IntKind.wrap_i64];omega
 clear hR hp hL h1 hcN hn hend
 go_enter Tryz.func210,Tryz.ntmps210
 go_wp2_with (fail)
 go_region
 all_goals go_end0
 all_goals exact⟨rfl,HE.out _⟩
end
section
open Go.RowKit
theorem Tryz.info_state:(Tryz.prog.info? 255).map (fun i=>(i.zero,i.size,i.bytes))=some (some (.agg #[.int .u8 0,.int .i8 0,.bool false]),3,3):=by kernel_rfl
theorem bits_even (l:Nat) (h:l≤125):bits .andNot .u8 ((l:Int)+2) 1=(((l+2) / 2*2:Nat):Int):=by
 have:∀k:Fin 126,bits .andNot .u8 (((k:Nat):Int)+2) 1=((((k:Nat)+2) / 2*2:Nat):Int):=by decide
 exact this ⟨l,by omega⟩
theorem bits_odd (l:Nat) (h:l≤125):bits .or .u8 ((l:Int)+1) 1=(((l+1) / 2*2+1:Nat):Int):=by
 have:∀k:Fin 126,bits .or .u8 (((k:Nat):Int)+1) 1=((((k:Nat)+1) / 2*2+1:Nat):Int):=by decide
 exact this ⟨l,by omega⟩
def PilePost (w:World) (base p R:Nat) (P:LPile) (v:Value) (e:Ending) (w':World):Prop :=
 e=.returned v∧∃R',PileAt w' base p R' P∧(R'=R∨w.heap.size≤R')∧Keep2 p R w w'
set_option maxRecDepth 100000 in
set_option maxHeartbeats 400000 in
theorem lay_any (w:World) (base p R:Nat) (P:LPile) (odd:Bool) (over:Int) (iso:Bool) (h:PileAt w base p R P) (hne:0<P.states.length) (hlv:P.top.level≤125) (hlen:P.states.length≤2097153) :
 Calls Tryz.prog 186 #[.pointer (some ⟨p,0,none⟩),.bool odd,.int .i8 over,.bool iso] w (PilePost w base p R (P.lay odd over iso) (.bool (P.room odd))):=by
 obtain⟨i3,hi3,hz3,ha3,hb3⟩:=info_parts (Tryz.info_state)
 have ht:=fun W (hb:Below w.heap.size w W)=>top_any W base p R P (h.keep hb) hne
 obtain⟨n,hn⟩:∃n,P.next odd=n:=⟨_,rfl⟩
 have hnx:n=if odd=true then (P.top.level+1) / 2*2+1 else (P.top.level+2) / 2*2:=by rw [←hn];rfl
 unfold stV at ht
 have HP:=lh h
 have HT:=lh ht
 have HNX:=lh hnx
 have HN:=lh hn
 clear ht h hnx hn
 generalize P.top=s at HT HNX hlv
 obtain⟨l,o,b⟩:=s
 simp only at hlv HNX
 have hf1:=st_field0 (.int .u8 l) (.int .i8 o) (.bool b)
 go_enter Tryz.func186,Tryz.ntmps186
 go_upto_region 2 with (go_at_call 183;refine (HT.out w (Below.refl _ _)).mono ?_;rintro e w1 ⟨rfl,hw1⟩)
 go_upto_if 15 with (fail)
 go_cut [9] (fun t wx=>t=.int .u8 n∧Below w.heap.size w wx)
 case first =>
  have e1:=bits_even l hlv
  have e2:=bits_odd l hlv
  cases odd with
  | true =>
    go_upto_region 3 with (fail)
    go_wp2_with (go_at_call 183;refine (HT.out w1 hw1).mono ?_;rintro e w2 ⟨rfl,hw2⟩)
    go_meet
    have hnn:(n:Int)=((l:Int)+1) / 2*2+1:=by rw [HNX.out,if_pos trivial];omega
    exact⟨by rw [hnn],hw1.trans (hw2.mono hw1.size)⟩
  | false =>
    go_wp2_with (fail)
    go_meet
    have hnn:(n:Int)=((l:Int)+2) / 2*2:=by rw [HNX.out,if_neg (by simp)];omega
    exact⟨congrArg (Value.int .u8) (by rw [e1];omega),hw1⟩
 case rest =>
  obtain⟨rfl,hbx⟩:=hcut
  obtain⟨N,cap,hp,hR,hb1,hb2,hne',hlc,hcm,hcN⟩:=HP.out.keep hbx
  have HK:Hid (PileAt wc base p R P):=HP.out.keep hbx
  obtain⟨c0,c1,c2,c3,fr,hpl⟩:=pile_cells hp
  have f0:=fr 0
  have hroom:P.room odd=(decide (n≤125)&&decide (P.deep=0)&&decide (P.emb=0)):=by unfold LPile.room;rw [HN.out]
  have hlay:P.lay odd over iso=if P.room odd=true then { P with states:=P.states++[⟨n,over,iso⟩] } else P:=by unfold LPile.lay;rw [HN.out]
  have HROOM:=lh hroom
  have HLAY:=lh hlay
  clear hroom hlay
  by_cases hr:n≤125∧P.deep=0∧P.emb=0
  ·obtain⟨hr1,hr2,hr3⟩:=hr
   have hrt:P.room odd=true:=by rw [HROOM.out];simp [hr1,hr2,hr3]
   rw [hr2] at c2
   rw [hr3] at c3
   have hr1':¬ (125:Int)<(n:Int):=by omega
   have HRT:=lh hrt
   have HPC:=lh hp
   have HRR:=lh hR
   clear hrt hr2 hr3 hp hR
   go_upto_region 6 with (fail)
   go_wp2_with (at_builtin;refine wpList_append_head _ rfl _ _ 257 rfl 255 i3 _ 3 3 Tryz.underlying257 hi3 hz3 ha3 hb3 rfl (by decide) R N P.states.length cap (P.states.flatMap scell) rfl (HRR.out.kept (Below.heap_alloc _ _ _ HRR.out.lt)) (flat_len _ scell 3 (fun _=>rfl)) hcN hcm ⟨wc.heap.size,0,none⟩ 1 1 (scell ⟨n,over,iso⟩) rfl rfl (World.news_of_block (cs:=(scell ⟨n,over,iso⟩).toArray) (t:=255) (fr:=(0,0)) (heap_alloc_new _ _)) (by simp [scell,Value.oneCell']) (by omega) (by unfold maxLen;omega) (by omega) ?_;intro w3 R' N' cap' h1 h2 h3 h4 h5 h6;have hp3:=(h6.block p (by rw [World.size_alloc];omega) (by simp;omega)).trans ((Below.heap_alloc _ _ _ hpl).trans HPC.out);obtain⟨x0,_,_,_,xf,_⟩:=pile_cells hp3;have xf0:=xf 0;have H3:=lh hp3;have H1:=lh h1;have H6:=lh h6;clear hp3 h1 h6)
   go_ret
   have hR':base≤R'∧R'≠p:=by
    rw [World.size_alloc] at h5
    rcases h5 with e | e
    ·rw [e];exact⟨hb2,hne'⟩
    ·omega
   have hfl:({ P with states:=P.states++[⟨n,over,iso⟩] }:LPile).states.flatMap scell=P.states.flatMap scell++scell ⟨n,over,iso⟩:=by
    show (P.states++[(⟨n,over,iso⟩:LSt)]).flatMap scell=_
    rw [List.flatMap_append,List.flatMap_singleton]
   refine⟨by rw [HRT.out];rfl,R',?_,?_,?_⟩
   ·rw [HLAY.out,if_pos HRT.out]
    refine⟨N',cap',?_,?_,hb1,hR'.1,hR'.2,?_,h3,h4⟩
    ·have:=pile_set0 (v:=.slice (some ⟨R',0,none⟩) (P.states.length+1) cap') H3.out
     simpa using this
    ·rw [hfl]
     exact row_set_other H1.out hR'.2
    ·show (P.states++[(⟨n,over,iso⟩:LSt)]).length≤cap'
     rw [List.length_append,List.length_singleton];exact h2
   ·rw [World.size_alloc] at h5
    have:=hbx.size
    rcases h5 with e | e
    ·exact .inl e
    ·right;omega
   ·exact (((Keep2.of hbx).alloc _).grown H6.out (fun k hk=>.inr (.inl (by cases hk;rfl)))).set 0 _
  ·have hrf:P.room odd=false:=by
    rw [HROOM.out]
    by_cases h1:n≤125
    ·by_cases h2:P.deep=0
     ·have h3:¬ P.emb=0:=fun h3=>hr ⟨h1,h2,h3⟩
      simp [h3]
     ·simp [h2]
    ·simp [h1]
   have hend:∀q,PilePost w base p R (P.lay odd over iso) (.bool (P.room odd)) (.returned (.bool false)) (wc.drewN q):=fun q =>
    ⟨by rw [hrf],R,by rw [HLAY.out,if_neg (by rw [hrf];decide)];exact HK.out.keep (bl_drewN (Below.refl _ _) q),.inl rfl,Keep2.of (bl_drewN hbx q)⟩
   have HE:=lh hend
   clear hend hrf hp hR
   by_cases h1:n≤125
   ·have h1':¬ (125:Int)<(n:Int):=by omega
    by_cases h2:P.deep=0
    ·have h3:0<P.emb:=by omega
     rw [h2] at c2
     clear hr
     go_wp2_with (fail)
     go_ret
     exact HE.out 0
    ·have h2':0<P.deep:=by omega
     clear hr
     go_wp2_with (fail)
     go_ret
     exact HE.out 0
   ·have h1':(125:Int)<(n:Int):=by omega
    clear hr
    go_wp2_with (fail)
    go_ret
    exact HE.out 0
end
section
open Go.RowKit
set_option maxRecDepth 100000 in
set_option maxHeartbeats 400000 in
theorem embed_any (w:World) (base p R:Nat) (P:LPile) (d:Int) (h:PileAt w base p R P) (hne:0<P.states.length) (hlv:P.top.level≤125) (hlen:P.states.length≤2097153) (hemb:P.emb≤2097152)
 (hd:d=14∨d=15∨d=16∨d=17) :
 Calls Tryz.prog 185 #[.pointer (some ⟨p,0,none⟩),.int .i8 d] w (PilePost w base p R (P.embed d) (.tuple #[])):=by
 obtain⟨odd,hodd⟩:∃odd,odd=(decide (d=15)||decide (d=17)):=⟨_,rfl⟩
 obtain⟨ov,hov⟩:∃ov:Int,ov=if d=16 then 0 else if d=17 then 1 else -1:=⟨_,rfl⟩
 have hE:P.embed d=if P.room odd=true then P.lay odd ov false else if P.deep=0 then { P with emb:=P.emb+1 } else P:=by rw [hodd,hov];rfl
 have hl:=lay_any w base p R P odd ov false h hne hlv hlen
 have hnl:P.room odd≠true→P.lay odd ov false=P:=fun hr=>by unfold LPile.lay;rw [if_neg hr]
 have HE:=lh hE
 have HNL:=lh hnl
 clear hE hnl h hne hlv hlen
 obtain⟨rm,hrm⟩:∃rm,P.room odd=rm:=⟨_,rfl⟩
 rw [hrm] at HE HNL hl
 have key:∀w1,(∃R',PileAt w1 base p R' (P.lay odd ov false)∧(R'=R∨w.heap.size≤R')∧Keep2 p R w w1)→rm=true→PilePost w base p R (P.embed d) (.tuple #[]) (.returned (.tuple #[])) w1:=fun w1 ⟨R',k1,k2,k3⟩ hr =>
  ⟨rfl,R',by rw [HE.out,if_pos hr];exact k1,k2,k3⟩
 have key0:∀w1,(∃R',PileAt w1 base p R' (P.lay odd ov false)∧(R'=R∨w.heap.size≤R')∧Keep2 p R w w1)→rm=false→¬ P.deep=0→PilePost w base p R (P.embed d) (.tuple #[]) (.returned (.tuple #[])) w1:=fun w1 ⟨R',k1,k2,k3⟩ hr h0=>by
  have e1:=HNL.out (by rw [hr];decide)
  rw [e1] at k1
  exact⟨rfl,R',by rw [HE.out,if_neg (by rw [hr];decide),if_neg h0];exact k1,k2,k3⟩
 have key1:∀w1,(∃R',PileAt w1 base p R' (P.lay odd ov false)∧(R'=R∨w.heap.size≤R')∧Keep2 p R w w1)→rm=false→P.deep=0→PilePost w base p R (P.embed d) (.tuple #[]) (.returned (.tuple #[])) (w1.setCell ⟨p,3,none⟩ (.int .i64 ((P.emb:Int)+1))):=fun w1 ⟨R',k1,k2,k3⟩ hr h0=>by
  have e1:=HNL.out (by rw [hr];decide)
  rw [e1] at k1
  obtain⟨N,cap,hp,hR,r1,r2,r3,r4⟩:=k1
  exact⟨rfl,R',by rw [HE.out,if_neg (by rw [hr];decide),if_pos h0];exact⟨N,cap,by simpa using pile_set3 (v:=.int .i64 ((P.emb:Int)+1)) hp,row_set_other hR r3,r1,r2,r3,r4⟩,k2,k3.set 3 _⟩
 have hcells:∀w1,(∃R',PileAt w1 base p R' (P.lay odd ov false)∧(R'=R∨w.heap.size≤R')∧Keep2 p R w w1)→rm=false→w1.cell? ⟨p,2,none⟩=some (.int .i64 P.deep)∧w1.cell? ⟨p,3,none⟩=some (.int .i64 P.emb)∧w1.frozen? ⟨p,3,none⟩=false:=fun w1 ⟨R',k1,k2,k3⟩ hr=>by
  rw [HNL.out (by rw [hr];decide)] at k1
  obtain⟨N,cap,hp,_⟩:=k1
  obtain⟨_,_,c2,c3,fr,_⟩:=pile_cells hp
  exact⟨c2,c3,fr 3⟩
 have K:=lh key
 have K0:=lh key0
 have K1:=lh key1
 have HC:=lh hcells
 have HL:=lh hl
 clear key key0 key1 hcells hl hrm
 rcases hd with rfl | rfl | rfl | rfl
 all_goals
  simp only [decide_true,Bool.or_true,Bool.true_or,Int.reduceEq,decide_false,Bool.or_false,if_true,if_false] at hodd hov
  subst hodd hov
  go_enter Tryz.func185,Tryz.ntmps185
  go_upto_region 6 with (fail)
  by_cases hr:rm=true
  ·subst hr
   go_wp2_with (go_at_call 186;refine HL.out.mono ?_;rintro e w1 ⟨rfl,hw1⟩)
   go_end0
   exact K.out w1 hw1 (by first | rfl | trivial)
  ·have hr':rm=false:=by simpa using hr
   subst hr'
   clear hr
   by_cases h0:P.deep=0
   ·go_wp2_with (go_at_call 186;refine HL.out.mono ?_;rintro e w1 ⟨rfl,hw1⟩;obtain⟨c2,c3,f3⟩:=HC.out w1 hw1 rfl;rw [h0] at c2;have HW:=lh hw1;clear hw1)
    go_end0
    exact K1.out w1 HW.out (by first | rfl | trivial) h0
   ·have h0':0<P.deep:=by omega
    have h0b:((P.deep:Int)==0)=false:=by simpa using h0
    go_wp2_with (go_at_call 186;refine HL.out.mono ?_;rintro e w1 ⟨rfl,hw1⟩;obtain⟨c2,c3,f3⟩:=HC.out w1 hw1 rfl;have HW:=lh hw1;clear hw1)
    go_end0
    exact K0.out w1 HW.out (by first | rfl | trivial) h0
set_option maxRecDepth 100000 in
set_option maxHeartbeats 400000 in
theorem fin_any (w:World) (base p R:Nat) (P:LPile) (h:PileAt w base p R P) (hne:0<P.states.length) (hlen:P.states.length≤2097153) (hemb:P.emb≤2097152) :
 Calls Tryz.prog 188 #[.pointer (some ⟨p,0,none⟩)] w (PilePost w base p R P.fin (.tuple #[])):=by
 have H:=lh h
 have ht:=top_any w base p R P h hne
 have hpop:=fun (h1:1<P.states.length) W (hb:Below w.heap.size w W)=>pop_any W base p R P (h.keep hb) h1
 obtain⟨N,cap,hp,hR,r1,r2,r3,r4⟩:=h
 obtain⟨c0,c1,c2,c3,fr,hpl⟩:=pile_cells hp
 have f3:=fr 3
 unfold stV at ht
 have HT:=lh ht
 have HPO:=lh hpop
 have HP:=lh hp
 have HR:=lh hR
 clear ht hp hR hpop
 have hF:P.fin=if 0<P.deep then P else if 0<P.emb then { P with emb:=P.emb-1 } else if 1<P.states.length∧P.top.iso=false then P.pop else P:=rfl
 have HF:=lh hF
 clear hF
 have same:∀w1,Below w.heap.size w w1→PileAt w1 base p R P∧Keep2 p R w w1:=fun w1 hb=>⟨H.out.keep hb,Keep2.of hb⟩
 have SM:=lh same
 clear same
 go_enter Tryz.func188,Tryz.ntmps188
 by_cases h1:0<P.deep
 ·go_wp2_with (fail)
  go_end0
  exact⟨rfl,R,by rw [HF.out,if_pos h1];exact (SM.out _ (Below.refl _ _)).1,.inl rfl,(SM.out _ (Below.refl _ _)).2⟩
 ·by_cases h2:0<P.emb
  ·go_wp2_with (fail)
   go_end0
   refine⟨rfl,R,?_,.inl rfl,(Keep2.refl p R w).set 3 _⟩
   rw [HF.out,if_neg h1,if_pos h2]
   refine⟨N,cap,?_,row_set_other HR.out r3,r1,r2,r3,r4⟩
   have:=pile_set3 (v:=.int .i64 ((P.emb-1:Nat):Int)) HP.out
   rw [show (((P.emb-1:Nat):Int))=(P.emb:Int)-1 by omega] at this
   simp only
   rw [show (((P.emb-1:Nat):Int))=(P.emb:Int)-1 by omega]
   exact this
  ·generalize P.top=s at HT HF
   obtain⟨l,o,b⟩:=s
   simp only at HF
   have hf2:=st_field2 (.int .u8 l) (.int .i8 o) (.bool b)
   by_cases h3:1<P.states.length
   ·cases b with
    | true =>
      go_wp2_with (go_at_call 183;refine HT.out.mono ?_;rintro e w1 ⟨rfl,hw1⟩)
      go_end0
      exact⟨rfl,R,by rw [HF.out,if_neg h1,if_neg h2,if_neg (by simp)];exact (SM.out _ hw1).1,.inl rfl,(SM.out _ hw1).2⟩
    | false =>
      go_wp2_with (first | (go_at_call 183;refine HT.out.mono ?_;rintro e w1 ⟨rfl,hw1⟩) | (go_at_call 210;refine (HPO.out h3 _ hw1).mono ?_;rintro e w2 ⟨rfl,hw2,hk2⟩))
      go_end0
      exact⟨rfl,R,by rw [HF.out,if_neg h1,if_neg h2,if_pos ⟨h3,by first | rfl | trivial⟩];exact hw2,.inl rfl,(Keep2.of hw1).trans hk2 (.inl rfl)⟩
   ·go_wp2_with (fail)
    go_end0
    exact⟨rfl,R,by rw [HF.out,if_neg h1,if_neg h2,if_neg (fun e=>h3 e.1)];exact (SM.out _ (Below.refl _ _)).1,.inl rfl,(SM.out _ (Below.refl _ _)).2⟩
structure PopRel (w:World) (base p R:Nat) (P0:LPile) (P:LPile) (wx:World):Prop where
 at_:PileAt wx base p R P
 keep:Keep2 p R w wx
 bot:(P.last 0).iso=false
 ne:0<P.states.length
 cnt:P.states.countP (·.iso)=P0.states.countP (·.iso)
 pop:LPile.popTo P.states.length P=LPile.popTo P0.states.length P0
 len:P.states.length≤P0.states.length
 opn:P.opn=P0.opn
set_option maxRecDepth 100000 in
set_option maxHeartbeats 400000 in
theorem close_any (w:World) (base p R:Nat) (P:LPile) (i:Nat) (h:PileAt w base p R P) (hok:P.Ok i) (hi:i≤2097152) :
 Calls Tryz.prog 187 #[.pointer (some ⟨p,0,none⟩)] w (PilePost w base p R P.close (.tuple #[])):=by
 have H:=lh h
 have hF:P.close=if 0<P.deep then { P with deep:=P.deep-1 } else if 0<P.opn then { ((LPile.popTo P.states.length { P with emb:=0 }).pop) with opn:=P.opn-1 } else P:=rfl
 have HF:=lh hF
 have HOK:=lh hok
 have hdp:=hok.deep
 have hop:=hok.opn
 obtain⟨N,cap,hp,hR,r1,r2,r3,r4⟩:=h
 obtain⟨c0,c1,c2,c3,fr,hpl⟩:=pile_cells hp
 have f1:=fr 1
 have f2:=fr 2
 have f3:=fr 3
 have HP:=lh hp
 have HR:=lh hR
 clear hp hR hF hok
 go_enter Tryz.func187,Tryz.ntmps187
 by_cases h1:0<P.deep
 ·go_wp2_with (fail)
  go_end0
  refine⟨rfl,R,?_,.inl rfl,(Keep2.refl p R w).set 2 _⟩
  rw [HF.out,if_pos h1]
  refine⟨N,cap,?_,row_set_other HR.out r3,r1,r2,r3,r4⟩
  have:=pile_set2 (v:=.int .i64 ((P.deep:Int)-1)) HP.out
  simp only
  rw [show (((P.deep-1:Nat):Int))=(P.deep:Int)-1 by omega]
  exact this
 ·by_cases h2:0<P.opn
  ·obtain⟨P1,hP1⟩:∃P1:LPile,P1={ P with emb:=0 }:=⟨_,rfl⟩
   have s1:P1.states=P.states:=by rw [hP1]
   have a1:PileAt (w.setCell ⟨p,3,none⟩ (.int .i64 0)) base p R P1:=by
    rw [hP1]
    exact⟨N,cap,pile_set3 HP.out,row_set_other HR.out r3,r1,r2,r3,r4⟩
   have rel1:PopRel w base p R P1 P1 (w.setCell ⟨p,3,none⟩ (.int .i64 0)) :=
    ⟨a1,(Keep2.refl p R w).set 3 _,by unfold LPile.last;rw [s1];exact HOK.out.bot,by rw [s1];exact HOK.out.ne,rfl,rfl,Nat.le_refl _,rfl⟩
   have hc1:0<P1.states.countP (·.iso):=by rw [s1,HOK.out.cnt];exact h2
   have hPE:P.close={ ((LPile.popTo P1.states.length P1).pop) with opn:=P.opn-1 }:=by rw [HF.out,if_neg h1,if_pos h2,hP1]
   have o1:P1.opn=P.opn:=by rw [hP1]
   have HR1:=lh rel1
   have HPE:=lh hPE
   have HO1:=lh o1
   clear rel1 hPE a1 s1 o1 hP1
   go_upto_block 1 with (fail)
   go_wp2_with (fail)
   go_loopg [24] P1.states.length (fun gg _ wx=>∃P',PopRel w base p R P1 P' wx∧P'.states.length≤gg)
   case atStart=>exact⟨P1,HR1.out,Nat.le_refl _⟩
   case round =>
    obtain⟨P',rel,hgg⟩:=hrel
    have htw:=LPile.two rel.ne rel.bot (by rw [rel.cnt];exact hc1)
    have ht:=top_any wr base p R P' rel.at_ rel.ne
    have hpop:=fun W (hb:Below wr.heap.size wr W)=>pop_any W base p R P' (rel.at_.keep hb) htw
    have hpc:=P'.pop_cnt rel.ne
    unfold stV at ht
    have HREL:=lh rel
    have HPO:=lh hpop
    obtain⟨s,hs⟩:∃s,P'.top=s:=⟨_,rfl⟩
    rw [hs] at ht hpc
    have HS:=lh hs
    obtain⟨l,o,b⟩:=s
    have hf2:=st_field2 (.int .u8 l) (.int .i8 o) (.bool b)
    clear rel hs hpop
    cases b with
    | true =>
      have eo:P'.pop.opn=P.opn:=HREL.out.opn.trans HO1.out
      go_wp2_with (first | (go_at_call 183;refine ht.mono ?_;rintro e w1 ⟨rfl,hw1⟩) | (go_at_call 210;refine (HPO.out _ hw1).mono ?_;rintro e w2 ⟨rfl,hw2,hk2⟩;have HW2:=lh hw2;obtain⟨N2,cap2,hp2,hR2,q1,q2,q3,q4⟩:=hw2;obtain⟨_,d1,_,_,dfr,_⟩:=pile_cells hp2;have g1:=dfr 1;rw [eo] at d1;have HP2:=lh hp2;have HR2:=lh hR2;clear hp2 hR2))
      go_end0
      have hpp:LPile.popTo P1.states.length P1=P':=by
       rw [←HREL.out.pop]
       obtain⟨m,hm⟩:∃m,P'.states.length=m+1:=⟨P'.states.length-1,by have:=HREL.out.ne;omega⟩
       rw [hm,LPile.popTo,if_pos (by rw [HS.out])]
      refine⟨rfl,R,?_,.inl rfl,((HREL.out.keep.trans (Keep2.of hw1) (.inl rfl)).trans hk2 (.inl rfl)).set 1 _⟩
      rw [HPE.out,hpp]
      refine⟨N2,cap2,?_,row_set_other HR2.out q3,q1,q2,q3,q4⟩
      have:=pile_set1 (v:=.int .i64 ((P.opn:Int)-1)) HP2.out
      simp only
      rw [show (((P.opn-1:Nat):Int))=(P.opn:Int)-1 by omega]
      exact this
    | false =>
      go_wp2_with (first | (go_at_call 183;refine ht.mono ?_;rintro e w1 ⟨rfl,hw1⟩) | (go_at_call 210;refine (HPO.out _ hw1).mono ?_;rintro e w2 ⟨rfl,hw2,hk2⟩))
      go_roundg (P'.states.length-1)
      case measure=>have:=HREL.out.ne;omega
      case rel =>
       have r:=HREL.out
       have hl:=P'.pop_len
       refine⟨P'.pop,⟨hw2,(r.keep.trans (Keep2.of hw1) (.inl rfl)).trans hk2 (.inl rfl),by rw [P'.pop_last 0 (by omega)];exact r.bot,by omega,?_,?_,by have:=r.len;omega,r.opn⟩,by omega⟩
       ·rw [←r.cnt]
        simpa using hpc.symm
       ·rw [←r.pop]
        obtain⟨m,hm⟩:∃m,P'.states.length=m+1:=⟨P'.states.length-1,by have:=r.ne;omega⟩
        rw [hl,hm,Nat.add_sub_cancel]
        conv=>rhs;rw [LPile.popTo,if_neg (by rw [HS.out];simp)]
  ·go_wp2_with (fail)
   go_end0
   exact⟨rfl,R,by rw [HF.out,if_neg h1,if_neg h2];exact H.out,.inl rfl,Keep2.refl p R w⟩
end
end Go.Proofs.YtlmjbfncopbilaaGreatDoor
