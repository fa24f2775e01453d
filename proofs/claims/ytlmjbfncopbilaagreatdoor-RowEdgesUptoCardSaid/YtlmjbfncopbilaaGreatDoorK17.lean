/- Part 17 (merged by a program): lemmas of no further condition than each states. -/
import Derived.Test.YtlmjbfncopbilaaGreatDoorK16
namespace Go.Proofs.YtlmjbfncopbilaaGreatDoor
set_option linter.unusedVariables false
set_option linter.unusedSimpArgs false
section
open Go.RowKit Go.Maps
theorem Tryz.info_ints:(Tryz.prog.info? 93).map (fun i=>(i.zero,i.size,i.bytes))=some (some (.slice none 0 0),1,24):=by kernel_rfl
theorem zero_int (w:World):(zeroValue 3).run Tryz.prog w=.ok (.int .i64 0) w:=by kernel_rfl
theorem key_law:Keyed Tryz.prog 3:=int_keyed Tryz.underlying3
theorem NestAt.base {w:World} {b b' ts ti:Nat} {v:Value} {out:List (List Nat)} (h:NestAt w b ts ti v out) (hb:b'≤b):NestAt w b' ts ti v out:=by
 obtain⟨ss,h1,h2,h3⟩:=h
 exact⟨ss,ownsRow_base h1 hb,fun k hk=>ownsRow_base (h2 k hk) hb,h3⟩
def RunsPost (R:List (List Nat)) (w:World) (e:Ending) (w':World):Prop :=
 ∃v,e=.returned v∧NestAt w' w.heap.size 93 3 v R∧Below w.heap.size w w'
structure RunW (w:World) (M n:Nat) (ps:List Int) (v:Value) (out:List (List Nat)) (D:DataW Unit) (cnt:Nat) (wx:World):Prop where
 nest:NestAt wx (M+1) 93 3 v out
 map:wx.ownsMap Tryz.prog 3 (plainElem Tryz.prog 3) M cnt D
 prs:OutAt .i64 3 wx w.heap.size (some ⟨w.heap.size,0,none⟩) n ps
 lt:w.heap.size<M
 sz:M+1≤wx.heap.size
 bel:Below w.heap.size w wx
theorem ownsRow_below {w w':World} {base e size n X:Nat} {v:Value} {xs:List Value} (h:w.ownsRow base e size v n xs) (hb:Below X w w') (hx:∀g,v.ownBlock=some g→g<X):w'.ownsRow base e size v n xs:=by
 refine⟨h.1,?_⟩
 rcases h.2 with hn | ⟨g,cap,cur,rfl,h1,hg,r⟩
 ·exact .inl hn
 ·exact .inr ⟨g,cap,cur,rfl,h1,(hb.block g (hx g rfl)).trans hg,r⟩
theorem RunW.turn {w wx w':World} {M n cnt:Nat} {ps:List Int} {v v':Value} {out out':List (List Nat)} {D:DataW Unit} (h:RunW w M n ps v out D cnt wx) (hb:Below (M+1) wx w')
 (hn:NestAt w' (M+1) 93 3 v' out'):RunW w M n ps v' out' D cnt w':=by
 have hlt:=h.lt
 refine⟨hn,?_,ownsRow_below h.prs hb (fun g hg=>by cases hg;exact Nat.lt_succ_of_lt hlt),h.lt,Nat.le_trans h.sz hb.size,h.bel.trans (hb.mono (by omega))⟩
 obtain⟨es,clock,hbk,F,hs,hD⟩:=h.map
 exact⟨es,clock,(hb.block M (by omega)).trans hbk,F,hs,hD⟩
theorem RunW.keep {w wx w':World} {M n cnt:Nat} {ps:List Int} {v:Value} {out:List (List Nat)} {D:DataW Unit} (h:RunW w M n ps v out D cnt wx) (hb:Below wx.heap.size wx w'):RunW w M n ps v out D cnt w' :=
 h.turn (hb.mono h.sz) (h.nest.keep hb)
theorem RunW.mapped {w wx w':World} {M n cnt cnt':Nat} {ps:List Int} {v:Value} {out:List (List Nat)} {D D':DataW Unit} (h:RunW w M n ps v out D cnt wx) (hm:w'.ownsMap Tryz.prog 3 (plainElem Tryz.prog 3) M cnt' D') (hg:wx.grownBy w' (some M)) :
 RunW w M n ps v out D' cnt' w':=by
 have hlt:=h.lt
 refine⟨h.nest.far hg (fun g e=>by cases e;omega),hm,World.ownsRow.kept h.prs hg (.inr fun e=>by simp [Value.ownBlock] at e;omega),h.lt,Nat.le_trans h.sz hg.size,h.bel.grown hg (by have:=h.sz;omega) (fun k e=>by cases e;omega)⟩
theorem RunW.snoc {w wx:World} {M n cnt:Nat} {ps:List Int} {v:Value} {out:List (List Nat)} {D:DataW Unit} (h:RunW w M n ps v out D cnt wx) :
 ∃ss,wx.ownsRow (M+1) 93 1 v out.length ss∧∀o1 v' w',w'.ownsRow (M+1) 93 1 v' (out.length+1) (ss++[.slice none 0 0])→(wx.alloc o1).grownBy w' v.ownBlock →
   (v'.ownBlock=v.ownBlock∨v'.ownBlock=some (wx.alloc o1).heap.size)→RunW w M n ps v' (out++[[]]) D cnt w':=by
 obtain⟨ss,n1,n2,n3⟩:=h.nest
 have hsz:=h.sz
 refine⟨ss,n1,fun o1 v' w' ho hg hl=>?_⟩
 have hga:=(World.grownBy_alloc wx o1 v.ownBlock).trans hg
 have hvb:=fun g (hv:v.ownBlock=some g)=>(n1.lt g hv).1
 refine h.turn (((Below.refl (M+1) wx).alloc hsz o1).grown hg (by rw [World.size_alloc];omega) hvb) (NestAt.grown (w1:=wx) n2 n3 (by have:=n1.1;omega) hga ho ?_)
 rcases hl with e | e
 ·exact .inl e
 ·exact .inr ⟨_,e,by rw [World.size_alloc];omega⟩
theorem RunW.elem {w wx:World} {M n cnt:Nat} {ps:List Int} {v:Value} {out:List (List Nat)} {D:DataW Unit} (h:RunW w M n ps v out D cnt wx) (k i:Nat) (hk:k<out.length) :
 ∃G cap a c,v=.slice (some ⟨G,0,none⟩) out.length cap∧wx.cell? ⟨G,k,none⟩=some (.slice a (out.getD k []).length c)∧wx.frozen? ⟨G,k,none⟩=false∧cap≤maxLen∧out.length≤cap∧(out.getD k []).length≤c∧c≤maxLen ∧
   wx.ownsRow (M+1) 3 1 (.slice a (out.getD k []).length c) (out.getD k []).length (nats (out.getD k [])) ∧
   ∀o1 s' w',w'.ownsRow (M+1) 3 1 s' ((out.getD k []).length+1) (nats (out.getD k [])++[.int .i64 (i:Nat)])→(wx.alloc o1).grownBy w' (Value.slice a (out.getD k []).length c).ownBlock →
     (s'.ownBlock=(Value.slice a (out.getD k []).length c).ownBlock∨s'.ownBlock=some (wx.alloc o1).heap.size) →
     w'.cell? ⟨G,k,none⟩=some (.slice a (out.getD k []).length c)∧w'.frozen? ⟨G,k,none⟩=false∧RunW w M n ps v (out.set k (out.getD k []++[i])) D cnt (w'.setCell ⟨G,k,none⟩ s'):=by
 obtain⟨G,cap,s,hv,hG1,hG2,hc,hf,hcm,hs,hsG,back⟩:=h.nest.elem k hk
 obtain⟨a,c,rfl,hc1,hc2⟩:=own_slice hs
 have hsz:=h.sz
 have hcap:out.length≤cap:=by
  obtain⟨a',cap',e,e1,e2⟩:=h.nest.shape
  rw [hv] at e;cases e;exact e1
 refine⟨G,cap,a,c,hv,hc,hf,hcm,hcap,hc1,hc2,hs,fun o1 s' w' ho hg hl=>?_⟩
 have hga:=(World.grownBy_alloc wx o1 (Value.slice a (out.getD k []).length c).ownBlock).trans hg
 have hGh:w'.heap[G]? = wx.heap[G]?:=hga.block G hG2 (fun e=>hsG e.symm)
 refine⟨(World.cell?_of_block (a:=⟨G,k,none⟩) hGh).trans hc,(World.frozen?_of_block (a:=⟨G,k,none⟩) hGh).trans hf,?_⟩
 have hvb:=fun g (hv:(Value.slice a (out.getD k []).length c).ownBlock=some g)=>(hs.lt g hv).1
 refine h.turn ((((Below.refl (M+1) wx).alloc hsz o1).grown hg (by rw [World.size_alloc];omega) hvb).setCell (p:=⟨G,k,none⟩) hG1 _) (back w' s' (out.getD k []++[i]) ?_ hga ?_)
 ·rw [List.length_append,List.length_singleton,nats_snoc];exact ho
 ·rcases hl with e | e
  ·exact .inl e
  ·exact .inr ⟨_,e,by rw [World.size_alloc];omega⟩
theorem RSt.at_none (s:RSt) (ps:List Int) (i:Nat) (h:gfind s.goes i=none):s.at ps i=none:=by
 have:s.find i=none:=h
 unfold RSt.at
 rw [this]
theorem RSt.at_some (s:RSt) (ps:List Int) (i k:Nat) (h:gfind s.goes i=some k):s.at ps i=if (((s.out.getD k []).getLastD 0:Nat):Int)≠ith ps i then none else some k:=by
 have:s.find i=some k:=h
 unfold RSt.at
 rw [this]
structure RunRel (w:World) (M n:Nat) (ds ls ps:List Int) (fin:List (List Nat)) (i m:Nat) (s:RSt) (D:DataW Unit) (v:Value) (wx:World):Prop where
 im:i+m=n
 rw_:RunW w M n ps v s.out D i wx
 mp:MapIs D s.goes
 ok:s.Ok i
 eq:(runsF ds ls ps m i s).out=fin
theorem put_out (s:RSt) (k i:Nat) (last:Int) (g:List (Nat × Nat)) (hk:k≤s.out.length) (out':List (List Nat)) (ho:out'=if k<s.out.length then s.out else s.out++[[]]) :
 (s.put k i last g).out=out'.set k (out'.getD k []++[i])∧k<out'.length:=by
 unfold RSt.put
 by_cases h:k<s.out.length
 ·rw [if_pos h] at ho
  rw [if_pos h,ho]
  exact⟨rfl,h⟩
 ·rw [if_neg h] at ho
  have hke:k=s.out.length:=by omega
  rw [if_neg h,ho]
  refine⟨?_,by simp;omega⟩
  rw [List.getD_eq_getElem?_getD,hke,List.getElem?_append_right (Nat.le_refl _),Nat.sub_self,List.set_append_right _ _ (Nat.le_refl _),Nat.sub_self]
  rfl
set_option maxRecDepth 100000 in
set_option maxHeartbeats 1000000 in
theorem LRuns_any (a la:Option Addr) (ds ls:List Int) (n cap lc:Nat) (w:World) (hl:ds.length=n) (hll:ls.length=n) (hd:Rd .i8 w a ds) (hls:Rd .u8 w la ls) (hn:n≤2097152) (hnc:n≤cap) (hcm:cap≤9223372036854775807) :
 Calls Tryz.prog 157 #[.slice a n cap,.slice la n lc] w (RunsPost (runsI ds ls) w):=by
 obtain⟨i3,hi3,hz3,ha3,hb3⟩:=info_parts (Tryz.info_int)
 obtain⟨i32,hi32,hz32,ha32,hb32⟩:=info_parts (Tryz.info_ints)
 have HL:=lh hl
 have HLL:=lh hll
 have HPA:=lh (LPairs_any a ds n cap w hl hd hn)
 obtain⟨ps,hps⟩:∃ps,pairsI ds=ps:=⟨_,rfl⟩
 have hI:runsI ds ls=(runsF ds ls ps n 0 ⟨[],[],-1,-1⟩).out:=by
  rw [←hps];unfold runsI
  have e:min ds.length ls.length=n:=by omega
  have e2:ds.take n=ds:=by rw [←hl];exact List.take_length
  simp only [e,e2]
 have hpb:=fun j=>pairsI_bd ds j
 rw [hps,hl] at hpb
 unfold LPairsPost at HPA
 rw [hps] at HPA
 rw [hI]
 have HPB:=lh hpb
 clear hps hI hl hll hpb
 have hmm:=@run_makeMap Tryz.prog
 have g0:(n:Int)≤(cap:Int):=by omega
 go_enter Tryz.func157,Tryz.ntmps157
 go_wp2_with (go_at_call 189;refine HPA.out.mono ?_;rintro e w1 ⟨rfl,hpl,hO1,hb1⟩)
 have hbm:Below w.heap.size w (w1.alloc (.map #[] 0)):=hb1.alloc hb1.size _
 have hlt1:w.heap.size<w1.heap.size:=hO1.lt.2
 have hrel0:RunW w w1.heap.size n ps (.slice none 0 0) [] (.map []) 0 (w1.alloc (.map #[] 0)) :=
  ⟨NestAt.nil _ _ _ _,World.ownsMap_made _ _ _ _,World.ownsRow.alloc hO1 _,hlt1,by simp,hbm⟩
 clear hmm
 obtain⟨M,hM⟩:∃M,w1.heap.size=M:=⟨_,rfl⟩
 obtain⟨fin,hfin⟩:∃fin,(runsF ds ls ps n 0 ⟨[],[],-1,-1⟩).out=fin:=⟨_,rfl⟩
 rw [hM] at hrel0 ⊢
 rw [hfin]
 have HFIN:=lh hfin
 clear hM hfin hbm
 go_loopw [7,9,10,27] (fun u7 u9 u10 u27 wx=>∃i m s D,u9=.int .i64 s.now∧u10=.int .i64 s.last∧u27=.int .i64 (i:Nat)∧RunRel w M n ds ls ps fin i m s D u7 wx) (fun _ _ _ c _=>n-(intOf c).toNat)
 case atStart=>exact⟨0,n,⟨[],[],-1,-1⟩,.map [],rfl,rfl,rfl,⟨by omega,hrel0,MapIs.nil,RSt.start_ok,HFIN.out⟩⟩
 case round =>
  obtain⟨i,m,s,D,rfl,rfl,rfl,rel⟩:=hrel
  have him:=rel.im
  clear hrel0
  by_cases hi:i<n
  ·obtain⟨q,hq⟩:∃q,m=q+1:=⟨m-1,by omega⟩
   subst hq
   obtain⟨G,o,rfl,hGl,hGc⟩:=hd.at rel.rw_.bel i (by have:=HL.out;omega)
   obtain⟨y,hy⟩:∃y,ith ds i=y:=⟨_,rfl⟩
   rw [hy] at hGc
   obtain⟨d,hd'⟩:∃d,lkn y=d:=⟨_,rfl⟩
   have hstep:=rel.ok.step_put ds ls ps
   rw [hy,hd'] at hstep
   have HD:Hid (∀W,Calls Tryz.prog 153 #[.int .i8 y] W fun e w'=>e=.returned (.int .i8 d)∧W=w'):=lh fun W=>by rw [←hd'];exact lknown_any y W
   have HS:=lh hstep
   have REL:=lh rel
   have HY:=lh hy
   have HDD:=lh hd'
   have now0:=rel.ok.now0
   have now1:=rel.ok.now1
   have last0:=rel.ok.last0
   have last1:=rel.ok.last1
   have olen:=rel.ok.len
   have hnx:Hid (∀D' v' w',RunW w M n ps v' (s.step ds ls ps i).out D' (i+1) w'→MapIs D' (s.step ds ls ps i).goes→RunRel w M n ds ls ps fin (i+1) q (s.step ds ls ps i) D' v' w'):=lh fun D' v' w' h1 h2 =>
    ⟨by omega,h1,h2,rel.ok.step ds ls ps,by rw [←rel.eq,runsF]⟩
   obtain⟨lb,hlb⟩:∃lb,leftB d=lb:=⟨_,rfl⟩
   have HLB:Hid (∀W,Calls Tryz.prog 190 #[.int .i8 d] W fun e w'=>e=.returned (.bool lb)∧W=w'):=lh fun W=>by rw [←hlb];exact lleft_any d W
   rw [hlb] at HS
   obtain⟨nw,hnw⟩:∃nw,s.now=nw:=⟨_,rfl⟩
   obtain⟨lt,hlt⟩:∃lt,s.last=lt:=⟨_,rfl⟩
   have HNW:=lh hnw
   have HLT:=lh hlt
   rw [hnw] at now0 now1 ⊢
   rw [hlt] at last0 last1 ⊢
   clear hy hd' rel hstep hlb hnw hlt
   go_upto_region 11 with (go_at_call 153;refine (HD.out _).mono ?_;rintro e w' ⟨rfl,hw'⟩;subst hw')
   cases lb with
   | true =>
     have HS2:=lh (HS.out.trans (if_pos rfl))
     go_wp2_with (go_at_call 190;refine (HLB.out _).mono ?_;rintro e w' ⟨rfl,hw'⟩;subst hw')
     go_roundw
     case rel=>exact⟨i+1,q,s,D,HNW.out▸rfl,HLT.out▸rfl,by go_num,by
      have:=hnx.out D u7 wr
      rw [HS2.out] at this
      exact this ⟨REL.out.rw_.nest,REL.out.rw_.map.mono (by omega),REL.out.rw_.prs,REL.out.rw_.lt,REL.out.rw_.sz,REL.out.rw_.bel⟩ REL.out.mp⟩
     case measure=>simp [intOf];omega
   | false =>
     have HS2:=lh (HS.out.trans (if_neg (by decide)))
     clear HS
     go_upto_region 12 with (go_at_call 190;refine (HLB.out _).mono ?_;rintro e w' ⟨rfl,hw'⟩;subst hw')
     obtain⟨fresh,hfr⟩:∃fresh,fresh=(decide (s.now<0)||decide (s.last<0)||(ith ls s.last.toNat != ith ls i)):=⟨_,rfl⟩
     have hpk:s.pick ls ps i=if fresh=true then (s.at ps i).getD s.out.length else s.now.toNat:=by
      unfold RSt.pick
      have e:(s.now<0∨s.last<0∨ith ls s.last.toNat≠ith ls i)↔fresh=true:=by
       rw [hfr];simp [or_assoc]
      by_cases h:fresh=true
      ·rw [if_pos (e.2 h),if_pos h]
      ·rw [if_neg (fun h'=>h (e.1 h')),if_neg h]
     have hpl2:=REL.out.ok.pick_le ls ps
     have HFR:Hid (fresh=(decide (nw<0)||decide (lt<0)||(ith ls lt.toNat != ith ls i))):=lh (by rw [←HNW.out,←HLT.out];exact hfr)
     have HPK:=lh hpk
     have hBel:=REL.out.rw_.bel
     have HB:=lh hBel
     clear hfr hpk hGc hBel
     go_cut [53] (fun t wx=>t=.bool fresh∧RunW w M n ps u7 s.out D i wx∧Below wr.heap.size wr wx)
     case first =>
      have hfin':∀b:Bool,b=fresh→∀q',(.bool b:Value)=.bool fresh∧RunW w M n ps u7 s.out D i (wr.drewN q')∧Below wr.heap.size wr (wr.drewN q'):=fun b hb q'=>⟨by rw [hb],REL.out.rw_.keep (bl_drewN (Below.refl _ _) q'),bl_drewN (Below.refl _ _) q'⟩
      have HFI:=lh hfin'
      clear hpl2 olen now1 hfin' him
      by_cases h1:nw<0
      ·have HF1:Hid (true=fresh):=lh (by rw [HFR.out];simp [h1])
       go_quiet (fail)
       go_wp2_with (fail)
       go_meet
       exact HFI.out _ HF1.out _
      ·by_cases h2:lt<0
       ·have HF1:Hid (true=fresh):=lh (by rw [HFR.out];simp [h2])
        go_quiet (fail)
        go_wp2_with (fail)
        go_meet
        exact HFI.out _ HF1.out _
       ·obtain⟨l,rfl⟩:∃l:Nat,lt=l:=⟨lt.toNat,by omega⟩
        obtain⟨G2,o2,rfl,hGl2,hL1⟩:=hls.at HB.out i (by have:=HLL.out;omega)
        obtain⟨G3,o3,hG3,hGl3,hL2⟩:=hls.at HB.out l (by have:=HLL.out;omega)
        cases hG3
        have HF1:Hid ((ith ls l != ith ls i)=fresh):=lh (by rw [HFR.out,decide_eq_false h1,decide_eq_false h2,Int.toNat_natCast];rfl)
        have k0:(0:Int)≤(l:Int):=by omega
        have k1:(l:Int)<(n:Int):=by omega
        have k2:(i:Int)<(n:Int):=by omega
        have k3:(0:Int)≤(i:Int):=by omega
        generalize ith ls l=y1 at hL2 HF1
        generalize ith ls i=y2 at hL1 HF1
        clear h2
        go_quiet (fail)
        go_wp2_with (fail)
        go_meet
        exact HFI.out _ HF1.out _
     case rest =>
      obtain⟨rfl,hw53,hb53⟩:=hcut
      obtain⟨k,hk⟩:∃k,s.pick ls ps i=k:=⟨_,rfl⟩
      rw [hk] at HPK HS2 hpl2
      obtain⟨oL,hoL⟩:∃oL,s.out.length=oL:=⟨_,rfl⟩
      have W53:=lh hw53
      obtain⟨ao,oc,hv,hoc1,hoc2⟩:=hw53.nest.shape
      rw [hoL] at hv hoc1 olen hpl2 now1
      subst hv
      have HOL:=lh hoL
      have HK:=lh hk
      clear hw53 hoL hk
      go_upto_if 53 with (fail)
      go_cut [7,9] (fun v7 v9 wx=>v9=.int .i64 (k:Nat)∧∃out',out'=(if k<s.out.length then s.out else s.out++[[]])∧RunW w M n ps v7 out' D i wx)
      case first =>
       cases fresh with
       | false =>
         have hnw:0≤nw:=by
          have:=HFR.out
          by_cases h:nw<0
          ·rw [decide_eq_true h] at this;simp at this
          ·omega
         have hkn:k=nw.toNat:=HPK.out.trans (by rw [if_neg (by decide),HNW.out])
         have hkn':nw=(k:Int):=by omega
         have HKN:=lh hkn'
         clear hkn hkn'
         go_wp2_with (fail)
         go_meet
         exact⟨by rw [HKN.out],s.out,by rw [if_pos (by have:=HOL.out;have:=HKN.out;omega)],W53.out⟩
       | true =>
         have hka:k=(s.at ps i).getD s.out.length:=HPK.out.trans (if_pos rfl)
         have HKA:=lh hka
         clear hka
         obtain⟨fo,hfo⟩:∃fo,gfind s.goes i=fo:=⟨_,rfl⟩
         cases fo with
         | none =>
           have hh:=REL.out.mp.none_ i hfo
           have HAT:=lh (RSt.at_none s ps i hfo)
           clear hfo
           go_upto_region 14 with (at_lookup;refine wpList_lookup_own_ok_int _ rfl _ _ 264 rfl 3 3 .i64 key_law Tryz.underlying264 Tryz.underlying3 (zero_int _) M i D rfl W53.out.map _ _ rfl (keyOf_int_mk Tryz.underlying3 (WalkArith.wf_i64 (by omega))) ?_;intro c hat hwc)
           go_cut [80] (fun t wx=>t=.bool true∧RunW w M n ps (.slice ao oL oc) s.out D i wx)
           case first =>
            clear hat
            go_quiet (fail)
            go_wp2_with (fail)
            go_meet
            exact⟨rfl,W53.out.keep (bl_drewN (Below.refl _ _) _)⟩
           case rest =>
            obtain⟨rfl,hw80⟩:=hcut
            clear hat hh
            rw [HAT.out] at HKA
            have hke:k=oL:=HKA.out.trans HOL.out
            subst hke
            obtain⟨ss,n1,n2⟩:=hw80.snoc
            rw [HOL.out] at n1 n2
            have SN1:=lh n1
            have SN2:=lh n2
            have hsz:=hw80.sz
            clear n1 n2
            go_wp2_with (at_builtin;refine wpList_append_own_at _ rfl _ _ 223 rfl (M+1) 93 i32 (.slice none 0 0) 1 24 Tryz.underlying223 hi32 hz32 ha32 hb32 rfl (by decide) _ k _ rfl (SN1.out.alloc _) ⟨wc.heap.size,0,none⟩ 1 1 [.slice none 0 0] rfl rfl (cell_one_new _ _ _) (by simp [Value.oneCell']) (by unfold maxLen;omega) (by omega) (by simp;omega) ?_;intro v' w' ho hg _ hl)
            go_meet
            exact⟨rfl,s.out++[[]],by rw [if_neg (by rw [HOL.out];omega)],SN2.out _ _ _ ho hg hl⟩
         | some kk =>
           have hh:=(REL.out.mp.some_ i kk hfo).1
           have hat2:=(REL.out.mp.some_ i kk hfo).2
           have hkl:kk<s.out.length:=REL.out.ok.find_lt hfo
           have HAT2:=lh hat2
           have HAT:=lh (RSt.at_some s ps i kk hfo)
           clear hfo hat2
           obtain⟨Gv,capv,ea,cs,hv2,hcell,_,hcapm,hcap1,hcs1,hcs2,hown,_⟩:=W53.out.elem kk i hkl
           rw [HOL.out] at hv2 hcap1
           have hne:=(REL.out.ok.run kk hkl).1
           obtain⟨nk,hnk⟩:∃nk,(s.out.getD kk []).length=nk:=⟨_,rfl⟩
           have hnp:0<nk:=by rw [←hnk];exact List.length_pos_iff.2 hne
           obtain⟨L,hL⟩:∃L,nk=L+1:=⟨nk-1,by omega⟩
           rw [hnk] at hcell hcs1 hown
           obtain⟨Gk,hGk,_,_,hcells⟩:=own_cells hown hnp
           subst hGk
           have hlast:=hcells L (by omega)
           rw [nats_get _ L (by omega)] at hlast
           obtain⟨lv,hlv⟩:∃lv:Nat,(s.out.getD kk []).getD L 0=lv:=⟨_,rfl⟩
           have hlv2:(s.out.getD kk []).getLastD 0=lv:=by
            rw [List.getLastD_eq_getLast?,List.getLast?_eq_getElem?,hnk,hL,Nat.add_sub_cancel,←hlv]
            rw [List.getD_eq_getElem?_getD (l:=s.out.getD kk [])]
           rw [hlv2] at HAT
           rw [hlv] at hlast
           obtain⟨G1,hG1,_,_,hpc,_,_,_⟩:=OutAt.at W53.out.prs i (by rw [hpl];exact hi)
           cases hG1
           cases hv2
           obtain⟨px,hpx⟩:∃px,ith ps i=px:=⟨_,rfl⟩
           rw [hpx] at hpc HAT
           have gk0:(0:Int)≤(kk:Int):=by omega
           have gk1:(kk:Int)<(oL:Int):=by have:=HOL.out;omega
           have gL0:(0:Int)≤(L:Int):=by omega
           have gL1:(L:Int)<(nk:Int):=by omega
           have gi0:(0:Int)≤(i:Int):=by omega
           have gi1:(i:Int)<(n:Int):=by omega
           have hwr:IntKind.i64.wrap ((nk:Int)-1)=(L:Int):=by rw [IntKind.wrap_i64];unfold maxLen at hcs2;omega
           have HLL2:=lh hL
           clear hcells hlv hlv2 hpx hnk hnp hne hown hL
           go_upto_region 14 with (at_lookup;refine wpList_lookup_own_ok_int _ rfl _ _ 264 rfl 3 3 .i64 key_law Tryz.underlying264 Tryz.underlying3 (zero_int _) M i D rfl W53.out.map _ _ rfl (keyOf_int_mk Tryz.underlying3 (WalkArith.wf_i64 (by omega))) ?_;intro c hat hwc;have hck:c=(kk:Int):=(by have e:=hat.symm.trans HAT2.out;injection e with e;injection e);clear hat hwc;subst hck)
           go_cut [80] (fun t wx=>t=.bool ((lv:Int) != px)∧RunW w M n ps (.slice (some ⟨Gv,0,none⟩) oL oc) s.out D i wx)
           case first =>
            clear hcm hoc2 hcs2 him now0 now1 last0 last1 olen hpl2 hlt1 hb53
            go_quiet (fail)
            go_wp2_with (fail)
            go_meet
            exact⟨rfl,W53.out.keep (bl_drewN (Below.refl _ _) _)⟩
           case rest =>
            obtain⟨rfl,hw80⟩:=hcut
            clear hh hcell hlast hpc hwr
            by_cases hpq:(lv:Int)=px
            ·have hke:k=kk:=HKA.out.trans (by rw [HAT.out,if_neg (fun h=>h hpq)];rfl)
             subst hke
             have HW80:=lh hw80
             have hpb:((lv:Int) != px)=false:=by simp [hpq]
             clear hpq hw80
             go_wp2_with (fail)
             go_meet
             exact⟨rfl,s.out,by rw [if_pos hkl],HW80.out⟩
            ·have hke:k=oL:=HKA.out.trans (by rw [HAT.out,if_pos hpq];exact HOL.out)
             subst hke
             have hpb:((lv:Int) != px)=true:=by simpa using hpq
             obtain⟨ss,n1,n2⟩:=hw80.snoc
             rw [HOL.out] at n1 n2
             have SN1:=lh n1
             have SN2:=lh n2
             have hsz:=hw80.sz
             clear n1 n2 hpq
             go_wp2_with (at_builtin;refine wpList_append_own_at _ rfl _ _ 223 rfl (M+1) 93 i32 (.slice none 0 0) 1 24 Tryz.underlying223 hi32 hz32 ha32 hb32 rfl (by decide) _ k _ rfl (SN1.out.alloc _) ⟨wc.heap.size,0,none⟩ 1 1 [.slice none 0 0] rfl rfl (cell_one_new _ _ _) (by simp [Value.oneCell']) (by unfold maxLen;omega) (by omega) (by simp;omega) ?_;intro v' w' ho hg _ hl)
             go_meet
             exact⟨rfl,s.out++[[]],by rw [if_neg (by rw [HOL.out];omega)],SN2.out _ _ _ ho hg hl⟩
      case rest =>
       obtain⟨rfl,out',hout',hwB⟩:=hcut
       have hkp:=put_out s k i (if d=10 then -1 else (i:Int)) (s.gone ds ps i k) (by rw [HOL.out];exact hpl2) out' hout'
       have hnki:(out'.getD k []).length≤i:=by
        rw [hout']
        by_cases h:k<s.out.length
        ·rw [if_pos h];exact (REL.out.ok.run k h).2.2
        ·rw [if_neg h,List.getD_eq_getElem?_getD,List.getElem?_append_right (by omega)]
         have:k-s.out.length=0:=by have:=HOL.out;omega
         rw [this];simp
       have hoNi:out'.length≤i+1:=by
        rw [hout']
        have:=HOL.out
        split
        ·omega
        ·simp;omega
       have HOUT:Hid ((s.step ds ls ps i).out=out'.set k (out'.getD k []++[i])):=lh (by rw [HS2.out];exact hkp.1)
       have HNOW:Hid ((s.step ds ls ps i).now=k):=lh (by rw [HS2.out];rfl)
       have HLAST:Hid ((s.step ds ls ps i).last=if d=10 then -1 else (i:Int)):=lh (by rw [HS2.out];rfl)
       have HGOES:Hid ((s.step ds ls ps i).goes=if opensB d=true∧0≤ith ps i then ((ith ps i).toNat,k)::s.goes else s.goes):=lh (by rw [HS2.out];show s.gone ds ps i k=_;unfold RSt.gone;rw [HY.out,HDD.out])
       obtain⟨Gn,capn,an,cn,hvn,hcell,hfr,hcapm,hcap1,hcn1,hcn2,hown,hback⟩:=hwB.elem k i hkp.2
       subst hvn
       obtain⟨nk,hnk⟩:∃nk,(out'.getD k []).length=nk:=⟨_,rfl⟩
       obtain⟨oN,hoN⟩:∃oN,out'.length=oN:=⟨_,rfl⟩
       have hkl:=hkp.2
       have hsz:=hwB.sz
       rw [hnk] at hcell hcn1 hown hback hnki
       rw [hoN] at hcap1 hkl hoNi hback ⊢
       obtain⟨pn,hpn⟩:∃pn,out'.set k (out'.getD k []++[i])=pn:=⟨_,rfl⟩
       rw [hpn] at hback HOUT
       have HOWN:=lh hown
       have HBACK:=lh hback
       have gk0:(0:Int)≤(k:Int):=by omega
       have gk1:(k:Int)<(oN:Int):=by omega
       have gi0:(0:Int)≤(i:Int):=by omega
       have gi1:(i:Int)<(n:Int):=by omega
       clear hown hback hnk hoN hkp hout' hwB hpn HPK HFR W53 hpl2 now0 now1 last0 last1 olen hcapm hoc2
       go_upto_region 18 with (fail)
       go_cut [95] (fun _ wx=>RunW w M n ps (.slice (some ⟨Gn,0,none⟩) oN capn) pn D i wx)
       case first =>
        go_wp2_with (at_builtin;refine wpList_append_own_at _ rfl _ _ 93 rfl (M+1) 3 i3 (.int .i64 0) 1 8 Tryz.underlying93 hi3 hz3 ha3 hb3 rfl (by decide) _ nk _ rfl (HOWN.out.alloc _) ⟨wc.heap.size,0,none⟩ 1 1 [.int .i64 (i:Nat)] rfl rfl (cell_one_new _ _ _) (by simp [Value.oneCell']) (by unfold maxLen;omega) (by omega) (by simp;omega) ?_;intro v' w' ho hg _ hl;obtain⟨x0,x1,x2⟩:=HBACK.out _ _ _ ho hg hl;obtain⟨va,vc,hva,_,_⟩:=own_slice ho;subst hva)
        go_meet
        exact x2
       case rest =>
       clear HOWN HBACK hcell hfr
       have WC:=lh hcut
       obtain⟨ob,hob⟩:∃ob,opensB d=ob:=⟨_,rfl⟩
       have HOB:Hid (∀W,Calls Tryz.prog 182 #[.int .i8 d] W fun e w'=>e=.returned (.bool ob)∧W=w'):=lh fun W=>by rw [←hob];exact lopens_any d W
       rw [hob] at HGOES
       obtain⟨G1,hG1,_,_,hpc,_,_,_⟩:=OutAt.at WC.out.prs i (by rw [hpl];exact hi)
       cases hG1
       have hpb:=HPB.out i
       have HMP:=lh REL.out.mp
       obtain⟨px,hpx⟩:∃px,ith ps i=px:=⟨_,rfl⟩
       rw [hpx] at hpc HGOES hpb
       clear hcut hob hpx
       cases ob with
       | false =>
         by_cases h10:d=10
         ·subst h10
          go_wp2_with (go_at_call 182;refine (HOB.out _).mono ?_;rintro e w' ⟨rfl,hw'⟩;subst hw')
          go_roundw
          case rel=>exact⟨i+1,q,s.step ds ls ps i,D,by rw [HNOW.out],by rw [HLAST.out];rfl,by go_num,hnx.out D _ _ (by rw [HOUT.out];exact⟨WC.out.nest,WC.out.map.mono (by omega),WC.out.prs,WC.out.lt,WC.out.sz,WC.out.bel⟩) (by rw [HGOES.out,if_neg (by simp)];exact HMP.out)⟩
          case measure=>simp [intOf];omega
         ·have c10:(d==10)=false:=by simpa using h10
          go_wp2_with (go_at_call 182;refine (HOB.out _).mono ?_;rintro e w' ⟨rfl,hw'⟩;subst hw')
          go_roundw
          case rel=>exact⟨i+1,q,s.step ds ls ps i,D,by rw [HNOW.out],by rw [HLAST.out];rw [if_neg h10],by go_num,hnx.out D _ _ (by rw [HOUT.out];exact⟨WC.out.nest,WC.out.map.mono (by omega),WC.out.prs,WC.out.lt,WC.out.sz,WC.out.bel⟩) (by rw [HGOES.out,if_neg (by simp)];exact HMP.out)⟩
          case measure=>simp [intOf];omega
       | true =>
         by_cases h0:0≤px
         ·obtain⟨pj,rfl⟩:∃pj:Nat,px=pj:=⟨px.toNat,by omega⟩
          have HG2:Hid ((s.step ds ls ps i).goes=(pj,k)::s.goes):=lh (by rw [HGOES.out,if_pos ⟨rfl,h0⟩,Int.toNat_natCast])
          by_cases h10:d=10
          ·subst h10
           go_wp2_with (first | (go_at_call 182;refine (HOB.out _).mono ?_;rintro e w' ⟨rfl,hw'⟩;subst hw') | (at_mapUpdate;refine wpList_mapUpdate_own _ rfl _ _ _ 264 rfl 3 3 key_law Tryz.underlying264 _ M i D rfl WC.out.map (by unfold maxLen;omega) _ _ _ rfl rfl (keyOf_int_mk Tryz.underlying3 (WalkArith.wf_i64 (by omega))) _ [] (plainElem_int Tryz.underlying3 (WalkArith.wf_i64 (by omega))) ?_;intro w2 hown2 hg2))
           go_roundw
           case rel=>exact⟨i+1,q,s.step ds ls ps i,_,by rw [HNOW.out],by rw [HLAST.out];rfl,by go_num,hnx.out _ _ _ (by rw [HOUT.out];exact WC.out.mapped hown2 hg2) (by rw [HG2.out];exact HMP.out.put pj k)⟩
           case measure=>simp [intOf];omega
          ·have c10:(d==10)=false:=by simpa using h10
           go_wp2_with (first | (go_at_call 182;refine (HOB.out _).mono ?_;rintro e w' ⟨rfl,hw'⟩;subst hw') | (at_mapUpdate;refine wpList_mapUpdate_own _ rfl _ _ _ 264 rfl 3 3 key_law Tryz.underlying264 _ M i D rfl WC.out.map (by unfold maxLen;omega) _ _ _ rfl rfl (keyOf_int_mk Tryz.underlying3 (WalkArith.wf_i64 (by omega))) _ [] (plainElem_int Tryz.underlying3 (WalkArith.wf_i64 (by omega))) ?_;intro w2 hown2 hg2))
           go_roundw
           case rel=>exact⟨i+1,q,s.step ds ls ps i,_,by rw [HNOW.out],by rw [HLAST.out];rw [if_neg h10],by go_num,hnx.out _ _ _ (by rw [HOUT.out];exact WC.out.mapped hown2 hg2) (by rw [HG2.out];exact HMP.out.put pj k)⟩
           case measure=>simp [intOf];omega
         ·have HG2:Hid ((s.step ds ls ps i).goes=s.goes):=lh (by rw [HGOES.out,if_neg (fun h=>h0 h.2)])
          by_cases h10:d=10
          ·subst h10
           go_wp2_with (go_at_call 182;refine (HOB.out _).mono ?_;rintro e w' ⟨rfl,hw'⟩;subst hw')
           go_roundw
           case rel=>exact⟨i+1,q,s.step ds ls ps i,D,by rw [HNOW.out],by rw [HLAST.out];rfl,by go_num,hnx.out D _ _ (by rw [HOUT.out];exact⟨WC.out.nest,WC.out.map.mono (by omega),WC.out.prs,WC.out.lt,WC.out.sz,WC.out.bel⟩) (by rw [HG2.out];exact HMP.out)⟩
           case measure=>simp [intOf];omega
          ·have c10:(d==10)=false:=by simpa using h10
           go_wp2_with (go_at_call 182;refine (HOB.out _).mono ?_;rintro e w' ⟨rfl,hw'⟩;subst hw')
           go_roundw
           case rel=>exact⟨i+1,q,s.step ds ls ps i,D,by rw [HNOW.out],by rw [HLAST.out];rw [if_neg h10],by go_num,hnx.out D _ _ (by rw [HOUT.out];exact⟨WC.out.nest,WC.out.map.mono (by omega),WC.out.prs,WC.out.lt,WC.out.sz,WC.out.bel⟩) (by rw [HG2.out];exact HMP.out)⟩
           case measure=>simp [intOf];omega
  ·have hm0:m=0:=by omega
   subst hm0
   have REL:=lh rel
   clear rel
   go_wp2_with (fail)
   go_ret
   have r:=REL.out
   have he:=r.eq
   rw [runsF] at he
   rw [HFIN.out,←he]
   exact⟨_,rfl,r.rw_.nest.base (by have:=r.rw_.lt;omega),r.rw_.bel⟩
end
section
open Go.RowKit
theorem nats_ints (l:List Nat):nats l=(ints l).map (Value.int .i64):=by unfold nats ints;simp [Function.comp_def]
theorem ith_ints (l:List Nat) (i:Nat):ith (ints l) i=((l.getD i 0:Nat):Int):=by
 unfold ith ints
 rw [List.getD_eq_getElem?_getD,List.getElem?_map,List.getD_eq_getElem?_getD]
 cases l[i]? <;> rfl
theorem ints_len (l:List Nat):(ints l).length=l.length:=by unfold ints;simp
theorem own_out {w:World} {base e n cap:Nat} {a:Option Addr} {l:List Nat} (h:w.ownsRow base e 1 (.slice a n cap) n (nats l)) (hl:l.length=n):OutAt .i64 e w base a cap (ints l):=by
 unfold OutAt
 rw [ints_len,hl,←nats_ints]
 exact h
set_option maxRecDepth 100000 in
set_option maxHeartbeats 400000 in
theorem ClI_any (G o n c L:Nat) (l:List Nat) (w:World) (hl:l.length=L) (hd:Rd .i64 w (some ⟨G,o,none⟩) (ints l)) (hp:0<L) (hn:L≤2097152) :
 Calls Tryz.prog 192 #[.slice (some ⟨G,o,none⟩) L c] w fun e w'=>∃a c',e=.returned (.slice a L c')∧OutAt .i64 3 w' w.heap.size a c' (ints l)∧Below w.heap.size w w':=by
 obtain⟨i3,hi3,hz3,ha3,hb3⟩:=info_parts (Tryz.info_int)
 have hcells:∀j u,(nats l)[j]? = some u→(w.alloc (.cells #[] 3)).cell? ((⟨G,o,none⟩:Addr).add j)=some u:=fun j u hj=>by
  have hjl:j<l.length:=by
   rcases Nat.lt_or_ge j l.length with h | h
   ·exact h
   ·rw [List.getElem?_eq_none (by rw [nats_len];exact h)] at hj;cases hj
  obtain⟨b,off,e,hb,hc⟩:=hd.at ((Below.refl w.heap.size w).alloc (Nat.le_refl _) (.cells #[] 3)) j (by rw [ints_len];exact hjl)
  cases e
  rw [nats_get l j hjl] at hj
  cases hj
  rw [Addr.add_lit,hc,ith_ints]
 have HC:=lh hcells
 have HL:=lh hl
 have q22:∀(w:World) (a:Option Addr) (n c n' c':Nat),(binOp .eql 93 (.slice a n c) (.slice none n' c')).run Tryz.prog w=.ok (.bool a.isNone) w:=fun w a n c n' c'=>Lib.run_eql_slice_nil w _ _ a n c n' c' Tryz.underlying93
 clear hcells hl hd
 go_enter Tryz.func192,Tryz.ntmps192
 go_wp2_with (at_builtin;refine wpList_append_own _ rfl _ _ 93 rfl w.heap.size 3 i3 (.int .i64 0) 1 8 Tryz.underlying93 hi3 hz3 ha3 hb3 rfl (by decide) _ _ _ rfl (World.ownsRow_made w #[] 0 (Nat.le_refl _) (Nat.zero_le _) (by simp)) ⟨G,o,none⟩ L c (nats l) rfl (by rw [nats_len,HL.out];omega) HC.out (fun u hu=>by unfold nats at hu;rw [List.mem_map] at hu;obtain⟨x,_,rfl⟩:=hu;rfl) (by unfold maxLen;omega) (by omega) (by simp) ?_;intro v' w' ho hg _)
 obtain⟨va,vc,hva,_,_⟩:=own_slice ho
 subst hva
 go_ret
 rw [Nat.zero_add,List.nil_append] at ho
 refine⟨va,vc,by rw [Nat.zero_add];rfl,own_out ho HL.out,((Below.refl w.heap.size w).alloc (Nat.le_refl _) _).grown hg (by simp) (fun k hk=>by cases hk;exact Nat.le_refl _)⟩
theorem SidesF_any (x:Int) (B:Nat) (n:Nat) (W:World) (hc:W.cell? ⟨B,0,none⟩=some (.int .i64 n)) :
 Calls Tryz.prog 193 #[.int .i64 x,.pointer (some ⟨B,0,none⟩)] W fun e w'=>e=.returned (.bool (decide (x<0)||decide ((n:Int)≤x)))∧w'=W:=by
 go_enter Tryz.func193,Tryz.ntmps193
 by_cases h0:x<0
 ·go_wp2_with (fail)
  go_ret
  exact⟨ret_b (by simp [h0]),rfl⟩
 ·go_wp2_with (fail)
  go_ret
  exact⟨ret_b (by rw [decide_eq_false (show ¬ x<0 by omega)];rfl),rfl⟩
set_option maxRecDepth 100000 in
set_option maxHeartbeats 400000 in
theorem IxF_any (a:Option Addr) (l:List Nat) (L c B n:Nat) (w:World) (hl:l.length=L) (hd:Rd .i64 w a (ints l)) (hc:w.cell? ⟨B,0,none⟩=some (.int .i64 n)) (hn:L≤2097152) (hall:∀p∈l,p<n) :
 Calls Tryz.prog 211 #[.slice a L c,.func (.func 193) #[] #[.pointer (some ⟨B,0,none⟩)]] w fun e w'=>e=.returned (.int .i64 (-1))∧w'=w:=by
 have HL:=lh hl
 have HA:=lh hall
 have HC:=lh hc
 clear hl hall hc
 go_enter Tryz.func211,Tryz.ntmps211
 go_wp2_with (fail)
 go_loopw [8] (fun u wx=>∃i:Nat,i≤L∧u=.int .i64 i∧wx=w) (fun u _=>L-(intOf u).toNat)
 case atStart=>exact⟨0,by omega,rfl,rfl⟩
 case round =>
  obtain⟨i,hi,rfl,hwx⟩:=hrel
  have hwx':=hwx.symm
  clear hwx
  subst hwx'
  by_cases hlt:i<L
  ·obtain⟨G,o,rfl,hG,hcell⟩:=hd.at (Below.refl _ _) i (by rw [ints_len,HL.out];exact hlt)
   rw [ith_ints] at hcell
   obtain⟨x,hx⟩:∃x,l.getD i 0=x:=⟨_,rfl⟩
   have hxn:x<n:=HA.out x (by rw [←hx,List.getD_eq_getElem?_getD,List.getElem?_eq_getElem (by have:=HL.out;omega)];exact List.getElem_mem _)
   rw [hx] at hcell
   have HS:Hid (Calls Tryz.prog 193 #[.int .i64 x,.pointer (some ⟨B,0,none⟩)] w fun e w'=>e=.returned (.bool false)∧w'=w):=lh ((SidesF_any x B n w HC.out).mono fun e w' h=>⟨h.1.trans (ret_b (by rw [decide_eq_false (by omega),decide_eq_false (by omega)];rfl)),h.2⟩)
   clear hx
   go_wp2_with (go_at_call 193;refine HS.out.mono ?_;rintro e w' ⟨rfl,hw'⟩;have hw2:=hw'.symm;clear hw';subst hw2)
   go_roundw
   case rel=>exact⟨i+1,by omega,by go_num,trivial⟩
   case measure=>simp [intOf];omega
  ·have hie:i=L:=by omega
   clear hi
   go_wp2_with (fail)
   go_ret
   exact⟨rfl,rfl⟩
theorem DelF_any (a:Option Addr) (l:List Nat) (L c B n:Nat) (w:World) (hl:l.length=L) (hd:Rd .i64 w a (ints l)) (hc:w.cell? ⟨B,0,none⟩=some (.int .i64 n)) (hn:L≤2097152) (hall:∀p∈l,p<n) :
 Calls Tryz.prog 191 #[.slice a L c,.func (.func 193) #[] #[.pointer (some ⟨B,0,none⟩)]] w fun e w'=>e=.returned (.slice a L c)∧w'=w:=by
 have HI:=lh (IxF_any a l L c B n w hl hd hc hn hall)
 clear hl hd hc hall
 go_enter Tryz.func191,Tryz.ntmps191
 go_wp2_with (go_at_call 211;refine HI.out.mono ?_;rintro e w' ⟨rfl,hw'⟩;have hw2:=hw'.symm;clear hw';subst hw2)
 go_ret
 exact⟨rfl,rfl⟩
end
end Go.Proofs.YtlmjbfncopbilaaGreatDoor
