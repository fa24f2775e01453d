/- Part 16 (merged by a program): lemmas of no further condition than each states. -/
import Derived.Test.YtlmjbfncopbilaaGreatDoorK15
namespace Go.Proofs.YtlmjbfncopbilaaGreatDoor
set_option linter.unusedVariables false
set_option linter.unusedSimpArgs false
section
open Go.RowKit
theorem Tryz.info_u8:(Tryz.prog.info? 5).map (fun i=>(i.zero,i.size,i.bytes))=some (some (.int .u8 0),1,1):=by kernel_rfl
def ints (l:List Nat):List Int:=l.map fun (x:Nat)=>(x:Int)
theorem stV_f0 (s:LSt) (w:World):Sem.run Tryz.prog (Instr.field 255 (stV s) 0) w=.ok (.int .u8 s.level) w:=by kernel_rfl
theorem lay_opn (P:LPile) (odd:Bool) (o:Int) (b:Bool):(P.lay odd o b).opn=P.opn∧(P.lay odd o b).deep=P.deep:=by unfold LPile.lay;split <;> exact⟨rfl,rfl⟩
theorem iso_cells {w3:World} {B p R':Nat} {P:LPile} {odd:Bool} (h:PileAt w3 B p R' (P.lay odd (-1) true)) :
 w3.cell? ⟨p,1,none⟩=some (.int .i64 P.opn)∧w3.cell? ⟨p,2,none⟩=some (.int .i64 P.deep)∧w3.frozen? ⟨p,1,none⟩=false∧w3.frozen? ⟨p,2,none⟩=false:=by
 obtain⟨N,cap,hp,_⟩:=h
 rw [(lay_opn P odd (-1) true).1,(lay_opn P odd (-1) true).2] at hp
 obtain⟨_,c1,c2,_,fr,_⟩:=pile_cells hp
 exact⟨c1,c2,fr 1,fr 2⟩
theorem iso_true {w3:World} {B p R':Nat} {P:LPile} {odd:Bool} (h:PileAt w3 B p R' (P.lay odd (-1) true)) :
 PileAt (w3.setCell ⟨p,1,none⟩ (.int .i64 ((P.opn:Int)+1))) B p R' { P.lay odd (-1) true with opn:=P.opn+1 }:=by
 obtain⟨N,cap,hp,hR,r1,r2,r3,r4⟩:=h
 exact⟨N,cap,by simpa using pile_set1 (v:=.int .i64 ((P.opn:Int)+1)) hp,row_set_other hR r3,r1,r2,r3,r4⟩
theorem iso_false {w3:World} {B p R':Nat} {P:LPile} {odd:Bool} (h:PileAt w3 B p R' (P.lay odd (-1) true)) (hr:P.room odd=false) :
 PileAt (w3.setCell ⟨p,2,none⟩ (.int .i64 ((P.deep:Int)+1))) B p R' { P with deep:=P.deep+1 }:=by
 have e:P.lay odd (-1) true=P:=by unfold LPile.lay;rw [hr];rfl
 rw [e] at h
 obtain⟨N,cap,hp,hR,r1,r2,r3,r4⟩:=h
 exact⟨N,cap,by simpa using pile_set2 (v:=.int .i64 ((P.deep:Int)+1)) hp,row_set_other hR r3,r1,r2,r3,r4⟩
def LevPost (ds:List Int) (base n:Nat) (w:World) (e:Ending) (w':World):Prop :=
 ∃la lc ka kc,e=.returned (.tuple #[.slice la n lc,.slice ka n kc])∧OutAt .u8 5 w' w.heap.size la lc (ints (levI ds base).1)∧OutAt .i8 22 w' w.heap.size ka kc (levI ds base).2∧Below w.heap.size w w'
def LevMid (B p R:Nat) (wr:World) (S:LPile × Nat × Int) (v7 v10 v11:Value) (wx:World):Prop :=
 ∃p' R',v7=.pointer (some ⟨p',0,none⟩)∧v10=.int .u8 (S.2.1:Nat)∧v11=.int .i8 S.2.2∧PileAt wx B p' R' S.1∧(p'=p∨wr.heap.size≤p')∧(R'=R∨wr.heap.size≤R')∧Keep2 p R wr wx
structure LevRel (w:World) (ds:List Int) (base n:Nat) (i m:Nat) (P:LPile) (p R:Nat) (ls:List Nat) (ks:List Int) (lv kv:Value) (wx:World):Prop where
 im:i+m=n
 lown:wx.ownsRow (w.heap.size+1) 5 1 lv ls.length ((ints ls).map (Value.int .u8))
 kown:wx.ownsRow (w.heap.size+1) 22 1 kv ks.length (ks.map (Value.int .i8))
 pile:PileAt wx (w.heap.size+1) p R P
 ok:P.Ok i
 la:∀g,lv.ownBlock=some g→g≠p∧g≠R∧kv.ownBlock≠some g
 ka:∀g,kv.ownBlock=some g→g≠p∧g≠R
 beg:wx.heap[w.heap.size]? = some (.cells #[.int .u8 base,.int .i8 (-1),.bool false] 255 (0,0))
 bel:Below w.heap.size w wx
 sz:w.heap.size+1≤wx.heap.size
 eq:levF base ds m i P ls ks=levI ds base
 ll:ls.length=i
 kl:ks.length=i
theorem newPile (W:World) (B base:Nat) (hB:B≤W.heap.size) :
 PileAt ((W.alloc (.cells #[.int .u8 base,.int .i8 (-1),.bool false] 255)).alloc (.cells #[.slice (some ⟨W.heap.size,0,none⟩) 1 1,.int .i64 0,.int .i64 0,.int .i64 0] 259)) B (W.heap.size+1) W.heap.size ⟨[⟨base,-1,false⟩],0,0,0⟩:=by
 refine⟨3,1,?_,⟨#[.int .u8 base,.int .i8 (-1),.bool false],?_,rfl,rfl,by simp [scell]⟩,by omega,hB,by omega,by simp,by unfold maxLen;omega,by omega⟩
 ·have:=heap_alloc_new (W.alloc (.cells #[.int .u8 base,.int .i8 (-1),.bool false] 255)) (.cells #[.slice (some ⟨W.heap.size,0,none⟩) 1 1,.int .i64 0,.int .i64 0,.int .i64 0] 259)
  rw [World.size_alloc] at this
  exact this
 ·exact (Below.heap_alloc _ _ _ (by simp)).trans (heap_alloc_new W _)
theorem LPile.step_at (P:LPile) (base:Nat) (ds:List Int) (i:Nat) (d:Int) (h:lkn (ith ds i)=d) :
 P.step base ds i=if 14≤d∧d≤17 then (P.embed d,P.top.level,9)
  else if 19≤d∧d≤21 then
   (if P.room (if d=21 then decide (firstI (ds.drop (i+1))=1)||decide (firstI (ds.drop (i+1))=2) else decide (d=20))=true then { P.lay (if d=21 then decide (firstI (ds.drop (i+1))=1)||decide (firstI (ds.drop (i+1))=2) else decide (d=20)) (-1) true with opn:=P.opn+1 } else { P with deep:=P.deep+1 },P.top.level,P.said d)
  else if d=22 then (P.close,P.close.top.level,P.close.said d)
  else if d=18 then (P.fin,P.fin.top.level,9)
  else if d=9 then (P,P.top.level,9)
  else if d=10 then (⟨[⟨base,-1,false⟩],0,0,0⟩,base,10)
  else (P,P.top.level,P.said d):=by subst h;rfl
theorem PileAt.far {w w':World} {B p R:Nat} {P:LPile} (h:PileAt w B p R P) {row:Option Nat} (hg:w.grownBy w' row) (hp:row≠some p) (hR:row≠some R):PileAt w' B p R P:=by
 obtain⟨N,cap,h1,h2,r⟩:=h
 exact⟨N,cap,(hg.block p (Array.getElem?_eq_some_iff.1 h1).1 (fun e=>hp e.symm)).trans h1,h2.kept (hg.block R h2.lt (fun e=>hR e.symm)),r⟩
theorem ints_snoc (l:List Nat) (x:Nat):(ints (l++[x])).map (Value.int .u8)=(ints l).map (Value.int .u8)++[.int .u8 (x:Int)]:=by unfold ints;simp
theorem lev_next {w wr wc w4 w5:World} {ds:List Int} {base n i m p R p' R' lc kc:Nat} {P:LPile} {ls:List Nat} {ks:List Int} {la ka:Option Addr} {S:LPile × Nat × Int} {o1 o2:Obj} {v4 v5:Value}
 (rel:LevRel w ds base n i (m+1) P p R ls ks (.slice la ls.length lc) (.slice ka ks.length kc) wr) (hb:base≤125) (hS:P.step base ds i=S)
 (b1:PileAt wc (w.heap.size+1) p' R' S.1) (b2:p'=p∨wr.heap.size≤p') (b3:R'=R∨wr.heap.size≤R') (b4:Keep2 p R wr wc)
 (g1:(wc.alloc o1).grownBy w4 (Value.slice la ls.length lc).ownBlock) (o4:w4.ownsRow (w.heap.size+1) 5 1 v4 (ls.length+1) ((ints ls).map (Value.int .u8)++[.int .u8 (S.2.1:Nat)]))
 (l4:v4.ownBlock=(Value.slice la ls.length lc).ownBlock∨v4.ownBlock=some (wc.alloc o1).heap.size)
 (g2:(w4.alloc o2).grownBy w5 (Value.slice ka ks.length kc).ownBlock) (o5:w5.ownsRow (w.heap.size+1) 22 1 v5 (ks.length+1) (ks.map (Value.int .i8)++[.int .i8 S.2.2]))
 (l5:v5.ownBlock=(Value.slice ka ks.length kc).ownBlock∨v5.ownBlock=some (w4.alloc o2).heap.size) :
 LevRel w ds base n (i+1) m S.1 p' R' (ls++[S.2.1]) (ks++[S.2.2]) v4 v5 w5:=by
 have z0:=b4.size
 have z1:=g1.size
 have z2:=g2.size
 rw [World.size_alloc] at z1 z2 l4 l5
 have q:=b1.lt
 have q0:=rel.pile.lt
 generalize hlv:Value.slice la ls.length lc=lv at *
 generalize hkv:Value.slice ka ks.length kc=kv at *
 have hl:=fun g (hg:lv.ownBlock=some g)=>rel.lown.lt g hg
 have hk:=fun g (hg:kv.ownBlock=some g)=>rel.kown.lt g hg
 have lp:∀g,lv.ownBlock=some g→g≠p'∧g≠R':=fun g hg=>by
  have a:=rel.la g hg
  have c:=hl g hg
  constructor
  ·rcases b2 with e | e <;> omega
  ·rcases b3 with e | e <;> omega
 have kp:∀g,kv.ownBlock=some g→g≠p'∧g≠R':=fun g hg=>by
  have a:=rel.ka g hg
  have c:=hk g hg
  constructor
  ·rcases b2 with e | e <;> omega
  ·rcases b3 with e | e <;> omega
 have hsz:=rel.sz
 refine⟨by have:=rel.im;omega,?_,?_,?_,by rw [←hS];exact rel.ok.step base hb ds i,?_,?_,?_,?_,by omega,by rw [←rel.eq,levF,hS],by rw [List.length_append,rel.ll];rfl,by rw [List.length_append,rel.kl];rfl⟩
 ·rw [List.length_append,List.length_singleton,ints_snoc]
  refine ownsRow_ne (o4.alloc o2) g2 fun g hg=>?_
  intro e
  have c:=hk g e
  rcases l4 with e' | e'
  ·rw [e'] at hg
   exact (rel.la g hg).2.2 e
  ·rw [e'] at hg
   cases hg
   omega
 ·rw [List.length_append,List.length_singleton,List.map_append]
  exact o5
 ·have a1:=(b1.keep ((Below.refl _ wc).alloc (Nat.le_refl _) o1)).far g1 (fun e=>(lp p' e).1 rfl) (fun e=>(lp R' e).2 rfl)
  exact (a1.keep ((Below.refl _ w4).alloc (Nat.le_refl _) o2)).far g2 (fun e=>(kp p' e).1 rfl) (fun e=>(kp R' e).2 rfl)
 ·intro g hg
  rcases l4 with e | e
  ·rw [e] at hg
   refine⟨(lp g hg).1,(lp g hg).2,?_⟩
   have c:=hl g hg
   rcases l5 with e' | e'
   ·rw [e'];exact (rel.la g hg).2.2
   ·rw [e'];intro e'';have:=Option.some.inj e'';omega
  ·rw [e] at hg
   cases hg
   refine⟨by omega,by omega,?_⟩
   rcases l5 with e' | e'
   ·intro e''
    rw [e'] at e''
    have:=hk _ e''
    omega
   ·rw [e'];intro e'';have:=Option.some.inj e'';omega
 ·intro g hg
  rcases l5 with e | e
  ·rw [e] at hg;exact kp g hg
  ·rw [e] at hg;cases hg;exact⟨by omega,by omega⟩
 ·have h1:=(b4.block w.heap.size (by omega) (by omega) (by omega)).trans rel.beg
  have h2:=(Below.heap_alloc wc o1 w.heap.size (by omega)).trans h1
  have h3:=(g1.block w.heap.size (by rw [World.size_alloc];omega) (fun e=>by have:=hl _ e.symm;omega)).trans h2
  have h4:=(Below.heap_alloc w4 o2 w.heap.size (by omega)).trans h3
  exact (g2.block w.heap.size (by rw [World.size_alloc];omega) (fun e=>by have:=hk _ e.symm;omega)).trans h4
 ·have h1:=rel.bel.trans (b4.below (B:=w.heap.size) (by omega) (by omega) (by omega))
  have h2:=(h1.alloc (by omega) o1).grown g1 (by rw [World.size_alloc];omega) (fun k hk'=>by have:=hl _ hk';omega)
  exact (h2.alloc (by omega) o2).grown g2 (by rw [World.size_alloc];omega) (fun k hk'=>by have:=hk _ hk';omega)
set_option maxRecDepth 100000 in
set_option maxHeartbeats 1000000 in
theorem LLevels_any (a:Option Addr) (ds:List Int) (n cap base:Nat) (w:World) (hl:ds.length=n) (hd:Rd .i8 w a ds) (hn:n≤2097152) (hnc:n≤cap) (hcm:cap≤9223372036854775807) (hb:base≤125) :
 Calls Tryz.prog 156 #[.slice a n cap,.int .u8 base] w (LevPost ds base n w):=by
 obtain⟨i5,hi5,hz5,ha5,hb5⟩:=info_parts (Tryz.info_u8)
 obtain⟨i40,hi40,hz40,ha40,hb40⟩:=info_parts (Tryz.info_i8)
 have HL:=lh hl
 have HI:Hid (levF base ds n 0 ⟨[⟨base,-1,false⟩],0,0,0⟩ [] []=levI ds base):=by
  unfold levI;rw [Nat.min_eq_left hb,hl];exact rfl
 have hmin:min (base:Int) 125=base:=by omega
 clear hl
 go_enter Tryz.func156,Tryz.ntmps156
 go_wp2_with (fail)
 have hlen1:∀o1,(w.alloc o1).heap.size=w.heap.size+1:=fun o1=>World.size_alloc w o1
 have hP0:=newPile (w.alloc (.cells #[.int .u8 base,.int .i8 (-1),.bool false] 255)) (w.heap.size+1) base (by rw [hlen1];omega)
 rw [hlen1] at hP0
 have hbel0:=(((Below.refl w.heap.size w).alloc (Nat.le_refl _) (.cells #[.int .u8 base,.int .i8 (-1),.bool false] 255)).alloc (by simp) (.cells #[.int .u8 base,.int .i8 (-1),.bool false] 255)).alloc (by simp;omega) (.cells #[.slice (some ⟨w.heap.size+1,0,none⟩) 1 1,.int .i64 0,.int .i64 0,.int .i64 0] 259)
 go_loopw [4,5,7,23] (fun u4 u5 u7 u23 wx=>∃i m P p R ls ks,u7=.pointer (some ⟨p,0,none⟩)∧u23=.int .i64 (i:Nat)∧LevRel w ds base n i m P p R ls ks u4 u5 wx) (fun _ _ _ c _=>n-(intOf c).toNat)
 case atStart =>
  refine⟨0,n,⟨[⟨base,-1,false⟩],0,0,0⟩,w.heap.size+1+1,w.heap.size+1,[],[],rfl,rfl,⟨by omega,World.ownsRow_nil _ _ _ _,World.ownsRow_nil _ _ _ _,hP0,LPile.begin_ok base 0 hb,fun g hg=>by simp [Value.ownBlock] at hg,fun g hg=>by simp [Value.ownBlock] at hg,?_,hbel0,by simp,HI.out,rfl,rfl⟩⟩
  exact (Below.heap_alloc _ _ _ (by simp;omega)).trans ((Below.heap_alloc _ _ _ (by simp)).trans (heap_alloc_new w _))
 case round =>
  clear hP0 hbel0
  obtain⟨i,m,P,p,R,ls,ks,rfl,rfl,rel⟩:=hrel
  have him:=rel.im
  by_cases hi:i<n
  ·obtain⟨la,lc,hlv,hlc1,hlc2⟩:=own_slice rel.lown
   obtain⟨ka,kc,hkv,hkc1,hkc2⟩:=own_slice rel.kown
   subst hlv hkv
   obtain⟨G,o,rfl,hGl,hGc⟩:=hd.at rel.bel i (by have:=HL.out;omega)
   obtain⟨y,hy⟩:∃y,ith ds i=y:=⟨_,rfl⟩
   rw [hy] at hGc
   obtain⟨d,hd'⟩:∃d,lkn y=d:=⟨_,rfl⟩
   have HST:=lh (P.step_at base ds i d (by rw [hy];exact hd'))
   have HD:Hid (∀W,Calls Tryz.prog 153 #[.int .i8 y] W fun e w'=>e=.returned (.int .i8 d)∧W=w'):=lh fun W=>by rw [←hd'];exact lknown_any y W
   have hdb:=lkn_bd y
   rw [hd'] at hdb
   have HTOP:=lh (fun W (hb:Below wr.heap.size wr W)=>top_any W _ p R P (rel.pile.keep hb) rel.ok.ne)
   have HSAID:=lh (fun W (hb:Below wr.heap.size wr W)=>said_any W _ p R P d (rel.pile.keep hb) rel.ok.ne)
   have hlv:=rel.ok.top.1
   have hple:=rel.ok.len
   have hpem:=rel.ok.emb
   have REL:=lh rel
   clear hd' hy rel
   obtain⟨s,hs⟩:∃s,P.top=s:=⟨_,rfl⟩
   obtain⟨sd,hsd⟩:∃sd,P.said d=sd:=⟨_,rfl⟩
   have HTV:Hid (∀W,Below wr.heap.size wr W→Calls Tryz.prog 183 #[.pointer (some ⟨p,0,none⟩)] W fun e w'=>e=.returned (.agg #[.int .u8 s.level,.int .i8 s.over,.bool s.iso])∧Below W.heap.size W w'):=lh fun W hb=>by rw [←hs];exact HTOP.out W hb
   have HSV:Hid (∀W,Below wr.heap.size wr W→Calls Tryz.prog 184 #[.pointer (some ⟨p,0,none⟩),.int .i8 d] W fun e w'=>e=.returned (.int .i8 sd)∧Below W.heap.size W w'):=lh fun W hb=>by rw [←hsd];exact HSAID.out W hb
   rw [hs,hsd] at HST
   have hf0:=st_field0 (.int .u8 s.level) (.int .i8 s.over) (.bool s.iso)
   clear HTOP HSAID hs hsd
   go_upto_block 2 with (first | (go_at_call 153;refine (HD.out _).mono ?_;rintro e w' ⟨rfl,hw'⟩;subst hw') | (go_at_call 183;refine (HTV.out _ (Below.refl _ _)).mono ?_;rintro e w1 ⟨rfl,hw1⟩) | (go_at_call 184;refine (HSV.out _ hw1).mono ?_;rintro e w2 ⟨rfl,hw2⟩))
   have hb2:Below wr.heap.size wr w2:=hw1.trans (hw2.mono hw1.size)
   have HP2:=lh (REL.out.pile.keep hb2)
   have hbeg:w2.heap[w.heap.size]? = some (.cells #[.int .u8 base,.int .i8 (-1),.bool false] 255 (0,0)):=(hb2.block _ (by have:=REL.out.sz;omega)).trans REL.out.beg
   have e0:w2.cell? ⟨w.heap.size,0,none⟩=some (.int .u8 base):=by simp [World.cell?,hbeg]
   have e1:w2.cell? ⟨w.heap.size,1,none⟩=some (.int .i8 (-1)):=by simp [World.cell?,hbeg]
   have e2:w2.cell? ⟨w.heap.size,2,none⟩=some (.bool false):=by simp [World.cell?,hbeg]
   have hs2:wr.heap.size≤w2.heap.size:=hb2.size
   have HB2:=lh hb2
   have HDR:=lh (hd.below (w':=w2) ((REL.out.bel.trans (hb2.mono REL.out.bel.size))))
   clear hw1 hw2 hb2 hbeg hGc
   go_cut [7,10,11] (fun v7 v10 v11 wx=>LevMid (w.heap.size+1) p R wr (P.step base ds i) v7 v10 v11 wx)
   case first =>
    have hsame:∀k,LevMid (w.heap.size+1) p R wr (P,s.level,k) (.pointer (some ⟨p,0,none⟩)) (.int .u8 s.level) (.int .i8 k) w2:=fun k=>⟨p,R,rfl,rfl,rfl,HP2.out,.inl rfl,.inl rfl,Keep2.of HB2.out⟩
    have HSAME:=lh hsame
    clear hsame
    by_cases ca:14≤d∧d≤17
    ·have hst:=HST.out.trans (if_pos ca)
     have hem:=embed_any w2 _ p R P d HP2.out REL.out.ok.ne hlv (by omega) (by omega) (by omega)
     have HS:=lh hst
     have HEM:=lh hem
     have ca':d=14∨d=15∨d=16∨d=17:=by omega
     clear hst hem ca
     rcases ca' with rfl | rfl | rfl | rfl
     all_goals
      go_wp2_with (go_at_call 185;refine HEM.out.mono ?_;rintro e w3 ⟨rfl,R',a1,a2,a3⟩)
      go_meet
      rw [HS.out]
      exact⟨p,R',rfl,rfl,rfl,a1,.inl rfl,a2.imp id (fun h=>Nat.le_trans hs2 h),(Keep2.of HB2.out).trans a3 (.inl rfl)⟩
    ·have hst:=HST.out.trans (if_neg ca)
     by_cases cb:19≤d∧d≤21
     ·have hst:=hst.trans (if_pos cb)
      obtain⟨F,hF⟩:∃F,firstI (ds.drop (i+1))=F:=⟨_,rfl⟩
      rw [hF] at hst
      obtain⟨odd,hodd⟩:∃odd,(if d=21 then decide (F=1)||decide (F=2) else decide (d=20))=odd:=⟨_,rfl⟩
      rw [hodd] at hst
      have hl:=lay_any w2 _ p R P odd (-1) true HP2.out REL.out.ok.ne hlv (by omega)
      obtain⟨rm,hrm⟩:∃rm,P.room odd=rm:=⟨_,rfl⟩
      rw [hrm] at hst hl
      have HS:=lh hst
      have hdo:=REL.out.ok.deep
      have hoo:=REL.out.ok.opn
      have kt:rm=true→∀w3 R',PileAt w3 (w.heap.size+1) p R' (P.lay odd (-1) true)→(R'=R∨w2.heap.size≤R')→Keep2 p R w2 w3 →
       LevMid (w.heap.size+1) p R wr (P.step base ds i) (.pointer (some ⟨p,0,none⟩)) (.int .u8 s.level) (.int .i8 sd) (w3.setCell ⟨p,1,none⟩ (.int .i64 ((P.opn:Int)+1))):=fun hr w3 R' a1 a2 a3=>by
       rw [HS.out,if_pos hr]
       exact⟨p,R',rfl,rfl,rfl,iso_true a1,.inl rfl,a2.imp id (fun h=>Nat.le_trans hs2 h),((Keep2.of HB2.out).trans a3 (.inl rfl)).set 1 _⟩
      have kf:rm=false→∀w3 R',PileAt w3 (w.heap.size+1) p R' (P.lay odd (-1) true)→(R'=R∨w2.heap.size≤R')→Keep2 p R w2 w3 →
       LevMid (w.heap.size+1) p R wr (P.step base ds i) (.pointer (some ⟨p,0,none⟩)) (.int .u8 s.level) (.int .i8 sd) (w3.setCell ⟨p,2,none⟩ (.int .i64 ((P.deep:Int)+1))):=fun hr w3 R' a1 a2 a3=>by
       rw [HS.out,if_neg (by rw [hr];decide)]
       exact⟨p,R',rfl,rfl,rfl,iso_false a1 (hrm.trans hr),.inl rfl,a2.imp id (fun h=>Nat.le_trans hs2 h),((Keep2.of HB2.out).trans a3 (.inl rfl)).set 2 _⟩
      have KT:=lh kt
      have KF:=lh kf
      have HLAY:=lh hl
      have HFF:=lh hF
      have cb':d=19∨d=20∨d=21:=by omega
      clear hst kt kf hl hF hrm cb ca
      have g1:(i:Int)+1≤(n:Int):=by omega
      have g2:(n:Int)≤(cap:Int):=by omega
      rcases cb' with rfl | rfl | rfl
      ·rw [if_neg (by decide)] at hodd
       go_upto_if 61 with (fail)
       go_cut [12] (fun t wx=>t=.bool odd∧wx=w2)
       case first =>
        go_wp2_with (fail)
        go_meet
        exact⟨by rw [←hodd];rfl,rfl⟩
       case rest =>
        obtain⟨rfl,hwx⟩:=hcut
        have hwx':=hwx.symm
        clear hwx
        subst hwx'
        cases rm with
        | true =>
          go_wp2_with (go_at_call 186;refine HLAY.out.mono ?_;rintro e w3 ⟨rfl,R',a1,a2,a3⟩;obtain⟨c1,c2,f1,f2⟩:=iso_cells a1)
          go_meet
          exact KT.out (by first | rfl | trivial) w3 R' a1 a2 a3
        | false =>
          go_wp2_with (go_at_call 186;refine HLAY.out.mono ?_;rintro e w3 ⟨rfl,R',a1,a2,a3⟩;obtain⟨c1,c2,f1,f2⟩:=iso_cells a1)
          go_meet
          exact KF.out (by first | rfl | trivial) w3 R' a1 a2 a3
      ·rw [if_neg (by decide)] at hodd
       go_upto_if 61 with (fail)
       go_cut [12] (fun t wx=>t=.bool odd∧wx=w2)
       case first =>
        go_wp2_with (fail)
        go_meet
        exact⟨by rw [←hodd];rfl,rfl⟩
       case rest =>
        obtain⟨rfl,hwx⟩:=hcut
        have hwx':=hwx.symm
        clear hwx
        subst hwx'
        cases rm with
        | true =>
          go_wp2_with (go_at_call 186;refine HLAY.out.mono ?_;rintro e w3 ⟨rfl,R',a1,a2,a3⟩;obtain⟨c1,c2,f1,f2⟩:=iso_cells a1)
          go_meet
          exact KT.out (by first | rfl | trivial) w3 R' a1 a2 a3
        | false =>
          go_wp2_with (go_at_call 186;refine HLAY.out.mono ?_;rintro e w3 ⟨rfl,R',a1,a2,a3⟩;obtain⟨c1,c2,f1,f2⟩:=iso_cells a1)
          go_meet
          exact KF.out (by first | rfl | trivial) w3 R' a1 a2 a3
      ·rw [if_pos rfl] at hodd
       go_upto_if 61 with (fail)
       go_cut [12] (fun t wx=>t=.bool odd∧wx=w2)
       case first =>
        go_upto_region 24 with (fail)
        go_cut [13] (fun t wx=>t=.int .i8 F∧wx=w2)
        case first =>
         by_cases hcap:cap=i+1
         ·have hnn:n=i+1:=by omega
          have hnil:ds.drop (i+1)=[]:=by rw [List.drop_eq_nil_iff];have:=HL.out;omega
          have HFI:=lh (first_any (some ⟨G,o,none⟩) [] 0 0 w2 rfl (.inl rfl) (by omega))
          have e3:=HFF.out
          rw [hnil] at e3
          rw [e3] at HFI
          clear e3 hnil HST HDR
          subst hcap
          subst hnn
          go_wp2_with (go_at_call 154;refine (HFI.out).mono ?_;rintro e w' ⟨rfl,hw'⟩;have hw2:=hw'.symm;clear hw';subst hw2)
          go_meet
          exact⟨rfl,rfl⟩
         ·have HFI:=lh (first_any (some ⟨G,o+(i+1),none⟩) (ds.drop (i+1)) (n-(i+1)) (cap-(i+1)) w2 (by rw [List.length_drop,HL.out]) (rd_drop HDR.out (i+1)) (by omega))
          rw [HFF.out] at HFI
          go_wp2_with (go_at_call 154;refine (HFI.out).mono ?_;rintro e w' ⟨rfl,hw'⟩;have hw2:=hw'.symm;clear hw';subst hw2)
          go_meet
          exact⟨rfl,rfl⟩
        case rest =>
         obtain⟨rfl,hwx⟩:=hcut
         have hwx':=hwx.symm
         clear hwx
         subst hwx'
         by_cases f1:F=1
         ·subst f1
          go_wp2_with (fail)
          go_meet
          exact⟨by rw [←hodd];rfl,rfl⟩
         ·by_cases f2:F=2
          ·subst f2
           go_wp2_with (fail)
           go_meet
           exact⟨by rw [←hodd];rfl,rfl⟩
          ·have f1':(F==1)=false:=by simpa using f1
           have f2':(F==2)=false:=by simpa using f2
           go_wp2_with (fail)
           go_meet
           exact⟨by rw [←hodd,decide_eq_false f1,decide_eq_false f2];rfl,rfl⟩
       case rest =>
        obtain⟨rfl,hwx⟩:=hcut
        have hwx':=hwx.symm
        clear hwx
        subst hwx'
        cases rm with
        | true =>
          go_wp2_with (go_at_call 186;refine HLAY.out.mono ?_;rintro e w3 ⟨rfl,R',a1,a2,a3⟩;obtain⟨c1,c2,f1,f2⟩:=iso_cells a1)
          go_meet
          exact KT.out (by first | rfl | trivial) w3 R' a1 a2 a3
        | false =>
          go_wp2_with (go_at_call 186;refine HLAY.out.mono ?_;rintro e w3 ⟨rfl,R',a1,a2,a3⟩;obtain⟨c1,c2,f1,f2⟩:=iso_cells a1)
          go_meet
          exact KF.out (by first | rfl | trivial) w3 R' a1 a2 a3
     ·have hst:=hst.trans (if_neg cb)
      by_cases cc:d=22
      ·have hst:=hst.trans (if_pos cc)
       have HS:=lh hst
       subst cc
       have okc:=REL.out.ok.close
       have HCL:=lh (close_any w2 _ p R P i HP2.out REL.out.ok (by omega))
       have hcf:=stV_f0 P.close.top
       clear hst ca cb
       go_wp2_with (first | (go_at_call 187;refine HCL.out.mono ?_;rintro e w3 ⟨rfl,R',a1,a2,a3⟩) | (go_at_call 183;refine (top_any w3 _ p R' P.close a1 okc.ne).mono ?_;rintro e w4 ⟨rfl,hw4⟩) | (go_at_call 184;refine (said_any w4 _ p R' P.close 22 (a1.keep hw4) okc.ne).mono ?_;rintro e w5 ⟨rfl,hw5⟩))
       go_meet
       rw [HS.out]
       exact⟨p,R',rfl,rfl,rfl,(a1.keep hw4).keep hw5,.inl rfl,a2.imp id (fun h=>Nat.le_trans hs2 h),(((Keep2.of HB2.out).trans a3 (.inl rfl)).trans (Keep2.of hw4) (.inl rfl)).trans (Keep2.of hw5) (.inl rfl)⟩
      ·have hst:=hst.trans (if_neg cc)
       by_cases cd:d=18
       ·have hst:=hst.trans (if_pos cd)
        have HS:=lh hst
        subst cd
        have okc:=REL.out.ok.fin
        have HCL:=lh (fin_any w2 _ p R P HP2.out REL.out.ok.ne (by omega) (by omega))
        have hcf:=stV_f0 P.fin.top
        clear hst ca cb cc
        go_wp2_with (first | (go_at_call 188;refine HCL.out.mono ?_;rintro e w3 ⟨rfl,R',a1,a2,a3⟩) | (go_at_call 183;refine (top_any w3 _ p R' P.fin a1 okc.ne).mono ?_;rintro e w4 ⟨rfl,hw4⟩))
        go_meet
        rw [HS.out]
        exact⟨p,R',rfl,rfl,rfl,a1.keep hw4,.inl rfl,a2.imp id (fun h=>Nat.le_trans hs2 h),((Keep2.of HB2.out).trans a3 (.inl rfl)).trans (Keep2.of hw4) (.inl rfl)⟩
       ·have hst:=hst.trans (if_neg cd)
        by_cases ce:d=9
        ·have hst:=hst.trans (if_pos ce)
         have HS:=lh hst
         subst ce
         clear hst ca cb cc cd
         go_wp2_with (fail)
         go_meet
         rw [HS.out]
         exact HSAME.out 9
        ·have hst:=hst.trans (if_neg ce)
         by_cases cf:d=10
         ·have hst:=hst.trans (if_pos cf)
          have HS:=lh hst
          subst cf
          clear hst ca cb cc cd ce
          have hBs:w.heap.size+1≤w2.heap.size:=by have:=REL.out.sz;omega
          have hB1:w.heap.size<w2.heap.size:=by omega
          have e0':((w2.alloc (.cells #[.int .u8 base,.int .i8 (-1),.bool false] 255)).alloc (.cells #[.slice (some ⟨w2.heap.size,0,none⟩) 1 1,.int .i64 0,.int .i64 0,.int .i64 0] 259)).cell? ⟨w.heap.size,0,none⟩=some (.int .u8 base):=by
           rw [←e0]
           exact World.cell?_of_block ((Below.heap_alloc _ _ _ (by simp;omega)).trans (Below.heap_alloc _ _ _ hB1))
          go_wp2_with (fail)
          go_meet
          rw [HS.out]
          exact⟨w2.heap.size+1,w2.heap.size,rfl,rfl,rfl,newPile w2 _ base hBs,.inr (by omega),.inr hs2,((Keep2.of HB2.out).alloc _).alloc _⟩
         ·have hst:=hst.trans (if_neg cf)
          have HS:=lh hst
          have n14:(d==14)=false:=by rw [beq_eq_false_iff_ne];omega
          have n15:(d==15)=false:=by rw [beq_eq_false_iff_ne];omega
          have n16:(d==16)=false:=by rw [beq_eq_false_iff_ne];omega
          have n17:(d==17)=false:=by rw [beq_eq_false_iff_ne];omega
          have n18:(d==18)=false:=by rw [beq_eq_false_iff_ne];omega
          have n19:(d==19)=false:=by rw [beq_eq_false_iff_ne];omega
          have n20:(d==20)=false:=by rw [beq_eq_false_iff_ne];omega
          have n21:(d==21)=false:=by rw [beq_eq_false_iff_ne];omega
          have n22:(d==22)=false:=by rw [beq_eq_false_iff_ne];omega
          have n9:(d==9)=false:=by rw [beq_eq_false_iff_ne];omega
          have n10:(d==10)=false:=by rw [beq_eq_false_iff_ne];omega
          clear hst ca cb cc cd ce cf
          go_wp2_with (fail)
          go_meet
          rw [HS.out]
          exact HSAME.out sd
   case rest =>
    obtain⟨p',R',rfl,rfl,rfl,b1,b2,b3,b4⟩:=hcut
    obtain⟨S,hS⟩:∃S,P.step base ds i=S:=⟨_,rfl⟩
    obtain⟨q,hq⟩:∃q,m=q+1:=⟨m-1,by omega⟩
    subst hq
    have HLO:=lh (b4.own REL.out.lown fun g hg=>⟨(REL.out.la g hg).1,(REL.out.la g hg).2.1⟩)
    have HKO:=lh (b4.own REL.out.kown fun g hg=>REL.out.ka g hg)
    have hzc:=b4.size
    have hzr:=REL.out.sz
    have hll:ls.length≤2097152:=by have:=REL.out.ll;omega
    have hkl:ks.length≤2097152:=by have:=REL.out.kl;omega
    rw [hS] at b1 ⊢
    have HSS:=lh hS
    obtain⟨SP,Sl,Sk⟩:=S
    clear hS HST HDR e0 e1 e2 hlv hs2 hf0
    go_wp2_with (first
     | (at_builtin;refine wpList_append_own_at _ rfl _ _ 134 rfl (w.heap.size+1) 5 i5 (.int .u8 0) 1 1 Tryz.underlying134 hi5 hz5 ha5 hb5 rfl (by decide) _ ls.length _ rfl (HLO.out.alloc _) ⟨wc.heap.size,0,none⟩ 1 1 [.int .u8 (Sl:Nat)] rfl rfl (cell_one_new _ _ _) (by simp [Value.oneCell']) (by unfold maxLen;omega) (by omega) (by simp;omega) ?_;intro v4 w4 o4 g1 _ l4;have HKO4:=lh (ownsRow_ne (HKO.out.alloc _) g1 (fun g hg e=>(REL.out.la g e).2.2 hg));have hz4:=g1.size;rw [World.size_alloc] at hz4;have O4:=lh o4;have G1:=lh g1;have L4:=lh l4;clear o4 g1 l4)
     | (at_builtin;refine wpList_append_own_at _ rfl _ _ 103 rfl (w.heap.size+1) 22 i40 (.int .i8 0) 1 1 Tryz.underlying103 hi40 hz40 ha40 hb40 rfl (by decide) _ ks.length _ rfl (HKO4.out.alloc _) ⟨w4.heap.size,0,none⟩ 1 1 [.int .i8 Sk] rfl rfl (cell_one_new _ _ _) (by simp [Value.oneCell']) (by unfold maxLen;omega) (by omega) (by simp;omega) ?_;intro v5 w5 o5 g2 _ l5))
    go_roundw
    case rel=>exact⟨i+1,q,SP,p',R',ls++[Sl],ks++[Sk],rfl,by go_num,lev_next REL.out hb HSS.out b1 b2 b3 b4 G1.out O4.out L4.out g2 o5 l5⟩
    case measure=>simp [intOf];omega
  ·have hm0:m=0:=by omega
   have REL:=lh rel
   obtain⟨la,lc,hlv,hlc1,hlc2⟩:=own_slice rel.lown
   obtain⟨ka,kc,hkv,hkc1,hkc2⟩:=own_slice rel.kown
   subst hlv hkv hm0
   clear rel
   go_wp2_with (fail)
   go_ret2
   have r:=REL.out
   have hll:=r.ll
   have hkl:=r.kl
   have hin:i=n:=by omega
   have he:=r.eq
   rw [levF] at he
   have h1:(levI ds base).1=ls:=by rw [←he]
   have h2:(levI ds base).2=ks:=by rw [←he]
   refine⟨la,lc,ka,kc,by rw [hll,hkl,hin];rfl,?_,?_,r.bel⟩
   ·rw [h1]
    have:=ownsRow_base (base':=w.heap.size) r.lown (by omega)
    unfold OutAt
    have e:(ints ls).length=ls.length:=by unfold ints;simp
    rw [e];exact this
   ·rw [h2]
    exact ownsRow_base (base':=w.heap.size) r.kown (by omega)
end
end Go.Proofs.YtlmjbfncopbilaaGreatDoor
