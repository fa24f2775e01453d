/- Part 30 (merged by a program): lemmas of no further condition than each states. -/
import Derived.Test.YtlbclfmbejjneaaGreatDoorR29
namespace Go.Proofs.YtlbclfmbejjneaaGreatDoor
set_option linter.unusedVariables false
set_option linter.unusedSimpArgs false
section
open Go.RowKit Go.Proofs Go.Shelf
attribute [local go_sem] Oper.semAt_some
theorem bl_set {b:Nat} {A W:World} (h:Below b A W) (i:Nat) (v:Value):Below b A (W.setCell ⟨b,i,none⟩ v):=h.setCell (p:=⟨b,i,none⟩) (Nat.le_refl _) v
structure LvS (w:World) (b:Nat) (lv sv:Value) (fr tt bs:Nat) (wide:Int) (M:List Pc) (cg:Nat) (cs:List Int) (vb:Nat) (va:Option Addr) (vc:Nat) (vs:List Int) (W:World):Prop where
 ld:LdB W b lv sv fr tt bs wide
 own:OwnS pcE 75 W (b+1) lv M
 rd:Rd .i32 W (some ⟨cg,0,none⟩) cs
 vo:OutAt .u8 5 W vb va vc vs
 bel:Below b w W
section
variable {w W W':World} {b:Nat} {lv sv:Value} {fr tt bs:Nat} {wide:Int} {M:List Pc} {cg:Nat} {cs:List Int} {vb:Nat} {va:Option Addr} {vc:Nat} {vs:List Int}
theorem LvS.below (h:LvS w b lv sv fr tt bs wide M cg cs vb va vc vs W) (hb:Below W.heap.size W W'):LvS w b lv sv fr tt bs wide M cg cs vb va vc vs W' :=
 ⟨h.ld.below hb h.ld.lt,h.own.keep hb,h.rd.below hb,h.vo.keep hb,h.bel.trans (hb.mono (Nat.le_of_lt h.ld.lt))⟩
theorem LvS.drew (h:LvS w b lv sv fr tt bs wide M cg cs vb va vc vs W):LvS w b lv sv fr tt bs wide M cg cs vb va vc vs W.drew:=⟨h.ld,h.own,h.rd,h.vo,h.bel.drew⟩
end
structure LwS (w:World) (b G cap:Nat) (sv:Value) (fr tt bs:Nat) (wide:Int) (M:List Pc) (i:Nat) (p:Pc) (P:Nat) (oa:Option Addr) (oc:Nat) (own:List Int) (W:World):Prop where
 ld:LdB W b (.slice (some ⟨G,0,none⟩) M.length cap) sv fr tt bs wide
 row:∃y:Nat,OwnS pcE 75 W (b+1) (.slice (some ⟨G,0,none⟩) M.length cap) (M.set i { p with level:=y })
 box:W.heap[P]? = some (.cells #[.int .i64 p.a,.int .i64 p.size,.int .i64 p.c0,.int .i64 p.c1,.int .u8 p.level,.string p.became,.string p.shown,.int .i64 p.wide,.int .i64 p.e0,.int .i64 p.e1] 75 (0,0))
 out:OutAt .u8 5 W (b+1) oa oc own
 bel:Below b w W
theorem LwS.drew {w:World} {b G cap:Nat} {sv:Value} {fr tt bs:Nat} {wide:Int} {M:List Pc} {i:Nat} {p:Pc} {P:Nat} {oa:Option Addr} {oc:Nat} {own:List Int} {W:World} (h:LwS w b G cap sv fr tt bs wide M i p P oa oc own W):LwS w b G cap sv fr tt bs wide M i p P oa oc own W.drew:=⟨h.ld,h.row,h.box,h.out,h.bel.drew⟩
theorem LwS.set {w:World} {b G cap:Nat} {sv:Value} {fr tt bs:Nat} {wide:Int} {M:List Pc} {i:Nat} {p:Pc} {P:Nat} {oa:Option Addr} {oc:Nat} {own:List Int} {W:World} (h:LwS w b G cap sv fr tt bs wide M i p P oa oc own W) (hi:i<M.length) (hP:G≠P) (x:Nat) :
 LwS w b G cap sv fr tt bs wide M i p P oa oc own (W.setCell ⟨G,i*10+4,none⟩ (.int .u8 x)):=by
 obtain⟨h1,⟨y,h2⟩,h3,h4,h5⟩:=h
 have hG:=World.ownsRow.lt h2 G rfl
 have hml:(M.set i { p with level:=y }).length=M.length:=List.length_set
 have hge:(M.set i { p with level:=y })[i]? = some { p with level:=y }:=by rw [List.getElem?_set];simp [hi]
 refine⟨box_other h1 (by omega),⟨x,?_⟩,box_other h3 (fun e=>hP e.symm),?_,h5.trans ((Below.refl _ W).setCell (p:=⟨G,i*10+4,none⟩) (show b≤G by omega) _)⟩
 ·have:=OwnS.set (cap:=cap) (by rw [hml];exact h2) i _ { p with level:=x } hge 4 (.int .u8 x) (by decide) rfl
  rw [List.set_set,List.length_set] at this
  exact this
 ·refine row_other h4 (fun g hg e=>?_)
  subst e
  rcases h4.2 with ⟨e1,_⟩ | ⟨g',c',cur,e1,_,hb,_⟩
  ·rw [e1] at hg;cases hg
  ·rw [e1] at hg
   have:g'=g:=Option.some.inj hg
   subst this
   rcases h2.2 with ⟨e2,_⟩ | ⟨g2,c2,cur2,e2,_,hb2,_⟩
   ·simp at e2
   ·simp only [Value.slice.injEq,Option.some.injEq,Addr.mk.injEq] at e2
    obtain⟨⟨rfl,_⟩,_⟩:=e2
    rw [hb] at hb2
    cases hb2
theorem LwS.rowx {w:World} {b G cap:Nat} {sv:Value} {fr tt bs:Nat} {wide:Int} {M:List Pc} {i:Nat} {p:Pc} {P:Nat} {oa:Option Addr} {oc:Nat} {own:List Int} {W:World} (h:LwS w b G cap sv fr tt bs wide M i p P oa oc own W) (hi:i<M.length) (x:Nat) :
 OwnS pcE 75 (W.setCell ⟨G,i*10+4,none⟩ (.int .u8 x)) (b+1) (.slice (some ⟨G,0,none⟩) M.length cap) (M.set i { p with level:=x }):=by
 obtain⟨h1,⟨y,h2⟩,h3,h4,h5⟩:=h
 have hml:(M.set i { p with level:=y }).length=M.length:=List.length_set
 have hge:(M.set i { p with level:=y })[i]? = some { p with level:=y }:=by rw [List.getElem?_set];simp [hi]
 have:=OwnS.set (cap:=cap) (by rw [hml];exact h2) i _ { p with level:=x } hge 4 (.int .u8 x) (by decide) rfl
 rw [List.set_set,List.length_set] at this
 exact this
theorem lastC_get {L:List Pc} {n:Nat} {p:Pc} (hn:L.length=n+1) (h:L[n]? = some p):lastC L=p.c1:=by
 unfold lastC
 rw [List.getLastD_eq_getLast?,List.getLast?_eq_getElem?,hn,Nat.add_sub_cancel,h]
 rfl
theorem out_addr {k:IntKind} {e base cap:Nat} {w:World} {ao:Option Addr} {out:List Int} (h:OutAt k e w base ao cap out):(ao=none∧cap=0)∨∃G o,ao=some ⟨G,o,none⟩:=by
 rcases h.2 with ⟨h1,h0⟩ | ⟨g,cap',cur,h1,_⟩
 ·simp only [Value.slice.injEq] at h1
  exact .inl ⟨h1.1,h1.2.2⟩
 ·simp only [Value.slice.injEq] at h1
  exact .inr ⟨g,0,h1.1⟩
def lvP (own:List Nat) (L:List Pc) (i:Nat):List Pc:=(L.take i).map (levelP own)++L.drop i
theorem lvP_zero (own:List Nat) (L:List Pc):lvP own L 0=L:=by unfold lvP;simp
theorem lvP_all (own:List Nat) (L:List Pc):lvP own L L.length=L.map (levelP own):=by unfold lvP;simp
theorem lvP_len (own:List Nat) (L:List Pc) (i:Nat) (h:i≤L.length):(lvP own L i).length=L.length:=by unfold lvP;simp;omega
theorem lvP_get (own:List Nat) (L:List Pc) (i:Nat) (p:Pc) (h:L[i]? = some p):(lvP own L i)[i]? = some p:=by
 have hl:=(List.getElem?_eq_some_iff.1 h).1
 unfold lvP
 rw [List.getElem?_append_right (by simp;omega)]
 simp only [List.length_map,List.length_take]
 rw [List.getElem?_drop,show i+(i-min i L.length)=i by omega]
 exact h
theorem lvP_next (own:List Nat) (L:List Pc) (i:Nat) (p:Pc) (h:L[i]? = some p):(lvP own L i).set i (levelP own p)=lvP own L (i+1):=by
 have hl:=(List.getElem?_eq_some_iff.1 h).1
 unfold lvP
 have h1:(List.map (levelP own) (L.take i)).length=i:=by simp;omega
 rw [List.set_append_right _ _ (by omega),h1,Nat.sub_self,List.take_add_one,h,List.map_append,dropR_cons h,List.set_cons_zero,List.append_assoc]
 rfl
set_option maxRecDepth 100000 in
set_option maxHeartbeats 2000000 in
theorem rLev_any (s:ByteArray) (hs:s.size≤2097152) (tab want:Int) (wideA join raw:Bool) (b:Nat) (lv sv:Value) (fr tt:Nat) (wide:Int) (L:List Pc) (w:World) (hL:LdB w b lv sv fr tt 0 wide) (hO:OwnS pcE 75 w (b+1) lv L) (hfr:fr≤s.size)
 (hn:L.length≤2097152) (hc:∀(i:Nat) (p:Pc),L[i]? = some p→p.c0<lastC L) (hlast:(runesI (s.extract 0 fr)).length+lastC L≤(runesI s).length) :
 Calls Tryz.prog 49 #[.pointer (some ⟨b,0,none⟩),.string s,lookV tab want wideA join raw] w fun e w'=>e=.returned (.tuple #[]) ∧
  LdB w' b lv sv fr tt (baseR s want raw) wide∧OwnS pcE 75 w' (b+1) lv (levelsI s want raw fr L)∧Below b w w':=by
 cases raw with
 | true =>
   have hbs:b<w.heap.size:=hL.lt
   go_enter Tryz.func49,Tryz.ntmps49
   go_upto_region 1 with (fail)
   have hb0:Below w.heap.size w (w.alloc (.cells #[.int .i64 tab,.bool wideA,.int .i8 want,.bool join,.bool true] 26)):=(Below.refl _ _).alloc (Nat.le_refl _) _
   have hx0:=World.alloc_heap_new w (.cells #[.int .i64 tab,.bool wideA,.int .i8 want,.bool join,.bool true] 26)
   generalize w.alloc (.cells #[.int .i64 tab,.bool wideA,.int .i8 want,.bool join,.bool true] 26)=W0 at hb0 hx0 ⊢
   have hs0:w.heap.size<W0.heap.size:=(Array.getElem?_eq_some_iff.1 hx0).1
   have l2:W0.cell? ⟨w.heap.size,2,none⟩=some (.int .i8 want):=by simp [World.cell?,hx0]
   have l4:W0.cell? ⟨w.heap.size,4,none⟩=some (.bool true):=by simp [World.cell?,hx0]
   have h0:LdB W0 b lv sv fr tt 0 wide:=hL.below hb0 hbs
   have o0:=hO.keep hb0
   have HB0:=lh hb0
   clear hb0 hx0 hL hO
   go_wp2_with (fail)
   exact bodyPost_ret (results_none rfl _ _ _) rfl ⟨rfl,h0,o0,HB0.out.mono (by omega)⟩
 | false =>
   obtain⟨V,hV⟩:∃V,visualI (runesI s) want=V:=⟨_,rfl⟩
   obtain⟨bs,hbs0⟩:∃bs:Nat,V.2=bs:=⟨V.2.toNat,by rw [←hV];unfold visualI;rcases baseF_bd want (((runesI s).map dirI).length+1) ((runesI s).map dirI) with h | h <;> (unfold baseI;dsimp only;omega)⟩
   have hbR:baseR s want false=bs:=by unfold baseR;rw [if_neg (by decide),hV,hbs0];rfl
   have hlR:levelsI s want false fr L=L.map (levelP (ownLv s want fr (lastC L))):=by unfold levelsI;rw [if_neg (by decide)]
   rw [hbR,hlR]
   clear hbR hlR
   have hbs:b<w.heap.size:=hL.lt
   go_enter Tryz.func49,Tryz.ntmps49
   go_upto_region 1 with (fail)
   have hb0:Below w.heap.size w (w.alloc (.cells #[.int .i64 tab,.bool wideA,.int .i8 want,.bool join,.bool false] 26)):=(Below.refl _ _).alloc (Nat.le_refl _) _
   have hx0:=World.alloc_heap_new w (.cells #[.int .i64 tab,.bool wideA,.int .i8 want,.bool join,.bool false] 26)
   generalize w.alloc (.cells #[.int .i64 tab,.bool wideA,.int .i8 want,.bool join,.bool false] 26)=W0 at hb0 hx0 ⊢
   have hs0:w.heap.size<W0.heap.size:=(Array.getElem?_eq_some_iff.1 hx0).1
   have l2:W0.cell? ⟨w.heap.size,2,none⟩=some (.int .i8 want):=by simp [World.cell?,hx0]
   have l4:W0.cell? ⟨w.heap.size,4,none⟩=some (.bool false):=by simp [World.cell?,hx0]
   have h0:LdB W0 b lv sv fr tt 0 wide:=hL.below hb0 hbs
   have o0:=hO.keep hb0
   have HB0:=lh hb0
   clear hb0 hx0 hL hO
   obtain⟨cs,hcs⟩:∃cs,runesI s=cs:=⟨_,rfl⟩
   have hcn:cs.length≤2097152:=by rw [←hcs];have:=runesI_len s;omega
   rw [hcs] at hV
   have HRU:Hid (∀W:World,Calls Tryz.prog 76 #[.string s] W fun e w'=>∃c,e=.returned (.slice (some ⟨W.heap.size,0,none⟩) cs.length c)∧Rd .i32 w' (some ⟨W.heap.size,0,none⟩) cs∧cs.length≤c∧c≤9223372036854775807∧Below W.heap.size W w'):=lh fun W=>hcs▸Runes_at s hs W
   go_upto_region 3 with (go_at_call 76;refine (HRU.out _).mono ?_;rintro e w1 ⟨cc,rfl,hrd1,hc1,hc2,hb1⟩)
   obtain⟨cg,hcg⟩:∃cg,W0.heap.size=cg:=⟨_,rfl⟩
   have hcgb:b<cg:=by omega
   rw [hcg] at hrd1
   have hT1:W0.heap.size≤w1.heap.size:=hb1.size
   have m2:=cell_bl hb1 hs0 l2
   have h1:=h0.below hb1 (by omega)
   have o1:=o0.keep hb1
   have HVL:=lh (VLevels_any (some ⟨cg,0,none⟩) cs cs.length cc want w1 rfl hrd1 hcn hc1 hc2)
   have hb01:=HB0.out.trans (hb1.mono (by omega))
   have HB1:=lh hb01
   have HRD1:=lh hrd1
   clear l2 l4 h0 o0 hb1 hb01 hrd1 HB0 HRU
   go_upto_region 4 with (go_at_call 77;refine HVL.out.mono ?_;rintro e w2 ⟨va,vc,rfl,hvl,hvo,hb2⟩)
   rw [hV] at hvl hvo
   have h2:=h1.below hb2 (by omega)
   have o2:=o1.keep hb2
   have hb02:=HB1.out.trans (hb2.mono (by omega))
   have HRD2:=lh (HRD1.out.below (hb2))
   obtain⟨la,lcap,hlv,hlcap,_⟩:=o2.slice
   subst hlv
   have d0:=h2.cells.1
   have d2:=h2.cells.2.2.1
   have d4:=h2.cells.2.2.2.2.1
   have f4:=h2.frz 4
   have HVO:=lh hvo
   have HVL':=lh hvl
   have HB2:=lh hb02
   have H2:=lh h2
   have O2:=lh o2
   have hs2:=hb2.size
   clear m2 h1 o1 hb2 hvo hvl hb02 h2 o2 HRD1 HB1 HVL
   go_upto_region 5 with (fail)
   have h3:LdB (w2.setCell ⟨b,4,none⟩ (.int .u8 bs)) b (.slice la L.length lcap) sv fr tt bs wide:=H2.out.set4 bs
   have o3:OwnS pcE 75 (w2.setCell ⟨b,4,none⟩ (.int .u8 bs)) (b+1) (.slice la L.length lcap) L:=O2.out.other (fun g hg=>by
    have:=World.ownsRow.lt O2.out g hg
    omega)
   have hb3:Below b w (w2.setCell ⟨b,4,none⟩ (.int .u8 bs)):=bl_set (HB2.out.mono (by omega)) _ _
   have hrd3:Rd .i32 (w2.setCell ⟨b,4,none⟩ (.int .u8 bs)) (some ⟨cg,0,none⟩) cs:=rd_set HRD2.out (by omega)
   have hvo3:OutAt .u8 5 (w2.setCell ⟨b,4,none⟩ (.int .u8 bs)) w1.heap.size va vc (ints V.1):=row_other HVO.out (fun g hg=>by have:=World.ownsRow.lt HVO.out g hg;omega)
   have hs3:w2.heap.size≤(w2.setCell ⟨b,4,none⟩ (.int .u8 bs)).heap.size:=(KeepsWalks.setCell _ _ _).size
   clear d0 d2 d4 f4 HVO HRD2 HB2 H2 O2
   generalize w2.setCell ⟨b,4,none⟩ (.int .u8 bs)=W3 at h3 o3 hb3 hrd3 hvo3 hs3 ⊢
   have d0:=h3.cells.1
   have d2:=h3.cells.2.2.1
   by_cases hL0:L=[]
   ·subst hL0
    have H3:=lh h3
    have O3:=lh o3
    have HB3:=lh hb3
    clear h3 o3 hb3 hrd3 hvo3 hc hlast
    go_wp2_with (fail)
    exact bodyPost_ret (results_none rfl _ _ _) rfl ⟨rfl,H3.out,O3.out,HB3.out⟩
   have hLpos:0<L.length:=List.length_pos_iff.2 hL0
   obtain⟨n,hn1⟩:∃n,L.length=n+1:=⟨L.length-1,by omega⟩
   obtain⟨lp,hlp⟩:∃lp,L[n]? = some lp:=⟨_,List.getElem?_eq_getElem (by omega)⟩
   have hlc:=lastC_get hn1 hlp
   obtain⟨F,hF⟩:∃F,(runesI (s.extract 0 fr)).length=F:=⟨_,rfl⟩
   have HCT:Hid (∀W:World,Calls Tryz.prog 75 #[.string (s.extract 0 fr)] W fun e w'=>e=.returned (.int .i64 F)∧Below W.heap.size W w'):=lh fun W=>hF▸sCount_any (s.extract 0 fr) (by simp [ByteArray.size_extract];omega) W
   rw [hF,hcs,hlc] at hlast
   obtain⟨own,hown,hownl⟩:=rowI_some cs V.1 bs F lp.c1 hlast HVL'.out
   rw [Int.natCast_add] at hown
   have hownLv:ownLv s want fr (lastC L)=own:=by
    unfold ownLv
    rw [hcs,hV,hbs0,hF,hlc,Int.toNat_natCast,Int.natCast_add,hown]
    rfl
   have HOWN:=lh hownLv
   have HLC:=lh hlc
   have hLS:LvS w b (.slice la L.length lcap) sv fr tt bs wide L cg cs w1.heap.size va vc (ints V.1) W3:=⟨h3,o3,hrd3,hvo3,hb3⟩
   have HLS:=lh hLS
   have hfs:(fr:Int)≤(s.size:Int):=by omega
   have hci:∀(i:Nat) (p:Pc),L[i]? = some p→p.c0<lp.c1:=fun i p hp=>by have:=hc i p hp;rw [hlc] at this;exact this
   have HCI:=lh hci
   have HRN:=lh hown
   have hFb:(F:Int)≤2097152:=by omega
   have hFl:(lp.c1:Int)≤2097152:=by omega
   have hVLl:=HVL'.out
   have HVLl:=lh hVLl
   have hvcap:=own_slice2 hvo3
   rw [ints_len,hVLl] at hvcap
   have hvadr:=out_addr hvo3
   have HVA:=lh hvadr
   have HVC:=lh hvcap
   clear h3 o3 hrd3 hvo3 hb3 hLS hownLv hlc hc hci hown hVLl HVL' hL0 hF hvcap hvadr hbs0 hV hcs
   have cL:((((n+1:Nat)):Int)==0)=false:=by rw [beq_eq_false_iff_ne];omega
   have cL2:((n:Int)+1==0)=false:=by rw [beq_eq_false_iff_ne];omega
   rw [hn1] at d0
   go_upto_region 7 with (go_at_call 75;refine (HCT.out _).mono ?_;rintro e w4 ⟨rfl,hb4⟩)
   have hLS4:=HLS.out.below hb4
   clear d0 d2 hb4 HLS HCT
   obtain⟨G,hG,hGb,hGl,hcell,hfz⟩:=hLS4.own.at n lp hlp
   subst hG
   have HKC:Hid (∀W,LvS w b (.slice (some ⟨G,0,none⟩) L.length lcap) sv fr tt bs wide L cg cs w1.heap.size va vc (ints V.1) W→W.cell? ⟨b,0,none⟩=some (.slice (some ⟨G,0,none⟩) (n+1) lcap)∧W.cell? ⟨G,n*10+3,none⟩=some (.int .i64 lp.c1)∧LvS w b (.slice (some ⟨G,0,none⟩) L.length lcap) sv fr tt bs wide L cg cs w1.heap.size va vc (ints V.1) W) :=
    lh fun W h=>⟨hn1▸h.ld.cells.1,(by
     obtain⟨G',e,_,_,hc',_⟩:=h.own.at n lp hlp
     cases e
     exact hc' 3 _ rfl),h⟩
   have HROW:Hid (∀W,LvS w b (.slice (some ⟨G,0,none⟩) L.length lcap) sv fr tt bs wide L cg cs w1.heap.size va vc (ints V.1) W →
    Calls Tryz.prog 78 #[.slice (some ⟨cg,0,none⟩) cs.length cc,.slice va cs.length vc,.int .u8 bs,.int .i64 F,.int .i64 ((F:Int)+lp.c1)] W fun e w'=>∃oa oc,e=.returned (.slice oa own.length oc)∧OutAt .u8 5 w' (b+1) oa oc (ints own) ∧
     LvS w b (.slice (some ⟨G,0,none⟩) L.length lcap) sv fr tt bs wide L cg cs w1.heap.size va vc (ints V.1) w') :=
    lh fun W h=>(Row_any (some ⟨cg,0,none⟩) va cs V.1 cs.length cs.length cc vc bs F ((F:Int)+lp.c1) W rfl HVLl.out h.rd h.vo.rd hcn hcn HVC.out.1 (by have:=HVC.out.2;unfold maxLen at this;omega) HVA.out).mono fun e w' hp=>by
     rw [HRN.out] at hp
     obtain⟨hb,a,c,he,ho⟩:=hp
     exact⟨a,c,he,own_mono ho (by have:=h.ld.lt;omega),h.below hb⟩
   obtain⟨k0,k3,hL4⟩:=HKC.out _ hLS4
   have hn2:(n:Int)≤2097152:=by omega
   have i1:IntKind.i64.wrap ((n:Int)+1-1)=(n:Int):=by rw [IntKind.wrap_i64];omega
   have i2:IntKind.i64.wrap (((n+1:Nat):Int)-1)=(n:Int):=by rw [IntKind.wrap_i64];omega
   have i3:IntKind.i64.wrap ((F:Int)+(lp.c1:Int))=(F:Int)+(lp.c1:Int):=by rw [IntKind.wrap_i64];omega
   have i0:IntKind.i64.wrap (n:Int)=(n:Int):=by rw [IntKind.wrap_i64];omega
   have i4:(0:Int)≤(n:Int):=by omega
   have i5:(n:Int)<(n:Int)+1:=by omega
   have i6:(n:Int)<((n+1:Nat):Int):=by omega
   clear hLS4 hcell hfz HVLl HVA HVC HRN
   go_region_held3 (fun w'=>w'.cell? ⟨b,0,none⟩=some (.slice (some ⟨G,0,none⟩) (n+1) lcap)∧w'.cell? ⟨G,n*10+3,none⟩=some (.int .i64 lp.c1)∧LvS w b (.slice (some ⟨G,0,none⟩) L.length lcap) sv fr tt bs wide L cg cs w1.heap.size va vc (ints V.1) w')
    ((refine HKC.out _ ?_;repeat (first | assumption | refine LvS.drew ?_)))
    ((go_at_call 78;refine (HROW.out _ (by repeat (first | assumption | refine LvS.drew ?_))).mono ?_;rintro e w5 ⟨oa,oc,rfl,ho5,hL5⟩))
   have HL5:=lh hL5
   have HO5:=lh ho5
   clear hL5 ho5 k0 k3 hL4 HROW i0 i1 i2 i3 i4 i5 i6
   have hl5:=HL5.out.ld
   have o5:=HL5.out.own
   have b5:=HL5.out.bel
   have d0:=hl5.cells.1
   rw [hn1] at d0
   have H5a:=lh hl5
   have H5b:=lh o5
   have H5c:=lh b5
   clear hl5 o5 b5 HL5 HKC
   go_upto_block 0 with (fail)
   go_wp2_with (fail)
   clear d0
   go_loopw [67] (fun u67 wx=>∃i:Nat,i≤n+1∧u67=.int .i64 i∧LdB wx b (.slice (some ⟨G,0,none⟩) L.length lcap) sv fr tt bs wide∧OwnS pcE 75 wx (b+1) (.slice (some ⟨G,0,none⟩) L.length lcap) (lvP own L i)∧OutAt .u8 5 wx (b+1) oa oc (ints own)∧Below b w wx) (fun u67 _=>n+1-(intOf u67).toNat)
   case atStart=>exact⟨0,by omega,rfl,H5a.out,by rw [lvP_zero];exact H5b.out,HO5.out,H5c.out⟩
   case round =>
    obtain⟨i,hi,rfl,hld,hrow,hout,hbel⟩:=hrel
    have HLD:=lh hld
    have HROWi:=lh hrow
    have HOUT:=lh hout
    have HBEL:=lh hbel
    clear hld hrow hout hbel H5a H5b H5c HO5
    by_cases hlt:i<n+1
    ·obtain⟨p,hp⟩:∃p,L[i]? = some p:=⟨_,List.getElem?_eq_getElem (by omega)⟩
     have hpl:=lvP_get own L i p hp
     have hll:=lvP_len own L i (by omega)
     have hnx:=lvP_next own L i p hp
     obtain⟨M,hM⟩:∃M,lvP own L i=M:=⟨_,rfl⟩
     rw [hM] at hpl hll hnx
     have hrow2:OwnS pcE 75 wr (b+1) (.slice (some ⟨G,0,none⟩) M.length lcap) M:=by rw [hll,←hM];exact HROWi.out
     have hld2:LdB wr b (.slice (some ⟨G,0,none⟩) M.length lcap) sv fr tt bs wide:=by rw [hll];exact HLD.out
     obtain⟨G',eG,hGb',hGl',hcell,hfz⟩:=hrow2.at i p hpl
     cases eG
     have hc0:=HCI.out i p hp
     obtain⟨og,hog,hob,hol,hoc,hof,hocap,_⟩:=HOUT.out.at p.c0 (by rw [ints_len,hownl];exact hc0)
     subst hog
     rw [ith_ints] at hoc
     obtain⟨x,hx⟩:∃x,own.getD p.c0 0=x:=⟨_,rfl⟩
     rw [hx] at hoc
     have y0:wr.cell? ⟨G,i*10,none⟩=some (.int .i64 p.a):=hcell 0 _ rfl
     have y1:wr.cell? ⟨G,i*10+1,none⟩=some (.int .i64 p.size):=hcell 1 _ rfl
     have y2:wr.cell? ⟨G,i*10+2,none⟩=some (.int .i64 p.c0):=hcell 2 _ rfl
     have y3:wr.cell? ⟨G,i*10+3,none⟩=some (.int .i64 p.c1):=hcell 3 _ rfl
     have y4:wr.cell? ⟨G,i*10+4,none⟩=some (.int .u8 p.level):=hcell 4 _ rfl
     have y5:wr.cell? ⟨G,i*10+5,none⟩=some (.string p.became):=hcell 5 _ rfl
     have y6:wr.cell? ⟨G,i*10+6,none⟩=some (.string p.shown):=hcell 6 _ rfl
     have y7:wr.cell? ⟨G,i*10+7,none⟩=some (.int .i64 p.wide):=hcell 7 _ rfl
     have y8:wr.cell? ⟨G,i*10+8,none⟩=some (.int .i64 p.e0):=hcell 8 _ rfl
     have y9:wr.cell? ⟨G,i*10+9,none⟩=some (.int .i64 p.e1):=hcell 9 _ rfl
     have hsel:M.set i { p with level:=p.level }=M:=by
      apply List.ext_getElem?
      intro j
      rw [List.getElem?_set]
      split
      ·rename_i e;subst e
       split
       ·exact hpl.symm
       ·rename_i h;exact absurd (List.getElem?_eq_some_iff.1 hpl).1 h
      ·rfl
     have HNX:=lh hnx
     have HLL:=lh hll
     have HX:=lh hx
     have HP:=lh hp
     have HSEL:=lh hsel
     have HLD2:=lh hld2
     have HROW2:=lh hrow2
     have hil:i<M.length:=(List.getElem?_eq_some_iff.1 hpl).1
     have hc0i:(p.c0:Int)<(own.length:Int):=by omega
     clear hpl hll hnx hM hrow2 hld2 hcell hfz hp hx hsel hoc hof
     go_upto_region 11 with (fail)
     have hb6:Below wr.heap.size wr (wr.alloc (.cells #[.int .i64 p.a,.int .i64 p.size,.int .i64 p.c0,.int .i64 p.c1,.int .u8 p.level,.string p.became,.string p.shown,.int .i64 p.wide,.int .i64 p.e0,.int .i64 p.e1] 75)):=(Below.refl _ _).alloc (Nat.le_refl _) _
     have hx6:=World.alloc_heap_new wr (.cells #[.int .i64 p.a,.int .i64 p.size,.int .i64 p.c0,.int .i64 p.c1,.int .u8 p.level,.string p.became,.string p.shown,.int .i64 p.wide,.int .i64 p.e0,.int .i64 p.e1] 75)
     generalize wr.alloc (.cells #[.int .i64 p.a,.int .i64 p.size,.int .i64 p.c0,.int .i64 p.c1,.int .u8 p.level,.string p.became,.string p.shown,.int .i64 p.wide,.int .i64 p.e0,.int .i64 p.e1] 75)=W6 at hb6 hx6 ⊢
     obtain⟨P,hP⟩:∃P,wr.heap.size=P:=⟨_,rfl⟩
     have hGP:G≠P:=by omega
     have hLW:LwS w b G lcap sv fr tt bs wide M i p P (some ⟨og,0,none⟩) oc (ints own) W6 :=
      ⟨HLD2.out.below hb6 HLD2.out.lt,⟨p.level,by rw [HSEL.out];exact HROW2.out.keep hb6⟩,hP▸hx6,HOUT.out.keep hb6,HBEL.out.trans (hb6.mono (Nat.le_of_lt HLD2.out.lt))⟩
     obtain⟨v4,hv4⟩:∃v4:World→Value,∀W,LwS w b G lcap sv fr tt bs wide M i p P (some ⟨og,0,none⟩) oc (ints own) W→W.cell? ⟨G,i*10+4,none⟩=some (v4 W)∧W.frozen? ⟨G,i*10+4,none⟩=false:=⟨fun W=>(W.cell? ⟨G,i*10+4,none⟩).getD undef,fun W h=>by
      obtain⟨y,hr⟩:=h.row
      have hml:(M.set i { p with level:=y }).length=M.length:=List.length_set
      have hge:(M.set i { p with level:=y })[i]? = some { p with level:=y }:=by rw [List.getElem?_set];simp [hil]
      obtain⟨g,e,_,_,hcc,hff⟩:=(show OwnS pcE 75 W (b+1) (.slice (some ⟨G,0,none⟩) (M.set i { p with level:=y }).length lcap) _ by rw [hml];exact hr).at i _ hge
      cases e
      have h4:=hcc 4 _ rfl
      refine⟨?_,hff _⟩
      rw [show i*pcE.k+4=i*10+4 from rfl] at h4
      simp [h4]⟩
     have HKW:Hid (∀W,LwS w b G lcap sv fr tt bs wide M i p P (some ⟨og,0,none⟩) oc (ints own) W→W.cell? ⟨b,0,none⟩=some (.slice (some ⟨G,0,none⟩) (n+1) lcap)∧W.cell? ⟨P,2,none⟩=some (.int .i64 p.c0)∧W.cell? ⟨og,p.c0,none⟩=some (.int .u8 x)∧W.cell? ⟨G,i*10+4,none⟩=some (v4 W)∧W.frozen? ⟨G,i*10+4,none⟩=false ∧
      LwS w b G lcap sv fr tt bs wide M i p P (some ⟨og,0,none⟩) oc (ints own) W) :=
      lh fun W h=>⟨by have:=h.ld.cells.1;rw [HLL.out,hn1] at this;exact this,(by have:=h.box;simp [World.cell?,this]),(by
       obtain⟨og',e,_,_,hc',_⟩:=h.out.at p.c0 (by rw [ints_len,hownl];exact hc0)
       cases e
       rw [ith_ints,HX.out] at hc'
       exact hc'),(hv4 W h).1,(hv4 W h).2,h⟩
     have HSW:Hid (∀W,LwS w b G lcap sv fr tt bs wide M i p P (some ⟨og,0,none⟩) oc (ints own) W→LwS w b G lcap sv fr tt bs wide M i p P (some ⟨og,0,none⟩) oc (ints own) (W.setCell ⟨G,i*10+4,none⟩ (.int .u8 x))):=lh fun W h=>h.set hil hGP x
     obtain⟨k0,k2,kx,k4,kf,hW6⟩:=HKW.out _ hLW
     have HLW:=lh hLW
     rw [hP]
     have i3:(i:Int)<(n:Int)+1:=by omega
     have i4:(0:Int)≤(i:Int):=by omega
     have i5:(0:Int)≤(p.c0:Int):=by omega
     clear y0 y1 y2 y3 y4 y5 y6 y7 y8 y9 hv4 hb6 hx6 hLW HLD2 HROW2 HSEL
     go_region_held3 (fun w'=>w'.cell? ⟨b,0,none⟩=some (.slice (some ⟨G,0,none⟩) (n+1) lcap)∧w'.cell? ⟨P,2,none⟩=some (.int .i64 p.c0)∧w'.cell? ⟨og,p.c0,none⟩=some (.int .u8 x)∧w'.cell? ⟨G,i*10+4,none⟩=some (v4 w')∧w'.frozen? ⟨G,i*10+4,none⟩=false ∧
      LwS w b G lcap sv fr tt bs wide M i p P (some ⟨og,0,none⟩) oc (ints own) w')
      ((refine HKW.out _ ?_;repeat (first | assumption | refine LwS.drew ?_ | refine HSW.out _ ?_)))
      (fail)
     have hW7:=HSW.out _ HLW.out
     have hR7:=HLW.out.rowx hil x
     rw [show ({ p with level:=x }:Pc)=levelP own p by unfold levelP;rw [HX.out],HNX.out,HLL.out] at hR7
     have hL7:=hW7.ld
     rw [HLL.out] at hL7
     have ZL:=lh hL7
     have ZR:=lh hR7
     have ZO:=lh hW7.out
     have ZB:=lh hW7.bel.drew
     clear hW7 hR7 hL7 k0 k2 kx k4 kf hW6 HLW HSW HKW
     go_wp2_with (fail)
     go_roundw
     case rel=>exact⟨i+1,by omega,by go_num,ZL.out,ZR.out,ZO.out,ZB.out⟩
     case measure=>simp [intOf];omega
    ·obtain rfl:i=n+1:=by omega
     have e1:lvP own L (n+1)=L.map (levelP own):=by rw [←hn1];exact lvP_all own L
     have hfin:OwnS pcE 75 wr (b+1) (.slice (some ⟨G,0,none⟩) L.length lcap) (L.map (levelP (ownLv s want fr (lastC L)))):=by rw [HOWN.out,←e1];exact HROWi.out
     have HFIN:=lh hfin
     clear hfin e1 hlt
     go_wp2_with (fail)
     go_end0
     exact⟨rfl,HLD.out,HFIN.out,HBEL.out⟩
end
section
open Go.RowKit Go.Proofs Go.Shelf
def mapR {α:Type} (n:Nat) (f:Nat→α):List α:=(List.range n).map f
theorem mapR_len {α:Type} (n:Nat) (f:Nat→α):(mapR n f).length=n:=by unfold mapR;simp
theorem mapR_get {α:Type} (n:Nat) (f:Nat→α) (i:Nat) (h:i<n):(mapR n f)[i]? = some (f i):=by
 unfold mapR
 rw [List.getElem?_map,List.getElem?_range h]
 rfl
theorem mapR_set {α:Type} (n:Nat) (f g:Nat→α) (i:Nat) (v:α) (h:∀j,j<n→g j=if j=i then v else f j):(mapR n f).set i v=mapR n g:=by
 apply List.ext_getElem?
 intro j
 rw [List.getElem?_set,mapR_len]
 by_cases hj:j<n
 ·rw [mapR_get _ _ _ hj,mapR_get _ _ _ hj,h j hj]
  by_cases e:i=j
  ·subst e
   rw [if_pos rfl,if_pos hj,if_pos rfl]
  ·rw [if_neg e,if_neg (fun h=>e h.symm)]
 ·unfold mapR
  rw [List.getElem?_eq_none (by simp;omega),List.getElem?_eq_none (by simp;omega)]
  split
  ·rw [if_neg (by omega)]
  ·rfl
theorem mapR_congr {α:Type} (n:Nat) (f g:Nat→α) (h:∀j,j<n→f j=g j):mapR n f=mapR n g:=by
 unfold mapR
 exact List.map_congr_left fun j hj=>h j (List.mem_range.1 hj)
section
variable {α:Type} (E:Enc α)
theorem made_list (x:α) (hk:0<E.k):∀n:Nat,(madeCells (E.enc x).toArray (n*E.k)).toList=(mapR n (fun _=>x)).flatMap E.enc:=by
 intro n
 apply List.ext_getElem?
 intro m
 have hlen:((mapR n (fun _=>x)).flatMap E.enc).length=n*E.k:=by
  rw [flatS_len,mapR_len]
 by_cases hm:m<n*E.k
 ·have hi:m / E.k<n:=Nat.div_lt_of_lt_mul (by rw [Nat.mul_comm];exact hm)
  have hj:m % E.k<E.k:=Nat.mod_lt _ hk
  have hjl:m % E.k<(E.enc x).length:=by rw [E.len];exact hj
  have h2:=flatS_get E (mapR n fun _=>x) (m / E.k) x (mapR_get n _ _ hi) (m % E.k) _ (List.getElem?_eq_getElem hjl)
  rw [show m / E.k*E.k+m % E.k=m by rw [Nat.mul_comm];exact Nat.div_add_mod m E.k] at h2
  rw [h2]
  unfold madeCells
  rw [Array.getElem?_toList,Array.getElem?_map,Array.getElem?_range,if_pos hm]
  simp only [Option.map_some,List.size_toArray,E.len]
  congr 1
  have:((E.enc x).toArray)[m % E.k]! = (E.enc x)[m % E.k]:=by
   rw [getElem!_pos _ _ (by simpa using hjl)]
   simp
  exact this
 ·have h1:(madeCells (E.enc x).toArray (n*E.k)).toList[m]? = none:=List.getElem?_eq_none (by rw [Array.length_toList,size_madeCells];omega)
  have h2:((mapR n (fun _=>x)).flatMap E.enc)[m]? = none:=List.getElem?_eq_none (by rw [hlen];omega)
  exact h1.trans h2.symm
theorem made_own (e:Nat) (W:World) (x:α) (hk:0<E.k) (n:Nat) (hn:n≤maxLen) :
 OwnS E e (W.alloc (.cells (madeCells (E.enc x).toArray (n*E.k)) e)) W.heap.size (.slice (some ⟨W.heap.size,0,none⟩) n n) (mapR n fun _=>x):=by
 unfold OwnS World.ownsRow
 rw [mapR_len]
 refine⟨by rw [flatS_len,mapR_len],.inr ⟨W.heap.size,n,_,rfl,Nat.le_refl _,World.alloc_heap_new W _,Nat.le_refl _,hn,size_madeCells _ _,?_⟩⟩
 rw [made_list E x hk n,List.take_of_length_le (by rw [flatS_len,mapR_len];exact Nat.le_refl _)]
end
theorem bytes_beq (x y:ByteArray):(x.toList==y.toList)=decide (x=y):=by
 rw [Bool.eq_iff_iff,beq_iff_eq,ByteArray.toList_eq,ByteArray.toList_eq,decide_eq_true_iff]
 exact⟨fun h=>ByteArray.ext (Array.toList_inj.mp h),fun h=>by rw [h]⟩
def ceE:Enc Ce:=⟨fun c=>[.string c.text,.int .i8 c.part,.int .i64 c.a,.int .i64 c.len,.bool c.right,.int .u16 0],6,fun _=>rfl⟩
def ce0:Ce:=⟨⟨#[]⟩,0,0,0,false⟩
theorem Tryz.info_cell:(Tryz.prog.info? 32).map (fun i=>(i.zero,i.size,i.bytes))=some (some (.agg #[.string ⟨#[]⟩,.int .i8 0,.int .i64 0,.int .i64 0,.bool false,.int .u16 0]),6,48):=by kernel_rfl
end
section
open Go.RowKit Go.Proofs Go.Shelf
attribute [local go_sem] Oper.semAt_some
def betweenI (c:ByteArray):Int :=
 if c=⟨#[39]⟩∨c=⟨#[226,128,153]⟩∨c=⟨#[194,183]⟩∨c=⟨#[58]⟩ then 3
 else if c=⟨#[46]⟩∨c=⟨#[44]⟩ then 4
 else 0
theorem beqL (c:ByteArray) (l:List UInt8):(c.toList==l)=decide (c=⟨l.toArray⟩):=by
 rw [←bytes_beq,ByteArray.toList_eq ⟨l.toArray⟩]
theorem between_any (c:ByteArray) (w:World):Calls Tryz.prog 122 #[.string c] w fun e w'=>e=.returned (.int .i64 (betweenI c))∧w'=w:=by
 obtain⟨V,hV⟩:∃V,betweenI c=V:=⟨_,rfl⟩
 have HV:=lh (show V=if c=⟨#[39]⟩∨c=⟨#[226,128,153]⟩∨c=⟨#[194,183]⟩∨c=⟨#[58]⟩ then 3 else if c=⟨#[46]⟩∨c=⟨#[44]⟩ then 4 else 0 by rw [←hV];rfl)
 rw [hV]
 clear hV
 go_enter Tryz.func122,Tryz.ntmps122
 by_cases e0:c=⟨#[39]⟩
 ·have t0:(c.toList==[39])=true:=(beqL c [39]).trans (decide_eq_true e0)
  have q0:=lh e0
  clear e0
  go_wp2_with (fail)
  go_ret
  exact⟨ret_i (by rw [HV.out];rw [if_pos (.inl q0.out)]),rfl⟩
 ·have t0:(c.toList==[39])=false:=(beqL c [39]).trans (decide_eq_false e0)
  have q0:=lh e0
  clear e0
  by_cases e1:c=⟨#[226,128,153]⟩
  ·have t1:(c.toList==[226,128,153])=true:=(beqL c [226,128,153]).trans (decide_eq_true e1)
   have q1:=lh e1
   clear e1
   go_wp2_with (fail)
   go_ret
   exact⟨ret_i (by rw [HV.out];rw [if_pos (.inr (.inl q1.out))]),rfl⟩
  ·have t1:(c.toList==[226,128,153])=false:=(beqL c [226,128,153]).trans (decide_eq_false e1)
   have q1:=lh e1
   clear e1
   by_cases e2:c=⟨#[194,183]⟩
   ·have t2:(c.toList==[194,183])=true:=(beqL c [194,183]).trans (decide_eq_true e2)
    have q2:=lh e2
    clear e2
    go_wp2_with (fail)
    go_ret
    exact⟨ret_i (by rw [HV.out];rw [if_pos (.inr (.inr (.inl q2.out)))]),rfl⟩
   ·have t2:(c.toList==[194,183])=false:=(beqL c [194,183]).trans (decide_eq_false e2)
    have q2:=lh e2
    clear e2
    by_cases e3:c=⟨#[58]⟩
    ·have t3:(c.toList==[58])=true:=(beqL c [58]).trans (decide_eq_true e3)
     have q3:=lh e3
     clear e3
     go_wp2_with (fail)
     go_ret
     exact⟨ret_i (by rw [HV.out];rw [if_pos (.inr (.inr (.inr q3.out)))]),rfl⟩
    ·have t3:(c.toList==[58])=false:=(beqL c [58]).trans (decide_eq_false e3)
     have q3:=lh e3
     clear e3
     have n3:¬ (c=⟨#[39]⟩∨c=⟨#[226,128,153]⟩∨c=⟨#[194,183]⟩∨c=⟨#[58]⟩):=fun h=>h.elim q0.out (fun h=>h.elim q1.out (fun h=>h.elim q2.out q3.out))
     by_cases e4:c=⟨#[46]⟩
     ·have t4:(c.toList==[46])=true:=(beqL c [46]).trans (decide_eq_true e4)
      have q4:=lh e4
      clear e4
      go_wp2_with (fail)
      go_ret
      exact⟨ret_i (by rw [HV.out];rw [if_neg n3,if_pos (.inl q4.out)]),rfl⟩
     ·have t4:(c.toList==[46])=false:=(beqL c [46]).trans (decide_eq_false e4)
      have q4:=lh e4
      clear e4
      by_cases e5:c=⟨#[44]⟩
      ·have t5:(c.toList==[44])=true:=(beqL c [44]).trans (decide_eq_true e5)
       have q5:=lh e5
       clear e5
       go_wp2_with (fail)
       go_ret
       exact⟨ret_i (by rw [HV.out];rw [if_neg n3,if_pos (.inr q5.out)]),rfl⟩
      ·have t5:(c.toList==[44])=false:=(beqL c [44]).trans (decide_eq_false e5)
       have q5:=lh e5
       clear e5
       go_wp2_with (fail)
       go_ret
       exact⟨ret_i (by rw [HV.out];rw [if_neg n3,if_neg (fun h=>h.elim q4.out q5.out)]),rfl⟩
theorem whole_stopsC (S:Nat) (n₀:Nat) (s:ByteArray) (w:World) (hle:n₀≤w.heap.size) (hS:Boxed w S 9 (.string s)) :
 SeqStopsC 0 Tryz.prog 72 #[.pointer (some ⟨S,0,none⟩)] (fun x:PieceOf s=>encP x.1) (KpL [S] n₀) (fun xs=>xs.map (·.1)=[(0,s)]) (fun pre=>pre.map (·.1) <+: [(0,s)]) w:=fun n l J Jx W hW hJ hJx hY h0=>by
 have HJ:=lh hJ
 have HJx:=lh hJx
 have hb:Boxed W S 9 (.string s):=(hW.block S (Array.getElem?_eq_some_iff.1 hS).1).trans hS
 have c1:=hb.cell
 obtain⟨pc,hpcv⟩:∃pc:PieceOf s,pc.1=(0,s):=⟨⟨(0,s),by show 0+s.size≤s.size;omega⟩,rfl⟩
 have HPC:=lh hpcv
 obtain⟨fn,tmps,assign,body,hy,hR⟩:=hY [] pc W h0 (by show [pc.1] <+: [(0,s)];rw [hpcv];exact List.prefix_refl _) (Nat.le_refl _)
 dsimp only at hy
 rw [hpcv] at hy
 replace hy:(Instr.yield l #[.int .i64 0,.string s]).run Tryz.prog W=_:=hy
 have HR:=lh hR
 clear hR hpcv hY hJ hJx hb
 refine callsIn_wide.2 ((callsIn_wide (n:=4)).1 ?_)
 refine callsIn_of_wp Tryz.func72 rfl trivial ?_ rfl
 simp only [Tryz.ntmps72,List.size_toArray,List.length_cons,List.length_nil,Nat.reduceAdd,Nat.reduceSub,Array.replicate_succ,Array.replicate_zero,List.push_toArray,List.append_toArray,List.nil_append,List.cons_append]
 gi_wp2_with (fail)
 refine (roundAny HR.out _).mono ?_
 rintro e' W3 ⟨hkf,(⟨rfl,hJ3,hk3⟩ | ⟨rfl,hJx3⟩)⟩
 ·clear hy HR
  gi_wp2_with (fail)
  go_end0
  exact⟨⟨_,rfl⟩,.inl ⟨[]++[pc],by show [pc.1]=[(0,s)];rw [HPC.out],hJ3⟩⟩
 ·clear hy HR
  gi_wp2_with (fail)
  go_end0
  exact⟨⟨_,rfl⟩,.inr ⟨[]++[pc],by show [pc.1] <+: [(0,s)];rw [HPC.out];exact List.prefix_refl _,hJx3⟩⟩
end
section
open Go.RowKit Go.Proofs
def clI (cs:List ByteArray) (k:Nat):ByteArray:=cs.getD k ⟨#[]⟩
def soI (cs:List ByteArray) (k:Nat):Int:=wsortI (clI cs k)
def joinB (cs:List ByteArray) (first i:Nat):Bool :=
 (decide (soI cs first=1)&&decide (soI cs i=1)) ||
   ((decide (3≤soI cs (i-1))||decide (first<i-1))&&(decide (3≤soI cs first)&&(decide (3≤soI cs i) ||
     (decide (soI cs i<3)&&decide (3≤soI cs (i-1))&&decide (i+1<cs.length)&&decide (betweenI (clI cs i)=soI cs (i-1))&&decide (soI cs (i+1)=soI cs (i-1))))))
def segIn (cs:List ByteArray) (first:Nat):Nat→Nat→Nat→Nat × Nat
 | 0,i,at'=>(i,at')
 | f+1,i,at'=>if i<cs.length∧joinB cs first i=true then segIn cs first f (i+1) (at'+(clI cs i).size) else (i,at')
def segOut (cs:List ByteArray):Nat→Nat→Nat→List (Nat × Nat)
 | 0,_,_=>[]
 | f+1,i,at'=>if i<cs.length then ((segIn cs i cs.length (i+1) (at'+(clI cs i).size)).2,i)::segOut cs f (segIn cs i cs.length (i+1) (at'+(clI cs i).size)).1 (segIn cs i cs.length (i+1) (at'+(clI cs i).size)).2 else []
def clsI (s:ByteArray):List ByteArray:=(piecesI s).map (·.2)
def segsI (s:ByteArray):List (Nat × Nat):=segOut (clsI s) (clsI s).length 0 0
def wendsI (s:ByteArray):List Nat:=(segsI s).map (·.1)
def wordsI (s:ByteArray):List (Nat × ByteArray):=partsF s 0 (wendsI s)
def posI (cs:List ByteArray) (i:Nat):Nat:=((cs.take i).map (·.size)).sum
theorem posI_succ (cs:List ByteArray) (i:Nat) (h:i<cs.length):posI cs (i+1)=posI cs i+(clI cs i).size:=by
 unfold posI clI
 rw [List.take_succ_eq_append_getElem h,List.map_append,List.sum_append]
 simp [List.getD_eq_getElem?_getD,List.getElem?_eq_getElem h]
theorem posI_mono (cs:List ByteArray):∀(d i:Nat),i+d≤cs.length→posI cs i≤posI cs (i+d)
 | 0,i,_=>Nat.le_refl _
 | d+1,i,h=>by
   have h1:=posI_mono cs d i (by omega)
   have h2:=posI_succ cs (i+d) (by omega)
   rw [show i+(d+1)=i+d+1 by omega]
   omega
theorem segIn_spec (cs:List ByteArray) (first:Nat):∀(f i at':Nat),i≤cs.length→at'=posI cs i→i≤(segIn cs first f i at').1∧(segIn cs first f i at').1≤cs.length∧(segIn cs first f i at').2=posI cs (segIn cs first f i at').1
 | 0,i,at',h,h2=>⟨Nat.le_refl _,h,h2⟩
 | f+1,i,at',h,h2=>by
   rw [segIn]
   split
   ·rename_i hc
    have:=segIn_spec cs first f (i+1) (at'+(clI cs i).size) (by omega) (by rw [posI_succ cs i hc.1,h2])
    exact⟨by omega,this.2⟩
   ·exact⟨Nat.le_refl _,h,h2⟩
theorem segOut_up (cs:List ByteArray):∀(f i at':Nat),i≤cs.length→at'=posI cs i→EndsUp (posI cs cs.length) at' ((segOut cs f i at').map (·.1))
 | 0,_,_,_,_=>trivial
 | f+1,i,at',h,h2=>by
   rw [segOut]
   split
   ·rename_i hc
    have hs:=segIn_spec cs i cs.length (i+1) (at'+(clI cs i).size) (by omega) (by rw [posI_succ cs i hc,h2])
    obtain⟨j,e,hr⟩:∃j e,segIn cs i cs.length (i+1) (at'+(clI cs i).size)=(j,e):=⟨_,_,rfl⟩
    rw [hr] at hs ⊢
    dsimp only at hs ⊢
    have m1:=posI_mono cs (j-i) i (by omega)
    have m2:=posI_mono cs (cs.length-j) j (by omega)
    rw [show i+(j-i)=j by omega] at m1
    rw [show j+(cs.length-j)=cs.length by omega] at m2
    refine⟨?_,?_,segOut_up cs f j e hs.2.1 hs.2.2⟩
    ·show at'≤e
     omega
    ·show e≤_
     omega
   ·trivial
theorem segOut_len (cs:List ByteArray):∀(f i at':Nat),(segOut cs f i at').length≤f
 | 0,_,_=>Nat.le_refl _
 | f+1,i,at'=>by
   rw [segOut]
   split
   ·rw [List.length_cons]
    have:=segOut_len cs f (segIn cs i cs.length (i+1) (at'+(clI cs i).size)).1 (segIn cs i cs.length (i+1) (at'+(clI cs i).size)).2
    omega
   ·exact Nat.zero_le _
theorem pieces_pos (s:ByteArray):∀(f a:Nat),a≤s.size→s.size-a≤f→(((piecesF s f a).map (·.2)).map (·.size)).sum=s.size-a
 | 0,a,h,h2=>by
   rw [piecesF]
   show 0=_
   omega
 | f+1,a,h,h2=>by
   rw [piecesF]
   split
   ·rename_i hlt
    have hz:=ext_size s a h
    have hn:=nextI_bd (s.extract a s.size) (by omega)
    have he:(s.extract a (a+nextI (s.extract a s.size))).size=nextI (s.extract a s.size):=by simp [ByteArray.size_extract];omega
    rw [List.map_cons,List.map_cons,List.sum_cons,pieces_pos s f _ (by omega) (by omega)]
    dsimp only
    rw [he]
    omega
   ·show 0=_
    omega
theorem posI_all (s:ByteArray):posI (clsI s) (clsI s).length=s.size:=by
 unfold posI clsI
 rw [List.take_length]
 have:=pieces_pos s s.size 0 (Nat.zero_le _) (by omega)
 exact this.trans (by omega)
theorem wends_up (s:ByteArray):EndsUp s.size 0 (wendsI s):=by
 have:=segOut_up (clsI s) (clsI s).length 0 0 (Nat.zero_le _) rfl
 rw [posI_all] at this
 exact this
theorem wends_len (s:ByteArray):(wendsI s).length≤s.size:=by
 unfold wendsI segsI
 rw [List.length_map]
 refine Nat.le_trans (segOut_len _ _ _ _) ?_
 unfold clsI
 rw [List.length_map]
 exact pieces_len s
end
end Go.Proofs.YtlbclfmbejjneaaGreatDoor
