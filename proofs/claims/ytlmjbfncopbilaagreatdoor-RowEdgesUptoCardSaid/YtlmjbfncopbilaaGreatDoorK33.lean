/- Part 33 (merged by a program): lemmas of no further condition than each states. -/
import Derived.Lib.OthersKept
import Derived.Test.YtlmjbfncopbilaaGreatDoorK28
import Derived.Test.YtlmjbfncopbilaaGreatDoorK32
namespace Go.Proofs.YtlmjbfncopbilaaGreatDoor
set_option linter.unusedVariables false
set_option linter.unusedSimpArgs false
section
open Go.RowKit Go.Proofs Go.Shelf
attribute [local go_sem] Oper.semAt_some
theorem bl_set {b:Nat} {A W:World} (h:Below b A W) (i:Nat) (v:Value):Below b A (W.setCell ⟨b,i,none⟩ v):=h.setCell (p:=⟨b,i,none⟩) (Nat.le_refl _) v
structure LvS (w:World) (b:Nat) (lv sv:Value) (fr tt bs:Nat) (wide:Int) (M:List Pc) (cg:Nat) (cs:List Int) (vb:Nat) (va:Option Addr) (vc:Nat) (vs:List Int) (W:World):Prop where
 ld:LdB W b lv sv fr tt bs wide
 own:OwnS pcE 98 W (b+1) lv M
 rd:Rd .i32 W (some ⟨cg,0,none⟩) cs
 vo:OutAt .u8 5 W vb va vc vs
 bel:Below b w W
section
variable {w W W':World} {b:Nat} {lv sv:Value} {fr tt bs:Nat} {wide:Int} {M:List Pc} {cg:Nat} {cs:List Int} {vb:Nat} {va:Option Addr} {vc:Nat} {vs:List Int}
theorem LvS.below (h:LvS w b lv sv fr tt bs wide M cg cs vb va vc vs W) (hb:Below W.heap.size W W'):LvS w b lv sv fr tt bs wide M cg cs vb va vc vs W' :=
 ⟨h.ld.below hb h.ld.lt,h.own.keep hb,h.rd.below hb,h.vo.keep hb,h.bel.trans (hb.mono (Nat.le_of_lt h.ld.lt))⟩
theorem LvS.drew (h:LvS w b lv sv fr tt bs wide M cg cs vb va vc vs W):LvS w b lv sv fr tt bs wide M cg cs vb va vc vs W.drew:=⟨h.ld,h.own,h.rd,h.vo,h.bel.drew⟩
end
structure LwS (w:World) (b G cap:Nat) (sv:Value) (fr tt bs:Nat) (wide:Int) (M:List Pc) (i:Nat) (p:Pc) (P:Nat) (oa:Option Addr) (oc:Nat) (own:List Int) (W:World):Prop where
 ld:LdB W b (.slice (some ⟨G,0,none⟩) M.length cap) sv fr tt bs wide
 row:∃y:Nat,OwnS pcE 98 W (b+1) (.slice (some ⟨G,0,none⟩) M.length cap) (M.set i { p with level:=y })
 box:W.heap[P]? = some (.cells #[.int .i64 p.a,.int .i64 p.size,.int .i64 p.c0,.int .i64 p.c1,.int .u8 p.level,.string p.became,.string p.shown,.int .i64 p.wide,.int .i64 p.e0,.int .i64 p.e1] 98 (0,0))
 out:OutAt .u8 5 W (b+1) oa oc own
 bel:Below b w W
theorem LwS.drew {w:World} {b G cap:Nat} {sv:Value} {fr tt bs:Nat} {wide:Int} {M:List Pc} {i:Nat} {p:Pc} {P:Nat} {oa:Option Addr} {oc:Nat} {own:List Int} {W:World} (h:LwS w b G cap sv fr tt bs wide M i p P oa oc own W):LwS w b G cap sv fr tt bs wide M i p P oa oc own W.drew:=⟨h.ld,h.row,h.box,h.out,h.bel.drew⟩
theorem LwS.set {w:World} {b G cap:Nat} {sv:Value} {fr tt bs:Nat} {wide:Int} {M:List Pc} {i:Nat} {p:Pc} {P:Nat} {oa:Option Addr} {oc:Nat} {own:List Int} {W:World} (h:LwS w b G cap sv fr tt bs wide M i p P oa oc own W) (hi:i<M.length) (hP:G≠P) (x:Nat) :
 LwS w b G cap sv fr tt bs wide M i p P oa oc own (W.setCell ⟨G,i*10+4,none⟩ (.int .u8 x)):=by
 obtain⟨h1,⟨y,h2⟩,h3,h4,h5⟩:=h
 have hG:=World.ownsRow.lt h2 G rfl
 have hml:(M.set i { p with level:=y }).length=M.length:=List.length_set
 have hge:(M.set i { p with level:=y })[i]? = some { p with level:=y }:=by rw [List.getElem?_set];simp [hi]
 refine⟨box_other h1 (by omega),⟨x,?_⟩,box_other h3 (fun e=>hP e.symm),?_,h5.trans ((Below.refl _ W).setCell (p:=⟨G,i*10+4,none⟩) (show b≤G by omega) _)⟩
 ·have:=OwnS.set (cap:=cap) (by rw [hml];exact h2) i _ { p with level:=x } hge 4 (.int .u8 x) (by decide) rfl
  rw [List.set_set,List.length_set] at this
  exact this
 ·refine row_other h4 (fun g hg e=>?_)
  subst e
  rcases h4.2 with ⟨e1,_⟩ | ⟨g',c',cur,e1,_,hb,_⟩
  ·rw [e1] at hg;cases hg
  ·rw [e1] at hg
   have:g'=g:=Option.some.inj hg
   subst this
   rcases h2.2 with ⟨e2,_⟩ | ⟨g2,c2,cur2,e2,_,hb2,_⟩
   ·simp at e2
   ·simp only [Value.slice.injEq,Option.some.injEq,Addr.mk.injEq] at e2
    obtain⟨⟨rfl,_⟩,_⟩:=e2
    rw [hb] at hb2
    cases hb2
theorem LwS.rowx {w:World} {b G cap:Nat} {sv:Value} {fr tt bs:Nat} {wide:Int} {M:List Pc} {i:Nat} {p:Pc} {P:Nat} {oa:Option Addr} {oc:Nat} {own:List Int} {W:World} (h:LwS w b G cap sv fr tt bs wide M i p P oa oc own W) (hi:i<M.length) (x:Nat) :
 OwnS pcE 98 (W.setCell ⟨G,i*10+4,none⟩ (.int .u8 x)) (b+1) (.slice (some ⟨G,0,none⟩) M.length cap) (M.set i { p with level:=x }):=by
 obtain⟨h1,⟨y,h2⟩,h3,h4,h5⟩:=h
 have hml:(M.set i { p with level:=y }).length=M.length:=List.length_set
 have hge:(M.set i { p with level:=y })[i]? = some { p with level:=y }:=by rw [List.getElem?_set];simp [hi]
 have:=OwnS.set (cap:=cap) (by rw [hml];exact h2) i _ { p with level:=x } hge 4 (.int .u8 x) (by decide) rfl
 rw [List.set_set,List.length_set] at this
 exact this
theorem lastC_get {L:List Pc} {n:Nat} {p:Pc} (hn:L.length=n+1) (h:L[n]? = some p):lastC L=p.c1:=by
 unfold lastC
 rw [List.getLastD_eq_getLast?,List.getLast?_eq_getElem?,hn,Nat.add_sub_cancel,h]
 rfl
theorem out_addr {k:IntKind} {e base cap:Nat} {w:World} {ao:Option Addr} {out:List Int} (h:OutAt k e w base ao cap out):(ao=none∧cap=0)∨∃G o,ao=some ⟨G,o,none⟩:=by
 rcases h.2 with ⟨h1,h0⟩ | ⟨g,cap',cur,h1,_⟩
 ·simp only [Value.slice.injEq] at h1
  exact .inl ⟨h1.1,h1.2.2⟩
 ·simp only [Value.slice.injEq] at h1
  exact .inr ⟨g,0,h1.1⟩
def lvP (own:List Nat) (L:List Pc) (i:Nat):List Pc:=(L.take i).map (levelP own)++L.drop i
theorem lvP_zero (own:List Nat) (L:List Pc):lvP own L 0=L:=by unfold lvP;simp
theorem lvP_all (own:List Nat) (L:List Pc):lvP own L L.length=L.map (levelP own):=by unfold lvP;simp
theorem lvP_len (own:List Nat) (L:List Pc) (i:Nat) (h:i≤L.length):(lvP own L i).length=L.length:=by unfold lvP;simp;omega
theorem lvP_get (own:List Nat) (L:List Pc) (i:Nat) (p:Pc) (h:L[i]? = some p):(lvP own L i)[i]? = some p:=by
 have hl:=(List.getElem?_eq_some_iff.1 h).1
 unfold lvP
 rw [List.getElem?_append_right (by simp;omega)]
 simp only [List.length_map,List.length_take]
 rw [List.getElem?_drop,show i+(i-min i L.length)=i by omega]
 exact h
theorem lvP_next (own:List Nat) (L:List Pc) (i:Nat) (p:Pc) (h:L[i]? = some p):(lvP own L i).set i (levelP own p)=lvP own L (i+1):=by
 have hl:=(List.getElem?_eq_some_iff.1 h).1
 unfold lvP
 have h1:(List.map (levelP own) (L.take i)).length=i:=by simp;omega
 rw [List.set_append_right _ _ (by omega),h1,Nat.sub_self,List.take_add_one,h,List.map_append,dropR_cons h,List.set_cons_zero,List.append_assoc]
 rfl
set_option maxRecDepth 100000 in
set_option maxHeartbeats 2000000 in
theorem rLev_any (s:ByteArray) (hs:s.size≤2097152) (tab want:Int) (wideA join raw:Bool) (b:Nat) (lv sv:Value) (fr tt:Nat) (wide:Int) (L:List Pc) (w:World) (hL:LdB w b lv sv fr tt 0 wide) (hO:OwnS pcE 98 w (b+1) lv L) (hfr:fr≤s.size)
 (hn:L.length≤2097152) (hc:∀(i:Nat) (p:Pc),L[i]? = some p→p.c0<lastC L) (hlast:(runesI (s.extract 0 fr)).length+lastC L≤(runesI s).length) :
 Calls Tryz.prog 84 #[.pointer (some ⟨b,0,none⟩),.string s,lookV tab want wideA join raw] w fun e w'=>e=.returned (.tuple #[]) ∧
  LdB w' b lv sv fr tt (baseR s want raw) wide∧OwnS pcE 98 w' (b+1) lv (levelsI s want raw fr L)∧Below b w w':=by
 cases raw with
 | true =>
   have hbs:b<w.heap.size:=hL.lt
   go_enter Tryz.func84,Tryz.ntmps84
   go_upto_region 1 with (fail)
   have hb0:Below w.heap.size w (w.alloc (.cells #[.int .i64 tab,.bool wideA,.int .i8 want,.bool join,.bool true] 26)):=(Below.refl _ _).alloc (Nat.le_refl _) _
   have hx0:=World.alloc_heap_new w (.cells #[.int .i64 tab,.bool wideA,.int .i8 want,.bool join,.bool true] 26)
   generalize w.alloc (.cells #[.int .i64 tab,.bool wideA,.int .i8 want,.bool join,.bool true] 26)=W0 at hb0 hx0 ⊢
   have hs0:w.heap.size<W0.heap.size:=(Array.getElem?_eq_some_iff.1 hx0).1
   have l2:W0.cell? ⟨w.heap.size,2,none⟩=some (.int .i8 want):=by simp [World.cell?,hx0]
   have l4:W0.cell? ⟨w.heap.size,4,none⟩=some (.bool true):=by simp [World.cell?,hx0]
   have h0:LdB W0 b lv sv fr tt 0 wide:=hL.below hb0 hbs
   have o0:=hO.keep hb0
   have HB0:=lh hb0
   clear hb0 hx0 hL hO
   go_wp2_with (fail)
   exact bodyPost_ret (results_none rfl _ _ _) rfl ⟨rfl,h0,o0,HB0.out.mono (by omega)⟩
 | false =>
   obtain⟨V,hV⟩:∃V,visualI (runesI s) want=V:=⟨_,rfl⟩
   obtain⟨bs,hbs0⟩:∃bs:Nat,V.2=bs:=⟨V.2.toNat,by rw [←hV];unfold visualI;rcases baseF_bd want (((runesI s).map dirI).length+1) ((runesI s).map dirI) with h | h <;> (unfold baseI;dsimp only;omega)⟩
   have hbR:baseR s want false=bs:=by unfold baseR;rw [if_neg (by decide),hV,hbs0];rfl
   have hlR:levelsI s want false fr L=L.map (levelP (ownLv s want fr (lastC L))):=by unfold levelsI;rw [if_neg (by decide)]
   rw [hbR,hlR]
   clear hbR hlR
   have hbs:b<w.heap.size:=hL.lt
   go_enter Tryz.func84,Tryz.ntmps84
   go_upto_region 1 with (fail)
   have hb0:Below w.heap.size w (w.alloc (.cells #[.int .i64 tab,.bool wideA,.int .i8 want,.bool join,.bool false] 26)):=(Below.refl _ _).alloc (Nat.le_refl _) _
   have hx0:=World.alloc_heap_new w (.cells #[.int .i64 tab,.bool wideA,.int .i8 want,.bool join,.bool false] 26)
   generalize w.alloc (.cells #[.int .i64 tab,.bool wideA,.int .i8 want,.bool join,.bool false] 26)=W0 at hb0 hx0 ⊢
   have hs0:w.heap.size<W0.heap.size:=(Array.getElem?_eq_some_iff.1 hx0).1
   have l2:W0.cell? ⟨w.heap.size,2,none⟩=some (.int .i8 want):=by simp [World.cell?,hx0]
   have l4:W0.cell? ⟨w.heap.size,4,none⟩=some (.bool false):=by simp [World.cell?,hx0]
   have h0:LdB W0 b lv sv fr tt 0 wide:=hL.below hb0 hbs
   have o0:=hO.keep hb0
   have HB0:=lh hb0
   clear hb0 hx0 hL hO
   obtain⟨cs,hcs⟩:∃cs,runesI s=cs:=⟨_,rfl⟩
   have hcn:cs.length≤2097152:=by rw [←hcs];have:=runesI_len s;omega
   rw [hcs] at hV
   have HRU:Hid (∀W:World,Calls Tryz.prog 76 #[.string s] W fun e w'=>∃c,e=.returned (.slice (some ⟨W.heap.size,0,none⟩) cs.length c)∧Rd .i32 w' (some ⟨W.heap.size,0,none⟩) cs∧cs.length≤c∧c≤9223372036854775807∧Below W.heap.size W w'):=lh fun W=>hcs▸Runes_at s hs W
   go_upto_region 3 with (go_at_call 76;refine (HRU.out _).mono ?_;rintro e w1 ⟨cc,rfl,hrd1,hc1,hc2,hb1⟩)
   obtain⟨cg,hcg⟩:∃cg,W0.heap.size=cg:=⟨_,rfl⟩
   have hcgb:b<cg:=by omega
   rw [hcg] at hrd1
   have hT1:W0.heap.size≤w1.heap.size:=hb1.size
   have m2:=cell_bl hb1 hs0 l2
   have h1:=h0.below hb1 (by omega)
   have o1:=o0.keep hb1
   have HVL:=lh (VLevels_any (some ⟨cg,0,none⟩) cs cs.length cc want w1 rfl hrd1 hcn hc1 hc2)
   have hb01:=HB0.out.trans (hb1.mono (by omega))
   have HB1:=lh hb01
   have HRD1:=lh hrd1
   clear l2 l4 h0 o0 hb1 hb01 hrd1 HB0 HRU
   go_upto_region 4 with (go_at_call 75;refine HVL.out.mono ?_;rintro e w2 ⟨va,vc,rfl,hvl,hvo,hb2⟩)
   rw [hV] at hvl hvo
   have h2:=h1.below hb2 (by omega)
   have o2:=o1.keep hb2
   have hb02:=HB1.out.trans (hb2.mono (by omega))
   have HRD2:=lh (HRD1.out.below (hb2))
   obtain⟨la,lcap,hlv,hlcap,_⟩:=o2.slice
   subst hlv
   have d0:=h2.cells.1
   have d2:=h2.cells.2.2.1
   have d4:=h2.cells.2.2.2.2.1
   have f4:=h2.frz 4
   have HVO:=lh hvo
   have HVL':=lh hvl
   have HB2:=lh hb02
   have H2:=lh h2
   have O2:=lh o2
   have hs2:=hb2.size
   clear m2 h1 o1 hb2 hvo hvl hb02 h2 o2 HRD1 HB1 HVL
   go_upto_region 5 with (fail)
   have h3:LdB (w2.setCell ⟨b,4,none⟩ (.int .u8 bs)) b (.slice la L.length lcap) sv fr tt bs wide:=H2.out.set4 bs
   have o3:OwnS pcE 98 (w2.setCell ⟨b,4,none⟩ (.int .u8 bs)) (b+1) (.slice la L.length lcap) L:=O2.out.other (fun g hg=>by
    have:=World.ownsRow.lt O2.out g hg
    omega)
   have hb3:Below b w (w2.setCell ⟨b,4,none⟩ (.int .u8 bs)):=bl_set (HB2.out.mono (by omega)) _ _
   have hrd3:Rd .i32 (w2.setCell ⟨b,4,none⟩ (.int .u8 bs)) (some ⟨cg,0,none⟩) cs:=rd_set HRD2.out (by omega)
   have hvo3:OutAt .u8 5 (w2.setCell ⟨b,4,none⟩ (.int .u8 bs)) w1.heap.size va vc (ints V.1):=row_other HVO.out (fun g hg=>by have:=World.ownsRow.lt HVO.out g hg;omega)
   have hs3:w2.heap.size≤(w2.setCell ⟨b,4,none⟩ (.int .u8 bs)).heap.size:=(KeepsWalks.setCell _ _ _).size
   clear d0 d2 d4 f4 HVO HRD2 HB2 H2 O2
   generalize w2.setCell ⟨b,4,none⟩ (.int .u8 bs)=W3 at h3 o3 hb3 hrd3 hvo3 hs3 ⊢
   have d0:=h3.cells.1
   have d2:=h3.cells.2.2.1
   by_cases hL0:L=[]
   ·subst hL0
    have H3:=lh h3
    have O3:=lh o3
    have HB3:=lh hb3
    clear h3 o3 hb3 hrd3 hvo3 hc hlast
    go_wp2_with (fail)
    exact bodyPost_ret (results_none rfl _ _ _) rfl ⟨rfl,H3.out,O3.out,HB3.out⟩
   have hLpos:0<L.length:=List.length_pos_iff.2 hL0
   obtain⟨n,hn1⟩:∃n,L.length=n+1:=⟨L.length-1,by omega⟩
   obtain⟨lp,hlp⟩:∃lp,L[n]? = some lp:=⟨_,List.getElem?_eq_getElem (by omega)⟩
   have hlc:=lastC_get hn1 hlp
   obtain⟨F,hF⟩:∃F,(runesI (s.extract 0 fr)).length=F:=⟨_,rfl⟩
   have HCT:Hid (∀W:World,Calls Tryz.prog 126 #[.string (s.extract 0 fr)] W fun e w'=>e=.returned (.int .i64 F)∧Below W.heap.size W w'):=lh fun W=>hF▸sCount_any (s.extract 0 fr) (by simp [ByteArray.size_extract];omega) W
   rw [hF,hcs,hlc] at hlast
   obtain⟨own,hown,hownl⟩:=rowI_some cs V.1 bs F lp.c1 hlast HVL'.out
   rw [Int.natCast_add] at hown
   have hownLv:ownLv s want fr (lastC L)=own:=by
    unfold ownLv
    rw [hcs,hV,hbs0,hF,hlc,Int.toNat_natCast,Int.natCast_add,hown]
    rfl
   have HOWN:=lh hownLv
   have HLC:=lh hlc
   have hLS:LvS w b (.slice la L.length lcap) sv fr tt bs wide L cg cs w1.heap.size va vc (ints V.1) W3:=⟨h3,o3,hrd3,hvo3,hb3⟩
   have HLS:=lh hLS
   have hfs:(fr:Int)≤(s.size:Int):=by omega
   have hci:∀(i:Nat) (p:Pc),L[i]? = some p→p.c0<lp.c1:=fun i p hp=>by have:=hc i p hp;rw [hlc] at this;exact this
   have HCI:=lh hci
   have HRN:=lh hown
   have hFb:(F:Int)≤2097152:=by omega
   have hFl:(lp.c1:Int)≤2097152:=by omega
   have hVLl:=HVL'.out
   have HVLl:=lh hVLl
   have hvcap:=own_slice2 hvo3
   rw [ints_len,hVLl] at hvcap
   have hvadr:=out_addr hvo3
   have HVA:=lh hvadr
   have HVC:=lh hvcap
   clear h3 o3 hrd3 hvo3 hb3 hLS hownLv hlc hc hci hown hVLl HVL' hL0 hF hvcap hvadr hbs0 hV hcs
   have cL:((((n+1:Nat)):Int)==0)=false:=by rw [beq_eq_false_iff_ne];omega
   have cL2:((n:Int)+1==0)=false:=by rw [beq_eq_false_iff_ne];omega
   rw [hn1] at d0
   go_upto_region 7 with (go_at_call 126;refine (HCT.out _).mono ?_;rintro e w4 ⟨rfl,hb4⟩)
   have hLS4:=HLS.out.below hb4
   clear d0 d2 hb4 HLS HCT
   obtain⟨G,hG,hGb,hGl,hcell,hfz⟩:=hLS4.own.at n lp hlp
   subst hG
   have HKC:Hid (∀W,LvS w b (.slice (some ⟨G,0,none⟩) L.length lcap) sv fr tt bs wide L cg cs w1.heap.size va vc (ints V.1) W→W.cell? ⟨b,0,none⟩=some (.slice (some ⟨G,0,none⟩) (n+1) lcap)∧W.cell? ⟨G,n*10+3,none⟩=some (.int .i64 lp.c1)∧LvS w b (.slice (some ⟨G,0,none⟩) L.length lcap) sv fr tt bs wide L cg cs w1.heap.size va vc (ints V.1) W) :=
    lh fun W h=>⟨hn1▸h.ld.cells.1,(by
     obtain⟨G',e,_,_,hc',_⟩:=h.own.at n lp hlp
     cases e
     exact hc' 3 _ rfl),h⟩
   have HROW:Hid (∀W,LvS w b (.slice (some ⟨G,0,none⟩) L.length lcap) sv fr tt bs wide L cg cs w1.heap.size va vc (ints V.1) W →
    Calls Tryz.prog 127 #[.slice (some ⟨cg,0,none⟩) cs.length cc,.slice va cs.length vc,.int .u8 bs,.int .i64 F,.int .i64 ((F:Int)+lp.c1)] W fun e w'=>∃oa oc,e=.returned (.slice oa own.length oc)∧OutAt .u8 5 w' (b+1) oa oc (ints own) ∧
     LvS w b (.slice (some ⟨G,0,none⟩) L.length lcap) sv fr tt bs wide L cg cs w1.heap.size va vc (ints V.1) w') :=
    lh fun W h=>(Row_any (some ⟨cg,0,none⟩) va cs V.1 cs.length cs.length cc vc bs F ((F:Int)+lp.c1) W rfl HVLl.out h.rd h.vo.rd hcn hcn HVC.out.1 (by have:=HVC.out.2;unfold maxLen at this;omega) HVA.out).mono fun e w' hp=>by
     rw [HRN.out] at hp
     obtain⟨hb,a,c,he,ho⟩:=hp
     exact⟨a,c,he,own_mono ho (by have:=h.ld.lt;omega),h.below hb⟩
   obtain⟨k0,k3,hL4⟩:=HKC.out _ hLS4
   have hn2:(n:Int)≤2097152:=by omega
   have i1:IntKind.i64.wrap ((n:Int)+1-1)=(n:Int):=by rw [IntKind.wrap_i64];omega
   have i2:IntKind.i64.wrap (((n+1:Nat):Int)-1)=(n:Int):=by rw [IntKind.wrap_i64];omega
   have i3:IntKind.i64.wrap ((F:Int)+(lp.c1:Int))=(F:Int)+(lp.c1:Int):=by rw [IntKind.wrap_i64];omega
   have i0:IntKind.i64.wrap (n:Int)=(n:Int):=by rw [IntKind.wrap_i64];omega
   have i4:(0:Int)≤(n:Int):=by omega
   have i5:(n:Int)<(n:Int)+1:=by omega
   have i6:(n:Int)<((n+1:Nat):Int):=by omega
   clear hLS4 hcell hfz HVLl HVA HVC HRN
   go_region_held3 (fun w'=>w'.cell? ⟨b,0,none⟩=some (.slice (some ⟨G,0,none⟩) (n+1) lcap)∧w'.cell? ⟨G,n*10+3,none⟩=some (.int .i64 lp.c1)∧LvS w b (.slice (some ⟨G,0,none⟩) L.length lcap) sv fr tt bs wide L cg cs w1.heap.size va vc (ints V.1) w')
    ((refine HKC.out _ ?_;repeat (first | assumption | refine LvS.drew ?_)))
    ((go_at_call 127;refine (HROW.out _ (by repeat (first | assumption | refine LvS.drew ?_))).mono ?_;rintro e w5 ⟨oa,oc,rfl,ho5,hL5⟩))
   have HL5:=lh hL5
   have HO5:=lh ho5
   clear hL5 ho5 k0 k3 hL4 HROW i0 i1 i2 i3 i4 i5 i6
   have hl5:=HL5.out.ld
   have o5:=HL5.out.own
   have b5:=HL5.out.bel
   have d0:=hl5.cells.1
   rw [hn1] at d0
   have H5a:=lh hl5
   have H5b:=lh o5
   have H5c:=lh b5
   clear hl5 o5 b5 HL5 HKC
   go_upto_block 0 with (fail)
   go_wp2_with (fail)
   clear d0
   go_loopw [67] (fun u67 wx=>∃i:Nat,i≤n+1∧u67=.int .i64 i∧LdB wx b (.slice (some ⟨G,0,none⟩) L.length lcap) sv fr tt bs wide∧OwnS pcE 98 wx (b+1) (.slice (some ⟨G,0,none⟩) L.length lcap) (lvP own L i)∧OutAt .u8 5 wx (b+1) oa oc (ints own)∧Below b w wx) (fun u67 _=>n+1-(intOf u67).toNat)
   case atStart=>exact⟨0,by omega,rfl,H5a.out,by rw [lvP_zero];exact H5b.out,HO5.out,H5c.out⟩
   case round =>
    obtain⟨i,hi,rfl,hld,hrow,hout,hbel⟩:=hrel
    have HLD:=lh hld
    have HROWi:=lh hrow
    have HOUT:=lh hout
    have HBEL:=lh hbel
    clear hld hrow hout hbel H5a H5b H5c HO5
    by_cases hlt:i<n+1
    ·obtain⟨p,hp⟩:∃p,L[i]? = some p:=⟨_,List.getElem?_eq_getElem (by omega)⟩
     have hpl:=lvP_get own L i p hp
     have hll:=lvP_len own L i (by omega)
     have hnx:=lvP_next own L i p hp
     obtain⟨M,hM⟩:∃M,lvP own L i=M:=⟨_,rfl⟩
     rw [hM] at hpl hll hnx
     have hrow2:OwnS pcE 98 wr (b+1) (.slice (some ⟨G,0,none⟩) M.length lcap) M:=by rw [hll,←hM];exact HROWi.out
     have hld2:LdB wr b (.slice (some ⟨G,0,none⟩) M.length lcap) sv fr tt bs wide:=by rw [hll];exact HLD.out
     obtain⟨G',eG,hGb',hGl',hcell,hfz⟩:=hrow2.at i p hpl
     cases eG
     have hc0:=HCI.out i p hp
     obtain⟨og,hog,hob,hol,hoc,hof,hocap,_⟩:=HOUT.out.at p.c0 (by rw [ints_len,hownl];exact hc0)
     subst hog
     rw [ith_ints] at hoc
     obtain⟨x,hx⟩:∃x,own.getD p.c0 0=x:=⟨_,rfl⟩
     rw [hx] at hoc
     have y0:wr.cell? ⟨G,i*10,none⟩=some (.int .i64 p.a):=hcell 0 _ rfl
     have y1:wr.cell? ⟨G,i*10+1,none⟩=some (.int .i64 p.size):=hcell 1 _ rfl
     have y2:wr.cell? ⟨G,i*10+2,none⟩=some (.int .i64 p.c0):=hcell 2 _ rfl
     have y3:wr.cell? ⟨G,i*10+3,none⟩=some (.int .i64 p.c1):=hcell 3 _ rfl
     have y4:wr.cell? ⟨G,i*10+4,none⟩=some (.int .u8 p.level):=hcell 4 _ rfl
     have y5:wr.cell? ⟨G,i*10+5,none⟩=some (.string p.became):=hcell 5 _ rfl
     have y6:wr.cell? ⟨G,i*10+6,none⟩=some (.string p.shown):=hcell 6 _ rfl
     have y7:wr.cell? ⟨G,i*10+7,none⟩=some (.int .i64 p.wide):=hcell 7 _ rfl
     have y8:wr.cell? ⟨G,i*10+8,none⟩=some (.int .i64 p.e0):=hcell 8 _ rfl
     have y9:wr.cell? ⟨G,i*10+9,none⟩=some (.int .i64 p.e1):=hcell 9 _ rfl
     have hsel:M.set i { p with level:=p.level }=M:=by
      apply List.ext_getElem?
      intro j
      rw [List.getElem?_set]
      split
      ·rename_i e;subst e
       split
       ·exact hpl.symm
       ·rename_i h;exact absurd (List.getElem?_eq_some_iff.1 hpl).1 h
      ·rfl
     have HNX:=lh hnx
     have HLL:=lh hll
     have HX:=lh hx
     have HP:=lh hp
     have HSEL:=lh hsel
     have HLD2:=lh hld2
     have HROW2:=lh hrow2
     have hil:i<M.length:=(List.getElem?_eq_some_iff.1 hpl).1
     have hc0i:(p.c0:Int)<(own.length:Int):=by omega
     clear hpl hll hnx hM hrow2 hld2 hcell hfz hp hx hsel hoc hof
     go_upto_region 11 with (fail)
     have hb6:Below wr.heap.size wr (wr.alloc (.cells #[.int .i64 p.a,.int .i64 p.size,.int .i64 p.c0,.int .i64 p.c1,.int .u8 p.level,.string p.became,.string p.shown,.int .i64 p.wide,.int .i64 p.e0,.int .i64 p.e1] 98)):=(Below.refl _ _).alloc (Nat.le_refl _) _
     have hx6:=World.alloc_heap_new wr (.cells #[.int .i64 p.a,.int .i64 p.size,.int .i64 p.c0,.int .i64 p.c1,.int .u8 p.level,.string p.became,.string p.shown,.int .i64 p.wide,.int .i64 p.e0,.int .i64 p.e1] 98)
     generalize wr.alloc (.cells #[.int .i64 p.a,.int .i64 p.size,.int .i64 p.c0,.int .i64 p.c1,.int .u8 p.level,.string p.became,.string p.shown,.int .i64 p.wide,.int .i64 p.e0,.int .i64 p.e1] 98)=W6 at hb6 hx6 ⊢
     obtain⟨P,hP⟩:∃P,wr.heap.size=P:=⟨_,rfl⟩
     have hGP:G≠P:=by omega
     have hLW:LwS w b G lcap sv fr tt bs wide M i p P (some ⟨og,0,none⟩) oc (ints own) W6 :=
      ⟨HLD2.out.below hb6 HLD2.out.lt,⟨p.level,by rw [HSEL.out];exact HROW2.out.keep hb6⟩,hP▸hx6,HOUT.out.keep hb6,HBEL.out.trans (hb6.mono (Nat.le_of_lt HLD2.out.lt))⟩
     obtain⟨v4,hv4⟩:∃v4:World→Value,∀W,LwS w b G lcap sv fr tt bs wide M i p P (some ⟨og,0,none⟩) oc (ints own) W→W.cell? ⟨G,i*10+4,none⟩=some (v4 W)∧W.frozen? ⟨G,i*10+4,none⟩=false:=⟨fun W=>(W.cell? ⟨G,i*10+4,none⟩).getD undef,fun W h=>by
      obtain⟨y,hr⟩:=h.row
      have hml:(M.set i { p with level:=y }).length=M.length:=List.length_set
      have hge:(M.set i { p with level:=y })[i]? = some { p with level:=y }:=by rw [List.getElem?_set];simp [hil]
      obtain⟨g,e,_,_,hcc,hff⟩:=(show OwnS pcE 98 W (b+1) (.slice (some ⟨G,0,none⟩) (M.set i { p with level:=y }).length lcap) _ by rw [hml];exact hr).at i _ hge
      cases e
      have h4:=hcc 4 _ rfl
      refine⟨?_,hff _⟩
      rw [show i*pcE.k+4=i*10+4 from rfl] at h4
      simp [h4]⟩
     have HKW:Hid (∀W,LwS w b G lcap sv fr tt bs wide M i p P (some ⟨og,0,none⟩) oc (ints own) W→W.cell? ⟨b,0,none⟩=some (.slice (some ⟨G,0,none⟩) (n+1) lcap)∧W.cell? ⟨P,2,none⟩=some (.int .i64 p.c0)∧W.cell? ⟨og,p.c0,none⟩=some (.int .u8 x)∧W.cell? ⟨G,i*10+4,none⟩=some (v4 W)∧W.frozen? ⟨G,i*10+4,none⟩=false ∧
      LwS w b G lcap sv fr tt bs wide M i p P (some ⟨og,0,none⟩) oc (ints own) W) :=
      lh fun W h=>⟨by have:=h.ld.cells.1;rw [HLL.out,hn1] at this;exact this,(by have:=h.box;simp [World.cell?,this]),(by
       obtain⟨og',e,_,_,hc',_⟩:=h.out.at p.c0 (by rw [ints_len,hownl];exact hc0)
       cases e
       rw [ith_ints,HX.out] at hc'
       exact hc'),(hv4 W h).1,(hv4 W h).2,h⟩
     have HSW:Hid (∀W,LwS w b G lcap sv fr tt bs wide M i p P (some ⟨og,0,none⟩) oc (ints own) W→LwS w b G lcap sv fr tt bs wide M i p P (some ⟨og,0,none⟩) oc (ints own) (W.setCell ⟨G,i*10+4,none⟩ (.int .u8 x))):=lh fun W h=>h.set hil hGP x
     obtain⟨k0,k2,kx,k4,kf,hW6⟩:=HKW.out _ hLW
     have HLW:=lh hLW
     rw [hP]
     have i3:(i:Int)<(n:Int)+1:=by omega
     have i4:(0:Int)≤(i:Int):=by omega
     have i5:(0:Int)≤(p.c0:Int):=by omega
     clear y0 y1 y2 y3 y4 y5 y6 y7 y8 y9 hv4 hb6 hx6 hLW HLD2 HROW2 HSEL
     go_region_held3 (fun w'=>w'.cell? ⟨b,0,none⟩=some (.slice (some ⟨G,0,none⟩) (n+1) lcap)∧w'.cell? ⟨P,2,none⟩=some (.int .i64 p.c0)∧w'.cell? ⟨og,p.c0,none⟩=some (.int .u8 x)∧w'.cell? ⟨G,i*10+4,none⟩=some (v4 w')∧w'.frozen? ⟨G,i*10+4,none⟩=false ∧
      LwS w b G lcap sv fr tt bs wide M i p P (some ⟨og,0,none⟩) oc (ints own) w')
      ((refine HKW.out _ ?_;repeat (first | assumption | refine LwS.drew ?_ | refine HSW.out _ ?_)))
      (fail)
     have hW7:=HSW.out _ HLW.out
     have hR7:=HLW.out.rowx hil x
     rw [show ({ p with level:=x }:Pc)=levelP own p by unfold levelP;rw [HX.out],HNX.out,HLL.out] at hR7
     have hL7:=hW7.ld
     rw [HLL.out] at hL7
     have ZL:=lh hL7
     have ZR:=lh hR7
     have ZO:=lh hW7.out
     have ZB:=lh hW7.bel.drew
     clear hW7 hR7 hL7 k0 k2 kx k4 kf hW6 HLW HSW HKW
     go_wp2_with (fail)
     go_roundw
     case rel=>exact⟨i+1,by omega,by go_num,ZL.out,ZR.out,ZO.out,ZB.out⟩
     case measure=>simp [intOf];omega
    ·obtain rfl:i=n+1:=by omega
     have e1:lvP own L (n+1)=L.map (levelP own):=by rw [←hn1];exact lvP_all own L
     have hfin:OwnS pcE 98 wr (b+1) (.slice (some ⟨G,0,none⟩) L.length lcap) (L.map (levelP (ownLv s want fr (lastC L)))):=by rw [HOWN.out,←e1];exact HROWi.out
     have HFIN:=lh hfin
     clear hfin e1 hlt
     go_wp2_with (fail)
     go_end0
     exact⟨rfl,HLD.out,HFIN.out,HBEL.out⟩
end
section
open Go.RowKit Go.Proofs Go.Shelf
theorem iter_own {k:IntKind} {e base cap:Nat} {w:World} {ao:Option Addr} {out:List Int} (h:OutAt k e w base ao cap out) {B:Nat} {s:ByteArray} {pos:Nat} (hB:B<base) (pos':Nat) (hs:w.heap[B]? = some (.stringIter s pos)):OutAt k e (w.iterAt B s pos') base ao cap out:=by
 refine⟨h.1,?_⟩
 rcases h.2 with hn | ⟨g,c,cur,h1,h2,h3,h4⟩
 ·exact .inl hn
 ·exact .inr ⟨g,c,cur,h1,h2,(Lib.iterAt_other w B g s pos' (by omega)).trans h3,h4⟩
theorem bad_step (s:ByteArray) (pos:Nat) (h:pos<s.size):badF s (s.size-pos) pos=((decide (((Utf8.decode s pos).1:Int)=65533)&&decide ((Utf8.decode s pos).2=1))||badF s (s.size-(pos+(Utf8.decode s pos).2)) (pos+(Utf8.decode s pos).2)):=by
 obtain⟨k,hk⟩:∃k,s.size-pos=k+1:=⟨s.size-pos-1,by omega⟩
 have hp:=Lib.decode_width_pos s pos h
 rw [hk,badF,if_pos h]
 congr 1
 exact badF_fuel s _ _ _ (by omega) (by omega)
set_option maxRecDepth 100000 in
set_option maxHeartbeats 1000000 in
theorem Bad_any (s:ByteArray) (hs:s.size≤2097152) (w:World) (hT:T8 w) :
 Calls Tryz.prog 129 #[.string s] w fun e w'=>∃a n c,e=.returned (.slice a n c)∧(n=0↔badI s=false)∧Below w.heap.size w w':=by
 obtain⟨i0,hi0,hz0,hz1,hz2⟩:=info_parts (Tryz.info_int)
 go_enter Tryz.func129,Tryz.ntmps129
 go_wp2_with (fail)
 refine wp_scope_straight ?_
 go_wp2_with (fail)
 refine wp_label ?_
 go_wp2_with (fail)
 obtain⟨B0,hB0⟩:∃B0,w.heap.size=B0:=⟨_,rfl⟩
 have hx0:(w.iter s 0).heap[B0]? = some (.stringIter s 0):=by rw [←hB0];exact World.iter_heap w s 0
 have hb0:Below B0 w (w.iter s 0):=by rw [←hB0];exact (Below.refl _ _).alloc (Nat.le_refl _) _
 generalize w.iter s 0=W0 at hx0 hb0 ⊢
 rw [hB0]
 go_loopw [3,4,5,6,7,14] (fun u3 _ _ _ _ _ wx=>∃(pos:Nat) (out:List Int) (a:Option Addr) (c:Nat),pos≤s.size∧out.length≤pos∧u3=.slice a out.length c∧wx.heap[B0]? = some (.stringIter s pos)∧OutAt .i64 3 wx (B0+1) a c out∧Below B0 w wx ∧
  ((out=[]∧badF s (s.size-pos) pos=badI s)∨(out≠[]∧badI s=true))) (fun _ _ _ _ _ _ wx=>s.size-wx.iterPos B0)
 case atStart=>exact⟨0,[],none,0,by omega,by simp,rfl,hx0,World.ownsRow_nil _ _ _ _,hb0,.inl ⟨rfl,by rw [Nat.sub_zero];rfl⟩⟩
 case round =>
  obtain⟨pos,out,a,c,hp,hol,rfl,hit,hO,hbel,hbad⟩:=hrel
  have hip:wr.iterPos B0=pos:=by simp [World.iterPos,hit]
  clear hx0 hb0
  by_cases hlt:pos<s.size
  ·have hnx:=fun ty=>Lib.run_next_any_at (P:=Tryz.prog) wr B0 s pos ty hit hlt
   have hstep:=bad_step s pos hlt
   have hdp:=Lib.decode_width_pos s pos hlt
   have hdg:Lib.decodeGo (s.extract pos s.size)=Utf8.decode s pos:=by
    rw [←dec_go _ (by rw [ext_size s pos hp];omega),dec_ext s pos 0 hp,Nat.add_zero]
   have hdl:pos+(Utf8.decode s pos).2≤s.size:=by
    have h1:=decN_le (s.extract pos s.size)
    unfold decN at h1
    rw [hdg,ext_size s pos hp] at h1
    omega
   have hO1:=iter_own hO (by omega) (pos+(Utf8.decode s pos).2) hit
   have hx1:=Lib.iterAt_heap wr B0 s pos (pos+(Utf8.decode s pos).2) hit
   have hb1:=Lib.below_iterAt hbel (Nat.le_refl B0) s (pos+(Utf8.decode s pos).2)
   have hT1:=hT.below hB0.symm hb1
   have HDE:Hid (∀W,T8 W→Calls Tryz.prog 147 #[.string (s.extract pos s.size)] W fun e w'=>e=.returned (.tuple #[.int .i32 (Utf8.decode s pos).1,.int .i64 (Utf8.decode s pos).2])∧Below W.heap.size W w'):=lh fun W h=>hdg▸Any.utf8_DecodeRuneInString Tryz.lays197 (s.extract pos s.size) W h
   generalize (Utf8.decode s pos).1=r at hnx hstep HDE
   generalize (Utf8.decode s pos).2=n at hnx hstep hdp hdl hO1 hx1 hb1 hT1 HDE
   generalize wr.iterAt B0 s (pos+n)=w1 at hnx hO1 hx1 hb1 hT1
   have HST:=lh hstep
   have HO1:=lh hO1
   have HX1:=lh hx1
   have HB1:=lh hb1
   have HT1:=lh hT1
   have HBAD:=lh hbad
   have HDL:=lh hdl
   have HIP:=lh hip
   have HOL:=lh hol
   have gp:(pos:Int)≤(s.size:Int):=by omega
   clear hit hO hbel hbad hstep hO1 hx1 hb1 hT1 hdg hdl hip hol
   go_upto_region 6 with (go_at_call 147;refine (HDE.out _ HT1.out).mono ?_;rintro e w2 ⟨rfl,hb2⟩)
   have hlt1:B0<w1.heap.size:=(Array.getElem?_eq_some_iff.1 HX1.out).1
   have hx2:w2.heap[B0]? = some (.stringIter s (pos+n)):=(hb2.block B0 hlt1).trans HX1.out
   have HX2:=lh hx2
   have HO2:=lh (HO1.out.keep hb2)
   have HB2:=lh (HB1.out.trans (hb2.mono (Nat.le_of_lt hlt1)))
   have hsz2:B0<w2.heap.size:=(Array.getElem?_eq_some_iff.1 hx2).1
   clear hx2 hb2 HO1 HB1 HX1 HDE hnx
   have hsame:¬ (r=65533∧n=1)→((out=[]∧badF s (s.size-(pos+n)) (pos+n)=badI s)∨(out≠[]∧badI s=true)):=fun hno=>by
    rcases HBAD.out with ⟨h1,h2⟩ | h
    ·refine .inl ⟨h1,?_⟩
     rw [HST.out] at h2
     rw [←h2]
     by_cases h3:r=65533
     ·have h4:¬ n=1:=fun h=>hno ⟨h3,h⟩
      rw [decide_eq_false h4,Bool.and_false,Bool.false_or]
     ·have h5:¬ ((r:Int)=65533):=by omega
      rw [decide_eq_false h5,Bool.false_and,Bool.false_or]
    ·exact .inr h
   have HSAME:=lh hsame
   clear hsame
   by_cases hr:r=65533
   ·by_cases hn:n=1
    ·subst hr hn
     have HBI:Hid (badI s=true):=lh (by
      rcases HBAD.out with ⟨h1,h2⟩ | h
      ·rw [←h2,HST.out]
       rfl
      ·exact h.2)
     clear HSAME HST HBAD
     have hoc:=own_slice HO2.out
     go_wp2_with (at_builtin;refine wpList_append_own _ rfl _ _ 93 rfl (B0+1) 3 i0 (.int .i64 0) 1 8 Tryz.underlying93 hi0 hz0 hz1 hz2 rfl (by decide) _ _ _ rfl (HO2.out.alloc _) ⟨w2.heap.size,0,none⟩ 1 1 [.int .i64 pos] rfl rfl (cell_one_new _ _ _) (by simp [Value.oneCell']) (by unfold maxLen;have:=HOL.out;omega) (by have:=HOL.out;omega) (by simp;omega) ?_;intro v' w4 ho hg _)
     have hb4:=(HB2.out.alloc (Nat.le_of_lt hsz2) (.cells #[.int .i64 pos] 3)).grown hg (by simp;omega) (fun k hk=>by have:=(World.ownsRow.lt HO2.out k hk).1;omega)
     have hx4:w4.heap[B0]? = some (.stringIter s (pos+1)):=(hg.block B0 (by simp;omega) (fun e=>by have:=(World.ownsRow.lt HO2.out B0 e.symm).1;omega)).trans ((Below.heap_alloc w2 _ B0 hsz2).trans HX2.out)
     have hm:out.map (Value.int .i64)++[.int .i64 (pos:Int)]=(out++[(pos:Int)]).map (Value.int .i64):=by rw [List.map_append];rfl
     rw [hm] at ho
     obtain⟨va,vc,hva,_,_⟩:=own_slice ho
     subst hva
     have ho':OutAt .i64 3 w4 (B0+1) va vc (out++[(pos:Int)]):=by
      unfold OutAt
      rw [List.length_append]
      exact ho
     have HO4:=lh ho'
     have HX4:=lh hx4
     have HB4:=lh hb4
     clear ho ho' hx4 hb4 hg hm hoc HO2 HX2 HB2
     go_wp2_with (fail)
     go_roundw
     case rel=>exact⟨pos+1,out++[(pos:Int)],va,vc,HDL.out,by have:=HOL.out;rw [List.length_append];simp;omega,by rw [List.length_append];rfl,HX4.out,HO4.out,HB4.out,.inr ⟨by simp,HBI.out⟩⟩
     case measure=>rw [HIP.out];simp [World.iterPos,HX4.out];have:=HDL.out;omega
    ·have hne:((n:Int) != 1)=true:=by simp;omega
     have HN:=lh (HSAME.out (fun h=>hn h.2))
     subst hr
     clear hn HSAME HST HBAD
     go_wp2_with (fail)
     go_roundw
     case rel=>exact⟨pos+n,out,a,c,HDL.out,by have:=HOL.out;omega,rfl,HX2.out,HO2.out,HB2.out,HN.out⟩
     case measure=>rw [HIP.out];simp [World.iterPos,HX2.out];have:=HDL.out;omega
   ·have hne:((r:Int) != 65533)=true:=by simp;omega
    have HN:=lh (HSAME.out (fun h=>hr h.1))
    clear hr HSAME HST HBAD
    go_wp2_with (fail)
    go_roundw
    case rel=>exact⟨pos+n,out,a,c,HDL.out,by have:=HOL.out;omega,rfl,HX2.out,HO2.out,HB2.out,HN.out⟩
    case measure=>rw [HIP.out];simp [World.iterPos,HX2.out];have:=HDL.out;omega
  ·obtain rfl:pos=s.size:=by omega
   have hnx:=fun ty=>Lib.run_next_end_at (P:=Tryz.prog) wr B0 s s.size ty hit (Nat.lt_irrefl _)
   have hE:out.length=0↔badI s=false:=by
    rcases hbad with ⟨h1,h2⟩ | ⟨h1,h2⟩
    ·rw [h1,←h2,Nat.sub_self,badF]
     simp
    ·rw [h2]
     simp [h1]
   have HE:=lh hE
   have HBE:=lh hbel
   clear hE hbel hbad hO hit hip hol
   go_wp2_with (fail)
   unfold Exit.noGoto
   go_ret
   exact⟨_,_,_,rfl,HE.out,by first | exact HBE.out | exact hB0▸HBE.out⟩
end
end Go.Proofs.YtlmjbfncopbilaaGreatDoor
