/- Part 35 (merged by a program): lemmas of no further condition than each states. -/
import Derived.Test.YtlmjbfncopbilaaGreatDoorK33
import Derived.Test.YtlmjbfncopbilaaGreatDoorK34
namespace Go.Proofs.YtlmjbfncopbilaaGreatDoor
set_option linter.unusedVariables false
set_option linter.unusedSimpArgs false
section
open Go.RowKit Go.Proofs Go.Shelf
attribute [local go_sem] Oper.semAt_some
structure ChS (w:World) (b:Nat) (lv sv:Value) (fr tt bs:Nat) (wide:Int) (M:List Pc) (W:World):Prop where
 ld:LdB W b lv sv fr tt bs wide
 own:OwnS pcE 98 W (b+1) lv M
 bel:Below b w W
section
variable {w W W':World} {b:Nat} {lv sv:Value} {fr tt bs:Nat} {wide:Int} {M:List Pc}
theorem ChS.below (h:ChS w b lv sv fr tt bs wide M W) (hb:Below W.heap.size W W'):ChS w b lv sv fr tt bs wide M W' :=
 ⟨h.ld.below hb h.ld.lt,h.own.keep hb,h.bel.trans (hb.mono (Nat.le_of_lt h.ld.lt))⟩
theorem ChS.drew (h:ChS w b lv sv fr tt bs wide M W):ChS w b lv sv fr tt bs wide M W.drew:=⟨h.ld,h.own,h.bel.drew⟩
end
def chP (s:ByteArray) (rs:List Int) (L:List Pc) (i:Nat):List Pc:=(L.take i).map (changeP s rs)++L.drop i
theorem chP_zero (s:ByteArray) (rs:List Int) (L:List Pc):chP s rs L 0=L:=by unfold chP;simp
theorem chP_all (s:ByteArray) (rs:List Int) (L:List Pc):chP s rs L L.length=L.map (changeP s rs):=by unfold chP;simp
theorem chP_len (s:ByteArray) (rs:List Int) (L:List Pc) (i:Nat) (h:i≤L.length):(chP s rs L i).length=L.length:=by unfold chP;simp;omega
theorem chP_get (s:ByteArray) (rs:List Int) (L:List Pc) (i:Nat) (p:Pc) (h:L[i]? = some p):(chP s rs L i)[i]? = some p:=by
 have hl:=(List.getElem?_eq_some_iff.1 h).1
 unfold chP
 rw [List.getElem?_append_right (by simp;omega)]
 simp only [List.length_map,List.length_take]
 rw [List.getElem?_drop,show i+(i-min i L.length)=i by omega]
 exact h
theorem chP_next (s:ByteArray) (rs:List Int) (L:List Pc) (i:Nat) (p:Pc) (h:L[i]? = some p):(chP s rs L i).set i (changeP s rs p)=chP s rs L (i+1):=by
 have hl:=(List.getElem?_eq_some_iff.1 h).1
 unfold chP
 have h1:(List.map (changeP s rs) (L.take i)).length=i:=by simp;omega
 rw [List.set_append_right _ _ (by omega),h1,Nat.sub_self,List.take_add_one,h,List.map_append,dropR_cons h,List.set_cons_zero,List.append_assoc]
 rfl
theorem odd_any (p:Pc) (hp:p.level<256) (w:World):Calls Tryz.prog 92 #[.agg #[.int .i64 p.a,.int .i64 p.size,.int .i64 p.c0,.int .i64 p.c1,.int .u8 p.level,.string p.became,.string p.shown,.int .i64 p.wide,.int .i64 p.e0,.int .i64 p.e1]] w fun e w' =>
 e=.returned (.int .i64 ((p.level % 2:Nat):Int))∧Below w.heap.size w w':=by
 go_enter Tryz.func92,Tryz.ntmps92
 go_wp2_with (fail)
 have hb:Below w.heap.size w (w.alloc (.cells #[.int .i64 p.a,.int .i64 p.size,.int .i64 p.c0,.int .i64 p.c1,.int .u8 p.level,.string p.became,.string p.shown,.int .i64 p.wide,.int .i64 p.e0,.int .i64 p.e1] 98)):=(Below.refl _ _).alloc (Nat.le_refl _) _
 go_ret
 exact⟨ret_i (by rw [bits_level _ hp];unfold wrap64;omega),hb⟩
theorem ChS.set {w W:World} {b G cap:Nat} {sv:Value} {fr tt bs:Nat} {wide:Int} {M:List Pc} (h:ChS w b (.slice (some ⟨G,0,none⟩) M.length cap) sv fr tt bs wide M W) (i:Nat) (p:Pc) (hp:M[i]? = some p) (x:ByteArray) :
 ChS w b (.slice (some ⟨G,0,none⟩) M.length cap) sv fr tt bs wide (M.set i { p with became:=x }) (W.setCell ⟨G,i*10+5,none⟩ (.string x)):=by
 have hG:=World.ownsRow.lt h.own G rfl
 refine⟨box_other h.ld (by omega),?_,h.bel.trans ((Below.refl _ W).setCell (p:=⟨G,i*10+5,none⟩) (show b≤G by omega) _)⟩
 have:=OwnS.set (cap:=cap) h.own i p { p with became:=x } hp 5 (.string x) (by decide) rfl
 rw [List.length_set] at this
 exact this
set_option maxRecDepth 100000 in
set_option maxHeartbeats 2000000 in
theorem rChg_any (s:ByteArray) (hs:s.size≤2097152) (tab want:Int) (wideA join raw:Bool) (b:Nat) (lv sv:Value) (fr tt bs:Nat) (wide:Int) (L:List Pc) (w:World) (hL:LdB w b lv sv fr tt bs wide) (hO:OwnS pcE 98 w (b+1) lv L) (hT:T8 w) (hg3:Tryz.lays197_ren.g 3<b) (hg4:Tryz.lays197_ren.g 4<b)
 (hfr:fr≤tt) (htt:tt≤s.size) (hn:L.length≤2097152) (hc:∀(i:Nat) (p:Pc),L[i]? = some p→p.c0<p.c1∧p.c1≤(runesI (s.extract fr tt)).length∧p.a+p.size≤s.size∧p.level<256) :
 Calls Tryz.prog 85 #[.pointer (some ⟨b,0,none⟩),.string s,lookV tab want wideA join raw] w fun e w'=>e=.returned (.tuple #[]) ∧
  LdB w' b lv sv fr tt bs wide∧OwnS pcE 98 w' (b+1) lv (L.map (changeP s (madeI s join fr tt)))∧Below b w w':=by
 obtain⟨i0,hi0,hz0,hz1,hz2⟩:=info_parts (Tryz.info_rune)
 have hbs:b<w.heap.size:=hL.lt
 have HGW:Hid (∀g,lv.ownBlock=some g→g<w.heap.size):=lh fun g hg=>(World.ownsRow.lt hO g hg).2
 have HG3:=lh hg3
 have HG4:=lh hg4
 clear hg3 hg4
 go_enter Tryz.func85,Tryz.ntmps85
 go_upto_region 1 with (fail)
 have hb0:Below w.heap.size w (w.alloc (.cells #[.int .i64 tab,.bool wideA,.int .i8 want,.bool join,.bool raw] 26)):=(Below.refl _ _).alloc (Nat.le_refl _) _
 have hx0:=World.alloc_heap_new w (.cells #[.int .i64 tab,.bool wideA,.int .i8 want,.bool join,.bool raw] 26)
 generalize w.alloc (.cells #[.int .i64 tab,.bool wideA,.int .i8 want,.bool join,.bool raw] 26)=W0 at hb0 hx0 ⊢
 obtain⟨lb,hlb⟩:∃lb,w.heap.size=lb:=⟨_,rfl⟩
 rw [hlb] at hx0 ⊢
 have hS0:ChS w b lv sv fr tt bs wide L W0:=⟨hL.below hb0 hbs,hO.keep hb0,hb0.mono (Nat.le_of_lt hbs)⟩
 have HT0:=lh (hT.below rfl hb0)
 have hs0:lb<W0.heap.size:=(Array.getElem?_eq_some_iff.1 hx0).1
 have l3:W0.cell? ⟨lb,3,none⟩=some (.bool join):=by simp [World.cell?,hx0]
 obtain⟨R,hR⟩:∃R,runesI (s.extract fr tt)=R:=⟨_,rfl⟩
 have hes:(s.extract fr tt).size≤2097152:=by simp [ByteArray.size_extract];omega
 have hRn:R.length≤2097152:=by rw [←hR];have:=runesI_len (s.extract fr tt);omega
 rw [hR] at hc
 have HRU:Hid (∀W:World,(W.cell? ⟨lb,3,none⟩=some (.bool join)∧T8 W∧ChS w b lv sv fr tt bs wide L W)→Calls Tryz.prog 76 #[.string (s.extract fr tt)] W fun e w'=>∃a c,e=.returned (.slice a R.length c)∧Rd .i32 w' a R∧R.length≤c∧c≤9223372036854775807∧(∃g,a=some ⟨g,0,none⟩∧w.heap.size≤g) ∧
  w'.cell? ⟨lb,3,none⟩=some (.bool join)∧T8 w'∧ChS w b lv sv fr tt bs wide L w'):=lh fun W h=>(Runes_at (s.extract fr tt) hes W).mono fun e w' hp=>by
   rw [hR] at hp
   obtain⟨c,he,h1,h2,h3,hb⟩:=hp
   exact⟨_,c,he,h1,h2,h3,⟨_,rfl,h.2.2.bel.size⟩,cell_bl hb (cell_lt h.1) h.1,h.2.1.below rfl hb,h.2.2.below hb⟩
 have HKC:Hid (∀W,(W.cell? ⟨lb,3,none⟩=some (.bool join)∧T8 W∧ChS w b lv sv fr tt bs wide L W)→W.cell? ⟨b,2,none⟩=some (.int .i64 fr)∧W.cell? ⟨b,3,none⟩=some (.int .i64 tt)∧W.cell? ⟨lb,3,none⟩=some (.bool join)∧T8 W∧ChS w b lv sv fr tt bs wide L W) :=
  lh fun W h=>⟨h.2.2.ld.cells.2.2.1,h.2.2.ld.cells.2.2.2.1,h⟩
 obtain⟨k2,k3,l3',hT0,hS0'⟩:=HKC.out _ ⟨l3,HT0.out,hS0⟩
 have HR:=lh hR
 have HC:=lh hc
 have i1:(fr:Int)≤(tt:Int):=by omega
 have i2:(tt:Int)≤(s.size:Int):=by omega
 clear hx0 hb0 hL hO hT HT0 hR hc hes l3 hS0
 go_region_held3 (fun w'=>w'.cell? ⟨b,2,none⟩=some (.int .i64 fr)∧w'.cell? ⟨b,3,none⟩=some (.int .i64 tt)∧w'.cell? ⟨lb,3,none⟩=some (.bool join)∧T8 w'∧ChS w b lv sv fr tt bs wide L w')
  ((refine HKC.out _ ⟨?_,?_,?_⟩ <;> (repeat (first | assumption | refine ChS.drew ?_))))
  ((go_at_call 76;refine (HRU.out _ ⟨by assumption,by assumption,by (repeat (first | assumption | refine ChS.drew ?_))⟩).mono ?_;rintro e w5 ⟨ra,rc,rfl,hrd5,hrc1,hrc2,hrg5,hl5,hT5,hS5⟩))
 obtain⟨rs,hrs⟩:∃rs,madeI s join fr tt=rs:=⟨_,rfl⟩
 have hrl:rs.length=R.length:=by rw [←hrs,madeI_len,HR.out]
 have hrj:rs=if join=true then shapedI R else R:=by rw [←hrs,←HR.out];rfl
 have HRS:=lh hrs
 have HRD:=lh hrd5
 have HT5:=lh hT5
 have HS5:=lh hS5
 have HRL:=lh hrl
 have HRJ:=lh hrj
 clear hrs hrd5 hT5 hS5 hrl hrj HRU HKC HR k2 k3 l3' hT0 hS0' i1 i2
 go_upto_if 23 with (fail)
 go_cut [6] (fun v wx=>∃(a:Option Addr) (c:Nat),v=.slice a R.length c∧Rd .i32 wx a rs∧R.length≤c∧c≤9223372036854775807∧(∃g,a=some ⟨g,0,none⟩∧w.heap.size≤g)∧T8 wx∧ChS w b lv sv fr tt bs wide L wx)
 case first =>
  cases join with
  | false =>
    have hrr:rs=R:=by have:=HRJ.out;rw [if_neg (by decide)] at this;exact this
    subst hrr
    go_wp2_with (fail)
    go_meet
    exact⟨_,_,rfl,HRD.out,hrc1,hrc2,hrg5,HT5.out,HS5.out⟩
  | true =>
    have hrr:rs=shapedI R:=by have:=HRJ.out;rw [if_pos rfl] at this;exact this
    have HSH:=lh (Shaped_any ra R R.length rc w5 rfl HRD.out hRn)
    go_wp2_with (go_at_call 128;refine HSH.out.mono ?_;rintro e w6 ⟨rfl,ho6,hb6⟩)
    go_meet
    exact⟨_,_,rfl,by rw [hrr];exact ho6.rd,Nat.le_refl _,by omega,⟨_,rfl,HS5.out.bel.size⟩,HT5.out.below rfl hb6,HS5.out.below hb6⟩
 case rest =>
  obtain⟨ca,cc,rfl,hrd,hc1,hc2,⟨cg,hcg,hcgb⟩,hT6,hS6⟩:=hcut
  subst hcg
  obtain⟨la,lcap,hlv,_,_⟩:=hS6.own.slice
  subst hlv
  have d0:=hS6.ld.cells.1
  have HRD6:=lh hrd
  have HT6:=lh hT6
  have HS6:=lh hS6
  have HC1:=lh hc1
  have HC2:=lh hc2
  clear hrd hT6 hS6 hc1 hc2 HRD HT5 HS5 HRJ hl5 hrc1 hrc2
  go_upto_block 0 with (fail)
  go_wp2_with (fail)
  clear d0
  obtain⟨n,hnn⟩:∃n,L.length=n:=⟨_,rfl⟩
  rw [hnn]
  have HNN:=lh hnn
  rw [hnn] at hn
  clear hnn
  go_loopw [7,9,10,31] (fun _ _ _ u wx=>∃i:Nat,i≤n∧u=.int .i64 i∧Rd .i32 wx (some ⟨cg,0,none⟩) rs∧T8 wx∧ChS w b (.slice la L.length lcap) sv fr tt bs wide (chP s rs L i) wx) (fun _ _ _ u _=>n-(intOf u).toNat)
  case atStart=>exact⟨0,by omega,rfl,HRD6.out,HT6.out,by rw [chP_zero];exact HS6.out⟩
  case round =>
   obtain⟨i,hi,rfl,hrd,hTr,hS⟩:=hrel
   have HRDr:=lh hrd
   have HTr:=lh hTr
   have HSr:=lh hS
   clear hrd hTr hS HRD6 HT6 HS6
   by_cases hlt:i<n
   ·obtain⟨p,hp⟩:∃p,L[i]? = some p:=⟨_,List.getElem?_eq_getElem (by rw [HNN.out];exact hlt)⟩
    have hpl:=chP_get s rs L i p hp
    have hll:=chP_len s rs L i (by rw [HNN.out];exact hi)
    have hnx:=chP_next s rs L i p hp
    obtain⟨M,hM⟩:∃M,chP s rs L i=M:=⟨_,rfl⟩
    rw [hM] at hpl hll hnx HSr
    have hrow2:OwnS pcE 98 wr (b+1) (.slice la M.length lcap) M:=by rw [hll];exact HSr.out.own
    obtain⟨G,eG,hGb,hGl,hcell,hfz⟩:=hrow2.at i p hpl
    subst eG
    obtain⟨hc01,hc1R,hcs,hclv⟩:=HC.out i p hp
    have y0:wr.cell? ⟨G,i*10,none⟩=some (.int .i64 p.a):=hcell 0 _ rfl
    have y1:wr.cell? ⟨G,i*10+1,none⟩=some (.int .i64 p.size):=hcell 1 _ rfl
    have y2:wr.cell? ⟨G,i*10+2,none⟩=some (.int .i64 p.c0):=hcell 2 _ rfl
    have y3:wr.cell? ⟨G,i*10+3,none⟩=some (.int .i64 p.c1):=hcell 3 _ rfl
    have y4:wr.cell? ⟨G,i*10+4,none⟩=some (.int .u8 p.level):=hcell 4 _ rfl
    have y5:wr.cell? ⟨G,i*10+5,none⟩=some (.string p.became):=hcell 5 _ rfl
    have y6:wr.cell? ⟨G,i*10+6,none⟩=some (.string p.shown):=hcell 6 _ rfl
    have y7:wr.cell? ⟨G,i*10+7,none⟩=some (.int .i64 p.wide):=hcell 7 _ rfl
    have y8:wr.cell? ⟨G,i*10+8,none⟩=some (.int .i64 p.e0):=hcell 8 _ rfl
    have y9:wr.cell? ⟨G,i*10+9,none⟩=some (.int .i64 p.e1):=hcell 9 _ rfl
    have HNX:=lh hnx
    have HLL:=lh hll
    have HP:=lh hp
    have HPL:=lh hpl
    clear hpl hll hnx hM hrow2 hcell hfz hp
    have j1:(p.c0:Int)≤(p.c1:Int):=by omega
    have j2:(p.c1:Int)≤(cc:Int):=by have:=HC1.out;omega
    have j3:(0:Int)≤(p.c0:Int):=by omega
    go_upto_region 7 with (fail)
    have hb6:Below wr.heap.size wr (wr.alloc (.cells #[.int .i64 p.a,.int .i64 p.size,.int .i64 p.c0,.int .i64 p.c1,.int .u8 p.level,.string p.became,.string p.shown,.int .i64 p.wide,.int .i64 p.e0,.int .i64 p.e1] 98)):=(Below.refl _ _).alloc (Nat.le_refl _) _
    have hx6:=World.alloc_heap_new wr (.cells #[.int .i64 p.a,.int .i64 p.size,.int .i64 p.c0,.int .i64 p.c1,.int .u8 p.level,.string p.became,.string p.shown,.int .i64 p.wide,.int .i64 p.e0,.int .i64 p.e1] 98)
    generalize wr.alloc (.cells #[.int .i64 p.a,.int .i64 p.size,.int .i64 p.c0,.int .i64 p.c1,.int .u8 p.level,.string p.became,.string p.shown,.int .i64 p.wide,.int .i64 p.e0,.int .i64 p.e1] 98)=W6 at hb6 hx6 ⊢
    obtain⟨P,hP⟩:∃P,wr.heap.size=P:=⟨_,rfl⟩
    have HB6:=lh hb6
    rw [hP] at hx6 ⊢
    have hPl:P<W6.heap.size:=(Array.getElem?_eq_some_iff.1 hx6).1
    have z0:W6.cell? ⟨P,0,none⟩=some (.int .i64 p.a):=by simp [World.cell?,hx6]
    have z1:W6.cell? ⟨P,1,none⟩=some (.int .i64 p.size):=by simp [World.cell?,hx6]
    have z2:W6.cell? ⟨P,2,none⟩=some (.int .i64 p.c0):=by simp [World.cell?,hx6]
    have z3:W6.cell? ⟨P,3,none⟩=some (.int .i64 p.c1):=by simp [World.cell?,hx6]
    have HX6:=lh hx6
    clear y0 y1 y2 y3 y4 y5 y6 y7 y8 y9 hb6 hx6
    have i1:IntKind.i64.wrap ((p.a:Int)+(p.size:Int))=(p.a:Int)+(p.size:Int):=by rw [IntKind.wrap_i64];omega
    have i2:(p.a:Int)+(p.size:Int)≤(s.size:Int):=by omega
    have i3:(p.a:Int)≤(p.a:Int)+(p.size:Int):=by omega
    go_upto_region 9 with (fail)
    have HBD:=lh (Bad_any (s.extract p.a (p.a+p.size)) (by simp [ByteArray.size_extract];omega) W6 (HTr.out.below rfl HB6.out))
    obtain⟨T,hTT⟩:∃T,s.extract p.a (p.a+p.size)=T:=⟨_,rfl⟩
    obtain⟨V,hV⟩:∃V,becomeI T ((rs.drop p.c0).take (p.c1-p.c0)) (decide (p.level % 2=1))=V:=⟨_,rfl⟩
    have hch:changeP s rs p={ p with became:=V }:=by unfold changeP;rw [hTT,hV]
    have HV:=lh hV
    have HCH:=lh hch
    rw [hTT] at HBD ⊢
    clear hTT hV hch
    go_upto_if 59 with (go_at_call 129;refine HBD.out.mono ?_;rintro e w7 ⟨ba,bn,bc,rfl,hbn,hb7⟩)
    have HS7:Hid (ChS w b (.slice (some ⟨G,0,none⟩) n lcap) sv fr tt bs wide M w7):=lh (by have:=(HSr.out.below (hP▸HB6.out)).below hb7;rw [HNN.out] at this;exact this)
    have HRD7:Hid (Rd .i32 w7 (some ⟨cg,0,none⟩) rs):=lh ((HRDr.out.below (hP▸HB6.out)).below hb7)
    have HT7:Hid (T8 w7):=lh ((HTr.out.below rfl (hP▸HB6.out)).below rfl hb7)
    have hx7:w7.heap[P]? = some (.cells #[.int .i64 p.a,.int .i64 p.size,.int .i64 p.c0,.int .i64 p.c1,.int .u8 p.level,.string p.became,.string p.shown,.int .i64 p.wide,.int .i64 p.e0,.int .i64 p.e1] 98 (0,0)):=(hb7.block P hPl).trans HX6.out
    have HX7:=lh hx7
    have HBN:=lh hbn
    have hP7:P<w7.heap.size:=(Array.getElem?_eq_some_iff.1 hx7).1
    clear hbn hb7 hx7 z0 z1 z2 z3 HX6 HBD
    go_cut [9] (fun v wx=>v=.string V∧Rd .i32 wx (some ⟨cg,0,none⟩) rs∧T8 wx∧ChS w b (.slice (some ⟨G,0,none⟩) n lcap) sv fr tt bs wide M wx)
    case first =>
     cases hbd:badI T with
     | true =>
       have hbn0:((bn:Int)==0)=false:=by
        rw [beq_eq_false_iff_ne]
        intro h
        have:=HBN.out.1 (by omega)
        rw [hbd] at this
        cases this
       have hVT:V=T:=by rw [←HV.out];unfold becomeI;rw [if_pos hbd]
       subst hVT
       go_wp2_with (fail)
       go_meet
       exact⟨rfl,HRD7.out,HT7.out,HS7.out⟩
     | false =>
       obtain rfl:bn=0:=HBN.out.2 hbd
       have HOD:=lh (odd_any p hclv w7)
       have z0:w7.cell? ⟨P,0,none⟩=some (.int .i64 p.a):=by simp [World.cell?,HX7.out]
       have z1:w7.cell? ⟨P,1,none⟩=some (.int .i64 p.size):=by simp [World.cell?,HX7.out]
       have z2:w7.cell? ⟨P,2,none⟩=some (.int .i64 p.c0):=by simp [World.cell?,HX7.out]
       have z3:w7.cell? ⟨P,3,none⟩=some (.int .i64 p.c1):=by simp [World.cell?,HX7.out]
       have z4:w7.cell? ⟨P,4,none⟩=some (.int .u8 p.level):=by simp [World.cell?,HX7.out]
       have z5:w7.cell? ⟨P,5,none⟩=some (.string p.became):=by simp [World.cell?,HX7.out]
       have z6:w7.cell? ⟨P,6,none⟩=some (.string p.shown):=by simp [World.cell?,HX7.out]
       have z7:w7.cell? ⟨P,7,none⟩=some (.int .i64 p.wide):=by simp [World.cell?,HX7.out]
       have z8:w7.cell? ⟨P,8,none⟩=some (.int .i64 p.e0):=by simp [World.cell?,HX7.out]
       have z9:w7.cell? ⟨P,9,none⟩=some (.int .i64 p.e1):=by simp [World.cell?,HX7.out]
       go_upto_if 62 with (go_at_call 92;refine HOD.out.mono ?_;rintro e w8 ⟨rfl,hb8⟩)
       have HS8:=lh (HS7.out.below hb8)
       have HRD8:=lh (HRD7.out.below hb8)
       have HT8:=lh (HT7.out.below rfl hb8)
       clear z0 z1 z2 z3 z4 z5 z6 z7 z8 z9 hb8 HOD HS7 HRD7 HT7 HX7
       have hOl:((rs.drop p.c0).take (p.c1-p.c0)).length=p.c1-p.c0:=by rw [List.length_take,List.length_drop,HRL.out];omega
       have hOg:∀j,j<p.c1-p.c0→((rs.drop p.c0).take (p.c1-p.c0)).getD j 0=ith rs (p.c0+j):=fun j hj=>by
        unfold ith
        rw [List.getD_eq_getElem?_getD,List.getElem?_take,if_pos hj,List.getElem?_drop,List.getD_eq_getElem?_getD]
       obtain⟨O,hOO⟩:∃O,(rs.drop p.c0).take (p.c1-p.c0)=O:=⟨_,rfl⟩
       rw [hOO] at hOl hOg HV
       have hcells:∀j,j<O.length→w8.cell? ((⟨cg,p.c0,none⟩:Addr).add j)=some (.int .i32 (O.getD j 0)):=fun j hj=>by
        rw [hOg j (by omega),Addr.add_lit]
        rcases HRD8.out with h | ⟨g,o,e,h1,h2⟩
        ·have:=HRL.out
         rw [h] at this
         simp at this
         omega
        ·cases e
         have:=h2 (p.c0+j) (by rw [HRL.out];omega)
         rw [Nat.zero_add] at this
         exact this
       by_cases hod:p.level % 2=1
       ·have hoo:((p.level:Int) % 2==1)=true:=by rw [beq_iff_eq];omega
        have hO0:=hcells 0 (by omega)
        rw [show ((⟨cg,p.c0,none⟩:Addr).add 0)=⟨cg,p.c0,none⟩ from rfl] at hO0
        obtain⟨y,hy⟩:∃y,O.getD 0 0=y:=⟨_,rfl⟩
        rw [hy] at hO0
        have HOD1:=lh hod
        have g1:(0:Int)<((p.c1-p.c0:Nat):Int):=by omega
        clear hod
        have HOL:=lh hOl
        have HOG:=lh hcells
        clear hOl hOg hcells
        obtain⟨q,hq⟩:∃q,p.c1-p.c0=q:=⟨_,rfl⟩
        rw [hq] at HOL g1 ⊢
        have hq0:0<q:=by omega
        by_cases hq1:q=1
        ·subst hq1
         go_upto_region 11 with (fail)
         obtain⟨S,hSi,hSo⟩:∃S:World→Prop,(∀W:World,W.cell? ⟨cg,p.c0,none⟩=some (.int .i32 y)→S W)∧(∀W:World,S W→W.cell? ⟨cg,p.c0,none⟩=some (.int .i32 y)):=⟨fun W=>W.cell? ⟨cg,p.c0,none⟩=some (.int .i32 y),fun _ h=>h,fun _ h=>h⟩
         have HSi:=lh hSi
         have hne:Nonempty (WIn S):=⟨⟨_,hSi _ hO0⟩⟩
         have kp_c:∀q:WIn S,q.w.cell? ⟨cg,p.c0,none⟩=some (.int .i32 y):=fun q=>hSo _ q.h
         clear hSi hSo
         refine wp_region_segP S [([0,1,2,5,6],3),([],4),([],7)] [8] (by kernel_rfl) (by kernel_rfl) (HSi.out _ hO0) ?_
         simp only [segHP,opsAt,List.filterMap_cons,List.filterMap_nil,List.getElem?_toArray,List.getElem?_cons_zero,List.getElem?_cons_succ]
         show wpQuiet _ _ _ _ [_,_,_,_,_] _
         repeat (go_big_quiet_step (fail))
         refine wpQuiet_nil ?_
         intro K hK
         have HKK:=lh hK
         clear hK
         have HMI:=lh (fun W=>Mirror_any y W)
         show wpList _ _ _ [_] _ _
         go_wp2_with (go_at_call 130;refine (HMI.out _).mono ?_;rintro e w9 ⟨rfl,rfl⟩)
         refine HKK.out _ _ (HSi.out _ hO0) ?_
         clear HKK HMI
         show wpQuiet _ _ _ _ [] _
         refine wpQuiet_nil ?_
         intro K hK
         have HKK:=lh hK
         clear hK
         show wpList _ _ _ [_] _ _
         go_wp2_with (fail)
         have hbn:Below w8.heap.size w8 (w8.alloc (.cells #[.int .i32 (mirrorI y)] 21)):=(Below.refl w8.heap.size w8).alloc (Nat.le_refl _) _
         have hsz9:w8.heap.size≤(w8.alloc (.cells #[.int .i32 (mirrorI y)] 21)).heap.size:=hbn.size
         have hnew:(w8.alloc (.cells #[.int .i32 (mirrorI y)] 21)).ownsRow w8.heap.size 21 1 (.slice (some ⟨w8.heap.size,0,none⟩) 1 1) 1 [.int .i32 (mirrorI y)]:=⟨rfl,.inr ⟨w8.heap.size,1,_,rfl,Nat.le_refl _,World.alloc_heap_new w8 _,Nat.le_refl _,by decide,rfl,rfl⟩⟩
         refine HKK.out _ _ (HSi.out _ (cell_bl hbn (cell_lt hO0) hO0)) ?_
         clear HKK
         have HNEW:=lh hnew
         have HBN:=lh hbn
         show wpQuiet _ _ _ _ [] _
         refine wpQuiet_nil ?_
         intro K hK
         have HKK:=lh hK
         clear hK hnew hbn
         show wpList _ _ _ [_] _ _
         go_wp2_with (at_builtin;refine wpList_append_src _ rfl _ _ 137 rfl w8.heap.size 21 i0 (.int .i32 0) 1 4 Tryz.underlying137 hi0 hz0 hz1 hz2 rfl (by decide) _ 1 _ rfl HNEW.out _ 0 _ [] rfl rfl (.inl rfl) (by simp [Value.oneCell']) (by unfold maxLen;omega) (by omega) hsz9 ?_;intro v' w9 ho hg)
         replace hg:(w8.alloc (.cells #[.int .i32 (mirrorI y)] 21)).drew.grownBy w9 (some w8.heap.size):=hg
         have hb9:Below w8.heap.size w8 w9:=HBN.out.drew.grown hg hsz9 (fun k hk=>by cases hk;exact Nat.le_refl _)
         obtain⟨na,nc,hv',hnc,_⟩:=own_slice ho
         subst hv'
         obtain⟨G9,eG9,hG9,_,hc9⟩:=own_cells ho (by omega)
         subst eG9
         have hcells9:∀j,j<(mirrorI y::O.tail).length→w9.cell? ((⟨G9,0,none⟩:Addr).add j)=some (.int .i32 ((mirrorI y::O.tail).getD j 0)):=fun j hj=>by
          have hj2:j<1:=by rw [List.length_cons,List.length_tail,HOL.out] at hj;omega
          rw [Addr.add_lit,Nat.zero_add,hc9 j (by omega)]
          obtain rfl:j=0:=by omega
          rfl
         have HB9:=lh hb9
         have hl9:(mirrorI y::O.tail).length=1:=by rw [List.length_cons,List.length_tail,HOL.out]
         have hcv:=run_convert_runes (P:=Tryz.prog) w9 137 9 21 ⟨G9,0,none⟩ (1+0) nc (mirrorI y::O.tail) (by omega) Tryz.underlying137 (by kernel_rfl) (by kernel_rfl) hcells9
         have hVe:V=runesBytes (mirrorI y::O.tail):=by
          rw [←HV.out]
          unfold becomeI
          rw [hbd,if_neg (by decide),decide_eq_true HOD1.out,if_pos rfl,runesBytes_F]
          unfold ith
          rw [hy]
         rw [List.take_of_length_le (by omega),←hVe] at hcv
         refine HKK.out _ _ (HSi.out _ (cell_bl hb9 (cell_lt hO0) hO0)) ?_
         clear HKK HNEW HBN ho hg hc9 hcells9 hVe hb9
         simp only [Act.put,List.setIfInBounds_toArray,List.set_cons_succ,List.set_cons_zero]
         show wpQuiet _ _ _ _ [_] _
         repeat (go_big_quiet_step (fail))
         refine wpQuiet_nil ?_
         refine NoPanic.normal ?_
         clear kp_c hne HSi
         go_wp2_with (fail)
         go_meet
         exact⟨rfl,HRD8.out.below HB9.out,HT8.out.below rfl HB9.out,HS8.out.below HB9.out⟩
        ·have hq2:(1:Int)<(q:Int):=by omega
         go_upto_region 11 with (fail)
         obtain⟨S,hSi,hSo⟩:∃S:World→Prop,(∀W:World,W.cell? ⟨cg,p.c0,none⟩=some (.int .i32 y)→S W)∧(∀W:World,S W→W.cell? ⟨cg,p.c0,none⟩=some (.int .i32 y)):=⟨fun W=>W.cell? ⟨cg,p.c0,none⟩=some (.int .i32 y),fun _ h=>h,fun _ h=>h⟩
         have HSi:=lh hSi
         have hne:Nonempty (WIn S):=⟨⟨_,hSi _ hO0⟩⟩
         have kp_c:∀q:WIn S,q.w.cell? ⟨cg,p.c0,none⟩=some (.int .i32 y):=fun q=>hSo _ q.h
         clear hSi hSo
         refine wp_region_segP S [([0,1,2,5,6],3),([],4),([],7)] [8] (by kernel_rfl) (by kernel_rfl) (HSi.out _ hO0) ?_
         simp only [segHP,opsAt,List.filterMap_cons,List.filterMap_nil,List.getElem?_toArray,List.getElem?_cons_zero,List.getElem?_cons_succ]
         show wpQuiet _ _ _ _ [_,_,_,_,_] _
         repeat (go_big_quiet_step (fail))
         refine wpQuiet_nil ?_
         intro K hK
         have HKK:=lh hK
         clear hK
         have HMI:=lh (fun W=>Mirror_any y W)
         show wpList _ _ _ [_] _ _
         go_wp2_with (go_at_call 130;refine (HMI.out _).mono ?_;rintro e w9 ⟨rfl,rfl⟩)
         refine HKK.out _ _ (HSi.out _ hO0) ?_
         clear HKK HMI
         show wpQuiet _ _ _ _ [] _
         refine wpQuiet_nil ?_
         intro K hK
         have HKK:=lh hK
         clear hK
         show wpList _ _ _ [_] _ _
         go_wp2_with (fail)
         have hbn:Below w8.heap.size w8 (w8.alloc (.cells #[.int .i32 (mirrorI y)] 21)):=(Below.refl w8.heap.size w8).alloc (Nat.le_refl _) _
         have hsz9:w8.heap.size≤(w8.alloc (.cells #[.int .i32 (mirrorI y)] 21)).heap.size:=hbn.size
         have hnew:(w8.alloc (.cells #[.int .i32 (mirrorI y)] 21)).ownsRow w8.heap.size 21 1 (.slice (some ⟨w8.heap.size,0,none⟩) 1 1) 1 [.int .i32 (mirrorI y)]:=⟨rfl,.inr ⟨w8.heap.size,1,_,rfl,Nat.le_refl _,World.alloc_heap_new w8 _,Nat.le_refl _,by decide,rfl,rfl⟩⟩
         refine HKK.out _ _ (HSi.out _ (cell_bl hbn (cell_lt hO0) hO0)) ?_
         clear HKK
         have HNEW:=lh hnew
         have HBN:=lh hbn
         have HSRC:Hid (∀j u,(O.tail.map (Value.int .i32))[j]? = some u→(w8.alloc (.cells #[.int .i32 (mirrorI y)] 21)).cell? ((⟨cg,p.c0+1,none⟩:Addr).add j)=some u):=lh (fun j u hu=>by
          rw [List.getElem?_map] at hu
          obtain⟨z,hz,rfl⟩:=Option.map_eq_some_iff.1 hu
          rw [List.getElem?_tail] at hz
          have hjl:=(List.getElem?_eq_some_iff.1 hz).1
          have h:=HOG.out (j+1) hjl
          rw [List.getD_eq_getElem?_getD,hz,Addr.add_lit,←Nat.add_assoc,Nat.add_right_comm] at h
          rw [Addr.add_lit]
          exact cell_bl hbn (cell_lt h) h)
         show wpQuiet _ _ _ _ [] _
         refine wpQuiet_nil ?_
         intro K hK
         have HKK:=lh hK
         clear hK hnew hbn
         show wpList _ _ _ [_] _ _
         go_wp2_with (at_builtin;refine wpList_append_src _ rfl _ _ 137 rfl w8.heap.size 21 i0 (.int .i32 0) 1 4 Tryz.underlying137 hi0 hz0 hz1 hz2 rfl (by decide) _ 1 _ rfl HNEW.out _ (q-1) _ (O.tail.map (Value.int .i32)) rfl (by rw [List.length_map,List.length_tail,HOL.out];omega) (.inr ⟨_,rfl,HSRC.out⟩) (fun u hu=>by obtain⟨z,_,rfl⟩:=List.mem_map.1 hu;rfl) (by unfold maxLen;omega) (by omega) hsz9 ?_;intro v' w9 ho hg)
         replace hg:(w8.alloc (.cells #[.int .i32 (mirrorI y)] 21)).drew.grownBy w9 (some w8.heap.size):=hg
         have hb9:Below w8.heap.size w8 w9:=HBN.out.drew.grown hg hsz9 (fun k hk=>by cases hk;exact Nat.le_refl _)
         obtain⟨na,nc,hv',hnc,_⟩:=own_slice ho
         subst hv'
         obtain⟨G9,eG9,hG9,_,hc9⟩:=own_cells ho (by omega)
         subst eG9
         have hcells9:∀j,j<(mirrorI y::O.tail).length→w9.cell? ((⟨G9,0,none⟩:Addr).add j)=some (.int .i32 ((mirrorI y::O.tail).getD j 0)):=fun j hj=>by
          have hj2:j<q:=by rw [List.length_cons,List.length_tail,HOL.out] at hj;omega
          rw [Addr.add_lit,Nat.zero_add,hc9 j (by omega)]
          rw [show [Value.int .i32 (mirrorI y)]++O.tail.map (Value.int .i32)=(mirrorI y::O.tail).map (Value.int .i32) from rfl,List.getElem?_map,List.getElem?_eq_getElem hj,List.getD_eq_getElem?_getD,List.getElem?_eq_getElem hj]
          rfl
         have HB9:=lh hb9
         have hl9:(mirrorI y::O.tail).length=q:=by rw [List.length_cons,List.length_tail,HOL.out];omega
         have hcv:=run_convert_runes (P:=Tryz.prog) w9 137 9 21 ⟨G9,0,none⟩ (1+(q-1)) nc (mirrorI y::O.tail) (by omega) Tryz.underlying137 (by kernel_rfl) (by kernel_rfl) hcells9
         have hVe:V=runesBytes (mirrorI y::O.tail):=by
          rw [←HV.out]
          unfold becomeI
          rw [hbd,if_neg (by decide),decide_eq_true HOD1.out,if_pos rfl,runesBytes_F]
          unfold ith
          rw [hy]
         rw [List.take_of_length_le (by omega),←hVe] at hcv
         refine HKK.out _ _ (HSi.out _ (cell_bl hb9 (cell_lt hO0) hO0)) ?_
         clear HKK HNEW HBN ho hg hc9 hcells9 hVe hb9
         simp only [Act.put,List.setIfInBounds_toArray,List.set_cons_succ,List.set_cons_zero]
         show wpQuiet _ _ _ _ [_] _
         repeat (go_big_quiet_step (fail))
         refine wpQuiet_nil ?_
         refine NoPanic.normal ?_
         clear kp_c hne HSi
         go_wp2_with (fail)
         go_meet
         exact⟨rfl,HRD8.out.below HB9.out,HT8.out.below rfl HB9.out,HS8.out.below HB9.out⟩
       ·have hoe:p.level % 2=0:=by omega
        have hVe:V=runesBytes O:=by
         rw [←HV.out]
         unfold becomeI
         rw [hbd,if_neg (by decide),decide_eq_false hod,if_neg (by decide),runesBytes_F]
        have hcv:=run_convert_runes (P:=Tryz.prog) w8 137 9 21 ⟨cg,p.c0,none⟩ (p.c1-p.c0) (p.c1-p.c0) O (by omega) Tryz.underlying137 (by kernel_rfl) (by kernel_rfl) hcells
        rw [List.take_of_length_le (by omega),←hVe] at hcv
        have hoe':((p.level:Int) % 2==1)=false:=by rw [beq_eq_false_iff_ne];omega
        have hoe2:(((p.level % 2:Nat):Int)==1)=false:=by rw [beq_eq_false_iff_ne];omega
        clear hcells hOl hOg hod hoe hVe hOO
        go_wp2_with (fail)
        go_meet
        exact⟨rfl,HRD8.out,HT8.out,HS8.out⟩
    case rest =>
     obtain⟨rfl,hrd8,hT8,hS8⟩:=hcut
     have hS8':ChS w b (.slice (some ⟨G,0,none⟩) M.length lcap) sv fr tt bs wide M wc:=by rw [HLL.out,HNN.out];exact hS8
     obtain⟨G',eG,_,_,hcell,hfz⟩:=hS8'.own.at i p HPL.out
     cases eG
     have q0:wc.cell? ⟨b,0,none⟩=some (.slice (some ⟨G,0,none⟩) n lcap):=hS8.ld.cells.1
     have q5:wc.cell? ⟨G,i*10+5,none⟩=some (.string p.became):=hcell 5 _ rfl
     have f5:=hfz (i*10+5)
     have hS9:=hS8'.set i p HPL.out V
     rw [←HCH.out,HNX.out] at hS9
     rw [HLL.out,HNN.out] at hS9
     have HS9:=lh hS9
     have HRD9:Hid (Rd .i32 (wc.setCell ⟨G,i*10+5,none⟩ (.string V)) (some ⟨cg,0,none⟩) rs):=lh (rd_set hrd8 (by have:G<w.heap.size:=HGW.out G rfl;omega))
     have HT9:Hid (T8 (wc.setCell ⟨G,i*10+5,none⟩ (.string V))):=lh (T8.keep hT8 HG3.out HG4.out ((Below.refl b wc).setCell (p:=⟨G,i*10+5,none⟩) (show b≤G by omega) _))
     clear hrd8 hT8 hS8 hS8' hcell hfz hS9
     go_wp2_with (fail)
     go_roundw
     case rel=>exact⟨i+1,by omega,by go_num,HRD9.out,HT9.out,by rw [HNN.out];exact HS9.out⟩
     case measure=>simp [intOf];omega
   ·obtain rfl:i=n:=by omega
    have e1:chP s rs L i=L.map (changeP s rs):=by rw [←HNN.out];exact chP_all s rs L
    rw [e1] at HSr
    rw [←HRS.out] at HSr
    clear hlt e1
    go_wp2_with (fail)
    go_end0
    exact⟨rfl,HSr.out.ld,HSr.out.own,HSr.out.bel⟩
end
section
open Go.RowKit Go.Proofs Go.Shelf
attribute [local go_sem] Oper.semAt_some
set_option maxHeartbeats 1000000 in
theorem rBlank_any (s:ByteArray) (hs:s.size≤2097152) (b:Nat) (lv sv:Value) (fr tt bs:Nat) (wide:Int) (L:List Pc) (w:World) (hL:LdB w b lv sv fr tt bs wide) (hO:OwnS pcE 98 w (b+1) lv L) (hT:T8 w)
 (i:Nat) (p:Pc) (hp:L[i]? = some p) (hpa:p.a≤s.size) :
 Calls Tryz.prog 86 #[.pointer (some ⟨b,0,none⟩),.string s,.int .i64 i] w fun e w'=>e=.returned (.bool (blankP s p))∧Below w.heap.size w w':=by
 have hil:=(List.getElem?_eq_some_iff.1 hp).1
 obtain⟨la,lcap,hlv,_,_⟩:=hO.slice
 subst hlv
 obtain⟨G,eG,hGb,hGl,hcell,hfz⟩:=hO.at i p hp
 subst eG
 have y0:w.cell? ⟨G,i*10,none⟩=some (.int .i64 p.a):=hcell 0 _ rfl
 have d0:=hL.cells.1
 have g0:(p.a:Int)≤(s.size:Int):=by omega
 have g1:(i:Int)<(L.length:Int):=by omega
 obtain⟨c,hc⟩:∃c,s.extract p.a s.size=c:=⟨_,rfl⟩
 obtain⟨r,hr⟩:∃r,decR c=r:=⟨_,rfl⟩
 obtain⟨m,hm⟩:∃m,decN c=m:=⟨_,rfl⟩
 obtain⟨V,hV⟩:∃V,blankP s p=V:=⟨_,rfl⟩
 have hv:V=((!decide (r=65533)||decide (1<m))&&decide (breakI r=1)):=by rw [←hV,←hr,←hm,←hc];rfl
 have hS:=sNext_any c w hT
 rw [hr,hm] at hS
 have HS:=lh hS
 have HV:=lh hv
 rw [hV]
 clear hL hO hT hcell hfz hS hv hV hr hm hp
 go_enter Tryz.func86,Tryz.ntmps86
 go_upto_region 3 with (go_at_call 105;refine HS.out.mono ?_;rintro e w1 ⟨rfl,hb1⟩)
 have HB1:=lh hb1
 clear hb1 d0 y0
 obtain⟨k,hk⟩:∃k,breakI r=k:=⟨_,rfl⟩
 have HB:=lh (Break_any r w1)
 have hv:=HV.out
 rw [hk] at HB hv
 by_cases h1:r=65533
 ·subst h1
  by_cases h2:1<m
  ·have h2':(1:Int)<(m:Int):=by omega
   have HV2:=lh hv
   clear hk hv HV
   go_wp2_with (go_at_call 115;refine HB.out.mono ?_;rintro e w2 ⟨rfl,hb2⟩)
   go_ret
   exact⟨ret_b (by rw [HV2.out];simp only [decide_eq_true h2,Bool.or_true,Bool.true_and];rw [Bool.eq_iff_iff];simp),HB1.out.trans (hb2.mono HB1.out.size)⟩
  ·have h2':¬ (1:Int)<(m:Int):=by omega
   have HV2:=lh hv
   clear hk hv HV HB
   go_wp2_with (fail)
   go_ret
   exact⟨ret_b (by rw [HV2.out];simp [h2]),HB1.out⟩
 ·have h1':(r==65533)=false:=by rw [beq_eq_false_iff_ne];exact h1
  have HV2:=lh hv
  have H1:=lh h1
  clear hk hv HV
  go_wp2_with (go_at_call 115;refine HB.out.mono ?_;rintro e w2 ⟨rfl,hb2⟩)
  go_ret
  exact⟨ret_b (by rw [HV2.out];simp only [decide_eq_false H1.out,Bool.not_false,Bool.true_or,Bool.true_and];rw [Bool.eq_iff_iff];simp),HB1.out.trans (hb2.mono HB1.out.size)⟩
end
end Go.Proofs.YtlmjbfncopbilaaGreatDoor
