/- Part 37 (merged by a program): lemmas of no further condition than each states. -/
import Derived.Test.YtlmjbfncopbilaaGreatDoorK36
namespace Go.Proofs.YtlmjbfncopbilaaGreatDoor
set_option linter.unusedVariables false
set_option linter.unusedSimpArgs false
section
open Go.RowKit Go.Proofs Go.Shelf
attribute [local go_sem] Oper.semAt_some
theorem pc_cells {w:World} {b:Nat} {la:Option Addr} {lcap:Nat} {L:List Pc} (hO:OwnS pcE 98 w (b+1) (.slice la L.length lcap) L) (i:Nat) (p:Pc) (hp:L[i]? = some p) :
 ∃G,la=some ⟨G,0,none⟩∧G<w.heap.size∧w.cell? ⟨G,i*10,none⟩=some (.int .i64 p.a)∧w.cell? ⟨G,i*10+1,none⟩=some (.int .i64 p.size)∧w.cell? ⟨G,i*10+2,none⟩=some (.int .i64 p.c0)∧w.cell? ⟨G,i*10+3,none⟩=some (.int .i64 p.c1) ∧
   w.cell? ⟨G,i*10+4,none⟩=some (.int .u8 p.level)∧w.cell? ⟨G,i*10+5,none⟩=some (.string p.became)∧w.cell? ⟨G,i*10+6,none⟩=some (.string p.shown)∧w.cell? ⟨G,i*10+7,none⟩=some (.int .i64 p.wide)∧w.cell? ⟨G,i*10+8,none⟩=some (.int .i64 p.e0)∧w.cell? ⟨G,i*10+9,none⟩=some (.int .i64 p.e1):=by
 obtain⟨G,eG,hGb,hGl,hc,_⟩:=hO.at i p hp
 exact⟨G,eG,hGl,hc 0 _ rfl,hc 1 _ rfl,hc 2 _ rfl,hc 3 _ rfl,hc 4 _ rfl,hc 5 _ rfl,hc 6 _ rfl,hc 7 _ rfl,hc 8 _ rfl,hc 9 _ rfl⟩
set_option maxRecDepth 100000 in
set_option maxHeartbeats 2000000 in
theorem rEdge_any (b:Nat) (R:LaidR) (i:Nat) (back:Bool) (w:World) (hL:LaidW w b R) (hi:i≤R.l.length) (hbs:R.base<256) (hlv:∀p∈R.l,p.level<256) (hn:R.l.length≤2097152) :
 Calls Tryz.prog 52 #[.pointer (some ⟨b,0,none⟩),.int .i64 i,.bool back] w fun e w'=>e=.returned (.int .i64 (edgeI R i back))∧Below w.heap.size w w':=by
 obtain⟨L,seen,fr,tt,bs,x⟩:=R
 obtain⟨la,lcap,va,vc,h1,h2,h3⟩:=hL
 dsimp only at h1 h2 h3 hi hbs hlv hn
 obtain⟨V,hV⟩:∃V,edgeI ⟨L,seen,fr,tt,bs,x⟩ i back=V:=⟨_,rfl⟩
 rw [hV]
 have hbl:=h1.lt
 have hE1:V=if back=true∧i=0 then (if bs % 2=1 then x else 0)
  else if back=true then (if oddB (L.getD (i-1) default)=true then (L.getD (i-1) default).e0 else (L.getD (i-1) default).e1)
  else if i=L.length then (if bs % 2=1 then 0 else x)
  else (if oddB (L.getD i default)=true then (L.getD i default).e1 else (L.getD i default).e0):=by rw [←hV];rfl
 have HV:=lh hE1
 have hbb:bits .and .u8 (bs:Int) 1=((bs % 2:Nat):Int):=bits_level bs hbs
 obtain⟨n,hLn⟩:∃n,L.length=n:=⟨_,rfl⟩
 rw [hLn] at h1 hi hn
 have H1:=lh h1
 have H2:=lh h2
 have HLV:=lh hlv
 have d0:=h1.cells.1
 have d4:=h1.cells.2.2.2.2.1
 have d5:=h1.cells.2.2.2.2.2
 clear hE1 hV h1 h2 h3 hlv
 go_enter Tryz.func52,Tryz.ntmps52
 cases back with
 | true =>
   by_cases h0:i=0
   ·subst h0
    go_upto_region 3 with (fail)
    have hb1:Below w.heap.size w (w.alloc (.cells #[.int .i64 0,.int .i64 x] 96)):=(Below.refl _ _).alloc (Nat.le_refl _) _
    have hx1:=World.alloc_heap_new w (.cells #[.int .i64 0,.int .i64 x] 96)
    have hL1:=H1.out.below hb1 hbl
    have hO1:=H2.out.keep hb1
    generalize w.alloc (.cells #[.int .i64 0,.int .i64 x] 96)=W1 at hb1 hx1 hL1 hO1 ⊢
    obtain⟨B,hB⟩:∃B,w.heap.size=B:=⟨_,rfl⟩
    have HB1:=lh hb1
    rw [hB] at hx1 ⊢
    clear d0 d4 d5
    have e0:W1.cell? ⟨B,0,none⟩=some (.int .i64 0):=by simp [World.cell?,hx1]
    have e1:W1.cell? ⟨B,1,none⟩=some (.int .i64 x):=by simp [World.cell?,hx1]
    have d4:=hL1.cells.2.2.2.2.1
    clear hx1 hb1 hL1 hO1
    rcases Nat.mod_two_eq_zero_or_one bs with h2 | h2
    ·rw [h2] at hbb
     have hz:IntKind.u8.wrap (1-((0:Nat):Int))=1:=by decide
     have hv:V=0:=by rw [HV.out];simp [h2]
     have HV2:=lh hv
     clear hv HV
     go_wp2_with (fail)
     go_ret
     exact⟨ret_i (by rw [HV2.out]),HB1.out⟩
    ·rw [h2] at hbb
     have hz:IntKind.u8.wrap (1-((1:Nat):Int))=0:=by decide
     have hv:V=x:=by rw [HV.out];simp [h2]
     have HV2:=lh hv
     clear hv HV
     go_wp2_with (fail)
     go_ret
     exact⟨ret_i (by rw [HV2.out]),HB1.out⟩
   ·go_upto_region 5 with (fail)
    have hb1:Below w.heap.size w (w.alloc (.cells #[.int .i64 0,.int .i64 x] 96)):=(Below.refl _ _).alloc (Nat.le_refl _) _
    have hx1:=World.alloc_heap_new w (.cells #[.int .i64 0,.int .i64 x] 96)
    have hL1:=H1.out.below hb1 hbl
    have hO1:=H2.out.keep hb1
    generalize w.alloc (.cells #[.int .i64 0,.int .i64 x] 96)=W1 at hb1 hx1 hL1 hO1 ⊢
    obtain⟨B,hB⟩:∃B,w.heap.size=B:=⟨_,rfl⟩
    have HB1:=lh hb1
    rw [hB] at hx1 ⊢
    clear d0 d4 d5
    obtain⟨p,hp⟩:∃p,L[i-1]? = some p:=⟨_,List.getElem?_eq_getElem (by omega)⟩
    have hpg:L.getD (i-1) default=p:=by rw [List.getD_eq_getElem?_getD,hp];rfl
    have hpl:=HLV.out p (List.mem_of_getElem? hp)
    obtain⟨G,eG,hGl,y0,y1,y2,y3,y4,y5,y6,y7,y8,y9⟩:=pc_cells hO1 (i-1) p hp
    subst eG
    have d0:=hL1.cells.1
    have hwi:IntKind.i64.wrap ((i:Int)-1)=((i-1:Nat):Int):=by rw [IntKind.wrap_i64];omega
    have hi1:((i-1:Nat):Int)<(n:Int):=by omega
    clear hx1 hb1 hL1 hO1 hp
    go_upto_region 6 with (fail)
    have hb2:Below W1.heap.size W1 (W1.alloc (.cells #[.int .i64 p.a,.int .i64 p.size,.int .i64 p.c0,.int .i64 p.c1,.int .u8 p.level,.string p.became,.string p.shown,.int .i64 p.wide,.int .i64 p.e0,.int .i64 p.e1] 98)):=(Below.refl _ _).alloc (Nat.le_refl _) _
    have hx2:=World.alloc_heap_new W1 (.cells #[.int .i64 p.a,.int .i64 p.size,.int .i64 p.c0,.int .i64 p.c1,.int .u8 p.level,.string p.became,.string p.shown,.int .i64 p.wide,.int .i64 p.e0,.int .i64 p.e1] 98)
    generalize W1.alloc (.cells #[.int .i64 p.a,.int .i64 p.size,.int .i64 p.c0,.int .i64 p.c1,.int .u8 p.level,.string p.became,.string p.shown,.int .i64 p.wide,.int .i64 p.e0,.int .i64 p.e1] 98)=W2 at hb2 hx2 ⊢
    obtain⟨P,hP⟩:∃P,W1.heap.size=P:=⟨_,rfl⟩
    have HB2:=lh (HB1.out.trans (hb2.mono HB1.out.size))
    rw [hP] at hx2 ⊢
    have hOD:=odd_any p hpl W2
    have hv:V=if p.level % 2=1 then p.e0 else p.e1:=by
     rw [HV.out,if_neg (by simp [h0]),if_pos rfl,hpg]
     unfold oddB
     simp
    have HX2:=lh hx2
    have hPs:P<W2.heap.size:=(Array.getElem?_eq_some_iff.1 hx2).1
    have HV2:=lh hv
    clear y0 y1 y2 y3 y4 y5 y6 y7 y8 y9 d0 hb2 hv HV hpg
    have z0:W2.cell? ⟨P,0,none⟩=some (.int .i64 p.a):=by simp [World.cell?,hx2]
    have z1:W2.cell? ⟨P,1,none⟩=some (.int .i64 p.size):=by simp [World.cell?,hx2]
    have z2:W2.cell? ⟨P,2,none⟩=some (.int .i64 p.c0):=by simp [World.cell?,hx2]
    have z3:W2.cell? ⟨P,3,none⟩=some (.int .i64 p.c1):=by simp [World.cell?,hx2]
    have z4:W2.cell? ⟨P,4,none⟩=some (.int .u8 p.level):=by simp [World.cell?,hx2]
    have z5:W2.cell? ⟨P,5,none⟩=some (.string p.became):=by simp [World.cell?,hx2]
    have z6:W2.cell? ⟨P,6,none⟩=some (.string p.shown):=by simp [World.cell?,hx2]
    have z7:W2.cell? ⟨P,7,none⟩=some (.int .i64 p.wide):=by simp [World.cell?,hx2]
    have z8:W2.cell? ⟨P,8,none⟩=some (.int .i64 p.e0):=by simp [World.cell?,hx2]
    have z9:W2.cell? ⟨P,9,none⟩=some (.int .i64 p.e1):=by simp [World.cell?,hx2]
    have HK2:Hid (∀W,Below W2.heap.size W2 W→W.cell? ⟨P,8,none⟩=some (.int .i64 p.e0)∧W.cell? ⟨P,9,none⟩=some (.int .i64 p.e1)):=lh fun W hb=>by
     have:=(hb.block P hPs).trans HX2.out
     constructor <;> simp [World.cell?,this]
    clear hx2
    rcases Nat.mod_two_eq_zero_or_one p.level with h2 | h2
    ·rw [h2] at hOD HV2
     have HOD:=lh hOD
     have HV3:Hid (V=p.e1):=lh (by rw [HV2.out];simp)
     have hz:IntKind.i64.wrap (1-((0:Nat):Int))=1:=by decide
     clear hOD HV2
     go_wp2_with (go_at_call 92;refine HOD.out.mono ?_;rintro e w3 ⟨rfl,hb3⟩;obtain⟨z8',z9'⟩:=HK2.out w3 hb3)
     go_ret
     exact⟨ret_i (by rw [HV3.out]),HB2.out.trans (hb3.mono HB2.out.size)⟩
    ·rw [h2] at hOD HV2
     have HOD:=lh hOD
     have HV3:Hid (V=p.e0):=lh (by rw [HV2.out];simp)
     have hz:IntKind.i64.wrap (1-((1:Nat):Int))=0:=by decide
     clear hOD HV2
     go_wp2_with (go_at_call 92;refine HOD.out.mono ?_;rintro e w3 ⟨rfl,hb3⟩;obtain⟨z8',z9'⟩:=HK2.out w3 hb3)
     go_ret
     exact⟨ret_i (by rw [HV3.out]),HB2.out.trans (hb3.mono HB2.out.size)⟩
 | false =>
   by_cases hin:i=n
   ·go_upto_region 8 with (fail)
    have hb1:Below w.heap.size w (w.alloc (.cells #[.int .i64 0,.int .i64 x] 96)):=(Below.refl _ _).alloc (Nat.le_refl _) _
    have hx1:=World.alloc_heap_new w (.cells #[.int .i64 0,.int .i64 x] 96)
    have hL1:=H1.out.below hb1 hbl
    have hO1:=H2.out.keep hb1
    generalize w.alloc (.cells #[.int .i64 0,.int .i64 x] 96)=W1 at hb1 hx1 hL1 hO1 ⊢
    obtain⟨B,hB⟩:∃B,w.heap.size=B:=⟨_,rfl⟩
    have HB1:=lh hb1
    rw [hB] at hx1 ⊢
    clear d0 d4 d5
    have e0:W1.cell? ⟨B,0,none⟩=some (.int .i64 0):=by simp [World.cell?,hx1]
    have e1:W1.cell? ⟨B,1,none⟩=some (.int .i64 x):=by simp [World.cell?,hx1]
    have d4:=hL1.cells.2.2.2.2.1
    clear hx1 hb1 hL1 hO1
    rcases Nat.mod_two_eq_zero_or_one bs with h2 | h2
    ·rw [h2] at hbb
     have hz:IntKind.u8.wrap (1-((0:Nat):Int))=1:=by decide
     have hv:V=x:=by rw [HV.out];simp [h2,hin,hLn]
     have HV2:=lh hv
     clear hv HV
     go_wp2_with (fail)
     go_ret
     exact⟨ret_i (by rw [HV2.out]),HB1.out⟩
    ·rw [h2] at hbb
     have hz:IntKind.u8.wrap (1-((1:Nat):Int))=0:=by decide
     have hv:V=0:=by rw [HV.out];simp [h2,hin,hLn]
     have HV2:=lh hv
     clear hv HV
     go_wp2_with (fail)
     go_ret
     exact⟨ret_i (by rw [HV2.out]),HB1.out⟩
   ·go_upto_region 9 with (fail)
    have hb1:Below w.heap.size w (w.alloc (.cells #[.int .i64 0,.int .i64 x] 96)):=(Below.refl _ _).alloc (Nat.le_refl _) _
    have hx1:=World.alloc_heap_new w (.cells #[.int .i64 0,.int .i64 x] 96)
    have hL1:=H1.out.below hb1 hbl
    have hO1:=H2.out.keep hb1
    generalize w.alloc (.cells #[.int .i64 0,.int .i64 x] 96)=W1 at hb1 hx1 hL1 hO1 ⊢
    obtain⟨B,hB⟩:∃B,w.heap.size=B:=⟨_,rfl⟩
    have HB1:=lh hb1
    rw [hB] at hx1 ⊢
    clear d0 d4 d5
    obtain⟨p,hp⟩:∃p,L[i]? = some p:=⟨_,List.getElem?_eq_getElem (by omega)⟩
    have hpg:L.getD i default=p:=by rw [List.getD_eq_getElem?_getD,hp];rfl
    have hpl:=HLV.out p (List.mem_of_getElem? hp)
    have hls:=hL1.lt
    have hKC:∀W,Below W1.heap.size W1 W→∃G,la=some ⟨G,0,none⟩∧W.cell? ⟨G,i*10,none⟩=some (.int .i64 p.a)∧W.cell? ⟨G,i*10+1,none⟩=some (.int .i64 p.size)∧W.cell? ⟨G,i*10+2,none⟩=some (.int .i64 p.c0)∧W.cell? ⟨G,i*10+3,none⟩=some (.int .i64 p.c1) ∧
     W.cell? ⟨G,i*10+4,none⟩=some (.int .u8 p.level)∧W.cell? ⟨G,i*10+5,none⟩=some (.string p.became)∧W.cell? ⟨G,i*10+6,none⟩=some (.string p.shown)∧W.cell? ⟨G,i*10+7,none⟩=some (.int .i64 p.wide)∧W.cell? ⟨G,i*10+8,none⟩=some (.int .i64 p.e0)∧W.cell? ⟨G,i*10+9,none⟩=some (.int .i64 p.e1) ∧
     W.cell? ⟨b,0,none⟩=some (.slice la n lcap):=fun W hb=>by
     obtain⟨G,eG,_,y0,y1,y2,y3,y4,y5,y6,y7,y8,y9⟩:=pc_cells (hO1.keep hb) i p hp
     exact⟨G,eG,y0,y1,y2,y3,y4,y5,y6,y7,y8,y9,(hL1.below hb hls).cells.1⟩
    obtain⟨G,eG,_⟩:=hKC W1 (Below.refl _ _)
    subst eG
    have HKC:Hid (∀W,Below W1.heap.size W1 W→W.cell? ⟨G,i*10,none⟩=some (.int .i64 p.a)∧W.cell? ⟨G,i*10+1,none⟩=some (.int .i64 p.size)∧W.cell? ⟨G,i*10+2,none⟩=some (.int .i64 p.c0)∧W.cell? ⟨G,i*10+3,none⟩=some (.int .i64 p.c1) ∧
     W.cell? ⟨G,i*10+4,none⟩=some (.int .u8 p.level)∧W.cell? ⟨G,i*10+5,none⟩=some (.string p.became)∧W.cell? ⟨G,i*10+6,none⟩=some (.string p.shown)∧W.cell? ⟨G,i*10+7,none⟩=some (.int .i64 p.wide)∧W.cell? ⟨G,i*10+8,none⟩=some (.int .i64 p.e0)∧W.cell? ⟨G,i*10+9,none⟩=some (.int .i64 p.e1) ∧
     W.cell? ⟨b,0,none⟩=some (.slice (some ⟨G,0,none⟩) n lcap)∧Below W1.heap.size W1 W):=lh fun W hb=>by
     obtain⟨G',eG,y0,y1,y2,y3,y4,y5,y6,y7,y8,y9,y10⟩:=hKC W hb
     cases eG
     exact⟨y0,y1,y2,y3,y4,y5,y6,y7,y8,y9,y10,hb⟩
    obtain⟨y0,y1,y2,y3,y4,y5,y6,y7,y8,y9,y10,hbr⟩:=HKC.out W1 (Below.refl _ _)
    have hin1:(i:Int)<(n:Int):=by omega
    have hv:V=if p.level % 2=1 then p.e1 else p.e0:=by
     rw [HV.out,if_neg (by simp),if_neg (by simp),if_neg (by rw [hLn];exact hin),hpg]
     unfold oddB
     simp
    clear hx1 hb1 hL1 hO1 hp hKC hpg HV
    rcases Nat.mod_two_eq_zero_or_one p.level with h2 | h2
    ·have HOD:Hid (∀W,Below W1.heap.size W1 W→Calls Tryz.prog 92 #[.agg #[.int .i64 p.a,.int .i64 p.size,.int .i64 p.c0,.int .i64 p.c1,.int .u8 p.level,.string p.became,.string p.shown,.int .i64 p.wide,.int .i64 p.e0,.int .i64 p.e1]] W fun e w'=>e=.returned (.int .i64 (0:Int))∧Below W1.heap.size W1 w'):=lh fun W hb=>(odd_any p hpl W).mono fun e w' ⟨h,hb'⟩=>⟨by rw [h,h2];rfl,hb.trans (hb'.mono hb.size)⟩
     have HV3:Hid (V=p.e0):=lh (by rw [hv,h2];simp)
     clear hv
     go_region_held3 (fun w'=>w'.cell? ⟨G,i*10,none⟩=some (.int .i64 p.a)∧w'.cell? ⟨G,i*10+1,none⟩=some (.int .i64 p.size)∧w'.cell? ⟨G,i*10+2,none⟩=some (.int .i64 p.c0)∧w'.cell? ⟨G,i*10+3,none⟩=some (.int .i64 p.c1) ∧
      w'.cell? ⟨G,i*10+4,none⟩=some (.int .u8 p.level)∧w'.cell? ⟨G,i*10+5,none⟩=some (.string p.became)∧w'.cell? ⟨G,i*10+6,none⟩=some (.string p.shown)∧w'.cell? ⟨G,i*10+7,none⟩=some (.int .i64 p.wide)∧w'.cell? ⟨G,i*10+8,none⟩=some (.int .i64 p.e0)∧w'.cell? ⟨G,i*10+9,none⟩=some (.int .i64 p.e1) ∧
      w'.cell? ⟨b,0,none⟩=some (.slice (some ⟨G,0,none⟩) n lcap)∧Below W1.heap.size W1 w')
      ((refine HKC.out _ ?_;(repeat (first | assumption | refine Below.drew ?_))))
      ((go_at_call 92;refine (HOD.out _ (by (repeat (first | assumption | refine Below.drew ?_)))).mono ?_;rintro e w3 ⟨rfl,hb3⟩))
     go_wp2_with (fail)
     go_ret
     exact⟨ret_i (by rw [HV3.out]),HB1.out.trans (hb3.mono HB1.out.size)⟩
    ·have HOD:Hid (∀W,Below W1.heap.size W1 W→Calls Tryz.prog 92 #[.agg #[.int .i64 p.a,.int .i64 p.size,.int .i64 p.c0,.int .i64 p.c1,.int .u8 p.level,.string p.became,.string p.shown,.int .i64 p.wide,.int .i64 p.e0,.int .i64 p.e1]] W fun e w'=>e=.returned (.int .i64 (1:Int))∧Below W1.heap.size W1 w'):=lh fun W hb=>(odd_any p hpl W).mono fun e w' ⟨h,hb'⟩=>⟨by rw [h,h2];rfl,hb.trans (hb'.mono hb.size)⟩
     have HV3:Hid (V=p.e1):=lh (by rw [hv,h2];simp)
     clear hv
     go_region_held3 (fun w'=>w'.cell? ⟨G,i*10,none⟩=some (.int .i64 p.a)∧w'.cell? ⟨G,i*10+1,none⟩=some (.int .i64 p.size)∧w'.cell? ⟨G,i*10+2,none⟩=some (.int .i64 p.c0)∧w'.cell? ⟨G,i*10+3,none⟩=some (.int .i64 p.c1) ∧
      w'.cell? ⟨G,i*10+4,none⟩=some (.int .u8 p.level)∧w'.cell? ⟨G,i*10+5,none⟩=some (.string p.became)∧w'.cell? ⟨G,i*10+6,none⟩=some (.string p.shown)∧w'.cell? ⟨G,i*10+7,none⟩=some (.int .i64 p.wide)∧w'.cell? ⟨G,i*10+8,none⟩=some (.int .i64 p.e0)∧w'.cell? ⟨G,i*10+9,none⟩=some (.int .i64 p.e1) ∧
      w'.cell? ⟨b,0,none⟩=some (.slice (some ⟨G,0,none⟩) n lcap)∧Below W1.heap.size W1 w')
      ((refine HKC.out _ ?_;(repeat (first | assumption | refine Below.drew ?_))))
      ((go_at_call 92;refine (HOD.out _ (by (repeat (first | assumption | refine Below.drew ?_)))).mono ?_;rintro e w3 ⟨rfl,hb3⟩))
     go_wp2_with (fail)
     go_ret
     exact⟨ret_i (by rw [HV3.out]),HB1.out.trans (hb3.mono HB1.out.size)⟩
end
section
open Go.RowKit Go.Proofs Go.Shelf
attribute [local go_sem] Oper.semAt_some
def stE:Enc St:=⟨fun c=>[.int .i64 c.a,.bool c.back,.int .i64 (-1),.int .i64 c.x],4,fun _=>rfl⟩
theorem Tryz.info_stop:(Tryz.prog.info? 91).map (fun i=>(i.zero,i.size,i.bytes))=some (some (.agg #[.int .i64 0,.bool false,.int .i64 0,.int .i64 0]),4,32):=by kernel_rfl
structure AdS (w:World) (S0 b:Nat) (cut:Bool) (M:List St) (W:World):Prop where
 bw:W.heap[S0]? = some (.cells #[.pointer (some ⟨b,0,none⟩)] 87 (0,0))
 bc:W.heap[S0+2]? = some (.cells #[.bool cut] 4 (0,0))
 row:∃a c,W.heap[S0+1]? = some (.cells #[.slice a M.length c] 86 (0,0))∧OwnS stE 91 W (S0+3) (.slice a M.length c) M
 bel:Below S0 w W
section
variable {w W W':World} {S0 b:Nat} {cut:Bool} {M:List St}
theorem AdS.below (h:AdS w S0 b cut M W) (hb:Below W.heap.size W W'):AdS w S0 b cut M W':=by
 have h0:=(Array.getElem?_eq_some_iff.1 h.bw).1
 have h2:=(Array.getElem?_eq_some_iff.1 h.bc).1
 obtain⟨a,c,h3,h4⟩:=h.row
 exact⟨(hb.block _ h0).trans h.bw,(hb.block _ h2).trans h.bc,⟨a,c,(hb.block _ (by omega)).trans h3,h4.keep hb⟩,h.bel.trans (hb.mono (by omega))⟩
theorem AdS.drew (h:AdS w S0 b cut M W):AdS w S0 b cut M W.drew:=⟨h.bw,h.bc,h.row,h.bel.drew⟩
theorem AdS.drewN (h:AdS w S0 b cut M W) (n:Nat):AdS w S0 b cut M (W.drewN n):=⟨h.bw,h.bc,h.row,bl_drewN h.bel n⟩
end
theorem AdS.app {w W:World} {S0 b:Nat} {cut:Bool} {M:List St} (h:AdS w S0 b cut M W) {a:Option Addr} {c:Nat} (hr:W.heap[S0+1]? = some (.cells #[.slice a M.length c] 86 (0,0))) (ho:OwnS stE 91 W (S0+3) (.slice a M.length c) M)
 (st:St) {o:Obj} {v':Value} {w8:World} (hg:(W.alloc o).grownBy w8 (Value.slice a M.length c).ownBlock) (ho8:w8.ownsRow (S0+3) 91 4 v' (M.length+1) (M.flatMap stE.enc++stE.enc st)) :
 w8.heap[S0+1]? = some (.cells #[.slice a M.length c] 86 (0,0))∧AdS w S0 b cut (M++[st]) (w8.setCell ⟨S0+1,0,none⟩ v'):=by
 have hol:=World.ownsRow.lt ho
 have h0:=(Array.getElem?_eq_some_iff.1 h.bw).1
 have h2:=(Array.getElem?_eq_some_iff.1 h.bc).1
 have hsz:(W.alloc o).heap.size=W.heap.size+1:=by rw [World.size_alloc]
 have hba:Below W.heap.size W (W.alloc o):=(Below.refl _ _).alloc (Nat.le_refl _) o
 have key:∀k,k<S0+3→k<W.heap.size→w8.heap[k]? = W.heap[k]?:=fun k hk hl =>
  (hg.block k (by omega) (fun e=>by have:=(hol k e.symm).1;omega)).trans (hba.block k hl)
 obtain⟨a',c',hv',_,_⟩:=own_slice ho8
 subst hv'
 have r8:=(key (S0+1) (by omega) (by omega)).trans hr
 refine⟨r8,⟨box_other ((key S0 (by omega) h0).trans h.bw) (by omega),box_other ((key (S0+2) (by omega) h2).trans h.bc) (by omega),⟨a',c',?_,?_⟩,?_⟩⟩
 ·have h1:=set_at (i:=0) r8 (.slice a' (M.length+1) c')
  rw [List.length_append]
  exact h1
 ·have h1:OwnS stE 91 w8 (S0+3) (.slice a' (M++[st]).length c') (M++[st]):=by
   unfold OwnS
   rw [List.length_append,List.flatMap_append,List.flatMap_singleton]
   exact ho8
  exact h1.other (fun g hg=>by have:=(World.ownsRow.lt h1 g hg).1;omega)
 ·exact ((h.bel.alloc (by omega) o).grown hg (by omega) (fun k hk=>by have:=(hol k hk).1;omega)).setCell (p:=⟨S0+1,0,none⟩) (show S0≤S0+1 by omega) _
set_option maxRecDepth 100000 in
set_option maxHeartbeats 2000000 in
theorem add_any (w:World) (S0 b:Nat) (R:LaidR) (cut:Bool) (M:List St) (i p:Nat) (hS0:w.heap.size=S0) (hL:LaidW w b R) (hi:i≤R.l.length) (hbs:R.base<256) (hlv:∀p∈R.l,p.level<256) (hn:R.l.length≤2097152) (hM:M.length≤8388608) (W:World) (h:AdS w S0 b cut M W) :
 Calls Tryz.prog 89 #[.int .i64 i,.int .i64 p,.pointer (some ⟨S0,0,none⟩),.pointer (some ⟨S0+2,0,none⟩),.pointer (some ⟨S0+1,0,none⟩)] W fun e w'=>e=.returned (.tuple #[])∧AdS w S0 b cut (M++stopAt R cut i p) w':=by
 obtain⟨i5,hi5,hz5,ha5,hby5⟩:=info_parts (Tryz.info_stop)
 obtain⟨x,hx⟩:∃x,edgeI R i false=x:=⟨_,rfl⟩
 obtain⟨y,hy⟩:∃y,edgeI R i true=y:=⟨_,rfl⟩
 have HLD:Hid (∀W,AdS w S0 b cut M W→LaidW W b R):=lh fun W h=>hL.below (hS0▸h.bel)
 have HE:Hid (∀W k,AdS w S0 b cut M W→Calls Tryz.prog 52 #[.pointer (some ⟨b,0,none⟩),.int .i64 i,.bool k] W fun e w'=>e=.returned (.int .i64 (edgeI R i k))∧AdS w S0 b cut M w') :=
  lh fun W k h=>(rEdge_any b R i k W (hL.below (hS0▸h.bel)) hi hbs hlv hn).mono fun e w' ⟨h1,h2⟩=>⟨h1,h.below h2⟩
 have HEF:Hid (∀W,AdS w S0 b cut M W→Calls Tryz.prog 52 #[.pointer (some ⟨b,0,none⟩),.int .i64 i,.bool false] W fun e w'=>e=.returned (.int .i64 x)∧AdS w S0 b cut M w'):=lh fun W h=>hx▸HE.out W false h
 have HET:Hid (∀W,AdS w S0 b cut M W→Calls Tryz.prog 52 #[.pointer (some ⟨b,0,none⟩),.int .i64 i,.bool true] W fun e w'=>e=.returned (.int .i64 y)∧AdS w S0 b cut M w'):=lh fun W h=>hy▸HE.out W true h
 have hst:stopAt R cut i p=(if hasA R cut p=true then [⟨p,false,x⟩] else [])++(if (decide (R.fr<p)&&(decide (x≠y)||(cut&&decide (p=R.tt))))=true then [⟨p,true,y⟩] else []):=by
  unfold stopAt hasB
  rw [hx,hy]
 have HST:=lh hst
 have HKB:Hid (∀W,AdS w S0 b cut M W→W.cell? ⟨S0,0,none⟩=some (.pointer (some ⟨b,0,none⟩))∧AdS w S0 b cut M W):=lh fun W h=>⟨by simp [World.cell?,h.bw],h⟩
 clear hst HE hx hy
 have HW:=lh h
 obtain⟨k0,hW⟩:=HKB.out W h
 clear h
 go_enter Tryz.func89,Tryz.ntmps89
 go_upto_region 0 with (fail)
 obtain⟨S,hSi,hSo⟩:∃S:World→Prop,(∀W:World,W.cell? ⟨S0,0,none⟩=some (.pointer (some ⟨b,0,none⟩))→S W)∧(∀W:World,S W→W.cell? ⟨S0,0,none⟩=some (.pointer (some ⟨b,0,none⟩))):=⟨fun W=>W.cell? ⟨S0,0,none⟩=some (.pointer (some ⟨b,0,none⟩)),fun _ h=>h,fun _ h=>h⟩
 have HSi:=lh hSi
 have hne:Nonempty (WIn S):=⟨⟨_,hSi _ k0⟩⟩
 have kp_0:∀q:WIn S,q.w.cell? ⟨S0,0,none⟩=some (.pointer (some ⟨b,0,none⟩)):=fun q=>hSo _ q.h
 clear hSi hSo
 refine wp_region_segP S [([0,1,3,4],2),([],5)] [6,7] (by kernel_rfl) (by kernel_rfl) (HSi.out _ k0) ?_
 simp only [segHP,opsAt,List.filterMap_cons,List.filterMap_nil,List.getElem?_toArray,List.getElem?_cons_zero,List.getElem?_cons_succ]
 show wpQuiet _ _ _ _ [_,_,_,_] _
 repeat (go_big_quiet_step (fail))
 refine wpQuiet_nil ?_
 intro K hK
 have HKK:=lh hK
 have HC1:=lh (HEF.out W.drew hW.drew)
 clear hK
 show wpList _ _ _ [_] _ _
 go_wp2_with (go_at_call 52;refine HC1.out.mono ?_;rintro e w5 ⟨rfl,hS5⟩)
 have k5:=(HKB.out w5 hS5).1
 have HC2:=lh (HET.out w5 hS5)
 refine HKK.out _ _ (HSi.out _ k5) ?_
 clear HKK HC1 hS5
 show wpQuiet _ _ _ _ [] _
 refine wpQuiet_nil ?_
 intro K hK
 have HKK:=lh hK
 clear hK
 show wpList _ _ _ [_] _ _
 go_wp2_with (go_at_call 52;refine HC2.out.mono ?_;rintro e w6 ⟨rfl,hS6⟩)
 have k6:=(HKB.out w6 hS6).1
 have HS6:=lh hS6
 refine HKK.out _ _ (HSi.out _ k6) ?_
 clear HKK HC2 hS6 HSi
 show wpQuiet _ _ _ _ [_,_] _
 repeat (go_big_quiet_step (fail))
 refine wpQuiet_nil ?_
 refine NoPanic.normal ?_
 clear kp_0 hne k5 k6 k0 hW HW HEF HET HKB
 obtain⟨u,hu⟩:∃u,hasA R cut p=u:=⟨_,rfl⟩
 obtain⟨v,hv⟩:∃v,(decide (R.fr<p)&&(decide (x≠y)||(cut&&decide (p=R.tt))))=v:=⟨_,rfl⟩
 rw [hu,hv] at HST
 go_upto_region 1 with (fail)
 go_cut [35] (fun c wx=>c=.bool u∧AdS w S0 b cut M wx)
 case first =>
  obtain⟨la,lcap,va,vc,g1,_,_⟩:=HLD.out w6 HS6.out
  have d2:=g1.cells.2.2.1
  have d3:=g1.cells.2.2.2.1
  have k0:w6.cell? ⟨S0,0,none⟩=some (.pointer (some ⟨b,0,none⟩)):=by simp [World.cell?,HS6.out.bw]
  have k2:w6.cell? ⟨S0+2,0,none⟩=some (.bool cut):=by simp [World.cell?,HS6.out.bc]
  clear g1
  by_cases h1:p<R.tt
  ·have hd1:decide ((p:Int)<(R.tt:Int))=true:=decide_eq_true (by omega)
   have hu1:u=true:=by rw [←hu];unfold hasA;rw [decide_eq_true h1];rfl
   subst hu1
   go_quiet (fail)
   go_wp2_with (fail)
   go_meet
   exact⟨rfl,HS6.out.drewN _⟩
  ·have hd1:decide ((p:Int)<(R.tt:Int))=false:=decide_eq_false (by omega)
   cases cut with
   | false =>
     have hu1:u=true:=by rw [←hu];unfold hasA;simp
     subst hu1
     go_quiet (fail)
     go_wp2_with (fail)
     go_meet
     exact⟨rfl,HS6.out.drewN _⟩
   | true =>
     by_cases h3:R.fr=R.tt
     ·have hd3:((R.fr:Int)==(R.tt:Int))=true:=by rw [beq_iff_eq];omega
      have hu1:u=true:=by rw [←hu];unfold hasA;rw [decide_eq_true h3];simp
      subst hu1
      go_quiet (fail)
      go_wp2_with (fail)
      go_meet
      exact⟨rfl,HS6.out.drewN _⟩
     ·have hd3:((R.fr:Int)==(R.tt:Int))=false:=by rw [beq_eq_false_iff_ne];omega
      have hu1:u=false:=by rw [←hu];unfold hasA;rw [decide_eq_false h3,decide_eq_false h1];rfl
      subst hu1
      go_quiet (fail)
      go_wp2_with (fail)
      go_meet
      exact⟨rfl,HS6.out.drewN _⟩
 case rest =>
  obtain⟨rfl,hS7⟩:=hcut
  have HS7:=lh hS7
  have HU:=lh hu
  have HV:=lh hv
  clear hS7 HS6 hu hv
  obtain⟨M1,hM1⟩:∃M1,M++(if u=true then [(⟨p,false,x⟩:St)] else [])=M1:=⟨_,rfl⟩
  have hM1l:M1.length≤8388609:=by rw [←hM1,List.length_append];split <;> simp <;> omega
  go_upto_if 35 with (fail)
  go_cut [35] (fun _ wx=>AdS w S0 b cut M1 wx)
  case first =>
   cases u with
   | true =>
     obtain⟨a,c,r1,r2⟩:=HS7.out.row
     have k1:wc.cell? ⟨S0+1,0,none⟩=some (.slice a M.length c):=by simp [World.cell?,r1]
     have hsz:S0+1<wc.heap.size:=(Array.getElem?_eq_some_iff.1 r1).1
     have R1:=lh r1
     have R2:=lh r2
     have hal:=World.ownsRow.alloc r2 (.cells #[.int .i64 p,.bool false,.int .i64 (-1),.int .i64 x] 91)
     have HAL:=lh hal
     have hbz:S0+3≤wc.heap.size:=by have:=(Array.getElem?_eq_some_iff.1 HS7.out.bc).1;omega
     clear r1 r2 hal
     go_wp2_with (at_builtin;refine wpList_append_own_at _ rfl _ _ 86 rfl (S0+3) 91 i5 _ 4 32 Tryz.underlying86 hi5 hz5 ha5 hby5 rfl (by decide) _ M.length _ rfl HAL.out ⟨wc.heap.size,0,none⟩ 1 1 [.int .i64 p,.bool false,.int .i64 (-1),.int .i64 x] rfl rfl (newS _ _ _) (by simp [Value.oneCell']) (by unfold maxLen;omega) (by omega) (by simp;omega) ?_;intro v' w8 ho8 hg8 _ _;obtain⟨a',c',hv',_,_⟩:=own_slice ho8;subst hv';obtain⟨q1,hS8⟩:=HS7.out.app R1.out R2.out ⟨p,false,x⟩ hg8 ho8;have HS8:=lh hS8;have q0:w8.cell? ⟨S0+1,0,none⟩=some (.slice a M.length c):=(by simp [World.cell?,q1]);have qf:w8.frozen? ⟨S0+1,0,none⟩=false:=(by simp [World.frozen?,q1]);clear hS8 q1)
     go_meet
     rw [←hM1,if_pos trivial]
     exact HS8.out
   | false =>
     go_wp2_with (fail)
     go_meet
     rw [←hM1,if_neg (by decide),List.append_nil]
     exact HS7.out
  case rest =>
   have HS9:=lh hcut
   clear hcut HS7
   have HST2:Hid (M++stopAt R cut i p=M1++(if v=true then [(⟨p,true,y⟩:St)] else [])):=lh (by rw [HST.out,←hM1,List.append_assoc])
   clear hM1
   have HLD2:LaidW wc b R:=hL.below (hS0▸HS9.out.bel)
   go_upto_region 3 with (fail)
   go_cut [64] (fun c wx=>c=.bool v∧AdS w S0 b cut M1 wx)
   case first =>
    obtain⟨la,lcap,va,vc,g1,_,_⟩:=HLD2
    have d2:=g1.cells.2.2.1
    have d3:=g1.cells.2.2.2.1
    have k0:wc.cell? ⟨S0,0,none⟩=some (.pointer (some ⟨b,0,none⟩)):=by simp [World.cell?,HS9.out.bw]
    have k2:wc.cell? ⟨S0+2,0,none⟩=some (.bool cut):=by simp [World.cell?,HS9.out.bc]
    clear g1
    by_cases h1:R.fr<p
    ·have hd1:decide ((R.fr:Int)<(p:Int))=true:=decide_eq_true (by omega)
     by_cases h2:x=y
     ·have hd2:(x != y)=false:=by simp [h2]
      have hd2':(y != y)=false:=by simp
      cases cut with
      | false =>
        have hv1:v=false:=by rw [←HV.out];simp [h2]
        subst hv1
        subst h2
        go_wp2_with (fail)
        go_meet
        exact⟨rfl,HS9.out⟩
      | true =>
        by_cases h3:p=R.tt
        ·have hd3:((p:Int)==(R.tt:Int))=true:=by rw [beq_iff_eq];omega
         have hv1:v=true:=by rw [←HV.out];simp [h1,h3];omega
         clear h3
         subst hv1
         subst h2
         go_wp2_with (fail)
         go_meet
         exact⟨rfl,HS9.out⟩
        ·have hd3:((p:Int)==(R.tt:Int))=false:=by rw [beq_eq_false_iff_ne];omega
         have hv1:v=false:=by rw [←HV.out];simp [h2,h3]
         subst hv1
         subst h2
         go_wp2_with (fail)
         go_meet
         exact⟨rfl,HS9.out⟩
     ·have hd2:(x != y)=true:=by simp [h2]
      have hv1:v=true:=by rw [←HV.out];simp [h1,h2]
      subst hv1
      go_wp2_with (fail)
      go_meet
      exact⟨rfl,HS9.out⟩
    ·have hd1:decide ((R.fr:Int)<(p:Int))=false:=decide_eq_false (by omega)
     have hv1:v=false:=by rw [←HV.out];simp [h1]
     subst hv1
     go_wp2_with (fail)
     go_meet
     exact⟨rfl,HS9.out⟩
   case rest =>
    obtain⟨rfl,hS7⟩:=hcut
    have HS7:=lh hS7
    clear hS7 HLD2 HS9 HV HU
    cases v with
    | true =>
      obtain⟨a,c,r1,r2⟩:=HS7.out.row
      have k1:wc.cell? ⟨S0+1,0,none⟩=some (.slice a M1.length c):=by simp [World.cell?,r1]
      have hsz:S0+1<wc.heap.size:=(Array.getElem?_eq_some_iff.1 r1).1
      have R1:=lh r1
      have R2:=lh r2
      have hal:=World.ownsRow.alloc r2 (.cells #[.int .i64 p,.bool true,.int .i64 (-1),.int .i64 y] 91)
      have HAL:=lh hal
      have hbz:S0+3≤wc.heap.size:=by have:=(Array.getElem?_eq_some_iff.1 HS7.out.bc).1;omega
      clear r1 r2 hal
      go_wp2_with (at_builtin;refine wpList_append_own_at _ rfl _ _ 86 rfl (S0+3) 91 i5 _ 4 32 Tryz.underlying86 hi5 hz5 ha5 hby5 rfl (by decide) _ M1.length _ rfl HAL.out ⟨wc.heap.size,0,none⟩ 1 1 [.int .i64 p,.bool true,.int .i64 (-1),.int .i64 y] rfl rfl (newS _ _ _) (by simp [Value.oneCell']) (by unfold maxLen;omega) (by omega) (by simp;omega) ?_;intro v' w8 ho8 hg8 _ _;obtain⟨a',c',hv',_,_⟩:=own_slice ho8;subst hv';obtain⟨q1,hS8⟩:=HS7.out.app R1.out R2.out ⟨p,true,y⟩ hg8 ho8;have HS8:=lh hS8;have q0:w8.cell? ⟨S0+1,0,none⟩=some (.slice a M1.length c):=(by simp [World.cell?,q1]);have qf:w8.frozen? ⟨S0+1,0,none⟩=false:=(by simp [World.frozen?,q1]);clear hS8 q1)
      go_end0
      exact⟨rfl,by rw [HST2.out,if_pos trivial];exact HS8.out⟩
    | false =>
      go_wp2_with (fail)
      go_end0
      exact⟨rfl,by rw [HST2.out,if_neg (by decide),List.append_nil];exact HS7.out⟩
end
section
open Go.RowKit Go.Proofs Go.Shelf
attribute [local go_sem] Oper.semAt_some
def smallX (l:List St):Prop:=∀s∈l,-1099511627776≤s.x∧s.x≤1099511627776
theorem scmp_any (s t:St) (hs : -1099511627776≤s.x∧s.x≤1099511627776) (ht : -1099511627776≤t.x∧t.x≤1099511627776) (w:World) :
 Calls Tryz.prog 91 #[.agg #[.int .i64 s.a,.bool s.back,.int .i64 (-1),.int .i64 s.x],.agg #[.int .i64 t.a,.bool t.back,.int .i64 (-1),.int .i64 t.x]] w fun e w'=>e=.returned (.int .i64 (s.x-t.x))∧Below w.heap.size w w':=by
 have hw:IntKind.i64.wrap (s.x-t.x)=s.x-t.x:=by rw [IntKind.wrap_i64];omega
 have hb:Below w.heap.size w ((w.alloc (.cells #[.int .i64 s.a,.bool s.back,.int .i64 (-1),.int .i64 s.x] 91)).alloc (.cells #[.int .i64 t.a,.bool t.back,.int .i64 (-1),.int .i64 t.x] 91)):=((Below.refl _ _).alloc (Nat.le_refl _) _).alloc (by simp) _
 go_enter Tryz.func91,Tryz.ntmps91
 go_wp2_with (fail)
 go_ret
 exact⟨rfl,hb⟩
theorem st_cells {w:World} {base n G c:Nat} {l:List St} (hl:l.length=n) (hO:OwnS stE 91 w base (.slice (some ⟨G,0,none⟩) n c) l) (i:Nat) (s:St) (hs:l[i]? = some s) :
 base≤G∧G<w.heap.size∧w.cell? ⟨G,i*4,none⟩=some (.int .i64 s.a)∧w.cell? ⟨G,i*4+1,none⟩=some (.bool s.back)∧w.cell? ⟨G,i*4+2,none⟩=some (.int .i64 (-1))∧w.cell? ⟨G,i*4+3,none⟩=some (.int .i64 s.x)∧∀j,w.frozen? ⟨G,j,none⟩=false:=by
 subst hl
 obtain⟨G',eG,h1,h2,hc,hf⟩:=hO.at i s hs
 cases eG
 exact⟨h1,h2,hc 0 _ rfl,hc 1 _ rfl,hc 2 _ rfl,hc 3 _ rfl,hf⟩
theorem st_set {w:World} {base n G c:Nat} {l:List St} (hl:l.length=n) (hO:OwnS stE 91 w base (.slice (some ⟨G,0,none⟩) n c) l) (i:Nat) (s t:St) (hs:l[i]? = some s) :
 OwnS stE 91 ((((w.setCell ⟨G,i*4,none⟩ (.int .i64 t.a)).setCell ⟨G,i*4+1,none⟩ (.bool t.back)).setCell ⟨G,i*4+2,none⟩ (.int .i64 (-1))).setCell ⟨G,i*4+3,none⟩ (.int .i64 t.x)) base (.slice (some ⟨G,0,none⟩) n c) (l.set i t):=by
 subst hl
 have hil:=(List.getElem?_eq_some_iff.1 hs).1
 have hg:∀z:St,(l.set i z)[i]? = some z:=fun z=>by rw [List.getElem?_set];simp [hil]
 have h1:=OwnS.set (cap:=c) hO i s ⟨t.a,s.back,s.x⟩ hs 0 (.int .i64 t.a) (by decide) rfl
 have h2:=OwnS.set (cap:=c) h1 i _ ⟨t.a,t.back,s.x⟩ (hg _) 1 (.bool t.back) (by decide) rfl
 rw [List.set_set] at h2
 have h3:=OwnS.set (cap:=c) h2 i _ ⟨t.a,t.back,s.x⟩ (hg _) 2 (.int .i64 (-1)) (by decide) rfl
 rw [List.set_set] at h3
 have h4:=OwnS.set (cap:=c) h3 i _ t (hg _) 3 (.int .i64 t.x) (by decide) rfl
 rw [List.set_set,List.length_set] at h4
 exact h4
structure InS (w:World) (base G c n:Nat) (M:List St) (W:World):Prop where
 own:OwnS stE 91 W base (.slice (some ⟨G,0,none⟩) n c) M
 bel:Below base w W
 sz:base≤W.heap.size
theorem InS.below {w W W':World} {base G c n:Nat} {M:List St} (h:InS w base G c n M W) (hb:Below W.heap.size W W'):InS w base G c n M W':=⟨h.own.keep hb,h.bel.trans (hb.mono h.sz),Nat.le_trans h.sz hb.size⟩
theorem InS.drew {w W:World} {base G c n:Nat} {M:List St} (h:InS w base G c n M W):InS w base G c n M W.drew:=⟨h.own,h.bel.drew,h.sz⟩
theorem InS.drewN {w W:World} {base G c n:Nat} {M:List St} (h:InS w base G c n M W) (k:Nat):InS w base G c n M (W.drewN k):=⟨h.own,bl_drewN h.bel k,h.sz⟩
theorem InS.swap {w W:World} {base G c n:Nat} {M:List St} (h:InS w base G c n M W) (hl:M.length=n) (j:Nat) (s t:St) (hs:M[j+1]? = some s) (ht:M[j]? = some t) :
 InS w base G c n (swapL M j) ((((((((W.setCell ⟨G,(j+1)*4,none⟩ (.int .i64 t.a)).setCell ⟨G,(j+1)*4+1,none⟩ (.bool t.back)).setCell ⟨G,(j+1)*4+2,none⟩ (.int .i64 (-1))).setCell ⟨G,(j+1)*4+3,none⟩ (.int .i64 t.x)).setCell ⟨G,j*4,none⟩ (.int .i64 s.a)).setCell ⟨G,j*4+1,none⟩ (.bool s.back)).setCell ⟨G,j*4+2,none⟩ (.int .i64 (-1))).setCell ⟨G,j*4+3,none⟩ (.int .i64 s.x)):=by
 have h1:=st_set hl h.own (j+1) s t hs
 have ht':(M.set (j+1) t)[j]? = some t:=by rw [List.getElem?_set,if_neg (by omega)];exact ht
 have h2:=st_set (by rw [List.length_set];exact hl) h1 j t s ht'
 have hG:=(World.ownsRow.lt h.own G rfl).1
 have e:swapL M j=(M.set (j+1) t).set j s:=by
  unfold swapL
  rw [List.getD_eq_getElem?_getD,List.getD_eq_getElem?_getD,hs,ht]
  rfl
 rw [e]
 refine⟨h2,?_,?_⟩
 ·have key:∀{X:World} (k:Nat) (v:Value),Below base w X→Below base w (X.setCell ⟨G,k,none⟩ v):=fun k v hX=>hX.setCell (p:=⟨G,k,none⟩) hG v
  exact key _ _ (key _ _ (key _ _ (key _ _ (key _ _ (key _ _ (key _ _ (key _ _ h.bel)))))))
 ·have:=h.sz;simp;omega
end
end Go.Proofs.YtlmjbfncopbilaaGreatDoor
