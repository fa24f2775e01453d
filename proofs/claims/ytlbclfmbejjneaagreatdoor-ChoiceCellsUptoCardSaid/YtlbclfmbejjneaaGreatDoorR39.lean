/- Part 39 (merged by a program): lemmas of no further condition than each states. -/
import Derived.Test.YtlbclfmbejjneaaGreatDoorR38
namespace Go.Proofs.YtlbclfmbejjneaaGreatDoor
set_option linter.unusedVariables false
set_option linter.unusedSimpArgs false
section
open Go.RowKit Go.Proofs Go.Shelf
attribute [local go_sem] Oper.semAt_some
structure PcS (w:World) (P n:Nat) (p:Pc) (M:List Ce) (W:World):Prop where
 box:W.heap[P]? = some (.cells #[.int .i64 p.a,.int .i64 p.size,.int .i64 p.c0,.int .i64 p.c1,.int .u8 p.level,.string p.became,.string p.shown,.int .i64 n,.int .i64 p.e0,.int .i64 p.e1] 75 (0,0))
 own:OwnS ceE 32 W (P+1) (.slice (some ⟨P+1,0,none⟩) n n) M
 bel:Below P w W
section
variable {w W W':World} {P n:Nat} {p:Pc} {M:List Ce}
theorem PcS.below (h:PcS w P n p M W) (hb:Below W.heap.size W W'):PcS w P n p M W':=by
 have hP:=(Array.getElem?_eq_some_iff.1 h.box).1
 exact⟨(hb.block P hP).trans h.box,h.own.keep hb,h.bel.trans (hb.mono (Nat.le_of_lt hP))⟩
theorem PcS.drew (h:PcS w P n p M W):PcS w P n p M W.drew:=⟨h.box,h.own,h.bel.drew⟩
theorem PcS.cells (h:PcS w P n p M W):W.cell? ⟨P,0,none⟩=some (.int .i64 p.a)∧W.cell? ⟨P,1,none⟩=some (.int .i64 p.size)∧W.cell? ⟨P,2,none⟩=some (.int .i64 p.c0)∧W.cell? ⟨P,3,none⟩=some (.int .i64 p.c1)∧W.cell? ⟨P,4,none⟩=some (.int .u8 p.level) ∧
 W.cell? ⟨P,5,none⟩=some (.string p.became)∧W.cell? ⟨P,6,none⟩=some (.string p.shown)∧W.cell? ⟨P,7,none⟩=some (.int .i64 n)∧W.cell? ⟨P,8,none⟩=some (.int .i64 p.e0)∧W.cell? ⟨P,9,none⟩=some (.int .i64 p.e1):=by
 have hb:=h.box
 refine⟨?_,?_,?_,?_,?_,?_,?_,?_,?_,?_⟩ <;> simp [World.cell?,hb]
theorem PcS.row (h:PcS w P n p M W) (hn:M.length=n) (i:Nat) (x:Ce) (hx:M[i]? = some x):W.cell? ⟨P+1,i*6,none⟩=some (.string x.text)∧W.cell? ⟨P+1,i*6+1,none⟩=some (.int .i8 x.part)∧W.cell? ⟨P+1,i*6+2,none⟩=some (.int .i64 x.a)∧W.cell? ⟨P+1,i*6+3,none⟩=some (.int .i64 x.len) ∧
 W.cell? ⟨P+1,i*6+4,none⟩=some (.bool x.right)∧W.cell? ⟨P+1,i*6+5,none⟩=some (.int .u16 0)∧∀j,W.frozen? ⟨P+1,j,none⟩=false:=by
 subst hn
 obtain⟨G,eG,_,_,hc,hf⟩:=h.own.at i x hx
 cases eG
 exact⟨hc 0 _ rfl,hc 1 _ rfl,hc 2 _ rfl,hc 3 _ rfl,hc 4 _ rfl,hc 5 _ rfl,hf⟩
theorem PcS.set (h:PcS w P n p M W) (hn:M.length=n) (i:Nat) (x y:Ce) (hx:M[i]? = some x) (j:Nat) (v:Value) (hj:j<6) (hy:ceE.enc y=(ceE.enc x).set j v):PcS w P n p (M.set i y) (W.setCell ⟨P+1,i*6+j,none⟩ v):=by
 subst hn
 have h1:=OwnS.set (cap:=M.length) h.own i x y hx j v hj hy
 rw [List.length_set] at h1
 exact⟨box_other h.box (by omega),h1,h.bel.setCell (p:=⟨P+1,i*6+j,none⟩) (show P≤P+1 by omega) _⟩
theorem PcS.setAll (h:PcS w P n p M W) (hn:M.length=n) (i:Nat) (x y:Ce) (hx:M[i]? = some x):PcS w P n p (M.set i y) ((((((W.setCell ⟨P+1,i*6,none⟩ (.string y.text)).setCell ⟨P+1,i*6+1,none⟩ (.int .i8 y.part)).setCell ⟨P+1,i*6+2,none⟩ (.int .i64 y.a)).setCell ⟨P+1,i*6+3,none⟩ (.int .i64 y.len)).setCell ⟨P+1,i*6+4,none⟩ (.bool y.right)).setCell ⟨P+1,i*6+5,none⟩ (.int .u16 0)):=by
 have hil:=(List.getElem?_eq_some_iff.1 hx).1
 have hg:∀z:Ce,(M.set i z)[i]? = some z:=fun z=>by rw [List.getElem?_set];simp [hil]
 have h1:=h.set hn i x ⟨y.text,x.part,x.a,x.len,x.right⟩ hx 0 (.string y.text) (by decide) rfl
 have h2:=h1.set (by rw [List.length_set];exact hn) i _ ⟨y.text,y.part,x.a,x.len,x.right⟩ (hg _) 1 (.int .i8 y.part) (by decide) rfl
 rw [List.set_set] at h2
 have h3:=h2.set (by rw [List.length_set];exact hn) i _ ⟨y.text,y.part,y.a,x.len,x.right⟩ (hg _) 2 (.int .i64 y.a) (by decide) rfl
 rw [List.set_set] at h3
 have h4:=h3.set (by rw [List.length_set];exact hn) i _ ⟨y.text,y.part,y.a,y.len,x.right⟩ (hg _) 3 (.int .i64 y.len) (by decide) rfl
 rw [List.set_set] at h4
 have h5:=h4.set (by rw [List.length_set];exact hn) i _ y (hg _) 4 (.bool y.right) (by decide) rfl
 rw [List.set_set] at h5
 have h6:=h5.set (by rw [List.length_set];exact hn) i y y (hg _) 5 (.int .u16 0) (by decide) rfl
 rw [List.set_set] at h6
 exact h6
end
theorem PcS.iterAt {w W:World} {P n:Nat} {p:Pc} {M:List Ce} (h:PcS w P n p M W) {B:Nat} (hB:P+1<B) (s:ByteArray) (pos:Nat):PcS w P n p M (W.iterAt B s pos):=by
 refine⟨(Lib.iterAt_other W B P s pos (by omega)).trans h.box,⟨h.own.1,?_⟩,Lib.below_iterAt h.bel (by omega) s pos⟩
 rcases h.own.2 with ⟨h1,_⟩ | ⟨g,cap,cur,h1,h2,h3,h4⟩
 ·cases h1
 ·have hg:g=P+1:=by
   simp only [Value.slice.injEq,Option.some.injEq,Addr.mk.injEq] at h1
   exact h1.1.1.symm
  exact .inr ⟨g,cap,cur,h1,h2,(Lib.iterAt_other W B g s pos (by omega)).trans h3,h4⟩
theorem enc_ascii:∀v:Fin 128,Utf8.encode (v.val:Int)=⟨#[UInt8.ofNat v.val]⟩:=by decide +kernel
theorem ascii_at {s:ByteArray} (h:asciiB s=true) (i:Nat) (hi:i<s.size):(s[i]'hi).toNat<128∧Utf8.encode (((s[i]'hi).toNat:Nat):Int)=⟨#[s.get! i]⟩:=by
 unfold asciiB at h
 rw [List.all_eq_true] at h
 have hm:s[i]'hi∈s.data.toList:=by
  have:s[i]'hi=s.data[i]'hi:=rfl
  rw [this]
  exact Array.getElem_mem_toList hi
 have h1:=h _ hm
 simp only [decide_eq_true_eq] at h1
 refine⟨h1,?_⟩
 have h2:=enc_ascii ⟨(s[i]'hi).toNat,h1⟩
 dsimp only at h2
 rw [h2]
 have e:s.get! i=s[i]'hi:=by
  show (s.data[i]!)=s.data[i]'hi
  rw [getElem!_pos s.data i hi]
 rw [e]
 simp
set_option maxRecDepth 100000 in
set_option maxHeartbeats 2000000 in
theorem pCells_any (p:Pc) (n:Nat) (hn:p.wide=n) (hn0:0<n) (hn19:n≤19) (hg:wholeB p=true∨asciiB p.shown=true∧n=p.shown.size) (hlv:p.level<256) (w:World) :
 Calls Tryz.prog 34 #[.agg #[.int .i64 p.a,.int .i64 p.size,.int .i64 p.c0,.int .i64 p.c1,.int .u8 p.level,.string p.became,.string p.shown,.int .i64 p.wide,.int .i64 p.e0,.int .i64 p.e1]] w fun e w' =>
  ∃a,e=.returned (.slice a n n)∧OwnS ceE 32 w' w.heap.size (.slice a n n) (cellsP p)∧Below w.heap.size w w':=by
 obtain⟨i3,hi3,hz3,ha3,hb3⟩:=info_parts (Tryz.info_cell)
 have hmk:=fun (W:World)=>run_make (P:=Tryz.prog) W 27 32 i3 _ Tryz.underlying27 hi3 hz3 .i64 .i64 n n (by omega) (Int.le_refl _) (by rw [hb3];omega) (by omega)
 simp only [ha3,Int.toNat_natCast] at hmk
 have hcp:cellsP p=mapR n (fun i=>if wholeB p=true then Ce.mk (if i=0 then p.shown else ⟨#[]⟩) (i:Int) p.a p.size (oddB p) else Ce.mk ⟨#[p.shown.get! i]⟩ 0 p.a p.size (oddB p)):=by
  unfold cellsP mapR
  rw [hn,Int.toNat_natCast]
 have HCP:=lh hcp
 clear hcp
 rw [hn]
 go_enter Tryz.func34,Tryz.ntmps34
 go_upto_region 2 with (fail)
 obtain⟨P,hP⟩:∃P,w.heap.size=P:=⟨_,rfl⟩
 have hb0:Below P w (w.alloc (.cells #[.int .i64 p.a,.int .i64 p.size,.int .i64 p.c0,.int .i64 p.c1,.int .u8 p.level,.string p.became,.string p.shown,.int .i64 n,.int .i64 p.e0,.int .i64 p.e1] 75)):=by rw [←hP];exact (Below.refl _ _).alloc (Nat.le_refl _) _
 have hx0:=World.alloc_heap_new w (.cells #[.int .i64 p.a,.int .i64 p.size,.int .i64 p.c0,.int .i64 p.c1,.int .u8 p.level,.string p.became,.string p.shown,.int .i64 n,.int .i64 p.e0,.int .i64 p.e1] 75)
 have hs0:(w.alloc (.cells #[.int .i64 p.a,.int .i64 p.size,.int .i64 p.c0,.int .i64 p.c1,.int .u8 p.level,.string p.became,.string p.shown,.int .i64 n,.int .i64 p.e0,.int .i64 p.e1] 75)).heap.size=P+1:=by rw [World.size_alloc,hP]
 rw [hP] at hx0 ⊢
 generalize w.alloc (.cells #[.int .i64 p.a,.int .i64 p.size,.int .i64 p.c0,.int .i64 p.c1,.int .u8 p.level,.string p.became,.string p.shown,.int .i64 n,.int .i64 p.e0,.int .i64 p.e1] 75)=W0 at hb0 hx0 hs0 ⊢
 have ho1:=made_own ceE 32 W0 ce0 (by decide) n (by unfold maxLen;omega)
 rw [hs0] at ho1
 have hb1:Below W0.heap.size W0 (W0.alloc (.cells (madeCells #[.string ⟨#[]⟩,.int .i8 0,.int .i64 0,.int .i64 0,.bool false,.int .u16 0] (n*6)) 32)):=(Below.refl _ _).alloc (Nat.le_refl _) _
 have hS1:PcS w P n p (mapR n fun _=>ce0) (W0.alloc (.cells (madeCells #[.string ⟨#[]⟩,.int .i8 0,.int .i64 0,.int .i64 0,.bool false,.int .u16 0] (n*6)) 32)) :=
  ⟨(hb1.block P (by omega)).trans hx0,ho1,hb0.trans (hb1.mono (by omega))⟩
 generalize W0.alloc (.cells (madeCells #[.string ⟨#[]⟩,.int .i8 0,.int .i64 0,.int .i64 0,.bool false,.int .u16 0] (n*6)) 32)=W1 at hS1 ⊢
 have HS1:=lh hS1
 clear hb0 hx0 hs0 ho1 hb1 hS1 hmk
 obtain⟨o,ho⟩:∃o,oddB p=o:=⟨_,rfl⟩
 have hoq:(((p.level % 2:Nat):Int)==1)=o:=by rw [←ho];unfold oddB;rw [Bool.eq_iff_iff];simp;omega
 have hoq2:((p.level:Int) % 2==1)=o:=by rw [←ho];unfold oddB;rw [Bool.eq_iff_iff];simp;omega
 obtain⟨c1,hc1⟩:∃c1,Ce.mk ⟨#[]⟩ 0 p.a p.size o=c1:=⟨_,rfl⟩
 go_upto_block 0 with (fail)
 go_wp2_with (fail)
 go_loopw [4,13] (fun _ u wx=>∃i:Nat,i≤n∧u=.int .i64 i∧PcS w P n p (mapR n fun j=>if j<i then c1 else ce0) wx) (fun _ u _=>n-(intOf u).toNat)
 case atStart=>exact⟨0,Nat.zero_le _,rfl,by simpa using HS1.out⟩
 case round =>
  obtain⟨i,hi,rfl,hS⟩:=hrel
  have HS:=lh hS
  clear hS HS1
  by_cases hlt:i<n
  ·have hml:=mapR_len n (fun j=>if j<i then c1 else ce0)
   have hmg:=mapR_get n (fun j=>if j<i then c1 else ce0) i hlt
   rw [if_neg (Nat.lt_irrefl i)] at hmg
   obtain⟨M,hM⟩:∃M,mapR n (fun j=>if j<i then c1 else ce0)=M:=⟨_,rfl⟩
   have hnx:M.set i c1=mapR n (fun j=>if j<i+1 then c1 else ce0):=by
    rw [←hM]
    refine mapR_set _ _ _ _ _ (fun j hj=>?_)
    by_cases e:j=i
    ·subst e;rw [if_pos (by omega),if_pos rfl]
    ·rw [if_neg e]
     by_cases e2:j<i
     ·rw [if_pos (by omega),if_pos e2]
     ·rw [if_neg (by omega),if_neg e2]
   rw [hM] at hml hmg HS
   obtain⟨z0,z1,z2,z3,z4,z5,z6,z7,z8,z9⟩:=HS.out.cells
   have HNX:=lh hnx
   have HMG:=lh hmg
   have HML:=lh hml
   have hwi:IntKind.i64.wrap ((i:Int)+1)=(i:Int)+1:=by rw [IntKind.wrap_i64];omega
   clear hnx hmg hml hM
   go_upto_region 5 with (fail)
   obtain⟨S,hSi,hSo⟩:∃S:World→Prop,(∀W:World,W.heap[P]? = some (.cells #[.int .i64 p.a,.int .i64 p.size,.int .i64 p.c0,.int .i64 p.c1,.int .u8 p.level,.string p.became,.string p.shown,.int .i64 n,.int .i64 p.e0,.int .i64 p.e1] 75 (0,0))→S W)∧(∀W:World,S W→W.heap[P]? = some (.cells #[.int .i64 p.a,.int .i64 p.size,.int .i64 p.c0,.int .i64 p.c1,.int .u8 p.level,.string p.became,.string p.shown,.int .i64 n,.int .i64 p.e0,.int .i64 p.e1] 75 (0,0))):=⟨fun W=>W.heap[P]? = some (.cells #[.int .i64 p.a,.int .i64 p.size,.int .i64 p.c0,.int .i64 p.c1,.int .u8 p.level,.string p.became,.string p.shown,.int .i64 n,.int .i64 p.e0,.int .i64 p.e1] 75 (0,0)),fun _ h=>h,fun _ h=>h⟩
   have HSi:=lh hSi
   have hne:Nonempty (WIn S):=⟨⟨_,hSi _ HS.out.box⟩⟩
   have kp0:∀q:WIn S,q.w.cell? ⟨P,0,none⟩=some (.int .i64 p.a):=fun q=>by have:=hSo _ q.h;simp [World.cell?,this]
   have kp1:∀q:WIn S,q.w.cell? ⟨P,1,none⟩=some (.int .i64 p.size):=fun q=>by have:=hSo _ q.h;simp [World.cell?,this]
   have kp2:∀q:WIn S,q.w.cell? ⟨P,2,none⟩=some (.int .i64 p.c0):=fun q=>by have:=hSo _ q.h;simp [World.cell?,this]
   have kp3:∀q:WIn S,q.w.cell? ⟨P,3,none⟩=some (.int .i64 p.c1):=fun q=>by have:=hSo _ q.h;simp [World.cell?,this]
   have kp4:∀q:WIn S,q.w.cell? ⟨P,4,none⟩=some (.int .u8 p.level):=fun q=>by have:=hSo _ q.h;simp [World.cell?,this]
   have kp5:∀q:WIn S,q.w.cell? ⟨P,5,none⟩=some (.string p.became):=fun q=>by have:=hSo _ q.h;simp [World.cell?,this]
   have kp6:∀q:WIn S,q.w.cell? ⟨P,6,none⟩=some (.string p.shown):=fun q=>by have:=hSo _ q.h;simp [World.cell?,this]
   have kp7:∀q:WIn S,q.w.cell? ⟨P,7,none⟩=some (.int .i64 n):=fun q=>by have:=hSo _ q.h;simp [World.cell?,this]
   have kp8:∀q:WIn S,q.w.cell? ⟨P,8,none⟩=some (.int .i64 p.e0):=fun q=>by have:=hSo _ q.h;simp [World.cell?,this]
   have kp9:∀q:WIn S,q.w.cell? ⟨P,9,none⟩=some (.int .i64 p.e1):=fun q=>by have:=hSo _ q.h;simp [World.cell?,this]
   have hOD:=fun W=>odd_any p hlv W
   rw [hn] at hOD
   have HOD:=lh hOD
   clear hSi hSo z0 z1 z2 z3 z4 z5 z6 z7 z8 z9 hOD
   refine wp_region_segP S [([0,1,2,3,4,5,6],7),([8,9,10],11)] [] (by kernel_rfl) (by kernel_rfl) (HSi.out _ HS.out.drew.box) ?_
   simp only [segHP,opsAt,List.filterMap_cons,List.filterMap_nil,List.getElem?_toArray,List.getElem?_cons_zero,List.getElem?_cons_succ]
   show wpQuiet _ _ _ _ [_,_,_,_,_,_,_] _
   repeat (go_big_quiet_step (fail))
   refine wpQuiet_nil ?_
   intro K hK
   have HKK:=lh hK
   clear hK
   show wpList _ _ _ [_] _ _
   go_wp2_with (go_at_call 53;refine (HOD.out _).mono ?_;rintro e w6 ⟨rfl,hb6⟩)
   have HS6:=lh (HS.out.drew.below hb6)
   clear hb6
   refine HKK.out _ _ (HSi.out _ HS6.out.box) ?_
   clear HKK
   show wpQuiet _ _ _ _ [_,_,_] _
   repeat (go_big_quiet_step (fail))
   refine wpQuiet_nil ?_
   intro K hK
   have HKK:=lh hK
   clear hK
   obtain⟨y0,y1,y2,y3,y4,y5,yf⟩:=HS6.out.row HML.out i ce0 HMG.out
   have hS7:=HS6.out.setAll HML.out i ce0 c1 HMG.out
   rw [←hc1] at hS7
   dsimp only at hS7
   rw [hc1,HNX.out] at hS7
   have HS7:=lh hS7
   clear hS7
   show wpList _ _ _ [_] _ _
   go_wp2_with (fail)
   refine HKK.out _ _ (HSi.out _ HS7.out.box) ?_
   clear HKK HSi kp0 kp1 kp2 kp3 kp4 kp5 kp6 kp7 kp8 kp9 hne y0 y1 y2 y3 y4 y5 yf
   refine wpQuiet_nil ?_
   refine NoPanic.normal ?_
   go_wp2_with (fail)
   go_roundw
   case rel=>exact⟨i+1,by omega,by go_num,HS7.out⟩
   case measure=>simp [intOf];omega
  ·obtain rfl:i=n:=by omega
   have hS1:PcS w P i p (mapR i fun _=>c1) wr:=by
    have:=HS.out
    rw [mapR_congr i (fun j=>if j<i then c1 else ce0) (fun _=>c1) (fun j hj=>if_pos hj)] at this
    exact this
   have HS1':=lh hS1
   obtain⟨z0,z1,z2,z3,z4,z5,z6,z7,z8,z9⟩:=hS1.cells
   clear hS1 HS hlt
   go_upto_region 7 with (fail)
   go_cut [44] (fun c wx=>c=.bool (wholeB p)∧PcS w P i p (mapR i fun _=>c1) wx)
   case first =>
    by_cases hsb:p.shown=p.became
    ·have hd:(p.shown.toList==p.became.toList)=true:=by rw [bytes_beq];exact decide_eq_true hsb
     have hwb:wholeB p=true:=by unfold wholeB;rw [decide_eq_true hsb];rfl
     clear hsb
     go_wp2_with (fail)
     go_meet
     exact⟨by rw [hwb],HS1'.out⟩
    ·have hd:(p.shown.toList==p.became.toList)=false:=by rw [bytes_beq];exact decide_eq_false hsb
     have hw0:wholeB p=dotB p.shown:=by unfold wholeB;rw [decide_eq_false hsb];rfl
     clear hsb
     by_cases h3:3≤p.shown.size
     ·have h3':(3:Int)≤(p.shown.size:Int):=by omega
      have hwb:wholeB p=((p.shown.extract 0 3).toList==dotS.toList):=by rw [hw0,bytes_beq];unfold dotB;rw [decide_eq_true h3,Bool.true_and]
      have HWB:=lh hwb
      clear hwb hw0
      obtain⟨D,hD⟩:∃D,((p.shown.extract 0 3).toList==dotS.toList)=D:=⟨_,rfl⟩
      rw [hD] at HWB
      have hD2:((p.shown.extract 0 3).toList==(⟨#[226,151,140]⟩:ByteArray).toList)=D:=hD
      go_wp2_with (fail)
      go_meet
      exact⟨by rw [HWB.out,←hD2,ByteArray.toList_eq ⟨#[226,151,140]⟩],HS1'.out⟩
     ·have h3':¬ (3:Int)≤(p.shown.size:Int):=by omega
      have h3d:decide ((3:Int)≤(p.shown.size:Int))=false:=decide_eq_false h3'
      have hwb:wholeB p=false:=by rw [hw0];unfold dotB;rw [decide_eq_false h3];rfl
      go_wp2_with (fail)
      go_meet
      exact⟨by rw [hwb],HS1'.out⟩
   case rest =>
    obtain⟨rfl,hSc⟩:=hcut
    have HSc:=lh hSc
    clear HS1' z0 z1 z2 z3 z4 z5 z6 z7 z8 z9
    have z6:=hSc.cells.2.2.2.2.2.2.1
    clear hSc
    obtain⟨u,hu⟩:∃u,wholeB p=u:=⟨_,rfl⟩
    rw [hu]
    cases u with
    | true =>
      go_upto_block 2 with (fail)
      clear z6
      go_wp2_with (fail)
      go_loopw [5,47] (fun _ u wx=>∃j:Nat,j≤i∧u=.int .i64 j∧PcS w P i p (mapR i fun m=>if m<j then Ce.mk ⟨#[]⟩ (m:Int) p.a p.size o else c1) wx) (fun _ u _=>i-(intOf u).toNat)
      case atStart=>exact⟨0,Nat.zero_le _,rfl,by simpa using HSc.out⟩
      case round =>
       obtain⟨j,hj,rfl,hS⟩:=hrel
       by_cases hlt:j<i
       ·have hmg:=mapR_get i (fun m=>if m<j then Ce.mk ⟨#[]⟩ (m:Int) p.a p.size o else c1) j hlt
        rw [if_neg (Nat.lt_irrefl j)] at hmg
        have hnx:(mapR i fun m=>if m<j then Ce.mk ⟨#[]⟩ (m:Int) p.a p.size o else c1).set j (Ce.mk ⟨#[]⟩ (j:Int) p.a p.size o)=mapR i fun m=>if m<j+1 then Ce.mk ⟨#[]⟩ (m:Int) p.a p.size o else c1:=by
         refine mapR_set _ _ _ _ _ (fun m hm=>?_)
         by_cases e:m=j
         ·subst e;rw [if_pos (by omega),if_pos rfl]
         ·rw [if_neg e]
          by_cases e2:m<j
          ·rw [if_pos (by omega),if_pos e2]
          ·rw [if_neg (by omega),if_neg e2]
        obtain⟨y0,y1,y2,y3,y4,y5,yf⟩:=hS.row (mapR_len _ _) j c1 hmg
        have yf1:=yf (j*6+1)
        have hS2:=hS.set (mapR_len _ _) j c1 (Ce.mk ⟨#[]⟩ (j:Int) p.a p.size o) hmg 1 (.int .i8 (j:Int)) (by decide) (by rw [←hc1];rfl)
        rw [hnx] at hS2
        have HS2:=lh hS2
        have hw8:IntKind.i8.wrap (j:Int)=(j:Int):=by unfold IntKind.wrap IntKind.bits;simp [IntKind.signed];omega
        have hwj:IntKind.i64.wrap ((j:Int)+1)=(j:Int)+1:=by rw [IntKind.wrap_i64];omega
        clear hS hS2 hmg hnx HSc
        go_wp2_with (fail)
        go_roundw
        case rel=>exact⟨j+1,by omega,by go_num,HS2.out⟩
        case measure=>simp [intOf];omega
       ·obtain rfl:j=i:=by omega
        rw [mapR_congr j (fun m=>if m<j then Ce.mk ⟨#[]⟩ (m:Int) p.a p.size o else c1) (fun m=>Ce.mk ⟨#[]⟩ (m:Int) p.a p.size o) (fun m hm=>if_pos hm)] at hS
        have hmg:=mapR_get j (fun m=>Ce.mk ⟨#[]⟩ (m:Int) p.a p.size o) 0 hn0
        obtain⟨y0,y1,y2,y3,y4,y5,yf⟩:=hS.row (mapR_len _ _) 0 _ hmg
        have yf0:=yf 0
        have z6:=hS.cells.2.2.2.2.2.2.1
        have hS2:=hS.set (mapR_len _ _) 0 _ (Ce.mk p.shown ((0:Nat):Int) p.a p.size o) hmg 0 (.string p.shown) (by decide) rfl
        rw [mapR_set j _ (fun m=>Ce.mk (if m=0 then p.shown else ⟨#[]⟩) (m:Int) p.a p.size o) 0 _ (fun m hm=>by
         by_cases e:m=0
         ·subst e;rw [if_pos rfl,if_pos rfl]
         ·rw [if_neg e,if_neg e])] at hS2
        have hfin:cellsP p=mapR j fun m=>Ce.mk (if m=0 then p.shown else ⟨#[]⟩) (m:Int) p.a p.size o:=by
         rw [HCP.out]
         exact mapR_congr _ _ _ fun m hm=>by rw [if_pos hu,ho]
        rw [←hfin] at hS2
        have HS2:=lh hS2
        clear hS hS2 hfin hmg hlt HSc
        go_wp2_with (fail)
        go_ret
        exact⟨some ⟨P+1,0,none⟩,rfl,HS2.out.own.low (by omega),HS2.out.bel⟩
    | false =>
      obtain⟨has,hsn⟩:asciiB p.shown=true∧i=p.shown.size:=by
       rcases hg with h | h
       ·rw [hu] at h;cases h
       ·exact h
      go_upto_block 4 with (fail)
      clear z6
      obtain⟨B0,hB0⟩:∃B0,wc.heap.size=B0:=⟨_,rfl⟩
      have hPB:P+1<B0:=by
       rcases HSc.out.own.2 with ⟨h1,_⟩ | ⟨g,cap,cur,h1,h2,h3,h4⟩
       ·cases h1
       ·have hg:g=P+1:=by
         simp only [Value.slice.injEq,Option.some.injEq,Addr.mk.injEq] at h1
         exact h1.1.1.symm
        have:=(Array.getElem?_eq_some_iff.1 h3).1
        omega
      have hx0:(wc.iter p.shown 0).heap[B0]? = some (.stringIter p.shown 0):=by rw [←hB0];exact World.iter_heap wc p.shown 0
      have hS0:PcS w P i p (mapR i fun _=>c1) (wc.iter p.shown 0):=HSc.out.below ((Below.refl _ _).alloc (Nat.le_refl _) _)
      generalize wc.iter p.shown 0=W0 at hx0 hS0 ⊢
      rw [hB0]
      go_wp2_with (fail)
      go_loopw [6,7] (fun _ _ wx=>∃pos:Nat,pos≤i∧wx.heap[B0]? = some (.stringIter p.shown pos)∧PcS w P i p (mapR i fun m=>if m<pos then Ce.mk ⟨#[p.shown.get! m]⟩ 0 p.a p.size o else c1) wx) (fun _ _ wx=>i-wx.iterPos B0)
      case atStart=>exact⟨0,Nat.zero_le _,hx0,by simpa using hS0⟩
      case round =>
       obtain⟨pos,hp,hit,hS⟩:=hrel
       have hip:wr.iterPos B0=pos:=by simp [World.iterPos,hit]
       clear hx0 hS0 HSc
       by_cases hlt:pos<i
       ·have hlt':pos<p.shown.size:=by omega
        obtain⟨ha,hen⟩:=ascii_at has pos hlt'
        have hnx:=fun ty=>Lib.run_next_any_at (P:=Tryz.prog) wr B0 p.shown pos ty hit hlt'
        rw [decode_ascii p.shown pos hlt' ha] at hnx
        dsimp only at hnx
        obtain⟨v,hv⟩:∃v:Nat,(p.shown[pos]'hlt').toNat=v:=⟨_,rfl⟩
        rw [hv] at hnx hen ha
        have hx1:=Lib.iterAt_heap wr B0 p.shown pos (pos+1) hit
        have hS1:=hS.iterAt hPB p.shown (pos+1)
        generalize wr.iterAt B0 p.shown (pos+1)=w1 at hnx hx1 hS1
        have hmg:=mapR_get i (fun m=>if m<pos then Ce.mk ⟨#[p.shown.get! m]⟩ 0 p.a p.size o else c1) pos hlt
        rw [if_neg (Nat.lt_irrefl pos)] at hmg
        have hnxt:(mapR i fun m=>if m<pos then Ce.mk ⟨#[p.shown.get! m]⟩ 0 p.a p.size o else c1).set pos (Ce.mk ⟨#[p.shown.get! pos]⟩ 0 p.a p.size o)=mapR i fun m=>if m<pos+1 then Ce.mk ⟨#[p.shown.get! m]⟩ 0 p.a p.size o else c1:=by
         refine mapR_set _ _ _ _ _ (fun m hm=>?_)
         by_cases e:m=pos
         ·subst e;rw [if_pos (by omega),if_pos rfl]
         ·rw [if_neg e]
          by_cases e2:m<pos
          ·rw [if_pos (by omega),if_pos e2]
          ·rw [if_neg (by omega),if_neg e2]
        obtain⟨y0,y1,y2,y3,y4,y5,yf⟩:=hS1.row (mapR_len _ _) pos c1 hmg
        have yf0:=yf (pos*6)
        have hS2:=hS1.set (mapR_len _ _) pos c1 (Ce.mk ⟨#[p.shown.get! pos]⟩ 0 p.a p.size o) hmg 0 (.string ⟨#[p.shown.get! pos]⟩) (by decide) (by rw [←hc1];rfl)
        rw [hnxt] at hS2
        have hx2:(w1.setCell ⟨P+1,pos*6,none⟩ (.string ⟨#[p.shown.get! pos]⟩)).heap[B0]? = some (.stringIter p.shown (pos+1)):=by simp only [World.setCell,Array.getElem?_modify];rw [if_neg (by omega)];exact hx1
        have HS2:=lh hS2
        have HX2:=lh hx2
        have HIP:=lh hip
        have hpi:(pos:Int)<(i:Int):=by omega
        generalize p.shown.get! pos=bt at hen HS2 HX2
        clear hS hS1 hS2 hx1 hx2 hmg hnxt hit hip
        go_wp2_with (fail)
        go_roundw
        case rel=>exact⟨pos+1,by omega,HX2.out,HS2.out⟩
        case measure=>rw [HIP.out];simp [World.iterPos,HX2.out];omega
       ·obtain rfl:pos=i:=by omega
        have hnx:=fun ty=>Lib.run_next_end_at (P:=Tryz.prog) wr B0 p.shown pos ty hit (by omega)
        rw [mapR_congr pos (fun m=>if m<pos then Ce.mk ⟨#[p.shown.get! m]⟩ 0 p.a p.size o else c1) (fun m=>Ce.mk ⟨#[p.shown.get! m]⟩ 0 p.a p.size o) (fun m hm=>if_pos hm)] at hS
        have hfin:cellsP p=mapR pos fun m=>Ce.mk ⟨#[p.shown.get! m]⟩ 0 p.a p.size o:=by
         rw [HCP.out]
         exact mapR_congr _ _ _ fun m hm=>by rw [if_neg (by rw [hu];decide),ho]
        rw [←hfin] at hS
        have HS:=lh hS
        clear hS hfin hlt hit hip
        go_wp2_with (fail)
        go_ret
        exact⟨some ⟨P+1,0,none⟩,rfl,HS.out.own.low (by omega),by rw [hP];exact HS.out.bel⟩
end
section
open Go.RowKit Go.Proofs Go.Shelf
attribute [local go_sem] Oper.semAt_some
theorem wsum_le {L:List Pc} (h:∀p∈L,0≤p.wide∧p.wide≤19):0≤wsum L∧wsum L≤19*L.length:=by
 induction L with
 | nil=>exact⟨Int.le_refl _,by simp [wsum]⟩
 | cons p L ih =>
   have h1:=h p (List.mem_cons_self ..)
   have h2:=ih (fun q hq=>h q (List.mem_cons_of_mem _ hq))
   rw [wsum,List.length_cons]
   omega
theorem cellsF_cons (L:List Pc) (i:Nat) (t:List Int) (p:Pc) (h:L[i]? = some p):cellsF L ((i:Int)::t)=(if 0<p.wide then cellsP p else [])++cellsF L t:=by
 have hg:L.getD i default=p:=by rw [List.getD_eq_getElem?_getD,h];rfl
 rw [cellsF,Int.toNat_natCast,hg]
theorem ce_one (l:List Ce):∀u∈l.flatMap ceE.enc,u.oneCell'=true:=fun u hu=>by
 obtain⟨c,_,hc⟩:=List.mem_flatMap.1 hu
 simp only [ceE,List.mem_cons,List.not_mem_nil,or_false] at hc
 rcases hc with rfl | rfl | rfl | rfl | rfl | rfl <;> rfl
theorem two_boxes (w:World) (o1 o2:Obj):((w.alloc o1).alloc o2).heap[w.heap.size]? = some o1∧((w.alloc o1).alloc o2).heap[w.heap.size+1]? = some o2∧Below w.heap.size w ((w.alloc o1).alloc o2)∧((w.alloc o1).alloc o2).heap.size=w.heap.size+2:=by
 obtain⟨h1,h2,h3⟩:=two_alloc w o1 o2
 exact⟨h1,h2,h3,by rw [World.size_alloc,World.size_alloc]⟩
set_option maxRecDepth 100000 in
set_option maxHeartbeats 2000000 in
theorem Cells_any (s:ByteArray) (hs:s.size≤2097152) (ra rl lev rwd fin tab want:Int) (wideA join raw:Bool) (w:World) (hT:T8 w) (hD:DB w) (hlv:∀p∈lay2 s want join raw ra rl,p.level<256)
 (hgood:∀p∈layL s tab want wideA join raw ra rl rwd,GoodP p) :
 Calls Tryz.prog 12 #[.string s,rowA5 ra rl lev rwd fin,lookV tab want wideA join raw] w fun e w'=>∃a c,
  e=.returned (.slice a (cellsI (layI s tab want wideA join raw ra rl rwd)).length c)∧OwnS ceE 32 w' w.heap.size (.slice a (cellsI (layI s tab want wideA join raw ra rl rwd)).length c) (cellsI (layI s tab want wideA join raw ra rl rwd))∧Below w.heap.size w w':=by
 obtain⟨i5,hi5,hz5,ha5,hby5⟩:=info_parts (Tryz.info_cell)
 have hlvL:=layL_lv s tab want wideA join raw ra rl rwd hlv
 have hnL:=layL_max s tab want wideA join raw ra rl rwd hs
 have hwd:=layL_bd s tab want wideA join raw ra rl rwd
 have hsum:=lay3_sum s tab want wideA join raw ra rl rwd
 have hsl:(laySeen s want join raw ra rl).length=(layL s tab want wideA join raw ra rl rwd).length:=by unfold laySeen;rw [order_len,List.length_map,layL_len]
 have hsg:∀k,k<(layL s tab want wideA join raw ra rl rwd).length→∃j:Nat,j<(layL s tab want wideA join raw ra rl rwd).length∧(laySeen s want join raw ra rl)[k]? = some (j:Int):=fun k hk=>by
  unfold laySeen
  exact seen_get _ _ k (by rw [List.length_map,layL_len]) hk
 have HL1:=lh (fun (W:World) (h:Below w.heap.size w W)=>rLay_any s hs ra rl lev rwd fin tab want wideA join raw W (hT.below rfl h) (hD.below h) hlv)
 obtain⟨R,hR⟩:∃R,layI s tab want wideA join raw ra rl rwd=R:=⟨_,rfl⟩
 obtain⟨L,seen,fr,tt,bs,x⟩:=R
 have eL:layL s tab want wideA join raw ra rl rwd=L:=congrArg LaidR.l hR
 have es:laySeen s want join raw ra rl=seen:=congrArg LaidR.seen hR
 have ex:(lay3 s tab want wideA join raw ra rl rwd).2=x:=congrArg LaidR.wide hR
 rw [hR] at HL1 ⊢
 rw [eL] at hlvL hnL hwd hsum hsl hsg hgood
 rw [es] at hsl hsg
 rw [ex] at hsum
 obtain⟨hx0,hx1⟩:=wsum_le hwd
 rw [←hsum] at hx0 hx1
 obtain⟨xn,hxn⟩:∃xn:Nat,x=(xn:Int):=⟨x.toNat,by omega⟩
 subst hxn
 obtain⟨n,hn⟩:∃n,L.length=n:=⟨_,rfl⟩
 have hcI:cellsI ⟨L,seen,fr,tt,bs,(xn:Int)⟩=cellsF L seen:=rfl
 rw [hcI]
 have HLV:=lh hlvL
 have HWD:=lh hwd
 have HSG:=lh hsg
 have HGD:=lh hgood
 clear hsum hcI hR eL es ex hlvL hwd hsg hgood hlv hT hD
 go_enter Tryz.func12,Tryz.ntmps12
 unfold rowA5
 go_upto_region 1 with (fail)
 obtain⟨h0,h1,hb1,hs1⟩:=two_boxes w (.cells #[.int .i64 ra,.int .i64 rl,.int .u8 lev,.int .i64 rwd,.int .i8 fin] 24) (.cells #[.int .i64 tab,.bool wideA,.int .i8 want,.bool join,.bool raw] 26)
 generalize (w.alloc (.cells #[.int .i64 ra,.int .i64 rl,.int .u8 lev,.int .i64 rwd,.int .i8 fin] 24)).alloc (.cells #[.int .i64 tab,.bool wideA,.int .i8 want,.bool join,.bool raw] 26)=W1 at h0 h1 hb1 hs1 ⊢
 obtain⟨B,hB⟩:∃B,w.heap.size=B:=⟨_,rfl⟩
 have HB1:=lh hb1
 have HLA:=lh (HL1.out W1 hb1)
 rw [hB] at h0 h1 hs1 ⊢
 have b0:W1.cell? ⟨B,0,none⟩=some (.int .i64 ra):=by simp [World.cell?,h0]
 have b1:W1.cell? ⟨B,1,none⟩=some (.int .i64 rl):=by simp [World.cell?,h0]
 have b2:W1.cell? ⟨B,2,none⟩=some (.int .u8 lev):=by simp [World.cell?,h0]
 have b3:W1.cell? ⟨B,3,none⟩=some (.int .i64 rwd):=by simp [World.cell?,h0]
 have b4:W1.cell? ⟨B,4,none⟩=some (.int .i8 fin):=by simp [World.cell?,h0]
 have l0:W1.cell? ⟨B+1,0,none⟩=some (.int .i64 tab):=by simp [World.cell?,h1]
 have l1:W1.cell? ⟨B+1,1,none⟩=some (.bool wideA):=by simp [World.cell?,h1]
 have l2:W1.cell? ⟨B+1,2,none⟩=some (.int .i8 want):=by simp [World.cell?,h1]
 have l3:W1.cell? ⟨B+1,3,none⟩=some (.bool join):=by simp [World.cell?,h1]
 have l4:W1.cell? ⟨B+1,4,none⟩=some (.bool raw):=by simp [World.cell?,h1]
 clear h0 h1 hb1 HL1
 unfold rowA5 at HLA
 go_upto_region 2 with (go_at_call 33;refine HLA.out.mono ?_;rintro e w2 ⟨b,rfl,hL2,hb2,hbl2⟩)
 have HB2:=lh (HB1.out.trans (hbl2.mono (by omega)))
 clear b0 b1 b2 b3 b4 l0 l1 l2 l3 l4 hbl2 HLA
 obtain⟨la,lcap,va,vc,g1,g2,g3⟩:=hL2
 dsimp only at g1 g2 g3
 have d5:=g1.cells.2.2.2.2.2
 have hbl:=g1.lt
 obtain⟨W8,hmk,hown8,hg8⟩:=run_make_own (P:=Tryz.prog) w2 w2.heap.size 27 32 i5 _ 6 Tryz.underlying27 hi5 hz5 ha5 .i64 .i64 xn (by rw [hby5];omega) (by unfold maxLen;omega) (Nat.le_refl _)
 have hb8:Below w2.heap.size w2 W8:=(Below.refl w2.heap.size w2).grown hg8 (Nat.le_refl _) (fun k hk=>by cases hk)
 have H1:=lh g1
 have H2:=lh g2
 have H3:=lh g3
 obtain⟨ob0,hob0⟩:∃ob0,w2.heap.size=ob0:=⟨_,rfl⟩
 have HB8:=lh hb8
 rw [hob0] at hown8 hmk
 have HO8:=lh hown8
 clear g1 g2 g3 hown8 hg8 hb8
 go_upto_region 3 with (fail)
 clear d5 hmk
 have d1:=(H1.out.below HB8.out hbl).cells.2.1
 rw [hsl,hn] at d1
 go_upto_block 0 with (fail)
 clear d1
 have hb8n:=HB8.out.size
 go_wp2_with (fail)
 go_loopw [8,10,25] (fun u8 _ u25 wx=>∃(k:Nat) (done:List Ce) (a:Option Addr) (c:Nat),k≤n∧u25=.int .i64 k∧u8=.slice a done.length c∧done.length≤19*k∧OwnS ceE 32 wx ob0 (.slice a done.length c) done ∧
  Below ob0 w2 wx∧cellsF L seen=done++cellsF L (seen.drop k)) (fun _ _ u25 _=>n-(intOf u25).toNat)
 case atStart=>exact⟨0,[],some ⟨ob0,0,none⟩,xn,Nat.zero_le _,rfl,rfl,Nat.le_refl _,HO8.out,hob0▸HB8.out,by rw [List.drop_zero];rfl⟩
 case round =>
  obtain⟨k,done,a,c,hk,rfl,rfl,hdn,hO,hb,hcf⟩:=hrel
  have hbw:Below w2.heap.size w2 wr:=hob0▸hb
  have g1:=H1.out.below hbw hbl
  have g2:=H2.out.keep hbw
  have g3:=H3.out.below hbw
  have HO:=lh hO
  have HB:=lh hb
  have HCF:=lh hcf
  have hobr:ob0≤wr.heap.size:=by have:=hb.size;omega
  clear hO hb hcf HO8 hbw
  by_cases hlt:k<n
  ·obtain⟨j,hj,hsj⟩:=HSG.out k (by omega)
   obtain⟨p,hp⟩:∃p,L[j]? = some p:=⟨_,List.getElem?_eq_getElem (by omega)⟩
   have hpm:=List.mem_of_getElem? hp
   have hpw:=HWD.out p hpm
   have hpl:=HLV.out p hpm
   have hpg:=HGD.out p hpm
   have hds:seen.drop k=(j:Int)::seen.drop (k+1):=dropR_cons hsj
   have hcc:cellsF L seen=done++((if 0<p.wide then cellsP p else [])++cellsF L (seen.drop (k+1))):=by rw [HCF.out,hds,cellsF_cons L j _ p hp]
   obtain⟨G,eG,hGl,y0,y1,y2,y3,y4,y5,y6,y7,y8,y9⟩:=pc_cells g2 j p hp
   subst eG
   have ys:∃sg so,va=some ⟨sg,so,none⟩∧wr.cell? ⟨sg,so+k,none⟩=some (.int .i64 (j:Int)):=by
    rcases g3 with h | ⟨g,o,e,h1,h2⟩
    ·rw [h] at hsl;simp at hsl;omega
    ·have:=h2 k (by omega)
     refine⟨g,o,e,this.trans ?_⟩
     unfold ith
     rw [List.getD_eq_getElem?_getD,hsj]
     rfl
   obtain⟨sg,so,eva,ys⟩:=ys
   subst eva
   have d0:=g1.cells.1
   rw [hn] at d0
   have hnk:(k:Int)<(n:Int):=by omega
   have hjn:(j:Int)<(n:Int):=by omega
   have HCC:=lh hcc
   clear g1 g2 g3 hcc hds hsj hp hpm
   by_cases hw0:0<p.wide
   ·obtain⟨m,hm⟩:∃m:Nat,p.wide=m:=⟨p.wide.toNat,by omega⟩
    have hpc:=fun W=>pCells_any p m hm (by omega) (by omega) (by
     rcases (hpg hw0).2 with h | h
     ·exact .inl h
     ·exact .inr ⟨h.1,by have:=h.2;omega⟩) hpl W
    rw [hm] at hpc
    have HPC:=lh hpc
    have hcl:(cellsP p).length=m:=by rw [cellsP_len,hm];rfl
    rw [if_pos hw0] at HCC
    have hd2:done.length≤39845888:=by omega
    rw [hm] at y7 hw0
    clear hpc hpg
    go_wp2_with (first
     | (go_at_call 34;refine (HPC.out _).mono ?_;rintro e w5 ⟨pa,rfl,ho5,hb5⟩)
     | (at_builtin
        have hdp:=own_cells (xs:=(cellsP p).flatMap ceE.enc) (n:=m) (by unfold OwnS at ho5;rw [hcl] at ho5;exact ho5) (by omega)
        obtain⟨G5,eG5,hG5,_,hc5⟩:=hdp
        subst eG5
        refine wpList_append_own_at _ rfl _ _ 27 rfl ob0 32 i5 _ 6 48 Tryz.underlying27 hi5 hz5 ha5 hby5 rfl (by decide) _ done.length _ rfl (HO.out.keep hb5) ⟨G5,0,none⟩ m m ((cellsP p).flatMap ceE.enc) rfl (by rw [flatS_len,hcl];rfl) (fun j u hu=>by rw [Addr.add_lit,Nat.zero_add,hc5 j (by have:=(List.getElem?_eq_some_iff.1 hu).1;rw [flatS_len,hcl] at this;exact this)];exact hu) (ce_one _) (by unfold maxLen;omega) (by omega) (Nat.le_trans hobr hb5.size) ?_
        intro v' w6 ho6 hg6 _ _))
    replace hg6:w5.grownBy w6 (Value.slice a done.length c).ownBlock:=hg6
    have hol:=World.ownsRow.lt HO.out
    have hb6:Below ob0 wr w6:=(hb5.mono hobr).grown hg6 (Nat.le_trans hobr hb5.size) (fun q hq=>(hol q hq).1)
    obtain⟨a',c',hv',_,_⟩:=own_slice ho6
    subst hv'
    have ho6':OwnS ceE 32 w6 ob0 (.slice a' (done++cellsP p).length c') (done++cellsP p):=by
     unfold OwnS
     rw [List.length_append,hcl,List.flatMap_append]
     exact ho6
    go_roundw
    case rel=>exact⟨k+1,done++cellsP p,a',c',by omega,by go_num,by rw [List.length_append,hcl],by rw [List.length_append,hcl];omega,ho6',HB.out.trans hb6,by rw [HCC.out,List.append_assoc]⟩
    case measure=>simp [intOf];omega
   ·rw [if_neg hw0,List.nil_append] at HCC
    go_wp2_with (fail)
    go_roundw
    case rel=>exact⟨k+1,done,a,c,by omega,by go_num,rfl,by omega,HO.out,HB.out,HCC.out⟩
    case measure=>simp [intOf];omega
  ·obtain rfl:k=n:=by omega
   have hfin:cellsF L seen=done:=by rw [HCF.out,List.drop_eq_nil_of_le (by omega)];exact List.append_nil _
   rw [←hfin] at HO
   have hB0:w.heap.size≤ob0:=by have:=HB2.out.size;omega
   clear g1 g2 g3 hlt HCF
   go_wp2_with (fail)
   go_ret
   exact⟨a,c,by rw [hfin];rfl,HO.out.low (by omega),HB2.out.trans (HB.out.mono hB0)⟩
end
section
open Go.RowKit Go.Proofs Go.Shelf
attribute [local go_sem] Oper.semAt_some
theorem two_size:(Tryz.prog.info? 59).map (·.size)=some 2:=by kernel_rfl
set_option maxRecDepth 100000 in
theorem sorted_any (f t n:Int) (w:World) :
 Calls Tryz.prog 44 #[.int .i64 f,.int .i64 t,.int .i64 n] w fun e w'=>e=.returned (.agg #[.int .i64 (loI f t n),.int .i64 (hiI f t n)])∧Below w.heap.size w w':=by
 obtain⟨a,ha⟩:∃a,max 0 (min f n)=a:=⟨_,rfl⟩
 obtain⟨b,hb⟩:∃b,max 0 (min t n)=b:=⟨_,rfl⟩
 have hlo:loI f t n=min a b:=by unfold loI;rw [ha,hb]
 have hhi:hiI f t n=max a b:=by unfold hiI;rw [ha,hb]
 rw [hlo,hhi]
 clear hlo hhi
 go_enter Tryz.func44,Tryz.ntmps44
 go_upto_region 2 with (fail)
 clear ha hb
 obtain⟨e1,e2,e3⟩:=two_alloc w (.cells #[.int .i64 0,.int .i64 0] 59 (0,0)) (.cells #[.int .i64 a,.int .i64 b] 59 (0,0))
 generalize (w.alloc (.cells #[.int .i64 0,.int .i64 0] 59)).alloc (.cells #[.int .i64 a,.int .i64 b] 59)=W1 at e1 e2 e3 ⊢
 obtain⟨B,hB⟩:∃B,w.heap.size=B:=⟨_,rfl⟩
 have HW:=lh e3
 rw [hB] at e1 e2 ⊢
 have x0:W1.cell? ⟨B+1,0,none⟩=some (.int .i64 a):=by simp [World.cell?,e2]
 have x1:W1.cell? ⟨B+1,1,none⟩=some (.int .i64 b):=by simp [World.cell?,e2]
 have ff:∀j,W1.frozen? ⟨B+1,j,none⟩=false:=fun j=>by simp [World.frozen?,e2]
 have key:∀{X:World} (k j:Nat) (v:Value),B≤k→Below w.heap.size w X→Below w.heap.size w (X.setCell ⟨k,j,none⟩ v):=fun k j v hk hX=>hX.setCell (p:=⟨k,j,none⟩) (hB▸hk) v
 have E1:=lh e1
 have E2:=lh e2
 by_cases hab:b<a
 ·have hd:decide (b<a)=true:=decide_eq_true hab
  have f0:=ff 0
  have f1:=ff 1
  have y2:((W1.setCell ⟨B+1,0,none⟩ (.int .i64 b)).setCell ⟨B+1,1,none⟩ (.int .i64 a)).heap[B+1]? = some (.cells #[.int .i64 b,.int .i64 a] 59 (0,0)):=set_at (i:=1) (set_at (i:=0) E2.out (.int .i64 b)) (.int .i64 a)
  have y1:((W1.setCell ⟨B+1,0,none⟩ (.int .i64 b)).setCell ⟨B+1,1,none⟩ (.int .i64 a)).heap[B]? = some (.cells #[.int .i64 0,.int .i64 0] 59 (0,0)):=box_other (box_other E1.out (by omega)) (by omega)
  have hb5:=key (B+1) 1 (.int .i64 a) (Nat.le_succ _) (key (B+1) 0 (.int .i64 b) (Nat.le_succ _) HW.out)
  have Y1:=lh y1
  have Y2:=lh y2
  have HB5:=lh hb5
  clear e1 e2 e3 y1 y2 hb5 ff
  go_upto_region 4 with (fail)
  clear x0 x1 f0 f1
  generalize (W1.setCell ⟨B+1,0,none⟩ (.int .i64 b)).setCell ⟨B+1,1,none⟩ (.int .i64 a)=W5 at Y1 Y2 HB5 ⊢
  have g1:=Y1.out
  have g2:=Y2.out
  have x0:W5.cell? ⟨B+1,0,none⟩=some (.int .i64 b):=by simp [World.cell?,g2]
  have x1:W5.cell? ⟨B+1,1,none⟩=some (.int .i64 a):=by simp [World.cell?,g2]
  have z0:W5.cell? ⟨B,0,none⟩=some (.int .i64 0):=by simp [World.cell?,g1]
  have z1:W5.cell? ⟨B,1,none⟩=some (.int .i64 0):=by simp [World.cell?,g1]
  have f0:W5.frozen? ⟨B,0,none⟩=false:=by simp [World.frozen?,g1]
  have f1:W5.frozen? ⟨B,1,none⟩=false:=by simp [World.frozen?,g1]
  have hg:((W5.setCell ⟨B,0,none⟩ (.int .i64 b)).setCell ⟨B,1,none⟩ (.int .i64 a)).heap[B]? = some (.cells #[.int .i64 b,.int .i64 a] 59 (0,0)):=set_at (i:=1) (set_at (i:=0) g1 (.int .i64 b)) (.int .i64 a)
  have hb6:=key B 1 (.int .i64 a) (Nat.le_refl _) (key B 0 (.int .i64 b) (Nat.le_refl _) HB5.out)
  have HG:=lh hg
  have HB6:=lh hb6
  clear g1 g2 hg hb6 key
  go_wp2_with (fail)
  refine bodyPost_ret (results_cell_row (ty:=59) rfl _ _ B _ _ _ _ rfl HG.out Tryz.underlying59 rfl two_size) rfl ⟨?_,HB6.out⟩
  rw [show min a b=b by omega,show max a b=a by omega]
 ·have hd:decide (b<a)=false:=decide_eq_false hab
  have z0:W1.cell? ⟨B,0,none⟩=some (.int .i64 0):=by simp [World.cell?,e1]
  have z1:W1.cell? ⟨B,1,none⟩=some (.int .i64 0):=by simp [World.cell?,e1]
  have f0:W1.frozen? ⟨B,0,none⟩=false:=by simp [World.frozen?,e1]
  have f1:W1.frozen? ⟨B,1,none⟩=false:=by simp [World.frozen?,e1]
  have hg:((W1.setCell ⟨B,0,none⟩ (.int .i64 a)).setCell ⟨B,1,none⟩ (.int .i64 b)).heap[B]? = some (.cells #[.int .i64 a,.int .i64 b] 59 (0,0)):=set_at (i:=1) (set_at (i:=0) e1 (.int .i64 a)) (.int .i64 b)
  have hb6:=key B 1 (.int .i64 b) (Nat.le_refl _) (key B 0 (.int .i64 a) (Nat.le_refl _) HW.out)
  have HG:=lh hg
  have HB6:=lh hb6
  clear e1 e2 e3 hg hb6 key ff
  go_wp2_with (fail)
  refine bodyPost_ret (results_cell_row (ty:=59) rfl _ _ B _ _ _ _ rfl HG.out Tryz.underlying59 rfl two_size) rfl ⟨?_,hB▸HB6.out⟩
  rw [show min a b=a by omega,show max a b=b by omega]
end
end Go.Proofs.YtlbclfmbejjneaaGreatDoor
