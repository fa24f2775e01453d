/- Part 41 (merged by a program): lemmas of no further condition than each states. -/
import Derived.Test.YtlmjbfncopbilaaGreatDoorK37
namespace Go.Proofs.YtlmjbfncopbilaaGreatDoor
set_option linter.unusedVariables false
set_option linter.unusedSimpArgs false
section
open Go.RowKit Go.Proofs Go.Shelf
attribute [local go_sem] Oper.semAt_some
theorem LaidW.drewN {W:World} {b:Nat} {R:LaidR} (h:LaidW W b R) (n:Nat):LaidW (W.drewN n) b R:=by
 obtain⟨la,lcap,va,vc,h1,h2,h3⟩:=h
 exact⟨la,lcap,va,vc,h1,h2,h3⟩
theorem baseR_lt (s:ByteArray) (want:Int) (raw:Bool):baseR s want raw<256:=by
 unfold baseR
 split
 ·decide
 ·unfold visualI
  rcases baseF_bd want (((runesI s).map dirI).length+1) ((runesI s).map dirI) with h | h <;> (unfold baseI;dsimp only;omega)
theorem layL_lv (s:ByteArray) (tab want:Int) (wideA join raw:Bool) (ra rl rw:Int) (h:∀p∈lay2 s want join raw ra rl,p.level<256):∀p∈layL s tab want wideA join raw ra rl rw,p.level<256:=fun p hp=>by
 obtain⟨q,hq,e⟩:=mem_map_eq (layL_map (fun p=>p.level) (fun _ _ _=>rfl) (fun _ _ _=>rfl) s tab want wideA join raw ra rl rw) hp
 rw [←e]
 exact h q hq
theorem layL_max (s:ByteArray) (tab want:Int) (wideA join raw:Bool) (ra rl rw:Int) (hs:s.size≤2097152):(layL s tab want wideA join raw ra rl rw).length≤2097152:=by
 rw [layL_len,lay2_len]
 have:=(found_facts s ra rl).2.2.1
 omega
theorem left_in (c:Int) (L:List Pc) (k:Nat) (p:Pc) (h:L[k]? = some p) (hc:((p.a+p.size:Nat):Int)≤c):leftF c (L.drop k)=leftF c (L.drop (k+1))+1:=by
 rw [dropR_cons h,leftF,if_pos hc]
theorem left_out (c:Int) (L:List Pc) (k:Nat) (p:Pc) (h:L[k]? = some p) (hc:¬ ((p.a+p.size:Nat):Int)≤c):leftF c (L.drop k)=0:=by
 rw [dropR_cons h,leftF,if_neg hc]
theorem lay_sizes (s:ByteArray) (hs:s.size≤2097152) (tab want:Int) (wideA join raw:Bool) (ra rl rw:Int):∀p∈layL s tab want wideA join raw ra rl rw,p.a+p.size≤2097152:=fun p hp=>by
 obtain⟨q,hq,e⟩:=mem_map_eq (layL_map (fun p=>(p.a,p.size)) (fun _ _ _=>rfl) (fun _ _ _=>rfl) s tab want wideA join raw ra rl rw) hp
 obtain⟨j,hj⟩:=List.mem_iff_getElem?.1 hq
 have:=(lay2_get s hs want join raw ra rl j q hj).1
 simp only [Prod.mk.injEq] at e
 omega
set_option maxRecDepth 100000 in
set_option maxHeartbeats 2000000 in
theorem Place_any (s:ByteArray) (hs:s.size≤2097152) (ra rl lev rwd fin tab want:Int) (wideA join raw:Bool) (c cx:Int) (back:Bool) (w:World) (hT:T8 w) (hD:DB w) (hlv:∀p∈lay2 s want join raw ra rl,p.level<256) :
 Calls Tryz.prog 15 #[.string s,rowA5 ra rl lev rwd fin,lookV tab want wideA join raw,.agg #[.int .i64 c,.bool back,.int .i64 cx]] w fun e w' =>
  e=.returned (.int .i64 (placeI (layI s tab want wideA join raw ra rl rwd) c back))∧Below w.heap.size w w':=by
 have hbase:=baseR_lt s want raw
 have hlvL:=layL_lv s tab want wideA join raw ra rl rwd hlv
 have hnL:=layL_max s tab want wideA join raw ra rl rwd hs
 have hsz:=lay_sizes s hs tab want wideA join raw ra rl rwd
 have HLA:=lh (fun (W:World) (h:Below w.heap.size w W)=>rLay_any s hs ra rl lev rwd fin tab want wideA join raw W (hT.below rfl h) (hD.below h) hlv)
 obtain⟨R,hR⟩:∃R,layI s tab want wideA join raw ra rl rwd=R:=⟨_,rfl⟩
 obtain⟨L,seen,fr,tt,bs,x⟩:=R
 have eL:layL s tab want wideA join raw ra rl rwd=L:=congrArg LaidR.l hR
 have eb:baseR s want raw=bs:=congrArg LaidR.base hR
 rw [hR] at HLA ⊢
 rw [eL] at hlvL hnL hsz
 rw [eb] at hbase
 have HLV:=lh hlvL
 have HSZ:=lh hsz
 clear hR eL eb hlvL hsz hlv hT hD
 go_enter Tryz.func15,Tryz.ntmps15
 unfold rowA5
 go_upto_region 1 with (fail)
 obtain⟨h0,h1,h2,hb1,hs1⟩:=three_alloc w (.cells #[.int .i64 ra,.int .i64 rl,.int .u8 lev,.int .i64 rwd,.int .i8 fin] 24) (.cells #[.int .i64 tab,.bool wideA,.int .i8 want,.bool join,.bool raw] 26) (.cells #[.int .i64 c,.bool back,.int .i64 cx] 33)
 generalize ((w.alloc (.cells #[.int .i64 ra,.int .i64 rl,.int .u8 lev,.int .i64 rwd,.int .i8 fin] 24)).alloc (.cells #[.int .i64 tab,.bool wideA,.int .i8 want,.bool join,.bool raw] 26)).alloc (.cells #[.int .i64 c,.bool back,.int .i64 cx] 33)=W1 at h0 h1 h2 hb1 hs1 ⊢
 obtain⟨B,hB⟩:∃B,w.heap.size=B:=⟨_,rfl⟩
 have HB1:=lh hb1
 rw [hB] at h0 h1 h2 hs1 ⊢
 rw [show B+1+1=B+2 from rfl]
 have b0:W1.cell? ⟨B,0,none⟩=some (.int .i64 ra):=by simp [World.cell?,h0]
 have b1:W1.cell? ⟨B,1,none⟩=some (.int .i64 rl):=by simp [World.cell?,h0]
 have b2:W1.cell? ⟨B,2,none⟩=some (.int .u8 lev):=by simp [World.cell?,h0]
 have b3:W1.cell? ⟨B,3,none⟩=some (.int .i64 rwd):=by simp [World.cell?,h0]
 have b4:W1.cell? ⟨B,4,none⟩=some (.int .i8 fin):=by simp [World.cell?,h0]
 have l0:W1.cell? ⟨B+1,0,none⟩=some (.int .i64 tab):=by simp [World.cell?,h1]
 have l1:W1.cell? ⟨B+1,1,none⟩=some (.bool wideA):=by simp [World.cell?,h1]
 have l2:W1.cell? ⟨B+1,2,none⟩=some (.int .i8 want):=by simp [World.cell?,h1]
 have l3:W1.cell? ⟨B+1,3,none⟩=some (.bool join):=by simp [World.cell?,h1]
 have l4:W1.cell? ⟨B+1,4,none⟩=some (.bool raw):=by simp [World.cell?,h1]
 have HX2:=lh h2
 have HL1:=lh (HLA.out W1 hb1)
 clear h0 h1 h2 hb1 HLA
 unfold rowA5 at HL1
 go_upto_region 2 with (go_at_call 46;refine HL1.out.mono ?_;rintro e w2 ⟨b,rfl,hL2,hb2,hbl2⟩)
 have hx2:=(hbl2.block (B+2) (by omega)).trans HX2.out
 have HB2:=lh (HB1.out.trans (hbl2.mono (by omega)))
 have HX:=lh hx2
 have HL2:=lh hL2
 have hB2:B+2<w2.heap.size:=(Array.getElem?_eq_some_iff.1 hx2).1
 clear b0 b1 b2 b3 b4 l0 l1 l2 l3 l4 hx2 hL2 hbl2 HL1 HX2
 go_upto_block 0 with (fail)
 obtain⟨n,hn⟩:∃n,L.length=n:=⟨_,rfl⟩
 go_cut [10] (fun u wx=>u=.int .i64 (leftF c L:Nat)∧LaidW wx b ⟨L,seen,fr,tt,bs,x⟩∧Below w2.heap.size w2 wx)
 case first =>
  go_wp2_with (fail)
  go_loopw [10] (fun u wx=>∃k:Nat,k≤n∧u=.int .i64 k∧leftF c L=k+leftF c (L.drop k)∧LaidW wx b ⟨L,seen,fr,tt,bs,x⟩∧Below w2.heap.size w2 wx) (fun u _=>n-(intOf u).toNat)
  case atStart=>exact⟨0,Nat.zero_le _,rfl,by rw [List.drop_zero];omega,HL2.out,Below.refl _ _⟩
  case round =>
   obtain⟨k,hk,rfl,hlf,hLr,hbr⟩:=hrel
   obtain⟨la,lcap,va,vc,g1,g2,g3⟩:=hLr
   dsimp only at g1 g2 g3
   have d0:=g1.cells.1
   rw [hn] at d0
   have HBR:=lh hbr
   have hc0:wr.cell? ⟨B+2,0,none⟩=some (.int .i64 c):=by simp [World.cell?,(hbr.block (B+2) hB2).trans HX.out]
   have HLR:Hid (LaidW wr b ⟨L,seen,fr,tt,bs,x⟩):=lh ⟨la,lcap,va,vc,g1,g2,g3⟩
   have HLF:=lh hlf
   by_cases hlt:k<n
   ·obtain⟨p,hp⟩:∃p,L[k]? = some p:=⟨_,List.getElem?_eq_getElem (by omega)⟩
    obtain⟨G,eG,hGl,y0,y1,_⟩:=pc_cells g2 k p hp
    subst eG
    have hps:=HSZ.out p (List.mem_of_getElem? hp)
    have hws:IntKind.i64.wrap ((p.a:Int)+(p.size:Int))=(p.a:Int)+(p.size:Int):=by rw [IntKind.wrap_i64];omega
    have hwk:IntKind.i64.wrap ((k:Int)+1)=(k:Int)+1:=by rw [IntKind.wrap_i64];omega
    have hd1:decide ((k:Int)<(n:Int))=true:=decide_eq_true (by omega)
    have HP:=lh hp
    clear g1 g2 g3 hbr hlf hp HL2
    by_cases hle:(p.a:Int)+(p.size:Int)≤c
    ·have hd2:decide ((p.a:Int)+(p.size:Int)≤c)=true:=decide_eq_true hle
     go_upto_region 3 with (fail)
     go_quiet (fail)
     go_wp2_with (fail)
     go_roundw
     case rel=>exact⟨k+1,by omega,by go_num,by rw [HLF.out,left_in c L k p HP.out (by omega)];omega,HLR.out.drewN _,bl_drewN HBR.out _⟩
     case measure=>simp [intOf];omega
    ·have hd2:decide ((p.a:Int)+(p.size:Int)≤c)=false:=decide_eq_false hle
     go_upto_region 3 with (fail)
     go_quiet (fail)
     go_wp2_with (fail)
     go_meet
     exact⟨by rw [HLF.out,left_out c L k p HP.out (by omega)];rfl,HLR.out.drewN _,bl_drewN HBR.out _⟩
   ·obtain rfl:k=n:=by omega
    have hd1:decide ((k:Int)<(k:Int))=false:=by simp
    have hlz:leftF c L=k:=by rw [HLF.out,List.drop_eq_nil_of_le (by omega)];rfl
    clear g1 g2 g3 hbr hlf HL2
    go_upto_region 3 with (fail)
    go_quiet (fail)
    go_wp2_with (fail)
    go_meet
    exact⟨by rw [hlz],HLR.out.drewN _,bl_drewN HBR.out _⟩
 case rest =>
  obtain⟨rfl,hLc,hbc⟩:=hcut
  have hxc:=(hbc.block (B+2) hB2).trans HX.out
  have hc1:wc.cell? ⟨B+2,1,none⟩=some (.bool back):=by simp [World.cell?,hxc]
  have HED:=lh (rEdge_any b _ (leftF c L) back wc hLc (leftF_le c L) hbase HLV.out hnL)
  have HBC:=lh (HB2.out.trans (hbc.mono HB2.out.size))
  clear hLc hbc hxc
  go_wp2_with (go_at_call 52;refine HED.out.mono ?_;rintro e w3 ⟨rfl,hb3⟩)
  go_ret
  exact⟨rfl,HBC.out.trans (hb3.mono HBC.out.size)⟩
end
section
open Go.RowKit Go.Proofs Go.Shelf
def mapR {α:Type} (n:Nat) (f:Nat→α):List α:=(List.range n).map f
theorem mapR_len {α:Type} (n:Nat) (f:Nat→α):(mapR n f).length=n:=by unfold mapR;simp
theorem mapR_get {α:Type} (n:Nat) (f:Nat→α) (i:Nat) (h:i<n):(mapR n f)[i]? = some (f i):=by
 unfold mapR
 rw [List.getElem?_map,List.getElem?_range h]
 rfl
theorem mapR_set {α:Type} (n:Nat) (f g:Nat→α) (i:Nat) (v:α) (h:∀j,j<n→g j=if j=i then v else f j):(mapR n f).set i v=mapR n g:=by
 apply List.ext_getElem?
 intro j
 rw [List.getElem?_set,mapR_len]
 by_cases hj:j<n
 ·rw [mapR_get _ _ _ hj,mapR_get _ _ _ hj,h j hj]
  by_cases e:i=j
  ·subst e
   rw [if_pos rfl,if_pos hj,if_pos rfl]
  ·rw [if_neg e,if_neg (fun h=>e h.symm)]
 ·unfold mapR
  rw [List.getElem?_eq_none (by simp;omega),List.getElem?_eq_none (by simp;omega)]
  split
  ·rw [if_neg (by omega)]
  ·rfl
theorem mapR_congr {α:Type} (n:Nat) (f g:Nat→α) (h:∀j,j<n→f j=g j):mapR n f=mapR n g:=by
 unfold mapR
 exact List.map_congr_left fun j hj=>h j (List.mem_range.1 hj)
section
variable {α:Type} (E:Enc α)
theorem made_list (x:α) (hk:0<E.k):∀n:Nat,(madeCells (E.enc x).toArray (n*E.k)).toList=(mapR n (fun _=>x)).flatMap E.enc:=by
 intro n
 apply List.ext_getElem?
 intro m
 have hlen:((mapR n (fun _=>x)).flatMap E.enc).length=n*E.k:=by
  rw [flatS_len,mapR_len]
 by_cases hm:m<n*E.k
 ·have hi:m / E.k<n:=Nat.div_lt_of_lt_mul (by rw [Nat.mul_comm];exact hm)
  have hj:m % E.k<E.k:=Nat.mod_lt _ hk
  have hjl:m % E.k<(E.enc x).length:=by rw [E.len];exact hj
  have h2:=flatS_get E (mapR n fun _=>x) (m / E.k) x (mapR_get n _ _ hi) (m % E.k) _ (List.getElem?_eq_getElem hjl)
  rw [show m / E.k*E.k+m % E.k=m by rw [Nat.mul_comm];exact Nat.div_add_mod m E.k] at h2
  rw [h2]
  unfold madeCells
  rw [Array.getElem?_toList,Array.getElem?_map,Array.getElem?_range,if_pos hm]
  simp only [Option.map_some,List.size_toArray,E.len]
  congr 1
  have:((E.enc x).toArray)[m % E.k]! = (E.enc x)[m % E.k]:=by
   rw [getElem!_pos _ _ (by simpa using hjl)]
   simp
  exact this
 ·have h1:(madeCells (E.enc x).toArray (n*E.k)).toList[m]? = none:=List.getElem?_eq_none (by rw [Array.length_toList,size_madeCells];omega)
  have h2:((mapR n (fun _=>x)).flatMap E.enc)[m]? = none:=List.getElem?_eq_none (by rw [hlen];omega)
  exact h1.trans h2.symm
theorem made_own (e:Nat) (W:World) (x:α) (hk:0<E.k) (n:Nat) (hn:n≤maxLen) :
 OwnS E e (W.alloc (.cells (madeCells (E.enc x).toArray (n*E.k)) e)) W.heap.size (.slice (some ⟨W.heap.size,0,none⟩) n n) (mapR n fun _=>x):=by
 unfold OwnS World.ownsRow
 rw [mapR_len]
 refine⟨by rw [flatS_len,mapR_len],.inr ⟨W.heap.size,n,_,rfl,Nat.le_refl _,World.alloc_heap_new W _,Nat.le_refl _,hn,size_madeCells _ _,?_⟩⟩
 rw [made_list E x hk n,List.take_of_length_le (by rw [flatS_len,mapR_len];exact Nat.le_refl _)]
end
theorem bytes_beq (x y:ByteArray):(x.toList==y.toList)=decide (x=y):=by
 rw [Bool.eq_iff_iff,beq_iff_eq,ByteArray.toList_eq,ByteArray.toList_eq,decide_eq_true_iff]
 exact⟨fun h=>ByteArray.ext (Array.toList_inj.mp h),fun h=>by rw [h]⟩
def ceE:Enc Ce:=⟨fun c=>[.string c.text,.int .i8 c.part,.int .i64 c.a,.int .i64 c.len,.bool c.right,.int .u16 0],6,fun _=>rfl⟩
def ce0:Ce:=⟨⟨#[]⟩,0,0,0,false⟩
theorem Tryz.info_cell:(Tryz.prog.info? 124).map (fun i=>(i.zero,i.size,i.bytes))=some (some (.agg #[.string ⟨#[]⟩,.int .i8 0,.int .i64 0,.int .i64 0,.bool false,.int .u16 0]),6,48):=by kernel_rfl
end
section
open Go.RowKit Go.Proofs Go.Shelf
attribute [local go_sem] Oper.semAt_some
structure PcS (w:World) (P n:Nat) (p:Pc) (M:List Ce) (W:World):Prop where
 box:W.heap[P]? = some (.cells #[.int .i64 p.a,.int .i64 p.size,.int .i64 p.c0,.int .i64 p.c1,.int .u8 p.level,.string p.became,.string p.shown,.int .i64 n,.int .i64 p.e0,.int .i64 p.e1] 98 (0,0))
 own:OwnS ceE 124 W (P+1) (.slice (some ⟨P+1,0,none⟩) n n) M
 bel:Below P w W
section
variable {w W W':World} {P n:Nat} {p:Pc} {M:List Ce}
theorem PcS.below (h:PcS w P n p M W) (hb:Below W.heap.size W W'):PcS w P n p M W':=by
 have hP:=(Array.getElem?_eq_some_iff.1 h.box).1
 exact⟨(hb.block P hP).trans h.box,h.own.keep hb,h.bel.trans (hb.mono (Nat.le_of_lt hP))⟩
theorem PcS.drew (h:PcS w P n p M W):PcS w P n p M W.drew:=⟨h.box,h.own,h.bel.drew⟩
theorem PcS.cells (h:PcS w P n p M W):W.cell? ⟨P,0,none⟩=some (.int .i64 p.a)∧W.cell? ⟨P,1,none⟩=some (.int .i64 p.size)∧W.cell? ⟨P,2,none⟩=some (.int .i64 p.c0)∧W.cell? ⟨P,3,none⟩=some (.int .i64 p.c1)∧W.cell? ⟨P,4,none⟩=some (.int .u8 p.level) ∧
 W.cell? ⟨P,5,none⟩=some (.string p.became)∧W.cell? ⟨P,6,none⟩=some (.string p.shown)∧W.cell? ⟨P,7,none⟩=some (.int .i64 n)∧W.cell? ⟨P,8,none⟩=some (.int .i64 p.e0)∧W.cell? ⟨P,9,none⟩=some (.int .i64 p.e1):=by
 have hb:=h.box
 refine⟨?_,?_,?_,?_,?_,?_,?_,?_,?_,?_⟩ <;> simp [World.cell?,hb]
theorem PcS.row (h:PcS w P n p M W) (hn:M.length=n) (i:Nat) (x:Ce) (hx:M[i]? = some x):W.cell? ⟨P+1,i*6,none⟩=some (.string x.text)∧W.cell? ⟨P+1,i*6+1,none⟩=some (.int .i8 x.part)∧W.cell? ⟨P+1,i*6+2,none⟩=some (.int .i64 x.a)∧W.cell? ⟨P+1,i*6+3,none⟩=some (.int .i64 x.len) ∧
 W.cell? ⟨P+1,i*6+4,none⟩=some (.bool x.right)∧W.cell? ⟨P+1,i*6+5,none⟩=some (.int .u16 0)∧∀j,W.frozen? ⟨P+1,j,none⟩=false:=by
 subst hn
 obtain⟨G,eG,_,_,hc,hf⟩:=h.own.at i x hx
 cases eG
 exact⟨hc 0 _ rfl,hc 1 _ rfl,hc 2 _ rfl,hc 3 _ rfl,hc 4 _ rfl,hc 5 _ rfl,hf⟩
theorem PcS.set (h:PcS w P n p M W) (hn:M.length=n) (i:Nat) (x y:Ce) (hx:M[i]? = some x) (j:Nat) (v:Value) (hj:j<6) (hy:ceE.enc y=(ceE.enc x).set j v):PcS w P n p (M.set i y) (W.setCell ⟨P+1,i*6+j,none⟩ v):=by
 subst hn
 have h1:=OwnS.set (cap:=M.length) h.own i x y hx j v hj hy
 rw [List.length_set] at h1
 exact⟨box_other h.box (by omega),h1,h.bel.setCell (p:=⟨P+1,i*6+j,none⟩) (show P≤P+1 by omega) _⟩
theorem PcS.setAll (h:PcS w P n p M W) (hn:M.length=n) (i:Nat) (x y:Ce) (hx:M[i]? = some x):PcS w P n p (M.set i y) ((((((W.setCell ⟨P+1,i*6,none⟩ (.string y.text)).setCell ⟨P+1,i*6+1,none⟩ (.int .i8 y.part)).setCell ⟨P+1,i*6+2,none⟩ (.int .i64 y.a)).setCell ⟨P+1,i*6+3,none⟩ (.int .i64 y.len)).setCell ⟨P+1,i*6+4,none⟩ (.bool y.right)).setCell ⟨P+1,i*6+5,none⟩ (.int .u16 0)):=by
 have hil:=(List.getElem?_eq_some_iff.1 hx).1
 have hg:∀z:Ce,(M.set i z)[i]? = some z:=fun z=>by rw [List.getElem?_set];simp [hil]
 have h1:=h.set hn i x ⟨y.text,x.part,x.a,x.len,x.right⟩ hx 0 (.string y.text) (by decide) rfl
 have h2:=h1.set (by rw [List.length_set];exact hn) i _ ⟨y.text,y.part,x.a,x.len,x.right⟩ (hg _) 1 (.int .i8 y.part) (by decide) rfl
 rw [List.set_set] at h2
 have h3:=h2.set (by rw [List.length_set];exact hn) i _ ⟨y.text,y.part,y.a,x.len,x.right⟩ (hg _) 2 (.int .i64 y.a) (by decide) rfl
 rw [List.set_set] at h3
 have h4:=h3.set (by rw [List.length_set];exact hn) i _ ⟨y.text,y.part,y.a,y.len,x.right⟩ (hg _) 3 (.int .i64 y.len) (by decide) rfl
 rw [List.set_set] at h4
 have h5:=h4.set (by rw [List.length_set];exact hn) i _ y (hg _) 4 (.bool y.right) (by decide) rfl
 rw [List.set_set] at h5
 have h6:=h5.set (by rw [List.length_set];exact hn) i y y (hg _) 5 (.int .u16 0) (by decide) rfl
 rw [List.set_set] at h6
 exact h6
end
theorem PcS.iterAt {w W:World} {P n:Nat} {p:Pc} {M:List Ce} (h:PcS w P n p M W) {B:Nat} (hB:P+1<B) (s:ByteArray) (pos:Nat):PcS w P n p M (W.iterAt B s pos):=by
 refine⟨(Lib.iterAt_other W B P s pos (by omega)).trans h.box,⟨h.own.1,?_⟩,Lib.below_iterAt h.bel (by omega) s pos⟩
 rcases h.own.2 with ⟨h1,_⟩ | ⟨g,cap,cur,h1,h2,h3,h4⟩
 ·cases h1
 ·have hg:g=P+1:=by
   simp only [Value.slice.injEq,Option.some.injEq,Addr.mk.injEq] at h1
   exact h1.1.1.symm
  exact .inr ⟨g,cap,cur,h1,h2,(Lib.iterAt_other W B g s pos (by omega)).trans h3,h4⟩
theorem enc_ascii:∀v:Fin 128,Utf8.encode (v.val:Int)=⟨#[UInt8.ofNat v.val]⟩:=by decide +kernel
theorem ascii_at {s:ByteArray} (h:asciiB s=true) (i:Nat) (hi:i<s.size):(s[i]'hi).toNat<128∧Utf8.encode (((s[i]'hi).toNat:Nat):Int)=⟨#[s.get! i]⟩:=by
 unfold asciiB at h
 rw [List.all_eq_true] at h
 have hm:s[i]'hi∈s.data.toList:=by
  have:s[i]'hi=s.data[i]'hi:=rfl
  rw [this]
  exact Array.getElem_mem_toList hi
 have h1:=h _ hm
 simp only [decide_eq_true_eq] at h1
 refine⟨h1,?_⟩
 have h2:=enc_ascii ⟨(s[i]'hi).toNat,h1⟩
 dsimp only at h2
 rw [h2]
 have e:s.get! i=s[i]'hi:=by
  show (s.data[i]!)=s.data[i]'hi
  rw [getElem!_pos s.data i hi]
 rw [e]
 simp
set_option maxRecDepth 100000 in
set_option maxHeartbeats 2000000 in
theorem pCells_any (p:Pc) (n:Nat) (hn:p.wide=n) (hn0:0<n) (hn19:n≤19) (hg:wholeB p=true∨asciiB p.shown=true∧n=p.shown.size) (hlv:p.level<256) (w:World) :
 Calls Tryz.prog 48 #[.agg #[.int .i64 p.a,.int .i64 p.size,.int .i64 p.c0,.int .i64 p.c1,.int .u8 p.level,.string p.became,.string p.shown,.int .i64 p.wide,.int .i64 p.e0,.int .i64 p.e1]] w fun e w' =>
  ∃a,e=.returned (.slice a n n)∧OwnS ceE 124 w' w.heap.size (.slice a n n) (cellsP p)∧Below w.heap.size w w':=by
 obtain⟨i3,hi3,hz3,ha3,hb3⟩:=info_parts (Tryz.info_cell)
 have hmk:=fun (W:World)=>run_make (P:=Tryz.prog) W 29 124 i3 _ Tryz.underlying29 hi3 hz3 .i64 .i64 n n (by omega) (Int.le_refl _) (by rw [hb3];omega) (by omega)
 simp only [ha3,Int.toNat_natCast] at hmk
 have hcp:cellsP p=mapR n (fun i=>if wholeB p=true then Ce.mk (if i=0 then p.shown else ⟨#[]⟩) (i:Int) p.a p.size (oddB p) else Ce.mk ⟨#[p.shown.get! i]⟩ 0 p.a p.size (oddB p)):=by
  unfold cellsP mapR
  rw [hn,Int.toNat_natCast]
 have HCP:=lh hcp
 clear hcp
 rw [hn]
 go_enter Tryz.func48,Tryz.ntmps48
 go_upto_region 2 with (fail)
 obtain⟨P,hP⟩:∃P,w.heap.size=P:=⟨_,rfl⟩
 have hb0:Below P w (w.alloc (.cells #[.int .i64 p.a,.int .i64 p.size,.int .i64 p.c0,.int .i64 p.c1,.int .u8 p.level,.string p.became,.string p.shown,.int .i64 n,.int .i64 p.e0,.int .i64 p.e1] 98)):=by rw [←hP];exact (Below.refl _ _).alloc (Nat.le_refl _) _
 have hx0:=World.alloc_heap_new w (.cells #[.int .i64 p.a,.int .i64 p.size,.int .i64 p.c0,.int .i64 p.c1,.int .u8 p.level,.string p.became,.string p.shown,.int .i64 n,.int .i64 p.e0,.int .i64 p.e1] 98)
 have hs0:(w.alloc (.cells #[.int .i64 p.a,.int .i64 p.size,.int .i64 p.c0,.int .i64 p.c1,.int .u8 p.level,.string p.became,.string p.shown,.int .i64 n,.int .i64 p.e0,.int .i64 p.e1] 98)).heap.size=P+1:=by rw [World.size_alloc,hP]
 rw [hP] at hx0 ⊢
 generalize w.alloc (.cells #[.int .i64 p.a,.int .i64 p.size,.int .i64 p.c0,.int .i64 p.c1,.int .u8 p.level,.string p.became,.string p.shown,.int .i64 n,.int .i64 p.e0,.int .i64 p.e1] 98)=W0 at hb0 hx0 hs0 ⊢
 have ho1:=made_own ceE 124 W0 ce0 (by decide) n (by unfold maxLen;omega)
 rw [hs0] at ho1
 have hb1:Below W0.heap.size W0 (W0.alloc (.cells (madeCells #[.string ⟨#[]⟩,.int .i8 0,.int .i64 0,.int .i64 0,.bool false,.int .u16 0] (n*6)) 124)):=(Below.refl _ _).alloc (Nat.le_refl _) _
 have hS1:PcS w P n p (mapR n fun _=>ce0) (W0.alloc (.cells (madeCells #[.string ⟨#[]⟩,.int .i8 0,.int .i64 0,.int .i64 0,.bool false,.int .u16 0] (n*6)) 124)) :=
  ⟨(hb1.block P (by omega)).trans hx0,ho1,hb0.trans (hb1.mono (by omega))⟩
 generalize W0.alloc (.cells (madeCells #[.string ⟨#[]⟩,.int .i8 0,.int .i64 0,.int .i64 0,.bool false,.int .u16 0] (n*6)) 124)=W1 at hS1 ⊢
 have HS1:=lh hS1
 clear hb0 hx0 hs0 ho1 hb1 hS1 hmk
 obtain⟨o,ho⟩:∃o,oddB p=o:=⟨_,rfl⟩
 have hoq:(((p.level % 2:Nat):Int)==1)=o:=by rw [←ho];unfold oddB;rw [Bool.eq_iff_iff];simp;omega
 have hoq2:((p.level:Int) % 2==1)=o:=by rw [←ho];unfold oddB;rw [Bool.eq_iff_iff];simp;omega
 obtain⟨c1,hc1⟩:∃c1,Ce.mk ⟨#[]⟩ 0 p.a p.size o=c1:=⟨_,rfl⟩
 go_upto_block 0 with (fail)
 go_wp2_with (fail)
 go_loopw [4,13] (fun _ u wx=>∃i:Nat,i≤n∧u=.int .i64 i∧PcS w P n p (mapR n fun j=>if j<i then c1 else ce0) wx) (fun _ u _=>n-(intOf u).toNat)
 case atStart=>exact⟨0,Nat.zero_le _,rfl,by simpa using HS1.out⟩
 case round =>
  obtain⟨i,hi,rfl,hS⟩:=hrel
  have HS:=lh hS
  clear hS HS1
  by_cases hlt:i<n
  ·have hml:=mapR_len n (fun j=>if j<i then c1 else ce0)
   have hmg:=mapR_get n (fun j=>if j<i then c1 else ce0) i hlt
   rw [if_neg (Nat.lt_irrefl i)] at hmg
   obtain⟨M,hM⟩:∃M,mapR n (fun j=>if j<i then c1 else ce0)=M:=⟨_,rfl⟩
   have hnx:M.set i c1=mapR n (fun j=>if j<i+1 then c1 else ce0):=by
    rw [←hM]
    refine mapR_set _ _ _ _ _ (fun j hj=>?_)
    by_cases e:j=i
    ·subst e;rw [if_pos (by omega),if_pos rfl]
    ·rw [if_neg e]
     by_cases e2:j<i
     ·rw [if_pos (by omega),if_pos e2]
     ·rw [if_neg (by omega),if_neg e2]
   rw [hM] at hml hmg HS
   obtain⟨z0,z1,z2,z3,z4,z5,z6,z7,z8,z9⟩:=HS.out.cells
   have HNX:=lh hnx
   have HMG:=lh hmg
   have HML:=lh hml
   have hwi:IntKind.i64.wrap ((i:Int)+1)=(i:Int)+1:=by rw [IntKind.wrap_i64];omega
   clear hnx hmg hml hM
   go_upto_region 5 with (fail)
   obtain⟨S,hSi,hSo⟩:∃S:World→Prop,(∀W:World,W.heap[P]? = some (.cells #[.int .i64 p.a,.int .i64 p.size,.int .i64 p.c0,.int .i64 p.c1,.int .u8 p.level,.string p.became,.string p.shown,.int .i64 n,.int .i64 p.e0,.int .i64 p.e1] 98 (0,0))→S W)∧(∀W:World,S W→W.heap[P]? = some (.cells #[.int .i64 p.a,.int .i64 p.size,.int .i64 p.c0,.int .i64 p.c1,.int .u8 p.level,.string p.became,.string p.shown,.int .i64 n,.int .i64 p.e0,.int .i64 p.e1] 98 (0,0))):=⟨fun W=>W.heap[P]? = some (.cells #[.int .i64 p.a,.int .i64 p.size,.int .i64 p.c0,.int .i64 p.c1,.int .u8 p.level,.string p.became,.string p.shown,.int .i64 n,.int .i64 p.e0,.int .i64 p.e1] 98 (0,0)),fun _ h=>h,fun _ h=>h⟩
   have HSi:=lh hSi
   have hne:Nonempty (WIn S):=⟨⟨_,hSi _ HS.out.box⟩⟩
   have kp0:∀q:WIn S,q.w.cell? ⟨P,0,none⟩=some (.int .i64 p.a):=fun q=>by have:=hSo _ q.h;simp [World.cell?,this]
   have kp1:∀q:WIn S,q.w.cell? ⟨P,1,none⟩=some (.int .i64 p.size):=fun q=>by have:=hSo _ q.h;simp [World.cell?,this]
   have kp2:∀q:WIn S,q.w.cell? ⟨P,2,none⟩=some (.int .i64 p.c0):=fun q=>by have:=hSo _ q.h;simp [World.cell?,this]
   have kp3:∀q:WIn S,q.w.cell? ⟨P,3,none⟩=some (.int .i64 p.c1):=fun q=>by have:=hSo _ q.h;simp [World.cell?,this]
   have kp4:∀q:WIn S,q.w.cell? ⟨P,4,none⟩=some (.int .u8 p.level):=fun q=>by have:=hSo _ q.h;simp [World.cell?,this]
   have kp5:∀q:WIn S,q.w.cell? ⟨P,5,none⟩=some (.string p.became):=fun q=>by have:=hSo _ q.h;simp [World.cell?,this]
   have kp6:∀q:WIn S,q.w.cell? ⟨P,6,none⟩=some (.string p.shown):=fun q=>by have:=hSo _ q.h;simp [World.cell?,this]
   have kp7:∀q:WIn S,q.w.cell? ⟨P,7,none⟩=some (.int .i64 n):=fun q=>by have:=hSo _ q.h;simp [World.cell?,this]
   have kp8:∀q:WIn S,q.w.cell? ⟨P,8,none⟩=some (.int .i64 p.e0):=fun q=>by have:=hSo _ q.h;simp [World.cell?,this]
   have kp9:∀q:WIn S,q.w.cell? ⟨P,9,none⟩=some (.int .i64 p.e1):=fun q=>by have:=hSo _ q.h;simp [World.cell?,this]
   have hOD:=fun W=>odd_any p hlv W
   rw [hn] at hOD
   have HOD:=lh hOD
   clear hSi hSo z0 z1 z2 z3 z4 z5 z6 z7 z8 z9 hOD
   refine wp_region_segP S [([0,1,2,3,4,5,6],7),([8,9,10],11)] [] (by kernel_rfl) (by kernel_rfl) (HSi.out _ HS.out.drew.box) ?_
   simp only [segHP,opsAt,List.filterMap_cons,List.filterMap_nil,List.getElem?_toArray,List.getElem?_cons_zero,List.getElem?_cons_succ]
   show wpQuiet _ _ _ _ [_,_,_,_,_,_,_] _
   repeat (go_big_quiet_step (fail))
   refine wpQuiet_nil ?_
   intro K hK
   have HKK:=lh hK
   clear hK
   show wpList _ _ _ [_] _ _
   go_wp2_with (go_at_call 92;refine (HOD.out _).mono ?_;rintro e w6 ⟨rfl,hb6⟩)
   have HS6:=lh (HS.out.drew.below hb6)
   clear hb6
   refine HKK.out _ _ (HSi.out _ HS6.out.box) ?_
   clear HKK
   show wpQuiet _ _ _ _ [_,_,_] _
   repeat (go_big_quiet_step (fail))
   refine wpQuiet_nil ?_
   intro K hK
   have HKK:=lh hK
   clear hK
   obtain⟨y0,y1,y2,y3,y4,y5,yf⟩:=HS6.out.row HML.out i ce0 HMG.out
   have hS7:=HS6.out.setAll HML.out i ce0 c1 HMG.out
   rw [←hc1] at hS7
   dsimp only at hS7
   rw [hc1,HNX.out] at hS7
   have HS7:=lh hS7
   clear hS7
   show wpList _ _ _ [_] _ _
   go_wp2_with (fail)
   refine HKK.out _ _ (HSi.out _ HS7.out.box) ?_
   clear HKK HSi kp0 kp1 kp2 kp3 kp4 kp5 kp6 kp7 kp8 kp9 hne y0 y1 y2 y3 y4 y5 yf
   refine wpQuiet_nil ?_
   refine NoPanic.normal ?_
   go_wp2_with (fail)
   go_roundw
   case rel=>exact⟨i+1,by omega,by go_num,HS7.out⟩
   case measure=>simp [intOf];omega
  ·obtain rfl:i=n:=by omega
   have hS1:PcS w P i p (mapR i fun _=>c1) wr:=by
    have:=HS.out
    rw [mapR_congr i (fun j=>if j<i then c1 else ce0) (fun _=>c1) (fun j hj=>if_pos hj)] at this
    exact this
   have HS1':=lh hS1
   obtain⟨z0,z1,z2,z3,z4,z5,z6,z7,z8,z9⟩:=hS1.cells
   clear hS1 HS hlt
   go_upto_region 7 with (fail)
   go_cut [44] (fun c wx=>c=.bool (wholeB p)∧PcS w P i p (mapR i fun _=>c1) wx)
   case first =>
    by_cases hsb:p.shown=p.became
    ·have hd:(p.shown.toList==p.became.toList)=true:=by rw [bytes_beq];exact decide_eq_true hsb
     have hwb:wholeB p=true:=by unfold wholeB;rw [decide_eq_true hsb];rfl
     clear hsb
     go_wp2_with (fail)
     go_meet
     exact⟨by rw [hwb],HS1'.out⟩
    ·have hd:(p.shown.toList==p.became.toList)=false:=by rw [bytes_beq];exact decide_eq_false hsb
     have hw0:wholeB p=dotB p.shown:=by unfold wholeB;rw [decide_eq_false hsb];rfl
     clear hsb
     by_cases h3:3≤p.shown.size
     ·have h3':(3:Int)≤(p.shown.size:Int):=by omega
      have hwb:wholeB p=((p.shown.extract 0 3).toList==dotS.toList):=by rw [hw0,bytes_beq];unfold dotB;rw [decide_eq_true h3,Bool.true_and]
      have HWB:=lh hwb
      clear hwb hw0
      obtain⟨D,hD⟩:∃D,((p.shown.extract 0 3).toList==dotS.toList)=D:=⟨_,rfl⟩
      rw [hD] at HWB
      have hD2:((p.shown.extract 0 3).toList==(⟨#[226,151,140]⟩:ByteArray).toList)=D:=hD
      go_wp2_with (fail)
      go_meet
      exact⟨by rw [HWB.out,←hD2,ByteArray.toList_eq ⟨#[226,151,140]⟩],HS1'.out⟩
     ·have h3':¬ (3:Int)≤(p.shown.size:Int):=by omega
      have h3d:decide ((3:Int)≤(p.shown.size:Int))=false:=decide_eq_false h3'
      have hwb:wholeB p=false:=by rw [hw0];unfold dotB;rw [decide_eq_false h3];rfl
      go_wp2_with (fail)
      go_meet
      exact⟨by rw [hwb],HS1'.out⟩
   case rest =>
    obtain⟨rfl,hSc⟩:=hcut
    have HSc:=lh hSc
    clear HS1' z0 z1 z2 z3 z4 z5 z6 z7 z8 z9
    have z6:=hSc.cells.2.2.2.2.2.2.1
    clear hSc
    obtain⟨u,hu⟩:∃u,wholeB p=u:=⟨_,rfl⟩
    rw [hu]
    cases u with
    | true =>
      go_upto_block 2 with (fail)
      clear z6
      go_wp2_with (fail)
      go_loopw [5,47] (fun _ u wx=>∃j:Nat,j≤i∧u=.int .i64 j∧PcS w P i p (mapR i fun m=>if m<j then Ce.mk ⟨#[]⟩ (m:Int) p.a p.size o else c1) wx) (fun _ u _=>i-(intOf u).toNat)
      case atStart=>exact⟨0,Nat.zero_le _,rfl,by simpa using HSc.out⟩
      case round =>
       obtain⟨j,hj,rfl,hS⟩:=hrel
       by_cases hlt:j<i
       ·have hmg:=mapR_get i (fun m=>if m<j then Ce.mk ⟨#[]⟩ (m:Int) p.a p.size o else c1) j hlt
        rw [if_neg (Nat.lt_irrefl j)] at hmg
        have hnx:(mapR i fun m=>if m<j then Ce.mk ⟨#[]⟩ (m:Int) p.a p.size o else c1).set j (Ce.mk ⟨#[]⟩ (j:Int) p.a p.size o)=mapR i fun m=>if m<j+1 then Ce.mk ⟨#[]⟩ (m:Int) p.a p.size o else c1:=by
         refine mapR_set _ _ _ _ _ (fun m hm=>?_)
         by_cases e:m=j
         ·subst e;rw [if_pos (by omega),if_pos rfl]
         ·rw [if_neg e]
          by_cases e2:m<j
          ·rw [if_pos (by omega),if_pos e2]
          ·rw [if_neg (by omega),if_neg e2]
        obtain⟨y0,y1,y2,y3,y4,y5,yf⟩:=hS.row (mapR_len _ _) j c1 hmg
        have yf1:=yf (j*6+1)
        have hS2:=hS.set (mapR_len _ _) j c1 (Ce.mk ⟨#[]⟩ (j:Int) p.a p.size o) hmg 1 (.int .i8 (j:Int)) (by decide) (by rw [←hc1];rfl)
        rw [hnx] at hS2
        have HS2:=lh hS2
        have hw8:IntKind.i8.wrap (j:Int)=(j:Int):=by unfold IntKind.wrap IntKind.bits;simp [IntKind.signed];omega
        have hwj:IntKind.i64.wrap ((j:Int)+1)=(j:Int)+1:=by rw [IntKind.wrap_i64];omega
        clear hS hS2 hmg hnx HSc
        go_wp2_with (fail)
        go_roundw
        case rel=>exact⟨j+1,by omega,by go_num,HS2.out⟩
        case measure=>simp [intOf];omega
       ·obtain rfl:j=i:=by omega
        rw [mapR_congr j (fun m=>if m<j then Ce.mk ⟨#[]⟩ (m:Int) p.a p.size o else c1) (fun m=>Ce.mk ⟨#[]⟩ (m:Int) p.a p.size o) (fun m hm=>if_pos hm)] at hS
        have hmg:=mapR_get j (fun m=>Ce.mk ⟨#[]⟩ (m:Int) p.a p.size o) 0 hn0
        obtain⟨y0,y1,y2,y3,y4,y5,yf⟩:=hS.row (mapR_len _ _) 0 _ hmg
        have yf0:=yf 0
        have z6:=hS.cells.2.2.2.2.2.2.1
        have hS2:=hS.set (mapR_len _ _) 0 _ (Ce.mk p.shown ((0:Nat):Int) p.a p.size o) hmg 0 (.string p.shown) (by decide) rfl
        rw [mapR_set j _ (fun m=>Ce.mk (if m=0 then p.shown else ⟨#[]⟩) (m:Int) p.a p.size o) 0 _ (fun m hm=>by
         by_cases e:m=0
         ·subst e;rw [if_pos rfl,if_pos rfl]
         ·rw [if_neg e,if_neg e])] at hS2
        have hfin:cellsP p=mapR j fun m=>Ce.mk (if m=0 then p.shown else ⟨#[]⟩) (m:Int) p.a p.size o:=by
         rw [HCP.out]
         exact mapR_congr _ _ _ fun m hm=>by rw [if_pos hu,ho]
        rw [←hfin] at hS2
        have HS2:=lh hS2
        clear hS hS2 hfin hmg hlt HSc
        go_wp2_with (fail)
        go_ret
        exact⟨some ⟨P+1,0,none⟩,rfl,HS2.out.own.low (by omega),HS2.out.bel⟩
    | false =>
      obtain⟨has,hsn⟩:asciiB p.shown=true∧i=p.shown.size:=by
       rcases hg with h | h
       ·rw [hu] at h;cases h
       ·exact h
      go_upto_block 4 with (fail)
      clear z6
      obtain⟨B0,hB0⟩:∃B0,wc.heap.size=B0:=⟨_,rfl⟩
      have hPB:P+1<B0:=by
       rcases HSc.out.own.2 with ⟨h1,_⟩ | ⟨g,cap,cur,h1,h2,h3,h4⟩
       ·cases h1
       ·have hg:g=P+1:=by
         simp only [Value.slice.injEq,Option.some.injEq,Addr.mk.injEq] at h1
         exact h1.1.1.symm
        have:=(Array.getElem?_eq_some_iff.1 h3).1
        omega
      have hx0:(wc.iter p.shown 0).heap[B0]? = some (.stringIter p.shown 0):=by rw [←hB0];exact World.iter_heap wc p.shown 0
      have hS0:PcS w P i p (mapR i fun _=>c1) (wc.iter p.shown 0):=HSc.out.below ((Below.refl _ _).alloc (Nat.le_refl _) _)
      generalize wc.iter p.shown 0=W0 at hx0 hS0 ⊢
      rw [hB0]
      go_wp2_with (fail)
      go_loopw [6,7] (fun _ _ wx=>∃pos:Nat,pos≤i∧wx.heap[B0]? = some (.stringIter p.shown pos)∧PcS w P i p (mapR i fun m=>if m<pos then Ce.mk ⟨#[p.shown.get! m]⟩ 0 p.a p.size o else c1) wx) (fun _ _ wx=>i-wx.iterPos B0)
      case atStart=>exact⟨0,Nat.zero_le _,hx0,by simpa using hS0⟩
      case round =>
       obtain⟨pos,hp,hit,hS⟩:=hrel
       have hip:wr.iterPos B0=pos:=by simp [World.iterPos,hit]
       clear hx0 hS0 HSc
       by_cases hlt:pos<i
       ·have hlt':pos<p.shown.size:=by omega
        obtain⟨ha,hen⟩:=ascii_at has pos hlt'
        have hnx:=fun ty=>Lib.run_next_any_at (P:=Tryz.prog) wr B0 p.shown pos ty hit hlt'
        rw [decode_ascii p.shown pos hlt' ha] at hnx
        dsimp only at hnx
        obtain⟨v,hv⟩:∃v:Nat,(p.shown[pos]'hlt').toNat=v:=⟨_,rfl⟩
        rw [hv] at hnx hen ha
        have hx1:=Lib.iterAt_heap wr B0 p.shown pos (pos+1) hit
        have hS1:=hS.iterAt hPB p.shown (pos+1)
        generalize wr.iterAt B0 p.shown (pos+1)=w1 at hnx hx1 hS1
        have hmg:=mapR_get i (fun m=>if m<pos then Ce.mk ⟨#[p.shown.get! m]⟩ 0 p.a p.size o else c1) pos hlt
        rw [if_neg (Nat.lt_irrefl pos)] at hmg
        have hnxt:(mapR i fun m=>if m<pos then Ce.mk ⟨#[p.shown.get! m]⟩ 0 p.a p.size o else c1).set pos (Ce.mk ⟨#[p.shown.get! pos]⟩ 0 p.a p.size o)=mapR i fun m=>if m<pos+1 then Ce.mk ⟨#[p.shown.get! m]⟩ 0 p.a p.size o else c1:=by
         refine mapR_set _ _ _ _ _ (fun m hm=>?_)
         by_cases e:m=pos
         ·subst e;rw [if_pos (by omega),if_pos rfl]
         ·rw [if_neg e]
          by_cases e2:m<pos
          ·rw [if_pos (by omega),if_pos e2]
          ·rw [if_neg (by omega),if_neg e2]
        obtain⟨y0,y1,y2,y3,y4,y5,yf⟩:=hS1.row (mapR_len _ _) pos c1 hmg
        have yf0:=yf (pos*6)
        have hS2:=hS1.set (mapR_len _ _) pos c1 (Ce.mk ⟨#[p.shown.get! pos]⟩ 0 p.a p.size o) hmg 0 (.string ⟨#[p.shown.get! pos]⟩) (by decide) (by rw [←hc1];rfl)
        rw [hnxt] at hS2
        have hx2:(w1.setCell ⟨P+1,pos*6,none⟩ (.string ⟨#[p.shown.get! pos]⟩)).heap[B0]? = some (.stringIter p.shown (pos+1)):=by simp only [World.setCell,Array.getElem?_modify];rw [if_neg (by omega)];exact hx1
        have HS2:=lh hS2
        have HX2:=lh hx2
        have HIP:=lh hip
        have hpi:(pos:Int)<(i:Int):=by omega
        generalize p.shown.get! pos=bt at hen HS2 HX2
        clear hS hS1 hS2 hx1 hx2 hmg hnxt hit hip
        go_wp2_with (fail)
        go_roundw
        case rel=>exact⟨pos+1,by omega,HX2.out,HS2.out⟩
        case measure=>rw [HIP.out];simp [World.iterPos,HX2.out];omega
       ·obtain rfl:pos=i:=by omega
        have hnx:=fun ty=>Lib.run_next_end_at (P:=Tryz.prog) wr B0 p.shown pos ty hit (by omega)
        rw [mapR_congr pos (fun m=>if m<pos then Ce.mk ⟨#[p.shown.get! m]⟩ 0 p.a p.size o else c1) (fun m=>Ce.mk ⟨#[p.shown.get! m]⟩ 0 p.a p.size o) (fun m hm=>if_pos hm)] at hS
        have hfin:cellsP p=mapR pos fun m=>Ce.mk ⟨#[p.shown.get! m]⟩ 0 p.a p.size o:=by
         rw [HCP.out]
         exact mapR_congr _ _ _ fun m hm=>by rw [if_neg (by rw [hu];decide),ho]
        rw [←hfin] at hS
        have HS:=lh hS
        clear hS hfin hlt hit hip
        go_wp2_with (fail)
        go_ret
        exact⟨some ⟨P+1,0,none⟩,rfl,HS.out.own.low (by omega),by rw [hP];exact HS.out.bel⟩
end
end Go.Proofs.YtlmjbfncopbilaaGreatDoor
