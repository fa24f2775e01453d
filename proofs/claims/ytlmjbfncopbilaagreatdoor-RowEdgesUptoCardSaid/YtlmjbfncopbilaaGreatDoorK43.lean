/- Part 43 (merged by a program): lemmas of no further condition than each states. -/
import Derived.Test.YtlmjbfncopbilaaGreatDoorK42
namespace Go.Proofs.YtlmjbfncopbilaaGreatDoor
set_option linter.unusedVariables false
set_option linter.unusedSimpArgs false
section
open Go.RowKit Go.Proofs Go.Shelf
attribute [local go_sem] Oper.semAt_some
theorem caret_under:Tryz.prog.underlying 33=some (.struct (Tryz.prog.fieldsOf 33)):=by kernel_rfl
theorem caret_size:(Tryz.prog.info? 33).map (·.size)=some 3:=by kernel_rfl
theorem gap_any (x y:Int) (hx : -1099511627776≤x∧x≤1099511627776) (hy : -1099511627776≤y∧y≤1099511627776) (w:World) :
 Calls Tryz.prog 51 #[.int .i64 x,.int .i64 y] w fun e w'=>e=.returned (.int .i64 (gapI x y))∧w=w':=by
 have h1:IntKind.i64.wrap (x-y)=x-y:=by rw [IntKind.wrap_i64];omega
 have h2:IntKind.i64.wrap (y-x)=y-x:=by rw [IntKind.wrap_i64];omega
 go_enter Tryz.func51,Tryz.ntmps51
 go_wp2_with (fail)
 go_ret
 exact⟨rfl,rfl⟩
set_option maxRecDepth 100000 in
set_option maxHeartbeats 4000000 in
theorem Hit_any (s:ByteArray) (hs:s.size≤2097152) (ra rl lev rwd fin tab want x:Int) (wideA join raw:Bool) (w:World) (hT:T8 w) (hD:DB w) (hlv:∀p∈lay2 s want join raw ra rl,p.level<256)
 (h20:(rawS (layI s tab want wideA join raw ra rl rwd) fin).length≤8388608) (hne:0<(rawS (layI s tab want wideA join raw ra rl rwd) fin).length) (hsx:smallX (rawS (layI s tab want wideA join raw ra rl rwd) fin)) (hss:smallX (stopsI (layI s tab want wideA join raw ra rl rwd) fin)) :
 Calls Tryz.prog 14 #[.string s,rowA5 ra rl lev rwd fin,lookV tab want wideA join raw,.int .i64 x] w fun e w' =>
  e=.returned (.agg #[.int .i64 (hitI (layI s tab want wideA join raw ra rl rwd) fin x).a,.bool (hitI (layI s tab want wideA join raw ra rl rwd) fin x).back,.int .i64 (-1)])∧Below w.heap.size w w':=by
 have hbase:=baseR_lt s want raw
 have hlvL:=layL_lv s tab want wideA join raw ra rl rwd hlv
 have hnL:=layL_max s tab want wideA join raw ra rl rwd hs
 have hwl:=wsum_le (layL_bd s tab want wideA join raw ra rl rwd)
 rw [←lay3_sum] at hwl
 have HLA:=lh (fun (W:World) (h:Below w.heap.size w W)=>rLay_any s hs ra rl lev rwd fin tab want wideA join raw W (hT.below rfl h) (hD.below h) hlv)
 obtain⟨R,hR⟩:∃R,layI s tab want wideA join raw ra rl rwd=R:=⟨_,rfl⟩
 have eL:layL s tab want wideA join raw ra rl rwd=R.l:=congrArg LaidR.l hR
 have eb:baseR s want raw=R.base:=congrArg LaidR.base hR
 have ex:(lay3 s tab want wideA join raw ra rl rwd).2=R.wide:=congrArg LaidR.wide hR
 rw [hR] at HLA h20 hne hsx hss ⊢
 rw [eL] at hlvL hnL hwl
 rw [ex] at hwl
 rw [eb] at hbase
 have HSP:=lh (fun (b:Nat) (W:World) (hL:LaidW W b R)=>stops_any b R fin W hL hbase hlvL hnL h20 hne hsx)
 have hlen:(stopsI R fin).length=(rawS R fin).length:=by unfold stopsI;rw [sortJ_len]
 obtain⟨x',hx'⟩:∃x',min (max x 0) R.wide=x':=⟨_,rfl⟩
 have hxb:0≤x'∧x'≤39845888:=by rw [←hx'];omega
 obtain⟨Q,hQ⟩:∃Q,stopsI R fin=Q:=⟨_,rfl⟩
 have hhit:hitI R fin x=bestF x' Q (Q.getD 0 default):=by unfold hitI;rw [hx',hQ]
 rw [←hlen,hQ] at HSP
 rw [←hlen,hQ] at h20 hne
 rw [hQ] at hss
 rw [hhit]
 obtain⟨n,hn⟩:∃n,Q.length=n:=⟨_,rfl⟩
 rw [hn] at HSP h20 hne
 obtain⟨q0,hq0⟩:∃q0,Q[0]? = some q0:=⟨_,List.getElem?_eq_getElem (by omega)⟩
 have hg0:Q.getD 0 default=q0:=by rw [List.getD_eq_getElem?_getD,hq0];rfl
 rw [hg0]
 have HQ0:=lh hq0
 clear hg0 hq0
 have HSS:=lh hss
 clear hR eL eb ex hlvL hlv hT hD hsx hlen hQ hbase hhit hss hwl hnL
 go_enter Tryz.func14,Tryz.ntmps14
 unfold rowA5
 go_upto_region 1 with (fail)
 obtain⟨h0,h1,h2,hb1,hs1⟩:=three_alloc w (.cells #[.int .i64 ra,.int .i64 rl,.int .u8 lev,.int .i64 rwd,.int .i8 fin] 24) (.cells #[.int .i64 tab,.bool wideA,.int .i8 want,.bool join,.bool raw] 26) (.cells #[.int .i64 0,.bool false,.int .i64 0] 33)
 generalize ((w.alloc (.cells #[.int .i64 ra,.int .i64 rl,.int .u8 lev,.int .i64 rwd,.int .i8 fin] 24)).alloc (.cells #[.int .i64 tab,.bool wideA,.int .i8 want,.bool join,.bool raw] 26)).alloc (.cells #[.int .i64 0,.bool false,.int .i64 0] 33)=W1 at h0 h1 h2 hb1 hs1 ⊢
 obtain⟨B,hB⟩:∃B,w.heap.size=B:=⟨_,rfl⟩
 have HB1:=lh hb1
 have HLA1:=lh (HLA.out W1 hb1)
 rw [hB] at h0 h1 h2 hs1 ⊢
 rw [show B+1+1=B+2 from rfl]
 have b0:W1.cell? ⟨B,0,none⟩=some (.int .i64 ra):=by simp [World.cell?,h0]
 have b1:W1.cell? ⟨B,1,none⟩=some (.int .i64 rl):=by simp [World.cell?,h0]
 have b2:W1.cell? ⟨B,2,none⟩=some (.int .u8 lev):=by simp [World.cell?,h0]
 have b3:W1.cell? ⟨B,3,none⟩=some (.int .i64 rwd):=by simp [World.cell?,h0]
 have b4:W1.cell? ⟨B,4,none⟩=some (.int .i8 fin):=by simp [World.cell?,h0]
 have l0:W1.cell? ⟨B+1,0,none⟩=some (.int .i64 tab):=by simp [World.cell?,h1]
 have l1:W1.cell? ⟨B+1,1,none⟩=some (.bool wideA):=by simp [World.cell?,h1]
 have l2:W1.cell? ⟨B+1,2,none⟩=some (.int .i8 want):=by simp [World.cell?,h1]
 have l3:W1.cell? ⟨B+1,3,none⟩=some (.bool join):=by simp [World.cell?,h1]
 have l4:W1.cell? ⟨B+1,4,none⟩=some (.bool raw):=by simp [World.cell?,h1]
 have HX0:=lh h0
 have HX2:=lh h2
 clear h0 h1 h2 hb1 HLA
 unfold rowA5 at HLA1
 go_upto_region 2 with (go_at_call 46;refine HLA1.out.mono ?_;rintro e w2 ⟨b,rfl,hL2,hbb,hb2⟩)
 have HB2:=lh (HB1.out.trans (hb2.mono (by omega)))
 have e0:=(hb2.block B (by omega)).trans HX0.out
 have E2:=lh ((hb2.block (B+2) (by omega)).trans HX2.out)
 have hz2:B+3≤w2.heap.size:=by have:=hb2.size;omega
 have k4:w2.cell? ⟨B,4,none⟩=some (.int .i8 fin):=by simp [World.cell?,e0]
 have HS2:=lh (HSP.out b w2 hL2)
 have d5:w2.cell? ⟨b,5,none⟩=some (.int .i64 R.wide):=by obtain⟨_,_,_,_,g1,_,_⟩:=hL2;exact g1.cells.2.2.2.2.2
 clear b0 b1 b2 b3 b4 l0 l1 l2 l3 l4 hb2 HLA1 HX0 HX2 HSP e0 hL2
 go_upto_region 4 with (go_at_call 47;refine HS2.out.mono ?_;rintro e w3 ⟨G,c,rfl,hO3,hb3⟩)
 have HB3:=lh (HB2.out.trans (hb3.mono (by omega)))
 have E3:=lh ((hb3.block (B+2) (by omega)).trans E2.out)
 have hz3:w2.heap.size≤w3.heap.size:=hb3.size
 have HO3:=lh hO3
 obtain⟨hGb,hGl,a0,a1,a2,a3,_⟩:=st_cells hn hO3 0 q0 HQ0.out
 have a0:w3.cell? ⟨G,0,none⟩=some (.int .i64 q0.a):=a0
 have a1:w3.cell? ⟨G,1,none⟩=some (.bool q0.back):=a1
 have a2:w3.cell? ⟨G,2,none⟩=some (.int .i64 (-1)):=a2
 have a3:w3.cell? ⟨G,3,none⟩=some (.int .i64 q0.x):=a3
 have hq0x:=HSS.out q0 (List.mem_of_getElem? HQ0.out)
 have hn0:(0:Int)<(n:Int):=by omega
 clear k4 d5 hb3 hO3 HS2
 go_upto_region 5 with (fail)
 obtain⟨bb,hbb0⟩:∃bb,w3.heap.size=bb:=⟨_,rfl⟩
 have hb4:Below w3.heap.size w3 (w3.alloc (.cells #[.int .i64 q0.a,.bool q0.back,.int .i64 (-1),.int .i64 q0.x] 91)):=(Below.refl _ _).alloc (Nat.le_refl _) _
 have hx4:=World.alloc_heap_new w3 (.cells #[.int .i64 q0.a,.bool q0.back,.int .i64 (-1),.int .i64 q0.x] 91)
 generalize w3.alloc (.cells #[.int .i64 q0.a,.bool q0.back,.int .i64 (-1),.int .i64 q0.x] 91)=W4 at hb4 hx4 ⊢
 rw [hbb0] at hb4 hx4 ⊢
 have HB4:=lh hb4
 have HX4:=lh hx4
 clear a0 a1 a2 a3 hb4 hx4
 go_upto_block 0 with (fail)
 go_wp2_with (fail)
 go_loopw [13,34] (fun _ u34 wx=>∃(k:Nat) (best:St),k≤n∧u34=.int .i64 k∧wx.heap[bb]? = some (.cells #[.int .i64 best.a,.bool best.back,.int .i64 (-1),.int .i64 best.x] 91 (0,0))∧(-1099511627776≤best.x∧best.x≤1099511627776) ∧
  bestF x' Q q0=bestF x' (Q.drop k) best∧Below bb w3 wx) (fun _ u34 _=>n-(intOf u34).toNat)
 case atStart=>exact⟨0,q0,Nat.zero_le _,rfl,HX4.out,hq0x,by rw [List.drop_zero],HB4.out⟩
 case round =>
  obtain⟨k,best,hk,rfl,hxb1,hbx,hbf,hb⟩:=hrel
  have HXB:=lh hxb1
  have HBF:=lh hbf
  have HB:=lh hb
  have hbl:bb<wr.heap.size:=(Array.getElem?_eq_some_iff.1 hxb1).1
  clear hbf hxb1
  by_cases hlt:k<n
  ·obtain⟨q,hq⟩:∃q,Q[k]? = some q:=⟨_,List.getElem?_eq_getElem (by omega)⟩
   have hqx:=HSS.out q (List.mem_of_getElem? hq)
   have hds:Q.drop k=q::Q.drop (k+1):=dropR_cons hq
   have hbf2:bestF x' Q q0=bestF x' (Q.drop (k+1)) (if gapI q.x x'<gapI best.x x' then q else best):=by rw [HBF.out,hds,bestF]
   have HBF2:=lh hbf2
   obtain⟨_,_,a0,a1,a2,a3,_⟩:=st_cells hn (HO3.out.keep (hbb0▸hb)) k q hq
   have hkn:(k:Int)<(n:Int):=by omega
   have hwk:IntKind.i64.wrap ((k:Int)+1)=(k:Int)+1:=by rw [IntKind.wrap_i64];omega
   clear hbf2 hds hb hq
   go_upto_region 8 with (fail)
   have hb7:Below wr.heap.size wr (wr.alloc (.cells #[.int .i64 q.a,.bool q.back,.int .i64 (-1),.int .i64 q.x] 91)):=(Below.refl _ _).alloc (Nat.le_refl _) _
   have hx7:=World.alloc_heap_new wr (.cells #[.int .i64 q.a,.bool q.back,.int .i64 (-1),.int .i64 q.x] 91)
   generalize wr.alloc (.cells #[.int .i64 q.a,.bool q.back,.int .i64 (-1),.int .i64 q.x] 91)=W7 at hb7 hx7 ⊢
   obtain⟨sb,hsb⟩:∃sb,wr.heap.size=sb:=⟨_,rfl⟩
   rw [hsb] at hb7 hx7 ⊢
   have hy7:=(hb7.block bb (by omega)).trans HXB.out
   have HB7:=lh (HB.out.trans (hb7.mono (by omega)))
   have z0:W7.cell? ⟨sb,0,none⟩=some (.int .i64 q.a):=by simp [World.cell?,hx7]
   have z1:W7.cell? ⟨sb,1,none⟩=some (.bool q.back):=by simp [World.cell?,hx7]
   have z2:W7.cell? ⟨sb,2,none⟩=some (.int .i64 (-1)):=by simp [World.cell?,hx7]
   have z3:W7.cell? ⟨sb,3,none⟩=some (.int .i64 q.x):=by simp [World.cell?,hx7]
   have y0:W7.cell? ⟨bb,0,none⟩=some (.int .i64 best.a):=by simp [World.cell?,hy7]
   have y1:W7.cell? ⟨bb,1,none⟩=some (.bool best.back):=by simp [World.cell?,hy7]
   have y2:W7.cell? ⟨bb,2,none⟩=some (.int .i64 (-1)):=by simp [World.cell?,hy7]
   have y3:W7.cell? ⟨bb,3,none⟩=some (.int .i64 best.x):=by simp [World.cell?,hy7]
   have ff:∀j,W7.frozen? ⟨bb,j,none⟩=false:=fun j=>by simp [World.frozen?,hy7]
   have f0:=ff 0
   have f1:=ff 1
   have f2:=ff 2
   have f3:=ff 3
   have HY7:=lh hy7
   have HG1:=lh (fun W=>gap_any q.x x' hqx (by omega) W)
   have HG2:=lh (fun W=>gap_any best.x x' hbx (by omega) W)
   clear a0 a1 a2 a3 hb7 hx7 hy7 ff
   obtain⟨S,hSi,hSo⟩:∃S:World→Prop,(∀W:World,W.cell? ⟨sb,3,none⟩=some (.int .i64 q.x)→W.cell? ⟨bb,3,none⟩=some (.int .i64 best.x)→S W)∧(∀W:World,S W→W.cell? ⟨sb,3,none⟩=some (.int .i64 q.x)∧W.cell? ⟨bb,3,none⟩=some (.int .i64 best.x)):=⟨fun W=>W.cell? ⟨sb,3,none⟩=some (.int .i64 q.x)∧W.cell? ⟨bb,3,none⟩=some (.int .i64 best.x),fun _ h h'=>⟨h,h'⟩,fun _ h=>h⟩
   have HSi:=lh hSi
   have hne':Nonempty (WIn S):=⟨⟨_,hSi _ z3 y3⟩⟩
   have kp_1:∀q':WIn S,q'.w.cell? ⟨sb,3,none⟩=some (.int .i64 q.x):=fun q'=>(hSo _ q'.h).1
   have kp_2:∀q':WIn S,q'.w.cell? ⟨bb,3,none⟩=some (.int .i64 best.x):=fun q'=>(hSo _ q'.h).2
   clear hSi hSo
   refine wp_region_segP S [([0,1,2,4,5,6],3),([],7)] [8] (by kernel_rfl) (by kernel_rfl) (HSi.out _ z3 y3) ?_
   simp only [segHP,opsAt,List.filterMap_cons,List.filterMap_nil,List.getElem?_toArray,List.getElem?_cons_zero,List.getElem?_cons_succ]
   show wpQuiet _ _ _ _ [_,_,_,_,_,_] _
   repeat (go_big_quiet_step (fail))
   refine wpQuiet_nil ?_
   intro K hK
   have HKK:=lh hK
   clear hK
   show wpList _ _ _ [_] _ _
   go_wp2_with (go_at_call 51;refine (HG1.out _).mono ?_;rintro e w8 ⟨rfl,rfl⟩)
   refine HKK.out _ _ (HSi.out _ z3 y3) ?_
   clear HKK
   show wpQuiet _ _ _ _ [] _
   refine wpQuiet_nil ?_
   intro K hK
   have HKK:=lh hK
   clear hK
   show wpList _ _ _ [_] _ _
   go_wp2_with (go_at_call 51;refine (HG2.out _).mono ?_;rintro e w8 ⟨rfl,rfl⟩)
   refine HKK.out _ _ (HSi.out _ z3 y3) ?_
   clear HKK HG1 HG2
   show wpQuiet _ _ _ _ [_] _
   repeat (go_big_quiet_step (fail))
   refine wpQuiet_nil ?_
   refine NoPanic.normal ?_
   clear kp_1 kp_2 hne' HSi
   by_cases hgp:gapI q.x x'<gapI best.x x'
   ·have hdg:decide (gapI q.x x'<gapI best.x x')=true:=decide_eq_true hgp
    rw [if_pos hgp] at HBF2
    have hy8:=set_at (i:=3) (set_at (i:=2) (set_at (i:=1) (set_at (i:=0) HY7.out (.int .i64 q.a)) (.bool q.back)) (.int .i64 (-1))) (.int .i64 q.x)
    have hy9:((((W7.setCell ⟨bb,0,none⟩ (.int .i64 q.a)).setCell ⟨bb,1,none⟩ (.bool q.back)).setCell ⟨bb,2,none⟩ (.int .i64 (-1))).setCell ⟨bb,3,none⟩ (.int .i64 q.x)).heap[bb]? = some (.cells #[.int .i64 q.a,.bool q.back,.int .i64 (-1),.int .i64 q.x] 91 (0,0)):=hy8
    have key:∀{X:World} (j:Nat) (v:Value),Below bb w3 X→Below bb w3 (X.setCell ⟨bb,j,none⟩ v):=fun j v hX=>hX.setCell (p:=⟨bb,j,none⟩) (Nat.le_refl _) v
    have hb9:=key 3 (.int .i64 q.x) (key 2 (.int .i64 (-1)) (key 1 (.bool q.back) (key 0 (.int .i64 q.a) HB7.out)))
    have HY9:=lh hy9
    have HB9:=lh hb9
    clear hy8 hy9 key hb9
    go_wp2_with (fail)
    go_roundw
    case rel=>exact⟨k+1,q,by omega,by go_num,HY9.out,hqx,HBF2.out,HB9.out.drew⟩
    case measure=>simp [intOf];omega
   ·have hdg:decide (gapI q.x x'<gapI best.x x')=false:=decide_eq_false hgp
    rw [if_neg hgp] at HBF2
    clear z0 z1 z2 z3 y0 y1 y2 y3 f0 f1 f2 f3
    go_wp2_with (fail)
    go_roundw
    case rel=>exact⟨k+1,best,by omega,by go_num,HY7.out,hbx,HBF2.out,HB7.out.drew⟩
    case measure=>simp [intOf];omega
  ·obtain rfl:k=n:=by omega
   have hfin:bestF x' Q q0=best:=by rw [HBF.out,List.drop_eq_nil_of_le (by omega)];rfl
   have hy0:=HXB.out
   have y0:wr.cell? ⟨bb,0,none⟩=some (.int .i64 best.a):=by simp [World.cell?,hy0]
   have y1:wr.cell? ⟨bb,1,none⟩=some (.bool best.back):=by simp [World.cell?,hy0]
   have y2:wr.cell? ⟨bb,2,none⟩=some (.int .i64 (-1)):=by simp [World.cell?,hy0]
   have hc2:=(hb.block (B+2) (by omega)).trans E3.out
   have z0:wr.cell? ⟨B+2,0,none⟩=some (.int .i64 0):=by simp [World.cell?,hc2]
   have z1:wr.cell? ⟨B+2,1,none⟩=some (.bool false):=by simp [World.cell?,hc2]
   have z2:wr.cell? ⟨B+2,2,none⟩=some (.int .i64 0):=by simp [World.cell?,hc2]
   have f0:wr.frozen? ⟨B+2,0,none⟩=false:=by simp [World.frozen?,hc2]
   have f1:wr.frozen? ⟨B+2,1,none⟩=false:=by simp [World.frozen?,hc2]
   have f2:wr.frozen? ⟨B+2,2,none⟩=false:=by simp [World.frozen?,hc2]
   have key:∀{X:World} (j:Nat) (v:Value),Below B w X→Below B w (X.setCell ⟨B+2,j,none⟩ v):=fun j v hX=>hX.setCell (p:=⟨B+2,j,none⟩) (show B≤B+2 by omega) v
   have hbw:Below B w wr:=hB▸HB3.out.trans (HB.out.mono (by omega))
   have hb9:=key 2 (.int .i64 (-1)) (key 1 (.bool best.back) (key 0 (.int .i64 best.a) hbw))
   have HB9:=lh hb9
   have HFIN:=lh hfin
   have hg9:(((wr.setCell ⟨B+2,0,none⟩ (.int .i64 best.a)).setCell ⟨B+2,1,none⟩ (.bool best.back)).setCell ⟨B+2,2,none⟩ (.int .i64 (-1))).heap[B+2]? = some (.cells #[.int .i64 best.a,.bool best.back,.int .i64 (-1)] 33 (0,0)) :=
    set_at (i:=2) (set_at (i:=1) (set_at (i:=0) hc2 (.int .i64 best.a)) (.bool best.back)) (.int .i64 (-1))
   have HG9:=lh hg9
   clear hy0 hc2 key hbw hb9 hfin hb hlt hg9
   go_wp2_with (fail)
   refine bodyPost_ret (results_cell_row (ty:=33) rfl _ _ (B+2) _ _ _ _ rfl HG9.out caret_under rfl caret_size) rfl ⟨by rw [HFIN.out],?_⟩
   rw [hB]
   exact HB9.out
end
section
def sMix:ByteArray:=⟨#[97,215,144,215,145,98]⟩
def sWide:ByteArray:=⟨#[97,228,184,150,255]⟩
def rMix:LaidR:=layI sMix 0 0 false false false 0 6 99
def rWide:LaidR:=layI sWide 0 0 false false false 0 5 9
def lvB (L:List Pc):Bool:=L.all fun p=>decide (p.level<256)
def goodB (L:List Pc):Bool:=L.all fun p=>!decide (0<p.wide)||(decide (p.wide≤19)&&(wholeB p||(asciiB p.shown&&decide (p.wide=p.shown.size))))
def smallB (l:List St):Bool:=l.all fun s=>decide (-1099511627776≤s.x)&&decide (s.x≤1099511627776)
theorem lvB_of {L:List Pc} (h:lvB L=true):∀p∈L,p.level<256:=fun p hp=>by
 have:=List.all_eq_true.1 h p hp
 simpa using this
theorem goodB_of {L:List Pc} (h:goodB L=true):∀p∈L,GoodP p:=fun p hp hw=>by
 have:=List.all_eq_true.1 h p hp
 simp only [Bool.or_eq_true,Bool.not_eq_true',decide_eq_false_iff_not,Bool.and_eq_true,decide_eq_true_eq] at this
 rcases this with h | h
 ·exact absurd hw h
 ·exact h
theorem smallB_of {l:List St} (h:smallB l=true):smallX l:=fun s hs=>by
 have:=List.all_eq_true.1 h s hs
 simpa using this
def textsF:List Ce→ByteArray→ByteArray
 | [],acc=>acc
 | c::t,acc=>textsF t (acc++if c.text.size=0 then ⟨#[46]⟩ else c.text)
set_option maxRecDepth 100000
theorem mix_lv:lvB (lay2 sMix 0 false false 0 6)=true:=by kernel_rfl
theorem mix_good:goodB rMix.l=true:=by kernel_rfl
theorem mix_raw:(rawS rMix 0).length=7:=by kernel_rfl
theorem mix_lt:(rawS rMix 0).length≤8388608:=by rw [mix_raw];exact (by omega:7≤8388608)
theorem mix_pos:0<(rawS rMix 0).length:=by rw [mix_raw];exact (by omega:0<7)
theorem mix_small:smallB (rawS rMix 0)=true:=by kernel_rfl
theorem mix_small2:smallB (stopsI rMix 0)=true:=by kernel_rfl
theorem mix_stops:stopsI rMix 0=[⟨0,false,0⟩,⟨1,true,1⟩,⟨5,true,1⟩,⟨3,false,2⟩,⟨1,false,3⟩,⟨5,false,3⟩,⟨6,false,4⟩]:=by kernel_rfl
theorem mix_len:(cellsI rMix).length=4:=by kernel_rfl
theorem mix_texts:textsF (cellsI rMix) ⟨#[]⟩=⟨#[97,215,145,215,144,98]⟩:=by kernel_rfl
theorem mix_place:placeI rMix 1 false=3∧placeI rMix 1 true=1:=⟨by kernel_rfl,by kernel_rfl⟩
theorem mix_hit:(hitI rMix 0 2).a=3:=by kernel_rfl
theorem wide_lv:lvB (lay2 sWide 0 false false 0 5)=true:=by kernel_rfl
theorem wide_good:goodB rWide.l=true:=by kernel_rfl
theorem wide_len:(cellsI rWide).length=7:=by kernel_rfl
theorem wide_texts:textsF (cellsI rWide) ⟨#[]⟩=⟨#[97,228,184,150,46,60,102,102,62]⟩:=by kernel_rfl
theorem mix_short:(cellsI rMix).all (fun c=>decide (c.text.size≤20))=true:=by kernel_rfl
theorem wide_short:(cellsI rWide).all (fun c=>decide (c.text.size≤20))=true:=by kernel_rfl
end
section
open Go.RowKit Go.Proofs Go.Shelf
attribute [local go_sem] Oper.semAt_some
theorem row_size:(Tryz.prog.info? 24).map (·.size)=some 5:=by kernel_rfl
theorem whole_any (s:ByteArray) (wd fin:Int) (w:World) :
 Calls Tryz.prog 49 #[.string s,.int .i64 wd,.int .i8 fin] w fun e w'=>e=.returned (rowA5 0 s.size 0 wd fin)∧Below w.heap.size w w':=by
 go_enter Tryz.func49,Tryz.ntmps49
 go_wp2_with (fail)
 have hx:=World.alloc_heap_new w (.cells #[.int .i64 0,.int .i64 s.size,.int .u8 0,.int .i64 wd,.int .i8 fin] 24)
 have hb:Below w.heap.size w (w.alloc (.cells #[.int .i64 0,.int .i64 s.size,.int .u8 0,.int .i64 wd,.int .i8 fin] 24)):=(Below.refl _ _).alloc (Nat.le_refl _) _
 refine bodyPost_ret (results_cell_row (ty:=24) rfl _ _ w.heap.size _ _ _ _ rfl hx row_under rfl row_size) rfl ⟨rfl,hb⟩
set_option maxRecDepth 100000 in
set_option maxHeartbeats 1000000 in
theorem texts_any (base n c:Nat) (a:Option Addr) (l:List Ce) (hl:l.length=n) (hn:n≤100) (hsh:∀x∈l,x.text.size≤20) (w:World) (hO:OwnS ceE 124 w base (.slice a n c) l) :
 Calls Tryz.prog 50 #[.slice a n c] w fun e w'=>e=.returned (.string (textsF l ⟨#[]⟩))∧w=w':=by
 have HO:=lh hO
 have HSH:=lh hsh
 clear hO hsh
 go_enter Tryz.func50,Tryz.ntmps50
 go_upto_block 0 with (fail)
 go_wp2_with (fail)
 go_loopw [3,4] (fun u3 u4 wx=>∃(k:Nat) (acc:ByteArray),k≤n∧u4=.int .i64 k∧u3=.string acc∧acc.size≤20*k∧textsF l ⟨#[]⟩=textsF (l.drop k) acc∧wx=w) (fun _ u4 _=>n-(intOf u4).toNat)
 case atStart=>exact⟨0,⟨#[]⟩,Nat.zero_le _,rfl,rfl,Nat.le_refl _,by rw [List.drop_zero],rfl⟩
 case round =>
  obtain⟨k,acc,hk,rfl,rfl,hac,htx,rfl⟩:=hrel
  have HTX:=lh htx
  clear htx
  by_cases hlt:k<n
  ·obtain⟨x,hx⟩:∃x,l[k]? = some x:=⟨_,List.getElem?_eq_getElem (by omega)⟩
   have hxs:=HSH.out x (List.mem_of_getElem? hx)
   have hds:l.drop k=x::l.drop (k+1):=dropR_cons hx
   obtain⟨G,eG,_,_,hc,_⟩:=(show OwnS ceE 124 wr base (.slice a l.length c) l by rw [hl];exact HO.out).at k x hx
   subst eG
   have y0:wr.cell? ⟨G,k*6,none⟩=some (.string x.text):=hc 0 _ rfl
   have hkn:(k:Int)<(n:Int):=by omega
   have hwk:IntKind.i64.wrap ((k:Int)+1)=(k:Int)+1:=by rw [IntKind.wrap_i64];omega
   have htx2:textsF l ⟨#[]⟩=textsF (l.drop (k+1)) (acc++if x.text.size=0 then ⟨#[46]⟩ else x.text):=by rw [HTX.out,hds,textsF]
   have HTX2:=lh htx2
   clear hc htx2 hds hx
   by_cases h0:x.text.size=0
   ·have hx0:x.text=⟨#[]⟩:=ByteArray.ext (Array.eq_empty_of_size_eq_zero h0)
    rw [if_pos h0] at HTX2
    rw [hx0] at y0
    go_wp2_with (fail)
    go_roundw
    case rel=>exact⟨k+1,acc++⟨#[46]⟩,by omega,by go_num,rfl,by rw [ByteArray.size_append];show acc.size+1≤_;omega,HTX2.out,trivial⟩
    case measure=>simp [intOf];omega
   ·rw [if_neg h0] at HTX2
    have hem:=ne_isEmpty x.text h0
    have hem2:(x.text.toList==(⟨#[]⟩:ByteArray).toList)=false:=by rw [bytes_beq];exact decide_eq_false (fun h=>h0 (by rw [h];rfl))
    go_wp2_with (fail)
    go_roundw
    case rel=>exact⟨k+1,acc++x.text,by omega,by go_num,rfl,by rw [ByteArray.size_append];omega,HTX2.out,trivial⟩
    case measure=>simp [intOf];omega
  ·obtain rfl:k=n:=by omega
   have hfin:textsF l ⟨#[]⟩=acc:=by rw [HTX.out,List.drop_eq_nil_of_le (by omega)];rfl
   have HFIN:=lh hfin
   clear hfin
   go_wp2_with (fail)
   go_ret
   exact⟨by rw [HFIN.out];rfl,rfl⟩
end
section
open Go.RowKit Go.Proofs
section
variable {P:Program} {ops:Array Oper} {Q:Exit→Act→World→Prop} {md:Region.Mode} {S:World→Prop}
def segHG (P:Program) (ops:Array Oper) (S:World→Prop) (Q:Exit→Act→World→Prop):List (List Nat × Nat)→List Nat→Act→World→Prop
 | [],z,a,w=>wpQuiet P ops (fun w'=>∃p:WIn S,w'=p.w) (fun a'=>Q .normal a' w) (opsAt ops z) a
 | x::t,z,a,w=>wpQuiet P ops (fun w'=>∃p:WIn S,w'=p.w) (fun a'=>(∀o,ops[x.2]? = some o→Region.wanted o (yielded ops a'.tmps)=true)∧∀K:Act→World→Prop,(∀a w,S w→segHG P ops S Q t z a w→K a w)→wpList P ops (Exit.then K Q) (opsAt ops [x.2]) a' w) (opsAt ops x.1) a
def segG (md:Region.Mode) (ops:Array Oper):List (List Nat × Nat)→List Nat→Array Bool→Bool
 | [],z,l=>headP md ops z l&&(Region.ready md ops (setL z l)).isEmpty
 | x::t,z,l=>headP md ops x.1 l&&decide (Region.ready md ops (setL x.1 l)=[x.2])&&(ops[x.2]?).isSome&&segG md ops t z ((setL x.1 l).setIfInBounds x.2 true)
def cntG (ops:Array Oper):List (List Nat × Nat)→List Nat→Nat
 | [],z=>(opsAt ops z).length
 | x::t,z=>(opsAt ops x.1).length+(cntG ops t z+1)
theorem seg_walkG (hs:Region.noSelect ops=true) (hQ:∀c a a' w,Q (.panic c) a w→Q (.panic c) a' w) :
 ∀(t:List (List Nat × Nat)) (z:List Nat) (li:Array Bool) (a:Act) (w:World),segG md ops t z li=true→S w→segHG P ops S Q t z a w→wpAnyH P md ops Q S (cntG ops t z) li a w
 | [],z,li,a,w,hB,hS,h=>by
   simp only [segG,Bool.and_eq_true] at hB
   unfold segHG at h
   have:=head_walkP (fuel:=0) hs hQ hS (opsAt ops z) z li a (headP_ops z li hB.1) hB.1 h (fun a' ha=>wpAnyH_done (by simpa using hB.2) ha 0)
   simpa [cntG] using this
 | x::t,z,li,a,w,hB,hS,h=>by
   simp only [segG,Bool.and_eq_true,decide_eq_true_eq] at hB
   obtain⟨⟨⟨hB1,hr⟩,hl⟩,hB2⟩:=hB
   unfold segHG at h
   unfold cntG
   cases hok:ops[x.2]? with
   | none=>rw [hok] at hl;cases hl
   | some o =>
     have hd:opsAt ops [x.2]=[o]:=by unfold opsAt;simp [hok]
     refine head_walkP hs hQ hS (opsAt ops x.1) x.1 li a (headP_ops x.1 li hB1) hB1 h (fun a' ha=>?_)
     rw [hd] at ha
     exact loud_walk hok hr hS (ha.1 o hok) ha.2 (fun a2 w2 hS2 h2=>seg_walkG hs hQ t z _ a2 w2 hB2 hS2 h2)
theorem wp_region_segG {id:Nat} {a:Act} {w:World} {l:List Oper} (S:World→Prop) (t:List (List Nat × Nat)) (z:List Nat) (hm:P.follows .mixedOrders=true)
 (hB:(Region.noSelect l.toArray&&segG .any l.toArray t z (Array.replicate l.length false)&&decide (cntG l.toArray t z=l.length))=true)
 (hS:S w.drew) (h:segHG P l.toArray S (NoPanic Q) t z a w.drew):(Code.region id l.toArray true).wp P Q a w:=by
 simp only [Bool.and_eq_true,decide_eq_true_eq] at hB
 refine wp_region_noPanic (wp_region_any hm (wpAny_of_held _ _ _ _ (?_:wpAnyH P .any l.toArray (NoPanic Q) S _ _ a w.drew)))
 have:=seg_walkG (md:=.any) hB.1.1 (fun _ _ _ _ h=>h) t z _ a w.drew hB.1.2 hS h
 rw [hB.2] at this
 simpa using this
end
end
end Go.Proofs.YtlmjbfncopbilaaGreatDoor
