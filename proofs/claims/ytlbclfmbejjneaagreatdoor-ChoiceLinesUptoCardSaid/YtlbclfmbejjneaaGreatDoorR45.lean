/- Part 45 (merged by a program): lemmas of no further condition than each states. -/
import Derived.Test.YtlbclfmbejjneaaGreatDoorR44
namespace Go.Proofs.YtlbclfmbejjneaaGreatDoor
set_option linter.unusedVariables false
set_option linter.unusedSimpArgs false
section
open Go.RowKit Go.Proofs Go.Shelf
attribute [local go_sem] Oper.semAt_some
def rowsN (wd tab want:Int) (wideA raw:Bool):List (Nat × ByteArray)→Nat
 | []=>0
 | p::t=>(rowsI p.2 wd tab want wideA raw).length+rowsN wd tab want wideA raw t
theorem row_read4 {X:World} {b e k z:Nat} {v:Value} {xs:List Value} (h:X.ownsRow b e z v k xs):∃a cap,v=.slice a k cap∧True:=by
 rcases h.2 with ⟨h1,h0⟩ | ⟨g,cap',cur,h1,_⟩
 ·exact⟨none,0,by rw [h1,h0],trivial⟩
 ·exact⟨_,_,h1,trivial⟩
set_option maxRecDepth 100000 in
set_option maxHeartbeats 1000000 in
theorem Cover_any (s:ByteArray) (hs:s.size≤2097152) (wd tab want:Int) (wideA join raw:Bool) (f t:Int) (hN:(coverI s wd tab want wideA join raw f t).length≤1000) (hR:rowsN wd tab want wideA raw (linesI s)≤1000) (w:World) (hT:T8 w) (hD:DB w) :
 Calls Tryz.prog 43 #[.string s,.int .i64 wd,lookV tab want wideA join raw,.int .i64 f,.int .i64 t] w fun e w'=>∃a c,
  e=.returned (.slice a (coverI s wd tab want wideA join raw f t).length c)∧OwnS rcE 90 w' w.heap.size (.slice a (coverI s wd tab want wideA join raw f t).length c) (coverI s wd tab want wideA join raw f t)∧Below w.heap.size w w':=by
 obtain⟨l1,l2,l3⟩:=lohi f t s.size (by omega)
 have HG:Hid (coverI s wd tab want wideA join raw f t=coverF wd tab want wideA join raw (loI f t s.size) (hiI f t s.size) (linesI s) 0):=lh rfl
 obtain⟨res,hres⟩:∃r,coverI s wd tab want wideA join raw f t=r:=⟨_,rfl⟩
 rw [hres] at HG hN ⊢
 have HSO:=lh (fun (W:World)=>sorted_any f t s.size W)
 obtain⟨lo,hlo⟩:∃lo,loI f t s.size=lo:=⟨_,rfl⟩
 obtain⟨hi,hhi⟩:∃hi,hiI f t s.size=hi:=⟨_,rfl⟩
 rw [hlo,hhi] at HG
 rw [hlo,hhi] at HSO
 rw [hlo] at l1 l2
 rw [hhi] at l2 l3
 have h3:Tryz.lays197_ren.g 3<w.heap.size:=cell_lt (hT.1 0 (by omega))
 have h4:Tryz.lays197_ren.g 4<w.heap.size:=cell_lt (hT.2 0 (by omega)).1
 obtain⟨B,hB⟩:∃B,w.heap.size=B:=⟨_,rfl⟩
 have HT:=lh (fun (W:World) (h:Below w.heap.size w W)=>(⟨hT.below rfl h,hD.below h⟩:T8 W∧DB W))
 clear hT hD hres hlo hhi
 refine (callsIn_wide (n:=4)).1 ?_
 refine callsIn_of_wp_marks Tryz.func43 rfl trivial ?_ rfl
 simp only [Tryz.ntmps43,List.size_toArray,List.length_cons,List.length_nil,Nat.reduceAdd,Nat.reduceSub,Array.replicate_succ,Array.replicate_zero,List.push_toArray,List.append_toArray,List.nil_append,List.cons_append]
 gi_upto_region 1 with (fail)
 obtain⟨m1,m2,m3⟩:=two_alloc w (.cells #[.int .i64 wd] 3 (0,0)) (.cells #[.int .i64 tab,.bool wideA,.int .i8 want,.bool join,.bool raw] 26 (0,0))
 have hz2:((w.alloc (.cells #[.int .i64 wd] 3)).alloc (.cells #[.int .i64 tab,.bool wideA,.int .i8 want,.bool join,.bool raw] 26)).heap.size=w.heap.size+2:=by rw [World.size_alloc,World.size_alloc]
 generalize (w.alloc (.cells #[.int .i64 wd] 3)).alloc (.cells #[.int .i64 tab,.bool wideA,.int .i8 want,.bool join,.bool raw] 26)=W1 at m1 m2 m3 hz2 ⊢
 have HB1:=lh m3
 try rw [hB]
 rw [hB] at m1 m2 hz2 h3 h4
 have M1:=lh m1
 have M2:=lh m2
 clear m1 m2 m3
 gi_wp2_with (fail)
 refine⟨trivial,?_⟩
 refine (callsIn_wide.2 (HSO.out W1)).mono ?_
 rintro e' W2 ⟨rfl,hb2⟩
 gi_upto_region 2 with (fail)
 have hx3:=World.alloc_heap_new W2 (.cells #[.int .i64 lo,.int .i64 hi] 59)
 have hb3:Below W1.heap.size W1 (W2.alloc (.cells #[.int .i64 lo,.int .i64 hi] 59)):=hb2.alloc hb2.size _
 have hz3:(W2.alloc (.cells #[.int .i64 lo,.int .i64 hi] 59)).heap.size=W2.heap.size+1:=World.size_alloc _ _
 have hz2':=hb2.size
 generalize W2.alloc (.cells #[.int .i64 lo,.int .i64 hi] 59)=W3 at hx3 hb3 hz3 ⊢
 obtain⟨C,hC⟩:∃C,W2.heap.size=C:=⟨_,rfl⟩
 rw [hC] at hx3 hz3 hz2' ⊢
 have hzC:B+2≤C:=by omega
 have HM1:=lh ((hb3.block B (by omega)).trans M1.out)
 have HM2:=lh ((hb3.block (B+1) (by omega)).trans M2.out)
 have HX3:=lh hx3
 have HB3:=lh (HB1.out.trans (hb3.mono (by omega)))
 clear hx3 hb3 hb2 M1 M2 HB1 hC
 gi_upto_region 4 with (fail)
 obtain⟨n1,n2,n3⟩:=two_alloc W3 (.cells #[.slice none 0 0] 91 (0,0)) (.cells #[.int .i64 0] 3 (0,0))
 have hz5:((W3.alloc (.cells #[.slice none 0 0] 91)).alloc (.cells #[.int .i64 0] 3)).heap.size=W3.heap.size+2:=by rw [World.size_alloc,World.size_alloc]
 generalize (W3.alloc (.cells #[.slice none 0 0] 91)).alloc (.cells #[.int .i64 0] 3)=W5 at n1 n2 n3 hz5 ⊢
 rw [hz3] at n1 n2 hz5
 try rw [hz3]
 have N1:=lh n1
 have N2:=lh n2
 have N3:=lh n3
 clear n1 n2 n3
 gi_wp2_with (fail)
 refine⟨trivial,?_⟩
 refine (callsIn_wide.2 (Lines3_any s W5 _ hz5)).mono ?_
 rintro e' W6 ⟨rfl,hx6,hb6,hz6⟩
 have hI5:=rc_info
 obtain⟨i5,hi5,hz5',ha5,hby5⟩:=info_parts hI5
 obtain⟨z,hzz⟩:∃z,C+1+2=z:=⟨_,rfl⟩
 rw [hzz] at hx6 hz5 hz6 ⊢
 have hb56:=hb6.size
 have q0:=(hb6.block B (by omega)).trans ((N3.out.block B (by omega)).trans HM1.out)
 have q1:=(hb6.block (B+1) (by omega)).trans ((N3.out.block (B+1) (by omega)).trans HM2.out)
 have q2:=(hb6.block C (by omega)).trans ((N3.out.block C (by omega)).trans HX3.out)
 have q3:Boxed W6 (C+1) 91 (.slice none 0 0):=(hb6.block (C+1) (by omega)).trans N1.out
 have q4:Boxed W6 (C+1+1) 3 (.int .i64 0):=(hb6.block (C+1+1) (by omega)).trans N2.out
 have q5:Below B w W6:=hB▸(HB3.out.trans (N3.out.mono (by omega))).trans (hb6.mono (by omega))
 have hT6:=HT.out W6 (hB▸q5)
 have hb0:CvB B C (C+1) (C+1+1) z wd tab want wideA join raw lo hi w [] 0 W6:=⟨⟨_,q3,World.ownsRow_nil _ _ _ _⟩,q4,q0,q1,q2,q5⟩
 have HB0:=lh hb0
 have HTT:=lh hT6
 clear q0 q1 q2 q3 q4 q5 HM1 HM2 HX3 N1 N2 N3 HB3 hT6 hb0 hb6
 gi_wp2_with (fail)
 refine wpIn_rangeFunc_ownC (by omega) (gf:=46) (lb:=#[.pointer (some ⟨z,0,none⟩)]) rfl trivial (enters_of Tryz.func46 (by kernel_rfl) rfl)
  (lines_stopsC z B (cvP z) s hs h3 h4 W6 (by omega) hx6 HTT.out.1 (fun h=>by rcases h with h | h;exact absurd h (by omega);exact absurd h (by decide)) (fun b t hb ht h=>by rcases h with h | h;exact absurd h (by omega);rcases ht with e | e | e <;> (rw [e] at h;exact absurd h (by decide))))
  (fun h k=>KpX.trans h k) (kpX_put (w:=W6) (by omega)) (Below.refl _ _) (fun _=>rfl)
  (fun pre X=>∃out y,pre.map (·.1)=(linesI s).take pre.length∧res=out++coverF wd tab want wideA join raw lo hi ((linesI s).drop pre.length) y∧0≤y∧y+(rowsN wd tab want wideA raw ((linesI s).drop pre.length):Int)≤1000∧CvB B C (C+1) (C+1+1) z wd tab want wideA join raw lo hi w out y X)
  (fun _ _ _=>False) ?hI (fun _ _ _ _ _ h _ _=>h) ?h0
  (fun x=>{ tmps:=#[.string s,.int .i64 wd,lookV tab want wideA join raw,.int .i64 f,.int .i64 t,undef,.pointer (some ⟨B,0,none⟩),.pointer (some ⟨B+1,0,none⟩),undef,undef,.slice none 0 0,.pointer (some ⟨C,0,none⟩),.pointer (some ⟨C+1,0,none⟩),.pointer (some ⟨C+1+1,0,none⟩),.int .i64 x.1.1,.string x.1.2,undef,undef,undef,undef,.int .i64 f,.int .i64 t,.string s,.int .i64 s.size,.agg #[.int .i64 lo,.int .i64 hi],.string s,.func (.func 46) #[] #[.pointer (some ⟨z,0,none⟩)],.int .i64 x.1.1,.string x.1.2,undef,undef,undef,undef,undef,undef,undef,undef,undef,undef,undef,undef,undef,undef,undef,undef,undef,undef,undef,undef,undef,undef,undef,undef,undef,undef,undef,undef,undef,undef,undef,undef,undef,undef,undef,undef,undef,undef,undef,undef],defers:=[] }) ?assign ?body ?done ?stop
 case hI =>
  rintro pre X X' row ⟨out,y,r1,r2,r3,r4,r5⟩ hg hrow
  rw [hz6] at hrow
  exact⟨out,y,r1,r2,r3,r4,r5.stays (by omega) (by omega) (by omega) (by omega) (by omega) hg hrow⟩
 case h0=>exact⟨[],0,rfl,by rw [HG.out];rfl,Int.le_refl _,by rw [List.length_nil,List.drop_zero];omega,HB0.out⟩
 case assign =>
  intro l' x W' K hK
  gi_wp2_with (fail)
  exact hK
 case body =>
  rintro l' pre x X ⟨out,y,r1,r2,r3,r4,r5⟩ hsp hge
  rw [hz6] at hge
  obtain⟨at',hat⟩:∃a,x.1.1=a:=⟨_,rfl⟩
  obtain⟨line,hcc⟩:∃c,x.1.2=c:=⟨_,rfl⟩
  have hx:=x.2
  rw [hat,hcc] at hx
  obtain⟨T,hT⟩:=hsp
  have hd1:(linesI s).drop pre.length=x.1::T:=by
   rw [←hT,List.map_append,List.append_assoc,List.drop_left' (by rw [List.length_map]),List.map_singleton,List.singleton_append]
  have hd2:(linesI s).drop (pre++[x]).length=T:=by
   rw [←hT,List.drop_left' (by rw [List.length_map])]
  have ht2:(linesI s).take (pre++[x]).length=(pre++[x]).map (·.1):=by
   rw [←hT,List.take_left' (by rw [List.length_map])]
  rw [hd1,coverF,hat,hcc] at r2
  rw [hd1,rowsN,hcc] at r4
  simp only [hat,hcc]
  obtain⟨rows,hrows⟩:∃r,rowsI line wd tab want wideA raw=r:=⟨_,rfl⟩
  obtain⟨n,hn⟩:∃n,rows.length=n:=⟨_,rfl⟩
  obtain⟨tail,htail⟩:∃q,coverF wd tab want wideA join raw lo hi T (y+n)=q:=⟨_,rfl⟩
  rw [hrows,hn,htail] at r2
  rw [hrows,hn] at r4
  have HRW:=lh (fun (W:World) (h:Below w.heap.size w W)=>(Rows_any line wd tab want wideA join raw W (HT.out W h).1 (HT.out W h).2).mono (fun e w' h=>(by rw [hrows,hn] at h;exact h:∃pa cap,e=.returned (.slice pa n cap)∧OwnR w' W.heap.size (.slice pa n cap) rows∧Below W.heap.size W w')))
  have HTL:=lh htail
  have HD2:=lh hd2
  have HT2:=lh ht2
  have HNR:=lh hn
  have HRES:=lh r2
  have S0:=lh (CvB.start r5)
  obtain⟨⟨v0,_,_⟩,_,b4,b5,b6,b7⟩:=r5
  have c1:=b4.cell
  have k0:X.cell? ⟨B+1,0,none⟩=some (.int .i64 tab):=by simp [World.cell?,b5]
  have k1:X.cell? ⟨B+1,1,none⟩=some (.bool wideA):=by simp [World.cell?,b5]
  have k2:X.cell? ⟨B+1,2,none⟩=some (.int .i8 want):=by simp [World.cell?,b5]
  have k3:X.cell? ⟨B+1,3,none⟩=some (.bool join):=by simp [World.cell?,b5]
  have k4:X.cell? ⟨B+1,4,none⟩=some (.bool raw):=by simp [World.cell?,b5]
  have HB7:=lh (hB▸b7)
  have HC:=HRW.out X HB7.out
  clear hat hcc hT hd1 hd2 ht2 r1 r2 hrows htail b4 b5 b6 b7 hn HG
  gi_wp2_with (fail)
  refine⟨trivial,?_⟩
  refine (callsIn_wide.2 HC).mono ?_
  rintro e' Y ⟨pa,cap,rfl,hO,hbY⟩
  clear HC c1 k0 k1 k2 k3 k4
  have hXY:=hbY.size
  have S1:=lh (CvS.below (by omega) (by omega) (by omega) (by omega) (by omega) S0.out hbY)
  have HO:=lh hO
  clear hO hbY
  gi_wp2_with (fail)
  gi_loopw [34] (fun u34 wr=>∃(i:Nat) (o1:List Rc),i≤n∧u34=.int .i64 i∧res=o1++(rcRows line tab want wideA join raw (lo-at') (hi-at') (rows.drop i) (y+i)++tail)∧CvS B C (C+1) (C+1+1) z wd tab want wideA join raw lo hi w Y o1 (y+i) wr) (fun u34 _=>n-(intOf u34).toNat)
  case atStart =>
   have hy0:y+((0:Nat):Int)=y:=by omega
   exact⟨0,out,Nat.zero_le _,rfl,by rw [hy0,List.drop_zero];exact HRES.out,by rw [hy0];exact CvB.start S1.out.base⟩
  case round =>
   obtain⟨i,o1,hin,rfl,hr1,hS⟩:=hrel
   by_cases hlt:i<n
   ·obtain⟨r,hr⟩:∃r,rows[i]? = some r:=⟨_,List.getElem?_eq_getElem (by have:=HNR.out;omega)⟩
    have hOr:OwnR wr X.heap.size (.slice pa n cap) rows:=own_kpx HO.out hS.2.2.2.2.2.2.2.2 (fun b hb h=>by rcases h with h | h;omega;exact absurd h (by decide))
    have hRd:RdR wr pa rows:=OwnR.rd (by rw [HNR.out];exact hOr)
    obtain⟨b,off,eb,_,x0,x1,x2,x3,x4⟩:=hRd.at i r hr
    subst eb
    have hds:rows.drop i=r::rows.drop (i+1):=dropR_cons hr
    rw [hds,rcRows,List.append_assoc] at hr1
    obtain⟨tail2,ht2⟩:∃q,rcRows line tab want wideA join raw (lo-at') (hi-at') (rows.drop (i+1)) (y+i+1)++tail=q:=⟨_,rfl⟩
    rw [ht2] at hr1
    unfold rcRow at hr1
    have hil:(i:Int)<(n:Int):=by omega
    have HTA:=lh ht2
    have HS:=lh hS
    have hzr:z<wr.heap.size:=by have:=(hS.2.2.2.2.2.2.1 (by omega));omega
    clear hOr hRd hds ht2 hr hS
    gi_upto_region 10 with (fail)
    have hbA:Below wr.heap.size wr (wr.alloc (.cells #[.int .i64 r.a,.int .i64 r.len,.int .u8 r.level,.int .i64 r.wide,.int .i8 r.fin] 24)):=(Below.refl _ _).alloc (Nat.le_refl _) _
    have hyA:=World.alloc_heap_new wr (.cells #[.int .i64 r.a,.int .i64 r.len,.int .u8 r.level,.int .i64 r.wide,.int .i8 r.fin] 24)
    have hzA:(wr.alloc (.cells #[.int .i64 r.a,.int .i64 r.len,.int .u8 r.level,.int .i64 r.wide,.int .i8 r.fin] 24)).heap.size=wr.heap.size+1:=World.size_alloc _ _
    generalize wr.alloc (.cells #[.int .i64 r.a,.int .i64 r.len,.int .u8 r.level,.int .i64 r.wide,.int .i8 r.fin] 24)=Z at hbA hyA hzA ⊢
    obtain⟨R,hRR⟩:∃R,wr.heap.size=R:=⟨_,rfl⟩
    have SA:=lh (CvS.below (by omega) (by omega) (by omega) (by omega) hzr HS.out hbA)
    rw [hRR] at hyA hzA hzr ⊢
    have y0:Z.cell? ⟨R,0,none⟩=some (.int .i64 r.a):=by simp [World.cell?,hyA]
    have y1:Z.cell? ⟨R,1,none⟩=some (.int .i64 r.len):=by simp [World.cell?,hyA]
    have y2:Z.cell? ⟨R,2,none⟩=some (.int .u8 r.level):=by simp [World.cell?,hyA]
    have y3:Z.cell? ⟨R,3,none⟩=some (.int .i64 r.wide):=by simp [World.cell?,hyA]
    have y4:Z.cell? ⟨R,4,none⟩=some (.int .i8 r.fin):=by simp [World.cell?,hyA]
    obtain⟨_,_,_,b5,b6,b7,_,_,_⟩:=SA.out
    have k0:Z.cell? ⟨B+1,0,none⟩=some (.int .i64 tab):=by simp [World.cell?,b5]
    have k1:Z.cell? ⟨B+1,1,none⟩=some (.bool wideA):=by simp [World.cell?,b5]
    have k2:Z.cell? ⟨B+1,2,none⟩=some (.int .i8 want):=by simp [World.cell?,b5]
    have k3:Z.cell? ⟨B+1,3,none⟩=some (.bool join):=by simp [World.cell?,b5]
    have k4:Z.cell? ⟨B+1,4,none⟩=some (.bool raw):=by simp [World.cell?,b5]
    have c0:Z.cell? ⟨C,0,none⟩=some (.int .i64 lo):=by simp [World.cell?,b6]
    have c1:Z.cell? ⟨C,1,none⟩=some (.int .i64 hi):=by simp [World.cell?,b6]
    have hbZw:Below w.heap.size w Z:=hB▸b7
    have hwl:IntKind.i64.wrap (lo-(at':Int))=lo-at':=by rw [IntKind.wrap_i64];omega
    have hwh:IntKind.i64.wrap (hi-(at':Int))=hi-at':=by rw [IntKind.wrap_i64];omega
    have HSP:=Spans_any line (by omega) r.a r.len r.level r.wide r.fin tab want (lo-at') (hi-at') wideA join raw Z (HT.out Z hbZw).1 (HT.out Z hbZw).2
    obtain⟨sp,hsp⟩:∃q,spansI (cellsI (layI line tab want wideA join raw r.a r.len r.wide)) (loI (lo-at') (hi-at') line.size) (hiI (lo-at') (hi-at') line.size)=q:=⟨_,rfl⟩
    obtain⟨m,hm⟩:∃m,sp.length=m:=⟨_,rfl⟩
    rw [hsp,hm] at HSP
    rw [hsp] at hr1
    have hm1k:m≤1000:=by
     have h1:=congrArg List.length hr1
     rw [List.length_append,List.length_append,List.length_map] at h1
     omega
    have HR1:=lh hr1
    have HM:=lh hm
    have HSPP:=lh HSP
    clear hbA hyA b5 b6 b7 hbZw hsp hm hr1 x0 x1 x2 x3 x4 HSP hRR
    gi_wp2_with (fail)
    refine⟨trivial,?_⟩
    refine (callsIn_wide.2 HSPP.out).mono ?_
    rintro e' Z2 ⟨sa,sc,rfl,hOs,hbZ⟩
    have hZZ:=hbZ.size
    have S2:=lh (CvS.below (by omega) (by omega) (by omega) (by omega) (by omega) SA.out hbZ)
    have HOS:=lh hOs
    clear hOs hbZ HSPP y0 y1 y2 y3 y4 k0 k1 k2 k3 k4 c0 c1
    gi_wp2_with (fail)
    gi_loopw [51] (fun u51 wr2=>∃(j:Nat) (o2:List Rc),j≤m∧u51=.int .i64 j∧res=o2++(((sp.drop j).map fun p=>(⟨p.1,y+i,p.2,1⟩:Rc))++tail2)∧CvS B C (C+1) (C+1+1) z wd tab want wideA join raw lo hi w Z2 o2 (y+i) wr2) (fun u51 _=>m-(intOf u51).toNat)
    case atStart=>exact⟨0,o1,Nat.zero_le _,rfl,by rw [List.drop_zero];exact HR1.out,CvB.start S2.out.base⟩
    case round =>
     obtain⟨j,o2,hjm,rfl,hr2,hS2⟩:=hrel
     by_cases hjl:j<m
     ·obtain⟨q,hq⟩:∃q,sp[j]? = some q:=⟨_,List.getElem?_eq_getElem (by have:=HM.out;omega)⟩
      have hOq:OwnS spE 59 wr Z.heap.size (.slice sa m sc) sp:=own_kpx HOS.out hS2.2.2.2.2.2.2.2.2 (fun b hb h=>by rcases h with h | h;omega;exact absurd h (by decide))
      obtain⟨G,eG,s0,s1⟩:=sp_at HM.out hOq j q hq
      subst eG
      have hds:sp.drop j=q::sp.drop (j+1):=dropR_cons hq
      rw [hds,List.map_cons] at hr2
      have hol:o2.length+1≤1000:=by
       have:=congrArg List.length hr2
       rw [List.length_append,List.length_append,List.length_cons] at this
       omega
      have hjl':(j:Int)<(m:Int):=by omega
      have hzr2:z+5≤wr.heap.size:=hS2.2.2.2.2.2.2.1 (by omega)
      have HR2:=lh hr2
      have HS2:=lh hS2
      have HJL:=lh hjl
      clear hq hOq hds hr2 hS2
      gi_upto_region 13 with (fail)
      have hbA:Below wr.heap.size wr (wr.alloc (.cells #[.int .i64 q.1,.int .i64 q.2] 59)):=(Below.refl _ _).alloc (Nat.le_refl _) _
      have hyA:=World.alloc_heap_new wr (.cells #[.int .i64 q.1,.int .i64 q.2] 59)
      have hzA':(wr.alloc (.cells #[.int .i64 q.1,.int .i64 q.2] 59)).heap.size=wr.heap.size+1:=World.size_alloc _ _
      generalize wr.alloc (.cells #[.int .i64 q.1,.int .i64 q.2] 59)=V at hbA hyA hzA' ⊢
      obtain⟨R2,hR2⟩:∃R,wr.heap.size=R:=⟨_,rfl⟩
      have hs3:=CvS.below (by omega) (by omega) (by omega) (by omega) (by omega) HS2.out hbA
      rw [hR2] at hyA hzA' hzr2 ⊢
      have y0:V.cell? ⟨R2,0,none⟩=some (.int .i64 q.1):=by simp [World.cell?,hyA]
      have y1:V.cell? ⟨R2,1,none⟩=some (.int .i64 q.2):=by simp [World.cell?,hyA]
      have S3:=lh hs3
      obtain⟨⟨v,v1,v2⟩,v3,_⟩:=hs3
      have d1:=v1.cell
      have d3:=v3.cell
      have V1:=lh v1
      have V2:=lh v2
      clear hbA hyA v1 v2 v3 hR2
      have hbB:Below V.heap.size V (V.alloc (.cells #[.int .i64 q.1,.int .i64 (y+i),.int .i64 q.2,.int .i64 1] 90)):=(Below.refl _ _).alloc (Nat.le_refl _) _
      have SB:=lh (CvS.below (by omega) (by omega) (by omega) (by omega) (by omega) S3.out hbB)
      have hzV:z+5≤V.heap.size:=by omega
      clear hbB hzA'
      gi_wp2_with (gi_at_builtin;refine wpListIn_append_own _ rfl _ _ 91 rfl (z+5) 90 i5 _ 4 32 Tryz.underlying91 hi5 hz5' ha5 hby5 rfl (by decide) v o2.length _ rfl (V2.out.alloc _) ⟨V.heap.size,0,none⟩ 1 1 [.int .i64 q.1,.int .i64 (y+i),.int .i64 q.2,.int .i64 1] rfl rfl (newS _ _ _) (by simp [Value.oneCell']) (by unfold maxLen;omega) (by omega) (by rw [World.size_alloc];omega) ?_;intro v' V3 ho3 hg3 _;obtain⟨g',cap',rfl⟩:=ownsRow_succ ho3;obtain⟨hM1,hM2⟩:=CvS.more (r:=⟨q.1,y+i,q.2,1⟩) (by omega) (by omega) (by omega) (by omega) (by omega) (by omega) (by omega) SB.out (V1.out.alloc _) (V2.out.alloc _) hg3 ho3;have d5:=hM2.cell;have d6:=hM2.frozen;have HMO:=lh hM1;clear hM1 hM2 ho3 hg3)
      go_roundw
      case rel=>exact⟨j+1,o2++[⟨q.1,y+i,q.2,1⟩],by have:=HJL.out;omega,by go_num,by rw [HR2.out];simp [List.append_assoc],HMO.out⟩
      case measure=>have:=HJL.out;simp [intOf];omega
     ·obtain rfl:j=m:=by omega
      have hm2:=HM.out
      rw [List.drop_eq_nil_of_le (by omega),List.map_nil,List.nil_append] at hr2
      have HR2:=lh hr2
      have hAll:=CvS.and S2.out hS2
      obtain⟨_,v3,_⟩:=hS2
      have d3:=v3.cell
      have d4:=v3.frozen
      have HSY:=lh (CvS.setY (by omega) (by omega) (by omega) (by omega) (by omega) (by omega) hAll (y+i+1))
      have hwy:IntKind.i64.wrap (y+(i:Int)+1)=y+i+1:=by rw [IntKind.wrap_i64];omega
      have hei:y+(i:Int)+1=y+((i+1:Nat):Int):=by omega
      have HEI:=lh hei
      clear hr2 hAll v3 hei hm2
      gi_wp2_with (fail)
      go_roundw
      case rel=>exact⟨i+1,o2,by omega,by go_num,by rw [HR2.out,←HTA.out,HEI.out],by rw [←HEI.out];exact HSY.out⟩
      case measure=>simp [intOf];omega
   ·obtain rfl:i=n:=by omega
    have hn2:=HNR.out
    rw [List.drop_eq_nil_of_le (by omega),rcRows,List.nil_append,←HTL.out] at hr1
    have HE:=lh hr1
    have HAll:=lh (CvS.and S1.out hS)
    clear hr1 hS hn2
    gi_wp2_with (fail)
    refine⟨by rw [hz6];exact HAll.out.2.2.2.2.2.2.2.1,HAll.out.2.2.2.2.2.2.2.2,o1,y+i,HT2.out.symm,by rw [HD2.out];exact HE.out,by omega,?_,HAll.out.base⟩
    rw [HD2.out]
    omega
 case done =>
  rintro D xs W hD hxs ⟨out,y,r1,r2,r3,r4,⟨v,b1,b2⟩,b3,b4,b5,b6,b7⟩ hK
  have hl:xs.length=(linesI s).length:=by rw [←hxs,List.length_map]
  have hres:res=out:=by
   rw [r2,hl,List.drop_length,coverF,List.append_nil]
  have c1:=b1.cell
  have HV:=lh b2
  have HB7:=lh b7
  subst hres
  clear r1 r2 r3 r4 b1 b2 b3 b4 b5 b6 b7 hxs hl HG
  gi_wp2_with (fail)
  obtain⟨va,vc,rfl,_⟩:=row_read4 HV.out
  refine⟨by simp,.inl ⟨_,_,rfl,run_takeDeferred hK,?_⟩⟩
  refine⟨_,results_tmp rfl _ _ _,va,vc,rfl,?_,?_⟩
  ·rw [hB]
   exact ownsRow_base (ownsRow_putObj HV.out _ hK rfl) (by omega)
  ·rw [hB]
   exact HB7.out.trans (belowK_b (w:=w) (by omega) W D _ _ (by omega) hK rfl rfl)
 case stop =>
  rintro D c pre W hD _ h _
  exact h.elim
end
section
open Go.RowKit Go.Proofs Go.Shelf
attribute [local go_sem] Oper.semAt_some
theorem own_new (W:World) (t k n:Nat) (xs:List Value) (hx:xs.length=n*k) (hn:n≤maxLen):(W.alloc (.cells xs.toArray t)).ownsRow W.heap.size t k (.slice (some ⟨W.heap.size,0,none⟩) n n) n xs :=
 ⟨hx,.inr ⟨W.heap.size,n,xs.toArray,rfl,Nat.le_refl _,World.alloc_heap_new W _,Nat.le_refl _,hn,by simp [hx],by simp [←hx]⟩⟩
theorem ln_rows:rowsN 9 0 0 false false (linesI sLn)=2:=by kernel_rfl
theorem grow_of (s:ByteArray) (hs:s.size≤2097152) (f t how:Int) (r:Int × Int) (hr:growI s f t how=r) (W:World) (hT:T8 W) :
 Calls Tryz.prog 28 #[.string s,.int .i64 f,.int .i64 t,.int .i8 how] W fun e w'=>e=.returned (.tuple #[.int .i64 r.1,.int .i64 r.2])∧Below W.heap.size W w':=by
 have:=Grow_any s hs f t how W hT
 rw [hr] at this
 exact this
theorem spans_of (s:ByteArray) (hs:s.size≤2097152) (ra rl lev rwd fin tab want f t:Int) (wideA join raw:Bool) (l:List (Int × Int)) (n:Nat) (hl:spansI (cellsI (layI s tab want wideA join raw ra rl rwd)) (loI f t s.size) (hiI f t s.size)=l) (hn:l.length=n) (W:World) (hT:T8 W) (hD:DB W) :
 Calls Tryz.prog 25 #[.string s,.agg #[.int .i64 ra,.int .i64 rl,.int .u8 lev,.int .i64 rwd,.int .i8 fin],.agg #[.int .i64 tab,.bool wideA,.int .i8 want,.bool join,.bool raw],.int .i64 f,.int .i64 t] W fun e w'=>∃a c,
  e=.returned (.slice a n c)∧OwnS spE 59 w' W.heap.size (.slice a n c) l∧Below W.heap.size W w':=by
 have:=Spans_any s hs ra rl lev rwd fin tab want f t wideA join raw W hT hD
 rw [hl,hn] at this
 exact this
theorem same2_of (l:List (Int × Int)) (n:Nat) (hn:l.length=n) (hz:n≤39845888) (W:World) (b:Nat) (a:Option Addr) (c:Nat) (hO:OwnS spE 59 W b (.slice a n c) l) (xs:List Value) (hx:l.flatMap spE.enc=xs) :
 Calls Tryz.prog 31 #[.slice a n c,.slice (some ⟨W.heap.size,0,none⟩) n n] (W.alloc (.cells xs.toArray 59)) fun e w'=>e=.returned (.bool true)∧Below W.heap.size W w':=by
 have hb:Below W.heap.size W (W.alloc (.cells xs.toArray 59)):=(Below.refl _ _).alloc (Nat.le_refl _) _
 have h2:OwnS spE 59 (W.alloc (.cells xs.toArray 59)) W.heap.size (.slice (some ⟨W.heap.size,0,none⟩) n n) l:=by
  unfold OwnS
  rw [hn,hx]
  refine own_new W _ _ n xs ?_ (by unfold maxLen;omega)
  have:=hO.1
  rw [hx,hn] at this
  exact this
 refine (same2_any l l n n hn hn hz hz _ _ _ _ _ _ _ (hO.keep hb) h2).mono ?_
 rintro e w' ⟨rfl,d,rfl⟩
 exact⟨by rw [decide_eq_true rfl],bl_drewN hb d⟩
theorem same4_of (l:List Rc) (n:Nat) (hn:l.length=n) (hz:n≤39845888) (W:World) (b:Nat) (a:Option Addr) (c:Nat) (hO:OwnS rcE 90 W b (.slice a n c) l) (xs:List Value) (hx:l.flatMap rcE.enc=xs) :
 Calls Tryz.prog 42 #[.slice a n c,.slice (some ⟨W.heap.size,0,none⟩) n n] (W.alloc (.cells xs.toArray 90)) fun e w'=>e=.returned (.bool true)∧Below W.heap.size W w':=by
 have hb:Below W.heap.size W (W.alloc (.cells xs.toArray 90)):=(Below.refl _ _).alloc (Nat.le_refl _) _
 have h2:OwnS rcE 90 (W.alloc (.cells xs.toArray 90)) W.heap.size (.slice (some ⟨W.heap.size,0,none⟩) n n) l:=by
  unfold OwnS
  rw [hn,hx]
  refine own_new W _ _ n xs ?_ (by unfold maxLen;omega)
  have:=hO.1
  rw [hx,hn] at this
  exact this
 refine (same4_any l l n n hn hn hz hz _ _ _ _ _ _ _ (hO.keep hb) h2).mono ?_
 rintro e w' ⟨rfl,d,rfl⟩
 exact⟨by rw [decide_eq_true rfl],bl_drewN hb d⟩
theorem cover_of (s:ByteArray) (hs:s.size≤2097152) (wd tab want:Int) (wideA join raw:Bool) (f t:Int) (l:List Rc) (n:Nat) (hl:coverI s wd tab want wideA join raw f t=l) (hn:l.length=n) (hz:n≤1000) (hR:rowsN wd tab want wideA raw (linesI s)≤1000) (W:World) (hT:T8 W) (hD:DB W) :
 Calls Tryz.prog 43 #[.string s,.int .i64 wd,.agg #[.int .i64 tab,.bool wideA,.int .i8 want,.bool join,.bool raw],.int .i64 f,.int .i64 t] W fun e w'=>∃a c,
  e=.returned (.slice a n c)∧OwnS rcE 90 w' W.heap.size (.slice a n c) l∧Below W.heap.size W w':=by
 have:=Cover_any s hs wd tab want wideA join raw f t (by rw [hl,hn];exact hz) hR W hT hD
 rw [hl,hn] at this
 exact this
set_option maxRecDepth 100000 in
set_option maxHeartbeats 1000000 in
theorem works_any (w:World) (hT:T8 w) (hD:DB w):Calls Tryz.prog 24 #[] w fun e w'=>e=.returned (.bool true)∧Below w.heap.size w w':=by
 have HT:=lh (fun (W:World) (h:Below w.heap.size w W)=>(⟨hT.below rfl h,hD.below h⟩:T8 W∧DB W))
 have HGA:=lh (fun (W:World) (h:Below w.heap.size w W)=>grow_of sAb (by decide) 1 1 1 _ ab_word W (HT.out W h).1)
 have HGB:=lh (fun (W:World) (h:Below w.heap.size w W)=>grow_of sLn (by decide) 1 1 2 _ ln_line W (HT.out W h).1)
 have HSP:=lh (fun (W:World) (h:Below w.heap.size w W)=>spans_of sAd (by decide) 0 7 0 7 0 0 0 5 2 false false false [(2,3)] 1 ad_spans rfl W (HT.out W h).1 (HT.out W h).2)
 have HCV:=lh (fun (W:World) (h:Below w.heap.size w W)=>cover_of sLn (by decide) 9 0 0 false false false 1 4 [⟨1,0,1,1⟩,⟨0,1,1,1⟩] 2 ln_cover rfl (by omega) (by rw [ln_rows];omega) W (HT.out W h).1 (HT.out W h).2)
 unfold sAb at HGA
 unfold sLn at HGB HCV
 unfold sAd at HSP
 clear hT hD
 go_enter Tryz.func24,Tryz.ntmps24
 go_upto_region 2 with (go_at_call 28;refine (HGA.out _ (Below.refl _ _)).mono ?_;rintro e w1 ⟨rfl,hb1⟩)
 have HB1:=lh hb1
 clear hb1 HGA
 go_upto_region 3 with (go_at_call 28;refine (HGB.out _ HB1.out).mono ?_;rintro e w2 ⟨rfl,hb2⟩)
 have HB2:=lh (HB1.out.trans (hb2.mono HB1.out.size))
 clear hb2 HGB HB1
 go_wp2_with (first | (go_at_call 25;refine (HSP.out _ HB2.out).mono ?_;rintro e w3 ⟨a3,c3,rfl,hO3,hb3⟩;have HO3:=lh hO3;have HB3:=lh (HB2.out.trans (hb3.mono HB2.out.size));clear hO3 hb3) | (go_at_call 31;refine (same2_of [(2,3)] 1 rfl (by omega) w3 _ _ _ HO3.out [.int .i64 2,.int .i64 3] rfl).mono ?_;rintro e w4 ⟨rfl,hb4⟩;have HB4:=lh (HB3.out.trans (hb4.mono HB3.out.size));clear hb4) | (go_at_call 43;refine (HCV.out _ HB4.out).mono ?_;rintro e w5 ⟨a5,c5,rfl,hO5,hb5⟩;have HO5:=lh hO5;have HB5:=lh (HB4.out.trans (hb5.mono HB4.out.size));clear hO5 hb5) | (go_at_call 42;refine (same4_of [⟨1,0,1,1⟩,⟨0,1,1,1⟩] 2 rfl (by omega) w5 _ _ _ HO5.out [.int .i64 1,.int .i64 0,.int .i64 1,.int .i64 1,.int .i64 0,.int .i64 1,.int .i64 1,.int .i64 1] rfl).mono ?_;rintro e w6 ⟨rfl,hb6⟩;have HB6:=lh (HB5.out.trans (hb6.mono HB5.out.size));clear hb6))
 go_ret
 exact⟨rfl,HB6.out⟩
end
section
open Go.RowKit Go.Proofs Go.Shelf
attribute [local go_sem] Oper.semAt_some
def clP (z:Nat) (b t:Nat):Prop:=b<z∨t=4
def begB (a:Int) (L:List (Nat × ByteArray)):Bool:=L.any fun p=>(p.1:Int)==a
def endB (b:Int) (L:List (Nat × ByteArray)):Bool:=L.any fun p=>(p.1:Int)+(p.2.size:Int)==b
def ClI (s:ByteArray) (a b:Int) (A z K B:Nat) (W0:World) (pre:List (PieceOf s)) (X:World):Prop :=
 Boxed X K 4 (.bool (begB a (pre.map (·.1))))∧Boxed X (K+1) 4 (.bool (endB b (pre.map (·.1))))∧Boxed X A 3 (.int .i64 a)∧Boxed X (A+1) 3 (.int .i64 b)∧Below B W0 X
theorem clI_stays (s:ByteArray) (a b:Int) (A z K B:Nat) (W0:World) (m q:Nat) (h1:A+1<q) (h2:K+1<q) (h4:B≤W0.heap.size) (h5:B≤q):StaysAt (q+2) m q (ClI s a b A z K B W0):=by
 rintro pre X Y row ⟨r1,r2,r3,r4,r6⟩ hg hrow
 have hk:∀k,k<q→∀o,X.heap[k]? = some o→Y.heap[k]? = some o:=fun k hk o ho=>(hg.block k (Array.getElem?_eq_some_iff.1 ho).1 (fun e=>by rcases hrow k e.symm with h | ⟨h,_⟩ <;> omega)).trans ho
 exact⟨hk _ (by omega) _ r1,hk _ h2 _ r2,hk _ (by omega) _ r3,hk _ h1 _ r4,r6.grown hg (Nat.le_trans h4 r6.size) (fun k e=>by rcases hrow k e with h | ⟨h,_⟩ <;> omega)⟩
set_option maxRecDepth 100000 in
set_option maxHeartbeats 1000000 in
theorem LawCL_any (s:ByteArray) (hs:s.size≤2097152) (f t:Int) (w:World) (hT:T8 w) (hD:DB w) :
 Calls Tryz.prog 9 #[.string s,.int .i64 f,.int .i64 t] w fun e w'=>e=.returned (.bool true)∧Below w.heap.size w w':=by
 have HGL:=lh (grow_lines s f t)
 have HGE:=lh (grow_end s f t)
 have HT:=lh (fun (W:World) (h:Below w.heap.size w W)=>(⟨hT.below rfl h,hD.below h⟩:T8 W∧DB W))
 have HWK:=lh (works_any w hT hD)
 have h3:Tryz.lays197_ren.g 3<w.heap.size:=cell_lt (hT.1 0 (by omega))
 have h4:Tryz.lays197_ren.g 4<w.heap.size:=cell_lt (hT.2 0 (by omega)).1
 obtain⟨a,b,hab⟩:∃c d,growI s f t 2=(c,d):=⟨_,_,rfl⟩
 rw [hab] at HGL HGE
 have HG1:=lh (fun (W:World) (h:Below w.heap.size w W)=>grow_of s hs f t 2 _ hab W (HT.out W h).1)
 clear hab hT hD
 refine (callsIn_wide (n:=4)).1 ?_
 refine callsIn_of_wp_marks Tryz.func9 rfl trivial ?_ rfl
 simp only [Tryz.ntmps9,List.size_toArray,List.length_cons,List.length_nil,Nat.reduceAdd,Nat.reduceSub,Array.replicate_succ,Array.replicate_zero,List.push_toArray,List.append_toArray,List.nil_append,List.cons_append]
 gi_wp2_with (fail)
 refine⟨trivial,?_⟩
 refine (callsIn_wide.2 HWK.out).mono ?_
 rintro e' W1 ⟨rfl,hb1⟩
 have HB1:=lh hb1
 clear hb1 HWK
 gi_wp2_with (fail)
 refine⟨trivial,?_⟩
 refine (callsIn_wide.2 (HG1.out W1 HB1.out)).mono ?_
 rintro e' W2 ⟨rfl,hb2⟩
 have HB2:=lh (HB1.out.trans (hb2.mono HB1.out.size))
 clear hb2 HG1 HB1
 dsimp only
 gi_upto_region 4 with (fail)
 obtain⟨m1,m2,m3⟩:=two_alloc W2 (.cells #[.int .i64 a] 3 (0,0)) (.cells #[.int .i64 b] 3 (0,0))
 have hz3:((W2.alloc (.cells #[.int .i64 a] 3)).alloc (.cells #[.int .i64 b] 3)).heap.size=W2.heap.size+2:=by rw [World.size_alloc,World.size_alloc]
 have hz2:=HB2.out.size
 generalize (W2.alloc (.cells #[.int .i64 a] 3)).alloc (.cells #[.int .i64 b] 3)=W3 at m1 m2 m3 hz3 ⊢
 obtain⟨A,hA⟩:∃A,W2.heap.size=A:=⟨_,rfl⟩
 have HB3:=lh (HB2.out.trans (m3.mono (by omega)))
 rw [hA] at m1 m2 m3 hz3 hz2 ⊢
 obtain⟨B,hB⟩:∃B,w.heap.size=B:=⟨_,rfl⟩
 rw [hB] at h3 h4 hz2
 have c1:W3.cell? ⟨A,0,none⟩=some (.int .i64 a):=Boxed.cell m1
 have c2:W3.cell? ⟨A+1,0,none⟩=some (.int .i64 b):=Boxed.cell m2
 have M1:=lh m1
 have M2:=lh m2
 clear m1 m2 m3 hA HB2
 by_cases ha:a=(s.size:Int)
 ·have hba:b=a:=HGE.out ha
  have had:(a==(s.size:Int))=true:=beq_iff_eq.2 ha
  clear ha
  subst hba
  gi_wp2_with (fail)
  exact⟨_,results_tmp rfl _ _ _,by simp,hB▸HB3.out⟩
 ·have had:(a==(s.size:Int))=false:=beq_eq_false_iff_ne.2 ha
  have HF:=lh (HGL.out ha)
  clear ha HGL HGE
  gi_wp2_with (fail)
  refine⟨trivial,?_⟩
  refine (callsIn_wide.2 (Lines3_any s W3 _ hz3)).mono ?_
  rintro e' W4 ⟨rfl,hx4,hb4,hz4⟩
  have hl4:=hb4.size
  have p1:=(hb4.block A (by omega)).trans M1.out
  have p2:=(hb4.block (A+1) (by omega)).trans M2.out
  have HB4:=lh (HB3.out.trans (hb4.mono (by omega)))
  clear hb4 M1 M2 HB3 c1 c2
  have hgnil:=fun w=>eq_fn (.func 46) #[] #[.pointer (some ⟨A+2,0,none⟩)] w
  gi_upto_region 10 with (fail)
  obtain⟨n1,n2,n3⟩:=two_alloc W4 (.cells #[.bool false] 4 (0,0)) (.cells #[.bool false] 4 (0,0))
  have hz5:((W4.alloc (.cells #[.bool false] 4)).alloc (.cells #[.bool false] 4)).heap.size=W4.heap.size+2:=by rw [World.size_alloc,World.size_alloc]
  generalize (W4.alloc (.cells #[.bool false] 4)).alloc (.cells #[.bool false] 4)=W5 at n1 n2 n3 hz5 ⊢
  have q1:=(n3.block A (by omega)).trans p1
  have q2:=(n3.block (A+1) (by omega)).trans p2
  have q3:=(n3.block (A+2) (by omega)).trans hx4
  have q4:Below B w W5:=hB▸(HB4.out.trans (n3.mono (by omega)))
  rw [hz4] at n1 n2 hz5
  try rw [hz4]
  have hT5:=(HT.out W5 (hB▸q4)).1
  clear p1 p2 n3 hx4 HB4
  gi_wp2_with (fail)
  refine wpIn_rangeFunc_ownC (by omega) (gf:=46) (lb:=#[.pointer (some ⟨A+2,0,none⟩)]) rfl trivial (enters_of Tryz.func46 (by kernel_rfl) rfl)
   (lines_stopsC (A+2) B (clP (A+2)) s hs h3 h4 W5 (by omega) q3 hT5 (fun h=>by rcases h with h | h;exact absurd h (by omega);exact absurd h (by decide)) (fun b t hb ht h=>by rcases h with h | h;exact absurd h (by omega);rcases ht with e | e | e <;> (rw [e] at h;exact absurd h (by decide))))
   (fun h k=>KpX.trans h k) (kpX_put (w:=W5) (by omega)) (Below.refl _ _) (fun _=>rfl)
   (ClI s a b A (A+2) (A+2+1) B w) (fun _ _ _=>False) (clI_stays s a b A (A+2) (A+2+1) B w 2 _ (by omega) (by omega) (by omega) (by omega)) (fun _ _ _ _ _ h _ _=>h) ?h0
   (fun x=>{ tmps:=#[.string s,.int .i64 f,.int .i64 t,undef,undef,undef,.bool false,.pointer (some ⟨A,0,none⟩),.pointer (some ⟨A+1,0,none⟩),.func (.func 46) #[] #[.pointer (some ⟨A+2,0,none⟩)],.pointer (some ⟨A+2+1,0,none⟩),.pointer (some ⟨A+2+1+1,0,none⟩),.int .i64 x.1.1,.string x.1.2,.bool true,.bool false,.tuple #[.int .i64 a,.int .i64 b],.string s,.int .i64 f,.int .i64 t,.tuple #[.int .i64 a,.int .i64 b],.int .i64 a,.int .i64 b,.int .i64 a,.string s,.int .i64 s.size,.bool false,undef,undef,undef,.string s,.func (.func 46) #[] #[.pointer (some ⟨A+2,0,none⟩)],.func (.func 46) #[] #[.pointer (some ⟨A+2,0,none⟩)],.bool false,.func (.func 46) #[] #[.pointer (some ⟨A+2,0,none⟩)],.int .i64 x.1.1,.string x.1.2,undef,undef,undef,undef,undef,undef,undef,undef,undef,undef,undef,undef,undef,undef,undef,undef,undef,undef,undef,undef,undef,undef,undef,undef],defers:=[] }) ?assign ?body ?done ?stop
  case h0=>exact⟨n1,n2,q1,q2,q4⟩
  case assign =>
   intro l' x W' K hK
   gi_wp2_with (fail)
   exact hK
  case body =>
   rintro l' pre x X ⟨r1,r2,r3,r4,r5⟩ hsp hge
   obtain⟨at',hat⟩:∃a,x.1.1=a:=⟨_,rfl⟩
   obtain⟨line,hcc⟩:∃c,x.1.2=c:=⟨_,rfl⟩
   have hx:=x.2
   rw [hat,hcc] at hx
   have hb1:begB a ((pre++[x]).map (·.1))=(begB a (pre.map (·.1))||((at':Int)==a)):=by
    unfold begB
    rw [List.map_append,List.any_append,List.map_singleton,List.any_cons,List.any_nil,Bool.or_false,hat]
   have hb2:endB b ((pre++[x]).map (·.1))=(endB b (pre.map (·.1))||((at':Int)+(line.size:Int)==b)):=by
    unfold endB
    rw [List.map_append,List.any_append,List.map_singleton,List.any_cons,List.any_nil,Bool.or_false,hat,hcc]
   simp only [hat,hcc]
   obtain⟨u1,hu1⟩:∃u,begB a (pre.map (·.1))=u:=⟨_,rfl⟩
   obtain⟨u2,hu2⟩:∃u,endB b (pre.map (·.1))=u:=⟨_,rfl⟩
   rw [hu1] at r1 hb1
   rw [hu2] at r2 hb2
   have H1:=lh hb1
   have H2:=lh hb2
   have c1:=r1.cell
   have c2:=r2.cell
   have c3:=r3.cell
   have c4:=r4.cell
   have f1:=r1.frozen
   have f2:=r2.frozen
   have R1:=lh r1
   have R2:=lh r2
   have R3:=lh r3
   have R4:=lh r4
   have R5:=lh r5
   have hwe:IntKind.i64.wrap ((at':Int)+(line.size:Int))=(at':Int)+line.size:=by rw [IntKind.wrap_i64];omega
   have key:∀(p1 p2:Bool),begB a ((pre++[x]).map (·.1))=p1→endB b ((pre++[x]).map (·.1))=p2→ClI s a b A (A+2) (A+2+1) B w (pre++[x]) ((X.setCell ⟨A+2+1,0,none⟩ (.bool p1)).setCell ⟨A+2+1+1,0,none⟩ (.bool p2)):=fun p1 p2 e1 e2=>by
    refine⟨?_,?_,box_other (box_other R3.out (by omega)) (by omega),box_other (box_other R4.out (by omega)) (by omega),(R5.out.setCell (p:=⟨A+2+1,0,none⟩) (by show B≤A+2+1;omega) _).setCell (p:=⟨A+2+1+1,0,none⟩) (by show B≤A+2+1+1;omega) _⟩
    ·rw [e1];exact box_other (set_at (i:=0) R1.out _) (by omega)
    ·rw [e2];exact set_at (i:=0) (box_other R2.out (by omega)) _
   have hkp:∀(Z:World) (k:Nat) (v v0:Value),B≤k→Boxed Z k 4 v0→KpX (clP (A+2)) B Z (Z.setCell ⟨k,0,none⟩ v):=fun Z k v v0 hk hz=>⟨(Below.refl _ _).setCell (p:=⟨k,0,none⟩) hk v,fun b cs t f hb ho=>by
    have hbk:b≠k:=fun e=>by
     subst e
     rw [hz] at ho
     cases ho
     exact hb (.inr rfl)
    exact ((grownBy_setCell' Z k v).block b (Array.getElem?_eq_some_iff.1 ho).1 (fun e=>by cases e;exact hbk rfl)).trans ho⟩
   have HK:=lh (fun (p1 p2:Bool)=>(hkp X (A+2+1) (.bool p1) _ (by omega) R1.out).trans (hkp (X.setCell ⟨A+2+1,0,none⟩ (.bool p1)) (A+2+1+1) (.bool p2) _ (by omega) (box_other R2.out (by omega))))
   have HKEY:=lh key
   clear r1 r2 r3 r4 r5 hb1 hb2 hat hcc hx hsp q1 q2 q3 q4 n1 n2 hu1 hu2 key hkp
   cases u1 <;> cases u2 <;> (gi_wp2_with (fail)) <;> exact⟨((KeepsOthers.setCell _ _ _).trans (KeepsOthers.setCell _ _ _)).from _,HK.out _ _,HKEY.out _ _ (by rw [H1.out];simp) (by rw [H2.out];simp)⟩
  case done =>
   rintro D xs W hD hxs ⟨r1,r2,r3,r4,r5⟩ hK
   obtain⟨⟨x1,g1,g2⟩,⟨x2,g3,g4⟩,g5⟩:=HF.out
   have hbt:begB a (xs.map (·.1))=true:=by
    rw [hxs]
    exact List.any_eq_true.2 ⟨x1,g1,beq_iff_eq.2 g2⟩
   have het:endB b (xs.map (·.1))=true:=by
    rw [hxs]
    exact List.any_eq_true.2 ⟨x2,g3,beq_iff_eq.2 g4⟩
   rw [hbt] at r1
   rw [het] at r2
   have g6:decide (a<b)=true:=decide_eq_true g5
   have c1:=r1.cell
   have c2:=r2.cell
   have c3:=r3.cell
   have c4:=r4.cell
   have R5:=lh r5
   clear r1 r2 r3 r4 r5 hbt het g1 g2 g3 g4 g5 hxs q1 q2 q3 q4 n1 n2
   gi_wp2_with (fail)
   refine⟨by simp,.inl ⟨_,_,rfl,run_takeDeferred hK,?_⟩⟩
   exact⟨_,results_tmp rfl _ _ _,rfl,hB.symm▸(R5.out.trans (belowK_b (w:=w) (by omega) W D _ _ (by omega) hK rfl rfl))⟩
  case stop =>
   rintro D c pre W hD _ h _
   exact h.elim
end
end Go.Proofs.YtlbclfmbejjneaaGreatDoor
