/- Part 43 (merged by a program): lemmas of no further condition than each states. -/
import Derived.Laws.ResultCell
import Derived.Laws.Rows
import Derived.Test.YtlbclfmbejjneaaGreatDoorR14
namespace Go.Proofs.YtlbclfmbejjneaaGreatDoor
set_option linter.unusedVariables false
set_option linter.unusedSimpArgs false
section
open Go.RowKit Go.Proofs Go.Shelf
attribute [local go_sem] Oper.semAt_some
def rwF (f a n B:Nat) (ds:List Deferred) (u:Nat→Value):Act :=
 {tmps:=#[.pointer (some ⟨f,0,none⟩),u 1,.pointer (some ⟨B,0,none⟩),.pointer (some ⟨B+1,0,none⟩),.pointer (some ⟨B+2,0,none⟩),.int .i8 0,.pointer (some ⟨B+3,0,none⟩),.pointer (some ⟨B+4,0,none⟩),.pointer (some ⟨B+5,0,none⟩),.pointer (some ⟨B+6,0,none⟩),u 10,u 11,u 12,u 13,u 14,u 15,u 16,u 17,u 18,u 19,u 20,u 21,u 22,u 23,u 24,u 25,u 26,u 27,u 28,u 29,u 30,u 31,u 32,u 33,u 34,u 35,u 36,u 37,u 38,u 39,u 40,u 41,u 42,u 43,u 44,u 45,u 46,u 47,u 48,u 49,u 50,u 51,u 52,u 53,u 54,u 55,u 56,u 57,u 58,u 59,u 60,u 61,u 62,u 63,u 64,u 65,u 66,u 67,u 68,u 69,u 70,u 71,u 72,u 73,u 74,u 75,u 76,u 77,u 78,u 79,u 80,u 81,u 82,u 83,u 84,u 85,u 86,u 87,u 88,u 89,u 90,u 91,u 92,u 93,u 94,u 95,u 96,u 97,u 98,u 99,u 100,u 101,u 102,u 103,u 104,u 105,u 106,u 107,u 108,u 109,u 110,u 111,u 112,u 113,u 114,u 115,u 116,u 117,u 118,u 119,u 120,u 121,u 122,u 123,u 124,u 125,u 126,u 127,u 128,u 129,u 130,u 131,u 132,u 133,u 134,u 135,u 136,u 137,u 138,u 139,u 140,u 141,u 142,u 143,u 144,u 145,u 146,u 147],defers:=ds }
theorem rwF.mk {f a n B:Nat} {ds:List Deferred} (x:Act) (h:x=rwF f a n B ds (fun i=>x.tmps.getD i undef)):∃u,x=rwF f a n B ds u:=⟨_,h⟩
theorem row_results {tmps:Array Value} {W:World} {g:Nat} {cs:Array Value} {u:Value} (hp:tmps.getD 4 undef=.pointer (some ⟨g,0,none⟩)) (hu:tmps.getD 5 undef=u) (hg:W.heap[g]? = some (.cells cs 146 (0,0))) (hc:cs.size=3) :
 (results Tryz.f96 tmps).run Tryz.prog W=.ok (.tuple #[.agg cs,u]) W:=by
 have hl:=run_loadVar_row (P:=Tryz.prog) W g 146 146 cs (0,0) _ hg Tryz.underlying146 rfl (by rw [hc];kernel_rfl)
 rw [results_cell_tmp rfl,hp,hu]
 simp only [asAddr,Sem.run_pure,Result.andThen_ok,hl]
def RwJ (w:World) (B f a n:Nat) (r:Rul) (tail:ByteArray) (x:Act) (W:World):Prop :=
 ∃(D m:Nat) (st:Fl),(∃u,x=rwF f a n B [{ target:=.collected D,args:=#[] }] u)∧B≤D∧W.heap[D]? = some (.deferred (some []))∧RwB W B f a n (0,0,0) st tail∧fillRow r ((piecesI tail).map (·.2)) (fl0 a n)=(st,true) ∧
   m≤(piecesI tail).length∧FlB a n m tail.size st∧Below B w W
theorem pre_pieces {s:ByteArray} {pre:List (PieceOf s)} {R:List (Nat × ByteArray)} (h:pre.map (·.1)++R=piecesI s):pre.map (·.1.2)++R.map (·.2)=(piecesI s).map (·.2):=by
 rw [←h,List.map_append,List.map_map]
 rfl
def RwI (w:World) (B f a n:Nat) (r:Rul) (tail:ByteArray) (pre:List (PieceOf tail)) (W:World):Prop :=
 ∃st,RwB W B f a n (0,0,0) st tail∧(∀R,fillRow r (pre.map (·.1.2)++R) (fl0 a n)=fillRow r R st)∧FlB a n pre.length tail.size st∧Below B w W
def RwX (w:World) (B f a n:Nat) (r:Rul) (tail:ByteArray) (c:Code) (pre:List (PieceOf tail)) (W:World):Prop :=
 c=.goto 0∧∃(st:Fl) (m:Nat),RwB W B f a n (0,0,0) st tail∧(∀R,fillRow r (pre.map (·.1.2)++R) (fl0 a n)=(st,true))∧m≤pre.length∧FlB a n m tail.size st∧Below B w W
theorem rw_close {w W Wf:World} {B f a n k:Nat} {r:Rul} {tail c:ByteArray} {pre:List (PieceOf tail)} {x:PieceOf tail} {st:Fl} {act:Act} (hcc:x.1.2=c) (hk:pre.length=k)
 (hfill:∀R,fillRow r ((pre.map (·.1.2)++[c])++R) (fl0 a n)=fillRow r R (stepF r st c).1) (hflb:FlB a n (k+1) tail.size (stepF r st c).1) (hR:RwB Wf B f a n (0,0,0) (stepF r st c).1 tail) (h4:Below B w W) (hb:Below B W Wf) (hko:KeepsOthers W Wf)
 (h1:RwB W B f a n (0,0,0) st tail):ownPostK (KpB (B+7) B) (RwI w B f a n r tail) (RwX w B f a n r tail) (pre++[x]) W .normal act Wf:=by
 refine⟨hko,⟨hb,fun v hv=>?_⟩,_,hR,fun R=>?_,?_,h4.trans hb⟩
 ·rw [h1.cells.2.2.2.2.2.2] at hv
  cases hv
  exact hR.cells.2.2.2.2.2.2
 ·rw [List.map_append,List.map_singleton,hcc]
  exact hfill R
 ·rw [List.length_append,hk]
  exact hflb
set_option maxRecDepth 100000 in
set_option maxHeartbeats 4000000 in
theorem row_any (f a n:Nat) (text:ByteArray) (wa:Option Addr) (wn wc:Nat) (e:Bool) (r:Rul) (want:Int) (join:Bool) (w:World) (hT:T8 w) (hD:DB w) (hf:FilW w f text wa wn wc e r want join) (hw:Rd .i8 w wa r.wh) (hwn:r.wh.length=wn)
 (hB:Bord text a n) (hlen:(piecesI text).length≤wn) (hz:text.size≤2097152) (hw0:0≤r.w) (hw1:r.w≤1024) :
 Calls Tryz.prog 96 #[.pointer (some ⟨f,0,none⟩),.agg #[.int .i64 a,.int .i64 n,.int .i64 0]] w fun en w' =>
  en=.returned (.tuple #[.agg #[.int .i64 (rowAt1 r text e a n).1,.int .i64 (rowAt1 r text e a n).2.1,.int .i64 (rowAt1 r text e a n).2.2.1],.int .i8 (rowAt1 r text e a n).2.2.2])∧Below w.heap.size w w':=by
 obtain⟨B,hBs⟩:∃B,w.heap.size=B:=⟨_,rfl⟩
 have hfB:f<B:=by rw [←hBs];exact hf.lt
 obtain⟨tail,htl⟩:∃t,text.extract a text.size=t:=⟨_,rfl⟩
 have hta:=ext_size text a hB.1
 rw [htl] at hta
 have hag:a≤text.size:=hB.1
 have hlen2:n+(piecesI tail).length≤wn:=by have:=hB.len;rw [htl] at this;omega
 have hnz:n≤2097152:=by have:=hB.len;have:=pieces_len text;omega
 refine (callsIn_wide (n:=4)).1 ?_
 refine callsIn_of_wp_marks Tryz.func96 rfl trivial ?_ rfl
 simp only [Tryz.ntmps96,List.size_toArray,List.length_cons,List.length_nil,Nat.reduceAdd,Nat.reduceSub,Array.replicate_succ,Array.replicate_zero,List.push_toArray,List.append_toArray,List.nil_append,List.cons_append]
 gi_wp2_with (fail)
 refine wpIn_wide.2 (wp_scope_jumps 0 (RwJ w B f a n r tail) (fun _ _=>0) rfl ?first ?pass)
 case first =>
  refine (wpIn_wide (n:=4)).1 ?_
  gi_upto_region 5 with (fail)
  obtain⟨W7,hW7⟩:∃X,((((((w.alloc (.cells (rwC f a n (0,0,0) (fl0 a n) tail 0) (rwT 0))).alloc (.cells (rwC f a n (0,0,0) (fl0 a n) tail 1) (rwT 1))).alloc (.cells (rwC f a n (0,0,0) (fl0 a n) tail 2) (rwT 2))).alloc (.cells (rwC f a n (0,0,0) (fl0 a n) tail 3) (rwT 3))).alloc
   (.cells (rwC f a n (0,0,0) (fl0 a n) tail 4) (rwT 4))).alloc (.cells (rwC f a n (0,0,0) (fl0 a n) tail 5) (rwT 5))).alloc (.cells (rwC f a n (0,0,0) (fl0 a n) tail 6) (rwT 6))=X:=⟨_,rfl⟩
  change Code.wpIn _ _ _ _ _ _ (((((((w.alloc (.cells (rwC f a n (0,0,0) (fl0 a n) tail 0) (rwT 0))).alloc (.cells (rwC f a n (0,0,0) (fl0 a n) tail 1) (rwT 1))).alloc (.cells (rwC f a n (0,0,0) (fl0 a n) tail 2) (rwT 2))).alloc (.cells (rwC f a n (0,0,0) (fl0 a n) tail 3) (rwT 3))).alloc
   (.cells (rwC f a n (0,0,0) (fl0 a n) tail 4) (rwT 4))).alloc (.cells (rwC f a n (0,0,0) (fl0 a n) tail 5) (rwT 5))).alloc (.cells (rwC f a n (0,0,0) (fl0 a n) tail 6) (rwT 6)))
  obtain⟨hR0,hb0⟩:=rw_start w f a n B tail hBs
  unfold rwW at hR0 hb0
  rw [hW7] at hR0 hb0 ⊢
  rw [show B+1+1=B+2 from rfl,show B+2+1=B+3 from rfl,show B+3+1=B+4 from rfl,show B+4+1=B+5 from rfl,show B+5+1=B+6 from rfl]
  have hb7:Below B w W7:=by
   rw [←hW7]
   refine (((((((Below.refl _ w).alloc (by omega) _).alloc ?_ _).alloc ?_ _).alloc ?_ _).alloc ?_ _).alloc ?_ _).alloc ?_ _ <;> simp only [World.size_alloc] <;> omega
  have hs7:W7.heap.size=B+7:=by rw [←hW7];simp only [World.size_alloc];omega
  have hsz:(W7.alloc (.cells (rwC f a n (0,0,0) (fl0 a n) tail 7) (rwT 7))).heap.size=B+8:=by rw [World.size_alloc,hs7]
  have hbk:Below W7.heap.size W7 (W7.alloc (.cells (rwC f a n (0,0,0) (fl0 a n) tail 7) (rwT 7))):=(Below.refl _ _).alloc (Nat.le_refl _) _
  obtain⟨r0,r1,r2⟩:=hR0.cells
  have q0:W7.cell? ⟨B,0,none⟩=some (.pointer (some ⟨f,0,none⟩)):=(hbk.cell (p:=⟨B,0,none⟩) (by show B<_;omega)).symm.trans r0
  have q1:W7.cell? ⟨B+1,0,none⟩=some (.int .i64 a):=(hbk.cell (p:=⟨B+1,0,none⟩) (by show B+1<_;omega)).symm.trans r1
  have q2:W7.cell? ⟨f,0,none⟩=some (.string text):=(hf.below hb7 hfB).cells.1
  have hT8:T8 (W7.alloc (.cells (rwC f a n (0,0,0) (fl0 a n) tail 7) (rwT 7))):=hT.below hBs.symm hb0
  have hA:=All_any tail
  have HA:=lh hA
  have HR0:=lh hR0
  have HB0:=lh hb0
  have HT8:=lh hT8
  have HF:=lh hf
  have HW:=lh hw
  have ht3:Tryz.lays197_ren.g 3<B:=by have:=cell_lt (hT.1 0 (by omega));omega
  have ht4:Tryz.lays197_ren.g 4<B:=by have:=cell_lt (hT.2 0 (by omega)).1;omega
  have HT:=lh hT
  have HD:=lh hD
  have hgt:(a:Int)≤(text.size:Int):=by omega
  clear hA hR0 hb0 hb7 hT8 hf hw hT hD r0 r1 r2 hbk
  refine wpIn_wide.2 ?_
  obtain⟨S,hS1,hS2⟩:∃S:World→Prop,(∀w',S w'→w'.cell? ⟨B,0,none⟩=some (.pointer (some ⟨f,0,none⟩))∧w'.cell? ⟨B+1,0,none⟩=some (.int .i64 a)∧w'.cell? ⟨f,0,none⟩=some (.string text)) ∧
   ∀w',w'.cell? ⟨B,0,none⟩=some (.pointer (some ⟨f,0,none⟩))→w'.cell? ⟨B+1,0,none⟩=some (.int .i64 a)→w'.cell? ⟨f,0,none⟩=some (.string text)→S w' :=
   ⟨fun w'=>w'.cell? ⟨B,0,none⟩=some (.pointer (some ⟨f,0,none⟩))∧w'.cell? ⟨B+1,0,none⟩=some (.int .i64 a)∧w'.cell? ⟨f,0,none⟩=some (.string text),fun _ h=>h,fun _ a b c=>⟨a,b,c⟩⟩
  have kp0:∀p:WIn S,p.w.cell? ⟨B,0,none⟩=some (.pointer (some ⟨f,0,none⟩)):=fun p=>(hS1 _ p.h).1
  have kp1:∀p:WIn S,p.w.cell? ⟨B+1,0,none⟩=some (.int .i64 a):=fun p=>(hS1 _ p.h).2.1
  have kp2:∀p:WIn S,p.w.cell? ⟨f,0,none⟩=some (.string text):=fun p=>(hS1 _ p.h).2.2
  have HS:=lh hS2
  have hne:Nonempty (WIn S):=⟨⟨W7,hS2 _ q0 q1 q2⟩⟩
  clear hS1 hS2
  refine wp_region_seg S [7] (by kernel_rfl) (by kernel_rfl) (HS.out _ q0 q1 q2) ?_
  simp only [segH,List.take_succ_cons,List.take_zero,List.drop_succ_cons,List.drop_zero]
  repeat (go_big_quiet_step (fail))
  refine wpQuiet_nil ?_
  intro K hK
  have HKK:=lh hK
  clear hK
  go_wp2_with (go_at_call 16;refine (HA.out _).mono ?_;rintro e' W0 ⟨rfl,hW0⟩)
  have hbk:Below W7.heap.size W7 (W7.alloc (.cells #[.string tail] 9)):=(Below.refl _ _).alloc (Nat.le_refl _) _
  refine HKK.out _ _ (HS.out _ (cell_bl hbk (cell_lt q0) q0) (cell_bl hbk (cell_lt q1) q1) (cell_bl hbk (cell_lt q2) q2)) ?_
  clear hW0 W0 HKK HS kp0 kp1 kp2 hne hbk q0 q1 q2 HA
  refine wpQuiet_nil (NoPanic.normal ?_)
  have hR1:RwB (W7.alloc (.cells #[.string tail] 9)).drew B f a n (0,0,0) (fl0 a n) tail:=HR0.out
  have hb1:Below B w (W7.alloc (.cells #[.string tail] 9)).drew:=HB0.out.trans (bl_drewN (Below.refl _ _) 1)
  have hT1:T8 (W7.alloc (.cells #[.string tail] 9)).drew:=HT8.out
  have hs1:(W7.alloc (.cells #[.string tail] 9)).drew.heap.size=B+8:=hsz
  generalize (W7.alloc (.cells #[.string tail] 9)).drew=W0 at hR1 hb1 hT1 hs1 ⊢
  clear hW7 HR0 HB0 HT8 hsz hs7 W7
  unfold itV
  gi_wp2_with (fail)
  have hcb:W0.cell? ⟨B+7,0,none⟩=some (.string tail):=hR1.cells.2.2.2.2.2.2
  refine wpIn_rangeFunc_ownF (F:=Fence.wide) rfl (by omega) (gf:=54) (lb:=#[.pointer (some ⟨B+7,0,none⟩)]) rfl trivial (enters_of Tryz.func54 (by kernel_rfl) rfl)
   (pieces_stops 3 (by omega) (B+7) B tail (by omega) ht3 ht4 W0 (by omega) hcb hT1) (fun h k=>KpB.trans h k) (kpB_put (w:=W0) (by omega)) (Below.refl _ _) (fun _=>rfl)
   (RwI w B f a n r tail) (RwX w B f a n r tail) ?hI ?hIx ?h0
   (fun x=>{ tmps:=#[.pointer (some ⟨f,0,none⟩),.agg #[.int .i64 a,.int .i64 n,.int .i64 0],.pointer (some ⟨B,0,none⟩),.pointer (some ⟨B+1,0,none⟩),.pointer (some ⟨B+2,0,none⟩),.int .i8 0,.pointer (some ⟨B+3,0,none⟩),.pointer (some ⟨B+4,0,none⟩),.pointer (some ⟨B+5,0,none⟩),.pointer (some ⟨B+6,0,none⟩),undef,.string x.1.2,undef,.pointer (some ⟨B+1,0,none⟩),.int .i64 a,.pointer (some ⟨B+1,1,none⟩),.int .i64 n,.agg #[.int .i64 a,.int .i64 n,.int .i64 0],.agg #[.int .i64 a,.int .i64 n,.int .i64 0],.pointer (some ⟨f,0,none⟩),.pointer (some ⟨f,0,none⟩),.pointer (some ⟨f,0,none⟩),.string text,.pointer (some ⟨B+1,0,none⟩),.int .i64 a,.string tail,.func (.func 54) #[] #[.pointer (some ⟨B+7,0,none⟩)],.int .i64 x.1.1,.string x.1.2,undef,undef,undef,undef,undef,undef,undef,undef,undef,undef,undef,undef,undef,undef,undef,undef,undef,undef,undef,undef,undef,undef,undef,undef,undef,undef,undef,undef,undef,undef,undef,undef,undef,undef,undef,undef,undef,undef,undef,undef,undef,undef,undef,undef,undef,undef,undef,undef,undef,undef,undef,undef,undef,undef,undef,undef,undef,undef,undef,undef,undef,undef,undef,undef,undef,undef,undef,undef,undef,undef,undef,undef,undef,undef,undef,undef,undef,undef,undef,undef,undef,undef,undef,undef,undef,undef,undef,undef,undef,undef,undef,undef,undef,undef,undef,undef,undef,undef,undef,undef,undef,undef,undef,undef,undef,undef,undef,undef,undef,undef,undef,undef,undef,undef,undef,undef,undef,undef,undef],defers:=[] }) ?assign ?body ?done ?stop
  case hI =>
   rintro pre X Y row ⟨st,h1,h2,h3,h4⟩ hg hrow
   exact⟨st,Blk.kept h1 hg (fun k e=>(hrow k e).2),h2,h3,h4.grown hg (by have:=h4.size;omega) (fun k e=>by have:=(hrow k e).1;omega)⟩
  case hIx =>
   rintro c pre X Y row ⟨h0,st,m,h1,h2,hm,h3,h4⟩ hg hrow
   exact⟨h0,st,m,Blk.kept h1 hg (fun k e=>(hrow k e).2),h2,hm,h3,h4.grown hg (by have:=h4.size;omega) (fun k e=>by have:=(hrow k e).1;omega)⟩
  case h0=>exact⟨_,hR1,fun R=>rfl,FlB.start a n _,hb1⟩
  case assign =>
   intro l x W K hK
   gi_wp2_with (fail)
   exact hK
  case body =>
   rintro l pre x W ⟨st,h1,h2,h3,h4⟩ hlt
   obtain⟨c,hcc⟩:∃c,x.1.2=c:=⟨_,rfl⟩
   obtain⟨k,hk⟩:∃k,pre.length=k:=⟨_,rfl⟩
   have hx:=x.2
   rw [hcc] at hx
   have hcz:c.size≤tail.size:=by omega
   have htz:tail.size≤2097152:=by omega
   simp only [hcc]
   rw [hk] at hlt h3
   have hpl:=pieces_len tail
   have hkz:k<2097152:=by omega
   have h4':Below w.heap.size w W:=by rw [hBs];exact h4
   have hwB:w.heap.size≤W.heap.size:=h4'.size
   obtain⟨G,o,hwa,hGl,hwc⟩:=HW.out.at h4' st.n (by rw [hwn,h3.1];omega)
   have hsn:st.n=n+k:=h3.1
   have hsnl:st.n<wn:=by omega
   have hsnz:st.n≤4194304:=by omega
   have hsaz:st.a≤8796093022208:=by
    have h5:=h3.2.1
    have h6:k*tail.size≤2097152*2097152:=Nat.mul_le_mul (by omega) htz
    omega
   have hwd0:0≤st.wide:=h3.2.2.1
   have hwd1:st.wide≤39845888:=by have:=h3.2.2.2.1;omega
   have hTw:T8 W:=HT.out.below rfl h4'
   have hD1:DB W:=HD.out.below h4'
   have hFW:=HF.out.below h4 hfB
   have hBK:=blank_any c W hTw
   rw [blankB_C] at hBK
   obtain⟨tx,htx⟩:∃y,(textI c st.wide r.tab r.wideA r.raw).2=y:=⟨_,rfl⟩
   obtain⟨ts,hts⟩:∃y,(textI c st.wide r.tab r.wideA r.raw).1=y:=⟨_,rfl⟩
   have htb:=textI_bd c st.wide r.tab r.wideA r.raw
   have hTX:=fun (X:World) (hb:Below W.heap.size W X)=>text_any c (by omega) st.wide r.tab want r.wideA join r.raw X (hTw.below rfl hb) (hD1.below hb)
   rw [htx] at htb
   rw [htx,hts] at hTX
   obtain⟨isb,hisb⟩:∃y,blankC c=y:=⟨_,rfl⟩
   rw [hisb] at hBK
   have hsum0:0≤st.wide+tx:=by omega
   have hsum1:st.wide+tx≤9223372036854775807:=by omega
   have htx0:0≤tx:=htb.1
   have htx1:tx≤19:=htb.2
   have hstep:stepF r st c=if isb=true∧(st.hangs=true∨r.w<st.wide+tx) then (adv r.wh c.size { st with hangs:=true,c:=0 },false)
    else if st.hangs=true∨r.w<st.wide+tx then ({ st with c:=tx },true) else (adv r.wh c.size { st with c:=tx },false):=by
    unfold stepF
    rw [htx,hisb]
   have HSTEP:=lh hstep
   have HBK:=lh hBK
   have HTX:=lh hTX
   have H1:=lh h1
   have H2:=lh h2
   have H3:=lh h3
   have H4:=lh h4
   have HWC:=lh hwc
   have HWA:=lh hwa
   have HFW:=lh hFW
   have HCC:=lh hcc
   have HKK:=lh hk
   clear hstep hBK hTX h1 h2 h3 h4 h4' hwc hwa hFW hcc hk hts htx hisb hTw hD1 htb hx hpl hlt hsn hcb hR1 hb1 hT1 hs1
   gi_wp2_with (fail)
   refine⟨trivial,?_⟩
   refine (CallsIn.inRound l (callsIn_wide.2 HBK.out)).mono ?_
   rintro e' W1 ⟨rfl,hb1⟩
   have hR1:=H1.out.below hb1
   have hF1:=HFW.out.below hb1 (by have:=HFW.out.lt;omega)
   obtain⟨ft,fs,fe,fw,f4,f5,f6,f7,f8⟩:=hF1.cells
   have kB:=hR1.cells.1
   have kw:=hR1.now.2.2
   have kn:=hR1.cells.2.2.2.2.2.1
   have fn:=hR1.frz 6 0 (by omega)
   have HR1:=lh hR1
   have HF1:=lh hF1
   have HB1:=lh hb1
   clear hR1 hF1 hb1 ft fs fe fw
   gi_upto_region 8 with (fail)
   obtain⟨S,hS1,hS2⟩:∃S:World→Prop,(∀w',S w'→w'.cell? ⟨B+3,2,none⟩=some (.int .i64 st.wide)∧w'.cell? ⟨B,0,none⟩=some (.pointer (some ⟨f,0,none⟩))∧w'.cell? ⟨f,4,none⟩=some (.int .i64 r.tab)∧w'.cell? ⟨f,5,none⟩=some (.bool r.wideA)∧w'.cell? ⟨f,6,none⟩=some (.int .i8 want)∧w'.cell? ⟨f,7,none⟩=some (.bool join)∧w'.cell? ⟨f,8,none⟩=some (.bool r.raw))∧∀w',w'.cell? ⟨B+3,2,none⟩=some (.int .i64 st.wide)→w'.cell? ⟨B,0,none⟩=some (.pointer (some ⟨f,0,none⟩))→w'.cell? ⟨f,4,none⟩=some (.int .i64 r.tab)→w'.cell? ⟨f,5,none⟩=some (.bool r.wideA)→w'.cell? ⟨f,6,none⟩=some (.int .i8 want)→w'.cell? ⟨f,7,none⟩=some (.bool join)→w'.cell? ⟨f,8,none⟩=some (.bool r.raw)→S w' :=
    ⟨fun w'=>w'.cell? ⟨B+3,2,none⟩=some (.int .i64 st.wide)∧w'.cell? ⟨B,0,none⟩=some (.pointer (some ⟨f,0,none⟩))∧w'.cell? ⟨f,4,none⟩=some (.int .i64 r.tab)∧w'.cell? ⟨f,5,none⟩=some (.bool r.wideA)∧w'.cell? ⟨f,6,none⟩=some (.int .i8 want)∧w'.cell? ⟨f,7,none⟩=some (.bool join)∧w'.cell? ⟨f,8,none⟩=some (.bool r.raw),fun _ h=>h,fun _ y0 y1 y2 y3 y4 y5 y6=>⟨y0,y1,y2,y3,y4,y5,y6⟩⟩
   have kp0:∀p:WIn S,p.w.cell? ⟨B+3,2,none⟩=some (.int .i64 st.wide):=fun p=>(hS1 _ p.h).1
   have kp1:∀p:WIn S,p.w.cell? ⟨B,0,none⟩=some (.pointer (some ⟨f,0,none⟩)):=fun p=>(hS1 _ p.h).2.1
   have kp2:∀p:WIn S,p.w.cell? ⟨f,4,none⟩=some (.int .i64 r.tab):=fun p=>(hS1 _ p.h).2.2.1
   have kp3:∀p:WIn S,p.w.cell? ⟨f,5,none⟩=some (.bool r.wideA):=fun p=>(hS1 _ p.h).2.2.2.1
   have kp4:∀p:WIn S,p.w.cell? ⟨f,6,none⟩=some (.int .i8 want):=fun p=>(hS1 _ p.h).2.2.2.2.1
   have kp5:∀p:WIn S,p.w.cell? ⟨f,7,none⟩=some (.bool join):=fun p=>(hS1 _ p.h).2.2.2.2.2.1
   have kp6:∀p:WIn S,p.w.cell? ⟨f,8,none⟩=some (.bool r.raw):=fun p=>(hS1 _ p.h).2.2.2.2.2.2
   have HS:=lh hS2
   have hne:Nonempty (WIn S):=⟨⟨W1,hS2 _ kw kB f4 f5 f6 f7 f8⟩⟩
   clear hS1 hS2
   refine wpIn_region_seg S [7,3] (by kernel_rfl) (by kernel_rfl) (fun _ _ _ _ h=>h) (fun _ _ h=>h) (HS.out _ kw kB f4 f5 f6 f7 f8) ?_
   simp only [segH,List.take_succ_cons,List.take_zero,List.drop_succ_cons,List.drop_zero]
   repeat (go_big_quiet_step (fail))
   refine wpQuiet_nil ?_
   intro K hK
   have HK:=lh hK
   clear hK
   have HDr:=lh (HB1.out.trans (bl_drewN (Below.refl W.heap.size W1) 1))
   go_wp2_with (go_at_call 17;refine (HTX.out W1.drew HDr.out).mono ?_;rintro e' W2 ⟨rfl,hb2⟩)
   have hb2':Below W1.heap.size W1 W2:=(bl_drewN (Below.refl _ _) 1).trans hb2
   refine HK.out _ _ (HS.out _ (cell_bl hb2' (cell_lt kw) kw) (cell_bl hb2' (cell_lt kB) kB) (cell_bl hb2' (cell_lt f4) f4) (cell_bl hb2' (cell_lt f5) f5) (cell_bl hb2' (cell_lt f6) f6) (cell_bl hb2' (cell_lt f7) f7) (cell_bl hb2' (cell_lt f8) f8)) ?_
   clear HK
   repeat (go_big_quiet_step (fail))
   refine wpQuiet_nil ?_
   intro K hK
   have HK:=lh hK
   clear hK
   have hR2:=HR1.out.below hb2'
   have hF2:=HF1.out.below hb2' (by have:=HF1.out.lt;omega)
   have hbW2:Below W.heap.size W W2:=HB1.out.trans (hb2'.mono HB1.out.size)
   have kn:=hR2.cells.2.2.2.2.2.1
   have fn:=hR2.frz 6 0 (by omega)
   have HR2:=lh hR2
   have HF2:=lh hF2
   have HBW2:=lh hbW2
   clear hb2 hb2' hR2 hF2 hbW2 HDr HR1 HF1 HB1
   go_wp2_with (fail)
   have hR3:RwB (W2.setCell ⟨B+6,0,none⟩ (.int .i64 tx)) B f a n (0,0,0) { st with c:=tx } tail:=HR2.out.setC tx
   have hF3:FilW (W2.setCell ⟨B+6,0,none⟩ (.int .i64 tx)) f text wa wn wc e r want join:=box_other HF2.out (by omega)
   have hb3:Below B W (W2.setCell ⟨B+6,0,none⟩ (.int .i64 tx)):=(HBW2.out.mono (by omega)).setCell (p:=⟨B+6,0,none⟩) (Nat.le_add_right _ _) _
   have hk3:KeepsOthers W (W2.setCell ⟨B+6,0,none⟩ (.int .i64 tx)):=(keeps_below HBW2.out).trans (KeepsOthers.setCell _ _ _)
   have hG3:(W2.setCell ⟨B+6,0,none⟩ (.int .i64 tx)).cell? ⟨G,o+st.n,none⟩=some (.int .i8 (ith r.wh st.n)):=(World.cell?_setCell_far _ _ _ _ (show B+6≠G by omega)).trans (cell_bl HBW2.out (by omega) HWC.out)
   generalize W2.setCell ⟨B+6,0,none⟩ (.int .i64 tx)=W3 at hR3 hF3 hb3 hk3 hG3 ⊢
   refine HK.out _ _ (HS.out _ hR3.now.2.2 hR3.cells.1 hF3.cells.2.2.2.2.1 hF3.cells.2.2.2.2.2.1 hF3.cells.2.2.2.2.2.2.1 hF3.cells.2.2.2.2.2.2.2.1 hF3.cells.2.2.2.2.2.2.2.2) ?_
   clear HK HS kp0 kp1 kp2 kp3 kp4 kp5 kp6 hne kn fn kw kB f4 f5 f6 f7 f8 HR2 HF2 HBW2
   refine wpQuiet_nil ?_
   have kh:=hR3.cells.2.2.2.2.1
   have kn:=hR3.cells.2.2.2.2.2.1
   have kw:=hR3.now.2.2
   have kB:=hR3.cells.1
   have fw:=hF3.cells.2.2.2.1
   have fh:=hR3.frz 5 0 (by omega)
   have fn:=hR3.frz 6 0 (by omega)
   dsimp only at kh kn kw
   have HR3:=lh hR3
   have HF3:=lh hF3
   have HB3:=lh hb3
   have HK3:=lh hk3
   have HG3:=lh hG3
   clear hR3 hF3 hb3 hk3 hG3
   obtain⟨hg,hhg⟩:∃y,st.hangs=y:=⟨_,rfl⟩
   have hst:=HSTEP.out
   rw [hhg] at kh
   have HHG:=lh hhg
   clear HSTEP hhg
   cases isb with
   | true =>
     cases hg with
     | true =>
       rw [if_pos ⟨rfl,.inl HHG.out⟩] at hst
       gi_wp2_with (fail)
       refine wpIn_region_quiet_r (by kernel_rfl) (by kernel_rfl) (fun _ _ h=>h) ?_
       repeat (go_big_quiet_step (fail))
       refine wpQuiet_nil ?_
       intro _ hw'
       obtain⟨nq,hw''⟩:=hw'
       subst hw''
       have HST:=lh hst
       clear hst
       have FLB:FlB a n k tail.size { st with hangs:=true,c:=0 }:=⟨H3.out.1,H3.out.2.1,H3.out.2.2.1,H3.out.2.2.2.1,Int.le_refl _,by show (0:Int)≤19;omega⟩
       gi_upto_region 12 with (fail)
       have hR4:RwB (((W3.drewN nq).setCell ⟨B+5,0,none⟩ (.bool true)).setCell ⟨B+6,0,none⟩ (.int .i64 0)) B f a n (0,0,0) { st with hangs:=true,c:=0 } tail:=(RwB.setH (W:=W3.drewN nq) HR3.out true).setC 0
       have hF4:FilW (((W3.drewN nq).setCell ⟨B+5,0,none⟩ (.bool true)).setCell ⟨B+6,0,none⟩ (.int .i64 0)) f text wa wn wc e r want join:=box_other (box_other (show (W3.drewN nq).heap[f]? = _ from HF3.out) (by omega)) (by omega)
       have hb4:Below B W (((W3.drewN nq).setCell ⟨B+5,0,none⟩ (.bool true)).setCell ⟨B+6,0,none⟩ (.int .i64 0)):=((bl_drewN HB3.out nq).setCell (p:=⟨B+5,0,none⟩) (Nat.le_add_right _ _) _).setCell (p:=⟨B+6,0,none⟩) (Nat.le_add_right _ _) _
       have hk4:KeepsOthers W (((W3.drewN nq).setCell ⟨B+5,0,none⟩ (.bool true)).setCell ⟨B+6,0,none⟩ (.int .i64 0)):=((HK3.out.trans (keeps_below (bl_drewN (Below.refl _ _) nq))).trans (KeepsOthers.setCell _ _ _)).trans (KeepsOthers.setCell _ _ _)
       have hG4:(((W3.drewN nq).setCell ⟨B+5,0,none⟩ (.bool true)).setCell ⟨B+6,0,none⟩ (.int .i64 0)).cell? ⟨G,o+st.n,none⟩=some (.int .i8 (ith r.wh st.n)):=(World.cell?_setCell_far _ _ _ _ (show B+6≠G by omega)).trans ((World.cell?_setCell_far _ _ _ _ (show B+5≠G by omega)).trans HG3.out)
       clear HR3 HF3 HB3 HK3 HG3 kh kn kw kB fw fh fn
       generalize ((W3.drewN nq).setCell ⟨B+5,0,none⟩ (.bool true)).setCell ⟨B+6,0,none⟩ (.int .i64 0)=W4 at hR4 hF4 hb4 hk4 hG4 ⊢
       have k0:=hR4.now.1
       have k1:=hR4.now.2.1
       have k2:=hR4.now.2.2
       have kc:=hR4.cells.2.2.2.2.2.1
       have y0:=hR4.frz 3 0 (by omega)
       have y2:=hR4.frz 3 2 (by omega)
       dsimp only at k0 k1 k2 kc
       have hac:(st.a:Int)+(c.size:Int)≤9223372036854775807:=by omega
       have hac0:0≤(st.a:Int)+(c.size:Int):=by omega
       have HR4:=lh hR4
       have HF4:=lh hF4
       have HB4:=lh hb4
       have HK4:=lh hk4
       have HG4:=lh hG4
       clear hR4 hF4 hb4 hk4 hG4
       gi_upto_region 14 with (fail)
       have hR5:RwB ((W4.setCell ⟨B+3,0,none⟩ (.int .i64 ((st.a:Int)+(c.size:Int)))).setCell ⟨B+3,2,none⟩ (.int .i64 st.wide)) B f a n (0,0,0) { ({ st with hangs:=true,c:=0 }:Fl) with a:=st.a+c.size,wide:=st.wide } tail:=(HR4.out.setA (st.a+c.size)).setW (st.wide)
       have hF5:FilW ((W4.setCell ⟨B+3,0,none⟩ (.int .i64 ((st.a:Int)+(c.size:Int)))).setCell ⟨B+3,2,none⟩ (.int .i64 st.wide)) f text wa wn wc e r want join:=box_other (box_other HF4.out (by omega)) (by omega)
       have hb5:Below B W ((W4.setCell ⟨B+3,0,none⟩ (.int .i64 ((st.a:Int)+(c.size:Int)))).setCell ⟨B+3,2,none⟩ (.int .i64 st.wide)):=(HB4.out.setCell (p:=⟨B+3,0,none⟩) (Nat.le_add_right _ _) _).setCell (p:=⟨B+3,2,none⟩) (Nat.le_add_right _ _) _
       have hk5:KeepsOthers W ((W4.setCell ⟨B+3,0,none⟩ (.int .i64 ((st.a:Int)+(c.size:Int)))).setCell ⟨B+3,2,none⟩ (.int .i64 st.wide)):=(HK4.out.trans (KeepsOthers.setCell _ _ _)).trans (KeepsOthers.setCell _ _ _)
       have hG5:((W4.setCell ⟨B+3,0,none⟩ (.int .i64 ((st.a:Int)+(c.size:Int)))).setCell ⟨B+3,2,none⟩ (.int .i64 st.wide)).cell? ⟨G,o+st.n,none⟩=some (.int .i8 (ith r.wh st.n)):=(World.cell?_setCell_far _ _ _ _ (show B+3≠G by omega)).trans ((World.cell?_setCell_far _ _ _ _ (show B+3≠G by omega)).trans HG4.out)
       generalize (W4.setCell ⟨B+3,0,none⟩ (.int .i64 ((st.a:Int)+(c.size:Int)))).setCell ⟨B+3,2,none⟩ (.int .i64 st.wide)=W5 at hR5 hF5 hb5 hk5 hG5 ⊢
       clear k0 k1 k2 kc y0 y2 HR4 HF4 HB4 HK4 HG4
       obtain⟨k0,k1,k2⟩:=hR5.now
       obtain⟨m0,m1,m2⟩:=hR5.may
       dsimp only at k0 k1 k2 m0 m1 m2
       have kB:=hR5.cells.1
       have fs:=hF5.cells.2.1
       rw [HWA.out] at fs
       have y1:=hR5.frz 3 1 (by omega)
       have z0:=hR5.frz 4 0 (by omega)
       have z1:=hR5.frz 4 1 (by omega)
       have z2:=hR5.frz 4 2 (by omega)
       obtain⟨q,hq⟩:∃q,ith r.wh st.n=q:=⟨_,rfl⟩
       have hG6:=hG5
       rw [hq] at hG6
       have HR5:=lh hR5
       have HB5:=lh hb5
       have HK5:=lh hk5
       clear hR5 hF5 hb5 hk5 hG5
       gi_wp2_with (fail)
       refine wpIn_region_quiet_r (by kernel_rfl) (by kernel_rfl) (fun _ _ h=>h) ?_
       repeat (go_big_quiet_step (fail))
       refine wpQuiet_nil ?_
       intro _ hw'
       obtain⟨nq,hw''⟩:=hw'
       subst hw''
       by_cases e1:q=1
       ·have e2:(q==1)=true:=by rw [beq_iff_eq];exact e1
        rw [e1] at hq
        have HQ:=lh hq
        clear e1 hq
        gi_wp2_with (fail)
        have hR6:=((HR5.out.setM (st.a+c.size) (st.n+1) (st.wide)).setK (st.n+1))
        exact rw_close HCC.out HKK.out (fill_step H2.out (by rw [HST.out])) (by rw [HST.out];exact FLB.adv r.wh c.size hcz) (by rw [HST.out];unfold adv;dsimp only;rw [if_pos HQ.out,if_pos HQ.out,if_pos HQ.out];first | exact hR6 | (rw [Int.add_zero];exact hR6)) H4.out
         ((((bl_drewN HB5.out _).setCell (p:=⟨B+4,0,none⟩) (Nat.le_add_right _ _) _).setCell (p:=⟨B+4,1,none⟩) (Nat.le_add_right _ _) _).setCell (p:=⟨B+4,2,none⟩) (Nat.le_add_right _ _) _ |>.setCell (p:=⟨B+3,1,none⟩) (Nat.le_add_right _ _) _)
         (((((HK5.out.trans (keeps_below (bl_drewN (Below.refl _ _) _))).trans (KeepsOthers.setCell _ _ _)).trans (KeepsOthers.setCell _ _ _)).trans (KeepsOthers.setCell _ _ _)).trans (KeepsOthers.setCell _ _ _)) H1.out
       ·have e2:(q==1)=false:=by rw [beq_eq_false_iff_ne];exact e1
        have HQ:=lh (show ¬ ith r.wh st.n=1 by rw [hq];exact e1)
        clear e1 hq
        gi_wp2_with (fail)
        have hR6:=RwB.setK (W:=W5.drewN nq) HR5.out (st.n+1)
        exact rw_close HCC.out HKK.out (fill_step H2.out (by rw [HST.out])) (by rw [HST.out];exact FLB.adv r.wh c.size hcz) (by rw [HST.out];unfold adv;dsimp only;rw [if_neg HQ.out,if_neg HQ.out,if_neg HQ.out];first | exact hR6 | (rw [Int.add_zero];exact hR6)) H4.out
         ((bl_drewN HB5.out _).setCell (p:=⟨B+3,1,none⟩) (Nat.le_add_right _ _) _)
         ((HK5.out.trans (keeps_below (bl_drewN (Below.refl _ _) _))).trans (KeepsOthers.setCell _ _ _)) H1.out
     | false =>
       by_cases hov:r.w<st.wide+tx
       ·rw [if_pos ⟨rfl,.inr hov⟩] at hst
        gi_wp2_with (fail)
        refine wpIn_region_quiet_r (by kernel_rfl) (by kernel_rfl) (fun _ _ h=>h) ?_
        repeat (go_big_quiet_step (fail))
        refine wpQuiet_nil ?_
        intro _ hw'
        obtain⟨nq,hw''⟩:=hw'
        subst hw''
        have HST:=lh hst
        clear hst
        have FLB:FlB a n k tail.size { st with hangs:=true,c:=0 }:=⟨H3.out.1,H3.out.2.1,H3.out.2.2.1,H3.out.2.2.2.1,Int.le_refl _,by show (0:Int)≤19;omega⟩
        gi_upto_region 12 with (fail)
        have hR4:RwB (((W3.drewN nq).setCell ⟨B+5,0,none⟩ (.bool true)).setCell ⟨B+6,0,none⟩ (.int .i64 0)) B f a n (0,0,0) { st with hangs:=true,c:=0 } tail:=(RwB.setH (W:=W3.drewN nq) HR3.out true).setC 0
        have hF4:FilW (((W3.drewN nq).setCell ⟨B+5,0,none⟩ (.bool true)).setCell ⟨B+6,0,none⟩ (.int .i64 0)) f text wa wn wc e r want join:=box_other (box_other (show (W3.drewN nq).heap[f]? = _ from HF3.out) (by omega)) (by omega)
        have hb4:Below B W (((W3.drewN nq).setCell ⟨B+5,0,none⟩ (.bool true)).setCell ⟨B+6,0,none⟩ (.int .i64 0)):=((bl_drewN HB3.out nq).setCell (p:=⟨B+5,0,none⟩) (Nat.le_add_right _ _) _).setCell (p:=⟨B+6,0,none⟩) (Nat.le_add_right _ _) _
        have hk4:KeepsOthers W (((W3.drewN nq).setCell ⟨B+5,0,none⟩ (.bool true)).setCell ⟨B+6,0,none⟩ (.int .i64 0)):=((HK3.out.trans (keeps_below (bl_drewN (Below.refl _ _) nq))).trans (KeepsOthers.setCell _ _ _)).trans (KeepsOthers.setCell _ _ _)
        have hG4:(((W3.drewN nq).setCell ⟨B+5,0,none⟩ (.bool true)).setCell ⟨B+6,0,none⟩ (.int .i64 0)).cell? ⟨G,o+st.n,none⟩=some (.int .i8 (ith r.wh st.n)):=(World.cell?_setCell_far _ _ _ _ (show B+6≠G by omega)).trans ((World.cell?_setCell_far _ _ _ _ (show B+5≠G by omega)).trans HG3.out)
        clear HR3 HF3 HB3 HK3 HG3 kh kn kw kB fw fh fn
        generalize ((W3.drewN nq).setCell ⟨B+5,0,none⟩ (.bool true)).setCell ⟨B+6,0,none⟩ (.int .i64 0)=W4 at hR4 hF4 hb4 hk4 hG4 ⊢
        have k0:=hR4.now.1
        have k1:=hR4.now.2.1
        have k2:=hR4.now.2.2
        have kc:=hR4.cells.2.2.2.2.2.1
        have y0:=hR4.frz 3 0 (by omega)
        have y2:=hR4.frz 3 2 (by omega)
        dsimp only at k0 k1 k2 kc
        have hac:(st.a:Int)+(c.size:Int)≤9223372036854775807:=by omega
        have hac0:0≤(st.a:Int)+(c.size:Int):=by omega
        have HR4:=lh hR4
        have HF4:=lh hF4
        have HB4:=lh hb4
        have HK4:=lh hk4
        have HG4:=lh hG4
        clear hR4 hF4 hb4 hk4 hG4
        gi_upto_region 14 with (fail)
        have hR5:RwB ((W4.setCell ⟨B+3,0,none⟩ (.int .i64 ((st.a:Int)+(c.size:Int)))).setCell ⟨B+3,2,none⟩ (.int .i64 st.wide)) B f a n (0,0,0) { ({ st with hangs:=true,c:=0 }:Fl) with a:=st.a+c.size,wide:=st.wide } tail:=(HR4.out.setA (st.a+c.size)).setW (st.wide)
        have hF5:FilW ((W4.setCell ⟨B+3,0,none⟩ (.int .i64 ((st.a:Int)+(c.size:Int)))).setCell ⟨B+3,2,none⟩ (.int .i64 st.wide)) f text wa wn wc e r want join:=box_other (box_other HF4.out (by omega)) (by omega)
        have hb5:Below B W ((W4.setCell ⟨B+3,0,none⟩ (.int .i64 ((st.a:Int)+(c.size:Int)))).setCell ⟨B+3,2,none⟩ (.int .i64 st.wide)):=(HB4.out.setCell (p:=⟨B+3,0,none⟩) (Nat.le_add_right _ _) _).setCell (p:=⟨B+3,2,none⟩) (Nat.le_add_right _ _) _
        have hk5:KeepsOthers W ((W4.setCell ⟨B+3,0,none⟩ (.int .i64 ((st.a:Int)+(c.size:Int)))).setCell ⟨B+3,2,none⟩ (.int .i64 st.wide)):=(HK4.out.trans (KeepsOthers.setCell _ _ _)).trans (KeepsOthers.setCell _ _ _)
        have hG5:((W4.setCell ⟨B+3,0,none⟩ (.int .i64 ((st.a:Int)+(c.size:Int)))).setCell ⟨B+3,2,none⟩ (.int .i64 st.wide)).cell? ⟨G,o+st.n,none⟩=some (.int .i8 (ith r.wh st.n)):=(World.cell?_setCell_far _ _ _ _ (show B+3≠G by omega)).trans ((World.cell?_setCell_far _ _ _ _ (show B+3≠G by omega)).trans HG4.out)
        generalize (W4.setCell ⟨B+3,0,none⟩ (.int .i64 ((st.a:Int)+(c.size:Int)))).setCell ⟨B+3,2,none⟩ (.int .i64 st.wide)=W5 at hR5 hF5 hb5 hk5 hG5 ⊢
        clear k0 k1 k2 kc y0 y2 HR4 HF4 HB4 HK4 HG4
        obtain⟨k0,k1,k2⟩:=hR5.now
        obtain⟨m0,m1,m2⟩:=hR5.may
        dsimp only at k0 k1 k2 m0 m1 m2
        have kB:=hR5.cells.1
        have fs:=hF5.cells.2.1
        rw [HWA.out] at fs
        have y1:=hR5.frz 3 1 (by omega)
        have z0:=hR5.frz 4 0 (by omega)
        have z1:=hR5.frz 4 1 (by omega)
        have z2:=hR5.frz 4 2 (by omega)
        obtain⟨q,hq⟩:∃q,ith r.wh st.n=q:=⟨_,rfl⟩
        have hG6:=hG5
        rw [hq] at hG6
        have HR5:=lh hR5
        have HB5:=lh hb5
        have HK5:=lh hk5
        clear hR5 hF5 hb5 hk5 hG5
        gi_wp2_with (fail)
        refine wpIn_region_quiet_r (by kernel_rfl) (by kernel_rfl) (fun _ _ h=>h) ?_
        repeat (go_big_quiet_step (fail))
        refine wpQuiet_nil ?_
        intro _ hw'
        obtain⟨nq,hw''⟩:=hw'
        subst hw''
        by_cases e1:q=1
        ·have e2:(q==1)=true:=by rw [beq_iff_eq];exact e1
         rw [e1] at hq
         have HQ:=lh hq
         clear e1 hq
         gi_wp2_with (fail)
         have hR6:=((HR5.out.setM (st.a+c.size) (st.n+1) (st.wide)).setK (st.n+1))
         exact rw_close HCC.out HKK.out (fill_step H2.out (by rw [HST.out])) (by rw [HST.out];exact FLB.adv r.wh c.size hcz) (by rw [HST.out];unfold adv;dsimp only;rw [if_pos HQ.out,if_pos HQ.out,if_pos HQ.out];first | exact hR6 | (rw [Int.add_zero];exact hR6)) H4.out
          ((((bl_drewN HB5.out _).setCell (p:=⟨B+4,0,none⟩) (Nat.le_add_right _ _) _).setCell (p:=⟨B+4,1,none⟩) (Nat.le_add_right _ _) _).setCell (p:=⟨B+4,2,none⟩) (Nat.le_add_right _ _) _ |>.setCell (p:=⟨B+3,1,none⟩) (Nat.le_add_right _ _) _)
          (((((HK5.out.trans (keeps_below (bl_drewN (Below.refl _ _) _))).trans (KeepsOthers.setCell _ _ _)).trans (KeepsOthers.setCell _ _ _)).trans (KeepsOthers.setCell _ _ _)).trans (KeepsOthers.setCell _ _ _)) H1.out
        ·have e2:(q==1)=false:=by rw [beq_eq_false_iff_ne];exact e1
         have HQ:=lh (show ¬ ith r.wh st.n=1 by rw [hq];exact e1)
         clear e1 hq
         gi_wp2_with (fail)
         have hR6:=RwB.setK (W:=W5.drewN nq) HR5.out (st.n+1)
         exact rw_close HCC.out HKK.out (fill_step H2.out (by rw [HST.out])) (by rw [HST.out];exact FLB.adv r.wh c.size hcz) (by rw [HST.out];unfold adv;dsimp only;rw [if_neg HQ.out,if_neg HQ.out,if_neg HQ.out];first | exact hR6 | (rw [Int.add_zero];exact hR6)) H4.out
          ((bl_drewN HB5.out _).setCell (p:=⟨B+3,1,none⟩) (Nat.le_add_right _ _) _)
          ((HK5.out.trans (keeps_below (bl_drewN (Below.refl _ _) _))).trans (KeepsOthers.setCell _ _ _)) H1.out
       ·have hovd:decide (r.w<st.wide+tx)=false:=decide_eq_false hov
        rw [if_neg (fun h=>h.2.elim (fun h=>by rw [HHG.out] at h;cases h) hov),if_neg (fun h=>h.elim (fun h=>by rw [HHG.out] at h;cases h) hov)] at hst
        gi_wp2_with (fail)
        refine wpIn_region_quiet_r (by kernel_rfl) (by kernel_rfl) (fun _ _ h=>h) ?_
        repeat (go_big_quiet_step (fail))
        refine wpQuiet_nil ?_
        intro _ hw'
        obtain⟨nq,hw''⟩:=hw'
        subst hw''
        gi_wp2_with (fail)
        refine wpIn_region_quiet_r (by kernel_rfl) (by kernel_rfl) (fun _ _ h=>h) ?_
        repeat (go_big_quiet_step (fail))
        refine wpQuiet_nil ?_
        intro _ hw'
        obtain⟨nr,hw''⟩:=hw'
        subst hw''
        have HST:=lh hst
        clear hst
        have FLB:FlB a n k tail.size { st with c:=tx }:=⟨H3.out.1,H3.out.2.1,H3.out.2.2.1,H3.out.2.2.2.1,htx0,htx1⟩
        gi_upto_region 12 with (fail)
        have hR4:RwB ((W3.drewN nq).drewN nr) B f a n (0,0,0) { st with c:=tx } tail:=HR3.out
        have hF4:FilW ((W3.drewN nq).drewN nr) f text wa wn wc e r want join:=HF3.out
        have hb4:Below B W ((W3.drewN nq).drewN nr):=HB3.out.trans (bl_drewN (bl_drewN (Below.refl _ _) _) _)
        have hk4:KeepsOthers W ((W3.drewN nq).drewN nr):=HK3.out.trans (keeps_below (bl_drewN (bl_drewN (Below.refl _ _) _) _))
        have hG4:((W3.drewN nq).drewN nr).cell? ⟨G,o+st.n,none⟩=some (.int .i8 (ith r.wh st.n)):=HG3.out
        clear HR3 HF3 HB3 HK3 HG3 kh kn kw kB fw fh fn
        generalize (W3.drewN nq).drewN nr=W4 at hR4 hF4 hb4 hk4 hG4 ⊢
        have k0:=hR4.now.1
        have k1:=hR4.now.2.1
        have k2:=hR4.now.2.2
        have kc:=hR4.cells.2.2.2.2.2.1
        have y0:=hR4.frz 3 0 (by omega)
        have y2:=hR4.frz 3 2 (by omega)
        dsimp only at k0 k1 k2 kc
        have hac:(st.a:Int)+(c.size:Int)≤9223372036854775807:=by omega
        have hac0:0≤(st.a:Int)+(c.size:Int):=by omega
        have HR4:=lh hR4
        have HF4:=lh hF4
        have HB4:=lh hb4
        have HK4:=lh hk4
        have HG4:=lh hG4
        clear hR4 hF4 hb4 hk4 hG4
        gi_upto_region 14 with (fail)
        have hR5:RwB ((W4.setCell ⟨B+3,0,none⟩ (.int .i64 ((st.a:Int)+(c.size:Int)))).setCell ⟨B+3,2,none⟩ (.int .i64 (st.wide+tx))) B f a n (0,0,0) { ({ st with c:=tx }:Fl) with a:=st.a+c.size,wide:=(st.wide+tx) } tail:=(HR4.out.setA (st.a+c.size)).setW ((st.wide+tx))
        have hF5:FilW ((W4.setCell ⟨B+3,0,none⟩ (.int .i64 ((st.a:Int)+(c.size:Int)))).setCell ⟨B+3,2,none⟩ (.int .i64 (st.wide+tx))) f text wa wn wc e r want join:=box_other (box_other HF4.out (by omega)) (by omega)
        have hb5:Below B W ((W4.setCell ⟨B+3,0,none⟩ (.int .i64 ((st.a:Int)+(c.size:Int)))).setCell ⟨B+3,2,none⟩ (.int .i64 (st.wide+tx))):=(HB4.out.setCell (p:=⟨B+3,0,none⟩) (Nat.le_add_right _ _) _).setCell (p:=⟨B+3,2,none⟩) (Nat.le_add_right _ _) _
        have hk5:KeepsOthers W ((W4.setCell ⟨B+3,0,none⟩ (.int .i64 ((st.a:Int)+(c.size:Int)))).setCell ⟨B+3,2,none⟩ (.int .i64 (st.wide+tx))):=(HK4.out.trans (KeepsOthers.setCell _ _ _)).trans (KeepsOthers.setCell _ _ _)
        have hG5:((W4.setCell ⟨B+3,0,none⟩ (.int .i64 ((st.a:Int)+(c.size:Int)))).setCell ⟨B+3,2,none⟩ (.int .i64 (st.wide+tx))).cell? ⟨G,o+st.n,none⟩=some (.int .i8 (ith r.wh st.n)):=(World.cell?_setCell_far _ _ _ _ (show B+3≠G by omega)).trans ((World.cell?_setCell_far _ _ _ _ (show B+3≠G by omega)).trans HG4.out)
        generalize (W4.setCell ⟨B+3,0,none⟩ (.int .i64 ((st.a:Int)+(c.size:Int)))).setCell ⟨B+3,2,none⟩ (.int .i64 (st.wide+tx))=W5 at hR5 hF5 hb5 hk5 hG5 ⊢
        clear k0 k1 k2 kc y0 y2 HR4 HF4 HB4 HK4 HG4
        obtain⟨k0,k1,k2⟩:=hR5.now
        obtain⟨m0,m1,m2⟩:=hR5.may
        dsimp only at k0 k1 k2 m0 m1 m2
        have kB:=hR5.cells.1
        have fs:=hF5.cells.2.1
        rw [HWA.out] at fs
        have y1:=hR5.frz 3 1 (by omega)
        have z0:=hR5.frz 4 0 (by omega)
        have z1:=hR5.frz 4 1 (by omega)
        have z2:=hR5.frz 4 2 (by omega)
        obtain⟨q,hq⟩:∃q,ith r.wh st.n=q:=⟨_,rfl⟩
        have hG6:=hG5
        rw [hq] at hG6
        have HR5:=lh hR5
        have HB5:=lh hb5
        have HK5:=lh hk5
        clear hR5 hF5 hb5 hk5 hG5
        gi_wp2_with (fail)
        refine wpIn_region_quiet_r (by kernel_rfl) (by kernel_rfl) (fun _ _ h=>h) ?_
        repeat (go_big_quiet_step (fail))
        refine wpQuiet_nil ?_
        intro _ hw'
        obtain⟨nq,hw''⟩:=hw'
        subst hw''
        by_cases e1:q=1
        ·have e2:(q==1)=true:=by rw [beq_iff_eq];exact e1
         rw [e1] at hq
         have HQ:=lh hq
         clear e1 hq
         gi_wp2_with (fail)
         have hR6:=((HR5.out.setM (st.a+c.size) (st.n+1) ((st.wide+tx))).setK (st.n+1))
         exact rw_close HCC.out HKK.out (fill_step H2.out (by rw [HST.out])) (by rw [HST.out];exact FLB.adv r.wh c.size hcz) (by rw [HST.out];unfold adv;dsimp only;rw [if_pos HQ.out,if_pos HQ.out,if_pos HQ.out];first | exact hR6 | (rw [Int.add_zero];exact hR6)) H4.out
          ((((bl_drewN HB5.out _).setCell (p:=⟨B+4,0,none⟩) (Nat.le_add_right _ _) _).setCell (p:=⟨B+4,1,none⟩) (Nat.le_add_right _ _) _).setCell (p:=⟨B+4,2,none⟩) (Nat.le_add_right _ _) _ |>.setCell (p:=⟨B+3,1,none⟩) (Nat.le_add_right _ _) _)
          (((((HK5.out.trans (keeps_below (bl_drewN (Below.refl _ _) _))).trans (KeepsOthers.setCell _ _ _)).trans (KeepsOthers.setCell _ _ _)).trans (KeepsOthers.setCell _ _ _)).trans (KeepsOthers.setCell _ _ _)) H1.out
        ·have e2:(q==1)=false:=by rw [beq_eq_false_iff_ne];exact e1
         have HQ:=lh (show ¬ ith r.wh st.n=1 by rw [hq];exact e1)
         clear e1 hq
         gi_wp2_with (fail)
         have hR6:=RwB.setK (W:=W5.drewN nq) HR5.out (st.n+1)
         exact rw_close HCC.out HKK.out (fill_step H2.out (by rw [HST.out])) (by rw [HST.out];exact FLB.adv r.wh c.size hcz) (by rw [HST.out];unfold adv;dsimp only;rw [if_neg HQ.out,if_neg HQ.out,if_neg HQ.out];first | exact hR6 | (rw [Int.add_zero];exact hR6)) H4.out
          ((bl_drewN HB5.out _).setCell (p:=⟨B+3,1,none⟩) (Nat.le_add_right _ _) _)
          ((HK5.out.trans (keeps_below (bl_drewN (Below.refl _ _) _))).trans (KeepsOthers.setCell _ _ _)) H1.out
   | false =>
     cases hg with
     | true =>
       rw [if_neg (fun h=>by cases h.1),if_pos (.inl HHG.out)] at hst
       gi_wp2_with (fail)
       refine wpIn_region_quiet_r (by kernel_rfl) (by kernel_rfl) (fun _ _ h=>h) ?_
       repeat (go_big_quiet_step (fail))
       refine wpQuiet_nil ?_
       intro _ hw'
       obtain⟨nq,hw''⟩:=hw'
       subst hw''
       gi_wp2_with (fail)
       refine wpIn_region_quiet_r (by kernel_rfl) (by kernel_rfl) (fun _ _ h=>h) ?_
       repeat (go_big_quiet_step (fail))
       refine wpQuiet_nil ?_
       intro _ hw'
       obtain⟨nr,hw''⟩:=hw'
       subst hw''
       have HST:=lh hst
       clear hst
       have hfin:RwX w B f a n r tail (.goto 0) (pre++[x]) ((W3.drewN nq).drewN nr):=by
        refine⟨rfl,{ st with c:=tx },k,HR3.out,fun R=>?_,by rw [List.length_append,HKK.out];exact Nat.le_add_right _ _,⟨H3.out.1,H3.out.2.1,H3.out.2.2.1,H3.out.2.2.2.1,htx0,htx1⟩,H4.out.trans (HB3.out.trans (bl_drewN (bl_drewN (Below.refl _ _) _) _))⟩
        have:=fill_full H2.out (x:=c) (by rw [HST.out]) R
        rw [HST.out] at this
        rw [List.map_append,List.map_singleton,HCC.out]
        exact this
       have HFIN:=lh hfin
       have HKF:=lh (HK3.out.trans (keeps_below (bl_drewN (bl_drewN (Below.refl W3.heap.size W3) nq) nr)))
       clear hfin
       gi_wp2_with (fail)
       refine wpIn_goto ?_
       exact And.intro HKF.out HFIN.out
     | false =>
       by_cases hov:r.w<st.wide+tx
       ·rw [if_neg (fun h=>by cases h.1),if_pos (.inr hov)] at hst
        gi_wp2_with (fail)
        refine wpIn_region_quiet_r (by kernel_rfl) (by kernel_rfl) (fun _ _ h=>h) ?_
        repeat (go_big_quiet_step (fail))
        refine wpQuiet_nil ?_
        intro _ hw'
        obtain⟨nq,hw''⟩:=hw'
        subst hw''
        gi_wp2_with (fail)
        refine wpIn_region_quiet_r (by kernel_rfl) (by kernel_rfl) (fun _ _ h=>h) ?_
        repeat (go_big_quiet_step (fail))
        refine wpQuiet_nil ?_
        intro _ hw'
        obtain⟨nr,hw''⟩:=hw'
        subst hw''
        have HST:=lh hst
        clear hst
        have hfin:RwX w B f a n r tail (.goto 0) (pre++[x]) ((W3.drewN nq).drewN nr):=by
         refine⟨rfl,{ st with c:=tx },k,HR3.out,fun R=>?_,by rw [List.length_append,HKK.out];exact Nat.le_add_right _ _,⟨H3.out.1,H3.out.2.1,H3.out.2.2.1,H3.out.2.2.2.1,htx0,htx1⟩,H4.out.trans (HB3.out.trans (bl_drewN (bl_drewN (Below.refl _ _) _) _))⟩
         have:=fill_full H2.out (x:=c) (by rw [HST.out]) R
         rw [HST.out] at this
         rw [List.map_append,List.map_singleton,HCC.out]
         exact this
        have HFIN:=lh hfin
        have HKF:=lh (HK3.out.trans (keeps_below (bl_drewN (bl_drewN (Below.refl W3.heap.size W3) nq) nr)))
        clear hfin
        gi_wp2_with (fail)
        refine wpIn_goto ?_
        exact And.intro HKF.out HFIN.out
       ·have hovd:decide (r.w<st.wide+tx)=false:=decide_eq_false hov
        rw [if_neg (fun h=>by cases h.1),if_neg (fun h=>h.elim (fun h=>by rw [HHG.out] at h;cases h) hov)] at hst
        gi_wp2_with (fail)
        refine wpIn_region_quiet_r (by kernel_rfl) (by kernel_rfl) (fun _ _ h=>h) ?_
        repeat (go_big_quiet_step (fail))
        refine wpQuiet_nil ?_
        intro _ hw'
        obtain⟨nq,hw''⟩:=hw'
        subst hw''
        gi_wp2_with (fail)
        refine wpIn_region_quiet_r (by kernel_rfl) (by kernel_rfl) (fun _ _ h=>h) ?_
        repeat (go_big_quiet_step (fail))
        refine wpQuiet_nil ?_
        intro _ hw'
        obtain⟨nr,hw''⟩:=hw'
        subst hw''
        have HST:=lh hst
        clear hst
        have FLB:FlB a n k tail.size { st with c:=tx }:=⟨H3.out.1,H3.out.2.1,H3.out.2.2.1,H3.out.2.2.2.1,htx0,htx1⟩
        gi_upto_region 12 with (fail)
        have hR4:RwB ((W3.drewN nq).drewN nr) B f a n (0,0,0) { st with c:=tx } tail:=HR3.out
        have hF4:FilW ((W3.drewN nq).drewN nr) f text wa wn wc e r want join:=HF3.out
        have hb4:Below B W ((W3.drewN nq).drewN nr):=HB3.out.trans (bl_drewN (bl_drewN (Below.refl _ _) _) _)
        have hk4:KeepsOthers W ((W3.drewN nq).drewN nr):=HK3.out.trans (keeps_below (bl_drewN (bl_drewN (Below.refl _ _) _) _))
        have hG4:((W3.drewN nq).drewN nr).cell? ⟨G,o+st.n,none⟩=some (.int .i8 (ith r.wh st.n)):=HG3.out
        clear HR3 HF3 HB3 HK3 HG3 kh kn kw kB fw fh fn
        generalize (W3.drewN nq).drewN nr=W4 at hR4 hF4 hb4 hk4 hG4 ⊢
        have k0:=hR4.now.1
        have k1:=hR4.now.2.1
        have k2:=hR4.now.2.2
        have kc:=hR4.cells.2.2.2.2.2.1
        have y0:=hR4.frz 3 0 (by omega)
        have y2:=hR4.frz 3 2 (by omega)
        dsimp only at k0 k1 k2 kc
        have hac:(st.a:Int)+(c.size:Int)≤9223372036854775807:=by omega
        have hac0:0≤(st.a:Int)+(c.size:Int):=by omega
        have HR4:=lh hR4
        have HF4:=lh hF4
        have HB4:=lh hb4
        have HK4:=lh hk4
        have HG4:=lh hG4
        clear hR4 hF4 hb4 hk4 hG4
        gi_upto_region 14 with (fail)
        have hR5:RwB ((W4.setCell ⟨B+3,0,none⟩ (.int .i64 ((st.a:Int)+(c.size:Int)))).setCell ⟨B+3,2,none⟩ (.int .i64 (st.wide+tx))) B f a n (0,0,0) { ({ st with c:=tx }:Fl) with a:=st.a+c.size,wide:=(st.wide+tx) } tail:=(HR4.out.setA (st.a+c.size)).setW ((st.wide+tx))
        have hF5:FilW ((W4.setCell ⟨B+3,0,none⟩ (.int .i64 ((st.a:Int)+(c.size:Int)))).setCell ⟨B+3,2,none⟩ (.int .i64 (st.wide+tx))) f text wa wn wc e r want join:=box_other (box_other HF4.out (by omega)) (by omega)
        have hb5:Below B W ((W4.setCell ⟨B+3,0,none⟩ (.int .i64 ((st.a:Int)+(c.size:Int)))).setCell ⟨B+3,2,none⟩ (.int .i64 (st.wide+tx))):=(HB4.out.setCell (p:=⟨B+3,0,none⟩) (Nat.le_add_right _ _) _).setCell (p:=⟨B+3,2,none⟩) (Nat.le_add_right _ _) _
        have hk5:KeepsOthers W ((W4.setCell ⟨B+3,0,none⟩ (.int .i64 ((st.a:Int)+(c.size:Int)))).setCell ⟨B+3,2,none⟩ (.int .i64 (st.wide+tx))):=(HK4.out.trans (KeepsOthers.setCell _ _ _)).trans (KeepsOthers.setCell _ _ _)
        have hG5:((W4.setCell ⟨B+3,0,none⟩ (.int .i64 ((st.a:Int)+(c.size:Int)))).setCell ⟨B+3,2,none⟩ (.int .i64 (st.wide+tx))).cell? ⟨G,o+st.n,none⟩=some (.int .i8 (ith r.wh st.n)):=(World.cell?_setCell_far _ _ _ _ (show B+3≠G by omega)).trans ((World.cell?_setCell_far _ _ _ _ (show B+3≠G by omega)).trans HG4.out)
        generalize (W4.setCell ⟨B+3,0,none⟩ (.int .i64 ((st.a:Int)+(c.size:Int)))).setCell ⟨B+3,2,none⟩ (.int .i64 (st.wide+tx))=W5 at hR5 hF5 hb5 hk5 hG5 ⊢
        clear k0 k1 k2 kc y0 y2 HR4 HF4 HB4 HK4 HG4
        obtain⟨k0,k1,k2⟩:=hR5.now
        obtain⟨m0,m1,m2⟩:=hR5.may
        dsimp only at k0 k1 k2 m0 m1 m2
        have kB:=hR5.cells.1
        have fs:=hF5.cells.2.1
        rw [HWA.out] at fs
        have y1:=hR5.frz 3 1 (by omega)
        have z0:=hR5.frz 4 0 (by omega)
        have z1:=hR5.frz 4 1 (by omega)
        have z2:=hR5.frz 4 2 (by omega)
        obtain⟨q,hq⟩:∃q,ith r.wh st.n=q:=⟨_,rfl⟩
        have hG6:=hG5
        rw [hq] at hG6
        have HR5:=lh hR5
        have HB5:=lh hb5
        have HK5:=lh hk5
        clear hR5 hF5 hb5 hk5 hG5
        gi_wp2_with (fail)
        refine wpIn_region_quiet_r (by kernel_rfl) (by kernel_rfl) (fun _ _ h=>h) ?_
        repeat (go_big_quiet_step (fail))
        refine wpQuiet_nil ?_
        intro _ hw'
        obtain⟨nq,hw''⟩:=hw'
        subst hw''
        by_cases e1:q=1
        ·have e2:(q==1)=true:=by rw [beq_iff_eq];exact e1
         rw [e1] at hq
         have HQ:=lh hq
         clear e1 hq
         gi_wp2_with (fail)
         have hR6:=((HR5.out.setM (st.a+c.size) (st.n+1) ((st.wide+tx))).setK (st.n+1))
         exact rw_close HCC.out HKK.out (fill_step H2.out (by rw [HST.out])) (by rw [HST.out];exact FLB.adv r.wh c.size hcz) (by rw [HST.out];unfold adv;dsimp only;rw [if_pos HQ.out,if_pos HQ.out,if_pos HQ.out];first | exact hR6 | (rw [Int.add_zero];exact hR6)) H4.out
          ((((bl_drewN HB5.out _).setCell (p:=⟨B+4,0,none⟩) (Nat.le_add_right _ _) _).setCell (p:=⟨B+4,1,none⟩) (Nat.le_add_right _ _) _).setCell (p:=⟨B+4,2,none⟩) (Nat.le_add_right _ _) _ |>.setCell (p:=⟨B+3,1,none⟩) (Nat.le_add_right _ _) _)
          (((((HK5.out.trans (keeps_below (bl_drewN (Below.refl _ _) _))).trans (KeepsOthers.setCell _ _ _)).trans (KeepsOthers.setCell _ _ _)).trans (KeepsOthers.setCell _ _ _)).trans (KeepsOthers.setCell _ _ _)) H1.out
        ·have e2:(q==1)=false:=by rw [beq_eq_false_iff_ne];exact e1
         have HQ:=lh (show ¬ ith r.wh st.n=1 by rw [hq];exact e1)
         clear e1 hq
         gi_wp2_with (fail)
         have hR6:=RwB.setK (W:=W5.drewN nq) HR5.out (st.n+1)
         exact rw_close HCC.out HKK.out (fill_step H2.out (by rw [HST.out])) (by rw [HST.out];exact FLB.adv r.wh c.size hcz) (by rw [HST.out];unfold adv;dsimp only;rw [if_neg HQ.out,if_neg HQ.out,if_neg HQ.out];first | exact hR6 | (rw [Int.add_zero];exact hR6)) H4.out
          ((bl_drewN HB5.out _).setCell (p:=⟨B+3,1,none⟩) (Nat.le_add_right _ _) _)
          ((HK5.out.trans (keeps_below (bl_drewN (Below.refl _ _) _))).trans (KeepsOthers.setCell _ _ _)) H1.out
  case done =>
   rintro D xs W hD hxs ⟨st,h1,h2,h3,h4⟩ hK
   have hfl:fillRow r ((piecesI tail).map (·.2)) (fl0 a n)=(st,false):=by
    have:=h2 []
    rw [←pre_pieces (pre:=xs) (R:=[]) (by rw [List.append_nil,hxs])]
    exact this
   have hrow:rowAt1 r text e a n=(st.a,st.n,st.wide,lastEnd e):=by
    unfold rowAt1
    rw [htl,hfl]
   obtain⟨k0,k1,k2⟩:=h1.now
   have kB:=h1.cells.1
   have z0:W.cell? ⟨B+2,0,none⟩=some (.int .i64 0):=Blk.cell h1 2 0 (by omega) rfl
   have z1:W.cell? ⟨B+2,1,none⟩=some (.int .i64 0):=Blk.cell h1 2 1 (by omega) rfl
   have z2:W.cell? ⟨B+2,2,none⟩=some (.int .i64 0):=Blk.cell h1 2 2 (by omega) rfl
   have y0:=h1.frz 2 0 (by omega)
   have y1:=h1.frz 2 1 (by omega)
   have y2:=h1.frz 2 2 (by omega)
   have hL:=last_any f text wa wn wc e r want join
   have HFB:=lh (HF.out.below h4 hfB)
   have HL:=lh hL
   have HROW:=lh hrow
   have H1:=lh h1
   have H4:=lh h4
   have HK:=lh hK
   clear h1 h2 h3 h4 hfl hL hrow hK
   gi_upto_region 17 with (fail)
   refine wpIn_wide.2 ?_
   obtain⟨S,hS1,hS2⟩:∃S:World→Prop,(∀w',S w'→w'.cell? ⟨B+3,0,none⟩=some (.int .i64 st.a)∧w'.cell? ⟨B+3,1,none⟩=some (.int .i64 st.n)∧w'.cell? ⟨B+3,2,none⟩=some (.int .i64 st.wide)∧w'.cell? ⟨B,0,none⟩=some (.pointer (some ⟨f,0,none⟩)))∧∀w',w'.cell? ⟨B+3,0,none⟩=some (.int .i64 st.a)→w'.cell? ⟨B+3,1,none⟩=some (.int .i64 st.n)→w'.cell? ⟨B+3,2,none⟩=some (.int .i64 st.wide)→w'.cell? ⟨B,0,none⟩=some (.pointer (some ⟨f,0,none⟩))→S w' :=
    ⟨fun w'=>w'.cell? ⟨B+3,0,none⟩=some (.int .i64 st.a)∧w'.cell? ⟨B+3,1,none⟩=some (.int .i64 st.n)∧w'.cell? ⟨B+3,2,none⟩=some (.int .i64 st.wide)∧w'.cell? ⟨B,0,none⟩=some (.pointer (some ⟨f,0,none⟩)),fun _ h=>h,fun _ y0 y1 y2 y3=>⟨y0,y1,y2,y3⟩⟩
   have kp0:∀p:WIn S,p.w.cell? ⟨B+3,0,none⟩=some (.int .i64 st.a):=fun p=>(hS1 _ p.h).1
   have kp1:∀p:WIn S,p.w.cell? ⟨B+3,1,none⟩=some (.int .i64 st.n):=fun p=>(hS1 _ p.h).2.1
   have kp2:∀p:WIn S,p.w.cell? ⟨B+3,2,none⟩=some (.int .i64 st.wide):=fun p=>(hS1 _ p.h).2.2.1
   have kp3:∀p:WIn S,p.w.cell? ⟨B,0,none⟩=some (.pointer (some ⟨f,0,none⟩)):=fun p=>(hS1 _ p.h).2.2.2
   have HS:=lh hS2
   have hne:Nonempty (WIn S):=⟨⟨W,hS2 _ k0 k1 k2 kB⟩⟩
   clear hS1 hS2
   refine wp_region_seg S [2,0] (by kernel_rfl) (by kernel_rfl) (HS.out _ k0 k1 k2 kB) ?_
   simp only [segH,List.take_succ_cons,List.take_zero,List.drop_succ_cons,List.drop_zero]
   repeat (go_big_quiet_step (fail))
   refine wpQuiet_nil ?_
   intro K hK
   have HKK:=lh hK
   clear hK
   go_wp2_with (go_at_call 120;refine (HL.out W.drew HFB.out).mono ?_;rintro e' w5 ⟨rfl,rfl⟩)
   refine HKK.out _ _ (HS.out _ k0 k1 k2 kB) ?_
   refine wpQuiet_nil ?_
   clear HKK
   intro K hK
   have HKK:=lh hK
   clear hK
   go_wp2_with (fail)
   have hR2:RwB (((W.setCell ⟨B+2,0,none⟩ (.int .i64 st.a)).setCell ⟨B+2,1,none⟩ (.int .i64 st.n)).setCell ⟨B+2,2,none⟩ (.int .i64 st.wide)).drew B f a n (st.a,st.n,st.wide) st tail:=H1.out.setR st.a st.n st.wide
   have hK2:(((W.setCell ⟨B+2,0,none⟩ (.int .i64 st.a)).setCell ⟨B+2,1,none⟩ (.int .i64 st.n)).setCell ⟨B+2,2,none⟩ (.int .i64 st.wide)).drew.heap[D]? = some (.deferred (some [])) :=
    box_other (box_other (box_other HK.out (by omega)) (by omega)) (by omega)
   have hb2:Below B w (((W.setCell ⟨B+2,0,none⟩ (.int .i64 st.a)).setCell ⟨B+2,1,none⟩ (.int .i64 st.n)).setCell ⟨B+2,2,none⟩ (.int .i64 st.wide)).drew :=
    (((H4.out.setCell (p:=⟨B+2,0,none⟩) (Nat.le_add_right _ _) _).setCell (p:=⟨B+2,1,none⟩) (Nat.le_add_right _ _) _).setCell (p:=⟨B+2,2,none⟩) (Nat.le_add_right _ _) _).trans (bl_drewN (Below.refl _ _) 1)
   have ht2:(((W.setCell ⟨B+2,0,none⟩ (.int .i64 st.a)).setCell ⟨B+2,1,none⟩ (.int .i64 st.n)).setCell ⟨B+2,2,none⟩ (.int .i64 st.wide)).drew.heap.size=W.heap.size:=by
    show (((W.setCell _ _).setCell _ _).setCell _ _).heap.size=_
    simp only [World.size_setCell]
   generalize (((W.setCell ⟨B+2,0,none⟩ (.int .i64 st.a)).setCell ⟨B+2,1,none⟩ (.int .i64 st.n)).setCell ⟨B+2,2,none⟩ (.int .i64 st.wide)).drew=W6 at hR2 hK2 hb2 ht2 ⊢
   refine HKK.out _ _ (HS.out _ hR2.now.1 hR2.now.2.1 hR2.now.2.2 hR2.cells.1) ?_
   clear HKK kp0 kp1 kp2 kp3 HS hne k0 k1 k2 kB z0 z1 z2 y0 y1 y2
   repeat (go_big_quiet_step (fail))
   refine wpQuiet_nil (NoPanic.normal ?_)
   have c0:W6.cell? ⟨B+2,0,none⟩=some (.int .i64 st.a):=Blk.cell hR2 2 0 (by omega) rfl
   have c1:W6.cell? ⟨B+2,1,none⟩=some (.int .i64 st.n):=Blk.cell hR2 2 1 (by omega) rfl
   have c2:W6.cell? ⟨B+2,2,none⟩=some (.int .i64 st.wide):=Blk.cell hR2 2 2 (by omega) rfl
   have HK2:=lh hK2
   have HB2:=lh hb2
   have HR2:=lh hR2
   clear hK2 hb2 hR2
   gi_wp2_with (fail)
   change bodyPostM _ _ _ _ _ .ret _ W6
   refine⟨by simp,.inl ⟨_,_,rfl,run_takeDeferred HK2.out,?_⟩⟩
   refine⟨_,row_results rfl rfl (Blk.kept HR2.out (grownBy_putObj' W6 D (.deferred none)) (fun r e=>by cases e;exact⟨_,HK2.out,rfl⟩) 2 (by omega)) rfl,?_,?_⟩
   ·rw [HROW.out]
    rfl
   ·rw [hBs]
    exact HB2.out.trans (belowK_b (w:=W0) (by omega) W6 D _ _ hD HK2.out rfl rfl)
  case stop =>
   rintro D c pre W hD hSp ⟨rfl,st,m,h1,h2,hm,h3,h4⟩ hK
   refine wpIn_goto ?_
   show 0=0∧RwJ w B f a n r tail _ W
   refine⟨rfl,?_⟩
   obtain⟨R,hR⟩:=hSp
   have hpl:pre.length≤(piecesI tail).length:=by rw [←hR,List.length_append,List.length_map];omega
   exact⟨D,m,st,rwF.mk _ rfl,by omega,hK,h1,by rw [←pre_pieces hR];exact h2 _,by omega,h3,h4⟩
 case pass =>
  rintro x W ⟨D,m,st,⟨u,rfl⟩,hBD,hK,h1,h2,hm,h3,h4⟩
  obtain⟨st',full,g0,g1,g2,g3,g4,g5,g6,_⟩:=fill_bord r text a _ (fl0 a n) rfl hB hB (Nat.le_refl _) (Nat.le_refl _) (Nat.le_refl _)
  rw [show (fl0 a n).a=a from rfl,←piecesF_map text a hag,htl,h2] at g0
  obtain⟨rfl,rfl⟩:st=st'∧true=full:=by cases g0;exact⟨rfl,rfl⟩
  have g6:=g6 rfl
  have hrow:rowAt1 r text e a n=if a<st.ma then (st.ma,st.mn,st.mw,2) else if a<st.a then (st.a,st.n,st.wide,3)
   else (st.a+nextI (text.extract st.a text.size),st.n+1,st.c,if st.a+nextI (text.extract st.a text.size)=text.size then lastEnd e else 3):=by
   unfold rowAt1
   rw [htl,h2]
  have hD8:D<W.heap.size:=(Array.getElem?_eq_some_iff.1 hK).1
  have hDj:∀j,j<8→B+j≠D:=fun j hj e'=>by
   have:=h1 j hj
   rw [e',hK] at this
   cases this
  have hDne:B+2≠D:=hDj 2 (by omega)
  have hD3:B+3≠D:=hDj 3 (by omega)
  obtain⟨k0,k1,k2⟩:=h1.now
  obtain⟨j0,j1,j2⟩:=h1.may
  obtain⟨kB,a0,a1,a2,kh,kc,kt⟩:=h1.cells
  have z0:W.cell? ⟨B+2,0,none⟩=some (.int .i64 0):=Blk.cell h1 2 0 (by omega) rfl
  have z1:W.cell? ⟨B+2,1,none⟩=some (.int .i64 0):=Blk.cell h1 2 1 (by omega) rfl
  have z2:W.cell? ⟨B+2,2,none⟩=some (.int .i64 0):=Blk.cell h1 2 2 (by omega) rfl
  have y0:=h1.frz 2 0 (by omega)
  have y1:=h1.frz 2 1 (by omega)
  have y2:=h1.frz 2 2 (by omega)
  have H1:=lh h1
  have H4:=lh h4
  have HK:=lh hK
  have HROW:=lh hrow
  have HFB:=lh (hf.below h4 hfB)
  have HNX:=lh (fun (s:ByteArray) (hs:s.size≤9223372036854775807) (X:World) (hb:Below B w X)=>Next_any s X (hT.below hBs.symm hb) hs)
  clear h1 h4 hK hrow h2 g0 htl hT hD hf hw
  unfold rwF
  by_cases c1:a<st.ma
  ·have hr:=HROW.out
   rw [if_pos c1] at hr
   have HR:=lh hr
   clear hr HROW
   go_wp2_with (fail)
   change bodyPostM _ _ _ _ _ .ret _ _
   have hR2:RwB (((W.setCell ⟨B+2,0,none⟩ (.int .i64 st.ma)).setCell ⟨B+2,1,none⟩ (.int .i64 st.mn)).setCell ⟨B+2,2,none⟩ (.int .i64 st.mw)) B f a n (st.ma,st.mn,st.mw) _ tail:=RwB.setR H1.out st.ma st.mn st.mw
   have hK2:(((W.setCell ⟨B+2,0,none⟩ (.int .i64 st.ma)).setCell ⟨B+2,1,none⟩ (.int .i64 st.mn)).setCell ⟨B+2,2,none⟩ (.int .i64 st.mw)).heap[D]? = some (.deferred (some [])):=box_other (box_other (box_other HK.out (by omega)) (by omega)) (by omega)
   have hb2:Below B w (((W.setCell ⟨B+2,0,none⟩ (.int .i64 st.ma)).setCell ⟨B+2,1,none⟩ (.int .i64 st.mn)).setCell ⟨B+2,2,none⟩ (.int .i64 st.mw)):=((H4.out.setCell (p:=⟨B+2,0,none⟩) (Nat.le_add_right _ _) _).setCell (p:=⟨B+2,1,none⟩) (Nat.le_add_right _ _) _).setCell (p:=⟨B+2,2,none⟩) (Nat.le_add_right _ _) _
   refine⟨by simp,.inl ⟨_,_,rfl,run_takeDeferred hK2,?_⟩⟩
   refine⟨_,row_results rfl rfl (Blk.kept hR2 (grownBy_putObj' _ D (.deferred none)) (fun r e=>by cases e;exact⟨_,hK2,rfl⟩) 2 (by omega)) rfl,?_,?_⟩
   ·rw [HR.out]
    rfl
   ·rw [hBs]
    exact hb2.trans (belowK_b (w:=w) (by omega) _ D _ _ (by omega) hK2 rfl rfl)
  have hr1:=HROW.out
  rw [if_neg c1] at hr1
  by_cases c2:a<st.a
  ·rw [if_pos c2] at hr1
   have HR:=lh hr1
   clear hr1 HROW
   go_wp2_with (fail)
   change bodyPostM _ _ _ _ _ .ret _ _
   have hR2:RwB (((W.setCell ⟨B+2,0,none⟩ (.int .i64 st.a)).setCell ⟨B+2,1,none⟩ (.int .i64 st.n)).setCell ⟨B+2,2,none⟩ (.int .i64 st.wide)) B f a n (st.a,st.n,st.wide) _ tail:=RwB.setR H1.out st.a st.n st.wide
   have hK2:(((W.setCell ⟨B+2,0,none⟩ (.int .i64 st.a)).setCell ⟨B+2,1,none⟩ (.int .i64 st.n)).setCell ⟨B+2,2,none⟩ (.int .i64 st.wide)).heap[D]? = some (.deferred (some [])):=box_other (box_other (box_other HK.out (by omega)) (by omega)) (by omega)
   have hb2:Below B w (((W.setCell ⟨B+2,0,none⟩ (.int .i64 st.a)).setCell ⟨B+2,1,none⟩ (.int .i64 st.n)).setCell ⟨B+2,2,none⟩ (.int .i64 st.wide)):=((H4.out.setCell (p:=⟨B+2,0,none⟩) (Nat.le_add_right _ _) _).setCell (p:=⟨B+2,1,none⟩) (Nat.le_add_right _ _) _).setCell (p:=⟨B+2,2,none⟩) (Nat.le_add_right _ _) _
   refine⟨by simp,.inl ⟨_,_,rfl,run_takeDeferred hK2,?_⟩⟩
   refine⟨_,row_results rfl rfl (Blk.kept hR2 (grownBy_putObj' _ D (.deferred none)) (fun r e=>by cases e;exact⟨_,hK2,rfl⟩) 2 (by omega)) rfl,?_,?_⟩
   ·rw [HR.out]
    rfl
   ·rw [hBs]
    exact hb2.trans (belowK_b (w:=w) (by omega) _ D _ _ (by omega) hK2 rfl rfl)
  ·rw [if_neg c2] at hr1
   have HR:=lh hr1
   clear hr1 HROW
   obtain⟨q,hq⟩:∃q,nextI (text.extract st.a text.size)=q:=⟨_,rfl⟩
   have hnx:=nextI_bd (text.extract st.a text.size) (by rw [ext_size text st.a (by omega)];omega)
   rw [ext_size text st.a (by omega),hq] at hnx
   have hN:=HNX.out (text.extract st.a text.size) (by rw [ext_size text st.a (by omega)];omega)
   rw [hq] at hN HR
   have HN:=lh hN
   have ft:=HFB.out.cells.1
   have hsa:(st.a:Int)≤(text.size:Int):=by omega
   have ha0:(0:Int)≤(st.a:Int):=by omega
   clear hN hq HNX
   go_upto_region 22 with (fail)
   obtain⟨S,hS1,hS2⟩:∃S:World→Prop,(∀w',S w'→w'.cell? ⟨B+3,0,none⟩=some (.int .i64 st.a)∧w'.cell? ⟨B,0,none⟩=some (.pointer (some ⟨f,0,none⟩))∧w'.cell? ⟨f,0,none⟩=some (.string text))∧∀w',w'.cell? ⟨B+3,0,none⟩=some (.int .i64 st.a)→w'.cell? ⟨B,0,none⟩=some (.pointer (some ⟨f,0,none⟩))→w'.cell? ⟨f,0,none⟩=some (.string text)→S w' :=
    ⟨fun w'=>w'.cell? ⟨B+3,0,none⟩=some (.int .i64 st.a)∧w'.cell? ⟨B,0,none⟩=some (.pointer (some ⟨f,0,none⟩))∧w'.cell? ⟨f,0,none⟩=some (.string text),fun _ h=>h,fun _ y0 y1 y2=>⟨y0,y1,y2⟩⟩
   have kp0:∀p:WIn S,p.w.cell? ⟨B+3,0,none⟩=some (.int .i64 st.a):=fun p=>(hS1 _ p.h).1
   have kp1:∀p:WIn S,p.w.cell? ⟨B,0,none⟩=some (.pointer (some ⟨f,0,none⟩)):=fun p=>(hS1 _ p.h).2.1
   have kp2:∀p:WIn S,p.w.cell? ⟨f,0,none⟩=some (.string text):=fun p=>(hS1 _ p.h).2.2
   have HS:=lh hS2
   have hne:Nonempty (WIn S):=⟨⟨W,hS2 _ k0 kB ft⟩⟩
   clear hS1 hS2
   have hsum:(st.a:Int)+(q:Int)≤2097152:=by omega
   have hsum0:0≤(st.a:Int)+(q:Int):=by omega
   have hDr:Below B w W.drew:=H4.out.trans (bl_drewN (Below.refl _ _) 1)
   have HDr:=lh hDr
   clear hDr
   refine wp_region_segl S [9] (by kernel_rfl) (by kernel_rfl) (HS.out _ k0 kB ft) ?_
   simp only [segH,nopLast,nop,lastOf,List.take_succ_cons,List.take_zero,List.drop_succ_cons,List.drop_zero]
   repeat (go_big_quiet_step (fail))
   refine wpQuiet_nil ?_
   intro K hK
   have HKK:=lh hK
   clear hK
   go_wp2_with (go_at_call 36;refine (HN.out W.drew HDr.out).mono ?_;rintro e' W2 ⟨rfl,hb2⟩)
   have hb2':Below W.heap.size W W2:=(bl_drewN (Below.refl _ _) 1).trans hb2
   refine HKK.out _ _ (HS.out _ (cell_bl hb2' (cell_lt k0) k0) (cell_bl hb2' (cell_lt kB) kB) (cell_bl hb2' (cell_lt ft) ft)) ?_
   clear HKK
   repeat (go_big_quiet_step (fail))
   refine wpQuiet_nil ?_
   change wpList _ _ _ _ _ _
   have h2:=H1.out.below hb2'
   have hf2:FilW W2 f text wa wn wc e r want join:=HFB.out.below hb2' (by have:=HFB.out.lt;omega)
   have hK2:W2.heap[D]? = some (.deferred (some [])):=(hb2'.block D hD8).trans HK.out
   have hB2:=H4.out.trans (hb2'.mono (by have:=H4.out.size;omega))
   have k0':=h2.now.1
   have f0':=h2.frz 3 0 (by omega)
   have H2:=lh h2
   have HF2:=lh hf2
   have HK2:=lh hK2
   have HB2:=lh hB2
   clear h2 hf2 hK2 hB2 hb2 hb2' kp0 kp1 kp2 HS hne H1 HFB HK H4 HN HDr k0 k1 k2 j0 j1 j2 kB a0 a1 a2 kh kc kt z0 z1 z2 y0 y1 y2 ft
   go_wp2_with (fail)
   refine NoPanic.normal ?_
   have h3a:RwB (W2.setCell ⟨B+3,0,none⟩ (.int .i64 ((st.a:Int)+(q:Int)))) B f a n (0,0,0) { st with a:=st.a+q } tail:=H2.out.setA (st.a+q)
   have hk3:(W2.setCell ⟨B+3,0,none⟩ (.int .i64 ((st.a:Int)+(q:Int)))).heap[D]? = some (.deferred (some [])):=box_other HK2.out (by omega)
   have hb3:Below B w (W2.setCell ⟨B+3,0,none⟩ (.int .i64 ((st.a:Int)+(q:Int)))):=HB2.out.setCell (p:=⟨B+3,0,none⟩) (Nat.le_add_right _ _) _
   have hf3:FilW (W2.setCell ⟨B+3,0,none⟩ (.int .i64 ((st.a:Int)+(q:Int)))) f text wa wn wc e r want join:=box_other HF2.out (by omega)
   clear H2 HK2 HB2 HF2 k0' f0'
   generalize W2.setCell ⟨B+3,0,none⟩ (.int .i64 ((st.a:Int)+(q:Int)))=W3 at h3a hk3 hb3 hf3 ⊢
   have hn3:st.n≤4194304:=by have:=h3.1;have:=pieces_len tail;omega
   have k1:=h3a.now.2.1
   have k2:=h3a.now.2.2
   have kc:=h3a.cells.2.2.2.2.2.1
   have y1:=h3a.frz 3 1 (by omega)
   have y2:=h3a.frz 3 2 (by omega)
   have h2c:Hid (0≤st.c):=lh h3.2.2.2.2.1
   have H3:=lh h3a
   have HK3:=lh hk3
   have HB3:=lh hb3
   have HF3:=lh hf3
   clear h3a hk3 hb3 hf3
   go_upto_region 24 with (fail)
   have hR4:RwB (W3.setCell ⟨B+3,1,none⟩ (.int .i64 ((st.n:Int)+1))) B f a n (0,0,0) { st with a:=st.a+q,n:=st.n+1 } tail:=H3.out.setK (st.n+1)
   have hK4:(W3.setCell ⟨B+3,1,none⟩ (.int .i64 ((st.n:Int)+1))).heap[D]? = some (.deferred (some [])):=box_other HK3.out (by omega)
   have hb4:Below B w (W3.setCell ⟨B+3,1,none⟩ (.int .i64 ((st.n:Int)+1))):=HB3.out.setCell (p:=⟨B+3,1,none⟩) (Nat.le_add_right _ _) _
   have hf4:FilW (W3.setCell ⟨B+3,1,none⟩ (.int .i64 ((st.n:Int)+1))) f text wa wn wc e r want join:=box_other HF3.out (by omega)
   clear H3 HK3 HB3 HF3 k1 k2 kc y1 y2
   generalize W3.setCell ⟨B+3,1,none⟩ (.int .i64 ((st.n:Int)+1))=W4 at hR4 hK4 hb4 hf4 ⊢
   have k2:=hR4.now.2.2
   have kc:=hR4.cells.2.2.2.2.2.1
   have k1:=k2
   have y2:=hR4.frz 3 2 (by omega)
   have y1:=y2
   have H3:=lh hR4
   have HK3:=lh hK4
   have HB3:=lh hb4
   have HF3:=lh hf4
   clear hR4 hK4 hb4 hf4
   go_upto_region 25 with (fail)
   have hR5:RwB (W4.setCell ⟨B+3,2,none⟩ (.int .i64 (st.c))) B f a n (0,0,0) { st with a:=st.a+q,n:=st.n+1,wide:=st.c } tail:=H3.out.setW st.c
   have hK5:(W4.setCell ⟨B+3,2,none⟩ (.int .i64 (st.c))).heap[D]? = some (.deferred (some [])):=box_other HK3.out (by omega)
   have hb5:Below B w (W4.setCell ⟨B+3,2,none⟩ (.int .i64 (st.c))):=HB3.out.setCell (p:=⟨B+3,2,none⟩) (Nat.le_add_right _ _) _
   have hf5:FilW (W4.setCell ⟨B+3,2,none⟩ (.int .i64 (st.c))) f text wa wn wc e r want join:=box_other HF3.out (by omega)
   clear H3 HK3 HB3 HF3 k1 k2 kc y1 y2
   generalize W4.setCell ⟨B+3,2,none⟩ (.int .i64 (st.c))=W5 at hR5 hK5 hb5 hf5 ⊢
   obtain⟨v,hv⟩:∃v,st.a+q=v:=⟨_,rfl⟩
   have hvz:v≤text.size:=by omega
   rw [hv] at hR5 HR
   obtain⟨k0,k1,k2⟩:=hR5.now
   dsimp only at k0 k1 k2
   have kB:=hR5.cells.1
   have ft:=hf5.cells.1
   have z0:W5.cell? ⟨B+2,0,none⟩=some (.int .i64 0):=Blk.cell hR5 2 0 (by omega) rfl
   have z1:W5.cell? ⟨B+2,1,none⟩=some (.int .i64 0):=Blk.cell hR5 2 1 (by omega) rfl
   have z2:W5.cell? ⟨B+2,2,none⟩=some (.int .i64 0):=Blk.cell hR5 2 2 (by omega) rfl
   have y0:=hR5.frz 2 0 (by omega)
   have y1:=hR5.frz 2 1 (by omega)
   have y2:=hR5.frz 2 2 (by omega)
   have H5:=lh hR5
   have HK5:=lh hK5
   have HB5:=lh hb5
   have HF5:=lh hf5
   have hL:=last_any f text wa wn wc e r want join
   have HL:=lh hL
   clear hR5 hK5 hb5 hf5 hL
   by_cases c3:v=text.size
   ·have hr:=HR.out
    rw [if_pos c3] at hr
    have HR2:=lh hr
    have c3':((v:Int)==(text.size:Int))=true:=by rw [beq_iff_eq,c3]
    clear hr HR c3 hv
    go_quiet (fail)
    go_upto_region 26 with (fail)
    obtain⟨S,hS1,hS2⟩:∃S:World→Prop,(∀w',S w'→w'.cell? ⟨B+3,0,none⟩=some (.int .i64 v)∧w'.cell? ⟨B+3,1,none⟩=some (.int .i64 ((st.n+1:Nat):Int))∧w'.cell? ⟨B+3,2,none⟩=some (.int .i64 st.c)∧w'.cell? ⟨B,0,none⟩=some (.pointer (some ⟨f,0,none⟩)))∧∀w',w'.cell? ⟨B+3,0,none⟩=some (.int .i64 v)→w'.cell? ⟨B+3,1,none⟩=some (.int .i64 ((st.n+1:Nat):Int))→w'.cell? ⟨B+3,2,none⟩=some (.int .i64 st.c)→w'.cell? ⟨B,0,none⟩=some (.pointer (some ⟨f,0,none⟩))→S w' :=
     ⟨fun w'=>w'.cell? ⟨B+3,0,none⟩=some (.int .i64 v)∧w'.cell? ⟨B+3,1,none⟩=some (.int .i64 ((st.n+1:Nat):Int))∧w'.cell? ⟨B+3,2,none⟩=some (.int .i64 st.c)∧w'.cell? ⟨B,0,none⟩=some (.pointer (some ⟨f,0,none⟩)),fun _ h=>h,fun _ y0 y1 y2 y3=>⟨y0,y1,y2,y3⟩⟩
    have kp0:∀p:WIn S,p.w.cell? ⟨B+3,0,none⟩=some (.int .i64 v):=fun p=>(hS1 _ p.h).1
    have kp1:∀p:WIn S,p.w.cell? ⟨B+3,1,none⟩=some (.int .i64 ((st.n+1:Nat):Int)):=fun p=>(hS1 _ p.h).2.1
    have kp2:∀p:WIn S,p.w.cell? ⟨B+3,2,none⟩=some (.int .i64 st.c):=fun p=>(hS1 _ p.h).2.2.1
    have kp3:∀p:WIn S,p.w.cell? ⟨B,0,none⟩=some (.pointer (some ⟨f,0,none⟩)):=fun p=>(hS1 _ p.h).2.2.2
    have HS:=lh hS2
    have hne:Nonempty (WIn S):=⟨⟨W5,hS2 _ k0 k1 k2 kB⟩⟩
    clear hS1 hS2
    refine wp_region_seg S [2,0] (by kernel_rfl) (by kernel_rfl) (HS.out _ k0 k1 k2 kB) ?_
    simp only [segH,List.take_succ_cons,List.take_zero,List.drop_succ_cons,List.drop_zero]
    repeat (go_big_quiet_step (fail))
    refine wpQuiet_nil ?_
    intro K hK
    have HKK:=lh hK
    clear hK
    go_wp2_with (go_at_call 120;refine (HL.out (W5.drewN nq).drew HF5.out).mono ?_;rintro e' w5 ⟨rfl,rfl⟩)
    refine HKK.out _ _ (HS.out _ k0 k1 k2 kB) ?_
    refine wpQuiet_nil ?_
    clear HKK
    intro K hK
    have HKK:=lh hK
    clear hK
    go_wp2_with (fail)
    have hR6:RwB ((((W5.drewN (nq+1)).setCell ⟨B+2,0,none⟩ (.int .i64 (v:Int))).setCell ⟨B+2,1,none⟩ (.int .i64 ((st.n:Int)+1))).setCell ⟨B+2,2,none⟩ (.int .i64 st.c)) B f a n ((v:Int),(st.n:Int)+1,st.c) _ tail:=RwB.setR (W:=W5.drewN (nq+1)) H5.out (v:Int) ((st.n:Int)+1) st.c
    have hK6:((((W5.drewN (nq+1)).setCell ⟨B+2,0,none⟩ (.int .i64 (v:Int))).setCell ⟨B+2,1,none⟩ (.int .i64 ((st.n:Int)+1))).setCell ⟨B+2,2,none⟩ (.int .i64 st.c)).heap[D]? = some (.deferred (some [])):=box_other (box_other (box_other (show (W5.drewN (nq+1)).heap[D]? = _ from HK5.out) (by omega)) (by omega)) (by omega)
    have hb6:Below B w ((((W5.drewN (nq+1)).setCell ⟨B+2,0,none⟩ (.int .i64 (v:Int))).setCell ⟨B+2,1,none⟩ (.int .i64 ((st.n:Int)+1))).setCell ⟨B+2,2,none⟩ (.int .i64 st.c)):=(((bl_drewN HB5.out _).setCell (p:=⟨B+2,0,none⟩) (Nat.le_add_right _ _) _).setCell (p:=⟨B+2,1,none⟩) (Nat.le_add_right _ _) _).setCell (p:=⟨B+2,2,none⟩) (Nat.le_add_right _ _) _
    generalize (((W5.drewN (nq+1)).setCell ⟨B+2,0,none⟩ (.int .i64 (v:Int))).setCell ⟨B+2,1,none⟩ (.int .i64 ((st.n:Int)+1))).setCell ⟨B+2,2,none⟩ (.int .i64 st.c)=W6 at hR6 hK6 hb6 ⊢
    refine HKK.out _ _ (HS.out _ hR6.now.1 hR6.now.2.1 hR6.now.2.2 hR6.cells.1) ?_
    clear HKK kp0 kp1 kp2 kp3 HS hne k0 k1 k2 kB z0 z1 z2 y0 y1 y2
    repeat (go_big_quiet_step (fail))
    refine wpQuiet_nil (NoPanic.normal ?_)
    have HR6:=lh hR6
    have HK6:=lh hK6
    have HB6:=lh hb6
    clear hR6 hK6 hb6
    go_wp2_with (fail)
    change bodyPostM _ _ _ _ _ .ret _ _
    refine⟨by simp,.inl ⟨_,_,rfl,run_takeDeferred HK6.out,?_⟩⟩
    refine⟨_,row_results rfl rfl (Blk.kept HR6.out (grownBy_putObj' _ D (.deferred none)) (fun r e=>by cases e;exact⟨_,HK6.out,rfl⟩) 2 (by omega)) rfl,?_,?_⟩
    ·rw [HR2.out]
     rfl
    ·rw [hBs]
     exact HB6.out.trans (belowK_b (w:=w) (by omega) _ D _ _ (by omega) HK6.out rfl rfl)
   ·have hr:=HR.out
    rw [if_neg c3] at hr
    have HR2:=lh hr
    have c3':((v:Int)==(text.size:Int))=false:=by rw [beq_eq_false_iff_ne];omega
    clear hr HR
    go_quiet (fail)
    go_wp2_with (fail)
    change bodyPostM _ _ _ _ _ .ret _ _
    have hR2:RwB ((((W5.drewN nq).setCell ⟨B+2,0,none⟩ (.int .i64 v)).setCell ⟨B+2,1,none⟩ (.int .i64 ((st.n:Int)+1))).setCell ⟨B+2,2,none⟩ (.int .i64 st.c)) B f a n (v,((st.n:Int)+1),st.c) _ tail:=RwB.setR (W:=W5.drewN nq) H5.out v ((st.n:Int)+1) st.c
    have hK2:((((W5.drewN nq).setCell ⟨B+2,0,none⟩ (.int .i64 v)).setCell ⟨B+2,1,none⟩ (.int .i64 ((st.n:Int)+1))).setCell ⟨B+2,2,none⟩ (.int .i64 st.c)).heap[D]? = some (.deferred (some [])):=box_other (box_other (box_other (show (W5.drewN nq).heap[D]? = _ from HK5.out) (by omega)) (by omega)) (by omega)
    have hb2:Below B w ((((W5.drewN nq).setCell ⟨B+2,0,none⟩ (.int .i64 v)).setCell ⟨B+2,1,none⟩ (.int .i64 ((st.n:Int)+1))).setCell ⟨B+2,2,none⟩ (.int .i64 st.c)):=(((bl_drewN HB5.out _).setCell (p:=⟨B+2,0,none⟩) (Nat.le_add_right _ _) _).setCell (p:=⟨B+2,1,none⟩) (Nat.le_add_right _ _) _).setCell (p:=⟨B+2,2,none⟩) (Nat.le_add_right _ _) _
    refine⟨by simp,.inl ⟨_,_,rfl,run_takeDeferred hK2,?_⟩⟩
    refine⟨_,row_results rfl rfl (Blk.kept hR2 (grownBy_putObj' _ D (.deferred none)) (fun r e=>by cases e;exact⟨_,hK2,rfl⟩) 2 (by omega)) rfl,?_,?_⟩
    ·rw [HR2.out]
     rfl
    ·rw [hBs]
     exact hb2.trans (belowK_b (w:=w) (by omega) _ D _ _ (by omega) hK2 rfl rfl)
end
end Go.Proofs.YtlbclfmbejjneaaGreatDoor
