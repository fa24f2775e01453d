/- Part 8 (merged by a program): lemmas of no further condition than each states. -/
import Derived.RangeFuncNested
import Derived.RangeFuncBound
import Derived.RangeFuncCalls
import Derived.RangeFuncLeaves
import Derived.RangeFuncBox
import Derived.Shelf.Abstract
import Derived.Shelf.RegionOpen
import Derived.OwnWalkIn
import Derived.TacticsInMore
import Derived.LoopNIn
import Derived.LoopIn
import Derived.Maps.AppendAt
import Derived.Sort.CutIn
import Derived.Laws.EntriesVeiled
import Derived.Laws.Bits64b
import Derived.Laws.BytesArg
import Derived.Lib.BufferRead
import Derived.Laws.BytesString
import Derived.Test.YtlmjbfncopbilaaGreatDoorK07
namespace Go.Proofs.YtlmjbfncopbilaaGreatDoor
set_option linter.unusedVariables false
set_option linter.unusedSimpArgs false
section
open Go.RowKit Go.Proofs Go.Shelf
attribute [local go_sem] Oper.semAt_some
theorem T8.keep {n₀:Nat} {w w':World} (h:T8 w) (h3:Tryz.lays197_ren.g 3<n₀) (h4:Tryz.lays197_ren.g 4<n₀) (hb:Below n₀ w w'):T8 w' :=
 ⟨fun c hc=>cell_bl hb h3 (h.1 c hc),fun i hi=>⟨cell_bl hb h4 (h.2 i hi).1,cell_bl hb h4 (h.2 i hi).2⟩⟩
theorem moreF_bd (x:Int) (s:ByteArray):∀(f n:Nat) (z:Int) (a:Nat),a≤s.size→a≤moreF x s f n z a∧moreF x s f n z a≤s.size
 | 0,n,z,a,h=>⟨Nat.le_refl _,h⟩
 | f+1,n,z,a,h=>by
   rw [moreF]
   split
   ·exact⟨Nat.le_refl _,h⟩
   split
   ·have h1:=decN_le (s.extract a s.size)
    rw [ext_size s a h] at h1
    have:=moreF_bd x s f (n+1) (decR (s.extract a s.size)) (a+decN (s.extract a s.size)) (by omega)
    omega
   ·exact⟨Nat.le_refl _,h⟩
theorem nextI_bd (s:ByteArray) (h:0<s.size):0<nextI s∧nextI s≤s.size:=by
 have h1:=decN_le s
 have h2:=decN_pos s h
 unfold nextI
 rw [if_neg (by omega)]
 split
 ·split
  ·omega
  ·omega
 ·have:=moreF_bd (decR s) s 31 1 (decR s) (decN s) h1
  omega
theorem less_away {a m e k:Nat} (h:a+m=e) (hm:0<m) (hk:a<k):k-e<k-a:=by omega
abbrev PieceOf (s:ByteArray):Type:={ x:Nat × ByteArray // x.1+x.2.size≤s.size }
def KpB (Bn n₀:Nat) (W W':World):Prop:=Below n₀ W W'∧∀v,W.cell? ⟨Bn,0,none⟩=some v→W'.cell? ⟨Bn,0,none⟩=some v
theorem KpB.trans {Bn n₀:Nat} {A B C:World} (h:KpB Bn n₀ A B) (k:KpB Bn n₀ B C):KpB Bn n₀ A C:=⟨h.1.trans k.1,fun v hv=>k.2 v (h.2 v hv)⟩
abbrev encP (x:Nat × ByteArray):Array Value:=#[.int .i64 x.1,.string x.2]
set_option maxRecDepth 100000 in
set_option maxHeartbeats 200000 in
theorem pieces1_in (n:Nat) (hn:1≤n) (l Bn n₀:Nat) (s:ByteArray) (hs:s.size≤9223372036854775807) (h3:Tryz.lays197_ren.g 3<n₀) (h4:Tryz.lays197_ren.g 4<n₀) (J Jx:List (PieceOf s)→World→Prop) (W:World) (hle:n₀≤W.heap.size) (hJ:AbidesFrom W.heap.size J)
 (hY:∀pre x W1,J pre W1→pre.length<(piecesI s).length→YieldAt Fence.wide (n-1) Tryz.prog l (encP x.1) W1 fun e W' =>
   (e=.returned (.bool true)∧J (pre++[x]) W'∧KpB Bn n₀ W1 W')∨(e=.returned (.bool false)∧Jx (pre++[x]) W'))
 (hBn:W.cell? ⟨Bn,0,none⟩=some (.string s)) (hT:T8 W) (h0:J [] W) :
 CallsIn Fence.wide n Tryz.prog 112 #[.func (.yield l) #[] #[],.pointer (some ⟨Bn,0,none⟩)] W fun e W'=>(∃v,e=.returned v) ∧
  ((∃ys:List (PieceOf s),ys.map (·.1)=piecesI s∧J ys W')∨(∃pre:List (PieceOf s),pre.map (·.1) <+: piecesI s∧Jx pre W')):=by
 have HTK:=lh (fun (w':World) (hb:Below n₀ W w')=>hT.keep h3 h4 hb)
 have HY:=lh hY
 have HJ:=lh hJ
 clear h3 h4 hT hY hJ
 refine callsIn_of_wp Tryz.func112 rfl trivial ?_ rfl
 simp only [Tryz.ntmps112,List.size_toArray,List.length_cons,List.length_nil,Nat.reduceAdd,Nat.reduceSub,Array.replicate_succ,Array.replicate_zero,List.push_toArray,List.append_toArray,List.nil_append,List.cons_append]
 gi_wp2
 gi_loopw [3,4] (fun u3 _ wr=>∃(a f:Nat) (pre:List (PieceOf s)),u3=.int .i64 a∧a≤s.size∧s.size≤a+f∧piecesI s=pre.map (·.1)++piecesF s f a∧J pre wr∧Below n₀ W wr∧wr.cell? ⟨Bn,0,none⟩=some (.string s))
  (fun u3 _ _=>s.size-(intOf u3).toNat)
 case atStart=>exact⟨0,s.size,[],rfl,Nat.zero_le _,by omega,rfl,h0,Below.refl _ _,hBn⟩
 case round =>
  obtain⟨a,f,pre,rfl,ha,hf,hp,hJp,hb,hcx⟩:=hrel
  by_cases hlt:a<s.size
  ·obtain⟨t,ht⟩:∃t,s.extract a s.size=t:=⟨_,rfl⟩
   have htz:t.size=s.size-a:=by rw [←ht];exact ext_size s a ha
   have hnb:=nextI_bd t (by omega)
   obtain⟨m,hm⟩:∃m,nextI t=m:=⟨_,rfl⟩
   obtain⟨f,rfl⟩:∃g,f=g+1:=⟨f-1,by omega⟩
   rw [piecesF,if_pos hlt,ht,hm] at hp
   rw [hm] at hnb
   obtain⟨e,he⟩:∃e,a+m=e:=⟨_,rfl⟩
   rw [he] at hp
   obtain⟨c,hc⟩:∃c,s.extract a e=c:=⟨_,rfl⟩
   rw [hc] at hp
   have hN:=lh (Next_any t wr (HTK.out wr hb) (by omega))
   rw [hm] at hN
   have hpc:a+c.size≤s.size:=by rw [←hc];simp [ByteArray.size_extract];omega
   obtain⟨pc,hpcv⟩:∃pc:PieceOf s,pc.1=(a,c):=⟨⟨(a,c),hpc⟩,rfl⟩
   have HPC:=lh hpcv
   clear hpcv
   have hlen:pre.length<(piecesI s).length:=by rw [hp,List.length_append,List.length_cons,List.length_map];omega
   have HP:=lh hp
   have HT:=lh ht
   have HC:=lh hc
   have HL:=lh hlen
   have g0:(0:Int)≤(a:Int):=by omega
   have g1:(a:Int)<(s.size:Int):=by omega
   have g2:(a:Int)≤(s.size:Int):=by omega
   have g3:(e:Int)≤(s.size:Int):=by omega
   have g4:(a:Int)≤(e:Int):=by omega
   have ge:(0:Int)≤(e:Int):=by omega
   have ew:wrap64 ((a:Int)+(m:Int))=(e:Int):=by unfold wrap64;omega
   have HE:=lh he
   have HB:=lh hnb
   have HZ:=lh htz
   have HF:=lh hf
   clear hp ht hm hc hlen he hnb htz hf
   gi_wp2_with (fail)
   refine⟨trivial,?_⟩
   rw [HT.out]
   refine (callsIn_wide.2 hN.out).mono ?_
   rintro e' w2 ⟨rfl,hb2⟩
   have hJ2:=HJ.out pre wr w2 none hJp ⟨hb2.os,hb2.tape,hb2.output,hb2.size,fun q hq _=>hb2.block q hq⟩ (fun r e=>by cases e)
   have hcx2:w2.cell? ⟨Bn,0,none⟩=some (.string s):=cell_bl hb2 (cell_lt hcx) hcx
   obtain⟨fn,tmps,assign,body,hy,hR⟩:=HY.out pre pc w2 hJ2 HL.out
   rw [HPC.out] at hy
   dsimp only [encP] at hy
   rw [←HC.out] at hy
   have HR:=lh hR
   clear hR
   gi_wp2_with (fail)
   refine HR.out.mono ?_
   rintro e' W3 (⟨rfl,hJ3,hk3⟩ | ⟨rfl,hJx3⟩)
   ·have hb3:=hb.trans ((hb2.mono (Nat.le_trans hle hb.size)).trans hk3.1)
    have hc3:=hk3.2 _ hcx2
    clear hy HR hb2 hk3
    gi_wp2_with (fail)
    go_roundw
    case rel=>exact⟨e,f,pre++[pc],by first | rfl | rw [ew] | simp [ew],by omega,by have:=HF.out;have:=HE.out;have:=HB.out;omega,by rw [HP.out,List.map_append,List.append_assoc,List.map_cons,HPC.out];rfl,hJ3,hb3,hc3⟩
    case measure =>
     have e1:(intOf (Value.int IntKind.i64 (wrap64 ((a:Int)+(m:Int))))).toNat=e:=by rw [ew];rfl
     have e2:(intOf (Value.int IntKind.i64 (a:Int))).toNat=a:=rfl
     rw [e1,e2]
     exact less_away HE.out HB.out.1 hlt
   ·clear hy HR hb2
    gi_wp2_with (fail)
    refine bodyPost_ret (results_none rfl _ _ _) rfl ?_
    exact⟨⟨_,rfl⟩,.inr ⟨pre++[pc],⟨piecesF s f e,by rw [HP.out,List.map_append,List.append_assoc,List.map_cons,HPC.out];rfl⟩,hJx3⟩⟩
  ·obtain rfl:a=s.size:=by omega
   have hp2:piecesI s=pre.map (·.1):=by
    rw [hp]
    cases f with
    | zero=>rw [piecesF,List.append_nil]
    | succ f=>rw [piecesF,if_neg (by omega),List.append_nil]
   have HP:=lh hp2
   clear hp hp2
   gi_wp2_with (fail)
   go_end0
   exact⟨⟨_,rfl⟩,.inl ⟨pre,HP.out.symm,hJp⟩⟩
theorem pieces_stops (n:Nat) (hn:1≤n) (Bn n₀:Nat) (s:ByteArray) (hs:s.size≤9223372036854775807) (h3:Tryz.lays197_ren.g 3<n₀) (h4:Tryz.lays197_ren.g 4<n₀) (w:World) (hle:n₀≤w.heap.size)
 (hBn:w.cell? ⟨Bn,0,none⟩=some (.string s)) (hT:T8 w) :
 SeqStopsK Fence.wide n Tryz.prog 112 #[.pointer (some ⟨Bn,0,none⟩)] (fun x:PieceOf s=>encP x.1) (KpB Bn n₀) (fun xs=>xs.map (·.1)=piecesI s) (fun pre=>pre.map (·.1) <+: piecesI s) (piecesI s).length w:=fun l J Jx W hW hJ hJx hY h0=>by
 have hW0:Below n₀ w W:=hW.mono hle
 exact pieces1_in n hn l Bn n₀ s hs h3 h4 J Jx W (Nat.le_trans hle hW.size) hJ hY (cell_bl hW (cell_lt hBn) hBn) (hT.keep h3 h4 hW0) h0
def itV (B:Nat):Value:=.func (.func 112) #[] #[.pointer (some ⟨B,0,none⟩)]
theorem pieces_any (s:ByteArray) (w:World) :
 Calls Tryz.prog 67 #[.string s] w fun e w'=>e=.returned (itV w.heap.size)∧w'=w.alloc (.cells #[.string s] 9):=by
 have hmf:∀(fn:Fn) (first cap:Array Value) (w:World),(Instr.makeFunc fn first cap).run Tryz.prog w=.ok (.func fn first cap) w:=fun _ _ _ _=>rfl
 go_enter Tryz.func67,Tryz.ntmps67
 go_wp2_with (fail)
 go_ret
 exact⟨rfl,rfl⟩
theorem All_any (s:ByteArray) (w:World) :
 Calls Tryz.prog 72 #[.string s] w fun e w'=>e=.returned (itV w.heap.size)∧w'=w.alloc (.cells #[.string s] 9):=by
 have hp:=lh (pieces_any s w)
 go_enter Tryz.func72,Tryz.ntmps72
 go_wp2_with (go_at_call 67;refine hp.out.mono ?_;rintro e w1 ⟨rfl,rfl⟩)
 go_ret
 exact⟨rfl,rfl⟩
end
section
open Go.RowKit Go.Proofs Go.Shelf
attribute [local go_sem] Oper.semAt_some
theorem piecesF_len (s:ByteArray):∀(f a:Nat),(piecesF s f a).length≤f
 | 0,a=>Nat.le_refl _
 | f+1,a=>by
   rw [piecesF]
   split
   ·rw [List.length_cons];exact Nat.succ_le_succ (piecesF_len s f _)
   ·exact Nat.zero_le _
theorem pieces_len (s:ByteArray):(piecesI s).length≤s.size:=piecesF_len s s.size 0
theorem kpB_put {w:World} {Bn n₀:Nat} (hn:n₀≤w.heap.size) (W:World) (l:Nat) (o o':Obj) (hl:w.heap.size≤l) (h:W.heap[l]? = some o) (hc:o.isCells=false) (hw:o.isWalk=false):KpB Bn n₀ W (W.putObj l o') :=
 ⟨belowK_b hn W l o o' hl h hc hw,fun v hv=>cell_kept hv (grownBy_putObj' W l o') (fun r e=>by cases e;exact⟨o,h,hc⟩)⟩
end
section
open Go.RowKit Go.Proofs Go.Shelf
attribute [local go_sem] Oper.semAt_some
theorem keeps_below {A B:World} (hb:Below A.heap.size A B):KeepsOthers A B :=
 KeepsOthers.of_grownBy (row:=none) ⟨hb.os,hb.tape,hb.output,hb.size,fun q hq _=>hb.block q hq⟩ (fun _ _ e=>by cases e)
theorem box_other {W:World} {k B i:Nat} {o:Obj} {v:Value} (h:W.heap[k]? = some o) (hne:k≠B):(W.setCell ⟨B,i,none⟩ v).heap[k]? = some o:=by
 rw [Below.heap_setCell _ _ _ _ hne];exact h
theorem row_other {W:World} {base e size m B i:Nat} {v u:Value} {xs:List Value} (h:W.ownsRow base e size v m xs) (hne:∀g,v.ownBlock=some g→g≠B):(W.setCell ⟨B,i,none⟩ u).ownsRow base e size v m xs:=by
 refine h.kept (row:=some B) ⟨rfl,rfl,rfl,(KeepsWalks.setCell W _ u).size,fun k _ hk=>Below.heap_setCell _ _ _ k (fun e=>hk (by rw [e]))⟩ ?_
 cases hv:v.ownBlock with
 | none=>exact .inl rfl
 | some g=>exact .inr (fun e=>hne g hv (by simpa using e))
theorem set_at {W:World} {k i t:Nat} {cs:Array Value} (h:W.heap[k]? = some (.cells cs t (0,0))) (v:Value):(W.setCell ⟨k,i,none⟩ v).heap[k]? = some (.cells (cs.setIfInBounds i v) t (0,0)):=by
 obtain⟨hlt,hk⟩:=Array.getElem?_eq_some_iff.1 h
 show (W.heap.modify k _)[k]? = _
 rw [Array.getElem?_eq_getElem (by rw [Array.size_modify];exact hlt),Array.getElem_modify_self,hk]
 rfl
theorem ne_row {W:World} {base e size m k t:Nat} {v:Value} {xs:List Value} {cs:Array Value} {f:Nat × Nat} (h:W.ownsRow base e size v m xs) (hk:W.heap[k]? = some (.cells cs t f)) (hte:t≠e):∀g,v.ownBlock=some g→g≠k:=by
 rcases h.2 with ⟨rfl,_⟩ | ⟨g',cap,cur,rfl,_,hgb,_⟩
 ·intro g e;simp [Value.ownBlock] at e
 ·intro g e' e2
  obtain rfl:g'=g:=by simpa [Value.ownBlock] using e'
  subst e2
  rw [hgb] at hk
  simp at hk
  exact hte hk.2.1.symm
end
section
open Go.RowKit Go.Proofs Go.Shelf
attribute [local go_sem] Oper.semAt_some
def DB (w:World):Prop:=w.cell? ⟨5,15,none⟩=some (.int .u8 4)
theorem DB.below {w w':World} (h:DB w) (hb:Below w.heap.size w w'):DB w':=cell_bl hb (cell_lt h) h
theorem tz64_any (w:World) (h:DB w):Calls Tryz.prog 269 #[.int .u64 16] w fun e w'=>e=.returned (.int .i64 4)∧w'=w:=by
 have hi:(IntKind.u64.wrap (bits BinOp.and IntKind.u64 16 (IntKind.u64.wrap (-16))*285870213051353865) / 288230376151711744)=15:=by decide
 have hi2:(IntKind.u64.wrap (bits BinOp.and IntKind.u64 16 (IntKind.u64.wrap (-16))*285870213051353865) / 288230376151711744).toNat=15:=by rw [hi];rfl
 have hc:w.cell? ⟨5,(IntKind.u64.wrap (bits BinOp.and IntKind.u64 16 (IntKind.u64.wrap (-16))*285870213051353865) / 288230376151711744).toNat,none⟩=some (.int .u8 4):=by rw [hi2];exact h
 clear hi hi2 h
 go_enter Tryz.func269,Tryz.ntmps269
 go_wp2_with (fail)
 go_ret
 exact⟨rfl,rfl⟩
theorem tz16_any (w:World) (h:DB w):Calls Tryz.prog 262 #[.int .u64 16] w fun e w'=>e=.returned (.int .i64 4)∧w'=w:=by
 have h64:=lh (tz64_any w h)
 clear h
 go_enter Tryz.func262,Tryz.ntmps262
 go_wp2_with (go_at_call 269;refine h64.out.mono ?_;rintro e w1 ⟨rfl,rfl⟩)
 go_ret
 exact⟨rfl,rfl⟩
theorem pow16_any (w:World):Calls Tryz.prog 261 #[.int .i64 16] w fun e w'=>e=.returned (.bool true)∧w'=w:=by
 go_enter Tryz.func261,Tryz.ntmps261
 go_wp2_with (fail)
 go_ret
 exact⟨rfl,rfl⟩
def digI (d:Nat):Int:=if d<10 then 48+d else 87+d
def hexF:Nat→Nat→List Int→List Int
 | 0,u,acc=>digI (u % 16)::acc
 | f+1,u,acc=>if 16≤u then hexF f (u / 16) (digI (u % 16)::acc) else digI (u % 16)::acc
def hexI (u:Nat):List Int:=hexF 16 u []
def ByB (W:World) (B t:Nat) (xs:List Int):Prop:=W.heap[B]? = some (.cells (xs.map (Value.int .u8)).toArray t (0,0))
theorem ByB.cell {W:World} {B t:Nat} {xs:List Int} (h:ByB W B t xs) (i:Nat) (hi:i<xs.length):W.cell? ⟨B,i,none⟩=some (.int .u8 (ith xs i)):=by
 unfold ByB at h
 simp [World.cell?,h,ith,List.getElem?_eq_getElem hi]
theorem ByB.frozen {W:World} {B t:Nat} {xs:List Int} (h:ByB W B t xs) (i:Nat):W.frozen? ⟨B,i,none⟩=false:=by
 unfold ByB at h
 simp [World.frozen?,h]
theorem ByB.set {W:World} {B t:Nat} {xs:List Int} (h:ByB W B t xs) (i:Nat) (v:Int):ByB (W.setCell ⟨B,i,none⟩ (.int .u8 v)) B t (xs.set i v):=by
 have:=set_at (i:=i) h (.int .u8 v)
 unfold ByB
 rw [this,List.map_set]
 simp
theorem and15 (v:Nat) (hv:v<18446744073709551616):bits BinOp.and IntKind.u64 (v:Int) 15=((v % 16:Nat):Int):=by
 rw [show (15:Int)=((15:Nat):Int) from rfl,bits_and_u64_nat v 15 hv (by omega),show 15=2 ^ 4-1 from rfl,Nat.and_two_pow_sub_one_eq_mod]
theorem conv_rdx {w:World} {n cap:Nat} {a:Option Addr} {xs:List Int} (h:Rd .u8 w a xs) (hn:xs.length=n) :
 (convert 134 9 (.slice a n cap)).run Tryz.prog w=.ok (.string (strOfNums xs)) w:=by
 subst hn
 rcases h with rfl | ⟨b,off,rfl,_,h3⟩
 ·cases a with
  | none=>exact Lib.run_convert_nil_bytes w _ _ _ _ Tryz.underlying134 Tryz.underlying5 Tryz.underlying9
  | some x =>
    rw [run_convert_bytes_string w _ _ _ _ _ cap Tryz.underlying134 Tryz.underlying5 Tryz.underlying9]
    rw [show ([]:List Int).length=0 from rfl,run_bytesToString w _ 0 cap [] (run_loadCells_list (P:=Tryz.prog) w x [] (fun j v hj=>by simp at hj)),foldl_push_bytes]
    simp [strOfNums,ByteArray.empty,ByteArray.emptyWithCapacity]
    rfl
 ·exact run_convert_bytes_arg w _ _ Tryz.underlying134 Tryz.underlying5 b off xs.length cap xs rfl h3 _ Tryz.underlying9
theorem set_drop (xs acc:List Int) (k:Nat) (d:Int) (hk:k<xs.length) (h:xs.drop (k+1)=acc):(xs.set k d).drop k=d::acc:=by
 rw [List.drop_eq_getElem_cons (by rw [List.length_set];exact hk),List.getElem_set_self,List.drop_set_of_lt (by omega),h]
theorem ByB.rd {W:World} {B t:Nat} {xs:List Int} (h:ByB W B t xs) (k:Nat):Rd .u8 W (some ⟨B,k,none⟩) (xs.drop k):=by
 by_cases hk:k<xs.length
 ·refine .inr ⟨B,k,rfl,(Array.getElem?_eq_some_iff.1 h).1,fun i hi=>?_⟩
  rw [List.length_drop] at hi
  rw [h.cell (k+i) (by omega)]
  simp [ith]
 ·exact .inl (List.drop_eq_nil_of_le (by omega))
theorem slice65 (W:World) (B k:Nat) (hk:k<65):(Instr.sliceAt 342 (.pointer (some ⟨B,0,none⟩)) (some (.int .i64 (k:Int))) none none).run Tryz.prog W=.ok (.slice (some ⟨B,k,none⟩) (65-k) (65-k)) W:=by
 have hl:Tryz.prog.arrayLen 342=65:=by kernel_rfl
 have he:Tryz.prog.elem 342=5:=by kernel_rfl
 have hu:Tryz.prog.underlying 342=some (.array (Tryz.prog.arrayLen 342) (Tryz.prog.elem 342)):=by kernel_rfl
 rw [run_sliceAt_array_l W _ ⟨B,0,none⟩ hu .i64 k (by omega) (by rw [hl];omega),he,Tryz.sizeOf5]
 simp only [Result.andThen,hl,slicedAt]
 by_cases h0:k=0
 ·subst h0;rfl
 ·rw [if_neg (by omega)]
  simp [Addr.add]
  exact h0
def digB:ByteArray:=⟨#[48,49,50,51,52,53,54,55,56,57,97,98,99,100,101,102,103,104,105,106,107,108,109,110,111,112,113,114,115,116,117,118,119,120,121,122]⟩
theorem dig_at (d:Nat) (hd:d<16) (h:d<digB.size):((digB[d]'h).toNat:Int)=digI d:=by
 have:d=0∨d=1∨d=2∨d=3∨d=4∨d=5∨d=6∨d=7∨d=8∨d=9∨d=10∨d=11∨d=12∨d=13∨d=14∨d=15:=by omega
 rcases this with rfl | rfl | rfl | rfl | rfl | rfl | rfl | rfl | rfl | rfl | rfl | rfl | rfl | rfl | rfl | rfl <;> rfl
set_option maxRecDepth 100000 in
theorem fbits_any (u:Nat) (hu:u<4294967296) (w:World) (hD:DB w):Calls Tryz.prog 239 #[.slice none 0 0,.int .u64 u,.int .i64 16,.bool false,.bool false] w fun e w'=>e=.returned (.tuple #[.slice none 0 0,.string (strOfNums (hexI u))])∧Below w.heap.size w w':=by
 have HP:=lh (fun W=>pow16_any W)
 have HT:=lh (fun (W:World) (hb:Below w.heap.size w W)=>tz16_any W (hD.below hb))
 clear hD
 go_enter Tryz.func239,Tryz.ntmps239
 go_wp2_with (first
  | (go_at_call 261;refine (HP.out _).mono ?_;rintro e w1 ⟨rfl,rfl⟩)
  | (go_at_call 262;refine (HT.out _ ((Below.refl _ _).alloc (Nat.le_refl _) _)).mono ?_;rintro e w1 ⟨rfl,rfl⟩))
 have h0:ByB (w.alloc (.cells Tryz.zeroCells342 342)) w.heap.size 342 (List.replicate 65 0):=by
  unfold ByB
  rw [World.alloc_heap_new]
  rfl
 go_loopw [1,13] (fun u1 u13 wr=>∃(f v i:Nat) (xs acc:List Int),u1=.int .u64 v∧u13=.int .i64 i∧hexF f v acc=hexI u∧v<16 ^ (f+1)∧f+acc.length=16∧i+acc.length=65∧xs.length=65∧xs.drop i=acc∧v<4294967296∧ByB wr w.heap.size 342 xs∧Below w.heap.size w wr) (fun u1 _ _=>(intOf u1).toNat)
 case atStart=>exact⟨16,u,65,_,[],rfl,rfl,rfl,by omega,rfl,rfl,rfl,rfl,hu,h0,(Below.refl _ _).alloc (Nat.le_refl _) _⟩
 case round =>
  obtain⟨f,v,i,xs,acc,rfl,rfl,hh,hv,hf,hi,hx,hd,hv2,hB,hb⟩:=hrel
  obtain⟨k,rfl⟩:∃k,i=k+1:=⟨i-1,by omega⟩
  have ek:wrap64 (((k+1:Nat):Int)-1)=(k:Int):=by unfold wrap64;omega
  have c0:=hB.cell k (by omega)
  have f0:=hB.frozen k
  have hk:k<65:=by omega
  by_cases hge:16≤v
  ·have g1:(v:Int) ≥ 16:=by omega
   have ea:=and15 v (by omega)
   have HS:=lh (And.intro hh (And.intro hv (And.intro hf (And.intro hi (And.intro hx (And.intro hd (And.intro hB hb)))))))
   clear hh hv hf hi hx hd hB hb
   go_wp2_with (fail)
   obtain⟨hh,hv,hf,hi,hx,hd,hB,hb⟩:=HS.out
   obtain⟨f,rfl⟩:∃g,f=g+1:=⟨f-1,by
    cases f with
    | zero=>simp at hv;omega
    | succ f=>rfl⟩
   rw [hexF,if_pos hge] at hh
   go_roundw
   case rel =>
    refine⟨f,v / 16,k,xs.set k (digI (v % 16)),digI (v % 16)::acc,by rw [Int.natCast_ediv];rfl,rfl,hh,?_,by rw [List.length_cons];omega,by rw [List.length_cons];omega,?_,?_,by omega,by have:=hB.set k (digI (v % 16));rw [←dig_at (v % 16) (by omega) (by show v % 16<36;omega)] at this;rw [←dig_at (v % 16) (by omega) (by show v % 16<36;omega)];exact this,hb.setCell (p:=⟨w.heap.size,k,none⟩) (Nat.le_refl _) _⟩
    ·rw [Nat.pow_succ] at hv;omega
    ·rw [List.length_set];exact hx
    ·exact set_drop _ _ _ _ (by omega) hd
   case measure=>simp [intOf];omega
  ·have g1:¬ (v:Int) ≥ 16:=by omega
   have g2:(v:Int)<36:=by omega
   have HS:=lh (And.intro hh (And.intro hv (And.intro hf (And.intro hi (And.intro hx (And.intro hd (And.intro hB hb)))))))
   clear hh hv hf hi hx hd hB hb
   go_upto_region 30 with (fail)
   obtain⟨hh,hv,hf,hi,hx,hd,hB,hb⟩:=HS.out
   have hB2:=hB.set k (digI v)
   rw [←dig_at v (by omega) (by show v<36;omega)] at hB2
   have hb2:=hb.setCell (p:=⟨w.heap.size,k,none⟩) (Nat.le_refl _) (.int .u8 ((digB[v]'(by show v<36;omega)).toNat:Int))
   have hH:hexI u=digI v::acc:=by
    rw [←hh]
    cases f with
    | zero=>rw [hexF,Nat.mod_eq_of_lt (by omega)]
    | succ f=>rw [hexF,if_neg hge,Nat.mod_eq_of_lt (by omega)]
   have hR:=hB2.rd k
   have hxd:(xs.set k ((digB[v]'(by show v<36;omega)).toNat:Int)).drop k=hexI u:=by rw [dig_at v (by omega) (by show v<36;omega),set_drop _ _ _ _ (by omega) hd,←hH]
   rw [hxd] at hR
   have hl:(hexI u).length=65-k:=by rw [hH,List.length_cons];omega
   have hcv:=conv_rdx (cap:=65-k) hR hl
   have hsl:=slice65 (wr.setCell ⟨w.heap.size,k,none⟩ (.int .u8 ((digB[v]'(by show v<36;omega)).toNat:Int))) w.heap.size k (by omega)
   unfold digB at hcv hsl
   have HB2:=lh hb2
   clear hh hv hf hi hx hd hB hb HS hB2 hb2 hH hR hl hxd
   go_wp2_with (fail)
   go_ret2
   exact⟨rfl,HB2.out⟩
theorem fint0_any (u:Nat) (hu:u<4294967296) (w:World) (hD:DB w):Calls Tryz.prog 227 #[.int .i64 u,.int .i64 16] w fun e w'=>e=.returned (.string (strOfNums (hexI u)))∧Below w.heap.size w w':=by
 have HF:=lh (fun (W:World) (hb:Below w.heap.size w W)=>fbits_any u hu W (hD.below hb))
 clear hD
 go_enter Tryz.func227,Tryz.ntmps227
 go_wp2_with (go_at_call 239;refine (HF.out _ (by first | exact Below.refl _ _ | exact (Below.refl _ _).alloc (Nat.le_refl _) _)).mono ?_;rintro e w1 ⟨rfl,hb1⟩)
 go_ret
 exact⟨rfl,hb1⟩
theorem fint_any (u:Nat) (hu:u<4294967296) (w:World) (hD:DB w):Calls Tryz.prog 208 #[.int .i64 u,.int .i64 16] w fun e w'=>e=.returned (.string (strOfNums (hexI u)))∧Below w.heap.size w w':=by
 have HF:=lh (fint0_any u hu w hD)
 clear hD
 go_enter Tryz.func208,Tryz.ntmps208
 go_wp2_with (go_at_call 227;refine HF.out.mono ?_;rintro e w1 ⟨rfl,hb1⟩)
 go_ret
 exact⟨rfl,hb1⟩
def stopI (col tab:Int):Int:=if tab<1∨16<tab then 8-(max col 0) % 8 else tab-(max col 0) % tab
abbrev lookV (tab want:Int) (wide join raw:Bool):Value:=.agg #[.int .i64 tab,.bool wide,.int .i8 want,.bool join,.bool raw]
theorem stop_any (col tab want:Int) (wide join raw:Bool) (w:World):Calls Tryz.prog 171 #[.int .i64 col,lookV tab want wide join raw] w fun e w'=>e=.returned (.int .i64 (stopI col tab))∧Below w.heap.size w w':=by
 go_enter Tryz.func171,Tryz.ntmps171
 go_wp2_with (fail)
 all_goals go_ret
 all_goals refine⟨ret_i ?_,(Below.refl _ _).alloc (Nat.le_refl _) _⟩
 all_goals unfold stopI
 all_goals first
  | rw [if_pos (by omega)]
  | (rw [if_neg (by omega)]
     have m1:=Int.emod_nonneg (max col 0) (b:=tab) (by omega)
     have m2:=Int.emod_lt_of_pos (max col 0) (b:=tab) (by omega)
     generalize max col 0 % tab=m at m1 m2
     unfold wrap64
     omega)
def padF:Nat→ByteArray→ByteArray
 | 0,s=>s
 | f+1,s=>if s.size<4 then padF f (⟨#[48]⟩++s) else s
def namedS (x:Nat):ByteArray:=⟨#[60]⟩++padF 4 (strOfNums (hexI x))++⟨#[62]⟩
theorem strOfNums_size (l:List Int):(strOfNums l).size=l.length:=by
 unfold strOfNums
 simp [ByteArray.size]
theorem hexF_len:∀(f u:Nat) (acc:List Int),(hexF f u acc).length≤f+1+acc.length
 | 0,u,acc=>by rw [hexF,List.length_cons];omega
 | f+1,u,acc=>by
   rw [hexF]
   split
   ·have:=hexF_len f (u / 16) (digI (u % 16)::acc)
    rw [List.length_cons] at this
    omega
   ·rw [List.length_cons];omega
theorem named_any (x:Nat) (hx:x<2147483648) (w:World) (hD:DB w):Calls Tryz.prog 173 #[.int .i32 x] w fun e w'=>e=.returned (.string (namedS x))∧Below w.heap.size w w':=by
 have HF:=lh (fint_any x (by omega) w hD)
 have hl:=hexF_len 16 x []
 obtain⟨S,hS⟩:∃S,strOfNums (hexI x)=S:=⟨_,rfl⟩
 have hz:S.size≤17:=by rw [←hS,strOfNums_size];exact hl
 have hN:namedS x=⟨#[60]⟩++padF 4 S++⟨#[62]⟩:=by unfold namedS;rw [hS]
 rw [hS] at HF
 have HN:=lh hN
 clear hl hS hD hN
 go_enter Tryz.func173,Tryz.ntmps173
 go_wp2_with (go_at_call 208;refine HF.out.mono ?_;rintro e w1 ⟨rfl,hb1⟩)
 go_loopw [3] (fun u3 wr=>∃(f:Nat) (t:ByteArray),u3=.string t∧padF f t=padF 4 S∧4≤t.size+f∧t.size≤17∧wr=w1) (fun u3 _=>4-(match u3 with | .string t=>t.size | _=>0))
 case atStart=>exact⟨4,S,rfl,rfl,by omega,hz,rfl⟩
 case round =>
  obtain⟨f,t,rfl,hp,hf,ht,rfl⟩:=hrel
  have HP:=lh hp
  clear hp
  by_cases hlt:t.size<4
  ·have g1:(t.size:Int)<4:=by omega
   have hz2:((⟨#[48]⟩:ByteArray)++t).size=1+t.size:=by rw [ByteArray.size_append];rfl
   go_wp2_with (fail)
   go_roundw
   case rel=>exact⟨f-1,⟨#[48]⟩++t,rfl,by
    have:=HP.out
    obtain⟨g,rfl⟩:∃g,f=g+1:=⟨f-1,by omega⟩
    rw [padF,if_pos hlt] at this
    exact this,by omega,by omega,by first | rfl | trivial⟩
   case measure =>
    show 4-(⟨#[48]⟩++t:ByteArray).size<4-t.size
    omega
  ·have g1:¬ (t.size:Int)<4:=by omega
   go_wp2_with (fail)
   go_ret
   have hpt:padF 4 S=t:=by
    rw [←HP.out]
    cases f with
    | zero=>rfl
    | succ f=>rw [padF,if_neg hlt]
   exact⟨by rw [HN.out,hpt];rfl,hb1⟩
end
end Go.Proofs.YtlmjbfncopbilaaGreatDoor
