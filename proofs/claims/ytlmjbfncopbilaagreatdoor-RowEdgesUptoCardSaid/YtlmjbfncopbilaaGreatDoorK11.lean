/- Part 11 (merged by a program): lemmas of no further condition than each states. -/
import Derived.Laws.RangeAny
import Derived.Laws.StructEq
import Derived.Test.YtlmjbfncopbilaaGreatDoorK10
namespace Go.Proofs.YtlmjbfncopbilaaGreatDoor
set_option linter.unusedVariables false
set_option linter.unusedSimpArgs false
section
def runesF (s:ByteArray):Nat→Nat→List Int
 | 0,_=>[]
 | f+1,i=>if i<s.size then ((Utf8.decode s i).1:Int)::runesF s f (i+(Utf8.decode s i).2) else []
def runesI (s:ByteArray):List Int:=runesF s s.size 0
def textD (d:ByteArray) (col tab:Int) (wide raw:Bool):ByteArray × Int :=
 if d.size=0 then (⟨#[]⟩,0)
 else if decR d=65533∧decN d=1 then (⟨#[60]⟩++strOfNums [digI ((d.get! 0).toNat / 16),digI ((d.get! 0).toNat % 16)]++⟨#[62]⟩,4)
 else oneI d (runesI d) col tab wide raw
def textI (c:ByteArray) (col tab:Int) (wide raw:Bool):ByteArray × Int:=textD (c.extract 0 (nextI c)) col tab wide raw
theorem tab_mem:∀(T:List (Int × Int)) (r:Int),T≠[]→∃x∈T,tabLook T r=x.2
 | [],_,h=>absurd rfl h
 | [x],_,_=>⟨x,by simp,rfl⟩
 | x::y::rest,r,_=>by
   rw [tabLook]
   split
   ·exact⟨x,by simp,rfl⟩
   ·obtain⟨z,hz,e⟩:=tab_mem (y::rest) r (by simp)
    exact⟨z,List.mem_cons_of_mem _ hz,e⟩
theorem widths_nn:widthsT.all (fun x=>decide (0≤x.2))=true:=by decide +kernel
theorem wideI_bd (r:Int) (b:Bool):0≤wideI r b∧wideI r b≤2:=by
 obtain⟨x,hx,e⟩:=tab_mem widthsT (known r) (by decide)
 have:=List.all_eq_true.1 widths_nn x hx
 simp at this
 unfold wideI
 rw [e]
 split
 ·omega
 ·split <;> omega
theorem padF_size:∀(f:Nat) (s:ByteArray),s.size≤17→(padF f s).size≤17
 | 0,s,h=>h
 | f+1,s,h=>by
   rw [padF]
   split
   ·refine padF_size f _ ?_
    rw [ByteArray.size_append]
    show 1+s.size≤17
    omega
   ·exact h
theorem namedS_size (x:Nat):(namedS x).size≤19:=by
 have h1:(strOfNums (hexI x)).size≤17:=by
  rw [strOfNums_size]
  have:=hexF_len 16 x []
  simpa [hexI] using this
 have:=padF_size 4 _ h1
 unfold namedS
 rw [ByteArray.size_append,ByteArray.size_append]
 show 1+(padF 4 (strOfNums (hexI x))).size+1≤19
 omega
theorem oneI_bd (c:ByteArray) (rs:List Int) (col tab:Int) (wide raw:Bool):0≤(oneI c rs col tab wide raw).2∧(oneI c rs col tab wide raw).2≤19:=by
 have h1:=stopI_bd col tab
 have h2:=wideI_bd (ith rs 0) wide
 have h3:=namedS_size (ith rs 0).toNat
 unfold oneI
 repeat' split
 all_goals (dsimp only;omega)
theorem textI_bd (c:ByteArray) (col tab:Int) (wide raw:Bool):0≤(textI c col tab wide raw).2∧(textI c col tab wide raw).2≤19:=by
 unfold textI textD
 split
 ·exact⟨Int.le_refl _,by show (0:Int)≤19;omega⟩
 split
 ·exact⟨by show (0:Int)≤4;omega,by show (4:Int)≤19;omega⟩
 ·exact oneI_bd _ _ _ _ _ _
def blankC (c:ByteArray):Bool:=(!decide (decR c=65533)||decide (1<decN c))&&decide (breakI (decR c)=1)
end
section
open Go.RowKit Go.Proofs Go.Shelf
attribute [local go_sem] Oper.semAt_some
theorem runes_conv (s:ByteArray):∀(f i:Nat) (acc:Array Value),Conv.runesFrom s f i acc=acc++((runesF s f i).map (Value.int .i32)).toArray
 | 0,i,acc=>by simp [Conv.runesFrom,runesF]
 | f+1,i,acc=>by
   rw [Conv.runesFrom,runesF]
   split
   ·show Conv.runesFrom s f (i+(Utf8.decode s i).2) (acc.push (.int .i32 ((Utf8.decode s i).1:Int)))=_
    rw [runes_conv s f,List.map_cons]
    simp
   ·simp
theorem runesF_len (s:ByteArray):∀(f i:Nat),(runesF s f i).length≤f
 | 0,i=>Nat.le_refl _
 | f+1,i=>by
   rw [runesF]
   split
   ·rw [List.length_cons];exact Nat.succ_le_succ (runesF_len s f _)
   ·exact Nat.zero_le _
theorem runesI_pos (s:ByteArray) (h:0<s.size):0<(runesI s).length∧ith (runesI s) 0=((Utf8.decode s 0).1:Int):=by
 unfold runesI
 obtain⟨k,hk⟩:∃k,s.size=k+1:=⟨s.size-1,by omega⟩
 rw [hk,runesF,if_pos h]
 exact⟨by simp,rfl⟩
theorem runes_rd (W:World) (s:ByteArray) (t g:Nat) :
 Rd .i32 (W.drew.alloc (.cells (Conv.runesFrom s s.size 0 #[]++Array.replicate g (.int .i32 0)) t)) (some ⟨W.heap.size,0,none⟩) (runesI s):=by
 refine .inr ⟨W.heap.size,0,rfl,by rw [World.size_alloc];exact Nat.lt_succ_self _,fun i hi=>?_⟩
 rw [runes_conv]
 have h0:(W.drew.alloc (.cells (#[]++((runesF s s.size 0).map (Value.int .i32)).toArray++Array.replicate g (.int .i32 0)) t)).heap[W.heap.size]? = _:=World.alloc_heap_new W.drew _
 have h1:(runesI s)[i]? = some (ith (runesI s) i):=ith_get hi
 unfold runesI at h1 hi ⊢
 simp only [World.cell?,h0]
 simp only [Nat.zero_add,Array.empty_append]
 rw [Array.getElem?_append_left (by simpa using hi)]
 simp [h1]
theorem conv_str (d:ByteArray) (hz:d.size≤16777216) :
 ∃(C:World→Nat) (F:World→World),(∀w,(convert 9 137 (.string d)).run Tryz.prog w=.ok (.slice (some ⟨w.heap.size,0,none⟩) (runesI d).length (C w)) (F w)) ∧
   ∀w,Below w.heap.size w (F w)∧Rd .i32 (F w) (some ⟨w.heap.size,0,none⟩) (runesI d)∧(runesI d).length≤C w:=by
 have hs:Conv.runesFrom d d.size 0 #[]=((runesI d).map (Value.int .i32)).toArray:=by
  rw [runes_conv];unfold runesI;simp
 have hsz:(Conv.runesFrom d d.size 0 #[]).size=(runesI d).length:=by rw [hs];simp
 have hle:=runesF_len d d.size 0
 refine⟨fun w=>grownCap w (runesI d).length 0 21,fun w=>w.drew.alloc (.cells (Conv.runesFrom d d.size 0 #[]++Array.replicate (grownCap w (runesI d).length 0 21-(runesI d).length) (.int .i32 0)) 21),fun w=>?_,fun w=>⟨?_,?_,?_⟩⟩
 ·have:=run_runes_of_string (P:=Tryz.prog) w 9 137 21 d Tryz.underlying9 Tryz.underlying137 Tryz.underlying21 (by rw [hsz];unfold runesI;omega)
  rw [this,hsz]
 ·exact (Below.refl _ _).drew.alloc (Nat.le_refl _) _
 ·exact runes_rd w d 21 _
 ·exact grownCap_ge w (runesI d).length 0 21
theorem conv_two (W:World) (x y:Int):(convert 134 9 (.slice (some ⟨W.heap.size,0,none⟩) 2 2)).run Tryz.prog (W.alloc (.cells #[.int .u8 x,.int .u8 y] 5)).drew=.ok (.string (strOfNums [x,y])) (W.alloc (.cells #[.int .u8 x,.int .u8 y] 5)).drew:=by
 refine conv_rdx (xs:=[x,y]) (.inr ⟨W.heap.size,0,rfl,by show W.heap.size<(W.alloc _).heap.size;rw [World.size_alloc];exact Nat.lt_succ_self _,fun i hi=>?_⟩) rfl
 have hi:i<2:=hi
 have hc:=World.cell?_alloc_mark W #[.int .u8 x,.int .u8 y] 5 (0,0) i
 rw [Nat.zero_add]
 refine Eq.trans hc ?_
 obtain rfl | rfl:i=0∨i=1:=by omega
 ·rfl
 ·rfl
theorem and15_u8:∀y:Fin 256,bits .and .u8 (y.val:Int) 15=(y.val:Int) % 16:=by decide +kernel
def digS:ByteArray:=⟨#[48,49,50,51,52,53,54,55,56,57,97,98,99,100,101,102]⟩
theorem digS_at (d:Nat) (hd:d<16) (h:d<digS.size):((digS[d]'h).toNat:Int)=digI d:=by
 have:d=0∨d=1∨d=2∨d=3∨d=4∨d=5∨d=6∨d=7∨d=8∨d=9∨d=10∨d=11∨d=12∨d=13∨d=14∨d=15:=by omega
 rcases this with rfl | rfl | rfl | rfl | rfl | rfl | rfl | rfl | rfl | rfl | rfl | rfl | rfl | rfl | rfl | rfl <;> rfl
set_option maxHeartbeats 1000000 in
theorem text_anyB (c:ByteArray) (hz:c.size≤16777216) (col tab want:Int) (wide join raw:Bool) (w:World) (hT:T8 w) (hD:DB w) :
 Calls Tryz.prog 87 #[.string c,.int .i64 col,lookV tab want wide join raw] w fun e w' =>
  e=.returned (.tuple #[.string (textI c col tab wide raw).1,.int .i64 (textI c col tab wide raw).2])∧Below w.heap.size w w':=by
 obtain⟨p,hp⟩:∃p,textI c col tab wide raw=p:=⟨_,rfl⟩
 rw [hp]
 have hkb:nextI c≤c.size:=by
  by_cases h:c.size=0
  ·unfold nextI;rw [if_pos h];omega
  ·exact (nextI_bd c (by omega)).2
 unfold textI at hp
 obtain⟨k,hk⟩:∃k,nextI c=k:=⟨_,rfl⟩
 have HN:=lh (fun (W:World) (hb:Below w.heap.size w W)=>hk▸Next_any c W (hT.below rfl hb) (by omega))
 rw [hk] at hp hkb
 obtain⟨d,hd⟩:∃d,c.extract 0 k=d:=⟨_,rfl⟩
 have hdz:d.size=k:=by rw [←hd];simp [ByteArray.size_extract];omega
 rw [hd] at hp
 have HS:=lh (fun (W:World) (hb:Below w.heap.size w W)=>sNext_any d W (hT.below rfl hb))
 have HD:=lh (fun (W:World) (hb:Below w.heap.size w W)=>hD.below hb)
 have HP:=lh hp
 clear hT hD hp hk
 go_enter Tryz.func87,Tryz.ntmps87
 go_upto_region 1 with (fail)
 have hb1:Below w.heap.size w (w.alloc (.cells #[.int .i64 tab,.bool wide,.int .i8 want,.bool join,.bool raw] 26)):=(Below.refl _ _).alloc (Nat.le_refl _) _
 have hL:(w.alloc (.cells #[.int .i64 tab,.bool wide,.int .i8 want,.bool join,.bool raw] 26)).heap[w.heap.size]? = some (.cells #[.int .i64 tab,.bool wide,.int .i8 want,.bool join,.bool raw] 26 (0,0)):=World.alloc_heap_new w _
 generalize w.alloc (.cells #[.int .i64 tab,.bool wide,.int .i8 want,.bool join,.bool raw] 26)=W1 at hb1 hL ⊢
 have g0:(k:Int)≤(c.size:Int):=by omega
 go_upto_region 2 with (go_at_call 65;refine (HN.out _ hb1).mono ?_;rintro e w2 ⟨rfl,hb2⟩)
 have hb3:=hb1.trans (hb2.mono hb1.size)
 have hL2:=(hb2.block w.heap.size (Array.getElem?_eq_some_iff.1 hL).1).trans hL
 have hx:c.extract 0 k=d:=hd
 by_cases h0:d.size=0
 ·have hd0:d=⟨#[]⟩:=ByteArray.ext (Array.eq_empty_of_size_eq_zero h0)
  have hp:=HP.out
  unfold textD at hp
  rw [if_pos h0] at hp
  subst hd0
  go_wp2_with (fail)
  go_ret2
  exact⟨by rw [←hp];rfl,hb3⟩
 have hem:=ne_isEmpty d h0
 have hpos:0<d.size:=by omega
 by_cases hbad:decR d=65533∧decN d=1
 ·have hp:=HP.out
  unfold textD at hp
  rw [if_neg h0,if_pos hbad] at hp
  obtain⟨e1,e2⟩:=hbad
  have hS2:=lh (HS.out w2 hb3)
  rw [e1,e2] at hS2
  have HP2:=lh hp
  clear hp HP
  go_upto_region 6 with (go_at_call 105;refine hS2.out.mono ?_;rintro e w4 ⟨rfl,hb4⟩)
  have hb5:=hb3.trans (hb4.mono hb3.size)
  clear hb2 hb4 hL2 hL hb1 hb3
  have hk0:0<k:=by omega
  obtain⟨y,hy⟩:∃y:Nat,(d[0]'hpos).toNat=y:=⟨_,rfl⟩
  have hy8:y<256:=by rw [←hy];exact UInt8.toNat_lt _
  have hq:(0:Int)≤(y:Int) / 16∧(y:Int) / 16<16:=by omega
  have ha:bits .and .u8 (y:Int) 15=(y:Int) % 16:=and15_u8 ⟨y,hy8⟩
  have hm:(0:Int)≤(y:Int) % 16∧(y:Int) % 16<16:=by omega
  obtain⟨S2,hS2,hsz⟩:∃S2:Int→Int→ByteArray,(∀x y,S2 x y=strOfNums [x,y])∧∀x y,(S2 x y).size=2:=⟨fun x y=>strOfNums [x,y],fun _ _=>rfl,fun x y=>by rw [strOfNums_size];rfl⟩
  have hcv:=fun W x y=>conv_two W x y
  simp only [←hS2] at hcv
  have hS3:=lh hS2
  clear hS2
  go_region
  go_wp2_with (fail)
  go_ret2
  refine⟨two_ret ?_,(hb5.alloc hb5.size _).drew⟩
  have hg:(d.get! 0).toNat=y:=by
   rw [←hy]
   show (d.data[0]!).toNat=(d.data[0]).toNat
   rw [getElem!_pos d.data 0 hpos]
  have k1:=digS_at (y / 16) (by omega) (by show y / 16<16;omega)
  have k2:=digS_at (y % 16) (by omega) (by show y % 16<16;omega)
  rw [←HP2.out,hS3.out,hg,←k1,←k2]
  rfl
 ·have hp:=HP.out
  unfold textD at hp
  rw [if_neg h0,if_neg hbad] at hp
  have hS2:=lh (HS.out w2 hb3)
  have HP2:=lh hp
  obtain⟨C,F,hcv,hF⟩:=conv_str d (by omega)
  obtain⟨hrp,hr0⟩:=runesI_pos d hpos
  have hrb:0≤ith (runesI d) 0∧ith (runesI d) 0<2147483648:=by
   have:=decode_le d 0
   rw [hr0];omega
  have hrl:=runesF_len d d.size 0
  have hone:=fun (W:World) (hb:Below w.heap.size w (F W))=>one_any d (runesI d) (runesI d).length (C W) W.heap.size 0 rfl hrp (hF W).2.2 (by unfold runesI;omega) col tab want wide join raw (F W) (hF W).2.1 hrb (HD.out _ hb)
  have HF:=lh hF
  rw [hp] at hone
  have hOne:=lh hone
  have hbb:=lh hbad
  clear hp HP hF hone hbad
  obtain⟨r,hr⟩:∃r,decR d=r:=⟨_,rfl⟩
  obtain⟨m,hm⟩:∃m,decN d=m:=⟨_,rfl⟩
  rw [hr,hm] at hS2 hbb
  clear hr hm
  go_upto_region 5 with (go_at_call 105;refine hS2.out.mono ?_;rintro e w4 ⟨rfl,hb4⟩)
  have hb5:=hb3.trans (hb4.mono hb3.size)
  have hL4:=(hb4.block w.heap.size (Nat.lt_of_lt_of_le (Array.getElem?_eq_some_iff.1 hL).1 hb2.size)).trans hL2
  have hb6:=hb5.trans (((HF.out w4).1).mono hb5.size)
  have hLs:w.heap.size<w4.heap.size:=(Array.getElem?_eq_some_iff.1 hL4).1
  have hLF:=(((HF.out w4).1).block w.heap.size hLs).trans hL4
  have k0:(F w4).cell? ⟨w.heap.size,0,none⟩=some (.int .i64 tab):=by simp [World.cell?,hLF]
  have c1:(F w4).cell? ⟨w.heap.size,1,none⟩=some (.bool wide):=by simp [World.cell?,hLF]
  have k2:(F w4).cell? ⟨w.heap.size,2,none⟩=some (.int .i8 want):=by simp [World.cell?,hLF]
  have k3:(F w4).cell? ⟨w.heap.size,3,none⟩=some (.bool join):=by simp [World.cell?,hLF]
  have c4:(F w4).cell? ⟨w.heap.size,4,none⟩=some (.bool raw):=by simp [World.cell?,hLF]
  have hB6:=lh hb6
  have hO4:=lh (hOne.out w4 hb6)
  clear hLF hL4 hL2 hL hb1 hb2 hb3 hb4 hb5 hb6 hOne hrp hr0 hrb hrl HF hS2 HN HS HD
  by_cases e1:r=65533
  ·subst e1
   have e2:((m:Int)==1)=false:=by
    rw [beq_eq_false_iff_ne]
    intro h
    exact hbb.out ⟨rfl,by omega⟩
   go_wp2_with (go_at_call 131;refine hO4.out.mono ?_;rintro e w5 ⟨rfl,hb7⟩)
   go_ret2
   exact⟨rfl,hB6.out.trans (hb7.mono hB6.out.size)⟩
  ·have e2:(r==65533)=false:=by rw [beq_eq_false_iff_ne];exact e1
   go_wp2_with (go_at_call 131;refine hO4.out.mono ?_;rintro e w5 ⟨rfl,hb7⟩)
   go_ret2
   exact⟨rfl,hB6.out.trans (hb7.mono hB6.out.size)⟩
end
section
theorem ext_eq2 {t:ByteArray} {a b c d:Nat} (h1:a=c) (h2:b=d):t.extract a b=t.extract c d:=by rw [h1,h2]
theorem ext_get (s:ByteArray) (i j:Nat) (hi:i≤s.size):(s.extract i s.size).get! j=s.get! (i+j):=by
 show (s.extract i s.size).data[j]! = s.data[i+j]!
 by_cases h:i+j<s.size
 ·have e1:j<(s.extract i s.size).data.size:=by
   have:=ext_size s i hi
   show j<(s.extract i s.size).size
   omega
  rw [getElem!_pos (s.extract i s.size).data j e1,getElem!_pos s.data (i+j) h]
  simp [ByteArray.data_extract]
 ·have e1:¬ j<(s.extract i s.size).data.size:=by
   have:=ext_size s i hi
   show ¬ j<(s.extract i s.size).size
   omega
  rw [getElem!_neg (s.extract i s.size).data j e1,getElem!_neg s.data (i+j) h]
theorem dec_ext (s:ByteArray) (i j:Nat) (hi:i≤s.size):Utf8.decode (s.extract i s.size) j=Utf8.decode s (i+j):=by
 rw [Lib.decode_at,Lib.decode_at,ext_size s i hi,ext_get s i _ hi,ext_get s i _ hi,ext_get s i _ hi,ext_get s i _ hi]
 rw [show s.size-i-j=s.size-(i+j) by omega,←Nat.add_assoc,←Nat.add_assoc,←Nat.add_assoc]
theorem runesF_fuel (s:ByteArray):∀(f g i:Nat),s.size≤i+f→s.size≤i+g→runesF s f i=runesF s g i
 | 0,0,i,hf,hg=>rfl
 | 0,g+1,i,hf,hg=>by rw [runesF,runesF,if_neg (by omega)]
 | f+1,0,i,hf,hg=>by rw [runesF,runesF,if_neg (by omega)]
 | f+1,g+1,i,hf,hg=>by
   rw [runesF,runesF]
   split
   ·rename_i h
    have:=Lib.decode_width_pos s i h
    rw [runesF_fuel s f g _ (by omega) (by omega)]
   ·rfl
theorem runesF_shift (s:ByteArray) (i:Nat) (hi:i≤s.size):∀(f j:Nat),runesF (s.extract i s.size) f j=runesF s f (i+j)
 | 0,j=>rfl
 | f+1,j=>by
   rw [runesF,runesF,ext_size s i hi,dec_ext s i j hi]
   by_cases h:i+j<s.size
   ·rw [if_pos (by omega),if_pos h,runesF_shift s i hi f,Nat.add_assoc]
   ·rw [if_neg (by omega),if_neg h]
theorem runesI_nil (t:ByteArray) (h:t.size=0):runesI t=[]:=by unfold runesI;rw [h];rfl
theorem dec_go (t:ByteArray) (h:0<t.size):Utf8.decode t 0=Lib.decodeGo t:=by unfold Lib.decodeGo;rw [if_neg (by omega)]
theorem runesI_cons (t:ByteArray) (h:0<t.size):runesI t=decR t::runesI (t.extract (decN t) t.size):=by
 have hn:=decN_le t
 unfold runesI
 obtain⟨k,hk⟩:∃k,t.size=k+1:=⟨t.size-1,by omega⟩
 rw [runesF_shift t (decN t) hn,ext_size t _ hn]
 rw [hk,runesF,if_pos (by omega),dec_go t h,Nat.zero_add,Nat.add_zero]
 have hp:=decN_pos t h
 show _::runesF t k (decN t)=_
 rw [runesF_fuel t k (k+1-decN t) (decN t) (by omega) (by omega)]
 rfl
inductive Rch:ByteArray→Nat→Prop
 | zero (t:ByteArray):Rch t 0
 | step (t:ByteArray) (k:Nat):0<t.size→decN t≤k→k≤t.size→Rch (t.extract (decN t) t.size) (k-decN t)→Rch t k
theorem ext_all (t:ByteArray):t.extract 0 t.size=t:=by
 apply ByteArray.ext
 simp [ByteArray.data_extract]
theorem runes_split {t:ByteArray} {k:Nat} (h:Rch t k):runesI t=runesI (t.extract 0 k)++runesI (t.extract k t.size):=by
 induction h with
 | zero t=>rw [runesI_nil (t.extract 0 0) (by simp [ByteArray.size_extract]),List.nil_append,ext_all]
 | step t k h1 h2 h3 h4 ih =>
   have hp:=decN_pos t h1
   have hz:(t.extract 0 k).size=k:=by simp [ByteArray.size_extract];omega
   have hcd:=cut_dec t k (by omega) h3
   rw [if_pos h2] at hcd
   have e1:decR (t.extract 0 k)=decR t:=by unfold decR;rw [hcd]
   have e2:decN (t.extract 0 k)=decN t:=by unfold decN;rw [hcd]
   have ez:=ext_size t (decN t) (by omega)
   rw [runesI_cons t h1,ih,runesI_cons (t.extract 0 k) (by omega),e1,e2,hz,List.cons_append]
   have a1:(t.extract 0 k).extract (decN t) k=(t.extract (decN t) t.size).extract 0 (k-decN t):=by
    rw [ext_ext,ext_ext]
    exact ext_eq2 (by omega) (by omega)
   have a2:t.extract k t.size=(t.extract (decN t) t.size).extract (k-decN t) (t.extract (decN t) t.size).size:=by
    rw [ez,ext_ext]
    exact ext_eq2 (by omega) (by omega)
   rw [a1,a2]
theorem Rch.one {t:ByteArray} (h:0<t.size):Rch t (decN t):=Rch.step t _ h (Nat.le_refl _) (decN_le t) (by rw [Nat.sub_self];exact Rch.zero _)
theorem Rch.trans {t:ByteArray} {k m:Nat} (h:Rch t k) (h2:Rch (t.extract k t.size) m) (hm:k+m≤t.size):Rch t (k+m):=by
 induction h with
 | zero t=>rw [ext_all] at h2;rw [Nat.zero_add];exact h2
 | step t k a1 a2 a3 a4 ih =>
   have ez:=ext_size t (decN t) (by omega)
   refine Rch.step t _ a1 (by omega) hm ?_
   have:=ih (by
    rw [ez,ext_ext,show decN t+(k-decN t)=k by omega,show min (decN t+(t.size-decN t)) t.size=t.size by omega]
    exact h2) (by rw [ez];omega)
   rw [show k+m-decN t=k-decN t+m by omega]
   exact this
theorem more_rch (x:Int) (s:ByteArray):∀(f n:Nat) (z:Int) (a:Nat),a≤s.size→Rch s a→Rch s (moreF x s f n z a)
 | 0,_,_,a,ha,h=>h
 | f+1,n,z,a,ha,h=>by
   rw [moreF]
   split
   ·exact h
   ·rename_i hn
    split
    ·have hz:=ext_size s a ha
     have hne:a≠s.size:=fun e=>hn (.inl e)
     have hl:=decN_le (s.extract a s.size)
     exact more_rch x s f _ _ _ (by omega) (h.trans (Rch.one (by omega)) (by omega))
    ·exact h
theorem next_rch (s:ByteArray) (h:0<s.size):Rch s (nextI s):=by
 unfold nextI
 rw [if_neg (by omega)]
 split
 ·split
  ·rename_i e
   have h1:=decR_13 s e.1
   have hr:=Rch.one h
   rw [h1] at hr
   have hz:=ext_size s 1 (by omega)
   have hd:Lib.decodeGo (s.extract 1 s.size)=(10,1):=by
    rw [←dec_go _ (by omega),Lib.decode_at,ext_get s 1 0 (by omega)]
    have hb:(s.get! (1+0)).toNat=10:=by rw [Nat.add_zero,e.2.2];rfl
    rw [hb]
    unfold Lib.decodeN
    rw [if_pos (by omega)]
   have hn:decN (s.extract 1 s.size)=1:=by unfold decN;rw [hd]
   have:=hr.trans (Rch.one (t:=s.extract 1 s.size) (by omega)) (by rw [hn];omega)
   rw [hn] at this
   exact this
  ·exact Rch.one h
 ·exact more_rch _ s 31 1 _ _ (decN_le s) (Rch.one h)
theorem runes_pieces (T:ByteArray):∀(f a:Nat),a≤T.size→T.size≤a+f→runesI (T.extract a T.size)=((piecesF T f a).map (·.2)).flatMap runesI
 | 0,a,ha,hf=>by
   rw [runesI_nil _ (by rw [ext_size T a ha];omega)];rfl
 | f+1,a,ha,hf=>by
   rw [piecesF]
   by_cases h:a<T.size
   ·have hz:=ext_size T a ha
    have hn:=nextI_bd (T.extract a T.size) (by omega)
    rw [if_pos h,List.map_cons,List.flatMap_cons,←runes_pieces T f (a+nextI (T.extract a T.size)) (by omega) (by omega),runes_split (next_rch (T.extract a T.size) (by omega))]
    generalize nextI (T.extract a T.size)=n at hn
    have a1:(T.extract a T.size).extract 0 n=T.extract a (a+n):=by
     rw [ext_ext];exact ext_eq2 (by omega) (by omega)
    have a2:(T.extract a T.size).extract n (T.extract a T.size).size=T.extract (a+n) T.size:=by
     rw [hz,ext_ext];exact ext_eq2 (by omega) (by omega)
    rw [a1,a2]
   ·rw [if_neg h,runesI_nil _ (by rw [ext_size T a ha];omega)];rfl
theorem runes_all (T:ByteArray):runesI T=((piecesI T).map (·.2)).flatMap runesI:=by
 have:=runes_pieces T T.size 0 (Nat.zero_le _) (by omega)
 rw [ext_all] at this
 exact this
theorem runesI_pos2 (t:ByteArray) (h:0<t.size):0<(runesI t).length:=by
 rw [runesI_cons t h];simp
end
section
open Go.RowKit Go.Proofs Go.Shelf
attribute [local go_sem] Oper.semAt_some
theorem row_under:Tryz.prog.underlying 24=some (.struct (Tryz.prog.fieldsOf 24)):=by kernel_rfl
theorem take_snoc {α:Type} {l:List α} {i:Nat} {r:α} (h:l[i]? = some r):l.take (i+1)=l.take i++[r]:=by
 rw [List.take_add_one,h]
 rfl
theorem dropR_cons {α:Type} {l:List α} {i:Nat} {r:α} (h:l[i]? = some r):l.drop i=r::l.drop (i+1):=by
 obtain⟨h1,h2⟩:=List.getElem?_eq_some_iff.1 h
 rw [List.drop_eq_getElem_cons h1,h2]
end
section
def szs:List ByteArray→Nat
 | []=>0
 | c::t=>c.size+szs t
theorem ext_eq {t:ByteArray} {a b c d:Nat} (h1:a=c) (h2:b=d):t.extract a b=t.extract c d:=by rw [h1,h2]
theorem cut_pieces (T:ByteArray) (a n:Nat) (h:Bord T a n) (P R:List ByteArray) (hP:(piecesF T T.size a).map (·.2)=P++R) :
 a+szs P≤T.size∧Bord T (a+szs P) (n+P.length)∧(piecesI (T.extract a (a+szs P))).map (·.2)=P∧(piecesF T T.size (a+szs P)).map (·.2)=R:=by
 induction P generalizing a n with
 | nil =>
   have hz:(T.extract a (a+szs [])).size=0:=by rw [szs];simp [ByteArray.size_extract]
   rw [szs,Nat.add_zero]
   refine⟨h.1,h,?_,by rw [hP];rfl⟩
   unfold piecesI
   rw [szs,Nat.add_zero] at hz
   rw [hz];rfl
 | cons x t ih =>
   have hlt:a<T.size:=by
    by_cases e:a<T.size
    ·exact e
    ·have:a=T.size:=by have:=h.1;omega
     rw [this,piecesF_nil] at hP;cases hP
   have hP0:=hP
   rw [piecesF_cons T a hlt,List.map_cons,List.cons_append] at hP
   obtain⟨hx,ht⟩:=List.cons.inj hP
   have hn:=nextI_bd (T.extract a T.size) (by rw [ext_size T a (by omega)];omega)
   rw [ext_size T a (by omega)] at hn
   have hxz:x.size=nextI (T.extract a T.size):=by rw [←hx];simp [ByteArray.size_extract];omega
   obtain⟨i1,i2,i3,i4⟩:=ih (a+nextI (T.extract a T.size)) (n+1) (h.next hlt) ht
   have hs:a+szs (x::t)=a+nextI (T.extract a T.size)+szs t:=by rw [szs,hxz];omega
   rw [hs]
   refine⟨i1,by rw [List.length_cons,show n+(t.length+1)=n+1+t.length by omega];exact i2,?_,i4⟩
   obtain⟨e,he⟩:∃e,a+nextI (T.extract a T.size)+szs t=e:=⟨_,rfl⟩
   rw [he] at i1 i3 ⊢
   obtain⟨u,hu⟩:∃u,T.extract a T.size=u:=⟨_,rfl⟩
   have huz:u.size=T.size-a:=by rw [←hu];exact ext_size T a (by omega)
   have hcut:T.extract a e=u.extract 0 (e-a):=by
    rw [←hu,ext_ext]
    exact ext_eq (by omega) (by omega)
   rw [hu] at hn hxz hx he i3
   have hnc:=next_cut u (e-a) (by omega) (by omega)
   rw [hcut]
   have hz:(u.extract 0 (e-a)).size=e-a:=by simp [ByteArray.size_extract];omega
   unfold piecesI
   rw [hz]
   have hc:=piecesF_cons (u.extract 0 (e-a)) 0 (by rw [hz];omega)
   rw [hz,show (u.extract 0 (e-a)).extract 0 (e-a)=u.extract 0 (e-a) by rw [ext_ext];exact ext_eq (by omega) (by omega),hnc,Nat.zero_add] at hc
   have hq0:u.extract 0 (nextI u)=x:=by
    rw [←hx]
    generalize nextI u=m at hn hxz he
    rw [←hu,ext_ext]
    exact ext_eq (by omega) (by omega)
   have hq:(u.extract 0 (e-a)).extract (nextI u) (e-a)=T.extract (a+nextI u) e:=by
    generalize nextI u=m at hn hxz he
    rw [←hu,ext_ext,ext_ext]
    exact ext_eq (by omega) (by omega)
   have hq1:(u.extract 0 (e-a)).extract 0 (nextI u)=x:=by
    rw [←hq0,ext_ext]
    exact ext_eq (by omega) (by omega)
   rw [hc,List.map_cons,hq1]
   refine congrArg (x::·) ?_
   have hp:=pieces_tail (u.extract 0 (e-a)) (nextI u) (by rw [hz];omega)
   rw [hz,hq] at hp
   rw [hp,List.map_map,←i3]
   rfl
end
section
def clAtF (x:Nat):List (Nat × ByteArray)→Nat→Nat × Nat
 | [],n=>(n,n)
 | p::t,n=>if x<p.1+p.2.size then (p.1,p.1+p.2.size) else clAtF x t n
def clAt (s:ByteArray) (x:Int):Nat × Nat:=clAtF (min x.toNat s.size) (piecesI s) s.size
def upB (s:ByteArray) (x:Nat):Nat:=if (clAt s x).1=x then x else (clAt s x).2
theorem pieces_mid (s:ByteArray):∀(L:List (Nat × ByteArray)) (a b:Nat),a≤s.size→b≤s.size→piecesF s s.size a=L++piecesF s s.size b →
 a+szs (L.map (·.2))=b∧(∀p∈L,a≤p.1∧p.1<b∧p.1+p.2.size≤b∧0<p.2.size)∧(L=[]→a=b)
 | [],a,b,ha,hb,h=>by
   have hab:a=b:=by
    by_cases h1:a<s.size
    ·rw [List.nil_append,piecesF_cons s a h1] at h
     by_cases h2:b<s.size
     ·rw [piecesF_cons s b h2] at h
      have:=(List.cons.inj h).1
      injection this
     ·rw [show b=s.size by omega,piecesF_nil] at h;cases h
    ·rw [List.nil_append,show a=s.size by omega,piecesF_nil] at h
     by_cases h2:b<s.size
     ·rw [piecesF_cons s b h2] at h;cases h
     ·omega
   exact⟨by simp [szs,hab],(fun p hp=>by cases hp),fun _=>hab⟩
 | q::t,a,b,ha,hb,h=>by
   have hlt:a<s.size:=by
    by_cases e:a<s.size
    ·exact e
    ·rw [show a=s.size by omega,piecesF_nil] at h;cases h
   rw [piecesF_cons s a hlt,List.cons_append] at h
   have hz:=ext_size s a ha
   have hn:=nextI_bd (s.extract a s.size) (by omega)
   obtain⟨hq,ht⟩:=List.cons.inj h
   obtain⟨i1,i2,_⟩:=pieces_mid s t _ b (by omega) hb ht
   have hqz:q.2.size=nextI (s.extract a s.size):=by rw [←hq];simp [ByteArray.size_extract];omega
   have hq1:q.1=a:=by rw [←hq]
   refine⟨by rw [List.map_cons,szs,hqz];omega,fun p hp=>?_,fun e=>by cases e⟩
   rcases List.mem_cons.1 hp with rfl | hp
   ·omega
   ·have:=i2 p hp;omega
theorem bord_ord {s:ByteArray} {a b k m:Nat} (ha:Bord s a k) (hb:Bord s b m) (h:k≤m):∃L,piecesF s s.size a=L++piecesF s s.size b∧L.length=m-k:=by
 obtain⟨a1,pre,a2,a3⟩:=ha
 obtain⟨b1,qre,b2,b3⟩:=hb
 have he:pre++piecesF s s.size a=qre++piecesF s s.size b:=a2.symm.trans b2
 refine⟨qre.drop k,?_,by rw [List.length_drop,b3]⟩
 have h1:=congrArg (List.drop k) he
 rw [List.drop_append_of_le_length (by omega),List.drop_eq_nil_of_le (by omega:pre.length≤k),List.nil_append,List.drop_append_of_le_length (by omega)] at h1
 exact h1
theorem bord_le {s:ByteArray} {a b k m:Nat} (ha:Bord s a k) (hb:Bord s b m) (h:k≤m):a≤b:=by
 obtain⟨L,h1,_⟩:=bord_ord ha hb h
 have:=(pieces_mid s L a b ha.1 hb.1 h1).1
 omega
theorem bord_lt {s:ByteArray} {a b k m:Nat} (ha:Bord s a k) (hb:Bord s b m) (h:a<b):k<m:=by
 by_cases e:k<m
 ·exact e
 ·have:=bord_le hb ha (by omega);omega
theorem bord_eq {s:ByteArray} {a k m:Nat} (ha:Bord s a k) (hb:Bord s a m):k=m:=by
 have key:∀{k m:Nat},Bord s a k→Bord s a m→k≤m→k=m:=by
  intro k m ha hb h
  obtain⟨L,h1,h2⟩:=bord_ord ha hb h
  have h3:L=[]:=by
   cases L with
   | nil=>rfl
   | cons q t =>
     have:=(pieces_mid s _ a a ha.1 hb.1 h1).2.1 q (by simp)
     omega
  rw [h3] at h2
  simp at h2
  omega
 rcases Nat.le_total k m with h | h
 ·exact key ha hb h
 ·exact (key hb ha h).symm
theorem bord_gap {s:ByteArray} {p c k m:Nat} (hp:Bord s p k) (hc:Bord s c m) (h:p<c):p+nextI (s.extract p s.size)≤c:=by
 have hlt:p<s.size:=by have:=hc.1;omega
 have:=bord_lt hp hc h
 exact bord_le (hp.next hlt) hc (by omega)
theorem bord_end (s:ByteArray):Bord s s.size (piecesI s).length:=⟨Nat.le_refl _,piecesI s,by rw [piecesF_nil,List.append_nil],rfl⟩
theorem clAtF_spec (s:ByteArray) (x:Nat) (hx:x≤s.size):∀(f a k:Nat),s.size≤a+f→Bord s a k→a≤x →
 ∃k1 k2,Bord s (clAtF x (piecesF s s.size a) s.size).1 k1∧Bord s (clAtF x (piecesF s s.size a) s.size).2 k2∧(clAtF x (piecesF s s.size a) s.size).1≤x∧x≤(clAtF x (piecesF s s.size a) s.size).2 ∧
   (x<s.size→x<(clAtF x (piecesF s s.size a) s.size).2∧(clAtF x (piecesF s s.size a) s.size).2=(clAtF x (piecesF s s.size a) s.size).1+nextI (s.extract (clAtF x (piecesF s s.size a) s.size).1 s.size)) ∧
   (x=s.size→(clAtF x (piecesF s s.size a) s.size).1=s.size∧(clAtF x (piecesF s s.size a) s.size).2=s.size)
 | 0,a,k,hf,hb,ha=>by
   have:a=s.size:=by have:=hb.1;omega
   subst this
   rw [piecesF_nil,clAtF]
   exact⟨_,_,bord_end s,bord_end s,ha,hx,fun h=>by omega,fun _=>⟨rfl,rfl⟩⟩
 | f+1,a,k,hf,hb,ha=>by
   by_cases hlt:a<s.size
   ·have hz:=ext_size s a (by omega)
    have hn:=nextI_bd (s.extract a s.size) (by omega)
    have hps:(s.extract a (a+nextI (s.extract a s.size))).size=nextI (s.extract a s.size):=by simp [ByteArray.size_extract];omega
    rw [piecesF_cons s a hlt,clAtF,hps]
    by_cases h:x<a+nextI (s.extract a s.size)
    ·rw [if_pos h]
     exact⟨_,_,hb,hb.next hlt,ha,by omega,fun _=>⟨h,rfl⟩,fun e=>by omega⟩
    ·rw [if_neg h]
     exact clAtF_spec s x hx f _ _ (by omega) (hb.next hlt) (by omega)
   ·have:a=s.size:=by have:=hb.1;omega
    subst this
    rw [piecesF_nil,clAtF]
    exact⟨_,_,bord_end s,bord_end s,ha,hx,fun h=>by omega,fun _=>⟨rfl,rfl⟩⟩
theorem clAt_spec (s:ByteArray) (x:Int) :
 ∃k1 k2,Bord s (clAt s x).1 k1∧Bord s (clAt s x).2 k2∧(clAt s x).1≤min x.toNat s.size∧min x.toNat s.size≤(clAt s x).2 ∧
   (min x.toNat s.size<s.size→min x.toNat s.size<(clAt s x).2∧(clAt s x).2=(clAt s x).1+nextI (s.extract (clAt s x).1 s.size))∧(min x.toNat s.size=s.size→(clAt s x).1=s.size∧(clAt s x).2=s.size) :=
 clAtF_spec s (min x.toNat s.size) (Nat.min_le_right _ _) s.size 0 0 (by omega) (Bord.zero s) (Nat.zero_le _)
theorem upB_spec (s:ByteArray) (x:Nat) (hx:x≤s.size):∃k,Bord s (upB s x) k∧x≤upB s x∧∀c m,Bord s c m→x≤c→upB s x≤c:=by
 obtain⟨k1,k2,h1,h2,h3,h4,h5,h6⟩:=clAt_spec s x
 have hm:min (x:Int).toNat s.size=x:=by omega
 rw [hm] at h3 h4 h5 h6
 unfold upB
 by_cases e:(clAt s (x:Int)).1=x
 ·rw [if_pos e]
  exact⟨k1,e▸h1,Nat.le_refl _,fun c m _ h=>h⟩
 ·rw [if_neg e]
  refine⟨k2,h2,h4,fun c m hc hxc=>?_⟩
  by_cases h:x<s.size
  ·rw [(h5 h).2]
   exact bord_gap h1 hc (by omega)
  ·have:=h6 (by omega)
   omega
theorem upB_mono (s:ByteArray) (x y:Nat) (h:x≤y) (hy:y≤s.size):upB s x≤upB s y:=by
 obtain⟨_,_,_,h3⟩:=upB_spec s x (by omega)
 obtain⟨k,h4,h5,_⟩:=upB_spec s y hy
 exact h3 _ _ h4 (by omega)
def inPs (s:ByteArray) (fr tt:Nat):List (Nat × ByteArray):=(piecesI s).filter (fun p=>decide (fr≤p.1)&&decide (p.1<tt))
theorem inPs_spec {s:ByteArray} {fr tt k m:Nat} (hf:Bord s fr k) (ht:Bord s tt m) (h:fr≤tt) :
 piecesF s s.size fr=inPs s fr tt++piecesF s s.size tt∧(inPs s fr tt).map (·.2)=(piecesI (s.extract fr tt)).map (·.2)∧fr+szs ((inPs s fr tt).map (·.2))=tt ∧
  (∀p∈inPs s fr tt,fr≤p.1∧p.1+p.2.size≤tt∧0<p.2.size)∧∃pre,piecesI s=pre++inPs s fr tt++piecesF s s.size tt∧pre.length=k∧∀p∈pre,p.1<fr:=by
 have hkm:k≤m:=by
  by_cases e:fr=tt
  ·subst e;exact Nat.le_of_eq (bord_eq hf ht)
  ·exact Nat.le_of_lt (bord_lt hf ht (by omega))
 obtain⟨L,hL,_⟩:=bord_ord hf ht hkm
 obtain⟨a1,a2,a3⟩:=pieces_mid s L fr tt hf.1 ht.1 hL
 obtain⟨hfz,pre,p1,p2⟩:=hf
 obtain⟨b1,b2,_⟩:=pieces_mid s pre 0 fr (Nat.zero_le _) hfz p1
 have hfil:inPs s fr tt=L:=by
  unfold inPs
  rw [p1,hL,List.filter_append,List.filter_append]
  have e1:pre.filter (fun p=>decide (fr≤p.1)&&decide (p.1<tt))=[]:=by
   rw [List.filter_eq_nil_iff]
   intro p hp
   have:=(b2 p hp).2.1
   simp;omega
  have e2:L.filter (fun p=>decide (fr≤p.1)&&decide (p.1<tt))=L:=by
   rw [List.filter_eq_self]
   intro p hp
   have:=a2 p hp
   simp;omega
  have e3:(piecesF s s.size tt).filter (fun p=>decide (fr≤p.1)&&decide (p.1<tt))=[]:=by
   rw [List.filter_eq_nil_iff]
   intro p hp
   have:=(pieces_mid s (piecesF s s.size tt) tt s.size ht.1 (Nat.le_refl _) (by rw [piecesF_nil,List.append_nil])).2.1 p hp
   simp;omega
  rw [e1,e2,e3]
  simp
 have hmap:(piecesF s s.size fr).map (·.2)=L.map (·.2)++(piecesF s s.size tt).map (·.2):=by rw [hL,List.map_append]
 obtain⟨c1,c2,c3,c4⟩:=cut_pieces s fr k ⟨hfz,pre,p1,p2⟩ _ _ hmap
 rw [a1] at c3
 rw [hfil]
 exact⟨hL,c3.symm,a1,fun p hp=>⟨(a2 p hp).1,(a2 p hp).2.2⟩,pre,by rw [p1,hL,List.append_assoc],p2,fun p hp=>(b2 p hp).2.1⟩
end
end Go.Proofs.YtlmjbfncopbilaaGreatDoor
